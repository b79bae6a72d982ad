/- Plain functions: lists, small tests. -/
import Derived.Test.YtgcelmnmalfpcaaDoorPT
import Derived.Test.YtgcelmnmalfpcaaDoorI5
namespace Go.Proofs.YtgcelmnmalfpcaaDoor
open Go.RowKit

/-- A list of which each element, and each two neighbours, are as they should be. -/
def adjAt {α : Type} (f : α → Bool) (g : α → α → Bool) (l : List α) (k : Nat) : Bool :=
  match l[k]? with
  | none => true
  | some v => f v && (match k with | 0 => true | j + 1 => match l[j]? with | none => true | some u => g u v)
def adjOk {α : Type} (f : α → Bool) (g : α → α → Bool) (l : List α) : Bool := allN (adjAt f g l) l.length
theorem adjAt_zero {α : Type} {f : α → Bool} {g : α → α → Bool} {l : List α} {v : α} (h : l[0]? = some v) : adjAt f g l 0 = f v := by unfold adjAt; rw [h]; simp
theorem adjAt_succ {α : Type} {f : α → Bool} {g : α → α → Bool} {l : List α} {j : Nat} {u v : α} (h : l[j + 1]? = some v) (h' : l[j]? = some u) : adjAt f g l (j + 1) = (f v && g u v) := by unfold adjAt; rw [h]; simp only; rw [h']
theorem adjOk_no {α : Type} {f : α → Bool} {g : α → α → Bool} {l : List α} {k : Nat} (hk : k < l.length) (h : adjAt f g l k = false) : adjOk f g l = false := allN_no hk h
theorem adjOk_end {α : Type} {f : α → Bool} {g : α → α → Bool} {l : List α} (h : allTo (adjAt f g l) l.length) : adjOk f g l = true := allTo_end h
def isTime (t : Int) : Bool := inB t 0 1000000
def isHeight (h : Int) : Bool := inB h 1 1000000
def valsOk (l : List GVal) : Bool := adjOk (fun v => inB v.fId 1 99 && inB v.fPower 1 1000) (fun u v => decide (u.fId < v.fId)) l && inB l.length 1 7
end Go.Proofs.YtgcelmnmalfpcaaDoor

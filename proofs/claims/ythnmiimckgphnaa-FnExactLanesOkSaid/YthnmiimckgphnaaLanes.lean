/- Lanes: what they are; their copies, sizes and tests. -/
import Derived.Test.YthnmiimckgphnaaIntSS
namespace Go.Proofs.Ythnmiimckgphnaa
open Go.RowKit

def lanesV (v : Value) (turn : Int) : Value := .agg #[v, .int .i64 turn]
def rowOk (xs : List Int) : Bool := decide (xs.length ≤ 6) && xs.all (inB · 0 9999)
def lanesOk (xss : List (List Int)) (turn : Int) : Bool := xss.all rowOk && (inB xss.length 1 5 && inB turn 0 (xss.length - 1))

set_option maxHeartbeats 400000 in
theorem szLanes_any (v : Value) (xss : List (List Int)) (turn left : Int) (w : World) (h : SlSl encI 1 w v xss) (h0 : 0 ≤ left) (h1 : left ≤ 1048576) :
    Calls Try.prog 36 #[lanesV v turn, .int .i64 left] w fun e w' => e = .returned (.int .i64 (szSS left xss)) ∧ Ext w w' := by
  have hbd := szSS_bd (xss := xss) (l := left)
  generalize e : szSS left xss = r at *
  have E := Lib.hid e; clear e
  obtain ⟨o, c, rfl⟩ := h.len
  unfold lanesV
  rcases hbd with rfl | ⟨h2, _⟩
  all_goals
    go_enter Try.func36, Try.ntmps36
    go_wp2_with fail
    (refine (szIntSS_any _ xss _ _ (h.ext (by (repeat (first | (with_reducible exact Ext.refl _) | (with_reducible assumption) | (with_reducible refine Ext.alloc ?_ _) | (with_reducible refine Ext.drew ?_) | (with_reducible refine Ext.drewN ?_ _) | ((with_reducible apply Ext.setCell); (case hp => first | omega | (simp; done) | (simp; omega))) | (with_reducible refine Ext.trans ?_ (by assumption)))))) h0 h1).mono ?_); rw [E.out]; rintro e w1 ⟨rfl, rfl⟩
    go_wp2
    go_ret
    exact ⟨rfl, by (repeat (first | (with_reducible exact Ext.refl _) | (with_reducible assumption) | (with_reducible refine Ext.alloc ?_ _) | (with_reducible refine Ext.drew ?_) | (with_reducible refine Ext.drewN ?_ _) | ((with_reducible apply Ext.setCell); (case hp => first | omega | (simp; done) | (simp; omega))) | (with_reducible refine Ext.trans ?_ (by assumption))))⟩

set_option maxHeartbeats 400000 in
theorem toLanes_any (v : Value) (xss : List (List Int)) (turn : Int) (w : World) (h : SlSl encI 1 w v xss) (hn : xss.length ≤ 1048576) (hrl : ∀ xs ∈ xss, xs.length ≤ 1048576) :
    Calls Try.prog 38 #[lanesV v turn] w fun e w' => ∃ v', e = .returned (lanesV v' turn) ∧ OwnSS encI 1 81 3 w.heap.size w' v' xss ∧ Ext w w' := by
  have HRL := Lib.hid hrl
  clear hrl
  obtain ⟨o, c, rfl⟩ := h.len
  unfold lanesV
  go_enter Try.func38, Try.ntmps38
  go_wp2_with fail
  (refine (toIntSS_any _ xss _ (h.ext (by (repeat (first | (with_reducible exact Ext.refl _) | (with_reducible assumption) | (with_reducible refine Ext.alloc ?_ _) | (with_reducible refine Ext.drew ?_) | (with_reducible refine Ext.drewN ?_ _) | ((with_reducible apply Ext.setCell); (case hp => first | omega | (simp; done) | (simp; omega))) | (with_reducible refine Ext.trans ?_ (by assumption)))))) hn HRL.out).mono ?_); rintro e w1 ⟨v', rfl, hO, hb⟩
  obtain ⟨vo, vc, rfl⟩ := (hO.read encI_len).len
  replace hO := hO.rebase (base' := w.heap.size + 3) (by simp)
  (obtain ⟨B0, c0, f0, l0⟩ := Box.after (k := w.heap.size) hb (by (repeat (first | (with_reducible assumption) | ((with_reducible apply Box.new); (first | (with_reducible rfl) | (simp; done) | (simp; omega))) | (with_reducible apply Box.alloc) | (with_reducible apply Box.drew) | (with_reducible apply Box.drewN) | (with_reducible apply Box.set) | ((with_reducible apply Box.set_ne); (case hne => first | omega | (simp; done) | (simp; omega))))))); (obtain ⟨B1, c1, f1, l1⟩ := Box.after (k := w.heap.size + 1) hb (by (repeat (first | (with_reducible assumption) | ((with_reducible apply Box.new); (first | (with_reducible rfl) | (simp; done) | (simp; omega))) | (with_reducible apply Box.alloc) | (with_reducible apply Box.drew) | (with_reducible apply Box.drewN) | (with_reducible apply Box.set) | ((with_reducible apply Box.set_ne); (case hne => first | omega | (simp; done) | (simp; omega))))))); (obtain ⟨B2, c2, f2, l2⟩ := Box.after (k := w.heap.size + 2) hb (by (repeat (first | (with_reducible assumption) | ((with_reducible apply Box.new); (first | (with_reducible rfl) | (simp; done) | (simp; omega))) | (with_reducible apply Box.alloc) | (with_reducible apply Box.drew) | (with_reducible apply Box.drewN) | (with_reducible apply Box.set) | ((with_reducible apply Box.set_ne); (case hne => first | omega | (simp; done) | (simp; omega)))))))
  go_wp2
  exact bodyPost_ret (v := .agg #[.slice vo xss.length vc, .int .i64 turn]) (by simp [results, Try.results38, go_sem, c1]) rfl ⟨_, rfl, OwnSS.rebase (base := w.heap.size + 3) (by (repeat (first | (with_reducible assumption) | ((with_reducible apply OwnSS.set); (case hk => first | omega | (simp; done) | (simp; omega)); (case hs => rfl)) | ((with_reducible apply own_set); (case hk => first | omega | (simp; done) | (simp; omega)); (case hs => rfl))))) (by omega), by (repeat (first | (with_reducible exact Ext.refl _) | (with_reducible assumption) | (with_reducible refine Ext.alloc ?_ _) | (with_reducible refine Ext.drew ?_) | (with_reducible refine Ext.drewN ?_ _) | ((with_reducible apply Ext.setCell); (case hp => first | omega | (simp; done) | (simp; omega))) | (with_reducible refine Ext.trans ?_ (by assumption))))⟩

set_option maxHeartbeats 400000 in
theorem eqLanes_any (v1 v2 : Value) (xss : List (List Int)) (turn : Int) (w : World) (h1 : SlSl encI 1 w v1 xss) (h2 : SlSl encI 1 w v2 xss) :
    Calls Try.prog 40 #[lanesV v1 turn, lanesV v2 turn] w fun e w' => e = .returned (.bool true) ∧ Ext w w' := by
  obtain ⟨o1, k1, rfl⟩ := h1.len
  obtain ⟨o2, k2, rfl⟩ := h2.len
  unfold lanesV
  go_enter Try.func40, Try.ntmps40
  go_wp2_with fail
  (refine (eqIntSS_any _ _ xss _ (h1.ext (by (repeat (first | (with_reducible exact Ext.refl _) | (with_reducible assumption) | (with_reducible refine Ext.alloc ?_ _) | (with_reducible refine Ext.drew ?_) | (with_reducible refine Ext.drewN ?_ _) | ((with_reducible apply Ext.setCell); (case hp => first | omega | (simp; done) | (simp; omega))) | (with_reducible refine Ext.trans ?_ (by assumption)))))) (h2.ext (by (repeat (first | (with_reducible exact Ext.refl _) | (with_reducible assumption) | (with_reducible refine Ext.alloc ?_ _) | (with_reducible refine Ext.drew ?_) | (with_reducible refine Ext.drewN ?_ _) | ((with_reducible apply Ext.setCell); (case hp => first | omega | (simp; done) | (simp; omega))) | (with_reducible refine Ext.trans ?_ (by assumption))))))).mono ?_); rintro e w1 ⟨rfl, hb⟩
  (obtain ⟨B0, c0, f0, l0⟩ := Box.after (k := w.heap.size) hb (by (repeat (first | (with_reducible assumption) | ((with_reducible apply Box.new); (first | (with_reducible rfl) | (simp; done) | (simp; omega))) | (with_reducible apply Box.alloc) | (with_reducible apply Box.drew) | (with_reducible apply Box.drewN) | (with_reducible apply Box.set) | ((with_reducible apply Box.set_ne); (case hne => first | omega | (simp; done) | (simp; omega))))))); (obtain ⟨B1, c1, f1, l1⟩ := Box.after (k := w.heap.size + 1) hb (by (repeat (first | (with_reducible assumption) | ((with_reducible apply Box.new); (first | (with_reducible rfl) | (simp; done) | (simp; omega))) | (with_reducible apply Box.alloc) | (with_reducible apply Box.drew) | (with_reducible apply Box.drewN) | (with_reducible apply Box.set) | ((with_reducible apply Box.set_ne); (case hne => first | omega | (simp; done) | (simp; omega)))))))
  go_wp2
  go_ret
  exact ⟨rfl, by (repeat (first | (with_reducible exact Ext.refl _) | (with_reducible assumption) | (with_reducible refine Ext.alloc ?_ _) | (with_reducible refine Ext.drew ?_) | (with_reducible refine Ext.drewN ?_ _) | ((with_reducible apply Ext.setCell); (case hp => first | omega | (simp; done) | (simp; omega))) | (with_reducible refine Ext.trans ?_ (by assumption))))⟩
end Go.Proofs.Ythnmiimckgphnaa

/- Slices of slices. -/
import Derived.Test.YtbenfbmoagfboaaOwn
namespace Go.Proofs.Ytbenfbmoagfboaa
open Go.RowKit

/-- A slice as a cell. -/
def encV (v : Value) : List Value := [v]
theorem encV_len (x : Value) : (encV x).length = 1 := rfl
theorem flat_encV (l : List Value) : l.flatMap encV = l := by
  induction l with
  | nil => rfl
  | cons b l ih => rw [List.flatMap_cons, ih]; rfl
/-- Two values that lead into different blocks (or nowhere). -/
def Apart (a b : Value) : Prop := ∀ k, a.ownBlock = some k → b.ownBlock = some k → False
theorem Apart.or {a b : Value} (h : Apart a b) : a.ownBlock = none ∨ a.ownBlock ≠ b.ownBlock := by
  cases e : a.ownBlock with
  | none => exact .inl rfl
  | some k => exact .inr fun e' => h k e e'.symm
theorem Apart.symm {a b : Value} (h : Apart a b) : Apart b a := fun k h1 h2 => h k h2 h1

section
variable {α : Type} {enc : α → List Value} {sz : Nat} {e : TypeId} {w : World} {base : Nat} {vs : List Value} {xss : List (List α)}

def RowsOwn (enc : α → List Value) (sz : Nat) (e : TypeId) (base : Nat) (w : World) (vs : List Value) (xss : List (List α)) : Prop :=
  All2 (fun rv xs => w.ownsRow base e sz rv xs.length (xs.flatMap enc)) vs xss
theorem own_base {base' n : Nat} {v : Value} {ys : List Value} (h : w.ownsRow base e sz v n ys) (hb : base' ≤ base) : w.ownsRow base' e sz v n ys := by
  refine ⟨h.1, ?_⟩
  rcases h.2 with h2 | ⟨g, cap, cur, h1, h2, h3⟩
  · exact .inl h2
  · exact .inr ⟨g, cap, cur, h1, by omega, h3⟩
theorem RowsOwn.rebase {base' : Nat} (h : RowsOwn enc sz e base w vs xss) (hb : base' ≤ base) : RowsOwn enc sz e base' w vs xss := All2.imp (fun _ _ q => own_base q hb) h
theorem RowsOwn.ext {w' : World} (h : RowsOwn enc sz e base w vs xss) (hb : Ext w w') : RowsOwn enc sz e base w' vs xss := All2.imp (fun _ _ q => own_ext q hb) h
theorem RowsOwn.lt (h : RowsOwn enc sz e base w vs xss) {rv : Value} (hr : rv ∈ vs) : ∀ k, rv.ownBlock = some k → base ≤ k ∧ k < w.heap.size := by
  obtain ⟨i, hi, rfl⟩ := List.getElem_of_mem hr
  obtain ⟨xs, _, q⟩ := All2.get h (List.getElem?_eq_getElem hi)
  exact q.lt
/-- A row elsewhere is written. -/
theorem RowsOwn.keep {w' : World} {row : Option Nat} (h : RowsOwn enc sz e base w vs xss) (hg : w.grownBy w' row) (hne : ∀ rv ∈ vs, rv.ownBlock = none ∨ rv.ownBlock ≠ row) : RowsOwn enc sz e base w' vs xss :=
  All2.impAt h fun _ a _ h1 _ q => own_keep q hg (hne a (List.mem_of_getElem? h1))
theorem RowsOwn.snoc {rv : Value} {xs : List α} (h : RowsOwn enc sz e base w vs xss) (hr : w.ownsRow base e sz rv xs.length (xs.flatMap enc)) : RowsOwn enc sz e base w (vs ++ [rv]) (xss ++ [xs]) := All2.append h ⟨hr, trivial⟩
theorem pair_snoc {rv : Value} (h : vs.Pairwise Apart) (hr : ∀ a ∈ vs, Apart a rv) : (vs ++ [rv]).Pairwise Apart := by
  rw [List.pairwise_append]
  exact ⟨h, List.pairwise_singleton _ _, fun a ha b hb => by rw [List.mem_singleton] at hb; subst hb; exact hr a ha⟩
/-- One of the rows is turned. -/
theorem RowsOwn.turn {w' : World} {i : Nat} {rv : Value} {zs : List α} (h : RowsOwn enc sz e base w vs xss) (hp : vs.Pairwise Apart) (hi : vs[i]? = some rv) (hg : w.grownBy w' rv.ownBlock) (hz : w'.ownsRow base e sz rv zs.length (zs.flatMap enc)) : RowsOwn enc sz e base w' vs (xss.set i zs) := by
  refine All2.set i zs h (fun j a c hj h1 _ q => own_keep q hg ?_) (fun a ha => by rw [hi] at ha; obtain rfl := Option.some.inj ha; exact hz)
  have hij : i < vs.length := (List.getElem?_eq_some_iff.1 hi).1
  have hjj : j < vs.length := (List.getElem?_eq_some_iff.1 h1).1
  have e1 : vs[j] = a := by rw [List.getElem?_eq_getElem hjj] at h1; exact Option.some.inj h1
  have e2 : vs[i] = rv := by rw [List.getElem?_eq_getElem hij] at hi; exact Option.some.inj hi
  have hall := List.pairwise_iff_getElem.1 hp
  rcases Nat.lt_or_gt_of_ne hj with hlt | hlt
  · have := hall j i hjj hij hlt
    rw [e1, e2] at this
    exact this.or
  · have := hall i j hij hjj hlt
    rw [e1, e2] at this
    exact this.symm.or
theorem Part.more {sz' : Nat} {g n c k : Nat} {xs ys : List α} (h : Part enc sz' e w g n c k xs) (hk : k ≤ xs.length) : Part enc sz' e w g n c k (xs ++ ys) := by
  obtain ⟨cur, h1, h2, h3, h4⟩ := h
  exact ⟨cur, h1, h2, h3, fun i x hi hx j hj => h4 i x hi (by rw [List.getElem?_append_left (by omega)] at hx; exact hx) j hj⟩
/-- A slice of slices of one's own. -/
def OwnSS (enc : α → List Value) (sz : Nat) (eo ei : TypeId) (base : Nat) (w : World) (v : Value) (xss : List (List α)) : Prop :=
  ∃ vs : List Value, w.ownsRow base eo 1 v vs.length (vs.flatMap encV) ∧ RowsOwn enc sz ei base w vs xss ∧ vs.Pairwise Apart ∧ ∀ rv ∈ vs, Apart v rv
/-- A slice of slices that is read. -/
def SlSl (enc : α → List Value) (sz : Nat) (w : World) (v : Value) (xss : List (List α)) : Prop :=
  ∃ vs : List Value, Sl encV 1 w v vs ∧ All2 (Sl enc sz w) vs xss
theorem SlSl.ext {w' : World} {v : Value} (h : SlSl enc sz w v xss) (hb : Ext w w') : SlSl enc sz w' v xss := by
  obtain ⟨vs, h1, h2⟩ := h
  exact ⟨vs, h1.ext hb, All2.imp (fun _ _ q => q.ext hb) h2⟩
theorem OwnSS.read {eo ei : TypeId} {v : Value} (hl : ∀ x, (enc x).length = sz) (h : OwnSS enc sz eo ei base w v xss) : SlSl enc sz w v xss := by
  obtain ⟨vs, h1, h2, _⟩ := h
  exact ⟨vs, Sl.of_owns encV_len h1, All2.imp (fun _ _ q => Sl.of_owns hl q) h2⟩
theorem OwnSS.ext {eo ei : TypeId} {v : Value} {w' : World} (h : OwnSS enc sz eo ei base w v xss) (hb : Ext w w') : OwnSS enc sz eo ei base w' v xss := by
  obtain ⟨vs, h1, h2, h3⟩ := h
  exact ⟨vs, own_ext h1 hb, h2.ext hb, h3⟩
theorem own_under {w' : World} {k n : Nat} {v : Value} {ys : List Value} (h : w.ownsRow base e sz v n ys) (hg : w.grownBy w' (some k)) (hk : k < base) : w'.ownsRow base e sz v n ys :=
  own_keep h hg (by
    cases e : v.ownBlock with
    | none => exact .inl rfl
    | some j =>
      have := h.lt j e
      right
      intro e2
      have := Option.some.inj e2
      omega)
theorem own_set {n : Nat} {v u : Value} {ys : List Value} {p : Addr} (h : w.ownsRow base e sz v n ys) (hk : p.block < base) (hs : p.spot = none) : (w.setCell p u).ownsRow base e sz v n ys := by
  obtain ⟨b, o, s⟩ := p
  simp only at hs
  subst hs
  exact own_under h (grownBy_set (grownBy_refl _ _) _ _) hk
theorem OwnSS.rebase {eo ei : TypeId} {base' : Nat} {v : Value} (h : OwnSS enc sz eo ei base w v xss) (hb : base' ≤ base) : OwnSS enc sz eo ei base' w v xss := by
  obtain ⟨vs, h1, h2, h3⟩ := h
  exact ⟨vs, own_base h1 hb, h2.rebase hb, h3⟩
theorem OwnSS.under {eo ei : TypeId} {w' : World} {k : Nat} {v : Value} (h : OwnSS enc sz eo ei base w v xss) (hg : w.grownBy w' (some k)) (hk : k < base) : OwnSS enc sz eo ei base w' v xss := by
  obtain ⟨vs, h1, h2, h3⟩ := h
  exact ⟨vs, own_under h1 hg hk, All2.imp (fun _ _ q => own_under q hg hk) h2, h3⟩
theorem OwnSS.set {eo ei : TypeId} {v u : Value} {p : Addr} (h : OwnSS enc sz eo ei base w v xss) (hk : p.block < base) (hs : p.spot = none) : OwnSS enc sz eo ei base (w.setCell p u) v xss := by
  obtain ⟨vs, h1, h2, h3⟩ := h
  exact ⟨vs, own_set h1 hk hs, All2.imp (fun _ _ q => own_set q hk hs) h2, h3⟩
theorem OwnSS.alloc {eo ei : TypeId} {v : Value} {o : Obj} (h : OwnSS enc sz eo ei base w v xss) : OwnSS enc sz eo ei base (w.alloc o) v xss := h.ext ((Ext.refl _).alloc _)
theorem OwnSS.drew {eo ei : TypeId} {v : Value} (h : OwnSS enc sz eo ei base w v xss) : OwnSS enc sz eo ei base w.drew v xss := h.ext (Ext.refl _).drew
theorem RowsOwn.set {p : Addr} {u : Value} (h : RowsOwn enc sz e base w vs xss) (hk : p.block < base) (hs : p.spot = none) : RowsOwn enc sz e base (w.setCell p u) vs xss := All2.imp (fun _ _ q => own_set q hk hs) h
theorem SlSl.len {v : Value} (h : SlSl enc sz w v xss) : ∃ o c, v = .slice o xss.length c := by
  obtain ⟨vs, h1, h2⟩ := h
  have e := h2.length
  rcases h1 with ⟨o, c, rfl, rfl⟩ | ⟨b, off, c, rfl, _⟩
  · exact ⟨o, c, by rw [← e]; rfl⟩
  · exact ⟨_, c, by rw [← e]⟩
theorem SlSl.bd {v : Value} (h : SlSl enc sz w v xss) : xss.length ≤ maxLen := by
  obtain ⟨vs, h1, h2⟩ := h
  rw [← h2.length]
  exact h1.len
end
end Go.Proofs.Ytbenfbmoagfboaa

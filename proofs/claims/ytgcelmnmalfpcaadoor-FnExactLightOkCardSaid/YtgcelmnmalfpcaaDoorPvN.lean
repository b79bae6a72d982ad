/- The pure machine: a slice that is nil may be taken for an empty one. -/
import Derived.Test.YtgcelmnmalfpcaaDoorPvY
namespace Go.Proofs.YtgcelmnmalfpcaaDoor
open Go.RowKit

/-- The second value is the first one, a slice that is nil taken for an empty one. -/
inductive Wk : PV → PV → Prop
  | rfl (p : PV) : Wk p p
  | nil (z : Nat) : Wk (.val (.slice none 0 0)) (.sl z [])
  | agg (fs gs : List PV) : fs.length = gs.length → (∀ (i : Nat) (p q : PV), fs[i]? = some p → gs[i]? = some q → Wk p q) → Wk (.agg fs) (.agg gs)
  | tup (fs gs : List PV) : fs.length = gs.length → (∀ (i : Nat) (p q : PV), fs[i]? = some p → gs[i]? = some q → Wk p q) → Wk (.tup fs) (.tup gs)
theorem Wk.vr {M : Mem} {h : Home} {p q : PV} (k : Wk p q) : ∀ {v : Value}, VR M h p v → VR M h q v := by
  induction k with
  | rfl p => exact fun r => r
  | nil z => intro v r; cases r; exact .sl0 z none 0
  | agg fs gs hl _ ih =>
    intro v r
    cases r with
    | agg _ vs h1 h2 =>
      refine .agg _ _ (by omega) fun i q v a b => ?_
      have hi : i < fs.length := by have := (List.getElem?_eq_some_iff.1 a).1; omega
      exact ih i fs[i] q (List.getElem?_eq_getElem hi) a (h2 i _ v (List.getElem?_eq_getElem hi) b)
  | tup fs gs hl _ ih =>
    intro v r
    cases r with
    | tup _ vs h1 h2 =>
      refine .tup _ _ (by omega) fun i q v a b => ?_
      have hi : i < fs.length := by have := (List.getElem?_eq_some_iff.1 a).1; omega
      exact ih i fs[i] q (List.getElem?_eq_getElem hi) a (h2 i _ v (List.getElem?_eq_getElem hi) b)
def WkL : List PV → List PV → Prop
  | [], [] => True
  | p :: ps, q :: qs => Wk p q ∧ WkL ps qs
  | _, _ => False
theorem WkL.len : ∀ {ps qs : List PV}, WkL ps qs → ps.length = qs.length
  | [], [], _ => rfl
  | _ :: _, _ :: _, h => by simp [WkL.len h.2]
  | [], _ :: _, h => h.elim
  | _ :: _, [], h => h.elim
theorem WkL.get : ∀ {ps qs : List PV}, WkL ps qs → ∀ (i : Nat) (p q : PV), ps[i]? = some p → qs[i]? = some q → Wk p q
  | _ :: _, _ :: _, h, 0, p, q, a, b => by simp at a b; subst a; subst b; exact h.1
  | _ :: _, _ :: _, h, i + 1, p, q, a, b => WkL.get h.2 i p q (by simpa using a) (by simpa using b)
  | [], [], _, i, p, q, a, _ => by simp at a
  | [], _ :: _, h, _, _, _, _, _ => h.elim
  | _ :: _, [], h, _, _, _, _, _ => h.elim
theorem wk_agg {fs gs : List PV} (h : WkL fs gs) : Wk (.agg fs) (.agg gs) := .agg _ _ h.len h.get
theorem wk_tup {fs gs : List PV} (h : WkL fs gs) : Wk (.tup fs) (.tup gs) := .tup _ _ h.len h.get
section
variable {P : Program} {f : FuncId} {args args' : List PV} {H0 H : Hp} {v v' : PV}
theorem PCalls.wkR (c : PCalls P f args H0 (RH v H)) (k : Wk v v') : PCalls P f args H0 (RH v' H) := by
  intro M hh w vs I rv
  refine (c M hh w vs I rv).mono fun e w' ⟨u, M', h', pv, H1, e1, ⟨e2, e3⟩, e4, e5⟩ => ⟨u, M', h', v', H1, e1, ⟨rfl, e3⟩, ?_, e5⟩
  subst e2
  exact k.vr e4
theorem PCalls.wkA {R : PV → Hp → Prop} (c : PCalls P f args' H0 R) (k : WkL args args') : PCalls P f args H0 R := by
  intro M hh w vs I rv
  refine c M hh w vs I ⟨k.len ▸ rv.1, fun i q v a b => ?_⟩
  have hi : i < args.length := by have := (List.getElem?_eq_some_iff.1 a).1; rw [k.len]; exact this
  exact (k.get i args[i] q (List.getElem?_eq_getElem hi) a).vr (rv.2 i _ v (List.getElem?_eq_getElem hi) b)
end
/-- A value in a frame, taken so. -/
theorem PWp.wk {P : Program} {N : Nat} {c : Code} {Q : Exit → St → Prop} {tm : List PV} {H : Hp} (i : Nat) {p : PV} (q : PV) (hp : tm[i]? = some p) (k : Wk p q) (h : PWp P N c Q ⟨tm.set i q, H⟩) : PWp P N c Q ⟨tm, H⟩ := fun E a w hN r => by
  obtain ⟨M, hh, s, t, d⟩ := r
  refine h E a w hN ⟨M, hh, s, ⟨by simpa using t.size, fun j x u h1 h2 => ?_⟩, d⟩
  by_cases e : i = j
  · subst e
    have hi := (List.getElem?_eq_some_iff.1 hp).1
    rw [List.getElem?_set_self hi] at h1
    cases h1
    exact k.vr (t.vr i p u hp h2)
  · rw [List.getElem?_set_ne e] at h1
    exact t.vr j x u h1 h2
theorem Inv.wkB {M : Mem} {h : Home} {H : Hp} {w : World} (I : Inv M h H w) {b : Nat} {cs cs' : List PV} (hH : H[b]? = some (some (.box cs))) (k : WkL cs cs') :
    Inv M h (H.set b (some (.box cs'))) w ∧ ∀ x, Homes h (H.set b (some (.box cs'))) x → Homes h H x := by
  have old : ∀ {c : Nat} {B : Blk}, (H.set b (some (.box cs')))[c]? = some (some B) → ∃ B0, H[c]? = some (some B0) ∧ (B0 = B ∨ c = b ∧ B = .box cs') := fun {c B} q => by
    by_cases e : b = c
    · subst e
      rw [List.getElem?_set_self (List.getElem?_eq_some_iff.1 hH).1] at q
      exact ⟨_, hH, .inr ⟨rfl, by injection q with q; injection q with q; exact q.symm⟩⟩
    · rw [List.getElem?_set_ne e] at q
      exact ⟨B, q, .inl rfl⟩
  have hom : ∀ x, Homes h (H.set b (some (.box cs'))) x → Homes h H x := fun x ⟨c, B, v, q1, q2⟩ => by
    obtain ⟨B0, h1, _⟩ := old q1
    exact ⟨c, B0, v, h1, q2⟩
  refine ⟨⟨I.mem, I.one, fun c B q => ?_, fun x hx o => I.sep x (hom x hx) o, fun c c' B B' v v' x g1 g2 => ?_, fun c v q => by simpa using I.len c v q, I.glob⟩, hom⟩
  · obtain ⟨B0, h1, h2⟩ := old q
    obtain ⟨v, h3, h4⟩ := I.blk c B0 h1
    rcases h2 with rfl | ⟨rfl, rfl⟩
    · exact ⟨v, h3, h4⟩
    · rw [hH] at h1
      cases h1
      obtain ⟨g, us, t, p1, p2, p3, p4, p5⟩ := h4
      refine ⟨v, h3, g, us, t, p1, p2, by rw [p3, k.len], p4, fun j pv u a d => ?_⟩
      have hj : j < cs.length := by have := (List.getElem?_eq_some_iff.1 a).1; rw [k.len]; exact this
      exact (k.get j cs[j] pv (List.getElem?_eq_getElem hj) a).vr (p5 j _ u (List.getElem?_eq_getElem hj) d)
  · obtain ⟨B0, h1, _⟩ := old g1
    obtain ⟨B1, h2, _⟩ := old g2
    exact I.inj c c' B0 B1 v v' x h1 h2
/-- A box in memory of one's own, taken so. -/
theorem PWp.wkB {P : Program} {N : Nat} {c : Code} {Q : Exit → St → Prop} {tm : List PV} {H : Hp} (b : Nat) {cs : List PV} (cs' : List PV) (hH : H[b]? = some (some (.box cs))) (k : WkL cs cs') (h : PWp P N c Q ⟨tm, H.set b (some (.box cs'))⟩) : PWp P N c Q ⟨tm, H⟩ := fun E a w hN r => by
  obtain ⟨M, hh, s, t, d⟩ := r
  obtain ⟨I, hom⟩ := s.inv.wkB hH k
  exact h E a w hN ⟨M, hh, s.trans ⟨.refl _, .refl _, I, .refl, fun x hx => .inl (hom x hx), fun _ _ _ q => .inl q⟩, t, d⟩
/-! ### Results that stand in memory -/
theorem mapM_one {f : ResultVar → Option PV} {r : ResultVar} {rs : List ResultVar} {p : PV} {ps : List PV} (h1 : f r = some p) (h2 : rs.mapM f = some ps) : (r :: rs).mapM f = some (p :: ps) := by
  rw [List.mapM_cons, h1, h2]
  rfl
section
variable {T : Tys} {σ : St} {X : PV} {rs : List ResultVar}
theorem presults_nil : presults T [] σ = some [] := rfl
theorem presults_tmp {t : Tmp} {ps : List PV} (h : presults T rs σ = some ps) : presults T (.tmp t :: rs) σ = some (σ.tm.getD t (.val undef) :: ps) := mapM_one rfl h
theorem presults_agg {a b o n : Nat} {t : TypeId} {i : TI} {cs : List PV} {ps : List PV} (hv : σ.tm.getD a (.val undef) = .ptr b o) (hb : σ.H[b]? = some (some (.box cs))) (ht : T t = some i) (hz : i.size = n) (hd : (match i.d with | .struct _ => true | .array _ _ _ => true | _ => false) = true) (hl : o + n ≤ cs.length) (h : presults T rs σ = some ps) : presults T (.cell a t :: rs) σ = some (.agg ((cs.drop o).take n) :: ps) := by
  refine mapM_one ?_ h
  simp only [hv, pcells, hb, ht]
  subst hz
  split
  · rw [if_pos hl]
  · rw [if_pos hl]
  · rename_i h1 h2; revert hd; cases hi : i.d <;> simp_all
theorem presults_one {a b o : Nat} {t : TypeId} {i : TI} {cs : List PV} {p : PV} {ps : List PV} (hv : σ.tm.getD a (.val undef) = .ptr b o) (hb : σ.H[b]? = some (some (.box cs))) (ht : T t = some i) (hd : (match i.d with | .struct _ => true | .array _ _ _ => true | _ => false) = false) (hl : cs[o]? = some p) (h : presults T rs σ = some ps) : presults T (.cell a t :: rs) σ = some (p :: ps) := by
  refine mapM_one ?_ h
  simp only [hv, pcells, hb, ht]
  split
  · rename_i h1; rw [h1] at hd; simp at hd
  · rename_i h1; rw [h1] at hd; simp at hd
  · exact hl
theorem pendVG {e : Exit} (he : e = .ret ∨ e = .normal) (h : ∃ pvs, presults T rs σ = some pvs ∧ ptuple pvs = X) (hs : scalP X = true) : PPostR T 0 rs (RV X) e σ := by
  obtain ⟨pvs, h1, h2⟩ := h
  exact pendV he h1 hs h2
theorem pendHG {N : Nat} {H : Hp} {e : Exit} (φ : List Nat) (he : e = .ret ∨ e = .normal) (h : ∃ pvs, presults T rs σ = some pvs ∧ ptuple pvs = ren φ σ.H.length X) (h3 : blkR φ σ.H.length σ.H φ H) (h4 : nodupR φ = true) (h5 : preR φ N) : PPostR T N rs (RH X H) e σ := by
  obtain ⟨pvs, h1, h2⟩ := h
  exact pendH φ he h1 h2 h3 h4 h5
theorem pendXG {N : Nat} {e : Exit} {α : Type} {v : α → PV} {H : α → Hp} {p : α → Prop} (x : α) (φ : List Nat) (he : e = .ret ∨ e = .normal) (h : ∃ pvs, presults T rs σ = some pvs ∧ ptuple pvs = ren φ σ.H.length (v x)) (h3 : blkR φ σ.H.length σ.H φ (H x)) (h4 : nodupR φ = true) (h5 : preR φ N) (hp : p x) : PPostR T N rs (RX v H p) e σ := by
  obtain ⟨pvs, h1, h2⟩ := h
  exact pendX x φ he h1 h2 h3 h4 h5 hp
end
theorem ptuple_0 : ptuple [] = .tup [] := rfl
theorem ptuple_1 {p : PV} : ptuple [p] = p := rfl
theorem ptuple_2 {p q : PV} {l : List PV} : ptuple (p :: q :: l) = .tup (p :: q :: l) := rfl
attribute [push_cast] ptuple_0 ptuple_1 ptuple_2
end Go.Proofs.YtgcelmnmalfpcaaDoor

/- What the proof leans on, part 3. -/
import Derived.Test.YtiboajlnjldalaaGreatDoorQC2
namespace Go.Proofs.YtiboajlnjldalaaGreatDoor
set_option linter.unusedSimpArgs false
set_option linter.unusedVariables false
open Go.RowKit
def RX {α : Type} (v : α → PV) (H : α → Hp) (p : α → Prop) : PV → Hp → Prop := fun r H' => ∃ a, p a ∧ r = v a ∧ H' = H a
section
variable {T : Tys} {σ : St} {e : Exit} {N : Nat} {a b c : Tmp} {α : Type} {v : α → PV} {H : α → Hp} {p : α → Prop}
theorem pendX {rs : List ResultVar} (x : α) (φ : List Nat) (he : e = .ret ∨ e = .normal) {pvs : List PV} (h1 : presults T rs σ = some pvs) (h2 : ptuple pvs = ren φ σ.H.length (v x)) (h3 : blkR φ σ.H.length σ.H φ (H x)) (h4 : nodupR φ = true) (h5 : preR φ N) (hp : p x) : PPostR T N rs (RX v H p) e σ :=
  pend he h1 φ h2 ⟨h4, h5, h3⟩ ⟨x, hp, rfl, rfl⟩
theorem pendX0 (x : α) (φ : List Nat) (he : e = .ret ∨ e = .normal) (h2 : PV.tup [] = ren φ σ.H.length (v x)) (h3 : blkR φ σ.H.length σ.H φ (H x)) (h4 : nodupR φ = true) (h5 : preR φ N) (hp : p x) : PPostR T N [] (RX v H p) e σ := pendX x φ he rfl h2 h3 h4 h5 hp
theorem pendX1 (x : α) (φ : List Nat) (he : e = .ret ∨ e = .normal) (h2 : σ.tm.getD a (.val undef) = ren φ σ.H.length (v x)) (h3 : blkR φ σ.H.length σ.H φ (H x)) (h4 : nodupR φ = true) (h5 : preR φ N) (hp : p x) : PPostR T N [.tmp a] (RX v H p) e σ := pendX x φ he rfl h2 h3 h4 h5 hp
theorem pendX2 (x : α) (φ : List Nat) (he : e = .ret ∨ e = .normal) (h2 : PV.tup [σ.tm.getD a (.val undef), σ.tm.getD b (.val undef)] = ren φ σ.H.length (v x)) (h3 : blkR φ σ.H.length σ.H φ (H x)) (h4 : nodupR φ = true) (h5 : preR φ N) (hp : p x) : PPostR T N [.tmp a, .tmp b] (RX v H p) e σ := pendX x φ he rfl h2 h3 h4 h5 hp
theorem pendX3 (x : α) (φ : List Nat) (he : e = .ret ∨ e = .normal) (h2 : PV.tup [σ.tm.getD a (.val undef), σ.tm.getD b (.val undef), σ.tm.getD c (.val undef)] = ren φ σ.H.length (v x)) (h3 : blkR φ σ.H.length σ.H φ (H x)) (h4 : nodupR φ = true) (h5 : preR φ N) (hp : p x) : PPostR T N [.tmp a, .tmp b, .tmp c] (RX v H p) e σ := pendX x φ he rfl h2 h3 h4 h5 hp
end
section
variable {P : Program} {g : FuncId} {args args0 : List PV} {H0 : Hp} {σ : St} {K : PV → St → Prop} {α : Type} {v : α → PV} {H : α → Hp} {p : α → Prop}
theorem pcall_XG (hc : Callable P g) (φ : List Nat) (ha : args = renL φ σ.H.length args0) (hH : blkE φ σ.H.length σ.H φ H0) (hn : nodupR φ = true) (h : PCalls P g args0 H0 (RX v H p)) (hk : ∀ x, p x → K (ren φ σ.H.length (v x)) ⟨σ.tm, wback φ σ.H (H x)⟩) : pcall P true g args σ K :=
  have hR := (blkE_R hH).1
  ⟨hc, .inr (.inr (.inr ⟨rfl, φ, H0, args0, _, h, blkR_len hR, nodupR_ok hn, ha, fun i b hb => by
    have hi : i < H0.length := by rw [← blkR_len hR]; exact (List.getElem?_eq_some_iff.1 hb).1
    have hsome := List.all_eq_true.1 (blkE_R hH).2 H0[i] (List.getElem_mem hi)
    obtain ⟨B, hB⟩ := Option.isSome_iff_exists.1 hsome
    have e : H0[i]? = some (some B) := by rw [List.getElem?_eq_getElem hi, hB]
    obtain ⟨b', B', g1, g2, g3⟩ := blkR_get hR i B e
    rw [hb] at g1
    cases g1
    exact ⟨B, B', e, g2, g3⟩, fun r H'' ⟨x, hp, e1, e2⟩ => by subst e1; subst e2; exact hk x hp⟩))⟩
theorem pcall_X1 {cm : Bool} (hc : Callable P g) (ha : args.all cloA = true) (h : PCalls P g args [] (RX v H p)) (hk : ∀ x, p x → K (ren [] σ.H.length (v x)) ⟨σ.tm, σ.H ++ (H x).map (renB [] σ.H.length)⟩) : pcall P cm g args σ K :=
  ⟨hc, .inl ⟨_, h, ha, fun r H'' ⟨x, hp, e1, e2⟩ => by subst e1; subst e2; exact hk x hp⟩⟩
theorem pcall_H1 {cm : Bool} {v : PV} {H' : Hp} (hc : Callable P g) (ha : args.all cloA = true) (h : PCalls P g args [] (RH v H')) (hk : K (ren [] σ.H.length v) ⟨σ.tm, σ.H ++ H'.map (renB [] σ.H.length)⟩) : pcall P cm g args σ K :=
  ⟨hc, .inl ⟨_, h, ha, fun r H'' ⟨e1, e2⟩ => by subst e1; subst e2; exact hk⟩⟩
end
def thawT (b sz : Nat) (es : List (List PV)) : PV → PV
  | .tup fs => .tup (fs.map (thaw b sz es))
  | p => thaw b sz es p
theorem freezeV_ok {M : Mem} {h : Home} {H : Hp} {w : World} (I : Inv M h H w) {b : Nat} {e : TypeId} {sz : Nat} {es : List (List PV)} (hH : H[b]? = some (some (.row e sz es))) (hcl : ∀ row ∈ es, row.all cloC = true) {pv : PV} {v : Value} (r : VR M h pv v) :
    ∃ M', Step M h H w M' h ((H.set b none).map (thawB b sz es)) w ∧ VR M' h (thawT b sz es pv) v := by
  obtain ⟨u, hb, _⟩ := I.blk b _ hH
  have one : ∀ {p : PV} {x : Value}, VR M h p x → ∃ M', Step M h H w M' h ((H.set b none).map (thawB b sz es)) w ∧ VR M' h (thaw b sz es p) x := fun {p x} r => by
    obtain ⟨M', s, t, _⟩ := freeze_ok (σ := ⟨[p], H⟩) I hH hb hcl (ts := #[x]) ⟨rfl, fun i q y a d => by
      cases i with
      | zero => simp at a d; subst a; subst d; exact r
      | succ i => simp at a⟩
    exact ⟨M', s, t.vr 0 _ x rfl rfl⟩
  cases r with
  | tup fs vs h1 h2 =>
    obtain ⟨M', s, t, _⟩ := freeze_ok (σ := ⟨fs, H⟩) I hH hb hcl (ts := vs) ⟨h1.symm, fun i q y a d => h2 i q y a d⟩
    refine ⟨M', s, .tup _ _ (by simpa using h1) fun i pv v a d => t.vr i pv v a d⟩
  | val => exact one (.val _)
  | sl0 z o c => exact one (.sl0 z o c)
  | sl z es b off cap f h1 h2 h3 h4 h5 h6 => exact one (.sl z es b off cap f h1 h2 h3 h4 h5 h6)
  | agg fs vs h1 h2 => exact one (.agg fs vs h1 h2)
  | ptr b o k h1 => exact one (.ptr b o k h1)
  | own b o n c h1 => exact one (.own b o n c h1)
  | eptr cs o b off f h1 h2 => exact one (.eptr cs o b off f h1 h2)
  | optr b z i o g n c h1 => exact one (.optr b z i o g n c h1)
  | clo f caps vs h1 h2 => exact one (.clo f caps vs h1 h2)
theorem PCalls.thawX {P : Program} {f : FuncId} {args : List PV} {H0 : Hp} {α : Type} {v v' : α → PV} {H H' : α → Hp} {p : α → Prop} (c : PCalls P f args H0 (RX v H p)) (b : Nat) (φ : List Nat)
    (hx : ∀ x, p x → ∃ e sz es, (H x)[b]? = some (some (.row e sz es)) ∧ (∀ row ∈ es, row.all cloC = true) ∧ thawT b sz es (v x) = ren φ (H x).length (v' x) ∧ nodupR φ = true ∧ preR φ H0.length ∧ blkR φ (H x).length (((H x).set b none).map (thawB b sz es)) φ (H' x)) : PCalls P f args H0 (RX v' H' p) := by
  intro M hh w vs I rv
  refine (c M hh w vs I rv).mono fun e w' ⟨u, M', h', pv, H1, e1, ⟨x, hp, e2, e3⟩, e4, e5⟩ => ?_
  subst e2
  subst e3
  obtain ⟨e, sz, es, g1, g2, g3, g4, g5, g6⟩ := hx x hp
  obtain ⟨M2, s, r⟩ := freezeV_ok e5.inv g1 g2 e4
  have rf : Refit H0.length φ (H' x) (((H x).set b none).map (thawB b sz es)) := ⟨g4, g5, by simpa using g6⟩
  have st := rf.step I.len (e5.trans s)
  rw [g3] at r
  exact ⟨u, M2, homeR φ h', v' x, H' x, e1, ⟨x, hp, rfl, rfl⟩, Refit.vr (H := ((H x).set b none).map (thawB b sz es)) s.inv (by simpa using r), st⟩
theorem PCalls.rx {P : Program} {f : FuncId} {args : List PV} {H0 : Hp} {v : PV} {H : Hp} (c : PCalls P f args H0 (RH v H)) : PCalls P f args H0 (RX (fun _ : Unit => v) (fun _ => H) fun _ => True) := by
  intro M hh w vs I rv
  refine (c M hh w vs I rv).mono fun e w' ⟨u, M', h', pv, H1, e1, ⟨e2, e3⟩, e4, e5⟩ => ⟨u, M', h', pv, H1, e1, ⟨(), trivial, e2, e3⟩, e4, e5⟩
theorem PCalls.rh {P : Program} {f : FuncId} {args : List PV} {H0 : Hp} {v : PV} {H : Hp} (c : PCalls P f args H0 (RX (fun _ : Unit => v) (fun _ => H) fun _ => True)) : PCalls P f args H0 (RH v H) := by
  intro M hh w vs I rv
  refine (c M hh w vs I rv).mono fun e w' ⟨u, M', h', pv, H1, e1, ⟨_, _, e2, e3⟩, e4, e5⟩ => ⟨u, M', h', pv, H1, e1, ⟨e2, e3⟩, e4, e5⟩
theorem PCalls.thawH {P : Program} {f : FuncId} {args : List PV} {H0 : Hp} {v v' : PV} {H H' : Hp} (c : PCalls P f args H0 (RH v H)) (b : Nat) (φ : List Nat) {e : TypeId} {sz : Nat} {es : List (List PV)}
    (g1 : H[b]? = some (some (.row e sz es))) (g2 : ∀ row ∈ es, row.all cloC = true) (g3 : thawT b sz es v = ren φ H.length v') (g4 : nodupR φ = true) (g5 : preR φ H0.length) (g6 : blkR φ H.length ((H.set b none).map (thawB b sz es)) φ H') : PCalls P f args H0 (RH v' H') :=
  PCalls.rh (PCalls.thawX c.rx b φ fun _ _ => ⟨e, sz, es, g1, g2, g3, g4, g5, g6⟩)
theorem PWp.frz {P : Program} {N : Nat} {c : Code} {Q : Exit → St → Prop} {tm : List PV} {H : Hp} (b : Nat) {e : TypeId} {sz : Nat} {es : List (List PV)} (hH : H[b]? = some (some (.row e sz es))) (hcl : ∀ row ∈ es, row.all cloC = true) (h : PWp P N c Q ((⟨tm, H⟩ : St).thaw b sz es)) : PWp P N c Q ⟨tm, H⟩ := fun E a w hN r => by
  obtain ⟨M, hh, s, t, d⟩ := r
  obtain ⟨u, hb, _⟩ := s.inv.blk b _ hH
  obtain ⟨M', s', t', _⟩ := freeze_ok (σ := ⟨tm, H⟩) s.inv hH hb hcl t
  exact h E a w hN ⟨M', hh, s.trans s', t', d⟩
theorem size_mk {l : List UInt8} : (⟨l.toArray⟩ : ByteArray).size = l.length := by simp [ByteArray.size]
end Go.Proofs.YtiboajlnjldalaaGreatDoor
namespace Go.Proofs.YtiboajlnjldalaaGreatDoor
set_option linter.unusedSimpArgs false
set_option linter.unusedVariables false
open Go.RowKit
inductive Wk : PV → PV → Prop
  | rfl (p : PV) : Wk p p
  | nil (z : Nat) : Wk (.val (.slice none 0 0)) (.sl z [])
  | agg (fs gs : List PV) : fs.length = gs.length → (∀ (i : Nat) (p q : PV), fs[i]? = some p → gs[i]? = some q → Wk p q) → Wk (.agg fs) (.agg gs)
  | tup (fs gs : List PV) : fs.length = gs.length → (∀ (i : Nat) (p q : PV), fs[i]? = some p → gs[i]? = some q → Wk p q) → Wk (.tup fs) (.tup gs)
theorem Wk.vr {M : Mem} {h : Home} {p q : PV} (k : Wk p q) : ∀ {v : Value}, VR M h p v → VR M h q v := by
  induction k with
  | rfl p => exact fun r => r
  | nil z => intro v r; cases r; exact .sl0 z none 0
  | agg fs gs hl _ ih =>
    intro v r
    cases r with
    | agg _ vs h1 h2 =>
      refine .agg _ _ (by omega) fun i q v a b => ?_
      have hi : i < fs.length := by have := (List.getElem?_eq_some_iff.1 a).1; omega
      exact ih i fs[i] q (List.getElem?_eq_getElem hi) a (h2 i _ v (List.getElem?_eq_getElem hi) b)
  | tup fs gs hl _ ih =>
    intro v r
    cases r with
    | tup _ vs h1 h2 =>
      refine .tup _ _ (by omega) fun i q v a b => ?_
      have hi : i < fs.length := by have := (List.getElem?_eq_some_iff.1 a).1; omega
      exact ih i fs[i] q (List.getElem?_eq_getElem hi) a (h2 i _ v (List.getElem?_eq_getElem hi) b)
def WkL : List PV → List PV → Prop
  | [], [] => True
  | p :: ps, q :: qs => Wk p q ∧ WkL ps qs
  | _, _ => False
theorem WkL.len : ∀ {ps qs : List PV}, WkL ps qs → ps.length = qs.length
  | [], [], _ => rfl
  | _ :: _, _ :: _, h => by simp [WkL.len h.2]
  | [], _ :: _, h => h.elim
  | _ :: _, [], h => h.elim
theorem WkL.get : ∀ {ps qs : List PV}, WkL ps qs → ∀ (i : Nat) (p q : PV), ps[i]? = some p → qs[i]? = some q → Wk p q
  | _ :: _, _ :: _, h, 0, p, q, a, b => by simp at a b; subst a; subst b; exact h.1
  | _ :: _, _ :: _, h, i + 1, p, q, a, b => WkL.get h.2 i p q (by simpa using a) (by simpa using b)
  | [], [], _, i, p, q, a, _ => by simp at a
  | [], _ :: _, h, _, _, _, _, _ => h.elim
  | _ :: _, [], h, _, _, _, _, _ => h.elim
theorem wk_agg {fs gs : List PV} (h : WkL fs gs) : Wk (.agg fs) (.agg gs) := .agg _ _ h.len h.get
theorem wk_tup {fs gs : List PV} (h : WkL fs gs) : Wk (.tup fs) (.tup gs) := .tup _ _ h.len h.get
section
variable {P : Program} {f : FuncId} {args args' : List PV} {H0 H : Hp} {v v' : PV}
theorem PCalls.wkR (c : PCalls P f args H0 (RH v H)) (k : Wk v v') : PCalls P f args H0 (RH v' H) := by
  intro M hh w vs I rv
  refine (c M hh w vs I rv).mono fun e w' ⟨u, M', h', pv, H1, e1, ⟨e2, e3⟩, e4, e5⟩ => ⟨u, M', h', v', H1, e1, ⟨rfl, e3⟩, ?_, e5⟩
  subst e2
  exact k.vr e4
end
theorem Inv.wkB {M : Mem} {h : Home} {H : Hp} {w : World} (I : Inv M h H w) {b : Nat} {cs cs' : List PV} (hH : H[b]? = some (some (.box cs))) (k : WkL cs cs') :
    Inv M h (H.set b (some (.box cs'))) w ∧ ∀ x, Homes h (H.set b (some (.box cs'))) x → Homes h H x := by
  have old : ∀ {c : Nat} {B : Blk}, (H.set b (some (.box cs')))[c]? = some (some B) → ∃ B0, H[c]? = some (some B0) ∧ (B0 = B ∨ c = b ∧ B = .box cs') := fun {c B} q => by
    by_cases e : b = c
    · subst e
      rw [List.getElem?_set_self (List.getElem?_eq_some_iff.1 hH).1] at q
      exact ⟨_, hH, .inr ⟨rfl, by injection q with q; injection q with q; exact q.symm⟩⟩
    · rw [List.getElem?_set_ne e] at q
      exact ⟨B, q, .inl rfl⟩
  have hom : ∀ x, Homes h (H.set b (some (.box cs'))) x → Homes h H x := fun x ⟨c, B, v, q1, q2⟩ => by
    obtain ⟨B0, h1, _⟩ := old q1
    exact ⟨c, B0, v, h1, q2⟩
  refine ⟨⟨I.mem, I.one, fun c B q => ?_, fun x hx o => I.sep x (hom x hx) o, fun c c' B B' v v' x g1 g2 => ?_, fun c v q => by simpa using I.len c v q, I.glob⟩, hom⟩
  · obtain ⟨B0, h1, h2⟩ := old q
    obtain ⟨v, h3, h4⟩ := I.blk c B0 h1
    rcases h2 with rfl | ⟨rfl, rfl⟩
    · exact ⟨v, h3, h4⟩
    · rw [hH] at h1
      cases h1
      obtain ⟨g, us, t, p1, p2, p3, p4, p5⟩ := h4
      refine ⟨v, h3, g, us, t, p1, p2, by rw [p3, k.len], p4, fun j pv u a d => ?_⟩
      have hj : j < cs.length := by have := (List.getElem?_eq_some_iff.1 a).1; rw [k.len]; exact this
      exact (k.get j cs[j] pv (List.getElem?_eq_getElem hj) a).vr (p5 j _ u (List.getElem?_eq_getElem hj) d)
  · obtain ⟨B0, h1, _⟩ := old g1
    obtain ⟨B1, h2, _⟩ := old g2
    exact I.inj c c' B0 B1 v v' x h1 h2
theorem PWp.wkB {P : Program} {N : Nat} {c : Code} {Q : Exit → St → Prop} {tm : List PV} {H : Hp} (b : Nat) {cs : List PV} (cs' : List PV) (hH : H[b]? = some (some (.box cs))) (k : WkL cs cs') (h : PWp P N c Q ⟨tm, H.set b (some (.box cs'))⟩) : PWp P N c Q ⟨tm, H⟩ := fun E a w hN r => by
  obtain ⟨M, hh, s, t, d⟩ := r
  obtain ⟨I, hom⟩ := s.inv.wkB hH k
  exact h E a w hN ⟨M, hh, s.trans ⟨.refl _, .refl _, I, .refl, fun x hx => .inl (hom x hx), fun _ _ _ q => .inl q⟩, t, d⟩
theorem mapM_one {f : ResultVar → Option PV} {r : ResultVar} {rs : List ResultVar} {p : PV} {ps : List PV} (h1 : f r = some p) (h2 : rs.mapM f = some ps) : (r :: rs).mapM f = some (p :: ps) := by
  rw [List.mapM_cons, h1, h2]
  rfl
section
variable {T : Tys} {σ : St} {X : PV} {rs : List ResultVar}
theorem presults_nil : presults T [] σ = some [] := rfl
theorem presults_tmp {t : Tmp} {ps : List PV} (h : presults T rs σ = some ps) : presults T (.tmp t :: rs) σ = some (σ.tm.getD t (.val undef) :: ps) := mapM_one rfl h
theorem presults_agg {a b o n : Nat} {t : TypeId} {i : TI} {cs : List PV} {ps : List PV} (hv : σ.tm.getD a (.val undef) = .ptr b o) (hb : σ.H[b]? = some (some (.box cs))) (ht : T t = some i) (hz : i.size = n) (hd : (match i.d with | .struct _ => true | .array _ _ _ => true | _ => false) = true) (hl : o + n ≤ cs.length) (h : presults T rs σ = some ps) : presults T (.cell a t :: rs) σ = some (.agg ((cs.drop o).take n) :: ps) := by
  refine mapM_one ?_ h
  simp only [hv, pcells, hb, ht]
  subst hz
  split
  · rw [if_pos hl]
  · rw [if_pos hl]
  · rename_i h1 h2; revert hd; cases hi : i.d <;> simp_all
theorem presults_one {a b o : Nat} {t : TypeId} {i : TI} {cs : List PV} {p : PV} {ps : List PV} (hv : σ.tm.getD a (.val undef) = .ptr b o) (hb : σ.H[b]? = some (some (.box cs))) (ht : T t = some i) (hd : (match i.d with | .struct _ => true | .array _ _ _ => true | _ => false) = false) (hl : cs[o]? = some p) (h : presults T rs σ = some ps) : presults T (.cell a t :: rs) σ = some (p :: ps) := by
  refine mapM_one ?_ h
  simp only [hv, pcells, hb, ht]
  split
  · rename_i h1; rw [h1] at hd; simp at hd
  · rename_i h1; rw [h1] at hd; simp at hd
  · exact hl
theorem pendVG {e : Exit} (he : e = .ret ∨ e = .normal) (h : ∃ pvs, presults T rs σ = some pvs ∧ ptuple pvs = X) (hs : scalP X = true) : PPostR T 0 rs (RV X) e σ := by
  obtain ⟨pvs, h1, h2⟩ := h
  exact pendV he h1 hs h2
theorem pendHG {N : Nat} {H : Hp} {e : Exit} (φ : List Nat) (he : e = .ret ∨ e = .normal) (h : ∃ pvs, presults T rs σ = some pvs ∧ ptuple pvs = ren φ σ.H.length X) (h3 : blkR φ σ.H.length σ.H φ H) (h4 : nodupR φ = true) (h5 : preR φ N) : PPostR T N rs (RH X H) e σ := by
  obtain ⟨pvs, h1, h2⟩ := h
  exact pendH φ he h1 h2 h3 h4 h5
theorem finH {T : Tys} {rs : List ResultVar} {σ : St} {X : PV} {N : Nat} {H : Hp} {e : Exit} (φ : List Nat) (he : e = .ret ∨ e = .normal := by first | exact .inl rfl | exact .inr rfl) (h : ∃ pvs, presults T rs σ = some pvs ∧ ptuple pvs = ren φ σ.H.length X := by ((try (apply Exists.intro; apply And.intro; (· repeat' (first | with_reducible exact presults_nil | with_reducible apply presults_tmp | ((with_reducible apply presults_agg); (· exact rfl); (· exact rfl); (· exact rfl); (· exact rfl); (· exact rfl); (· first | exact Nat.le_refl _ | decide | simp)) | ((with_reducible apply presults_one); (· exact rfl); (· exact rfl); (· exact rfl); (· exact rfl); (· exact rfl)))))); (try simp (disch := omega) only [push_cast, seval]); (repeat' (first | exact trivial | exact rfl | refine And.intro ?_ ?_ | omega)))) (h3 : blkR φ σ.H.length σ.H φ H := by ((try simp (disch := omega) only [push_cast, seval]); (repeat' (first | exact trivial | exact rfl | refine And.intro ?_ ?_ | omega)))) (h4 : nodupR φ = true := by exact rfl) (h5 : preR φ N := by first | exact trivial | exact ⟨rfl, trivial⟩ | exact ⟨rfl, rfl, trivial⟩ | exact ⟨rfl, rfl, rfl, trivial⟩) : PPostR T N rs (RH X H) e σ := pendHG φ he h h3 h4 h5
theorem finV {T : Tys} {rs : List ResultVar} {σ : St} {X : PV} {e : Exit} {pvs : List PV} (h2 : ptuple pvs = X) (he : e = .ret ∨ e = .normal := by first | exact .inl rfl | exact .inr rfl) (h1 : presults T rs σ = some pvs := by repeat' (first | with_reducible exact presults_nil | with_reducible apply presults_tmp | ((with_reducible apply presults_agg); (· exact rfl); (· exact rfl); (· exact rfl); (· exact rfl); (· exact rfl); (· first | exact Nat.le_refl _ | decide | simp)) | ((with_reducible apply presults_one); (· exact rfl); (· exact rfl); (· exact rfl); (· exact rfl); (· exact rfl)))) (hs : scalP X = true := by exact rfl) : PPostR T 0 rs (RV X) e σ := pendVG he ⟨pvs, h1, h2⟩ hs
theorem pendXG {N : Nat} {e : Exit} {α : Type} {v : α → PV} {H : α → Hp} {p : α → Prop} (x : α) (φ : List Nat) (he : e = .ret ∨ e = .normal) (h : ∃ pvs, presults T rs σ = some pvs ∧ ptuple pvs = ren φ σ.H.length (v x)) (h3 : blkR φ σ.H.length σ.H φ (H x)) (h4 : nodupR φ = true) (h5 : preR φ N) (hp : p x) : PPostR T N rs (RX v H p) e σ := by
  obtain ⟨pvs, h1, h2⟩ := h
  exact pendX x φ he h1 h2 h3 h4 h5 hp
end
theorem ptuple_0 : ptuple [] = .tup [] := rfl
theorem ptuple_1 {p : PV} : ptuple [p] = p := rfl
theorem ptuple_2 {p q : PV} {l : List PV} : ptuple (p :: q :: l) = .tup (p :: q :: l) := rfl
attribute [push_cast] ptuple_0 ptuple_1 ptuple_2
theorem rowsC1 {α : Type} {f : α → List PV} (h : ∀ x, (f x).all cloC = true) {xs : List α} {r : List PV} (hr : r.all cloC = true) : ∀ row ∈ xs.map f ++ [r], row.all cloC = true := fun row hm => by
  rcases List.mem_append.1 hm with q | q
  · obtain ⟨x, _, rfl⟩ := List.mem_map.1 q; exact h x
  · rw [List.mem_singleton.1 q]; exact hr
theorem pcV {P : Program} {cm : Bool} {g : FuncId} {args : List PV} {σ : St} {K : PV → St → Prop} {v : PV} (hc : Callable P g) (h : PCalls P g (args.map (vw σ.H)) [] (RV v)) (hk : K v σ) (hv : scalP v = true := by rfl) (ha : vwAll σ.H args := by repeat' (first | exact trivial | exact rfl | exact vwOk_clo rfl | exact rowsC fun _ => rfl | exact rowsC2 fun _ => rfl | exact rowsC1 (fun _ => rfl) rfl | refine And.intro ?_ ?_ | refine vwOk_ag ?_ | refine vwOk_cl ?_)) : pcall P cm g args σ K := pcall_RV hc h hv ha hk
theorem pcH {P : Program} {cm : Bool} {g : FuncId} {args : List PV} {σ : St} {K : PV → St → Prop} {v : PV} {H' : Hp} (hc : Callable P g) (h : PCalls P g (args.map (vw σ.H)) [] (RH v H')) (hk : K (ren [] σ.H.length v) ⟨σ.tm, σ.H ++ H'.map (renB [] σ.H.length)⟩) (hv : fre v = true := by repeat' (first | exact trivial | exact rfl | exact rowsF fun _ => rfl | refine And.intro ?_ ?_)) (hH : freH H' := by repeat' (first | exact trivial | exact rfl | exact rowsF fun _ => rfl | refine And.intro ?_ ?_)) (ha : vwAll σ.H args := by repeat' (first | exact trivial | exact rfl | exact vwOk_clo rfl | exact rowsC fun _ => rfl | exact rowsC2 fun _ => rfl | exact rowsC1 (fun _ => rfl) rfl | refine And.intro ?_ ?_ | refine vwOk_ag ?_ | refine vwOk_cl ?_)) : pcall P cm g args σ K := pcall_RH hc h hv hH ha hk
theorem pcF {P : Program} {cm : Bool} {g : FuncId} {args : List PV} {σ : St} {K : PV → St → Prop} {v : PV} {H' : Hp} (hc : Callable P g) (h : PCalls P g args [] (RH v H')) (hk : K (ren [] σ.H.length v) ⟨σ.tm, σ.H ++ H'.map (renB [] σ.H.length)⟩) (ha : args.all cloA = true := by ((try simp (disch := omega) only [push_cast, seval]); first | done | exact rfl)) : pcall P cm g args σ K := pcall_H1 hc ha h hk
end Go.Proofs.YtiboajlnjldalaaGreatDoor
namespace Go.Proofs.YtiboajlnjldalaaGreatDoor
set_option linter.unusedSimpArgs false
set_option linter.unusedVariables false
open Go.RowKit
def adjAt {α : Type} (f : α → Bool) (g : α → α → Bool) (l : List α) (k : Nat) : Bool :=
  match l[k]? with
  | none => true
  | some v => f v && (match k with | 0 => true | j + 1 => match l[j]? with | none => true | some u => g u v)
def adjOk {α : Type} (f : α → Bool) (g : α → α → Bool) (l : List α) : Bool := allN (adjAt f g l) l.length
theorem adjAt_zero {α : Type} {f : α → Bool} {g : α → α → Bool} {l : List α} {v : α} (h : l[0]? = some v) : adjAt f g l 0 = f v := by unfold adjAt; rw [h]; simp
theorem adjAt_succ {α : Type} {f : α → Bool} {g : α → α → Bool} {l : List α} {j : Nat} {u v : α} (h : l[j + 1]? = some v) (h' : l[j]? = some u) : adjAt f g l (j + 1) = (f v && g u v) := by unfold adjAt; rw [h]; simp only; rw [h']
theorem adjOk_no {α : Type} {f : α → Bool} {g : α → α → Bool} {l : List α} {k : Nat} (hk : k < l.length) (h : adjAt f g l k = false) : adjOk f g l = false := allN_no hk h
theorem adjOk_end {α : Type} {f : α → Bool} {g : α → α → Bool} {l : List α} (h : allTo (adjAt f g l) l.length) : adjOk f g l = true := allTo_end h
def isTime (t : Int) : Bool := inB t 0 1000000
def isHeight (h : Int) : Bool := inB h 1 1000000
def valsOk (l : List GVal) : Bool := adjOk (fun v => inB v.fId 1 99 && inB v.fPower 1 1000) (fun u v => decide (u.fId < v.fId)) l && inB l.length 1 7
end Go.Proofs.YtiboajlnjldalaaGreatDoor
namespace Go.Proofs.YtiboajlnjldalaaGreatDoor
set_option linter.unusedSimpArgs false
set_option linter.unusedVariables false
open Go.RowKit
def isId (s : ByteArray) : Bool := decide ((s.size : Int) = 8) || eqB s ⟨#[]⟩
def isVal (v : Int) : Bool := inB v 1 99
def voteOk (v : GVote) : Bool := isHeight v.fHeight && inB v.fRound 0 1000 && inB v.fStep 1 2 && isId v.fId && isVal v.fVal
def key (h r t : Int) : Int := 3003 * h + 3 * r + t
end Go.Proofs.YtiboajlnjldalaaGreatDoor
namespace Go.Proofs.YtiboajlnjldalaaGreatDoor
set_option linter.unusedSimpArgs false
set_option linter.unusedVariables false
open Go.RowKit
set_option maxRecDepth 100000
set_option maxHeartbeats 1000000 in
theorem l1In_p (x lo hi : Int) : PCalls Tryz.prog 79 [.val (.int .i64 x), .val (.int .i64 lo), .val (.int .i64 hi)] [] (RV (.val (.bool (inB x lo hi)))) := by
  refine pcalls_ofR okP Tryz.func79 rfl ?_
  simp only [Tryz.f79, List.length_cons, List.length_nil, Nat.reduceAdd, Nat.reduceSub, List.replicate_succ, List.replicate_zero, List.cons_append, List.nil_append, List.length_map]
  repeat' (first | with_reducible (first | refine wA ?_ | refine wB ?_ | refine wC ?_ | refine w1 ?_ | refine w2 ?_ | refine w3 ?_ | refine w4 ?_ | refine w5 ?_ | refine w6 ?_ | refine w7 ?_ | refine w8 ?_ | refine wT ?_ | refine w9 ?_ | refine wE ?_ | refine wS ?_) | ((with_reducible refine hK _ ?_); clear hK K) | ((with_reducible refine pops_guard0 ?_); refine ⟨_, rfl, fun K hK => ⟨rfl, ?_⟩⟩; (try simp (disch := omega) only [push_cast, seval])) | ((with_reducible refine pops_plain fun K hK => ?_); simp (disch := omega) only [push_cast, seval]) | ((with_reducible refine pops_guard ?_); refine ⟨_, rfl, fun K hK => ⟨_, rfl, fun hg => ?_, fun hg => ?_⟩⟩ <;> first | (exact absurd hg (by decide)) | ((try simp only [Bool.not_true, Bool.not_false] at hg); (try simp only [hg]); (try simp only [push_cast] at hg); (try exact absurd trivial hg); (try (exfalso; omega)); (try simp (disch := omega) only [push_cast, seval]))) | ((with_reducible refine And.intro ?_ ?_); omega))
  all_goals
    ((with_reducible show PPostR _ _ _ _ _ _); refine finV ?_; (try simp only [push_cast, seval]))
    simp [inB]
    omega
set_option maxHeartbeats 1000000 in
theorem within_p (x lo hi : Int) : PCalls Tryz.prog 77 [.val (.int .i64 x), .val (.int .i64 lo), .val (.int .i64 hi)] [] (RV (.val (.bool (inB x lo hi)))) := by
  refine pcalls_ofR okP Tryz.func77 rfl ?_
  simp only [Tryz.f77, List.length_cons, List.length_nil, Nat.reduceAdd, Nat.reduceSub, List.replicate_succ, List.replicate_zero, List.cons_append, List.nil_append, List.length_map]
  repeat' (first | with_reducible (first | refine wA ?_ | refine wB ?_ | refine wC ?_ | refine w1 ?_ | refine w2 ?_ | refine w3 ?_ | refine w4 ?_ | refine w5 ?_ | refine w6 ?_ | refine w7 ?_ | refine w8 ?_ | refine wT ?_ | refine w9 ?_ | refine wE ?_ | refine wS ?_) | ((with_reducible refine hK _ ?_); clear hK K) | ((with_reducible refine pops_guard0 ?_); refine ⟨_, rfl, fun K hK => ⟨rfl, ?_⟩⟩; (try simp (disch := omega) only [push_cast, seval])) | ((with_reducible refine pops_plain fun K hK => ?_); simp (disch := omega) only [push_cast, seval]) | ((with_reducible refine pops_guard ?_); refine ⟨_, rfl, fun K hK => ⟨_, rfl, fun hg => ?_, fun hg => ?_⟩⟩ <;> first | (exact absurd hg (by decide)) | ((try simp only [Bool.not_true, Bool.not_false] at hg); (try simp only [hg]); (try simp only [push_cast] at hg); (try exact absurd trivial hg); (try (exfalso; omega)); (try simp (disch := omega) only [push_cast, seval]))) | ((with_reducible refine And.intro ?_ ?_); omega))
  all_goals
    ((with_reducible show PPostR _ _ _ _ _ _); refine finV ?_; (try simp only [push_cast, seval]))
    simp [inB]
    omega
set_option maxHeartbeats 1000000 in
theorem isTime_p (x : Int) : PCalls Tryz.prog 167 [.val (.int .i64 x)] [] (RV (.val (.bool (isTime x)))) := by
  refine pcalls_ofR okP Tryz.func167 rfl ?_
  simp only [Tryz.f167, List.length_cons, List.length_nil, Nat.reduceAdd, Nat.reduceSub, List.replicate_succ, List.replicate_zero, List.cons_append, List.nil_append, List.length_map]
  repeat' (first | with_reducible (first | refine wA ?_ | refine wB ?_ | refine wC ?_ | refine w1 ?_ | refine w2 ?_ | refine w3 ?_ | refine w4 ?_ | refine w5 ?_ | refine w6 ?_ | refine w7 ?_ | refine w8 ?_ | refine wT ?_ | refine w9 ?_ | refine wE ?_ | refine wS ?_) | ((with_reducible refine hK _ ?_); clear hK K) | ((with_reducible refine pops_plain fun K hK => ?_); simp (disch := omega) only [push_cast, seval]) | ((with_reducible show pcall _ _ _ _ _ _); (first | (refine pcV (cf Tryz.func77) (within_p _ _ _) ?_)); (try simp (disch := omega) only [push_cast, seval])) | ((with_reducible refine And.intro ?_ ?_); omega))
  ((with_reducible show PPostR _ _ _ _ _ _); refine finV ?_; (try simp only [push_cast, seval]))
  rfl
end Go.Proofs.YtiboajlnjldalaaGreatDoor
namespace Go.Proofs.YtiboajlnjldalaaGreatDoor
set_option linter.unusedSimpArgs false
set_option linter.unusedVariables false
open Go.RowKit
def GlobW (w : World) : Prop := ∀ (i : Nat) (n : Int), globL[i]? = some n → w.cell? ⟨0, i, none⟩ = some (.int .u32 n)
theorem GlobW.mem {w : World} (h : GlobW w) : Glob (memW w) := fun i n q => memW_of (h i n q) rfl
theorem flats {M : Mem} {h : Home} : ∀ {args : List PV} {us vs : List Value}, args.map flat = us.map some → args.length = vs.length → (∀ (i : Nat) (pv : PV) (v : Value), args[i]? = some pv → vs[i]? = some v → VR M h pv v) → vs = us
  | [], [], [], _, _, _ => rfl
  | [], _ :: _, _, e, _, _ => by simp at e
  | _ :: _, [], _, e, _, _ => by simp at e
  | [], [], _ :: _, _, e, _ => by simp at e
  | _ :: _, _ :: _, [], _, e, _ => by simp at e
  | a :: ar, u :: us, v :: vs, e, l, r => by
    simp only [List.map_cons, List.cons.injEq] at e
    rw [flat_vr e.1 (r 0 a v rfl rfl), flats (us := us) (vs := vs) e.2 (by simpa using l) fun i pv v a b => r (i + 1) pv v (by simpa using a) (by simpa using b)]
theorem pcalls_flat {P : Program} {f : FuncId} {args : List PV} {us : List Value} {r : PV} {u : Value} (ha : args.map flat = us.map some) (hr : ∀ M h, VR M h r u) (h : ∀ w, GlobW w → Calls P f us.toArray w fun e w' => e = .returned u ∧ Ext w w') : PCalls P f args [] (RV r) := by
  intro M hh w vs I rv
  have e := flats (M := M) (h := hh) (vs := vs.toList) ha (by simpa using rv.1) fun i pv v a b => rv.2 i pv v a (by simpa using b)
  have e' : vs = us.toArray := by rw [← e]
  subst e'
  exact (h w fun i n q => I.mem _ _ _ (I.glob i n q)).mono fun e w' ⟨h1, h2⟩ => ⟨u, M, hh, r, [], h1, rfl, hr M hh, Step.ext I h2⟩
theorem vr_agg {M : Mem} {h : Home} {us : List Value} : VR M h (.agg (us.map .val)) (.agg us.toArray) :=
  .agg _ _ (by simp) fun i pv v a b => by
    simp only [List.getElem?_map, Option.map_eq_some_iff] at a
    obtain ⟨x, h1, rfl⟩ := a
    rw [List.getElem?_toArray, h1] at b
    cases b
    exact .val _
end Go.Proofs.YtiboajlnjldalaaGreatDoor
namespace Go.Proofs.YtiboajlnjldalaaGreatDoor
set_option linter.unusedSimpArgs false
set_option linter.unusedVariables false
open Go.RowKit
theorem within_any (x lo hi : Int) (w : World) :
    Calls Tryz.prog 77 #[.int .i64 x, .int .i64 lo, .int .i64 hi] w fun e w' => e = .returned (.bool (inB x lo hi)) ∧ w = w' := by
  unfold inB
  by_cases h1 : lo ≤ x
  all_goals
    go_enter Tryz.func77, Tryz.ntmps77
    go_wp2
    go_ret
    exact ⟨by simp; try omega, rfl⟩
theorem l1In_any (x lo hi : Int) (w : World) :
    Calls Tryz.prog 79 #[.int .i64 x, .int .i64 lo, .int .i64 hi] w fun e w' => e = .returned (.bool (inB x lo hi)) ∧ w = w' := by
  unfold inB
  by_cases h1 : lo ≤ x
  all_goals
    go_enter Tryz.func79, Tryz.ntmps79
    go_wp2
    go_ret
    exact ⟨by simp; try omega, rfl⟩
end Go.Proofs.YtiboajlnjldalaaGreatDoor
namespace Go.Proofs.YtiboajlnjldalaaGreatDoor
set_option linter.unusedSimpArgs false
set_option linter.unusedVariables false
open Go.RowKit
def varF : Nat → Nat → List UInt8
  | 0, _ => []
  | f + 1, n => if n < 128 then [UInt8.ofNat n] else UInt8.ofNat (n % 128 + 128) :: varF f (n / 128)
def varL (n : Nat) : List UInt8 := varF 8 n
def varS (n : Int) : ByteArray := if inB n 0 562949953421311 then ⟨(varL n.toNat).toArray⟩ else ⟨#[]⟩
theorem varF_len : ∀ (f n : Nat), (varF f n).length ≤ f
  | 0, _ => by simp [varF]
  | f + 1, n => by
    unfold varF
    split
    · simp
    · have := varF_len f (n / 128)
      simp; omega
def encB (b : UInt8) : List Value := [.int .u8 b.toNat]
theorem flat_encB (l : List UInt8) : l.flatMap encB = l.map fun b => Value.int .u8 b.toNat := by
  induction l with
  | nil => rfl
  | cons b l ih => rw [List.flatMap_cons, ih]; rfl
theorem infoB : (Tryz.prog.info? 5).map (fun i => (i.zero, i.size, i.bytes)) = some (some (.int .u8 0), 1, 1) := by kernel_rfl
theorem conv_own {w : World} {base n : Nat} {v : Value} {l : List UInt8} (h : w.ownsRow base 5 1 v n (l.flatMap encB)) (hn : l.length = n) :
    (convert 22 9 v).run Tryz.prog w = .ok (.string ⟨l.toArray⟩) w := by
  rcases own_value h with ⟨rfl, rfl, hl⟩ | ⟨g, c, rfl⟩
  · obtain rfl : l = [] := List.eq_nil_of_length_eq_zero hn
    exact run_convert_bytes_nil w 22 5 Tryz.underlying22 Tryz.underlying5 0 0 9 Tryz.underlying9
  · have q := run_convert_bytes_arg (P := Tryz.prog) w 22 5 Tryz.underlying22 Tryz.underlying5 g 0 n c (l.map fun b => (b.toNat : Int)) (by simpa using hn) (fun i hi => by
      rw [Nat.zero_add, h.cellAt i (by omega), flat_encB]
      simp [List.getD, show i < l.length by omega]) 9 Tryz.underlying9
    rw [q]
    have e : strOfNums (l.map fun b => (b.toNat : Int)) = ⟨l.toArray⟩ := by
      have e2 : (l.map fun b => (b.toNat : Int)).map (fun n => UInt8.ofNat n.toNat) = l := by
        rw [List.map_map]
        exact (List.map_congr_left (fun b _ => by simp)).trans (List.map_id l)
      unfold strOfNums
      rw [e2]
    rw [e]
theorem varF_step {f m : Nat} (h : 128 ≤ m) : varF (f + 1) m = UInt8.ofNat (m % 128 + 128) :: varF f (m / 128) := by rw [varF, if_neg (by omega)]
theorem varF_last {f m : Nat} (h : m < 128) : varF (f + 1) m = [UInt8.ofNat m] := by rw [varF, if_pos h]
theorem pow_div {f m : Nat} (h : m < 128 ^ (f + 1)) : m / 128 < 128 ^ f := by
  rw [Nat.pow_succ] at h
  exact Nat.div_lt_of_lt_mul (by omega)
theorem wraps_i64 (n : Int) (h0 : 0 ≤ n) (h1 : n < 2 ^ 62) : IntKind.i64.wrap n = n := IntWalk.i64_in n (by omega)
theorem and127 {x : Int} (h0 : 0 ≤ x) (h1 : x < 2 ^ 62) : bits .and .i64 x 127 = x % 128 := bits_mask .i64 62 (by decide) wraps_i64 7 (by decide) x h0 h1
theorem or128 {x : Int} (h0 : 0 ≤ x) (h1 : x < 128) : bits .or .i64 x 128 = x + 128 := by
  obtain ⟨a, rfl⟩ := Int.eq_ofNat_of_zero_le h0
  have q1 := (bits_nat .i64 62 (by decide) wraps_i64 a 128 (by omega) (by decide)).2
  have q2 := (bits_nat .i64 62 (by decide) wraps_i64 128 a (by decide) (by omega)).2
  have q3 := bits_join .i64 62 (by decide) wraps_i64 7 128 a (by decide) (by decide) (by decide) (by omega) (by omega) (by omega)
  rw [Nat.or_comm] at q1
  exact (q1.trans (q2.symm.trans q3)).trans (Int.add_comm _ _)
theorem byte_of {b : Nat} (h : b < 256) : ((UInt8.ofNat b).toNat : Int) = b := by simp; omega
set_option maxRecDepth 100000 in
set_option maxHeartbeats 4000000 in
theorem var_in (n : Nat) (hn : n ≤ 562949953421311) (w : World) :
    Calls Tryz.prog 107 #[.int .i64 n] w fun e w' => e = .returned (.string ⟨(varL n).toArray⟩) ∧ Ext w w' := by
  obtain ⟨i0, hi, hz0, hz1, hz2⟩ := info_parts infoB
  have hin : inB (n : Int) 0 562949953421311 = true := inB_iff.2 ⟨by omega, by omega⟩
  have hE0 : Ext w (w.alloc (.cells #[] 5)) := extB
  have hO0 := World.ownsRow_made (e := 5) (size := 1) (base := w.heap.size) w #[] 0 (Nat.le_refl _) (by omega) rfl
  go_enter Tryz.func107, Tryz.ntmps107
  go_wp2_with (go_at_call 77; refine (within_any _ _ _ _).mono ?_; rintro e w' ⟨rfl, rfl⟩)
  go_loopg [0, 3] 7 (fun g x v wr => ∃ (m : Nat) (p : List UInt8), m ≤ 562949953421311 ∧ m < 128 ^ (g + 1) ∧ p ++ varF (g + 1) m = varL n ∧ p.length + g = 7 ∧ x = .int .i64 m ∧ Ext w wr ∧ wr.ownsRow w.heap.size 5 1 v p.length (p.flatMap encB))
  case atStart => exact ⟨n, [], hn, by omega, rfl, rfl, rfl, hE0, hO0⟩
  case round =>
    clear hE0 hO0
    obtain ⟨m, p, hm, hmf, hpv, hpl, rfl, hE, hown⟩ := hrel
    have HPV := Lib.hid hpv
    have HPL := Lib.hid hpl
    have HMF := Lib.hid hmf
    have hple : p.length ≤ 7 := by omega
    have hz := hE.size
    clear hpv hpl hmf
    by_cases hbig : 128 ≤ m
    · have hb1 : (127 : Int) < (m : Int) := by omega
      obtain ⟨f, hf⟩ : ∃ f, gk = f + 1 := by
        cases gk with
        | zero => have := HMF.out; omega
        | succ f => exact ⟨f, rfl⟩
      have HF := Lib.hid hf
      clear hf
      have e1 := and127 (x := (m : Int)) (by omega) (by omega)
      have e2 := or128 (x := (m : Int) % 128) (by omega) (by omega)
      have e3 : ((m : Int) % 128 + 128) % 256 = (m : Int) % 128 + 128 := by omega
      go_wp2_with (at_builtin; refine wpList_append_own _ rfl (.tmp 10) (.tmp 15) 22 rfl w.heap.size 5 i0 (.int .u8 0) 1 1 Tryz.underlying22 hi hz0 hz1 hz2 rfl (by decide) _ _ _ rfl (hown.alloc _) ⟨wr.heap.size, 0, none⟩ 1 1 [.int .u8 ((m : Int) % 128 + 128)] rfl rfl (news_new (by simp)) (fun u hu => by simp at hu; subst hu; rfl) (by unfold maxLen; omega) (by omega) (by simp; omega) ?_; intro v' w2 hown' hgrow _; have hE2 : Ext w w2 := Ext.of_grown (hE.alloc _) hgrow (fun b hb => (hown.lt b hb).1); clear hgrow)
      have hB : (((UInt8.ofNat (m % 128 + 128)).toNat : Nat) : Int) = (m : Int) % 128 + 128 := by rw [byte_of (by omega)]; omega
      have hO2 : w2.ownsRow w.heap.size 5 1 v' (p ++ [UInt8.ofNat (m % 128 + 128)]).length ((p ++ [UInt8.ofNat (m % 128 + 128)]).flatMap encB) := by
        rw [List.flatMap_append, List.length_append]
        simp only [List.flatMap_cons, List.flatMap_nil, List.append_nil, encB, hB]
        exact hown'
      have hmf := HMF.out
      have hpv := HPV.out
      have hpl := HPL.out
      rw [HF.out] at hmf hpv hpl
      go_roundg f
      case measure => rw [HF.out]; omega
      case rel => exact ⟨m / 128, p ++ [UInt8.ofNat (m % 128 + 128)], by omega, pow_div hmf, by rw [← hpv, varF_step (f := f + 1) hbig, List.append_assoc]; rfl, by simp; omega, by go_num, hE2, hO2⟩
    · have hb1 : ¬ (127 : Int) < (m : Int) := by omega
      have hm2 : m < 128 := by omega
      have HV : Hid (varL n = p ++ [UInt8.ofNat m]) := by
        have := HPV.out
        rw [varF_last hm2] at this
        exact this.symm
      have e3 : (m : Int) % 256 = (m : Int) := by omega
      have HB : Hid ((((UInt8.ofNat m).toNat : Nat) : Int) = (m : Int)) := byte_of (by omega)
      go_wp2_with (at_builtin; refine wpList_append_own _ rfl (.tmp 19) (.tmp 22) 22 rfl w.heap.size 5 i0 (.int .u8 0) 1 1 Tryz.underlying22 hi hz0 hz1 hz2 rfl (by decide) _ _ _ rfl (hown.alloc _) ⟨wr.heap.size, 0, none⟩ 1 1 [.int .u8 (m : Int)] rfl rfl (news_new (by simp)) (fun u hu => by simp at hu; subst hu; rfl) (by unfold maxLen; omega) (by omega) (by simp; omega) ?_; intro v' w2 hown' hgrow _; have hE2 : Ext w w2 := Ext.of_grown (hE.alloc _) hgrow (fun b hb => (hown.lt b hb).1); have hcv := conv_own (n := p.length + 1) (l := p ++ [UInt8.ofNat m]) (by rw [List.flatMap_append]; simp only [List.flatMap_cons, List.flatMap_nil, List.append_nil, encB, HB.out]; exact hown') (by simp); clear hgrow hown')
      go_ret
      exact ⟨ret_str (congrArg (fun l : List UInt8 => (⟨l.toArray⟩ : ByteArray)) HV.out), hE2⟩
theorem var_any (n : Int) (w : World) :
    Calls Tryz.prog 107 #[.int .i64 n] w fun e w' => e = .returned (.string (varS n)) ∧ Ext w w' := by
  by_cases h : inB n 0 562949953421311 = true
  · obtain ⟨h0, h1⟩ := inB_iff.1 h
    obtain ⟨k, rfl⟩ := Int.eq_ofNat_of_zero_le h0
    have e : varS (k : Int) = ⟨(varL k).toArray⟩ := by unfold varS; rw [if_pos h]; rfl
    rw [e]
    exact var_in k (by omega) w
  · replace h : inB n 0 562949953421311 = false := by simpa using h
    have E : Hid (varS n = ⟨#[]⟩) := by unfold varS; rw [if_neg (by rw [h]; simp)]; rfl
    go_enter Tryz.func107, Tryz.ntmps107
    go_wp2_with (go_at_call 77; refine (within_any _ _ _ _).mono ?_; rintro e w' ⟨rfl, rfl⟩)
    go_ret
    exact ⟨ret_str E.out, extB⟩
set_option maxRecDepth 100000 in
set_option maxHeartbeats 4000000 in
theorem sVar_in (n : Nat) (hn : n ≤ 562949953421311) (w : World) :
    Calls Tryz.prog 112 #[.int .i64 n] w fun e w' => e = .returned (.string ⟨(varL n).toArray⟩) ∧ Ext w w' := by
  obtain ⟨i0, hi, hz0, hz1, hz2⟩ := info_parts infoB
  have hin : inB (n : Int) 0 562949953421311 = true := inB_iff.2 ⟨by omega, by omega⟩
  have hE0 : Ext w (w.alloc (.cells #[] 5)) := extB
  have hO0 := World.ownsRow_made (e := 5) (size := 1) (base := w.heap.size) w #[] 0 (Nat.le_refl _) (by omega) rfl
  go_enter Tryz.func112, Tryz.ntmps112
  go_wp2_with (go_at_call 79; refine (l1In_any _ _ _ _).mono ?_; rintro e w' ⟨rfl, rfl⟩)
  go_loopg [0, 3] 7 (fun g x v wr => ∃ (m : Nat) (p : List UInt8), m ≤ 562949953421311 ∧ m < 128 ^ (g + 1) ∧ p ++ varF (g + 1) m = varL n ∧ p.length + g = 7 ∧ x = .int .i64 m ∧ Ext w wr ∧ wr.ownsRow w.heap.size 5 1 v p.length (p.flatMap encB))
  case atStart => exact ⟨n, [], hn, by omega, rfl, rfl, rfl, hE0, hO0⟩
  case round =>
    clear hE0 hO0
    obtain ⟨m, p, hm, hmf, hpv, hpl, rfl, hE, hown⟩ := hrel
    have HPV := Lib.hid hpv
    have HPL := Lib.hid hpl
    have HMF := Lib.hid hmf
    have hple : p.length ≤ 7 := by omega
    have hz := hE.size
    clear hpv hpl hmf
    by_cases hbig : 128 ≤ m
    · have hb1 : (128 : Int) ≤ (m : Int) := by omega
      obtain ⟨f, hf⟩ : ∃ f, gk = f + 1 := by
        cases gk with
        | zero => have := HMF.out; omega
        | succ f => exact ⟨f, rfl⟩
      have HF := Lib.hid hf
      clear hf
      have e3 : (128 + (m : Int) % 128) % 256 = 128 + (m : Int) % 128 := by omega
      go_wp2_with (at_builtin; refine wpList_append_own _ rfl (.tmp 10) (.tmp 15) 22 rfl w.heap.size 5 i0 (.int .u8 0) 1 1 Tryz.underlying22 hi hz0 hz1 hz2 rfl (by decide) _ _ _ rfl (hown.alloc _) ⟨wr.heap.size, 0, none⟩ 1 1 [.int .u8 (128 + (m : Int) % 128)] rfl rfl (news_new (by simp)) (fun u hu => by simp at hu; subst hu; rfl) (by unfold maxLen; omega) (by omega) (by simp; omega) ?_; intro v' w2 hown' hgrow _; have hE2 : Ext w w2 := Ext.of_grown (hE.alloc _) hgrow (fun b hb => (hown.lt b hb).1); clear hgrow)
      have hB : (((UInt8.ofNat (m % 128 + 128)).toNat : Nat) : Int) = 128 + (m : Int) % 128 := by rw [byte_of (by omega)]; omega
      have hO2 : w2.ownsRow w.heap.size 5 1 v' (p ++ [UInt8.ofNat (m % 128 + 128)]).length ((p ++ [UInt8.ofNat (m % 128 + 128)]).flatMap encB) := by
        rw [List.flatMap_append, List.length_append]
        simp only [List.flatMap_cons, List.flatMap_nil, List.append_nil, encB, hB]
        exact hown'
      have hmf := HMF.out
      have hpv := HPV.out
      have hpl := HPL.out
      rw [HF.out] at hmf hpv hpl
      go_roundg f
      case measure => rw [HF.out]; omega
      case rel => exact ⟨m / 128, p ++ [UInt8.ofNat (m % 128 + 128)], by omega, pow_div hmf, by rw [← hpv, varF_step (f := f + 1) hbig, List.append_assoc]; rfl, by simp; omega, by go_num, hE2, hO2⟩
    · have hb1 : ¬ (128 : Int) ≤ (m : Int) := by omega
      have hm2 : m < 128 := by omega
      have HV : Hid (varL n = p ++ [UInt8.ofNat m]) := by
        have := HPV.out
        rw [varF_last hm2] at this
        exact this.symm
      have e3 : (m : Int) % 256 = (m : Int) := by omega
      have HB : Hid ((((UInt8.ofNat m).toNat : Nat) : Int) = (m : Int)) := byte_of (by omega)
      go_wp2_with (at_builtin; refine wpList_append_own _ rfl (.tmp 19) (.tmp 22) 22 rfl w.heap.size 5 i0 (.int .u8 0) 1 1 Tryz.underlying22 hi hz0 hz1 hz2 rfl (by decide) _ _ _ rfl (hown.alloc _) ⟨wr.heap.size, 0, none⟩ 1 1 [.int .u8 (m : Int)] rfl rfl (news_new (by simp)) (fun u hu => by simp at hu; subst hu; rfl) (by unfold maxLen; omega) (by omega) (by simp; omega) ?_; intro v' w2 hown' hgrow _; have hE2 : Ext w w2 := Ext.of_grown (hE.alloc _) hgrow (fun b hb => (hown.lt b hb).1); have hcv := conv_own (n := p.length + 1) (l := p ++ [UInt8.ofNat m]) (by rw [List.flatMap_append]; simp only [List.flatMap_cons, List.flatMap_nil, List.append_nil, encB, HB.out]; exact hown') (by simp); clear hgrow hown')
      go_ret
      exact ⟨ret_str (congrArg (fun l : List UInt8 => (⟨l.toArray⟩ : ByteArray)) HV.out), hE2⟩
theorem sVar_any (n : Int) (w : World) :
    Calls Tryz.prog 112 #[.int .i64 n] w fun e w' => e = .returned (.string (varS n)) ∧ Ext w w' := by
  by_cases h : inB n 0 562949953421311 = true
  · obtain ⟨h0, h1⟩ := inB_iff.1 h
    obtain ⟨k, rfl⟩ := Int.eq_ofNat_of_zero_le h0
    have e : varS (k : Int) = ⟨(varL k).toArray⟩ := by unfold varS; rw [if_pos h]; rfl
    rw [e]
    exact sVar_in k (by omega) w
  · replace h : inB n 0 562949953421311 = false := by simpa using h
    have E : Hid (varS n = ⟨#[]⟩) := by unfold varS; rw [if_neg (by rw [h]; simp)]; rfl
    go_enter Tryz.func112, Tryz.ntmps112
    go_wp2_with (go_at_call 79; refine (l1In_any _ _ _ _).mono ?_; rintro e w' ⟨rfl, rfl⟩)
    go_ret
    exact ⟨ret_str E.out, extB⟩
end Go.Proofs.YtiboajlnjldalaaGreatDoor
namespace Go.Proofs.YtiboajlnjldalaaGreatDoor
set_option linter.unusedSimpArgs false
set_option linter.unusedVariables false
open Go.RowKit
set_option maxRecDepth 100000
theorem varS_size (n : Int) : (varS n).size ≤ 8 := by
  unfold varS
  split
  · have := varF_len 8 n.toNat
    rw [size_mk]
    exact this
  · exact Nat.zero_le _
theorem iVar_p (n : Int) : PCalls Tryz.prog 107 [.val (.int .i64 n)] [] (RV (.val (.string (varS n)))) :=
  pcalls_flat (us := [.int .i64 n]) (u := .string (varS n)) rfl (fun _ _ => .val _) fun w _ => var_any n w
theorem sVar_p (n : Int) : PCalls Tryz.prog 112 [.val (.int .i64 n)] [] (RV (.val (.string (varS n)))) :=
  pcalls_flat (us := [.int .i64 n]) (u := .string (varS n)) rfl (fun _ _ => .val _) fun w _ => sVar_any n w
def sizedS (s : ByteArray) : ByteArray := varS s.size ++ s
theorem iSized_p (s : ByteArray) (hs : s.size ≤ 1099511627776) : PCalls Tryz.prog 246 [.val (.string s)] [] (RV (.val (.string (sizedS s)))) := by
  have hv := varS_size s.size
  refine pcalls_ofR okP Tryz.func246 rfl ?_
  simp only [Tryz.f246, List.length_cons, List.length_nil, Nat.reduceAdd, Nat.reduceSub, List.replicate_succ, List.replicate_zero, List.cons_append, List.nil_append, List.length_map]
  repeat' (first | with_reducible (first | refine wA ?_ | refine wB ?_ | refine wC ?_ | refine w1 ?_ | refine w2 ?_ | refine w3 ?_ | refine w4 ?_ | refine w5 ?_ | refine w6 ?_ | refine w7 ?_ | refine w8 ?_ | refine wT ?_ | refine w9 ?_ | refine wE ?_ | refine wS ?_) | ((with_reducible refine hK _ ?_); clear hK K) | ((with_reducible refine pops_plain fun K hK => ?_); simp (disch := omega) only [push_cast, seval]) | ((with_reducible show pcall _ _ _ _ _ _); (first | (refine pcV (cf Tryz.func107) (iVar_p _) ?_)); (try simp (disch := omega) only [push_cast, seval])) | ((with_reducible refine And.intro ?_ ?_); omega))
  ((with_reducible show PPostR _ _ _ _ _ _); refine finV ?_; (try simp only [push_cast, seval]))
  rfl
theorem sPiece_p (s : ByteArray) (hs : s.size ≤ 1099511627776) : PCalls Tryz.prog 232 [.val (.string s)] [] (RV (.val (.string (sizedS s)))) := by
  have hv := varS_size s.size
  refine pcalls_ofR okP Tryz.func232 rfl ?_
  simp only [Tryz.f232, List.length_cons, List.length_nil, Nat.reduceAdd, Nat.reduceSub, List.replicate_succ, List.replicate_zero, List.cons_append, List.nil_append, List.length_map]
  repeat' (first | with_reducible (first | refine wA ?_ | refine wB ?_ | refine wC ?_ | refine w1 ?_ | refine w2 ?_ | refine w3 ?_ | refine w4 ?_ | refine w5 ?_ | refine w6 ?_ | refine w7 ?_ | refine w8 ?_ | refine wT ?_ | refine w9 ?_ | refine wE ?_ | refine wS ?_) | ((with_reducible refine hK _ ?_); clear hK K) | ((with_reducible refine pops_plain fun K hK => ?_); simp (disch := omega) only [push_cast, seval]) | ((with_reducible show pcall _ _ _ _ _ _); (first | (refine pcV (cf Tryz.func112) (sVar_p _) ?_)); (try simp (disch := omega) only [push_cast, seval])) | ((with_reducible refine And.intro ?_ ?_); omega))
  ((with_reducible show PPostR _ _ _ _ _ _); refine finV ?_; (try simp only [push_cast, seval]))
  rfl
end Go.Proofs.YtiboajlnjldalaaGreatDoor
namespace Go.Proofs.YtiboajlnjldalaaGreatDoor
set_option linter.unusedSimpArgs false
set_option linter.unusedVariables false
open Go.RowKit Go.ChangeShapes Go.WideShapes
section
variable {H : Type} {enc : TypeId × Value → H} {P : Program} {w : World}
theorem law_postV {fn : Func} {f : FuncId} {s : ChangeSpec} {tb : TypeId} {apart : Bool} (hv : varsRowed P s.vars = true) (hres : fn.resultTypes = #[tb]) (hb : P.underlying tb = some .bool) (hlaid : laidOutB P = true)
    (hread : fn.params.toList.all (fun t => P.readableRec t && decide (t < P.types.size)) = true)
    (hspec : ∀ (ds gs : List (DataW H)), ds.length = fn.params.toList.length → gs.length = s.vars.length → (s.fn H (ds ++ gs)).results = [.lit (.bool true)] ∧ (s.fn H (ds ++ gs)).args = ds ∧ (s.fn H (ds ++ gs)).vars = gs)
    {args : Array Value} {ds gs : List (DataW H)} {before : List MemPlace} (hgl : gs.length = s.vars.length) (hW : DataW.Whole enc P fn.params.toList s.vars apart w args.toList ds gs before)
    (h : Calls P f args w fun e W' => e = .returned (.bool true) ∧ Ext w W') :
    Calls P f args w fun e W' => ∃ v, e = .returned v ∧ s.post enc P fn apart true false false w args v W' := by
  refine h.mono fun e W' ⟨he, hx⟩ => ⟨_, he, ?_⟩
  have hW' := hW
  obtain ⟨p, q, hA, hV, rfl, hfz, hnd⟩ := hW
  obtain ⟨e1, e2, e3⟩ := hspec ds gs (trodAll_length _ _ _ _ hA) hgl
  refine ⟨ds, gs, _, [], p, q, hW', ?_, ?_, ?_, Below.frame hx _, fun h => by cases h⟩
  · rw [e1, hres]
    exact trodAll_mk1 (shut_bool hb _)
  · rw [e2]
    exact trodAll_below hlaid _ _ _ _ hread hA hx
  · rw [e3]
    exact Below.trodVars hlaid hx hv hV
theorem trodVars_length : ∀ {ns : List String} {gs : List (DataW H)} {sp : Nat → Bool} {ps : List MemPlace}, DataW.TrodVars enc P w sp ns gs ps → gs.length = ns.length
  | [], [], _, _, _ => rfl
  | [], _ :: _, _, _, h => h.elim
  | _ :: _, [], _, _, h => h.elim
  | _ :: ns, _ :: gs, _, _, h => by
    obtain ⟨g, t, cs, fuel, p, q, h1, h2, h3, h4, hs, e⟩ := h
    rw [List.length_cons, List.length_cons, trodVars_length hs]
end
end Go.Proofs.YtiboajlnjldalaaGreatDoor
namespace Go.Proofs.YtiboajlnjldalaaGreatDoor
set_option linter.unusedSimpArgs false
set_option linter.unusedVariables false
open Go.RowKit
abbrev W32 := BitVec 32
def u (x : W32) : Int := (x.toNat : Int)
theorem u_bd (x : W32) : 0 ≤ u x ∧ u x < 4294967296 := by unfold u; have := x.isLt; omega
theorem u_ofInt (x : W32) : BitVec.ofInt 32 (u x) = x := by unfold u; simp
theorem wrap_u32' (n : Int) (h0 : 0 ≤ n) (h1 : n < 4294967296) : IntKind.u32.wrap n = n := by
  simp [IntKind.wrap, IntKind.signed, IntKind.bits]
  omega
theorem wrap_u32_ofInt (n : Int) : IntKind.u32.wrap n = u (BitVec.ofInt 32 n) := by
  unfold u
  simp [IntKind.wrap, IntKind.signed, IntKind.bits, BitVec.toNat_ofInt]
  omega
theorem xor_u (x y : W32) : bits .xor .u32 (u x) (u y) = u (x ^^^ y) := by
  unfold bits
  have h := u_bd (x ^^^ y)
  have e1 : BitVec.ofInt IntKind.u32.bits (u x) = x := u_ofInt x
  have e2 : BitVec.ofInt IntKind.u32.bits (u y) = y := u_ofInt y
  rw [e1, e2]
  exact wrap_u32' _ h.1 h.2
theorem and_u (x y : W32) : bits .and .u32 (u x) (u y) = u (x &&& y) := by
  unfold bits
  have h := u_bd (x &&& y)
  have e1 : BitVec.ofInt IntKind.u32.bits (u x) = x := u_ofInt x
  have e2 : BitVec.ofInt IntKind.u32.bits (u y) = y := u_ofInt y
  rw [e1, e2]
  exact wrap_u32' _ h.1 h.2
theorem or_u (x y : W32) : bits .or .u32 (u x) (u y) = u (x ||| y) := by
  unfold bits
  have h := u_bd (x ||| y)
  have e1 : BitVec.ofInt IntKind.u32.bits (u x) = x := u_ofInt x
  have e2 : BitVec.ofInt IntKind.u32.bits (u y) = y := u_ofInt y
  rw [e1, e2]
  exact wrap_u32' _ h.1 h.2
theorem ofInt_add (a b : Int) : BitVec.ofInt 32 (a + b) = BitVec.ofInt 32 a + BitVec.ofInt 32 b := by simp [BitVec.ofInt_add]
theorem add_u (x y : W32) : IntKind.u32.wrap (u x + u y) = u (x + y) := by rw [wrap_u32_ofInt, ofInt_add, u_ofInt, u_ofInt]
theorem shr_u (x : W32) (n : Nat) : u x / 2 ^ n = u (x >>> n) := by
  unfold u
  rw [BitVec.toNat_ushiftRight, Nat.shiftRight_eq_div_pow]
  simp
theorem shl_u (x : W32) (n : Nat) : IntKind.u32.wrap (u x * 2 ^ n) = u (x <<< n) := by
  rw [wrap_u32_ofInt]
  congr 1
  unfold u
  apply BitVec.eq_of_toNat_eq
  rw [BitVec.toNat_shiftLeft, Nat.shiftLeft_eq]
  have e : ((x.toNat : Int) * 2 ^ n) = ((x.toNat * 2 ^ n : Nat) : Int) := by simp
  rw [e]
  generalize x.toNat * 2 ^ n = m
  simp only [BitVec.toNat_ofInt]
  omega
def rotr (x : W32) (n : Nat) : W32 := (x >>> n) ||| (x <<< (32 - n))
def wd (n : Int) : W32 := BitVec.ofInt 32 n
theorem low_and (n : Int) (h0 : -9223372036854775808 ≤ n) (h1 : n ≤ 9223372036854775807) : bits .and .i64 n 4294967295 = u (wd n) := by
  unfold bits wd u
  have e : (BitVec.ofInt IntKind.i64.bits n &&& BitVec.ofInt IntKind.i64.bits 4294967295).toNat = (BitVec.ofInt 32 n).toNat := by
    rw [BitVec.toNat_and]
    simp only [IntKind.bits, BitVec.toNat_ofInt]
    have e2 : ((4294967295 : Int) % ((2 ^ 64 : Nat) : Int)).toNat = 2 ^ 32 - 1 := by decide
    rw [e2, Nat.and_two_pow_sub_one_eq_mod]
    omega
  simp only [e]
  have := (BitVec.ofInt 32 n).isLt
  exact IntWalk.i64_in _ (by omega)
theorem wd_u (x : W32) : wd (u x) = x := u_ofInt x
theorem wd_add (a b : Int) : wd (a + b) = wd a + wd b := ofInt_add a b
theorem bits_i64_nat (op : BinOp) (x y : W32) (z : W32) (h : (match op with | .and => x &&& y | .or => x ||| y | .xor => x ^^^ y | _ => z) = z) (hop : op = .and ∨ op = .or ∨ op = .xor) : bits op .i64 (u x) (u y) = u z := by
  have hz := z.isLt
  have hx := x.isLt
  have hy := y.isLt
  have e1 : (BitVec.ofInt IntKind.i64.bits (u x)).toNat = x.toNat := by unfold u; simp only [IntKind.bits, BitVec.toNat_ofInt]; omega
  have e2 : (BitVec.ofInt IntKind.i64.bits (u y)).toNat = y.toNat := by unfold u; simp only [IntKind.bits, BitVec.toNat_ofInt]; omega
  rcases hop with rfl | rfl | rfl
  all_goals
    simp only at h
    subst h
    unfold bits
    simp only [BitVec.toNat_and, BitVec.toNat_or, BitVec.toNat_xor, e1, e2]
    unfold u
    simp only [BitVec.toNat_and, BitVec.toNat_or, BitVec.toNat_xor] at hz ⊢
    exact IntWalk.i64_in _ (by omega)
theorem xor_i (x y : W32) : bits .xor .i64 (u x) (u y) = u (x ^^^ y) := bits_i64_nat .xor x y _ rfl (by simp)
theorem and_i (x y : W32) : bits .and .i64 (u x) (u y) = u (x &&& y) := bits_i64_nat .and x y _ rfl (by simp)
theorem rot_i (x : W32) (n : Nat) (h0 : 1 ≤ n) (h1 : n ≤ 31) : wd (bits .or .i64 (u x / 2 ^ n) (u x * 2 ^ (32 - n))) = rotr x n := by
  have hx := x.isLt
  have hp : 2 ^ (32 - n) ≤ 2 ^ 31 := Nat.pow_le_pow_right (by omega) (by omega)
  have a1 : x.toNat / 2 ^ n < 2 ^ 63 := Nat.lt_of_le_of_lt (Nat.div_le_self _ _) (by omega)
  have a2 : x.toNat * 2 ^ (32 - n) < 2 ^ 63 := by
    have : x.toNat * 2 ^ (32 - n) ≤ (2 ^ 32 - 1) * 2 ^ 31 := Nat.mul_le_mul (by omega) hp
    omega
  have q := (bits_nat .i64 63 (by decide) (fun n h0 h1 => IntWalk.i64_in n (by omega)) (x.toNat / 2 ^ n) (x.toNat * 2 ^ (32 - n)) a1 a2).2
  have e1 : (u x / 2 ^ n) = ((x.toNat / 2 ^ n : Nat) : Int) := by unfold u; simp
  have e2 : (u x * 2 ^ (32 - n)) = ((x.toNat * 2 ^ (32 - n) : Nat) : Int) := by unfold u; simp
  rw [e1, e2, q]
  unfold wd rotr
  apply BitVec.eq_of_toNat_eq
  simp only [BitVec.toNat_ofInt, BitVec.toNat_or, BitVec.toNat_ushiftRight, BitVec.toNat_shiftLeft, Nat.shiftRight_eq_div_pow, Nat.shiftLeft_eq]
  have e3 : (((x.toNat / 2 ^ n ||| x.toNat * 2 ^ (32 - n) : Nat) : Int) % ((2 ^ 32 : Nat) : Int)).toNat = (x.toNat / 2 ^ n ||| x.toNat * 2 ^ (32 - n)) % 2 ^ 32 := by omega
  rw [e3, Nat.or_mod_two_pow]
  congr 1
  exact Nat.mod_eq_of_lt (Nat.lt_of_le_of_lt (Nat.div_le_self _ _) (by omega))
end Go.Proofs.YtiboajlnjldalaaGreatDoor
namespace Go.Proofs.YtiboajlnjldalaaGreatDoor
set_option linter.unusedSimpArgs false
set_option linter.unusedVariables false
open Go.RowKit
theorem cnt_rot (m : Nat) (h0 : 1 ≤ m) (h1 : m ≤ 31) : bits .and .u64 (IntKind.u64.wrap (-(m : Int))) 31 = ((32 - m : Nat) : Int) := by
  have : ∀ m : Fin 32, 1 ≤ m.val → bits .and .u64 (IntKind.u64.wrap (-(m.val : Int))) 31 = ((32 - m.val : Nat) : Int) := by decide +kernel
  exact this ⟨m, by omega⟩ h0
theorem rot_u (x : W32) (m : Nat) (h0 : 1 ≤ m) (h1 : m ≤ 31) : u (rotr x m) = bits .or .u32 (u x * 2 ^ (32 - m) % 4294967296) (u x / 2 ^ (32 - (32 - m))) := by
  have e1 : u x * 2 ^ (32 - m) % 4294967296 = u (x <<< (32 - m)) := by
    rw [← shl_u]
    simp [IntKind.wrap, IntKind.signed, IntKind.bits]
  rw [e1, show 32 - (32 - m) = m by omega, shr_u, or_u, BitVec.or_comm]
  rfl
theorem shl_64 (x : W32) (m : Nat) (h0 : 1 ≤ m) (h1 : m ≤ 31) : wrap64 (u x * 2 ^ (32 - m)) = u x * 2 ^ (32 - m) := by
  have hx := x.isLt
  have hp : 2 ^ (32 - m) ≤ 2 ^ 31 := Nat.pow_le_pow_right (by omega) (by omega)
  have h2 : x.toNat * 2 ^ (32 - m) ≤ (2 ^ 32 - 1) * 2 ^ 31 := Nat.mul_le_mul (by omega) hp
  have e2 : (u x * 2 ^ (32 - m)) = ((x.toNat * 2 ^ (32 - m) : Nat) : Int) := by unfold u; simp
  rw [e2]
  exact IntWalk.wrap64_in _ ⟨by omega, by omega⟩
theorem rot_any (x : W32) (m : Nat) (w : World) (h0 : 1 ≤ m) (h1 : m ≤ 31) :
    Calls Tryz.prog 264 #[.int .u32 (u x), .int .i64 (-(m : Int))] w fun e w' => e = .returned (.int .u32 (u (rotr x m))) ∧ w = w' := by
  have hc := cnt_rot m h0 h1
  have ub := u_bd x
  have HR := Lib.hid (rot_u x m h0 h1)
  go_enter Tryz.func264, Tryz.ntmps264
  go_wp2
  go_ret
  exact ⟨ret_int HR.out, rfl⟩
theorem l3Word_any (n : Int) (w : World) (h0 : -9223372036854775808 ≤ n) (h1 : n ≤ 9223372036854775807) :
    Calls Tryz.prog 243 #[.int .i64 n] w fun e w' => e = .returned (.int .i64 (u (wd n))) ∧ w = w' := by
  have h := low_and n h0 h1
  go_enter Tryz.func243, Tryz.ntmps243
  go_wp2
  go_ret
  exact ⟨rfl, rfl⟩
theorem l3Right_any (x : W32) (m : Nat) (w : World) (h0 : 1 ≤ m) (h1 : m ≤ 31) :
    Calls Tryz.prog 242 #[.int .i64 (u x), .int .u64 (m : Int)] w fun e w' => e = .returned (.int .i64 (u (rotr x m))) ∧ w = w' := by
  have ub := u_bd x
  have hw := shl_64 x m h0 h1
  have HR := Lib.hid (rot_i x m h0 h1)
  go_enter Tryz.func242, Tryz.ntmps242
  go_wp2_with fail
  (refine (l3Word_any _ _ (bits_within .or .i64 _ _).1 (bits_within .or .i64 _ _).2).mono ?_); rw [HR.out]; rintro e w' ⟨rfl, rfl⟩
  go_wp2
  go_ret
  exact ⟨rfl, rfl⟩
def be4 (a b c d : Nat) : W32 := BitVec.ofNat 32 (a * 16777216 + b * 65536 + c * 256 + d)
theorem u_be4 {a b c d : Nat} (ha : a < 256) (hb : b < 256) (hc : c < 256) (hd : d < 256) : u (be4 a b c d) = (a * 16777216 + b * 65536 + c * 256 + d : Nat) := by
  unfold u be4
  rw [BitVec.toNat_ofNat]
  omega
theorem be4_u32 {a b c d : Nat} (ha : a < 256) (hb : b < 256) (hc : c < 256) (hd : d < 256) :
    bits .or .u32 (bits .or .u32 (bits .or .u32 ((a : Int) % 4294967296 * 16777216 % 4294967296) ((b : Int) % 4294967296 * 65536 % 4294967296)) ((c : Int) % 4294967296 * 256 % 4294967296)) ((d : Int) % 4294967296) = u (be4 a b c d) := by
  have hw : ∀ n : Int, 0 ≤ n → n < 2 ^ 32 → IntKind.u32.wrap n = n := fun n h0 h1 => wrap_u32' n h0 (by omega)
  rw [bits_join .u32 32 (by decide) hw 24 _ ((b : Int) % 4294967296 * 65536 % 4294967296) (by omega) (by omega) (by omega) (by omega) (by omega) (by omega)]
  rw [bits_join .u32 32 (by decide) hw 16 _ ((c : Int) % 4294967296 * 256 % 4294967296) (by omega) (by omega) (by omega) (by omega) (by omega) (by omega)]
  rw [bits_join .u32 32 (by decide) hw 8 _ ((d : Int) % 4294967296) (by omega) (by omega) (by omega) (by omega) (by omega) (by omega)]
  rw [u_be4 ha hb hc hd]
  omega
theorem be4_i64 {a b c d : Nat} (ha : a < 256) (hb : b < 256) (hc : c < 256) (hd : d < 256) :
    bits .or .i64 (bits .or .i64 (bits .or .i64 ((a : Int) * 16777216) ((b : Int) * 65536)) ((c : Int) * 256)) (d : Int) = u (be4 a b c d) := by
  have hw : ∀ n : Int, 0 ≤ n → n < 2 ^ 62 → IntKind.i64.wrap n = n := fun n h0 h1 => IntWalk.i64_in n (by omega)
  rw [bits_join .i64 62 (by decide) hw 24 _ ((b : Int) * 65536) (by omega) (by omega) (by omega) (by omega) (by omega) (by omega)]
  rw [bits_join .i64 62 (by decide) hw 16 _ ((c : Int) * 256) (by omega) (by omega) (by omega) (by omega) (by omega) (by omega)]
  rw [bits_join .i64 62 (by decide) hw 8 _ ((d : Int)) (by omega) (by omega) (by omega) (by omega) (by omega) (by omega)]
  rw [u_be4 ha hb hc hd]
  omega
def wordAt (s : ByteArray) (i : Nat) : W32 := be4 (s.data.getD i 0).toNat (s.data.getD (i + 1) 0).toNat (s.data.getD (i + 2) 0).toNat (s.data.getD (i + 3) 0).toNat
theorem byte_getD {s : ByteArray} {i : Nat} (h : i < s.size) : s.data.getD i 0 = s[i] := by
  have h' : i < s.data.size := h
  rw [Array.getD_eq_getD_getElem?, Array.getElem?_eq_getElem h']
  rfl
theorem word_any (s : ByteArray) (w : World) (h : 4 ≤ s.size) :
    Calls Tryz.prog 263 #[.string s] w fun e w' => ∃ n, e = .returned (.int .u32 (u (wordAt s 0))) ∧ w' = w.drewN n := by
  have i0' : 0 < s.size := by omega
  have i0 : (0 : Int) < (s.size : Int) := by omega
  have i1 : (1 : Int) < (s.size : Int) := by omega
  have i2 : (2 : Int) < (s.size : Int) := by omega
  have i3 : (3 : Int) < (s.size : Int) := by omega
  have HR : Hid (u (wordAt s 0) = _) := Lib.hid (show u (wordAt s 0) = bits .or .u32 (bits .or .u32 (bits .or .u32 (((s[0]'(by omega)).toNat : Int) % 4294967296 * 16777216 % 4294967296) (((s[1]'(by omega)).toNat : Int) % 4294967296 * 65536 % 4294967296)) (((s[2]'(by omega)).toNat : Int) % 4294967296 * 256 % 4294967296)) (((s[3]'(by omega)).toNat : Int) % 4294967296) from by
    unfold wordAt
    rw [byte_getD (by omega), byte_getD (by omega), byte_getD (by omega), byte_getD (by omega)]
    exact (be4_u32 (UInt8.toNat_lt _) (UInt8.toNat_lt _) (UInt8.toNat_lt _) (UInt8.toNat_lt _)).symm)
  go_enter Tryz.func263, Tryz.ntmps263
  go_wp2
  go_quiet (fail)
  go_wp2
  go_ret
  exact ⟨_, ret_int HR.out, rfl⟩
end Go.Proofs.YtiboajlnjldalaaGreatDoor
namespace Go.Proofs.YtiboajlnjldalaaGreatDoor
set_option linter.unusedSimpArgs false
set_option linter.unusedVariables false
open Go.RowKit
def sg0 (x : W32) : W32 := rotr x 7 ^^^ rotr x 18 ^^^ (x >>> 3)
def sg1 (x : W32) : W32 := rotr x 17 ^^^ rotr x 19 ^^^ (x >>> 10)
def wl (s : ByteArray) (at' : Nat) : Nat → List W32
  | 0 => []
  | n + 1 => wl s at' n ++ [if n < 16 then wordAt s (at' + 4 * n) else (wl s at' n).getD (n - 16) 0 + sg0 ((wl s at' n).getD (n - 15) 0) + (wl s at' n).getD (n - 7) 0 + sg1 ((wl s at' n).getD (n - 2) 0)]
theorem wl_len (s : ByteArray) (a n : Nat) : (wl s a n).length = n := by
  induction n with
  | zero => rfl
  | succ n ih => simp [wl, ih]
def wrow (s : ByteArray) (a n : Nat) : List W32 := wl s a n ++ List.replicate (64 - n) 0
theorem wrow_len (s : ByteArray) (a n : Nat) (h : n ≤ 64) : (wrow s a n).length = 64 := by simp [wrow, wl_len]; omega
theorem wrow_set (s : ByteArray) (a n : Nat) (h : n < 64) : (wrow s a n).set n ((wl s a (n + 1)).getD n 0) = wrow s a (n + 1) := by
  have e : 64 - n = (64 - (n + 1)) + 1 := by omega
  have g : (wl s a (n + 1)).getD n 0 = (if n < 16 then wordAt s (a + 4 * n) else (wl s a n).getD (n - 16) 0 + sg0 ((wl s a n).getD (n - 15) 0) + (wl s a n).getD (n - 7) 0 + sg1 ((wl s a n).getD (n - 2) 0)) := by
    rw [wl, List.getD_eq_getElem?_getD, List.getElem?_append_right (by rw [wl_len]; omega), wl_len]
    simp
  rw [g]
  unfold wrow
  rw [e, List.replicate_succ, List.set_append, if_neg (by rw [wl_len]; omega), wl_len, Nat.sub_self, List.set_cons_zero]
  simp [wl]
theorem wrow_get (s : ByteArray) (a n i : Nat) (h : i < n) : (wrow s a n)[i]? = some ((wl s a n).getD i 0) := by
  unfold wrow
  rw [List.getElem?_append_left (by rw [wl_len]; exact h), List.getD_eq_getElem?_getD, List.getElem?_eq_getElem (by rw [wl_len]; exact h)]
  rfl
structure HSt where
  a : W32
  b : W32
  c : W32
  d : W32
  e : W32
  f : W32
  g : W32
  h : W32
def rndT (v : HSt) (k w : W32) : W32 := v.h + (rotr v.e 6 ^^^ rotr v.e 11 ^^^ rotr v.e 25) + ((v.e &&& v.f) ^^^ (~~~v.e &&& v.g)) + k + w
def rnd (v : HSt) (k w : W32) : HSt :=
  ⟨rndT v k w + (rotr v.a 2 ^^^ rotr v.a 13 ^^^ rotr v.a 22) + ((v.a &&& v.b) ^^^ (v.a &&& v.c) ^^^ (v.b &&& v.c)), v.a, v.b, v.c, v.d + rndT v k w, v.e, v.f, v.g⟩
def shaK : List W32 := [0x428a2f98, 0x71374491, 0xb5c0fbcf, 0xe9b5dba5, 0x3956c25b, 0x59f111f1, 0x923f82a4, 0xab1c5ed5,
  0xd807aa98, 0x12835b01, 0x243185be, 0x550c7dc3, 0x72be5d74, 0x80deb1fe, 0x9bdc06a7, 0xc19bf174,
  0xe49b69c1, 0xefbe4786, 0x0fc19dc6, 0x240ca1cc, 0x2de92c6f, 0x4a7484aa, 0x5cb0a9dc, 0x76f988da,
  0x983e5152, 0xa831c66d, 0xb00327c8, 0xbf597fc7, 0xc6e00bf3, 0xd5a79147, 0x06ca6351, 0x14292967,
  0x27b70a85, 0x2e1b2138, 0x4d2c6dfc, 0x53380d13, 0x650a7354, 0x766a0abb, 0x81c2c92e, 0x92722c85,
  0xa2bfe8a1, 0xa81a664b, 0xc24b8b70, 0xc76c51a3, 0xd192e819, 0xd6990624, 0xf40e3585, 0x106aa070,
  0x19a4c116, 0x1e376c08, 0x2748774c, 0x34b0bcb5, 0x391c0cb3, 0x4ed8aa4a, 0x5b9cca4f, 0x682e6ff3,
  0x748f82ee, 0x78a5636f, 0x84c87814, 0x8cc70208, 0x90befffa, 0xa4506ceb, 0xbef9a3f7, 0xc67178f2]
def rnds (v : HSt) (ws : List W32) : Nat → HSt
  | 0 => v
  | n + 1 => rnd (rnds v ws n) (shaK.getD n 0) (ws.getD n 0)
def addS (x y : HSt) : HSt := ⟨x.a + y.a, x.b + y.b, x.c + y.c, x.d + y.d, x.e + y.e, x.f + y.f, x.g + y.g, x.h + y.h⟩
def blk (v : HSt) (s : ByteArray) (a : Nat) : HSt := addS v (rnds v (wl s a 64) 64)
def vW (x : W32) : Value := .int .u32 (u x)
def arrW (l : List W32) : Array Value := (l.map vW).toArray
theorem arrW_get {l : List W32} {i : Nat} {x : W32} (h : l[i]? = some x) : (arrW l)[i]? = some (.int .u32 (u x)) := by simp [arrW, h, vW]
theorem arrW_set {l : List W32} {i : Nat} {x : W32} : (arrW l).setIfInBounds i (.int .u32 (u x)) = arrW (l.set i x) := by simp [arrW, List.map_set, vW]
def cellsS (v : HSt) : Array Value := #[.int .u32 (u v.a), .int .u32 (u v.b), .int .u32 (u v.c), .int .u32 (u v.d), .int .u32 (u v.e), .int .u32 (u v.f), .int .u32 (u v.g), .int .u32 (u v.h)]
def listS (v : HSt) : List W32 := [v.a, v.b, v.c, v.d, v.e, v.f, v.g, v.h]
theorem fold_add (x y : W32) : (u x + u y) % 4294967296 = u (x + y) := by
  rw [← add_u]
  simp [IntKind.wrap, IntKind.signed, IntKind.bits]
theorem fold_shr3 (x : W32) : u x / (8 : Int) = u (x >>> (3 : Nat)) := shr_u x 3
theorem fold_shr10 (x : W32) : u x / (1024 : Int) = u (x >>> (10 : Nat)) := shr_u x 10
theorem sched_eq (a16 a15 a7 a2 : W32) : (u a16 + bits BinOp.xor IntKind.u32 (u (rotr a15 7 ^^^ rotr a15 18)) (u a15 / 8) + u a7 + bits BinOp.xor IntKind.u32 (u (rotr a2 17 ^^^ rotr a2 19)) (u a2 / 1024)) % 4294967296 = u (a16 + sg0 a15 + a7 + sg1 a2) := by
  rw [fold_shr3, fold_shr10, xor_u, xor_u]
  rw [← fold_add, ← fold_add, ← fold_add]
  unfold sg0 sg1
  omega
theorem wrow_64 (s : ByteArray) (a : Nat) : wrow s a 64 = wl s a 64 := by simp [wrow]
theorem not_u (x : W32) : bits .xor .u32 IntKind.u32.max (u x) = u (~~~x) := by
  unfold bits
  have h := u_bd (~~~x)
  have e1 : BitVec.ofInt IntKind.u32.bits IntKind.u32.max = BitVec.allOnes 32 := (by decide : BitVec.ofInt 32 4294967295 = BitVec.allOnes 32)
  have e2 : BitVec.ofInt IntKind.u32.bits (u x) = x := u_ofInt x
  rw [e1, e2]
  have e3 : (BitVec.allOnes 32 ^^^ x) = ~~~x := by ext i hi; rw [BitVec.getElem_xor, BitVec.getElem_allOnes, BitVec.getElem_not]; cases x[i] <;> rfl
  show IntKind.u32.wrap ((BitVec.allOnes 32 ^^^ x).toNat : Int) = _
  rw [e3]
  exact wrap_u32' _ h.1 h.2
theorem rnd_a (st : HSt) (kk ww : W32) : (u st.h + bits BinOp.xor IntKind.u32 (bits BinOp.xor IntKind.u32 (u (rotr st.e 6)) (u (rotr st.e 11))) (u (rotr st.e 25)) + bits BinOp.xor IntKind.u32 (bits BinOp.and IntKind.u32 (u st.e) (u st.f)) (bits BinOp.and IntKind.u32 (bits BinOp.xor IntKind.u32 IntKind.u32.max (u st.e)) (u st.g)) + u kk + u ww + bits BinOp.xor IntKind.u32 (bits BinOp.xor IntKind.u32 (u (rotr st.a 2)) (u (rotr st.a 13))) (u (rotr st.a 22)) + bits BinOp.xor IntKind.u32 (bits BinOp.xor IntKind.u32 (bits BinOp.and IntKind.u32 (u st.a) (u st.b)) (bits BinOp.and IntKind.u32 (u st.a) (u st.c))) (bits BinOp.and IntKind.u32 (u st.b) (u st.c))) % 4294967296 = u (rnd st kk ww).a := by
  simp only [not_u, xor_u, and_u]
  unfold rnd rndT
  simp only [← fold_add]
  omega
theorem rnd_e (st : HSt) (kk ww : W32) : (u st.d + (u st.h + bits BinOp.xor IntKind.u32 (bits BinOp.xor IntKind.u32 (u (rotr st.e 6)) (u (rotr st.e 11))) (u (rotr st.e 25)) + bits BinOp.xor IntKind.u32 (bits BinOp.and IntKind.u32 (u st.e) (u st.f)) (bits BinOp.and IntKind.u32 (bits BinOp.xor IntKind.u32 IntKind.u32.max (u st.e)) (u st.g)) + u kk + u ww)) % 4294967296 = u (rnd st kk ww).e := by
  simp only [not_u, xor_u, and_u]
  unfold rnd rndT
  simp only [← fold_add]
  omega
theorem cells_set8 (v : HSt) (x0 x1 x2 x3 x4 x5 x6 x7 : Value) : ((((((((cellsS v).setIfInBounds 0 x0).setIfInBounds 1 x1).setIfInBounds 2 x2).setIfInBounds 3 x3).setIfInBounds 4 x4).setIfInBounds 5 x5).setIfInBounds 6 x6).setIfInBounds 7 x7 = #[x0, x1, x2, x3, x4, x5, x6, x7] := by simp [cellsS]
theorem box8 {w : World} {b : Nat} {st : HSt} {kk ww : W32} {x0 x4 : Int} (h : Box w b (cellsS st)) (h0 : x0 = u (rnd st kk ww).a) (h4 : x4 = u (rnd st kk ww).e) :
    Box ((((((((w.setCell ⟨b, 0, none⟩ (.int .u32 x0)).setCell ⟨b, 1, none⟩ (.int .u32 (u st.a))).setCell ⟨b, 2, none⟩ (.int .u32 (u st.b))).setCell ⟨b, 3, none⟩ (.int .u32 (u st.c))).setCell ⟨b, 4, none⟩ (.int .u32 x4)).setCell ⟨b, 5, none⟩ (.int .u32 (u st.e))).setCell ⟨b, 6, none⟩ (.int .u32 (u st.f))).setCell ⟨b, 7, none⟩ (.int .u32 (u st.g))) b (cellsS (rnd st kk ww)) := by
  subst h0
  subst h4
  have q := (((((((h.set (o := 0) (.int .u32 (u (rnd st kk ww).a))).set (o := 1) (.int .u32 (u st.a))).set (o := 2) (.int .u32 (u st.b))).set (o := 3) (.int .u32 (u st.c))).set (o := 4) (.int .u32 (u (rnd st kk ww).e))).set (o := 5) (.int .u32 (u st.e))).set (o := 6) (.int .u32 (u st.f))).set (o := 7) (.int .u32 (u st.g))
  rw [cells_set8] at q
  exact q
def addL (v r : HSt) (k : Nat) : List W32 := (List.zipWith (· + ·) (listS v) (listS r)).take k ++ (listS v).drop k
theorem addL_step (v r : HSt) : ∀ k, k < 8 → (addL v r k)[k]? = some ((listS v).getD k 0) ∧ (listS r)[k]? = some ((listS r).getD k 0) ∧ (addL v r k).set k ((listS v).getD k 0 + (listS r).getD k 0) = addL v r (k + 1)
  | 0, _ => ⟨rfl, rfl, rfl⟩
  | 1, _ => ⟨rfl, rfl, rfl⟩
  | 2, _ => ⟨rfl, rfl, rfl⟩
  | 3, _ => ⟨rfl, rfl, rfl⟩
  | 4, _ => ⟨rfl, rfl, rfl⟩
  | 5, _ => ⟨rfl, rfl, rfl⟩
  | 6, _ => ⟨rfl, rfl, rfl⟩
  | 7, _ => ⟨rfl, rfl, rfl⟩
  | k + 8, h => by omega
theorem addL_end (v r : HSt) : arrW (addL v r 8) = cellsS (addS v r) := rfl
theorem addL_start (v r : HSt) : arrW (addL v r 0) = cellsS v := rfl
theorem arrW_listS (v : HSt) : arrW (listS v) = cellsS v := rfl
def ShaTab (w : World) : Prop := ∀ i, i < 64 → w.cell? ⟨0, i, none⟩ = some (.int .u32 (u (shaK.getD i 0)))
theorem ShaTab.pos {w : World} (h : ShaTab w) : 0 < w.heap.size := World.block_lt_of_cell? w ⟨0, 0, none⟩ (h 0 (by omega))
theorem ShaTab.ext {w w' : World} (h : ShaTab w) (hb : Ext w w') : ShaTab w' := fun i hi => (hb.cells.1 0 i h.pos).trans (h i hi)
theorem wordAt_cut (s : ByteArray) (k : Nat) (h : k + 4 ≤ s.size) : wordAt (s.extract k s.size) 0 = wordAt s k := by
  have hs : (s.extract k s.size).data = s.data.extract k s.size := by simp [ByteArray.extract, ByteArray.copySlice]; rw [show k + (s.size - k) = s.size by omega]
  have g : ∀ j, j < 4 → (s.extract k s.size).data.getD j 0 = s.data.getD (k + j) 0 := fun j hj => by
    have h1 : s.data.size = s.size := rfl
    rw [hs, Array.getD_eq_getD_getElem?, Array.getD_eq_getD_getElem?, Array.getElem?_extract]
    rw [if_pos (by omega)]
  unfold wordAt
  rw [show (0 : Nat) + 1 = 1 from rfl, show (0 : Nat) + 2 = 2 from rfl, show (0 : Nat) + 3 = 3 from rfl, g 0 (by omega), g 1 (by omega), g 2 (by omega), g 3 (by omega)]
  rfl
end Go.Proofs.YtiboajlnjldalaaGreatDoor
namespace Go.Proofs.YtiboajlnjldalaaGreatDoor
set_option linter.unusedSimpArgs false
set_option linter.unusedVariables false
open Go.RowKit
def fxL (n w : Nat) : List UInt8 := (List.range w).map fun p => UInt8.ofNat (n / 256 ^ (w - 1 - p))
def fxR (n w j : Nat) : List UInt8 := (List.range w).map fun p => if w ≤ p + j then UInt8.ofNat (n / 256 ^ (w - 1 - p)) else 0
theorem fxR_zero (n w : Nat) : fxR n w 0 = List.replicate w 0 := by
  apply List.ext_getElem
  · simp [fxR]
  · intro i h1 h2
    simp [fxR] at h1 ⊢
    omega
theorem fxR_end (n w : Nat) : fxR n w w = fxL n w := by
  apply List.ext_getElem
  · simp [fxR, fxL]
  · intro i h1 h2
    simp [fxR, fxL]
theorem fxR_set (n w j : Nat) (h : j < w) : (fxR n w j).set (w - 1 - j) (UInt8.ofNat (n / 256 ^ j)) = fxR n w (j + 1) := by
  apply List.ext_getElem
  · simp [fxR]
  · intro i h1 h2
    simp [fxR] at h1 h2
    rw [List.getElem_set]
    by_cases e : w - 1 - j = i
    · subst e
      rw [if_pos rfl]
      simp [fxR]
      rw [if_pos (by omega)]
      congr 2
      congr 1
      omega
    · rw [if_neg e]
      simp [fxR]
      by_cases c : w ≤ i + j
      · rw [if_pos c, if_pos (by omega)]
      · rw [if_neg c, if_neg (by omega)]
end Go.Proofs.YtiboajlnjldalaaGreatDoor
namespace Go.Proofs.YtiboajlnjldalaaGreatDoor
set_option linter.unusedSimpArgs false
set_option linter.unusedVariables false
open Go.RowKit
def fx (n w : Nat) : ByteArray := ⟨(fxL n w).toArray⟩
theorem fx_size (n w : Nat) : (fx n w).size = w := by simp [fx, fxL, ByteArray.size]
def zerosB (n : Nat) : ByteArray := ⟨(List.replicate n 0).toArray⟩
theorem zerosB_size (n : Nat) : (zerosB n).size = n := by simp [zerosB, ByteArray.size]
def padN (n : Nat) : Nat := (64 - (n + 9) % 64) % 64
def padT (s : ByteArray) : ByteArray := s ++ ⟨#[128]⟩ ++ zerosB (padN s.size + 1) ++ fx (8 * s.size) 7
theorem padT_size (s : ByteArray) : (padT s).size = s.size + 9 + padN s.size := by
  have h1 : (⟨#[128]⟩ : ByteArray).size = 1 := rfl
  unfold padT
  rw [ByteArray.size_append, ByteArray.size_append, ByteArray.size_append, zerosB_size, fx_size, h1]
  omega
theorem padT_mod (s : ByteArray) : (padT s).size % 64 = 0 := by rw [padT_size]; unfold padN; omega
def shaGo (p : ByteArray) : Nat → HSt → Nat → HSt
  | 0, v, _ => v
  | n + 1, v, at' => shaGo p n (blk v (p.extract at' (at' + 64)) 0) (at' + 64)
def sha0 : HSt := ⟨0x6a09e667, 0xbb67ae85, 0x3c6ef372, 0xa54ff53a, 0x510e527f, 0x9b05688c, 0x1f83d9ab, 0x5be0cd19⟩
def outGo : List W32 → ByteArray → ByteArray
  | [], o => o
  | x :: r, o => outGo r (o ++ fx x.toNat 4)
def outS (v : HSt) : ByteArray := outGo (listS v) ByteArray.empty
theorem outGo_size : ∀ (l : List W32) (o : ByteArray), (outGo l o).size = o.size + 4 * l.length
  | [], o => by simp [outGo]
  | x :: r, o => by rw [outGo, outGo_size r, ByteArray.size_append, fx_size]; simp; omega
def sha (s : ByteArray) : ByteArray := outS (shaGo (padT s) ((padT s).size / 64) sha0 0)
theorem sha_size (s : ByteArray) : (sha s).size = 32 := by
  unfold sha outS
  rw [outGo_size]
  rfl
def short (s : ByteArray) : ByteArray := (sha s).extract 0 8
theorem short_size (s : ByteArray) : (short s).size = 8 := by
  unfold short
  rw [ByteArray.size_extract, sha_size]
  rfl
end Go.Proofs.YtiboajlnjldalaaGreatDoor
namespace Go.Proofs.YtiboajlnjldalaaGreatDoor
set_option linter.unusedSimpArgs false
set_option linter.unusedVariables false
open Go.RowKit
def vOk (v : GVal) : Bool := inB v.fId 1 99 && inB v.fPower 1 1000
def vLt (u v : GVal) : Bool := decide (u.fId < v.fId)
theorem valsOk_def (l : List GVal) : valsOk l = (adjOk vOk vLt l && inB l.length 1 7) := rfl
def powSum (p : GVal → Bool) : List GVal → Int
  | [] => 0
  | v :: r => (if p v then v.fPower else 0) + powSum p r
theorem powSum_app {p : GVal → Bool} : ∀ (a b : List GVal), powSum p (a ++ b) = powSum p a + powSum p b
  | [], b => by simp [powSum]
  | v :: a, b => by simp only [List.cons_append, powSum, powSum_app a b]; omega
theorem powSum_take {p : GVal → Bool} {l : List GVal} {k : Nat} {x : GVal} (h : l[k]? = some x) : powSum p (l.take (k + 1)) = powSum p (l.take k) + (if p x then x.fPower else 0) := by
  rw [List.take_add_one, h, powSum_app]
  simp [powSum]
theorem valsOk_iff {l : List GVal} : valsOk l = true ↔ (∀ (k : Nat) v, l[k]? = some v → vOk v = true) ∧ (∀ (k : Nat) u v, l[k]? = some u → l[k + 1]? = some v → u.fId < v.fId) ∧ 1 ≤ l.length ∧ l.length ≤ 7 := by
  rw [valsOk_def, Bool.and_eq_true, inB_iff]
  have h1 : adjOk vOk vLt l = true ↔ (∀ (k : Nat) v, l[k]? = some v → vOk v = true) ∧ (∀ (k : Nat) u v, l[k]? = some u → l[k + 1]? = some v → u.fId < v.fId) := by
    constructor
    · intro h
      have key : ∀ (k : Nat) v, l[k]? = some v → adjAt vOk vLt l k = true := fun k v hk => allN_get h (List.getElem?_eq_some_iff.1 hk).1
      refine ⟨fun k v hk => ?_, fun k u v hu hv => ?_⟩
      · have := key k v hk
        unfold adjAt at this
        rw [hk] at this
        simp only [Bool.and_eq_true] at this
        exact this.1
      · have := key (k + 1) v hv
        rw [adjAt_succ hv hu, Bool.and_eq_true] at this
        exact of_decide_eq_true this.2
    · rintro ⟨h1, h2⟩
      refine adjOk_end fun i hi => ?_
      obtain ⟨v, hv⟩ : ∃ v, l[i]? = some v := ⟨_, List.getElem?_eq_getElem hi⟩
      cases i with
      | zero => rw [adjAt_zero hv]; exact h1 0 v hv
      | succ j =>
        obtain ⟨u, hu⟩ : ∃ u, l[j]? = some u := ⟨_, List.getElem?_eq_getElem (by omega)⟩
        rw [adjAt_succ hv hu, h1 _ v hv, Bool.true_and]
        exact decide_eq_true (h2 j u v hu hv)
  rw [h1]
  constructor
  · rintro ⟨⟨a, b⟩, c, d⟩; exact ⟨a, b, by omega, by omega⟩
  · rintro ⟨a, b, c, d⟩; exact ⟨⟨a, b⟩, by omega, by omega⟩
theorem vOk_facts {v : GVal} (h : vOk v = true) : 1 ≤ v.fId ∧ v.fId ≤ 99 ∧ 1 ≤ v.fPower ∧ v.fPower ≤ 1000 := by
  unfold vOk at h
  rw [Bool.and_eq_true, inB_iff, inB_iff] at h
  omega
theorem powSum_bd {p : GVal → Bool} : ∀ {l : List GVal}, (∀ v ∈ l, vOk v = true) → 0 ≤ powSum p l ∧ powSum p l ≤ 1000 * l.length
  | [], _ => by simp [powSum]
  | v :: r, h => by
    have h1 := vOk_facts (h v (List.mem_cons_self ..))
    have h2 := powSum_bd (p := p) (l := r) fun x hx => h x (List.mem_cons_of_mem _ hx)
    simp only [powSum, List.length_cons]
    split <;> omega
theorem vals_all {l : List GVal} (h : valsOk l = true) : ∀ v ∈ l, vOk v = true := fun v hv => by
  obtain ⟨k, hk, rfl⟩ := List.getElem_of_mem hv
  exact (valsOk_iff.1 h).1 k _ (List.getElem?_eq_getElem hk)
theorem powSum_k {p : GVal → Bool} {l : List GVal} (h : valsOk l = true) (k : Nat) : 0 ≤ powSum p (l.take k) ∧ powSum p (l.take k) ≤ 7000 := by
  have h1 := powSum_bd (p := p) (l := l.take k) fun v hv => vals_all h v (List.mem_of_mem_take hv)
  have h2 := (valsOk_iff.1 h).2.2.2
  have h3 : (l.take k).length ≤ 7 := by rw [List.length_take]; omega
  omega
def powerOf (l : List GVal) : Int := if valsOk l then powSum (fun _ => true) l else 0
def hasI (l : List Int) (x : Int) : Bool := l.any fun y => decide (y = x)
def enough (l : List GVal) (ids : List Int) : Bool := valsOk l && decide (2 * powSum (fun _ => true) l < 3 * powSum (fun v => hasI ids v.fId) l)
def catF {α : Type} (f : α → ByteArray) (s : ByteArray) : List α → ByteArray
  | [] => s
  | x :: r => catF f (s ++ f x) r
theorem catF_app {α : Type} {f : α → ByteArray} : ∀ (s : ByteArray) (a b : List α), catF f s (a ++ b) = catF f (catF f s a) b
  | s, [], b => rfl
  | s, x :: a, b => by simp only [List.cons_append, catF]; exact catF_app _ a b
theorem catF_take {α : Type} {f : α → ByteArray} {s : ByteArray} {l : List α} {k : Nat} {x : α} (h : l[k]? = some x) : catF f s (l.take (k + 1)) = catF f s (l.take k) ++ f x := by
  rw [List.take_add_one, h, catF_app]
  rfl
theorem catF_size {α : Type} {f : α → ByteArray} {n : Nat} (hf : ∀ x, (f x).size ≤ n) : ∀ (s : ByteArray) (l : List α), (catF f s l).size ≤ s.size + n * l.length
  | s, [] => by simp [catF]
  | s, x :: r => by
    have h1 := catF_size hf (s ++ f x) r
    have h2 := hf x
    rw [ByteArray.size_append] at h1
    simp only [catF, List.length_cons]
    rw [Nat.mul_add]
    omega
def showVal (v : GVal) : ByteArray := varS v.fId ++ varS v.fPower
theorem showVal_size (v : GVal) : (showVal v).size ≤ 16 := by
  have h1 := varS_size v.fId
  have h2 := varS_size v.fPower
  unfold showVal
  rw [ByteArray.size_append]
  omega
def showVals (l : List GVal) : ByteArray := if valsOk l then catF showVal (varS l.length) l else ⟨#[]⟩
theorem showVals_size (l : List GVal) : (showVals l).size ≤ 200 := by
  unfold showVals
  split
  · rename_i h
    have h1 := catF_size (f := showVal) showVal_size (varS l.length) l
    have h2 := varS_size l.length
    have h3 := (valsOk_iff.1 h).2.2.2
    omega
  · exact Nat.zero_le _
def valsHash (l : List GVal) : ByteArray := if valsOk l then short (showVals l) else ⟨#[]⟩
theorem valsHash_ok {l : List GVal} (h : valsOk l = true) : (valsHash l).size = 8 := by unfold valsHash; rw [if_pos h]; exact short_size _
theorem valsHash_no {l : List GVal} (h : valsOk l = false) : valsHash l = ⟨#[]⟩ := by unfold valsHash; rw [h]; rfl
theorem valsHash_le (l : List GVal) : (valsHash l).size ≤ 8 := by
  cases h : valsOk l
  · rw [valsHash_no h]; exact Nat.zero_le _
  · rw [valsHash_ok h]; exact Nat.le_refl _
def headerOk (h : GHeader) : Bool :=
  isHeight h.fHeight && isTime h.fTime && decide ((h.fVals.size : Int) = 8) && decide ((h.fNext.size : Int) = 8) && decide ((h.fLast.size : Int) = if h.fHeight = 1 then 0 else 8) && decide ((h.fData.size : Int) ≤ 20)
def showHeader (h : GHeader) : ByteArray := if headerOk h then varS h.fHeight ++ varS h.fTime ++ sizedS h.fLast ++ sizedS h.fVals ++ sizedS h.fNext ++ sizedS h.fData else ⟨#[]⟩
structure HeadFacts (h : GHeader) : Prop where
  h1 : 1 ≤ h.fHeight
  h2 : h.fHeight ≤ 1000000
  t0 : 0 ≤ h.fTime
  t1 : h.fTime ≤ 1000000
  v : h.fVals.size = 8
  n : h.fNext.size = 8
  l : h.fLast.size ≤ 8
  l1 : h.fHeight = 1 → h.fLast.size = 0
  l2 : h.fHeight ≠ 1 → h.fLast.size = 8
  d : h.fData.size ≤ 20
theorem headerOk_facts {h : GHeader} (k : headerOk h = true) : HeadFacts h := by
  unfold headerOk isHeight isTime at k
  simp only [Bool.and_eq_true, inB_iff, decide_eq_true_eq] at k
  obtain ⟨⟨⟨⟨⟨⟨a, b⟩, c, d⟩, e⟩, f⟩, g⟩, i⟩ := k
  refine ⟨a, b, c, d, by omega, by omega, ?_, fun q => ?_, fun q => ?_, by omega⟩
  · split at g <;> omega
  · rw [if_pos q] at g; omega
  · rw [if_neg q] at g; omega
theorem showHeader_size (h : GHeader) : (showHeader h).size ≤ 200 := by
  unfold showHeader
  split
  · rename_i k
    have f := headerOk_facts k
    have := f.v; have := f.n; have := f.l; have := f.d
    have := varS_size h.fHeight; have := varS_size h.fTime; have := varS_size h.fLast.size; have := varS_size h.fVals.size; have := varS_size h.fNext.size; have := varS_size h.fData.size
    unfold sizedS
    simp only [ByteArray.size_append]
    omega
  · exact Nat.zero_le _
def headId (h : GHeader) : ByteArray := if headerOk h then short (showHeader h) else ⟨#[]⟩
theorem headId_ok {h : GHeader} (k : headerOk h = true) : (headId h).size = 8 := by unfold headId; rw [if_pos k]; exact short_size _
theorem headId_le (h : GHeader) : (headId h).size ≤ 8 := by
  unfold headId
  split
  · rw [short_size]; exact Nat.le_refl _
  · exact Nat.zero_le _
def digest (v : GVote) : ByteArray := if voteOk v then varS v.fHeight ++ varS v.fRound ++ varS v.fStep ++ v.fId else ⟨#[]⟩
theorem isId_le {s : ByteArray} (h : isId s = true) : s.size ≤ 8 := by
  unfold isId at h
  rw [Bool.or_eq_true, decide_eq_true_eq, eqB_iff] at h
  rcases h with h | rfl
  · omega
  · exact Nat.zero_le _
theorem digest_size (v : GVote) : (digest v).size ≤ 40 := by
  unfold digest
  split
  · rename_i h
    unfold voteOk at h
    simp only [Bool.and_eq_true] at h
    have := isId_le h.1.2
    have := varS_size v.fHeight; have := varS_size v.fRound; have := varS_size v.fStep
    simp only [ByteArray.size_append]
    omega
  · exact Nat.zero_le _
def signAs (val : Int) (d : ByteArray) : ByteArray := if isVal val then short (⟨#[4]⟩ ++ fx val.toNat 2 ++ d) else ⟨#[]⟩
def signed (v : GVote) (sig : ByteArray) : Bool := voteOk v && eqB sig (signAs v.fVal (digest v))
def cVote (c : GCommit) (val : Int) : GVote := ⟨c.fHeight, c.fRound, 2, c.fId, val⟩
def sigOk (c : GCommit) (s : GCSig) : Bool := signed (cVote c s.fVal) s.fSig
theorem sigOk_val {c : GCommit} {s : GCSig} (h : sigOk c s = true) : 1 ≤ s.fVal ∧ s.fVal ≤ 99 := by
  unfold sigOk signed voteOk cVote isVal at h
  simp only [Bool.and_eq_true, inB_iff] at h
  omega
def sigVals (c : GCommit) (l : List GCSig) : List Int := (l.filter (sigOk c)).map (·.fVal)
theorem sigVals_take {c : GCommit} {l : List GCSig} {k : Nat} {x : GCSig} (h : l[k]? = some x) : sigVals c (l.take (k + 1)) = if sigOk c x then sigVals c (l.take k) ++ [x.fVal] else sigVals c (l.take k) := by
  unfold sigVals
  rw [List.take_add_one, h]
  cases e : sigOk c x <;> simp [e]
def sigAt (c : GCommit) (v : Int) : Bool := c.fSigs.any fun s => decide (s.fVal = v) && sigOk c s
def scanVals (c : GCommit) (n : Nat) : List Int := ((List.range n).map fun k => ((k : Nat) : Int) + 1).filter (sigAt c)
def commitVals (c : GCommit) : List Int := if 12 < c.fSigs.length then [] else scanVals c 99
theorem scanVals_succ {c : GCommit} {n : Nat} : scanVals c (n + 1) = if sigAt c ((n : Int) + 1) then scanVals c n ++ [(n : Int) + 1] else scanVals c n := by
  unfold scanVals
  rw [List.range_succ]
  simp only [List.map_append, List.map_cons, List.map_nil, List.filter_append]
  cases e : sigAt c ((n : Int) + 1) <;> simp [e]
theorem scanVals_len (c : GCommit) (n : Nat) : (scanVals c n).length ≤ n := by
  unfold scanVals
  exact Nat.le_trans (List.length_filter_le _ _) (by simp)
theorem commitVals_len (c : GCommit) : (commitVals c).length ≤ 99 := by
  unfold commitVals
  split
  · simp
  · exact scanVals_len c 99
theorem rising_eq : ∀ {a b : List Int}, a.Pairwise (· < ·) → b.Pairwise (· < ·) → (∀ x, x ∈ a ↔ x ∈ b) → a = b
  | [], [], _, _, _ => rfl
  | [], y :: b, _, _, h => absurd ((h y).2 (List.mem_cons_self ..)) (by simp)
  | x :: a, [], _, _, h => absurd ((h x).1 (List.mem_cons_self ..)) (by simp)
  | x :: a, y :: b, ha, hb, h => by
    obtain ⟨ha1, ha2⟩ := List.pairwise_cons.1 ha
    obtain ⟨hb1, hb2⟩ := List.pairwise_cons.1 hb
    have e : x = y := by
      rcases List.mem_cons.1 ((h x).1 (List.mem_cons_self ..)) with q | q
      · exact q
      · rcases List.mem_cons.1 ((h y).2 (List.mem_cons_self ..)) with q' | q'
        · exact q'.symm
        · have := hb1 x q; have := ha1 y q'; omega
    subst e
    congr 1
    refine rising_eq ha2 hb2 fun z => ⟨fun hz => ?_, fun hz => ?_⟩
    · rcases List.mem_cons.1 ((h z).1 (List.mem_cons_of_mem _ hz)) with rfl | q
      · have := ha1 _ hz; omega
      · exact q
    · rcases List.mem_cons.1 ((h z).2 (List.mem_cons_of_mem _ hz)) with rfl | q
      · have := hb1 _ hz; omega
      · exact q
theorem scanVals_rising (c : GCommit) (n : Nat) : (scanVals c n).Pairwise (· < ·) := by
  unfold scanVals
  refine List.Pairwise.filter _ ?_
  rw [List.pairwise_map]
  exact List.Pairwise.imp (fun h => by omega) List.pairwise_lt_range
theorem scanVals_mem {c : GCommit} {x : Int} : x ∈ scanVals c 99 ↔ x ∈ sigVals c c.fSigs := by
  unfold scanVals sigVals
  simp only [List.mem_filter, List.mem_map, List.mem_range, sigAt, List.any_eq_true, Bool.and_eq_true, decide_eq_true_eq]
  constructor
  · rintro ⟨_, s, h1, h2, h3⟩; exact ⟨s, ⟨h1, h3⟩, h2⟩
  · rintro ⟨s, ⟨h1, h3⟩, rfl⟩
    have := sigOk_val h3
    exact ⟨⟨(s.fVal - 1).toNat, by omega, by omega⟩, s, h1, rfl, h3⟩
def commitOk (l : List GVal) (h : GHeader) (c : GCommit) : Bool :=
  valsOk l && headerOk h && decide (c.fHeight = h.fHeight) && eqB c.fId (headId h) && eqB (valsHash l) h.fVals && enough l (commitVals c)
def trustOk (t : GTrust) : Bool := inB t.fPeriod 1 100000 && inB t.fSlack 0 1000
def fresh (t : GTrust) (time now : Int) : Bool := trustOk t && isTime time && isTime now && decide (now ≤ time + t.fPeriod) && decide (time ≤ now + t.fSlack)
end Go.Proofs.YtiboajlnjldalaaGreatDoor
namespace Go.Proofs.YtiboajlnjldalaaGreatDoor
set_option linter.unusedSimpArgs false
set_option linter.unusedVariables false
open Go.RowKit
theorem adjAt_f {α : Type} {f : α → Bool} {g : α → α → Bool} {l : List α} {k : Nat} {v : α} (h : adjAt f g l k = true) (hv : l[k]? = some v) : f v = true := by
  unfold adjAt at h
  rw [hv] at h
  simp only [Bool.and_eq_true] at h
  exact h.1
theorem adjOk_iff {α : Type} {f : α → Bool} {g : α → α → Bool} {l : List α} : adjOk f g l = true ↔ (∀ (k : Nat) v, l[k]? = some v → f v = true) ∧ (∀ (k : Nat) u v, l[k]? = some u → l[k + 1]? = some v → g u v = true) := by
  constructor
  · intro h
    have key : ∀ (k : Nat) v, l[k]? = some v → adjAt f g l k = true := fun k v hk => allN_get h (List.getElem?_eq_some_iff.1 hk).1
    refine ⟨fun k v hk => adjAt_f (key k v hk) hk, fun k u v hu hv => ?_⟩
    have := key (k + 1) v hv
    rw [adjAt_succ hv hu, Bool.and_eq_true] at this
    exact this.2
  · rintro ⟨h1, h2⟩
    refine adjOk_end fun i hi => ?_
    obtain ⟨v, hv⟩ : ∃ v, l[i]? = some v := ⟨_, List.getElem?_eq_getElem hi⟩
    cases i with
    | zero => rw [adjAt_zero hv]; exact h1 0 v hv
    | succ j =>
      obtain ⟨u, hu⟩ : ∃ u, l[j]? = some u := ⟨_, List.getElem?_eq_getElem (by omega)⟩
      rw [adjAt_succ hv hu, h1 _ v hv, h2 j u v hu hv]
      rfl
def blockOk (b : GBlock) : Bool := valsOk b.fNext && eqB b.fHead.fNext (valsHash b.fNext) && commitOk b.fVals b.fHead b.fCommit
def valEq (a b : GVal) : Bool := decide (a.fId = b.fId) && decide (a.fPower = b.fPower)
def sameAtV (a b : List GVal) (i : Nat) : Bool := match a[i]?, b[i]? with | some x, some y => valEq x y | _, _ => true
def sameVals (a b : List GVal) : Bool := decide (a.length = b.length) && allN (sameAtV a b) a.length
theorem valEq_iff {a b : GVal} : valEq a b = true ↔ a = b := by
  unfold valEq
  cases a; cases b
  simp only [Bool.and_eq_true, decide_eq_true_eq, GVal.mk.injEq]
theorem sameVals_iff {a b : List GVal} : sameVals a b = true ↔ a = b := by
  unfold sameVals
  rw [Bool.and_eq_true, decide_eq_true_eq]
  constructor
  · rintro ⟨h1, h2⟩
    refine List.ext_getElem h1 fun i ha hb => ?_
    have := allN_get h2 ha
    unfold sameAtV at this
    rw [List.getElem?_eq_getElem ha, List.getElem?_eq_getElem hb] at this
    exact valEq_iff.1 this
  · rintro rfl
    refine ⟨rfl, allTo_end fun i hi => ?_⟩
    unfold sameAtV
    rw [List.getElem?_eq_getElem hi]
    exact valEq_iff.2 rfl
def blockLink (p b : GBlock) : Bool := decide (b.fHead.fHeight = p.fHead.fHeight + 1) && eqB b.fHead.fLast (headId p.fHead) && decide (p.fHead.fTime < b.fHead.fTime) && sameVals b.fVals p.fNext
def chainOk (l : List GBlock) : Bool := adjOk blockOk blockLink l
end Go.Proofs.YtiboajlnjldalaaGreatDoor
namespace Go.Proofs.YtiboajlnjldalaaGreatDoor
end Go.Proofs.YtiboajlnjldalaaGreatDoor
namespace Go.Proofs
open Go.Shelf
def Tryz.laysSortFuncV_ren : Go.Shelf.Ren := ⟨fun | 6 => 238 | 15 => 262 | 14 => 265 | 28 => 277 | 29 => 278 | 20 => 279 | 21 => 280 | 22 => 281 | 23 => 282 | 24 => 283 | 25 => 284 | 26 => 285 | 27 => 286 | 46 => 293 | 47 => 288 | 48 => 289 | 49 => 294 | 50 => 295 | 57 => 297 | n => n, fun | 22 => 31 | 24 => 141 | 25 => 268 | 3 => 3 | 39 => 228 | 0 => 0 | 53 => 261 | 55 => 300 | 4 => 4 | 46 => 291 | 45 => 290 | 50 => 296 | 5 => 5 | 9 => 9 | 66 => 306 | 70 => 310 | 76 => 314 | 77 => 238 | n => n, fun | n => n⟩
theorem Tryz.laysSortFuncV : Go.Proofs.SlLaysF0.n6 Tryz.prog Tryz.laysSortFuncV_ren := {
  mixed := by kernel_rfl
  f6 := ⟨Tryz.f238.name, by decide, Tryz.func238.trans (congrArg some (by kernel_rfl))⟩
  f14 := ⟨Tryz.f265.name, by decide, Tryz.func265.trans (congrArg some (by kernel_rfl))⟩
  f15 := Tryz.func262.trans (congrArg some (by kernel_rfl))
  f20 := ⟨Tryz.f279.name, by decide, Tryz.func279.trans (congrArg some (by kernel_rfl))⟩
  f21 := ⟨Tryz.f280.name, by decide, Tryz.func280.trans (congrArg some (by kernel_rfl))⟩
  f22 := ⟨Tryz.f281.name, by decide, Tryz.func281.trans (congrArg some (by kernel_rfl))⟩
  f23 := ⟨Tryz.f282.name, by decide, Tryz.func282.trans (congrArg some (by kernel_rfl))⟩
  f24 := ⟨Tryz.f283.name, by decide, Tryz.func283.trans (congrArg some (by kernel_rfl))⟩
  f25 := ⟨Tryz.f284.name, by decide, Tryz.func284.trans (congrArg some (by kernel_rfl))⟩
  f26 := ⟨Tryz.f285.name, by decide, Tryz.func285.trans (congrArg some (by kernel_rfl))⟩
  f27 := ⟨Tryz.f286.name, by decide, Tryz.func286.trans (congrArg some (by kernel_rfl))⟩
  f28 := Tryz.func277.trans (congrArg some (by kernel_rfl))
  f29 := Tryz.func278.trans (congrArg some (by kernel_rfl))
  f46 := ⟨Tryz.f293.name, by decide, Tryz.func293.trans (congrArg some (by kernel_rfl))⟩
  f47 := Tryz.func288.trans (congrArg some (by kernel_rfl))
  f48 := Tryz.func289.trans (congrArg some (by kernel_rfl))
  f49 := ⟨Tryz.f294.name, by decide, Tryz.func294.trans (congrArg some (by kernel_rfl))⟩
  f50 := ⟨Tryz.f295.name, by decide, Tryz.func295.trans (congrArg some (by kernel_rfl))⟩
  f57 := ⟨Tryz.f297.name, by decide, Tryz.func297.trans (congrArg some (by kernel_rfl))⟩
  t0 := Tryz.underlying0
  a0 := Tryz.isAgg0
  z0 := Tryz.sizeOf0
  v0 := Tryz.zeroValue0
  t3 := Tryz.underlying3
  a3 := Tryz.isAgg3
  z3 := Tryz.sizeOf3
  v3 := Tryz.zeroValue3
  t4 := Tryz.underlying4
  a4 := Tryz.isAgg4
  z4 := Tryz.sizeOf4
  v4 := Tryz.zeroValue4
  t5 := Tryz.underlying5
  a5 := Tryz.isAgg5
  z5 := Tryz.sizeOf5
  v5 := Tryz.zeroValue5
  t9 := Tryz.underlying9
  a9 := Tryz.isAgg9
  z9 := Tryz.sizeOf9
  v9 := Tryz.zeroValue9
  t22 := Tryz.underlying31
  a22 := Tryz.isAgg31
  z22 := Tryz.sizeOf31
  v22 := Tryz.zeroValue31
  t25 := Tryz.underlying268
  a25 := Tryz.isAgg268
  z25 := Tryz.sizeOf268
  v25 := Tryz.zeroValue268
  t39 := Tryz.underlying228
  a39 := Tryz.isAgg228
  z39 := Tryz.sizeOf228
  v39 := Tryz.zeroValue228
  t45 := Tryz.underlying290
  a45 := Tryz.isAgg290
  z45 := Tryz.sizeOf290
  v45 := Tryz.zeroValue290
  t46 := Tryz.underlying291
  a46 := Tryz.isAgg291
  z46 := Tryz.sizeOf291
  v46 := Tryz.zeroValue291
  t50 := Tryz.underlying296
  a50 := Tryz.isAgg296
  z50 := Tryz.sizeOf296
  v50 := Tryz.zeroValue296
  t53 := Tryz.underlying261
  a53 := Tryz.isAgg261
  z53 := Tryz.sizeOf261
  v53 := Tryz.zeroValue261
  t55 := Tryz.underlying300
  a55 := Tryz.isAgg300
  z55 := Tryz.sizeOf300
  v55 := Tryz.zeroValue300
  t66 := Tryz.underlying306
  a66 := Tryz.isAgg306
  z66 := Tryz.sizeOf306
  v66 := Tryz.zeroValue306
  t70 := Tryz.underlying310
  a70 := Tryz.isAgg310
  z70 := Tryz.sizeOf310
  v70 := Tryz.zeroValue310
  t76 := Tryz.underlying314
  a76 := Tryz.isAgg314
  z76 := Tryz.sizeOf314
  v76 := Tryz.zeroValue314
  t77 := Tryz.underlying238
  a77 := Tryz.isAgg238
  z77 := Tryz.sizeOf238
  v77 := Tryz.zeroValue238 }
end Go.Proofs
namespace Go.Proofs.YtiboajlnjldalaaGreatDoor
set_option linter.unusedSimpArgs false
set_option linter.unusedVariables false
open Go.RowKit Go.Sort
set_option maxRecDepth 100000
def vaD (x : GVal) : List D := [.int x.fId, .int x.fPower]
instance : Inhabited GVal := ⟨⟨0, 0⟩⟩
def gV (x : GVal) : List Value := [.int .i64 x.fId, .int .i64 x.fPower]
theorem vaD_val (xs : List GVal) : (xs.flatMap vaD).map valD = xs.flatMap gV := by
  induction xs with
  | nil => rfl
  | cons x r ih => rw [List.flatMap_cons, List.map_append, ih, List.flatMap_cons]; rfl
theorem gV_get : ∀ (ys : List GVal) (i j : Nat) (hi : i < ys.length), j < 2 → (ys.flatMap gV)[i * 2 + j]? = (gV ys[i])[j]?
  | y :: ys, 0, j, hi, hj => by
    rw [List.flatMap_cons, Nat.zero_mul, Nat.zero_add, List.getElem?_append_left (by simpa [gV] using hj)]
    rfl
  | y :: ys, i + 1, j, hi, hj => by
    rw [List.flatMap_cons, List.getElem?_append_right (by simp [gV]; omega)]
    have e : (i + 1) * 2 + j - (gV y).length = i * 2 + j := by simp [gV]; omega
    rw [e, gV_get ys i j (by simpa using hi) hj]
    rfl
theorem gV_len (ys : List GVal) : (ys.flatMap gV).length = ys.length * 2 := by
  induction ys with
  | nil => rfl
  | cons y r ih => rw [List.flatMap_cons, List.length_append, ih, List.length_cons]; simp [gV]; omega
theorem gV_flatK (ys : List GVal) : flatK gV 2 ys.toArray = (ys.flatMap gV).toArray := by
  refine ext_get! (by rw [size_flatK, List.size_toArray, List.size_toArray, gV_len]) fun t ht => ?_
  have ht' : t < ys.length * 2 := by simpa using ht
  rw [get_flatK _ _ _ t (by simpa using ht')]
  have h1 : t / 2 < ys.length := by omega
  have h2 : t % 2 < 2 := by omega
  have e := gV_get ys (t / 2) (t % 2) h1 h2
  rw [show t / 2 * 2 + t % 2 = t by omega] at e
  have e1 : (ys.toArray)[t / 2]! = ys[t / 2] := by simp [h1]
  rw [e1]
  simp only [List.getElem!_toArray, List.getElem!_eq_getElem?_getD, e]
theorem holds_of_block {w : World} {g : Nat} {cur : Array Value} {e : TypeId} {L : List Value} (hb : w.heap[g]? = some (.cells cur e (0, 0))) (ht : cur.toList.take L.length = L) : Holds id w g 0 L.toArray := by
  intro j hj
  have hj' : j < L.length := by simpa using hj
  refine ⟨?_, by simp [World.frozen?, hb]⟩
  have h1 : (cur.toList.take L.length)[j]? = L[j]? := by rw [ht]
  rw [List.getElem?_take_of_lt hj'] at h1
  simp only [World.cell?, hb, Nat.zero_add]
  simp only [Option.isSome_none, Bool.false_eq_true, if_false]
  rw [← Array.getElem?_toList, h1]
  simp [hj']
theorem heap_sortedV {w : World} {g n : Nat} {os : Array Go.Obj} {cur : Array Value} {e : TypeId} {fr : Nat × Nat} (d : Array Value) (hb : w.heap[g]? = some (.cells cur e fr)) :
    (grow (putRow id (Sort.ahead w n) g 0 d) os).heap[g]? = some (.cells (putCells id 0 d cur) e fr) := by
  have hg : g < w.heap.size := (Array.getElem?_eq_some_iff.1 hb).1
  rw [heap_grow_old _ _ (by simpa using hg)]
  simp [putRow, mapBlock, Sort.ahead, Array.getElem?_modify, hb, onCells]
theorem grownBy_sortedV {w : World} {g n : Nat} {os : Array Go.Obj} (d : Array Value) : w.grownBy (grow (putRow id (Sort.ahead w n) g 0 d) os) (some g) := by
  refine ⟨rfl, rfl, rfl, by simp, fun k hk hne => ?_⟩
  rw [heap_grow_old _ _ (by simpa using hk)]
  have : g ≠ k := fun e => hne (by rw [e])
  simp [putRow, mapBlock, Sort.ahead, Array.getElem?_modify, this]
theorem take_putCellsV (cur : Array Value) (L : List Value) (h : L.length ≤ cur.size) : (putCells id 0 L.toArray cur).toList.take L.length = L := by
  apply List.ext_getElem?
  intro j
  by_cases hj : j < L.length
  · rw [List.getElem?_take_of_lt hj, Array.getElem?_toList]
    simp [putCells, hj, show j < cur.size by omega]
  · rw [List.getElem?_take_eq_none (by omega), List.getElem?_eq_none (by omega)]
theorem row_va {M : Mem} {h : Home} {w : World} {t : TypeId} {v : Value} {ys : List GVal} (hv : ∃ o n c, v = .slice o n c) (ho : w.ownsRow 0 t 2 v ys.length (ys.flatMap gV)) : BR M h w v (.row t 2 (ys.map pVal)) := by
  refine ⟨hv, ys.flatMap gV, by simpa using ho, fun row hr => by obtain ⟨x, _, rfl⟩ := List.mem_map.1 hr; rfl, fun u hu => ?_, fun i j row pv u a b d => ?_⟩
  · obtain ⟨x, _, hx⟩ := List.mem_flatMap.1 hu
    simp [gV] at hx
    rcases hx with rfl | rfl <;> rfl
  · rw [List.getElem?_map, Option.map_eq_some_iff] at a
    obtain ⟨x, a, rfl⟩ := a
    have hj : j < 2 := (List.getElem?_eq_some_iff.1 b).1
    obtain ⟨hi, e⟩ := List.getElem?_eq_some_iff.1 a
    rw [gV_get ys i j hi hj, e] at d
    match j, hj with
    | 0, _ => simp [gV] at d; simp [pVal] at b; subst d; subst b; exact .val _
    | 1, _ => simp [gV] at d; simp [pVal] at b; subst d; subst b; exact .val _
section
variable {P : Program} {f g : FuncId}
theorem pcalls_sortF {xs ys : List GVal} (hyl : ys.length = xs.length) (hs : ∀ (blk cap : Nat) (w : World), HoldsK gV 2 w blk 0 xs.toArray → blk < w.heap.size → xs.length < 4611686018427387904 → Calls P f #[.slice (some ⟨blk, 0, none⟩) xs.length cap, .func (.func g) #[] #[]] w fun e w' => e = .returned (.tuple #[]) ∧ ∃ n os, w' = sortWorldK gV 2 w blk 0 n ys.toArray os)
    (hn : ∀ w : World, Calls P f #[.slice none 0 0, .func (.func g) #[] #[]] w fun e w' => e = .returned (.tuple #[]) ∧ w' = w) (t : TypeId) (hl : xs.length ≤ 1099511627776) :
    PCalls P f [.own 0, .val (.func (.func g) #[] #[])] [some (.row t 2 (xs.map pVal))] (RH (.tup []) [some (.row t 2 (ys.map pVal))]) := by
  intro M h w vs I rv
  obtain ⟨v, u, rfl⟩ : ∃ v u, vs = #[v, u] := ⟨vs[0]'(by have := rv.1; simp at this; omega), vs[1]'(by have := rv.1; simp at this; omega), by
    have := rv.1
    simp at this
    exact Array.ext (by simp; try omega) fun i h1 h2 => by
      simp at h2
      match i, h2 with
      | 0, _ => rfl
      | 1, _ => rfl⟩
  have r := rv.2 0 _ v rfl rfl
  have ru := vr_val (rv.2 1 _ u rfl rfl)
  subst ru
  cases r with
  | own _ oo n c hb =>
    have q1 := I.row_own (enc := vaD) (sz := 2) (xs := xs) (fun _ => rfl) (by decide) (fun _ => rfl) (b := 0) rfl hb
    rw [vaD_val] at q1
    by_cases hv : (Value.slice oo n c) = .slice none 0 0
    · rw [hv] at q1 hb ⊢
      have hx : xs = [] := by
        rcases q1.2 with ⟨_, g2⟩ | ⟨g, cap, cur, g1, _⟩
        · exact List.length_eq_zero_iff.1 g2
        · cases g1
      subst hx
      have hnil : ys = [] := List.length_eq_zero_iff.1 hyl
      exact (hn w).mono fun e w' ⟨e1, e2⟩ => by subst e2; exact ⟨_, M, h, .tup [], _, e1, ⟨rfl, by rw [hnil]⟩, .tup [] #[] rfl (fun i pv v a => by simp at a), .refl I⟩
    · rcases q1.2 with ⟨g1', _⟩ | ⟨g', cap', cur, hv', hbase, hbk, k1, k2, k3, k4⟩
      · exact absurd g1' hv
      cases hv'
      have hH : HoldsK gV 2 w g' 0 xs.toArray := by
        unfold HoldsK
        rw [gV_flatK]
        exact holds_of_block hbk (by rw [gV_len]; exact k4)
      have hc := hs g' c w hH (Array.getElem?_eq_some_iff.1 hbk).1 (by omega)
      refine hc.mono fun e w' ⟨e2, nn, os, e3⟩ => ?_
      have hs2 : w'.ownsRow 0 t 2 (.slice (some ⟨g', 0, none⟩) xs.length c) ys.length (ys.flatMap gV) := by
        rw [e3]
        unfold sortWorldK putRowK
        rw [gV_flatK]
        refine ⟨gV_len _, .inr ⟨g', c, _, by rw [hyl], hbase, heap_sortedV _ hbk, by rw [hyl]; exact k1, k2, by simp [putCells, k3], ?_⟩⟩
        rw [← gV_len]
        refine take_putCellsV _ _ ?_
        rw [gV_len, hyl]
        omega
      exact ⟨_, M, h, .tup [], _, e2, ⟨rfl, rfl⟩, .tup [] #[] rfl (fun i pv v a => by simp at a), Step.turn I (b := 0) rfl hb rfl (by rw [e3]; unfold sortWorldK putRowK; exact grownBy_sortedV _) (row_va ⟨_, _, _, rfl⟩ hs2)⟩
end
theorem vsame_of_id {l : List GVal} (h : (l.map (·.fId)).Nodup) {a b : GVal} (ha : a ∈ l) (hb : b ∈ l) (e : a.fId = b.fId) : a = b := by
  obtain ⟨i, hi, rfl⟩ := List.getElem_of_mem ha
  obtain ⟨j, hj, rfl⟩ := List.getElem_of_mem hb
  rw [List.Nodup, List.pairwise_map, List.pairwise_iff_getElem] at h
  rcases Nat.lt_trichotomy i j with q | q | q
  · exact absurd e (h i j hi hj q)
  · subst q; rfl
  · exact absurd e.symm (h j i hj hi q)
def vcf (x y : GVal) : Int := if x.fId < y.fId then -1 else 1
theorem vlt (x y : GVal) : ltOf vcf x y = decide (x.fId < y.fId) := by
  unfold ltOf vcf
  rw [Bool.eq_iff_iff]
  simp only [decide_eq_true_eq]
  split <;> omega
theorem vswo : SWO (ltOf vcf) where
  irrefl x := by rw [vlt]; simp
  trans x y z h1 h2 := by rw [vlt, decide_eq_true_eq] at *; omega
  ntrans x y z h1 h2 := by rw [vlt, decide_eq_false_iff_not] at *; omega
def vSort (xs : List GVal) : List GVal := xs.mergeSort fun x y => decide (x.fId ≤ y.fId)
theorem vSort_perm (xs : List GVal) : (vSort xs).Perm xs := List.mergeSort_perm xs _
theorem vSort_len (xs : List GVal) : (vSort xs).length = xs.length := (vSort_perm xs).length_eq
theorem vSort_sorted (xs : List GVal) : (vSort xs).Pairwise fun a b => a.fId ≤ b.fId := by
  refine (List.pairwise_mergeSort (le := fun x y : GVal => decide (x.fId ≤ y.fId)) (fun a b c h1 h2 => ?_) (fun a b => ?_) xs).imp fun h => of_decide_eq_true h
  · rw [decide_eq_true_eq] at *; omega
  · rw [Bool.or_eq_true, decide_eq_true_eq, decide_eq_true_eq]; omega
theorem vSort_uniq {xs r : List GVal} (hn : (xs.map (·.fId)).Nodup) (hp : r.Perm xs) (hs : r.Pairwise fun a b => a.fId ≤ b.fId) : r = vSort xs :=
  List.Perm.eq_of_pairwise (le := fun a b : GVal => a.fId ≤ b.fId) (fun a b ha hb h1 h2 => vsame_of_id hn (hp.mem_iff.1 ha) ((vSort_perm xs).mem_iff.1 hb) (by omega)) hs (vSort_sorted xs) (hp.trans (vSort_perm xs).symm)
set_option maxHeartbeats 1000000 in
theorem vcmp_c (x y : GVal) (W : World) : Calls Tryz.prog 239 #[.agg #[.int .i64 x.fId, .int .i64 x.fPower], .agg #[.int .i64 y.fId, .int .i64 y.fPower]] W fun e w' => e = .returned (.int .i64 (vcf x y)) ∧ ∃ q os', w' = grow (W.drewN q) os' := by
  obtain ⟨i, s⟩ := x
  obtain ⟨j, t⟩ := y
  unfold vcf
  dsimp only
  by_cases h : i < j
  · rw [if_pos h]
    go_enter Tryz.func239, Tryz.ntmps239
    go_wp2
    go_ret
    exact ⟨rfl, 0, _, by rw [alloc_eq_grow, alloc_eq_grow, grow_grow]; rfl⟩
  · rw [if_neg h]
    go_enter Tryz.func239, Tryz.ntmps239
    go_wp2
    go_ret
    exact ⟨rfl, 0, _, by rw [alloc_eq_grow, alloc_eq_grow, grow_grow]; rfl⟩
theorem isAggV : ∀ w, (isAgg 141).run Tryz.prog w = .ok true w := fun w => by simp [go_sem]
theorem sizeOfV : ∀ w, (Go.sizeOf 141).run Tryz.prog w = .ok 2 w := fun w => by simp [go_sem]
theorem gV_one (x : GVal) : ∀ v ∈ gV x, v.oneCell' = true := fun v hv => by simp [gV] at hv; rcases hv with rfl | rfl <;> rfl
theorem vsort_u {zs : List GVal} (hnd : (zs.map (·.fId)).Nodup) {d' : Array GVal} (hp : PermIn 0 zs.toArray.size zs.toArray d') (hs : SortedIn (ltOf vcf) 0 zs.toArray.size d') : d' = (vSort zs).toArray := by
  obtain ⟨hsz, _, hperm⟩ := hp
  have e1 : d'.extract 0 zs.toArray.size = d' := by rw [← hsz]; exact Array.extract_size
  rw [e1, Array.extract_size] at hperm
  have key : d'.toList = vSort zs := by
    refine vSort_uniq hnd hperm ?_
    rw [List.pairwise_iff_getElem]
    intro i j hi hj hij
    have hi' : i < d'.size := by simpa using hi
    have hj' : j < d'.size := by simpa using hj
    have := hs i j (Nat.zero_le _) hij (by omega)
    rw [getElem!_pos d' j hj', getElem!_pos d' i hi', vlt, decide_eq_false_iff_not] at this
    simp only [Array.getElem_toList]
    omega
  rw [← key]
theorem vsort_n (w : World) : Calls Tryz.prog 238 #[.slice none 0 0, .func (.func 239) #[] #[]] w fun e w' => e = .returned (.tuple #[]) ∧ w' = w :=
  AnyF.slices_SortFunc_none { Tryz.laysSortFuncV with } none 0 _ w
theorem vsort_p (xs : List GVal) (h : xs.length ≤ 1099511627776 ∧ (xs.map (·.fId)).Nodup) : PCalls Tryz.prog 238 [.own 0, .val (.func (.func 239) #[] #[])] [some (.row 141 2 (xs.map pVal))] (RH (.tup []) [some (.row 141 2 ((vSort xs).map pVal))]) := by
  obtain ⟨hl, hnd⟩ := h
  have eg : ∀ args w, (callFunc 239 args).run Tryz.prog w = .ok (.enter 239 args) w := enters_of Tryz.func239 (by kernel_rfl) rfl
  refine pcalls_sortF (xs := xs) (ys := vSort xs) (vSort_len xs) (fun blk cap w hH hb hz => ?_) vsort_n _ hl
  have hcon := AnyQ.slices_SortFunc Tryz.laysSortFuncV 2 isAggV sizeOfV gV (fun _ => rfl) gV_one vcf vswo 239 #[] blk 0 cap xs.toArray w eg (fun _ _ _ _ x y => vcmp_c x y _) hH hb (by simpa using hz)
  exact hcon.mono fun e w' ⟨h1, d', n, os, h2, h3, h4⟩ => ⟨h1, n, os, by rw [h4, vsort_u hnd h2 h3]⟩
end Go.Proofs.YtiboajlnjldalaaGreatDoor
namespace Go.Proofs.YtiboajlnjldalaaGreatDoor
set_option linter.unusedSimpArgs false
set_option linter.unusedVariables false
open Go.RowKit
set_option maxRecDepth 100000
def vIdx (l : List GVal) (id : Int) : Int := idx (fun p : GVal => decide (p.fId = id)) l
theorem vidx_neg {α : Type} {p : α → Bool} : ∀ {xs : List α}, idx p xs < 0 → ∀ x ∈ xs, p x = false
  | [], _, x, h => by cases h
  | y :: ys, h, x, hx => by
    unfold idx at h
    split at h
    · omega
    · rename_i hy
      rcases List.mem_cons.1 hx with rfl | hx
      · simpa using hy
      · refine vidx_neg (xs := ys) ?_ x hx
        split at h <;> omega
def chOne (p : List GVal) (x : GVal) : List GVal := p.filter (fun q => decide (q.fId < x.fId)) ++ (if x.fPower = 0 then [] else [x]) ++ p.filter (fun q => decide (x.fId < q.fId))
def chHas (p : List GVal) (x : GVal) : Bool := p.any fun q => decide (q.fId = x.fId)
def chFit (p : List GVal) (x : GVal) : Bool := chHas p x || !decide (x.fPower = 0)
def chAll : List GVal → List GVal → Option (List GVal)
  | p, [] => some p
  | p, x :: r => if chFit p x then chAll (chOne p x) r else none
theorem chAll_cons (p : List GVal) (x : GVal) (r : List GVal) : chAll p (x :: r) = if chFit p x = true then chAll (chOne p x) r else none := rfl
def changeVals (l xs : List GVal) : List GVal × Bool :=
  if valsOk l then match chAll l xs with
    | some p => if valsOk p then (p, true) else (l, false)
    | none => (l, false)
  else (l, false)
def vRise (p : List GVal) : Prop := p.Pairwise fun a b => a.fId < b.fId
theorem vRise_ids {p : List GVal} (h : vRise p) : (p.map (·.fId)).Nodup := by
  rw [List.Nodup, List.pairwise_map]
  exact h.imp fun h e => by omega
theorem vnodup {l : List GVal} (h : (l.map (·.fId)).Nodup) : l.Nodup := by
  rw [List.Nodup, List.pairwise_map] at h
  exact h.imp fun h e => h (by rw [e])
theorem valsOk_rise {l : List GVal} (h : valsOk l = true) : vRise l := by
  have f := (valsOk_iff.1 h).2.1
  unfold vRise
  rw [List.pairwise_iff_getElem]
  have key : ∀ (d i : Nat) (hi : i < l.length) (hj : i + d + 1 < l.length), l[i].fId < l[i + d + 1].fId := fun d => by
    induction d with
    | zero => exact fun i hi hj => f i _ _ (List.getElem?_eq_getElem hi) (List.getElem?_eq_getElem hj)
    | succ d ih =>
      intro i hi hj
      have h1 := ih i hi (by omega)
      have h2 := f (i + d + 1) _ _ (List.getElem?_eq_getElem (by omega)) (List.getElem?_eq_getElem (show i + d + 1 + 1 < l.length by omega))
      have e : l[i + (d + 1) + 1] = l[i + d + 1 + 1] := rfl
      rw [e]
      omega
  intro i j hi hj hij
  have := key (j - i - 1) i hi (by omega)
  have e : l[i + (j - i - 1) + 1]'(by omega) = l[j] := by congr 1; omega
  rw [e] at this
  exact this
theorem chOne_rise {p : List GVal} (h : vRise p) (x : GVal) : vRise (chOne p x) := by
  unfold vRise chOne at *
  rw [List.pairwise_append, List.pairwise_append]
  refine ⟨⟨h.sublist List.filter_sublist, ?_, fun a ha b hb => ?_⟩, h.sublist List.filter_sublist, fun a ha b hb => ?_⟩
  · split
    · exact List.Pairwise.nil
    · exact List.pairwise_singleton _ _
  · split at hb
    · cases hb
    · obtain rfl := List.mem_singleton.1 hb
      exact of_decide_eq_true (List.mem_filter.1 ha).2
  · have hbx := of_decide_eq_true (List.mem_filter.1 hb).2
    rcases List.mem_append.1 ha with ha | ha
    · have := of_decide_eq_true (List.mem_filter.1 ha).2
      omega
    · split at ha
      · cases ha
      · obtain rfl := List.mem_singleton.1 ha
        exact hbx
theorem chOne_mem {p : List GVal} {x q : GVal} : q ∈ chOne p x ↔ (q = x ∧ x.fPower ≠ 0) ∨ (q ∈ p ∧ q.fId ≠ x.fId) := by
  unfold chOne
  rw [List.mem_append, List.mem_append, List.mem_filter, List.mem_filter, decide_eq_true_eq, decide_eq_true_eq]
  constructor
  · rintro ((⟨h1, h2⟩ | h) | ⟨h1, h2⟩)
    · exact .inr ⟨h1, by omega⟩
    · split at h
      · cases h
      · rename_i h0
        exact .inl ⟨List.mem_singleton.1 h, h0⟩
    · exact .inr ⟨h1, by omega⟩
  · rintro (⟨rfl, h0⟩ | ⟨h1, h2⟩)
    · exact .inl (.inr (by rw [if_neg h0]; exact List.mem_singleton.2 rfl))
    · rcases Int.lt_or_lt_of_ne h2 with q | q
      · exact .inl (.inl ⟨h1, q⟩)
      · exact .inr ⟨h1, q⟩
theorem chOne_len (p : List GVal) (x : GVal) (h : vRise p) : (chOne p x).length ≤ p.length + 1 := by
  unfold chOne
  rw [List.length_append, List.length_append]
  have key : ∀ l : List GVal, (l.filter fun q => decide (q.fId < x.fId)).length + (l.filter fun q => decide (x.fId < q.fId)).length ≤ l.length := fun l => by
    induction l with
    | nil => simp
    | cons a r ih =>
      simp only [List.filter_cons, List.length_cons]
      split <;> split <;> (try simp only [List.length_cons]) <;> (try omega)
      rename_i h1 h2
      simp only [decide_eq_true_eq] at h1 h2
      omega
  have := key p
  split <;> simp <;> omega
structure SameV (o p : List GVal) : Prop where
  perm : o.Perm p
  rise : vRise p
theorem SameV.ids {o p : List GVal} (h : SameV o p) : (o.map (·.fId)).Nodup := ((h.perm.map _).nodup_iff).2 (vRise_ids h.rise)
theorem SameV.of {o p : List GVal} (hn : (o.map (·.fId)).Nodup) (hr : vRise p) (hm : ∀ q, q ∈ o ↔ q ∈ p) : SameV o p :=
  ⟨(List.perm_ext_iff_of_nodup (vnodup hn) (vnodup (vRise_ids hr))).2 hm, hr⟩
theorem SameV.sort {o p : List GVal} (h : SameV o p) : vSort o = p := (vSort_uniq h.ids h.perm.symm (h.rise.imp fun q => by omega)).symm
theorem same_erase {o p : List GVal} (h : SameV o p) {x q : GVal} {k : Nat} (hk : o[k]? = some q) (he : q.fId = x.fId) (h0 : x.fPower = 0) : SameV (o.eraseIdx k) (chOne p x) := by
  have hkl := (List.getElem?_eq_some_iff.1 hk).1
  refine SameV.of ?_ (chOne_rise h.rise x) fun r => ?_
  · exact h.ids.sublist ((List.eraseIdx_sublist o k).map _)
  · rw [chOne_mem, ← h.perm.mem_iff, List.mem_eraseIdx_iff_getElem?]
    constructor
    · rintro ⟨i, hi, hr⟩
      refine .inr ⟨List.mem_of_getElem? hr, fun e => hi ?_⟩
      have hil := (List.getElem?_eq_some_iff.1 hr).1
      have hnd := h.ids
      rw [List.Nodup, List.pairwise_map, List.pairwise_iff_getElem] at hnd
      have e1 := (List.getElem?_eq_some_iff.1 hr).2
      have e2 := (List.getElem?_eq_some_iff.1 hk).2
      rcases Nat.lt_trichotomy i k with c | c | c
      · exact absurd (by rw [e1, e2, he, e]) (hnd i k hil hkl c)
      · exact c
      · exact absurd (by rw [e1, e2, he, e]) (hnd k i hkl hil c)
    · rintro (⟨_, c⟩ | ⟨h1, h2⟩)
      · exact absurd h0 c
      · obtain ⟨i, hi⟩ := List.getElem?_of_mem h1
        refine ⟨i, fun e => ?_, hi⟩
        subst e
        rw [hk] at hi
        cases hi
        exact h2 he
theorem same_push {o p : List GVal} (h : SameV o p) {x : GVal} (hno : ∀ q ∈ o, q.fId ≠ x.fId) (h0 : x.fPower ≠ 0) : SameV (o ++ [x]) (chOne p x) := by
  refine SameV.of ?_ (chOne_rise h.rise x) fun r => ?_
  · rw [List.map_append, List.map_cons, List.map_nil, List.nodup_append]
    refine ⟨h.ids, by simp, fun a ha b hb => ?_⟩
    obtain ⟨q, hq, rfl⟩ := List.mem_map.1 ha
    obtain rfl := List.mem_singleton.1 hb
    exact hno q hq
  · rw [chOne_mem, ← h.perm.mem_iff, List.mem_append, List.mem_singleton]
    constructor
    · rintro (h1 | rfl)
      · exact .inr ⟨h1, hno r h1⟩
      · exact .inl ⟨rfl, h0⟩
    · rintro (⟨rfl, _⟩ | ⟨h1, _⟩)
      · exact .inr rfl
      · exact .inl h1
theorem same_set {o p : List GVal} (h : SameV o p) {x q : GVal} {k : Nat} (hk : o[k]? = some q) (he : q.fId = x.fId) (h0 : x.fPower ≠ 0) : SameV (o.set k ⟨q.fId, x.fPower⟩) (chOne p x) := by
  have hkl := (List.getElem?_eq_some_iff.1 hk).1
  have hx : (⟨q.fId, x.fPower⟩ : GVal) = x := by rw [he]
  rw [hx]
  have hmap : (o.set k x).map (·.fId) = o.map (·.fId) := by
    rw [List.map_set]
    apply List.ext_getElem?
    intro i
    rw [List.getElem?_set]
    split
    · rename_i e
      subst e
      rw [if_pos (by simpa using hkl), List.getElem?_map, hk, ← he]
      rfl
    · rfl
  have hnd2 : ((o.set k x).map (·.fId)).Nodup := by rw [hmap]; exact h.ids
  refine SameV.of hnd2 (chOne_rise h.rise x) fun r => ?_
  rw [chOne_mem, ← h.perm.mem_iff]
  have hxm : x ∈ o.set k x := List.mem_set hkl _
  constructor
  · intro hr
    by_cases c : r.fId = x.fId
    · exact .inl ⟨vsame_of_id hnd2 hr hxm c, h0⟩
    · rcases List.mem_or_eq_of_mem_set hr with hr | rfl
      · exact .inr ⟨hr, c⟩
      · exact absurd rfl c
  · rintro (⟨rfl, _⟩ | ⟨h1, h2⟩)
    · exact hxm
    · obtain ⟨i, hi⟩ := List.getElem?_of_mem h1
      have hne : k ≠ i := fun c => by
        subst c
        rw [hk] at hi
        cases hi
        exact h2 he
      exact List.mem_of_getElem? (i := i) (by rw [List.getElem?_set_ne hne]; exact hi)
def l6Put (x : GVal) (t : List GVal) : Bool := decide (x.fPower = 0) || t.any fun q => decide (x.fId ≤ q.fId)
def l6Out (x : GVal) (t : List GVal) : List GVal := t.filter (fun q => decide (q.fId < x.fId)) ++ (if l6Put x t = true ∧ x.fPower ≠ 0 then [x] else []) ++ t.filter (fun q => decide (x.fId < q.fId))
theorem l6_nil (x : GVal) : l6Out x [] = [] := by
  unfold l6Out l6Put
  simp
theorem chHas_app (t : List GVal) (q x : GVal) : chHas (t ++ [q]) x = (chHas t x || decide (q.fId = x.fId)) := by
  unfold chHas
  rw [List.any_append]
  simp
theorem l6Put_app (t : List GVal) (q x : GVal) : l6Put x (t ++ [q]) = (l6Put x t || decide (x.fId ≤ q.fId)) := by
  unfold l6Put
  rw [List.any_append, Bool.or_assoc]
  simp
theorem l6_low {t : List GVal} {q x : GVal} (hr : ∀ a ∈ t, a.fId < q.fId) (h : q.fId < x.fId) : l6Out x (t ++ [q]) = l6Out x t ++ [q] ∧ l6Put x (t ++ [q]) = l6Put x t ∧ (l6Put x t = true → x.fPower = 0) := by
  have hB : t.filter (fun q => decide (x.fId < q.fId)) = [] := List.filter_eq_nil_iff.2 fun a ha => by have := hr a ha; simp; omega
  have hP : t.any (fun q => decide (x.fId ≤ q.fId)) = false := by rw [List.any_eq_false]; exact fun a ha => by have := hr a ha; simp; omega
  have hm : l6Put x t = decide (x.fPower = 0) := by unfold l6Put; rw [hP, Bool.or_false]
  have hp2 : l6Put x (t ++ [q]) = l6Put x t := by rw [l6Put_app, decide_eq_false (by omega), Bool.or_false]
  have hmid : (if l6Put x t = true ∧ x.fPower ≠ 0 then [x] else []) = ([] : List GVal) := if_neg (by rw [hm]; simp)
  refine ⟨?_, hp2, fun c => by rw [hm] at c; exact of_decide_eq_true c⟩
  unfold l6Out
  rw [hp2, hmid, List.filter_append, List.filter_append, hB]
  simp [h]
  omega
theorem l6_same {t : List GVal} {q x : GVal} (hr : ∀ a ∈ t, a.fId < q.fId) (h : q.fId = x.fId) : l6Out x (t ++ [q]) = (if l6Put x t = true then l6Out x t else l6Out x t ++ [x]) ∧ l6Put x (t ++ [q]) = true := by
  have hB : t.filter (fun q => decide (x.fId < q.fId)) = [] := List.filter_eq_nil_iff.2 fun a ha => by have := hr a ha; simp; omega
  have hP : t.any (fun q => decide (x.fId ≤ q.fId)) = false := by rw [List.any_eq_false]; exact fun a ha => by have := hr a ha; simp; omega
  have hm : l6Put x t = decide (x.fPower = 0) := by unfold l6Put; rw [hP, Bool.or_false]
  have hp2 : l6Put x (t ++ [q]) = true := by rw [l6Put_app, decide_eq_true (by omega), Bool.or_true]
  refine ⟨?_, hp2⟩
  unfold l6Out
  rw [hp2, List.filter_append, List.filter_append, hB, hm]
  by_cases h0 : x.fPower = 0
  · simp [h0, h]
  · simp [h0, h]
theorem l6_high {t : List GVal} {q x : GVal} (h : x.fId < q.fId) : l6Out x (t ++ [q]) = (if l6Put x t = true then l6Out x t ++ [q] else l6Out x t ++ [x] ++ [q]) ∧ l6Put x (t ++ [q]) = true := by
  have hp2 : l6Put x (t ++ [q]) = true := by rw [l6Put_app, decide_eq_true (by omega), Bool.or_true]
  refine ⟨?_, hp2⟩
  unfold l6Out
  rw [hp2, List.filter_append, List.filter_append]
  cases hq : l6Put x t with
  | true =>
    simp [h]
    omega
  | false =>
    have h0 : x.fPower ≠ 0 := fun c => by unfold l6Put at hq; rw [decide_eq_true c] at hq; simp at hq
    have hB : t.filter (fun q => decide (x.fId < q.fId)) = [] := List.filter_eq_nil_iff.2 fun a ha => by
      unfold l6Put at hq
      rw [Bool.or_eq_false_iff, List.any_eq_false] at hq
      have := hq.2 a ha
      simp at this ⊢
      omega
    simp [h, h0, hB]
    omega
theorem l6_end (p : List GVal) (x : GVal) : (if l6Put x p = true then l6Out x p else l6Out x p ++ [x]) = chOne p x := by
  unfold chOne l6Out
  cases hq : l6Put x p with
  | true =>
    by_cases h0 : x.fPower = 0 <;> simp [h0]
  | false =>
    have h0 : x.fPower ≠ 0 := fun c => by unfold l6Put at hq; rw [decide_eq_true c] at hq; simp at hq
    have hB : p.filter (fun q => decide (x.fId < q.fId)) = [] := List.filter_eq_nil_iff.2 fun a ha => by
      unfold l6Put at hq
      rw [Bool.or_eq_false_iff, List.any_eq_false] at hq
      have := hq.2 a ha
      simp at this ⊢
      omega
    simp [h0, hB]
theorem l6_len (p : List GVal) (x : GVal) : (l6Out x p).length ≤ 2 * p.length + 1 := by
  unfold l6Out
  rw [List.length_append, List.length_append]
  have h1 := List.length_filter_le (fun q : GVal => decide (q.fId < x.fId)) p
  have h2 := List.length_filter_le (fun q : GVal => decide (x.fId < q.fId)) p
  split <;> simp <;> omega
theorem changeVals_no {l xs : List GVal} (h : (changeVals l xs).2 = false) : (changeVals l xs).1 = l := by
  unfold changeVals at h ⊢
  split at h
  · rename_i ok
    rw [if_pos ok]
    split at h
    · split at h
      · cases h
      · rename_i e1 e2
        rw [if_neg e2]
    · rfl
  · rename_i ok
    rw [if_neg ok]
theorem changeVals_yes {l xs : List GVal} (h : (changeVals l xs).2 = true) : valsOk l = true ∧ valsOk (changeVals l xs).1 = true := by
  unfold changeVals at h ⊢
  split at h
  · rename_i ok
    rw [if_pos ok]
    split at h
    · split at h
      · rename_i e2
        rw [if_pos e2]
        exact ⟨ok, e2⟩
      · cases h
    · cases h
  · cases h
end Go.Proofs.YtiboajlnjldalaaGreatDoor
namespace Go.Proofs.YtiboajlnjldalaaGreatDoor
set_option linter.unusedSimpArgs false
set_option linter.unusedVariables false
open Go.RowKit
set_option maxRecDepth 100000
def decF : Nat → Nat → List UInt8
  | 0, _ => []
  | f + 1, n => if n = 0 then [] else UInt8.ofNat (48 + n % 10) :: decF f (n / 10)
def decR (n : Nat) : List UInt8 := decF 3 n
def decS (n : Int) : ByteArray := if n = 0 then ⟨#[48]⟩ else ⟨(decR n.toNat).reverse.toArray⟩
theorem decF_more : ∀ k, k < 100 → decF 2 k = decF 3 k := by decide +kernel
theorem decR_zero : decR 0 = [] := rfl
theorem decR_step {m : Nat} (h0 : m ≠ 0) (h : m < 1000) : decR m = UInt8.ofNat (48 + m % 10) :: decR (m / 10) := by
  have := decF_more (m / 10) (by omega)
  unfold decR
  rw [← this]
  show decF 3 m = _
  rw [decF, if_neg h0]
theorem decF_len : ∀ f n, (decF f n).length ≤ f
  | 0, _ => Nat.le_refl _
  | f + 1, n => by
    rw [decF]
    split
    · exact Nat.zero_le _
    · have := decF_len f (n / 10)
      rw [List.length_cons]
      omega
theorem decR_len (n : Nat) : (decR n).length ≤ 3 := decF_len 3 n
theorem decS_size (n : Int) : (decS n).size ≤ 3 := by
  unfold decS
  split
  · exact (by decide : 1 ≤ 3)
  · rw [size_mk, List.length_reverse]
    exact decR_len _
theorem decR_shape {n : Nat} (h0 : n ≠ 0) (h : n < 1000) : (∃ a, decR n = [a]) ∨ (∃ a b, decR n = [a, b]) ∨ ∃ a b c, decR n = [a, b, c] := by
  have hl := decR_len n
  rw [decR_step h0 h] at hl ⊢
  generalize decR (n / 10) = r at hl ⊢
  match r, hl with
  | [], _ => exact .inl ⟨_, rfl⟩
  | [b], _ => exact .inr (.inl ⟨_, _, rfl⟩)
  | [b, c], _ => exact .inr (.inr ⟨_, _, _, rfl⟩)
  | _ :: _ :: _ :: _, h => simp at h
def hbI (h : ByteArray) (k : Nat) : Int := ((h.data.toList.getD k 0).toNat : Int)
theorem hbI_bd (h : ByteArray) (k : Nat) : 0 ≤ hbI h k ∧ hbI h k < 256 := by
  have := (h.data.toList.getD k 0).toNat_lt
  unfold hbI
  omega
theorem hbI_get {h : ByteArray} {k : Nat} {u : UInt8} (e : h.data.toList[k]? = some u) : hbI h k = (u.toNat : Int) := by
  unfold hbI
  rw [List.getD_eq_getElem?_getD, e]
  rfl
def firstTo (h : ByteArray) (n : Nat) : List GVal := (List.range n).map fun (i : Nat) => (⟨(i : Int) + 1, 1 + hbI h i % 5⟩ : GVal)
theorem firstTo_succ {h : ByteArray} {n : Nat} : firstTo h (n + 1) = firstTo h n ++ [⟨(n : Int) + 1, 1 + hbI h n % 5⟩] := by
  unfold firstTo
  rw [List.range_succ, List.map_append]
  rfl
theorem firstTo_len {h : ByteArray} {n : Nat} : (firstTo h n).length = n := by unfold firstTo; simp
def sigOf (k r : Int) (id : ByteArray) (v : Int) : GCSig := ⟨v, signAs v (digest ⟨k, r, 2, id, v⟩)⟩
def cFor (hd : GHeader) (round : Int) (ids : List Int) : GCommit := ⟨hd.fHeight, round, headId hd, ids.map (sigOf hd.fHeight round (headId hd))⟩
def chX (h : ByteArray) : GVal := ⟨1 + hbI h 4 % 6, hbI h 5 % 4⟩
def nextOf (h : ByteArray) (vals : List GVal) : List GVal := (changeVals vals [chX h]).1
def mkHead (h : ByteArray) (k time : Int) (last : ByteArray) (vals : List GVal) : GHeader := ⟨k, time + 1 + hbI h 6 % 5, last, valsHash vals, valsHash (nextOf h vals), decS (hbI h 7)⟩
def mkCommit (hd : GHeader) (vals : List GVal) : GCommit := cFor hd 0 (vals.map (·.fId))
def mkBlock (h : ByteArray) (k time : Int) (last : ByteArray) (vals : List GVal) : GBlock :=
  ⟨mkHead h k time last vals, vals, nextOf h vals, mkCommit (mkHead h k time last vals) vals⟩
def seedH (seed : ByteArray) (k : Int) : ByteArray := sha (seed ++ decS k)
def chainAt (seed : ByteArray) : Nat → GBlock
  | 0 => mkBlock (seedH seed 1) 1 0 ⟨#[]⟩ (firstTo (seedH seed 1) 4)
  | k + 1 => mkBlock (seedH seed ((k : Int) + 2)) ((k : Int) + 2) (chainAt seed k).fHead.fTime (headId (chainAt seed k).fHead) (chainAt seed k).fNext
def chainTo (seed : ByteArray) (n : Nat) : List GBlock := (List.range n).map (chainAt seed)
theorem chainTo_succ {seed : ByteArray} {n : Nat} : chainTo seed (n + 1) = chainTo seed n ++ [chainAt seed n] := by
  unfold chainTo
  rw [List.range_succ, List.map_append]
  rfl
theorem chainTo_len {seed : ByteArray} {n : Nat} : (chainTo seed n).length = n := by unfold chainTo; simp
theorem chainTo_get {seed : ByteArray} {n k : Nat} (h : k < n) : (chainTo seed n)[k]? = some (chainAt seed k) := by
  unfold chainTo
  rw [List.getElem?_map, List.getElem?_range h]
  rfl
def chainOf (seed : ByteArray) (n : Int) : List GBlock := if inB n 1 12 then chainTo seed n.toNat else []
theorem firstTo_ok (h : ByteArray) : valsOk (firstTo h 4) = true := by
  refine valsOk_iff.2 ⟨fun k v hk => ?_, fun k u v hu hv => ?_, by rw [firstTo_len]; decide, by rw [firstTo_len]; decide⟩
  · have hl := (List.getElem?_eq_some_iff.1 hk).1
    rw [firstTo_len] at hl
    unfold firstTo at hk
    rw [List.getElem?_map, List.getElem?_range hl] at hk
    cases hk
    have := hbI_bd h k
    unfold vOk
    rw [Bool.and_eq_true, inB_iff, inB_iff]
    dsimp only
    omega
  · have hl := (List.getElem?_eq_some_iff.1 hv).1
    rw [firstTo_len] at hl
    unfold firstTo at hu hv
    rw [List.getElem?_map, List.getElem?_range (by omega)] at hu
    rw [List.getElem?_map, List.getElem?_range hl] at hv
    cases hu; cases hv
    dsimp only
    omega
theorem nextOf_ok {h : ByteArray} {vals : List GVal} (ok : valsOk vals = true) : valsOk (nextOf h vals) = true := by
  unfold nextOf
  cases e : (changeVals vals [chX h]).2 with
  | false => rw [changeVals_no e]; exact ok
  | true => exact (changeVals_yes e).2
theorem mkHead_ok {h : ByteArray} {k time : Int} {last : ByteArray} {vals : List GVal} (hk : 1 ≤ k ∧ k ≤ 1000000) (ht : 0 ≤ time ∧ time ≤ 900000) (hl1 : k = 1 → last.size = 0) (hl2 : k ≠ 1 → last.size = 8) (ok : valsOk vals = true) : headerOk (mkHead h k time last vals) = true := by
  have b6 := hbI_bd h 6
  have v1 := valsHash_ok ok
  have v2 := valsHash_ok (nextOf_ok (h := h) ok)
  have d := decS_size (hbI h 7)
  unfold headerOk mkHead isHeight isTime
  simp only [Bool.and_eq_true, inB_iff, decide_eq_true_eq]
  refine ⟨⟨⟨⟨⟨hk, by omega, by omega⟩, by omega⟩, by omega⟩, ?_⟩, by omega⟩
  split
  · rename_i q; rw [hl1 q]; rfl
  · rename_i q; rw [hl2 q]; rfl
structure GoodB (q : Nat) (b : GBlock) : Prop where
  v : valsOk b.fVals = true
  n : valsOk b.fNext = true
  h : headerOk b.fHead = true
  k : b.fHead.fHeight = (q : Int) + 1
  t : 0 ≤ b.fHead.fTime ∧ b.fHead.fTime ≤ 5 * ((q : Int) + 1)
  vh : b.fHead.fVals = valsHash b.fVals
  nh : b.fHead.fNext = valsHash b.fNext
  c : b.fCommit = mkCommit b.fHead b.fVals
theorem mkBlock_good {h : ByteArray} {k : Nat} {hk time : Int} {last : ByteArray} {vals : List GVal} (e : hk = (k : Int) + 1) (hk1 : k < 100000) (ht : 0 ≤ time ∧ time ≤ 5 * (k : Int)) (hl1 : hk = 1 → last.size = 0) (hl2 : hk ≠ 1 → last.size = 8) (ok : valsOk vals = true) : GoodB k (mkBlock h hk time last vals) := by
  have b6 := hbI_bd h 6
  unfold mkBlock
  refine ⟨ok, nextOf_ok ok, mkHead_ok (by omega) (by omega) hl1 hl2 ok, e, ?_, rfl, rfl, rfl⟩
  dsimp only
  unfold mkHead
  dsimp only
  omega
theorem chainAt_zero (seed : ByteArray) : chainAt seed 0 = mkBlock (seedH seed 1) 1 0 ⟨#[]⟩ (firstTo (seedH seed 1) 4) := rfl
theorem chainAt_succ (seed : ByteArray) (k : Nat) : chainAt seed (k + 1) = mkBlock (seedH seed ((k : Int) + 2)) ((k : Int) + 2) (chainAt seed k).fHead.fTime (headId (chainAt seed k).fHead) (chainAt seed k).fNext := rfl
theorem chainAt_good (seed : ByteArray) : ∀ k, k < 100000 → GoodB k (chainAt seed k)
  | 0, _ => by
    rw [chainAt_zero]
    generalize seedH seed 1 = h
    exact mkBlock_good rfl (by decide) (by decide) (fun _ => rfl) (fun q => absurd rfl q) (firstTo_ok h)
  | k + 1, hk => by
    have g := chainAt_good seed k (by omega)
    have gt := g.t
    rw [chainAt_succ]
    generalize seedH seed ((k : Int) + 2) = h
    generalize chainAt seed k = p at g gt
    exact mkBlock_good (by omega) hk (by omega) (fun q => by omega) (fun _ => headId_ok g.h) g.n
theorem powSum_same {p q : GVal → Bool} : ∀ {l : List GVal}, (∀ v ∈ l, p v = q v) → powSum p l = powSum q l
  | [], _ => rfl
  | v :: r, h => by
    simp only [powSum]
    rw [h v (List.mem_cons_self ..), powSum_same fun x hx => h x (List.mem_cons_of_mem _ hx)]
theorem powSum_pos {l : List GVal} (ok : valsOk l = true) : 0 < powSum (fun _ => true) l := by
  have ha := vals_all ok
  have h1 := (valsOk_iff.1 ok).2.2.1
  match l, ha, h1 with
  | v :: r, ha, _ =>
    have h2 := vOk_facts (ha v (List.mem_cons_self ..))
    have h3 := (powSum_bd (p := fun _ => true) (l := r) fun x hx => ha x (List.mem_cons_of_mem _ hx)).1
    simp only [powSum, if_true]
    omega
theorem mkCommit_enough {hd : GHeader} {vals : List GVal} (ok : valsOk vals = true) (hh : headerOk hd = true) : enough vals (commitVals (mkCommit hd vals)) = true := by
  have f := headerOk_facts hh
  have hl := (valsOk_iff.1 ok).2.2.2
  have hi : isId (headId hd) = true := by
    have := headId_ok hh
    unfold isId
    rw [this]
    rfl
  have hsig : ∀ v ∈ vals, hasI (commitVals (mkCommit hd vals)) v.fId = true := fun v hv => by
    have vf := vOk_facts (vals_all ok v hv)
    have hc : commitVals (mkCommit hd vals) = scanVals (mkCommit hd vals) 99 := by
      unfold commitVals
      rw [if_neg]
      show ¬ 12 < ((vals.map _).map _).length
      rw [List.length_map, List.length_map]
      omega
    have hs : sigOk (mkCommit hd vals) (sigOf hd.fHeight 0 (headId hd) v.fId) = true := by
      unfold sigOk signed
      rw [Bool.and_eq_true]
      refine ⟨?_, eqB_iff.2 rfl⟩
      unfold voteOk cVote mkCommit cFor sigOf isHeight isVal
      simp only [Bool.and_eq_true, inB_iff]
      have := f.h1; have := f.h2
      refine ⟨⟨⟨⟨⟨by omega, by omega⟩, by decide, by decide⟩, by decide, by decide⟩, hi⟩, by omega, by omega⟩
    unfold hasI
    rw [List.any_eq_true, hc]
    refine ⟨v.fId, ?_, decide_eq_true rfl⟩
    rw [scanVals_mem]
    unfold sigVals
    rw [List.mem_map]
    exact ⟨sigOf hd.fHeight 0 (headId hd) v.fId, List.mem_filter.2 ⟨List.mem_map.2 ⟨v.fId, List.mem_map.2 ⟨v, hv, rfl⟩, rfl⟩, hs⟩, rfl⟩
  unfold enough
  rw [ok, Bool.true_and, decide_eq_true_eq, powSum_same (p := fun v => hasI (commitVals (mkCommit hd vals)) v.fId) (q := fun _ => true) (fun v hv => hsig v hv)]
  have := powSum_pos ok
  omega
theorem GoodB.commit {k : Nat} {b : GBlock} (g : GoodB k b) : commitOk b.fVals b.fHead b.fCommit = true := by
  rw [g.c]
  unfold commitOk
  rw [g.v, g.h, g.vh, mkCommit_enough g.v g.h]
  simp only [Bool.true_and, Bool.and_true, Bool.and_eq_true, decide_eq_true_eq]
  exact ⟨⟨rfl, eqB_iff.2 rfl⟩, eqB_iff.2 rfl⟩
theorem GoodB.ok {k : Nat} {b : GBlock} (g : GoodB k b) : blockOk b = true := by
  unfold blockOk
  rw [g.n, g.commit, g.nh]
  simp only [Bool.true_and, Bool.and_true]
  exact eqB_iff.2 rfl
theorem chain_link (seed : ByteArray) (k : Nat) (hk : k < 1000) : blockLink (chainAt seed k) (chainAt seed (k + 1)) = true := by
  have g := chainAt_good seed k (by omega)
  have g2 := chainAt_good seed (k + 1) (by omega)
  have k1 := g.k; have k2 := g2.k
  rw [chainAt_succ] at k2 ⊢
  generalize seedH seed ((k : Int) + 2) = h at k2 ⊢
  generalize chainAt seed k = p at k1 k2 ⊢
  have b6 := hbI_bd h 6
  unfold blockLink
  unfold mkBlock at k2 ⊢
  unfold mkHead at k2 ⊢
  dsimp only at k2 ⊢
  simp only [Bool.and_eq_true, decide_eq_true_eq]
  exact ⟨⟨⟨by omega, eqB_iff.2 rfl⟩, by omega⟩, sameVals_iff.2 rfl⟩
theorem chainTo_ok (seed : ByteArray) (n : Nat) (hn : n ≤ 1000) : chainOk (chainTo seed n) = true := by
  refine adjOk_iff.2 ⟨fun k v hk => ?_, fun k u v hu hv => ?_⟩
  · have hl := (List.getElem?_eq_some_iff.1 hk).1
    rw [chainTo_len] at hl
    rw [chainTo_get hl] at hk
    cases hk
    exact (chainAt_good seed k (by omega)).ok
  · have hl := (List.getElem?_eq_some_iff.1 hv).1
    rw [chainTo_len] at hl
    rw [chainTo_get (by omega)] at hu
    rw [chainTo_get hl] at hv
    cases hu; cases hv
    exact chain_link seed k (by omega)
theorem chainOf_ok (seed : ByteArray) (n : Int) : chainOk (chainOf seed n) = true := by
  unfold chainOf
  split
  · rename_i h
    have := inB_iff.1 h
    exact chainTo_ok seed n.toNat (by omega)
  · rfl
end Go.Proofs.YtiboajlnjldalaaGreatDoor
namespace Go.Proofs.YtiboajlnjldalaaGreatDoor
set_option linter.unusedSimpArgs false
set_option linter.unusedVariables false
open Go.RowKit
set_option maxRecDepth 100000
theorem fxR_rows {n w j : Nat} : (fxR n w j).length = w := by simp [fxR]
set_option maxHeartbeats 4000000 in
theorem iFixed_p (n w : Nat) (hw : 1 ≤ w) (hw7 : w ≤ 7) (hn : n < 2 ^ (8 * w)) : PCalls Tryz.prog 233 [.val (.int .i64 (n : Int)), .val (.int .i64 (w : Int))] [] (RV (.val (.string (fx n w)))) := by
  have h56 : (2 : Nat) ^ (8 * w) ≤ 2 ^ 56 := Nat.pow_le_pow_right (by omega) (by omega)
  have hin : inB (w : Int) 1 7 = true := by simp [inB]; omega
  have e0 : (8 * (w : Int)).toNat = 8 * w := by omega
  have e1 : min (8 * w) 64 = 8 * w := by omega
  have e2 : ((2 : Int) ^ (8 * w)) = ((2 ^ (8 * w) : Nat) : Int) := by simp
  have e3 : IntKind.i64.wrap (1 * 2 ^ (8 * w)) = ((2 ^ (8 * w) : Nat) : Int) := by rw [Int.one_mul, e2, wr64] <;> omega
  generalize 2 ^ (8 * w) = B at *
  refine pcalls_ofR okP Tryz.func233 rfl ?_
  simp only [Tryz.f233, List.length_cons, List.length_nil, Nat.reduceAdd, Nat.reduceSub, List.replicate_succ, List.replicate_zero, List.cons_append, List.nil_append, List.length_map]
  repeat' (first | with_reducible (first | refine wA ?_ | refine wB ?_ | refine wC ?_ | refine w1 ?_ | refine w2 ?_ | refine w3 ?_ | refine w4 ?_ | refine w5 ?_ | refine w6 ?_ | refine w7 ?_ | refine w8 ?_ | refine wT ?_ | refine w9 ?_ | refine wE ?_ | refine wS ?_) | ((with_reducible refine hK _ ?_); clear hK K) | ((with_reducible refine PWp.condI ?_); refine ⟨_, rfl, fun hg => ?_, fun hg => ?_⟩ <;> first | (exact absurd hg (by decide)) | ((try simp only [Bool.not_true, Bool.not_false] at hg); (try simp only [hg]); (try simp only [push_cast] at hg); (try exact absurd trivial hg); (try (exfalso; omega)))) | ((with_reducible refine pops_guard0 ?_); refine ⟨_, rfl, fun K hK => ⟨rfl, ?_⟩⟩; (try simp (disch := omega) only [push_cast, seval, hin, e0, e1, e3])) | ((with_reducible refine pops_plain fun K hK => ?_); simp (disch := omega) only [push_cast, seval, hin, e0, e1, e3]) | ((with_reducible refine pops_guard ?_); refine ⟨_, rfl, fun K hK => ⟨_, rfl, fun hg => ?_, fun hg => ?_⟩⟩ <;> first | (exact absurd hg (by decide)) | ((try simp only [Bool.not_true, Bool.not_false] at hg); (try simp only [hg]); (try simp only [push_cast] at hg); (try exact absurd trivial hg); (try (exfalso; omega)); (try simp (disch := omega) only [push_cast, seval, hin, e0, e1, e3]))) | ((with_reducible show pcall _ _ _ _ _ _); (first | (refine pcV (cf Tryz.func77) (within_p _ _ _) ?_)); (try simp (disch := omega) only [push_cast, seval, hin, e0, e1, e3])) | ((with_reducible refine And.intro ?_ ?_); omega))
  have hset : True := trivial
  refine PWp.loopK (α := Nat × Nat) (fun x => match x with | (j, m) => [(0, .val (.int .i64 (m : Int))), (5, .own 0), (6, .val (.int .i64 ((w : Int) - 1 - (j : Int))))]) [1, 2, 3, 7, 8, 9, 10, 11, 12, 13, 14, 15, 16, 17, 18, 19, 20, 21, 22, 23, 24, 25, 26, 27, 28, 29, 30, 31, 32, 33, 34, 35, 36] (fun x => match x with | (j, m) => [some (.row 5 1 ((fxR n w j).map pU8))]) (fun x => match x with | (j, m) => j ≤ w ∧ m = n / 256 ^ j) (fun x => match x with | (j, m) => w - j) ((0, n)) (⟨Nat.zero_le _, by simp⟩) (by (refine ⟨[?_], ?_, ?_, ?_, ?_⟩; rotate_left 1; (· ((first | simp (disch := omega) only [push_cast, seval, fxR_zero, List.map_replicate, pU8, hset] | simp (disch := omega) only [push_cast, seval] | skip); (repeat' (first | exact trivial | exact rfl | refine And.intro ?_ ?_ | omega)))); (· ((first | simp (disch := omega) only [push_cast, seval, fxR_zero, List.map_replicate, pU8, hset] | simp (disch := omega) only [push_cast, seval] | skip); (repeat' (first | exact trivial | exact rfl | refine And.intro ?_ ?_ | omega)))); (· exact rfl); (· (first | exact trivial | exact ⟨rfl, trivial⟩ | exact ⟨rfl, rfl, trivial⟩)))) ?_
  intro x ρ hI; obtain ⟨j, m⟩ := x
  (try dsimp only at hI)
  refine PWp.at (tm' := ?_) (H' := ?_) ?_ ?_ ?_; rotate_left 2; (· ((try simp only [push_cast, seval]); exact rfl)); (· ((try dsimp only); exact rfl))
  obtain ⟨hj, hm⟩ := hI
  clear hset
  have hmn : m ≤ n := by subst hm; exact Nat.div_le_self _ _
  by_cases hlt : j < w
  · have e5 : ((w : Int) - 1 - (j : Int)).toNat = w - 1 - j := by omega
    have hg0 : (fxR n w j)[w - 1 - j]? = some 0 := by
      unfold fxR
      rw [List.getElem?_map, List.getElem?_range (by omega)]
      simp only [Option.map_some]
      rw [if_neg (by omega)]
    have hset : ((fxR n w j).map pU8).set (w - 1 - j) [PV.val (.int .u8 ((m : Int) % 256 % 256))] = (fxR n w (j + 1)).map pU8 := by
      rw [← fxR_set n w j hlt, List.map_set]
      congr 1
      rw [pU8, ← hm]
      congr 3
      simp
    repeat' (first | with_reducible (first | refine wA ?_ | refine wB ?_ | refine wC ?_ | refine w1 ?_ | refine w2 ?_ | refine w3 ?_ | refine w4 ?_ | refine w5 ?_ | refine w6 ?_ | refine w7 ?_ | refine w8 ?_ | refine wT ?_ | refine w9 ?_ | refine wE ?_ | refine wS ?_) | ((with_reducible refine hK _ ?_); clear hK K) | ((with_reducible refine PWp.condI ?_); refine ⟨_, rfl, fun hg => ?_, fun hg => ?_⟩ <;> first | (exact absurd hg (by decide)) | ((try simp only [Bool.not_true, Bool.not_false] at hg); (try simp only [hg]); (try simp only [push_cast] at hg); (try exact absurd trivial hg); (try (exfalso; omega)))) | ((with_reducible refine pops_guard0 ?_); refine ⟨_, rfl, fun K hK => ⟨rfl, ?_⟩⟩; (try simp (disch := omega) only [push_cast, seval, e5, hg0, pU8, fxR_rows])) | ((with_reducible refine pops_plain fun K hK => ?_); simp (disch := omega) only [push_cast, seval, e5, hg0, pU8, fxR_rows]) | ((with_reducible refine pops_guard ?_); refine ⟨_, rfl, fun K hK => ⟨_, rfl, fun hg => ?_, fun hg => ?_⟩⟩ <;> first | (exact absurd hg (by decide)) | ((try simp only [Bool.not_true, Bool.not_false] at hg); (try simp only [hg]); (try simp only [push_cast] at hg); (try exact absurd trivial hg); (try (exfalso; omega)); (try simp (disch := omega) only [push_cast, seval, e5, hg0, pU8, fxR_rows]))) | ((with_reducible show pcall _ _ _ _ _ _); (first | (refine pcV (cf Tryz.func77) (within_p _ _ _) ?_)); (try simp (disch := omega) only [push_cast, seval, e5, hg0, pU8, fxR_rows])) | ((with_reducible refine And.intro ?_ ?_); omega))
    (refine ⟨(j + 1, m / 256), by ((try dsimp only); omega), ?_, by (refine ⟨[?_], ?_, ?_, ?_, ?_⟩; rotate_left 1; (· ((first | simp (disch := omega) only [push_cast, seval, fxR_zero, List.map_replicate, pU8, hset] | simp (disch := omega) only [push_cast, seval] | skip); (repeat' (first | exact trivial | exact rfl | refine And.intro ?_ ?_ | omega)))); (· ((first | simp (disch := omega) only [push_cast, seval, fxR_zero, List.map_replicate, pU8, hset] | simp (disch := omega) only [push_cast, seval] | skip); (repeat' (first | exact trivial | exact rfl | refine And.intro ?_ ?_ | omega)))); (· exact rfl); (· (first | exact trivial | exact ⟨rfl, trivial⟩ | exact ⟨rfl, rfl, trivial⟩)))⟩)
    exact ⟨by omega, by rw [hm, Nat.div_div_eq_div_mul, Nat.pow_succ]⟩
  · obtain rfl : j = w := by omega
    repeat' (first | with_reducible (first | refine wA ?_ | refine wB ?_ | refine wC ?_ | refine w1 ?_ | refine w2 ?_ | refine w3 ?_ | refine w4 ?_ | refine w5 ?_ | refine w6 ?_ | refine w7 ?_ | refine w8 ?_ | refine wT ?_ | refine w9 ?_ | refine wE ?_ | refine wS ?_) | ((with_reducible refine hK _ ?_); clear hK K) | ((with_reducible refine PWp.condI ?_); refine ⟨_, rfl, fun hg => ?_, fun hg => ?_⟩ <;> first | (exact absurd hg (by decide)) | ((try simp only [Bool.not_true, Bool.not_false] at hg); (try simp only [hg]); (try simp only [push_cast] at hg); (try exact absurd trivial hg); (try (exfalso; omega)))) | ((with_reducible refine pops_guard0 ?_); refine ⟨_, rfl, fun K hK => ⟨rfl, ?_⟩⟩; (try simp (disch := omega) only [push_cast, seval])) | ((with_reducible refine pops_plain fun K hK => ?_); simp (disch := omega) only [push_cast, seval]) | ((with_reducible refine pops_guard ?_); refine ⟨_, rfl, fun K hK => ⟨_, rfl, fun hg => ?_, fun hg => ?_⟩⟩ <;> first | (exact absurd hg (by decide)) | ((try simp only [Bool.not_true, Bool.not_false] at hg); (try simp only [hg]); (try simp only [push_cast] at hg); (try exact absurd trivial hg); (try (exfalso; omega)); (try simp (disch := omega) only [push_cast, seval]))) | ((with_reducible show pcall _ _ _ _ _ _); (first | (refine pcV (cf Tryz.func77) (within_p _ _ _) ?_)); (try simp (disch := omega) only [push_cast, seval])) | ((with_reducible refine And.intro ?_ ?_); omega))
    ((with_reducible show PPostR _ _ _ _ _ _); refine finV ?_; (try simp only [push_cast, seval]))
    rw [fx, fxR_end]
end Go.Proofs.YtiboajlnjldalaaGreatDoor
namespace Go.Proofs.YtiboajlnjldalaaGreatDoor
set_option linter.unusedSimpArgs false
set_option linter.unusedVariables false
open Go.RowKit
set_option maxRecDepth 100000 in
set_option maxHeartbeats 4000000 in
theorem shaBlock_any (v : HSt) (s : ByteArray) (w : World) (hs : s.size = 64) (ht : ShaTab w) :
    Calls Tryz.prog 234 #[.agg (cellsS v), .string s] w fun e w' => e = .returned (.agg (cellsS (blk v s 0))) ∧ Ext w w' := by
  have hs1 : (64 : Int) ≤ (s.size : Int) := by omega
  have HS := Lib.hid hs
  have HT := Lib.hid ht
  clear hs ht
  unfold cellsS
  go_enter Tryz.func234, Tryz.ntmps234
  go_wp2
  go_loopg [22] 16 (fun g i wr => ∃ k : Nat, k ≤ 16 ∧ g = 16 - k ∧ i = .int .i64 k ∧ Ext w wr ∧ Box wr w.heap.size (cellsS v) ∧ Box wr (w.heap.size + 1) (arrW (List.replicate 8 0)) ∧ Box wr (w.heap.size + 1 + 1) (arrW (wrow s 0 k)))
  case atStart => exact ⟨0, by omega, by omega, rfl, extB, (show Box _ w.heap.size #[.int .u32 (u v.a), .int .u32 (u v.b), .int .u32 (u v.c), .int .u32 (u v.d), .int .u32 (u v.e), .int .u32 (u v.f), .int .u32 (u v.g), .int .u32 (u v.h)] from boxB), (show Box _ (w.heap.size + 1) #[.int .u32 0, .int .u32 0, .int .u32 0, .int .u32 0, .int .u32 0, .int .u32 0, .int .u32 0, .int .u32 0] from boxB), (show Box _ (w.heap.size + 1 + 1) #[.int .u32 0, .int .u32 0, .int .u32 0, .int .u32 0, .int .u32 0, .int .u32 0, .int .u32 0, .int .u32 0, .int .u32 0, .int .u32 0, .int .u32 0, .int .u32 0, .int .u32 0, .int .u32 0, .int .u32 0, .int .u32 0, .int .u32 0, .int .u32 0, .int .u32 0, .int .u32 0, .int .u32 0, .int .u32 0, .int .u32 0, .int .u32 0, .int .u32 0, .int .u32 0, .int .u32 0, .int .u32 0, .int .u32 0, .int .u32 0, .int .u32 0, .int .u32 0, .int .u32 0, .int .u32 0, .int .u32 0, .int .u32 0, .int .u32 0, .int .u32 0, .int .u32 0, .int .u32 0, .int .u32 0, .int .u32 0, .int .u32 0, .int .u32 0, .int .u32 0, .int .u32 0, .int .u32 0, .int .u32 0, .int .u32 0, .int .u32 0, .int .u32 0, .int .u32 0, .int .u32 0, .int .u32 0, .int .u32 0, .int .u32 0, .int .u32 0, .int .u32 0, .int .u32 0, .int .u32 0, .int .u32 0, .int .u32 0, .int .u32 0, .int .u32 0] from boxB)⟩
  case round =>
    obtain ⟨k, hk, hg, rfl, hE, hB0, hB1, hB2⟩ := hrel
    have HG := Lib.hid hg; clear hg
    by_cases hlt : k < 16
    · obtain ⟨c2, f2, l2⟩ := hB2.rules
      obtain ⟨y, hy⟩ : ∃ y, (wrow s 0 k)[k]? = some y := ⟨_, List.getElem?_eq_getElem (by rw [wrow_len s 0 k (by omega)]; omega)⟩
      have q0 : wr.cell? ⟨w.heap.size + 1 + 1, k, none⟩ = some (.int .u32 (u y)) := (c2 k).trans (arrW_get hy)
      have HN := Lib.hid (show (wrow s 0 k).set k (wordAt s (4 * k)) = wrow s 0 (k + 1) from by rw [← wrow_set s 0 k (by omega)]; congr 1; rw [wl, List.getD_eq_getElem?_getD, List.getElem?_append_right (by rw [wl_len]; omega), wl_len]; simp [hlt])
      have HZ := Lib.hid (wordAt_cut s (4 * k) (by have := HS.out; omega))
      have hf2 := f2 k
      clear hy c2 f2
      have k1 : (4 : Int) * (k : Int) ≤ (s.size : Int) := by omega
      go_wp2_with fail
      (refine (word_any (s.extract (4 * k) s.size) _ (by have := HS.out; rw [ByteArray.size_extract]; omega)).mono ?_); rw [HZ.out]; rintro e w' ⟨n, rfl, rfl⟩
      go_wp2
      go_roundg (16 - (k + 1))
      case measure => rw [HG.out]; omega
      case rel => exact ⟨k + 1, by omega, rfl, by go_num, extB, boxB, boxB, by have h := (hB2.drewN n).set (o := k) (.int .u32 (u (wordAt s (4 * k)))); rw [arrW_set, HN.out] at h; exact h⟩
    · obtain rfl : k = 16 := by omega
      obtain ⟨wo, hwo⟩ : ∃ wo : World, wo = wr := ⟨_, rfl⟩
      subst hwo
      have F0 := Lib.hid (⟨hE, hB0, hB1, hB2⟩ : Ext w wo ∧ Box wo w.heap.size (cellsS v) ∧ Box wo (w.heap.size + 1) (arrW (List.replicate 8 0)) ∧ Box wo (w.heap.size + 1 + 1) (arrW (wrow s 0 16)))
      clear hE hB0 hB1 hB2
      go_wp2
      go_loopg [7] 48 (fun g i wr => ∃ k : Nat, 16 ≤ k ∧ k ≤ 64 ∧ g = 64 - k ∧ i = .int .i64 k ∧ Ext w wr ∧ Box wr w.heap.size (cellsS v) ∧ Box wr (w.heap.size + 1) (arrW (List.replicate 8 0)) ∧ Box wr (w.heap.size + 1 + 1) (arrW (wrow s 0 k)))
      case atStart => exact ⟨16, by omega, by omega, by omega, rfl, F0.out⟩
      case round =>
        clear F0
        obtain ⟨k, hk0, hk, hg, rfl, hE, hB0, hB1, hB2⟩ := hrel
        have HG := Lib.hid hg; clear hg
        by_cases hlt : k < 64
        · obtain ⟨c2, f2, l2⟩ := hB2.rules
          obtain ⟨y, hy⟩ : ∃ y, (wrow s 0 k)[k]? = some y := ⟨_, List.getElem?_eq_getElem (by rw [wrow_len s 0 k (by omega)]; omega)⟩
          have q0 : wr.cell? ⟨w.heap.size + 1 + 1, k, none⟩ = some (.int .u32 (u y)) := (c2 k).trans (arrW_get hy)
          obtain ⟨a15, h15⟩ : ∃ a, a = (wl s 0 k).getD (k - 15) 0 := ⟨_, rfl⟩
          obtain ⟨a2, h2⟩ : ∃ a, a = (wl s 0 k).getD (k - 2) 0 := ⟨_, rfl⟩
          obtain ⟨a16, h16⟩ : ∃ a, a = (wl s 0 k).getD (k - 16) 0 := ⟨_, rfl⟩
          obtain ⟨a7, h7⟩ : ∃ a, a = (wl s 0 k).getD (k - 7) 0 := ⟨_, rfl⟩
          have q15 : wr.cell? ⟨w.heap.size + 1 + 1, k - 15, none⟩ = some (.int .u32 (u a15)) := (c2 _).trans (arrW_get (by rw [h15]; exact wrow_get s 0 k _ (by omega)))
          have q2 : wr.cell? ⟨w.heap.size + 1 + 1, k - 2, none⟩ = some (.int .u32 (u a2)) := (c2 _).trans (arrW_get (by rw [h2]; exact wrow_get s 0 k _ (by omega)))
          have q16 : wr.cell? ⟨w.heap.size + 1 + 1, k - 16, none⟩ = some (.int .u32 (u a16)) := (c2 _).trans (arrW_get (by rw [h16]; exact wrow_get s 0 k _ (by omega)))
          have q7 : wr.cell? ⟨w.heap.size + 1 + 1, k - 7, none⟩ = some (.int .u32 (u a7)) := (c2 _).trans (arrW_get (by rw [h7]; exact wrow_get s 0 k _ (by omega)))
          have hf2 := f2 k
          have HN := Lib.hid (show (wrow s 0 k).set k (a16 + sg0 a15 + a7 + sg1 a2) = wrow s 0 (k + 1) from by rw [← wrow_set s 0 k (by omega)]; congr 1; rw [wl, List.getD_eq_getElem?_getD, List.getElem?_append_right (by rw [wl_len]; omega), wl_len, h15, h2, h16, h7]; simp [show ¬ k < 16 by omega])
          clear hy c2 f2 h15 h2 h16 h7
          have e15 : (0 : Int) ≤ (k : Int) - 15 := by omega
          have e2 : (0 : Int) ≤ (k : Int) - 2 := by omega
          have e16 : (0 : Int) ≤ (k : Int) - 16 := by omega
          have e7 : (0 : Int) ≤ (k : Int) - 7 := by omega
          have t15 : ((k : Int) - 15).toNat = k - 15 := by omega
          have t2 : ((k : Int) - 2).toNat = k - 2 := by omega
          have t16 : ((k : Int) - 16).toNat = k - 16 := by omega
          have t7 : ((k : Int) - 7).toNat = k - 7 := by omega
          have w15 : IntKind.i64.wrap ((k : Int) - 15) = (k : Int) - 15 := IntWalk.i64_in _ (by omega)
          have w2 : IntKind.i64.wrap ((k : Int) - 2) = (k : Int) - 2 := IntWalk.i64_in _ (by omega)
          have w16 : IntKind.i64.wrap ((k : Int) - 16) = (k : Int) - 16 := IntWalk.i64_in _ (by omega)
          have w7 : IntKind.i64.wrap ((k : Int) - 7) = (k : Int) - 7 := IntWalk.i64_in _ (by omega)
          go_wp2
          go_region
          all_goals
            have R1 := xor_u
            go_wp2_with fail
            (refine (rot_any a15 7 _ (by omega) (by omega)).mono ?_); rintro e w' ⟨rfl, rfl⟩
            go_wp2_with fail
            (refine (rot_any a15 18 _ (by omega) (by omega)).mono ?_); rintro e w' ⟨rfl, rfl⟩
            go_wp2_with fail
            (refine (rot_any a2 17 _ (by omega) (by omega)).mono ?_); rintro e w' ⟨rfl, rfl⟩
            go_wp2_with fail
            (refine (rot_any a2 19 _ (by omega) (by omega)).mono ?_); rintro e w' ⟨rfl, rfl⟩
            go_wp2
            go_region
            all_goals
              go_wp2
              go_roundg (64 - (k + 1))
              case measure => rw [HG.out]; omega
              case rel => exact ⟨k + 1, by omega, by omega, rfl, by go_num, extB, boxB, boxB, by have h := hB2.set (o := k) (.int .u32 (u (a16 + sg0 a15 + a7 + sg1 a2))); rw [arrW_set, HN.out, ← sched_eq] at h; exact h⟩
        · obtain rfl : k = 64 := by omega
          obtain ⟨w4, hw4⟩ : ∃ wo : World, wo = wr := ⟨_, rfl⟩
          subst hw4
          have F0 := Lib.hid (⟨hE, hB0, hB1, hB2⟩ : Ext w w4 ∧ Box w4 w.heap.size (cellsS v) ∧ Box w4 (w.heap.size + 1) (arrW (List.replicate 8 0)) ∧ Box w4 (w.heap.size + 1 + 1) (arrW (wrow s 0 64)))
          obtain ⟨c0, f0, l0⟩ := hB0.rules
          unfold cellsS at c0
          clear hE hB0 hB1 hB2
          rw [wrow_64] at F0
          go_wp2
          go_loopg [77] 64 (fun g i wr => ∃ k : Nat, k ≤ 64 ∧ g = 64 - k ∧ i = .int .i64 k ∧ Ext w wr ∧ Box wr w.heap.size (cellsS v) ∧ Box wr (w.heap.size + 1) (arrW (List.replicate 8 0)) ∧ Box wr (w.heap.size + 1 + 1) (arrW (wl s 0 64)) ∧ Box wr w4.heap.size (cellsS (rnds v (wl s 0 64) k)))
          case atStart =>
            obtain ⟨g1, g2, g3, g4⟩ := F0.out
            exact ⟨0, by omega, by omega, rfl, extB, boxB, boxB, boxB, (show Box _ w4.heap.size #[.int .u32 (u v.a), .int .u32 (u v.b), .int .u32 (u v.c), .int .u32 (u v.d), .int .u32 (u v.e), .int .u32 (u v.f), .int .u32 (u v.g), .int .u32 (u v.h)] from boxB)⟩
          case round =>
            clear c0 f0
            obtain ⟨k, hk, hg, rfl, hE, hB0, hB1, hB2, hB3⟩ := hrel
            have HG := Lib.hid hg; clear hg
            by_cases hlt : k < 64
            · obtain ⟨st, hst⟩ : ∃ st, st = rnds v (wl s 0 64) k := ⟨_, rfl⟩
              rw [← hst] at hB3
              have HST := Lib.hid hst; clear hst
              have s4 := F0.out.2.2.2.lt
              obtain ⟨c3, f3, l3⟩ := hB3.rules
              unfold cellsS at c3
              obtain ⟨ww, hww⟩ : ∃ ww, ww = (wl s 0 64).getD k 0 := ⟨_, rfl⟩
              obtain ⟨kk, hkk⟩ : ∃ kk, kk = shaK.getD k 0 := ⟨_, rfl⟩
              have qw : wr.cell? ⟨w.heap.size + 1 + 1, k, none⟩ = some (.int .u32 (u ww)) := (hB2.cell k).trans (arrW_get (by rw [hww, List.getD_eq_getElem?_getD, List.getElem?_eq_getElem (by rw [wl_len]; exact hlt)]; rfl))
              have qk : wr.cell? ⟨0, k, none⟩ = some (.int .u32 (u kk)) := by rw [hkk]; exact (HT.out.ext hE) k hlt
              have HN := Lib.hid (show rnds v (wl s 0 64) (k + 1) = rnd st kk ww from by rw [rnds, ← HST.out, hkk, hww])
              clear hww hkk
              have k0 : (0 : Int) ≤ (k : Int) := by omega
              have k1 : (k : Int) < 64 := by omega
              go_wp2
              go_region
              all_goals
                go_wp2_with fail
                (refine (rot_any st.e 6 _ (by omega) (by omega)).mono ?_); rintro e w' ⟨rfl, rfl⟩
                go_wp2_with fail
                (refine (rot_any st.e 11 _ (by omega) (by omega)).mono ?_); rintro e w' ⟨rfl, rfl⟩
                go_wp2_with fail
                (refine (rot_any st.e 25 _ (by omega) (by omega)).mono ?_); rintro e w' ⟨rfl, rfl⟩
                go_wp2
                go_region
                all_goals
                  go_wp2_with fail
                  (refine (rot_any st.a 2 _ (by omega) (by omega)).mono ?_); rintro e w' ⟨rfl, rfl⟩
                  go_wp2_with fail
                  (refine (rot_any st.a 13 _ (by omega) (by omega)).mono ?_); rintro e w' ⟨rfl, rfl⟩
                  go_wp2_with fail
                  (refine (rot_any st.a 22 _ (by omega) (by omega)).mono ?_); rintro e w' ⟨rfl, rfl⟩
                  go_wp2
                  go_roundg (64 - (k + 1))
                  case measure => rw [HG.out]; omega
                  case rel => exact ⟨k + 1, by omega, rfl, by go_num, extB, boxB, boxB, boxB, by rw [HN.out]; (repeat (with_reducible apply Box.drew)); exact box8 hB3 (rnd_a st kk ww) (rnd_e st kk ww)⟩
            · obtain rfl : k = 64 := by omega
              have s4 := F0.out.2.2.2.lt
              obtain ⟨w5, hw5⟩ : ∃ wo : World, wo = wr := ⟨_, rfl⟩
              subst hw5
              obtain ⟨r, hr⟩ : ∃ r, r = rnds v (wl s 0 64) 64 := ⟨_, rfl⟩
              rw [← hr] at hB3
              have HR := Lib.hid hr
              rw [← addL_start v r] at hB0
              rw [← arrW_listS] at hB3
              have F1 := Lib.hid (⟨hE, hB0, hB1, hB3⟩ : Ext w w5 ∧ Box w5 w.heap.size (arrW (addL v r 0)) ∧ Box w5 (w.heap.size + 1) (arrW (List.replicate 8 0)) ∧ Box w5 w4.heap.size (arrW (listS r)))
              clear hE hB0 hB1 hB2 hB3 hr
              go_wp2
              go_loopg [162] 8 (fun g i wr => ∃ k : Nat, k ≤ 8 ∧ g = 8 - k ∧ i = .int .i64 k ∧ Ext w wr ∧ Box wr w.heap.size (arrW (addL v r k)) ∧ Box wr (w.heap.size + 1) (arrW (List.replicate 8 0)) ∧ Box wr w4.heap.size (arrW (listS r)))
              case atStart => exact ⟨0, by omega, by omega, rfl, F1.out⟩
              case round =>
                clear F1
                obtain ⟨k, hk, hg, rfl, hE, hB0, hB1, hB3⟩ := hrel
                have HG := Lib.hid hg; clear hg
                by_cases hlt : k < 8
                · obtain ⟨m1, m2, m3⟩ := addL_step v r k hlt
                  obtain ⟨xx, hxx⟩ : ∃ x, x = (listS v).getD k 0 := ⟨_, rfl⟩
                  obtain ⟨yy, hyy⟩ : ∃ x, x = (listS r).getD k 0 := ⟨_, rfl⟩
                  rw [← hxx] at m1 m3
                  rw [← hyy] at m2 m3
                  have qx : wr.cell? ⟨w.heap.size, k, none⟩ = some (.int .u32 (u xx)) := (hB0.cell k).trans (arrW_get m1)
                  have qy : wr.cell? ⟨w4.heap.size, k, none⟩ = some (.int .u32 (u yy)) := (hB3.cell k).trans (arrW_get m2)
                  have hf := hB0.frozen k
                  have HN := Lib.hid m3
                  clear m1 m2 m3 hxx hyy
                  have k0 : (0 : Int) ≤ (k : Int) := by omega
                  have k1 : (k : Int) < 8 := by omega
                  go_wp2
                  go_region
                  all_goals
                    go_wp2
                    go_roundg (8 - (k + 1))
                    case measure => rw [HG.out]; omega
                    case rel => exact ⟨k + 1, by omega, rfl, by go_num, extB, by have h := hB0.set (o := k) (.int .u32 (u (xx + yy))); rw [arrW_set, HN.out, ← fold_add] at h; exact h, boxB, boxB⟩
                · obtain rfl : k = 8 := by omega
                  rw [addL_end] at hB0
                  replace hB1 : Box wr (w.heap.size + 1) #[.int .u32 0, .int .u32 0, .int .u32 0, .int .u32 0, .int .u32 0, .int .u32 0, .int .u32 0, .int .u32 0] := hB1
                  obtain ⟨c0, f0, l0'⟩ := hB0.rules
                  obtain ⟨c1, f1, l1⟩ := hB1.rules
                  unfold cellsS at c0
                  clear hB3
                  go_wp2
                  exact bodyPost_ret (v := .agg (cellsS (addS v r))) (by simp [results, Tryz.results234, go_sem, c1, cellsS]) rfl (And.intro (by unfold blk cellsS; rw [HR.out]) extB)
end Go.Proofs.YtiboajlnjldalaaGreatDoor
namespace Go.Proofs.YtiboajlnjldalaaGreatDoor
set_option linter.unusedSimpArgs false
set_option linter.unusedVariables false
open Go.RowKit
set_option maxRecDepth 100000
theorem glob_tab {w : World} (h : GlobW w) : ShaTab w := fun i hi => h i _ (by
  have : ∀ i : Fin 64, globL[i.val]? = some (u (shaK.getD i.val 0)) := by decide +kernel
  exact this ⟨i, hi⟩)
def pHS (v : HSt) : List PV := [.val (.int .u32 (u v.a)), .val (.int .u32 (u v.b)), .val (.int .u32 (u v.c)), .val (.int .u32 (u v.d)), .val (.int .u32 (u v.e)), .val (.int .u32 (u v.f)), .val (.int .u32 (u v.g)), .val (.int .u32 (u v.h))]
theorem pHS_len (v : HSt) : (pHS v).length = 8 := rfl
theorem iShaBlock_p (v : HSt) (s : ByteArray) (hs : s.size = 64) : PCalls Tryz.prog 234 [.agg (pHS v), .val (.string s)] [] (RV (.agg (pHS (blk v s 0)))) :=
  pcalls_flat (us := [.agg (cellsS v), .string s]) (u := .agg (cellsS (blk v s 0))) rfl (fun M h => vr_agg (us := (cellsS (blk v s 0)).toList)) fun w hg => shaBlock_any v s w hs (glob_tab hg)
theorem u_nat (x : W32) : u x = ((x.toNat : Nat) : Int) := rfl
theorem listS_get (v : HSt) : ∀ k, k < 8 → (pHS v)[k]? = some (.val (.int .u32 (u ((listS v).getD k 0)))) ∧ (listS v).drop k = (listS v).getD k 0 :: (listS v).drop (k + 1)
  | 0, _ => ⟨rfl, rfl⟩
  | 1, _ => ⟨rfl, rfl⟩
  | 2, _ => ⟨rfl, rfl⟩
  | 3, _ => ⟨rfl, rfl⟩
  | 4, _ => ⟨rfl, rfl⟩
  | 5, _ => ⟨rfl, rfl⟩
  | 6, _ => ⟨rfl, rfl⟩
  | 7, _ => ⟨rfl, rfl⟩
  | k + 8, h => by omega
theorem take_pHS (v : HSt) : (pHS v).take 8 = pHS v := rfl
theorem drop_pHS (v : HSt) : (pHS v).drop 8 = [] := rfl
theorem one_pHS (v : HSt) : (pHS v).all oneP = true := rfl
theorem clo_pHS (v : HSt) : (pHS v).all cloC = true := rfl
theorem ren_pHS {φ : List Nat} {n : Nat} (v : HSt) : renL φ n (pHS v) = pHS v := renL_flat (clo_pHS v)
set_option maxHeartbeats 8000000 in
theorem iSha_p (s : ByteArray) (hs : s.size ≤ 1099511627776) : PCalls Tryz.prog 176 [.val (.string s)] [] (RV (.val (.string (sha s)))) := by
  have e1 : ((64 : Int) - ((s.size : Int) + 9) % 64) % 64 = ((padN s.size : Nat) : Int) := by unfold padN; omega
  have e2 : (8 * (s.size : Int)) = ((8 * s.size : Nat) : Int) := by omega
  have e3 : ((padN s.size : Nat) : Int) + 1 = ((padN s.size + 1 : Nat) : Int) := by omega
  have hp : padN s.size < 64 := by unfold padN; omega
  have z1 : (⟨#[128]⟩ : ByteArray).size = 1 := rfl
  have z2 := ByteArray.size_append (a := s) (b := ⟨#[128]⟩)
  have z3 := ByteArray.size_append (a := s ++ ⟨#[128]⟩) (b := zerosB (padN s.size + 1))
  have z4 := zerosB_size (padN s.size + 1)
  have z5 := fx_size (8 * s.size) 7
  have z6 : (⟨(List.replicate (padN s.size + 1) 0).toArray⟩ : ByteArray) = zerosB (padN s.size + 1) := rfl
  have hpad : s ++ ⟨#[128]⟩ ++ zerosB (padN s.size + 1) ++ fx (8 * s.size) 7 = padT s := rfl
  have z7 := padT_size s
  have z8 := padT_mod s
  obtain ⟨N, hN⟩ : ∃ N, (padT s).size = 64 * N := ⟨(padT s).size / 64, by omega⟩
  have hN' : (padT s).size / 64 = N := by omega
  refine pcalls_ofR okP Tryz.func176 rfl ?_
  simp only [Tryz.f176, List.length_cons, List.length_nil, Nat.reduceAdd, Nat.reduceSub, List.replicate_succ, List.replicate_zero, List.cons_append, List.nil_append, List.length_map]
  repeat' (first | with_reducible (first | refine wA ?_ | refine wB ?_ | refine wC ?_) | with_reducible refine PWp.draw (id := 8) okP true [0, 1, 2, 3, 4, 5, 6, 7] (by kernel_rfl) ?_ | with_reducible refine PWp.drawT (id := 3) okP true (.step 0 (.step 1 (.step 2 (.step 3 (.step 7 (.fork (.alt 4 (.step 5 (.step 6 (.step 8 (.step 9 (.step 10 .done))))) (.alt 8 (.step 4 (.step 5 (.step 6 (.step 9 (.step 10 .done))))) .stop)))))))) (by kernel_rfl) ?_ | with_reducible (first | refine w1 ?_ | refine w2 ?_ | refine w3 ?_ | refine w4 ?_ | refine w5 ?_ | refine w6 ?_ | refine w7 ?_ | refine w8 ?_ | refine wT ?_ | refine w9 ?_ | refine wE ?_ | refine wS ?_) | ((with_reducible refine hK _ ?_); clear hK K) | ((with_reducible refine PWp.condI ?_); refine ⟨_, rfl, fun hg => ?_, fun hg => ?_⟩ <;> first | (exact absurd hg (by decide)) | ((try simp only [Bool.not_true, Bool.not_false] at hg); (try simp only [hg]); (try simp only [push_cast] at hg); (try exact absurd trivial hg); (try (exfalso; omega)))) | with_reducible (first | refine ptree_done ?_ | exact ptree_stop | refine ptree_fork ?_) | ((with_reducible refine ptree_I ?_); refine ⟨_, rfl, fun K hK => ?_⟩) | ((with_reducible refine ptree_A ?_ ?_); (refine ⟨_, rfl, fun K hK => ?_⟩)) | ((with_reducible refine pany_I ?_); refine ⟨_, rfl, fun K hK => ?_⟩) | ((with_reducible refine pops_plain fun K hK => popO_build ?_); refine ⟨_, rfl, _, rfl, ?_⟩; simp (disch := omega) only [push_cast, seval, e1, z6, hpad]) | ((with_reducible refine pD_y ?_ (py_build ?_)); exact rfl; refine ⟨_, rfl, _, rfl, ?_⟩; simp (disch := omega) only [push_cast, seval, e1, z6, hpad]) | ((with_reducible refine pbuild_cs ?_); refine ⟨_, rfl, _, rfl, ?_⟩; simp (disch := omega) only [push_cast, seval, e1, z6, hpad]) | ((with_reducible refine pops_plain fun K hK => ?_); simp (disch := omega) only [push_cast, seval, e1, z6, hpad]) | ((first | ((with_reducible refine pD_y ?_ ?_); exact rfl) | ((with_reducible refine pD_x ?_ ?_); exact rfl)); simp (disch := omega) only [push_cast, seval, e1, z6, hpad]) | ((with_reducible show pcall _ _ _ _ _ _); (first | (refine pcV (cf Tryz.func233) (iFixed_p _ _ sd sd sd) ?_) | (refine pcV (cf Tryz.func234) (iShaBlock_p _ _ sd) ?_)); (try simp (disch := omega) only [push_cast, seval, e1, z6, hpad])) | ((with_reducible refine And.intro ?_ ?_); omega))
  all_goals
    refine PWp.loopK (α := Nat × HSt) (fun x => match x with | (k, st) => [(6, .ptr 0 0), (7, .val (.int .i64 (64 * (k : Int))))]) [0, 1, 3, 4, 9, 11, 12, 13, 14, 15, 16, 17, 18, 19, 20, 21, 22, 23, 24, 25, 26, 27, 28, 29, 30, 31, 32, 33, 34, 35, 36, 37, 38, 39, 40, 41, 42, 43] (fun x => match x with | (k, st) => [some (.box (pHS st))]) (fun x => match x with | (k, st) => k ≤ N ∧ shaGo (padT s) (N - k) st (64 * k) = shaGo (padT s) N sha0 0) (fun x => match x with | (k, st) => N - k) ((0, sha0)) (⟨Nat.zero_le _, rfl⟩) (by (refine ⟨[?_], ?_, ?_, ?_, ?_⟩; rotate_left 1; (· ((first | simp (disch := omega) only [push_cast, seval, ren_pHS] | simp (disch := omega) only [push_cast, seval] | skip); (repeat' (first | exact trivial | exact rfl | refine And.intro ?_ ?_ | omega)))); (· ((first | simp (disch := omega) only [push_cast, seval, ren_pHS] | simp (disch := omega) only [push_cast, seval] | skip); (repeat' (first | exact trivial | exact rfl | refine And.intro ?_ ?_ | omega)))); (· exact rfl); (· (first | exact trivial | exact ⟨rfl, trivial⟩ | exact ⟨rfl, rfl, trivial⟩)))) ?_
    intro x ρ hI; obtain ⟨k, st⟩ := x
    (try dsimp only at hI)
    refine PWp.at (tm' := ?_) (H' := ?_) ?_ ?_ ?_; rotate_left 2; (· ((try simp only [push_cast, seval]); exact rfl)); (· ((try dsimp only); exact rfl))
    obtain ⟨hk, hgo⟩ := hI
    by_cases hlt : k < N
    · obtain ⟨m, hm⟩ : ∃ m, N - k = m + 1 := ⟨N - k - 1, by omega⟩
      have e6 : (64 * (k : Int)).toNat = 64 * k := by omega
      have e7 : (64 * (k : Int) + 64).toNat = 64 * k + 64 := by omega
      have z9 : ((padT s).extract (64 * k) (64 * k + 64)).size = 64 := by rw [ByteArray.size_extract]; omega
      rw [hm, shaGo] at hgo
      repeat' (first | with_reducible (first | refine wA ?_ | refine wB ?_ | refine wC ?_) | with_reducible refine PWp.draw (id := 8) okP true [0, 1, 2, 3, 4, 5, 6, 7] (by kernel_rfl) ?_ | with_reducible refine PWp.drawT (id := 3) okP true (.step 0 (.step 1 (.step 2 (.step 3 (.step 7 (.fork (.alt 4 (.step 5 (.step 6 (.step 8 (.step 9 (.step 10 .done))))) (.alt 8 (.step 4 (.step 5 (.step 6 (.step 9 (.step 10 .done))))) .stop)))))))) (by kernel_rfl) ?_ | with_reducible (first | refine w1 ?_ | refine w2 ?_ | refine w3 ?_ | refine w4 ?_ | refine w5 ?_ | refine w6 ?_ | refine w7 ?_ | refine w8 ?_ | refine wT ?_ | refine w9 ?_ | refine wE ?_ | refine wS ?_) | ((with_reducible refine hK _ ?_); clear hK K) | ((with_reducible refine PWp.condI ?_); refine ⟨_, rfl, fun hg => ?_, fun hg => ?_⟩ <;> first | (exact absurd hg (by decide)) | ((try simp only [Bool.not_true, Bool.not_false] at hg); (try simp only [hg]); (try simp only [push_cast] at hg); (try exact absurd trivial hg); (try (exfalso; omega)))) | with_reducible (first | refine ptree_done ?_ | exact ptree_stop | refine ptree_fork ?_) | ((with_reducible refine ptree_I ?_); refine ⟨_, rfl, fun K hK => ?_⟩) | ((with_reducible refine ptree_A ?_ ?_); (refine ⟨_, rfl, fun K hK => ?_⟩)) | ((with_reducible refine pany_I ?_); refine ⟨_, rfl, fun K hK => ?_⟩) | ((with_reducible refine pops_plain fun K hK => popO_build ?_); refine ⟨_, rfl, _, rfl, ?_⟩; simp (disch := omega) only [push_cast, seval, pHS_len, take_pHS, drop_pHS, one_pHS, hN, e6, e7]) | ((with_reducible refine pD_y ?_ (py_build ?_)); exact rfl; refine ⟨_, rfl, _, rfl, ?_⟩; simp (disch := omega) only [push_cast, seval, pHS_len, take_pHS, drop_pHS, one_pHS, hN, e6, e7]) | ((with_reducible refine pbuild_cs ?_); refine ⟨_, rfl, _, rfl, ?_⟩; simp (disch := omega) only [push_cast, seval, pHS_len, take_pHS, drop_pHS, one_pHS, hN, e6, e7]) | ((with_reducible refine pops_plain fun K hK => ?_); simp (disch := omega) only [push_cast, seval, pHS_len, take_pHS, drop_pHS, one_pHS, hN, e6, e7]) | ((first | ((with_reducible refine pD_y ?_ ?_); exact rfl) | ((with_reducible refine pD_x ?_ ?_); exact rfl)); simp (disch := omega) only [push_cast, seval, pHS_len, take_pHS, drop_pHS, one_pHS, hN, e6, e7]) | ((with_reducible show pcall _ _ _ _ _ _); (first | (refine pcV (cf Tryz.func233) (iFixed_p _ _ sd sd sd) ?_) | (refine pcV (cf Tryz.func234) (iShaBlock_p _ _ sd) ?_)); (try simp (disch := omega) only [push_cast, seval, pHS_len, take_pHS, drop_pHS, one_pHS, hN, e6, e7])) | ((with_reducible refine And.intro ?_ ?_); omega))
      (refine ⟨(k + 1, blk st ((padT s).extract (64 * k) (64 * k + 64)) 0), by ((try dsimp only); omega), ?_, by (refine ⟨[?_], ?_, ?_, ?_, ?_⟩; rotate_left 1; (· ((first | simp (disch := omega) only [push_cast, seval, ren_pHS] | simp (disch := omega) only [push_cast, seval] | skip); (repeat' (first | exact trivial | exact rfl | refine And.intro ?_ ?_ | omega)))); (· ((first | simp (disch := omega) only [push_cast, seval, ren_pHS] | simp (disch := omega) only [push_cast, seval] | skip); (repeat' (first | exact trivial | exact rfl | refine And.intro ?_ ?_ | omega)))); (· exact rfl); (· (first | exact trivial | exact ⟨rfl, trivial⟩ | exact ⟨rfl, rfl, trivial⟩)))⟩)
      exact ⟨by omega, by rw [show N - (k + 1) = m by omega, show 64 * (k + 1) = 64 * k + 64 by omega]; exact hgo⟩
    · obtain rfl : k = N := by omega
      rw [Nat.sub_self, shaGo] at hgo
      repeat' (first | with_reducible (first | refine wA ?_ | refine wB ?_ | refine wC ?_) | with_reducible refine PWp.draw (id := 8) okP true [0, 1, 2, 3, 4, 5, 6, 7] (by kernel_rfl) ?_ | with_reducible refine PWp.drawT (id := 3) okP true (.step 0 (.step 1 (.step 2 (.step 3 (.step 7 (.fork (.alt 4 (.step 5 (.step 6 (.step 8 (.step 9 (.step 10 .done))))) (.alt 8 (.step 4 (.step 5 (.step 6 (.step 9 (.step 10 .done))))) .stop)))))))) (by kernel_rfl) ?_ | with_reducible (first | refine w1 ?_ | refine w2 ?_ | refine w3 ?_ | refine w4 ?_ | refine w5 ?_ | refine w6 ?_ | refine w7 ?_ | refine w8 ?_ | refine wT ?_ | refine w9 ?_ | refine wE ?_ | refine wS ?_) | ((with_reducible refine hK _ ?_); clear hK K) | ((with_reducible refine PWp.condI ?_); refine ⟨_, rfl, fun hg => ?_, fun hg => ?_⟩ <;> first | (exact absurd hg (by decide)) | ((try simp only [Bool.not_true, Bool.not_false] at hg); (try simp only [hg]); (try simp only [push_cast] at hg); (try exact absurd trivial hg); (try (exfalso; omega)))) | with_reducible (first | refine ptree_done ?_ | exact ptree_stop | refine ptree_fork ?_) | ((with_reducible refine ptree_I ?_); refine ⟨_, rfl, fun K hK => ?_⟩) | ((with_reducible refine ptree_A ?_ ?_); (refine ⟨_, rfl, fun K hK => ?_⟩)) | ((with_reducible refine pany_I ?_); refine ⟨_, rfl, fun K hK => ?_⟩) | ((with_reducible refine pops_plain fun K hK => popO_build ?_); refine ⟨_, rfl, _, rfl, ?_⟩; simp (disch := omega) only [push_cast, seval, pHS_len, take_pHS, hN]) | ((with_reducible refine pD_y ?_ (py_build ?_)); exact rfl; refine ⟨_, rfl, _, rfl, ?_⟩; simp (disch := omega) only [push_cast, seval, pHS_len, take_pHS, hN]) | ((with_reducible refine pbuild_cs ?_); refine ⟨_, rfl, _, rfl, ?_⟩; simp (disch := omega) only [push_cast, seval, pHS_len, take_pHS, hN]) | ((with_reducible refine pops_plain fun K hK => ?_); simp (disch := omega) only [push_cast, seval, pHS_len, take_pHS, hN]) | ((first | ((with_reducible refine pD_y ?_ ?_); exact rfl) | ((with_reducible refine pD_x ?_ ?_); exact rfl)); simp (disch := omega) only [push_cast, seval, pHS_len, take_pHS, hN]) | ((with_reducible show pcall _ _ _ _ _ _); (first | (refine pcV (cf Tryz.func233) (iFixed_p _ _ sd sd sd) ?_) | (refine pcV (cf Tryz.func234) (iShaBlock_p _ _ sd) ?_)); (try simp (disch := omega) only [push_cast, seval, pHS_len, take_pHS, hN])) | ((with_reducible refine And.intro ?_ ?_); omega))
      refine PWp.loopK (α := Nat × ByteArray) (fun x => match x with | (k2, o) => [(8, .val (.string o)), (45, .val (.int .i64 (k2 : Int)))]) [0, 1, 3, 4, 5, 6, 7, 9, 10, 11, 12, 13, 14, 15, 16, 17, 18, 19, 20, 21, 22, 23, 24, 25, 26, 27, 28, 29, 30, 31, 32, 33, 34, 35, 36, 37, 38, 39, 40, 41, 42, 43, 46, 47, 48, 49, 50, 51, 52, 53] (fun x => match x with | (k2, o) => []) (fun x => match x with | (k2, o) => k2 ≤ 8 ∧ o.size = 4 * k2 ∧ outGo ((listS st).drop k2) o = sha s) (fun x => match x with | (k2, o) => 8 - k2) ((0, ByteArray.empty)) (⟨by omega, rfl, by unfold sha outS; rw [hN', ← hgo]; rfl⟩) (by (refine ⟨[], ?_, ?_, ?_, ?_⟩; (· ((first | simp (disch := omega) only [push_cast, seval, ren_pHS] | simp (disch := omega) only [push_cast, seval] | skip); (repeat' (first | exact trivial | exact rfl | refine And.intro ?_ ?_ | omega)))); (· ((first | simp (disch := omega) only [push_cast, seval, ren_pHS] | simp (disch := omega) only [push_cast, seval] | skip); (repeat' (first | exact trivial | exact rfl | refine And.intro ?_ ?_ | omega)))); (· exact rfl); (· (first | exact trivial | exact ⟨rfl, trivial⟩ | exact ⟨rfl, rfl, trivial⟩)))) ?_
      intro x ρ hI; obtain ⟨k2, o⟩ := x
      (try dsimp only at hI)
      refine PWp.at (tm' := ?_) (H' := ?_) ?_ ?_ ?_; rotate_left 2; (· ((try simp only [push_cast, seval]); exact rfl)); (· ((try dsimp only); exact rfl))
      obtain ⟨hk2, ho, hout⟩ := hI
      by_cases hlt2 : k2 < 8
      · obtain ⟨hx, hd⟩ := listS_get st k2 hlt2
        generalize (listS st).getD k2 0 = x at hx hd
        have hx32 : x.toNat < 2 ^ (8 * 4) := x.isLt
        have hb := u_bd x
        have z10 := fx_size x.toNat 4
        rw [hd, outGo] at hout
        repeat' (first | with_reducible (first | refine wA ?_ | refine wB ?_ | refine wC ?_) | with_reducible refine PWp.draw (id := 8) okP true [0, 1, 2, 3, 4, 5, 6, 7] (by kernel_rfl) ?_ | with_reducible refine PWp.drawT (id := 3) okP true (.step 0 (.step 1 (.step 2 (.step 3 (.step 7 (.fork (.alt 4 (.step 5 (.step 6 (.step 8 (.step 9 (.step 10 .done))))) (.alt 8 (.step 4 (.step 5 (.step 6 (.step 9 (.step 10 .done))))) .stop)))))))) (by kernel_rfl) ?_ | with_reducible (first | refine w1 ?_ | refine w2 ?_ | refine w3 ?_ | refine w4 ?_ | refine w5 ?_ | refine w6 ?_ | refine w7 ?_ | refine w8 ?_ | refine wT ?_ | refine w9 ?_ | refine wE ?_ | refine wS ?_) | ((with_reducible refine hK _ ?_); clear hK K) | ((with_reducible refine PWp.condI ?_); refine ⟨_, rfl, fun hg => ?_, fun hg => ?_⟩ <;> first | (exact absurd hg (by decide)) | ((try simp only [Bool.not_true, Bool.not_false] at hg); (try simp only [hg]); (try simp only [push_cast] at hg); (try exact absurd trivial hg); (try (exfalso; omega)))) | with_reducible (first | refine ptree_done ?_ | exact ptree_stop | refine ptree_fork ?_) | ((with_reducible refine ptree_I ?_); refine ⟨_, rfl, fun K hK => ?_⟩) | ((with_reducible refine ptree_A ?_ ?_); (refine ⟨_, rfl, fun K hK => ?_⟩)) | ((with_reducible refine pany_I ?_); refine ⟨_, rfl, fun K hK => ?_⟩) | ((with_reducible refine pops_plain fun K hK => popO_build ?_); refine ⟨_, rfl, _, rfl, ?_⟩; simp (disch := omega) only [push_cast, seval, hx]) | ((with_reducible refine pD_y ?_ (py_build ?_)); exact rfl; refine ⟨_, rfl, _, rfl, ?_⟩; simp (disch := omega) only [push_cast, seval, hx]) | ((with_reducible refine pbuild_cs ?_); refine ⟨_, rfl, _, rfl, ?_⟩; simp (disch := omega) only [push_cast, seval, hx]) | ((with_reducible refine pops_plain fun K hK => ?_); simp (disch := omega) only [push_cast, seval, hx]) | ((first | ((with_reducible refine pD_y ?_ ?_); exact rfl) | ((with_reducible refine pD_x ?_ ?_); exact rfl)); simp (disch := omega) only [push_cast, seval, hx]) | ((with_reducible show pcall _ _ _ _ _ _); (first | (refine pcV (cf Tryz.func233) (iFixed_p _ _ sd sd sd) ?_) | (refine pcV (cf Tryz.func234) (iShaBlock_p _ _ sd) ?_)); (try simp (disch := omega) only [push_cast, seval, hx])) | ((with_reducible refine And.intro ?_ ?_); omega))
        (refine ⟨(k2 + 1, o ++ fx x.toNat 4), by ((try dsimp only); omega), ?_, by (refine ⟨[], ?_, ?_, ?_, ?_⟩; (· ((first | simp (disch := omega) only [push_cast, seval, ren_pHS] | simp (disch := omega) only [push_cast, seval] | skip); (repeat' (first | exact trivial | exact rfl | refine And.intro ?_ ?_ | omega)))); (· ((first | simp (disch := omega) only [push_cast, seval, ren_pHS] | simp (disch := omega) only [push_cast, seval] | skip); (repeat' (first | exact trivial | exact rfl | refine And.intro ?_ ?_ | omega)))); (· exact rfl); (· (first | exact trivial | exact ⟨rfl, trivial⟩ | exact ⟨rfl, rfl, trivial⟩)))⟩)
        exact ⟨by omega, by rw [ByteArray.size_append]; omega, hout⟩
      · obtain rfl : k2 = 8 := by omega
        repeat' (first | with_reducible (first | refine wA ?_ | refine wB ?_ | refine wC ?_) | with_reducible refine PWp.draw (id := 8) okP true [0, 1, 2, 3, 4, 5, 6, 7] (by kernel_rfl) ?_ | with_reducible refine PWp.drawT (id := 3) okP true (.step 0 (.step 1 (.step 2 (.step 3 (.step 7 (.fork (.alt 4 (.step 5 (.step 6 (.step 8 (.step 9 (.step 10 .done))))) (.alt 8 (.step 4 (.step 5 (.step 6 (.step 9 (.step 10 .done))))) .stop)))))))) (by kernel_rfl) ?_ | with_reducible (first | refine w1 ?_ | refine w2 ?_ | refine w3 ?_ | refine w4 ?_ | refine w5 ?_ | refine w6 ?_ | refine w7 ?_ | refine w8 ?_ | refine wT ?_ | refine w9 ?_ | refine wE ?_ | refine wS ?_) | ((with_reducible refine hK _ ?_); clear hK K) | ((with_reducible refine PWp.condI ?_); refine ⟨_, rfl, fun hg => ?_, fun hg => ?_⟩ <;> first | (exact absurd hg (by decide)) | ((try simp only [Bool.not_true, Bool.not_false] at hg); (try simp only [hg]); (try simp only [push_cast] at hg); (try exact absurd trivial hg); (try (exfalso; omega)))) | with_reducible (first | refine ptree_done ?_ | exact ptree_stop | refine ptree_fork ?_) | ((with_reducible refine ptree_I ?_); refine ⟨_, rfl, fun K hK => ?_⟩) | ((with_reducible refine ptree_A ?_ ?_); (refine ⟨_, rfl, fun K hK => ?_⟩)) | ((with_reducible refine pany_I ?_); refine ⟨_, rfl, fun K hK => ?_⟩) | ((with_reducible refine pops_plain fun K hK => popO_build ?_); refine ⟨_, rfl, _, rfl, ?_⟩; simp (disch := omega) only [push_cast, seval]) | ((with_reducible refine pD_y ?_ (py_build ?_)); exact rfl; refine ⟨_, rfl, _, rfl, ?_⟩; simp (disch := omega) only [push_cast, seval]) | ((with_reducible refine pbuild_cs ?_); refine ⟨_, rfl, _, rfl, ?_⟩; simp (disch := omega) only [push_cast, seval]) | ((with_reducible refine pops_plain fun K hK => ?_); simp (disch := omega) only [push_cast, seval]) | ((first | ((with_reducible refine pD_y ?_ ?_); exact rfl) | ((with_reducible refine pD_x ?_ ?_); exact rfl)); simp (disch := omega) only [push_cast, seval]) | ((with_reducible show pcall _ _ _ _ _ _); (first | (refine pcV (cf Tryz.func233) (iFixed_p _ _ sd sd sd) ?_) | (refine pcV (cf Tryz.func234) (iShaBlock_p _ _ sd) ?_)); (try simp (disch := omega) only [push_cast, seval])) | ((with_reducible refine And.intro ?_ ?_); omega))
        ((with_reducible show PPostR _ _ _ _ _ _); refine finV ?_; (try simp only [push_cast, seval]))
        exact hout
end Go.Proofs.YtiboajlnjldalaaGreatDoor
namespace Go.Proofs.YtiboajlnjldalaaGreatDoor
set_option linter.unusedSimpArgs false
set_option linter.unusedVariables false
open Go.RowKit
theorem quiet_add_same {P : Program} {f : FuncId} {args : Array Value} {w : World} {a n : Nat} {v : Value}
    (h : Calls P f args (w.drewN (a + n)) fun e w' => e = .returned v ∧ w' = w.drewN (a + n)) :
    Calls P f args (w.drewN (a + n)) fun e w'' => e = .returned v ∧ ∃ m, w'' = w.drewN (a + m) :=
  h.mono fun _ _ ⟨he, hw⟩ => ⟨he, n, hw⟩
theorem l3RightI_any (x : W32) (m : Int) (w : World) (h0 : 1 ≤ m) (h1 : m ≤ 31) :
    Calls Tryz.prog 242 #[.int .i64 (u x), .int .u64 m] w fun e w' => e = .returned (.int .i64 (u (rotr x m.toNat))) ∧ w' = w := by
  obtain ⟨n, rfl⟩ := Int.eq_ofNat_of_zero_le (show 0 ≤ m by omega)
  exact (l3Right_any x n w (by omega) (by omega)).mono fun _ _ ⟨a, b⟩ => ⟨a, b.symm⟩
theorem l3Word_is {n : Int} {x : W32} (w : World) (h0 : -9223372036854775808 ≤ n) (h1 : n ≤ 9223372036854775807) (h : wd n = x) :
    Calls Tryz.prog 243 #[.int .i64 n] w fun e w' => e = .returned (.int .i64 (u x)) ∧ w' = w :=
  (l3Word_any n w h0 h1).mono fun _ _ ⟨a, b⟩ => ⟨h ▸ a, b.symm⟩
theorem xsg0 (x : W32) : bits BinOp.xor IntKind.i64 (bits BinOp.xor IntKind.i64 (u (rotr x 7)) (u (rotr x 18))) (u x / 8) = u (sg0 x) := by
  rw [fold_shr3, xor_i, xor_i]; rfl
theorem xsg1 (x : W32) : bits BinOp.xor IntKind.i64 (bits BinOp.xor IntKind.i64 (u (rotr x 17)) (u (rotr x 19))) (u x / 1024) = u (sg1 x) := by
  rw [fold_shr10, xor_i, xor_i]; rfl
def vI (x : W32) : Value := .int .i64 (u x)
def arrI (l : List W32) : Array Value := (l.map vI).toArray
theorem arrI_get {l : List W32} {i : Nat} {x : W32} (h : l[i]? = some x) : (arrI l)[i]? = some (.int .i64 (u x)) := by simp [arrI, h, vI]
theorem arrI_set {l : List W32} {i : Nat} {x : W32} : (arrI l).setIfInBounds i (.int .i64 (u x)) = arrI (l.set i x) := by simp [arrI, List.map_set, vI]
def RowI (w : World) (b : Nat) (l : List W32) : Prop := ∀ i x, l[i]? = some x → w.cell? ⟨b, i, none⟩ = some (.int .i64 (u x))
theorem RowI.of_box {w : World} {b : Nat} {l : List W32} (h : Box w b (arrI l)) : RowI w b l := fun i _ hx => (h.cell i).trans (arrI_get hx)
theorem RowI.ext {w w' : World} {b : Nat} {l : List W32} (h : RowI w b l) (hb : Ext w w') : RowI w' b l := fun i x hx => (hb.cells.1 b i (World.block_lt_of_cell? w ⟨b, i, none⟩ (h i x hx))).trans (h i x hx)
theorem RowI.of_app {w : World} {b : Nat} {st : HSt} {z : Array Value} (h : Box w b (#[.int .i64 (u st.a), .int .i64 (u st.b), .int .i64 (u st.c), .int .i64 (u st.d), .int .i64 (u st.e), .int .i64 (u st.f), .int .i64 (u st.g), .int .i64 (u st.h)] ++ z)) : RowI w b (listS st) := by
  intro i x hx
  have hi : i < 8 := by have := (List.getElem?_eq_some_iff.1 hx).1; simpa [listS] using this
  rw [h.cell, Array.getElem?_append_left (by simpa using hi)]
  exact arrI_get hx
theorem l3Not (x : W32) : wd (bits .xor .i64 (if IntKind.i64.signed = true then -1 else 9223372036854775807) (u x)) = ~~~x := by
  rw [if_pos (by decide)]
  have e1 : (BitVec.ofInt 64 (u x)).toNat = x.toNat := by unfold u; simp only [BitVec.toNat_ofInt]; have := x.isLt; omega
  have e2 : BitVec.ofInt 64 (-1) = BitVec.allOnes 64 := by decide
  have e3 : (BitVec.allOnes 64 ^^^ BitVec.ofInt 64 (u x)) = ~~~ (BitVec.ofInt 64 (u x)) := by ext i hi; rw [BitVec.getElem_xor, BitVec.getElem_allOnes, BitVec.getElem_not]; cases (BitVec.ofInt 64 (u x))[i] <;> rfl
  show BitVec.ofInt 32 (IntKind.i64.wrap ((BitVec.ofInt 64 (-1) ^^^ BitVec.ofInt 64 (u x)).toNat : Int)) = _
  rw [e2, e3]
  apply BitVec.eq_of_toNat_eq
  rw [BitVec.toNat_not, BitVec.toNat_ofInt, BitVec.toNat_not, e1]
  have := x.isLt
  simp [IntKind.wrap, IntKind.signed, IntKind.bits]
  omega
theorem RowI.of_own {w : World} {base g n c : Nat} {e : TypeId} {l : List W32} (h : w.ownsRow base e 1 (.slice (some ⟨g, 0, none⟩) n c) n (l.map vI)) : RowI w g l := by
  rcases h.2 with ⟨hv, _⟩ | ⟨g', cap, cur, hv, hb, hg, h1, h2, h3, h4⟩
  · cases hv
  · cases hv
    intro i x hx
    have hi : i < l.length := (List.getElem?_eq_some_iff.1 hx).1
    have hl : l.length = n * 1 := by simpa using h.1
    have this : (cur.toList.take (n * 1))[i]? = some (vI x) := by rw [h4]; simp [hx]
    rw [List.getElem?_take, if_pos (by omega)] at this
    rw [cell_of_row w g _ cur e (0, 0) hg]
    simpa [vI] using this
theorem add8_get (v r : HSt) : ∀ k, k < 8 → ∃ x y, (listS v)[k]? = some x ∧ (listS r)[k]? = some y ∧ (listS (addS v r)).take (k + 1) = (listS (addS v r)).take k ++ [x + y]
  | 0, _ => ⟨_, _, rfl, rfl, rfl⟩ | 1, _ => ⟨_, _, rfl, rfl, rfl⟩ | 2, _ => ⟨_, _, rfl, rfl, rfl⟩ | 3, _ => ⟨_, _, rfl, rfl, rfl⟩
  | 4, _ => ⟨_, _, rfl, rfl, rfl⟩ | 5, _ => ⟨_, _, rfl, rfl, rfl⟩ | 6, _ => ⟨_, _, rfl, rfl, rfl⟩ | 7, _ => ⟨_, _, rfl, rfl, rfl⟩
  | n + 8, h => absurd h (by omega)
theorem own_less {w : World} {b b' sz n : Nat} {e : TypeId} {v : Value} {us : List Value} (hb : b ≤ b') (h : w.ownsRow b' e sz v n us) : w.ownsRow b e sz v n us :=
  ⟨h.1, h.2.imp id fun ⟨g, cap, cur, h1, h2, h3⟩ => ⟨g, cap, cur, h1, Nat.le_trans hb h2, h3⟩⟩
theorem infoI3 : (Tryz.prog.info? 3).map (fun i => (i.zero, i.size, i.bytes)) = some (some (.int .i64 0), 1, 8) := by kernel_rfl
theorem be4_at {s : ByteArray} {k : Nat} (h : k + 3 < s.size) : bits .or .i64 (bits .or .i64 (bits .or .i64 (((s[k]'(by omega)).toNat : Int) * 16777216) (((s[k + 1]'(by omega)).toNat : Int) * 65536)) (((s[k + 2]'(by omega)).toNat : Int) * 256)) ((s[k + 3]'(by omega)).toNat : Int) = u (wordAt s k) := by
  unfold wordAt
  rw [byte_getD (show k < s.size by omega), byte_getD (show k + 1 < s.size by omega), byte_getD (show k + 2 < s.size by omega), byte_getD h]
  exact be4_i64 (UInt8.toNat_lt _) (UInt8.toNat_lt _) (UInt8.toNat_lt _) (UInt8.toNat_lt _)
theorem be4w_at {s : ByteArray} {k : Nat} (h : k + 3 < s.size) : bits .or .i64 (bits .or .i64 (bits .or .i64 (wrap64 (wrap64 ((s[k]'(by omega)).toNat : Int) * 16777216)) (wrap64 (wrap64 ((s[k + 1]'(by omega)).toNat : Int) * 65536))) (wrap64 (wrap64 ((s[k + 2]'(by omega)).toNat : Int) * 256))) (wrap64 ((s[k + 3]'(by omega)).toNat : Int)) = u (wordAt s k) := by
  have b0 := UInt8.toNat_lt (s[k]'(by omega))
  have b1 := UInt8.toNat_lt (s[k + 1]'(by omega))
  have b2 := UInt8.toNat_lt (s[k + 2]'(by omega))
  have b3 := UInt8.toNat_lt (s[k + 3]'(by omega))
  rw [IntWalk.wrap64_in ((s[k]'(by omega)).toNat : Int) (by omega), IntWalk.wrap64_in ((s[k + 1]'(by omega)).toNat : Int) (by omega), IntWalk.wrap64_in ((s[k + 2]'(by omega)).toNat : Int) (by omega), IntWalk.wrap64_in ((s[k + 3]'(by omega)).toNat : Int) (by omega)]
  rw [IntWalk.wrap64_in (((s[k]'(by omega)).toNat : Int) * 16777216) (by omega), IntWalk.wrap64_in (((s[k + 1]'(by omega)).toNat : Int) * 65536) (by omega), IntWalk.wrap64_in (((s[k + 2]'(by omega)).toNat : Int) * 256) (by omega)]
  exact be4_at h
set_option maxRecDepth 100000 in
set_option maxHeartbeats 4000000 in
theorem l3Block_any (hv : HSt) (s : ByteArray) (bh ch bk ck : Nat) (w : World) (hs : s.size = 64) (hH : RowI w bh (listS hv)) (hK : RowI w bk shaK) :
    Calls Tryz.prog 182 #[.slice (some ⟨bh, 0, none⟩) 8 ch, .string s, .slice (some ⟨bk, 0, none⟩) 64 ck] w fun e w' => ∃ b c, e = .returned (.slice (some ⟨b, 0, none⟩) 8 c) ∧ w'.ownsRow w.heap.size 3 1 (.slice (some ⟨b, 0, none⟩) 8 c) 8 ((listS (blk hv s 0)).map vI) ∧ Ext w w' := by
  have hmk : ∀ w, (Instr.makeSlice 106 (.int .i64 64) (.int .i64 64)).run Tryz.prog w = .ok (.slice (some ⟨w.heap.size, 0, none⟩) 64 64) (w.alloc (.cells #[.int .i64 0, .int .i64 0, .int .i64 0, .int .i64 0, .int .i64 0, .int .i64 0, .int .i64 0, .int .i64 0, .int .i64 0, .int .i64 0, .int .i64 0, .int .i64 0, .int .i64 0, .int .i64 0, .int .i64 0, .int .i64 0, .int .i64 0, .int .i64 0, .int .i64 0, .int .i64 0, .int .i64 0, .int .i64 0, .int .i64 0, .int .i64 0, .int .i64 0, .int .i64 0, .int .i64 0, .int .i64 0, .int .i64 0, .int .i64 0, .int .i64 0, .int .i64 0, .int .i64 0, .int .i64 0, .int .i64 0, .int .i64 0, .int .i64 0, .int .i64 0, .int .i64 0, .int .i64 0, .int .i64 0, .int .i64 0, .int .i64 0, .int .i64 0, .int .i64 0, .int .i64 0, .int .i64 0, .int .i64 0, .int .i64 0, .int .i64 0, .int .i64 0, .int .i64 0, .int .i64 0, .int .i64 0, .int .i64 0, .int .i64 0, .int .i64 0, .int .i64 0, .int .i64 0, .int .i64 0, .int .i64 0, .int .i64 0, .int .i64 0, .int .i64 0] 3)) := fun _ => by kernel_rfl
  have hs1 : (64 : Int) ≤ (s.size : Int) := by omega
  have HS := Lib.hid hs
  have HH := Lib.hid hH
  have HK := Lib.hid hK
  clear hs hH hK
  go_enter Tryz.func182, Tryz.ntmps182
  go_wp2
  clear hmk
  go_loopg [8] 16 (fun g i wr => ∃ k : Nat, k ≤ 16 ∧ g = 16 - k ∧ i = .int .i64 k ∧ Ext w wr ∧ Box wr w.heap.size (arrI (wrow s 0 k)))
  case atStart => exact ⟨0, by omega, by omega, rfl, extB, (show Box _ w.heap.size #[.int .i64 0, .int .i64 0, .int .i64 0, .int .i64 0, .int .i64 0, .int .i64 0, .int .i64 0, .int .i64 0, .int .i64 0, .int .i64 0, .int .i64 0, .int .i64 0, .int .i64 0, .int .i64 0, .int .i64 0, .int .i64 0, .int .i64 0, .int .i64 0, .int .i64 0, .int .i64 0, .int .i64 0, .int .i64 0, .int .i64 0, .int .i64 0, .int .i64 0, .int .i64 0, .int .i64 0, .int .i64 0, .int .i64 0, .int .i64 0, .int .i64 0, .int .i64 0, .int .i64 0, .int .i64 0, .int .i64 0, .int .i64 0, .int .i64 0, .int .i64 0, .int .i64 0, .int .i64 0, .int .i64 0, .int .i64 0, .int .i64 0, .int .i64 0, .int .i64 0, .int .i64 0, .int .i64 0, .int .i64 0, .int .i64 0, .int .i64 0, .int .i64 0, .int .i64 0, .int .i64 0, .int .i64 0, .int .i64 0, .int .i64 0, .int .i64 0, .int .i64 0, .int .i64 0, .int .i64 0, .int .i64 0, .int .i64 0, .int .i64 0, .int .i64 0] from boxB)⟩
  case round =>
    obtain ⟨k, hk, hg, rfl, hE, hB2⟩ := hrel
    have HG := Lib.hid hg; clear hg
    by_cases hlt : k < 16
    · obtain ⟨c2, f2, l2⟩ := hB2.rules
      obtain ⟨y, hy⟩ : ∃ y, (wrow s 0 k)[k]? = some y := ⟨_, List.getElem?_eq_getElem (by rw [wrow_len s 0 k (by omega)]; omega)⟩
      have q0 : wr.cell? ⟨w.heap.size, k, none⟩ = some (.int .i64 (u y)) := (c2 k).trans (arrI_get hy)
      have HN := Lib.hid (show (wrow s 0 k).set k (wordAt s (4 * k)) = wrow s 0 (k + 1) from by rw [← wrow_set s 0 k (by omega)]; congr 1; rw [wl, List.getD_eq_getElem?_getD, List.getElem?_append_right (by rw [wl_len]; omega), wl_len]; simp [hlt])
      have hf2 := f2 k
      clear hy c2 f2
      have k0 : (0 : Int) ≤ (k : Int) := by omega
      have j0 : (4 : Int) * (k : Int) < (s.size : Int) := by omega
      have j1 : (4 : Int) * (k : Int) + 1 < (s.size : Int) := by omega
      have j2 : (4 : Int) * (k : Int) + 2 < (s.size : Int) := by omega
      have j3 : (4 : Int) * (k : Int) + 3 < (s.size : Int) := by omega
      have i1 : (0 : Int) ≤ (4 : Int) * (k : Int) + 1 := by omega
      have i2 : (0 : Int) ≤ (4 : Int) * (k : Int) + 2 := by omega
      have i3 : (0 : Int) ≤ (4 : Int) * (k : Int) + 3 := by omega
      have i0 : (0 : Int) ≤ (4 : Int) * (k : Int) := by omega
      have v0 : IntKind.i64.wrap ((4 : Int) * (k : Int)) = (4 : Int) * (k : Int) := IntWalk.i64_in _ (by omega)
      have v1 : IntKind.i64.wrap ((4 : Int) * (k : Int) + 1) = (4 : Int) * (k : Int) + 1 := IntWalk.i64_in _ (by omega)
      have v2 : IntKind.i64.wrap ((4 : Int) * (k : Int) + 2) = (4 : Int) * (k : Int) + 2 := IntWalk.i64_in _ (by omega)
      have v3 : IntKind.i64.wrap ((4 : Int) * (k : Int) + 3) = (4 : Int) * (k : Int) + 3 := IntWalk.i64_in _ (by omega)
      have n0 : 4 * k < s.size := by omega
      have n1 : 4 * k + 1 < s.size := by omega
      have n2 : 4 * k + 2 < s.size := by omega
      have n3 : 4 * k + 3 < s.size := by omega
      have t0 : ((4 : Int) * (k : Int)).toNat = 4 * k := by omega
      have t1 : ((4 : Int) * (k : Int) + 1).toNat = 4 * k + 1 := by omega
      have t2 : ((4 : Int) * (k : Int) + 2).toNat = 4 * k + 2 := by omega
      have t3 : ((4 : Int) * (k : Int) + 3).toNat = 4 * k + 3 := by omega
      go_wp2
      go_region
      all_goals
        go_wp2
        go_roundg (16 - (k + 1))
        case measure => rw [HG.out]; omega
        case rel => exact ⟨k + 1, by omega, rfl, by go_num, extB, by have h := hB2.set (o := k) (.int .i64 (u (wordAt s (4 * k)))); rw [arrI_set, HN.out, ← be4w_at n3] at h; exact h⟩
    · obtain rfl : k = 16 := by omega
      obtain ⟨wo, hwo⟩ : ∃ wo : World, wo = wr := ⟨_, rfl⟩
      subst hwo
      have F0 := Lib.hid (⟨hE, hB2⟩ : Ext w wo ∧ Box wo w.heap.size (arrI (wrow s 0 16)))
      clear hE hB2
      go_wp2
      go_loopg [9] 48 (fun g i wr => ∃ k : Nat, 16 ≤ k ∧ k ≤ 64 ∧ g = 64 - k ∧ i = .int .i64 k ∧ Ext w wr ∧ Box wr w.heap.size (arrI (wrow s 0 k)))
      case atStart => exact ⟨16, by omega, by omega, by omega, rfl, F0.out⟩
      case round =>
        clear F0
        obtain ⟨k, hk0, hk, hg, rfl, hE, hB2⟩ := hrel
        have HG := Lib.hid hg; clear hg
        by_cases hlt : k < 64
        · obtain ⟨c2, f2, l2⟩ := hB2.rules
          obtain ⟨y, hy⟩ : ∃ y, (wrow s 0 k)[k]? = some y := ⟨_, List.getElem?_eq_getElem (by rw [wrow_len s 0 k (by omega)]; omega)⟩
          have q0 : wr.cell? ⟨w.heap.size, k, none⟩ = some (.int .i64 (u y)) := (c2 k).trans (arrI_get hy)
          obtain ⟨a15, h15⟩ : ∃ a, a = (wl s 0 k).getD (k - 15) 0 := ⟨_, rfl⟩
          obtain ⟨a2, h2⟩ : ∃ a, a = (wl s 0 k).getD (k - 2) 0 := ⟨_, rfl⟩
          obtain ⟨a16, h16⟩ : ∃ a, a = (wl s 0 k).getD (k - 16) 0 := ⟨_, rfl⟩
          obtain ⟨a7, h7⟩ : ∃ a, a = (wl s 0 k).getD (k - 7) 0 := ⟨_, rfl⟩
          have q15 : wr.cell? ⟨w.heap.size, k - 15, none⟩ = some (.int .i64 (u a15)) := (c2 _).trans (arrI_get (by rw [h15]; exact wrow_get s 0 k _ (by omega)))
          have q2 : wr.cell? ⟨w.heap.size, k - 2, none⟩ = some (.int .i64 (u a2)) := (c2 _).trans (arrI_get (by rw [h2]; exact wrow_get s 0 k _ (by omega)))
          have q16 : wr.cell? ⟨w.heap.size, k - 16, none⟩ = some (.int .i64 (u a16)) := (c2 _).trans (arrI_get (by rw [h16]; exact wrow_get s 0 k _ (by omega)))
          have q7 : wr.cell? ⟨w.heap.size, k - 7, none⟩ = some (.int .i64 (u a7)) := (c2 _).trans (arrI_get (by rw [h7]; exact wrow_get s 0 k _ (by omega)))
          have hf2 := f2 k
          have HN := Lib.hid (show (wrow s 0 k).set k (a16 + sg0 a15 + a7 + sg1 a2) = wrow s 0 (k + 1) from by rw [← wrow_set s 0 k (by omega)]; congr 1; rw [wl, List.getD_eq_getElem?_getD, List.getElem?_append_right (by rw [wl_len]; omega), wl_len, h15, h2, h16, h7]; simp [show ¬ k < 16 by omega])
          clear hy c2 f2 h15 h2 h16 h7
          have e15 : (0 : Int) ≤ (k : Int) - 15 := by omega
          have e2 : (0 : Int) ≤ (k : Int) - 2 := by omega
          have e16 : (0 : Int) ≤ (k : Int) - 16 := by omega
          have e7 : (0 : Int) ≤ (k : Int) - 7 := by omega
          have g15 : (k : Int) - 15 < 64 := by omega
          have g2 : (k : Int) - 2 < 64 := by omega
          have g16 : (k : Int) - 16 < 64 := by omega
          have g7 : (k : Int) - 7 < 64 := by omega
          have t15 : ((k : Int) - 15).toNat = k - 15 := by omega
          have t2 : ((k : Int) - 2).toNat = k - 2 := by omega
          have t16 : ((k : Int) - 16).toNat = k - 16 := by omega
          have t7 : ((k : Int) - 7).toNat = k - 7 := by omega
          have w15 : IntKind.i64.wrap ((k : Int) - 15) = (k : Int) - 15 := IntWalk.i64_in _ (by omega)
          have w2 : IntKind.i64.wrap ((k : Int) - 2) = (k : Int) - 2 := IntWalk.i64_in _ (by omega)
          have w16 : IntKind.i64.wrap ((k : Int) - 16) = (k : Int) - 16 := IntWalk.i64_in _ (by omega)
          have w7 : IntKind.i64.wrap ((k : Int) - 7) = (k : Int) - 7 := IntWalk.i64_in _ (by omega)
          go_wp2
          go_quiet ((go_at_call 242; exact Calls.quiet_of_same (l3RightI_any _ _ _ (by omega) (by omega))))
          revert nq; intro m1
          go_wp2
          go_quiet ((go_at_call 242; exact quiet_add_same (l3RightI_any _ _ _ (by omega) (by omega))))
          go_wp2
          rw [xsg0 a15, xsg1 a2]
          have v1 : IntKind.i64.wrap (u a16 + u (sg0 a15)) = u a16 + u (sg0 a15) := IntWalk.i64_in _ (by have := u_bd a16; have := u_bd (sg0 a15); omega)
          have v2 : IntKind.i64.wrap (u a16 + u (sg0 a15) + u a7) = u a16 + u (sg0 a15) + u a7 := IntWalk.i64_in _ (by have := u_bd a16; have := u_bd (sg0 a15); have := u_bd a7; omega)
          have v3 : IntKind.i64.wrap (u a16 + u (sg0 a15) + u a7 + u (sg1 a2)) = u a16 + u (sg0 a15) + u a7 + u (sg1 a2) := IntWalk.i64_in _ (by have := u_bd a16; have := u_bd (sg0 a15); have := u_bd a7; have := u_bd (sg1 a2); omega)
          refine wp_region_still_tail 18 (by kernel_rfl) (by kernel_rfl) ?_
          simp only [List.take_succ_cons, List.take_zero, List.drop_succ_cons, List.drop_zero]
          change wpStill _ _ ((wr.drewN m1).drewN nq).drew (fun a' => wpList _ _ _ _ a' ((wr.drewN m1).drewN nq).drew) _ _
          have zE : Ext w ((wr.drewN m1).drewN nq).drew := extB
          have zB : Box ((wr.drewN m1).drewN nq).drew w.heap.size (arrI (wrow s 0 k)) := hB2
          have z0 : ((wr.drewN m1).drewN nq).drew.cell? ⟨w.heap.size, k, none⟩ = some (.int .i64 (u y)) := q0
          have z7 : ((wr.drewN m1).drewN nq).drew.cell? ⟨w.heap.size, k - 7, none⟩ = some (.int .i64 (u a7)) := q7
          have z16 : ((wr.drewN m1).drewN nq).drew.cell? ⟨w.heap.size, k - 16, none⟩ = some (.int .i64 (u a16)) := q16
          have zf : ((wr.drewN m1).drewN nq).drew.frozen? ⟨w.heap.size, k, none⟩ = false := hf2
          have zl : w.heap.size < ((wr.drewN m1).drewN nq).drew.heap.size := l2
          generalize ((wr.drewN m1).drewN nq).drew = wz at *
          clear q0 q7 q16 q15 q2 hf2 l2 hE hB2
          have c16 : (16 : Int) ≤ (k : Int) := by omega
          have c7 : (7 : Int) ≤ (k : Int) := by omega
          repeat still_step
          still_call (l3Word_is (x := a16 + sg0 a15 + a7 + sg1 a2) _ (by have := u_bd a16; have := u_bd (sg0 a15); have := u_bd a7; have := u_bd (sg1 a2); omega) (by have := u_bd a16; have := u_bd (sg0 a15); have := u_bd a7; have := u_bd (sg1 a2); omega) (by rw [wd_add, wd_add, wd_add, wd_u, wd_u, wd_u, wd_u]))
          refine wpStill_nil ?_
          change wpList _ _ _ _ _ wz
          go_wp2
          go_roundg (64 - (k + 1))
          case measure => rw [HG.out]; omega
          case rel => exact ⟨k + 1, by omega, by omega, rfl, by go_num, extB, by have h := zB.set (o := k) (.int .i64 (u (a16 + sg0 a15 + a7 + sg1 a2))); rw [arrI_set, HN.out] at h; exact h⟩
        · obtain rfl : k = 64 := by omega
          obtain ⟨w4, hw4⟩ : ∃ wo : World, wo = wr := ⟨_, rfl⟩
          subst hw4
          have F0 := Lib.hid (⟨hE, hB2⟩ : Ext w w4 ∧ Box w4 w.heap.size (arrI (wrow s 0 64)))
          clear hE hB2
          rw [wrow_64] at F0
          have hbl : bh < w4.heap.size := Nat.lt_of_lt_of_le (World.block_lt_of_cell? w ⟨bh, 0, none⟩ (HH.out 0 _ rfl)) F0.out.1.size
          have h0 : w4.cell? ⟨bh, 0, none⟩ = some (.int .i64 (u hv.a)) := HH.out.ext F0.out.1 0 _ rfl
          have h1 : w4.cell? ⟨bh, 1, none⟩ = some (.int .i64 (u hv.b)) := HH.out.ext F0.out.1 1 _ rfl
          have h2 : w4.cell? ⟨bh, 2, none⟩ = some (.int .i64 (u hv.c)) := HH.out.ext F0.out.1 2 _ rfl
          have h3 : w4.cell? ⟨bh, 3, none⟩ = some (.int .i64 (u hv.d)) := HH.out.ext F0.out.1 3 _ rfl
          have h4 : w4.cell? ⟨bh, 4, none⟩ = some (.int .i64 (u hv.e)) := HH.out.ext F0.out.1 4 _ rfl
          have h5 : w4.cell? ⟨bh, 5, none⟩ = some (.int .i64 (u hv.f)) := HH.out.ext F0.out.1 5 _ rfl
          have h6 : w4.cell? ⟨bh, 6, none⟩ = some (.int .i64 (u hv.g)) := HH.out.ext F0.out.1 6 _ rfl
          have h7 : w4.cell? ⟨bh, 7, none⟩ = some (.int .i64 (u hv.h)) := HH.out.ext F0.out.1 7 _ rfl
          go_wp2
          clear h0 h1 h2 h3 h4 h5 h6 h7
          go_loopg [12, 13] 64 (fun g v i wr => ∃ (k b c : Nat), k ≤ 64 ∧ g = 64 - k ∧ i = .int .i64 k ∧ v = .slice (some ⟨b, 0, none⟩) 8 c ∧ Ext w wr ∧ Box wr w.heap.size (arrI (wl s 0 64)) ∧ RowI wr b (listS (rnds hv (wl s 0 64) k)))
          case atStart =>
            obtain ⟨g1, g2⟩ := F0.out
            exact ⟨0, _, _, by omega, by omega, rfl, rfl, extB, boxB, RowI.of_app (st := hv) (Box.drew (Box.new (by simp)))⟩
          case round =>
            clear F0 hbl
            obtain ⟨k, b, c, hk, hg, rfl, rfl, hE, hB2, hR⟩ := hrel
            have HG := Lib.hid hg; clear hg
            by_cases hlt : k < 64
            · obtain ⟨st, hst⟩ : ∃ st, st = rnds hv (wl s 0 64) k := ⟨_, rfl⟩
              rw [← hst] at hR
              have HST := Lib.hid hst; clear hst
              obtain ⟨ww, hww⟩ : ∃ ww, ww = (wl s 0 64).getD k 0 := ⟨_, rfl⟩
              obtain ⟨kk, hkk⟩ : ∃ kk, kk = shaK.getD k 0 := ⟨_, rfl⟩
              have qw : wr.cell? ⟨w.heap.size, k, none⟩ = some (.int .i64 (u ww)) := (hB2.cell k).trans (arrI_get (by rw [hww, List.getD_eq_getElem?_getD, List.getElem?_eq_getElem (by rw [wl_len]; exact hlt)]; rfl))
              have qk : wr.cell? ⟨bk, k, none⟩ = some (.int .i64 (u kk)) := HK.out.ext hE k kk (by rw [hkk, List.getD_eq_getElem?_getD, List.getElem?_eq_getElem (show k < shaK.length from hlt)]; rfl)
              have HN := Lib.hid (show rnds hv (wl s 0 64) (k + 1) = rnd st kk ww from by rw [rnds, ← HST.out, hkk, hww])
              clear hww hkk
              have k0 : (0 : Int) ≤ (k : Int) := by omega
              have k1 : (k : Int) < 64 := by omega
              have h0 := hR 0 _ rfl
              have h1 := hR 1 _ rfl
              have h2 := hR 2 _ rfl
              have h3 := hR 3 _ rfl
              have h4 := hR 4 _ rfl
              have h5 := hR 5 _ rfl
              have h6 := hR 6 _ rfl
              have h7 := hR 7 _ rfl
              obtain ⟨X, hX⟩ : ∃ X, X = rotr st.e 6 ^^^ rotr st.e 11 ^^^ rotr st.e 25 := ⟨_, rfl⟩
              obtain ⟨Y, hY⟩ : ∃ Y, Y = (st.e &&& st.f) ^^^ (~~~st.e &&& st.g) := ⟨_, rfl⟩
              have x1 : bits .xor .i64 (bits .xor .i64 (u (rotr st.e 6)) (u (rotr st.e 11))) (u (rotr st.e 25)) = u X := by rw [xor_i, xor_i, hX]
              have y1 : bits .xor .i64 (bits .and .i64 (u st.e) (u st.f)) (bits .and .i64 (u (~~~st.e)) (u st.g)) = u Y := by rw [and_i, and_i, xor_i, hY]
              have s1 : IntKind.i64.wrap (u st.h + u X) = u st.h + u X := IntWalk.i64_in _ (by have := u_bd st.h; have := u_bd X; omega)
              have s2 : IntKind.i64.wrap (u st.h + u X + u Y) = u st.h + u X + u Y := IntWalk.i64_in _ (by have := u_bd st.h; have := u_bd X; have := u_bd Y; omega)
              have s3 : IntKind.i64.wrap (u st.h + u X + u Y + u kk) = u st.h + u X + u Y + u kk := IntWalk.i64_in _ (by have := u_bd st.h; have := u_bd X; have := u_bd Y; have := u_bd kk; omega)
              have s4 : IntKind.i64.wrap (u st.h + u X + u Y + u kk + u ww) = u st.h + u X + u Y + u kk + u ww := IntWalk.i64_in _ (by have := u_bd st.h; have := u_bd X; have := u_bd Y; have := u_bd kk; have := u_bd ww; omega)
              obtain ⟨T, hT⟩ : ∃ T, T = u st.h + u X + u Y + u kk + u ww := ⟨_, rfl⟩
              have bT : 0 ≤ T ∧ T < 21474836480 := by have := u_bd st.h; have := u_bd X; have := u_bd Y; have := u_bd kk; have := u_bd ww; omega
              have HT := Lib.hid (show wd T = rndT st kk ww from by rw [hT, wd_add, wd_add, wd_add, wd_add, wd_u, wd_u, wd_u, wd_u, wd_u, hX, hY]; rfl)
              have HT2 := Lib.hid hT.symm
              clear hT hX hY
              go_wp2
              go_quiet ((first | (go_at_call 242; exact Calls.quiet_of_same (l3RightI_any _ _ _ (by omega) (by omega))) | (go_at_call 243; exact Calls.quiet_of_same (l3Word_is (x := ~~~st.e) _ (bits_within .xor .i64 _ _).1 (bits_within .xor .i64 _ _).2 (l3Not st.e)))))
              rw [HT2.out]
              clear x1 y1 s1 s2 s3 s4
              have zE : Ext w (wr.drewN nq) := extB
              have zB : Box (wr.drewN nq) w.heap.size (arrI (wl s 0 64)) := hB2
              have zR : RowI (wr.drewN nq) b (listS st) := hR
              generalize wr.drewN nq = wz at *
              clear h0 h1 h2 h3 h4 h5 h6 h7 qw qk hR hB2 hE
              have h0 := zR 0 _ rfl
              have h1 := zR 1 _ rfl
              have h2 := zR 2 _ rfl
              obtain ⟨X2, hX⟩ : ∃ X, X = rotr st.a 2 ^^^ rotr st.a 13 ^^^ rotr st.a 22 := ⟨_, rfl⟩
              obtain ⟨Y2, hY⟩ : ∃ Y, Y = (st.a &&& st.b) ^^^ (st.a &&& st.c) ^^^ (st.b &&& st.c) := ⟨_, rfl⟩
              have x1 : bits .xor .i64 (bits .xor .i64 (u (rotr st.a 2)) (u (rotr st.a 13))) (u (rotr st.a 22)) = u X2 := by rw [xor_i, xor_i, hX]
              have y1 : bits .xor .i64 (bits .xor .i64 (bits .and .i64 (u st.a) (u st.b)) (bits .and .i64 (u st.a) (u st.c))) (bits .and .i64 (u st.b) (u st.c)) = u Y2 := by rw [and_i, and_i, and_i, xor_i, xor_i, hY]
              have s1 : IntKind.i64.wrap (u X2 + u Y2) = u X2 + u Y2 := IntWalk.i64_in _ (by have := u_bd X2; have := u_bd Y2; omega)
              obtain ⟨U, hU⟩ : ∃ U, U = u X2 + u Y2 := ⟨_, rfl⟩
              have bU : 0 ≤ U ∧ U < 8589934592 := by have := u_bd X2; have := u_bd Y2; omega
              have HA := Lib.hid (show wd (T + U) = (rnd st kk ww).a from by rw [wd_add, HT.out, hU, wd_add, wd_u, wd_u, hX, hY]; exact (BitVec.add_assoc _ _ _).symm)
              have HD := Lib.hid (show wd (u st.d + T) = (rnd st kk ww).e from by rw [wd_add, HT.out, wd_u]; rfl)
              have HU2 := Lib.hid hU.symm
              clear hU hX hY
              go_wp2
              go_quiet ((go_at_call 242; exact Calls.quiet_of_same (l3RightI_any _ _ _ (by omega) (by omega))))
              rw [HU2.out]
              clear x1 y1 s1
              go_wp2
              have e1 : IntKind.i64.wrap (T + U) = T + U := IntWalk.i64_in _ (by omega)
              have e2 : IntKind.i64.wrap (u st.d + T) = u st.d + T := IntWalk.i64_in _ (by have := u_bd st.d; omega)
              refine wp_region_still_tail 28 (by kernel_rfl) (by kernel_rfl) ?_
              simp only [List.take_succ_cons, List.take_zero, List.drop_succ_cons, List.drop_zero]
              change wpStill _ _ (wz.drewN nq).drew (fun a' => wpList _ _ _ _ a' (wz.drewN nq).drew) _ _
              have yE : Ext w (wz.drewN nq).drew := extB
              have yB : Box (wz.drewN nq).drew w.heap.size (arrI (wl s 0 64)) := zB
              have yR : RowI (wz.drewN nq).drew b (listS st) := zR
              generalize (wz.drewN nq).drew = wy at *
              clear h0 h1 h2 zR zB zE
              have h0 := yR 0 _ rfl
              have h1 := yR 1 _ rfl
              have h2 := yR 2 _ rfl
              have h3 := yR 3 _ rfl
              have h4 := yR 4 _ rfl
              have h5 := yR 5 _ rfl
              have h6 := yR 6 _ rfl
              repeat still_step
              still_call (l3Word_is (x := (rnd st kk ww).a) _ (by omega) (by omega) HA.out)
              repeat still_step
              still_call (l3Word_is (x := (rnd st kk ww).e) _ (by have := u_bd st.d; omega) (by have := u_bd st.d; omega) HD.out)
              repeat still_step
              refine wpStill_nil ?_
              change wpList _ _ _ _ _ wy
              go_wp2
              go_roundg (64 - (k + 1))
              case measure => rw [HG.out]; omega
              case rel => exact ⟨k + 1, wy.heap.size, 8, by omega, rfl, by go_num, rfl, extB, boxB, by rw [HN.out]; exact RowI.of_box (show Box _ wy.heap.size (arrI (listS (rnd st kk ww))) from Box.new rfl)⟩
            · obtain rfl : k = 64 := by omega
              obtain ⟨w6, hw6⟩ : ∃ wo : World, wo = wr := ⟨_, rfl⟩
              subst hw6
              obtain ⟨rr, hrr⟩ : ∃ r, r = rnds hv (wl s 0 64) 64 := ⟨_, rfl⟩
              rw [← hrr] at hR
              have HF := Lib.hid (show addS hv rr = blk hv s 0 from by rw [hrr]; rfl)
              have F0 := Lib.hid (⟨hE, hR⟩ : Ext w w6 ∧ RowI w6 b (listS rr))
              clear hrr hE hR hB2
              obtain ⟨i0, hi, hz0, hz1, hz2⟩ := info_parts infoI3
              go_wp2
              go_loopg [18, 19] 8 (fun g v i wr => ∃ k : Nat, k ≤ 8 ∧ g = 8 - k ∧ i = .int .i64 k ∧ Ext w6 wr ∧ wr.ownsRow w6.heap.size 3 1 v k (((listS (addS hv rr)).take k).map vI))
              case atStart => exact ⟨0, by omega, by omega, rfl, extB, by first | exact World.ownsRow_made (e := 3) (size := 1) (base := w6.heap.size) w6 #[] 0 (by omega) (by decide) rfl | exact own_ext (World.ownsRow_made (e := 3) (size := 1) (base := w6.heap.size) w6 #[] 0 (by omega) (by decide) rfl) extB⟩
              case round =>
                obtain ⟨k, hk, hg, rfl, hE2, hO⟩ := hrel
                have HG := Lib.hid hg; clear hg
                by_cases hlt : k < 8
                · obtain ⟨x, y, hx, hy, ht⟩ := add8_get hv rr k hlt
                  have HT := Lib.hid ht
                  have qx : wr.cell? ⟨bh, k, none⟩ = some (.int .i64 (u x)) := HH.out.ext (Ext.trans F0.out.1 hE2) k x hx
                  have qy : wr.cell? ⟨b, k, none⟩ = some (.int .i64 (u y)) := F0.out.2.ext hE2 k y hy
                  clear hx hy ht
                  have k0 : (0 : Int) ≤ (k : Int) := by omega
                  have k1 : (k : Int) < 8 := by omega
                  have bs : -9223372036854775808 ≤ u x + u y ∧ u x + u y ≤ 9223372036854775807 := by have := u_bd x; have := u_bd y; omega
                  have s1 : IntKind.i64.wrap (u x + u y) = u x + u y := IntWalk.i64_in _ bs
                  obtain ⟨uo, ul, uc, rfl⟩ := own_slice hO
                  go_wp2
                  have zs := hE2.size
                  go_wp2_with fail
                  go_region_law
                    (first
                      | (refine step_append_sl _ (by rfl) _ _ _ (by rfl) w6.heap.size 3 i0 (.int .i64 0) 1 8 Tryz.underlying106 hi hz0 hz1 hz2 rfl (by decide) (.slice uo ul uc) k _ (by rfl) (own_ext hO extB) _ [.int .i64 (u (x + y))] (by rfl) (Sl.new rfl) encV_len (fun y hy u hu => by simp [encV] at hy hu; subst hu; subst hy; rfl) (by unfold maxLen; simp; omega) (by simp; omega) (by first | omega | (simp; omega)) ?_; intro v' w3 hO3 hG3 _; have hE3 : Ext w6 w3 := Ext.of_grown extB hG3 (fun b hb' => by have := hO.lt b hb'; omega))
                      | (go_simp; go_at_call 243; (refine (l3Word_is (x := x + y) _ bs.1 bs.2 (by rw [wd_add, wd_u, wd_u])).mono ?_); rintro e w' ⟨rfl, rfl⟩))
                  all_goals
                    go_wp2
                    go_roundg (8 - (k + 1))
                    case measure => rw [HG.out]; omega
                    case rel => exact ⟨k + 1, by omega, rfl, by go_num, extB, by rw [HT.out, List.map_append]; simpa [encV, vI] using hO3⟩
                · obtain rfl : k = 8 := by omega
                  rcases own_value hO with ⟨_, h0, _⟩ | ⟨g, c', rfl⟩
                  · omega
                  go_wp2
                  go_ret
                  exact ⟨g, c', rfl, by rw [← HF.out]; exact own_less F0.out.1.size hO, Ext.trans F0.out.1 hE2⟩
end Go.Proofs.YtiboajlnjldalaaGreatDoor

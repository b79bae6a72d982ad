/- Several texts, one behind the other. -/
import Derived.Test.YtcbknmnlgoeniaaPvZ
import Derived.Test.YtcbknmnlgoeniaaPT
import Derived.Test.YtcbknmnlgoeniaaI5
import Derived.Test.YtcbknmnlgoeniaaTys
import Derived.Test.YtcbknmnlgoeniaaI4
/- The pure machine: calls of which only a property of what they yield is known; what is one's own becomes what is read. -/
namespace Go.Proofs.Ytcbknmnlgoeniaa
set_option linter.unusedSimpArgs false
set_option linter.unusedVariables false
open Go.RowKit

/-- What a call yields: some value, and its memory, of which a property is known. -/
def RX {α : Type} (v : α → PV) (H : α → Hp) (p : α → Prop) : PV → Hp → Prop := fun r H' => ∃ a, p a ∧ r = v a ∧ H' = H a
section
variable {T : Tys} {σ : St} {e : Exit} {N : Nat} {a b c : Tmp} {α : Type} {v : α → PV} {H : α → Hp} {p : α → Prop}
theorem pendX {rs : List ResultVar} (x : α) (φ : List Nat) (he : e = .ret ∨ e = .normal) {pvs : List PV} (h1 : presults T rs σ = some pvs) (h2 : ptuple pvs = ren φ σ.H.length (v x)) (h3 : blkR φ σ.H.length σ.H φ (H x)) (h4 : nodupR φ = true) (h5 : preR φ N) (hp : p x) : PPostR T N rs (RX v H p) e σ :=
  pend he h1 φ h2 ⟨h4, h5, h3⟩ ⟨x, hp, rfl, rfl⟩
theorem pendX0 (x : α) (φ : List Nat) (he : e = .ret ∨ e = .normal) (h2 : PV.tup [] = ren φ σ.H.length (v x)) (h3 : blkR φ σ.H.length σ.H φ (H x)) (h4 : nodupR φ = true) (h5 : preR φ N) (hp : p x) : PPostR T N [] (RX v H p) e σ := pendX x φ he rfl h2 h3 h4 h5 hp
theorem pendX1 (x : α) (φ : List Nat) (he : e = .ret ∨ e = .normal) (h2 : σ.tm.getD a (.val undef) = ren φ σ.H.length (v x)) (h3 : blkR φ σ.H.length σ.H φ (H x)) (h4 : nodupR φ = true) (h5 : preR φ N) (hp : p x) : PPostR T N [.tmp a] (RX v H p) e σ := pendX x φ he rfl h2 h3 h4 h5 hp
theorem pendX2 (x : α) (φ : List Nat) (he : e = .ret ∨ e = .normal) (h2 : PV.tup [σ.tm.getD a (.val undef), σ.tm.getD b (.val undef)] = ren φ σ.H.length (v x)) (h3 : blkR φ σ.H.length σ.H φ (H x)) (h4 : nodupR φ = true) (h5 : preR φ N) (hp : p x) : PPostR T N [.tmp a, .tmp b] (RX v H p) e σ := pendX x φ he rfl h2 h3 h4 h5 hp
theorem pendX3 (x : α) (φ : List Nat) (he : e = .ret ∨ e = .normal) (h2 : PV.tup [σ.tm.getD a (.val undef), σ.tm.getD b (.val undef), σ.tm.getD c (.val undef)] = ren φ σ.H.length (v x)) (h3 : blkR φ σ.H.length σ.H φ (H x)) (h4 : nodupR φ = true) (h5 : preR φ N) (hp : p x) : PPostR T N [.tmp a, .tmp b, .tmp c] (RX v H p) e σ := pendX x φ he rfl h2 h3 h4 h5 hp
end
section
variable {P : Program} {g : FuncId} {args args0 : List PV} {H0 : Hp} {σ : St} {K : PV → St → Prop} {α : Type} {v : α → PV} {H : α → Hp} {p : α → Prop}
/-- A call to which memory of one's own is handed over. -/
theorem pcall_XG (hc : Callable P g) (φ : List Nat) (ha : args = renL φ σ.H.length args0) (hH : blkE φ σ.H.length σ.H φ H0) (hn : nodupR φ = true) (h : PCalls P g args0 H0 (RX v H p)) (hk : ∀ x, p x → K (ren φ σ.H.length (v x)) ⟨σ.tm, wback φ σ.H (H x)⟩) : pcall P true g args σ K :=
  have hR := (blkE_R hH).1
  ⟨hc, .inr (.inr (.inr ⟨rfl, φ, H0, args0, _, h, blkR_len hR, nodupR_ok hn, ha, fun i b hb => by
    have hi : i < H0.length := by rw [← blkR_len hR]; exact (List.getElem?_eq_some_iff.1 hb).1
    have hsome := List.all_eq_true.1 (blkE_R hH).2 H0[i] (List.getElem_mem hi)
    obtain ⟨B, hB⟩ := Option.isSome_iff_exists.1 hsome
    have e : H0[i]? = some (some B) := by rw [List.getElem?_eq_getElem hi, hB]
    obtain ⟨b', B', g1, g2, g3⟩ := blkR_get hR i B e
    rw [hb] at g1
    cases g1
    exact ⟨B, B', e, g2, g3⟩, fun r H'' ⟨x, hp, e1, e2⟩ => by subst e1; subst e2; exact hk x hp⟩))⟩
/-- A call whose arguments hold no memory of one's own: it may yield anything. -/
theorem pcall_X1 {cm : Bool} (hc : Callable P g) (ha : args.all cloA = true) (h : PCalls P g args [] (RX v H p)) (hk : ∀ x, p x → K (ren [] σ.H.length (v x)) ⟨σ.tm, σ.H ++ (H x).map (renB [] σ.H.length)⟩) : pcall P cm g args σ K :=
  ⟨hc, .inl ⟨_, h, ha, fun r H'' ⟨x, hp, e1, e2⟩ => by subst e1; subst e2; exact hk x hp⟩⟩
theorem pcall_H1 {cm : Bool} {v : PV} {H' : Hp} (hc : Callable P g) (ha : args.all cloA = true) (h : PCalls P g args [] (RH v H')) (hk : K (ren [] σ.H.length v) ⟨σ.tm, σ.H ++ H'.map (renB [] σ.H.length)⟩) : pcall P cm g args σ K :=
  ⟨hc, .inl ⟨_, h, ha, fun r H'' ⟨e1, e2⟩ => by subst e1; subst e2; exact hk⟩⟩
/-- A call that looks at memory of one's own and yields new memory. -/
theorem pcall_X3 {cm : Bool} (hc : Callable P g) (h : PCalls P g (args.map (vw σ.H)) [] (RX v H p)) (hv : ∀ x, p x → fre (v x) = true) (hH : ∀ x, p x → freH (H x)) (ha : vwAll σ.H args) (hk : ∀ x, p x → K (ren [] σ.H.length (v x)) ⟨σ.tm, σ.H ++ (H x).map (renB [] σ.H.length)⟩) : pcall P cm g args σ K :=
  ⟨hc, .inr (.inr (.inl ⟨_, h, vwAll_mem ha, fun r H'' ⟨x, hp, e1, e2⟩ => by subst e1; subst e2; exact ⟨hv x hp, hH x hp, hk x hp⟩⟩))⟩
/-- A call that looks at memory of one's own and yields none. -/
theorem pcall_X2 {cm : Bool} (hc : Callable P g) (h : PCalls P g (args.map (vw σ.H)) [] (RX v H p)) (hv : ∀ x, p x → scalP (v x) = true) (ha : vwAll σ.H args) (hk : ∀ x, p x → K (v x) σ) : pcall P cm g args σ K :=
  ⟨hc, .inr (.inl ⟨_, h, vwAll_mem ha, fun r H'' ⟨x, hp, e1, _⟩ => by subst e1; exact ⟨hv x hp, hk x hp⟩⟩)⟩
end
/-! ### What is one's own becomes memory that nobody writes -/
def thawT (b sz : Nat) (es : List (List PV)) : PV → PV
  | .tup fs => .tup (fs.map (thaw b sz es))
  | p => thaw b sz es p
theorem freezeV_ok {M : Mem} {h : Home} {H : Hp} {w : World} (I : Inv M h H w) {b : Nat} {e : TypeId} {sz : Nat} {es : List (List PV)} (hH : H[b]? = some (some (.row e sz es))) (hcl : ∀ row ∈ es, row.all cloC = true) {pv : PV} {v : Value} (r : VR M h pv v) :
    ∃ M', Step M h H w M' h ((H.set b none).map (thawB b sz es)) w ∧ VR M' h (thawT b sz es pv) v := by
  obtain ⟨u, hb, _⟩ := I.blk b _ hH
  have one : ∀ {p : PV} {x : Value}, VR M h p x → ∃ M', Step M h H w M' h ((H.set b none).map (thawB b sz es)) w ∧ VR M' h (thaw b sz es p) x := fun {p x} r => by
    obtain ⟨M', s, t, _⟩ := freeze_ok (σ := ⟨[p], H⟩) I hH hb hcl (ts := #[x]) ⟨rfl, fun i q y a d => by
      cases i with
      | zero => simp at a d; subst a; subst d; exact r
      | succ i => simp at a⟩
    exact ⟨M', s, t.vr 0 _ x rfl rfl⟩
  cases r with
  | tup fs vs h1 h2 =>
    obtain ⟨M', s, t, _⟩ := freeze_ok (σ := ⟨fs, H⟩) I hH hb hcl (ts := vs) ⟨h1.symm, fun i q y a d => h2 i q y a d⟩
    refine ⟨M', s, .tup _ _ (by simpa using h1) fun i pv v a d => t.vr i pv v a d⟩
  | val => exact one (.val _)
  | sl0 z o c => exact one (.sl0 z o c)
  | sl z es b off cap f h1 h2 h3 h4 h5 h6 => exact one (.sl z es b off cap f h1 h2 h3 h4 h5 h6)
  | agg fs vs h1 h2 => exact one (.agg fs vs h1 h2)
  | ptr b o k h1 => exact one (.ptr b o k h1)
  | own b o n c h1 => exact one (.own b o n c h1)
  | eptr cs o b off f h1 h2 => exact one (.eptr cs o b off f h1 h2)
  | optr b z i o g n c h1 => exact one (.optr b z i o g n c h1)
  | clo f caps vs h1 h2 => exact one (.clo f caps vs h1 h2)
/-- A contract, a row of what is yielded frozen. -/
theorem PCalls.thawX {P : Program} {f : FuncId} {args : List PV} {H0 : Hp} {α : Type} {v v' : α → PV} {H H' : α → Hp} {p : α → Prop} (c : PCalls P f args H0 (RX v H p)) (b : Nat) (φ : List Nat)
    (hx : ∀ x, p x → ∃ e sz es, (H x)[b]? = some (some (.row e sz es)) ∧ (∀ row ∈ es, row.all cloC = true) ∧ thawT b sz es (v x) = ren φ (H x).length (v' x) ∧ nodupR φ = true ∧ preR φ H0.length ∧ blkR φ (H x).length (((H x).set b none).map (thawB b sz es)) φ (H' x)) : PCalls P f args H0 (RX v' H' p) := by
  intro M hh w vs I rv
  refine (c M hh w vs I rv).mono fun e w' ⟨u, M', h', pv, H1, e1, ⟨x, hp, e2, e3⟩, e4, e5⟩ => ?_
  subst e2
  subst e3
  obtain ⟨e, sz, es, g1, g2, g3, g4, g5, g6⟩ := hx x hp
  obtain ⟨M2, s, r⟩ := freezeV_ok e5.inv g1 g2 e4
  have rf : Refit H0.length φ (H' x) (((H x).set b none).map (thawB b sz es)) := ⟨g4, g5, by simpa using g6⟩
  have st := rf.step I.len (e5.trans s)
  rw [g3] at r
  exact ⟨u, M2, homeR φ h', v' x, H' x, e1, ⟨x, hp, rfl, rfl⟩, Refit.vr (H := ((H x).set b none).map (thawB b sz es)) s.inv (by simpa using r), st⟩
theorem PCalls.rx {P : Program} {f : FuncId} {args : List PV} {H0 : Hp} {v : PV} {H : Hp} (c : PCalls P f args H0 (RH v H)) : PCalls P f args H0 (RX (fun _ : Unit => v) (fun _ => H) fun _ => True) := by
  intro M hh w vs I rv
  refine (c M hh w vs I rv).mono fun e w' ⟨u, M', h', pv, H1, e1, ⟨e2, e3⟩, e4, e5⟩ => ⟨u, M', h', pv, H1, e1, ⟨(), trivial, e2, e3⟩, e4, e5⟩
theorem PCalls.rh {P : Program} {f : FuncId} {args : List PV} {H0 : Hp} {v : PV} {H : Hp} (c : PCalls P f args H0 (RX (fun _ : Unit => v) (fun _ => H) fun _ => True)) : PCalls P f args H0 (RH v H) := by
  intro M hh w vs I rv
  refine (c M hh w vs I rv).mono fun e w' ⟨u, M', h', pv, H1, e1, ⟨_, _, e2, e3⟩, e4, e5⟩ => ⟨u, M', h', pv, H1, e1, ⟨e2, e3⟩, e4, e5⟩
theorem PCalls.thawH {P : Program} {f : FuncId} {args : List PV} {H0 : Hp} {v v' : PV} {H H' : Hp} (c : PCalls P f args H0 (RH v H)) (b : Nat) (φ : List Nat) {e : TypeId} {sz : Nat} {es : List (List PV)}
    (g1 : H[b]? = some (some (.row e sz es))) (g2 : ∀ row ∈ es, row.all cloC = true) (g3 : thawT b sz es v = ren φ H.length v') (g4 : nodupR φ = true) (g5 : preR φ H0.length) (g6 : blkR φ H.length ((H.set b none).map (thawB b sz es)) φ H') : PCalls P f args H0 (RH v' H') :=
  PCalls.rh (PCalls.thawX c.rx b φ fun _ _ => ⟨e, sz, es, g1, g2, g3, g4, g5, g6⟩)
/-- The same ahead of any code. -/
theorem PWp.frz {P : Program} {N : Nat} {c : Code} {Q : Exit → St → Prop} {tm : List PV} {H : Hp} (b : Nat) {e : TypeId} {sz : Nat} {es : List (List PV)} (hH : H[b]? = some (some (.row e sz es))) (hcl : ∀ row ∈ es, row.all cloC = true) (h : PWp P N c Q ((⟨tm, H⟩ : St).thaw b sz es)) : PWp P N c Q ⟨tm, H⟩ := fun E a w hN r => by
  obtain ⟨M, hh, s, t, d⟩ := r
  obtain ⟨u, hb, _⟩ := s.inv.blk b _ hH
  obtain ⟨M', s', t', _⟩ := freeze_ok (σ := ⟨tm, H⟩) s.inv hH hb hcl t
  exact h E a w hN ⟨M', hh, s.trans s', t', d⟩
theorem size_mk {l : List UInt8} : (⟨l.toArray⟩ : ByteArray).size = l.length := by simp [ByteArray.size]
end Go.Proofs.Ytcbknmnlgoeniaa
/- The pure machine: a slice that is nil may be taken for an empty one. -/
namespace Go.Proofs.Ytcbknmnlgoeniaa
set_option linter.unusedSimpArgs false
set_option linter.unusedVariables false
open Go.RowKit

/-- The second value is the first one, a slice that is nil taken for an empty one. -/
inductive Wk : PV → PV → Prop
  | rfl (p : PV) : Wk p p
  | nil (z : Nat) : Wk (.val (.slice none 0 0)) (.sl z [])
  | agg (fs gs : List PV) : fs.length = gs.length → (∀ (i : Nat) (p q : PV), fs[i]? = some p → gs[i]? = some q → Wk p q) → Wk (.agg fs) (.agg gs)
  | tup (fs gs : List PV) : fs.length = gs.length → (∀ (i : Nat) (p q : PV), fs[i]? = some p → gs[i]? = some q → Wk p q) → Wk (.tup fs) (.tup gs)
theorem Wk.vr {M : Mem} {h : Home} {p q : PV} (k : Wk p q) : ∀ {v : Value}, VR M h p v → VR M h q v := by
  induction k with
  | rfl p => exact fun r => r
  | nil z => intro v r; cases r; exact .sl0 z none 0
  | agg fs gs hl _ ih =>
    intro v r
    cases r with
    | agg _ vs h1 h2 =>
      refine .agg _ _ (by omega) fun i q v a b => ?_
      have hi : i < fs.length := by have := (List.getElem?_eq_some_iff.1 a).1; omega
      exact ih i fs[i] q (List.getElem?_eq_getElem hi) a (h2 i _ v (List.getElem?_eq_getElem hi) b)
  | tup fs gs hl _ ih =>
    intro v r
    cases r with
    | tup _ vs h1 h2 =>
      refine .tup _ _ (by omega) fun i q v a b => ?_
      have hi : i < fs.length := by have := (List.getElem?_eq_some_iff.1 a).1; omega
      exact ih i fs[i] q (List.getElem?_eq_getElem hi) a (h2 i _ v (List.getElem?_eq_getElem hi) b)
def WkL : List PV → List PV → Prop
  | [], [] => True
  | p :: ps, q :: qs => Wk p q ∧ WkL ps qs
  | _, _ => False
theorem WkL.len : ∀ {ps qs : List PV}, WkL ps qs → ps.length = qs.length
  | [], [], _ => rfl
  | _ :: _, _ :: _, h => by simp [WkL.len h.2]
  | [], _ :: _, h => h.elim
  | _ :: _, [], h => h.elim
theorem WkL.get : ∀ {ps qs : List PV}, WkL ps qs → ∀ (i : Nat) (p q : PV), ps[i]? = some p → qs[i]? = some q → Wk p q
  | _ :: _, _ :: _, h, 0, p, q, a, b => by simp at a b; subst a; subst b; exact h.1
  | _ :: _, _ :: _, h, i + 1, p, q, a, b => WkL.get h.2 i p q (by simpa using a) (by simpa using b)
  | [], [], _, i, p, q, a, _ => by simp at a
  | [], _ :: _, h, _, _, _, _, _ => h.elim
  | _ :: _, [], h, _, _, _, _, _ => h.elim
theorem wk_agg {fs gs : List PV} (h : WkL fs gs) : Wk (.agg fs) (.agg gs) := .agg _ _ h.len h.get
theorem wk_tup {fs gs : List PV} (h : WkL fs gs) : Wk (.tup fs) (.tup gs) := .tup _ _ h.len h.get
section
variable {P : Program} {f : FuncId} {args args' : List PV} {H0 H : Hp} {v v' : PV}
theorem PCalls.wkR (c : PCalls P f args H0 (RH v H)) (k : Wk v v') : PCalls P f args H0 (RH v' H) := by
  intro M hh w vs I rv
  refine (c M hh w vs I rv).mono fun e w' ⟨u, M', h', pv, H1, e1, ⟨e2, e3⟩, e4, e5⟩ => ⟨u, M', h', v', H1, e1, ⟨rfl, e3⟩, ?_, e5⟩
  subst e2
  exact k.vr e4
theorem PCalls.wkA {R : PV → Hp → Prop} (c : PCalls P f args' H0 R) (k : WkL args args') : PCalls P f args H0 R := by
  intro M hh w vs I rv
  refine c M hh w vs I ⟨k.len ▸ rv.1, fun i q v a b => ?_⟩
  have hi : i < args.length := by have := (List.getElem?_eq_some_iff.1 a).1; rw [k.len]; exact this
  exact (k.get i args[i] q (List.getElem?_eq_getElem hi) a).vr (rv.2 i _ v (List.getElem?_eq_getElem hi) b)
end
/-- A value in a frame, taken so. -/
theorem PWp.wk {P : Program} {N : Nat} {c : Code} {Q : Exit → St → Prop} {tm : List PV} {H : Hp} (i : Nat) {p : PV} (q : PV) (hp : tm[i]? = some p) (k : Wk p q) (h : PWp P N c Q ⟨tm.set i q, H⟩) : PWp P N c Q ⟨tm, H⟩ := fun E a w hN r => by
  obtain ⟨M, hh, s, t, d⟩ := r
  refine h E a w hN ⟨M, hh, s, ⟨by simpa using t.size, fun j x u h1 h2 => ?_⟩, d⟩
  by_cases e : i = j
  · subst e
    have hi := (List.getElem?_eq_some_iff.1 hp).1
    rw [List.getElem?_set_self hi] at h1
    cases h1
    exact k.vr (t.vr i p u hp h2)
  · rw [List.getElem?_set_ne e] at h1
    exact t.vr j x u h1 h2
theorem Inv.wkB {M : Mem} {h : Home} {H : Hp} {w : World} (I : Inv M h H w) {b : Nat} {cs cs' : List PV} (hH : H[b]? = some (some (.box cs))) (k : WkL cs cs') :
    Inv M h (H.set b (some (.box cs'))) w ∧ ∀ x, Homes h (H.set b (some (.box cs'))) x → Homes h H x := by
  have old : ∀ {c : Nat} {B : Blk}, (H.set b (some (.box cs')))[c]? = some (some B) → ∃ B0, H[c]? = some (some B0) ∧ (B0 = B ∨ c = b ∧ B = .box cs') := fun {c B} q => by
    by_cases e : b = c
    · subst e
      rw [List.getElem?_set_self (List.getElem?_eq_some_iff.1 hH).1] at q
      exact ⟨_, hH, .inr ⟨rfl, by injection q with q; injection q with q; exact q.symm⟩⟩
    · rw [List.getElem?_set_ne e] at q
      exact ⟨B, q, .inl rfl⟩
  have hom : ∀ x, Homes h (H.set b (some (.box cs'))) x → Homes h H x := fun x ⟨c, B, v, q1, q2⟩ => by
    obtain ⟨B0, h1, _⟩ := old q1
    exact ⟨c, B0, v, h1, q2⟩
  refine ⟨⟨I.mem, I.one, fun c B q => ?_, fun x hx o => I.sep x (hom x hx) o, fun c c' B B' v v' x g1 g2 => ?_, fun c v q => by simpa using I.len c v q, I.glob⟩, hom⟩
  · obtain ⟨B0, h1, h2⟩ := old q
    obtain ⟨v, h3, h4⟩ := I.blk c B0 h1
    rcases h2 with rfl | ⟨rfl, rfl⟩
    · exact ⟨v, h3, h4⟩
    · rw [hH] at h1
      cases h1
      obtain ⟨g, us, t, p1, p2, p3, p4, p5⟩ := h4
      refine ⟨v, h3, g, us, t, p1, p2, by rw [p3, k.len], p4, fun j pv u a d => ?_⟩
      have hj : j < cs.length := by have := (List.getElem?_eq_some_iff.1 a).1; rw [k.len]; exact this
      exact (k.get j cs[j] pv (List.getElem?_eq_getElem hj) a).vr (p5 j _ u (List.getElem?_eq_getElem hj) d)
  · obtain ⟨B0, h1, _⟩ := old g1
    obtain ⟨B1, h2, _⟩ := old g2
    exact I.inj c c' B0 B1 v v' x h1 h2
/-- A box in memory of one's own, taken so. -/
theorem PWp.wkB {P : Program} {N : Nat} {c : Code} {Q : Exit → St → Prop} {tm : List PV} {H : Hp} (b : Nat) {cs : List PV} (cs' : List PV) (hH : H[b]? = some (some (.box cs))) (k : WkL cs cs') (h : PWp P N c Q ⟨tm, H.set b (some (.box cs'))⟩) : PWp P N c Q ⟨tm, H⟩ := fun E a w hN r => by
  obtain ⟨M, hh, s, t, d⟩ := r
  obtain ⟨I, hom⟩ := s.inv.wkB hH k
  exact h E a w hN ⟨M, hh, s.trans ⟨.refl _, .refl _, I, .refl, fun x hx => .inl (hom x hx), fun _ _ _ q => .inl q⟩, t, d⟩
/-! ### Results that stand in memory -/
theorem mapM_one {f : ResultVar → Option PV} {r : ResultVar} {rs : List ResultVar} {p : PV} {ps : List PV} (h1 : f r = some p) (h2 : rs.mapM f = some ps) : (r :: rs).mapM f = some (p :: ps) := by
  rw [List.mapM_cons, h1, h2]
  rfl
section
variable {T : Tys} {σ : St} {X : PV} {rs : List ResultVar}
theorem presults_nil : presults T [] σ = some [] := rfl
theorem presults_tmp {t : Tmp} {ps : List PV} (h : presults T rs σ = some ps) : presults T (.tmp t :: rs) σ = some (σ.tm.getD t (.val undef) :: ps) := mapM_one rfl h
theorem presults_agg {a b o n : Nat} {t : TypeId} {i : TI} {cs : List PV} {ps : List PV} (hv : σ.tm.getD a (.val undef) = .ptr b o) (hb : σ.H[b]? = some (some (.box cs))) (ht : T t = some i) (hz : i.size = n) (hd : (match i.d with | .struct _ => true | .array _ _ _ => true | _ => false) = true) (hl : o + n ≤ cs.length) (h : presults T rs σ = some ps) : presults T (.cell a t :: rs) σ = some (.agg ((cs.drop o).take n) :: ps) := by
  refine mapM_one ?_ h
  simp only [hv, pcells, hb, ht]
  subst hz
  split
  · rw [if_pos hl]
  · rw [if_pos hl]
  · rename_i h1 h2; revert hd; cases hi : i.d <;> simp_all
theorem presults_one {a b o : Nat} {t : TypeId} {i : TI} {cs : List PV} {p : PV} {ps : List PV} (hv : σ.tm.getD a (.val undef) = .ptr b o) (hb : σ.H[b]? = some (some (.box cs))) (ht : T t = some i) (hd : (match i.d with | .struct _ => true | .array _ _ _ => true | _ => false) = false) (hl : cs[o]? = some p) (h : presults T rs σ = some ps) : presults T (.cell a t :: rs) σ = some (p :: ps) := by
  refine mapM_one ?_ h
  simp only [hv, pcells, hb, ht]
  split
  · rename_i h1; rw [h1] at hd; simp at hd
  · rename_i h1; rw [h1] at hd; simp at hd
  · exact hl
theorem pendVG {e : Exit} (he : e = .ret ∨ e = .normal) (h : ∃ pvs, presults T rs σ = some pvs ∧ ptuple pvs = X) (hs : scalP X = true) : PPostR T 0 rs (RV X) e σ := by
  obtain ⟨pvs, h1, h2⟩ := h
  exact pendV he h1 hs h2
theorem pendHG {N : Nat} {H : Hp} {e : Exit} (φ : List Nat) (he : e = .ret ∨ e = .normal) (h : ∃ pvs, presults T rs σ = some pvs ∧ ptuple pvs = ren φ σ.H.length X) (h3 : blkR φ σ.H.length σ.H φ H) (h4 : nodupR φ = true) (h5 : preR φ N) : PPostR T N rs (RH X H) e σ := by
  obtain ⟨pvs, h1, h2⟩ := h
  exact pendH φ he h1 h2 h3 h4 h5
theorem pendXG {N : Nat} {e : Exit} {α : Type} {v : α → PV} {H : α → Hp} {p : α → Prop} (x : α) (φ : List Nat) (he : e = .ret ∨ e = .normal) (h : ∃ pvs, presults T rs σ = some pvs ∧ ptuple pvs = ren φ σ.H.length (v x)) (h3 : blkR φ σ.H.length σ.H φ (H x)) (h4 : nodupR φ = true) (h5 : preR φ N) (hp : p x) : PPostR T N rs (RX v H p) e σ := by
  obtain ⟨pvs, h1, h2⟩ := h
  exact pendX x φ he h1 h2 h3 h4 h5 hp
end
theorem ptuple_0 : ptuple [] = .tup [] := rfl
theorem ptuple_1 {p : PV} : ptuple [p] = p := rfl
theorem ptuple_2 {p q : PV} {l : List PV} : ptuple (p :: q :: l) = .tup (p :: q :: l) := rfl
attribute [push_cast] ptuple_0 ptuple_1 ptuple_2
/-! ### Calls, with the looks of their own -/
theorem rowsC1 {α : Type} {f : α → List PV} (h : ∀ x, (f x).all cloC = true) {xs : List α} {r : List PV} (hr : r.all cloC = true) : ∀ row ∈ xs.map f ++ [r], row.all cloC = true := fun row hm => by
  rcases List.mem_append.1 hm with q | q
  · obtain ⟨x, _, rfl⟩ := List.mem_map.1 q; exact h x
  · rw [List.mem_singleton.1 q]; exact hr
theorem pcV {P : Program} {cm : Bool} {g : FuncId} {args : List PV} {σ : St} {K : PV → St → Prop} {v : PV} (hc : Callable P g) (h : PCalls P g (args.map (vw σ.H)) [] (RV v)) (hk : K v σ) (hv : scalP v = true := by rfl) (ha : vwAll σ.H args := by repeat' (first | exact trivial | exact rfl | exact vwOk_clo rfl | exact rowsC fun _ => rfl | exact rowsC2 fun _ => rfl | exact rowsC1 (fun _ => rfl) rfl | refine And.intro ?_ ?_ | refine vwOk_ag ?_ | refine vwOk_cl ?_)) : pcall P cm g args σ K := pcall_RV hc h hv ha hk
theorem pcH {P : Program} {cm : Bool} {g : FuncId} {args : List PV} {σ : St} {K : PV → St → Prop} {v : PV} {H' : Hp} (hc : Callable P g) (h : PCalls P g (args.map (vw σ.H)) [] (RH v H')) (hk : K (ren [] σ.H.length v) ⟨σ.tm, σ.H ++ H'.map (renB [] σ.H.length)⟩) (hv : fre v = true := by repeat' (first | exact trivial | exact rfl | exact rowsF fun _ => rfl | refine And.intro ?_ ?_)) (hH : freH H' := by repeat' (first | exact trivial | exact rfl | exact rowsF fun _ => rfl | refine And.intro ?_ ?_)) (ha : vwAll σ.H args := by repeat' (first | exact trivial | exact rfl | exact vwOk_clo rfl | exact rowsC fun _ => rfl | exact rowsC2 fun _ => rfl | exact rowsC1 (fun _ => rfl) rfl | refine And.intro ?_ ?_ | refine vwOk_ag ?_ | refine vwOk_cl ?_)) : pcall P cm g args σ K := pcall_RH hc h hv hH ha hk
theorem pcF {P : Program} {cm : Bool} {g : FuncId} {args : List PV} {σ : St} {K : PV → St → Prop} {v : PV} {H' : Hp} (hc : Callable P g) (h : PCalls P g args [] (RH v H')) (hk : K (ren [] σ.H.length v) ⟨σ.tm, σ.H ++ H'.map (renB [] σ.H.length)⟩) (ha : args.all cloA = true := by ((try simp (disch := omega) only [push_cast, seval]); first | done | exact rfl)) : pcall P cm g args σ K := pcall_H1 hc ha h hk
end Go.Proofs.Ytcbknmnlgoeniaa
/- Plain functions: lists, small tests. -/
namespace Go.Proofs.Ytcbknmnlgoeniaa
set_option linter.unusedSimpArgs false
set_option linter.unusedVariables false
open Go.RowKit

/-- A list of which each element, and each two neighbours, are as they should be. -/
def adjAt {α : Type} (f : α → Bool) (g : α → α → Bool) (l : List α) (k : Nat) : Bool :=
  match l[k]? with
  | none => true
  | some v => f v && (match k with | 0 => true | j + 1 => match l[j]? with | none => true | some u => g u v)
def adjOk {α : Type} (f : α → Bool) (g : α → α → Bool) (l : List α) : Bool := allN (adjAt f g l) l.length
theorem adjAt_zero {α : Type} {f : α → Bool} {g : α → α → Bool} {l : List α} {v : α} (h : l[0]? = some v) : adjAt f g l 0 = f v := by unfold adjAt; rw [h]; simp
theorem adjAt_succ {α : Type} {f : α → Bool} {g : α → α → Bool} {l : List α} {j : Nat} {u v : α} (h : l[j + 1]? = some v) (h' : l[j]? = some u) : adjAt f g l (j + 1) = (f v && g u v) := by unfold adjAt; rw [h]; simp only; rw [h']
theorem adjOk_no {α : Type} {f : α → Bool} {g : α → α → Bool} {l : List α} {k : Nat} (hk : k < l.length) (h : adjAt f g l k = false) : adjOk f g l = false := allN_no hk h
theorem adjOk_end {α : Type} {f : α → Bool} {g : α → α → Bool} {l : List α} (h : allTo (adjAt f g l) l.length) : adjOk f g l = true := allTo_end h
def isTime (t : Int) : Bool := inB t 0 1000000
def isHeight (h : Int) : Bool := inB h 1 1000000
def valsOk (l : List GVal) : Bool := adjOk (fun v => inB v.fId 1 99 && inB v.fPower 1 1000) (fun u v => decide (u.fId < v.fId)) l && inB l.length 1 7
end Go.Proofs.Ytcbknmnlgoeniaa
/- Walks on the pure machine: the smallest functions. -/
namespace Go.Proofs.Ytcbknmnlgoeniaa
set_option linter.unusedSimpArgs false
set_option linter.unusedVariables false
open Go.RowKit
set_option maxRecDepth 100000

set_option maxHeartbeats 1000000 in
theorem l1In_p (x lo hi : Int) : PCalls Try.prog 59 [.val (.int .i64 x), .val (.int .i64 lo), .val (.int .i64 hi)] [] (RV (.val (.bool (inB x lo hi)))) := by
  refine pcalls_ofR okP Try.func59 rfl ?_
  simp only [Try.f59, List.length_cons, List.length_nil, Nat.reduceAdd, Nat.reduceSub, List.replicate_succ, List.replicate_zero, List.cons_append, List.nil_append, List.length_map]
  repeat' (first | with_reducible refine PWp.seq ?_ | with_reducible refine PWp.block ?_ | with_reducible refine PWp.region okP true ?_ | with_reducible (first | refine pops_nil ?_ | refine pany_nil ?_ | refine pthen_normal ?_ | refine pblock_normal ?_ | refine pthen_ret ?_ | refine pblock_ret ?_ | refine pthen_exit ?_ | refine pblock_here ?_ | refine pblock_there rfl ?_ | refine PWp.ret ?_ | refine PWp.exit ?_ | refine PWp.skip ?_) | ((with_reducible refine hK _ ?_); clear hK K) | ((with_reducible refine pops_guard0 ?_); refine ⟨_, rfl, fun K hK => ⟨rfl, ?_⟩⟩; (try simp (disch := omega) only [push_cast, seval])) | ((with_reducible refine pops_plain fun K hK => ?_); simp (disch := omega) only [push_cast, seval]) | ((with_reducible refine pops_guard ?_); refine ⟨_, rfl, fun K hK => ⟨_, rfl, fun hg => ?_, fun hg => ?_⟩⟩ <;> first | (exact absurd hg (by decide)) | ((try simp only [Bool.not_true, Bool.not_false] at hg); (try simp only [hg]); (try simp only [push_cast] at hg); (try exact absurd trivial hg); (try (exfalso; omega)); (try simp (disch := omega) only [push_cast, seval]))) | ((with_reducible refine And.intro ?_ ?_); omega))
  all_goals
    ((first | with_reducible (first | refine pendV1 ?_ ?_ ?_ | refine pendV2 ?_ ?_ ?_ | refine pendV3 ?_ ?_ ?_ | refine pendV0 ?_ ?_ ?_) | refine pendVG ?_ ?_ ?_); (· (first | exact .inl rfl | exact .inr rfl)); rotate_left 1; (· exact rfl); (try (apply Exists.intro; apply And.intro; (· repeat' (first | exact presults_nil | apply presults_tmp | (apply presults_agg; (· exact rfl); (· exact rfl); (· exact rfl); (· exact rfl); (· exact rfl); (· first | exact Nat.le_refl _ | decide | simp)) | (apply presults_one; (· exact rfl); (· exact rfl); (· exact rfl); (· exact rfl); (· exact rfl)))))); (try simp only [push_cast, seval]))
    simp [inB]
    omega
set_option maxHeartbeats 1000000 in
theorem within_p (x lo hi : Int) : PCalls Try.prog 23 [.val (.int .i64 x), .val (.int .i64 lo), .val (.int .i64 hi)] [] (RV (.val (.bool (inB x lo hi)))) := by
  refine pcalls_ofR okP Try.func23 rfl ?_
  simp only [Try.f23, List.length_cons, List.length_nil, Nat.reduceAdd, Nat.reduceSub, List.replicate_succ, List.replicate_zero, List.cons_append, List.nil_append, List.length_map]
  repeat' (first | with_reducible refine PWp.seq ?_ | with_reducible refine PWp.block ?_ | with_reducible refine PWp.region okP true ?_ | with_reducible (first | refine pops_nil ?_ | refine pany_nil ?_ | refine pthen_normal ?_ | refine pblock_normal ?_ | refine pthen_ret ?_ | refine pblock_ret ?_ | refine pthen_exit ?_ | refine pblock_here ?_ | refine pblock_there rfl ?_ | refine PWp.ret ?_ | refine PWp.exit ?_ | refine PWp.skip ?_) | ((with_reducible refine hK _ ?_); clear hK K) | ((with_reducible refine pops_guard0 ?_); refine ⟨_, rfl, fun K hK => ⟨rfl, ?_⟩⟩; (try simp (disch := omega) only [push_cast, seval])) | ((with_reducible refine pops_plain fun K hK => ?_); simp (disch := omega) only [push_cast, seval]) | ((with_reducible refine pops_guard ?_); refine ⟨_, rfl, fun K hK => ⟨_, rfl, fun hg => ?_, fun hg => ?_⟩⟩ <;> first | (exact absurd hg (by decide)) | ((try simp only [Bool.not_true, Bool.not_false] at hg); (try simp only [hg]); (try simp only [push_cast] at hg); (try exact absurd trivial hg); (try (exfalso; omega)); (try simp (disch := omega) only [push_cast, seval]))) | ((with_reducible refine And.intro ?_ ?_); omega))
  all_goals
    ((first | with_reducible (first | refine pendV1 ?_ ?_ ?_ | refine pendV2 ?_ ?_ ?_ | refine pendV3 ?_ ?_ ?_ | refine pendV0 ?_ ?_ ?_) | refine pendVG ?_ ?_ ?_); (· (first | exact .inl rfl | exact .inr rfl)); rotate_left 1; (· exact rfl); (try (apply Exists.intro; apply And.intro; (· repeat' (first | exact presults_nil | apply presults_tmp | (apply presults_agg; (· exact rfl); (· exact rfl); (· exact rfl); (· exact rfl); (· exact rfl); (· first | exact Nat.le_refl _ | decide | simp)) | (apply presults_one; (· exact rfl); (· exact rfl); (· exact rfl); (· exact rfl); (· exact rfl)))))); (try simp only [push_cast, seval]))
    simp [inB]
    omega
end Go.Proofs.Ytcbknmnlgoeniaa
/- The pure machine: contracts that were proved over the model's worlds. -/
namespace Go.Proofs.Ytcbknmnlgoeniaa
set_option linter.unusedSimpArgs false
set_option linter.unusedVariables false
open Go.RowKit

/-- The program's variables, as a world holds them. -/
def GlobW (w : World) : Prop := ∀ (i : Nat) (n : Int), globL[i]? = some n → w.cell? ⟨0, i, none⟩ = some (.int .u32 n)
theorem GlobW.mem {w : World} (h : GlobW w) : Glob (memW w) := fun i n q => memW_of (h i n q) rfl
theorem flats {M : Mem} {h : Home} : ∀ {args : List PV} {us vs : List Value}, args.map flat = us.map some → args.length = vs.length → (∀ (i : Nat) (pv : PV) (v : Value), args[i]? = some pv → vs[i]? = some v → VR M h pv v) → vs = us
  | [], [], [], _, _, _ => rfl
  | [], _ :: _, _, e, _, _ => by simp at e
  | _ :: _, [], _, e, _, _ => by simp at e
  | [], [], _ :: _, _, e, _ => by simp at e
  | _ :: _, _ :: _, [], _, e, _ => by simp at e
  | a :: ar, u :: us, v :: vs, e, l, r => by
    simp only [List.map_cons, List.cons.injEq] at e
    rw [flat_vr e.1 (r 0 a v rfl rfl), flats (us := us) (vs := vs) e.2 (by simpa using l) fun i pv v a b => r (i + 1) pv v (by simpa using a) (by simpa using b)]
theorem pcalls_flat {P : Program} {f : FuncId} {args : List PV} {us : List Value} {r : PV} {u : Value} (ha : args.map flat = us.map some) (hr : ∀ M h, VR M h r u) (h : ∀ w, GlobW w → Calls P f us.toArray w fun e w' => e = .returned u ∧ Ext w w') : PCalls P f args [] (RV r) := by
  intro M hh w vs I rv
  have e := flats (M := M) (h := hh) (vs := vs.toList) ha (by simpa using rv.1) fun i pv v a b => rv.2 i pv v a (by simpa using b)
  have e' : vs = us.toArray := by rw [← e]
  subst e'
  exact (h w fun i n q => I.mem _ _ _ (I.glob i n q)).mono fun e w' ⟨h1, h2⟩ => ⟨u, M, hh, r, [], h1, rfl, hr M hh, Step.ext I h2⟩
theorem vr_agg {M : Mem} {h : Home} {us : List Value} : VR M h (.agg (us.map .val)) (.agg us.toArray) :=
  .agg _ _ (by simp) fun i pv v a b => by
    simp only [List.getElem?_map, Option.map_eq_some_iff] at a
    obtain ⟨x, h1, rfl⟩ := a
    rw [List.getElem?_toArray, h1] at b
    cases b
    exact .val _
theorem vr_tup {M : Mem} {h : Home} {us : List Value} : VR M h (.tup (us.map .val)) (.tuple us.toArray) :=
  .tup _ _ (by simp) fun i pv v a b => by
    simp only [List.getElem?_map, Option.map_eq_some_iff] at a
    obtain ⟨x, h1, rfl⟩ := a
    rw [List.getElem?_toArray, h1] at b
    cases b
    exact .val _
end Go.Proofs.Ytcbknmnlgoeniaa

/- The pure machine: calls of which only a property of what they yield is known; what is one's own becomes what is read. -/
import Derived.Test.YtgcelmnmalfpcaaDoorPvZ
namespace Go.Proofs.YtgcelmnmalfpcaaDoor
open Go.RowKit

/-- What a call yields: some value, and its memory, of which a property is known. -/
def RX {α : Type} (v : α → PV) (H : α → Hp) (p : α → Prop) : PV → Hp → Prop := fun r H' => ∃ a, p a ∧ r = v a ∧ H' = H a
section
variable {T : Tys} {σ : St} {e : Exit} {N : Nat} {a b c : Tmp} {α : Type} {v : α → PV} {H : α → Hp} {p : α → Prop}
theorem pendX {rs : List ResultVar} (x : α) (φ : List Nat) (he : e = .ret ∨ e = .normal) {pvs : List PV} (h1 : presults T rs σ = some pvs) (h2 : ptuple pvs = ren φ σ.H.length (v x)) (h3 : blkR φ σ.H.length σ.H φ (H x)) (h4 : nodupR φ = true) (h5 : preR φ N) (hp : p x) : PPostR T N rs (RX v H p) e σ :=
  pend he h1 φ h2 ⟨h4, h5, h3⟩ ⟨x, hp, rfl, rfl⟩
theorem pendX0 (x : α) (φ : List Nat) (he : e = .ret ∨ e = .normal) (h2 : PV.tup [] = ren φ σ.H.length (v x)) (h3 : blkR φ σ.H.length σ.H φ (H x)) (h4 : nodupR φ = true) (h5 : preR φ N) (hp : p x) : PPostR T N [] (RX v H p) e σ := pendX x φ he rfl h2 h3 h4 h5 hp
theorem pendX1 (x : α) (φ : List Nat) (he : e = .ret ∨ e = .normal) (h2 : σ.tm.getD a (.val undef) = ren φ σ.H.length (v x)) (h3 : blkR φ σ.H.length σ.H φ (H x)) (h4 : nodupR φ = true) (h5 : preR φ N) (hp : p x) : PPostR T N [.tmp a] (RX v H p) e σ := pendX x φ he rfl h2 h3 h4 h5 hp
theorem pendX2 (x : α) (φ : List Nat) (he : e = .ret ∨ e = .normal) (h2 : PV.tup [σ.tm.getD a (.val undef), σ.tm.getD b (.val undef)] = ren φ σ.H.length (v x)) (h3 : blkR φ σ.H.length σ.H φ (H x)) (h4 : nodupR φ = true) (h5 : preR φ N) (hp : p x) : PPostR T N [.tmp a, .tmp b] (RX v H p) e σ := pendX x φ he rfl h2 h3 h4 h5 hp
theorem pendX3 (x : α) (φ : List Nat) (he : e = .ret ∨ e = .normal) (h2 : PV.tup [σ.tm.getD a (.val undef), σ.tm.getD b (.val undef), σ.tm.getD c (.val undef)] = ren φ σ.H.length (v x)) (h3 : blkR φ σ.H.length σ.H φ (H x)) (h4 : nodupR φ = true) (h5 : preR φ N) (hp : p x) : PPostR T N [.tmp a, .tmp b, .tmp c] (RX v H p) e σ := pendX x φ he rfl h2 h3 h4 h5 hp
end
section
variable {P : Program} {g : FuncId} {args args0 : List PV} {H0 : Hp} {σ : St} {K : PV → St → Prop} {α : Type} {v : α → PV} {H : α → Hp} {p : α → Prop}
/-- A call to which memory of one's own is handed over. -/
theorem pcall_XG (hc : Callable P g) (φ : List Nat) (ha : args = renL φ σ.H.length args0) (hH : blkE φ σ.H.length σ.H φ H0) (hn : nodupR φ = true) (h : PCalls P g args0 H0 (RX v H p)) (hk : ∀ x, p x → K (ren φ σ.H.length (v x)) ⟨σ.tm, wback φ σ.H (H x)⟩) : pcall P true g args σ K :=
  have hR := (blkE_R hH).1
  ⟨hc, .inr (.inr (.inr ⟨rfl, φ, H0, args0, _, h, blkR_len hR, nodupR_ok hn, ha, fun i b hb => by
    have hi : i < H0.length := by rw [← blkR_len hR]; exact (List.getElem?_eq_some_iff.1 hb).1
    have hsome := List.all_eq_true.1 (blkE_R hH).2 H0[i] (List.getElem_mem hi)
    obtain ⟨B, hB⟩ := Option.isSome_iff_exists.1 hsome
    have e : H0[i]? = some (some B) := by rw [List.getElem?_eq_getElem hi, hB]
    obtain ⟨b', B', g1, g2, g3⟩ := blkR_get hR i B e
    rw [hb] at g1
    cases g1
    exact ⟨B, B', e, g2, g3⟩, fun r H'' ⟨x, hp, e1, e2⟩ => by subst e1; subst e2; exact hk x hp⟩))⟩
/-- A call whose arguments hold no memory of one's own: it may yield anything. -/
theorem pcall_X1 {cm : Bool} (hc : Callable P g) (ha : args.all cloA = true) (h : PCalls P g args [] (RX v H p)) (hk : ∀ x, p x → K (ren [] σ.H.length (v x)) ⟨σ.tm, σ.H ++ (H x).map (renB [] σ.H.length)⟩) : pcall P cm g args σ K :=
  ⟨hc, .inl ⟨_, h, ha, fun r H'' ⟨x, hp, e1, e2⟩ => by subst e1; subst e2; exact hk x hp⟩⟩
theorem pcall_H1 {cm : Bool} {v : PV} {H' : Hp} (hc : Callable P g) (ha : args.all cloA = true) (h : PCalls P g args [] (RH v H')) (hk : K (ren [] σ.H.length v) ⟨σ.tm, σ.H ++ H'.map (renB [] σ.H.length)⟩) : pcall P cm g args σ K :=
  ⟨hc, .inl ⟨_, h, ha, fun r H'' ⟨e1, e2⟩ => by subst e1; subst e2; exact hk⟩⟩
/-- A call that looks at memory of one's own and yields new memory. -/
theorem pcall_X3 {cm : Bool} (hc : Callable P g) (h : PCalls P g (args.map (vw σ.H)) [] (RX v H p)) (hv : ∀ x, p x → fre (v x) = true) (hH : ∀ x, p x → freH (H x)) (ha : vwAll σ.H args) (hk : ∀ x, p x → K (ren [] σ.H.length (v x)) ⟨σ.tm, σ.H ++ (H x).map (renB [] σ.H.length)⟩) : pcall P cm g args σ K :=
  ⟨hc, .inr (.inr (.inl ⟨_, h, vwAll_mem ha, fun r H'' ⟨x, hp, e1, e2⟩ => by subst e1; subst e2; exact ⟨hv x hp, hH x hp, hk x hp⟩⟩))⟩
/-- A call that looks at memory of one's own and yields none. -/
theorem pcall_X2 {cm : Bool} (hc : Callable P g) (h : PCalls P g (args.map (vw σ.H)) [] (RX v H p)) (hv : ∀ x, p x → scalP (v x) = true) (ha : vwAll σ.H args) (hk : ∀ x, p x → K (v x) σ) : pcall P cm g args σ K :=
  ⟨hc, .inr (.inl ⟨_, h, vwAll_mem ha, fun r H'' ⟨x, hp, e1, _⟩ => by subst e1; exact ⟨hv x hp, hk x hp⟩⟩)⟩
end
/-! ### What is one's own becomes memory that nobody writes -/
def thawT (b sz : Nat) (es : List (List PV)) : PV → PV
  | .tup fs => .tup (fs.map (thaw b sz es))
  | p => thaw b sz es p
theorem freezeV_ok {M : Mem} {h : Home} {H : Hp} {w : World} (I : Inv M h H w) {b : Nat} {e : TypeId} {sz : Nat} {es : List (List PV)} (hH : H[b]? = some (some (.row e sz es))) (hcl : ∀ row ∈ es, row.all cloC = true) {pv : PV} {v : Value} (r : VR M h pv v) :
    ∃ M', Step M h H w M' h ((H.set b none).map (thawB b sz es)) w ∧ VR M' h (thawT b sz es pv) v := by
  obtain ⟨u, hb, _⟩ := I.blk b _ hH
  have one : ∀ {p : PV} {x : Value}, VR M h p x → ∃ M', Step M h H w M' h ((H.set b none).map (thawB b sz es)) w ∧ VR M' h (thaw b sz es p) x := fun {p x} r => by
    obtain ⟨M', s, t, _⟩ := freeze_ok (σ := ⟨[p], H⟩) I hH hb hcl (ts := #[x]) ⟨rfl, fun i q y a d => by
      cases i with
      | zero => simp at a d; subst a; subst d; exact r
      | succ i => simp at a⟩
    exact ⟨M', s, t.vr 0 _ x rfl rfl⟩
  cases r with
  | tup fs vs h1 h2 =>
    obtain ⟨M', s, t, _⟩ := freeze_ok (σ := ⟨fs, H⟩) I hH hb hcl (ts := vs) ⟨h1.symm, fun i q y a d => h2 i q y a d⟩
    refine ⟨M', s, .tup _ _ (by simpa using h1) fun i pv v a d => t.vr i pv v a d⟩
  | val => exact one (.val _)
  | sl0 z o c => exact one (.sl0 z o c)
  | sl z es b off cap f h1 h2 h3 h4 h5 h6 => exact one (.sl z es b off cap f h1 h2 h3 h4 h5 h6)
  | agg fs vs h1 h2 => exact one (.agg fs vs h1 h2)
  | ptr b o k h1 => exact one (.ptr b o k h1)
  | own b o n c h1 => exact one (.own b o n c h1)
  | eptr cs o b off f h1 h2 => exact one (.eptr cs o b off f h1 h2)
  | optr b z i o g n c h1 => exact one (.optr b z i o g n c h1)
  | clo f caps vs h1 h2 => exact one (.clo f caps vs h1 h2)
/-- A contract, a row of what is yielded frozen. -/
theorem PCalls.thawX {P : Program} {f : FuncId} {args : List PV} {H0 : Hp} {α : Type} {v v' : α → PV} {H H' : α → Hp} {p : α → Prop} (c : PCalls P f args H0 (RX v H p)) (b : Nat) (φ : List Nat)
    (hx : ∀ x, p x → ∃ e sz es, (H x)[b]? = some (some (.row e sz es)) ∧ (∀ row ∈ es, row.all cloC = true) ∧ thawT b sz es (v x) = ren φ (H x).length (v' x) ∧ nodupR φ = true ∧ preR φ H0.length ∧ blkR φ (H x).length (((H x).set b none).map (thawB b sz es)) φ (H' x)) : PCalls P f args H0 (RX v' H' p) := by
  intro M hh w vs I rv
  refine (c M hh w vs I rv).mono fun e w' ⟨u, M', h', pv, H1, e1, ⟨x, hp, e2, e3⟩, e4, e5⟩ => ?_
  subst e2
  subst e3
  obtain ⟨e, sz, es, g1, g2, g3, g4, g5, g6⟩ := hx x hp
  obtain ⟨M2, s, r⟩ := freezeV_ok e5.inv g1 g2 e4
  have rf : Refit H0.length φ (H' x) (((H x).set b none).map (thawB b sz es)) := ⟨g4, g5, by simpa using g6⟩
  have st := rf.step I.len (e5.trans s)
  rw [g3] at r
  exact ⟨u, M2, homeR φ h', v' x, H' x, e1, ⟨x, hp, rfl, rfl⟩, Refit.vr (H := ((H x).set b none).map (thawB b sz es)) s.inv (by simpa using r), st⟩
theorem PCalls.rx {P : Program} {f : FuncId} {args : List PV} {H0 : Hp} {v : PV} {H : Hp} (c : PCalls P f args H0 (RH v H)) : PCalls P f args H0 (RX (fun _ : Unit => v) (fun _ => H) fun _ => True) := by
  intro M hh w vs I rv
  refine (c M hh w vs I rv).mono fun e w' ⟨u, M', h', pv, H1, e1, ⟨e2, e3⟩, e4, e5⟩ => ⟨u, M', h', pv, H1, e1, ⟨(), trivial, e2, e3⟩, e4, e5⟩
theorem PCalls.rh {P : Program} {f : FuncId} {args : List PV} {H0 : Hp} {v : PV} {H : Hp} (c : PCalls P f args H0 (RX (fun _ : Unit => v) (fun _ => H) fun _ => True)) : PCalls P f args H0 (RH v H) := by
  intro M hh w vs I rv
  refine (c M hh w vs I rv).mono fun e w' ⟨u, M', h', pv, H1, e1, ⟨_, _, e2, e3⟩, e4, e5⟩ => ⟨u, M', h', pv, H1, e1, ⟨e2, e3⟩, e4, e5⟩
theorem PCalls.thawH {P : Program} {f : FuncId} {args : List PV} {H0 : Hp} {v v' : PV} {H H' : Hp} (c : PCalls P f args H0 (RH v H)) (b : Nat) (φ : List Nat) {e : TypeId} {sz : Nat} {es : List (List PV)}
    (g1 : H[b]? = some (some (.row e sz es))) (g2 : ∀ row ∈ es, row.all cloC = true) (g3 : thawT b sz es v = ren φ H.length v') (g4 : nodupR φ = true) (g5 : preR φ H0.length) (g6 : blkR φ H.length ((H.set b none).map (thawB b sz es)) φ H') : PCalls P f args H0 (RH v' H') :=
  PCalls.rh (PCalls.thawX c.rx b φ fun _ _ => ⟨e, sz, es, g1, g2, g3, g4, g5, g6⟩)
/-- The same ahead of any code. -/
theorem PWp.frz {P : Program} {N : Nat} {c : Code} {Q : Exit → St → Prop} {tm : List PV} {H : Hp} (b : Nat) {e : TypeId} {sz : Nat} {es : List (List PV)} (hH : H[b]? = some (some (.row e sz es))) (hcl : ∀ row ∈ es, row.all cloC = true) (h : PWp P N c Q ((⟨tm, H⟩ : St).thaw b sz es)) : PWp P N c Q ⟨tm, H⟩ := fun E a w hN r => by
  obtain ⟨M, hh, s, t, d⟩ := r
  obtain ⟨u, hb, _⟩ := s.inv.blk b _ hH
  obtain ⟨M', s', t', _⟩ := freeze_ok (σ := ⟨tm, H⟩) s.inv hH hb hcl t
  exact h E a w hN ⟨M', hh, s.trans s', t', d⟩
theorem size_mk {l : List UInt8} : (⟨l.toArray⟩ : ByteArray).size = l.length := by simp [ByteArray.size]
end Go.Proofs.YtgcelmnmalfpcaaDoor

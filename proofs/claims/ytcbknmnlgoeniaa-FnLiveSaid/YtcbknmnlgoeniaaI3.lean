/- Several texts, one behind the other. -/
import Derived.Test.YtcbknmnlgoeniaaI2
import Derived.OrdersHeld
import Derived.Deep.LoopGhost
/- The pure machine: calls. -/
namespace Go.Proofs.Ytcbknmnlgoeniaa
open Go.RowKit

/-- A contract over the pure machine: the call returns, and its result and the memory of one's own are as R says. -/
def PCalls (P : Program) (f : FuncId) (args : List PV) (H : Hp) (R : PV → Hp → Prop) : Prop :=
  ∀ (M : Mem) (h : Home) (w : World) (vs : Array Value), Inv M h H w → CR M h args vs →
    Calls P f vs w fun e w' => ∃ v M' h' pv H', e = .returned v ∧ R pv H' ∧ VR M' h' pv v ∧ Step M h H w M' h' H' w'
def Callable (P : Program) (g : FuncId) : Prop := ∃ fn, P.funcs[g]? = some fn ∧ (fn.name == "runtime.NumGoroutine") = false ∧ fn.body.isNone = false
/-- What stands in memory that nobody writes. -/
def cloC1 : PV → Bool
  | .val _ => true
  | .sl _ _ => true
  | .eptr _ _ => true
  | _ => false
def cloC : PV → Bool
  | .val _ => true
  | .sl _ _ => true
  | .eptr _ _ => true
  | .clo _ caps => caps.all cloC1
  | _ => false
def cloA : PV → Bool
  | .agg fs => fs.all cloC
  | p => cloC p
theorem cloC1_ok {M : Mem} {h h' : Home} {pv : PV} {v : Value} (r : VR M h pv v) (hc : cloC1 pv = true) : VR M h' pv v := by
  cases r with
  | val => exact .val _
  | sl0 sz o c => exact .sl0 sz o c
  | sl sz es b off cap f h1 h2 h3 h4 h5 h6 => exact .sl sz es b off cap f h1 h2 h3 h4 h5 h6
  | eptr cs o b off f h1 h2 => exact .eptr cs o b off f h1 h2
  | _ => simp [cloC1] at hc
theorem cloC_ok {M : Mem} {h h' : Home} {pv : PV} {v : Value} (r : VR M h pv v) (hc : cloC pv = true) : VR M h' pv v := by
  cases r with
  | clo f caps vs h1 h2 => exact .clo f caps vs h1 fun i pv v a b => cloC1_ok (h2 i pv v a b) (List.all_eq_true.1 hc pv (List.mem_of_getElem? a))
  | val => exact .val _
  | sl0 sz o c => exact .sl0 sz o c
  | sl sz es b off cap f h1 h2 h3 h4 h5 h6 => exact .sl sz es b off cap f h1 h2 h3 h4 h5 h6
  | eptr cs o b off f h1 h2 => exact .eptr cs o b off f h1 h2
  | _ => simp [cloC] at hc
theorem cloA_ok {M : Mem} {h h' : Home} {pv : PV} {v : Value} (r : VR M h pv v) (hc : cloA pv = true) : VR M h' pv v := by
  cases r with
  | clo f caps vs h1 h2 => exact cloC_ok (.clo f caps vs h1 h2) hc
  | agg fs vs h1 h2 => exact .agg fs vs h1 fun i pv v a b => cloC_ok (h2 i pv v a b) (List.all_eq_true.1 hc pv (List.mem_of_getElem? a))
  | val => exact .val _
  | sl0 sz o c => exact .sl0 sz o c
  | sl sz es b off cap f h1 h2 h3 h4 h5 h6 => exact .sl sz es b off cap f h1 h2 h3 h4 h5 h6
  | eptr cs o b off f h1 h2 => exact .eptr cs o b off f h1 h2
  | _ => simp [cloA, cloC] at hc
/-- Other numbers for blocks: those that are handed over, and the new ones. -/
def rn (φ : List Nat) (n : Nat) (i : Nat) : Nat := if i < φ.length then φ.getD i 0 else n + (i - φ.length)
mutual
def ren (φ : List Nat) (n : Nat) : PV → PV
  | .val x => .val x
  | .sl sz es => .sl sz es
  | .agg fs => .agg (renL φ n fs)
  | .tup fs => .tup (renL φ n fs)
  | .ptr b o => .ptr (rn φ n b) o
  | .own b => .own (rn φ n b)
  | .eptr cs o => .eptr cs o
  | .optr b sz i o => .optr (rn φ n b) sz i o
  | .clo f caps => .clo f (renL φ n caps)
def renL (φ : List Nat) (n : Nat) : List PV → List PV
  | [] => []
  | p :: ps => ren φ n p :: renL φ n ps
end
theorem renL_map (φ : List Nat) (n : Nat) (l : List PV) : renL φ n l = l.map (ren φ n) := by
  induction l with
  | nil => simp [renL]
  | cons p l ih => simp [renL, ih]
def renB (φ : List Nat) (n : Nat) : Option Blk → Option Blk
  | some (.box cs) => some (.box (renL φ n cs))
  | some (.row e sz es) => some (.row e sz (es.map (renL φ n)))
  | none => none
theorem ren_fwd {M : Mem} {h h' : Home} {φ : List Nat} {n : Nat} (hh : ∀ i v, h' i = some v → h (rn φ n i) = some v) {pv : PV} {v : Value} (r : VR M h' pv v) : VR M h (ren φ n pv) v := by
  induction r with
  | val x => exact .val x
  | sl0 sz o c => exact .sl0 sz o c
  | sl sz es b off cap f h1 h2 h3 h4 h5 h6 => exact .sl sz es b off cap f h1 h2 h3 h4 h5 h6
  | agg fs vs h1 h2 ih =>
    rw [ren, renL_map]
    refine .agg _ _ (by simpa using h1) fun i pv v a b => ?_
    rw [List.getElem?_map, Option.map_eq_some_iff] at a
    obtain ⟨q, a1, rfl⟩ := a
    exact ih i q v a1 b hh
  | tup fs vs h1 h2 ih =>
    rw [ren, renL_map]
    refine .tup _ _ (by simpa using h1) fun i pv v a b => ?_
    rw [List.getElem?_map, Option.map_eq_some_iff] at a
    obtain ⟨q, a1, rfl⟩ := a
    exact ih i q v a1 b hh
  | ptr b o k hb => exact .ptr _ o k (hh _ _ hb)
  | own b o n c hb => exact .own _ o n c (hh _ _ hb)
  | eptr cs o b off f h1 h2 => exact .eptr cs o b off f h1 h2
  | optr b sz i o g n c hb => exact .optr _ sz i o g n c (hh _ _ hb)
  | clo f caps vs h1 h2 ih =>
    rw [ren, renL_map]
    refine .clo _ _ _ (by simpa using h1) fun i pv v a b => ?_
    rw [List.getElem?_map, Option.map_eq_some_iff] at a
    obtain ⟨q, a1, rfl⟩ := a
    exact ih i q v a1 b hh
theorem ren_back {M : Mem} {h h0 : Home} {φ : List Nat} {n : Nat} (hh : ∀ i v, h (rn φ n i) = some v → h0 i = some v) {q : PV} {v : Value} (r : VR M h q v) : ∀ pv, q = ren φ n pv → VR M h0 pv v := by
  induction r with
  | val x => intro pv e; cases pv <;> simp [ren] at e; subst e; exact .val _
  | sl0 sz o c => intro pv e; cases pv <;> simp [ren] at e; obtain ⟨rfl, rfl⟩ := e; exact .sl0 _ o c
  | sl sz es b off cap f h1 h2 h3 h4 h5 h6 => intro pv e; cases pv <;> simp [ren] at e; obtain ⟨rfl, rfl⟩ := e; exact .sl _ _ b off cap f h1 h2 h3 h4 h5 h6
  | agg fs vs h1 h2 ih =>
    intro pv e
    cases pv <;> simp only [ren, reduceCtorEq, PV.agg.injEq] at e
    rename_i gs
    subst e
    rw [renL_map] at h1 ih
    exact .agg _ _ (by simpa using h1) fun i p u a b => ih i (ren φ n p) u (by rw [List.getElem?_map, a]; rfl) b hh p rfl
  | tup fs vs h1 h2 ih =>
    intro pv e
    cases pv <;> simp only [ren, reduceCtorEq, PV.tup.injEq] at e
    rename_i gs
    subst e
    rw [renL_map] at h1 ih
    exact .tup _ _ (by simpa using h1) fun i p u a b => ih i (ren φ n p) u (by rw [List.getElem?_map, a]; rfl) b hh p rfl
  | ptr b o k hb => intro pv e; cases pv <;> simp [ren] at e; obtain ⟨rfl, rfl⟩ := e; exact .ptr _ _ k (hh _ _ hb)
  | own b o n c hb => intro pv e; cases pv <;> simp [ren] at e; subst e; exact .own _ o n c (hh _ _ hb)
  | eptr cs o b off f h1 h2 => intro pv e; cases pv <;> simp [ren] at e; obtain ⟨rfl, rfl⟩ := e; exact .eptr _ _ b off f h1 h2
  | optr b sz i o g n c hb => intro pv e; cases pv <;> simp [ren] at e; obtain ⟨rfl, rfl, rfl, rfl⟩ := e; exact .optr _ _ _ _ g n c (hh _ _ hb)
  | clo f caps vs h1 h2 ih =>
    intro pv e
    cases pv <;> simp only [ren, reduceCtorEq, PV.clo.injEq] at e
    rename_i gs
    obtain ⟨rfl, rfl⟩ := e
    rw [renL_map] at h1 ih
    exact .clo _ _ _ (by simpa using h1) fun i p u a b => ih i (ren φ n p) u (by rw [List.getElem?_map, a]; rfl) b hh p rfl
theorem BR.fwd {M : Mem} {h h' : Home} {φ : List Nat} {n : Nat} (hh : ∀ i v, h' i = some v → h (rn φ n i) = some v) {w : World} {v : Value} {B B' : Blk} (r : BR M h' w v B) (e : renB φ n (some B) = some B') : BR M h w v B' := by
  cases B with
  | box cs =>
    simp only [renB, Option.some.injEq] at e
    subst e
    obtain ⟨k, us, t, p1, p2, p3, p4, p5⟩ := r
    refine ⟨k, us, t, p1, p2, by rw [renL_map]; simpa using p3, p4, fun j pv u a d => ?_⟩
    rw [renL_map, List.getElem?_map, Option.map_eq_some_iff] at a
    obtain ⟨q, a1, rfl⟩ := a
    exact ren_fwd hh (p5 j q u a1 d)
  | row e' sz es =>
    simp only [renB, Option.some.injEq] at e
    subst e
    obtain ⟨p0, us, p1, p2, p3, p4⟩ := r
    refine ⟨p0, us, by simpa using p1, fun row hr => ?_, p3, fun i j row pv u a d f => ?_⟩
    · obtain ⟨r0, hr0, rfl⟩ := List.mem_map.1 hr
      rw [renL_map]
      simpa using p2 r0 hr0
    · rw [List.getElem?_map, Option.map_eq_some_iff] at a
      obtain ⟨r0, a1, rfl⟩ := a
      rw [renL_map, List.getElem?_map, Option.map_eq_some_iff] at d
      obtain ⟨q, d1, rfl⟩ := d
      exact ren_fwd hh (p4 i j r0 q u a1 d1 f)
theorem BR.back {M : Mem} {h h0 : Home} {φ : List Nat} {n : Nat} (hh : ∀ i v, h (rn φ n i) = some v → h0 i = some v) {w : World} {v : Value} {B B' : Blk} (r : BR M h w v B') (e : renB φ n (some B) = some B') : BR M h0 w v B := by
  cases B with
  | box cs =>
    simp only [renB, Option.some.injEq] at e
    subst e
    obtain ⟨k, us, t, p1, p2, p3, p4, p5⟩ := r
    rw [renL_map] at p3 p5
    exact ⟨k, us, t, p1, p2, by simpa using p3, p4, fun j pv u a d => ren_back hh (p5 j (ren φ n pv) u (by rw [List.getElem?_map, a]; rfl) d) pv rfl⟩
  | row e' sz es =>
    simp only [renB, Option.some.injEq] at e
    subst e
    obtain ⟨p0, us, p1, p2, p3, p4⟩ := r
    refine ⟨p0, us, by simpa using p1, fun row hr => ?_, p3, fun i j row pv u a d f => ?_⟩
    · have := p2 (renL φ n row) (List.mem_map.2 ⟨row, hr, rfl⟩)
      rw [renL_map] at this
      simpa using this
    · exact ren_back hh (p4 i j (renL φ n row) (ren φ n pv) u (by rw [List.getElem?_map, a]; rfl) (by rw [renL_map, List.getElem?_map, d]; rfl) f) pv rfl
/-- What was handed over is written back. -/
def wsets (f : Option Blk → Option Blk) : List Nat → Hp → Hp → Hp
  | [], _, H => H
  | b :: φ, B :: H', H => wsets f φ H' (H.set b (f B))
  | _ :: _, [], H => H
theorem wsets_len (f : Option Blk → Option Blk) : ∀ (φ : List Nat) (H' H : Hp), (wsets f φ H' H).length = H.length
  | [], _, _ => rfl
  | _ :: φ, B :: H', H => by rw [wsets, wsets_len f φ H']; simp
  | _ :: _, [], _ => rfl
theorem wsets_out (f : Option Blk → Option Blk) : ∀ (φ : List Nat) (H' H : Hp) (b : Nat), b ∉ φ → (wsets f φ H' H)[b]? = H[b]?
  | [], _, _, _, _ => rfl
  | c :: φ, B :: H', H, b, hb => by
    rw [wsets, wsets_out f φ H' _ b (fun q => hb (by simp [q]))]
    rw [List.getElem?_set_ne]
    rintro rfl
    exact hb (by simp)
  | _ :: _, [], _, _, _ => rfl
theorem wsets_in (f : Option Blk → Option Blk) : ∀ (φ : List Nat) (H' H : Hp) (b i : Nat) (B : Option Blk), φ.Nodup → φ.length ≤ H'.length → φ[i]? = some b → b < H.length → H'[i]? = some B → (wsets f φ H' H)[b]? = some (f B)
  | [], _, _, _, _, _, _, _, h, _, _ => by simp at h
  | c :: φ, C :: H', H, b, 0, B, hn, _, h, hb, hB => by
    simp at h hB
    subst h
    subst hB
    rw [wsets, wsets_out f φ H' _ c (List.nodup_cons.1 hn).1, List.getElem?_set_self hb]
  | c :: φ, C :: H', H, b, i + 1, B, hn, hl, h, hb, hB => by
    rw [wsets]
    exact wsets_in f φ H' _ b i B (List.nodup_cons.1 hn).2 (by simpa using hl) (by simpa using h) (by simpa using hb) (by simpa using hB)
  | _ :: _, [], _, _, _, _, _, hl, _, _, _ => by simp at hl
/-- The memory behind a call: what was handed over is written back, what is new stands behind. -/
def wback (φ : List Nat) (H H' : Hp) : Hp := wsets (renB φ H.length) φ H' H ++ (H'.drop φ.length).map (renB φ H.length)
theorem rn_lt {φ : List Nat} {n i b : Nat} (hi : φ[i]? = some b) : rn φ n i = b := by
  have := (List.getElem?_eq_some_iff.1 hi).1
  unfold rn
  rw [if_pos this, List.getD_eq_getElem?_getD, hi]
  rfl
theorem rn_ge {φ : List Nat} {n i : Nat} (hi : φ.length ≤ i) : rn φ n i = n + (i - φ.length) := by unfold rn; rw [if_neg (by omega)]
theorem wback_get {φ : List Nat} {H H' : Hp} (hnd : φ.Nodup) (hl : φ.length ≤ H'.length) {b : Nat} {B : Blk} (hb : (wback φ H H')[b]? = some (some B)) :
    (b < H.length ∧ b ∉ φ ∧ H[b]? = some (some B)) ∨ ∃ i B0, b = rn φ H.length i ∧ H'[i]? = some (some B0) ∧ renB φ H.length (some B0) = some B := by
  unfold wback at hb
  have hsl := wsets_len (renB φ H.length) φ H' H
  have some0 : ∀ {C : Option Blk}, renB φ H.length C = some B → ∃ B0, C = some B0 ∧ renB φ H.length (some B0) = some B := fun {C} q => by
    cases C with
    | none => cases q
    | some B0 => exact ⟨B0, rfl, q⟩
  by_cases hlt' : b < H.length
  · rw [List.getElem?_append_left (by omega)] at hb
    by_cases hm : b ∈ φ
    · right
      obtain ⟨i, hi, e⟩ := List.getElem_of_mem hm
      have e1 : φ[i]? = some b := by rw [List.getElem?_eq_getElem hi, e]
      have e2 : H'[i]? = some (H'[i]'(by omega)) := List.getElem?_eq_getElem _
      rw [wsets_in _ φ H' H b i _ hnd hl e1 hlt' e2] at hb
      obtain ⟨B0, q1, q2⟩ := some0 (Option.some.inj hb)
      exact ⟨i, B0, (rn_lt e1).symm, by rw [e2, q1], q2⟩
    · rw [wsets_out _ φ H' H b hm] at hb
      exact .inl ⟨hlt', hm, hb⟩
  · rw [List.getElem?_append_right (by omega), hsl, List.getElem?_map, List.getElem?_drop, Option.map_eq_some_iff] at hb
    obtain ⟨C, q1, q2⟩ := hb
    obtain ⟨B0, rfl, q3⟩ := some0 q2
    exact .inr ⟨φ.length + (b - H.length), B0, by rw [rn_ge (by omega)]; omega, q1, q3⟩
theorem call_step {M : Mem} {h : Home} {H H0 H' : Hp} {w w' : World} (I : Inv M h H w) {φ : List Nat} (hφ : φ.length = H0.length) (hnd : φ.Nodup) (hall : ∀ j ∈ φ, ∃ B, H[j]? = some (some B)) (hl : φ.length ≤ H'.length) {M' : Mem} {h' : Home}
    (s : Step M (fun i => match φ[i]? with | some b => h b | none => none) H0 w M' h' H' w') :
    ∃ h'', Step M h H w M' h'' (wback φ H H') w' ∧ ∀ i v, h' i = some v → h'' (rn φ H.length i) = some v := by
  have hlt : ∀ j ∈ φ, j < H.length := fun j hj => by obtain ⟨B, q⟩ := hall j hj; exact (List.getElem?_eq_some_iff.1 q).1
  let h'' : Home := fun b => if b < H.length then h b else h' (φ.length + (b - H.length))
  have old : ∀ {b : Nat}, b < H.length → h'' b = h b := fun {b} q => by show (if b < H.length then h b else _) = _; rw [if_pos q]
  have cA : ∀ i v, h' i = some v → h'' (rn φ H.length i) = some v := fun i v q => by
    by_cases hi : i < φ.length
    · have e1 : φ[i]? = some φ[i] := List.getElem?_eq_getElem hi
      have hm := List.getElem_mem hi
      rw [rn_lt e1, old (hlt _ hm)]
      obtain ⟨B, e2⟩ := hall _ hm
      obtain ⟨u, e3, _⟩ := I.blk _ B e2
      have := s.hle i u (by show (match φ[i]? with | some b => h b | none => none) = some u; rw [e1]; exact e3)
      rw [q] at this
      cases this
      exact e3
    · rw [rn_ge (by omega)]
      show (if H.length + (i - φ.length) < H.length then _ else h' (φ.length + (H.length + (i - φ.length) - H.length))) = some v
      rw [if_neg (by omega), show φ.length + (H.length + (i - φ.length) - H.length) = i by omega]
      exact q
  have hh : HLe h h'' := fun b v q => by rw [old (I.len b v q)]; exact q
  -- homes of what was handed over
  have over : ∀ {k : Nat}, Homes (fun i => match φ[i]? with | some b => h b | none => none) H0 k → ∃ b B v, b ∈ φ ∧ H[b]? = some (some B) ∧ h b = some v ∧ hblk v = some k := fun {k} ⟨i, B, v, q1, q2, q3⟩ => by
    cases e : φ[i]? with
    | none => simp only [e] at q2; cases q2
    | some b =>
      simp only [e] at q2
      have hm := List.mem_of_getElem? e
      obtain ⟨B', e2⟩ := hall b hm
      exact ⟨b, B', v, hm, e2, q2, q3⟩
  have overH : ∀ {k : Nat}, Homes (fun i => match φ[i]? with | some b => h b | none => none) H0 k → Homes h H k := fun {k} q => by
    obtain ⟨b, B, v, _, e1, e2, e3⟩ := over q
    exact ⟨b, B, v, e1, e2, e3⟩
  have get := fun {b : Nat} {B : Blk} => wback_get (φ := φ) (H := H) (H' := H') (b := b) (B := B) hnd hl
  -- a block that stayed behind
  have away : ∀ {b k : Nat} {B : Blk} {v : Value}, b ∉ φ → H[b]? = some (some B) → h b = some v → hblk v = some k → ¬ Homes (fun i => match φ[i]? with | some b => h b | none => none) H0 k := fun {b k B v} hb e1 e2 e3 q => by
    obtain ⟨c, C, u, hc, g1, g2, g3⟩ := over q
    have := I.inj b c B C v u k e1 g1 e2 g2 e3 g3
    subst this
    exact hb hc
  refine ⟨h'', ⟨s.mle, hh, ⟨s.inv.mem, s.inv.one, fun b B q => ?_, fun k q o => ?_, fun b b' B B' v v' k g1 g2 g3 g4 g5 g6 => ?_, fun b v q => ?_, s.inv.glob⟩, ⟨s.chg.os, s.chg.tape, s.chg.output, s.chg.size, fun k hk hn => s.chg.block k hk fun q => hn (overH q)⟩, fun k q => ?_, fun k o v q => ?_⟩, cA⟩
  · rcases get q with ⟨q1, q2, q3⟩ | ⟨i, B0, rfl, q2, q3⟩
    · obtain ⟨v, e1, e2⟩ := I.blk b B q3
      exact ⟨v, hh b v e1, e2.mono s.mle hh fun k hk => s.chg.block k (e2.lt hk) (away q2 q3 e1 hk)⟩
    · obtain ⟨v, e1, e2⟩ := s.inv.blk i B0 q2
      exact ⟨v, cA i v e1, e2.fwd cA q3⟩
  · obtain ⟨b, B, v, p1, p2, p3⟩ := q
    rcases get p1 with ⟨q1, q2, q3⟩ | ⟨i, B0, rfl, q2, q3⟩
    · rw [old q1] at p2
      cases hm : M' k o with
      | none => rfl
      | some x =>
        exfalso
        rcases s.new k o x hm with d | d | d
        · have := I.sep k ⟨b, B, v, q3, p2, p3⟩ o
          rw [d] at this
          cases this
        · exact away q2 q3 p2 p3 d
        · have := I.home_lt ⟨b, B, v, q3, p2, p3⟩
          omega
    · obtain ⟨u, e1, e2⟩ := s.inv.blk i B0 q2
      have := cA i u e1
      rw [p2] at this
      cases this
      exact s.inv.sep k ⟨i, B0, _, q2, e1, p3⟩ o
  · rcases get g1 with ⟨q1, q2, q3⟩ | ⟨i, B0, rfl, q2, q3⟩
    · rw [old q1] at g3
      rcases get g2 with ⟨p1, p2, p3⟩ | ⟨j, B1, rfl, p2, p3⟩
      · rw [old p1] at g4
        exact I.inj b b' B B' v v' k q3 p3 g3 g4 g5 g6
      · exfalso
        obtain ⟨u, e1, e2⟩ := s.inv.blk j B1 p2
        have := cA j u e1
        rw [g4] at this
        cases this
        rcases s.sub k ⟨j, B1, _, p2, e1, g6⟩ with d | d
        · exact away q2 q3 g3 g5 d
        · have := I.home_lt ⟨b, B, v, q3, g3, g5⟩
          omega
    · obtain ⟨u, e1, e2⟩ := s.inv.blk i B0 q2
      have := cA i u e1
      rw [g3] at this
      cases this
      rcases get g2 with ⟨p1, p2, p3⟩ | ⟨j, B1, rfl, p2, p3⟩
      · exfalso
        rw [old p1] at g4
        rcases s.sub k ⟨i, B0, _, q2, e1, g5⟩ with d | d
        · exact away p2 p3 g4 g6 d
        · have := I.home_lt ⟨b', B', v', p3, g4, g6⟩
          omega
      · obtain ⟨u', f1, f2⟩ := s.inv.blk j B1 p2
        have := cA j u' f1
        rw [g4] at this
        cases this
        rw [s.inv.inj i j B0 B1 _ _ k q2 p2 e1 f1 g5 g6]
  · unfold wback
    rw [List.length_append, wsets_len, List.length_map, List.length_drop]
    by_cases hb : b < H.length
    · omega
    · have : h'' b = h' (φ.length + (b - H.length)) := by show (if b < H.length then h b else _) = _; rw [if_neg hb]
      rw [this] at q
      have := s.inv.len _ _ q
      omega
  · obtain ⟨b, B, v, p1, p2, p3⟩ := q
    rcases get p1 with ⟨q1, q2, q3⟩ | ⟨i, B0, rfl, q2, q3⟩
    · rw [old q1] at p2
      exact .inl ⟨b, B, v, q3, p2, p3⟩
    · obtain ⟨u, e1, e2⟩ := s.inv.blk i B0 q2
      have := cA i u e1
      rw [p2] at this
      cases this
      exact (s.sub k ⟨i, B0, _, q2, e1, p3⟩).imp overH id
  · rcases s.new k o v q with d | d | d
    · exact .inl d
    · exact .inr (.inl (overH d))
    · exact .inr (.inr d)
/-- A result that holds no memory. -/
def scal1 : PV → Bool
  | .val _ => true
  | _ => false
def scalA : PV → Bool
  | .agg fs => fs.all scal1
  | p => scal1 p
def scalP : PV → Bool
  | .tup fs => fs.all scalA
  | p => scalA p
theorem scal1_ok {M M' : Mem} {h h' : Home} {pv : PV} {v : Value} (r : VR M h pv v) (hs : scal1 pv = true) : VR M' h' pv v := by
  cases r with
  | val => exact .val _
  | _ => simp [scal1] at hs
theorem scalA_ok {M M' : Mem} {h h' : Home} {pv : PV} {v : Value} (r : VR M h pv v) (hs : scalA pv = true) : VR M' h' pv v := by
  cases r with
  | agg fs vs h1 h2 => exact .agg fs vs h1 fun i pv v a b => scal1_ok (h2 i pv v a b) (List.all_eq_true.1 hs pv (List.mem_of_getElem? a))
  | val => exact .val _
  | _ => simp [scalA, scal1] at hs
theorem scalP_ok {M M' : Mem} {h h' : Home} {pv : PV} {v : Value} (r : VR M h pv v) (hs : scalP pv = true) : VR M' h' pv v := by
  cases r with
  | tup fs vs h1 h2 => exact .tup fs vs h1 fun i pv v a b => scalA_ok (h2 i pv v a b) (List.all_eq_true.1 hs pv (List.mem_of_getElem? a))
  | agg fs vs h1 h2 => exact scalA_ok (.agg fs vs h1 h2) hs
  | val => exact .val _
  | _ => simp [scalP, scalA, scal1] at hs
/-- Rows of one's own as they are read. -/
def vw0 (H : Hp) : PV → PV
  | .own b => match H[b]? with | some (some (.row _ sz es)) => .sl sz es | _ => .own b
  | .ptr b o => match H[b]? with | some (some (.box cs)) => .eptr cs o | _ => .ptr b o
  | p => p
def vw (H : Hp) : PV → PV
  | .agg fs => .agg (fs.map (vw0 H))
  | .clo f caps => .clo f (caps.map (vw0 H))
  | p => vw0 H p
def vwOk0 (H : Hp) : PV → Prop
  | .own b => match H[b]? with | some (some (.row _ _ es)) => ∀ row ∈ es, row.all cloC = true | _ => False
  | .ptr b _ => match H[b]? with | some (some (.box cs)) => cs.all cloC = true | _ => False
  | p => cloC p = true
def vwOk (H : Hp) : PV → Prop
  | .agg fs => ∀ q ∈ fs, vwOk0 H q
  | .clo _ caps => ∀ q ∈ caps, vwOk0 H q
  | p => vwOk0 H p
/-- All that a world holds. -/
def memW (w : World) : Mem := fun k o => match w.cell? ⟨k, o, none⟩ with | some v => if v.oneCell' then some v else none | none => none
theorem memW_cell {w : World} {k o : Nat} {v : Value} (h : memW w k o = some v) : w.cell? ⟨k, o, none⟩ = some v ∧ v.oneCell' = true := by
  unfold memW at h
  split at h
  · rename_i u hu
    split at h
    · rename_i q; cases h; exact ⟨hu, q⟩
    · cases h
  · cases h
theorem memW_of {w : World} {k o : Nat} {v : Value} (h : w.cell? ⟨k, o, none⟩ = some v) (h1 : v.oneCell' = true) : memW w k o = some v := by
  unfold memW
  rw [h]
  simp [h1]
theorem inv_memW (w : World) (g : Glob (memW w)) : Inv (memW w) (fun _ => none) [] w where
  mem _ _ _ q := (memW_cell q).1
  one _ _ _ q := (memW_cell q).2
  blk b B q := by simp at q
  sep k q := by obtain ⟨b, B, v, q1, _⟩ := q; simp at q1
  inj b b' B B' v v' k q := by simp at q
  len b v q := by cases q
  glob := g
theorem Inv.memW {M : Mem} {h : Home} {H : Hp} {w : World} (I : Inv M h H w) : MLe M (memW w) := fun b o v q => memW_of (I.mem b o v q) (I.one b o v q)
theorem vw0_ok {M : Mem} {h : Home} {H : Hp} {w : World} (I : Inv M h H w) {pv : PV} {v : Value} (r : VR M h pv v) (hk : vwOk0 H pv) : VR (Go.Proofs.Ytcbknmnlgoeniaa.memW w) (fun _ => none) (vw0 H pv) v := by
  cases pv with
  | own b =>
    simp only [vwOk0] at hk
    split at hk
    · rename_i e sz es hH
      simp only [vw0, hH]
      cases r with
      | own _ o n c hb =>
        obtain ⟨v0, q0, -, us, q1, q2, q3, q4⟩ := I.blk b _ hH
        rw [hb] at q0
        cases q0
        rcases q1.2 with ⟨e1, e2⟩ | ⟨g, cap, cur, e1, e2, e3, e4, e5, e6, e7⟩
        · cases e1
          have : es = [] := List.eq_nil_of_length_eq_zero e2
          subst this
          exact .sl0 _ _ _
        · cases e1
          by_cases hn : es = []
          · subst hn; exact .sl0 _ _ _
          · have hl : 0 < es.length := by cases es with | nil => exact absurd rfl hn | cons => simp
            refine VR.sl sz es g 0 c (fun i j => (us[i * sz + j]?).getD undef) hl e4 e5 q2 (fun i j row pv a d => ?_) (fun i j row pv a d => ?_)
            all_goals
              have hi : i < es.length := (List.getElem?_eq_some_iff.1 a).1
              have hj : j < sz := by have := (List.getElem?_eq_some_iff.1 d).1; rw [q2 row (List.mem_of_getElem? a)] at this; exact this
              have hm : (i + 1) * sz ≤ es.length * sz := Nat.mul_le_mul_right _ hi
              rw [Nat.add_mul] at hm
              have hu : i * sz + j < us.length := by rw [q1.1]; omega
              have hu' : us[i * sz + j]? = some us[i * sz + j] := List.getElem?_eq_getElem hu
              rw [hu']
            · have := q1.cells (g := g) rfl (i * sz + j) _ hu'
              rw [addr_add] at this
              rw [Nat.add_assoc]
              exact memW_of this (q3 _ (List.mem_of_getElem? hu'))
            · exact cloC_ok ((q4 i j row pv _ a d hu').mono I.memW (.refl _)) (List.all_eq_true.1 (hk row (List.mem_of_getElem? a)) pv (List.mem_of_getElem? d))
    · exact hk.elim
  | ptr b o =>
    simp only [vwOk0] at hk
    split at hk
    · rename_i cs hH
      simp only [vw0, hH]
      cases r with
      | ptr _ _ k hb =>
        obtain ⟨v0, q0, k', us, t, rfl, q3, q4, q5, q6⟩ := I.blk b _ hH
        rw [hb] at q0
        cases q0
        have key : ∀ (j : Nat) (pv : PV), cs[j]? = some pv → us[j]? = some (us.getD j undef) := fun j pv a => by
          have hj : j < us.size := by rw [q4]; exact (List.getElem?_eq_some_iff.1 a).1
          rw [Array.getD_eq_getD_getElem?, Array.getElem?_eq_getElem hj]
          rfl
        have := VR.eptr (M := Go.Proofs.Ytcbknmnlgoeniaa.memW w) (h := fun _ => none) cs o k 0 (fun j => us.getD j undef) (fun j pv a => by
            have e := key j pv a
            refine memW_of ?_ (q5 _ (Array.mem_of_getElem? e))
            rw [Nat.zero_add, cell_of_row w k j us t (0, 0) q3]
            exact e)
          (fun j pv a => cloC_ok ((q6 j pv _ a (key j pv a)).mono I.memW (.refl _)) (List.all_eq_true.1 hk pv (List.mem_of_getElem? a)))
        rw [Nat.zero_add] at this
        exact this
    · exact hk.elim
  | _ => exact cloC_ok (r.mono I.memW (.refl _)) hk
theorem vw_ok {M : Mem} {h : Home} {H : Hp} {w : World} (I : Inv M h H w) {pv : PV} {v : Value} (r : VR M h pv v) (hk : vwOk H pv) : VR (Go.Proofs.Ytcbknmnlgoeniaa.memW w) (fun _ => none) (vw H pv) v := by
  cases pv with
  | agg fs =>
    cases r with
    | agg _ vs h1 h2 =>
      refine .agg _ _ (by simpa using h1) fun i pv u a d => ?_
      rw [List.getElem?_map, Option.map_eq_some_iff] at a
      obtain ⟨q, a1, rfl⟩ := a
      exact vw0_ok I (h2 i q u a1 d) (hk q (List.mem_of_getElem? a1))
  | clo f caps =>
    cases r with
    | clo _ _ vs h1 h2 =>
      refine .clo _ _ _ (by simpa using h1) fun i pv u a d => ?_
      rw [List.getElem?_map, Option.map_eq_some_iff] at a
      obtain ⟨q, a1, rfl⟩ := a
      exact vw0_ok I (h2 i q u a1 d) (hk q (List.mem_of_getElem? a1))
  | _ => exact vw0_ok I r hk
/-! What stands only on its own blocks. -/
mutual
def fre : PV → Bool
  | .val _ => true
  | .sl _ es => es.isEmpty
  | .agg fs => freL fs
  | .tup fs => freL fs
  | .ptr _ _ => true
  | .own _ => true
  | .eptr _ _ => false
  | .optr _ _ _ _ => true
  | .clo _ caps => freL caps
def freL : List PV → Bool
  | [] => true
  | p :: ps => fre p && freL ps
end
theorem freL_get : ∀ {l : List PV}, freL l = true → ∀ (i : Nat) (p : PV), l[i]? = some p → fre p = true
  | [], _, i, p, h => by simp at h
  | q :: l, hl, 0, p, h => by simp at h; subst h; rw [freL, Bool.and_eq_true] at hl; exact hl.1
  | q :: l, hl, i + 1, p, h => by rw [freL, Bool.and_eq_true] at hl; exact freL_get hl.2 i p (by simpa using h)
theorem VR.free {M M' : Mem} {h : Home} {pv : PV} {v : Value} (r : VR M h pv v) : fre pv = true → VR M' h pv v := by
  induction r with
  | val x => intro _; exact .val x
  | sl0 sz o c => intro _; exact .sl0 sz o c
  | sl sz es b off cap f h1 => intro q; cases es with | nil => simp at h1 | cons => simp [fre] at q
  | agg fs vs h1 h2 ih => intro q; exact .agg _ _ h1 fun i pv v a b => ih i pv v a b (freL_get q i pv a)
  | tup fs vs h1 h2 ih => intro q; exact .tup _ _ h1 fun i pv v a b => ih i pv v a b (freL_get q i pv a)
  | ptr b o k hb => intro _; exact .ptr _ o k hb
  | own b o n c hb => intro _; exact .own _ o n c hb
  | eptr cs o b off f h1 h2 => intro q; simp [fre] at q
  | optr b sz i o g n c hb => intro _; exact .optr _ sz i o g n c hb
  | clo f caps vs h1 h2 ih => intro q; exact .clo _ _ _ h1 fun i pv v a b => ih i pv v a b (freL_get q i pv a)
def freB : Option Blk → Prop
  | some (.box cs) => freL cs = true
  | some (.row _ _ es) => ∀ row ∈ es, freL row = true
  | none => True
def freH : Hp → Prop
  | [] => True
  | B :: r => freB B ∧ freH r
theorem freH_get : ∀ {H : Hp}, freH H → ∀ (b : Nat) (B : Option Blk), H[b]? = some B → freB B
  | [], _, b, B, h => by simp at h
  | C :: H, hk, 0, B, h => by simp at h; subst h; exact hk.1
  | C :: H, hk, b + 1, B, h => freH_get hk.2 b B (by simpa using h)
theorem BR.free {M M' : Mem} {h : Home} {w : World} {v : Value} {B : Blk} (r : BR M h w v B) (hf : freB (some B)) : BR M' h w v B := by
  cases B with
  | box cs =>
    obtain ⟨k, us, t, p1, p2, p3, p4, p5⟩ := r
    exact ⟨k, us, t, p1, p2, p3, p4, fun j pv u a d => (p5 j pv u a d).free (freL_get hf j pv a)⟩
  | row e sz es =>
    obtain ⟨p0, us, p1, p2, p3, p4⟩ := r
    exact ⟨p0, us, p1, p2, p3, fun i j row pv u a d f => (p4 i j row pv u a d f).free (freL_get (hf row (List.mem_of_getElem? a)) j pv d)⟩
def pcall (P : Program) (cm : Bool) (g : FuncId) (args : List PV) (σ : St) (K : PV → St → Prop) : Prop := Callable P g ∧
  ((∃ R, PCalls P g args [] R ∧ args.all cloA = true ∧ ∀ r H', R r H' → K (ren [] σ.H.length r) ⟨σ.tm, σ.H ++ H'.map (renB [] σ.H.length)⟩) ∨
   (∃ R, PCalls P g (args.map (vw σ.H)) [] R ∧ (∀ p ∈ args, vwOk σ.H p) ∧ ∀ r H', R r H' → scalP r = true ∧ K r σ) ∨
   (∃ R, PCalls P g (args.map (vw σ.H)) [] R ∧ (∀ p ∈ args, vwOk σ.H p) ∧ ∀ r H', R r H' → fre r = true ∧ freH H' ∧ K (ren [] σ.H.length r) ⟨σ.tm, σ.H ++ H'.map (renB [] σ.H.length)⟩) ∨
   (cm = true ∧ ∃ φ H0 args0 R, PCalls P g args0 H0 R ∧ φ.length = H0.length ∧ φ.Nodup ∧ args = renL φ σ.H.length args0 ∧ (∀ (i b : Nat), φ[i]? = some b → ∃ (B B' : Blk), H0[i]? = some (some B) ∧ renB φ σ.H.length (some B) = some B' ∧ σ.H[b]? = some (some B')) ∧ ∀ r H', R r H' → K (ren φ σ.H.length r) ⟨σ.tm, wback φ σ.H H'⟩))
/-- A call, by the contract with memory that is handed over. -/
theorem pcall_G {P : Program} {M : Mem} {h : Home} {H : Hp} {w : World} (I : Inv M h H w) {g : FuncId} {φ : List Nat} {H0 : Hp} {args0 : List PV} {R : PV → Hp → Prop} (hc : PCalls P g args0 H0 R) (hφ : φ.length = H0.length) (hnd : φ.Nodup)
    (hb : ∀ (i b : Nat), φ[i]? = some b → ∃ (B B' : Blk), H0[i]? = some (some B) ∧ renB φ H.length (some B) = some B' ∧ H[b]? = some (some B')) {vs : Array Value} (rv : CR M (fun i => match φ[i]? with | some b => h b | none => none) args0 vs) :
    Calls P g vs w fun e w' => ∃ v M' h' r H', e = .returned v ∧ R r H' ∧ VR M' h' (ren φ H.length r) v ∧ Step M h H w M' h' (wback φ H H') w' ∧ (H0 = [] → Ext w w') := by
  have back : ∀ i v, h (rn φ H.length i) = some v → (fun i => match φ[i]? with | some b => h b | none => none) i = some v := fun i v q => by
    by_cases hi : i < φ.length
    · have e1 : φ[i]? = some φ[i] := List.getElem?_eq_getElem hi
      rw [rn_lt e1] at q
      show (match φ[i]? with | some b => h b | none => none) = some v
      rw [e1]
      exact q
    · rw [rn_ge (by omega)] at q
      have := I.len _ _ q
      omega
  have I0 : Inv M (fun i => match φ[i]? with | some b => h b | none => none) H0 w := by
    refine ⟨I.mem, I.one, fun i B q => ?_, fun k q o => ?_, fun i i' B B' v v' k q1 q2 q3 q4 q5 q6 => ?_, fun i v q => ?_, I.glob⟩
    · have hi : i < φ.length := by rw [hφ]; exact (List.getElem?_eq_some_iff.1 q).1
      have e1 : φ[i]? = some φ[i] := List.getElem?_eq_getElem hi
      obtain ⟨B0, B', p1, p2, p3⟩ := hb i _ e1
      rw [q] at p1
      cases p1
      obtain ⟨v, g1, g2⟩ := I.blk _ B' p3
      exact ⟨v, by show (match φ[i]? with | some b => h b | none => none) = some v; rw [e1]; exact g1, g2.back back p2⟩
    · obtain ⟨i, B, v, p1, p2, p3⟩ := q
      cases e1 : φ[i]? with
      | none => simp only [e1] at p2; cases p2
      | some b =>
        simp only [e1] at p2
        obtain ⟨B0, B', g1, g2, g3⟩ := hb i b e1
        exact I.sep k ⟨b, B', v, g3, p2, p3⟩ o
    · cases e1 : φ[i]? with
      | none => simp only [e1] at q3; cases q3
      | some b =>
        cases e2 : φ[i']? with
        | none => simp only [e2] at q4; cases q4
        | some b' =>
          simp only [e1] at q3
          simp only [e2] at q4
          obtain ⟨_, C, _, _, g1⟩ := hb i b e1
          obtain ⟨_, C', _, _, g2⟩ := hb i' b' e2
          have := I.inj b b' C C' v v' k g1 g2 q3 q4 q5 q6
          subst this
          exact (List.getElem?_inj (List.getElem?_eq_some_iff.1 e1).1 hnd).1 (by rw [e1, e2])
    · cases e1 : φ[i]? with
      | none => simp only [e1] at q; cases q
      | some b => rw [← hφ]; exact (List.getElem?_eq_some_iff.1 e1).1
  have hall : ∀ j ∈ φ, ∃ B, H[j]? = some (some B) := fun j hj => by
    obtain ⟨i, hi, rfl⟩ := List.getElem_of_mem hj
    obtain ⟨_, B', _, _, g⟩ := hb i _ (List.getElem?_eq_getElem hi)
    exact ⟨B', g⟩
  refine (hc M _ w vs I0 rv).mono fun e w' ⟨v, M', h', r, H', e1, e2, e3, e4⟩ => ?_
  have hl : φ.length ≤ H'.length := by
    rcases Nat.lt_or_ge H'.length φ.length with q | q
    · exfalso
      have ei : φ[H'.length]? = some φ[H'.length] := List.getElem?_eq_getElem q
      obtain ⟨B, hB⟩ := hall _ (List.getElem_mem q)
      obtain ⟨u, g1, _⟩ := I.blk _ B hB
      have := e4.inv.len _ _ (e4.hle H'.length u (by show (match φ[H'.length]? with | some b => h b | none => none) = some u; rw [ei]; exact g1))
      omega
    · exact q
  obtain ⟨h'', s1, s2⟩ := call_step I hφ hnd hall hl e4
  exact ⟨v, M', h'', r, H', e1, e2, ren_fwd s2 e3, s1, fun h0 => ChgS.ext ⟨e4.chg.os, e4.chg.tape, e4.chg.output, e4.chg.size, fun k hk hn => e4.chg.block k hk fun ⟨b, B, v, q, _⟩ => by subst h0; simp at q⟩⟩
theorem pcall_sound {P : Program} {M : Mem} {h : Home} {σ : St} {w : World} (I : Inv M h σ.H w) {g : FuncId} {args : List PV} {vs : Array Value} (rv : CR M h args vs) {K : PV → St → Prop} {cm : Bool} (hk : pcall P cm g args σ K) :
    Calls P g vs w fun e w' => ∃ v M' h' r H', e = .returned v ∧ K r ⟨σ.tm, H'⟩ ∧ VR M' h' r v ∧ Step M h σ.H w M' h' H' w' ∧ (cm = false → Ext w w') := by
  obtain ⟨-, hk | hk | hk | hk⟩ := hk
  · obtain ⟨R, h1, h2, h3⟩ := hk
    have rv0 : CR M (fun i => match ([] : List Nat)[i]? with | some b => h b | none => none) args vs := ⟨rv.1, fun i pv v a b => cloA_ok (rv.2 i pv v a b) (List.all_eq_true.1 h2 pv (List.mem_of_getElem? a))⟩
    refine (pcall_G I (φ := []) h1 rfl List.nodup_nil (by simp) rv0).mono fun e w' ⟨v, M', h', r, H', e1, e2, e3, e4, e5⟩ => ?_
    exact ⟨v, M', h', _, _, e1, h3 r H' e2, e3, e4, fun _ => e5 rfl⟩
  · obtain ⟨R, h1, h2, h3⟩ := hk
    have rv0 : CR (memW w) (fun _ => none) (args.map (vw σ.H)) vs := ⟨by simpa using rv.1, fun i pv v a b => by
      rw [List.getElem?_map, Option.map_eq_some_iff] at a
      obtain ⟨q, a1, rfl⟩ := a
      exact vw_ok I (rv.2 i q v a1 b) (h2 q (List.mem_of_getElem? a1))⟩
    refine (h1 _ _ w vs (inv_memW w (I.glob.mono I.memW)) rv0).mono fun e w' ⟨v, M', h', r, H', e1, e2, e3, e4⟩ => ?_
    obtain ⟨q1, q2⟩ := h3 r H' e2
    have hb : Ext w w' := (ChgS.ext ⟨e4.chg.os, e4.chg.tape, e4.chg.output, e4.chg.size, fun k hk hn => e4.chg.block k hk fun ⟨b, B, v, q, _⟩ => by simp at q⟩)
    exact ⟨v, M, h, r, σ.H, e1, q2, scalP_ok e3 q1, Step.ext I hb, fun _ => hb⟩
  · obtain ⟨R, h1, h2, h3⟩ := hk
    have rv0 : CR (memW w) (fun _ => none) (args.map (vw σ.H)) vs := ⟨by simpa using rv.1, fun i pv v a b => by
      rw [List.getElem?_map, Option.map_eq_some_iff] at a
      obtain ⟨q, a1, rfl⟩ := a
      exact vw_ok I (rv.2 i q v a1 b) (h2 q (List.mem_of_getElem? a1))⟩
    refine (h1 _ _ w vs (inv_memW w (I.glob.mono I.memW)) rv0).mono fun e w' ⟨v, M', h', r, H', e1, e2, e3, e4⟩ => ?_
    obtain ⟨q1, q2, q3⟩ := h3 r H' e2
    have hb : Ext w w' := (ChgS.ext ⟨e4.chg.os, e4.chg.tape, e4.chg.output, e4.chg.size, fun k hk hn => e4.chg.block k hk fun ⟨b, B, v, q, _⟩ => by simp at q⟩)
    have fresh : ∀ k, Homes h' H' k → w.heap.size ≤ k := fun k hk => (e4.sub k hk).resolve_left fun ⟨b, B, v, q, _⟩ => by simp at q
    have s0 : Step M (fun i => match ([] : List Nat)[i]? with | some b => h b | none => none) [] w M h' H' w' := by
      refine ⟨.refl _, fun b v q => by simp at q, ⟨fun b o u q => ext_cell hb (I.mem b o u q), I.one, fun b B q => ?_, fun k q o => ?_, e4.inv.inj, e4.inv.len, I.glob⟩, hb.chgS, fun k q => .inr (fresh k q), fun _ _ _ q => .inl q⟩
      · obtain ⟨u, g1, g2⟩ := e4.inv.blk b B q
        exact ⟨u, g1, g2.free (freH_get q2 b _ q)⟩
      · exact (I.fresh (fresh k q)).2 o
    obtain ⟨h'', s1, s2⟩ := call_step I (φ := []) (H0 := []) rfl List.nodup_nil (by simp) (by simp) s0
    exact ⟨v, M, h'', _, _, e1, q3, ren_fwd s2 (e3.free q1), s1, fun _ => hb⟩
  · obtain ⟨hcm, φ, H0, args0, R, h1, h2, h3, rfl, h5, h6⟩ := hk
    have back : ∀ i v, h (rn φ σ.H.length i) = some v → (fun i => match φ[i]? with | some b => h b | none => none) i = some v := fun i v q => by
      by_cases hi : i < φ.length
      · have e1 : φ[i]? = some φ[i] := List.getElem?_eq_getElem hi
        rw [rn_lt e1] at q
        show (match φ[i]? with | some b => h b | none => none) = some v
        rw [e1]
        exact q
      · rw [rn_ge (by omega)] at q
        have := I.len _ _ q
        omega
    have rv0 : CR M (fun i => match φ[i]? with | some b => h b | none => none) args0 vs := by
      rw [renL_map] at rv
      exact ⟨by simpa using rv.1, fun i pv v a b => ren_back back (rv.2 i (ren φ σ.H.length pv) v (by rw [List.getElem?_map, a]; rfl) b) pv rfl⟩
    refine (pcall_G I h1 h2 h3 h5 rv0).mono fun e w' ⟨v, M', h', r, H', e1, e2, e3, e4, _⟩ => ?_
    exact ⟨v, M', h', _, _, e1, h6 r H' e2, e3, e4, fun q => by rw [hcm] at q; cases q⟩
end Go.Proofs.Ytcbknmnlgoeniaa
/- The pure machine: one operation. -/
namespace Go.Proofs.Ytcbknmnlgoeniaa
open Go.RowKit

/-- The elements of a slice, each of so many cells. -/
def pelemsT (sz : Nat) (H : Hp) : PV → Option (List (List PV))
  | .sl sz' es => if sz' = sz then some es else none
  | .own b => match H[b]? with | some (some (.row _ sz' es)) => if sz' = sz then some es else none | _ => none
  | .val (.slice none 0 0) => some []
  | _ => none
theorem pelemsT_ok {M : Mem} {h : Home} {H : Hp} {w : World} (I : Inv M h H w) {x : PV} {v : Value} (r : VR M h x v) {sz : Nat} {es : List (List PV)} (he : pelemsT sz H x = some es) : pelems H x = some es ∧ ∀ row ∈ es, row.length = sz := by
  cases r with
  | sl0 sz' o c =>
    simp only [pelemsT] at he
    split at he
    · simp at he; subst he; exact ⟨rfl, by simp⟩
    · cases he
  | sl sz' es' b off cap f h1 h2 h3 h4 h5 h6 =>
    simp only [pelemsT] at he
    split at he
    · rename_i e; simp at he; subst he; subst e; exact ⟨rfl, h4⟩
    · cases he
  | own b o n c hb =>
    simp only [pelemsT] at he
    split at he
    · rename_i e sz' es' hH
      split at he
      · rename_i q
        simp at he
        subst he
        subst q
        obtain ⟨v', q1, -, us, q3, q4, q6, q5⟩ := I.blk b _ hH
        exact ⟨by simp [pelems, hH], q4⟩
      · cases he
    · cases he
  | val x =>
    unfold pelemsT at he
    split at he
    · rename_i heq; cases heq
    · rename_i heq; cases heq
    · rename_i heq; cases heq; simp at he; subst he; exact ⟨rfl, by simp⟩
    · cases he
  | _ => simp [pelemsT] at he
/-- A row of one's own becomes a slice that is read, wherever it stands. -/
def thaw1 (b sz : Nat) (es : List (List PV)) : PV → PV
  | .own c => if c = b then .sl sz es else .own c
  | p => p
def thaw (b sz : Nat) (es : List (List PV)) : PV → PV
  | .agg fs => .agg (fs.map (thaw1 b sz es))
  | p => thaw1 b sz es p
def thawB (b sz : Nat) (es : List (List PV)) : Option Blk → Option Blk
  | some (.box cs) => some (.box (cs.map (thaw1 b sz es)))
  | some (.row e z rows) => some (.row e z (rows.map fun row => row.map (thaw1 b sz es)))
  | none => none
def St.thaw (σ : St) (b sz : Nat) (es : List (List PV)) : St := ⟨σ.tm.map (Go.Proofs.Ytcbknmnlgoeniaa.thaw b sz es), (σ.H.set b none).map (thawB b sz es)⟩
def pslice2 (T : Tys) (md : Bool) (t : TypeId) (b : Nat) (lo hi : Option PV) (σ : St) (K : PV → St → Prop) : Prop :=
  ∃ i e' e sz by' es l k, T t = some i ∧ i.d = .slice e' sz by' ∧ σ.H[b]? = some (some (.row e sz es)) ∧ pb lo 0 = some l ∧ pb hi es.length = some k ∧ l ≤ k ∧ k ≤ es.length ∧
    if md && lo.isNone then K (.own σ.H.length) ⟨σ.tm, σ.H.set b none ++ [some (.row e sz (es.take k))]⟩ else (∀ row ∈ es, row.all cloC = true) ∧ K (.sl sz ((es.drop l).take (k - l))) (σ.thaw b sz es)
def pstore (T : Tys) (t : TypeId) (a x : PV) (σ : St) (K : PV → St → Prop) : Prop :=
  ∃ i, T t = some i ∧ (pcellsOf x).length = i.size ∧ (pcellsOf x).all oneP = true ∧ match a with
    | .ptr b o => ∃ cs, σ.H[b]? = some (some (.box cs)) ∧ o + i.size ≤ cs.length ∧ K (.val undef) ⟨σ.tm, σ.H.set b (some (.box (splice cs o (pcellsOf x))))⟩
    | .optr b sz j o => ∃ e es row, σ.H[b]? = some (some (.row e sz es)) ∧ es[j]? = some row ∧ o + i.size ≤ row.length ∧ K (.val undef) ⟨σ.tm, σ.H.set b (some (.row e sz (es.set j (splice row o (pcellsOf x)))))⟩
    | _ => False
def pbuildSlice (T : Tys) (t : TypeId) (len : Nat) (parts : List (Nat × PV)) (σ : St) (K : PV → St → Prop) : Prop :=
  ∃ i e sz by' ie, T t = some i ∧ i.d = .slice e sz by' ∧ T e = some ie ∧ ie.size = sz ∧ parts.length = len ∧ len * sz ≤ 16777216 ∧ len ≤ 16777216 ∧ parts.map (·.1) = List.range len ∧ (∀ row ∈ prow parts, row.length = sz) ∧ (∀ row ∈ prow parts, row.all oneP = true) ∧ K (.own σ.H.length) ⟨σ.tm, σ.H ++ [some (.row e sz (prow parts))]⟩
def pmake (T : Tys) (t : TypeId) (l c : PV) (σ : St) (K : PV → St → Prop) : Prop :=
  ∃ i e sz by' ie n m, T t = some i ∧ i.d = .slice e sz by' ∧ T e = some ie ∧ ie.size = sz ∧ (pcellsOf (cPV ie.zero)).length = sz ∧ (pcellsOf (cPV ie.zero)).all oneP = true ∧ pint l = some n ∧ pint c = some m ∧ 0 ≤ n ∧ n ≤ m ∧ (by' : Int) * m ≤ 281474976710656 ∧ m ≤ 9223372036854775807 ∧ K (.own σ.H.length) ⟨σ.tm, σ.H ++ [some (.row e sz (List.replicate n.toNat (pcellsOf (cPV ie.zero))))]⟩
def pappend (T : Tys) (t : TypeId) (s x : PV) (σ : St) (K : PV → St → Prop) : Prop :=
  ∃ i e sz by' ie es2, T t = some i ∧ i.d = .slice e sz by' ∧ T e = some ie ∧ ie.size = sz ∧ (pcellsOf (cPV ie.zero)).length = sz ∧ 0 < sz ∧ pelemsT sz σ.H x = some es2 ∧ match s with
    | .own b => ∃ es, σ.H[b]? = some (some (.row e sz es)) ∧ es.length + es2.length ≤ 9223372036854775807 ∧ (es.length + es2.length) * by' ≤ 140737488355328 ∧ K (.own σ.H.length) ⟨σ.tm, σ.H.set b none ++ [some (.row e sz (es ++ es2))]⟩
    | .val (.slice none 0 0) => es2.length ≤ 9223372036854775807 ∧ es2.length * by' ≤ 140737488355328 ∧ K (.own (σ.H.length + 1)) ⟨σ.tm, σ.H ++ [none, some (.row e sz es2)]⟩
    | _ => False
def pbytes (T : Tys) (s e : TypeId) (x : PV) (σ : St) (K : PV → St → Prop) : Prop :=
  ∃ q i bs, T e = some q ∧ q.d = .int .u8 ∧ T s = some i ∧ x = .val (.string bs) ∧ bs.size ≤ 9223372036854775807 ∧ K (.sl 1 (bytesL bs.data.toList)) σ
def popO (P : Program) (T : Tys) (md cm : Bool) (op : Op) (ty : TypeId) (σ : St) (K : PV → St → Prop) : Prop :=
  match op with
  | .box _ x => (pcellsOf (ev σ.tm x)).all oneP = true ∧ K (.ptr σ.H.length 0) ⟨σ.tm, σ.H ++ [some (.box (pcellsOf (ev σ.tm x)))]⟩
  | .alloc t => ∃ i, T t = some i ∧ (pcellsOf (cPV i.zero)).all oneP = true ∧ K (.ptr σ.H.length 0) ⟨σ.tm, σ.H ++ [some (.box (pcellsOf (cPV i.zero)))]⟩
  | .store t a x => pstore T t (ev σ.tm a) (ev σ.tm x) σ K
  | .buildSlice t len parts => pbuildSlice T t len (pparts σ.tm parts) σ K
  | .makeSlice t l c => pmake T t (ev σ.tm l) (ev σ.tm c) σ K
  | .slice t x lo hi none => match ev σ.tm x with
    | .own b => pslice2 T md t b (lo.map (ev σ.tm)) (hi.map (ev σ.tm)) σ K
    | pv => pslice T t pv (lo.map (ev σ.tm)) (hi.map (ev σ.tm)) fun r => K r σ
  | .convert s d x => match T d with
    | some ⟨.slice e _ _, _, _⟩ => pbytes T s e (ev σ.tm x) σ K
    | _ => py P T σ.tm σ.H op ty fun r => K r σ
  | .call ⟨.builtin .append, args, ats⟩ => ∃ s x t, args.toList = [s, x] ∧ ats.toList = [t, t] ∧ pappend T t (ev σ.tm s) (ev σ.tm x) σ K
  | .call ⟨.value f, args, _⟩ => match ev σ.tm f with
    | .val (.func (.func g) first captured) => first = #[] ∧ captured = #[] ∧ pcall P cm g (args.toList.map (ev σ.tm)) σ K
    | .clo g caps => pcall P cm g (args.toList.map (ev σ.tm) ++ caps) σ K
    | _ => False
  | _ => py P T σ.tm σ.H op ty fun r => K r σ
def pop (P : Program) (T : Tys) (md cm : Bool) (o : Oper) (σ : St) (K : PV → St → Prop) : Prop := popO P T md cm o.op o.type σ K
theorem TmOk.mono {M M' : Mem} {h h' : Home} {tm : List PV} {ts : Array Value} (t : TmOk M h tm ts) (hM : MLe M M') (hh : HLe h h') : TmOk M' h' tm ts := ⟨t.size, fun i pv v a b => (t.vr i pv v a b).mono hM hh⟩
theorem thaw1_ok {M M' : Mem} {h : Home} {b sz : Nat} {es : List (List PV)} {v : Value} (hM : MLe M M') (hb : h b = some v) (hv : VR M' h (.sl sz es) v) {pv : PV} {u : Value} (r : VR M h pv u) : VR M' h (thaw1 b sz es pv) u := by
  have r' := r.mono hM (.refl _)
  cases pv with
  | own c =>
    simp only [thaw1]
    split
    · rename_i e
      subst e
      cases r with
      | own _ o n c hc =>
        rw [hb] at hc
        cases hc
        exact hv
    · exact r'
  | _ => exact r'
theorem thaw_ok {M M' : Mem} {h : Home} {b sz : Nat} {es : List (List PV)} {v : Value} (hM : MLe M M') (hb : h b = some v) (hv : VR M' h (.sl sz es) v) {pv : PV} {u : Value} (r : VR M h pv u) : VR M' h (thaw b sz es pv) u := by
  cases pv with
  | agg fs =>
    cases r with
    | agg _ vs h1 h2 =>
      refine .agg _ _ (by simpa using h1) fun i pv u a d => ?_
      simp only [List.getElem?_map, Option.map_eq_some_iff] at a
      obtain ⟨q, q1, rfl⟩ := a
      exact thaw1_ok hM hb hv (h2 i q u q1 d)
  | _ => exact thaw1_ok hM hb hv r
/-- A row of one's own becomes memory that nobody writes. -/
theorem freeze_ok {M : Mem} {h : Home} {σ : St} {w : World} (I : Inv M h σ.H w) {b : Nat} {e : TypeId} {sz : Nat} {es : List (List PV)} {v : Value} (hH : σ.H[b]? = some (some (.row e sz es))) (hb : h b = some v) (hcl : ∀ row ∈ es, row.all cloC = true) {ts : Array Value} (ht : TmOk M h σ.tm ts) :
    ∃ M', Step M h σ.H w M' h (σ.thaw b sz es).H w ∧ TmOk M' h (σ.thaw b sz es).tm ts ∧ VR M' h (.sl sz es) v := by
  obtain ⟨v0, q0, ⟨o0, n0, c0, hv0⟩, us, q1, q2, q3, q4⟩ := I.blk b _ hH
  rw [hb] at q0
  cases q0
  have I0 := I.kill b
  -- the new memory
  obtain ⟨M', hM, hmem, hone, hdom, hvr⟩ : ∃ M' : Mem, MLe M M' ∧ (∀ b o u, M' b o = some u → w.cell? ⟨b, o, none⟩ = some u) ∧ (∀ b o u, M' b o = some u → u.oneCell' = true) ∧ (∀ k o, M' k o = none ∨ M' k o = M k o ∨ hblk v = some k) ∧ VR M' h (.sl sz es) v := by
    rcases q1.2 with ⟨e1, e2⟩ | ⟨g, cap, cur, e1, e2, e3, e4, e5, e6, e7⟩
    · refine ⟨M, .refl _, I.mem, I.one, fun k o => .inr (.inl rfl), ?_⟩
      have : es = [] := List.eq_nil_of_length_eq_zero e2
      subst this
      rw [e1]
      exact .sl0 _ _ _
    · subst e1
      have hMg : ∀ o, M g o = none := I.sep g ⟨b, _, _, hH, hb, rfl⟩
      have hM : MLe M (fun k o => if k = g then us[o]? else M k o) := fun k o u q => by
        show (if k = g then us[o]? else M k o) = some u
        rw [if_neg]
        · exact q
        · rintro rfl; rw [hMg] at q; cases q
      refine ⟨fun k o => if k = g then us[o]? else M k o, hM, fun k o u q => ?_, fun k o u q => ?_, fun k o => ?_, ?_⟩
      · replace q : (if k = g then us[o]? else M k o) = some u := q
        split at q
        · rename_i e
          subst e
          have := q1.cells (g := k) rfl o u q
          rw [addr_add, Nat.zero_add] at this
          exact this
        · exact I.mem k o u q
      · replace q : (if k = g then us[o]? else M k o) = some u := q
        split at q
        · exact q3 u (List.mem_of_getElem? q)
        · exact I.one k o u q
      · by_cases e : k = g
        · subst e; exact .inr (.inr rfl)
        · right; left; simp [e]
      · by_cases hn : es = []
        · subst hn; exact .sl0 _ _ _
        · have hl : 0 < es.length := by cases es with | nil => exact absurd rfl hn | cons => simp
          refine VR.sl sz es g 0 cap (fun i j => (us[i * sz + j]?).getD undef) hl e4 e5 q2 (fun i j row pv a d => ?_) (fun i j row pv a d => ?_)
          all_goals
            have hi : i < es.length := (List.getElem?_eq_some_iff.1 a).1
            have hj : j < sz := by have := (List.getElem?_eq_some_iff.1 d).1; rw [q2 row (List.mem_of_getElem? a)] at this; exact this
            have hm : (i + 1) * sz ≤ es.length * sz := Nat.mul_le_mul_right _ hi
            rw [Nat.add_mul] at hm
            have hu : i * sz + j < us.length := by rw [q1.1]; omega
            have hu' : us[i * sz + j]? = some us[i * sz + j] := List.getElem?_eq_getElem hu
          · show (if g = g then us[0 + i * sz + j]? else M g (0 + i * sz + j)) = some ((us[i * sz + j]?).getD undef)
            rw [if_pos rfl, Nat.zero_add, hu']
            rfl
          · rw [hu']
            exact cloC_ok ((q4 i j row pv _ a d hu').mono hM (.refl _)) (List.all_eq_true.1 (hcl row (List.mem_of_getElem? a)) pv (List.mem_of_getElem? d))
  have kill : ∀ {c : Nat} {B : Blk}, (σ.H.set b none)[c]? = some (some B) → c ≠ b ∧ σ.H[c]? = some (some B) := fun {c B} q => by
    by_cases e : b = c
    · subst e
      rw [List.getElem?_set] at q
      simp at q
    · rw [List.getElem?_set_ne e] at q
      exact ⟨Ne.symm e, q⟩
  have back : ∀ {c : Nat} {B : Blk}, (σ.thaw b sz es).H[c]? = some (some B) → ∃ B0, c ≠ b ∧ σ.H[c]? = some (some B0) ∧ thawB b sz es (some B0) = some B := fun {c B} q => by
    simp only [St.thaw, List.getElem?_map, Option.map_eq_some_iff] at q
    obtain ⟨B0, p1, p2⟩ := q
    cases B0 with
    | none => cases p2
    | some B0 => exact ⟨B0, (kill p1).1, (kill p1).2, p2⟩
  have sub : ∀ {k : Nat}, Homes h (σ.thaw b sz es).H k → Homes h σ.H k ∧ hblk v ≠ some k := fun {k} ⟨c, B, u, p1, p2, p3⟩ => by
    obtain ⟨B0, g1, g2, _⟩ := back p1
    exact ⟨⟨c, B0, u, g2, p2, p3⟩, fun hk => g1 (I.inj c b B0 _ u v k g2 hH p2 hb p3 hk)⟩
  refine ⟨M', ⟨hM, .refl _, ⟨hmem, hone, fun c B q => ?_, fun k q o => ?_, fun c c' B B' u u' k g1 g2 g3 g4 g5 g6 => ?_, fun c u q => by simp [St.thaw]; exact I.len c u q, I.glob.mono hM⟩, .refl, fun k q => .inl (sub q).1, fun k o u q => ?_⟩, ⟨by simp [St.thaw]; exact ht.size, fun i pv u a d => ?_⟩, hvr⟩
  · obtain ⟨B0, g1, g2, g3⟩ := back q
    obtain ⟨u, e1, e2⟩ := I.blk c B0 g2
    refine ⟨u, e1, ?_⟩
    cases B0 with
    | box cs =>
      simp only [thawB, Option.some.injEq] at g3
      subst g3
      obtain ⟨k, us', t, p1, p2, p3, p4, p5⟩ := e2
      refine ⟨k, us', t, p1, p2, by simpa using p3, p4, fun j pv u a d => ?_⟩
      simp only [List.getElem?_map, Option.map_eq_some_iff] at a
      obtain ⟨q, a1, rfl⟩ := a
      exact thaw1_ok hM hb hvr (p5 j q u a1 d)
    | row e' z rows =>
      simp only [thawB, Option.some.injEq] at g3
      subst g3
      obtain ⟨p0, us', p1, p2, p3, p4⟩ := e2
      refine ⟨p0, us', by simpa using p1, fun row hr => ?_, p3, fun i j row pv u a d f => ?_⟩
      · simp only [List.mem_map] at hr
        obtain ⟨r0, hr0, rfl⟩ := hr
        simpa using p2 r0 hr0
      · simp only [List.getElem?_map, Option.map_eq_some_iff] at a
        obtain ⟨r0, a1, rfl⟩ := a
        simp only [List.getElem?_map, Option.map_eq_some_iff] at d
        obtain ⟨q, d1, rfl⟩ := d
        exact thaw1_ok hM hb hvr (p4 i j r0 q u a1 d1 f)
  · obtain ⟨s1, s2⟩ := sub q
    rcases hdom k o with d | d | d
    · exact d
    · rw [d]; exact I.sep k s1 o
    · exact absurd d s2
  · obtain ⟨B0, _, e1, _⟩ := back g1
    obtain ⟨B1, _, e2, _⟩ := back g2
    exact I.inj c c' B0 B1 u u' k e1 e2 g3 g4 g5 g6
  · rcases hdom k o with d | d | d
    · rw [d] at q; cases q
    · rw [d] at q; exact .inl q
    · exact .inr (.inl ⟨b, _, v, hH, hb, d⟩)
  · simp only [St.thaw, List.getElem?_map, Option.map_eq_some_iff] at a
    obtain ⟨q, a1, rfl⟩ := a
    exact thaw_ok hM hb hvr (ht.vr i q u a1 d)
end Go.Proofs.Ytcbknmnlgoeniaa
/- The pure machine: one operation is as the model's. -/
namespace Go.Proofs.Ytcbknmnlgoeniaa
open Go.RowKit

/-- What an operation leaves as it was. -/
def Eff (M : Mem) (h : Home) (tm : List PV) (op : Op) (w : World) (M' : Mem) (w' : World) : Prop :=
  (quietM op = true → M' = M) ∧ ∀ b, tgt tm op = some b → ∀ k, k < w.heap.size → (∀ v, h b = some v → hblk v ≠ some k) → w'.heap[k]? = w.heap[k]?
theorem Eff.grown {M : Mem} {h : Home} {tm : List PV} {op : Op} {w w' : World} {b : Nat} {hv : Value} (hb : h b = some hv) (hg : w.grownBy w' (hblk hv)) (ht : ∀ c, tgt tm op = some c → c = b) : Eff M h tm op w M w' :=
  ⟨fun _ => rfl, fun c hc k hk hn => hg.block k hk fun e => by rw [ht c hc] at hn; exact hn hv hb e.symm⟩
/-- What an operation of the pure machine leaves, in the model. -/
def Next' (cm : Bool) (M : Mem) (h : Home) (σ : St) (a : Act) (o : Oper) (w : World) (K : PV → St → Prop) (next : Act → World → Prop) : Prop :=
  ∀ pv v M' h' σ' w', K pv σ' → (cm = false → extOp o.op = true → Ext w w') → Eff M h σ.tm o.op w M' w' → Step M h σ.H w M' h' σ'.H w' → TmOk M' h' σ'.tm a.tmps → VR M' h' pv v → next (a.put o.dst v) w'
theorem wp_value {P : Program} {o : Oper} {a : Act} {w w' : World} {v : Value} {next : Act → World → Prop} {Q : Exit → Act → World → Prop} (hr : (execOp a.eval o).run P w = .ok (.value v) w') (hn : next (a.put o.dst v) w') : o.wp P a w next Q := by
  unfold Oper.wp
  rw [hr]
  exact hn
theorem wp_skip' {P : Program} {o : Oper} {a : Act} {w w' : World} {next : Act → World → Prop} {Q : Exit → Act → World → Prop} (hr : (execOp a.eval o).run P w = .ok .skip w') (hn : next (a.put o.dst undef) w') : o.wp P a w next Q := by
  unfold Oper.wp
  rw [hr]
  exact hn
theorem args_cr {M : Mem} {h : Home} {tm : List PV} {a : Act} (ht : TmOk M h tm a.tmps) (args : Array Operand) : CR M h (args.toList.map (ev tm)) (args.map a.eval) :=
  ⟨by simp, fun i pv v h1 h2 => by
    simp only [List.getElem?_map, Array.getElem?_toList, Array.getElem?_map, Option.map_eq_some_iff] at h1 h2
    obtain ⟨x, q1, rfl⟩ := h1
    obtain ⟨y, q2, rfl⟩ := h2
    rw [q1] at q2
    cases q2
    exact ev_vr ht x⟩
theorem CR.append {M : Mem} {h : Home} {a b : List PV} {x y : Array Value} (r : CR M h a x) (q : CR M h b y) : CR M h (a ++ b) (x ++ y) :=
  ⟨by simp [r.1, q.1], fun i pv v h1 h2 => by
    by_cases hi : i < a.length
    · rw [List.getElem?_append_left hi] at h1
      rw [Array.getElem?_append_left (by rw [← r.1]; exact hi)] at h2
      exact r.2 i pv v h1 h2
    · rw [List.getElem?_append_right (by omega)] at h1
      rw [Array.getElem?_append_right (by rw [← r.1]; omega), ← r.1] at h2
      exact q.2 _ pv v h1 h2⟩
theorem pcall_ok {P : Program} {M : Mem} {h : Home} {σ : St} {w : World} {a : Act} (I : Inv M h σ.H w) (ht : TmOk M h σ.tm a.tmps) (o : Oper) {g : FuncId} {args : List PV} {vs : Array Value} (rv : CR M h args vs) (hr : (execOp a.eval o).run P w = (callFunc g vs).run P w) {K : PV → St → Prop} {cm : Bool} (hk : pcall P cm g args σ K) (hno : quietM o.op = false ∧ ∀ tm, tgt tm o.op = none) {next : Act → World → Prop} {Q : Exit → Act → World → Prop} (hn : Next' cm M h σ a o w K next) : o.wp P a w next Q := by
  obtain ⟨fn, c1, c2, c3⟩ := hk.1
  unfold Oper.wp
  rw [hr]
  have : (callFunc g vs).run P w = .ok (.enter g vs) w := by
    simp only [callFunc, program, Sem.run_bind, Sem.run, Result.andThen_ok, c1, c2, c3, Bool.false_eq_true, if_false, pure]
  rw [this, Oper.upon_enter]
  refine (pcall_sound I rv hk).mono fun e w' ⟨v, M', h', r, H', e1, e2, e3, e4, e5⟩ => ?_
  subst e1
  exact hn r v M' h' ⟨σ.tm, H'⟩ w' e2 (fun q _ => e5 q) ⟨fun q => (by rw [hno.1] at q; cases q), fun b q => by rw [hno.2] at q; cases q⟩ e4 (ht.mono e4.mle e4.hle) e3
theorem py_next {P : Program} {T : Tys} (hT : TysOk P T) (hE : elemsOk P T) {M : Mem} {h : Home} {σ : St} {w : World} {a : Act} (I : Inv M h σ.H w) (ht : TmOk M h σ.tm a.tmps) (o : Oper) {K : PV → St → Prop} {cm : Bool} (hk : py P T σ.tm σ.H o.op o.type fun r => K r σ) {next : Act → World → Prop} {Q : Exit → Act → World → Prop} (hn : Next' cm M h σ a o w K next) : o.wp P a w next Q := by
  obtain ⟨pv, v, h1, h2, h3⟩ := py_ok hT hE I ht o hk
  exact wp_value (h3 w fun _ => Ext.refl w) (hn pv v M h σ w h1 (fun _ _ => Ext.refl w) ⟨fun _ => rfl, fun _ _ _ _ _ => rfl⟩ (Step.refl I) ht h2)
theorem undef_vr {M : Mem} {h : Home} : VR M h (.val undef) undef := .val _
theorem td_slice {P : Program} {d : TypeDesc} {e : TypeId} {sz by' : Nat} (h : tdOf P d = .slice e sz by') : d = .slice e ∧ sz = P.cellsOf e ∧ by' = P.bytesOf e := by
  cases d <;> simp [tdOf] at h
  obtain ⟨rfl, rfl, rfl⟩ := h
  exact ⟨rfl, rfl, rfl⟩
set_option maxHeartbeats 1000000 in
theorem pop_ok {P : Program} {T : Tys} (hT : TysOk P T) (hE : elemsOk P T) (md cm : Bool) {M : Mem} {h : Home} {σ : St} {w : World} {a : Act} (I : Inv M h σ.H w) (ht : TmOk M h σ.tm a.tmps) (o : Oper) {K : PV → St → Prop} (hk : pop P T md cm o σ K) {next : Act → World → Prop} {Q : Exit → Act → World → Prop} (hn : Next' cm M h σ a o w K next) : o.wp P a w next Q := by
  have hk0 := hk
  unfold pop popO at hk
  split at hk
  · -- box
    rename_i t x hop
    obtain ⟨ho, hk⟩ := hk
    obtain ⟨h', w', r1, r2, r3, r4⟩ := box_ok (P := P) I (pcellsOf_ok (ev_vr ht x)) ho t rfl
    refine wp_value (v := .pointer (some ⟨w.heap.size, 0, none⟩)) (w' := w') ?_ (hn _ _ _ _ _ _ hk (fun _ _ => r4) ⟨fun _ => rfl, fun b q => by rw [hop] at q; cases q⟩ r2 (ht.mono r2.mle r2.hle) r3)
    unfold execOp
    rw [hop]
    exact run_v (by simp only [Instr.box, Sem.run_bind, r1, Result.andThen_ok, Sem.run_pure])
  · -- alloc
    rename_i t hop
    obtain ⟨i, hi, ho, hk⟩ := hk
    obtain ⟨f, d, p1, p2, p3, p4, p5⟩ := ty_parts (hT t i hi)
    obtain ⟨h', w', r1, r2, r3, r4⟩ := box_ok (P := P) I (pcellsOf_ok (cPV_vr i.zero)) ho t rfl
    refine wp_value (v := .pointer (some ⟨w.heap.size, 0, none⟩)) (w' := w') ?_ (hn _ _ _ _ _ _ hk (fun _ _ => r4) ⟨fun _ => rfl, fun b q => by rw [hop] at q; cases q⟩ r2 (ht.mono r2.mle r2.hle) r3)
    unfold execOp
    rw [hop]
    have hz : (zeroValue t).run P w = .ok i.zero w := by simp [zeroValue, typeInfo, p1, p5]
    exact run_v (by simp only [Instr.alloc, Sem.run_bind, hz, r1, Result.andThen_ok, Sem.run_pure])
  · -- store
    rename_i t x y hop
    obtain ⟨i, hi, hs, ho, hk⟩ := hk
    obtain ⟨f, d, p1, p2, p3, p4, p5⟩ := ty_parts (hT t i hi)
    have hx := ev_vr ht x
    have ry := pcellsOf_ok (ev_vr ht y)
    have fin : ∀ (w' : World) (H' : Hp), (Instr.storeAt t (a.eval x) (a.eval y)).run P w = .ok () w' → Step M h σ.H w M h H' w' → K (.val undef) ⟨σ.tm, H'⟩ → Eff M h σ.tm o.op w M w' → o.wp P a w next Q := fun w' H' r1 r2 hK hEf => by
      refine wp_skip' (w' := w') ?_ (hn (.val undef) undef _ _ ⟨σ.tm, H'⟩ _ hK (fun _ q => by rw [hop] at q; cases q) hEf r2 ht undef_vr)
      unfold execOp
      rw [hop]
      simp only [Sem.run_bind, r1, Result.andThen_ok, Sem.run_pure]
    split at hk
    · rename_i b k he
      obtain ⟨cs, h1, h2, h3⟩ := hk
      rw [he] at hx
      obtain ⟨w', r1, r2, hv, hb, hg⟩ := store_box (P := P) I h1 hx ry ho p1 (by omega) (by omega)
      exact fin w' _ r1 r2 h3 (.grown hb hg fun c q => by rw [hop] at q; simp only [tgt, he, Option.some.injEq] at q; exact q.symm)
    · rename_i b sz j k he
      obtain ⟨e, es, row, h1, h2, h3, h4⟩ := hk
      rw [he] at hx
      obtain ⟨w', r1, r2, hv, hb, hg⟩ := store_row (P := P) I h1 hx h2 ry ho p1 (by omega) (by omega)
      exact fin w' _ r1 r2 h4 (.grown hb hg fun c q => by rw [hop] at q; simp only [tgt, he, Option.some.injEq] at q; exact q.symm)
    · exact hk.elim
  · -- buildSlice
    rename_i t len parts hop
    obtain ⟨i, e, sz, by', ie, hi, hid, hie, hsz, rfl, hl1, hl2, hidx, hrow, ho, hk⟩ := hk
    obtain ⟨f, d, p1, p2, p3, p4, p5⟩ := ty_parts (hT t i hi)
    obtain ⟨fe, de, e1, e2, e3, e4, e5⟩ := ty_parts (hT e ie hie)
    rw [hid] at p3
    obtain ⟨rfl, -, -⟩ := td_slice p3
    have hpp := parts_ok (M := M) (h := h) ht parts
    obtain ⟨h', v', w', r1, r2, r3, r4⟩ := build_ok (P := P) I (vps := parts.map fun p => (p.1, a.eval p.2)) (parts := pparts σ.tm parts) (by unfold vparts at hpp; simpa using hpp) p2 e1 e5 (fun j p hj => by
      have hj' : j < (pparts σ.tm parts).length := (List.getElem?_eq_some_iff.1 hj).1
      have q : ((pparts σ.tm parts).map (·.1))[j]? = some p.1 := by rw [List.getElem?_map, hj]; rfl
      rw [hidx, List.getElem?_range hj'] at q
      refine ⟨by simpa using q.symm, ?_⟩
      rw [hrow (pcellsOf p.2) (by unfold prow; exact List.mem_map.2 ⟨p, List.mem_of_getElem? hj, rfl⟩)]
      omega) ho (by rw [e4, hsz]; exact hl1) hl2
    rw [e4, hsz] at r2
    refine wp_value (v := v') (w' := w') ?_ (hn _ _ _ _ _ _ hk (fun _ _ => r4) ⟨fun _ => rfl, fun b q => by rw [hop] at q; cases q⟩ r2 (ht.mono r2.mle r2.hle) r3)
    unfold execOp
    rw [hop]
    exact run_v r1
  · -- makeSlice
    rename_i t l c hop
    obtain ⟨i, e, sz, by', ie, n, m, hi, hid, hie, hsz, hzl, hzo, hl, hc, h0, hnm, hb, hm, hk⟩ := hk
    obtain ⟨f, d, p1, p2, p3, p4, p5⟩ := ty_parts (hT t i hi)
    obtain ⟨fe, de, e1, e2, e3, e4, e5⟩ := ty_parts (hT e ie hie)
    rw [hid] at p3
    obtain ⟨rfl, -, rfl⟩ := td_slice p3
    obtain ⟨kl, hlv⟩ := pint_ok (ev_vr ht l) hl
    obtain ⟨kc, hcv⟩ := pint_ok (ev_vr ht c) hc
    have hby : fe.bytes = P.bytesOf e := by simp [Program.bytesOf, e1]
    have rz := pcellsOf_ok (cPV_vr (M := M) (h := h) ie.zero)
    obtain ⟨h', v', w', r1, r2, r3, r4⟩ := make_ok (P := P) I p2 e1 e5 (by rw [← rz.1, hzl, ← hsz, e4]) hzo kl kc n m h0 hnm (by rw [hby]; exact hb) hm
    rw [e4, hsz] at r2
    refine wp_value (v := v') (w' := w') ?_ (hn _ _ _ _ _ _ hk (fun _ _ => r4) ⟨fun _ => rfl, fun b q => by rw [hop] at q; cases q⟩ r2 (ht.mono r2.mle r2.hle) r3)
    unfold execOp
    rw [hop]
    simp only [hlv, hcv]
    exact run_v r1
  · -- slice
    rename_i t x lo hi hop
    have hx := ev_vr ht x
    split at hk
    · rename_i b he
      obtain ⟨i, e', e, sz, by', es, l, k, hi', hid, hH, hl, hkk, h1, h2, hk⟩ := hk
      obtain ⟨f, d, p1, p2, p3, p4, p5⟩ := ty_parts (hT t i hi')
      rw [hid] at p3
      obtain ⟨rfl, -, -⟩ := td_slice p3
      have hEt := hE t i hi'
      rw [hid] at hEt
      rw [he] at hx
      generalize hgv : a.eval x = vx at hx
      cases hx with
      | own _ oo n c hb =>
        obtain ⟨v0, q0, q0', us, q1, q2, q3, q4⟩ := I.blk b _ hH
        rw [hb] at q0
        cases q0
        have hnc : n = es.length ∧ es.length ≤ c := by
          rcases q1.2 with ⟨g1, g2⟩ | ⟨g, cap, cur, g1, g2, g3, g4, _⟩
          · cases g1; exact ⟨by omega, by omega⟩
          · cases g1; exact ⟨rfl, g4⟩
        obtain ⟨rfl, hcap⟩ := hnc
        have hbd := fun w' : World => bounds_ok (P := P) (cap := c) (vro_map ht lo) (vro_map ht hi) hl hkk h1 (by omega) true w'
        have run : ∀ (v' : Value), (Instr.sliceAt t (.slice oo es.length c) (lo.map a.eval) (hi.map a.eval) none).run P w = .ok v' w → (execOp a.eval o).run P w = .ok (.value v') w := fun v' r1 => by
          unfold execOp
          rw [hop]
          simp only [hgv]
          exact run_v r1
        split at hk
        · rename_i hmd
          have hlo : lo = none := by cases lo with | none => rfl | some _ => simp at hmd
          subst hlo
          have hl0 : l = 0 := by simp [pb] at hl; exact hl.symm
          subst hl0
          have r1 : (Instr.sliceAt t (.slice oo es.length c) (Option.map a.eval none) (hi.map a.eval) none).run P w = .ok (.slice oo k c) w := by
            have ho : (if c = 0 then oo else oo.map (·.add (0 * P.cellsOf e'))) = oo := by
              split
              · rfl
              · cases oo with
                | none => rfl
                | some ad => simp [Addr.add]
            have := hbd w
            simp only [Instr.sliceAt, Instr.slice, Sem.run_bind, run_underlying p2, Result.andThen_ok, this, sizeOf_cells (.inr hEt), Sem.run_pure, ho, Nat.sub_zero]
          have I0 := I.kill b
          have hkb : ∀ j, hblk (.slice oo k c) = some j → ¬ Homes h (σ.H.set b none) j ∧ ∀ q, M j q = none := fun j hj => by
            have hj' : hblk (.slice oo es.length c) = some j := by cases oo with | none => cases hj | some ad => exact hj
            refine ⟨fun ⟨d, B, u, g1, g2, g3⟩ => ?_, I.sep j ⟨b, _, _, hH, hb, hj'⟩⟩
            by_cases q : b = d
            · subst q
              rw [List.getElem?_set] at g1
              simp at g1
            · rw [List.getElem?_set_ne q] at g1
              exact q (I.inj b d _ B _ u j hH g1 hb g2 hj' g3)
          have hlen : (σ.H.set b none).length = σ.H.length := by simp
          have hus : us.length = es.length * sz := q1.1
          have hks : k * sz ≤ es.length * sz := Nat.mul_le_mul_right _ h2
          have hown : w.ownsRow 0 e sz (.slice oo k c) (es.take k).length (us.take (k * sz)) := by
            have hkl : (es.take k).length = k := by simp; omega
            rw [hkl]
            refine ⟨by simp; omega, ?_⟩
            rcases q1.2 with ⟨g1, g2⟩ | ⟨g, cap, cur, g1, g2, g3, g4, g5, g6, g7⟩
            · left
              injection g1 with a1 a2 a3
              subst a1
              subst a3
              have : k = 0 := by omega
              subst this
              exact ⟨rfl, rfl⟩
            · right
              cases g1
              exact ⟨g, _, cur, rfl, g2, g3, by omega, g5, g6, by rw [← g7, List.take_take, Nat.min_eq_left hks]⟩
          have hin := I0.push (B := .row e sz (es.take k)) (v := .slice oo k c) ⟨⟨_, _, _, rfl⟩, _, hown, fun row hr => q2 row (List.mem_of_mem_take hr), fun u hu => q3 u (List.mem_of_mem_take hu), fun i j row pv u g1 g2 g3 => by
            rw [List.getElem?_take] at g1 g3
            split at g1
            · split at g3
              · exact (q4 i j row pv u g1 g2 g3).mono (.refl _) (upd_le I0.len)
              · cases g3
            · cases g1⟩ hkb
          rw [hlen] at hin
          refine wp_value (run _ r1) (hn _ _ M _ ⟨σ.tm, σ.H.set b none ++ [some (.row e sz (es.take k))]⟩ w hk (fun _ q => by rw [hop] at q; cases q) ⟨fun _ => rfl, fun b q => by rw [hop] at q; cases q⟩ ⟨.refl _, upd_le I.len, hin, .refl, fun j q => ?_, fun _ _ _ q => .inl q⟩ (ht.mono (.refl _) (upd_le I.len)) (.own _ oo k c upd_self))
          rw [← hlen] at q
          rcases Homes.push q with q | q
          · exact .inl q.kill
          · exact .inl ⟨b, _, _, hH, hb, by cases oo with | none => cases q | some ad => exact q⟩
        · obtain ⟨hcl, hk⟩ := hk
          obtain ⟨M', s1, s2, s3⟩ := freeze_ok I hH hb hcl ht
          obtain ⟨pv, v', r1, r2, r3⟩ := pslice_ok hT hE s3 (vro_map (ht.mono s1.mle (.refl _)) lo) (vro_map (ht.mono s1.mle (.refl _)) hi) (t := t) (K := fun pv => pv = .sl sz ((es.drop l).take (k - l))) ⟨i, hi', by rw [hid]; exact ⟨es, l, k, rfl, hl, hkk, h1, h2, rfl⟩⟩
          subst r1
          exact wp_value (run _ (r3 w)) (hn _ _ M' h (σ.thaw b sz es) w hk (fun _ q => by rw [hop] at q; cases q) ⟨fun q => (by rw [hop] at q; cases q), fun b q => by rw [hop] at q; cases q⟩ s1 s2 r2)
    · rename_i pv he
      refine py_next hT hE I ht o ?_ hn
      unfold py
      rw [hop]
      exact ⟨rfl, hk⟩
  · -- convert
    rename_i s d x hop
    split at hk
    · rename_i e sz by' size zero hTd
      obtain ⟨q, i, bs, h1, h2, h3, h4, h5, h6⟩ := hk
      have hx := ev_vr ht x
      rw [h4] at hx
      have hxv := vr_val hx
      obtain ⟨_, dd, _, d2, d3, _, _⟩ := ty_parts (hT d _ hTd)
      obtain ⟨_, ds, _, s2, s3, _, _⟩ := ty_parts (hT s i h3)
      obtain ⟨_, de, _, e2, e3, _, _⟩ := ty_parts (hT e q h1)
      rw [h2] at e3
      obtain ⟨rfl, -, -⟩ := td_slice d3
      have hee : de = .int .u8 := by cases de <;> simp [tdOf] at e3; subst e3; rfl
      subst hee
      obtain ⟨M', v', w', r1, r2, r3⟩ := bytes_ok (P := P) I (x := bs) s2 d2 e2 (by unfold maxLen; omega)
      refine wp_value (v := v') (w' := w') ?_ (hn _ _ _ _ σ _ h6 (fun _ q => by rw [hop] at q; cases q) ⟨fun q => (by rw [hop] at q; cases q), fun b q => by rw [hop] at q; cases q⟩ r2 (ht.mono r2.mle r2.hle) r3)
      unfold execOp
      rw [hop]
      simp only [hxv]
      exact run_v r1
    · exact py_next hT hE I ht o (by rw [hop]; rw [hop] at hk; exact hk) hn
  · -- append
    rename_i args ats hop
    obtain ⟨s, x, t, ha, hb, i, e, sz, by', ie, es2, hi, hid, hie, hsz, hzl, hz0, he2, hk⟩ := hk
    obtain rfl := arr_eq ha
    obtain rfl := arr_eq hb
    obtain ⟨f, d, p1, p2, p3, p4, p5⟩ := ty_parts (hT t i hi)
    obtain ⟨fe, de, e1, e2, e3, e4, e5⟩ := ty_parts (hT e ie hie)
    rw [hid] at p3
    obtain ⟨rfl, -, rfl⟩ := td_slice p3
    have hs := ev_vr ht s
    have hx := ev_vr ht x
    have hby : fe.bytes = P.bytesOf e := by simp [Program.bytesOf, e1]
    have rz := pcellsOf_ok (cPV_vr (M := M) (h := h) ie.zero)
    have hzs : ie.zero.cells.size = sz := by rw [← rz.1, hzl]
    obtain ⟨g1, g2⟩ := pelemsT_ok I hx he2
    have run : ∀ (v' : Value) (w' : World), (Builtin.append_ #[t, t] o.type #[a.eval s, a.eval x]).run P w = .ok v' w' → (execOp a.eval o).run P w = .ok (.value v') w' := fun v' w' r1 => by
      unfold execOp
      rw [hop]
      simp only [resolve, invoke, builtin, Sem.run_bind, Sem.run_pure, Result.andThen_ok, List.map_toArray, List.map_cons, List.map_nil, r1]
    split at hk
    · rename_i b he
      obtain ⟨es, hH, b1, b2, hk⟩ := hk
      rw [he] at hs
      generalize hgs : a.eval s = vs at hs run
      cases hs with
      | own _ oo n c hb =>
        obtain ⟨h', v', w', r1, r2, r3, r9⟩ := append_ok (P := P) I hH hb hx g1 g2 t o.type fe ie.zero (P.bytesOf e) p2 e1 e5 (by rw [e4, hsz]) hby hzs hz0 (by unfold maxLen; exact b1) b2
        have x1 : extOp o.op = true → Ext w w' := fun q => by
          exfalso
          rw [hop] at q
          simp only [extOp] at q
          split at q
          · rename_i g0
            simp only [List.cons.injEq] at g0
            rw [g0.1] at he
            cases he
          · cases q
        have x2 : ∀ c, tgt σ.tm o.op = some c → c = b := fun c q => by
          rw [hop] at q
          simp only [tgt, he, Option.some.injEq] at q
          exact q.symm
        exact wp_value (run v' w' r1) (hn _ _ _ _ _ _ hk (fun _ q => x1 q) (.grown hb r9 x2) r2 (ht.mono r2.mle r2.hle) r3)
    · rename_i he
      obtain ⟨b1, b2, hk⟩ := hk
      rw [he] at hs
      have hsv := vr_val hs
      have hpush := Step.push (B := .row e sz []) (v := .slice none 0 0) I (Ext.refl w) ⟨⟨_, _, _, rfl⟩, [], World.ownsRow_nil w 0 e sz, by simp, by simp, fun i j row pv u a => by simp at a⟩ (fun k q => by simp [hblk] at q)
      have hx' := hx.mono hpush.mle hpush.hle
      have g1' : pelems (σ.H ++ [some (.row e sz [])]) (ev σ.tm x) = some es2 := by
        cases hxx : ev σ.tm x with
        | own c =>
          rw [hxx] at g1
          simp only [pelems] at g1 ⊢
          have hc : c < σ.H.length := by
            rcases Nat.lt_or_ge c σ.H.length with q | q
            · exact q
            · rw [List.getElem?_eq_none q] at g1; cases g1
          rw [List.getElem?_append_left hc]
          exact g1
        | val y =>
          have pv : ∀ H H' : Hp, pelems H (.val y) = pelems H' (.val y) := fun H H' => by unfold pelems; split <;> first | rfl | simp_all
          rw [hxx] at g1
          rw [pv _ σ.H]
          exact g1
        | _ => rw [hxx] at g1; exact g1
      obtain ⟨h', v', w', r1, r2, r3, r9⟩ := append_ok (P := P) hpush.inv (b := σ.H.length) (es := []) (by simp) upd_self hx' g1' g2 t o.type fe ie.zero (P.bytesOf e) p2 e1 e5 (by rw [e4, hsz]) hby hzs hz0 (by unfold maxLen; simpa using b1) (by simpa using b2)
      have e0 : (σ.H ++ [some (Blk.row e sz [])]).set σ.H.length none ++ [some (Blk.row e sz ([] ++ es2))] = σ.H ++ [none, some (.row e sz es2)] := by simp
      rw [e0] at r2
      have st := hpush.trans r2
      refine wp_value (run v' w' (by rw [hsv]; exact r1)) (hn _ _ _ _ ⟨σ.tm, σ.H ++ [none, some (.row e sz es2)]⟩ _ hk (fun _ _ => Ext.of_grownBy r9) ⟨fun _ => rfl, fun b q => by rw [hop] at q; simp only [tgt, he, reduceCtorEq] at q⟩ st (ht.mono st.mle st.hle) (by simpa using r3))
    · exact hk.elim
  · -- call
    rename_i f args ats hop
    have hf := ev_vr ht f
    have hargs := args_cr ht args
    have exec : ∀ g (c : Array Value), a.eval f = .func (.func g) #[] c → (execOp a.eval o).run P w = (callFunc g (args.map a.eval ++ c)).run P w := fun g c e => by
      unfold execOp
      rw [hop]
      simp only [resolve, e, Deferred.ofValue, Sem.run_bind, Sem.run_pure, Result.andThen_ok, invoke]
      simp
    split at hk
    · rename_i g first captured he
      obtain ⟨rfl, rfl, hk⟩ := hk
      rw [he] at hf
      have := exec g #[] (vr_val hf)
      refine pcall_ok I ht o hargs ?_ hk (by rw [hop]; exact ⟨rfl, fun _ => rfl⟩) hn
      simpa using this
    · rename_i g caps he
      rw [he] at hf
      generalize hgf : a.eval f = vf at hf exec
      cases hf with
      | clo _ _ vs e1 e2 => exact pcall_ok I ht o (hargs.append ⟨e1, e2⟩) (exec g vs rfl) hk (by rw [hop]; exact ⟨rfl, fun _ => rfl⟩) hn
    · exact hk.elim
  · exact py_next hT hE I ht o hk hn
end Go.Proofs.Ytcbknmnlgoeniaa
/- The pure machine: regions. -/
namespace Go.Proofs.Ytcbknmnlgoeniaa
open Go.RowKit

/-- Where a call began. -/
structure Env where
  M : Mem
  h : Home
  H : Hp
  w : World
  N : Nat
  hN : ∀ b v, h b = some v → b < N
/-- A state of the pure machine, and one of the model. -/
def Rel (E : Env) (σ : St) (a : Act) (w : World) : Prop := ∃ M h, Step E.M E.h E.H E.w M h σ.H w ∧ TmOk M h σ.tm a.tmps ∧ a.defers = []
def St.put (σ : St) (dst : Option Tmp) (pv : PV) : St := match dst with | some d => ⟨σ.tm.set d pv, σ.H⟩ | none => σ
theorem TmOk.put {M : Mem} {h : Home} {σ : St} {a : Act} (t : TmOk M h σ.tm a.tmps) {pv : PV} {v : Value} (r : VR M h pv v) (dst : Option Tmp) : TmOk M h (σ.put dst pv).tm (a.put dst v).tmps := by
  cases dst with
  | none => exact t
  | some d =>
    refine ⟨by simp [St.put, Act.put, t.size], fun i p u h1 h2 => ?_⟩
    simp only [St.put, Act.put] at h1 h2
    by_cases e : d = i
    · subst e
      have hd : d < σ.tm.length := by have := (List.getElem?_eq_some_iff.1 h1).1; simpa using this
      rw [List.getElem?_set_self hd] at h1
      rw [Array.getElem?_setIfInBounds_self_of_lt (by rw [t.size]; exact hd)] at h2
      cases h1
      cases h2
      exact r
    · rw [List.getElem?_set_ne e] at h1
      rw [Array.getElem?_setIfInBounds_ne e] at h2
      exact t.vr i p u h1 h2
theorem St.put_H (σ : St) (dst : Option Tmp) (pv : PV) : (σ.put dst pv).H = σ.H := by cases dst <;> rfl
theorem Act.put_defers' (a : Act) (dst : Option Tmp) (v : Value) : (a.put dst v).defers = a.defers := by cases dst <;> rfl
def pyielded (ops : Array Oper) (tm : List PV) (j : Nat) : Option Bool :=
  match ((ops[j]?).bind (·.dst)).bind (tm[·]?) with
  | some (.val (.bool b)) => some b
  | _ => none
def pwanted (ops : Array Oper) (tm : List PV) (g : Option (Nat × Bool)) : Bool :=
  match g with
  | none => true
  | some (j, want) => pyielded ops tm j == some want
theorem yielded_eq {M : Mem} {h : Home} {tm : List PV} {a : Act} (t : TmOk M h tm a.tmps) (ops : Array Oper) (j : Nat) : yielded ops a.tmps j = pyielded ops tm j := by
  unfold yielded pyielded
  cases hd : (ops[j]?).bind (·.dst) with
  | none => rfl
  | some d =>
    simp only [Option.bind_some]
    cases hp : tm[d]? with
    | none =>
      have : a.tmps[d]? = none := Array.getElem?_eq_none (by rw [t.size]; exact List.getElem?_eq_none_iff.1 hp)
      rw [this]
    | some pv =>
      have hlt : d < a.tmps.size := by rw [t.size]; exact (List.getElem?_eq_some_iff.1 hp).1
      have hv : a.tmps[d]? = some a.tmps[d] := Array.getElem?_eq_getElem hlt
      rw [hv]
      have r := t.vr d pv _ hp hv
      generalize a.tmps[d] = v at r
      cases r with
      | val => cases v <;> rfl
      | _ => rfl
theorem wanted_eq {M : Mem} {h : Home} {tm : List PV} {a : Act} (t : TmOk M h tm a.tmps) (ops : Array Oper) (o : Oper) : Region.wanted o (yielded ops a.tmps) = pwanted ops tm o.guard := by
  unfold Region.wanted pwanted
  cases o.guard with
  | none => rfl
  | some g => obtain ⟨j, want⟩ := g; simp only [yielded_eq t]
theorem Rel.skip {E : Env} {σ : St} {a : Act} {w : World} (r : Rel E σ a w) (dst : Option Tmp) : Rel E (σ.put dst (.val undef)) (a.put dst undef) w := by
  obtain ⟨M, h, s, t, d⟩ := r
  exact ⟨M, h, by rw [St.put_H]; exact s, t.put undef_vr dst, by rw [Act.put_defers']; exact d⟩
/-- One operation behind another one. -/
def pops (P : Program) (T : Tys) (md : Bool) (ops : Array Oper) (K : St → Prop) : List Oper → St → Prop
  | [], σ => K σ
  | o :: rest, σ => if pwanted ops σ.tm o.guard then pop P T md true o σ (fun pv σ' => pops P T md ops K rest (σ'.put o.dst pv)) else pops P T md ops K rest (σ.put o.dst (.val undef))
section
variable {P : Program} {T : Tys} {E : Env}
theorem pop_rel (hT : TysOk P T) (hE : elemsOk P T) {md cm : Bool} {σ : St} {a : Act} {w : World} (r : Rel E σ a w) {o : Oper} {K : PV → St → Prop} (hk : pop P T md cm o σ K) {next : Act → World → Prop} {Q : Exit → Act → World → Prop}
    (hn : ∀ pv σ' v w', K pv σ' → (cm = false → extOp o.op = true → Ext w w') → Rel E (σ'.put o.dst pv) (a.put o.dst v) w' → next (a.put o.dst v) w') : o.wp P a w next Q := by
  obtain ⟨M, h, s, t, d⟩ := r
  refine pop_ok hT hE md cm s.inv t o hk fun pv v M' h' σ' w' h1 h2 _ h3 h4 h5 => hn pv σ' v w' h1 h2 ⟨M', h', ?_, ?_, by rw [Act.put_defers']; exact d⟩
  · rw [St.put_H]; exact s.trans h3
  · exact TmOk.put (σ := σ') (a := a) h4 h5 o.dst
theorem pops_ok (hT : TysOk P T) (hE : elemsOk P T) {md : Bool} (ops : Array Oper) {K : St → Prop} {Q : Exit → Act → World → Prop} (hq : ∀ σ' a' w', K σ' → Rel E σ' a' w' → Q .normal a' w') :
    ∀ (l : List Oper) (σ : St) (a : Act) (w : World), pops P T md ops K l σ → Rel E σ a w → wpList P ops Q l a w
  | [], σ, a, w, hk, r => hq σ a w hk r
  | o :: rest, σ, a, w, hk, r => by
    have hw := r.elim fun M q => q.elim fun h q => wanted_eq q.2.1 ops o
    simp only [pops] at hk
    simp only [wpList, hw]
    split at hk
    · rename_i hp
      rw [if_pos hp]
      exact .inl (pop_rel hT hE r hk fun pv σ' v w' h1 _ h2 => pops_ok hT hE ops hq rest _ _ w' h1 h2)
    · rename_i hp
      rw [if_neg hp]
      exact pops_ok hT hE ops hq rest _ _ w hk (r.skip o.dst)
end

def kindAt (ops : Array Oper) (i : Nat) : Nat := match ops[i]? with | some o => kindOp o.op | none => 3
/-- Whether one operation waits for another one, by whatever road. -/
def waits (ops : Array Oper) (i : Nat) : Nat → Nat → Bool
  | 0, _ => false
  | n + 1, j => ((ops[j]?).map fun o => o.after.any fun e => Region.binds .any e && (e.on == i || waits ops i n e.on)).getD false
/-- What is listed has all that it waits for listed. -/
def ClosedL (ops : Array Oper) (listed : Array Bool) : Prop := ∀ k o, ops[k]? = some o → listed.getD k false = true → ∀ e ∈ o.after, Region.binds .any e = true → listed.getD e.on false = true
theorem getD_ft {l : Array Bool} {i : Nat} (h : l.getD i true = false) (h' : l.getD i false = true) : False := by
  rcases Nat.lt_or_ge i l.size with q | q
  · simp [q] at h h'; rw [h] at h'; cases h'
  · simp [Array.getElem?_eq_none q] at h'
theorem waits_no {ops : Array Oper} {i : Nat} {listed : Array Bool} (hc : ClosedL ops listed) (hi : listed.getD i true = false) : ∀ (n j : Nat), waits ops i n j = true → (∃ o, ops[j]? = some o ∧ ∀ e ∈ o.after, Region.binds .any e = true → listed.getD e.on false = true) → False
  | 0, _, h, _ => by cases h
  | n + 1, j, h, ⟨o, ho, ha⟩ => by
    simp only [waits, ho, Option.map_some, Option.getD_some] at h
    rw [Array.any_eq_true] at h
    obtain ⟨m, hm, q⟩ := h
    simp only [Bool.and_eq_true, Bool.or_eq_true, beq_iff_eq] at q
    have hl := ha _ (Array.getElem_mem hm) q.1
    rcases q.2 with q2 | q2
    · rw [q2] at hl; exact getD_ft hi hl
    · refine waits_no hc hi n _ q2 ?_
      generalize (o.after[m]).on = k at hl q2
      cases n with
      | zero => cases q2
      | succ n =>
        cases hk : ops[k]? with
        | none => simp [waits, hk] at q2
        | some o' => exact ⟨o', rfl, hc k o' hk hl⟩
theorem ClosedL.set {ops : Array Oper} {listed : Array Bool} (hc : ClosedL ops listed) {i : Nat} (hi : i ∈ Region.ready .any ops listed) : ClosedL ops (listed.setIfInBounds i true) := fun k o hk hl e he hb => by
  refine getD_set_true ?_
  by_cases h : i = k
  · subst h
    obtain ⟨_, o', ho', ha⟩ := mem_ready.1 hi
    rw [hk] at ho'
    cases ho'
    exact ha e he hb
  · refine hc k o hk ?_ e he hb
    rw [getD_set_ne false h] at hl
    exact hl
theorem ClosedL.start (ops : Array Oper) (n : Nat) : ClosedL ops (Array.replicate n false) := fun k o _ hl => by
  exfalso
  rcases Nat.lt_or_ge k n with q | q
  · simp [q] at hl
  · simp [q] at hl
/-- Whether operations may be taken in this order, whatever order the model draws. -/
def ordOk (ops : Array Oper) : List Nat → Array Bool → Bool
  | [], listed => Region.ready .any ops listed == []
  | i :: rest, listed =>
    (Region.ready .any ops listed).contains i &&
    (if kindAt ops i ≤ 1 then Region.free .any ops listed i && (kindAt ops i == 0 || (List.range ops.size).all fun j => listed.getD j true || j == i || kindAt ops j ≤ 2 || waits ops i 6 j)
     else Region.ready .any ops listed == [i]) && ordOk ops rest (listed.setIfInBounds i true)
def pany (P : Program) (T : Tys) (md : Bool) (ops : Array Oper) (K : St → Prop) : List Nat → St → Prop
  | [], σ => K σ
  | i :: rest, σ => match ops[i]? with
    | none => False
    | some o => if pwanted ops σ.tm o.guard then
        (if kindOp o.op ≤ 1 then py P T σ.tm σ.H o.op o.type fun pv => pany P T md ops K rest (σ.put o.dst pv) else pop P T md false o σ fun pv σ' => pany P T md ops K rest (σ'.put o.dst pv))
      else pany P T md ops K rest (σ.put o.dst (.val undef))
section
variable {P : Program} {ops : Array Oper} {Q : Exit → Act → World → Prop}
/-- Whatever order is drawn, and what leaves all that was there does so. -/
def wpE (P : Program) (ops : Array Oper) (Q : Exit → Act → World → Prop) : Nat → Array Bool → Act → World → Prop
  | 0, listed, a, w => Region.ready .any ops listed = [] ∧ Q .normal a w
  | fuel + 1, listed, a, w =>
    (Region.ready .any ops listed = [] → Q .normal a w) ∧
    ∀ i ∈ Region.ready .any ops listed, wpOp P ops Q i (fun a' w' => (kindAt ops i ≤ 2 → Ext w w') ∧ wpE P ops Q fuel (listed.setIfInBounds i true) a' w') a w
theorem wpAny_of_E : ∀ (fuel : Nat) (listed : Array Bool) (a : Act) (w : World), wpE P ops Q fuel listed a w → wpAny P .any ops Q fuel listed a w
  | 0, _, _, _, h => h
  | fuel + 1, _, _, _, h => ⟨h.1, fun i hi => wpOp_mono (fun a' w' h' => wpAny_of_E fuel _ a' w' h'.2) (h.2 i hi)⟩
theorem YieldsIf.mono' {S S' : World → Prop} {o : Oper} {v : Value} {a : Act} (hy : YieldsIf P ops S o v a) (h : ∀ w, S' w → S w) : YieldsIf P ops S' o v a := hy.imp (fun ⟨a, b⟩ => ⟨a, fun w hw => b w (h w hw)⟩) id
theorem wpE_first {i : Nat} {oi : Oper} {v : Value} (hi : ops[i]? = some oi) (hsel : ∀ (j : Nat) (o : Oper) cs b, ops[j]? = some o → o.op ≠ .select cs b) (hpan : ∀ c a w, Q (.panic c) a w → False) (b : Bool)
    : ∀ (fuel : Nat) (listed : Array Bool) (a : Act) (w : World),
      (∀ j oj, ops[j]? = some oj → j ≠ i → listed.getD j true = false → ((∀ e ∈ oj.after, Region.binds .any e = true → e.on ≠ i) → oi.apart ops oj = true) ∧ (b = true → waits ops i 6 j = false → kindAt ops j ≤ 2)) →
      ClosedL ops listed → kindAt ops i ≤ 2 → i ∈ Region.ready .any ops listed → YieldsIf P ops (fun w' => b = true → Ext w w') oi v a →
      wpE P ops Q fuel (listed.setIfInBounds i true) (a.put oi.dst v) w → wpE P ops Q (fuel + 1) listed a w := by
  intro fuel
  induction fuel with
  | zero =>
    intro listed a w _ _ _ hr hy H
    refine ⟨fun h => (by rw [h] at hr; cases hr), fun j hj => ?_⟩
    by_cases hji : j = i
    · subst hji; exact hy.wpOp hi (fun _ => Ext.refl w) ⟨fun _ => Ext.refl w, H⟩
    · have := ready_mono hj hji
      rw [H.1] at this
      cases this
  | succ fuel ih =>
    intro listed a w hfree hcl hki hr hy H
    refine ⟨fun h => (by rw [h] at hr; cases hr), fun j hj => ?_⟩
    by_cases hji : j = i
    · subst hji; exact hy.wpOp hi (fun _ => Ext.refl w) ⟨fun _ => Ext.refl w, H⟩
    · have h1 := H.2 j (ready_mono hj hji)
      obtain ⟨hjun, oj, hoj, hall⟩ := mem_ready.1 hj
      have hnot : ∀ e ∈ oj.after, Region.binds .any e = true → e.on ≠ i := fun e he hb heq => by
        have h1 := hall e he hb
        have h0 := (mem_ready.1 hr).1
        rw [heq] at h1
        rcases Nat.lt_or_ge i listed.size with h' | h'
        · simp [h'] at h0 h1; rw [h0] at h1; cases h1
        · simp [Array.getElem?_eq_none h'] at h1
      have hap := hfree j oj hoj hji hjun
      have hnw : waits ops i 6 j = false := by
        cases hq : waits ops i 6 j with
        | false => rfl
        | true => exact (waits_no hcl (mem_ready.1 hr).1 _ _ hq ⟨oj, hoj, hall⟩).elim
      have h2 := wpOp_putIf hoj (hap.1 hnot) (fun cs b => hsel i oi cs b hi) (fun cs b => hsel j oj cs b hoj) (fun c a w q => (hpan _ _ _ q).elim) hy h1
      have hfree' : ∀ k ok, ops[k]? = some ok → k ≠ i → (listed.setIfInBounds j true).getD k true = false →
          ((∀ e ∈ ok.after, Region.binds .any e = true → e.on ≠ i) → oi.apart ops ok = true) ∧ (b = true → waits ops i 6 k = false → kindAt ops k ≤ 2) := fun k ok hk hki hun => by
        refine hfree k ok hk hki ?_
        by_cases hjk : j = k
        · subst hjk; exact hjun
        · rw [getD_set_ne true hjk] at hun; exact hun
      refine wpOp_mono (fun a' w' h3 => ⟨h3.2.1, ih (listed.setIfInBounds j true) a' w' hfree' (hcl.set hj) hki (ready_mono hr (Ne.symm hji)) (YieldsIf.mono' (P := P) (ops := ops) (o := oi) (a := a') h3.1 fun w'' q hb => (h3.2.1 (hap.2 hb hnw)).trans (q hb)) ?_⟩) h2
      rw [Array.setIfInBounds_comm _ _ hji]
      exact h3.2.2
end
section
variable {P : Program} {T : Tys} {E : Env}
theorem noSelect_all {ops : Array Oper} (h : Region.noSelect ops = true) : ∀ (j : Nat) (o : Oper) cs b, ops[j]? = some o → o.op ≠ .select cs b := Region.noSelect_spec h
theorem ready_lt {ops : Array Oper} {listed : Array Bool} {i : Nat} (h : i ∈ Region.ready .any ops listed) : ∃ o, ops[i]? = some o := by
  obtain ⟨_, o, ho, _⟩ := mem_ready.1 h
  exact ⟨o, ho⟩
theorem pany_ok (hT : TysOk P T) (hE : elemsOk P T) {md : Bool} (ops : Array Oper) (hs : Region.noSelect ops = true) {K : St → Prop} {Q : Exit → Act → World → Prop} (hpan : ∀ c a w, Q (.panic c) a w → False) (hq : ∀ σ' a' w', K σ' → Rel E σ' a' w' → Q .normal a' w') :
    ∀ (ord : List Nat) (fuel : Nat) (listed : Array Bool) (σ : St) (a : Act) (w : World), ord.length ≤ fuel → ordOk ops ord listed = true → ClosedL ops listed → pany P T md ops K ord σ → Rel E σ a w → wpE P ops Q fuel listed a w
  | [], fuel, listed, σ, a, w, _, ho, _, hk, r => by
    have hr : Region.ready .any ops listed = [] := by simpa [ordOk] using ho
    cases fuel with
    | zero => exact ⟨hr, hq σ a w hk r⟩
    | succ fuel => exact ⟨fun _ => hq σ a w hk r, by rw [hr]; simp⟩
  | i :: rest, 0, _, _, _, _, hl, _, _, _, _ => by simp at hl
  | i :: rest, fuel + 1, listed, σ, a, w, hl, ho, hcl, hk, r => by
    simp only [ordOk, Bool.and_eq_true] at ho
    obtain ⟨⟨h1, h2⟩, h3⟩ := ho
    have hi : i ∈ Region.ready .any ops listed := by simpa using h1
    obtain ⟨o, hio⟩ := ready_lt hi
    have hw := r.elim fun M q => q.elim fun h q => wanted_eq q.2.1 ops o
    have hka : kindAt ops i = kindOp o.op := by simp [kindAt, hio]
    simp only [pany, hio] at hk
    rw [hka] at h2
    have next := pany_ok hT hE (md := md) ops hs hpan hq rest fuel (listed.setIfInBounds i true)
    have hl' : rest.length ≤ fuel := by simpa using hl
    by_cases hkd : kindOp o.op ≤ 1
    · rw [if_pos hkd, Bool.and_eq_true] at h2
      have hfree := Region.free_spec hio h2.1
      have hside : ∀ j oj, ops[j]? = some oj → j ≠ i → listed.getD j true = false → ((∀ e ∈ oj.after, Region.binds .any e = true → e.on ≠ i) → o.apart ops oj = true) ∧ ((kindOp o.op == 1) = true → waits ops i 6 j = false → kindAt ops j ≤ 2) := fun j oj hj hji hun => by
        refine ⟨fun hno => hfree j oj hj hji hun hno, fun hk1 hnw => ?_⟩
        have hk1' : kindOp o.op = 1 := by simpa using hk1
        have h22 := h2.2
        simp only [hk1', Bool.or_eq_true, beq_iff_eq, List.all_eq_true, List.mem_range] at h22
        rcases h22 with q | q
        · cases q
        · have hjl : j < ops.size := (Array.getElem?_eq_some_iff.1 hj).1
          rcases q j hjl with ((q | q) | q) | q
          · rw [hun] at q; cases q
          · exact absurd q hji
          · simpa using q
          · rw [hnw] at q; cases q
      have hk2 : kindAt ops i ≤ 2 := by rw [hka]; omega
      by_cases hp : pwanted ops σ.tm o.guard = true
      · rw [if_pos hp, if_pos hkd] at hk
        obtain ⟨M, h, s, t, d⟩ := r
        obtain ⟨pv, v, g1, g2, g3⟩ := py_ok hT hE s.inv t o hk
        refine wpE_first (v := v) hio (noSelect_all hs) hpan (kindOp o.op == 1) fuel listed a w hside hcl hk2 hi (.inl ⟨by rw [hw]; exact hp, fun w' hx => g3 w' fun q => hx (by simpa using q)⟩) ?_
        exact next _ _ w hl' h3 (hcl.set hi) g1 ⟨M, h, by rw [St.put_H]; exact s, t.put g2 o.dst, by rw [Act.put_defers']; exact d⟩
      · rw [if_neg hp] at hk
        refine wpE_first (v := undef) hio (noSelect_all hs) hpan (kindOp o.op == 1) fuel listed a w hside hcl hk2 hi (.inr ⟨by rw [hw]; simpa using hp, rfl⟩) ?_
        exact next _ _ w hl' h3 (hcl.set hi) hk (r.skip o.dst)
    · rw [if_neg hkd] at h2
      have hrd : Region.ready .any ops listed = [i] := by simpa using h2
      refine ⟨(fun h0 => by rw [hrd] at h0; cases h0), fun j hj => ?_⟩
      rw [hrd, List.mem_singleton] at hj
      subst hj
      unfold wpOp
      simp only [hio, hw]
      by_cases hp : pwanted ops σ.tm o.guard = true
      · rw [if_pos hp, if_neg hkd] at hk
        rw [if_pos hp]
        refine .inl (pop_rel hT hE r hk fun pv σ' v w' g1 g2 g3 => ⟨fun hle => ?_, next _ _ w' hl' h3 (hcl.set hi) g1 g3⟩)
        rw [hka] at hle
        refine g2 rfl ?_
        cases hx : extOp o.op with
        | true => rfl
        | false =>
          exfalso
          have : kindOp o.op ≤ 1 ∨ kindOp o.op = 3 := by
            unfold kindOp
            split <;> first | (left; omega) | (rw [hx]; right; rfl)
          omega
      · rw [if_neg hp] at hk
        rw [if_neg hp]
        exact ⟨fun _ => Ext.refl w, next _ _ w hl' h3 (hcl.set hi) hk (r.skip o.dst)⟩
end
end Go.Proofs.Ytcbknmnlgoeniaa
/- The pure machine: code and calls. -/
namespace Go.Proofs.Ytcbknmnlgoeniaa
open Go.RowKit

def QL (E : Env) (Q : Exit → St → Prop) : Exit → Act → World → Prop
  | .panic _, _, _ => False
  | .outgrown, _, _ => False
  | e, a, w => ∃ σ, Q e σ ∧ Rel E σ a w
/-- What the code does, on the pure machine. -/
def PWp (P : Program) (N : Nat) (c : Code) (Q : Exit → St → Prop) (σ : St) : Prop := ∀ (E : Env) a w, E.N = N → Rel E σ a w → c.wp P (QL E Q) a w
/-- The program, its types, and the order rule. -/
structure Ok (P : Program) (T : Tys) : Prop where
  ty : TysOk P T
  el : elemsOk P T
  mix : P.follows .mixedOrders = true
section
variable {P : Program} {T : Tys} {Q : Exit → St → Prop} {σ : St} {N : Nat}
theorem PWp.skip (h : Q .normal σ) : PWp P N .skip Q σ := fun _ _ _ _ r => wp_skip ⟨σ, h, r⟩
theorem PWp.ret (h : Q .ret σ) : PWp P N .ret Q σ := fun _ _ _ _ r => wp_ret ⟨σ, h, r⟩
theorem PWp.exit {id : Nat} (h : Q (.exit id) σ) : PWp P N (.exit id) Q σ := fun _ _ _ _ r => wp_exit ⟨σ, h, r⟩
def Exit.pthen (next : St → Prop) (Q : Exit → St → Prop) : Exit → St → Prop
  | .normal, σ => next σ
  | e, σ => Q e σ
def Exit.pblock (id : Nat) (Q : Exit → St → Prop) : Exit → St → Prop
  | .exit id', σ => if id' = id then Q .normal σ else Q (.exit id') σ
  | e, σ => Q e σ
theorem PWp.seq {x y : Code} (h : PWp P N x (Exit.pthen (PWp P N y Q) Q) σ) : PWp P N (.seq x y) Q σ := fun E a w hN r => by
  refine wp_seq (Code.wp_mono ?_ (h E a w hN r))
  intro e a' w' q
  cases e with
  | normal => obtain ⟨σ', h1, h2⟩ := q; exact h1 E a' w' hN h2
  | panic _ => exact q.elim
  | outgrown => exact q.elim
  | exit _ => exact q
  | goto _ => exact q
  | ret => exact q
theorem PWp.block {id : Nat} {c : Code} (h : PWp P N c (Exit.pblock id Q) σ) : PWp P N (.block id c) Q σ := fun E a w hN r => by
  refine wp_block (Code.wp_mono ?_ (h E a w hN r))
  intro e a' w' q
  cases e with
  | exit id' =>
    obtain ⟨σ', h1, h2⟩ := q
    simp only [Exit.pblock] at h1
    simp only [Exit.inBlock]
    split at h1
    · rename_i e; rw [if_pos e]; exact ⟨σ', h1, h2⟩
    · rename_i e; rw [if_neg e]; exact ⟨σ', h1, h2⟩
  | panic _ => exact q.elim
  | outgrown => exact q.elim
  | normal => exact q
  | goto _ => exact q
  | ret => exact q
theorem PWp.cond {c : Operand} {x y : Code} {b : Bool} (hc : ev σ.tm c = .val (.bool b)) (h1 : b = true → PWp P N x Q σ) (h2 : b = false → PWp P N y Q σ) : PWp P N (.cond c x y) Q σ := fun E a w hN r => by
  have hv : a.eval c = .bool b := by
    obtain ⟨M, h, s, t, d⟩ := r
    have := ev_vr t c
    rw [hc] at this
    exact vr_val this
  cases b with
  | true => exact wp_cond_true hv (h1 rfl E a w hN r)
  | false => exact wp_cond_false hv (h2 rfl E a w hN r)
theorem PWp.region (ok : Ok P T) (md : Bool) {id : Nat} {l : List Oper} (h : pops P T md l.toArray (Q .normal) l σ) : PWp P N (.region id l.toArray false) Q σ := fun _ _ _ _ r =>
  wp_region_lit (pops_ok ok.ty ok.el _ (fun σ' _ _ h1 h2 => ⟨σ', h1, h2⟩) l σ _ _ h r)
theorem PWp.draw (ok : Ok P T) (md : Bool) {id : Nat} {ops : Array Oper} (ord : List Nat) (ho : (Region.noSelect ops && decide (ord.length ≤ ops.size) && ordOk ops ord (Array.replicate ops.size false)) = true) (h : pany P T md ops (Q .normal) ord σ) : PWp P N (.region id ops true) Q σ := fun E a w _ r => by
  simp only [Bool.and_eq_true, decide_eq_true_eq] at ho
  refine wp_region_any ok.mix (wpAny_of_E _ _ _ _ ?_)
  refine pany_ok ok.ty ok.el (md := md) ops ho.1.1 (fun _ _ _ q => q) (fun σ' _ _ h1 h2 => ⟨σ', h1, h2⟩) ord ops.size _ σ a _ ho.1.2 ho.2 (ClosedL.start _ _) h ?_
  obtain ⟨M, hh, s, t, d⟩ := r
  refine ⟨M, hh, s.trans (Step.ext s.inv ?_), t, d⟩
  exact (Ext.refl w).drew
/-- A loop: what holds at the head of every round, with a number that goes down. -/
theorem PWp.loop {c : Code} (I : Nat → St → Prop) (n : Nat) (h0 : I n σ) (h : ∀ g σ, I g σ → PWp P N c (Exit.pthen (fun σ' => ∃ g', g' < g ∧ I g' σ') Q) σ) : PWp P N (.loop c) Q σ := fun E a w hN r => by
  refine wp_loop_ghost (fun g a w => ∃ σ, I g σ ∧ Rel E σ a w) n ⟨σ, h0, r⟩ fun g a w ⟨σ', h1, h2⟩ => Code.wp_mono ?_ (h g σ' h1 E a w hN h2)
  intro e a' w' q
  cases e with
  | normal => obtain ⟨σ'', ⟨g', h3, h4⟩, h5⟩ := q; exact ⟨g', h3, σ'', h4, h5⟩
  | panic _ => exact q.elim
  | outgrown => exact q.elim
  | exit _ => exact q
  | goto _ => exact q
  | ret => exact q
theorem PWp.mono {c : Code} {Q' : Exit → St → Prop} (h : PWp P N c Q σ) (hq : ∀ e σ, Q e σ → Q' e σ) : PWp P N c Q' σ := fun E a w hN r => by
  refine Code.wp_mono ?_ (h E a w hN r)
  intro e a' w' q
  cases e with
  | panic _ => exact q
  | outgrown => exact q
  | _ => obtain ⟨σ', h1, h2⟩ := q; exact ⟨σ', hq _ _ h1, h2⟩
/-- Blocks may be given up. -/
theorem PWp.drop {c : Code} (b : Nat) (h : PWp P N c Q ⟨σ.tm, σ.H.set b none⟩) : PWp P N c Q σ := fun E a w hN ⟨M, hh, s, t, d⟩ =>
  h E a w hN ⟨M, hh, s.trans ⟨.refl _, .refl _, s.inv.kill b, .refl, fun _ q => .inl q.kill, fun _ _ _ q => .inl q⟩, t, d⟩
/-- A row of one's own may be read from now on, and no more written. -/
theorem PWp.freeze {c : Code} (b : Nat) {e : TypeId} {sz : Nat} {es : List (List PV)} (hH : σ.H[b]? = some (some (.row e sz es))) (hc : ∀ row ∈ es, row.all cloC = true) (h : PWp P N c Q (σ.thaw b sz es)) : PWp P N c Q σ := fun E a w hN ⟨M, hh, s, t, d⟩ => by
  obtain ⟨v, q1, q2⟩ := s.inv.blk b _ hH
  obtain ⟨M', s1, s2, _⟩ := freeze_ok s.inv hH q1 hc t
  exact h E a w hN ⟨M', hh, s.trans s1, s2, d⟩
end
mutual
def idl (n : Nat) : PV → Bool
  | .val _ => true
  | .sl _ _ => true
  | .agg fs => idlL n fs
  | .tup fs => idlL n fs
  | .ptr b _ => decide (b < n)
  | .own b => decide (b < n)
  | .eptr _ _ => true
  | .optr b _ _ _ => decide (b < n)
  | .clo _ caps => idlL n caps
def idlL (n : Nat) : List PV → Bool
  | [] => true
  | p :: ps => idl n p && idlL n ps
end
theorem idlL_get {n : Nat} : ∀ {l : List PV}, idlL n l = true → ∀ (i : Nat) (p : PV), l[i]? = some p → idl n p = true
  | [], _, i, p, h => by simp at h
  | q :: l, hl, 0, p, h => by simp at h; subst h; rw [idlL, Bool.and_eq_true] at hl; exact hl.1
  | q :: l, hl, i + 1, p, h => by rw [idlL, Bool.and_eq_true] at hl; exact idlL_get hl.2 i p (by simpa using h)
def cutH (h : Home) (n : Nat) : Home := fun b => if b < n then h b else none
theorem cutH_lt {h : Home} {n b : Nat} {v : Value} (hb : b < n) (q : h b = some v) : cutH h n b = some v := by unfold cutH; rw [if_pos hb]; exact q
theorem cutH_le {h : Home} {n : Nat} : HLe (cutH h n) h := fun b v q => by unfold cutH at q; split at q; exact q; cases q
theorem VR.cut {M : Mem} {h : Home} {pv : PV} {v : Value} (r : VR M h pv v) {n : Nat} : idl n pv = true → VR M (cutH h n) pv v := by
  induction r with
  | val x => intro _; exact .val x
  | sl0 sz o c => intro _; exact .sl0 sz o c
  | sl sz es b off cap f h1 h2 h3 h4 h5 h6 => intro _; exact .sl sz es b off cap f h1 h2 h3 h4 h5 h6
  | agg fs vs h1 h2 ih => intro q; exact .agg _ _ h1 fun i pv v a b => ih i pv v a b (idlL_get q i pv a)
  | tup fs vs h1 h2 ih => intro q; exact .tup _ _ h1 fun i pv v a b => ih i pv v a b (idlL_get q i pv a)
  | ptr b o k hb => intro q; exact .ptr _ o k (cutH_lt (by simpa [idl] using q) hb)
  | own b o n c hb => intro q; exact .own _ o n c (cutH_lt (by simpa [idl] using q) hb)
  | eptr cs o b off f h1 h2 => intro _; exact .eptr cs o b off f h1 h2
  | optr b sz i o g n c hb => intro q; exact .optr _ sz i o g n c (cutH_lt (by simpa [idl] using q) hb)
  | clo f caps vs h1 h2 ih => intro q; exact .clo _ _ _ h1 fun i pv v a b => ih i pv v a b (idlL_get q i pv a)
def idlB (n : Nat) : Option Blk → Prop
  | some (.box cs) => idlL n cs = true
  | some (.row _ _ es) => ∀ row ∈ es, idlL n row = true
  | none => True
theorem BR.cut {M : Mem} {h : Home} {w : World} {v : Value} {B : Blk} (r : BR M h w v B) {n : Nat} (hi : idlB n (some B)) : BR M (cutH h n) w v B := by
  cases B with
  | box cs =>
    obtain ⟨k, us, t, p1, p2, p3, p4, p5⟩ := r
    exact ⟨k, us, t, p1, p2, p3, p4, fun j pv u a d => (p5 j pv u a d).cut (idlL_get hi j pv a)⟩
  | row e sz es =>
    obtain ⟨p0, us, p1, p2, p3, p4⟩ := r
    exact ⟨p0, us, p1, p2, p3, fun i j row pv u a d f => (p4 i j row pv u a d f).cut (idlL_get (hi row (List.mem_of_getElem? a)) j pv d)⟩
/-- A frame of which some slots are known. -/
def matchP : List (Option PV) → List PV → Prop
  | [], [] => True
  | some p :: ps, x :: xs => x = p ∧ matchP ps xs
  | none :: ps, _ :: xs => matchP ps xs
  | _, _ => False
def instP (ρ : Nat → Value) : Nat → List (Option PV) → List PV
  | _, [] => []
  | i, some p :: ps => p :: instP ρ (i + 1) ps
  | i, none :: ps => .val (ρ i) :: instP ρ (i + 1) ps
def patIdl (n : Nat) : List (Option PV) → Bool
  | [] => true
  | some p :: ps => idl n p && patIdl n ps
  | none :: ps => patIdl n ps
def blkIdl (n : Nat) : Hp → Prop
  | [] => True
  | B :: bs => idlB n B ∧ blkIdl n bs
def keepH : Hp → Hp → Prop
  | [], _ => True
  | none :: bs, _ :: cs => keepH bs cs
  | some B :: bs, C :: cs => C = some B ∧ keepH bs cs
  | _ :: _, [] => False
theorem blkIdl_get {n : Nat} : ∀ {H : Hp}, blkIdl n H → ∀ (b : Nat) (B : Option Blk), H[b]? = some B → idlB n B
  | [], _, b, B, h => by simp at h
  | C :: H, hk, 0, B, h => by simp at h; subst h; exact hk.1
  | C :: H, hk, b + 1, B, h => blkIdl_get hk.2 b B (by simpa using h)
theorem keepH_get : ∀ {H H' : Hp}, keepH H H' → ∀ (b : Nat) (B : Blk), H[b]? = some (some B) → H'[b]? = some (some B)
  | [], _, _, b, B, h => by simp at h
  | none :: bs, c :: cs, hk, 0, B, h => by simp at h
  | none :: bs, c :: cs, hk, b + 1, B, h => by simpa using keepH_get (H := bs) (H' := cs) hk b B (by simpa using h)
  | some C :: bs, c :: cs, hk, 0, B, h => by simp at h; subst h; simp [hk.1]
  | some C :: bs, c :: cs, hk, b + 1, B, h => by simpa using keepH_get (H := bs) (H' := cs) hk.2 b B (by simpa using h)
  | none :: _, [], hk, _, _, _ => hk.elim
  | some _ :: _, [], hk, _, _, _ => hk.elim
/-- The values in the slots that are not known. -/
theorem matchP_inst {M : Mem} {h : Home} {n : Nat} : ∀ (pat : List (Option PV)) (tm : List PV) (vs : List Value) (k : Nat), matchP pat tm → patIdl n pat = true → vs.length = tm.length → (∀ (i : Nat) (pv : PV) (v : Value), tm[i]? = some pv → vs[i]? = some v → VR M h pv v) →
    (instP (fun i => vs.getD (i - k) undef) k pat).length = vs.length ∧ ∀ (i : Nat) (pv : PV) (v : Value), (instP (fun i => vs.getD (i - k) undef) k pat)[i]? = some pv → vs[i]? = some v → VR M (cutH h n) pv v
  | [], [], vs, k, _, _, hl, _ => by
    have : vs = [] := List.eq_nil_of_length_eq_zero (by simpa using hl)
    subst this
    exact ⟨rfl, by simp⟩
  | some p :: ps, x :: xs, v :: vs, k, hm, hi, hl, hv => by
    obtain ⟨rfl, hm⟩ := hm
    rw [patIdl, Bool.and_eq_true] at hi
    obtain ⟨h1, h2⟩ := matchP_inst ps xs vs (k + 1) hm hi.2 (by simpa using hl) fun i pv u a b => hv (i + 1) pv u (by simpa using a) (by simpa using b)
    have e : ∀ k' l, (instP (fun i => (v :: vs).getD (i - k) undef) (k' + (k + 1)) l) = instP (fun i => vs.getD (i - (k + 1)) undef) (k' + (k + 1)) l := fun k' l => by
      induction l generalizing k' with
      | nil => rfl
      | cons q l ih =>
        have ih' := ih (k' + 1)
        rw [show k' + 1 + (k + 1) = k' + (k + 1) + 1 by omega] at ih'
        cases q with
        | none =>
          simp only [instP]
          rw [ih', show k' + (k + 1) - k = (k' + (k + 1) - (k + 1)) + 1 by omega]
          rfl
        | some q => simp only [instP]; rw [ih']
    have e0 := e 0 ps
    rw [Nat.zero_add] at e0
    simp only [instP, e0]
    refine ⟨by rw [List.length_cons, List.length_cons, h1], fun i pv u a b => ?_⟩
    cases i with
    | zero => simp at a b; subst a; subst b; exact (hv 0 _ _ rfl rfl).cut hi.1
    | succ i => exact h2 i pv u (by simpa using a) (by simpa using b)
  | none :: ps, x :: xs, v :: vs, k, hm, hi, hl, hv => by
    obtain ⟨h1, h2⟩ := matchP_inst ps xs vs (k + 1) hm hi (by simpa using hl) fun i pv u a b => hv (i + 1) pv u (by simpa using a) (by simpa using b)
    have e : ∀ k' l, (instP (fun i => (v :: vs).getD (i - k) undef) (k' + (k + 1)) l) = instP (fun i => vs.getD (i - (k + 1)) undef) (k' + (k + 1)) l := fun k' l => by
      induction l generalizing k' with
      | nil => rfl
      | cons q l ih =>
        have ih' := ih (k' + 1)
        rw [show k' + 1 + (k + 1) = k' + (k + 1) + 1 by omega] at ih'
        cases q with
        | none =>
          simp only [instP]
          rw [ih', show k' + (k + 1) - k = (k' + (k + 1) - (k + 1)) + 1 by omega]
          rfl
        | some q => simp only [instP]; rw [ih']
    have e0 := e 0 ps
    rw [Nat.zero_add] at e0
    simp only [instP, e0, Nat.sub_self]
    refine ⟨by rw [List.length_cons, List.length_cons, h1], fun i pv u a b => ?_⟩
    cases i with
    | zero => simp at a b; subst a; subst b; exact .val _
    | succ i => exact h2 i pv u (by simpa using a) (by simpa using b)
  | [], _ :: _, _, _, hm, _, _, _ => hm.elim
  | some _ :: _, [], _, _, hm, _, _, _ => hm.elim
  | none :: _, [], _, _, hm, _, _, _ => hm.elim
  | some _ :: _, _ :: _, [], _, _, _, hl, _ => by simp at hl
  | none :: _, _ :: _, [], _, _, _, hl, _ => by simp at hl
/-- A state that a pattern fits: what it does not name is forgotten. -/
def Fits (N : Nat) (pat : List (Option PV)) (H : Hp) (σ : St) : Prop := matchP pat σ.tm ∧ patIdl H.length pat = true ∧ N ≤ H.length ∧ keepH H σ.H ∧ blkIdl H.length H
theorem Fits.rel {E : Env} {pat : List (Option PV)} {H : Hp} {σ : St} {a : Act} {w : World} (f : Fits E.N pat H σ) (r : Rel E σ a w) : ∃ ρ, Rel E ⟨instP ρ 0 pat, H⟩ a w := by
  obtain ⟨f1, f2, f3, f4, f5⟩ := f
  obtain ⟨M, h, s, t, d⟩ := r
  obtain ⟨g1, g2⟩ := matchP_inst (M := M) (h := h) (n := H.length) pat σ.tm a.tmps.toList 0 f1 f2 (by simpa using t.size) fun i pv v x y => t.vr i pv v x (by simpa using y)
  refine ⟨_, M, cutH h H.length, ⟨s.mle, fun b v q => cutH_lt (Nat.lt_of_lt_of_le (E.hN b v q) f3) (s.hle b v q), ⟨s.inv.mem, s.inv.one, fun b B q => ?_, fun k q o => ?_, fun b b' B B' v v' k q1 q2 q3 q4 q5 q6 => ?_, fun b v q => ?_, s.inv.glob⟩, s.chg, fun k q => ?_, s.new⟩, ⟨by simpa using g1.symm, fun i pv v x y => g2 i pv v x (by simpa using y)⟩, d⟩
  · obtain ⟨v, e1, e2⟩ := s.inv.blk b B (keepH_get f4 b B q)
    exact ⟨v, cutH_lt (List.getElem?_eq_some_iff.1 q).1 e1, e2.cut (blkIdl_get f5 b _ q)⟩
  · obtain ⟨b, B, v, p1, p2, p3⟩ := q
    exact s.inv.sep k ⟨b, B, v, keepH_get f4 b B p1, cutH_le b v p2, p3⟩ o
  · exact s.inv.inj b b' B B' v v' k (keepH_get f4 b B q1) (keepH_get f4 b' B' q2) (cutH_le b v q3) (cutH_le b' v' q4) q5 q6
  · unfold cutH at q
    split at q
    · assumption
    · cases q
  · obtain ⟨b, B, v, p1, p2, p3⟩ := q
    exact s.sub k ⟨b, B, v, keepH_get f4 b B p1, cutH_le b v p2, p3⟩
/-- What is not named is forgotten. -/
theorem PWp.fit {P : Program} {N : Nat} {c : Code} {Q : Exit → St → Prop} {σ : St} (pat : List (Option PV)) (H : Hp) (f : Fits N pat H σ) (h : ∀ ρ, PWp P N c Q ⟨instP ρ 0 pat, H⟩) : PWp P N c Q σ := fun E a w hN r => by
  subst hN
  obtain ⟨ρ, r'⟩ := f.rel r
  exact h ρ E a w rfl r'
/-- A loop: at the head of every round a pattern fits the state. -/
theorem PWp.loopP {P : Program} {N : Nat} {c : Code} {Q : Exit → St → Prop} {σ : St} {α : Type} (S : α → List (Option PV) × Hp) (I : Nat → α → Prop) (n : Nat) (x : α) (h0 : I n x) (f0 : Fits N (S x).1 (S x).2 σ)
    (h : ∀ g x ρ, I g x → PWp P N c (Exit.pthen (fun σ' => ∃ g' x', g' < g ∧ I g' x' ∧ Fits N (S x').1 (S x').2 σ') Q) ⟨instP ρ 0 (S x).1, (S x).2⟩) : PWp P N (.loop c) Q σ := fun E a w hN r => by
  subst hN
  refine wp_loop_ghost (fun g a w => ∃ x, I g x ∧ ∃ ρ, Rel E ⟨instP ρ 0 (S x).1, (S x).2⟩ a w) n ⟨x, h0, f0.rel r⟩ fun g a w ⟨x', h1, ρ, h2⟩ => Code.wp_mono ?_ (h g x' ρ h1 E a w rfl h2)
  intro e a' w' q
  cases e with
  | normal => obtain ⟨σ'', ⟨g', x'', h3, h4, h5⟩, h6⟩ := q; exact ⟨g', h3, x'', h4, h5.rel h6⟩
  | panic _ => exact q.elim
  | outgrown => exact q.elim
  | exit _ => exact q
  | goto _ => exact q
  | ret => exact q
/-- The results of a function, out of its state. -/
def presults (T : Tys) (rs : List ResultVar) (σ : St) : Option (List PV) :=
  rs.mapM fun r => match r with
    | .tmp t => some (σ.tm.getD t (.val undef))
    | .cell a t => match pcells σ.H (σ.tm.getD a (.val undef)), T t with
      | some (cs, o), some i => match i.d with
        | .struct _ => if o + i.size ≤ cs.length then some (.agg ((cs.drop o).take i.size)) else none
        | .array _ _ _ => if o + i.size ≤ cs.length then some (.agg ((cs.drop o).take i.size)) else none
        | _ => cs[o]?
      | _, _ => none
def ptuple : List PV → PV
  | [p] => p
  | l => .tup l
theorem run_result1 {P : Program} {T : Tys} (hT : TysOk P T) {M : Mem} {h : Home} {σ : St} {w : World} {ts : Array Value} (I : Inv M h σ.H w) (ht : TmOk M h σ.tm ts) (r : ResultVar) {pv : PV}
    (hp : (match r with
    | .tmp t => some (σ.tm.getD t (.val undef))
    | .cell a t => match pcells σ.H (σ.tm.getD a (.val undef)), T t with
      | some (cs, o), some i => match i.d with
        | .struct _ => if o + i.size ≤ cs.length then some (.agg ((cs.drop o).take i.size)) else none
        | .array _ _ _ => if o + i.size ≤ cs.length then some (.agg ((cs.drop o).take i.size)) else none
        | _ => cs[o]?
      | _, _ => none) = some pv) :
    ∃ v, ((match r with | .tmp t => pure (ts.getD t undef) | .cell a t => do loadVar t (← asAddr (ts.getD a undef))) : Sem Value).run P w = .ok v w ∧ VR M h pv v := by
  have gd : ∀ t, VR M h (σ.tm.getD t (.val undef)) (ts.getD t undef) := fun t => ev_vr (a := ⟨ts, []⟩) ht (.tmp t)
  cases r with
  | tmp t =>
    simp only [Option.some.injEq] at hp
    subst hp
    exact ⟨_, rfl, gd t⟩
  | cell a t =>
    simp only at hp
    split at hp
    · rename_i cs o i e1 e2
      have hk : pload T t cs o (fun q => q = pv) := by
        refine ⟨i, e2, ?_⟩
        split at hp
        · rename_i hd
          rw [hd]
          split at hp
          · rename_i hl; exact ⟨hl, by simpa using hp⟩
          · cases hp
        · rename_i hd
          rw [hd]
          split at hp
          · rename_i hl; exact ⟨hl, by simpa using hp⟩
          · cases hp
        · rename_i h1 h2
          split
          · rename_i fs hd; exact absurd hd (h1 fs)
          · rename_i n e sz hd; exact absurd hd (h2 n e sz)
          · exact ⟨pv, hp, rfl⟩
      obtain ⟨pv', v, rfl, g2, g3⟩ := pload_ok hT I (gd a) e1 hk
      obtain ⟨k, base, hv, _⟩ := pcells_ok I (gd a) e1
      refine ⟨v, ?_, g2⟩
      have := g3 w (Ext.refl w)
      rw [hv] at this
      simp only [Instr.loadAt, Instr.sureAddr, Sem.run_bind, Sem.run_pure, Result.andThen_ok] at this
      simp only [hv, asAddr, Sem.run_bind, Sem.run_pure, Result.andThen_ok]
      exact this
    · cases hp
theorem run_results {P : Program} {T : Tys} (hT : TysOk P T) {M : Mem} {h : Home} {σ : St} {w : World} {ts : Array Value} (I : Inv M h σ.H w) (ht : TmOk M h σ.tm ts) : ∀ (rs : List ResultVar) {pvs : List PV}, presults T rs σ = some pvs →
    ∃ vs : List Value, (rs.mapM (fun r => (match r with | .tmp t => pure (ts.getD t undef) | .cell a t => do loadVar t (← asAddr (ts.getD a undef)) : Sem Value))).run P w = .ok vs w ∧ pvs.length = vs.length ∧ ∀ (i : Nat) (pv : PV) (v : Value), pvs[i]? = some pv → vs[i]? = some v → VR M h pv v
  | [], pvs, hp => by
    simp [presults] at hp
    subst hp
    exact ⟨[], by simp, rfl, by simp⟩
  | r :: rs, pvs, hp => by
    simp only [presults, List.mapM_cons, Option.pure_def, Option.bind_eq_bind, Option.bind_eq_some_iff] at hp
    obtain ⟨pv, h1, ps, h2, h3⟩ := hp
    cases h3
    obtain ⟨v, g1, g2⟩ := run_result1 hT I ht r h1
    obtain ⟨vs, g3, g4, g5⟩ := run_results hT I ht rs (pvs := ps) h2
    refine ⟨v :: vs, ?_, by simp [g4], fun i pv' v' a b => ?_⟩
    · simp only [List.mapM_cons, Sem.run_bind, g1, Result.andThen_ok, g3, Sem.run_pure]
    · cases i with
      | zero => simp at a b; subst a; subst b; exact g2
      | succ i => exact g5 i pv' v' (by simpa using a) (by simpa using b)
theorem results_ok {P : Program} {T : Tys} (hT : TysOk P T) {M : Mem} {h : Home} {σ : St} {w : World} {ts : Array Value} (I : Inv M h σ.H w) (ht : TmOk M h σ.tm ts) (fn : Func) {pvs : List PV} (hp : presults T fn.results.toList σ = some pvs) :
    ∃ v, (results fn ts).run P w = .ok v w ∧ VR M h (ptuple pvs) v := by
  obtain ⟨vs, g1, g2, g3⟩ := run_results hT I ht _ hp
  refine ⟨if h : vs.toArray.size = 1 then vs.toArray[0] else .tuple vs.toArray, ?_, ?_⟩
  · unfold results
    have : (fn.results.mapM (fun r => (match r with | .tmp t => pure (ts.getD t undef) | .cell a t => do loadVar t (← asAddr (ts.getD a undef)) : Sem Value))).run P w = .ok vs.toArray w := by
      rw [Array.mapM_eq_mapM_toList]
      simp only [Sem.run_map, g1, Result.andThen_ok]
    simp only [Sem.run_bind, Sem.run_pure]
    exact (congrArg (fun r : Result (Array Value) => r.andThen fun a w' => Result.ok (if h : a.size = 1 then a[0] else Value.tuple a) w') this).trans rfl
  · match pvs, vs, g2 with
    | [], [], _ => exact .tup _ _ rfl (by simp)
    | [p], [v], _ => exact g3 0 p v rfl rfl
    | p :: q :: l, v :: u :: l', hl =>
      rw [dif_neg (by simp)]
      exact .tup _ _ (by simpa using hl) fun i pv v a b => g3 i pv v a (by simpa using b)
/-- What a function's code must come to. -/
def PPost (T : Tys) (rs : List ResultVar) (R : PV → Hp → Prop) : Exit → St → Prop := fun e σ => (e = .normal ∨ e = .ret) ∧ ∃ pvs, presults T rs σ = some pvs ∧ R (ptuple pvs) σ.H
theorem ppost1 {T : Tys} {t : Tmp} {R : PV → Hp → Prop} {σ : St} (h : R (σ.tm.getD t (.val undef)) σ.H) : PPost T [.tmp t] R .ret σ := ⟨.inr rfl, _, rfl, h⟩
theorem ppost2 {T : Tys} {t u : Tmp} {R : PV → Hp → Prop} {σ : St} (h : R (.tup [σ.tm.getD t (.val undef), σ.tm.getD u (.val undef)]) σ.H) : PPost T [.tmp t, .tmp u] R .ret σ := ⟨.inr rfl, _, rfl, h⟩
theorem ppost3 {T : Tys} {t u v : Tmp} {R : PV → Hp → Prop} {σ : St} (h : R (.tup [σ.tm.getD t (.val undef), σ.tm.getD u (.val undef), σ.tm.getD v (.val undef)]) σ.H) : PPost T [.tmp t, .tmp u, .tmp v] R .ret σ := ⟨.inr rfl, _, rfl, h⟩
theorem ppost0 {T : Tys} {R : PV → Hp → Prop} {σ : St} (h : R (.tup []) σ.H) : PPost T [] R .ret σ := ⟨.inr rfl, _, rfl, h⟩
theorem ppost0n {T : Tys} {R : PV → Hp → Prop} {σ : St} (h : R (.tup []) σ.H) : PPost T [] R .normal σ := ⟨.inl rfl, _, rfl, h⟩
theorem ppostX {T : Tys} {rs : List ResultVar} {R : PV → Hp → Prop} {σ : St} {pvs : List PV} (h1 : presults T rs σ = some pvs) (h : R (ptuple pvs) σ.H) : PPost T rs R .ret σ := ⟨.inr rfl, _, h1, h⟩
/-- A function of the program, by its code on the pure machine. -/
theorem pcalls_of {P : Program} {T : Tys} (ok : Ok P T) {f : FuncId} {fn : Func} {c : Code} (hf : P.funcs[f]? = some fn) (hb : fn.body = some c) {args : List PV} {H : Hp} {R : PV → Hp → Prop}
    (h : PWp P H.length c (PPost T fn.results.toList R) ⟨args ++ List.replicate (fn.ntmps - args.length) (.val undef), H⟩) : PCalls P f args H R := by
  intro M hh w vs I rv
  refine calls_of_wp hf hb ?_
  have hr : Rel ⟨M, hh, H, w, H.length, I.len⟩ ⟨args ++ List.replicate (fn.ntmps - args.length) (.val undef), H⟩ { tmps := vs ++ Array.replicate (fn.ntmps - vs.size) undef, defers := [] } w := by
    refine ⟨M, hh, Step.refl I, ⟨by simp [rv.1], fun i pv v a b => ?_⟩, rfl⟩
    have r2 : CR M hh (List.replicate (fn.ntmps - args.length) (.val undef)) (Array.replicate (fn.ntmps - vs.size) undef) := ⟨by simp [rv.1], fun i pv v a b => by
      rw [List.getElem?_replicate] at a
      rw [Array.getElem?_replicate] at b
      split at a
      · split at b
        · cases a; cases b; exact .val _
        · cases b
      · cases a⟩
    exact (rv.append r2).2 i pv v a b
  refine Code.wp_mono ?_ (h _ _ _ rfl hr)
  intro e a' w' q
  have fin : ∀ e, QL ⟨M, hh, H, w, H.length, I.len⟩ (PPost T fn.results.toList R) e a' w' → (e = .normal ∨ e = .ret) → a'.defers = [] ∧ ∃ v, (results fn a'.tmps).run P w' = .ok v w' ∧ ∃ v' M' h' pv H', Ending.returned v = .returned v' ∧ R pv H' ∧ VR M' h' pv v' ∧ Step M hh H w M' h' H' w' := fun e q he => by
    have : ∃ σ, (∃ pvs, presults T fn.results.toList σ = some pvs ∧ R (ptuple pvs) σ.H) ∧ Rel ⟨M, hh, H, w, H.length, I.len⟩ σ a' w' := by
      rcases he with rfl | rfl
      · obtain ⟨σ, h1, h2⟩ := q; exact ⟨σ, h1.2, h2⟩
      · obtain ⟨σ, h1, h2⟩ := q; exact ⟨σ, h1.2, h2⟩
    obtain ⟨σ, ⟨pvs, g1, g2⟩, M', h', s, t, d⟩ := this
    obtain ⟨v, g3, g4⟩ := results_ok ok.ty s.inv t fn g1
    exact ⟨d, v, g3, v, M', h', _, _, rfl, g2, g4, s⟩
  cases e with
  | normal => exact fin _ q (.inl rfl)
  | ret => exact fin _ q (.inr rfl)
  | panic _ => exact q.elim
  | outgrown => exact q.elim
  | exit _ => obtain ⟨σ, h1, _⟩ := q; rcases h1.1 with h | h <;> cases h
  | goto _ => obtain ⟨σ, h1, _⟩ := q; rcases h1.1 with h | h <;> cases h
theorem PCalls.mono {P : Program} {f : FuncId} {args : List PV} {H : Hp} {R R' : PV → Hp → Prop} (h : PCalls P f args H R) (hr : ∀ pv H, R pv H → R' pv H) : PCalls P f args H R' := fun M hh w vs I rv =>
  (h M hh w vs I rv).mono fun _ _ ⟨v, M', h', pv, H', a, b, c⟩ => ⟨v, M', h', pv, H', a, hr _ _ b, c⟩
end Go.Proofs.Ytcbknmnlgoeniaa

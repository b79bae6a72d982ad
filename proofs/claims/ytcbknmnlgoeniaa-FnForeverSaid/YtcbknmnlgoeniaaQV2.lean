/- What the proof leans on, part 2. -/
import Derived.Test.YtcbknmnlgoeniaaQV1
namespace Go.Proofs.Ytcbknmnlgoeniaa
set_option linter.unusedSimpArgs false
set_option linter.unusedVariables false
open Go.RowKit
def PCalls (P : Program) (f : FuncId) (args : List PV) (H : Hp) (R : PV → Hp → Prop) : Prop :=
  ∀ (M : Mem) (h : Home) (w : World) (vs : Array Value), Inv M h H w → CR M h args vs →
    Calls P f vs w fun e w' => ∃ v M' h' pv H', e = .returned v ∧ R pv H' ∧ VR M' h' pv v ∧ Step M h H w M' h' H' w'
def Callable (P : Program) (g : FuncId) : Prop := ∃ fn, P.funcs[g]? = some fn ∧ (fn.name == "runtime.NumGoroutine") = false ∧ fn.body.isNone = false
def cloC1 : PV → Bool
  | .val _ => true
  | .sl _ _ => true
  | .eptr _ _ => true
  | _ => false
def cloC : PV → Bool
  | .val _ => true
  | .sl _ _ => true
  | .eptr _ _ => true
  | .clo _ caps => caps.all cloC1
  | _ => false
def cloA : PV → Bool
  | .agg fs => fs.all cloC
  | p => cloC p
theorem cloC1_ok {M : Mem} {h h' : Home} {pv : PV} {v : Value} (r : VR M h pv v) (hc : cloC1 pv = true) : VR M h' pv v := by
  cases r with
  | val => exact .val _
  | sl0 sz o c => exact .sl0 sz o c
  | sl sz es b off cap f h1 h2 h3 h4 h5 h6 => exact .sl sz es b off cap f h1 h2 h3 h4 h5 h6
  | eptr cs o b off f h1 h2 => exact .eptr cs o b off f h1 h2
  | _ => simp [cloC1] at hc
theorem cloC_ok {M : Mem} {h h' : Home} {pv : PV} {v : Value} (r : VR M h pv v) (hc : cloC pv = true) : VR M h' pv v := by
  cases r with
  | clo f caps vs h1 h2 => exact .clo f caps vs h1 fun i pv v a b => cloC1_ok (h2 i pv v a b) (List.all_eq_true.1 hc pv (List.mem_of_getElem? a))
  | val => exact .val _
  | sl0 sz o c => exact .sl0 sz o c
  | sl sz es b off cap f h1 h2 h3 h4 h5 h6 => exact .sl sz es b off cap f h1 h2 h3 h4 h5 h6
  | eptr cs o b off f h1 h2 => exact .eptr cs o b off f h1 h2
  | _ => simp [cloC] at hc
theorem cloA_ok {M : Mem} {h h' : Home} {pv : PV} {v : Value} (r : VR M h pv v) (hc : cloA pv = true) : VR M h' pv v := by
  cases r with
  | clo f caps vs h1 h2 => exact cloC_ok (.clo f caps vs h1 h2) hc
  | agg fs vs h1 h2 => exact .agg fs vs h1 fun i pv v a b => cloC_ok (h2 i pv v a b) (List.all_eq_true.1 hc pv (List.mem_of_getElem? a))
  | val => exact .val _
  | sl0 sz o c => exact .sl0 sz o c
  | sl sz es b off cap f h1 h2 h3 h4 h5 h6 => exact .sl sz es b off cap f h1 h2 h3 h4 h5 h6
  | eptr cs o b off f h1 h2 => exact .eptr cs o b off f h1 h2
  | _ => simp [cloA, cloC] at hc
def rn (φ : List Nat) (n : Nat) (i : Nat) : Nat := if i < φ.length then φ.getD i 0 else n + (i - φ.length)
mutual
def ren (φ : List Nat) (n : Nat) : PV → PV
  | .val x => .val x
  | .sl sz es => .sl sz es
  | .agg fs => .agg (renL φ n fs)
  | .tup fs => .tup (renL φ n fs)
  | .ptr b o => .ptr (rn φ n b) o
  | .own b => .own (rn φ n b)
  | .eptr cs o => .eptr cs o
  | .optr b sz i o => .optr (rn φ n b) sz i o
  | .clo f caps => .clo f (renL φ n caps)
def renL (φ : List Nat) (n : Nat) : List PV → List PV
  | [] => []
  | p :: ps => ren φ n p :: renL φ n ps
end
theorem renL_map (φ : List Nat) (n : Nat) (l : List PV) : renL φ n l = l.map (ren φ n) := by
  induction l with
  | nil => simp [renL]
  | cons p l ih => simp [renL, ih]
def renB (φ : List Nat) (n : Nat) : Option Blk → Option Blk
  | some (.box cs) => some (.box (renL φ n cs))
  | some (.row e sz es) => some (.row e sz (es.map (renL φ n)))
  | none => none
theorem ren_fwd {M : Mem} {h h' : Home} {φ : List Nat} {n : Nat} (hh : ∀ i v, h' i = some v → h (rn φ n i) = some v) {pv : PV} {v : Value} (r : VR M h' pv v) : VR M h (ren φ n pv) v := by
  induction r with
  | val x => exact .val x
  | sl0 sz o c => exact .sl0 sz o c
  | sl sz es b off cap f h1 h2 h3 h4 h5 h6 => exact .sl sz es b off cap f h1 h2 h3 h4 h5 h6
  | agg fs vs h1 h2 ih =>
    rw [ren, renL_map]
    refine .agg _ _ (by simpa using h1) fun i pv v a b => ?_
    rw [List.getElem?_map, Option.map_eq_some_iff] at a
    obtain ⟨q, a1, rfl⟩ := a
    exact ih i q v a1 b hh
  | tup fs vs h1 h2 ih =>
    rw [ren, renL_map]
    refine .tup _ _ (by simpa using h1) fun i pv v a b => ?_
    rw [List.getElem?_map, Option.map_eq_some_iff] at a
    obtain ⟨q, a1, rfl⟩ := a
    exact ih i q v a1 b hh
  | ptr b o k hb => exact .ptr _ o k (hh _ _ hb)
  | own b o n c hb => exact .own _ o n c (hh _ _ hb)
  | eptr cs o b off f h1 h2 => exact .eptr cs o b off f h1 h2
  | optr b sz i o g n c hb => exact .optr _ sz i o g n c (hh _ _ hb)
  | clo f caps vs h1 h2 ih =>
    rw [ren, renL_map]
    refine .clo _ _ _ (by simpa using h1) fun i pv v a b => ?_
    rw [List.getElem?_map, Option.map_eq_some_iff] at a
    obtain ⟨q, a1, rfl⟩ := a
    exact ih i q v a1 b hh
theorem ren_back {M : Mem} {h h0 : Home} {φ : List Nat} {n : Nat} (hh : ∀ i v, h (rn φ n i) = some v → h0 i = some v) {q : PV} {v : Value} (r : VR M h q v) : ∀ pv, q = ren φ n pv → VR M h0 pv v := by
  induction r with
  | val x => intro pv e; cases pv <;> simp [ren] at e; subst e; exact .val _
  | sl0 sz o c => intro pv e; cases pv <;> simp [ren] at e; obtain ⟨rfl, rfl⟩ := e; exact .sl0 _ o c
  | sl sz es b off cap f h1 h2 h3 h4 h5 h6 => intro pv e; cases pv <;> simp [ren] at e; obtain ⟨rfl, rfl⟩ := e; exact .sl _ _ b off cap f h1 h2 h3 h4 h5 h6
  | agg fs vs h1 h2 ih =>
    intro pv e
    cases pv <;> simp only [ren, reduceCtorEq, PV.agg.injEq] at e
    rename_i gs
    subst e
    rw [renL_map] at h1 ih
    exact .agg _ _ (by simpa using h1) fun i p u a b => ih i (ren φ n p) u (by rw [List.getElem?_map, a]; rfl) b hh p rfl
  | tup fs vs h1 h2 ih =>
    intro pv e
    cases pv <;> simp only [ren, reduceCtorEq, PV.tup.injEq] at e
    rename_i gs
    subst e
    rw [renL_map] at h1 ih
    exact .tup _ _ (by simpa using h1) fun i p u a b => ih i (ren φ n p) u (by rw [List.getElem?_map, a]; rfl) b hh p rfl
  | ptr b o k hb => intro pv e; cases pv <;> simp [ren] at e; obtain ⟨rfl, rfl⟩ := e; exact .ptr _ _ k (hh _ _ hb)
  | own b o n c hb => intro pv e; cases pv <;> simp [ren] at e; subst e; exact .own _ o n c (hh _ _ hb)
  | eptr cs o b off f h1 h2 => intro pv e; cases pv <;> simp [ren] at e; obtain ⟨rfl, rfl⟩ := e; exact .eptr _ _ b off f h1 h2
  | optr b sz i o g n c hb => intro pv e; cases pv <;> simp [ren] at e; obtain ⟨rfl, rfl, rfl, rfl⟩ := e; exact .optr _ _ _ _ g n c (hh _ _ hb)
  | clo f caps vs h1 h2 ih =>
    intro pv e
    cases pv <;> simp only [ren, reduceCtorEq, PV.clo.injEq] at e
    rename_i gs
    obtain ⟨rfl, rfl⟩ := e
    rw [renL_map] at h1 ih
    exact .clo _ _ _ (by simpa using h1) fun i p u a b => ih i (ren φ n p) u (by rw [List.getElem?_map, a]; rfl) b hh p rfl
theorem BR.fwd {M : Mem} {h h' : Home} {φ : List Nat} {n : Nat} (hh : ∀ i v, h' i = some v → h (rn φ n i) = some v) {w : World} {v : Value} {B B' : Blk} (r : BR M h' w v B) (e : renB φ n (some B) = some B') : BR M h w v B' := by
  cases B with
  | box cs =>
    simp only [renB, Option.some.injEq] at e
    subst e
    obtain ⟨k, us, t, p1, p2, p3, p4, p5⟩ := r
    refine ⟨k, us, t, p1, p2, by rw [renL_map]; simpa using p3, p4, fun j pv u a d => ?_⟩
    rw [renL_map, List.getElem?_map, Option.map_eq_some_iff] at a
    obtain ⟨q, a1, rfl⟩ := a
    exact ren_fwd hh (p5 j q u a1 d)
  | row e' sz es =>
    simp only [renB, Option.some.injEq] at e
    subst e
    obtain ⟨p0, us, p1, p2, p3, p4⟩ := r
    refine ⟨p0, us, by simpa using p1, fun row hr => ?_, p3, fun i j row pv u a d f => ?_⟩
    · obtain ⟨r0, hr0, rfl⟩ := List.mem_map.1 hr
      rw [renL_map]
      simpa using p2 r0 hr0
    · rw [List.getElem?_map, Option.map_eq_some_iff] at a
      obtain ⟨r0, a1, rfl⟩ := a
      rw [renL_map, List.getElem?_map, Option.map_eq_some_iff] at d
      obtain ⟨q, d1, rfl⟩ := d
      exact ren_fwd hh (p4 i j r0 q u a1 d1 f)
theorem BR.back {M : Mem} {h h0 : Home} {φ : List Nat} {n : Nat} (hh : ∀ i v, h (rn φ n i) = some v → h0 i = some v) {w : World} {v : Value} {B B' : Blk} (r : BR M h w v B') (e : renB φ n (some B) = some B') : BR M h0 w v B := by
  cases B with
  | box cs =>
    simp only [renB, Option.some.injEq] at e
    subst e
    obtain ⟨k, us, t, p1, p2, p3, p4, p5⟩ := r
    rw [renL_map] at p3 p5
    exact ⟨k, us, t, p1, p2, by simpa using p3, p4, fun j pv u a d => ren_back hh (p5 j (ren φ n pv) u (by rw [List.getElem?_map, a]; rfl) d) pv rfl⟩
  | row e' sz es =>
    simp only [renB, Option.some.injEq] at e
    subst e
    obtain ⟨p0, us, p1, p2, p3, p4⟩ := r
    refine ⟨p0, us, by simpa using p1, fun row hr => ?_, p3, fun i j row pv u a d f => ?_⟩
    · have := p2 (renL φ n row) (List.mem_map.2 ⟨row, hr, rfl⟩)
      rw [renL_map] at this
      simpa using this
    · exact ren_back hh (p4 i j (renL φ n row) (ren φ n pv) u (by rw [List.getElem?_map, a]; rfl) (by rw [renL_map, List.getElem?_map, d]; rfl) f) pv rfl
def wsets (f : Option Blk → Option Blk) : List Nat → Hp → Hp → Hp
  | [], _, H => H
  | b :: φ, B :: H', H => wsets f φ H' (H.set b (f B))
  | _ :: _, [], H => H
theorem wsets_len (f : Option Blk → Option Blk) : ∀ (φ : List Nat) (H' H : Hp), (wsets f φ H' H).length = H.length
  | [], _, _ => rfl
  | _ :: φ, B :: H', H => by rw [wsets, wsets_len f φ H']; simp
  | _ :: _, [], _ => rfl
theorem wsets_out (f : Option Blk → Option Blk) : ∀ (φ : List Nat) (H' H : Hp) (b : Nat), b ∉ φ → (wsets f φ H' H)[b]? = H[b]?
  | [], _, _, _, _ => rfl
  | c :: φ, B :: H', H, b, hb => by
    rw [wsets, wsets_out f φ H' _ b (fun q => hb (by simp [q]))]
    rw [List.getElem?_set_ne]
    rintro rfl
    exact hb (by simp)
  | _ :: _, [], _, _, _ => rfl
theorem wsets_in (f : Option Blk → Option Blk) : ∀ (φ : List Nat) (H' H : Hp) (b i : Nat) (B : Option Blk), φ.Nodup → φ.length ≤ H'.length → φ[i]? = some b → b < H.length → H'[i]? = some B → (wsets f φ H' H)[b]? = some (f B)
  | [], _, _, _, _, _, _, _, h, _, _ => by simp at h
  | c :: φ, C :: H', H, b, 0, B, hn, _, h, hb, hB => by
    simp at h hB
    subst h
    subst hB
    rw [wsets, wsets_out f φ H' _ c (List.nodup_cons.1 hn).1, List.getElem?_set_self hb]
  | c :: φ, C :: H', H, b, i + 1, B, hn, hl, h, hb, hB => by
    rw [wsets]
    exact wsets_in f φ H' _ b i B (List.nodup_cons.1 hn).2 (by simpa using hl) (by simpa using h) (by simpa using hb) (by simpa using hB)
  | _ :: _, [], _, _, _, _, _, hl, _, _, _ => by simp at hl
def wback (φ : List Nat) (H H' : Hp) : Hp := wsets (renB φ H.length) φ H' H ++ (H'.drop φ.length).map (renB φ H.length)
theorem rn_lt {φ : List Nat} {n i b : Nat} (hi : φ[i]? = some b) : rn φ n i = b := by
  have := (List.getElem?_eq_some_iff.1 hi).1
  unfold rn
  rw [if_pos this, List.getD_eq_getElem?_getD, hi]
  rfl
theorem rn_ge {φ : List Nat} {n i : Nat} (hi : φ.length ≤ i) : rn φ n i = n + (i - φ.length) := by unfold rn; rw [if_neg (by omega)]
theorem wback_get {φ : List Nat} {H H' : Hp} (hnd : φ.Nodup) (hl : φ.length ≤ H'.length) {b : Nat} {B : Blk} (hb : (wback φ H H')[b]? = some (some B)) :
    (b < H.length ∧ b ∉ φ ∧ H[b]? = some (some B)) ∨ ∃ i B0, b = rn φ H.length i ∧ H'[i]? = some (some B0) ∧ renB φ H.length (some B0) = some B := by
  unfold wback at hb
  have hsl := wsets_len (renB φ H.length) φ H' H
  have some0 : ∀ {C : Option Blk}, renB φ H.length C = some B → ∃ B0, C = some B0 ∧ renB φ H.length (some B0) = some B := fun {C} q => by
    cases C with
    | none => cases q
    | some B0 => exact ⟨B0, rfl, q⟩
  by_cases hlt' : b < H.length
  · rw [List.getElem?_append_left (by omega)] at hb
    by_cases hm : b ∈ φ
    · right
      obtain ⟨i, hi, e⟩ := List.getElem_of_mem hm
      have e1 : φ[i]? = some b := by rw [List.getElem?_eq_getElem hi, e]
      have e2 : H'[i]? = some (H'[i]'(by omega)) := List.getElem?_eq_getElem _
      rw [wsets_in _ φ H' H b i _ hnd hl e1 hlt' e2] at hb
      obtain ⟨B0, q1, q2⟩ := some0 (Option.some.inj hb)
      exact ⟨i, B0, (rn_lt e1).symm, by rw [e2, q1], q2⟩
    · rw [wsets_out _ φ H' H b hm] at hb
      exact .inl ⟨hlt', hm, hb⟩
  · rw [List.getElem?_append_right (by omega), hsl, List.getElem?_map, List.getElem?_drop, Option.map_eq_some_iff] at hb
    obtain ⟨C, q1, q2⟩ := hb
    obtain ⟨B0, rfl, q3⟩ := some0 q2
    exact .inr ⟨φ.length + (b - H.length), B0, by rw [rn_ge (by omega)]; omega, q1, q3⟩
theorem call_step {M : Mem} {h : Home} {H H0 H' : Hp} {w w' : World} (I : Inv M h H w) {φ : List Nat} (hφ : φ.length = H0.length) (hnd : φ.Nodup) (hall : ∀ j ∈ φ, ∃ B, H[j]? = some (some B)) (hl : φ.length ≤ H'.length) {M' : Mem} {h' : Home}
    (s : Step M (fun i => match φ[i]? with | some b => h b | none => none) H0 w M' h' H' w') :
    ∃ h'', Step M h H w M' h'' (wback φ H H') w' ∧ ∀ i v, h' i = some v → h'' (rn φ H.length i) = some v := by
  have hlt : ∀ j ∈ φ, j < H.length := fun j hj => by obtain ⟨B, q⟩ := hall j hj; exact (List.getElem?_eq_some_iff.1 q).1
  let h'' : Home := fun b => if b < H.length then h b else h' (φ.length + (b - H.length))
  have old : ∀ {b : Nat}, b < H.length → h'' b = h b := fun {b} q => by show (if b < H.length then h b else _) = _; rw [if_pos q]
  have cA : ∀ i v, h' i = some v → h'' (rn φ H.length i) = some v := fun i v q => by
    by_cases hi : i < φ.length
    · have e1 : φ[i]? = some φ[i] := List.getElem?_eq_getElem hi
      have hm := List.getElem_mem hi
      rw [rn_lt e1, old (hlt _ hm)]
      obtain ⟨B, e2⟩ := hall _ hm
      obtain ⟨u, e3, _⟩ := I.blk _ B e2
      have := s.hle i u (by show (match φ[i]? with | some b => h b | none => none) = some u; rw [e1]; exact e3)
      rw [q] at this
      cases this
      exact e3
    · rw [rn_ge (by omega)]
      show (if H.length + (i - φ.length) < H.length then _ else h' (φ.length + (H.length + (i - φ.length) - H.length))) = some v
      rw [if_neg (by omega), show φ.length + (H.length + (i - φ.length) - H.length) = i by omega]
      exact q
  have hh : HLe h h'' := fun b v q => by rw [old (I.len b v q)]; exact q
  -- homes of what was handed over
  have over : ∀ {k : Nat}, Homes (fun i => match φ[i]? with | some b => h b | none => none) H0 k → ∃ b B v, b ∈ φ ∧ H[b]? = some (some B) ∧ h b = some v ∧ hblk v = some k := fun {k} ⟨i, B, v, q1, q2, q3⟩ => by
    cases e : φ[i]? with
    | none => simp only [e] at q2; cases q2
    | some b =>
      simp only [e] at q2
      have hm := List.mem_of_getElem? e
      obtain ⟨B', e2⟩ := hall b hm
      exact ⟨b, B', v, hm, e2, q2, q3⟩
  have overH : ∀ {k : Nat}, Homes (fun i => match φ[i]? with | some b => h b | none => none) H0 k → Homes h H k := fun {k} q => by
    obtain ⟨b, B, v, _, e1, e2, e3⟩ := over q
    exact ⟨b, B, v, e1, e2, e3⟩
  have get := fun {b : Nat} {B : Blk} => wback_get (φ := φ) (H := H) (H' := H') (b := b) (B := B) hnd hl
  -- a block that stayed behind
  have away : ∀ {b k : Nat} {B : Blk} {v : Value}, b ∉ φ → H[b]? = some (some B) → h b = some v → hblk v = some k → ¬ Homes (fun i => match φ[i]? with | some b => h b | none => none) H0 k := fun {b k B v} hb e1 e2 e3 q => by
    obtain ⟨c, C, u, hc, g1, g2, g3⟩ := over q
    have := I.inj b c B C v u k e1 g1 e2 g2 e3 g3
    subst this
    exact hb hc
  refine ⟨h'', ⟨s.mle, hh, ⟨s.inv.mem, s.inv.one, fun b B q => ?_, fun k q o => ?_, fun b b' B B' v v' k g1 g2 g3 g4 g5 g6 => ?_, fun b v q => ?_, s.inv.glob⟩, ⟨s.chg.os, s.chg.tape, s.chg.output, s.chg.size, fun k hk hn => s.chg.block k hk fun q => hn (overH q)⟩, fun k q => ?_, fun k o v q => ?_⟩, cA⟩
  · rcases get q with ⟨q1, q2, q3⟩ | ⟨i, B0, rfl, q2, q3⟩
    · obtain ⟨v, e1, e2⟩ := I.blk b B q3
      exact ⟨v, hh b v e1, e2.mono s.mle hh fun k hk => s.chg.block k (e2.lt hk) (away q2 q3 e1 hk)⟩
    · obtain ⟨v, e1, e2⟩ := s.inv.blk i B0 q2
      exact ⟨v, cA i v e1, e2.fwd cA q3⟩
  · obtain ⟨b, B, v, p1, p2, p3⟩ := q
    rcases get p1 with ⟨q1, q2, q3⟩ | ⟨i, B0, rfl, q2, q3⟩
    · rw [old q1] at p2
      cases hm : M' k o with
      | none => rfl
      | some x =>
        exfalso
        rcases s.new k o x hm with d | d | d
        · have := I.sep k ⟨b, B, v, q3, p2, p3⟩ o
          rw [d] at this
          cases this
        · exact away q2 q3 p2 p3 d
        · have := I.home_lt ⟨b, B, v, q3, p2, p3⟩
          omega
    · obtain ⟨u, e1, e2⟩ := s.inv.blk i B0 q2
      have := cA i u e1
      rw [p2] at this
      cases this
      exact s.inv.sep k ⟨i, B0, _, q2, e1, p3⟩ o
  · rcases get g1 with ⟨q1, q2, q3⟩ | ⟨i, B0, rfl, q2, q3⟩
    · rw [old q1] at g3
      rcases get g2 with ⟨p1, p2, p3⟩ | ⟨j, B1, rfl, p2, p3⟩
      · rw [old p1] at g4
        exact I.inj b b' B B' v v' k q3 p3 g3 g4 g5 g6
      · exfalso
        obtain ⟨u, e1, e2⟩ := s.inv.blk j B1 p2
        have := cA j u e1
        rw [g4] at this
        cases this
        rcases s.sub k ⟨j, B1, _, p2, e1, g6⟩ with d | d
        · exact away q2 q3 g3 g5 d
        · have := I.home_lt ⟨b, B, v, q3, g3, g5⟩
          omega
    · obtain ⟨u, e1, e2⟩ := s.inv.blk i B0 q2
      have := cA i u e1
      rw [g3] at this
      cases this
      rcases get g2 with ⟨p1, p2, p3⟩ | ⟨j, B1, rfl, p2, p3⟩
      · exfalso
        rw [old p1] at g4
        rcases s.sub k ⟨i, B0, _, q2, e1, g5⟩ with d | d
        · exact away p2 p3 g4 g6 d
        · have := I.home_lt ⟨b', B', v', p3, g4, g6⟩
          omega
      · obtain ⟨u', f1, f2⟩ := s.inv.blk j B1 p2
        have := cA j u' f1
        rw [g4] at this
        cases this
        rw [s.inv.inj i j B0 B1 _ _ k q2 p2 e1 f1 g5 g6]
  · unfold wback
    rw [List.length_append, wsets_len, List.length_map, List.length_drop]
    by_cases hb : b < H.length
    · omega
    · have : h'' b = h' (φ.length + (b - H.length)) := by show (if b < H.length then h b else _) = _; rw [if_neg hb]
      rw [this] at q
      have := s.inv.len _ _ q
      omega
  · obtain ⟨b, B, v, p1, p2, p3⟩ := q
    rcases get p1 with ⟨q1, q2, q3⟩ | ⟨i, B0, rfl, q2, q3⟩
    · rw [old q1] at p2
      exact .inl ⟨b, B, v, q3, p2, p3⟩
    · obtain ⟨u, e1, e2⟩ := s.inv.blk i B0 q2
      have := cA i u e1
      rw [p2] at this
      cases this
      exact (s.sub k ⟨i, B0, _, q2, e1, p3⟩).imp overH id
  · rcases s.new k o v q with d | d | d
    · exact .inl d
    · exact .inr (.inl (overH d))
    · exact .inr (.inr d)
def scal1 : PV → Bool
  | .val _ => true
  | _ => false
def scalA : PV → Bool
  | .agg fs => fs.all scal1
  | p => scal1 p
def scalP : PV → Bool
  | .tup fs => fs.all scalA
  | p => scalA p
theorem scal1_ok {M M' : Mem} {h h' : Home} {pv : PV} {v : Value} (r : VR M h pv v) (hs : scal1 pv = true) : VR M' h' pv v := by
  cases r with
  | val => exact .val _
  | _ => simp [scal1] at hs
theorem scalA_ok {M M' : Mem} {h h' : Home} {pv : PV} {v : Value} (r : VR M h pv v) (hs : scalA pv = true) : VR M' h' pv v := by
  cases r with
  | agg fs vs h1 h2 => exact .agg fs vs h1 fun i pv v a b => scal1_ok (h2 i pv v a b) (List.all_eq_true.1 hs pv (List.mem_of_getElem? a))
  | val => exact .val _
  | _ => simp [scalA, scal1] at hs
theorem scalP_ok {M M' : Mem} {h h' : Home} {pv : PV} {v : Value} (r : VR M h pv v) (hs : scalP pv = true) : VR M' h' pv v := by
  cases r with
  | tup fs vs h1 h2 => exact .tup fs vs h1 fun i pv v a b => scalA_ok (h2 i pv v a b) (List.all_eq_true.1 hs pv (List.mem_of_getElem? a))
  | agg fs vs h1 h2 => exact scalA_ok (.agg fs vs h1 h2) hs
  | val => exact .val _
  | _ => simp [scalP, scalA, scal1] at hs
def vw0 (H : Hp) : PV → PV
  | .own b => match H[b]? with | some (some (.row _ sz es)) => .sl sz es | _ => .own b
  | .ptr b o => match H[b]? with | some (some (.box cs)) => .eptr cs o | _ => .ptr b o
  | p => p
def vw (H : Hp) : PV → PV
  | .agg fs => .agg (fs.map (vw0 H))
  | .clo f caps => .clo f (caps.map (vw0 H))
  | p => vw0 H p
def vwOk0 (H : Hp) : PV → Prop
  | .own b => match H[b]? with | some (some (.row _ _ es)) => ∀ row ∈ es, row.all cloC = true | _ => False
  | .ptr b _ => match H[b]? with | some (some (.box cs)) => cs.all cloC = true | _ => False
  | p => cloC p = true
def vwOk (H : Hp) : PV → Prop
  | .agg fs => ∀ q ∈ fs, vwOk0 H q
  | .clo _ caps => ∀ q ∈ caps, vwOk0 H q
  | p => vwOk0 H p
def memW (w : World) : Mem := fun k o => match w.cell? ⟨k, o, none⟩ with | some v => if v.oneCell' then some v else none | none => none
theorem memW_cell {w : World} {k o : Nat} {v : Value} (h : memW w k o = some v) : w.cell? ⟨k, o, none⟩ = some v ∧ v.oneCell' = true := by
  unfold memW at h
  split at h
  · rename_i u hu
    split at h
    · rename_i q; cases h; exact ⟨hu, q⟩
    · cases h
  · cases h
theorem memW_of {w : World} {k o : Nat} {v : Value} (h : w.cell? ⟨k, o, none⟩ = some v) (h1 : v.oneCell' = true) : memW w k o = some v := by
  unfold memW
  rw [h]
  simp [h1]
theorem inv_memW (w : World) (g : Glob (memW w)) : Inv (memW w) (fun _ => none) [] w where
  mem _ _ _ q := (memW_cell q).1
  one _ _ _ q := (memW_cell q).2
  blk b B q := by simp at q
  sep k q := by obtain ⟨b, B, v, q1, _⟩ := q; simp at q1
  inj b b' B B' v v' k q := by simp at q
  len b v q := by cases q
  glob := g
theorem Inv.memW {M : Mem} {h : Home} {H : Hp} {w : World} (I : Inv M h H w) : MLe M (memW w) := fun b o v q => memW_of (I.mem b o v q) (I.one b o v q)
theorem vw0_ok {M : Mem} {h : Home} {H : Hp} {w : World} (I : Inv M h H w) {pv : PV} {v : Value} (r : VR M h pv v) (hk : vwOk0 H pv) : VR (Go.Proofs.Ytcbknmnlgoeniaa.memW w) (fun _ => none) (vw0 H pv) v := by
  cases pv with
  | own b =>
    simp only [vwOk0] at hk
    split at hk
    · rename_i e sz es hH
      simp only [vw0, hH]
      cases r with
      | own _ o n c hb =>
        obtain ⟨v0, q0, -, us, q1, q2, q3, q4⟩ := I.blk b _ hH
        rw [hb] at q0
        cases q0
        rcases q1.2 with ⟨e1, e2⟩ | ⟨g, cap, cur, e1, e2, e3, e4, e5, e6, e7⟩
        · cases e1
          have : es = [] := List.eq_nil_of_length_eq_zero e2
          subst this
          exact .sl0 _ _ _
        · cases e1
          by_cases hn : es = []
          · subst hn; exact .sl0 _ _ _
          · have hl : 0 < es.length := by cases es with | nil => exact absurd rfl hn | cons => simp
            refine VR.sl sz es g 0 c (fun i j => (us[i * sz + j]?).getD undef) hl e4 e5 q2 (fun i j row pv a d => ?_) (fun i j row pv a d => ?_)
            all_goals
              have hi : i < es.length := (List.getElem?_eq_some_iff.1 a).1
              have hj : j < sz := by have := (List.getElem?_eq_some_iff.1 d).1; rw [q2 row (List.mem_of_getElem? a)] at this; exact this
              have hm : (i + 1) * sz ≤ es.length * sz := Nat.mul_le_mul_right _ hi
              rw [Nat.add_mul] at hm
              have hu : i * sz + j < us.length := by rw [q1.1]; omega
              have hu' : us[i * sz + j]? = some us[i * sz + j] := List.getElem?_eq_getElem hu
              rw [hu']
            · have := q1.cells (g := g) rfl (i * sz + j) _ hu'
              rw [addr_add] at this
              rw [Nat.add_assoc]
              exact memW_of this (q3 _ (List.mem_of_getElem? hu'))
            · exact cloC_ok ((q4 i j row pv _ a d hu').mono I.memW (.refl _)) (List.all_eq_true.1 (hk row (List.mem_of_getElem? a)) pv (List.mem_of_getElem? d))
    · exact hk.elim
  | ptr b o =>
    simp only [vwOk0] at hk
    split at hk
    · rename_i cs hH
      simp only [vw0, hH]
      cases r with
      | ptr _ _ k hb =>
        obtain ⟨v0, q0, k', us, t, rfl, q3, q4, q5, q6⟩ := I.blk b _ hH
        rw [hb] at q0
        cases q0
        have key : ∀ (j : Nat) (pv : PV), cs[j]? = some pv → us[j]? = some (us.getD j undef) := fun j pv a => by
          have hj : j < us.size := by rw [q4]; exact (List.getElem?_eq_some_iff.1 a).1
          rw [Array.getD_eq_getD_getElem?, Array.getElem?_eq_getElem hj]
          rfl
        have := VR.eptr (M := Go.Proofs.Ytcbknmnlgoeniaa.memW w) (h := fun _ => none) cs o k 0 (fun j => us.getD j undef) (fun j pv a => by
            have e := key j pv a
            refine memW_of ?_ (q5 _ (Array.mem_of_getElem? e))
            rw [Nat.zero_add, cell_of_row w k j us t (0, 0) q3]
            exact e)
          (fun j pv a => cloC_ok ((q6 j pv _ a (key j pv a)).mono I.memW (.refl _)) (List.all_eq_true.1 hk pv (List.mem_of_getElem? a)))
        rw [Nat.zero_add] at this
        exact this
    · exact hk.elim
  | _ => exact cloC_ok (r.mono I.memW (.refl _)) hk
theorem vw_ok {M : Mem} {h : Home} {H : Hp} {w : World} (I : Inv M h H w) {pv : PV} {v : Value} (r : VR M h pv v) (hk : vwOk H pv) : VR (Go.Proofs.Ytcbknmnlgoeniaa.memW w) (fun _ => none) (vw H pv) v := by
  cases pv with
  | agg fs =>
    cases r with
    | agg _ vs h1 h2 =>
      refine .agg _ _ (by simpa using h1) fun i pv u a d => ?_
      rw [List.getElem?_map, Option.map_eq_some_iff] at a
      obtain ⟨q, a1, rfl⟩ := a
      exact vw0_ok I (h2 i q u a1 d) (hk q (List.mem_of_getElem? a1))
  | clo f caps =>
    cases r with
    | clo _ _ vs h1 h2 =>
      refine .clo _ _ _ (by simpa using h1) fun i pv u a d => ?_
      rw [List.getElem?_map, Option.map_eq_some_iff] at a
      obtain ⟨q, a1, rfl⟩ := a
      exact vw0_ok I (h2 i q u a1 d) (hk q (List.mem_of_getElem? a1))
  | _ => exact vw0_ok I r hk
mutual
def fre : PV → Bool
  | .val _ => true
  | .sl _ es => es.isEmpty
  | .agg fs => freL fs
  | .tup fs => freL fs
  | .ptr _ _ => true
  | .own _ => true
  | .eptr _ _ => false
  | .optr _ _ _ _ => true
  | .clo _ caps => freL caps
def freL : List PV → Bool
  | [] => true
  | p :: ps => fre p && freL ps
end
theorem freL_get : ∀ {l : List PV}, freL l = true → ∀ (i : Nat) (p : PV), l[i]? = some p → fre p = true
  | [], _, i, p, h => by simp at h
  | q :: l, hl, 0, p, h => by simp at h; subst h; rw [freL, Bool.and_eq_true] at hl; exact hl.1
  | q :: l, hl, i + 1, p, h => by rw [freL, Bool.and_eq_true] at hl; exact freL_get hl.2 i p (by simpa using h)
theorem VR.free {M M' : Mem} {h : Home} {pv : PV} {v : Value} (r : VR M h pv v) : fre pv = true → VR M' h pv v := by
  induction r with
  | val x => intro _; exact .val x
  | sl0 sz o c => intro _; exact .sl0 sz o c
  | sl sz es b off cap f h1 => intro q; cases es with | nil => simp at h1 | cons => simp [fre] at q
  | agg fs vs h1 h2 ih => intro q; exact .agg _ _ h1 fun i pv v a b => ih i pv v a b (freL_get q i pv a)
  | tup fs vs h1 h2 ih => intro q; exact .tup _ _ h1 fun i pv v a b => ih i pv v a b (freL_get q i pv a)
  | ptr b o k hb => intro _; exact .ptr _ o k hb
  | own b o n c hb => intro _; exact .own _ o n c hb
  | eptr cs o b off f h1 h2 => intro q; simp [fre] at q
  | optr b sz i o g n c hb => intro _; exact .optr _ sz i o g n c hb
  | clo f caps vs h1 h2 ih => intro q; exact .clo _ _ _ h1 fun i pv v a b => ih i pv v a b (freL_get q i pv a)
def freB : Option Blk → Prop
  | some (.box cs) => freL cs = true
  | some (.row _ _ es) => ∀ row ∈ es, freL row = true
  | none => True
def freH : Hp → Prop
  | [] => True
  | B :: r => freB B ∧ freH r
theorem freH_get : ∀ {H : Hp}, freH H → ∀ (b : Nat) (B : Option Blk), H[b]? = some B → freB B
  | [], _, b, B, h => by simp at h
  | C :: H, hk, 0, B, h => by simp at h; subst h; exact hk.1
  | C :: H, hk, b + 1, B, h => freH_get hk.2 b B (by simpa using h)
theorem BR.free {M M' : Mem} {h : Home} {w : World} {v : Value} {B : Blk} (r : BR M h w v B) (hf : freB (some B)) : BR M' h w v B := by
  cases B with
  | box cs =>
    obtain ⟨k, us, t, p1, p2, p3, p4, p5⟩ := r
    exact ⟨k, us, t, p1, p2, p3, p4, fun j pv u a d => (p5 j pv u a d).free (freL_get hf j pv a)⟩
  | row e sz es =>
    obtain ⟨p0, us, p1, p2, p3, p4⟩ := r
    exact ⟨p0, us, p1, p2, p3, fun i j row pv u a d f => (p4 i j row pv u a d f).free (freL_get (hf row (List.mem_of_getElem? a)) j pv d)⟩
def pcall (P : Program) (cm : Bool) (g : FuncId) (args : List PV) (σ : St) (K : PV → St → Prop) : Prop := Callable P g ∧
  ((∃ R, PCalls P g args [] R ∧ args.all cloA = true ∧ ∀ r H', R r H' → K (ren [] σ.H.length r) ⟨σ.tm, σ.H ++ H'.map (renB [] σ.H.length)⟩) ∨
   (∃ R, PCalls P g (args.map (vw σ.H)) [] R ∧ (∀ p ∈ args, vwOk σ.H p) ∧ ∀ r H', R r H' → scalP r = true ∧ K r σ) ∨
   (∃ R, PCalls P g (args.map (vw σ.H)) [] R ∧ (∀ p ∈ args, vwOk σ.H p) ∧ ∀ r H', R r H' → fre r = true ∧ freH H' ∧ K (ren [] σ.H.length r) ⟨σ.tm, σ.H ++ H'.map (renB [] σ.H.length)⟩) ∨
   (cm = true ∧ ∃ φ H0 args0 R, PCalls P g args0 H0 R ∧ φ.length = H0.length ∧ φ.Nodup ∧ args = renL φ σ.H.length args0 ∧ (∀ (i b : Nat), φ[i]? = some b → ∃ (B B' : Blk), H0[i]? = some (some B) ∧ renB φ σ.H.length (some B) = some B' ∧ σ.H[b]? = some (some B')) ∧ ∀ r H', R r H' → K (ren φ σ.H.length r) ⟨σ.tm, wback φ σ.H H'⟩))
theorem pcall_G {P : Program} {M : Mem} {h : Home} {H : Hp} {w : World} (I : Inv M h H w) {g : FuncId} {φ : List Nat} {H0 : Hp} {args0 : List PV} {R : PV → Hp → Prop} (hc : PCalls P g args0 H0 R) (hφ : φ.length = H0.length) (hnd : φ.Nodup)
    (hb : ∀ (i b : Nat), φ[i]? = some b → ∃ (B B' : Blk), H0[i]? = some (some B) ∧ renB φ H.length (some B) = some B' ∧ H[b]? = some (some B')) {vs : Array Value} (rv : CR M (fun i => match φ[i]? with | some b => h b | none => none) args0 vs) :
    Calls P g vs w fun e w' => ∃ v M' h' r H', e = .returned v ∧ R r H' ∧ VR M' h' (ren φ H.length r) v ∧ Step M h H w M' h' (wback φ H H') w' ∧ (H0 = [] → Ext w w') := by
  have back : ∀ i v, h (rn φ H.length i) = some v → (fun i => match φ[i]? with | some b => h b | none => none) i = some v := fun i v q => by
    by_cases hi : i < φ.length
    · have e1 : φ[i]? = some φ[i] := List.getElem?_eq_getElem hi
      rw [rn_lt e1] at q
      show (match φ[i]? with | some b => h b | none => none) = some v
      rw [e1]
      exact q
    · rw [rn_ge (by omega)] at q
      have := I.len _ _ q
      omega
  have I0 : Inv M (fun i => match φ[i]? with | some b => h b | none => none) H0 w := by
    refine ⟨I.mem, I.one, fun i B q => ?_, fun k q o => ?_, fun i i' B B' v v' k q1 q2 q3 q4 q5 q6 => ?_, fun i v q => ?_, I.glob⟩
    · have hi : i < φ.length := by rw [hφ]; exact (List.getElem?_eq_some_iff.1 q).1
      have e1 : φ[i]? = some φ[i] := List.getElem?_eq_getElem hi
      obtain ⟨B0, B', p1, p2, p3⟩ := hb i _ e1
      rw [q] at p1
      cases p1
      obtain ⟨v, g1, g2⟩ := I.blk _ B' p3
      exact ⟨v, by show (match φ[i]? with | some b => h b | none => none) = some v; rw [e1]; exact g1, g2.back back p2⟩
    · obtain ⟨i, B, v, p1, p2, p3⟩ := q
      cases e1 : φ[i]? with
      | none => simp only [e1] at p2; cases p2
      | some b =>
        simp only [e1] at p2
        obtain ⟨B0, B', g1, g2, g3⟩ := hb i b e1
        exact I.sep k ⟨b, B', v, g3, p2, p3⟩ o
    · cases e1 : φ[i]? with
      | none => simp only [e1] at q3; cases q3
      | some b =>
        cases e2 : φ[i']? with
        | none => simp only [e2] at q4; cases q4
        | some b' =>
          simp only [e1] at q3
          simp only [e2] at q4
          obtain ⟨_, C, _, _, g1⟩ := hb i b e1
          obtain ⟨_, C', _, _, g2⟩ := hb i' b' e2
          have := I.inj b b' C C' v v' k g1 g2 q3 q4 q5 q6
          subst this
          exact (List.getElem?_inj (List.getElem?_eq_some_iff.1 e1).1 hnd).1 (by rw [e1, e2])
    · cases e1 : φ[i]? with
      | none => simp only [e1] at q; cases q
      | some b => rw [← hφ]; exact (List.getElem?_eq_some_iff.1 e1).1
  have hall : ∀ j ∈ φ, ∃ B, H[j]? = some (some B) := fun j hj => by
    obtain ⟨i, hi, rfl⟩ := List.getElem_of_mem hj
    obtain ⟨_, B', _, _, g⟩ := hb i _ (List.getElem?_eq_getElem hi)
    exact ⟨B', g⟩
  refine (hc M _ w vs I0 rv).mono fun e w' ⟨v, M', h', r, H', e1, e2, e3, e4⟩ => ?_
  have hl : φ.length ≤ H'.length := by
    rcases Nat.lt_or_ge H'.length φ.length with q | q
    · exfalso
      have ei : φ[H'.length]? = some φ[H'.length] := List.getElem?_eq_getElem q
      obtain ⟨B, hB⟩ := hall _ (List.getElem_mem q)
      obtain ⟨u, g1, _⟩ := I.blk _ B hB
      have := e4.inv.len _ _ (e4.hle H'.length u (by show (match φ[H'.length]? with | some b => h b | none => none) = some u; rw [ei]; exact g1))
      omega
    · exact q
  obtain ⟨h'', s1, s2⟩ := call_step I hφ hnd hall hl e4
  exact ⟨v, M', h'', r, H', e1, e2, ren_fwd s2 e3, s1, fun h0 => ChgS.ext ⟨e4.chg.os, e4.chg.tape, e4.chg.output, e4.chg.size, fun k hk hn => e4.chg.block k hk fun ⟨b, B, v, q, _⟩ => by subst h0; simp at q⟩⟩
theorem pcall_sound {P : Program} {M : Mem} {h : Home} {σ : St} {w : World} (I : Inv M h σ.H w) {g : FuncId} {args : List PV} {vs : Array Value} (rv : CR M h args vs) {K : PV → St → Prop} {cm : Bool} (hk : pcall P cm g args σ K) :
    Calls P g vs w fun e w' => ∃ v M' h' r H', e = .returned v ∧ K r ⟨σ.tm, H'⟩ ∧ VR M' h' r v ∧ Step M h σ.H w M' h' H' w' ∧ (cm = false → Ext w w') := by
  obtain ⟨-, hk | hk | hk | hk⟩ := hk
  · obtain ⟨R, h1, h2, h3⟩ := hk
    have rv0 : CR M (fun i => match ([] : List Nat)[i]? with | some b => h b | none => none) args vs := ⟨rv.1, fun i pv v a b => cloA_ok (rv.2 i pv v a b) (List.all_eq_true.1 h2 pv (List.mem_of_getElem? a))⟩
    refine (pcall_G I (φ := []) h1 rfl List.nodup_nil (by simp) rv0).mono fun e w' ⟨v, M', h', r, H', e1, e2, e3, e4, e5⟩ => ?_
    exact ⟨v, M', h', _, _, e1, h3 r H' e2, e3, e4, fun _ => e5 rfl⟩
  · obtain ⟨R, h1, h2, h3⟩ := hk
    have rv0 : CR (memW w) (fun _ => none) (args.map (vw σ.H)) vs := ⟨by simpa using rv.1, fun i pv v a b => by
      rw [List.getElem?_map, Option.map_eq_some_iff] at a
      obtain ⟨q, a1, rfl⟩ := a
      exact vw_ok I (rv.2 i q v a1 b) (h2 q (List.mem_of_getElem? a1))⟩
    refine (h1 _ _ w vs (inv_memW w (I.glob.mono I.memW)) rv0).mono fun e w' ⟨v, M', h', r, H', e1, e2, e3, e4⟩ => ?_
    obtain ⟨q1, q2⟩ := h3 r H' e2
    have hb : Ext w w' := (ChgS.ext ⟨e4.chg.os, e4.chg.tape, e4.chg.output, e4.chg.size, fun k hk hn => e4.chg.block k hk fun ⟨b, B, v, q, _⟩ => by simp at q⟩)
    exact ⟨v, M, h, r, σ.H, e1, q2, scalP_ok e3 q1, Step.ext I hb, fun _ => hb⟩
  · obtain ⟨R, h1, h2, h3⟩ := hk
    have rv0 : CR (memW w) (fun _ => none) (args.map (vw σ.H)) vs := ⟨by simpa using rv.1, fun i pv v a b => by
      rw [List.getElem?_map, Option.map_eq_some_iff] at a
      obtain ⟨q, a1, rfl⟩ := a
      exact vw_ok I (rv.2 i q v a1 b) (h2 q (List.mem_of_getElem? a1))⟩
    refine (h1 _ _ w vs (inv_memW w (I.glob.mono I.memW)) rv0).mono fun e w' ⟨v, M', h', r, H', e1, e2, e3, e4⟩ => ?_
    obtain ⟨q1, q2, q3⟩ := h3 r H' e2
    have hb : Ext w w' := (ChgS.ext ⟨e4.chg.os, e4.chg.tape, e4.chg.output, e4.chg.size, fun k hk hn => e4.chg.block k hk fun ⟨b, B, v, q, _⟩ => by simp at q⟩)
    have fresh : ∀ k, Homes h' H' k → w.heap.size ≤ k := fun k hk => (e4.sub k hk).resolve_left fun ⟨b, B, v, q, _⟩ => by simp at q
    have s0 : Step M (fun i => match ([] : List Nat)[i]? with | some b => h b | none => none) [] w M h' H' w' := by
      refine ⟨.refl _, fun b v q => by simp at q, ⟨fun b o u q => ext_cell hb (I.mem b o u q), I.one, fun b B q => ?_, fun k q o => ?_, e4.inv.inj, e4.inv.len, I.glob⟩, hb.chgS, fun k q => .inr (fresh k q), fun _ _ _ q => .inl q⟩
      · obtain ⟨u, g1, g2⟩ := e4.inv.blk b B q
        exact ⟨u, g1, g2.free (freH_get q2 b _ q)⟩
      · exact (I.fresh (fresh k q)).2 o
    obtain ⟨h'', s1, s2⟩ := call_step I (φ := []) (H0 := []) rfl List.nodup_nil (by simp) (by simp) s0
    exact ⟨v, M, h'', _, _, e1, q3, ren_fwd s2 (e3.free q1), s1, fun _ => hb⟩
  · obtain ⟨hcm, φ, H0, args0, R, h1, h2, h3, rfl, h5, h6⟩ := hk
    have back : ∀ i v, h (rn φ σ.H.length i) = some v → (fun i => match φ[i]? with | some b => h b | none => none) i = some v := fun i v q => by
      by_cases hi : i < φ.length
      · have e1 : φ[i]? = some φ[i] := List.getElem?_eq_getElem hi
        rw [rn_lt e1] at q
        show (match φ[i]? with | some b => h b | none => none) = some v
        rw [e1]
        exact q
      · rw [rn_ge (by omega)] at q
        have := I.len _ _ q
        omega
    have rv0 : CR M (fun i => match φ[i]? with | some b => h b | none => none) args0 vs := by
      rw [renL_map] at rv
      exact ⟨by simpa using rv.1, fun i pv v a b => ren_back back (rv.2 i (ren φ σ.H.length pv) v (by rw [List.getElem?_map, a]; rfl) b) pv rfl⟩
    refine (pcall_G I h1 h2 h3 h5 rv0).mono fun e w' ⟨v, M', h', r, H', e1, e2, e3, e4, _⟩ => ?_
    exact ⟨v, M', h', _, _, e1, h6 r H' e2, e3, e4, fun q => by rw [hcm] at q; cases q⟩
end Go.Proofs.Ytcbknmnlgoeniaa
namespace Go.Proofs.Ytcbknmnlgoeniaa
open Go.RowKit
def pelemsT (sz : Nat) (H : Hp) : PV → Option (List (List PV))
  | .sl sz' es => if sz' = sz then some es else none
  | .own b => match H[b]? with | some (some (.row _ sz' es)) => if sz' = sz then some es else none | _ => none
  | .val (.slice none 0 0) => some []
  | _ => none
theorem pelemsT_ok {M : Mem} {h : Home} {H : Hp} {w : World} (I : Inv M h H w) {x : PV} {v : Value} (r : VR M h x v) {sz : Nat} {es : List (List PV)} (he : pelemsT sz H x = some es) : pelems H x = some es ∧ ∀ row ∈ es, row.length = sz := by
  cases r with
  | sl0 sz' o c =>
    simp only [pelemsT] at he
    split at he
    · simp at he; subst he; exact ⟨rfl, by simp⟩
    · cases he
  | sl sz' es' b off cap f h1 h2 h3 h4 h5 h6 =>
    simp only [pelemsT] at he
    split at he
    · rename_i e; simp at he; subst he; subst e; exact ⟨rfl, h4⟩
    · cases he
  | own b o n c hb =>
    simp only [pelemsT] at he
    split at he
    · rename_i e sz' es' hH
      split at he
      · rename_i q
        simp at he
        subst he
        subst q
        obtain ⟨v', q1, -, us, q3, q4, q6, q5⟩ := I.blk b _ hH
        exact ⟨by simp [pelems, hH], q4⟩
      · cases he
    · cases he
  | val x =>
    unfold pelemsT at he
    split at he
    · rename_i heq; cases heq
    · rename_i heq; cases heq
    · rename_i heq; cases heq; simp at he; subst he; exact ⟨rfl, by simp⟩
    · cases he
  | _ => simp [pelemsT] at he
def thaw1 (b sz : Nat) (es : List (List PV)) : PV → PV
  | .own c => if c = b then .sl sz es else .own c
  | p => p
def thaw (b sz : Nat) (es : List (List PV)) : PV → PV
  | .agg fs => .agg (fs.map (thaw1 b sz es))
  | p => thaw1 b sz es p
def thawB (b sz : Nat) (es : List (List PV)) : Option Blk → Option Blk
  | some (.box cs) => some (.box (cs.map (thaw1 b sz es)))
  | some (.row e z rows) => some (.row e z (rows.map fun row => row.map (thaw1 b sz es)))
  | none => none
def St.thaw (σ : St) (b sz : Nat) (es : List (List PV)) : St := ⟨σ.tm.map (Go.Proofs.Ytcbknmnlgoeniaa.thaw b sz es), (σ.H.set b none).map (thawB b sz es)⟩
def pslice2 (T : Tys) (md : Bool) (t : TypeId) (b : Nat) (lo hi : Option PV) (σ : St) (K : PV → St → Prop) : Prop :=
  ∃ i e' e sz by' es l k, T t = some i ∧ i.d = .slice e' sz by' ∧ σ.H[b]? = some (some (.row e sz es)) ∧ pb lo 0 = some l ∧ pb hi es.length = some k ∧ l ≤ k ∧ k ≤ es.length ∧
    if md && lo.isNone then K (.own σ.H.length) ⟨σ.tm, σ.H.set b none ++ [some (.row e sz (es.take k))]⟩ else (∀ row ∈ es, row.all cloC = true) ∧ K (.sl sz ((es.drop l).take (k - l))) (σ.thaw b sz es)
def pstore (T : Tys) (t : TypeId) (a x : PV) (σ : St) (K : PV → St → Prop) : Prop :=
  ∃ i, T t = some i ∧ (pcellsOf x).length = i.size ∧ (pcellsOf x).all oneP = true ∧ match a with
    | .ptr b o => ∃ cs, σ.H[b]? = some (some (.box cs)) ∧ o + i.size ≤ cs.length ∧ K (.val undef) ⟨σ.tm, σ.H.set b (some (.box (splice cs o (pcellsOf x))))⟩
    | .optr b sz j o => ∃ e es row, σ.H[b]? = some (some (.row e sz es)) ∧ es[j]? = some row ∧ o + i.size ≤ row.length ∧ K (.val undef) ⟨σ.tm, σ.H.set b (some (.row e sz (es.set j (splice row o (pcellsOf x)))))⟩
    | _ => False
def pbuildSlice (T : Tys) (t : TypeId) (len : Nat) (parts : List (Nat × PV)) (σ : St) (K : PV → St → Prop) : Prop :=
  ∃ i e sz by' ie, T t = some i ∧ i.d = .slice e sz by' ∧ T e = some ie ∧ ie.size = sz ∧ parts.length = len ∧ len * sz ≤ 16777216 ∧ len ≤ 16777216 ∧ parts.map (·.1) = List.range len ∧ (∀ row ∈ prow parts, row.length = sz) ∧ (∀ row ∈ prow parts, row.all oneP = true) ∧ K (.own σ.H.length) ⟨σ.tm, σ.H ++ [some (.row e sz (prow parts))]⟩
def pmake (T : Tys) (t : TypeId) (l c : PV) (σ : St) (K : PV → St → Prop) : Prop :=
  ∃ i e sz by' ie n m, T t = some i ∧ i.d = .slice e sz by' ∧ T e = some ie ∧ ie.size = sz ∧ (pcellsOf (cPV ie.zero)).length = sz ∧ (pcellsOf (cPV ie.zero)).all oneP = true ∧ pint l = some n ∧ pint c = some m ∧ 0 ≤ n ∧ n ≤ m ∧ (by' : Int) * m ≤ 281474976710656 ∧ m ≤ 9223372036854775807 ∧ K (.own σ.H.length) ⟨σ.tm, σ.H ++ [some (.row e sz (List.replicate n.toNat (pcellsOf (cPV ie.zero))))]⟩
def pappend (T : Tys) (t : TypeId) (s x : PV) (σ : St) (K : PV → St → Prop) : Prop :=
  ∃ i e sz by' ie es2, T t = some i ∧ i.d = .slice e sz by' ∧ T e = some ie ∧ ie.size = sz ∧ (pcellsOf (cPV ie.zero)).length = sz ∧ 0 < sz ∧ pelemsT sz σ.H x = some es2 ∧ match s with
    | .own b => ∃ es, σ.H[b]? = some (some (.row e sz es)) ∧ es.length + es2.length ≤ 9223372036854775807 ∧ (es.length + es2.length) * by' ≤ 140737488355328 ∧ K (.own σ.H.length) ⟨σ.tm, σ.H.set b none ++ [some (.row e sz (es ++ es2))]⟩
    | .val (.slice none 0 0) => es2.length ≤ 9223372036854775807 ∧ es2.length * by' ≤ 140737488355328 ∧ K (.own (σ.H.length + 1)) ⟨σ.tm, σ.H ++ [none, some (.row e sz es2)]⟩
    | _ => False
def pbytes (T : Tys) (s e : TypeId) (x : PV) (σ : St) (K : PV → St → Prop) : Prop :=
  ∃ q i bs, T e = some q ∧ q.d = .int .u8 ∧ T s = some i ∧ x = .val (.string bs) ∧ bs.size ≤ 9223372036854775807 ∧ K (.sl 1 (bytesL bs.data.toList)) σ
def popO (P : Program) (T : Tys) (md cm : Bool) (op : Op) (ty : TypeId) (σ : St) (K : PV → St → Prop) : Prop :=
  match op with
  | .box _ x => (pcellsOf (ev σ.tm x)).all oneP = true ∧ K (.ptr σ.H.length 0) ⟨σ.tm, σ.H ++ [some (.box (pcellsOf (ev σ.tm x)))]⟩
  | .alloc t => ∃ i, T t = some i ∧ (pcellsOf (cPV i.zero)).all oneP = true ∧ K (.ptr σ.H.length 0) ⟨σ.tm, σ.H ++ [some (.box (pcellsOf (cPV i.zero)))]⟩
  | .store t a x => pstore T t (ev σ.tm a) (ev σ.tm x) σ K
  | .buildSlice t len parts => pbuildSlice T t len (pparts σ.tm parts) σ K
  | .makeSlice t l c => pmake T t (ev σ.tm l) (ev σ.tm c) σ K
  | .slice t x lo hi none => match ev σ.tm x with
    | .own b => pslice2 T md t b (lo.map (ev σ.tm)) (hi.map (ev σ.tm)) σ K
    | pv => pslice T t pv (lo.map (ev σ.tm)) (hi.map (ev σ.tm)) fun r => K r σ
  | .convert s d x => match T d with
    | some ⟨.slice e _ _, _, _⟩ => pbytes T s e (ev σ.tm x) σ K
    | _ => py P T σ.tm σ.H op ty fun r => K r σ
  | .call ⟨.builtin .append, args, ats⟩ => ∃ s x t, args.toList = [s, x] ∧ ats.toList = [t, t] ∧ pappend T t (ev σ.tm s) (ev σ.tm x) σ K
  | .call ⟨.value f, args, _⟩ => match ev σ.tm f with
    | .val (.func (.func g) first captured) => first = #[] ∧ captured = #[] ∧ pcall P cm g (args.toList.map (ev σ.tm)) σ K
    | .clo g caps => pcall P cm g (args.toList.map (ev σ.tm) ++ caps) σ K
    | _ => False
  | _ => py P T σ.tm σ.H op ty fun r => K r σ
def pop (P : Program) (T : Tys) (md cm : Bool) (o : Oper) (σ : St) (K : PV → St → Prop) : Prop := popO P T md cm o.op o.type σ K
theorem TmOk.mono {M M' : Mem} {h h' : Home} {tm : List PV} {ts : Array Value} (t : TmOk M h tm ts) (hM : MLe M M') (hh : HLe h h') : TmOk M' h' tm ts := ⟨t.size, fun i pv v a b => (t.vr i pv v a b).mono hM hh⟩
theorem thaw1_ok {M M' : Mem} {h : Home} {b sz : Nat} {es : List (List PV)} {v : Value} (hM : MLe M M') (hb : h b = some v) (hv : VR M' h (.sl sz es) v) {pv : PV} {u : Value} (r : VR M h pv u) : VR M' h (thaw1 b sz es pv) u := by
  have r' := r.mono hM (.refl _)
  cases pv with
  | own c =>
    simp only [thaw1]
    split
    · rename_i e
      subst e
      cases r with
      | own _ o n c hc =>
        rw [hb] at hc
        cases hc
        exact hv
    · exact r'
  | _ => exact r'
theorem thaw_ok {M M' : Mem} {h : Home} {b sz : Nat} {es : List (List PV)} {v : Value} (hM : MLe M M') (hb : h b = some v) (hv : VR M' h (.sl sz es) v) {pv : PV} {u : Value} (r : VR M h pv u) : VR M' h (thaw b sz es pv) u := by
  cases pv with
  | agg fs =>
    cases r with
    | agg _ vs h1 h2 =>
      refine .agg _ _ (by simpa using h1) fun i pv u a d => ?_
      simp only [List.getElem?_map, Option.map_eq_some_iff] at a
      obtain ⟨q, q1, rfl⟩ := a
      exact thaw1_ok hM hb hv (h2 i q u q1 d)
  | _ => exact thaw1_ok hM hb hv r
theorem freeze_ok {M : Mem} {h : Home} {σ : St} {w : World} (I : Inv M h σ.H w) {b : Nat} {e : TypeId} {sz : Nat} {es : List (List PV)} {v : Value} (hH : σ.H[b]? = some (some (.row e sz es))) (hb : h b = some v) (hcl : ∀ row ∈ es, row.all cloC = true) {ts : Array Value} (ht : TmOk M h σ.tm ts) :
    ∃ M', Step M h σ.H w M' h (σ.thaw b sz es).H w ∧ TmOk M' h (σ.thaw b sz es).tm ts ∧ VR M' h (.sl sz es) v := by
  obtain ⟨v0, q0, ⟨o0, n0, c0, hv0⟩, us, q1, q2, q3, q4⟩ := I.blk b _ hH
  rw [hb] at q0
  cases q0
  have I0 := I.kill b
  -- the new memory
  obtain ⟨M', hM, hmem, hone, hdom, hvr⟩ : ∃ M' : Mem, MLe M M' ∧ (∀ b o u, M' b o = some u → w.cell? ⟨b, o, none⟩ = some u) ∧ (∀ b o u, M' b o = some u → u.oneCell' = true) ∧ (∀ k o, M' k o = none ∨ M' k o = M k o ∨ hblk v = some k) ∧ VR M' h (.sl sz es) v := by
    rcases q1.2 with ⟨e1, e2⟩ | ⟨g, cap, cur, e1, e2, e3, e4, e5, e6, e7⟩
    · refine ⟨M, .refl _, I.mem, I.one, fun k o => .inr (.inl rfl), ?_⟩
      have : es = [] := List.eq_nil_of_length_eq_zero e2
      subst this
      rw [e1]
      exact .sl0 _ _ _
    · subst e1
      have hMg : ∀ o, M g o = none := I.sep g ⟨b, _, _, hH, hb, rfl⟩
      have hM : MLe M (fun k o => if k = g then us[o]? else M k o) := fun k o u q => by
        show (if k = g then us[o]? else M k o) = some u
        rw [if_neg]
        · exact q
        · rintro rfl; rw [hMg] at q; cases q
      refine ⟨fun k o => if k = g then us[o]? else M k o, hM, fun k o u q => ?_, fun k o u q => ?_, fun k o => ?_, ?_⟩
      · replace q : (if k = g then us[o]? else M k o) = some u := q
        split at q
        · rename_i e
          subst e
          have := q1.cells (g := k) rfl o u q
          rw [addr_add, Nat.zero_add] at this
          exact this
        · exact I.mem k o u q
      · replace q : (if k = g then us[o]? else M k o) = some u := q
        split at q
        · exact q3 u (List.mem_of_getElem? q)
        · exact I.one k o u q
      · by_cases e : k = g
        · subst e; exact .inr (.inr rfl)
        · right; left; simp [e]
      · by_cases hn : es = []
        · subst hn; exact .sl0 _ _ _
        · have hl : 0 < es.length := by cases es with | nil => exact absurd rfl hn | cons => simp
          refine VR.sl sz es g 0 cap (fun i j => (us[i * sz + j]?).getD undef) hl e4 e5 q2 (fun i j row pv a d => ?_) (fun i j row pv a d => ?_)
          all_goals
            have hi : i < es.length := (List.getElem?_eq_some_iff.1 a).1
            have hj : j < sz := by have := (List.getElem?_eq_some_iff.1 d).1; rw [q2 row (List.mem_of_getElem? a)] at this; exact this
            have hm : (i + 1) * sz ≤ es.length * sz := Nat.mul_le_mul_right _ hi
            rw [Nat.add_mul] at hm
            have hu : i * sz + j < us.length := by rw [q1.1]; omega
            have hu' : us[i * sz + j]? = some us[i * sz + j] := List.getElem?_eq_getElem hu
          · show (if g = g then us[0 + i * sz + j]? else M g (0 + i * sz + j)) = some ((us[i * sz + j]?).getD undef)
            rw [if_pos rfl, Nat.zero_add, hu']
            rfl
          · rw [hu']
            exact cloC_ok ((q4 i j row pv _ a d hu').mono hM (.refl _)) (List.all_eq_true.1 (hcl row (List.mem_of_getElem? a)) pv (List.mem_of_getElem? d))
  have kill : ∀ {c : Nat} {B : Blk}, (σ.H.set b none)[c]? = some (some B) → c ≠ b ∧ σ.H[c]? = some (some B) := fun {c B} q => by
    by_cases e : b = c
    · subst e
      rw [List.getElem?_set] at q
      simp at q
    · rw [List.getElem?_set_ne e] at q
      exact ⟨Ne.symm e, q⟩
  have back : ∀ {c : Nat} {B : Blk}, (σ.thaw b sz es).H[c]? = some (some B) → ∃ B0, c ≠ b ∧ σ.H[c]? = some (some B0) ∧ thawB b sz es (some B0) = some B := fun {c B} q => by
    simp only [St.thaw, List.getElem?_map, Option.map_eq_some_iff] at q
    obtain ⟨B0, p1, p2⟩ := q
    cases B0 with
    | none => cases p2
    | some B0 => exact ⟨B0, (kill p1).1, (kill p1).2, p2⟩
  have sub : ∀ {k : Nat}, Homes h (σ.thaw b sz es).H k → Homes h σ.H k ∧ hblk v ≠ some k := fun {k} ⟨c, B, u, p1, p2, p3⟩ => by
    obtain ⟨B0, g1, g2, _⟩ := back p1
    exact ⟨⟨c, B0, u, g2, p2, p3⟩, fun hk => g1 (I.inj c b B0 _ u v k g2 hH p2 hb p3 hk)⟩
  refine ⟨M', ⟨hM, .refl _, ⟨hmem, hone, fun c B q => ?_, fun k q o => ?_, fun c c' B B' u u' k g1 g2 g3 g4 g5 g6 => ?_, fun c u q => by simp [St.thaw]; exact I.len c u q, I.glob.mono hM⟩, .refl, fun k q => .inl (sub q).1, fun k o u q => ?_⟩, ⟨by simp [St.thaw]; exact ht.size, fun i pv u a d => ?_⟩, hvr⟩
  · obtain ⟨B0, g1, g2, g3⟩ := back q
    obtain ⟨u, e1, e2⟩ := I.blk c B0 g2
    refine ⟨u, e1, ?_⟩
    cases B0 with
    | box cs =>
      simp only [thawB, Option.some.injEq] at g3
      subst g3
      obtain ⟨k, us', t, p1, p2, p3, p4, p5⟩ := e2
      refine ⟨k, us', t, p1, p2, by simpa using p3, p4, fun j pv u a d => ?_⟩
      simp only [List.getElem?_map, Option.map_eq_some_iff] at a
      obtain ⟨q, a1, rfl⟩ := a
      exact thaw1_ok hM hb hvr (p5 j q u a1 d)
    | row e' z rows =>
      simp only [thawB, Option.some.injEq] at g3
      subst g3
      obtain ⟨p0, us', p1, p2, p3, p4⟩ := e2
      refine ⟨p0, us', by simpa using p1, fun row hr => ?_, p3, fun i j row pv u a d f => ?_⟩
      · simp only [List.mem_map] at hr
        obtain ⟨r0, hr0, rfl⟩ := hr
        simpa using p2 r0 hr0
      · simp only [List.getElem?_map, Option.map_eq_some_iff] at a
        obtain ⟨r0, a1, rfl⟩ := a
        simp only [List.getElem?_map, Option.map_eq_some_iff] at d
        obtain ⟨q, d1, rfl⟩ := d
        exact thaw1_ok hM hb hvr (p4 i j r0 q u a1 d1 f)
  · obtain ⟨s1, s2⟩ := sub q
    rcases hdom k o with d | d | d
    · exact d
    · rw [d]; exact I.sep k s1 o
    · exact absurd d s2
  · obtain ⟨B0, _, e1, _⟩ := back g1
    obtain ⟨B1, _, e2, _⟩ := back g2
    exact I.inj c c' B0 B1 u u' k e1 e2 g3 g4 g5 g6
  · rcases hdom k o with d | d | d
    · rw [d] at q; cases q
    · rw [d] at q; exact .inl q
    · exact .inr (.inl ⟨b, _, v, hH, hb, d⟩)
  · simp only [St.thaw, List.getElem?_map, Option.map_eq_some_iff] at a
    obtain ⟨q, a1, rfl⟩ := a
    exact thaw_ok hM hb hvr (ht.vr i q u a1 d)
end Go.Proofs.Ytcbknmnlgoeniaa
namespace Go.Proofs.Ytcbknmnlgoeniaa
open Go.RowKit
def Eff (M : Mem) (h : Home) (tm : List PV) (op : Op) (w : World) (M' : Mem) (w' : World) : Prop :=
  (quietM op = true → M' = M) ∧ ∀ b, tgt tm op = some b → ∀ k, k < w.heap.size → (∀ v, h b = some v → hblk v ≠ some k) → w'.heap[k]? = w.heap[k]?
theorem Eff.grown {M : Mem} {h : Home} {tm : List PV} {op : Op} {w w' : World} {b : Nat} {hv : Value} (hb : h b = some hv) (hg : w.grownBy w' (hblk hv)) (ht : ∀ c, tgt tm op = some c → c = b) : Eff M h tm op w M w' :=
  ⟨fun _ => rfl, fun c hc k hk hn => hg.block k hk fun e => by rw [ht c hc] at hn; exact hn hv hb e.symm⟩
def Next' (cm : Bool) (M : Mem) (h : Home) (σ : St) (a : Act) (o : Oper) (w : World) (K : PV → St → Prop) (next : Act → World → Prop) : Prop :=
  ∀ pv v M' h' σ' w', K pv σ' → (cm = false → extOp o.op = true → Ext w w') → Eff M h σ.tm o.op w M' w' → Step M h σ.H w M' h' σ'.H w' → TmOk M' h' σ'.tm a.tmps → VR M' h' pv v → next (a.put o.dst v) w'
theorem wp_value {P : Program} {o : Oper} {a : Act} {w w' : World} {v : Value} {next : Act → World → Prop} {Q : Exit → Act → World → Prop} (hr : (execOp a.eval o).run P w = .ok (.value v) w') (hn : next (a.put o.dst v) w') : o.wp P a w next Q := by
  unfold Oper.wp
  rw [hr]
  exact hn
theorem wp_skip' {P : Program} {o : Oper} {a : Act} {w w' : World} {next : Act → World → Prop} {Q : Exit → Act → World → Prop} (hr : (execOp a.eval o).run P w = .ok .skip w') (hn : next (a.put o.dst undef) w') : o.wp P a w next Q := by
  unfold Oper.wp
  rw [hr]
  exact hn
theorem args_cr {M : Mem} {h : Home} {tm : List PV} {a : Act} (ht : TmOk M h tm a.tmps) (args : Array Operand) : CR M h (args.toList.map (ev tm)) (args.map a.eval) :=
  ⟨by simp, fun i pv v h1 h2 => by
    simp only [List.getElem?_map, Array.getElem?_toList, Array.getElem?_map, Option.map_eq_some_iff] at h1 h2
    obtain ⟨x, q1, rfl⟩ := h1
    obtain ⟨y, q2, rfl⟩ := h2
    rw [q1] at q2
    cases q2
    exact ev_vr ht x⟩
theorem CR.append {M : Mem} {h : Home} {a b : List PV} {x y : Array Value} (r : CR M h a x) (q : CR M h b y) : CR M h (a ++ b) (x ++ y) :=
  ⟨by simp [r.1, q.1], fun i pv v h1 h2 => by
    by_cases hi : i < a.length
    · rw [List.getElem?_append_left hi] at h1
      rw [Array.getElem?_append_left (by rw [← r.1]; exact hi)] at h2
      exact r.2 i pv v h1 h2
    · rw [List.getElem?_append_right (by omega)] at h1
      rw [Array.getElem?_append_right (by rw [← r.1]; omega), ← r.1] at h2
      exact q.2 _ pv v h1 h2⟩
theorem pcall_ok {P : Program} {M : Mem} {h : Home} {σ : St} {w : World} {a : Act} (I : Inv M h σ.H w) (ht : TmOk M h σ.tm a.tmps) (o : Oper) {g : FuncId} {args : List PV} {vs : Array Value} (rv : CR M h args vs) (hr : (execOp a.eval o).run P w = (callFunc g vs).run P w) {K : PV → St → Prop} {cm : Bool} (hk : pcall P cm g args σ K) (hno : quietM o.op = false ∧ ∀ tm, tgt tm o.op = none) {next : Act → World → Prop} {Q : Exit → Act → World → Prop} (hn : Next' cm M h σ a o w K next) : o.wp P a w next Q := by
  obtain ⟨fn, c1, c2, c3⟩ := hk.1
  unfold Oper.wp
  rw [hr]
  have : (callFunc g vs).run P w = .ok (.enter g vs) w := by
    simp only [callFunc, program, Sem.run_bind, Sem.run, Result.andThen_ok, c1, c2, c3, Bool.false_eq_true, if_false, pure]
  rw [this, Oper.upon_enter]
  refine (pcall_sound I rv hk).mono fun e w' ⟨v, M', h', r, H', e1, e2, e3, e4, e5⟩ => ?_
  subst e1
  exact hn r v M' h' ⟨σ.tm, H'⟩ w' e2 (fun q _ => e5 q) ⟨fun q => (by rw [hno.1] at q; cases q), fun b q => by rw [hno.2] at q; cases q⟩ e4 (ht.mono e4.mle e4.hle) e3
theorem py_next {P : Program} {T : Tys} (hT : TysOk P T) (hE : elemsOk P T) {M : Mem} {h : Home} {σ : St} {w : World} {a : Act} (I : Inv M h σ.H w) (ht : TmOk M h σ.tm a.tmps) (o : Oper) {K : PV → St → Prop} {cm : Bool} (hk : py P T σ.tm σ.H o.op o.type fun r => K r σ) {next : Act → World → Prop} {Q : Exit → Act → World → Prop} (hn : Next' cm M h σ a o w K next) : o.wp P a w next Q := by
  obtain ⟨pv, v, h1, h2, h3⟩ := py_ok hT hE I ht o hk
  exact wp_value (h3 w fun _ => Ext.refl w) (hn pv v M h σ w h1 (fun _ _ => Ext.refl w) ⟨fun _ => rfl, fun _ _ _ _ _ => rfl⟩ (Step.refl I) ht h2)
theorem undef_vr {M : Mem} {h : Home} : VR M h (.val undef) undef := .val _
theorem td_slice {P : Program} {d : TypeDesc} {e : TypeId} {sz by' : Nat} (h : tdOf P d = .slice e sz by') : d = .slice e ∧ sz = P.cellsOf e ∧ by' = P.bytesOf e := by
  cases d <;> simp [tdOf] at h
  obtain ⟨rfl, rfl, rfl⟩ := h
  exact ⟨rfl, rfl, rfl⟩
set_option maxHeartbeats 1000000 in
theorem pop_ok {P : Program} {T : Tys} (hT : TysOk P T) (hE : elemsOk P T) (md cm : Bool) {M : Mem} {h : Home} {σ : St} {w : World} {a : Act} (I : Inv M h σ.H w) (ht : TmOk M h σ.tm a.tmps) (o : Oper) {K : PV → St → Prop} (hk : pop P T md cm o σ K) {next : Act → World → Prop} {Q : Exit → Act → World → Prop} (hn : Next' cm M h σ a o w K next) : o.wp P a w next Q := by
  have hk0 := hk
  unfold pop popO at hk
  split at hk
  · -- box
    rename_i t x hop
    obtain ⟨ho, hk⟩ := hk
    obtain ⟨h', w', r1, r2, r3, r4⟩ := box_ok (P := P) I (pcellsOf_ok (ev_vr ht x)) ho t rfl
    refine wp_value (v := .pointer (some ⟨w.heap.size, 0, none⟩)) (w' := w') ?_ (hn _ _ _ _ _ _ hk (fun _ _ => r4) ⟨fun _ => rfl, fun b q => by rw [hop] at q; cases q⟩ r2 (ht.mono r2.mle r2.hle) r3)
    unfold execOp
    rw [hop]
    exact run_v (by simp only [Instr.box, Sem.run_bind, r1, Result.andThen_ok, Sem.run_pure])
  · -- alloc
    rename_i t hop
    obtain ⟨i, hi, ho, hk⟩ := hk
    obtain ⟨f, d, p1, p2, p3, p4, p5⟩ := ty_parts (hT t i hi)
    obtain ⟨h', w', r1, r2, r3, r4⟩ := box_ok (P := P) I (pcellsOf_ok (cPV_vr i.zero)) ho t rfl
    refine wp_value (v := .pointer (some ⟨w.heap.size, 0, none⟩)) (w' := w') ?_ (hn _ _ _ _ _ _ hk (fun _ _ => r4) ⟨fun _ => rfl, fun b q => by rw [hop] at q; cases q⟩ r2 (ht.mono r2.mle r2.hle) r3)
    unfold execOp
    rw [hop]
    have hz : (zeroValue t).run P w = .ok i.zero w := by simp [zeroValue, typeInfo, p1, p5]
    exact run_v (by simp only [Instr.alloc, Sem.run_bind, hz, r1, Result.andThen_ok, Sem.run_pure])
  · -- store
    rename_i t x y hop
    obtain ⟨i, hi, hs, ho, hk⟩ := hk
    obtain ⟨f, d, p1, p2, p3, p4, p5⟩ := ty_parts (hT t i hi)
    have hx := ev_vr ht x
    have ry := pcellsOf_ok (ev_vr ht y)
    have fin : ∀ (w' : World) (H' : Hp), (Instr.storeAt t (a.eval x) (a.eval y)).run P w = .ok () w' → Step M h σ.H w M h H' w' → K (.val undef) ⟨σ.tm, H'⟩ → Eff M h σ.tm o.op w M w' → o.wp P a w next Q := fun w' H' r1 r2 hK hEf => by
      refine wp_skip' (w' := w') ?_ (hn (.val undef) undef _ _ ⟨σ.tm, H'⟩ _ hK (fun _ q => by rw [hop] at q; cases q) hEf r2 ht undef_vr)
      unfold execOp
      rw [hop]
      simp only [Sem.run_bind, r1, Result.andThen_ok, Sem.run_pure]
    split at hk
    · rename_i b k he
      obtain ⟨cs, h1, h2, h3⟩ := hk
      rw [he] at hx
      obtain ⟨w', r1, r2, hv, hb, hg⟩ := store_box (P := P) I h1 hx ry ho p1 (by omega) (by omega)
      exact fin w' _ r1 r2 h3 (.grown hb hg fun c q => by rw [hop] at q; simp only [tgt, he, Option.some.injEq] at q; exact q.symm)
    · rename_i b sz j k he
      obtain ⟨e, es, row, h1, h2, h3, h4⟩ := hk
      rw [he] at hx
      obtain ⟨w', r1, r2, hv, hb, hg⟩ := store_row (P := P) I h1 hx h2 ry ho p1 (by omega) (by omega)
      exact fin w' _ r1 r2 h4 (.grown hb hg fun c q => by rw [hop] at q; simp only [tgt, he, Option.some.injEq] at q; exact q.symm)
    · exact hk.elim
  · -- buildSlice
    rename_i t len parts hop
    obtain ⟨i, e, sz, by', ie, hi, hid, hie, hsz, rfl, hl1, hl2, hidx, hrow, ho, hk⟩ := hk
    obtain ⟨f, d, p1, p2, p3, p4, p5⟩ := ty_parts (hT t i hi)
    obtain ⟨fe, de, e1, e2, e3, e4, e5⟩ := ty_parts (hT e ie hie)
    rw [hid] at p3
    obtain ⟨rfl, -, -⟩ := td_slice p3
    have hpp := parts_ok (M := M) (h := h) ht parts
    obtain ⟨h', v', w', r1, r2, r3, r4⟩ := build_ok (P := P) I (vps := parts.map fun p => (p.1, a.eval p.2)) (parts := pparts σ.tm parts) (by unfold vparts at hpp; simpa using hpp) p2 e1 e5 (fun j p hj => by
      have hj' : j < (pparts σ.tm parts).length := (List.getElem?_eq_some_iff.1 hj).1
      have q : ((pparts σ.tm parts).map (·.1))[j]? = some p.1 := by rw [List.getElem?_map, hj]; rfl
      rw [hidx, List.getElem?_range hj'] at q
      refine ⟨by simpa using q.symm, ?_⟩
      rw [hrow (pcellsOf p.2) (by unfold prow; exact List.mem_map.2 ⟨p, List.mem_of_getElem? hj, rfl⟩)]
      omega) ho (by rw [e4, hsz]; exact hl1) hl2
    rw [e4, hsz] at r2
    refine wp_value (v := v') (w' := w') ?_ (hn _ _ _ _ _ _ hk (fun _ _ => r4) ⟨fun _ => rfl, fun b q => by rw [hop] at q; cases q⟩ r2 (ht.mono r2.mle r2.hle) r3)
    unfold execOp
    rw [hop]
    exact run_v r1
  · -- makeSlice
    rename_i t l c hop
    obtain ⟨i, e, sz, by', ie, n, m, hi, hid, hie, hsz, hzl, hzo, hl, hc, h0, hnm, hb, hm, hk⟩ := hk
    obtain ⟨f, d, p1, p2, p3, p4, p5⟩ := ty_parts (hT t i hi)
    obtain ⟨fe, de, e1, e2, e3, e4, e5⟩ := ty_parts (hT e ie hie)
    rw [hid] at p3
    obtain ⟨rfl, -, rfl⟩ := td_slice p3
    obtain ⟨kl, hlv⟩ := pint_ok (ev_vr ht l) hl
    obtain ⟨kc, hcv⟩ := pint_ok (ev_vr ht c) hc
    have hby : fe.bytes = P.bytesOf e := by simp [Program.bytesOf, e1]
    have rz := pcellsOf_ok (cPV_vr (M := M) (h := h) ie.zero)
    obtain ⟨h', v', w', r1, r2, r3, r4⟩ := make_ok (P := P) I p2 e1 e5 (by rw [← rz.1, hzl, ← hsz, e4]) hzo kl kc n m h0 hnm (by rw [hby]; exact hb) hm
    rw [e4, hsz] at r2
    refine wp_value (v := v') (w' := w') ?_ (hn _ _ _ _ _ _ hk (fun _ _ => r4) ⟨fun _ => rfl, fun b q => by rw [hop] at q; cases q⟩ r2 (ht.mono r2.mle r2.hle) r3)
    unfold execOp
    rw [hop]
    simp only [hlv, hcv]
    exact run_v r1
  · -- slice
    rename_i t x lo hi hop
    have hx := ev_vr ht x
    split at hk
    · rename_i b he
      obtain ⟨i, e', e, sz, by', es, l, k, hi', hid, hH, hl, hkk, h1, h2, hk⟩ := hk
      obtain ⟨f, d, p1, p2, p3, p4, p5⟩ := ty_parts (hT t i hi')
      rw [hid] at p3
      obtain ⟨rfl, -, -⟩ := td_slice p3
      have hEt := hE t i hi'
      rw [hid] at hEt
      rw [he] at hx
      generalize hgv : a.eval x = vx at hx
      cases hx with
      | own _ oo n c hb =>
        obtain ⟨v0, q0, q0', us, q1, q2, q3, q4⟩ := I.blk b _ hH
        rw [hb] at q0
        cases q0
        have hnc : n = es.length ∧ es.length ≤ c := by
          rcases q1.2 with ⟨g1, g2⟩ | ⟨g, cap, cur, g1, g2, g3, g4, _⟩
          · cases g1; exact ⟨by omega, by omega⟩
          · cases g1; exact ⟨rfl, g4⟩
        obtain ⟨rfl, hcap⟩ := hnc
        have hbd := fun w' : World => bounds_ok (P := P) (cap := c) (vro_map ht lo) (vro_map ht hi) hl hkk h1 (by omega) true w'
        have run : ∀ (v' : Value), (Instr.sliceAt t (.slice oo es.length c) (lo.map a.eval) (hi.map a.eval) none).run P w = .ok v' w → (execOp a.eval o).run P w = .ok (.value v') w := fun v' r1 => by
          unfold execOp
          rw [hop]
          simp only [hgv]
          exact run_v r1
        split at hk
        · rename_i hmd
          have hlo : lo = none := by cases lo with | none => rfl | some _ => simp at hmd
          subst hlo
          have hl0 : l = 0 := by simp [pb] at hl; exact hl.symm
          subst hl0
          have r1 : (Instr.sliceAt t (.slice oo es.length c) (Option.map a.eval none) (hi.map a.eval) none).run P w = .ok (.slice oo k c) w := by
            have ho : (if c = 0 then oo else oo.map (·.add (0 * P.cellsOf e'))) = oo := by
              split
              · rfl
              · cases oo with
                | none => rfl
                | some ad => simp [Addr.add]
            have := hbd w
            simp only [Instr.sliceAt, Instr.slice, Sem.run_bind, run_underlying p2, Result.andThen_ok, this, sizeOf_cells (.inr hEt), Sem.run_pure, ho, Nat.sub_zero]
          have I0 := I.kill b
          have hkb : ∀ j, hblk (.slice oo k c) = some j → ¬ Homes h (σ.H.set b none) j ∧ ∀ q, M j q = none := fun j hj => by
            have hj' : hblk (.slice oo es.length c) = some j := by cases oo with | none => cases hj | some ad => exact hj
            refine ⟨fun ⟨d, B, u, g1, g2, g3⟩ => ?_, I.sep j ⟨b, _, _, hH, hb, hj'⟩⟩
            by_cases q : b = d
            · subst q
              rw [List.getElem?_set] at g1
              simp at g1
            · rw [List.getElem?_set_ne q] at g1
              exact q (I.inj b d _ B _ u j hH g1 hb g2 hj' g3)
          have hlen : (σ.H.set b none).length = σ.H.length := by simp
          have hus : us.length = es.length * sz := q1.1
          have hks : k * sz ≤ es.length * sz := Nat.mul_le_mul_right _ h2
          have hown : w.ownsRow 0 e sz (.slice oo k c) (es.take k).length (us.take (k * sz)) := by
            have hkl : (es.take k).length = k := by simp; omega
            rw [hkl]
            refine ⟨by simp; omega, ?_⟩
            rcases q1.2 with ⟨g1, g2⟩ | ⟨g, cap, cur, g1, g2, g3, g4, g5, g6, g7⟩
            · left
              injection g1 with a1 a2 a3
              subst a1
              subst a3
              have : k = 0 := by omega
              subst this
              exact ⟨rfl, rfl⟩
            · right
              cases g1
              exact ⟨g, _, cur, rfl, g2, g3, by omega, g5, g6, by rw [← g7, List.take_take, Nat.min_eq_left hks]⟩
          have hin := I0.push (B := .row e sz (es.take k)) (v := .slice oo k c) ⟨⟨_, _, _, rfl⟩, _, hown, fun row hr => q2 row (List.mem_of_mem_take hr), fun u hu => q3 u (List.mem_of_mem_take hu), fun i j row pv u g1 g2 g3 => by
            rw [List.getElem?_take] at g1 g3
            split at g1
            · split at g3
              · exact (q4 i j row pv u g1 g2 g3).mono (.refl _) (upd_le I0.len)
              · cases g3
            · cases g1⟩ hkb
          rw [hlen] at hin
          refine wp_value (run _ r1) (hn _ _ M _ ⟨σ.tm, σ.H.set b none ++ [some (.row e sz (es.take k))]⟩ w hk (fun _ q => by rw [hop] at q; cases q) ⟨fun _ => rfl, fun b q => by rw [hop] at q; cases q⟩ ⟨.refl _, upd_le I.len, hin, .refl, fun j q => ?_, fun _ _ _ q => .inl q⟩ (ht.mono (.refl _) (upd_le I.len)) (.own _ oo k c upd_self))
          rw [← hlen] at q
          rcases Homes.push q with q | q
          · exact .inl q.kill
          · exact .inl ⟨b, _, _, hH, hb, by cases oo with | none => cases q | some ad => exact q⟩
        · obtain ⟨hcl, hk⟩ := hk
          obtain ⟨M', s1, s2, s3⟩ := freeze_ok I hH hb hcl ht
          obtain ⟨pv, v', r1, r2, r3⟩ := pslice_ok hT hE s3 (vro_map (ht.mono s1.mle (.refl _)) lo) (vro_map (ht.mono s1.mle (.refl _)) hi) (t := t) (K := fun pv => pv = .sl sz ((es.drop l).take (k - l))) ⟨i, hi', by rw [hid]; exact ⟨es, l, k, rfl, hl, hkk, h1, h2, rfl⟩⟩
          subst r1
          exact wp_value (run _ (r3 w)) (hn _ _ M' h (σ.thaw b sz es) w hk (fun _ q => by rw [hop] at q; cases q) ⟨fun q => (by rw [hop] at q; cases q), fun b q => by rw [hop] at q; cases q⟩ s1 s2 r2)
    · rename_i pv he
      refine py_next hT hE I ht o ?_ hn
      unfold py
      rw [hop]
      exact ⟨rfl, hk⟩
  · -- convert
    rename_i s d x hop
    split at hk
    · rename_i e sz by' size zero hTd
      obtain ⟨q, i, bs, h1, h2, h3, h4, h5, h6⟩ := hk
      have hx := ev_vr ht x
      rw [h4] at hx
      have hxv := vr_val hx
      obtain ⟨_, dd, _, d2, d3, _, _⟩ := ty_parts (hT d _ hTd)
      obtain ⟨_, ds, _, s2, s3, _, _⟩ := ty_parts (hT s i h3)
      obtain ⟨_, de, _, e2, e3, _, _⟩ := ty_parts (hT e q h1)
      rw [h2] at e3
      obtain ⟨rfl, -, -⟩ := td_slice d3
      have hee : de = .int .u8 := by cases de <;> simp [tdOf] at e3; subst e3; rfl
      subst hee
      obtain ⟨M', v', w', r1, r2, r3⟩ := bytes_ok (P := P) I (x := bs) s2 d2 e2 (by unfold maxLen; omega)
      refine wp_value (v := v') (w' := w') ?_ (hn _ _ _ _ σ _ h6 (fun _ q => by rw [hop] at q; cases q) ⟨fun q => (by rw [hop] at q; cases q), fun b q => by rw [hop] at q; cases q⟩ r2 (ht.mono r2.mle r2.hle) r3)
      unfold execOp
      rw [hop]
      simp only [hxv]
      exact run_v r1
    · exact py_next hT hE I ht o (by rw [hop]; rw [hop] at hk; exact hk) hn
  · -- append
    rename_i args ats hop
    obtain ⟨s, x, t, ha, hb, i, e, sz, by', ie, es2, hi, hid, hie, hsz, hzl, hz0, he2, hk⟩ := hk
    obtain rfl := arr_eq ha
    obtain rfl := arr_eq hb
    obtain ⟨f, d, p1, p2, p3, p4, p5⟩ := ty_parts (hT t i hi)
    obtain ⟨fe, de, e1, e2, e3, e4, e5⟩ := ty_parts (hT e ie hie)
    rw [hid] at p3
    obtain ⟨rfl, -, rfl⟩ := td_slice p3
    have hs := ev_vr ht s
    have hx := ev_vr ht x
    have hby : fe.bytes = P.bytesOf e := by simp [Program.bytesOf, e1]
    have rz := pcellsOf_ok (cPV_vr (M := M) (h := h) ie.zero)
    have hzs : ie.zero.cells.size = sz := by rw [← rz.1, hzl]
    obtain ⟨g1, g2⟩ := pelemsT_ok I hx he2
    have run : ∀ (v' : Value) (w' : World), (Builtin.append_ #[t, t] o.type #[a.eval s, a.eval x]).run P w = .ok v' w' → (execOp a.eval o).run P w = .ok (.value v') w' := fun v' w' r1 => by
      unfold execOp
      rw [hop]
      simp only [resolve, invoke, builtin, Sem.run_bind, Sem.run_pure, Result.andThen_ok, List.map_toArray, List.map_cons, List.map_nil, r1]
    split at hk
    · rename_i b he
      obtain ⟨es, hH, b1, b2, hk⟩ := hk
      rw [he] at hs
      generalize hgs : a.eval s = vs at hs run
      cases hs with
      | own _ oo n c hb =>
        obtain ⟨h', v', w', r1, r2, r3, r9⟩ := append_ok (P := P) I hH hb hx g1 g2 t o.type fe ie.zero (P.bytesOf e) p2 e1 e5 (by rw [e4, hsz]) hby hzs hz0 (by unfold maxLen; exact b1) b2
        have x1 : extOp o.op = true → Ext w w' := fun q => by
          exfalso
          rw [hop] at q
          simp only [extOp] at q
          split at q
          · rename_i g0
            simp only [List.cons.injEq] at g0
            rw [g0.1] at he
            cases he
          · cases q
        have x2 : ∀ c, tgt σ.tm o.op = some c → c = b := fun c q => by
          rw [hop] at q
          simp only [tgt, he, Option.some.injEq] at q
          exact q.symm
        exact wp_value (run v' w' r1) (hn _ _ _ _ _ _ hk (fun _ q => x1 q) (.grown hb r9 x2) r2 (ht.mono r2.mle r2.hle) r3)
    · rename_i he
      obtain ⟨b1, b2, hk⟩ := hk
      rw [he] at hs
      have hsv := vr_val hs
      have hpush := Step.push (B := .row e sz []) (v := .slice none 0 0) I (Ext.refl w) ⟨⟨_, _, _, rfl⟩, [], World.ownsRow_nil w 0 e sz, by simp, by simp, fun i j row pv u a => by simp at a⟩ (fun k q => by simp [hblk] at q)
      have hx' := hx.mono hpush.mle hpush.hle
      have g1' : pelems (σ.H ++ [some (.row e sz [])]) (ev σ.tm x) = some es2 := by
        cases hxx : ev σ.tm x with
        | own c =>
          rw [hxx] at g1
          simp only [pelems] at g1 ⊢
          have hc : c < σ.H.length := by
            rcases Nat.lt_or_ge c σ.H.length with q | q
            · exact q
            · rw [List.getElem?_eq_none q] at g1; cases g1
          rw [List.getElem?_append_left hc]
          exact g1
        | val y =>
          have pv : ∀ H H' : Hp, pelems H (.val y) = pelems H' (.val y) := fun H H' => by unfold pelems; split <;> first | rfl | simp_all
          rw [hxx] at g1
          rw [pv _ σ.H]
          exact g1
        | _ => rw [hxx] at g1; exact g1
      obtain ⟨h', v', w', r1, r2, r3, r9⟩ := append_ok (P := P) hpush.inv (b := σ.H.length) (es := []) (by simp) upd_self hx' g1' g2 t o.type fe ie.zero (P.bytesOf e) p2 e1 e5 (by rw [e4, hsz]) hby hzs hz0 (by unfold maxLen; simpa using b1) (by simpa using b2)
      have e0 : (σ.H ++ [some (Blk.row e sz [])]).set σ.H.length none ++ [some (Blk.row e sz ([] ++ es2))] = σ.H ++ [none, some (.row e sz es2)] := by simp
      rw [e0] at r2
      have st := hpush.trans r2
      refine wp_value (run v' w' (by rw [hsv]; exact r1)) (hn _ _ _ _ ⟨σ.tm, σ.H ++ [none, some (.row e sz es2)]⟩ _ hk (fun _ _ => Ext.of_grownBy r9) ⟨fun _ => rfl, fun b q => by rw [hop] at q; simp only [tgt, he, reduceCtorEq] at q⟩ st (ht.mono st.mle st.hle) (by simpa using r3))
    · exact hk.elim
  · -- call
    rename_i f args ats hop
    have hf := ev_vr ht f
    have hargs := args_cr ht args
    have exec : ∀ g (c : Array Value), a.eval f = .func (.func g) #[] c → (execOp a.eval o).run P w = (callFunc g (args.map a.eval ++ c)).run P w := fun g c e => by
      unfold execOp
      rw [hop]
      simp only [resolve, e, Deferred.ofValue, Sem.run_bind, Sem.run_pure, Result.andThen_ok, invoke]
      simp
    split at hk
    · rename_i g first captured he
      obtain ⟨rfl, rfl, hk⟩ := hk
      rw [he] at hf
      have := exec g #[] (vr_val hf)
      refine pcall_ok I ht o hargs ?_ hk (by rw [hop]; exact ⟨rfl, fun _ => rfl⟩) hn
      simpa using this
    · rename_i g caps he
      rw [he] at hf
      generalize hgf : a.eval f = vf at hf exec
      cases hf with
      | clo _ _ vs e1 e2 => exact pcall_ok I ht o (hargs.append ⟨e1, e2⟩) (exec g vs rfl) hk (by rw [hop]; exact ⟨rfl, fun _ => rfl⟩) hn
    · exact hk.elim
  · exact py_next hT hE I ht o hk hn
end Go.Proofs.Ytcbknmnlgoeniaa
namespace Go.Proofs.Ytcbknmnlgoeniaa
open Go.RowKit
structure Env where
  M : Mem
  h : Home
  H : Hp
  w : World
  N : Nat
  hN : ∀ b v, h b = some v → b < N
def Rel (E : Env) (σ : St) (a : Act) (w : World) : Prop := ∃ M h, Step E.M E.h E.H E.w M h σ.H w ∧ TmOk M h σ.tm a.tmps ∧ a.defers = []
def St.put (σ : St) (dst : Option Tmp) (pv : PV) : St := match dst with | some d => ⟨σ.tm.set d pv, σ.H⟩ | none => σ
theorem TmOk.put {M : Mem} {h : Home} {σ : St} {a : Act} (t : TmOk M h σ.tm a.tmps) {pv : PV} {v : Value} (r : VR M h pv v) (dst : Option Tmp) : TmOk M h (σ.put dst pv).tm (a.put dst v).tmps := by
  cases dst with
  | none => exact t
  | some d =>
    refine ⟨by simp [St.put, Act.put, t.size], fun i p u h1 h2 => ?_⟩
    simp only [St.put, Act.put] at h1 h2
    by_cases e : d = i
    · subst e
      have hd : d < σ.tm.length := by have := (List.getElem?_eq_some_iff.1 h1).1; simpa using this
      rw [List.getElem?_set_self hd] at h1
      rw [Array.getElem?_setIfInBounds_self_of_lt (by rw [t.size]; exact hd)] at h2
      cases h1
      cases h2
      exact r
    · rw [List.getElem?_set_ne e] at h1
      rw [Array.getElem?_setIfInBounds_ne e] at h2
      exact t.vr i p u h1 h2
theorem St.put_H (σ : St) (dst : Option Tmp) (pv : PV) : (σ.put dst pv).H = σ.H := by cases dst <;> rfl
theorem Act.put_defers' (a : Act) (dst : Option Tmp) (v : Value) : (a.put dst v).defers = a.defers := by cases dst <;> rfl
def pyielded (ops : Array Oper) (tm : List PV) (j : Nat) : Option Bool :=
  match ((ops[j]?).bind (·.dst)).bind (tm[·]?) with
  | some (.val (.bool b)) => some b
  | _ => none
def pwanted (ops : Array Oper) (tm : List PV) (g : Option (Nat × Bool)) : Bool :=
  match g with
  | none => true
  | some (j, want) => pyielded ops tm j == some want
theorem yielded_eq {M : Mem} {h : Home} {tm : List PV} {a : Act} (t : TmOk M h tm a.tmps) (ops : Array Oper) (j : Nat) : yielded ops a.tmps j = pyielded ops tm j := by
  unfold yielded pyielded
  cases hd : (ops[j]?).bind (·.dst) with
  | none => rfl
  | some d =>
    simp only [Option.bind_some]
    cases hp : tm[d]? with
    | none =>
      have : a.tmps[d]? = none := Array.getElem?_eq_none (by rw [t.size]; exact List.getElem?_eq_none_iff.1 hp)
      rw [this]
    | some pv =>
      have hlt : d < a.tmps.size := by rw [t.size]; exact (List.getElem?_eq_some_iff.1 hp).1
      have hv : a.tmps[d]? = some a.tmps[d] := Array.getElem?_eq_getElem hlt
      rw [hv]
      have r := t.vr d pv _ hp hv
      generalize a.tmps[d] = v at r
      cases r with
      | val => cases v <;> rfl
      | _ => rfl
theorem wanted_eq {M : Mem} {h : Home} {tm : List PV} {a : Act} (t : TmOk M h tm a.tmps) (ops : Array Oper) (o : Oper) : Region.wanted o (yielded ops a.tmps) = pwanted ops tm o.guard := by
  unfold Region.wanted pwanted
  cases o.guard with
  | none => rfl
  | some g => obtain ⟨j, want⟩ := g; simp only [yielded_eq t]
theorem Rel.skip {E : Env} {σ : St} {a : Act} {w : World} (r : Rel E σ a w) (dst : Option Tmp) : Rel E (σ.put dst (.val undef)) (a.put dst undef) w := by
  obtain ⟨M, h, s, t, d⟩ := r
  exact ⟨M, h, by rw [St.put_H]; exact s, t.put undef_vr dst, by rw [Act.put_defers']; exact d⟩
def pops (P : Program) (T : Tys) (md : Bool) (ops : Array Oper) (K : St → Prop) : List Oper → St → Prop
  | [], σ => K σ
  | o :: rest, σ => if pwanted ops σ.tm o.guard then pop P T md true o σ (fun pv σ' => pops P T md ops K rest (σ'.put o.dst pv)) else pops P T md ops K rest (σ.put o.dst (.val undef))
section
variable {P : Program} {T : Tys} {E : Env}
theorem pop_rel (hT : TysOk P T) (hE : elemsOk P T) {md cm : Bool} {σ : St} {a : Act} {w : World} (r : Rel E σ a w) {o : Oper} {K : PV → St → Prop} (hk : pop P T md cm o σ K) {next : Act → World → Prop} {Q : Exit → Act → World → Prop}
    (hn : ∀ pv σ' v w', K pv σ' → (cm = false → extOp o.op = true → Ext w w') → Rel E (σ'.put o.dst pv) (a.put o.dst v) w' → next (a.put o.dst v) w') : o.wp P a w next Q := by
  obtain ⟨M, h, s, t, d⟩ := r
  refine pop_ok hT hE md cm s.inv t o hk fun pv v M' h' σ' w' h1 h2 _ h3 h4 h5 => hn pv σ' v w' h1 h2 ⟨M', h', ?_, ?_, by rw [Act.put_defers']; exact d⟩
  · rw [St.put_H]; exact s.trans h3
  · exact TmOk.put (σ := σ') (a := a) h4 h5 o.dst
theorem pops_ok (hT : TysOk P T) (hE : elemsOk P T) {md : Bool} (ops : Array Oper) {K : St → Prop} {Q : Exit → Act → World → Prop} (hq : ∀ σ' a' w', K σ' → Rel E σ' a' w' → Q .normal a' w') :
    ∀ (l : List Oper) (σ : St) (a : Act) (w : World), pops P T md ops K l σ → Rel E σ a w → wpList P ops Q l a w
  | [], σ, a, w, hk, r => hq σ a w hk r
  | o :: rest, σ, a, w, hk, r => by
    have hw := r.elim fun M q => q.elim fun h q => wanted_eq q.2.1 ops o
    simp only [pops] at hk
    simp only [wpList, hw]
    split at hk
    · rename_i hp
      rw [if_pos hp]
      exact .inl (pop_rel hT hE r hk fun pv σ' v w' h1 _ h2 => pops_ok hT hE ops hq rest _ _ w' h1 h2)
    · rename_i hp
      rw [if_neg hp]
      exact pops_ok hT hE ops hq rest _ _ w hk (r.skip o.dst)
end
def kindAt (ops : Array Oper) (i : Nat) : Nat := match ops[i]? with | some o => kindOp o.op | none => 3
def waits (ops : Array Oper) (i : Nat) : Nat → Nat → Bool
  | 0, _ => false
  | n + 1, j => ((ops[j]?).map fun o => o.after.any fun e => Region.binds .any e && (e.on == i || waits ops i n e.on)).getD false
def ClosedL (ops : Array Oper) (listed : Array Bool) : Prop := ∀ k o, ops[k]? = some o → listed.getD k false = true → ∀ e ∈ o.after, Region.binds .any e = true → listed.getD e.on false = true
theorem getD_ft {l : Array Bool} {i : Nat} (h : l.getD i true = false) (h' : l.getD i false = true) : False := by
  rcases Nat.lt_or_ge i l.size with q | q
  · simp [q] at h h'; rw [h] at h'; cases h'
  · simp [Array.getElem?_eq_none q] at h'
theorem waits_no {ops : Array Oper} {i : Nat} {listed : Array Bool} (hc : ClosedL ops listed) (hi : listed.getD i true = false) : ∀ (n j : Nat), waits ops i n j = true → (∃ o, ops[j]? = some o ∧ ∀ e ∈ o.after, Region.binds .any e = true → listed.getD e.on false = true) → False
  | 0, _, h, _ => by cases h
  | n + 1, j, h, ⟨o, ho, ha⟩ => by
    simp only [waits, ho, Option.map_some, Option.getD_some] at h
    rw [Array.any_eq_true] at h
    obtain ⟨m, hm, q⟩ := h
    simp only [Bool.and_eq_true, Bool.or_eq_true, beq_iff_eq] at q
    have hl := ha _ (Array.getElem_mem hm) q.1
    rcases q.2 with q2 | q2
    · rw [q2] at hl; exact getD_ft hi hl
    · refine waits_no hc hi n _ q2 ?_
      generalize (o.after[m]).on = k at hl q2
      cases n with
      | zero => cases q2
      | succ n =>
        cases hk : ops[k]? with
        | none => simp [waits, hk] at q2
        | some o' => exact ⟨o', rfl, hc k o' hk hl⟩
theorem ClosedL.set {ops : Array Oper} {listed : Array Bool} (hc : ClosedL ops listed) {i : Nat} (hi : i ∈ Region.ready .any ops listed) : ClosedL ops (listed.setIfInBounds i true) := fun k o hk hl e he hb => by
  refine getD_set_true ?_
  by_cases h : i = k
  · subst h
    obtain ⟨_, o', ho', ha⟩ := mem_ready.1 hi
    rw [hk] at ho'
    cases ho'
    exact ha e he hb
  · refine hc k o hk ?_ e he hb
    rw [getD_set_ne false h] at hl
    exact hl
theorem ClosedL.start (ops : Array Oper) (n : Nat) : ClosedL ops (Array.replicate n false) := fun k o _ hl => by
  exfalso
  rcases Nat.lt_or_ge k n with q | q
  · simp [q] at hl
  · simp [q] at hl
def ordOk (ops : Array Oper) : List Nat → Array Bool → Bool
  | [], listed => Region.ready .any ops listed == []
  | i :: rest, listed =>
    (Region.ready .any ops listed).contains i &&
    (if kindAt ops i ≤ 1 then Region.free .any ops listed i && (kindAt ops i == 0 || (List.range ops.size).all fun j => listed.getD j true || j == i || kindAt ops j ≤ 2 || waits ops i 6 j)
     else Region.ready .any ops listed == [i]) && ordOk ops rest (listed.setIfInBounds i true)
def pany (P : Program) (T : Tys) (md : Bool) (ops : Array Oper) (K : St → Prop) : List Nat → St → Prop
  | [], σ => K σ
  | i :: rest, σ => match ops[i]? with
    | none => False
    | some o => if pwanted ops σ.tm o.guard then
        (if kindOp o.op ≤ 1 then py P T σ.tm σ.H o.op o.type fun pv => pany P T md ops K rest (σ.put o.dst pv) else pop P T md false o σ fun pv σ' => pany P T md ops K rest (σ'.put o.dst pv))
      else pany P T md ops K rest (σ.put o.dst (.val undef))
section
variable {P : Program} {ops : Array Oper} {Q : Exit → Act → World → Prop}
def wpE (P : Program) (ops : Array Oper) (Q : Exit → Act → World → Prop) : Nat → Array Bool → Act → World → Prop
  | 0, listed, a, w => Region.ready .any ops listed = [] ∧ Q .normal a w
  | fuel + 1, listed, a, w =>
    (Region.ready .any ops listed = [] → Q .normal a w) ∧
    ∀ i ∈ Region.ready .any ops listed, wpOp P ops Q i (fun a' w' => (kindAt ops i ≤ 2 → Ext w w') ∧ wpE P ops Q fuel (listed.setIfInBounds i true) a' w') a w
theorem wpAny_of_E : ∀ (fuel : Nat) (listed : Array Bool) (a : Act) (w : World), wpE P ops Q fuel listed a w → wpAny P .any ops Q fuel listed a w
  | 0, _, _, _, h => h
  | fuel + 1, _, _, _, h => ⟨h.1, fun i hi => wpOp_mono (fun a' w' h' => wpAny_of_E fuel _ a' w' h'.2) (h.2 i hi)⟩
theorem YieldsIf.mono' {S S' : World → Prop} {o : Oper} {v : Value} {a : Act} (hy : YieldsIf P ops S o v a) (h : ∀ w, S' w → S w) : YieldsIf P ops S' o v a := hy.imp (fun ⟨a, b⟩ => ⟨a, fun w hw => b w (h w hw)⟩) id
theorem wpE_first {i : Nat} {oi : Oper} {v : Value} (hi : ops[i]? = some oi) (hsel : ∀ (j : Nat) (o : Oper) cs b, ops[j]? = some o → o.op ≠ .select cs b) (hpan : ∀ c a w, Q (.panic c) a w → False) (b : Bool)
    : ∀ (fuel : Nat) (listed : Array Bool) (a : Act) (w : World),
      (∀ j oj, ops[j]? = some oj → j ≠ i → listed.getD j true = false → ((∀ e ∈ oj.after, Region.binds .any e = true → e.on ≠ i) → oi.apart ops oj = true) ∧ (b = true → waits ops i 6 j = false → kindAt ops j ≤ 2)) →
      ClosedL ops listed → kindAt ops i ≤ 2 → i ∈ Region.ready .any ops listed → YieldsIf P ops (fun w' => b = true → Ext w w') oi v a →
      wpE P ops Q fuel (listed.setIfInBounds i true) (a.put oi.dst v) w → wpE P ops Q (fuel + 1) listed a w := by
  intro fuel
  induction fuel with
  | zero =>
    intro listed a w _ _ _ hr hy H
    refine ⟨fun h => (by rw [h] at hr; cases hr), fun j hj => ?_⟩
    by_cases hji : j = i
    · subst hji; exact hy.wpOp hi (fun _ => Ext.refl w) ⟨fun _ => Ext.refl w, H⟩
    · have := ready_mono hj hji
      rw [H.1] at this
      cases this
  | succ fuel ih =>
    intro listed a w hfree hcl hki hr hy H
    refine ⟨fun h => (by rw [h] at hr; cases hr), fun j hj => ?_⟩
    by_cases hji : j = i
    · subst hji; exact hy.wpOp hi (fun _ => Ext.refl w) ⟨fun _ => Ext.refl w, H⟩
    · have h1 := H.2 j (ready_mono hj hji)
      obtain ⟨hjun, oj, hoj, hall⟩ := mem_ready.1 hj
      have hnot : ∀ e ∈ oj.after, Region.binds .any e = true → e.on ≠ i := fun e he hb heq => by
        have h1 := hall e he hb
        have h0 := (mem_ready.1 hr).1
        rw [heq] at h1
        rcases Nat.lt_or_ge i listed.size with h' | h'
        · simp [h'] at h0 h1; rw [h0] at h1; cases h1
        · simp [Array.getElem?_eq_none h'] at h1
      have hap := hfree j oj hoj hji hjun
      have hnw : waits ops i 6 j = false := by
        cases hq : waits ops i 6 j with
        | false => rfl
        | true => exact (waits_no hcl (mem_ready.1 hr).1 _ _ hq ⟨oj, hoj, hall⟩).elim
      have h2 := wpOp_putIf hoj (hap.1 hnot) (fun cs b => hsel i oi cs b hi) (fun cs b => hsel j oj cs b hoj) (fun c a w q => (hpan _ _ _ q).elim) hy h1
      have hfree' : ∀ k ok, ops[k]? = some ok → k ≠ i → (listed.setIfInBounds j true).getD k true = false →
          ((∀ e ∈ ok.after, Region.binds .any e = true → e.on ≠ i) → oi.apart ops ok = true) ∧ (b = true → waits ops i 6 k = false → kindAt ops k ≤ 2) := fun k ok hk hki hun => by
        refine hfree k ok hk hki ?_
        by_cases hjk : j = k
        · subst hjk; exact hjun
        · rw [getD_set_ne true hjk] at hun; exact hun
      refine wpOp_mono (fun a' w' h3 => ⟨h3.2.1, ih (listed.setIfInBounds j true) a' w' hfree' (hcl.set hj) hki (ready_mono hr (Ne.symm hji)) (YieldsIf.mono' (P := P) (ops := ops) (o := oi) (a := a') h3.1 fun w'' q hb => (h3.2.1 (hap.2 hb hnw)).trans (q hb)) ?_⟩) h2
      rw [Array.setIfInBounds_comm _ _ hji]
      exact h3.2.2
end
section
variable {P : Program} {T : Tys} {E : Env}
theorem noSelect_all {ops : Array Oper} (h : Region.noSelect ops = true) : ∀ (j : Nat) (o : Oper) cs b, ops[j]? = some o → o.op ≠ .select cs b := Region.noSelect_spec h
theorem ready_lt {ops : Array Oper} {listed : Array Bool} {i : Nat} (h : i ∈ Region.ready .any ops listed) : ∃ o, ops[i]? = some o := by
  obtain ⟨_, o, ho, _⟩ := mem_ready.1 h
  exact ⟨o, ho⟩
theorem pany_ok (hT : TysOk P T) (hE : elemsOk P T) {md : Bool} (ops : Array Oper) (hs : Region.noSelect ops = true) {K : St → Prop} {Q : Exit → Act → World → Prop} (hpan : ∀ c a w, Q (.panic c) a w → False) (hq : ∀ σ' a' w', K σ' → Rel E σ' a' w' → Q .normal a' w') :
    ∀ (ord : List Nat) (fuel : Nat) (listed : Array Bool) (σ : St) (a : Act) (w : World), ord.length ≤ fuel → ordOk ops ord listed = true → ClosedL ops listed → pany P T md ops K ord σ → Rel E σ a w → wpE P ops Q fuel listed a w
  | [], fuel, listed, σ, a, w, _, ho, _, hk, r => by
    have hr : Region.ready .any ops listed = [] := by simpa [ordOk] using ho
    cases fuel with
    | zero => exact ⟨hr, hq σ a w hk r⟩
    | succ fuel => exact ⟨fun _ => hq σ a w hk r, by rw [hr]; simp⟩
  | i :: rest, 0, _, _, _, _, hl, _, _, _, _ => by simp at hl
  | i :: rest, fuel + 1, listed, σ, a, w, hl, ho, hcl, hk, r => by
    simp only [ordOk, Bool.and_eq_true] at ho
    obtain ⟨⟨h1, h2⟩, h3⟩ := ho
    have hi : i ∈ Region.ready .any ops listed := by simpa using h1
    obtain ⟨o, hio⟩ := ready_lt hi
    have hw := r.elim fun M q => q.elim fun h q => wanted_eq q.2.1 ops o
    have hka : kindAt ops i = kindOp o.op := by simp [kindAt, hio]
    simp only [pany, hio] at hk
    rw [hka] at h2
    have next := pany_ok hT hE (md := md) ops hs hpan hq rest fuel (listed.setIfInBounds i true)
    have hl' : rest.length ≤ fuel := by simpa using hl
    by_cases hkd : kindOp o.op ≤ 1
    · rw [if_pos hkd, Bool.and_eq_true] at h2
      have hfree := Region.free_spec hio h2.1
      have hside : ∀ j oj, ops[j]? = some oj → j ≠ i → listed.getD j true = false → ((∀ e ∈ oj.after, Region.binds .any e = true → e.on ≠ i) → o.apart ops oj = true) ∧ ((kindOp o.op == 1) = true → waits ops i 6 j = false → kindAt ops j ≤ 2) := fun j oj hj hji hun => by
        refine ⟨fun hno => hfree j oj hj hji hun hno, fun hk1 hnw => ?_⟩
        have hk1' : kindOp o.op = 1 := by simpa using hk1
        have h22 := h2.2
        simp only [hk1', Bool.or_eq_true, beq_iff_eq, List.all_eq_true, List.mem_range] at h22
        rcases h22 with q | q
        · cases q
        · have hjl : j < ops.size := (Array.getElem?_eq_some_iff.1 hj).1
          rcases q j hjl with ((q | q) | q) | q
          · rw [hun] at q; cases q
          · exact absurd q hji
          · simpa using q
          · rw [hnw] at q; cases q
      have hk2 : kindAt ops i ≤ 2 := by rw [hka]; omega
      by_cases hp : pwanted ops σ.tm o.guard = true
      · rw [if_pos hp, if_pos hkd] at hk
        obtain ⟨M, h, s, t, d⟩ := r
        obtain ⟨pv, v, g1, g2, g3⟩ := py_ok hT hE s.inv t o hk
        refine wpE_first (v := v) hio (noSelect_all hs) hpan (kindOp o.op == 1) fuel listed a w hside hcl hk2 hi (.inl ⟨by rw [hw]; exact hp, fun w' hx => g3 w' fun q => hx (by simpa using q)⟩) ?_
        exact next _ _ w hl' h3 (hcl.set hi) g1 ⟨M, h, by rw [St.put_H]; exact s, t.put g2 o.dst, by rw [Act.put_defers']; exact d⟩
      · rw [if_neg hp] at hk
        refine wpE_first (v := undef) hio (noSelect_all hs) hpan (kindOp o.op == 1) fuel listed a w hside hcl hk2 hi (.inr ⟨by rw [hw]; simpa using hp, rfl⟩) ?_
        exact next _ _ w hl' h3 (hcl.set hi) hk (r.skip o.dst)
    · rw [if_neg hkd] at h2
      have hrd : Region.ready .any ops listed = [i] := by simpa using h2
      refine ⟨(fun h0 => by rw [hrd] at h0; cases h0), fun j hj => ?_⟩
      rw [hrd, List.mem_singleton] at hj
      subst hj
      unfold wpOp
      simp only [hio, hw]
      by_cases hp : pwanted ops σ.tm o.guard = true
      · rw [if_pos hp, if_neg hkd] at hk
        rw [if_pos hp]
        refine .inl (pop_rel hT hE r hk fun pv σ' v w' g1 g2 g3 => ⟨fun hle => ?_, next _ _ w' hl' h3 (hcl.set hi) g1 g3⟩)
        rw [hka] at hle
        refine g2 rfl ?_
        cases hx : extOp o.op with
        | true => rfl
        | false =>
          exfalso
          have : kindOp o.op ≤ 1 ∨ kindOp o.op = 3 := by
            unfold kindOp
            split <;> first | (left; omega) | (rw [hx]; right; rfl)
          omega
      · rw [if_neg hp] at hk
        rw [if_neg hp]
        exact ⟨fun _ => Ext.refl w, next _ _ w hl' h3 (hcl.set hi) hk (r.skip o.dst)⟩
end
end Go.Proofs.Ytcbknmnlgoeniaa
namespace Go.Proofs.Ytcbknmnlgoeniaa
open Go.RowKit
def QL (E : Env) (Q : Exit → St → Prop) : Exit → Act → World → Prop
  | .panic _, _, _ => False
  | .outgrown, _, _ => False
  | e, a, w => ∃ σ, Q e σ ∧ Rel E σ a w
def PWp (P : Program) (N : Nat) (c : Code) (Q : Exit → St → Prop) (σ : St) : Prop := ∀ (E : Env) a w, E.N = N → Rel E σ a w → c.wp P (QL E Q) a w
structure Ok (P : Program) (T : Tys) : Prop where
  ty : TysOk P T
  el : elemsOk P T
  mix : P.follows .mixedOrders = true
section
variable {P : Program} {T : Tys} {Q : Exit → St → Prop} {σ : St} {N : Nat}
theorem PWp.skip (h : Q .normal σ) : PWp P N .skip Q σ := fun _ _ _ _ r => wp_skip ⟨σ, h, r⟩
theorem wS {P : Program} {Q : Exit → St → Prop} {σ : St} {N : Nat} (h : Q .normal σ) : PWp P N .skip Q σ := PWp.skip h
theorem PWp.ret (h : Q .ret σ) : PWp P N .ret Q σ := fun _ _ _ _ r => wp_ret ⟨σ, h, r⟩
theorem wq9 {P : Program} {Q : Exit → St → Prop} {σ : St} {N : Nat} (h : Q .ret σ) : PWp P N .ret Q σ := PWp.ret h
theorem PWp.exit {id : Nat} (h : Q (.exit id) σ) : PWp P N (.exit id) Q σ := fun _ _ _ _ r => wp_exit ⟨σ, h, r⟩
theorem wE {P : Program} {Q : Exit → St → Prop} {σ : St} {N : Nat} {id : Nat} (h : Q (.exit id) σ) : PWp P N (.exit id) Q σ := PWp.exit h
def Exit.pthen (next : St → Prop) (Q : Exit → St → Prop) : Exit → St → Prop
  | .normal, σ => next σ
  | e, σ => Q e σ
def Exit.pblock (id : Nat) (Q : Exit → St → Prop) : Exit → St → Prop
  | .exit id', σ => if id' = id then Q .normal σ else Q (.exit id') σ
  | e, σ => Q e σ
theorem PWp.seq {x y : Code} (h : PWp P N x (Exit.pthen (PWp P N y Q) Q) σ) : PWp P N (.seq x y) Q σ := fun E a w hN r => by
  refine wp_seq (Code.wp_mono ?_ (h E a w hN r))
  intro e a' w' q
  cases e with
  | normal => obtain ⟨σ', h1, h2⟩ := q; exact h1 E a' w' hN h2
  | panic _ => exact q.elim
  | outgrown => exact q.elim
  | exit _ => exact q
  | goto _ => exact q
  | ret => exact q
theorem wA {P : Program} {Q : Exit → St → Prop} {σ : St} {N : Nat} {x y : Code} (h : PWp P N x (Exit.pthen (PWp P N y Q) Q) σ) : PWp P N (.seq x y) Q σ := PWp.seq h
theorem PWp.block {id : Nat} {c : Code} (h : PWp P N c (Exit.pblock id Q) σ) : PWp P N (.block id c) Q σ := fun E a w hN r => by
  refine wp_block (Code.wp_mono ?_ (h E a w hN r))
  intro e a' w' q
  cases e with
  | exit id' =>
    obtain ⟨σ', h1, h2⟩ := q
    simp only [Exit.pblock] at h1
    simp only [Exit.inBlock]
    split at h1
    · rename_i e; rw [if_pos e]; exact ⟨σ', h1, h2⟩
    · rename_i e; rw [if_neg e]; exact ⟨σ', h1, h2⟩
  | panic _ => exact q.elim
  | outgrown => exact q.elim
  | normal => exact q
  | goto _ => exact q
  | ret => exact q
theorem wB {P : Program} {Q : Exit → St → Prop} {σ : St} {N : Nat} {id : Nat} {c : Code} (h : PWp P N c (Exit.pblock id Q) σ) : PWp P N (.block id c) Q σ := PWp.block h
theorem PWp.cond {c : Operand} {x y : Code} {b : Bool} (hc : ev σ.tm c = .val (.bool b)) (h1 : b = true → PWp P N x Q σ) (h2 : b = false → PWp P N y Q σ) : PWp P N (.cond c x y) Q σ := fun E a w hN r => by
  have hv : a.eval c = .bool b := by
    obtain ⟨M, h, s, t, d⟩ := r
    have := ev_vr t c
    rw [hc] at this
    exact vr_val this
  cases b with
  | true => exact wp_cond_true hv (h1 rfl E a w hN r)
  | false => exact wp_cond_false hv (h2 rfl E a w hN r)
theorem PWp.region (ok : Ok P T) (md : Bool) {id : Nat} {l : List Oper} (h : pops P T md l.toArray (Q .normal) l σ) : PWp P N (.region id l.toArray false) Q σ := fun _ _ _ _ r =>
  wp_region_lit (pops_ok ok.ty ok.el _ (fun σ' _ _ h1 h2 => ⟨σ', h1, h2⟩) l σ _ _ h r)
theorem PWp.draw (ok : Ok P T) (md : Bool) {id : Nat} {ops : Array Oper} (ord : List Nat) (ho : (Region.noSelect ops && decide (ord.length ≤ ops.size) && ordOk ops ord (Array.replicate ops.size false)) = true) (h : pany P T md ops (Q .normal) ord σ) : PWp P N (.region id ops true) Q σ := fun E a w _ r => by
  simp only [Bool.and_eq_true, decide_eq_true_eq] at ho
  refine wp_region_any ok.mix (wpAny_of_E _ _ _ _ ?_)
  refine pany_ok ok.ty ok.el (md := md) ops ho.1.1 (fun _ _ _ q => q) (fun σ' _ _ h1 h2 => ⟨σ', h1, h2⟩) ord ops.size _ σ a _ ho.1.2 ho.2 (ClosedL.start _ _) h ?_
  obtain ⟨M, hh, s, t, d⟩ := r
  refine ⟨M, hh, s.trans (Step.ext s.inv ?_), t, d⟩
  exact (Ext.refl w).drew
theorem PWp.mono {c : Code} {Q' : Exit → St → Prop} (h : PWp P N c Q σ) (hq : ∀ e σ, Q e σ → Q' e σ) : PWp P N c Q' σ := fun E a w hN r => by
  refine Code.wp_mono ?_ (h E a w hN r)
  intro e a' w' q
  cases e with
  | panic _ => exact q
  | outgrown => exact q
  | _ => obtain ⟨σ', h1, h2⟩ := q; exact ⟨σ', hq _ _ h1, h2⟩
end
def matchP : List (Option PV) → List PV → Prop
  | [], [] => True
  | some p :: ps, x :: xs => x = p ∧ matchP ps xs
  | none :: ps, _ :: xs => matchP ps xs
  | _, _ => False
def instP (ρ : Nat → Value) : Nat → List (Option PV) → List PV
  | _, [] => []
  | i, some p :: ps => p :: instP ρ (i + 1) ps
  | i, none :: ps => .val (ρ i) :: instP ρ (i + 1) ps
def presults (T : Tys) (rs : List ResultVar) (σ : St) : Option (List PV) :=
  rs.mapM fun r => match r with
    | .tmp t => some (σ.tm.getD t (.val undef))
    | .cell a t => match pcells σ.H (σ.tm.getD a (.val undef)), T t with
      | some (cs, o), some i => match i.d with
        | .struct _ => if o + i.size ≤ cs.length then some (.agg ((cs.drop o).take i.size)) else none
        | .array _ _ _ => if o + i.size ≤ cs.length then some (.agg ((cs.drop o).take i.size)) else none
        | _ => cs[o]?
      | _, _ => none
def ptuple : List PV → PV
  | [p] => p
  | l => .tup l
theorem run_result1 {P : Program} {T : Tys} (hT : TysOk P T) {M : Mem} {h : Home} {σ : St} {w : World} {ts : Array Value} (I : Inv M h σ.H w) (ht : TmOk M h σ.tm ts) (r : ResultVar) {pv : PV}
    (hp : (match r with
    | .tmp t => some (σ.tm.getD t (.val undef))
    | .cell a t => match pcells σ.H (σ.tm.getD a (.val undef)), T t with
      | some (cs, o), some i => match i.d with
        | .struct _ => if o + i.size ≤ cs.length then some (.agg ((cs.drop o).take i.size)) else none
        | .array _ _ _ => if o + i.size ≤ cs.length then some (.agg ((cs.drop o).take i.size)) else none
        | _ => cs[o]?
      | _, _ => none) = some pv) :
    ∃ v, ((match r with | .tmp t => pure (ts.getD t undef) | .cell a t => do loadVar t (← asAddr (ts.getD a undef))) : Sem Value).run P w = .ok v w ∧ VR M h pv v := by
  have gd : ∀ t, VR M h (σ.tm.getD t (.val undef)) (ts.getD t undef) := fun t => ev_vr (a := ⟨ts, []⟩) ht (.tmp t)
  cases r with
  | tmp t =>
    simp only [Option.some.injEq] at hp
    subst hp
    exact ⟨_, rfl, gd t⟩
  | cell a t =>
    simp only at hp
    split at hp
    · rename_i cs o i e1 e2
      have hk : pload T t cs o (fun q => q = pv) := by
        refine ⟨i, e2, ?_⟩
        split at hp
        · rename_i hd
          rw [hd]
          split at hp
          · rename_i hl; exact ⟨hl, by simpa using hp⟩
          · cases hp
        · rename_i hd
          rw [hd]
          split at hp
          · rename_i hl; exact ⟨hl, by simpa using hp⟩
          · cases hp
        · rename_i h1 h2
          split
          · rename_i fs hd; exact absurd hd (h1 fs)
          · rename_i n e sz hd; exact absurd hd (h2 n e sz)
          · exact ⟨pv, hp, rfl⟩
      obtain ⟨pv', v, rfl, g2, g3⟩ := pload_ok hT I (gd a) e1 hk
      obtain ⟨k, base, hv, _⟩ := pcells_ok I (gd a) e1
      refine ⟨v, ?_, g2⟩
      have := g3 w (Ext.refl w)
      rw [hv] at this
      simp only [Instr.loadAt, Instr.sureAddr, Sem.run_bind, Sem.run_pure, Result.andThen_ok] at this
      simp only [hv, asAddr, Sem.run_bind, Sem.run_pure, Result.andThen_ok]
      exact this
    · cases hp
theorem run_results {P : Program} {T : Tys} (hT : TysOk P T) {M : Mem} {h : Home} {σ : St} {w : World} {ts : Array Value} (I : Inv M h σ.H w) (ht : TmOk M h σ.tm ts) : ∀ (rs : List ResultVar) {pvs : List PV}, presults T rs σ = some pvs →
    ∃ vs : List Value, (rs.mapM (fun r => (match r with | .tmp t => pure (ts.getD t undef) | .cell a t => do loadVar t (← asAddr (ts.getD a undef)) : Sem Value))).run P w = .ok vs w ∧ pvs.length = vs.length ∧ ∀ (i : Nat) (pv : PV) (v : Value), pvs[i]? = some pv → vs[i]? = some v → VR M h pv v
  | [], pvs, hp => by
    simp [presults] at hp
    subst hp
    exact ⟨[], by simp, rfl, by simp⟩
  | r :: rs, pvs, hp => by
    simp only [presults, List.mapM_cons, Option.pure_def, Option.bind_eq_bind, Option.bind_eq_some_iff] at hp
    obtain ⟨pv, h1, ps, h2, h3⟩ := hp
    cases h3
    obtain ⟨v, g1, g2⟩ := run_result1 hT I ht r h1
    obtain ⟨vs, g3, g4, g5⟩ := run_results hT I ht rs (pvs := ps) h2
    refine ⟨v :: vs, ?_, by simp [g4], fun i pv' v' a b => ?_⟩
    · simp only [List.mapM_cons, Sem.run_bind, g1, Result.andThen_ok, g3, Sem.run_pure]
    · cases i with
      | zero => simp at a b; subst a; subst b; exact g2
      | succ i => exact g5 i pv' v' (by simpa using a) (by simpa using b)
theorem results_ok {P : Program} {T : Tys} (hT : TysOk P T) {M : Mem} {h : Home} {σ : St} {w : World} {ts : Array Value} (I : Inv M h σ.H w) (ht : TmOk M h σ.tm ts) (fn : Func) {pvs : List PV} (hp : presults T fn.results.toList σ = some pvs) :
    ∃ v, (results fn ts).run P w = .ok v w ∧ VR M h (ptuple pvs) v := by
  obtain ⟨vs, g1, g2, g3⟩ := run_results hT I ht _ hp
  refine ⟨if h : vs.toArray.size = 1 then vs.toArray[0] else .tuple vs.toArray, ?_, ?_⟩
  · unfold results
    have : (fn.results.mapM (fun r => (match r with | .tmp t => pure (ts.getD t undef) | .cell a t => do loadVar t (← asAddr (ts.getD a undef)) : Sem Value))).run P w = .ok vs.toArray w := by
      rw [Array.mapM_eq_mapM_toList]
      simp only [Sem.run_map, g1, Result.andThen_ok]
    simp only [Sem.run_bind, Sem.run_pure]
    exact (congrArg (fun r : Result (Array Value) => r.andThen fun a w' => Result.ok (if h : a.size = 1 then a[0] else Value.tuple a) w') this).trans rfl
  · match pvs, vs, g2 with
    | [], [], _ => exact .tup _ _ rfl (by simp)
    | [p], [v], _ => exact g3 0 p v rfl rfl
    | p :: q :: l, v :: u :: l', hl =>
      rw [dif_neg (by simp)]
      exact .tup _ _ (by simpa using hl) fun i pv v a b => g3 i pv v a (by simpa using b)
def PPost (T : Tys) (rs : List ResultVar) (R : PV → Hp → Prop) : Exit → St → Prop := fun e σ => (e = .normal ∨ e = .ret) ∧ ∃ pvs, presults T rs σ = some pvs ∧ R (ptuple pvs) σ.H
theorem pcalls_of {P : Program} {T : Tys} (ok : Ok P T) {f : FuncId} {fn : Func} {c : Code} (hf : P.funcs[f]? = some fn) (hb : fn.body = some c) {args : List PV} {H : Hp} {R : PV → Hp → Prop}
    (h : PWp P H.length c (PPost T fn.results.toList R) ⟨args ++ List.replicate (fn.ntmps - args.length) (.val undef), H⟩) : PCalls P f args H R := by
  intro M hh w vs I rv
  refine calls_of_wp hf hb ?_
  have hr : Rel ⟨M, hh, H, w, H.length, I.len⟩ ⟨args ++ List.replicate (fn.ntmps - args.length) (.val undef), H⟩ { tmps := vs ++ Array.replicate (fn.ntmps - vs.size) undef, defers := [] } w := by
    refine ⟨M, hh, Step.refl I, ⟨by simp [rv.1], fun i pv v a b => ?_⟩, rfl⟩
    have r2 : CR M hh (List.replicate (fn.ntmps - args.length) (.val undef)) (Array.replicate (fn.ntmps - vs.size) undef) := ⟨by simp [rv.1], fun i pv v a b => by
      rw [List.getElem?_replicate] at a
      rw [Array.getElem?_replicate] at b
      split at a
      · split at b
        · cases a; cases b; exact .val _
        · cases b
      · cases a⟩
    exact (rv.append r2).2 i pv v a b
  refine Code.wp_mono ?_ (h _ _ _ rfl hr)
  intro e a' w' q
  have fin : ∀ e, QL ⟨M, hh, H, w, H.length, I.len⟩ (PPost T fn.results.toList R) e a' w' → (e = .normal ∨ e = .ret) → a'.defers = [] ∧ ∃ v, (results fn a'.tmps).run P w' = .ok v w' ∧ ∃ v' M' h' pv H', Ending.returned v = .returned v' ∧ R pv H' ∧ VR M' h' pv v' ∧ Step M hh H w M' h' H' w' := fun e q he => by
    have : ∃ σ, (∃ pvs, presults T fn.results.toList σ = some pvs ∧ R (ptuple pvs) σ.H) ∧ Rel ⟨M, hh, H, w, H.length, I.len⟩ σ a' w' := by
      rcases he with rfl | rfl
      · obtain ⟨σ, h1, h2⟩ := q; exact ⟨σ, h1.2, h2⟩
      · obtain ⟨σ, h1, h2⟩ := q; exact ⟨σ, h1.2, h2⟩
    obtain ⟨σ, ⟨pvs, g1, g2⟩, M', h', s, t, d⟩ := this
    obtain ⟨v, g3, g4⟩ := results_ok ok.ty s.inv t fn g1
    exact ⟨d, v, g3, v, M', h', _, _, rfl, g2, g4, s⟩
  cases e with
  | normal => exact fin _ q (.inl rfl)
  | ret => exact fin _ q (.inr rfl)
  | panic _ => exact q.elim
  | outgrown => exact q.elim
  | exit _ => obtain ⟨σ, h1, _⟩ := q; rcases h1.1 with h | h <;> cases h
  | goto _ => obtain ⟨σ, h1, _⟩ := q; rcases h1.1 with h | h <;> cases h
end Go.Proofs.Ytcbknmnlgoeniaa
namespace Go.Proofs.Ytcbknmnlgoeniaa
set_option linter.unusedSimpArgs false
set_option linter.unusedVariables false
open Go.RowKit
section
variable {P : Program} {t : TypeId} {x y : Operand} {k : IntKind} {a b : Int} {s u : ByteArray} {p q : Bool}
theorem sf_add : sflat P (do eqGuard .add t x y (.int k a) (.int k b); binOp .add t (.int k a) (.int k b)) = some (.int k (k.wrap (a + b))) := by cases k <;> rfl
theorem sf_sub : sflat P (do eqGuard .sub t x y (.int k a) (.int k b); binOp .sub t (.int k a) (.int k b)) = some (.int k (k.wrap (a - b))) := by cases k <;> rfl
theorem sf_mul : sflat P (do eqGuard .mul t x y (.int k a) (.int k b); binOp .mul t (.int k a) (.int k b)) = some (.int k (k.wrap (a * b))) := by cases k <;> rfl
theorem sf_lss : sflat P (do eqGuard .lss t x y (.int k a) (.int k b); binOp .lss t (.int k a) (.int k b)) = some (.bool (decide (a < b))) := by cases k <;> rfl
theorem sf_leq : sflat P (do eqGuard .leq t x y (.int k a) (.int k b); binOp .leq t (.int k a) (.int k b)) = some (.bool (decide (a ≤ b))) := by cases k <;> rfl
theorem sf_gtr : sflat P (do eqGuard .gtr t x y (.int k a) (.int k b); binOp .gtr t (.int k a) (.int k b)) = some (.bool (decide (a > b))) := by cases k <;> rfl
theorem sf_geq : sflat P (do eqGuard .geq t x y (.int k a) (.int k b); binOp .geq t (.int k a) (.int k b)) = some (.bool (decide (a ≥ b))) := by cases k <;> rfl
theorem sf_eql : sflat P (do eqGuard .eql t x y (.int k a) (.int k b); binOp .eql t (.int k a) (.int k b)) = some (.bool (a == b)) := by cases k <;> rfl
theorem sf_neq : sflat P (do eqGuard .neq t x y (.int k a) (.int k b); binOp .neq t (.int k a) (.int k b)) = some (.bool (a != b)) := by cases k <;> rfl
theorem sf_and : sflat P (do eqGuard .and t x y (.int k a) (.int k b); binOp .and t (.int k a) (.int k b)) = some (.int k (bits .and k a b)) := by cases k <;> rfl
theorem sf_or : sflat P (do eqGuard .or t x y (.int k a) (.int k b); binOp .or t (.int k a) (.int k b)) = some (.int k (bits .or k a b)) := by cases k <;> rfl
theorem sf_xor : sflat P (do eqGuard .xor t x y (.int k a) (.int k b); binOp .xor t (.int k a) (.int k b)) = some (.int k (bits .xor k a b)) := by cases k <;> rfl
theorem sf_quo (h : b ≠ 0) : sflat P (do eqGuard .quo t x y (.int k a) (.int k b); binOp .quo t (.int k a) (.int k b)) = some (.int k (k.wrap (a.tdiv b))) := by
  have e : (do eqGuard .quo t x y (.int k a) (.int k b); binOp .quo t (.int k a) (.int k b) : Sem Value) = Op.intDiv .quo k a b := by cases k <;> rfl
  rw [e]
  unfold Op.intDiv
  rw [if_neg h]
  rfl
theorem sf_rem (h : b ≠ 0) : sflat P (do eqGuard .rem t x y (.int k a) (.int k b); binOp .rem t (.int k a) (.int k b)) = some (.int k (a.tmod b)) := by
  have e : (do eqGuard .rem t x y (.int k a) (.int k b); binOp .rem t (.int k a) (.int k b) : Sem Value) = Op.intDiv .rem k a b := by cases k <;> rfl
  rw [e]
  unfold Op.intDiv
  rw [if_neg h]
  rfl
theorem sf_shl {k' : IntKind} (h : 0 ≤ b) : sflat P (do eqGuard .shl t x y (.int k a) (.int k' b); binOp .shl t (.int k a) (.int k' b)) = some (.int k (k.wrap (a * 2 ^ (min b.toNat k.bits)))) := by
  have e : (do eqGuard .shl t x y (.int k a) (.int k' b); binOp .shl t (.int k a) (.int k' b) : Sem Value) = Op.shift .shl k a k' b := rfl
  rw [e]
  unfold Op.shift
  rw [if_neg (by omega)]
  rfl
theorem sf_shr {k' : IntKind} (h : 0 ≤ b) : sflat P (do eqGuard .shr t x y (.int k a) (.int k' b); binOp .shr t (.int k a) (.int k' b)) = some (.int k (a.fdiv (2 ^ (min b.toNat k.bits)))) := by
  have e : (do eqGuard .shr t x y (.int k a) (.int k' b); binOp .shr t (.int k a) (.int k' b) : Sem Value) = Op.shift .shr k a k' b := rfl
  rw [e]
  unfold Op.shift
  rw [if_neg (by omega)]
  rfl
theorem sf_cat (h : s.size + u.size ≤ 9223372036854775807) : sflat P (do eqGuard .add t x y (.string s) (.string u); binOp .add t (.string s) (.string u)) = some (.string (s ++ u)) := by
  have e : (do eqGuard .add t x y (.string s) (.string u); binOp .add t (.string s) (.string u) : Sem Value) = Op.stringOp .add s u := rfl
  rw [e]
  unfold Op.stringOp
  have hm : IntKind.i64.max = 9223372036854775807 := rfl
  simp only [hm]
  rw [if_neg (by omega)]
  rfl
theorem sf_not : sflat P (Op.unary .not (.bool p)) = some (.bool (!p)) := rfl
theorem sf_neg : sflat P (Op.unary .neg (.int k a)) = some (.int k (k.wrap (0 - a))) := rfl
theorem sf_min {ats : Array TypeId} : sflat P (Builtin.min_ ats t #[.int k a, .int k b]) = some (.int k (if b < a then b else a)) := rfl
theorem sf_max {ats : Array TypeId} : sflat P (Builtin.max_ ats t #[.int k a, .int k b]) = some (.int k (if b > a then b else a)) := rfl
theorem wr64 (h : -9223372036854775808 ≤ a) (h' : a ≤ 9223372036854775807) : IntKind.i64.wrap a = a := by rw [IntKind.wrap_i64]; omega
end
theorem flat_val' {v : Value} : flat (.val v) = some v := rfl
theorem ev_tmp {tm : List PV} {t : Tmp} : ev tm (.tmp t) = tm.getD t (.val undef) := rfl
theorem ev_int {tm : List PV} {k : IntKind} {n : Int} : ev tm (.const (.int k n)) = .val (.int k n) := rfl
theorem ev_bool {tm : List PV} {b : Bool} : ev tm (.const (.bool b)) = .val (.bool b) := rfl
theorem ev_str {tm : List PV} {s : ByteArray} : ev tm (.const (.string s)) = .val (.string s) := rfl
theorem ev_nil {tm : List PV} : ev tm (.const (.slice none 0 0)) = .val (.slice none 0 0) := rfl
theorem ev_agg {tm : List PV} {cs : List Value} : ev tm (.const (.agg cs.toArray)) = .agg (cs.map .val) := rfl
theorem ev_func {tm : List PV} {f : FuncId} : ev tm (.func f) = .val (.func (.func f) #[] #[]) := rfl
theorem cells_val {k : IntKind} {n : Int} : pcellsOf (.val (.int k n)) = [.val (.int k n)] := rfl
theorem cells_bool {b : Bool} : pcellsOf (.val (.bool b)) = [.val (.bool b)] := rfl
theorem cells_str {b : ByteArray} : pcellsOf (.val (.string b)) = [.val (.string b)] := rfl
theorem cells_nil : pcellsOf (.val (.slice none 0 0)) = [.val (.slice none 0 0)] := rfl
theorem cells_agg {fs : List PV} : pcellsOf (.agg fs) = fs := rfl
theorem cells_sl {sz : Nat} {es : List (List PV)} : pcellsOf (.sl sz es) = [.sl sz es] := rfl
theorem cells_own {b : Nat} : pcellsOf (.own b) = [.own b] := rfl
theorem cells_ptr {b o : Nat} : pcellsOf (.ptr b o) = [.ptr b o] := rfl
theorem blk_box {a b : List PV} : (Blk.box a = Blk.box b) = (a = b) := by simp
theorem blk_row {e e' : TypeId} {s s' : Nat} {a b : List (List PV)} : (Blk.row e s a = Blk.row e' s' b) = (e = e' ∧ s = s' ∧ a = b) := by simp
theorem pint_int {k : IntKind} {n : Int} : pint (.val (.int k n)) = some n := rfl
theorem put_some {tm : List PV} {H : Hp} {d : Tmp} {pv : PV} : (⟨tm, H⟩ : St).put (some d) pv = ⟨tm.set d pv, H⟩ := rfl
theorem put_none {σ : St} {pv : PV} : σ.put none pv = σ := rfl
theorem callable_of {P : Program} {g : FuncId} {fn : Func} (h : P.funcs[g]? = some fn) (h1 : (fn.name == "runtime.NumGoroutine") = false) (h2 : fn.body.isNone = false) : Callable P g := ⟨fn, h, h1, h2⟩
theorem cf {P : Program} {g : FuncId} {fn : Func} (h : P.funcs[g]? = some fn) (h1 : (fn.name == "runtime.NumGoroutine") = false := by exact rfl) (h2 : fn.body.isNone = false := by exact rfl) : Callable P g := callable_of h h1 h2
theorem pcall_S {P : Program} {cm : Bool} {g : FuncId} {args : List PV} {σ : St} {K : PV → St → Prop} {R : PV → Hp → Prop} (hc : Callable P g) (h : PCalls P g (args.map (vw σ.H)) [] R) (ha : ∀ p ∈ args, vwOk σ.H p) (hk : ∀ r H', R r H' → scalP r = true ∧ K r σ) : pcall P cm g args σ K := ⟨hc, .inr (.inl ⟨R, h, ha, hk⟩)⟩
theorem pcall_V {P : Program} {cm : Bool} {g : FuncId} {args : List PV} {σ : St} {K : PV → St → Prop} {v : PV} (hc : Callable P g) (h : PCalls P g (args.map (vw σ.H)) [] fun r _ => r = v) (hv : scalP v = true) (ha : ∀ p ∈ args, vwOk σ.H p) (hk : K v σ) : pcall P cm g args σ K :=
  pcall_S hc h ha fun r _ e => by subst e; exact ⟨hv, hk⟩
theorem cast_pred (j : Nat) : ((j + 1 : Nat) : Int) - 1 = (j : Int) := by omega
def vwAll (H : Hp) : List PV → Prop
  | [] => True
  | p :: ps => vwOk H p ∧ vwAll H ps
theorem vwAll_mem {H : Hp} : ∀ {l : List PV}, vwAll H l → ∀ p ∈ l, vwOk H p
  | [], _, _, h => by cases h
  | q :: l, hl, p, h => by
    rcases List.mem_cons.1 h with rfl | h
    · exact hl.1
    · exact vwAll_mem hl.2 p h
theorem pcall_W {P : Program} {cm : Bool} {g : FuncId} {args : List PV} {σ : St} {K : PV → St → Prop} {v : PV} (hc : Callable P g) (h : PCalls P g (args.map (vw σ.H)) [] fun r _ => r = v) (hv : scalP v = true) (ha : vwAll σ.H args) (hk : K v σ) : pcall P cm g args σ K := pcall_V hc h hv (vwAll_mem ha) hk
section
variable {P : Program} {T : Tys} {md : Bool} {ops : Array Oper} {K : St → Prop} {Q : Exit → St → Prop} {σ : St}
theorem PWp.condI {N : Nat} {c : Operand} {x y : Code} (h : ∃ b, ev σ.tm c = .val (.bool b) ∧ (b = true → PWp P N x Q σ) ∧ (b = false → PWp P N y Q σ)) : PWp P N (.cond c x y) Q σ := by
  obtain ⟨b, h1, h2, h3⟩ := h
  exact PWp.cond h1 h2 h3
theorem pops_nil (h : K σ) : pops P T md ops K [] σ := h
theorem wq1 {P : Program} {T : Tys} {md : Bool} {ops : Array Oper} {K : St → Prop} {σ : St} (h : K σ) : pops P T md ops K [] σ := pops_nil h
def pbool (tm : List PV) (d : Tmp) : Option Bool := match tm[d]? with | some (.val (.bool b)) => some b | _ => none
theorem pwanted_of {tm : List PV} {j : Nat} {w b : Bool} {d : Tmp} (hd : (ops[j]?).bind (·.dst) = some d) (hb : pbool tm d = some b) : pwanted ops tm (some (j, w)) = (b == w) := by
  have : pyielded ops tm j = some b := by unfold pyielded; rw [hd]; exact hb
  simp only [pwanted, this]
  cases b <;> cases w <;> rfl
theorem pops_plain {dst : Option Tmp} {op : Op} {ty : TypeId} {pos : String} {after : Array Edge} {rest : List Oper} (h : ∀ K' : St → Prop, (∀ σ, pops P T md ops K rest σ → K' σ) → popO P T md true op ty σ (fun pv σ' => K' (σ'.put dst pv))) : pops P T md ops K (⟨dst, op, ty, pos, after, none⟩ :: rest) σ := by
  simp only [pops, pwanted, if_true]
  exact h _ fun _ h => h
theorem pops_guard {dst : Option Tmp} {op : Op} {ty : TypeId} {pos : String} {after : Array Edge} {j : Nat} {w : Bool} {rest : List Oper} (h : ∃ d, (ops.toList[j]?).bind (·.dst) = some d ∧ ∀ K' : St → Prop, (∀ σ, pops P T md ops K rest σ → K' σ) → ∃ b, pbool σ.tm d = some b ∧ (b = w → popO P T md true op ty σ (fun pv σ' => K' (σ'.put dst pv))) ∧ (b = (!w) → K' (σ.put dst (.val undef)))) : pops P T md ops K (⟨dst, op, ty, pos, after, some (j, w)⟩ :: rest) σ := by
  obtain ⟨d, hd, h⟩ := h
  rw [Array.getElem?_toList] at hd
  obtain ⟨b, hb, h1, h2⟩ := h _ fun _ h => h
  simp only [pops, pwanted_of hd hb]
  cases b <;> cases w <;> first | exact h1 rfl | exact h2 rfl
theorem pwanted_no {tm : List PV} {j : Nat} {w : Bool} {d : Tmp} (hd : (ops[j]?).bind (·.dst) = some d) (hb : pbool tm d = none) : pwanted ops tm (some (j, w)) = false := by
  have : pyielded ops tm j = none := by unfold pyielded; rw [hd]; exact hb
  simp only [pwanted, this]
  rfl
theorem pops_guard0 {dst : Option Tmp} {op : Op} {ty : TypeId} {pos : String} {after : Array Edge} {j : Nat} {w : Bool} {rest : List Oper} (h : ∃ d, (ops.toList[j]?).bind (·.dst) = some d ∧ ∀ K' : St → Prop, (∀ σ, pops P T md ops K rest σ → K' σ) → pbool σ.tm d = none ∧ K' (σ.put dst (.val undef))) : pops P T md ops K (⟨dst, op, ty, pos, after, some (j, w)⟩ :: rest) σ := by
  obtain ⟨d, hd, h⟩ := h
  rw [Array.getElem?_toList] at hd
  obtain ⟨hb, h2⟩ := h _ fun _ h => h
  simp only [pops, pwanted_no hd hb]
  exact h2
def pstepD (P : Program) (T : Tys) (md : Bool) (ops : Array Oper) (o : Oper) (σ : St) (K' : St → Prop) : Prop :=
  if pwanted ops σ.tm o.guard then (if kindOp o.op ≤ 1 then py P T σ.tm σ.H o.op o.type fun pv => K' (σ.put o.dst pv) else pop P T md false o σ fun pv σ' => K' (σ'.put o.dst pv)) else K' (σ.put o.dst (.val undef))
theorem pany_I {i : Nat} {rest : List Nat} (h : ∃ o, ops.toList[i]? = some o ∧ ∀ K' : St → Prop, (∀ σ, pany P T md ops K rest σ → K' σ) → pstepD P T md ops o σ K') : pany P T md ops K (i :: rest) σ := by
  obtain ⟨o, hi, h⟩ := h
  rw [Array.getElem?_toList] at hi
  simp only [pany, hi]
  exact h _ fun _ h => h
section
variable {dst : Option Tmp} {op : Op} {ty : TypeId} {pos : String} {after : Array Edge} {j : Nat} {w : Bool}
theorem pD_y (hk : (decide (kindOp op ≤ 1)) = true) (h : py P T σ.tm σ.H op ty fun pv => K (σ.put dst pv)) : pstepD P T md ops ⟨dst, op, ty, pos, after, none⟩ σ K := by
  simp only [pstepD, pwanted, if_true, if_pos (of_decide_eq_true hk)]
  exact h
theorem pD_x (hk : (decide (kindOp op ≤ 1)) = false) (h : popO P T md false op ty σ fun pv σ' => K (σ'.put dst pv)) : pstepD P T md ops ⟨dst, op, ty, pos, after, none⟩ σ K := by
  simp only [pstepD, pwanted, if_true, if_neg (of_decide_eq_false hk)]
  exact h
theorem pD_gy (hk : (decide (kindOp op ≤ 1)) = true) (h : ∃ d, (ops.toList[j]?).bind (·.dst) = some d ∧ ∃ b, pbool σ.tm d = some b ∧ (b = w → py P T σ.tm σ.H op ty fun pv => K (σ.put dst pv)) ∧ (b = (!w) → K (σ.put dst (.val undef)))) : pstepD P T md ops ⟨dst, op, ty, pos, after, some (j, w)⟩ σ K := by
  obtain ⟨d, hd, b, hb, h1, h2⟩ := h
  rw [Array.getElem?_toList] at hd
  simp only [pstepD, pwanted_of hd hb, if_pos (of_decide_eq_true hk)]
  cases b <;> cases w <;> first | exact h1 rfl | exact h2 rfl
theorem pD_gx (hk : (decide (kindOp op ≤ 1)) = false) (h : ∃ d, (ops.toList[j]?).bind (·.dst) = some d ∧ ∃ b, pbool σ.tm d = some b ∧ (b = w → popO P T md false op ty σ fun pv σ' => K (σ'.put dst pv)) ∧ (b = (!w) → K (σ.put dst (.val undef)))) : pstepD P T md ops ⟨dst, op, ty, pos, after, some (j, w)⟩ σ K := by
  obtain ⟨d, hd, b, hb, h1, h2⟩ := h
  rw [Array.getElem?_toList] at hd
  simp only [pstepD, pwanted_of hd hb, if_neg (of_decide_eq_false hk)]
  cases b <;> cases w <;> first | exact h1 rfl | exact h2 rfl
end
theorem pany_nil (h : K σ) : pany P T md ops K [] σ := h
theorem wq2 {P : Program} {T : Tys} {md : Bool} {ops : Array Oper} {K : St → Prop} {σ : St} (h : K σ) : pany P T md ops K [] σ := pany_nil h
theorem pthen_normal (h : K σ) : Exit.pthen K Q .normal σ := h
theorem wq3 {K : St → Prop} {Q : Exit → St → Prop} {σ : St} (h : K σ) : Exit.pthen K Q .normal σ := pthen_normal h
theorem pthen_ret (h : Q .ret σ) : Exit.pthen K Q .ret σ := h
theorem wq5 {K : St → Prop} {Q : Exit → St → Prop} {σ : St} (h : Q .ret σ) : Exit.pthen K Q .ret σ := pthen_ret h
theorem pthen_exit {id : Nat} (h : Q (.exit id) σ) : Exit.pthen K Q (.exit id) σ := h
theorem wq7 {K : St → Prop} {Q : Exit → St → Prop} {σ : St} {id : Nat} (h : Q (.exit id) σ) : Exit.pthen K Q (.exit id) σ := pthen_exit h
theorem pblock_normal {id : Nat} (h : Q .normal σ) : Exit.pblock id Q .normal σ := h
theorem wq4 {Q : Exit → St → Prop} {σ : St} {id : Nat} (h : Q .normal σ) : Exit.pblock id Q .normal σ := pblock_normal h
theorem pblock_ret {id : Nat} (h : Q .ret σ) : Exit.pblock id Q .ret σ := h
theorem wq6 {Q : Exit → St → Prop} {σ : St} {id : Nat} (h : Q .ret σ) : Exit.pblock id Q .ret σ := pblock_ret h
theorem pblock_here {id : Nat} (h : Q .normal σ) : Exit.pblock id Q (.exit id) σ := by show (if id = id then _ else _); rw [if_pos rfl]; exact h
theorem wq8 {Q : Exit → St → Prop} {σ : St} {id : Nat} (h : Q .normal σ) : Exit.pblock id Q (.exit id) σ := pblock_here h
theorem pblock_there {id id' : Nat} (hn : (id' == id) = false) (h : Q (.exit id') σ) : Exit.pblock id Q (.exit id') σ := by show (if id' = id then _ else _); rw [if_neg (by simpa using hn)]; exact h
theorem wT {Q : Exit → St → Prop} {σ : St} {id id' : Nat} (h : Q (.exit id') σ) (hn : (id' == id) = false := by exact rfl) : Exit.pblock id Q (.exit id') σ := pblock_there hn h
end
end Go.Proofs.Ytcbknmnlgoeniaa
namespace Go.Proofs.Ytcbknmnlgoeniaa
open Go.RowKit
def homeR (φ : List Nat) (h : Home) : Home := fun i => match φ[i]? with | some b => h b | none => none
def blkR (φ : List Nat) (n : Nat) (H : Hp) : List Nat → Hp → Prop
  | [], [] => True
  | _ :: bs, none :: r => blkR φ n H bs r
  | b :: bs, some B :: r => H[b]? = some (renB φ n (some B)) ∧ blkR φ n H bs r
  | _, _ => False
theorem blkR_len {φ : List Nat} {n : Nat} {H : Hp} : ∀ {bs : List Nat} {H' : Hp}, blkR φ n H bs H' → bs.length = H'.length
  | [], [], _ => rfl
  | _ :: bs, none :: r, h => by simp only [List.length_cons]; rw [blkR_len (bs := bs) (H' := r) h]
  | _ :: bs, some _ :: r, h => by simp only [List.length_cons]; rw [blkR_len (bs := bs) (H' := r) h.2]
  | [], _ :: _, h => h.elim
  | _ :: _, [], h => h.elim
theorem renB_some {φ : List Nat} {n : Nat} {B : Blk} : ∃ B', renB φ n (some B) = some B' := by cases B <;> exact ⟨_, rfl⟩
theorem blkR_get {φ : List Nat} {n : Nat} {H : Hp} : ∀ {bs : List Nat} {H' : Hp}, blkR φ n H bs H' → ∀ (i : Nat) (B : Blk), H'[i]? = some (some B) → ∃ b B', bs[i]? = some b ∧ renB φ n (some B) = some B' ∧ H[b]? = some (some B')
  | [], [], _, i, B, q => by simp at q
  | _ :: _, none :: _, h, 0, B, q => by simp at q
  | _ :: bs, none :: r, h, i + 1, B, q => blkR_get (H := H) (bs := bs) (H' := r) h i B (by simpa using q)
  | b :: _, some C :: _, h, 0, B, q => by
    simp at q
    subst q
    obtain ⟨B', e⟩ := renB_some (φ := φ) (n := n) (B := C)
    exact ⟨b, B', rfl, e, by rw [← e]; exact h.1⟩
  | _ :: bs, some C :: r, h, i + 1, B, q => blkR_get (H := H) (bs := bs) (H' := r) h.2 i B (by simpa using q)
  | [], _ :: _, h, _, _, _ => h.elim
  | _ :: _, [], h, _, _, _ => h.elim
def preR (φ : List Nat) : Nat → Prop
  | 0 => True
  | n + 1 => φ[n]? = some n ∧ preR φ n
theorem preR_get {φ : List Nat} : ∀ {n : Nat}, preR φ n → ∀ b, b < n → φ[b]? = some b
  | 0, _, _, h => by omega
  | n + 1, h, b, hb => by
    by_cases e : b = n
    · subst e; exact h.1
    · exact preR_get h.2 b (by omega)
def nodupR : List Nat → Bool
  | [] => true
  | x :: xs => !xs.contains x && nodupR xs
theorem nodupR_ok : ∀ {l : List Nat}, nodupR l = true → l.Nodup
  | [], _ => List.nodup_nil
  | x :: xs, h => by
    simp only [nodupR, Bool.and_eq_true, Bool.not_eq_true', List.contains_eq_mem, decide_eq_false_iff_not] at h
    exact List.nodup_cons.2 ⟨h.1, nodupR_ok h.2⟩
structure Refit (N : Nat) (φ : List Nat) (H' H : Hp) : Prop where
  nd : nodupR φ = true
  pre : preR φ N
  blk : blkR φ H.length H φ H'
theorem homeR_back {M : Mem} {h : Home} {H : Hp} {w : World} (I : Inv M h H w) {φ : List Nat} (i : Nat) (v : Value) (q : h (rn φ H.length i) = some v) : homeR φ h i = some v := by
  by_cases hi : i < φ.length
  · have e1 : φ[i]? = some φ[i] := List.getElem?_eq_getElem hi
    rw [rn_lt e1] at q
    show (match φ[i]? with | some b => h b | none => none) = some v
    rw [e1]
    exact q
  · rw [rn_ge (by omega)] at q
    have := I.len _ _ q
    omega
theorem Refit.homes {N : Nat} {φ : List Nat} {H' H : Hp} (f : Refit N φ H' H) {h : Home} {k : Nat} (q : Homes (homeR φ h) H' k) : Homes h H k := by
  obtain ⟨i, B, v, p1, p2, p3⟩ := q
  obtain ⟨b, B', g1, g2, g3⟩ := blkR_get f.blk i B p1
  simp only [homeR, g1] at p2
  exact ⟨b, B', v, g3, p2, p3⟩
theorem Refit.inv {N : Nat} {φ : List Nat} {H' H : Hp} (f : Refit N φ H' H) {M : Mem} {h : Home} {w : World} (I : Inv M h H w) : Inv M (homeR φ h) H' w := by
  refine ⟨I.mem, I.one, fun i B q => ?_, fun k q o => I.sep k (f.homes q) o, fun i i' B B' v v' k q1 q2 q3 q4 q5 q6 => ?_, fun i v q => ?_, I.glob⟩
  · obtain ⟨b, B', g1, g2, g3⟩ := blkR_get f.blk i B q
    obtain ⟨v, e1, e2⟩ := I.blk _ B' g3
    exact ⟨v, by simp only [homeR, g1]; exact e1, e2.back (homeR_back I) g2⟩
  · obtain ⟨b, C, g1, g2, g3⟩ := blkR_get f.blk i B q1
    obtain ⟨b', C', f1, f2, f3⟩ := blkR_get f.blk i' B' q2
    simp only [homeR, g1] at q3
    simp only [homeR, f1] at q4
    have := I.inj b b' C C' v v' k g3 f3 q3 q4 q5 q6
    subst this
    exact (List.getElem?_inj (List.getElem?_eq_some_iff.1 g1).1 (nodupR_ok f.nd)).1 (by rw [g1, f1])
  · cases e : φ[i]? with
    | none => simp only [homeR, e] at q; cases q
    | some b => rw [← blkR_len f.blk]; exact (List.getElem?_eq_some_iff.1 e).1
theorem Refit.step {N : Nat} {φ : List Nat} {H' H : Hp} (f : Refit N φ H' H) {M0 : Mem} {h0 : Home} {H0 : Hp} {w0 : World} {M : Mem} {h : Home} {w : World} (hN : ∀ b v, h0 b = some v → b < N) (s : Step M0 h0 H0 w0 M h H w) : Step M0 h0 H0 w0 M (homeR φ h) H' w where
  mle := s.mle
  hle b v q := by
    have := preR_get f.pre b (hN b v q)
    show (match φ[b]? with | some b => h b | none => none) = some v
    rw [this]
    exact s.hle b v q
  inv := f.inv s.inv
  chg := s.chg
  sub k q := s.sub k (f.homes q)
  new := s.new
theorem Refit.vr {φ : List Nat} {H : Hp} {M : Mem} {h : Home} {w : World} (I : Inv M h H w) {pv : PV} {v : Value} (r : VR M h (ren φ H.length pv) v) : VR M (homeR φ h) pv v := ren_back (homeR_back I) r pv rfl
def matchR (φ : List Nat) (n : Nat) : List (Option PV) → List PV → Prop
  | [], [] => True
  | some p :: ps, x :: xs => ren φ n p = x ∧ matchR φ n ps xs
  | none :: ps, _ :: xs => matchR φ n ps xs
  | _, _ => False
theorem matchR_inst {φ : List Nat} {H : Hp} {M : Mem} {h : Home} {w : World} (I : Inv M h H w) : ∀ (pat : List (Option PV)) (tm : List PV) (vs : List Value) (k : Nat), matchR φ H.length pat tm → vs.length = tm.length → (∀ (i : Nat) (pv : PV) (v : Value), tm[i]? = some pv → vs[i]? = some v → VR M h pv v) →
    (instP (fun i => vs.getD (i - k) undef) k pat).length = vs.length ∧ ∀ (i : Nat) (pv : PV) (v : Value), (instP (fun i => vs.getD (i - k) undef) k pat)[i]? = some pv → vs[i]? = some v → VR M (homeR φ h) pv v
  | [], [], vs, k, _, hl, _ => by
    have : vs = [] := List.eq_nil_of_length_eq_zero (by simpa using hl)
    subst this
    exact ⟨rfl, by simp⟩
  | some p :: ps, x :: xs, v :: vs, k, hm, hl, hv => by
    obtain ⟨rfl, hm⟩ := hm
    obtain ⟨h1, h2⟩ := matchR_inst I ps xs vs (k + 1) hm (by simpa using hl) fun i pv u a b => hv (i + 1) pv u (by simpa using a) (by simpa using b)
    have e : ∀ k' l, (instP (fun i => (v :: vs).getD (i - k) undef) (k' + (k + 1)) l) = instP (fun i => vs.getD (i - (k + 1)) undef) (k' + (k + 1)) l := fun k' l => by
      induction l generalizing k' with
      | nil => rfl
      | cons q l ih =>
        have ih' := ih (k' + 1)
        rw [show k' + 1 + (k + 1) = k' + (k + 1) + 1 by omega] at ih'
        cases q with
        | none =>
          simp only [instP]
          rw [ih', show k' + (k + 1) - k = (k' + (k + 1) - (k + 1)) + 1 by omega]
          rfl
        | some q => simp only [instP]; rw [ih']
    have e0 := e 0 ps
    rw [Nat.zero_add] at e0
    simp only [instP, e0]
    refine ⟨by rw [List.length_cons, List.length_cons, h1], fun i pv u a b => ?_⟩
    cases i with
    | zero => simp at a b; subst a; subst b; exact Refit.vr I (hv 0 _ _ rfl rfl)
    | succ i => exact h2 i pv u (by simpa using a) (by simpa using b)
  | none :: ps, x :: xs, v :: vs, k, hm, hl, hv => by
    obtain ⟨h1, h2⟩ := matchR_inst I ps xs vs (k + 1) hm (by simpa using hl) fun i pv u a b => hv (i + 1) pv u (by simpa using a) (by simpa using b)
    have e : ∀ k' l, (instP (fun i => (v :: vs).getD (i - k) undef) (k' + (k + 1)) l) = instP (fun i => vs.getD (i - (k + 1)) undef) (k' + (k + 1)) l := fun k' l => by
      induction l generalizing k' with
      | nil => rfl
      | cons q l ih =>
        have ih' := ih (k' + 1)
        rw [show k' + 1 + (k + 1) = k' + (k + 1) + 1 by omega] at ih'
        cases q with
        | none =>
          simp only [instP]
          rw [ih', show k' + (k + 1) - k = (k' + (k + 1) - (k + 1)) + 1 by omega]
          rfl
        | some q => simp only [instP]; rw [ih']
    have e0 := e 0 ps
    rw [Nat.zero_add] at e0
    simp only [instP, e0, Nat.sub_self]
    refine ⟨by rw [List.length_cons, List.length_cons, h1], fun i pv u a b => ?_⟩
    cases i with
    | zero => simp at a b; subst a; subst b; exact .val _
    | succ i => exact h2 i pv u (by simpa using a) (by simpa using b)
  | [], _ :: _, _, _, hm, _, _ => hm.elim
  | some _ :: _, [], _, _, hm, _, _ => hm.elim
  | none :: _, [], _, _, hm, _, _ => hm.elim
  | some _ :: _, _ :: _, [], _, _, hl, _ => by simp at hl
  | none :: _, _ :: _, [], _, _, hl, _ => by simp at hl
def FitsR (N : Nat) (pat : List (Option PV)) (H : Hp) (σ : St) : Prop := ∃ φ : List Nat, matchR φ σ.H.length pat σ.tm ∧ blkR φ σ.H.length σ.H φ H ∧ nodupR φ = true ∧ preR φ N
theorem FitsR.rel {E : Env} {pat : List (Option PV)} {H : Hp} {σ : St} {a : Act} {w : World} (f : FitsR E.N pat H σ) (r : Rel E σ a w) : ∃ ρ, Rel E ⟨instP ρ 0 pat, H⟩ a w := by
  obtain ⟨φ, f1, f2, f3, f4⟩ := f
  obtain ⟨M, h, s, t, d⟩ := r
  have rf : Refit E.N φ H σ.H := ⟨f3, f4, f2⟩
  obtain ⟨g1, g2⟩ := matchR_inst (φ := φ) s.inv pat σ.tm a.tmps.toList 0 f1 (by simpa using t.size) fun i pv v x y => t.vr i pv v x (by simpa using y)
  exact ⟨_, M, homeR φ h, rf.step E.hN s, ⟨by simpa using g1.symm, fun i pv v x y => g2 i pv v x (by simpa using y)⟩, d⟩
def setN (fgt : List Nat) (l : List (Option PV)) : List (Option PV) := fgt.foldl (fun l i => l.set i none) l
def setC (car : List (Nat × PV)) (l : List (Option PV)) : List (Option PV) := car.foldl (fun l x => l.set x.1 (some x.2)) l
def patK (car : List (Nat × PV)) (fgt : List Nat) (tm : List PV) : List (Option PV) := setC car (setN fgt (tm.map some))
theorem patK_eq {car : List (Nat × PV)} {fgt : List Nat} {tm : List PV} : patK car fgt tm = setC car (setN fgt (tm.map some)) := rfl
theorem setN_nil {l : List (Option PV)} : setN [] l = l := rfl
theorem setN_cons {i : Nat} {is : List Nat} {l : List (Option PV)} : setN (i :: is) l = setN is (l.set i none) := rfl
theorem setC_nil {l : List (Option PV)} : setC [] l = l := rfl
theorem setC_cons {i : Nat} {p : PV} {is : List (Nat × PV)} {l : List (Option PV)} : setC ((i, p) :: is) l = setC is (l.set i (some p)) := rfl
theorem instP_nil {ρ : Nat → Value} {i : Nat} : instP ρ i [] = [] := rfl
theorem instP_some {ρ : Nat → Value} {i : Nat} {p : PV} {ps : List (Option PV)} : instP ρ i (some p :: ps) = p :: instP ρ (i + 1) ps := rfl
theorem instP_none {ρ : Nat → Value} {i : Nat} {ps : List (Option PV)} : instP ρ i (none :: ps) = .val (ρ i) :: instP ρ (i + 1) ps := rfl
theorem PWp.loopK {P : Program} {N : Nat} {c : Code} {Q : Exit → St → Prop} {tm : List PV} {H0 : Hp} {α : Type} (car : α → List (Nat × PV)) (fgt : List Nat) (HH : α → Hp) (I : α → Prop) (m : α → Nat) (x : α) (h0 : I x) (f0 : FitsR N (patK (car x) fgt tm) (HH x) ⟨tm, H0⟩)
    (h : ∀ x ρ, I x → PWp P N c (Exit.pthen (fun σ' => ∃ x', m x' < m x ∧ I x' ∧ FitsR N (patK (car x') fgt tm) (HH x') σ') Q) ⟨instP ρ 0 (patK (car x) fgt tm), HH x⟩) : PWp P N (.loop c) Q ⟨tm, H0⟩ := fun E a w hN r => by
  subst hN
  refine wp_loop_ghost (fun g a w => ∃ x, (g = m x ∧ I x) ∧ ∃ ρ, Rel E ⟨instP ρ 0 (patK (car x) fgt tm), HH x⟩ a w) (m x) ⟨x, ⟨rfl, h0⟩, f0.rel r⟩ fun g a w ⟨x', ⟨h1, h1'⟩, ρ, h2⟩ => Code.wp_mono ?_ (h x' ρ h1' E a w rfl h2)
  subst h1
  intro e a' w' q
  cases e with
  | normal => obtain ⟨σ'', ⟨x'', h3, h4, h5⟩, h6⟩ := q; exact ⟨m x'', h3, x'', ⟨rfl, h4⟩, h5.rel h6⟩
  | panic _ => exact q.elim
  | outgrown => exact q.elim
  | exit _ => exact q
  | goto _ => exact q
  | ret => exact q
theorem fitA {A B C D : List Nat → Prop} (φ : List Nat) (h1 : A φ := by ((try simp (disch := omega) only [push_cast, seval]); (repeat' (first | exact trivial | exact rfl | refine And.intro ?_ ?_ | omega)))) (h2 : B φ := by ((try simp (disch := omega) only [push_cast, seval]); (repeat' (first | exact trivial | exact rfl | refine And.intro ?_ ?_ | omega)); (try (repeat' (first | exact trivial | exact rfl | refine And.intro ?_ ?_ | omega))))) (h3 : C φ := by exact rfl) (h4 : D φ := by first | exact trivial | exact ⟨rfl, trivial⟩ | exact ⟨rfl, rfl, trivial⟩ | exact ⟨rfl, rfl, rfl, trivial⟩) : ∃ φ, A φ ∧ B φ ∧ C φ ∧ D φ := ⟨φ, h1, h2, h3, h4⟩
def RV (x : PV) : PV → Hp → Prop := fun r _ => r = x
def RH (x : PV) (H : Hp) : PV → Hp → Prop := fun r H' => r = x ∧ H' = H
def PPostR (T : Tys) (N : Nat) (rs : List ResultVar) (R : PV → Hp → Prop) : Exit → St → Prop := fun e σ => (e = .normal ∨ e = .ret) ∧ ∃ pvs, presults T rs σ = some pvs ∧ ∃ φ r H, R r H ∧ ptuple pvs = ren φ σ.H.length r ∧ Refit N φ H σ.H
theorem pcalls_ofR {P : Program} {T : Tys} (ok : Ok P T) {f : FuncId} {fn : Func} {c : Code} (hf : P.funcs[f]? = some fn) (hb : fn.body = some c) {args : List PV} {H : Hp} {R : PV → Hp → Prop}
    (h : PWp P H.length c (PPostR T H.length fn.results.toList R) ⟨args ++ List.replicate (fn.ntmps - args.length) (.val undef), H⟩) : PCalls P f args H R := by
  have h0 : PCalls P f args H (fun pv H' => ∃ φ r H'', R r H'' ∧ pv = ren φ H'.length r ∧ Refit H.length φ H'' H') := pcalls_of ok hf hb (PWp.mono h fun e σ ⟨q1, pvs, q2, φ, r, H', q3, q4, q5⟩ => ⟨q1, pvs, q2, φ, r, H', q3, q4, q5⟩)
  intro M hh w vs I rv
  refine (h0 M hh w vs I rv).mono fun e w' ⟨v, M', h', pv, H', e1, ⟨φ, r, H'', e2, e3, e4⟩, e5, e6⟩ => ?_
  subst e3
  exact ⟨v, M', homeR φ h', r, H'', e1, e2, Refit.vr e6.inv e5, e4.step I.len e6⟩
section
variable {T : Tys} {N : Nat} {σ : St} {X : PV} {H : Hp} {R : PV → Hp → Prop}
theorem ren_val {φ : List Nat} {n : Nat} {v : Value} : ren φ n (.val v) = .val v := rfl
theorem ren_own {φ : List Nat} {n b : Nat} : ren φ n (.own b) = .own (rn φ n b) := rfl
theorem ren_ptr {φ : List Nat} {n b o : Nat} : ren φ n (.ptr b o) = .ptr (rn φ n b) o := rfl
theorem ren_sl {φ : List Nat} {n sz : Nat} {es : List (List PV)} : ren φ n (.sl sz es) = .sl sz es := rfl
theorem ren_agg {φ : List Nat} {n : Nat} {fs : List PV} : ren φ n (.agg fs) = .agg (renL φ n fs) := rfl
theorem ren_tup {φ : List Nat} {n : Nat} {fs : List PV} : ren φ n (.tup fs) = .tup (renL φ n fs) := rfl
theorem renL_nil {φ : List Nat} {n : Nat} : renL φ n [] = [] := rfl
theorem renL_cons {φ : List Nat} {n : Nat} {p : PV} {ps : List PV} : renL φ n (p :: ps) = ren φ n p :: renL φ n ps := rfl
theorem renB_box {φ : List Nat} {n : Nat} {cs : List PV} : renB φ n (some (.box cs)) = some (.box (renL φ n cs)) := rfl
theorem renB_row {φ : List Nat} {n : Nat} {e : TypeId} {sz : Nat} {es : List (List PV)} : renB φ n (some (.row e sz es)) = some (.row e sz (es.map (renL φ n))) := rfl
theorem renB_none {φ : List Nat} {n : Nat} : renB φ n none = none := rfl
theorem rn_nil {n i : Nat} : rn [] n i = n + i := by simp [rn]
theorem rn_zero {b : Nat} {φ : List Nat} {n : Nat} : rn (b :: φ) n 0 = b := by simp [rn]
theorem renL_flat1 {φ : List Nat} {n : Nat} : ∀ {l : List PV}, l.all cloC1 = true → renL φ n l = l
  | [], _ => rfl
  | p :: ps, h => by
    simp only [List.all_cons, Bool.and_eq_true] at h
    rw [renL, renL_flat1 h.2]
    congr 1
    cases p <;> first | rfl | simp [cloC1] at h
theorem renL_flat {φ : List Nat} {n : Nat} : ∀ {l : List PV}, l.all cloC = true → renL φ n l = l
  | [], _ => rfl
  | p :: ps, h => by
    simp only [List.all_cons, Bool.and_eq_true] at h
    rw [renL, renL_flat h.2]
    congr 1
    cases p with
    | clo f caps => rw [ren, renL_flat1 h.1]
    | _ => first | rfl | simp [cloC] at h
theorem rows_flat {φ : List Nat} {n : Nat} {α : Type} {f : α → List PV} (hf : ∀ x, (f x).all cloC = true) (l : List α) : (l.map f).map (renL φ n) = l.map f := by
  rw [List.map_map]
  apply List.map_congr_left
  intro x _
  exact renL_flat (hf x)
theorem pend {e : Exit} {rs : List ResultVar} (he : e = .ret ∨ e = .normal) {pvs : List PV} (h1 : presults T rs σ = some pvs) (φ : List Nat) {r : PV} (h2 : ptuple pvs = ren φ σ.H.length r) {H : Hp} (h3 : Refit N φ H σ.H) (h4 : R r H) : PPostR T N rs R e σ := ⟨he.symm, pvs, h1, φ, r, H, h4, h2, h3⟩
end
section
variable {T : Tys} {σ : St} {X : PV}
theorem scal1_ren {φ : List Nat} {n : Nat} {p : PV} (h : scal1 p = true) : ren φ n p = p := by cases p <;> first | rfl | simp [scal1] at h
theorem scalL_ren {φ : List Nat} {n : Nat} : ∀ {l : List PV}, l.all scal1 = true → renL φ n l = l
  | [], _ => rfl
  | p :: ps, h => by
    simp only [List.all_cons, Bool.and_eq_true] at h
    rw [renL, scalL_ren h.2, scal1_ren h.1]
theorem scalA_ren {φ : List Nat} {n : Nat} {p : PV} (h : scalA p = true) : ren φ n p = p := by
  cases p with
  | agg fs => rw [ren, scalL_ren h]
  | _ => exact scal1_ren h
theorem scalAL_ren {φ : List Nat} {n : Nat} : ∀ {l : List PV}, l.all scalA = true → renL φ n l = l
  | [], _ => rfl
  | p :: ps, h => by
    simp only [List.all_cons, Bool.and_eq_true] at h
    rw [renL, scalAL_ren h.2, scalA_ren h.1]
theorem scalP_ren {φ : List Nat} {n : Nat} {p : PV} (h : scalP p = true) : ren φ n p = p := by
  cases p with
  | tup fs => rw [ren, scalAL_ren h]
  | agg fs => exact scalA_ren h
  | _ => exact scal1_ren h
theorem pendV {e : Exit} {rs : List ResultVar} (he : e = .ret ∨ e = .normal) {pvs : List PV} (h1 : presults T rs σ = some pvs) (hs : scalP X = true) (h2 : ptuple pvs = X) : PPostR T 0 rs (RV X) e σ :=
  pend he h1 [] (by rw [scalP_ren hs]; exact h2) (H := []) ⟨rfl, trivial, trivial⟩ rfl
theorem pendH {N : Nat} {H : Hp} {e : Exit} {rs : List ResultVar} (φ : List Nat) (he : e = .ret ∨ e = .normal) {pvs : List PV} (h1 : presults T rs σ = some pvs) (h2 : ptuple pvs = ren φ σ.H.length X) (h3 : blkR φ σ.H.length σ.H φ H) (h4 : nodupR φ = true) (h5 : preR φ N) : PPostR T N rs (RH X H) e σ :=
  pend he h1 φ h2 ⟨h4, h5, h3⟩ ⟨rfl, rfl⟩
section
variable {e : Exit} {N : Nat} {H : Hp} {a b c : Tmp}
theorem pendV0 (he : e = .ret ∨ e = .normal) (h2 : PV.tup [] = X) (hs : scalP X = true) : PPostR T 0 [] (RV X) e σ := pendV he rfl hs h2
theorem pendV1 (he : e = .ret ∨ e = .normal) (h2 : σ.tm.getD a (.val undef) = X) (hs : scalP X = true) : PPostR T 0 [.tmp a] (RV X) e σ := pendV he rfl hs h2
theorem pendV2 (he : e = .ret ∨ e = .normal) (h2 : PV.tup [σ.tm.getD a (.val undef), σ.tm.getD b (.val undef)] = X) (hs : scalP X = true) : PPostR T 0 [.tmp a, .tmp b] (RV X) e σ := pendV he rfl hs h2
theorem pendV3 (he : e = .ret ∨ e = .normal) (h2 : PV.tup [σ.tm.getD a (.val undef), σ.tm.getD b (.val undef), σ.tm.getD c (.val undef)] = X) (hs : scalP X = true) : PPostR T 0 [.tmp a, .tmp b, .tmp c] (RV X) e σ := pendV he rfl hs h2
theorem pendH0 (φ : List Nat) (he : e = .ret ∨ e = .normal) (h2 : PV.tup [] = ren φ σ.H.length X) (h3 : blkR φ σ.H.length σ.H φ H) (h4 : nodupR φ = true) (h5 : preR φ N) : PPostR T N [] (RH X H) e σ := pendH φ he rfl h2 h3 h4 h5
theorem pendH1 (φ : List Nat) (he : e = .ret ∨ e = .normal) (h2 : σ.tm.getD a (.val undef) = ren φ σ.H.length X) (h3 : blkR φ σ.H.length σ.H φ H) (h4 : nodupR φ = true) (h5 : preR φ N) : PPostR T N [.tmp a] (RH X H) e σ := pendH φ he rfl h2 h3 h4 h5
theorem pendH2 (φ : List Nat) (he : e = .ret ∨ e = .normal) (h2 : PV.tup [σ.tm.getD a (.val undef), σ.tm.getD b (.val undef)] = ren φ σ.H.length X) (h3 : blkR φ σ.H.length σ.H φ H) (h4 : nodupR φ = true) (h5 : preR φ N) : PPostR T N [.tmp a, .tmp b] (RH X H) e σ := pendH φ he rfl h2 h3 h4 h5
theorem pendH3 (φ : List Nat) (he : e = .ret ∨ e = .normal) (h2 : PV.tup [σ.tm.getD a (.val undef), σ.tm.getD b (.val undef), σ.tm.getD c (.val undef)] = ren φ σ.H.length X) (h3 : blkR φ σ.H.length σ.H φ H) (h4 : nodupR φ = true) (h5 : preR φ N) : PPostR T N [.tmp a, .tmp b, .tmp c] (RH X H) e σ := pendH φ he rfl h2 h3 h4 h5
end
end
theorem PWp.at {P : Program} {N : Nat} {c : Code} {Q : Exit → St → Prop} {tm tm' : List PV} {H H' : Hp} (h : tm = tm') (hH : H = H') (k : PWp P N c Q ⟨tm', H'⟩) : PWp P N c Q ⟨tm, H⟩ := by subst h; subst hH; exact k
theorem vwOk_clo {H : Hp} {fs : List PV} (h : fs.all cloC = true) : vwOk H (.agg fs) := fun q hq => by
  have := List.all_eq_true.1 h q hq
  cases q <;> first | exact this | simp [cloC] at this
def vwL (H : Hp) : List PV → Prop
  | [] => True
  | p :: ps => vwOk0 H p ∧ vwL H ps
theorem vwL_mem {H : Hp} : ∀ {l : List PV}, vwL H l → ∀ q ∈ l, vwOk0 H q
  | [], _, _, h => by cases h
  | p :: l, hl, q, h => by
    rcases List.mem_cons.1 h with rfl | h
    · exact hl.1
    · exact vwL_mem hl.2 q h
theorem vwOk_ag {H : Hp} {fs : List PV} (h : vwL H fs) : vwOk H (.agg fs) := vwL_mem h
theorem vwOk_cl {H : Hp} {f : FuncId} {fs : List PV} (h : vwL H fs) : vwOk H (.clo f fs) := vwL_mem h
theorem rowsC {α : Type} {f : α → List PV} (h : ∀ x, (f x).all cloC = true) {xs : List α} : ∀ row ∈ xs.map f, row.all cloC = true := fun row hr => by
  obtain ⟨x, _, rfl⟩ := List.mem_map.1 hr
  exact h x
theorem rowsC2 {α : Type} {f : α → List PV} (h : ∀ x, (f x).all cloC = true) {xs ys : List α} : ∀ row ∈ xs.map f ++ ys.map f, row.all cloC = true := fun row hr => by
  rcases List.mem_append.1 hr with q | q
  · exact rowsC h row q
  · exact rowsC h row q
theorem rowsF {α : Type} {f : α → List PV} (h : ∀ x, freL (f x) = true) {xs : List α} : ∀ row ∈ xs.map f, freL row = true := fun row hr => by
  obtain ⟨x, _, rfl⟩ := List.mem_map.1 hr
  exact h x
theorem pcall_RV {P : Program} {cm : Bool} {g : FuncId} {args : List PV} {σ : St} {K : PV → St → Prop} {v : PV} (hc : Callable P g) (h : PCalls P g (args.map (vw σ.H)) [] (RV v)) (hv : scalP v = true) (ha : vwAll σ.H args) (hk : K v σ) : pcall P cm g args σ K := pcall_W hc h hv ha hk
theorem pcall_RH {P : Program} {cm : Bool} {g : FuncId} {args : List PV} {σ : St} {K : PV → St → Prop} {v : PV} {H' : Hp} (hc : Callable P g) (h : PCalls P g (args.map (vw σ.H)) [] (RH v H')) (hv : fre v = true) (hH : freH H') (ha : vwAll σ.H args) (hk : K (ren [] σ.H.length v) ⟨σ.tm, σ.H ++ H'.map (renB [] σ.H.length)⟩) : pcall P cm g args σ K :=
  ⟨hc, .inr (.inr (.inl ⟨_, h, vwAll_mem ha, fun r H'' ⟨e1, e2⟩ => by subst e1; subst e2; exact ⟨hv, hH, hk⟩⟩))⟩
theorem pcall_RG {P : Program} {g : FuncId} {args args0 : List PV} {H0 : Hp} {σ : St} {K : PV → St → Prop} {v : PV} {H' : Hp} (φ : List Nat) (hc : Callable P g) (h : PCalls P g args0 H0 (RH v H')) (ha : args = renL φ σ.H.length args0) (hH : blkR φ σ.H.length σ.H φ H0) (hs : H0.all (·.isSome) = true) (hn : nodupR φ = true) (hk : K (ren φ σ.H.length v) ⟨σ.tm, wback φ σ.H H'⟩) : pcall P true g args σ K :=
  ⟨hc, .inr (.inr (.inr ⟨rfl, φ, H0, args0, _, h, blkR_len hH, nodupR_ok hn, ha, fun i b hb => by
    have hi : i < H0.length := by rw [← blkR_len hH]; exact (List.getElem?_eq_some_iff.1 hb).1
    have hsome := List.all_eq_true.1 hs H0[i] (List.getElem_mem hi)
    obtain ⟨B, hB⟩ := Option.isSome_iff_exists.1 hsome
    have e : H0[i]? = some (some B) := by rw [List.getElem?_eq_getElem hi, hB]
    obtain ⟨b', B', g1, g2, g3⟩ := blkR_get hH i B e
    rw [hb] at g1
    cases g1
    exact ⟨B, B', e, g2, g3⟩, fun r H'' ⟨e1, e2⟩ => by subst e1; subst e2; exact hk⟩))⟩
def blkE (φ : List Nat) (n : Nat) (H : Hp) : List Nat → Hp → Prop
  | [], [] => True
  | b :: bs, B :: r => H[b]? = some B ∧ (∃ B', B = some B') ∧ renB φ n B = B ∧ blkE φ n H bs r
  | _, _ => False
theorem blkE_R {φ : List Nat} {n : Nat} {H : Hp} : ∀ {bs : List Nat} {H0 : Hp}, blkE φ n H bs H0 → blkR φ n H bs H0 ∧ H0.all (·.isSome) = true
  | [], [], _ => ⟨trivial, rfl⟩
  | b :: bs, B :: r, h => by
    obtain ⟨h1, ⟨B', rfl⟩, h3, h4⟩ := h
    obtain ⟨i1, i2⟩ := blkE_R (bs := bs) (H0 := r) h4
    exact ⟨⟨by rw [h3]; exact h1, i1⟩, by simp [i2]⟩
  | [], _ :: _, h => h.elim
  | _ :: _, [], h => h.elim
theorem wback_eq {φ : List Nat} {H H' : Hp} : wback φ H H' = wsets (renB φ H.length) φ H' H ++ (H'.drop φ.length).map (renB φ H.length) := rfl
theorem wsets_nil {f : Option Blk → Option Blk} {H H' : Hp} : wsets f [] H' H = H := by cases H' <;> rfl
theorem wsets_cons {f : Option Blk → Option Blk} {b : Nat} {φ : List Nat} {B : Option Blk} {H H' : Hp} : wsets f (b :: φ) (B :: H') H = wsets f φ H' (H.set b (f B)) := rfl
end Go.Proofs.Ytcbknmnlgoeniaa
namespace Go.Proofs.Ytcbknmnlgoeniaa
open Go.RowKit
inductive OrdT where
  | done
  | step (i : Nat) (t : OrdT)
  | fork (u : OrdT)
  | alt (i : Nat) (t u : OrdT)
  | stop
def OrdT.heads : OrdT → List Nat
  | .alt i _ u => i :: heads u
  | _ => []
def OrdT.depth : OrdT → Nat
  | .done => 0
  | .step _ t => t.depth + 1
  | .fork u => u.depth
  | .alt _ t u => max (t.depth + 1) u.depth
  | .stop => 0
def OrdT.isTree : OrdT → Bool
  | .alt _ _ _ => false
  | .stop => false
  | _ => true
def OrdT.ok (ops : Array Oper) : OrdT → Array Bool → Bool
  | .done, listed => Region.ready .any ops listed == []
  | .step i t, listed =>
    (Region.ready .any ops listed).contains i &&
    (if kindAt ops i ≤ 1 then Region.free .any ops listed i && (kindAt ops i == 0 || (List.range ops.size).all fun j => listed.getD j true || j == i || kindAt ops j ≤ 2 || waits ops i 6 j)
     else Region.ready .any ops listed == [i]) && t.isTree && t.ok ops (listed.setIfInBounds i true)
  | .fork u, listed => (Region.ready .any ops listed).all (fun j => u.heads.contains j) && !(Region.ready .any ops listed).isEmpty && u.ok ops listed
  | .alt i t u, listed => t.isTree && t.ok ops (listed.setIfInBounds i true) && u.ok ops listed
  | .stop, _ => true
def ptree (P : Program) (T : Tys) (md : Bool) (ops : Array Oper) (K : St → Prop) : OrdT → St → Prop
  | .done, σ => K σ
  | .step i t, σ => match ops[i]? with
    | none => False
    | some o => if pwanted ops σ.tm o.guard then
        (if kindOp o.op ≤ 1 then py P T σ.tm σ.H o.op o.type fun pv => ptree P T md ops K t (σ.put o.dst pv) else pop P T md false o σ fun pv σ' => ptree P T md ops K t (σ'.put o.dst pv))
      else ptree P T md ops K t (σ.put o.dst (.val undef))
  | .fork u, σ => ptree P T md ops K u σ
  | .alt i t u, σ => (match ops[i]? with
    | none => False
    | some o => if pwanted ops σ.tm o.guard then
        (if kindOp o.op ≤ 1 then py P T σ.tm σ.H o.op o.type fun pv => ptree P T md ops K t (σ.put o.dst pv) else pop P T md false o σ fun pv σ' => ptree P T md ops K t (σ'.put o.dst pv))
      else ptree P T md ops K t (σ.put o.dst (.val undef))) ∧ ptree P T md ops K u σ
  | .stop, _ => True
section
variable {P : Program} {T : Tys} {E : Env}
theorem kind_ext {op : Op} (h : kindOp op ≤ 2) (h1 : ¬ kindOp op ≤ 1) : extOp op = true := by
  cases hx : extOp op with
  | true => rfl
  | false =>
    exfalso
    have : kindOp op ≤ 1 ∨ kindOp op = 3 := by
      unfold kindOp
      split <;> first | (left; omega) | (rw [hx]; right; rfl)
    omega
theorem step_ok (hT : TysOk P T) (hE : elemsOk P T) {md : Bool} {ops : Array Oper} {i : Nat} {o : Oper} (hio : ops[i]? = some o) {K' : St → Prop} {Q : Exit → Act → World → Prop} {σ : St} {a : Act} {w : World} (r : Rel E σ a w)
    (hk : if pwanted ops σ.tm o.guard then (if kindOp o.op ≤ 1 then py P T σ.tm σ.H o.op o.type fun pv => K' (σ.put o.dst pv) else pop P T md false o σ fun pv σ' => K' (σ'.put o.dst pv)) else K' (σ.put o.dst (.val undef)))
    {R : Act → World → Prop} (hR : ∀ σ' a' w', K' σ' → Rel E σ' a' w' → R a' w') : wpOp P ops Q i (fun a' w' => (kindAt ops i ≤ 2 → Ext w w') ∧ R a' w') a w := by
  have hw := r.elim fun M q => q.elim fun h q => wanted_eq q.2.1 ops o
  have hka : kindAt ops i = kindOp o.op := by simp [kindAt, hio]
  unfold wpOp
  simp only [hio, hw]
  by_cases hp : pwanted ops σ.tm o.guard = true
  · rw [if_pos hp] at hk
    rw [if_pos hp]
    by_cases hkd : kindOp o.op ≤ 1
    · rw [if_pos hkd] at hk
      obtain ⟨M, h, s, t, d⟩ := r
      obtain ⟨pv, v, g1, g2, g3⟩ := py_ok hT hE s.inv t o hk
      exact .inl (wp_value (g3 w fun _ => Ext.refl w) ⟨fun _ => Ext.refl w, hR _ _ w g1 ⟨M, h, by rw [St.put_H]; exact s, t.put g2 o.dst, by rw [Act.put_defers']; exact d⟩⟩)
    · rw [if_neg hkd] at hk
      refine .inl (pop_rel hT hE r hk fun pv σ' v w' g1 g2 g3 => ⟨fun hle => ?_, hR _ _ w' g1 g3⟩)
      rw [hka] at hle
      exact g2 rfl (kind_ext hle hkd)
  · rw [if_neg hp] at hk
    rw [if_neg hp]
    exact ⟨fun _ => Ext.refl w, hR _ _ w hk (r.skip o.dst)⟩
theorem tree_heads {t : OrdT} (h : t.isTree = true) : t.heads = [] := by cases t <;> first | rfl | simp [OrdT.isTree] at h
theorem tree_stop {t : OrdT} (h : t.isTree = true) : t ≠ .stop := by rintro rfl; simp [OrdT.isTree] at h
theorem ptree_ok (hT : TysOk P T) (hE : elemsOk P T) {md : Bool} (ops : Array Oper) (hs : Region.noSelect ops = true) {K : St → Prop} {Q : Exit → Act → World → Prop} (hpan : ∀ c a w, Q (.panic c) a w → False) (hq : ∀ σ' a' w', K σ' → Rel E σ' a' w' → Q .normal a' w') :
    ∀ (t : OrdT) (listed : Array Bool) (σ : St) (a : Act) (w : World), t.ok ops listed = true → ClosedL ops listed → ptree P T md ops K t σ → Rel E σ a w →
      ((t.heads = [] → t ≠ .stop → ∀ fuel, t.depth ≤ fuel → wpE P ops Q fuel listed a w) ∧ ∀ j ∈ t.heads, j ∈ Region.ready .any ops listed → ∀ fuel, t.depth ≤ fuel + 1 → wpOp P ops Q j (fun a' w' => (kindAt ops j ≤ 2 → Ext w w') ∧ wpE P ops Q fuel (listed.setIfInBounds j true) a' w') a w)
  | .done, listed, σ, a, w, ho, _, hk, r => by
    refine ⟨fun _ _ fuel _ => ?_, fun j hj => by simp [OrdT.heads] at hj⟩
    have hr : Region.ready .any ops listed = [] := by simpa [OrdT.ok] using ho
    cases fuel with
    | zero => exact ⟨hr, hq σ a w hk r⟩
    | succ fuel => exact ⟨fun _ => hq σ a w hk r, by rw [hr]; simp⟩
  | .stop, _, _, _, _, _, _, _, _ => ⟨fun _ h => absurd rfl h, fun j hj => by simp [OrdT.heads] at hj⟩
  | .alt i t u, listed, σ, a, w, ho, hcl, hk, r => by
    simp only [OrdT.ok, Bool.and_eq_true] at ho
    refine ⟨fun h => by simp [OrdT.heads] at h, fun j hj hjr fuel hf => ?_⟩
    have hf1 : t.depth ≤ fuel := by simp only [OrdT.depth] at hf; omega
    have hf2 : u.depth ≤ fuel + 1 := by simp only [OrdT.depth] at hf; omega
    by_cases hji : j = i
    · subst hji
      obtain ⟨o, hio⟩ := ready_lt hjr
      have hk1 := hk.1
      simp only [hio] at hk1
      refine step_ok hT hE hio (K' := ptree P T md ops K t) r hk1 fun σ' a' w' g1 g2 => ?_
      have next := ptree_ok hT hE (md := md) ops hs hpan hq t (listed.setIfInBounds j true) σ' a' w' ho.1.2 (hcl.set hjr) g1 g2
      exact next.1 (tree_heads ho.1.1) (tree_stop ho.1.1) fuel hf1
    · have hj' : j ∈ u.heads := by
        simp only [OrdT.heads, List.mem_cons] at hj
        exact hj.resolve_left hji
      exact (ptree_ok hT hE (md := md) ops hs hpan hq u listed σ a w ho.2 hcl hk.2 r).2 j hj' hjr fuel hf2
  | .fork u, listed, σ, a, w, ho, hcl, hk, r => by
    simp only [OrdT.ok, Bool.and_eq_true, List.all_eq_true, List.contains_eq_mem, decide_eq_true_eq, Bool.not_eq_true', List.isEmpty_eq_false_iff] at ho
    obtain ⟨⟨h1, h2⟩, h3⟩ := ho
    refine ⟨fun _ _ fuel hf => ?_, fun j hj => by simp [OrdT.heads] at hj⟩
    have sub := (ptree_ok hT hE (md := md) ops hs hpan hq u listed σ a w h3 hcl hk r).2
    cases fuel with
    | zero =>
      exfalso
      obtain ⟨j, hj⟩ := List.exists_mem_of_ne_nil _ h2
      have := h1 j hj
      cases u with
      | alt i t u => simp only [OrdT.depth] at hf; omega
      | _ => simp [OrdT.heads] at this
    | succ fuel => exact ⟨fun h0 => absurd h0 h2, fun j hj => sub j (h1 j hj) hj fuel hf⟩
  | .step i t, listed, σ, a, w, ho, hcl, hk, r => by
    refine ⟨fun _ _ fuel hf => ?_, fun j hj => by simp [OrdT.heads] at hj⟩
    cases fuel with
    | zero => simp [OrdT.depth] at hf
    | succ fuel =>
    have hl' : t.depth ≤ fuel := by simp only [OrdT.depth] at hf; omega
    simp only [OrdT.ok, Bool.and_eq_true] at ho
    obtain ⟨⟨⟨h1, h2⟩, ht⟩, h3⟩ := ho
    have hi : i ∈ Region.ready .any ops listed := by simpa using h1
    obtain ⟨o, hio⟩ := ready_lt hi
    have hw := r.elim fun M q => q.elim fun h q => wanted_eq q.2.1 ops o
    have hka : kindAt ops i = kindOp o.op := by simp [kindAt, hio]
    simp only [ptree, hio] at hk
    rw [hka] at h2
    have next := fun (σ' : St) (a' : Act) (w' : World) (g1 : ptree P T md ops K t σ') (g2 : Rel E σ' a' w') => (ptree_ok hT hE (md := md) ops hs hpan hq t (listed.setIfInBounds i true) σ' a' w' h3 (hcl.set hi) g1 g2).1 (tree_heads ht) (tree_stop ht) fuel hl'
    by_cases hkd : kindOp o.op ≤ 1
    · rw [if_pos hkd, Bool.and_eq_true] at h2
      have hfree := Region.free_spec hio h2.1
      have hside : ∀ j oj, ops[j]? = some oj → j ≠ i → listed.getD j true = false → ((∀ e ∈ oj.after, Region.binds .any e = true → e.on ≠ i) → o.apart ops oj = true) ∧ ((kindOp o.op == 1) = true → waits ops i 6 j = false → kindAt ops j ≤ 2) := fun j oj hj hji hun => by
        refine ⟨fun hno => hfree j oj hj hji hun hno, fun hk1 hnw => ?_⟩
        have hk1' : kindOp o.op = 1 := by simpa using hk1
        have h22 := h2.2
        simp only [hk1', Bool.or_eq_true, beq_iff_eq, List.all_eq_true, List.mem_range] at h22
        rcases h22 with q | q
        · cases q
        · have hjl : j < ops.size := (Array.getElem?_eq_some_iff.1 hj).1
          rcases q j hjl with ((q | q) | q) | q
          · rw [hun] at q; cases q
          · exact absurd q hji
          · simpa using q
          · rw [hnw] at q; cases q
      have hk2 : kindAt ops i ≤ 2 := by rw [hka]; omega
      by_cases hp : pwanted ops σ.tm o.guard = true
      · rw [if_pos hp, if_pos hkd] at hk
        obtain ⟨M, h, s, t', d⟩ := r
        obtain ⟨pv, v, g1, g2, g3⟩ := py_ok hT hE s.inv t' o hk
        refine wpE_first (v := v) hio (noSelect_all hs) hpan (kindOp o.op == 1) fuel listed a w hside hcl hk2 hi (.inl ⟨by rw [hw]; exact hp, fun w' hx => g3 w' fun q => hx (by simpa using q)⟩) ?_
        exact next _ _ w g1 ⟨M, h, by rw [St.put_H]; exact s, t'.put g2 o.dst, by rw [Act.put_defers']; exact d⟩
      · rw [if_neg hp] at hk
        refine wpE_first (v := undef) hio (noSelect_all hs) hpan (kindOp o.op == 1) fuel listed a w hside hcl hk2 hi (.inr ⟨by rw [hw]; simpa using hp, rfl⟩) ?_
        exact next _ _ w hk (r.skip o.dst)
    · rw [if_neg hkd] at h2
      have hrd : Region.ready .any ops listed = [i] := by simpa using h2
      refine ⟨(fun h0 => by rw [hrd] at h0; cases h0), fun j hj => ?_⟩
      rw [hrd, List.mem_singleton] at hj
      subst hj
      exact step_ok hT hE hio (K' := ptree P T md ops K t) r hk fun σ' a' w' g1 g2 => next σ' a' w' g1 g2
end
theorem PWp.drawT {P : Program} {T : Tys} {Q : Exit → St → Prop} {σ : St} {N : Nat} (ok : Ok P T) (md : Bool) {id : Nat} {ops : Array Oper} (t : OrdT) (ho : (Region.noSelect ops && decide (t.depth ≤ ops.size) && t.isTree && t.ok ops (Array.replicate ops.size false)) = true) (h : ptree P T md ops (Q .normal) t σ) : PWp P N (.region id ops true) Q σ := fun E a w _ r => by
  simp only [Bool.and_eq_true, decide_eq_true_eq] at ho
  refine wp_region_any ok.mix (wpAny_of_E _ _ _ _ ?_)
  refine (ptree_ok ok.ty ok.el (md := md) ops ho.1.1.1 (fun _ _ _ q => q) (fun σ' _ _ h1 h2 => ⟨σ', h1, h2⟩) t _ σ a _ ho.2 (ClosedL.start _ _) h ?_).1 (tree_heads ho.1.2) (tree_stop ho.1.2) ops.size ho.1.1.2
  obtain ⟨M, hh, s, t, d⟩ := r
  refine ⟨M, hh, s.trans (Step.ext s.inv ?_), t, d⟩
  exact (Ext.refl w).drew
section
variable {P : Program} {T : Tys} {md : Bool} {ops : Array Oper} {K : St → Prop} {σ : St}
theorem ptree_done (h : K σ) : ptree P T md ops K .done σ := h
theorem ptree_stop : ptree P T md ops K .stop σ := trivial
theorem ptree_fork {u : OrdT} (h : ptree P T md ops K u σ) : ptree P T md ops K (.fork u) σ := h
theorem ptree_I {i : Nat} {t : OrdT} (h : ∃ o, ops.toList[i]? = some o ∧ ∀ K' : St → Prop, (∀ σ, ptree P T md ops K t σ → K' σ) → pstepD P T md ops o σ K') : ptree P T md ops K (.step i t) σ := by
  obtain ⟨o, hi, h⟩ := h
  rw [Array.getElem?_toList] at hi
  simp only [ptree, hi]
  exact h _ fun _ h => h
theorem ptree_A {i : Nat} {t u : OrdT} (h : ∃ o, ops.toList[i]? = some o ∧ ∀ K' : St → Prop, (∀ σ, ptree P T md ops K t σ → K' σ) → pstepD P T md ops o σ K') (h2 : ptree P T md ops K u σ) : ptree P T md ops K (.alt i t u) σ := by
  obtain ⟨o, hi, h⟩ := h
  rw [Array.getElem?_toList] at hi
  simp only [ptree, hi]
  exact ⟨h _ fun _ h => h, h2⟩
end
end Go.Proofs.Ytcbknmnlgoeniaa
namespace Go.Proofs.Ytcbknmnlgoeniaa
set_option linter.unusedSimpArgs false
set_option linter.unusedVariables false
open Go.RowKit
def eqB (s u : ByteArray) : Bool := s.toList == u.toList
theorem sf_seqB {P : Program} {t : TypeId} {x y : Operand} {s u : ByteArray} : sflat P (do eqGuard .eql t x y (.string s) (.string u); binOp .eql t (.string s) (.string u)) = some (.bool (eqB s u)) := rfl
theorem sf_sneB {P : Program} {t : TypeId} {x y : Operand} {s u : ByteArray} : sflat P (do eqGuard .neq t x y (.string s) (.string u); binOp .neq t (.string s) (.string u)) = some (.bool (!(eqB s u))) := rfl
theorem conv_int {P : Program} {s d : TypeId} {k k' : IntKind} {n : Int} (hs : (P.underlying s).isSome = true) (hd : P.underlying d = some (.int k')) : sflat P (convert s d (.int k n)) = some (.int k' (k'.wrap n)) := by
  obtain ⟨ds, h⟩ := Option.isSome_iff_exists.1 hs
  unfold convert
  simp only [underlying, program, bind, Sem.bind, sflat, h, hd, Conv.intToInt, pure]
theorem tmod_nn {a b : Int} (h : 0 ≤ a) : a.tmod b = a % b := Int.tmod_eq_emod_of_nonneg h
theorem tdiv_nn {a b : Int} (h : 0 ≤ a) : a.tdiv b = a / b := Int.tdiv_eq_ediv_of_nonneg h
theorem fdiv_nn {a b : Int} (h : 0 ≤ b) : a.fdiv b = a / b := Int.fdiv_eq_ediv_of_nonneg a h
theorem bits_i64 : IntKind.i64.bits = 64 := rfl
theorem bits_u32 : IntKind.u32.bits = 32 := rfl
theorem bits_u8 : IntKind.u8.bits = 8 := rfl
theorem wrap_u8 {n : Int} : IntKind.u8.wrap n = n % 256 := by simp [IntKind.wrap, IntKind.signed, IntKind.bits]
theorem wrap_u32 {n : Int} : IntKind.u32.wrap n = n % 4294967296 := by simp [IntKind.wrap, IntKind.signed, IntKind.bits]
theorem wrap_u64 {n : Int} : IntKind.u64.wrap n = n % 18446744073709551616 := by simp [IntKind.wrap, IntKind.signed, IntKind.bits]
theorem wraps_64 (n : Int) (h0 : 0 ≤ n) (h1 : n < 2 ^ 62) : IntKind.i64.wrap n = n := IntWalk.i64_in n (by omega)
theorem and_255 {x : Int} (h0 : 0 ≤ x) (h1 : x < 4611686018427387904) : bits .and .i64 x 255 = x % 256 := bits_mask .i64 62 (by decide) wraps_64 8 (by decide) x h0 h1
theorem and_3 {x : Int} (h0 : 0 ≤ x) (h1 : x < 4611686018427387904) : bits .and .i64 x 3 = x % 4 := bits_mask .i64 62 (by decide) wraps_64 2 (by decide) x h0 h1
theorem and_127 {x : Int} (h0 : 0 ≤ x) (h1 : x < 4611686018427387904) : bits .and .i64 x 127 = x % 128 := bits_mask .i64 62 (by decide) wraps_64 7 (by decide) x h0 h1
def pU8 (b : UInt8) : List PV := [.val (.int .u8 b.toNat)]
theorem bytes_map {l bs : List UInt8} : (l.map pU8 = bytesL bs) = (bs = l) := by
  apply propext
  constructor
  · intro h
    induction l generalizing bs with
    | nil => cases bs with | nil => rfl | cons => simp [bytesL] at h
    | cons x l ih =>
      cases bs with
      | nil => simp [bytesL] at h
      | cons y bs =>
        simp only [bytesL, List.map_cons, List.cons.injEq, pU8, PV.val.injEq, Value.int.injEq, true_and, and_true] at h
        rw [ih h.2]
        congr 1
        exact UInt8.toNat_inj.1 (by omega)
  · rintro rfl; rfl
theorem bytes_rep {k : Nat} {bs : List UInt8} : (List.replicate k [PV.val (.int .u8 0)] = bytesL bs) = (bs = List.replicate k 0) := by
  have : List.replicate k [PV.val (.int .u8 0)] = (List.replicate k (0 : UInt8)).map pU8 := by rw [List.map_replicate]; rfl
  rw [this, bytes_map]
def u8 (x : Int) : UInt8 := UInt8.ofNat (x % 256).toNat
theorem u8_nat (x : Int) : ((u8 x).toNat : Int) = x % 256 := by
  unfold u8
  rw [UInt8.toNat_ofNat']
  omega
theorem u8_mod256 {x : Int} : u8 (x % 256) = u8 x := by unfold u8; rw [Int.emod_emod]
theorem pU8_u8 {x : Int} : pU8 (u8 x) = [PV.val (.int .u8 (x % 256))] := by rw [pU8, u8_nat]
theorem cell_u8 {x : Int} (h : 0 ≤ x) (h' : x < 256) : ([PV.val (.int .u8 x)] : List PV) = pU8 (u8 x) := by rw [pU8_u8, Int.emod_eq_of_lt h h']
theorem bytes_1 {x : Int} {bs : List UInt8} (h : 0 ≤ x) (h' : x < 256) : ([[PV.val (.int .u8 x)]] = bytesL bs) = (bs = [u8 x]) := by
  rw [cell_u8 h h', ← bytes_map]; rfl
theorem bytes_2 {x y : Int} {bs : List UInt8} (h : 0 ≤ x) (h' : x < 256) (k : 0 ≤ y) (k' : y < 256) : ([[PV.val (.int .u8 x)], [PV.val (.int .u8 y)]] = bytesL bs) = (bs = [u8 x, u8 y]) := by
  rw [cell_u8 h h', cell_u8 k k', ← bytes_map]; rfl
theorem bytes_3 {x y z : Int} {bs : List UInt8} (h : 0 ≤ x) (h' : x < 256) (k : 0 ≤ y) (k' : y < 256) (m : 0 ≤ z) (m' : z < 256) : ([[PV.val (.int .u8 x)], [PV.val (.int .u8 y)], [PV.val (.int .u8 z)]] = bytesL bs) = (bs = [u8 x, u8 y, u8 z]) := by
  rw [cell_u8 h h', cell_u8 k k', cell_u8 m m', ← bytes_map]; rfl
theorem bytes_0 {bs : List UInt8} : (([] : List (List PV)) = bytesL bs) = (bs = []) := by
  rw [← bytes_map]; rfl
theorem size_arr {l : List UInt8} : (⟨l.toArray⟩ : ByteArray).size = l.length := by simp [ByteArray.size]
theorem pU8_clo (x : UInt8) : (pU8 x).all cloC = true := rfl
theorem pU8_ren {φ : List Nat} {n : Nat} (l : List UInt8) : (l.map pU8).map (renL φ n) = l.map pU8 := rows_flat pU8_clo l
theorem pb_none {d : Nat} : pb none d = some d := rfl
theorem pb_int {k : IntKind} {n : Int} {d : Nat} (h : 0 ≤ n) : pb (some (.val (.int k n))) d = some n.toNat := by simp only [pb, pint, if_pos h]
def pbuildCs (i : TI) (parts : List (Nat × PV)) : Option (List PV) := match i.d with
  | .struct fs => if fs.all (fun q => q.2.1 != 0) then pfill ((fs.map fun q => (q.1, q.2.1))[·]?) (pcellsOf (cPV i.zero)) parts else none
  | .array _ _ sz => pfill (fun i => some (i * sz, sz)) (pcellsOf (cPV i.zero)) parts
  | _ => none
theorem pbuild_cs {T : Tys} {t : TypeId} {parts : List (Nat × PV)} {K : PV → Prop} (h : ∃ i, T t = some i ∧ ∃ cs, pbuildCs i parts = some cs ∧ K (.agg cs)) : pbuild T t parts K := by
  obtain ⟨i, hi, cs, h1, h2⟩ := h
  refine ⟨i, cs, hi, ?_, h2⟩
  unfold pbuildCs at h1
  split at h1
  · rename_i fs hd
    split at h1
    · rename_i ha
      rw [hd]
      exact ⟨fun q hq => by simpa using List.all_eq_true.1 ha q hq, h1⟩
    · cases h1
  · rename_i hd
    rw [hd]
    exact h1
  · cases h1
theorem py_build {P : Program} {T : Tys} {tm : List PV} {H : Hp} {t : TypeId} {parts : Array (Nat × Operand)} {ty : TypeId} {K : PV → Prop} (h : ∃ i, T t = some i ∧ ∃ cs, pbuildCs i (pparts tm parts) = some cs ∧ K (.agg cs)) : py P T tm H (.build t parts) ty K := pbuild_cs h
theorem popO_build {P : Program} {T : Tys} {md cm : Bool} {σ : St} {t : TypeId} {parts : Array (Nat × Operand)} {ty : TypeId} {K : PV → St → Prop} (h : ∃ i, T t = some i ∧ ∃ cs, pbuildCs i (pparts σ.tm parts) = some cs ∧ K (.agg cs) σ) : popO P T md cm (.build t parts) ty σ K := pbuild_cs (K := fun r => K r σ) h
def prowOk (sz len : Nat) (parts : List (Nat × PV)) : Bool := parts.length == len && decide (len * sz ≤ 16777216) && decide (len ≤ 16777216) && parts.map (·.1) == List.range len && (prow parts).all (fun row => row.length == sz) && (prow parts).all fun row => row.all oneP
theorem popO_row {P : Program} {T : Tys} {md cm : Bool} {σ : St} {t : TypeId} {len : Nat} {parts : Array (Nat × Operand)} {ty : TypeId} {K : PV → St → Prop}
    (h : ∃ i e sz by' ie, T t = some i ∧ i.d = .slice e sz by' ∧ T e = some ie ∧ ie.size = sz ∧ prowOk sz len (pparts σ.tm parts) = true ∧ K (.own σ.H.length) ⟨σ.tm, σ.H ++ [some (.row e sz (prow (pparts σ.tm parts)))]⟩) : popO P T md cm (.buildSlice t len parts) ty σ K := by
  obtain ⟨i, e, sz, by', ie, h1, h2, h3, h4, h5, h6⟩ := h
  simp only [prowOk, Bool.and_eq_true, beq_iff_eq, decide_eq_true_eq, List.all_eq_true] at h5
  obtain ⟨⟨⟨⟨⟨a1, a2⟩, a3⟩, a4⟩, a5⟩, a6⟩ := h5
  exact ⟨i, e, sz, by', ie, h1, h2, h3, h4, a1, a2, a3, a4, a5, fun row hr => by rw [List.all_eq_true]; exact a6 row hr, h6⟩
theorem bne_f {a b : Int} : ((a != b) = false) = (a = b) := by simp
theorem min_l {a b : Nat} (h : a ≤ b) : min a b = a := Nat.min_eq_left h
theorem toNat_succ {j : Nat} : ((j : Int) + 1).toNat = j + 1 := by omega
theorem toNat_zero : (0 : Int).toNat = 0 := rfl
theorem toNat_one : (1 : Int).toNat = 1 := rfl
theorem rn_out1 {a i n : Nat} : rn [a] n (i + 1) = n + i := by simp [rn]
theorem rn_out2 {a b i n : Nat} : rn [a, b] n (i + 2) = n + i := by rw [rn_ge (by simp)]; simp
theorem rn_out3 {a b c i n : Nat} : rn [a, b, c] n (i + 3) = n + i := by rw [rn_ge (by simp)]; simp
theorem rn_out4 {a b c d i n : Nat} : rn [a, b, c, d] n (i + 4) = n + i := by rw [rn_ge (by simp)]; simp
theorem ev_ptr0 {tm : List PV} : ev tm (.const (.pointer none)) = .val (.pointer none) := rfl
theorem pptr_ptr {b o : Nat} : (pptr (.ptr b o) = true) = True := eq_true rfl
theorem pptr_eptr {cs : List PV} {o : Nat} : (pptr (.eptr cs o) = true) = True := eq_true rfl
theorem pptr_optr {b z i o : Nat} : (pptr (.optr b z i o) = true) = True := eq_true rfl
theorem rn_one {a b : Nat} {φ : List Nat} {n : Nat} : rn (a :: b :: φ) n 1 = b := by simp [rn]
theorem rn_two {a b c : Nat} {φ : List Nat} {n : Nat} : rn (a :: b :: c :: φ) n 2 = c := by simp [rn]
theorem rn_three {a b c d : Nat} {φ : List Nat} {n : Nat} : rn (a :: b :: c :: d :: φ) n 3 = d := by simp [rn]
attribute [push_cast] cPV popO py ev_tmp ev_int ev_bool ev_str ev_nil ev_agg ev_func put_some put_none
attribute [push_cast] if_true if_false Bool.false_eq_true List.set_cons_zero List.set_cons_succ List.getD_cons_zero List.getD_cons_succ List.getElem?_toArray List.getElem?_cons_zero List.getElem?_cons_succ Option.bind_some flat_val'
attribute [push_cast] Option.some.injEq exists_and_left exists_eq_left' exists_eq_left sf_add sf_sub sf_mul sf_lss sf_leq sf_gtr sf_geq sf_eql
attribute [push_cast] sf_neq sf_and sf_or sf_xor sf_quo sf_rem sf_shl sf_shr sf_cat sf_not sf_neg sf_min
attribute [push_cast] sf_max PV.val.injEq PV.own.injEq PV.sl.injEq PV.agg.injEq PV.tup.injEq blk_box blk_row exists_eq_right exists_eq_right' Value.bool.injEq Value.int.injEq
attribute [push_cast] Value.string.injEq wr64 cast_pred List.toList_toArray List.cons.injEq and_true List.map_cons List.map_nil cells_val cells_bool cells_str cells_nil
attribute [push_cast] cells_agg cells_sl cells_own cells_ptr pint_int plen pelems pload pcells shiftP pfieldAddr pindexAddr
attribute [push_cast] pindex pslice pfield pextract pstore true_and List.length_cons List.length_nil Nat.zero_add Nat.add_zero List.all_cons List.all_nil
attribute [push_cast] Bool.and_true Bool.and_self oneP List.cons_append List.nil_append Int.toNat_natCast ne_eq Nat.succ_ne_zero not_false_eq_true Nat.le_refl Nat.zero_le List.drop_zero
attribute [push_cast] List.drop_succ_cons List.take_succ_cons List.take_zero splice patK_eq setN_nil setN_cons setC_nil setC_cons instP_nil instP_some instP_none
attribute [push_cast] ren_val ren_own ren_ptr ren_sl ren_agg ren_tup renL_nil renL_cons renB_box renB_row renB_none rn_nil
attribute [push_cast] rn_zero rn_one rn_two rn_three wback_eq wsets_nil wsets_cons matchR blkR vwAll vwOk vwOk0
attribute [push_cast] vw vw0 cloC freH freB fre freL sf_seqB sf_sneB List.length_map List.getElem?_map Option.map_some
attribute [push_cast] Option.map_none decide_eq_true_eq decide_eq_false_iff_not beq_iff_eq bne_iff_ne beq_eq_false_iff_ne Bool.not_eq_true Bool.not_eq_false Bool.not_eq_eq_eq_not Bool.not_true Bool.not_false Bool.not_not
attribute [push_cast] List.map_append List.length_append List.append_assoc List.append_nil Int.add_sub_cancel List.mem_cons List.not_mem_nil forall_eq_or_imp forall_eq implies_true or_false List.all_append
attribute [push_cast] Option.isSome_some Option.isSome_none decide_true decide_false Bool.true_and Bool.false_and Bool.true_or Bool.false_or Bool.or_true Bool.or_false Bool.and_false
attribute [push_cast] bytes_0 bytes_1 bytes_2 bytes_3 u8_mod256 size_arr ev_ptr0 pptr_ptr pptr_eptr pptr_optr rn_out1 rn_out2 rn_out3 rn_out4 bne_f and_assoc pmake pappend pbuildSlice pslice2 pelemsT pbytes pstring prow pparts St.thaw thaw thaw1 thawB pb_none pb_int TD.slice.injEq TD.int.injEq TD.struct.injEq TD.array.injEq Int.zero_le_ofNat min_l tmod_nn tdiv_nn fdiv_nn bits_i64 bits_u32 bits_u8 wrap_u8 wrap_u32 wrap_u64 and_255 and_3 and_127 bytes_map bytes_rep pU8_ren toNat_succ toNat_zero toNat_one
end Go.Proofs.Ytcbknmnlgoeniaa
namespace Go.Proofs.Ytcbknmnlgoeniaa
set_option linter.unusedSimpArgs false
set_option linter.unusedVariables false
open Go.RowKit
set_option maxHeartbeats 0
def tys : Tys := fun t => match t with
  | 1 => some ⟨.other, 1, .nilFunc⟩
  | 3 => some ⟨.int .i64, 1, .int .i64 0⟩
  | 4 => some ⟨.bool, 1, .bool false⟩
  | 5 => some ⟨.int .u8, 1, .int .u8 0⟩
  | 9 => some ⟨.string, 1, .string ByteArray.empty⟩
  | 22 => some ⟨.slice 5 1 1, 1, .slice none 0 0⟩
  | 23 => some ⟨.other, 1, .nilFunc⟩
  | 24 => some ⟨.slice 39 10 96, 1, .slice none 0 0⟩
  | 25 => some ⟨.slice 32 5 40, 1, .slice none 0 0⟩
  | 27 => some ⟨.struct [(0, 1, false), (1, 1, false)], 2, .agg #[.slice none 0 0, .slice none 0 0]⟩
  | 28 => some ⟨.other, 1, .nilFunc⟩
  | 30 => some ⟨.other, 1, .nilFunc⟩
  | 32 => some ⟨.struct [(0, 1, false), (1, 1, false), (2, 1, false), (3, 1, false), (4, 1, false)], 5, .agg #[.int .i64 0, .int .i64 0, .int .i64 0, .int .i64 0, .int .i64 0]⟩
  | 34 => some ⟨.struct [(0, 1, false), (1, 1, false), (2, 1, false), (3, 5, true)], 8, .agg #[.int .i64 0, .int .i64 0, .int .i64 0, .int .i64 0, .int .i64 0, .int .i64 0, .int .i64 0, .int .i64 0]⟩
  | 35 => some ⟨.other, 1, .nilFunc⟩
  | 36 => some ⟨.slice 3 1 8, 1, .slice none 0 0⟩
  | 37 => some ⟨.other, 1, .nilFunc⟩
  | 39 => some ⟨.struct [(0, 1, false), (1, 1, false), (2, 1, false), (3, 1, false), (4, 1, false), (5, 1, false), (6, 1, false), (7, 1, false), (8, 1, false), (9, 1, false)], 10, .agg #[.int .i64 0, .int .i64 0, .int .i64 0, .int .i64 0, .int .i64 0, .int .i64 0, .int .i64 0, .int .i64 0, .int .i64 0, .slice none 0 0]⟩
  | 40 => some ⟨.slice 34 8 64, 1, .slice none 0 0⟩
  | 41 => some ⟨.other, 1, .nilFunc⟩
  | 43 => some ⟨.other, 1, .nilFunc⟩
  | 44 => some ⟨.other, 1, .nilFunc⟩
  | 46 => some ⟨.other, 1, .nilFunc⟩
  | 47 => some ⟨.other, 1, .nilFunc⟩
  | 48 => some ⟨.other, 1, .nilFunc⟩
  | 49 => some ⟨.other, 1, .nilFunc⟩
  | 50 => some ⟨.other, 1, .pointer none⟩
  | 51 => some ⟨.other, 1, .nilFunc⟩
  | 52 => some ⟨.other, 1, .nilFunc⟩
  | 53 => some ⟨.other, 1, .nilFunc⟩
  | 54 => some ⟨.other, 1, .nilFunc⟩
  | 55 => some ⟨.other, 1, .nilFunc⟩
  | 56 => some ⟨.other, 1, .nilFunc⟩
  | 57 => some ⟨.other, 1, .nilFunc⟩
  | 58 => some ⟨.other, 1, .nilFunc⟩
  | 59 => some ⟨.other, 1, .nilFunc⟩
  | 60 => some ⟨.other, 1, .nilFunc⟩
  | 62 => some ⟨.other, 1, .nilFunc⟩
  | 63 => some ⟨.other, 1, .nilFunc⟩
  | 64 => some ⟨.other, 1, .nilFunc⟩
  | 65 => some ⟨.other, 1, .nilFunc⟩
  | 66 => some ⟨.other, 1, .nilFunc⟩
  | 67 => some ⟨.int .u64, 1, .int .u64 0⟩
  | 69 => some ⟨.struct [(0, 1, false), (1, 1, false), (2, 1, false)], 3, .agg #[.slice none 0 0, .int .i64 0, .int .i64 0]⟩
  | 70 => some ⟨.other, 1, .nilFunc⟩
  | 71 => some ⟨.other, 1, .nilFunc⟩
  | 72 => some ⟨.other, 1, .nilFunc⟩
  | 73 => some ⟨.other, 1, .nilFunc⟩
  | 74 => some ⟨.other, 1, .nilFunc⟩
  | 75 => some ⟨.other, 1, .pointer none⟩
  | 77 => some ⟨.struct [(0, 10, true), (10, 1, false)], 11, .agg #[.int .i64 0, .int .i64 0, .int .i64 0, .int .i64 0, .int .i64 0, .int .i64 0, .int .i64 0, .int .i64 0, .int .i64 0, .slice none 0 0, .slice none 0 0]⟩
  | 78 => some ⟨.other, 1, .nilFunc⟩
  | 79 => some ⟨.other, 1, .nilFunc⟩
  | 80 => some ⟨.other, 1, .nilFunc⟩
  | 81 => some ⟨.other, 1, .nilFunc⟩
  | 82 => some ⟨.other, 1, .nilFunc⟩
  | 83 => some ⟨.int .i64, 1, .int .i64 0⟩
  | 85 => some ⟨.other, 1, .nilFunc⟩
  | 86 => some ⟨.other, 1, .nilFunc⟩
  | 87 => some ⟨.other, 1, .nilFunc⟩
  | 88 => some ⟨.other, 1, .nilFunc⟩
  | 90 => some ⟨.other, 1, .nilFunc⟩
  | 91 => some ⟨.other, 1, .nilFunc⟩
  | 92 => some ⟨.int .u32, 1, .int .u32 0⟩
  | 93 => some ⟨.other, 1, .nilFunc⟩
  | 94 => some ⟨.int .u64, 1, .int .u64 0⟩
  | 96 => some ⟨.other, 1, .nilFunc⟩
  | 97 => some ⟨.other, 1, .nilFunc⟩
  | 98 => some ⟨.other, 1, .pointer none⟩
  | 99 => some ⟨.other, 1, .nilFunc⟩
  | 100 => some ⟨.int .u64, 1, .int .u64 0⟩
  | 101 => some ⟨.other, 1, .nilFunc⟩
  | 102 => some ⟨.other, 1, .nilFunc⟩
  | 103 => some ⟨.other, 1, .nilFunc⟩
  | 104 => some ⟨.other, 1, .pointer none⟩
  | 105 => some ⟨.other, 1, .nilFunc⟩
  | 106 => some ⟨.other, 1, .nilFunc⟩
  | 107 => some ⟨.other, 1, .nilFunc⟩
  | 109 => some ⟨.struct [(0, 10, true), (10, 1, false)], 11, .agg #[.int .i64 0, .int .i64 0, .int .i64 0, .int .i64 0, .int .i64 0, .int .i64 0, .int .i64 0, .int .i64 0, .int .i64 0, .slice none 0 0, .slice none 0 0]⟩
  | 110 => some ⟨.other, 1, .nilFunc⟩
  | 111 => some ⟨.other, 1, .nilFunc⟩
  | 113 => some ⟨.other, 1, .nilFunc⟩
  | 114 => some ⟨.other, 1, .nilFunc⟩
  | 115 => some ⟨.other, 1, .pointer none⟩
  | 117 => some ⟨.other, 1, .nilFunc⟩
  | 118 => some ⟨.other, 1, .nilFunc⟩
  | 119 => some ⟨.other, 1, .nilFunc⟩
  | 120 => some ⟨.other, 1, .nilFunc⟩
  | 122 => some ⟨.other, 1, .nilFunc⟩
  | 123 => some ⟨.other, 1, .nilFunc⟩
  | 124 => some ⟨.other, 1, .nilFunc⟩
  | 125 => some ⟨.other, 1, .nilFunc⟩
  | 126 => some ⟨.slice 4 1 1, 1, .slice none 0 0⟩
  | 127 => some ⟨.other, 1, .nilFunc⟩
  | 133 => some ⟨.other, 1, .nilFunc⟩
  | 136 => some ⟨.other, 1, .nilFunc⟩
  | 137 => some ⟨.other, 1, .pointer none⟩
  | _ => none
theorem tys_1 : tys 1 = some ⟨.other, 1, .nilFunc⟩ := rfl
theorem tys_3 : tys 3 = some ⟨.int .i64, 1, .int .i64 0⟩ := rfl
theorem tys_4 : tys 4 = some ⟨.bool, 1, .bool false⟩ := rfl
theorem tys_5 : tys 5 = some ⟨.int .u8, 1, .int .u8 0⟩ := rfl
theorem tys_9 : tys 9 = some ⟨.string, 1, .string ByteArray.empty⟩ := rfl
theorem tys_22 : tys 22 = some ⟨.slice 5 1 1, 1, .slice none 0 0⟩ := rfl
theorem tys_23 : tys 23 = some ⟨.other, 1, .nilFunc⟩ := rfl
theorem tys_24 : tys 24 = some ⟨.slice 39 10 96, 1, .slice none 0 0⟩ := rfl
theorem tys_25 : tys 25 = some ⟨.slice 32 5 40, 1, .slice none 0 0⟩ := rfl
theorem tys_27 : tys 27 = some ⟨.struct [(0, 1, false), (1, 1, false)], 2, .agg #[.slice none 0 0, .slice none 0 0]⟩ := rfl
theorem tys_28 : tys 28 = some ⟨.other, 1, .nilFunc⟩ := rfl
theorem tys_30 : tys 30 = some ⟨.other, 1, .nilFunc⟩ := rfl
theorem tys_32 : tys 32 = some ⟨.struct [(0, 1, false), (1, 1, false), (2, 1, false), (3, 1, false), (4, 1, false)], 5, .agg #[.int .i64 0, .int .i64 0, .int .i64 0, .int .i64 0, .int .i64 0]⟩ := rfl
theorem tys_34 : tys 34 = some ⟨.struct [(0, 1, false), (1, 1, false), (2, 1, false), (3, 5, true)], 8, .agg #[.int .i64 0, .int .i64 0, .int .i64 0, .int .i64 0, .int .i64 0, .int .i64 0, .int .i64 0, .int .i64 0]⟩ := rfl
theorem tys_35 : tys 35 = some ⟨.other, 1, .nilFunc⟩ := rfl
theorem tys_36 : tys 36 = some ⟨.slice 3 1 8, 1, .slice none 0 0⟩ := rfl
theorem tys_37 : tys 37 = some ⟨.other, 1, .nilFunc⟩ := rfl
theorem tys_39 : tys 39 = some ⟨.struct [(0, 1, false), (1, 1, false), (2, 1, false), (3, 1, false), (4, 1, false), (5, 1, false), (6, 1, false), (7, 1, false), (8, 1, false), (9, 1, false)], 10, .agg #[.int .i64 0, .int .i64 0, .int .i64 0, .int .i64 0, .int .i64 0, .int .i64 0, .int .i64 0, .int .i64 0, .int .i64 0, .slice none 0 0]⟩ := rfl
theorem tys_40 : tys 40 = some ⟨.slice 34 8 64, 1, .slice none 0 0⟩ := rfl
theorem tys_41 : tys 41 = some ⟨.other, 1, .nilFunc⟩ := rfl
theorem tys_43 : tys 43 = some ⟨.other, 1, .nilFunc⟩ := rfl
theorem tys_44 : tys 44 = some ⟨.other, 1, .nilFunc⟩ := rfl
theorem tys_46 : tys 46 = some ⟨.other, 1, .nilFunc⟩ := rfl
theorem tys_47 : tys 47 = some ⟨.other, 1, .nilFunc⟩ := rfl
theorem tys_48 : tys 48 = some ⟨.other, 1, .nilFunc⟩ := rfl
theorem tys_49 : tys 49 = some ⟨.other, 1, .nilFunc⟩ := rfl
theorem tys_50 : tys 50 = some ⟨.other, 1, .pointer none⟩ := rfl
theorem tys_51 : tys 51 = some ⟨.other, 1, .nilFunc⟩ := rfl
theorem tys_52 : tys 52 = some ⟨.other, 1, .nilFunc⟩ := rfl
theorem tys_53 : tys 53 = some ⟨.other, 1, .nilFunc⟩ := rfl
theorem tys_54 : tys 54 = some ⟨.other, 1, .nilFunc⟩ := rfl
theorem tys_55 : tys 55 = some ⟨.other, 1, .nilFunc⟩ := rfl
theorem tys_56 : tys 56 = some ⟨.other, 1, .nilFunc⟩ := rfl
theorem tys_57 : tys 57 = some ⟨.other, 1, .nilFunc⟩ := rfl
theorem tys_58 : tys 58 = some ⟨.other, 1, .nilFunc⟩ := rfl
theorem tys_59 : tys 59 = some ⟨.other, 1, .nilFunc⟩ := rfl
theorem tys_60 : tys 60 = some ⟨.other, 1, .nilFunc⟩ := rfl
theorem tys_62 : tys 62 = some ⟨.other, 1, .nilFunc⟩ := rfl
theorem tys_63 : tys 63 = some ⟨.other, 1, .nilFunc⟩ := rfl
theorem tys_64 : tys 64 = some ⟨.other, 1, .nilFunc⟩ := rfl
theorem tys_65 : tys 65 = some ⟨.other, 1, .nilFunc⟩ := rfl
theorem tys_66 : tys 66 = some ⟨.other, 1, .nilFunc⟩ := rfl
theorem tys_67 : tys 67 = some ⟨.int .u64, 1, .int .u64 0⟩ := rfl
theorem tys_69 : tys 69 = some ⟨.struct [(0, 1, false), (1, 1, false), (2, 1, false)], 3, .agg #[.slice none 0 0, .int .i64 0, .int .i64 0]⟩ := rfl
theorem tys_70 : tys 70 = some ⟨.other, 1, .nilFunc⟩ := rfl
theorem tys_71 : tys 71 = some ⟨.other, 1, .nilFunc⟩ := rfl
theorem tys_72 : tys 72 = some ⟨.other, 1, .nilFunc⟩ := rfl
theorem tys_73 : tys 73 = some ⟨.other, 1, .nilFunc⟩ := rfl
theorem tys_74 : tys 74 = some ⟨.other, 1, .nilFunc⟩ := rfl
theorem tys_75 : tys 75 = some ⟨.other, 1, .pointer none⟩ := rfl
theorem tys_77 : tys 77 = some ⟨.struct [(0, 10, true), (10, 1, false)], 11, .agg #[.int .i64 0, .int .i64 0, .int .i64 0, .int .i64 0, .int .i64 0, .int .i64 0, .int .i64 0, .int .i64 0, .int .i64 0, .slice none 0 0, .slice none 0 0]⟩ := rfl
theorem tys_78 : tys 78 = some ⟨.other, 1, .nilFunc⟩ := rfl
theorem tys_79 : tys 79 = some ⟨.other, 1, .nilFunc⟩ := rfl
theorem tys_80 : tys 80 = some ⟨.other, 1, .nilFunc⟩ := rfl
theorem tys_81 : tys 81 = some ⟨.other, 1, .nilFunc⟩ := rfl
theorem tys_82 : tys 82 = some ⟨.other, 1, .nilFunc⟩ := rfl
theorem tys_83 : tys 83 = some ⟨.int .i64, 1, .int .i64 0⟩ := rfl
theorem tys_85 : tys 85 = some ⟨.other, 1, .nilFunc⟩ := rfl
theorem tys_86 : tys 86 = some ⟨.other, 1, .nilFunc⟩ := rfl
theorem tys_87 : tys 87 = some ⟨.other, 1, .nilFunc⟩ := rfl
theorem tys_88 : tys 88 = some ⟨.other, 1, .nilFunc⟩ := rfl
theorem tys_90 : tys 90 = some ⟨.other, 1, .nilFunc⟩ := rfl
theorem tys_91 : tys 91 = some ⟨.other, 1, .nilFunc⟩ := rfl
theorem tys_92 : tys 92 = some ⟨.int .u32, 1, .int .u32 0⟩ := rfl
theorem tys_93 : tys 93 = some ⟨.other, 1, .nilFunc⟩ := rfl
theorem tys_94 : tys 94 = some ⟨.int .u64, 1, .int .u64 0⟩ := rfl
theorem tys_96 : tys 96 = some ⟨.other, 1, .nilFunc⟩ := rfl
theorem tys_97 : tys 97 = some ⟨.other, 1, .nilFunc⟩ := rfl
theorem tys_98 : tys 98 = some ⟨.other, 1, .pointer none⟩ := rfl
theorem tys_99 : tys 99 = some ⟨.other, 1, .nilFunc⟩ := rfl
theorem tys_100 : tys 100 = some ⟨.int .u64, 1, .int .u64 0⟩ := rfl
theorem tys_101 : tys 101 = some ⟨.other, 1, .nilFunc⟩ := rfl
theorem tys_102 : tys 102 = some ⟨.other, 1, .nilFunc⟩ := rfl
theorem tys_103 : tys 103 = some ⟨.other, 1, .nilFunc⟩ := rfl
theorem tys_104 : tys 104 = some ⟨.other, 1, .pointer none⟩ := rfl
theorem tys_105 : tys 105 = some ⟨.other, 1, .nilFunc⟩ := rfl
theorem tys_106 : tys 106 = some ⟨.other, 1, .nilFunc⟩ := rfl
theorem tys_107 : tys 107 = some ⟨.other, 1, .nilFunc⟩ := rfl
theorem tys_109 : tys 109 = some ⟨.struct [(0, 10, true), (10, 1, false)], 11, .agg #[.int .i64 0, .int .i64 0, .int .i64 0, .int .i64 0, .int .i64 0, .int .i64 0, .int .i64 0, .int .i64 0, .int .i64 0, .slice none 0 0, .slice none 0 0]⟩ := rfl
theorem tys_110 : tys 110 = some ⟨.other, 1, .nilFunc⟩ := rfl
theorem tys_111 : tys 111 = some ⟨.other, 1, .nilFunc⟩ := rfl
theorem tys_113 : tys 113 = some ⟨.other, 1, .nilFunc⟩ := rfl
theorem tys_114 : tys 114 = some ⟨.other, 1, .nilFunc⟩ := rfl
theorem tys_115 : tys 115 = some ⟨.other, 1, .pointer none⟩ := rfl
theorem tys_117 : tys 117 = some ⟨.other, 1, .nilFunc⟩ := rfl
theorem tys_118 : tys 118 = some ⟨.other, 1, .nilFunc⟩ := rfl
theorem tys_119 : tys 119 = some ⟨.other, 1, .nilFunc⟩ := rfl
theorem tys_120 : tys 120 = some ⟨.other, 1, .nilFunc⟩ := rfl
theorem tys_122 : tys 122 = some ⟨.other, 1, .nilFunc⟩ := rfl
theorem tys_123 : tys 123 = some ⟨.other, 1, .nilFunc⟩ := rfl
theorem tys_124 : tys 124 = some ⟨.other, 1, .nilFunc⟩ := rfl
theorem tys_125 : tys 125 = some ⟨.other, 1, .nilFunc⟩ := rfl
theorem tys_126 : tys 126 = some ⟨.slice 4 1 1, 1, .slice none 0 0⟩ := rfl
theorem tys_127 : tys 127 = some ⟨.other, 1, .nilFunc⟩ := rfl
theorem tys_133 : tys 133 = some ⟨.other, 1, .nilFunc⟩ := rfl
theorem tys_136 : tys 136 = some ⟨.other, 1, .nilFunc⟩ := rfl
theorem tys_137 : tys 137 = some ⟨.other, 1, .pointer none⟩ := rfl
set_option maxRecDepth 1000000 in
theorem tys_ok : TysOk Try.prog tys := by
  intro t i h
  unfold tys at h
  split at h <;> first | (cases h; kernel_rfl) | cases h
set_option maxRecDepth 1000000 in
theorem tys_el : elemsOk Try.prog tys := by
  intro t i h
  unfold tys at h
  split at h <;> first | (cases h; first | trivial | kernel_rfl) | cases h
theorem okP : Ok Try.prog tys := ⟨tys_ok, tys_el, by kernel_rfl⟩
theorem wC {Q : Exit → St → Prop} {σ : St} {N id : Nat} {l : List Oper} (h : pops Try.prog tys true l.toArray (Q .normal) l σ) : PWp Try.prog N (.region id l.toArray false) Q σ := PWp.region okP true h
end Go.Proofs.Ytcbknmnlgoeniaa
namespace Go.Proofs.Ytcbknmnlgoeniaa
set_option linter.unusedSimpArgs false
set_option linter.unusedVariables false
open Go.RowKit
def pInt (x : Int) : List PV := [.val (.int .i64 x)]
theorem pInt_clo (x : Int) : (pInt x).all cloC = true := rfl
theorem pInt_ren {φ : List Nat} {n : Nat} (l : List Int) : (l.map pInt).map (renL φ n) = l.map pInt := rows_flat pInt_clo l
theorem pInt_rc (l : List Int) : (∀ row ∈ l.map pInt, row.all cloC = true) = True := eq_true fun row h => by obtain ⟨x, _, rfl⟩ := List.mem_map.1 h; rfl
theorem pInt_rf (l : List Int) : (∀ row ∈ l.map pInt, freL row = true) = True := eq_true fun row h => by obtain ⟨x, _, rfl⟩ := List.mem_map.1 h; rfl
theorem pInt_ro (l : List Int) : (∀ row ∈ l.map pInt, row.all oneP = true) = True := eq_true fun row h => by obtain ⟨x, _, rfl⟩ := List.mem_map.1 h; rfl
theorem pInt_rl (l : List Int) : (∀ row ∈ l.map pInt, row.length = 1) = True := eq_true fun row h => by obtain ⟨x, _, rfl⟩ := List.mem_map.1 h; rfl
def pStr (x : ByteArray) : List PV := [.val (.string x)]
theorem pStr_clo (x : ByteArray) : (pStr x).all cloC = true := rfl
theorem pStr_ren {φ : List Nat} {n : Nat} (l : List ByteArray) : (l.map pStr).map (renL φ n) = l.map pStr := rows_flat pStr_clo l
theorem pStr_rc (l : List ByteArray) : (∀ row ∈ l.map pStr, row.all cloC = true) = True := eq_true fun row h => by obtain ⟨x, _, rfl⟩ := List.mem_map.1 h; rfl
theorem pStr_rf (l : List ByteArray) : (∀ row ∈ l.map pStr, freL row = true) = True := eq_true fun row h => by obtain ⟨x, _, rfl⟩ := List.mem_map.1 h; rfl
theorem pStr_ro (l : List ByteArray) : (∀ row ∈ l.map pStr, row.all oneP = true) = True := eq_true fun row h => by obtain ⟨x, _, rfl⟩ := List.mem_map.1 h; rfl
theorem pStr_rl (l : List ByteArray) : (∀ row ∈ l.map pStr, row.length = 1) = True := eq_true fun row h => by obtain ⟨x, _, rfl⟩ := List.mem_map.1 h; rfl
def pBool (x : Bool) : List PV := [.val (.bool x)]
theorem pBool_clo (x : Bool) : (pBool x).all cloC = true := rfl
theorem pBool_ren {φ : List Nat} {n : Nat} (l : List Bool) : (l.map pBool).map (renL φ n) = l.map pBool := rows_flat pBool_clo l
theorem pBool_rc (l : List Bool) : (∀ row ∈ l.map pBool, row.all cloC = true) = True := eq_true fun row h => by obtain ⟨x, _, rfl⟩ := List.mem_map.1 h; rfl
theorem pBool_rf (l : List Bool) : (∀ row ∈ l.map pBool, freL row = true) = True := eq_true fun row h => by obtain ⟨x, _, rfl⟩ := List.mem_map.1 h; rfl
theorem pBool_ro (l : List Bool) : (∀ row ∈ l.map pBool, row.all oneP = true) = True := eq_true fun row h => by obtain ⟨x, _, rfl⟩ := List.mem_map.1 h; rfl
theorem pBool_rl (l : List Bool) : (∀ row ∈ l.map pBool, row.length = 1) = True := eq_true fun row h => by obtain ⟨x, _, rfl⟩ := List.mem_map.1 h; rfl
def pRow (x : List Int) : List PV := [.sl 1 (x.map pInt)]
theorem pRow_clo (x : (List Int)) : (pRow x).all cloC = true := rfl
theorem pRow_ren {φ : List Nat} {n : Nat} (l : List (List Int)) : (l.map pRow).map (renL φ n) = l.map pRow := rows_flat pRow_clo l
theorem pRow_rc (l : List (List Int)) : (∀ row ∈ l.map pRow, row.all cloC = true) = True := eq_true fun row h => by obtain ⟨x, _, rfl⟩ := List.mem_map.1 h; rfl
theorem pRow_rl (l : List (List Int)) : (∀ row ∈ l.map pRow, row.length = 1) = True := eq_true fun row h => by obtain ⟨x, _, rfl⟩ := List.mem_map.1 h; rfl
structure GVal where
  fId : Int
  fPower : Int
def pVal (x : GVal) : List PV := [.val (.int .i64 x.fId), .val (.int .i64 x.fPower)]
theorem pVal_clo (x : GVal) : (pVal x).all cloC = true := rfl
theorem pVal_ren {φ : List Nat} {n : Nat} (l : List GVal) : (l.map pVal).map (renL φ n) = l.map pVal := rows_flat pVal_clo l
theorem pVal_rc (l : List GVal) : (∀ row ∈ l.map pVal, row.all cloC = true) = True := eq_true fun row h => by obtain ⟨x, _, rfl⟩ := List.mem_map.1 h; rfl
theorem pVal_rf (l : List GVal) : (∀ row ∈ l.map pVal, freL row = true) = True := eq_true fun row h => by obtain ⟨x, _, rfl⟩ := List.mem_map.1 h; rfl
theorem pVal_ro (l : List GVal) : (∀ row ∈ l.map pVal, row.all oneP = true) = True := eq_true fun row h => by obtain ⟨x, _, rfl⟩ := List.mem_map.1 h; rfl
theorem pVal_rl (l : List GVal) : (∀ row ∈ l.map pVal, row.length = 2) = True := eq_true fun row h => by obtain ⟨x, _, rfl⟩ := List.mem_map.1 h; rfl
theorem GVal_eta (x : GVal) : (⟨x.fId, x.fPower⟩ : GVal) = x := rfl
structure GNMsg where
  fKind : Int
  fRound : Int
  fVal : Int
  fPol : Int
  fFrom : Int
def pNMsg (x : GNMsg) : List PV := [.val (.int .i64 x.fKind), .val (.int .i64 x.fRound), .val (.int .i64 x.fVal), .val (.int .i64 x.fPol), .val (.int .i64 x.fFrom)]
theorem pNMsg_clo (x : GNMsg) : (pNMsg x).all cloC = true := rfl
theorem pNMsg_ren {φ : List Nat} {n : Nat} (l : List GNMsg) : (l.map pNMsg).map (renL φ n) = l.map pNMsg := rows_flat pNMsg_clo l
theorem pNMsg_rc (l : List GNMsg) : (∀ row ∈ l.map pNMsg, row.all cloC = true) = True := eq_true fun row h => by obtain ⟨x, _, rfl⟩ := List.mem_map.1 h; rfl
theorem pNMsg_rf (l : List GNMsg) : (∀ row ∈ l.map pNMsg, freL row = true) = True := eq_true fun row h => by obtain ⟨x, _, rfl⟩ := List.mem_map.1 h; rfl
theorem pNMsg_ro (l : List GNMsg) : (∀ row ∈ l.map pNMsg, row.all oneP = true) = True := eq_true fun row h => by obtain ⟨x, _, rfl⟩ := List.mem_map.1 h; rfl
theorem pNMsg_rl (l : List GNMsg) : (∀ row ∈ l.map pNMsg, row.length = 5) = True := eq_true fun row h => by obtain ⟨x, _, rfl⟩ := List.mem_map.1 h; rfl
theorem GNMsg_eta (x : GNMsg) : (⟨x.fKind, x.fRound, x.fVal, x.fPol, x.fFrom⟩ : GNMsg) = x := rfl
structure GNode where
  fMe : Int
  fRound : Int
  fStep : Int
  fLockVal : Int
  fLockRound : Int
  fValidVal : Int
  fValidRound : Int
  fPolka : Int
  fDecided : Int
  fMsgs : List GNMsg
def pNode (x : GNode) : List PV := [.val (.int .i64 x.fMe), .val (.int .i64 x.fRound), .val (.int .i64 x.fStep), .val (.int .i64 x.fLockVal), .val (.int .i64 x.fLockRound), .val (.int .i64 x.fValidVal), .val (.int .i64 x.fValidRound), .val (.int .i64 x.fPolka), .val (.int .i64 x.fDecided), .sl 5 (x.fMsgs.map pNMsg)]
theorem pNode_clo (x : GNode) : (pNode x).all cloC = true := rfl
theorem pNode_ren {φ : List Nat} {n : Nat} (l : List GNode) : (l.map pNode).map (renL φ n) = l.map pNode := rows_flat pNode_clo l
theorem pNode_rc (l : List GNode) : (∀ row ∈ l.map pNode, row.all cloC = true) = True := eq_true fun row h => by obtain ⟨x, _, rfl⟩ := List.mem_map.1 h; rfl
theorem pNode_rl (l : List GNode) : (∀ row ∈ l.map pNode, row.length = 10) = True := eq_true fun row h => by obtain ⟨x, _, rfl⟩ := List.mem_map.1 h; rfl
theorem GNode_eta (x : GNode) : (⟨x.fMe, x.fRound, x.fStep, x.fLockVal, x.fLockRound, x.fValidVal, x.fValidRound, x.fPolka, x.fDecided, x.fMsgs⟩ : GNode) = x := rfl
structure GNet where
  fNodes : List GNode
  fPool : List GNMsg
def pNet (x : GNet) : List PV := [.sl 10 (x.fNodes.map pNode), .sl 5 (x.fPool.map pNMsg)]
theorem pNet_clo (x : GNet) : (pNet x).all cloC = true := rfl
theorem pNet_ren {φ : List Nat} {n : Nat} (l : List GNet) : (l.map pNet).map (renL φ n) = l.map pNet := rows_flat pNet_clo l
theorem pNet_rc (l : List GNet) : (∀ row ∈ l.map pNet, row.all cloC = true) = True := eq_true fun row h => by obtain ⟨x, _, rfl⟩ := List.mem_map.1 h; rfl
theorem pNet_rl (l : List GNet) : (∀ row ∈ l.map pNet, row.length = 2) = True := eq_true fun row h => by obtain ⟨x, _, rfl⟩ := List.mem_map.1 h; rfl
theorem GNet_eta (x : GNet) : (⟨x.fNodes, x.fPool⟩ : GNet) = x := rfl
structure GNetAct where
  fKind : Int
  fA : Int
  fB : Int
  fMsg : GNMsg
def pNetAct (x : GNetAct) : List PV := [.val (.int .i64 x.fKind), .val (.int .i64 x.fA), .val (.int .i64 x.fB), .val (.int .i64 x.fMsg.fKind), .val (.int .i64 x.fMsg.fRound), .val (.int .i64 x.fMsg.fVal), .val (.int .i64 x.fMsg.fPol), .val (.int .i64 x.fMsg.fFrom)]
theorem pNetAct_clo (x : GNetAct) : (pNetAct x).all cloC = true := rfl
theorem pNetAct_ren {φ : List Nat} {n : Nat} (l : List GNetAct) : (l.map pNetAct).map (renL φ n) = l.map pNetAct := rows_flat pNetAct_clo l
theorem pNetAct_rc (l : List GNetAct) : (∀ row ∈ l.map pNetAct, row.all cloC = true) = True := eq_true fun row h => by obtain ⟨x, _, rfl⟩ := List.mem_map.1 h; rfl
theorem pNetAct_rf (l : List GNetAct) : (∀ row ∈ l.map pNetAct, freL row = true) = True := eq_true fun row h => by obtain ⟨x, _, rfl⟩ := List.mem_map.1 h; rfl
theorem pNetAct_ro (l : List GNetAct) : (∀ row ∈ l.map pNetAct, row.all oneP = true) = True := eq_true fun row h => by obtain ⟨x, _, rfl⟩ := List.mem_map.1 h; rfl
theorem pNetAct_rl (l : List GNetAct) : (∀ row ∈ l.map pNetAct, row.length = 8) = True := eq_true fun row h => by obtain ⟨x, _, rfl⟩ := List.mem_map.1 h; rfl
theorem GNetAct_eta (x : GNetAct) : (⟨x.fKind, x.fA, x.fB, x.fMsg⟩ : GNetAct) = x := rfl
attribute [push_cast] pInt pInt_ren pInt_rc pInt_rf pInt_ro pInt_rl pStr pStr_ren pStr_rc pStr_rf pStr_ro pStr_rl pBool pBool_ren pBool_rc pBool_rf pBool_ro pBool_rl pRow pRow_ren pRow_rc pRow_rl pVal pVal_ren pVal_rc pVal_rf pVal_ro pVal_rl GVal_eta pNMsg pNMsg_ren pNMsg_rc pNMsg_rf pNMsg_ro pNMsg_rl GNMsg_eta pNode pNode_ren pNode_rc pNode_rl GNode_eta pNet pNet_ren pNet_rc pNet_rl GNet_eta pNetAct pNetAct_ren pNetAct_rc pNetAct_rf pNetAct_ro pNetAct_rl GNetAct_eta
theorem cv_3_3 {k : IntKind} {n : Int} : sflat Try.prog (convert 3 3 (.int k n)) = some (.int .i64 (IntKind.wrap .i64 n)) := conv_int (by kernel_rfl) (by kernel_rfl)
theorem cv_3_5 {k : IntKind} {n : Int} : sflat Try.prog (convert 3 5 (.int k n)) = some (.int .u8 (IntKind.wrap .u8 n)) := conv_int (by kernel_rfl) (by kernel_rfl)
theorem cv_3_67 {k : IntKind} {n : Int} : sflat Try.prog (convert 3 67 (.int k n)) = some (.int .u64 (IntKind.wrap .u64 n)) := conv_int (by kernel_rfl) (by kernel_rfl)
theorem cv_3_92 {k : IntKind} {n : Int} : sflat Try.prog (convert 3 92 (.int k n)) = some (.int .u32 (IntKind.wrap .u32 n)) := conv_int (by kernel_rfl) (by kernel_rfl)
theorem cv_3_94 {k : IntKind} {n : Int} : sflat Try.prog (convert 3 94 (.int k n)) = some (.int .u64 (IntKind.wrap .u64 n)) := conv_int (by kernel_rfl) (by kernel_rfl)
theorem cv_5_3 {k : IntKind} {n : Int} : sflat Try.prog (convert 5 3 (.int k n)) = some (.int .i64 (IntKind.wrap .i64 n)) := conv_int (by kernel_rfl) (by kernel_rfl)
theorem cv_5_5 {k : IntKind} {n : Int} : sflat Try.prog (convert 5 5 (.int k n)) = some (.int .u8 (IntKind.wrap .u8 n)) := conv_int (by kernel_rfl) (by kernel_rfl)
theorem cv_5_67 {k : IntKind} {n : Int} : sflat Try.prog (convert 5 67 (.int k n)) = some (.int .u64 (IntKind.wrap .u64 n)) := conv_int (by kernel_rfl) (by kernel_rfl)
theorem cv_5_92 {k : IntKind} {n : Int} : sflat Try.prog (convert 5 92 (.int k n)) = some (.int .u32 (IntKind.wrap .u32 n)) := conv_int (by kernel_rfl) (by kernel_rfl)
theorem cv_5_94 {k : IntKind} {n : Int} : sflat Try.prog (convert 5 94 (.int k n)) = some (.int .u64 (IntKind.wrap .u64 n)) := conv_int (by kernel_rfl) (by kernel_rfl)
theorem cv_67_3 {k : IntKind} {n : Int} : sflat Try.prog (convert 67 3 (.int k n)) = some (.int .i64 (IntKind.wrap .i64 n)) := conv_int (by kernel_rfl) (by kernel_rfl)
theorem cv_67_5 {k : IntKind} {n : Int} : sflat Try.prog (convert 67 5 (.int k n)) = some (.int .u8 (IntKind.wrap .u8 n)) := conv_int (by kernel_rfl) (by kernel_rfl)
theorem cv_67_67 {k : IntKind} {n : Int} : sflat Try.prog (convert 67 67 (.int k n)) = some (.int .u64 (IntKind.wrap .u64 n)) := conv_int (by kernel_rfl) (by kernel_rfl)
theorem cv_67_92 {k : IntKind} {n : Int} : sflat Try.prog (convert 67 92 (.int k n)) = some (.int .u32 (IntKind.wrap .u32 n)) := conv_int (by kernel_rfl) (by kernel_rfl)
theorem cv_67_94 {k : IntKind} {n : Int} : sflat Try.prog (convert 67 94 (.int k n)) = some (.int .u64 (IntKind.wrap .u64 n)) := conv_int (by kernel_rfl) (by kernel_rfl)
theorem cv_92_3 {k : IntKind} {n : Int} : sflat Try.prog (convert 92 3 (.int k n)) = some (.int .i64 (IntKind.wrap .i64 n)) := conv_int (by kernel_rfl) (by kernel_rfl)
theorem cv_92_5 {k : IntKind} {n : Int} : sflat Try.prog (convert 92 5 (.int k n)) = some (.int .u8 (IntKind.wrap .u8 n)) := conv_int (by kernel_rfl) (by kernel_rfl)
theorem cv_92_67 {k : IntKind} {n : Int} : sflat Try.prog (convert 92 67 (.int k n)) = some (.int .u64 (IntKind.wrap .u64 n)) := conv_int (by kernel_rfl) (by kernel_rfl)
theorem cv_92_92 {k : IntKind} {n : Int} : sflat Try.prog (convert 92 92 (.int k n)) = some (.int .u32 (IntKind.wrap .u32 n)) := conv_int (by kernel_rfl) (by kernel_rfl)
theorem cv_92_94 {k : IntKind} {n : Int} : sflat Try.prog (convert 92 94 (.int k n)) = some (.int .u64 (IntKind.wrap .u64 n)) := conv_int (by kernel_rfl) (by kernel_rfl)
theorem cv_94_3 {k : IntKind} {n : Int} : sflat Try.prog (convert 94 3 (.int k n)) = some (.int .i64 (IntKind.wrap .i64 n)) := conv_int (by kernel_rfl) (by kernel_rfl)
theorem cv_94_5 {k : IntKind} {n : Int} : sflat Try.prog (convert 94 5 (.int k n)) = some (.int .u8 (IntKind.wrap .u8 n)) := conv_int (by kernel_rfl) (by kernel_rfl)
theorem cv_94_67 {k : IntKind} {n : Int} : sflat Try.prog (convert 94 67 (.int k n)) = some (.int .u64 (IntKind.wrap .u64 n)) := conv_int (by kernel_rfl) (by kernel_rfl)
theorem cv_94_92 {k : IntKind} {n : Int} : sflat Try.prog (convert 94 92 (.int k n)) = some (.int .u32 (IntKind.wrap .u32 n)) := conv_int (by kernel_rfl) (by kernel_rfl)
theorem cv_94_94 {k : IntKind} {n : Int} : sflat Try.prog (convert 94 94 (.int k n)) = some (.int .u64 (IntKind.wrap .u64 n)) := conv_int (by kernel_rfl) (by kernel_rfl)
attribute [push_cast] cv_3_3 cv_3_5 cv_3_67 cv_3_92 cv_3_94 cv_5_3 cv_5_5 cv_5_67 cv_5_92 cv_5_94 cv_67_3 cv_67_5 cv_67_67 cv_67_92 cv_67_94 cv_92_3 cv_92_5 cv_92_67 cv_92_92 cv_92_94 cv_94_3 cv_94_5 cv_94_67 cv_94_92 cv_94_94
attribute [push_cast] tys_1 tys_3 tys_4 tys_5 tys_9 tys_22 tys_23 tys_24 tys_25 tys_27 tys_28 tys_30 tys_32 tys_34 tys_35 tys_36 tys_37 tys_39 tys_40 tys_41 tys_43 tys_44 tys_46 tys_47 tys_48 tys_49 tys_50 tys_51 tys_52 tys_53 tys_54 tys_55 tys_56 tys_57 tys_58 tys_59 tys_60 tys_62 tys_63 tys_64 tys_65 tys_66 tys_67 tys_69 tys_70 tys_71 tys_72 tys_73 tys_74 tys_75 tys_77 tys_78 tys_79 tys_80 tys_81 tys_82 tys_83 tys_85 tys_86 tys_87 tys_88 tys_90 tys_91 tys_92 tys_93 tys_94 tys_96 tys_97 tys_98 tys_99 tys_100 tys_101 tys_102 tys_103 tys_104 tys_105 tys_106 tys_107 tys_109 tys_110 tys_111 tys_113 tys_114 tys_115 tys_117 tys_118 tys_119 tys_120 tys_122 tys_123 tys_124 tys_125 tys_126 tys_127 tys_133 tys_136 tys_137
end Go.Proofs.Ytcbknmnlgoeniaa
namespace Go.Proofs.Ytcbknmnlgoeniaa
set_option linter.unusedSimpArgs false
set_option linter.unusedVariables false
open Go.RowKit
end Go.Proofs.Ytcbknmnlgoeniaa
namespace Go.Proofs.Ytcbknmnlgoeniaa
open Go.RowKit
section
variable {α : Type} {enc : α → List D} {sz : Nat} {w : World} {e : TypeId} {v : Value} {xs : List α}
end
end Go.Proofs.Ytcbknmnlgoeniaa
namespace Go.Proofs.Ytcbknmnlgoeniaa
open Go.RowKit
theorem PCalls.use {P : Program} {f : FuncId} {args : List PV} {R : PV → Hp → Prop} (h : PCalls P f args [] R) {w : World} (hg : Glob (memW w)) {vs : Array Value} (hv : CR (memW w) (fun _ => none) args vs) :
    Calls P f vs w fun e w' => ∃ v M' h' pv H', e = .returned v ∧ R pv H' ∧ VR M' h' pv v ∧ Inv M' h' H' w' ∧ Ext w w' ∧ ∀ k, Homes h' H' k → w.heap.size ≤ k :=
  (h (memW w) (fun _ => none) w vs (inv_memW w hg) hv).mono fun e w' ⟨v, M', h', pv, H', a, b, c, s⟩ => ⟨v, M', h', pv, H', a, b, c, s.inv, ChgS.ext ⟨s.chg.os, s.chg.tape, s.chg.output, s.chg.size, fun k hk hn => s.chg.block k hk fun ⟨b, B, v, q, _⟩ => by simp at q⟩, fun k hk => (s.sub k hk).resolve_left fun ⟨b, B, v, q, _⟩ => by simp at q⟩
end Go.Proofs.Ytcbknmnlgoeniaa
namespace Go.Proofs.Ytcbknmnlgoeniaa
open Go.RowKit
end Go.Proofs.Ytcbknmnlgoeniaa
namespace Go.Proofs.Ytcbknmnlgoeniaa
def idx {α : Type} (p : α → Bool) : List α → Int
  | [] => -1
  | x :: xs => if p x then 0 else if idx p xs < 0 then -1 else idx p xs + 1
theorem idx_none {α : Type} {p : α → Bool} : ∀ {xs : List α}, (∀ (i : Nat) x, xs[i]? = some x → p x = false) → idx p xs = -1
  | [], _ => rfl
  | x :: xs, h => by
    have h1 := h 0 x rfl
    have h2 := idx_none (xs := xs) fun i y hy => h (i + 1) y (by simpa using hy)
    unfold idx
    simp [h1, h2]
theorem idx_some {α : Type} {p : α → Bool} : ∀ {xs : List α} {k : Nat} {x : α}, xs[k]? = some x → p x = true → (∀ (i : Nat) y, i < k → xs[i]? = some y → p y = false) → idx p xs = k
  | x :: xs, 0, y, h1, h2, _ => by simp at h1; subst h1; simp [idx, h2]
  | x :: xs, k + 1, y, h1, h2, h3 => by
    have e1 := h3 0 x (by omega) rfl
    have e2 := idx_some (xs := xs) (k := k) (x := y) (by simpa using h1) h2 fun i z hi hz => h3 (i + 1) z (by omega) (by simpa using hz)
    unfold idx
    rw [e1, e2]
    simp
    omega
  | [], _, _, h1, _, _ => by simp at h1
def noneTo {α : Type} (p : α → Bool) (xs : List α) (k : Nat) : Prop := ∀ (i : Nat) y, i < k → xs[i]? = some y → p y = false
theorem noneTo_zero {α : Type} {p : α → Bool} {xs : List α} : noneTo p xs 0 := fun i _ h => by omega
theorem noneTo_succ {α : Type} {p : α → Bool} {xs : List α} {k : Nat} {x : α} (h : noneTo p xs k) (hx : xs[k]? = some x) (hp : p x = false) : noneTo p xs (k + 1) := fun i y hi hy => by
  by_cases e : i = k
  · subst e; rw [hx] at hy; cases hy; exact hp
  · exact h i y (by omega) hy
theorem noneTo_end {α : Type} {p : α → Bool} {xs : List α} (h : noneTo p xs xs.length) : idx p xs = -1 := idx_none fun i x hx => h i x (List.getElem?_eq_some_iff.1 hx).1 hx
def allTo (g : Nat → Bool) (k : Nat) : Prop := ∀ i, i < k → g i = true
theorem allTo_zero {g : Nat → Bool} : allTo g 0 := fun i h => by omega
theorem allTo_succ {g : Nat → Bool} {k : Nat} (h : allTo g k) (hk : g k = true) : allTo g (k + 1) := fun i hi => by
  by_cases e : i = k
  · subst e; exact hk
  · exact h i (by omega)
def allN (g : Nat → Bool) (n : Nat) : Bool := (List.range n).all g
theorem allTo_end {g : Nat → Bool} {n : Nat} (h : allTo g n) : allN g n = true := by
  unfold allN
  rw [List.all_eq_true]
  exact fun i hi => h i (List.mem_range.1 hi)
theorem allN_no {g : Nat → Bool} {n k : Nat} (hk : k < n) (h : g k = false) : allN g n = false := by
  unfold allN
  rw [List.all_eq_false]
  exact ⟨k, List.mem_range.2 hk, by simp [h]⟩
theorem allN_get {g : Nat → Bool} {n k : Nat} (h : allN g n = true) (hk : k < n) : g k = true := by
  unfold allN at h
  rw [List.all_eq_true] at h
  exact h k (List.mem_range.2 hk)
end Go.Proofs.Ytcbknmnlgoeniaa
namespace Go.Proofs.Ytcbknmnlgoeniaa
set_option linter.unusedSimpArgs false
set_option linter.unusedVariables false
open Go.RowKit
def RX {α : Type} (v : α → PV) (H : α → Hp) (p : α → Prop) : PV → Hp → Prop := fun r H' => ∃ a, p a ∧ r = v a ∧ H' = H a
section
variable {T : Tys} {σ : St} {e : Exit} {N : Nat} {a b c : Tmp} {α : Type} {v : α → PV} {H : α → Hp} {p : α → Prop}
theorem pendX {rs : List ResultVar} (x : α) (φ : List Nat) (he : e = .ret ∨ e = .normal) {pvs : List PV} (h1 : presults T rs σ = some pvs) (h2 : ptuple pvs = ren φ σ.H.length (v x)) (h3 : blkR φ σ.H.length σ.H φ (H x)) (h4 : nodupR φ = true) (h5 : preR φ N) (hp : p x) : PPostR T N rs (RX v H p) e σ :=
  pend he h1 φ h2 ⟨h4, h5, h3⟩ ⟨x, hp, rfl, rfl⟩
theorem pendX0 (x : α) (φ : List Nat) (he : e = .ret ∨ e = .normal) (h2 : PV.tup [] = ren φ σ.H.length (v x)) (h3 : blkR φ σ.H.length σ.H φ (H x)) (h4 : nodupR φ = true) (h5 : preR φ N) (hp : p x) : PPostR T N [] (RX v H p) e σ := pendX x φ he rfl h2 h3 h4 h5 hp
theorem pendX1 (x : α) (φ : List Nat) (he : e = .ret ∨ e = .normal) (h2 : σ.tm.getD a (.val undef) = ren φ σ.H.length (v x)) (h3 : blkR φ σ.H.length σ.H φ (H x)) (h4 : nodupR φ = true) (h5 : preR φ N) (hp : p x) : PPostR T N [.tmp a] (RX v H p) e σ := pendX x φ he rfl h2 h3 h4 h5 hp
theorem pendX2 (x : α) (φ : List Nat) (he : e = .ret ∨ e = .normal) (h2 : PV.tup [σ.tm.getD a (.val undef), σ.tm.getD b (.val undef)] = ren φ σ.H.length (v x)) (h3 : blkR φ σ.H.length σ.H φ (H x)) (h4 : nodupR φ = true) (h5 : preR φ N) (hp : p x) : PPostR T N [.tmp a, .tmp b] (RX v H p) e σ := pendX x φ he rfl h2 h3 h4 h5 hp
theorem pendX3 (x : α) (φ : List Nat) (he : e = .ret ∨ e = .normal) (h2 : PV.tup [σ.tm.getD a (.val undef), σ.tm.getD b (.val undef), σ.tm.getD c (.val undef)] = ren φ σ.H.length (v x)) (h3 : blkR φ σ.H.length σ.H φ (H x)) (h4 : nodupR φ = true) (h5 : preR φ N) (hp : p x) : PPostR T N [.tmp a, .tmp b, .tmp c] (RX v H p) e σ := pendX x φ he rfl h2 h3 h4 h5 hp
end
section
variable {P : Program} {g : FuncId} {args args0 : List PV} {H0 : Hp} {σ : St} {K : PV → St → Prop} {α : Type} {v : α → PV} {H : α → Hp} {p : α → Prop}
theorem pcall_XG (hc : Callable P g) (φ : List Nat) (ha : args = renL φ σ.H.length args0) (hH : blkE φ σ.H.length σ.H φ H0) (hn : nodupR φ = true) (h : PCalls P g args0 H0 (RX v H p)) (hk : ∀ x, p x → K (ren φ σ.H.length (v x)) ⟨σ.tm, wback φ σ.H (H x)⟩) : pcall P true g args σ K :=
  have hR := (blkE_R hH).1
  ⟨hc, .inr (.inr (.inr ⟨rfl, φ, H0, args0, _, h, blkR_len hR, nodupR_ok hn, ha, fun i b hb => by
    have hi : i < H0.length := by rw [← blkR_len hR]; exact (List.getElem?_eq_some_iff.1 hb).1
    have hsome := List.all_eq_true.1 (blkE_R hH).2 H0[i] (List.getElem_mem hi)
    obtain ⟨B, hB⟩ := Option.isSome_iff_exists.1 hsome
    have e : H0[i]? = some (some B) := by rw [List.getElem?_eq_getElem hi, hB]
    obtain ⟨b', B', g1, g2, g3⟩ := blkR_get hR i B e
    rw [hb] at g1
    cases g1
    exact ⟨B, B', e, g2, g3⟩, fun r H'' ⟨x, hp, e1, e2⟩ => by subst e1; subst e2; exact hk x hp⟩))⟩
theorem pcall_X1 {cm : Bool} (hc : Callable P g) (ha : args.all cloA = true) (h : PCalls P g args [] (RX v H p)) (hk : ∀ x, p x → K (ren [] σ.H.length (v x)) ⟨σ.tm, σ.H ++ (H x).map (renB [] σ.H.length)⟩) : pcall P cm g args σ K :=
  ⟨hc, .inl ⟨_, h, ha, fun r H'' ⟨x, hp, e1, e2⟩ => by subst e1; subst e2; exact hk x hp⟩⟩
theorem pcall_H1 {cm : Bool} {v : PV} {H' : Hp} (hc : Callable P g) (ha : args.all cloA = true) (h : PCalls P g args [] (RH v H')) (hk : K (ren [] σ.H.length v) ⟨σ.tm, σ.H ++ H'.map (renB [] σ.H.length)⟩) : pcall P cm g args σ K :=
  ⟨hc, .inl ⟨_, h, ha, fun r H'' ⟨e1, e2⟩ => by subst e1; subst e2; exact hk⟩⟩
end
def thawT (b sz : Nat) (es : List (List PV)) : PV → PV
  | .tup fs => .tup (fs.map (thaw b sz es))
  | p => thaw b sz es p
theorem freezeV_ok {M : Mem} {h : Home} {H : Hp} {w : World} (I : Inv M h H w) {b : Nat} {e : TypeId} {sz : Nat} {es : List (List PV)} (hH : H[b]? = some (some (.row e sz es))) (hcl : ∀ row ∈ es, row.all cloC = true) {pv : PV} {v : Value} (r : VR M h pv v) :
    ∃ M', Step M h H w M' h ((H.set b none).map (thawB b sz es)) w ∧ VR M' h (thawT b sz es pv) v := by
  obtain ⟨u, hb, _⟩ := I.blk b _ hH
  have one : ∀ {p : PV} {x : Value}, VR M h p x → ∃ M', Step M h H w M' h ((H.set b none).map (thawB b sz es)) w ∧ VR M' h (thaw b sz es p) x := fun {p x} r => by
    obtain ⟨M', s, t, _⟩ := freeze_ok (σ := ⟨[p], H⟩) I hH hb hcl (ts := #[x]) ⟨rfl, fun i q y a d => by
      cases i with
      | zero => simp at a d; subst a; subst d; exact r
      | succ i => simp at a⟩
    exact ⟨M', s, t.vr 0 _ x rfl rfl⟩
  cases r with
  | tup fs vs h1 h2 =>
    obtain ⟨M', s, t, _⟩ := freeze_ok (σ := ⟨fs, H⟩) I hH hb hcl (ts := vs) ⟨h1.symm, fun i q y a d => h2 i q y a d⟩
    refine ⟨M', s, .tup _ _ (by simpa using h1) fun i pv v a d => t.vr i pv v a d⟩
  | val => exact one (.val _)
  | sl0 z o c => exact one (.sl0 z o c)
  | sl z es b off cap f h1 h2 h3 h4 h5 h6 => exact one (.sl z es b off cap f h1 h2 h3 h4 h5 h6)
  | agg fs vs h1 h2 => exact one (.agg fs vs h1 h2)
  | ptr b o k h1 => exact one (.ptr b o k h1)
  | own b o n c h1 => exact one (.own b o n c h1)
  | eptr cs o b off f h1 h2 => exact one (.eptr cs o b off f h1 h2)
  | optr b z i o g n c h1 => exact one (.optr b z i o g n c h1)
  | clo f caps vs h1 h2 => exact one (.clo f caps vs h1 h2)
theorem PCalls.thawX {P : Program} {f : FuncId} {args : List PV} {H0 : Hp} {α : Type} {v v' : α → PV} {H H' : α → Hp} {p : α → Prop} (c : PCalls P f args H0 (RX v H p)) (b : Nat) (φ : List Nat)
    (hx : ∀ x, p x → ∃ e sz es, (H x)[b]? = some (some (.row e sz es)) ∧ (∀ row ∈ es, row.all cloC = true) ∧ thawT b sz es (v x) = ren φ (H x).length (v' x) ∧ nodupR φ = true ∧ preR φ H0.length ∧ blkR φ (H x).length (((H x).set b none).map (thawB b sz es)) φ (H' x)) : PCalls P f args H0 (RX v' H' p) := by
  intro M hh w vs I rv
  refine (c M hh w vs I rv).mono fun e w' ⟨u, M', h', pv, H1, e1, ⟨x, hp, e2, e3⟩, e4, e5⟩ => ?_
  subst e2
  subst e3
  obtain ⟨e, sz, es, g1, g2, g3, g4, g5, g6⟩ := hx x hp
  obtain ⟨M2, s, r⟩ := freezeV_ok e5.inv g1 g2 e4
  have rf : Refit H0.length φ (H' x) (((H x).set b none).map (thawB b sz es)) := ⟨g4, g5, by simpa using g6⟩
  have st := rf.step I.len (e5.trans s)
  rw [g3] at r
  exact ⟨u, M2, homeR φ h', v' x, H' x, e1, ⟨x, hp, rfl, rfl⟩, Refit.vr (H := ((H x).set b none).map (thawB b sz es)) s.inv (by simpa using r), st⟩
theorem PCalls.rx {P : Program} {f : FuncId} {args : List PV} {H0 : Hp} {v : PV} {H : Hp} (c : PCalls P f args H0 (RH v H)) : PCalls P f args H0 (RX (fun _ : Unit => v) (fun _ => H) fun _ => True) := by
  intro M hh w vs I rv
  refine (c M hh w vs I rv).mono fun e w' ⟨u, M', h', pv, H1, e1, ⟨e2, e3⟩, e4, e5⟩ => ⟨u, M', h', pv, H1, e1, ⟨(), trivial, e2, e3⟩, e4, e5⟩
theorem PCalls.rh {P : Program} {f : FuncId} {args : List PV} {H0 : Hp} {v : PV} {H : Hp} (c : PCalls P f args H0 (RX (fun _ : Unit => v) (fun _ => H) fun _ => True)) : PCalls P f args H0 (RH v H) := by
  intro M hh w vs I rv
  refine (c M hh w vs I rv).mono fun e w' ⟨u, M', h', pv, H1, e1, ⟨_, _, e2, e3⟩, e4, e5⟩ => ⟨u, M', h', pv, H1, e1, ⟨e2, e3⟩, e4, e5⟩
theorem PCalls.thawH {P : Program} {f : FuncId} {args : List PV} {H0 : Hp} {v v' : PV} {H H' : Hp} (c : PCalls P f args H0 (RH v H)) (b : Nat) (φ : List Nat) {e : TypeId} {sz : Nat} {es : List (List PV)}
    (g1 : H[b]? = some (some (.row e sz es))) (g2 : ∀ row ∈ es, row.all cloC = true) (g3 : thawT b sz es v = ren φ H.length v') (g4 : nodupR φ = true) (g5 : preR φ H0.length) (g6 : blkR φ H.length ((H.set b none).map (thawB b sz es)) φ H') : PCalls P f args H0 (RH v' H') :=
  PCalls.rh (PCalls.thawX c.rx b φ fun _ _ => ⟨e, sz, es, g1, g2, g3, g4, g5, g6⟩)
end Go.Proofs.Ytcbknmnlgoeniaa
namespace Go.Proofs.Ytcbknmnlgoeniaa
set_option linter.unusedSimpArgs false
set_option linter.unusedVariables false
open Go.RowKit
inductive Wk : PV → PV → Prop
  | rfl (p : PV) : Wk p p
  | nil (z : Nat) : Wk (.val (.slice none 0 0)) (.sl z [])
  | agg (fs gs : List PV) : fs.length = gs.length → (∀ (i : Nat) (p q : PV), fs[i]? = some p → gs[i]? = some q → Wk p q) → Wk (.agg fs) (.agg gs)
  | tup (fs gs : List PV) : fs.length = gs.length → (∀ (i : Nat) (p q : PV), fs[i]? = some p → gs[i]? = some q → Wk p q) → Wk (.tup fs) (.tup gs)
theorem Wk.vr {M : Mem} {h : Home} {p q : PV} (k : Wk p q) : ∀ {v : Value}, VR M h p v → VR M h q v := by
  induction k with
  | rfl p => exact fun r => r
  | nil z => intro v r; cases r; exact .sl0 z none 0
  | agg fs gs hl _ ih =>
    intro v r
    cases r with
    | agg _ vs h1 h2 =>
      refine .agg _ _ (by omega) fun i q v a b => ?_
      have hi : i < fs.length := by have := (List.getElem?_eq_some_iff.1 a).1; omega
      exact ih i fs[i] q (List.getElem?_eq_getElem hi) a (h2 i _ v (List.getElem?_eq_getElem hi) b)
  | tup fs gs hl _ ih =>
    intro v r
    cases r with
    | tup _ vs h1 h2 =>
      refine .tup _ _ (by omega) fun i q v a b => ?_
      have hi : i < fs.length := by have := (List.getElem?_eq_some_iff.1 a).1; omega
      exact ih i fs[i] q (List.getElem?_eq_getElem hi) a (h2 i _ v (List.getElem?_eq_getElem hi) b)
def WkL : List PV → List PV → Prop
  | [], [] => True
  | p :: ps, q :: qs => Wk p q ∧ WkL ps qs
  | _, _ => False
theorem WkL.len : ∀ {ps qs : List PV}, WkL ps qs → ps.length = qs.length
  | [], [], _ => rfl
  | _ :: _, _ :: _, h => by simp [WkL.len h.2]
  | [], _ :: _, h => h.elim
  | _ :: _, [], h => h.elim
theorem WkL.get : ∀ {ps qs : List PV}, WkL ps qs → ∀ (i : Nat) (p q : PV), ps[i]? = some p → qs[i]? = some q → Wk p q
  | _ :: _, _ :: _, h, 0, p, q, a, b => by simp at a b; subst a; subst b; exact h.1
  | _ :: _, _ :: _, h, i + 1, p, q, a, b => WkL.get h.2 i p q (by simpa using a) (by simpa using b)
  | [], [], _, i, p, q, a, _ => by simp at a
  | [], _ :: _, h, _, _, _, _, _ => h.elim
  | _ :: _, [], h, _, _, _, _, _ => h.elim
theorem wk_agg {fs gs : List PV} (h : WkL fs gs) : Wk (.agg fs) (.agg gs) := .agg _ _ h.len h.get
theorem wk_tup {fs gs : List PV} (h : WkL fs gs) : Wk (.tup fs) (.tup gs) := .tup _ _ h.len h.get
section
variable {P : Program} {f : FuncId} {args args' : List PV} {H0 H : Hp} {v v' : PV}
theorem PCalls.wkR (c : PCalls P f args H0 (RH v H)) (k : Wk v v') : PCalls P f args H0 (RH v' H) := by
  intro M hh w vs I rv
  refine (c M hh w vs I rv).mono fun e w' ⟨u, M', h', pv, H1, e1, ⟨e2, e3⟩, e4, e5⟩ => ⟨u, M', h', v', H1, e1, ⟨rfl, e3⟩, ?_, e5⟩
  subst e2
  exact k.vr e4
end
theorem mapM_one {f : ResultVar → Option PV} {r : ResultVar} {rs : List ResultVar} {p : PV} {ps : List PV} (h1 : f r = some p) (h2 : rs.mapM f = some ps) : (r :: rs).mapM f = some (p :: ps) := by
  rw [List.mapM_cons, h1, h2]
  rfl
section
variable {T : Tys} {σ : St} {X : PV} {rs : List ResultVar}
theorem presults_nil : presults T [] σ = some [] := rfl
theorem presults_tmp {t : Tmp} {ps : List PV} (h : presults T rs σ = some ps) : presults T (.tmp t :: rs) σ = some (σ.tm.getD t (.val undef) :: ps) := mapM_one rfl h
theorem presults_agg {a b o n : Nat} {t : TypeId} {i : TI} {cs : List PV} {ps : List PV} (hv : σ.tm.getD a (.val undef) = .ptr b o) (hb : σ.H[b]? = some (some (.box cs))) (ht : T t = some i) (hz : i.size = n) (hd : (match i.d with | .struct _ => true | .array _ _ _ => true | _ => false) = true) (hl : o + n ≤ cs.length) (h : presults T rs σ = some ps) : presults T (.cell a t :: rs) σ = some (.agg ((cs.drop o).take n) :: ps) := by
  refine mapM_one ?_ h
  simp only [hv, pcells, hb, ht]
  subst hz
  split
  · rw [if_pos hl]
  · rw [if_pos hl]
  · rename_i h1 h2; revert hd; cases hi : i.d <;> simp_all
theorem presults_one {a b o : Nat} {t : TypeId} {i : TI} {cs : List PV} {p : PV} {ps : List PV} (hv : σ.tm.getD a (.val undef) = .ptr b o) (hb : σ.H[b]? = some (some (.box cs))) (ht : T t = some i) (hd : (match i.d with | .struct _ => true | .array _ _ _ => true | _ => false) = false) (hl : cs[o]? = some p) (h : presults T rs σ = some ps) : presults T (.cell a t :: rs) σ = some (p :: ps) := by
  refine mapM_one ?_ h
  simp only [hv, pcells, hb, ht]
  split
  · rename_i h1; rw [h1] at hd; simp at hd
  · rename_i h1; rw [h1] at hd; simp at hd
  · exact hl
theorem pendVG {e : Exit} (he : e = .ret ∨ e = .normal) (h : ∃ pvs, presults T rs σ = some pvs ∧ ptuple pvs = X) (hs : scalP X = true) : PPostR T 0 rs (RV X) e σ := by
  obtain ⟨pvs, h1, h2⟩ := h
  exact pendV he h1 hs h2
theorem pendHG {N : Nat} {H : Hp} {e : Exit} (φ : List Nat) (he : e = .ret ∨ e = .normal) (h : ∃ pvs, presults T rs σ = some pvs ∧ ptuple pvs = ren φ σ.H.length X) (h3 : blkR φ σ.H.length σ.H φ H) (h4 : nodupR φ = true) (h5 : preR φ N) : PPostR T N rs (RH X H) e σ := by
  obtain ⟨pvs, h1, h2⟩ := h
  exact pendH φ he h1 h2 h3 h4 h5
theorem finH {T : Tys} {rs : List ResultVar} {σ : St} {X : PV} {N : Nat} {H : Hp} {e : Exit} (φ : List Nat) (he : e = .ret ∨ e = .normal := by first | exact .inl rfl | exact .inr rfl) (h : ∃ pvs, presults T rs σ = some pvs ∧ ptuple pvs = ren φ σ.H.length X := by ((try (apply Exists.intro; apply And.intro; (· repeat' (first | with_reducible exact presults_nil | with_reducible apply presults_tmp | ((with_reducible apply presults_agg); (· exact rfl); (· exact rfl); (· exact rfl); (· exact rfl); (· exact rfl); (· first | exact Nat.le_refl _ | decide | simp)) | ((with_reducible apply presults_one); (· exact rfl); (· exact rfl); (· exact rfl); (· exact rfl); (· exact rfl)))))); (try simp (disch := omega) only [push_cast, seval]); (repeat' (first | exact trivial | exact rfl | refine And.intro ?_ ?_ | omega)))) (h3 : blkR φ σ.H.length σ.H φ H := by ((try simp (disch := omega) only [push_cast, seval]); (repeat' (first | exact trivial | exact rfl | refine And.intro ?_ ?_ | omega)))) (h4 : nodupR φ = true := by exact rfl) (h5 : preR φ N := by first | exact trivial | exact ⟨rfl, trivial⟩ | exact ⟨rfl, rfl, trivial⟩ | exact ⟨rfl, rfl, rfl, trivial⟩) : PPostR T N rs (RH X H) e σ := pendHG φ he h h3 h4 h5
theorem finV {T : Tys} {rs : List ResultVar} {σ : St} {X : PV} {e : Exit} {pvs : List PV} (h2 : ptuple pvs = X) (he : e = .ret ∨ e = .normal := by first | exact .inl rfl | exact .inr rfl) (h1 : presults T rs σ = some pvs := by repeat' (first | with_reducible exact presults_nil | with_reducible apply presults_tmp | ((with_reducible apply presults_agg); (· exact rfl); (· exact rfl); (· exact rfl); (· exact rfl); (· exact rfl); (· first | exact Nat.le_refl _ | decide | simp)) | ((with_reducible apply presults_one); (· exact rfl); (· exact rfl); (· exact rfl); (· exact rfl); (· exact rfl)))) (hs : scalP X = true := by exact rfl) : PPostR T 0 rs (RV X) e σ := pendVG he ⟨pvs, h1, h2⟩ hs
theorem pendXG {N : Nat} {e : Exit} {α : Type} {v : α → PV} {H : α → Hp} {p : α → Prop} (x : α) (φ : List Nat) (he : e = .ret ∨ e = .normal) (h : ∃ pvs, presults T rs σ = some pvs ∧ ptuple pvs = ren φ σ.H.length (v x)) (h3 : blkR φ σ.H.length σ.H φ (H x)) (h4 : nodupR φ = true) (h5 : preR φ N) (hp : p x) : PPostR T N rs (RX v H p) e σ := by
  obtain ⟨pvs, h1, h2⟩ := h
  exact pendX x φ he h1 h2 h3 h4 h5 hp
end
theorem ptuple_0 : ptuple [] = .tup [] := rfl
theorem ptuple_1 {p : PV} : ptuple [p] = p := rfl
theorem ptuple_2 {p q : PV} {l : List PV} : ptuple (p :: q :: l) = .tup (p :: q :: l) := rfl
attribute [push_cast] ptuple_0 ptuple_1 ptuple_2
theorem rowsC1 {α : Type} {f : α → List PV} (h : ∀ x, (f x).all cloC = true) {xs : List α} {r : List PV} (hr : r.all cloC = true) : ∀ row ∈ xs.map f ++ [r], row.all cloC = true := fun row hm => by
  rcases List.mem_append.1 hm with q | q
  · obtain ⟨x, _, rfl⟩ := List.mem_map.1 q; exact h x
  · rw [List.mem_singleton.1 q]; exact hr
theorem pcV {P : Program} {cm : Bool} {g : FuncId} {args : List PV} {σ : St} {K : PV → St → Prop} {v : PV} (hc : Callable P g) (h : PCalls P g (args.map (vw σ.H)) [] (RV v)) (hk : K v σ) (hv : scalP v = true := by rfl) (ha : vwAll σ.H args := by repeat' (first | exact trivial | exact rfl | exact vwOk_clo rfl | exact rowsC fun _ => rfl | exact rowsC2 fun _ => rfl | exact rowsC1 (fun _ => rfl) rfl | refine And.intro ?_ ?_ | refine vwOk_ag ?_ | refine vwOk_cl ?_)) : pcall P cm g args σ K := pcall_RV hc h hv ha hk
theorem pcH {P : Program} {cm : Bool} {g : FuncId} {args : List PV} {σ : St} {K : PV → St → Prop} {v : PV} {H' : Hp} (hc : Callable P g) (h : PCalls P g (args.map (vw σ.H)) [] (RH v H')) (hk : K (ren [] σ.H.length v) ⟨σ.tm, σ.H ++ H'.map (renB [] σ.H.length)⟩) (hv : fre v = true := by repeat' (first | exact trivial | exact rfl | exact rowsF fun _ => rfl | refine And.intro ?_ ?_)) (hH : freH H' := by repeat' (first | exact trivial | exact rfl | exact rowsF fun _ => rfl | refine And.intro ?_ ?_)) (ha : vwAll σ.H args := by repeat' (first | exact trivial | exact rfl | exact vwOk_clo rfl | exact rowsC fun _ => rfl | exact rowsC2 fun _ => rfl | exact rowsC1 (fun _ => rfl) rfl | refine And.intro ?_ ?_ | refine vwOk_ag ?_ | refine vwOk_cl ?_)) : pcall P cm g args σ K := pcall_RH hc h hv hH ha hk
theorem pcF {P : Program} {cm : Bool} {g : FuncId} {args : List PV} {σ : St} {K : PV → St → Prop} {v : PV} {H' : Hp} (hc : Callable P g) (h : PCalls P g args [] (RH v H')) (hk : K (ren [] σ.H.length v) ⟨σ.tm, σ.H ++ H'.map (renB [] σ.H.length)⟩) (ha : args.all cloA = true := by ((try simp (disch := omega) only [push_cast, seval]); first | done | exact rfl)) : pcall P cm g args σ K := pcall_H1 hc ha h hk
end Go.Proofs.Ytcbknmnlgoeniaa
namespace Go.Proofs.Ytcbknmnlgoeniaa
set_option linter.unusedSimpArgs false
set_option linter.unusedVariables false
open Go.RowKit
end Go.Proofs.Ytcbknmnlgoeniaa
namespace Go.Proofs.Ytcbknmnlgoeniaa
set_option linter.unusedSimpArgs false
set_option linter.unusedVariables false
open Go.RowKit
set_option maxRecDepth 100000
set_option maxHeartbeats 1000000 in
theorem l1In_p (x lo hi : Int) : PCalls Try.prog 59 [.val (.int .i64 x), .val (.int .i64 lo), .val (.int .i64 hi)] [] (RV (.val (.bool (inB x lo hi)))) := by
  refine pcalls_ofR okP Try.func59 rfl ?_
  simp only [Try.f59, List.length_cons, List.length_nil, Nat.reduceAdd, Nat.reduceSub, List.replicate_succ, List.replicate_zero, List.cons_append, List.nil_append, List.length_map]
  repeat' (first | with_reducible (first | refine wA ?_ | refine wB ?_ | refine wC ?_) | with_reducible (first | refine wq1 ?_ | refine wq2 ?_ | refine wq3 ?_ | refine wq4 ?_ | refine wq5 ?_ | refine wq6 ?_ | refine wq7 ?_ | refine wq8 ?_ | refine wT ?_ | refine wq9 ?_ | refine wE ?_ | refine wS ?_) | ((with_reducible refine hK _ ?_); clear hK K) | ((with_reducible refine pops_guard0 ?_); refine ⟨_, rfl, fun K hK => ⟨rfl, ?_⟩⟩; (try simp (disch := omega) only [push_cast, seval])) | ((with_reducible refine pops_plain fun K hK => ?_); simp (disch := omega) only [push_cast, seval]) | ((with_reducible refine pops_guard ?_); refine ⟨_, rfl, fun K hK => ⟨_, rfl, fun hg => ?_, fun hg => ?_⟩⟩ <;> first | (exact absurd hg (by decide)) | ((try simp only [Bool.not_true, Bool.not_false] at hg); (try simp only [hg]); (try simp only [push_cast] at hg); (try exact absurd trivial hg); (try (exfalso; omega)); (try simp (disch := omega) only [push_cast, seval]))) | ((with_reducible refine And.intro ?_ ?_); omega))
  all_goals
    ((with_reducible show PPostR _ _ _ _ _ _); refine finV ?_; (try simp only [push_cast, seval]))
    simp [inB]
    omega
set_option maxHeartbeats 1000000 in
theorem within_p (x lo hi : Int) : PCalls Try.prog 23 [.val (.int .i64 x), .val (.int .i64 lo), .val (.int .i64 hi)] [] (RV (.val (.bool (inB x lo hi)))) := by
  refine pcalls_ofR okP Try.func23 rfl ?_
  simp only [Try.f23, List.length_cons, List.length_nil, Nat.reduceAdd, Nat.reduceSub, List.replicate_succ, List.replicate_zero, List.cons_append, List.nil_append, List.length_map]
  repeat' (first | with_reducible (first | refine wA ?_ | refine wB ?_ | refine wC ?_) | with_reducible (first | refine wq1 ?_ | refine wq2 ?_ | refine wq3 ?_ | refine wq4 ?_ | refine wq5 ?_ | refine wq6 ?_ | refine wq7 ?_ | refine wq8 ?_ | refine wT ?_ | refine wq9 ?_ | refine wE ?_ | refine wS ?_) | ((with_reducible refine hK _ ?_); clear hK K) | ((with_reducible refine pops_guard0 ?_); refine ⟨_, rfl, fun K hK => ⟨rfl, ?_⟩⟩; (try simp (disch := omega) only [push_cast, seval])) | ((with_reducible refine pops_plain fun K hK => ?_); simp (disch := omega) only [push_cast, seval]) | ((with_reducible refine pops_guard ?_); refine ⟨_, rfl, fun K hK => ⟨_, rfl, fun hg => ?_, fun hg => ?_⟩⟩ <;> first | (exact absurd hg (by decide)) | ((try simp only [Bool.not_true, Bool.not_false] at hg); (try simp only [hg]); (try simp only [push_cast] at hg); (try exact absurd trivial hg); (try (exfalso; omega)); (try simp (disch := omega) only [push_cast, seval]))) | ((with_reducible refine And.intro ?_ ?_); omega))
  all_goals
    ((with_reducible show PPostR _ _ _ _ _ _); refine finV ?_; (try simp only [push_cast, seval]))
    simp [inB]
    omega
end Go.Proofs.Ytcbknmnlgoeniaa
namespace Go.Proofs.Ytcbknmnlgoeniaa
set_option linter.unusedSimpArgs false
set_option linter.unusedVariables false
open Go.RowKit
def GlobW (w : World) : Prop := ∀ (i : Nat) (n : Int), globL[i]? = some n → w.cell? ⟨0, i, none⟩ = some (.int .u32 n)
theorem GlobW.mem {w : World} (h : GlobW w) : Glob (memW w) := fun i n q => memW_of (h i n q) rfl
end Go.Proofs.Ytcbknmnlgoeniaa
namespace Go.Proofs.Ytcbknmnlgoeniaa
set_option linter.unusedSimpArgs false
set_option linter.unusedVariables false
open Go.RowKit
def kindC (ops : Array Oper) (tn : List Nat) (i : Nat) : Nat := if tn.contains i then 3 else kindAt ops i
theorem kindC_le {ops : Array Oper} {tn : List Nat} {i : Nat} (h : kindC ops tn i ≤ 2) : tn.contains i = false ∧ kindC ops tn i = kindAt ops i := by
  unfold kindC at h ⊢
  cases hc : tn.contains i with
  | true => rw [hc] at h; simp at h
  | false => exact ⟨rfl, by simp⟩
def ordC (ops : Array Oper) (tn : List Nat) : List Nat → Array Bool → Bool
  | [], listed => Region.ready .any ops listed == []
  | i :: rest, listed =>
    (Region.ready .any ops listed).contains i &&
    (if kindC ops tn i ≤ 1 then Region.free .any ops listed i && (kindC ops tn i == 0 || (List.range ops.size).all fun j => listed.getD j true || j == i || kindC ops tn j ≤ 2 || waits ops i 6 j)
     else Region.ready .any ops listed == [i]) && ordC ops tn rest (listed.setIfInBounds i true)
def panyC (P : Program) (T : Tys) (md : Bool) (ops : Array Oper) (tn : List Nat) (K : St → Prop) : List Nat → St → Prop
  | [], σ => K σ
  | i :: rest, σ => match ops[i]? with
    | none => False
    | some o => if pwanted ops σ.tm o.guard then
        (if kindC ops tn i ≤ 1 then py P T σ.tm σ.H o.op o.type fun pv => panyC P T md ops tn K rest (σ.put o.dst pv) else pop P T md (tn.contains i) o σ fun pv σ' => panyC P T md ops tn K rest (σ'.put o.dst pv))
      else panyC P T md ops tn K rest (σ.put o.dst (.val undef))
section
variable {P : Program} {ops : Array Oper} {tn : List Nat} {Q : Exit → Act → World → Prop}
def wpC (P : Program) (ops : Array Oper) (tn : List Nat) (Q : Exit → Act → World → Prop) : Nat → Array Bool → Act → World → Prop
  | 0, listed, a, w => Region.ready .any ops listed = [] ∧ Q .normal a w
  | fuel + 1, listed, a, w =>
    (Region.ready .any ops listed = [] → Q .normal a w) ∧
    ∀ i ∈ Region.ready .any ops listed, wpOp P ops Q i (fun a' w' => (kindC ops tn i ≤ 2 → Ext w w') ∧ wpC P ops tn Q fuel (listed.setIfInBounds i true) a' w') a w
theorem wpAny_of_C : ∀ (fuel : Nat) (listed : Array Bool) (a : Act) (w : World), wpC P ops tn Q fuel listed a w → wpAny P .any ops Q fuel listed a w
  | 0, _, _, _, h => h
  | fuel + 1, _, _, _, h => ⟨h.1, fun i hi => wpOp_mono (fun a' w' h' => wpAny_of_C fuel _ a' w' h'.2) (h.2 i hi)⟩
theorem wpC_first {i : Nat} {oi : Oper} {v : Value} (hi : ops[i]? = some oi) (hsel : ∀ (j : Nat) (o : Oper) cs b, ops[j]? = some o → o.op ≠ .select cs b) (hpan : ∀ c a w, Q (.panic c) a w → False) (b : Bool)
    : ∀ (fuel : Nat) (listed : Array Bool) (a : Act) (w : World),
      (∀ j oj, ops[j]? = some oj → j ≠ i → listed.getD j true = false → ((∀ e ∈ oj.after, Region.binds .any e = true → e.on ≠ i) → oi.apart ops oj = true) ∧ (b = true → waits ops i 6 j = false → kindC ops tn j ≤ 2)) →
      ClosedL ops listed → kindC ops tn i ≤ 2 → i ∈ Region.ready .any ops listed → YieldsIf P ops (fun w' => b = true → Ext w w') oi v a →
      wpC P ops tn Q fuel (listed.setIfInBounds i true) (a.put oi.dst v) w → wpC P ops tn Q (fuel + 1) listed a w := by
  intro fuel
  induction fuel with
  | zero =>
    intro listed a w _ _ _ hr hy H
    refine ⟨fun h => (by rw [h] at hr; cases hr), fun j hj => ?_⟩
    by_cases hji : j = i
    · subst hji; exact hy.wpOp hi (fun _ => Ext.refl w) ⟨fun _ => Ext.refl w, H⟩
    · have := ready_mono hj hji
      rw [H.1] at this
      cases this
  | succ fuel ih =>
    intro listed a w hfree hcl hki hr hy H
    refine ⟨fun h => (by rw [h] at hr; cases hr), fun j hj => ?_⟩
    by_cases hji : j = i
    · subst hji; exact hy.wpOp hi (fun _ => Ext.refl w) ⟨fun _ => Ext.refl w, H⟩
    · have h1 := H.2 j (ready_mono hj hji)
      obtain ⟨hjun, oj, hoj, hall⟩ := mem_ready.1 hj
      have hnot : ∀ e ∈ oj.after, Region.binds .any e = true → e.on ≠ i := fun e he hb heq => by
        have h1 := hall e he hb
        have h0 := (mem_ready.1 hr).1
        rw [heq] at h1
        rcases Nat.lt_or_ge i listed.size with h' | h'
        · simp [h'] at h0 h1; rw [h0] at h1; cases h1
        · simp [Array.getElem?_eq_none h'] at h1
      have hap := hfree j oj hoj hji hjun
      have hnw : waits ops i 6 j = false := by
        cases hq : waits ops i 6 j with
        | false => rfl
        | true => exact (waits_no hcl (mem_ready.1 hr).1 _ _ hq ⟨oj, hoj, hall⟩).elim
      have h2 := wpOp_putIf hoj (hap.1 hnot) (fun cs b => hsel i oi cs b hi) (fun cs b => hsel j oj cs b hoj) (fun c a w q => (hpan _ _ _ q).elim) hy h1
      have hfree' : ∀ k ok, ops[k]? = some ok → k ≠ i → (listed.setIfInBounds j true).getD k true = false →
          ((∀ e ∈ ok.after, Region.binds .any e = true → e.on ≠ i) → oi.apart ops ok = true) ∧ (b = true → waits ops i 6 k = false → kindC ops tn k ≤ 2) := fun k ok hk hki hun => by
        refine hfree k ok hk hki ?_
        by_cases hjk : j = k
        · subst hjk; exact hjun
        · rw [getD_set_ne true hjk] at hun; exact hun
      refine wpOp_mono (fun a' w' h3 => ⟨h3.2.1, ih (listed.setIfInBounds j true) a' w' hfree' (hcl.set hj) hki (ready_mono hr (Ne.symm hji)) (YieldsIf.mono' (P := P) (ops := ops) (o := oi) (a := a') h3.1 fun w'' q hb => (h3.2.1 (hap.2 hb hnw)).trans (q hb)) ?_⟩) h2
      rw [Array.setIfInBounds_comm _ _ hji]
      exact h3.2.2
end
section
variable {P : Program} {T : Tys} {E : Env}
theorem panyC_ok (hT : TysOk P T) (hE : elemsOk P T) {md : Bool} (ops : Array Oper) (tn : List Nat) (hs : Region.noSelect ops = true) {K : St → Prop} {Q : Exit → Act → World → Prop} (hpan : ∀ c a w, Q (.panic c) a w → False) (hq : ∀ σ' a' w', K σ' → Rel E σ' a' w' → Q .normal a' w') :
    ∀ (ord : List Nat) (fuel : Nat) (listed : Array Bool) (σ : St) (a : Act) (w : World), ord.length ≤ fuel → ordC ops tn ord listed = true → ClosedL ops listed → panyC P T md ops tn K ord σ → Rel E σ a w → wpC P ops tn Q fuel listed a w
  | [], fuel, listed, σ, a, w, _, ho, _, hk, r => by
    have hr : Region.ready .any ops listed = [] := by simpa [ordC] using ho
    cases fuel with
    | zero => exact ⟨hr, hq σ a w hk r⟩
    | succ fuel => exact ⟨fun _ => hq σ a w hk r, by rw [hr]; simp⟩
  | i :: rest, 0, _, _, _, _, hl, _, _, _, _ => by simp at hl
  | i :: rest, fuel + 1, listed, σ, a, w, hl, ho, hcl, hk, r => by
    simp only [ordC, Bool.and_eq_true] at ho
    obtain ⟨⟨h1, h2⟩, h3⟩ := ho
    have hi : i ∈ Region.ready .any ops listed := by simpa using h1
    obtain ⟨o, hio⟩ := ready_lt hi
    have hw := r.elim fun M q => q.elim fun h q => wanted_eq q.2.1 ops o
    have hka : kindAt ops i = kindOp o.op := by simp [kindAt, hio]
    simp only [panyC, hio] at hk
    have next := panyC_ok hT hE (md := md) ops tn hs hpan hq rest fuel (listed.setIfInBounds i true)
    have hl' : rest.length ≤ fuel := by simpa using hl
    by_cases hkC : kindC ops tn i ≤ 1
    · obtain ⟨_, hkk⟩ := kindC_le (ops := ops) (tn := tn) (i := i) (by omega)
      have hko : kindC ops tn i = kindOp o.op := hkk.trans hka
      have hkd : kindOp o.op ≤ 1 := by omega
      rw [if_pos hkC, Bool.and_eq_true, hko] at h2
      have hfree := Region.free_spec hio h2.1
      have hside : ∀ j oj, ops[j]? = some oj → j ≠ i → listed.getD j true = false → ((∀ e ∈ oj.after, Region.binds .any e = true → e.on ≠ i) → o.apart ops oj = true) ∧ ((kindOp o.op == 1) = true → waits ops i 6 j = false → kindC ops tn j ≤ 2) := fun j oj hj hji hun => by
        refine ⟨fun hno => hfree j oj hj hji hun hno, fun hk1 hnw => ?_⟩
        have hk1' : kindOp o.op = 1 := by simpa using hk1
        have h22 := h2.2
        simp only [hk1', Bool.or_eq_true, beq_iff_eq, List.all_eq_true, List.mem_range] at h22
        rcases h22 with q | q
        · cases q
        · have hjl : j < ops.size := (Array.getElem?_eq_some_iff.1 hj).1
          rcases q j hjl with ((q | q) | q) | q
          · rw [hun] at q; cases q
          · exact absurd q hji
          · simpa using q
          · rw [hnw] at q; cases q
      have hk2 : kindC ops tn i ≤ 2 := by omega
      by_cases hp : pwanted ops σ.tm o.guard = true
      · rw [if_pos hp, if_pos hkC] at hk
        obtain ⟨M, h, s, t, d⟩ := r
        obtain ⟨pv, v, g1, g2, g3⟩ := py_ok hT hE s.inv t o hk
        refine wpC_first (v := v) hio (noSelect_all hs) hpan (kindOp o.op == 1) fuel listed a w hside hcl hk2 hi (.inl ⟨by rw [hw]; exact hp, fun w' hx => g3 w' fun q => hx (by simpa using q)⟩) ?_
        exact next _ _ w hl' h3 (hcl.set hi) g1 ⟨M, h, by rw [St.put_H]; exact s, t.put g2 o.dst, by rw [Act.put_defers']; exact d⟩
      · rw [if_neg hp] at hk
        refine wpC_first (v := undef) hio (noSelect_all hs) hpan (kindOp o.op == 1) fuel listed a w hside hcl hk2 hi (.inr ⟨by rw [hw]; simpa using hp, rfl⟩) ?_
        exact next _ _ w hl' h3 (hcl.set hi) hk (r.skip o.dst)
    · rw [if_neg hkC] at h2
      have hrd : Region.ready .any ops listed = [i] := by simpa using h2
      refine ⟨(fun h0 => by rw [hrd] at h0; cases h0), fun j hj => ?_⟩
      rw [hrd, List.mem_singleton] at hj
      subst hj
      unfold wpOp
      simp only [hio, hw]
      by_cases hp : pwanted ops σ.tm o.guard = true
      · rw [if_pos hp, if_neg hkC] at hk
        rw [if_pos hp]
        refine .inl (pop_rel hT hE r hk fun pv σ' v w' g1 g2 g3 => ⟨fun hle => ?_, next _ _ w' hl' h3 (hcl.set hi) g1 g3⟩)
        obtain ⟨hnt, hkk⟩ := kindC_le hle
        rw [hkk, hka] at hle
        rw [hkk, hka] at hkC
        refine g2 hnt ?_
        cases hx : extOp o.op with
        | true => rfl
        | false =>
          exfalso
          have : kindOp o.op ≤ 1 ∨ kindOp o.op = 3 := by
            unfold kindOp
            split <;> first | (left; omega) | (rw [hx]; right; rfl)
          omega
      · rw [if_neg hp] at hk
        rw [if_neg hp]
        exact ⟨fun _ => Ext.refl w, next _ _ w hl' h3 (hcl.set hi) hk (r.skip o.dst)⟩
end
theorem PWp.drawC {P : Program} {T : Tys} {Q : Exit → St → Prop} {σ : St} {N : Nat} (ok : Ok P T) (md : Bool) {id : Nat} {ops : Array Oper} (tn ord : List Nat) (ho : (Region.noSelect ops && decide (ord.length ≤ ops.size) && ordC ops tn ord (Array.replicate ops.size false)) = true) (h : panyC P T md ops tn (Q .normal) ord σ) : PWp P N (.region id ops true) Q σ := fun E a w _ r => by
  simp only [Bool.and_eq_true, decide_eq_true_eq] at ho
  refine wp_region_any ok.mix (wpAny_of_C (tn := tn) _ _ _ _ ?_)
  refine panyC_ok ok.ty ok.el (md := md) ops tn ho.1.1 (fun _ _ _ q => q) (fun σ' _ _ h1 h2 => ⟨σ', h1, h2⟩) ord ops.size _ σ a _ ho.1.2 ho.2 (ClosedL.start _ _) h ?_
  obtain ⟨M, hh, s, t, d⟩ := r
  refine ⟨M, hh, s.trans (Step.ext s.inv ?_), t, d⟩
  exact (Ext.refl w).drew
section
variable {P : Program} {T : Tys} {md : Bool} {ops : Array Oper} {tn : List Nat} {K : St → Prop} {σ : St}
theorem panyC_nil (h : K σ) : panyC P T md ops tn K [] σ := h
theorem panyC_I {i : Nat} {rest : List Nat} (h : ∃ o, ops.toList[i]? = some o ∧ ∀ K' : St → Prop, (∀ σ, panyC P T md ops tn K rest σ → K' σ) →
    (if kindC ops tn i ≤ 1 then pstepD P T md ops o σ K' else if pwanted ops σ.tm o.guard then pop P T md (tn.contains i) o σ fun pv σ' => K' (σ'.put o.dst pv) else K' (σ.put o.dst (.val undef)))) : panyC P T md ops tn K (i :: rest) σ := by
  obtain ⟨o, hi, h⟩ := h
  rw [Array.getElem?_toList] at hi
  have h := h _ fun _ h => h
  simp only [panyC, hi]
  split
  · rename_i hw
    split
    · rename_i hk
      rw [if_pos hk] at h
      unfold pstepD at h
      rw [if_pos hw] at h
      have hk1 : kindOp o.op ≤ 1 := by
        have := (kindC_le (ops := ops) (tn := tn) (i := i) (by omega)).2
        have h2 : kindAt ops i = kindOp o.op := by simp [kindAt, hi]
        omega
      rw [if_pos hk1] at h
      exact h
    · rename_i hk
      rw [if_neg hk, if_pos hw] at h
      exact h
  · rename_i hw
    split at h
    · unfold pstepD at h
      rw [if_neg hw] at h
      exact h
    · first | exact h | (rw [if_neg hw] at h; exact h)
theorem panyC_w {i : Nat} {o : Oper} {K' : St → Prop} (hk : (decide (kindC ops tn i ≤ 1)) = true) (h : pstepD P T md ops o σ K') : (if kindC ops tn i ≤ 1 then pstepD P T md ops o σ K' else if pwanted ops σ.tm o.guard then pop P T md (tn.contains i) o σ fun pv σ' => K' (σ'.put o.dst pv) else K' (σ.put o.dst (.val undef))) := by
  rw [if_pos (of_decide_eq_true hk)]
  exact h
theorem panyC_s {i : Nat} {dst : Option Tmp} {op : Op} {ty : TypeId} {pos : String} {after : Array Edge} {K' : St → Prop} {cm : Bool} (hk : (decide (kindC ops tn i ≤ 1)) = false) (hc : tn.contains i = cm) (h : popO P T md cm op ty σ fun pv σ' => K' (σ'.put dst pv)) :
    (if kindC ops tn i ≤ 1 then pstepD P T md ops ⟨dst, op, ty, pos, after, none⟩ σ K' else if pwanted ops σ.tm (⟨dst, op, ty, pos, after, none⟩ : Oper).guard then pop P T md (tn.contains i) ⟨dst, op, ty, pos, after, none⟩ σ fun pv σ' => K' (σ'.put (⟨dst, op, ty, pos, after, none⟩ : Oper).dst pv) else K' (σ.put (⟨dst, op, ty, pos, after, none⟩ : Oper).dst (.val undef))) := by
  rw [if_neg (of_decide_eq_false hk)]
  simp only [pwanted, if_true]
  subst hc
  exact h
end
end Go.Proofs.Ytcbknmnlgoeniaa

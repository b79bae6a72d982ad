/- What an argument reads as: a value's cells by the shape of its type, computed from the program's table. And the frame that every law's statement shares. -/
import Derived.WalkKit
import Derived.ProofKit
import Derived.ChangeOld
import Derived.Deep.Slices
import Derived.Test.YtbenfbmoagfboaaPlain
namespace Go.Proofs.Ytbenfbmoagfboaa
open Go.RowKit Go.ChangeShapes Go.WideShapes

/-- A cell's shape. -/
inductive Sh where
  | int (k : IntKind)
  | bool
  | str
  | sl (es : List Sh)

/-- The shapes of a struct's fields, laid one behind the other. -/
def shapeFields (g : TypeId → Option (List Sh)) (P : Program) : Nat → List Field → Option (List Sh)
  | _, [] => some []
  | off, f :: fs => if f.offset = off then (g f.type).bind fun ss => if ss.length = P.cellsOf f.type then (shapeFields g P (off + ss.length) fs).map (ss ++ ·) else none else none

def shapeOf (P : Program) : Nat → TypeId → Option (List Sh)
  | 0, _ => none
  | n + 1, t =>
    match P.underlying t with
    | some .bool => some [.bool]
    | some (.int k) => some [.int k]
    | some .string => some [.str]
    | some (.slice e) => (shapeOf P n e).bind fun ss => if ss.length = P.cellsOf e then some [.sl ss] else none
    | some (.struct fs) => (shapeFields (shapeOf P n) P 0 fs.toList).bind fun ss => if ss.length = P.cellsOf t then some ss else none
    | _ => none

/-- Cells, each of its shape. 'n' bounds the depth. -/
def CellN (W : World) : Nat → Sh → Value → Prop
  | _, .int k, v => ∃ n, v = .int k n ∧ (Lit.int k n).wf = true
  | _, .bool, v => ∃ b, v = .bool b
  | _, .str, v => ∃ s : ByteArray, v = .string s ∧ s.size ≤ maxLen
  | 0, .sl _, _ => False
  | n + 1, .sl es, v => (v = .slice none 0 0) ∨ ∃ (a : Addr) (len cap : Nat), v = .slice (some a) len cap ∧ len ≤ cap ∧ cap ≤ maxLen ∧
      ∀ i, i < len → ∃ cs, All2 (CellN W n) es cs ∧ cs.length = es.length ∧ ∀ j, j < cs.length → W.cell? ((a.add (i * es.length)).add j) = cs[j]?

theorem CellN.up {W : World} : ∀ {n : Nat} {s : Sh} {v : Value}, CellN W n s v → CellN W (n + 1) s v
  | 0, .int _, _, h => h
  | 0, .bool, _, h => h
  | 0, .str, _, h => h
  | 0, .sl _, _, h => h.elim
  | _ + 1, .int _, _, h => h
  | _ + 1, .bool, _, h => h
  | _ + 1, .str, _, h => h
  | n + 1, .sl es, v, h => by
    rcases h with h | ⟨a, len, cap, h1, h2, h3, h4⟩
    · exact .inl h
    · exact .inr ⟨a, len, cap, h1, h2, h3, fun i hi => let ⟨cs, q1, q2, q3⟩ := h4 i hi; ⟨cs, All2.imp (fun _ _ => CellN.up) q1, q2, q3⟩⟩

theorem wf_bd {n : Int} (h : (Lit.int .i64 n).wf = true) : -9223372036854775808 ≤ n ∧ n ≤ 9223372036854775807 := by
  simp [Lit.wf, IntKind.min, IntKind.max, IntKind.signed, IntKind.bits] at h
  omega
theorem wf_le {n : Int} (h : (Lit.int .i64 n).wf = true) : n ≤ 9223372036854775807 := (wf_bd h).2
theorem cell_int {W : World} {n : Nat} {k : IntKind} {v : Value} (h : CellN W n (.int k) v) : ∃ i, v = .int k i ∧ (Lit.int k i).wf = true := by cases n <;> exact h
theorem cell_bool {W : World} {n : Nat} {v : Value} (h : CellN W n .bool v) : ∃ b, v = .bool b := by cases n <;> exact h
theorem cell_str {W : World} {n : Nat} {v : Value} (h : CellN W n .str v) : ∃ s : ByteArray, v = .string s ∧ s.size ≤ maxLen := by cases n <;> exact h

section
variable {H : Type} {enc : TypeId × Value → H} {P : Program} {w : World} {base : Nat} {spare : Nat → Bool} {held : Bool}

theorem fields_cells {n m : Nat} (ih : ∀ (t : TypeId) (ss : List Sh) (k : Nat) (cs : List Value) (x : DataW H × List MemPlace), shapeOf P n t = some ss → DataW.trod enc P w base spare held k t cs = some x → All2 (CellN w n) ss cs) (cs : List Value) :
    ∀ (fs : List Field) (off : Nat) (ss : List Sh), shapeFields (shapeOf P n) P off fs = some ss →
      (∀ f ∈ fs, ∃ x, DataW.trod enc P w base spare held m f.type ((cs.drop f.offset).take (P.cellsOf f.type)) = some x) →
      All2 (CellN w n) ss ((cs.drop off).take ss.length) := by
  intro fs
  induction fs with
  | nil =>
    intro off ss h _
    simp only [shapeFields, Option.some.injEq] at h
    subst h
    simp [All2]
  | cons f fs ihf =>
    intro off ss h hx
    unfold shapeFields at h
    by_cases hoff : f.offset = off
    · rw [if_pos hoff] at h
      obtain ⟨s1, h1, h2⟩ := Option.bind_eq_some_iff.1 h
      by_cases hl : s1.length = P.cellsOf f.type
      · rw [if_pos hl] at h2
        obtain ⟨s2, h3, rfl⟩ := Option.map_eq_some_iff.1 h2
        obtain ⟨x, hx1⟩ := hx f (List.mem_cons_self ..)
        have q1 := ih _ _ _ _ _ h1 hx1
        have q2 := ihf _ _ h3 (fun f' hf' => hx f' (List.mem_cons_of_mem _ hf'))
        rw [hoff, ← hl] at q1
        have e : (cs.drop off).take (s1 ++ s2).length = (cs.drop off).take s1.length ++ (cs.drop (off + s1.length)).take s2.length := by
          rw [List.length_append, List.take_add, List.drop_drop]
        rw [e]
        exact All2.append q1 q2
      · rw [if_neg hl] at h2; cases h2
    · rw [if_neg hoff] at h; cases h

theorem trod_cells : ∀ (n : Nat) (t : TypeId) (ss : List Sh) (k : Nat) (cs : List Value) (x : DataW H × List MemPlace), shapeOf P n t = some ss → DataW.trod enc P w base spare held k t cs = some x → All2 (CellN w n) ss cs := by
  intro n
  induction n with
  | zero => intro t ss k cs x h; simp [shapeOf] at h
  | succ n ih =>
    intro t ss k cs x h hx
    unfold shapeOf at h
    split at h
    · rename_i hu
      obtain ⟨b, rfl, _⟩ := DataW.trod_bool hu hx
      cases h
      exact ⟨⟨b, rfl⟩, trivial⟩
    · rename_i kk hu
      obtain ⟨i, rfl, _, hw⟩ := DataW.trod_int hu hx
      cases h
      exact ⟨⟨i, rfl, hw⟩, trivial⟩
    · rename_i hu
      obtain ⟨s, rfl, _, hs⟩ := DataW.trod_string hu hx
      cases h
      exact ⟨⟨s, rfl, hs⟩, trivial⟩
    · rename_i e hu
      obtain ⟨s1, h1, h2⟩ := Option.bind_eq_some_iff.1 h
      by_cases hl : s1.length = P.cellsOf e
      · rw [if_pos hl] at h2
        cases h2
        rcases DataW.trod_slice hu hx with ⟨rfl, _⟩ | ⟨a, len, cap, elems, rest, m, _, rfl, _, _, h3, h4, h5, h6, _⟩
        · exact ⟨.inl rfl, trivial⟩
        · refine ⟨.inr ⟨a, len, cap, rfl, h3, h4, fun i hi => ?_⟩, trivial⟩
          have h7 := h6 i hi
          rw [List.getElem?_eq_getElem (by omega)] at h7
          obtain ⟨cs', h8, h9⟩ := Option.bind_eq_some_iff.1 h7
          obtain ⟨_, g2, g3⟩ := World.cells?_some h8
          have q := ih _ _ _ _ _ h1 h9
          refine ⟨cs', q, by rw [g2, hl], fun j hj => ?_⟩
          rw [← g3 j (by omega), hl]
      · rw [if_neg hl] at h2; cases h2
    · rename_i fs hu
      obtain ⟨s1, h1, h2⟩ := Option.bind_eq_some_iff.1 h
      by_cases hl : s1.length = P.cellsOf t
      · rw [if_pos hl] at h2
        cases h2
        obtain ⟨xs, m, _, _, hlen, hxl, hf⟩ := DataW.trod_struct hu hx
        have q := fields_cells (m := m) ih cs fs.toList 0 ss h1 (fun f hf' => by
          obtain ⟨i, hi, rfl⟩ := List.getElem_of_mem hf'
          have := hf i fs.toList[i] (by simp)
          rw [this]
          exact ⟨xs[i]'(by rw [hxl]; simpa using hi), by simp⟩)
        rw [List.drop_zero, List.take_of_length_le (by omega)] at q
        exact All2.imp (fun a b => CellN.up) q
      · rw [if_neg hl] at h2; cases h2
    · cases h

theorem read_struct {n : Nat} {r : Reach} {b0 : Nat} {t : TypeId} {ss : List Sh} {fs : Array Field} {v : Value} {d : DataW H} {p : List MemPlace} (hu : P.underlying t = some (.struct fs)) (hsh : shapeOf P n t = some ss)
    (hv : Value.okWide P w r b0 t v) (h : DataW.Trod enc P w base spare held t v d p) : ∃ cs : Array Value, v = .agg cs ∧ All2 (CellN w n) ss cs.toList := by
  obtain ⟨cs, rfl, _⟩ := okWide_struct hu hv
  obtain ⟨k, hk⟩ := h
  exact ⟨cs, rfl, trod_cells _ _ _ _ _ _ hsh hk⟩
theorem read_slice {n : Nat} {r : Reach} {b0 : Nat} {t e : TypeId} {s : Sh} {v : Value} {d : DataW H} {p : List MemPlace} (hu : P.underlying t = some (.slice e)) (hsh : shapeOf P n t = some [s])
    (hv : Value.okWide P w r b0 t v) (h : DataW.Trod enc P w base spare held t v d p) : CellN w n s v := by
  obtain ⟨a, len, cap, rfl⟩ := okWide_slice hu hv
  obtain ⟨k, hk⟩ := h
  exact (trod_cells _ _ _ _ _ _ hsh hk).1
theorem read_int {r : Reach} {b0 : Nat} {t : TypeId} {q : IntKind} {v : Value} {d : DataW H} {p : List MemPlace} (hu : P.underlying t = some (.int q))
    (hv : Value.okWide P w r b0 t v) (h : DataW.Trod enc P w base spare held t v d p) : ∃ i, v = .int q i ∧ (Lit.int q i).wf = true := by
  obtain ⟨i, rfl⟩ := okWide_int hu hv
  obtain ⟨k, hk⟩ := h
  obtain ⟨j, hj, _, hw⟩ := DataW.trod_int hu hk
  simp [Value.cells] at hj
  exact ⟨i, rfl, hj ▸ hw⟩
theorem read_bool {r : Reach} {b0 : Nat} {t : TypeId} {v : Value} (hu : P.underlying t = some .bool)
    (hv : Value.okWide P w r b0 t v) : ∃ b, v = .bool b := okWide_bool hu hv
theorem read_string {r : Reach} {b0 : Nat} {t : TypeId} {v : Value} {d : DataW H} {p : List MemPlace} (hu : P.underlying t = some .string)
    (hv : Value.okWide P w r b0 t v) (h : DataW.Trod enc P w base spare held t v d p) : ∃ s : ByteArray, v = .string s ∧ s.size ≤ maxLen := by
  obtain ⟨s, rfl⟩ := okWide_string hu hv
  obtain ⟨k, hk⟩ := h
  obtain ⟨s', hj, _, hs⟩ := DataW.trod_string hu hk
  simp [Value.cells] at hj
  exact ⟨s, rfl, hj ▸ hs⟩

theorem trodAll_below {w' : World} (hl : laidOutB P = true) : ∀ (ts : List TypeId) (vs : List Value) (ds : List (DataW H)) (ps : List MemPlace), ts.all (fun t => P.readableRec t && decide (t < P.types.size)) = true →
    DataW.TrodAll enc P w 0 (fun _ => true) true ts vs ds ps → Ext w w' → DataW.TrodAll enc P w' 0 (fun b => decide (b < w.heap.size)) true ts vs ds ps := by
  intro ts
  induction ts with
  | nil =>
    intro vs ds ps _ h _
    match vs, ds, h with
    | [], [], h => exact h
  | cons t ts ih =>
    intro vs ds ps hr h hb
    match vs, ds, h with
    | v :: vs, d :: ds, ⟨p, q, h1, h2, h3⟩ =>
      simp only [List.all_cons, Bool.and_eq_true, decide_eq_true_eq] at hr
      have lt : ∀ x ∈ p, x.block < w.heap.size := by obtain ⟨m, hm⟩ := h1; exact DataW.trod_lt m _ _ _ hm
      exact ⟨p, q, Below.trod hl hr.1.1 hr.1.2 h1 hb lt, ih vs ds q (by simpa using hr.2) h2 hb, h3⟩

theorem trodAll_length : ∀ (ts : List TypeId) (vs : List Value) (ds : List (DataW H)) (ps : List MemPlace), DataW.TrodAll enc P w base spare held ts vs ds ps → ds.length = ts.length
  | [], [], [], _, _ => rfl
  | _ :: ts, _ :: vs, _ :: ds, _, ⟨_, q, _, h, _⟩ => by simp [trodAll_length ts vs ds q h]

/-- THE FRAME OF A LAW: the call returns true and of what was there nothing has turned: so the row's post holds. -/
theorem law_post {fn : Func} {f : FuncId} {s : ChangeSpec} {tb : TypeId} {apart : Bool} (hv : s.vars = []) (hres : fn.resultTypes = #[tb]) (hb : P.underlying tb = some .bool) (hlaid : laidOutB P = true)
    (hread : fn.params.toList.all (fun t => P.readableRec t && decide (t < P.types.size)) = true)
    (hspec : ∀ ds : List (DataW H), ds.length = fn.params.toList.length → (s.fn H ds).results = [.lit (.bool true)] ∧ (s.fn H ds).args = ds ∧ (s.fn H ds).vars = [])
    {args : Array Value} {ds gs : List (DataW H)} {before : List MemPlace} (hW : DataW.Whole enc P fn.params.toList s.vars apart w args.toList ds gs before)
    (h : Calls P f args w fun e W' => e = .returned (.bool true) ∧ Ext w W') :
    Calls P f args w fun e W' => ∃ v, e = .returned v ∧ s.post enc P fn apart true false false w args v W' := by
  refine h.mono fun e W' ⟨he, hx⟩ => ⟨_, he, ?_⟩
  have hW' := hW
  obtain ⟨p, q, hA, hV, rfl, hfz, hnd⟩ := hW
  rw [hv] at hV
  obtain ⟨rfl, rfl⟩ := trodVars_none hV
  obtain ⟨e1, e2, e3⟩ := hspec ds (trodAll_length _ _ _ _ hA)
  refine ⟨ds, [], _, [], p, [], hW', ?_, ?_, ?_, Below.frame hx _, fun h => by cases h⟩
  · rw [List.append_nil, e1, hres]
    exact trodAll_mk1 (shut_bool hb _)
  · rw [List.append_nil, e2]
    exact trodAll_below hlaid _ _ _ _ hread hA hx
  · rw [List.append_nil, e3, hv]
    rfl
end
end Go.Proofs.Ytbenfbmoagfboaa

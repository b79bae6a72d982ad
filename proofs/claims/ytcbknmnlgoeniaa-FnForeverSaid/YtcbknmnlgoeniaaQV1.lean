/- What the proof leans on, part 1. -/
import Derived.WalkKit
import Derived.Lib.Hide
import Derived.Deep.QuietTactic
import Derived.Deep.LoopGhost
import Derived.Deep.AppendLies
import Derived.ProofKit
import Derived.ChangeOld
import Derived.Deep.Slices
import Derived.OwnWalk
import Derived.Laws.BytesString
import Derived.Laws.Tables
import Derived.Laws.MakeOwn
import Derived.Laws.CopyRow
import Derived.Lib.ConvBytes
import Derived.OrdersHeld
import Derived.Test.YtcbknmnlgoeniaaProg
import Derived.OpenVars
import Derived.Lib.LaidTab
import Derived.Test.YtcbknmnlgoeniaaRows
import Derived.JoinedOf
import Derived.Handed
namespace Go.Proofs.Ytcbknmnlgoeniaa
set_option linter.unusedSimpArgs false
set_option linter.unusedVariables false
open Go.RowKit
theorem sd {p : Prop} (h : p := by first | assumption | omega | (simp; omega) | (simp_all; done) | (simp_all; omega)) : p := h
def inB (x lo hi : Int) : Bool := decide (lo ≤ x) && decide (x ≤ hi)
theorem inB_iff {x lo hi : Int} : inB x lo hi = true ↔ lo ≤ x ∧ x ≤ hi := by simp [inB]
theorem bcell {W w1 : World} (hb : Below W.heap.size W w1) : (∀ b o, b < W.heap.size → w1.cell? ⟨b, o, none⟩ = W.cell? ⟨b, o, none⟩) ∧ (∀ b o, b < W.heap.size → w1.frozen? ⟨b, o, none⟩ = W.frozen? ⟨b, o, none⟩) :=
  ⟨fun b o h => hb.cell (p := ⟨b, o, none⟩) h, fun b o h => hb.frozen (p := ⟨b, o, none⟩) h⟩
def Ext (w w' : World) : Prop := Below w.heap.size w w'
theorem Ext.refl (w : World) : Ext w w := Below.refl _ _
theorem Ext.size {w w' : World} (h : Ext w w') : w.heap.size ≤ w'.heap.size := Below.size h
theorem Ext.trans {a b c : World} (h : Ext a b) (k : Ext b c) : Ext a c := Below.trans h (Below.mono k h.size)
theorem Ext.alloc {a b : World} (h : Ext a b) (o : Obj) : Ext a (b.alloc o) := Below.alloc h h.size o
theorem Ext.drew {a b : World} (h : Ext a b) : Ext a b.drew := Below.drew h
theorem Ext.cells {W w1 : World} (h : Ext W w1) : (∀ b o, b < W.heap.size → w1.cell? ⟨b, o, none⟩ = W.cell? ⟨b, o, none⟩) ∧ (∀ b o, b < W.heap.size → w1.frozen? ⟨b, o, none⟩ = W.frozen? ⟨b, o, none⟩) := bcell h
theorem Ext.cellSome {w w' : World} (h : Ext w w') {b o : Nat} {v : Value} (hc : w.cell? ⟨b, o, none⟩ = some v) : w'.cell? ⟨b, o, none⟩ = some v :=
  (h.cells.1 b o (World.block_lt_of_cell? w _ hc)).trans hc
def All2 {α β : Type} (R : α → β → Prop) : List α → List β → Prop
  | [], [] => True
  | a :: l, b :: m => R a b ∧ All2 R l m
  | _, _ => False
theorem All2.length {α β : Type} {R : α → β → Prop} : ∀ {l : List α} {m : List β}, All2 R l m → l.length = m.length
  | [], [], _ => rfl
  | _ :: l, _ :: m, h => by simp [All2.length (l := l) (m := m) h.2]
theorem All2.append {α β : Type} {R : α → β → Prop} : ∀ {l l' : List α} {m m' : List β}, All2 R l m → All2 R l' m' → All2 R (l ++ l') (m ++ m')
  | [], _, [], _, _, h' => h'
  | _ :: _, _, _ :: _, _, h, h' => ⟨h.1, All2.append h.2 h'⟩
theorem All2.imp {α β : Type} {R R' : α → β → Prop} (hR : ∀ a b, R a b → R' a b) : ∀ {l : List α} {m : List β}, All2 R l m → All2 R' l m
  | [], [], _ => trivial
  | _ :: _, _ :: _, h => ⟨hR _ _ h.1, All2.imp hR h.2⟩
end Go.Proofs.Ytcbknmnlgoeniaa
namespace Go.Proofs.Ytcbknmnlgoeniaa
open Go.RowKit
def Sl {α : Type} (enc : α → List Value) (sz : Nat) (w : World) (v : Value) (xs : List α) : Prop :=
  (∃ o cap, v = .slice o 0 cap ∧ xs = []) ∨
  (∃ b off cap, v = .slice (some ⟨b, off, none⟩) xs.length cap ∧ 0 < xs.length ∧ xs.length ≤ cap ∧ cap ≤ maxLen ∧ b < w.heap.size ∧
    ∀ i x, xs[i]? = some x → ∀ j, j < sz → w.cell? ⟨b, off + i * sz + j, none⟩ = (enc x)[j]?)
theorem Sl.len {α : Type} {enc : α → List Value} {sz : Nat} {w : World} {v : Value} {xs : List α} (h : Sl enc sz w v xs) : xs.length ≤ maxLen := by
  rcases h with ⟨o, cap, _, rfl⟩ | ⟨b, off, cap, h1, h2, h3, h4, h5, h6⟩
  · simp
  · omega
end Go.Proofs.Ytcbknmnlgoeniaa
namespace Go.Proofs.Ytcbknmnlgoeniaa
open Go.RowKit
theorem Ext.of_grownBy {w w' : World} (h : w.grownBy w' none) : Ext w w' := ⟨h.os, h.tape, h.output, h.size, fun k hk => h.block k hk (by simp)⟩
section
variable {α : Type} {enc : α → List Value} {sz : Nat} {e : TypeId} {w : World} {g n c k : Nat} {xs : List α}
end
theorem divide {sz o : Nat} (h : 0 < sz) : ∃ i j, o = i * sz + j ∧ j < sz := ⟨o / sz, o % sz, by rw [Nat.mul_comm]; exact (Nat.div_add_mod o sz).symm, Nat.mod_lt _ h⟩
section
variable {α : Type} {enc : α → List Value} {sz : Nat} {e : TypeId} {w : World} {g n : Nat} {xs : List α}
theorem own_slice {base m : Nat} {v : Value} {ys : List Value} (h : w.ownsRow base e sz v m ys) : ∃ o l c, v = .slice o l c := by
  rcases h.2 with ⟨rfl, _⟩ | ⟨g, cap, cur, rfl, _⟩
  · exact ⟨_, _, _, rfl⟩
  · exact ⟨_, _, _, rfl⟩
theorem grownBy_refl (w : World) (row : Option Nat) : w.grownBy w row := ⟨rfl, rfl, rfl, Nat.le_refl _, fun _ _ _ => rfl⟩
end
end Go.Proofs.Ytcbknmnlgoeniaa
namespace Go.Proofs.Ytcbknmnlgoeniaa
open Go.RowKit
section
variable {α : Type} {enc : α → List Value} {sz : Nat} {e : TypeId} {w : World} {base : Nat} {vs : List Value} {xss : List (List α)}
end
end Go.Proofs.Ytcbknmnlgoeniaa
namespace Go.Proofs.Ytcbknmnlgoeniaa
open Go.RowKit Go.Builtin
section
variable {α : Type} {enc : α → List Value} {P : Program} (w : World)
end
end Go.Proofs.Ytcbknmnlgoeniaa
namespace Go.Proofs.Ytcbknmnlgoeniaa
open Go.RowKit Go.ChangeShapes Go.WideShapes
inductive Sh where
  | int (k : IntKind)
  | bool
  | str
  | sl (es : List Sh)
def shapeFields (g : TypeId → Option (List Sh)) (P : Program) : Nat → List Field → Option (List Sh)
  | _, [] => some []
  | off, f :: fs => if f.offset = off then (g f.type).bind fun ss => if ss.length = P.cellsOf f.type then (shapeFields g P (off + ss.length) fs).map (ss ++ ·) else none else none
def shapeOf (P : Program) : Nat → TypeId → Option (List Sh)
  | 0, _ => none
  | n + 1, t =>
    match P.underlying t with
    | some .bool => some [.bool]
    | some (.int k) => some [.int k]
    | some .string => some [.str]
    | some (.slice e) => (shapeOf P n e).bind fun ss => if ss.length = P.cellsOf e then some [.sl ss] else none
    | some (.struct fs) => (shapeFields (shapeOf P n) P 0 fs.toList).bind fun ss => if ss.length = P.cellsOf t then some ss else none
    | _ => none
def CellN (W : World) : Nat → Sh → Value → Prop
  | _, .int k, v => ∃ n, v = .int k n ∧ (Lit.int k n).wf = true
  | _, .bool, v => ∃ b, v = .bool b
  | _, .str, v => ∃ s : ByteArray, v = .string s ∧ s.size ≤ maxLen
  | 0, .sl _, _ => False
  | n + 1, .sl es, v => (v = .slice none 0 0) ∨ ∃ (a : Addr) (len cap : Nat), v = .slice (some a) len cap ∧ len ≤ cap ∧ cap ≤ maxLen ∧
      ∀ i, i < len → ∃ cs, All2 (CellN W n) es cs ∧ cs.length = es.length ∧ ∀ j, j < cs.length → W.cell? ((a.add (i * es.length)).add j) = cs[j]?
theorem CellN.up {W : World} : ∀ {n : Nat} {s : Sh} {v : Value}, CellN W n s v → CellN W (n + 1) s v
  | 0, .int _, _, h => h
  | 0, .bool, _, h => h
  | 0, .str, _, h => h
  | 0, .sl _, _, h => h.elim
  | _ + 1, .int _, _, h => h
  | _ + 1, .bool, _, h => h
  | _ + 1, .str, _, h => h
  | n + 1, .sl es, v, h => by
    rcases h with h | ⟨a, len, cap, h1, h2, h3, h4⟩
    · exact .inl h
    · exact .inr ⟨a, len, cap, h1, h2, h3, fun i hi => let ⟨cs, q1, q2, q3⟩ := h4 i hi; ⟨cs, All2.imp (fun _ _ => CellN.up) q1, q2, q3⟩⟩
theorem cell_int {W : World} {n : Nat} {k : IntKind} {v : Value} (h : CellN W n (.int k) v) : ∃ i, v = .int k i ∧ (Lit.int k i).wf = true := by cases n <;> exact h
section
variable {H : Type} {enc : TypeId × Value → H} {P : Program} {w : World} {base : Nat} {spare : Nat → Bool} {held : Bool}
theorem fields_cells {n m : Nat} (ih : ∀ (t : TypeId) (ss : List Sh) (k : Nat) (cs : List Value) (x : DataW H × List MemPlace), shapeOf P n t = some ss → DataW.trod enc P w base spare held k t cs = some x → All2 (CellN w n) ss cs) (cs : List Value) :
    ∀ (fs : List Field) (off : Nat) (ss : List Sh), shapeFields (shapeOf P n) P off fs = some ss →
      (∀ f ∈ fs, ∃ x, DataW.trod enc P w base spare held m f.type ((cs.drop f.offset).take (P.cellsOf f.type)) = some x) →
      All2 (CellN w n) ss ((cs.drop off).take ss.length) := by
  intro fs
  induction fs with
  | nil =>
    intro off ss h _
    simp only [shapeFields, Option.some.injEq] at h
    subst h
    simp [All2]
  | cons f fs ihf =>
    intro off ss h hx
    unfold shapeFields at h
    by_cases hoff : f.offset = off
    · rw [if_pos hoff] at h
      obtain ⟨s1, h1, h2⟩ := Option.bind_eq_some_iff.1 h
      by_cases hl : s1.length = P.cellsOf f.type
      · rw [if_pos hl] at h2
        obtain ⟨s2, h3, rfl⟩ := Option.map_eq_some_iff.1 h2
        obtain ⟨x, hx1⟩ := hx f (List.mem_cons_self ..)
        have q1 := ih _ _ _ _ _ h1 hx1
        have q2 := ihf _ _ h3 (fun f' hf' => hx f' (List.mem_cons_of_mem _ hf'))
        rw [hoff, ← hl] at q1
        have e : (cs.drop off).take (s1 ++ s2).length = (cs.drop off).take s1.length ++ (cs.drop (off + s1.length)).take s2.length := by
          rw [List.length_append, List.take_add, List.drop_drop]
        rw [e]
        exact All2.append q1 q2
      · rw [if_neg hl] at h2; cases h2
    · rw [if_neg hoff] at h; cases h
theorem trod_cells : ∀ (n : Nat) (t : TypeId) (ss : List Sh) (k : Nat) (cs : List Value) (x : DataW H × List MemPlace), shapeOf P n t = some ss → DataW.trod enc P w base spare held k t cs = some x → All2 (CellN w n) ss cs := by
  intro n
  induction n with
  | zero => intro t ss k cs x h; simp [shapeOf] at h
  | succ n ih =>
    intro t ss k cs x h hx
    unfold shapeOf at h
    split at h
    · rename_i hu
      obtain ⟨b, rfl, _⟩ := DataW.trod_bool hu hx
      cases h
      exact ⟨⟨b, rfl⟩, trivial⟩
    · rename_i kk hu
      obtain ⟨i, rfl, _, hw⟩ := DataW.trod_int hu hx
      cases h
      exact ⟨⟨i, rfl, hw⟩, trivial⟩
    · rename_i hu
      obtain ⟨s, rfl, _, hs⟩ := DataW.trod_string hu hx
      cases h
      exact ⟨⟨s, rfl, hs⟩, trivial⟩
    · rename_i e hu
      obtain ⟨s1, h1, h2⟩ := Option.bind_eq_some_iff.1 h
      by_cases hl : s1.length = P.cellsOf e
      · rw [if_pos hl] at h2
        cases h2
        rcases DataW.trod_slice hu hx with ⟨rfl, _⟩ | ⟨a, len, cap, elems, rest, m, _, rfl, _, _, h3, h4, h5, h6, _⟩
        · exact ⟨.inl rfl, trivial⟩
        · refine ⟨.inr ⟨a, len, cap, rfl, h3, h4, fun i hi => ?_⟩, trivial⟩
          have h7 := h6 i hi
          rw [List.getElem?_eq_getElem (by omega)] at h7
          obtain ⟨cs', h8, h9⟩ := Option.bind_eq_some_iff.1 h7
          obtain ⟨_, g2, g3⟩ := World.cells?_some h8
          have q := ih _ _ _ _ _ h1 h9
          refine ⟨cs', q, by rw [g2, hl], fun j hj => ?_⟩
          rw [← g3 j (by omega), hl]
      · rw [if_neg hl] at h2; cases h2
    · rename_i fs hu
      obtain ⟨s1, h1, h2⟩ := Option.bind_eq_some_iff.1 h
      by_cases hl : s1.length = P.cellsOf t
      · rw [if_pos hl] at h2
        cases h2
        obtain ⟨xs, m, _, _, hlen, hxl, hf⟩ := DataW.trod_struct hu hx
        have q := fields_cells (m := m) ih cs fs.toList 0 ss h1 (fun f hf' => by
          obtain ⟨i, hi, rfl⟩ := List.getElem_of_mem hf'
          have := hf i fs.toList[i] (by simp)
          rw [this]
          exact ⟨xs[i]'(by rw [hxl]; simpa using hi), by simp⟩)
        rw [List.drop_zero, List.take_of_length_le (by omega)] at q
        exact All2.imp (fun a b => CellN.up) q
      · rw [if_neg hl] at h2; cases h2
    · cases h
theorem read_slice {n : Nat} {r : Reach} {b0 : Nat} {t e : TypeId} {s : Sh} {v : Value} {d : DataW H} {p : List MemPlace} (hu : P.underlying t = some (.slice e)) (hsh : shapeOf P n t = some [s])
    (hv : Value.okWide P w r b0 t v) (h : DataW.Trod enc P w base spare held t v d p) : CellN w n s v := by
  obtain ⟨a, len, cap, rfl⟩ := okWide_slice hu hv
  obtain ⟨k, hk⟩ := h
  exact (trod_cells _ _ _ _ _ _ hsh hk).1
theorem trodAll_below {w' : World} (hl : laidOutB P = true) : ∀ (ts : List TypeId) (vs : List Value) (ds : List (DataW H)) (ps : List MemPlace), ts.all (fun t => P.readableRec t && decide (t < P.types.size)) = true →
    DataW.TrodAll enc P w 0 (fun _ => true) true ts vs ds ps → Ext w w' → DataW.TrodAll enc P w' 0 (fun b => decide (b < w.heap.size)) true ts vs ds ps := by
  intro ts
  induction ts with
  | nil =>
    intro vs ds ps _ h _
    match vs, ds, h with
    | [], [], h => exact h
  | cons t ts ih =>
    intro vs ds ps hr h hb
    match vs, ds, h with
    | v :: vs, d :: ds, ⟨p, q, h1, h2, h3⟩ =>
      simp only [List.all_cons, Bool.and_eq_true, decide_eq_true_eq] at hr
      have lt : ∀ x ∈ p, x.block < w.heap.size := by obtain ⟨m, hm⟩ := h1; exact DataW.trod_lt m _ _ _ hm
      exact ⟨p, q, Below.trod hl hr.1.1 hr.1.2 h1 hb lt, ih vs ds q (by simpa using hr.2) h2 hb, h3⟩
theorem trodAll_length : ∀ (ts : List TypeId) (vs : List Value) (ds : List (DataW H)) (ps : List MemPlace), DataW.TrodAll enc P w base spare held ts vs ds ps → ds.length = ts.length
  | [], [], [], _, _ => rfl
  | _ :: ts, _ :: vs, _ :: ds, _, ⟨_, q, _, h, _⟩ => by simp [trodAll_length ts vs ds q h]
theorem law_post {fn : Func} {f : FuncId} {s : ChangeSpec} {tb : TypeId} {apart : Bool} (hv : s.vars = []) (hres : fn.resultTypes = #[tb]) (hb : P.underlying tb = some .bool) (hlaid : laidOutB P = true)
    (hread : fn.params.toList.all (fun t => P.readableRec t && decide (t < P.types.size)) = true)
    (hspec : ∀ ds : List (DataW H), ds.length = fn.params.toList.length → (s.fn H ds).results = [.lit (.bool true)] ∧ (s.fn H ds).args = ds ∧ (s.fn H ds).vars = [])
    {args : Array Value} {ds gs : List (DataW H)} {before : List MemPlace} (hW : DataW.Whole enc P fn.params.toList s.vars apart w args.toList ds gs before)
    (h : Calls P f args w fun e W' => e = .returned (.bool true) ∧ Ext w W') :
    Calls P f args w fun e W' => ∃ v, e = .returned v ∧ s.post enc P fn apart true false false w args v W' := by
  refine h.mono fun e W' ⟨he, hx⟩ => ⟨_, he, ?_⟩
  have hW' := hW
  obtain ⟨p, q, hA, hV, rfl, hfz, hnd⟩ := hW
  rw [hv] at hV
  obtain ⟨rfl, rfl⟩ := trodVars_none hV
  obtain ⟨e1, e2, e3⟩ := hspec ds (trodAll_length _ _ _ _ hA)
  refine ⟨ds, [], _, [], p, [], hW', ?_, ?_, ?_, Below.frame hx _, fun h => by cases h⟩
  · rw [List.append_nil, e1, hres]
    exact trodAll_mk1 (shut_bool hb _)
  · rw [List.append_nil, e2]
    exact trodAll_below hlaid _ _ _ _ hread hA hx
  · rw [List.append_nil, e3, hv]
    rfl
end
end Go.Proofs.Ytcbknmnlgoeniaa
namespace Go.Proofs.Ytcbknmnlgoeniaa
open Go.RowKit
theorem add_none (b off n : Nat) : (⟨b, off, none⟩ : Addr).add n = ⟨b, off + n, none⟩ := by
  unfold Addr.add
  split
  · rename_i h; subst h; rfl
  · rfl
theorem sl_read {α : Type} {enc : α → List Value} {ok : α → Prop} {W : World} {n : Nat} {es : List Sh} {v : Value} (hes : 0 < es.length)
    (hdec : ∀ cs, All2 (CellN W n) es cs → ∃ a, cs = enc a ∧ ok a) (h : CellN W (n + 1) (.sl es) v) : ∃ xs, Sl enc es.length W v xs ∧ ∀ x ∈ xs, ok x := by
  rcases h with rfl | ⟨⟨b, off, spot⟩, len, cap, rfl, h1, h2, h3⟩
  · exact ⟨[], .inl ⟨_, _, rfl, rfl⟩, by simp⟩
  · by_cases hl : len = 0
    · subst hl
      exact ⟨[], .inl ⟨_, _, rfl, rfl⟩, by simp⟩
    · have h4 : ∀ i, i < len → ∃ a : α, ok a ∧ ∀ j, j < es.length → W.cell? (((⟨b, off, spot⟩ : Addr).add (i * es.length)).add j) = (enc a)[j]? ∧ (enc a).length = es.length := fun i hi => by
        obtain ⟨cs, q1, q2, q3⟩ := h3 i hi
        obtain ⟨a, rfl, ha⟩ := hdec cs q1
        exact ⟨a, ha, fun j hj => ⟨q3 j (by omega), q2⟩⟩
      obtain ⟨a0, _, ha0⟩ := h4 0 (by omega)
      have e0 := (ha0 0 hes).1
      have hlen0 := (ha0 0 hes).2
      rw [List.getElem?_eq_getElem (by omega)] at e0
      have hspot : spot = none := by
        have := World.cell?_spot e0
        simpa [Addr.add] using this
      subst hspot
      have hb : b < W.heap.size := by
        have := World.block_lt_of_cell? W _ e0
        simpa [Addr.add] using this
      have : Inhabited α := ⟨a0⟩
      obtain ⟨f, hf⟩ := Go.Deep.choose_lt h4
      refine ⟨(List.range len).map f, .inr ⟨b, off, cap, by simp, by simp; omega, by simpa using h1, h2, hb, fun i x hx j hj => ?_⟩, fun x hx => ?_⟩
      · have hi : i < len := by have := (List.getElem?_eq_some_iff.1 hx).1; simpa using this
        have hx' : x = f i := by
          simp [hi] at hx
          exact hx.symm
        subst hx'
        have := ((hf i hi).2 j hj).1
        rw [add_none, add_none] at this
        exact this
      · obtain ⟨i, hi, rfl⟩ := List.mem_map.1 hx
        exact (hf i (List.mem_range.1 hi)).1
end Go.Proofs.Ytcbknmnlgoeniaa
namespace Go.Proofs.Ytcbknmnlgoeniaa
open Go.RowKit
inductive D where
  | int (n : Int)
  | bool (b : Bool)
  | str (s : ByteArray)
  | sl (e : TypeId) (sz n : Nat) (es : List D)
section
variable {w : World} {ds ds' : List D} {vs vs' : List Value}
variable {e : TypeId} {sz n : Nat} {es : List D} {v : Value}
end
end Go.Proofs.Ytcbknmnlgoeniaa
namespace Go.Proofs.Ytcbknmnlgoeniaa
open Go.RowKit
inductive Ows (w : World) : List D → List Value → List Nat → Prop
  | nil : Ows w [] [] []
  | int {ds vs F} (n : Int) : Ows w ds vs F → Ows w (.int n :: ds) (.int .i64 n :: vs) F
  | bool {ds vs F} (b : Bool) : Ows w ds vs F → Ows w (.bool b :: ds) (.bool b :: vs) F
  | str {ds vs F} (s : ByteArray) : Ows w ds vs F → Ows w (.str s :: ds) (.string s :: vs) F
  | sl {ds vs es us F G} (e sz n v) : w.ownsRow 0 e sz v n us → Ows w es us G → Ows w ds vs F → Ows w (.sl e sz n es :: ds) (v :: vs) (v.ownBlock.toList ++ (G ++ F))
section
variable {w w' : World} {ds ds' : List D} {vs vs' : List Value} {F G : List Nat}
end
def Obj (w : World) (lo hi : Nat) (ds : List D) (vs : List Value) : Prop := ∃ F, Ows w ds vs F ∧ F.Nodup ∧ ∀ k ∈ F, lo ≤ k ∧ k < hi
section
variable {w w' : World} {ds ds' : List D} {vs vs' : List Value} {lo hi : Nat}
end
end Go.Proofs.Ytcbknmnlgoeniaa
namespace Go.Proofs.Ytcbknmnlgoeniaa
open Go.RowKit
section
variable {w w' : World} {ds ds' : List D} {vs vs' : List Value} {F G H : List Nat} {b off j : Nat}
end
end Go.Proofs.Ytcbknmnlgoeniaa
namespace Go.Proofs.Ytcbknmnlgoeniaa
open Go.RowKit
section
variable {w w' : World} {F : List Nat} {e : TypeId} {sz n g c : Nat} {es : List D} {k0 kk : Int} {o : Nat}
end
section
variable {w w' : World} {lo hi mid : Nat} {e : TypeId} {sz n g c : Nat} {es1 es2 row row' : List D} {rv : List Value}
end
end Go.Proofs.Ytcbknmnlgoeniaa
namespace Go.Proofs.Ytcbknmnlgoeniaa
open Go.RowKit
theorem run_append_at {P : Program} {w : World} (t ty e : TypeId) (i : TypeInfo) (z : Value) (size bytes : Nat) (ht : P.underlying t = some (.slice e)) (hi : P.info? e = some i) (hz : i.zero = some z)
    (hsize : i.size = size) (hby : i.bytes = bytes) (hzs : z.cells.size = size) (hsz : 0 < size) (v : Value) (n : Nat) (xs : List Value) (hown : w.ownsRow 0 e size v n xs)
    (a : Addr) (m c : Nat) (news : List Value) (hl : news.length = m * size) (hnews : ∀ j u, news[j]? = some u → w.cell? (a.add j) = some u) (h1 : ∀ u ∈ news, u.oneCell' = true)
    (h63 : n + m ≤ maxLen) (hbytes : (n + m) * bytes ≤ 140737488355328) :
    ∃ v' w', (Builtin.append_ #[t, t] ty #[v, .slice (some a) m c]).run P w = .ok v' w' ∧ w'.ownsRow 0 e size v' (n + m) (xs ++ news) ∧ w.grownBy w' v.ownBlock ∧
      (v' = .slice none 0 0 ↔ v = .slice none 0 0 ∧ m = 0) ∧ ∀ k, v'.ownBlock = some k → v.ownBlock = some k ∨ w.heap.size ≤ k := by
  obtain ⟨v', w', hr, h2, h3, h4⟩ := run_append_own (P := P) (w := w) 0 t ty e i z size bytes ht hi hz hsize hby hzs hsz v n xs hown a m c news hl hnews h1 h63 hbytes (Nat.zero_le _)
  refine ⟨v', w', hr, h2, h3, h4, fun k hk => ?_⟩
  subst hsize
  subst hby
  have hmax : n + m ≤ 9223372036854775807 := by simp only [maxLen] at h63; omega
  rcases hown.2 with ⟨rfl, rfl⟩ | ⟨g, cap, cur, rfl, _, hg, _, _, hcs, _⟩
  · right
    by_cases hm : m = 0
    · rw [h4.2 ⟨rfl, hm⟩] at hk
      simp [Value.ownBlock] at hk
    · have hb : m * i.bytes ≤ 140737488355328 := by simpa using hbytes
      have q := run_append_nil (P := P) w t ty e i z ht hi hz a m c news hl hnews (by omega) (by omega) (by omega)
      rw [hr] at q
      cases q
      simp [Value.ownBlock] at hk
      omega
  · by_cases hroom : n + m ≤ cap
    · left
      have q := run_append_room (P := P) w t ty e i ht hi g n cap cur hg a m c news hl hnews h1 hroom (by rw [hl, hcs, ← Nat.add_mul]; exact Nat.mul_le_mul_right _ hroom)
      rw [hr] at q
      cases q
      exact hk
    · right
      have q := run_append_grow (P := P) w t ty e i z ht hi hz ⟨g, 0, none⟩ n cap xs hown.1 (hown.cells (g := g) rfl) a m c news hl hnews (by omega) (by omega) (growslice_fits (by omega) hbytes)
      rw [hr] at q
      cases q
      simp [Value.ownBlock] at hk
      omega
end Go.Proofs.Ytcbknmnlgoeniaa
namespace Go.Proofs.Ytcbknmnlgoeniaa
set_option linter.unusedSimpArgs false
set_option linter.unusedVariables false
open Go.RowKit
inductive PV where
  | val (x : Value)
  | sl (sz : Nat) (es : List (List PV))
  | agg (fs : List PV)
  | tup (fs : List PV)
  | ptr (b o : Nat)
  | own (b : Nat)
  | eptr (cs : List PV) (o : Nat)
  | optr (b sz i o : Nat)
  | clo (f : FuncId) (caps : List PV)
  deriving Inhabited
inductive Blk where
  | box (cs : List PV)
  | row (e : TypeId) (sz : Nat) (es : List (List PV))
abbrev Hp := List (Option Blk)
abbrev Mem := Nat → Nat → Option Value
abbrev Home := Nat → Option Value
structure St where
  tm : List PV
  H : Hp
inductive VR (M : Mem) : Home → PV → Value → Prop
  | val {h : Home} (x : Value) : VR M h (.val x) x
  | sl0 {h : Home} (sz : Nat) (o : Option Addr) (c : Nat) : VR M h (.sl sz []) (.slice o 0 c)
  | sl {h : Home} (sz : Nat) (es : List (List PV)) (b off cap : Nat) (f : Nat → Nat → Value) : 0 < es.length → es.length ≤ cap → cap ≤ maxLen → (∀ row ∈ es, row.length = sz) →
      (∀ (i j : Nat) (row : List PV) (pv : PV), es[i]? = some row → row[j]? = some pv → M b (off + i * sz + j) = some (f i j)) →
      (∀ (i j : Nat) (row : List PV) (pv : PV), es[i]? = some row → row[j]? = some pv → VR M (fun _ => none) pv (f i j)) → VR M h (.sl sz es) (.slice (some ⟨b, off, none⟩) es.length cap)
  | agg {h : Home} (fs : List PV) (vs : Array Value) : fs.length = vs.size → (∀ (i : Nat) (pv : PV) (v : Value), fs[i]? = some pv → vs[i]? = some v → VR M h pv v) → VR M h (.agg fs) (.agg vs)
  | tup {h : Home} (fs : List PV) (vs : Array Value) : fs.length = vs.size → (∀ (i : Nat) (pv : PV) (v : Value), fs[i]? = some pv → vs[i]? = some v → VR M h pv v) → VR M h (.tup fs) (.tuple vs)
  | ptr {h : Home} (b o k : Nat) : h b = some (.pointer (some ⟨k, 0, none⟩)) → VR M h (.ptr b o) (.pointer (some ⟨k, o, none⟩))
  | own {h : Home} (b : Nat) (o : Option Addr) (n c : Nat) : h b = some (.slice o n c) → VR M h (.own b) (.slice o n c)
  | eptr {h : Home} (cs : List PV) (o b off : Nat) (f : Nat → Value) : (∀ (j : Nat) (pv : PV), cs[j]? = some pv → M b (off + j) = some (f j)) → (∀ (j : Nat) (pv : PV), cs[j]? = some pv → VR M (fun _ => none) pv (f j)) → VR M h (.eptr cs o) (.pointer (some ⟨b, off + o, none⟩))
  | optr {h : Home} (b sz i o g n c : Nat) : h b = some (.slice (some ⟨g, 0, none⟩) n c) → VR M h (.optr b sz i o) (.pointer (some ⟨g, i * sz + o, none⟩))
  | clo {h : Home} (f : FuncId) (caps : List PV) (vs : Array Value) : caps.length = vs.size → (∀ (i : Nat) (pv : PV) (v : Value), caps[i]? = some pv → vs[i]? = some v → VR M h pv v) → VR M h (.clo f caps) (.func (.func f) #[] vs)
def MLe (M M' : Mem) : Prop := ∀ b o v, M b o = some v → M' b o = some v
def HLe (h h' : Home) : Prop := ∀ b v, h b = some v → h' b = some v
theorem MLe.refl (M : Mem) : MLe M M := fun _ _ _ h => h
theorem HLe.refl (h : Home) : HLe h h := fun _ _ k => k
theorem MLe.trans {a b c : Mem} (h : MLe a b) (k : MLe b c) : MLe a c := fun x y v q => k x y v (h x y v q)
theorem HLe.trans {a b c : Home} (h : HLe a b) (k : HLe b c) : HLe a c := fun x v q => k x v (h x v q)
theorem VR.mono {M M' : Mem} {h h' : Home} {pv : PV} {v : Value} (r : VR M h pv v) (hM : MLe M M') (hh : HLe h h') : VR M' h' pv v := by
  induction r generalizing h' with
  | val x => exact .val x
  | sl0 sz o c => exact .sl0 sz o c
  | sl sz es b off cap f h1 h2 h3 h4 h5 _ ih => exact .sl sz es b off cap f h1 h2 h3 h4 (fun i j row pv q1 q2 => hM _ _ _ (h5 i j row pv q1 q2)) fun i j row pv q1 q2 => ih i j row pv q1 q2 (.refl _)
  | agg fs vs h1 _ ih => exact .agg fs vs h1 fun i pv v q1 q2 => ih i pv v q1 q2 hh
  | tup fs vs h1 _ ih => exact .tup fs vs h1 fun i pv v q1 q2 => ih i pv v q1 q2 hh
  | ptr b o k h1 => exact .ptr b o k (hh _ _ h1)
  | own b o n c h1 => exact .own b o n c (hh _ _ h1)
  | eptr cs o b off f h1 _ ih => exact .eptr cs o b off f (fun j pv q => hM _ _ _ (h1 j pv q)) fun j pv q => ih j pv q (.refl _)
  | optr b sz i o g n c h1 => exact .optr b sz i o g n c (hh _ _ h1)
  | clo f caps vs h1 _ ih => exact .clo f caps vs h1 fun i pv v q1 q2 => ih i pv v q1 q2 hh
theorem HLe.none {h : Home} : HLe (fun _ => none) h := fun _ _ q => by cases q
def hblk : Value → Option Nat
  | .pointer (some a) => some a.block
  | .slice (some a) _ _ => some a.block
  | _ => none
theorem hblk_own {v : Value} {o : Option Addr} {n c : Nat} (h : v = .slice o n c) : hblk v = v.ownBlock := by subst h; cases o <;> rfl
def Homes (h : Home) (H : Hp) (k : Nat) : Prop := ∃ b blk v, H[b]? = some (some blk) ∧ h b = some v ∧ hblk v = some k
def BR (M : Mem) (h : Home) (w : World) (v : Value) : Blk → Prop
  | .box cs => ∃ k us t, v = .pointer (some ⟨k, 0, none⟩) ∧ w.heap[k]? = some (.cells us t (0, 0)) ∧ us.size = cs.length ∧ (∀ u ∈ us, u.oneCell' = true) ∧ ∀ (j : Nat) (pv : PV) (u : Value), cs[j]? = some pv → us[j]? = some u → VR M h pv u
  | .row e sz es => (∃ o n c, v = .slice o n c) ∧ ∃ us, w.ownsRow 0 e sz v es.length us ∧ (∀ row ∈ es, row.length = sz) ∧ (∀ u ∈ us, u.oneCell' = true) ∧ ∀ (i j : Nat) (row : List PV) (pv : PV) (u : Value), es[i]? = some row → row[j]? = some pv → us[i * sz + j]? = some u → VR M h pv u
def globL : List Int := []
def Glob (M : Mem) : Prop := ∀ (i : Nat) (n : Int), globL[i]? = some n → M 0 i = some (.int .u32 n)
theorem Glob.mono {M M' : Mem} (g : Glob M) (h : MLe M M') : Glob M' := fun i n q => h _ _ _ (g i n q)
structure Inv (M : Mem) (h : Home) (H : Hp) (w : World) : Prop where
  mem : ∀ b o v, M b o = some v → w.cell? ⟨b, o, none⟩ = some v
  one : ∀ b o v, M b o = some v → v.oneCell' = true
  blk : ∀ b B, H[b]? = some (some B) → ∃ v, h b = some v ∧ BR M h w v B
  sep : ∀ k, Homes h H k → ∀ o, M k o = none
  inj : ∀ b b' B B' v v' k, H[b]? = some (some B) → H[b']? = some (some B') → h b = some v → h b' = some v' → hblk v = some k → hblk v' = some k → b = b'
  len : ∀ b v, h b = some v → b < H.length
  glob : Glob M
structure ChgS (A : Nat → Prop) (w w' : World) : Prop where
  os : w'.os = w.os
  tape : w'.tape = w.tape
  output : w'.output = w.output
  size : w.heap.size ≤ w'.heap.size
  block : ∀ k, k < w.heap.size → ¬ A k → w'.heap[k]? = w.heap[k]?
theorem ChgS.refl {A : Nat → Prop} {w : World} : ChgS A w w := ⟨rfl, rfl, rfl, Nat.le_refl _, fun _ _ _ => rfl⟩
theorem ChgS.after {A B : Nat → Prop} {a b c : World} (h : ChgS A a b) (k : ChgS B b c) (hB : ∀ i, B i → A i ∨ a.heap.size ≤ i) : ChgS A a c :=
  ⟨k.os.trans h.os, k.tape.trans h.tape, k.output.trans h.output, Nat.le_trans h.size k.size, fun i hi hn => (k.block i (Nat.lt_of_lt_of_le hi h.size) fun hb => by rcases hB i hb with q | q; exact hn q; omega).trans (h.block i hi hn)⟩
theorem Ext.chgS {A : Nat → Prop} {a b : World} (h : Ext a b) : ChgS A a b := ⟨Below.os h, Below.tape h, Below.output h, h.size, fun k hk _ => Below.block h k hk⟩
theorem ChgS.ext {a b : World} (h : ChgS (fun _ => False) a b) : Ext a b := ⟨h.os, h.tape, h.output, h.size, fun k hk => h.block k hk (fun q => q)⟩
theorem BR.lt {M : Mem} {h : Home} {w : World} {v : Value} {B : Blk} {k : Nat} (r : BR M h w v B) (hk : hblk v = some k) : k < w.heap.size := by
  cases B with
  | box cs => obtain ⟨k', us, t, rfl, q, _⟩ := r; simp [hblk] at hk; subst hk; exact (Array.getElem?_eq_some_iff.1 q).1
  | row e sz es => obtain ⟨⟨o, n, c, hv⟩, us, q, _⟩ := r; exact (q.lt k (by rw [← hblk_own hv]; exact hk)).2
theorem BR.mono {M M' : Mem} {h h' : Home} {w w' : World} {v : Value} {B : Blk} (r : BR M h w v B) (hM : MLe M M') (hh : HLe h h') (hw : ∀ k, hblk v = some k → w'.heap[k]? = w.heap[k]?) : BR M' h' w' v B := by
  cases B with
  | box cs => obtain ⟨k, us, t, rfl, q, q1, q1', q2⟩ := r; exact ⟨k, us, t, rfl, by rw [hw k rfl]; exact q, q1, q1', fun j pv u a b => (q2 j pv u a b).mono hM hh⟩
  | row e sz es =>
    obtain ⟨⟨o, n, c, hv⟩, us, q, q1, q1', q2⟩ := r
    refine ⟨⟨o, n, c, hv⟩, us, ?_, q1, q1', fun i j row pv u a b d => (q2 i j row pv u a b d).mono hM hh⟩
    refine ⟨q.1, ?_⟩
    rcases q.2 with h0 | ⟨g, cap, cur, e1, e2, e3, e4⟩
    · exact .inl h0
    · exact .inr ⟨g, cap, cur, e1, e2, by rw [hw g (by rw [e1]; rfl)]; exact e3, e4⟩
theorem Inv.home_lt {M : Mem} {h : Home} {H : Hp} {w : World} (I : Inv M h H w) {k : Nat} (hk : Homes h H k) : k < w.heap.size := by
  obtain ⟨b, blk, v, h1, h2, h3⟩ := hk
  obtain ⟨v', q1, q2⟩ := I.blk b blk h1
  rw [h2] at q1
  cases q1
  exact q2.lt h3
theorem Inv.mem_lt {M : Mem} {h : Home} {H : Hp} {w : World} (I : Inv M h H w) {b o : Nat} {v : Value} (hv : M b o = some v) : b < w.heap.size := World.block_lt_of_cell? w ⟨b, o, none⟩ (I.mem b o v hv)
theorem Inv.ext {M : Mem} {h : Home} {H : Hp} {w w' : World} (I : Inv M h H w) (hb : Ext w w') : Inv M h H w' where
  mem b o v q := (hb.cells.1 b o (I.mem_lt q)).trans (I.mem b o v q)
  one := I.one
  blk b B q := by
    obtain ⟨v, q1, q2⟩ := I.blk b B q
    exact ⟨v, q1, q2.mono (MLe.refl _) (HLe.refl _) fun k hk => Below.block hb k (q2.lt hk)⟩
  sep := I.sep
  inj := I.inj
  len := I.len
  glob := I.glob
end Go.Proofs.Ytcbknmnlgoeniaa
namespace Go.Proofs.Ytcbknmnlgoeniaa
open Go.RowKit
inductive TD where
  | int (k : IntKind)
  | bool
  | string
  | struct (fs : List (Nat × Nat × Bool))
  | slice (e : TypeId) (sz by' : Nat)
  | array (n : Nat) (e : TypeId) (sz : Nat)
  | other
structure TI where
  d : TD
  size : Nat
  zero : Value
def aggT (P : Program) (t : TypeId) : Bool := match P.underlying t with | some (.struct _) => true | some (.array _ _) => true | _ => false
def tdOf (P : Program) : TypeDesc → TD
  | .int k => .int k
  | .bool => .bool
  | .string => .string
  | .struct fs => .struct (fs.toList.map fun f => (f.offset, (if (P.underlying f.type).isSome then P.cellsOf f.type else 0), aggT P f.type))
  | .slice e => .slice e (P.cellsOf e) (P.bytesOf e)
  | .array n e => .array n e (P.cellsOf e)
  | _ => .other
def tyOf (P : Program) (t : TypeId) : Option TI :=
  match P.info? t, P.underlying t with
  | some i, some d => i.zero.map fun z => ⟨tdOf P d, i.size, z⟩
  | _, _ => none
abbrev Tys := TypeId → Option TI
def TysOk (P : Program) (T : Tys) : Prop := ∀ t i, T t = some i → tyOf P t = some i
theorem ty_parts {P : Program} {t : TypeId} {i : TI} (h : tyOf P t = some i) : ∃ f d, P.info? t = some f ∧ P.underlying t = some d ∧ tdOf P d = i.d ∧ f.size = i.size ∧ f.zero = some i.zero := by
  unfold tyOf at h
  split at h
  · rename_i f d h1 h2
    cases hz : f.zero with
    | none => simp [hz] at h
    | some z =>
      simp [hz] at h
      subst h
      exact ⟨f, d, h1, h2, rfl, rfl, hz⟩
  · cases h
def sflat (P : Program) {α : Type} : Sem α → Option α
  | .pure a => some a
  | .program k => sflat P (k P)
  | .mark _ k => sflat P k
  | _ => none
theorem sflat_run {P : Program} {α : Type} : ∀ {s : Sem α} {a : α}, sflat P s = some a → ∀ w, s.run P w = .ok a w
  | .pure a, _, h, w => by simp [sflat] at h; subst h; rfl
  | .program k, _, h, w => by rw [Sem.run]; exact sflat_run (s := k P) h w
  | .mark _ k, _, h, w => by rw [Sem.run]; exact sflat_run (s := k) h w
  | .load .., _, h, _ => by simp [sflat] at h
  | .store .., _, h, _ => by simp [sflat] at h
  | .new .., _, h, _ => by simp [sflat] at h
  | .shape .., _, h, _ => by simp [sflat] at h
  | .freeze .., _, h, _ => by simp [sflat] at h
  | .frozen .., _, h, _ => by simp [sflat] at h
  | .getObj .., _, h, _ => by simp [sflat] at h
  | .setObj .., _, h, _ => by simp [sflat] at h
  | .choose .., _, h, _ => by simp [sflat] at h
  | .sys .., _, h, _ => by simp [sflat] at h
  | .halt .., _, h, _ => by simp [sflat] at h
def cPV : Value → PV
  | .agg cs => .agg (cs.toList.map .val)
  | v => .val v
def ev (tm : List PV) : Operand → PV
  | .tmp t => tm.getD t (.val undef)
  | .const v => cPV v
  | .global g => .val (.pointer (some ⟨g, 0, none⟩))
  | .func f => .val (.func (.func f) #[] #[])
structure TmOk (M : Mem) (h : Home) (tm : List PV) (ts : Array Value) : Prop where
  size : ts.size = tm.length
  vr : ∀ (i : Nat) (pv : PV) (v : Value), tm[i]? = some pv → ts[i]? = some v → VR M h pv v
theorem cPV_vr {M : Mem} {h : Home} (v : Value) : VR M h (cPV v) v := by
  cases v with
  | agg cs =>
    refine .agg _ _ (by simp) fun i pv v h1 h2 => ?_
    rw [List.getElem?_map, Array.getElem?_toList, h2] at h1
    cases h1
    exact .val _
  | _ => exact .val _
theorem ev_vr {M : Mem} {h : Home} {tm : List PV} {a : Act} (ht : TmOk M h tm a.tmps) (x : Operand) : VR M h (ev tm x) (a.eval x) := by
  cases x with
  | tmp t =>
    simp only [ev, Act.eval]
    by_cases hl : t < tm.length
    · have e1 : tm[t]? = some tm[t] := List.getElem?_eq_getElem hl
      have e2 : a.tmps[t]? = some (a.tmps[t]'(by rw [ht.size]; exact hl)) := Array.getElem?_eq_getElem _
      rw [List.getD_eq_getElem?_getD, Array.getD_eq_getD_getElem?, e1, e2]
      exact ht.vr t _ _ e1 e2
    · have e1 : tm[t]? = none := List.getElem?_eq_none (Nat.le_of_not_lt hl)
      have e2 : a.tmps[t]? = none := Array.getElem?_eq_none (by rw [ht.size]; exact Nat.le_of_not_lt hl)
      rw [List.getD_eq_getElem?_getD, Array.getD_eq_getD_getElem?, e1, e2]
      exact .val _
  | const v => exact cPV_vr v
  | global g => exact .val _
  | func f => exact .val _
def flatL : List PV → Option (List Value)
  | [] => some []
  | .val x :: r => (flatL r).map (x :: ·)
  | _ :: _ => none
def flat : PV → Option Value
  | .val x => some x
  | .agg fs => (flatL fs).map fun vs => .agg vs.toArray
  | _ => none
theorem flatL_len : ∀ {fs : List PV} {us : List Value}, flatL fs = some us → fs.length = us.length
  | [], _, h => by simp [flatL] at h; subst h; rfl
  | .val x :: r, us, h => by
    simp only [flatL, Option.map_eq_some_iff] at h
    obtain ⟨us', h1, rfl⟩ := h
    simp [flatL_len h1]
  | .sl .. :: _, _, h => by simp [flatL] at h
  | .agg .. :: _, _, h => by simp [flatL] at h
  | .tup .. :: _, _, h => by simp [flatL] at h
  | .ptr .. :: _, _, h => by simp [flatL] at h
  | .own .. :: _, _, h => by simp [flatL] at h
  | .eptr .. :: _, _, h => by simp [flatL] at h
  | .optr .. :: _, _, h => by simp [flatL] at h
  | .clo .. :: _, _, h => by simp [flatL] at h
theorem flatL_get : ∀ {fs : List PV} {us : List Value}, flatL fs = some us → ∀ (i : Nat) (u : Value), us[i]? = some u → fs[i]? = some (.val u)
  | [], _, h, i, u, hu => by simp [flatL] at h; subst h; simp at hu
  | .val x :: r, us, h, i, u, hu => by
    simp only [flatL, Option.map_eq_some_iff] at h
    obtain ⟨us', h1, rfl⟩ := h
    cases i with
    | zero => simp at hu; subst hu; rfl
    | succ i => simpa using flatL_get h1 i u (by simpa using hu)
  | .sl .. :: _, _, h, _, _, _ => by simp [flatL] at h
  | .agg .. :: _, _, h, _, _, _ => by simp [flatL] at h
  | .tup .. :: _, _, h, _, _, _ => by simp [flatL] at h
  | .ptr .. :: _, _, h, _, _, _ => by simp [flatL] at h
  | .own .. :: _, _, h, _, _, _ => by simp [flatL] at h
  | .eptr .. :: _, _, h, _, _, _ => by simp [flatL] at h
  | .optr .. :: _, _, h, _, _, _ => by simp [flatL] at h
  | .clo .. :: _, _, h, _, _, _ => by simp [flatL] at h
theorem vr_val {M : Mem} {h : Home} {x v : Value} (r : VR M h (.val x) v) : v = x := by
  cases r
  rfl
theorem flat_vr {M : Mem} {h : Home} {pv : PV} {u v : Value} (hf : flat pv = some u) (r : VR M h pv v) : v = u := by
  cases r with
  | val x => simp [flat] at hf; exact hf
  | agg fs vs h1 h2 =>
    simp only [flat, Option.map_eq_some_iff] at hf
    obtain ⟨us, e1, rfl⟩ := hf
    have hl := flatL_len e1
    congr 1
    apply Array.ext
    · simp; omega
    · intro i hi1 hi2
      have q := flatL_get e1 i (us.toArray[i]) (by simp)
      exact vr_val (h2 i _ vs[i] q (by simp [hi1]))
  | _ => simp [flat] at hf
def pcells (H : Hp) : PV → Option (List PV × Nat)
  | .ptr b o => match H[b]? with | some (some (.box cs)) => some (cs, o) | _ => none
  | .eptr cs o => some (cs, o)
  | .optr b sz i o => match H[b]? with | some (some (.row _ sz' es)) => if sz = sz' then es[i]?.map fun row => (row, o) else none | _ => none
  | _ => none
theorem pcells_ok {M : Mem} {h : Home} {H : Hp} {w : World} (I : Inv M h H w) {pv : PV} {v : Value} (r : VR M h pv v) {cs : List PV} {o : Nat} (hc : pcells H pv = some (cs, o)) :
    ∃ k base, v = .pointer (some ⟨k, base + o, none⟩) ∧ ∀ (j : Nat) (q : PV), cs[j]? = some q → ∃ u, w.cell? ⟨k, base + j, none⟩ = some u ∧ VR M h q u := by
  cases r with
  | ptr b o' k hb =>
    simp only [pcells] at hc
    split at hc
    · rename_i cs' hH
      simp at hc
      obtain ⟨rfl, rfl⟩ := hc
      obtain ⟨v', q1, k', us, t, rfl, q3, q4, -, q5⟩ := I.blk b _ hH
      rw [hb] at q1
      cases q1
      refine ⟨k, 0, by simp, fun j q hq => ?_⟩
      have hj : j < us.size := by rw [q4]; exact (List.getElem?_eq_some_iff.1 hq).1
      exact ⟨us[j], by rw [Nat.zero_add, cell_of_row w k j us t (0, 0) q3]; simp [hj], q5 j q _ hq (by simp [hj])⟩
    · cases hc
  | eptr cs' o' b off f h1 h2 =>
    simp only [pcells, Option.some.injEq, Prod.mk.injEq] at hc
    obtain ⟨rfl, rfl⟩ := hc
    exact ⟨b, off, rfl, fun j q hq => ⟨f j, I.mem _ _ _ (h1 j q hq), (h2 j q hq).mono (.refl _) .none⟩⟩
  | optr b sz i o' g n c hb =>
    simp only [pcells] at hc
    split at hc
    · rename_i e sz' es hH
      split at hc
      · rename_i hs
        subst hs
        cases hr : es[i]? with
        | none => simp [hr] at hc
        | some row =>
          simp [hr] at hc
          obtain ⟨rfl, rfl⟩ := hc
          obtain ⟨v', q1, -, us, q3, q4, -, q5⟩ := I.blk b _ hH
          rw [hb] at q1
          cases q1
          refine ⟨g, i * sz, rfl, fun j q hq => ?_⟩
          have hl := q4 row (List.mem_of_getElem? hr)
          have hj : j < sz := by have := (List.getElem?_eq_some_iff.1 hq).1; omega
          have hi : i < es.length := (List.getElem?_eq_some_iff.1 hr).1
          have h1 : (i + 1) * sz ≤ es.length * sz := Nat.mul_le_mul_right _ hi
          rw [Nat.add_mul] at h1
          have hu : i * sz + j < us.length := by rw [q3.1]; omega
          have := q3.cells (g := g) rfl (i * sz + j) us[i * sz + j] (by simp [hu])
          have e : (⟨g, 0, none⟩ : Addr).add (i * sz + j) = ⟨g, i * sz + j, none⟩ := by unfold Addr.add; split <;> simp_all
          rw [e] at this
          exact ⟨_, this, q5 i j row q _ hr hq (by simp [hu])⟩
      · cases hc
    · cases hc
  | _ => simp [pcells] at hc
def pload (T : Tys) (t : TypeId) (cs : List PV) (o : Nat) (K : PV → Prop) : Prop :=
  ∃ i, T t = some i ∧ match i.d with
    | .struct _ => o + i.size ≤ cs.length ∧ K (.agg ((cs.drop o).take i.size))
    | .array _ _ _ => o + i.size ≤ cs.length ∧ K (.agg ((cs.drop o).take i.size))
    | _ => ∃ pv, cs[o]? = some pv ∧ K pv
theorem addr_add (k o n : Nat) : (⟨k, o, none⟩ : Addr).add n = ⟨k, o + n, none⟩ := by unfold Addr.add; split <;> simp_all
def KeepC (k : Nat) (w w' : World) : Prop := ∀ o u, w.cell? ⟨k, o, none⟩ = some u → w'.cell? ⟨k, o, none⟩ = some u
theorem KeepC.ext {k : Nat} {w w' : World} (h : Ext w w') : KeepC k w w' := fun _ _ q => h.cellSome q
theorem ext_cell {w w' : World} (hb : Ext w w') {k o : Nat} {u : Value} (h : w.cell? ⟨k, o, none⟩ = some u) : w'.cell? ⟨k, o, none⟩ = some u := hb.cellSome h
def aggD : TypeDesc → Bool
  | .struct _ => true
  | .array _ _ => true
  | _ => false
theorem isAgg_of {P : Program} {t : TypeId} {d : TypeDesc} (hu : P.underlying t = some d) (w : World) : (isAgg t).run P w = .ok (aggD d) w := by
  simp only [isAgg, Sem.run_bind, run_underlying hu, Result.andThen_ok]
  cases d <;> rfl
theorem sizeOf_of {P : Program} {t : TypeId} {f : TypeInfo} (hi : P.info? t = some f) (w : World) : (sizeOf t).run P w = .ok f.size w := by
  simp [sizeOf, typeInfo, hi, go_sem]
theorem load_agg {P : Program} {M : Mem} {h : Home} {w : World} {k base o n : Nat} {cs : List PV} (hc : ∀ (j : Nat) (q : PV), cs[j]? = some q → ∃ u, w.cell? ⟨k, base + j, none⟩ = some u ∧ VR M h q u) (hl : o + n ≤ cs.length) :
    ∃ vs : Array Value, VR M h (.agg ((cs.drop o).take n)) (.agg vs) ∧ ∀ w', KeepC k w w' → (loadCells ⟨k, base + o, none⟩ n).run P w' = .ok vs w' := by
  have hg : ∀ j, j < n → ∃ u, w.cell? ⟨k, base + o + j, none⟩ = some u ∧ ∀ q, cs[o + j]? = some q → VR M h q u := fun j hj => by
    have e : cs[o + j]? = some (cs[o + j]'(by omega)) := List.getElem?_eq_getElem _
    obtain ⟨u, h1, h2⟩ := hc (o + j) _ e
    exact ⟨u, by rw [Nat.add_assoc]; exact h1, fun q hq => by rw [e] at hq; cases hq; exact h2⟩
  let f : Nat → Value := fun j => (w.cell? ⟨k, base + o + j, none⟩).getD undef
  have hf : ∀ j, j < n → w.cell? ⟨k, base + o + j, none⟩ = some (f j) := fun j hj => by
    obtain ⟨u, h1, _⟩ := hg j hj
    simp only [f, h1, Option.getD_some]
  refine ⟨((List.range n).map f).toArray, .agg _ _ (by simp; omega) fun i pv v h1 h2 => ?_, fun w' hb => ?_⟩
  · have hi : i < n := by have := (Array.getElem?_eq_some_iff.1 h2).1; simpa using this
    rw [List.getElem?_take, if_pos hi, List.getElem?_drop] at h1
    obtain ⟨u, q1, q2⟩ := hg i hi
    have : v = f i := by simp [hi] at h2; exact h2.symm
    rw [this]
    have e := hf i hi
    rw [q1] at e
    cases e
    exact q2 pv h1
  · refine run_loadCells w' _ n f fun j hj => ?_
    rw [addr_add]
    exact hb _ _ (hf j hj)
theorem pload_keep {P : Program} {T : Tys} (hT : TysOk P T) {M : Mem} {h : Home} {H : Hp} {w : World} (I : Inv M h H w) {pv : PV} {v : Value} (r : VR M h pv v) {cs : List PV} {o : Nat} (hc : pcells H pv = some (cs, o)) {t : TypeId} {K : PV → Prop} (hk : pload T t cs o K) :
    ∃ pv' v' k base, K pv' ∧ VR M h pv' v' ∧ v = .pointer (some ⟨k, base, none⟩) ∧ ∀ w', KeepC k w w' → (Instr.loadAt t v).run P w' = .ok v' w' := by
  obtain ⟨i, hi, hk⟩ := hk
  obtain ⟨f, d, p1, p2, p3, p4, p5⟩ := ty_parts (hT t i hi)
  obtain ⟨k, base, rfl, hcell⟩ := pcells_ok I r hc
  have hagg : ∀ (w' : World), (isAgg t).run P w' = .ok (aggD d) w' := isAgg_of p2
  cases d with
  | struct fs =>
    simp only [tdOf] at p3
    rw [← p3] at hk
    obtain ⟨vs, q1, q2⟩ := load_agg (P := P) hcell hk.1
    refine ⟨_, .agg vs, k, base + o, hk.2, q1, rfl, fun w' hb => ?_⟩
    simp only [Instr.loadAt, Instr.sureAddr, loadVar, Sem.run_bind, Sem.run_pure, Result.andThen_ok, hagg, aggD, sizeOf_of p1, p4, if_true, q2 w' hb]
  | array n e =>
    simp only [tdOf] at p3
    rw [← p3] at hk
    obtain ⟨vs, q1, q2⟩ := load_agg (P := P) hcell hk.1
    refine ⟨_, .agg vs, k, base + o, hk.2, q1, rfl, fun w' hb => ?_⟩
    simp only [Instr.loadAt, Instr.sureAddr, loadVar, Sem.run_bind, Sem.run_pure, Result.andThen_ok, hagg, aggD, sizeOf_of p1, p4, if_true, q2 w' hb]
  | _ =>
    simp only [tdOf] at p3
    rw [← p3] at hk
    obtain ⟨pv', hp, hk⟩ := hk
    obtain ⟨u, h1, h2⟩ := hcell o pv' hp
    refine ⟨pv', u, k, base + o, hk, h2, rfl, fun w' hb => ?_⟩
    simp only [Instr.loadAt, Instr.sureAddr, loadVar, Sem.run_bind, Sem.run_pure, Result.andThen_ok, hagg, aggD, Bool.false_eq_true, if_false]
    simp only [run_load, hb _ _ h1]
theorem pload_ok {P : Program} {T : Tys} (hT : TysOk P T) {M : Mem} {h : Home} {H : Hp} {w : World} (I : Inv M h H w) {pv : PV} {v : Value} (r : VR M h pv v) {cs : List PV} {o : Nat} (hc : pcells H pv = some (cs, o)) {t : TypeId} {K : PV → Prop} (hk : pload T t cs o K) :
    ∃ pv' v', K pv' ∧ VR M h pv' v' ∧ ∀ w', Ext w w' → (Instr.loadAt t v).run P w' = .ok v' w' := by
  obtain ⟨pv', v', k, base, a, b, _, c⟩ := pload_keep (P := P) hT I r hc hk
  exact ⟨pv', v', a, b, fun w' q => c w' (.ext q)⟩
end Go.Proofs.Ytcbknmnlgoeniaa
namespace Go.Proofs.Ytcbknmnlgoeniaa
open Go.RowKit
def shiftP : PV → Nat → Option PV
  | .ptr b o, d => some (.ptr b (o + d))
  | .eptr cs o, d => some (.eptr cs (o + d))
  | .optr b sz i o, d => some (.optr b sz i (o + d))
  | _, _ => none
theorem shiftP_ok {M : Mem} {h : Home} {pv pv' : PV} {v : Value} {d : Nat} (r : VR M h pv v) (hs : shiftP pv d = some pv') : ∃ k o, v = .pointer (some ⟨k, o, none⟩) ∧ VR M h pv' (.pointer (some ⟨k, o + d, none⟩)) := by
  cases r with
  | ptr b o k hb => simp [shiftP] at hs; subst hs; exact ⟨k, o, rfl, .ptr b _ k hb⟩
  | eptr cs o b off f h1 h2 => simp [shiftP] at hs; subst hs; exact ⟨b, off + o, rfl, by rw [Nat.add_assoc]; exact .eptr cs _ b off f h1 h2⟩
  | optr b sz i o g n c hb => simp [shiftP] at hs; subst hs; exact ⟨g, i * sz + o, rfl, by rw [Nat.add_assoc]; exact .optr b sz i _ g n c hb⟩
  | _ => simp [shiftP] at hs
def pint : PV → Option Int
  | .val (.int _ n) => some n
  | _ => none
theorem pint_ok {M : Mem} {h : Home} {pv : PV} {v : Value} {n : Int} (r : VR M h pv v) (hp : pint pv = some n) : ∃ k, v = .int k n := by
  cases r with
  | val => cases v <;> simp [pint] at hp; subst hp; exact ⟨_, rfl⟩
  | _ => simp [pint] at hp
def pfieldAddr (T : Tys) (s : TypeId) (x : PV) (f : Nat) (K : PV → Prop) : Prop :=
  ∃ i, T s = some i ∧ match i.d with
    | .struct fs => ∃ q pv, fs[f]? = some q ∧ q.2.1 ≠ 0 ∧ shiftP x q.1 = some pv ∧ K pv
    | _ => False
theorem pfieldAddr_ok {P : Program} {T : Tys} (hT : TysOk P T) {M : Mem} {h : Home} {x : PV} {v : Value} (r : VR M h x v) {s : TypeId} {f : Nat} {K : PV → Prop} (hk : pfieldAddr T s x f K) :
    ∃ pv' v', K pv' ∧ VR M h pv' v' ∧ ∀ w', (Instr.fieldAt s v f).run P w' = .ok v' w' := by
  obtain ⟨i, hi, hk⟩ := hk
  obtain ⟨f', d, p1, p2, p3, p4, p5⟩ := ty_parts (hT s i hi)
  cases d with
  | struct fs =>
    simp only [tdOf] at p3
    rw [← p3] at hk
    obtain ⟨q, pv, h1, h2, h3, h4⟩ := hk
    rw [List.getElem?_map] at h1
    cases hf : fs.toList[f]? with
    | none => simp [hf] at h1
    | some fl =>
      simp [hf] at h1
      subst h1
      obtain ⟨k, o, rfl, h5⟩ := shiftP_ok r h3
      have h2 : P.cellsOf fl.type ≠ 0 := by intro h0; apply h2; simp only [h0]; split <;> rfl
      have hf' : fs[f]? = some fl := by rw [← Array.getElem?_toList]; exact hf
      have hsz : ∀ w', (sizeOf fl.type).run P w' = .ok (P.cellsOf fl.type) w' ∨ P.cellsOf fl.type = 0 := fun w' => by
        cases hi' : P.info? fl.type with
        | none => right; simp [Program.cellsOf, hi']
        | some i' => left; rw [run_sizeOf w' hi']
      refine ⟨pv, _, h4, h5, fun w' => ?_⟩
      rcases hsz w' with hs | hs
      · simp only [Instr.fieldAt, Sem.run_bind, run_underlying p2, Result.andThen_ok, hf', Instr.sureAddr, Sem.run_pure, fieldPlace, hs, if_neg h2, addr_add]
      · exact absurd hs h2
  | _ => simp only [tdOf] at p3; rw [← p3] at hk; exact hk.elim
def pelems (H : Hp) : PV → Option (List (List PV))
  | .sl _ es => some es
  | .own b => match H[b]? with | some (some (.row _ _ es)) => some es | _ => none
  | .val (.slice none 0 0) => some []
  | _ => none
theorem pelems_len {M : Mem} {h : Home} {H : Hp} {w : World} (I : Inv M h H w) {x : PV} {v : Value} (r : VR M h x v) {es : List (List PV)} (he : pelems H x = some es) : ∃ o c, v = .slice o es.length c := by
  cases r with
  | sl0 sz o c => simp [pelems] at he; subst he; exact ⟨o, c, rfl⟩
  | sl sz es' b off cap f h1 h2 h3 h4 h5 h6 => simp [pelems] at he; subst he; exact ⟨_, cap, rfl⟩
  | own b o n c hb =>
    simp only [pelems] at he
    split at he
    · rename_i e sz es' hH
      simp at he
      subst he
      obtain ⟨v', q1, -, us, q3, q4, -, q5⟩ := I.blk b _ hH
      rw [hb] at q1
      cases q1
      rcases q3.2 with ⟨h0, h1⟩ | ⟨g, cap, cur, h0, _⟩
      · cases h0; rw [h1]; exact ⟨_, _, rfl⟩
      · cases h0; exact ⟨_, _, rfl⟩
    · cases he
  | val x =>
    unfold pelems at he
    split at he
    · rename_i heq; cases heq
    · rename_i heq; cases heq
    · rename_i heq; cases heq; simp at he; subst he; exact ⟨_, _, rfl⟩
    · cases he
  | _ => simp [pelems] at he
def pindexAddr (T : Tys) (H : Hp) (t : TypeId) (x ix : PV) (K : PV → Prop) : Prop :=
  ∃ i n, T t = some i ∧ pint ix = some n ∧ 0 ≤ n ∧ match i.d with
    | .array len _ sz => n < (len : Int) ∧ ∃ pv, shiftP x (n.toNat * sz) = some pv ∧ K pv
    | .slice _ sz _ => match x with
      | .sl sz' es => sz' = sz ∧ ∃ row, es[n.toNat]? = some row ∧ K (.eptr row 0)
      | .own b => ∃ e es, H[b]? = some (some (.row e sz es)) ∧ n < (es.length : Int) ∧ K (.optr b sz n.toNat 0)
      | _ => False
    | _ => False
theorem sizeOf_cells {P : Program} {t : TypeId} (h : P.cellsOf t ≠ 0 ∨ (P.info? t).isSome) (w : World) : (sizeOf t).run P w = .ok (P.cellsOf t) w := by
  cases hi' : P.info? t with
  | none => rcases h with h | h; exact absurd (by simp [Program.cellsOf, hi']) h; simp [hi'] at h
  | some i' => rw [run_sizeOf w hi']
def elemsOk (P : Program) (T : Tys) : Prop := ∀ t i, T t = some i → match i.d with | .slice e _ _ => (P.info? e).isSome | .array _ e _ => (P.info? e).isSome | _ => True
theorem pindexAddr_ok {P : Program} {T : Tys} (hT : TysOk P T) (hE : elemsOk P T) {M : Mem} {h : Home} {H : Hp} {w : World} (I : Inv M h H w) {x ix : PV} {v u : Value} (r : VR M h x v) (ru : VR M h ix u) {t : TypeId} {K : PV → Prop} (hk : pindexAddr T H t x ix K) :
    ∃ pv' v', K pv' ∧ VR M h pv' v' ∧ ∀ w', (Instr.indexAt t v u).run P w' = .ok v' w' := by
  obtain ⟨i, n, hi, hn, h0, hk⟩ := hk
  obtain ⟨kk, rfl⟩ := pint_ok ru hn
  have hEt := hE t i hi
  obtain ⟨f', d, p1, p2, p3, p4, p5⟩ := ty_parts (hT t i hi)
  cases d with
  | array len e =>
    simp only [tdOf] at p3
    rw [← p3] at hk hEt
    obtain ⟨h1, pv, h2, h3⟩ := hk
    obtain ⟨k, o, rfl, h5⟩ := shiftP_ok r h2
    refine ⟨pv, _, h3, h5, fun w' => ?_⟩
    simp only [Instr.indexAt, asIntOf, Sem.run_bind, Sem.run_pure, run_underlying p2, Result.andThen_ok, Instr.sureAddr]
    rw [if_pos ⟨h0, h1⟩]
    simp only [Sem.run_bind, sizeOf_cells (.inr hEt), Result.andThen_ok, Sem.run_pure, addr_add]
  | slice e =>
    simp only [tdOf] at p3
    rw [← p3] at hk hEt
    simp only at hk hEt
    have key : ∀ (b off len cap : Nat) (pv : PV), v = .slice (some ⟨b, off, none⟩) len cap → n < (len : Int) → K pv → VR M h pv (.pointer (some ⟨b, off + n.toNat * P.cellsOf e, none⟩)) →
        ∃ pv' v', K pv' ∧ VR M h pv' v' ∧ ∀ w', (Instr.indexAt t v (.int kk n)).run P w' = .ok v' w' := fun b off len cap pv hv hlt hK hR => by
      subst hv
      refine ⟨pv, _, hK, hR, fun w' => ?_⟩
      simp only [Instr.indexAt, asIntOf, Sem.run_bind, Sem.run_pure, run_underlying p2, Result.andThen_ok]
      rw [if_pos ⟨h0, hlt⟩]
      simp only [Sem.run_bind, sizeOf_cells (.inr hEt), Result.andThen_ok, Sem.run_pure, addr_add]
    split at hk
    · rename_i sz' es
      obtain ⟨rfl, row, h1, h2⟩ := hk
      cases r with
      | sl0 => simp at h1
      | sl sz es b off cap f q1 q2 q3 q4 q5 q6 =>
        have hlt : n.toNat < es.length := (List.getElem?_eq_some_iff.1 h1).1
        refine key b off es.length cap (.eptr row 0) rfl (by omega) h2 ?_
        have := VR.eptr (M := M) (h := h) row 0 b (off + n.toNat * P.cellsOf e) (f n.toNat) (fun j pv hq => q5 _ j row pv h1 hq) (fun j pv hq => q6 _ j row pv h1 hq)
        simpa using this
    · rename_i b
      obtain ⟨e', es, hH, hlt, h2⟩ := hk
      cases r with
      | own _ o n' c hb =>
        obtain ⟨v', q1, -, us, q3, q4, -, q5⟩ := I.blk b _ hH
        rw [hb] at q1
        cases q1
        rcases q3.2 with ⟨h0', h1'⟩ | ⟨g, cap, cur, h0', _⟩
        · omega
        · cases h0'
          refine key g 0 _ _ (.optr b (P.cellsOf e) n.toNat 0) rfl hlt h2 ?_
          have := VR.optr (M := M) (h := h) b (P.cellsOf e) n.toNat 0 g _ _ hb
          simpa using this
    · exact hk.elim
  | _ => simp only [tdOf] at p3; rw [← p3] at hk; exact hk.elim
def pindex (T : Tys) (t : TypeId) (x ix : PV) (K : PV → Prop) : Prop :=
  ∃ i n, T t = some i ∧ pint ix = some n ∧ 0 ≤ n ∧ match i.d with
    | .string => ∃ s c, x = .val (.string s) ∧ s.data.toList[n.toNat]? = some c ∧ K (.val (.int .u8 c.toNat))
    | .array len e _ => ∃ ie kk cs pv, T e = some ie ∧ ie.d = .int kk ∧ ie.size = 1 ∧ n < len ∧ x = .agg cs ∧ cs[n.toNat]? = some pv ∧ K pv
    | _ => False
theorem pindex_ok {P : Program} {T : Tys} (hT : TysOk P T) {M : Mem} {h : Home} {x ix : PV} {v u : Value} (r : VR M h x v) (ru : VR M h ix u) {t : TypeId} {K : PV → Prop} (hk : pindex T t x ix K) :
    ∃ pv' v', K pv' ∧ VR M h pv' v' ∧ ∀ w', (Instr.index t v u).run P w' = .ok v' w' := by
  obtain ⟨i, n, hi, hn, h0, hk⟩ := hk
  obtain ⟨kk, rfl⟩ := pint_ok ru hn
  obtain ⟨f', d, p1, p2, p3, p4, p5⟩ := ty_parts (hT t i hi)
  cases d with
  | string =>
    simp only [tdOf] at p3
    rw [← p3] at hk
    obtain ⟨s, c, rfl, h1, h2⟩ := hk
    have hv := vr_val r
    subst hv
    refine ⟨_, _, h2, .val _, fun w' => ?_⟩
    have hc : s[n.toNat]? = some c := by
      have : n.toNat < s.data.toList.length := (List.getElem?_eq_some_iff.1 h1).1
      have e := (List.getElem?_eq_some_iff.1 h1).2
      have hl : n.toNat < s.size := by simpa using this
      rw [getElem?_pos s n.toNat hl]
      congr 1
    simp only [Instr.index, asIntOf, Sem.run_bind, Sem.run_pure, run_underlying p2, Result.andThen_ok, if_pos h0, hc]
  | array len e =>
    simp only [tdOf] at p3
    rw [← p3] at hk
    obtain ⟨ie, kk', cs, pv, a1, a2, a3, a4, rfl, a5, a6⟩ := hk
    obtain ⟨fe, de, b1, b2, b3, b4, b5⟩ := ty_parts (hT e ie a1)
    rw [a2] at b3
    have hde : aggD de = false := by cases de <;> simp_all [tdOf, aggD]
    have hag : ∀ w' : World, (isAgg e).run P w' = .ok false w' := fun w' => by rw [isAgg_of b2, hde]
    cases r with
    | agg _ vs e1 e2 =>
      have hlt : n.toNat < vs.size := by have := (List.getElem?_eq_some_iff.1 a5).1; omega
      refine ⟨pv, vs[n.toNat], a6, e2 _ _ _ a5 (by simp [hlt]), fun w' => ?_⟩
      simp only [Instr.index, asIntOf, Sem.run_bind, Sem.run_pure, run_underlying p2, Result.andThen_ok, if_pos (And.intro h0 a4), sizeOf_of b1, b4, a3, Nat.mul_one, part, hag, Bool.false_eq_true, if_false]
      simp [hlt, Sem.run_pure]
  | _ => simp only [tdOf] at p3; rw [← p3] at hk; exact hk.elim
def plen (T : Tys) (H : Hp) (t : TypeId) (x : PV) (K : PV → Prop) : Prop :=
  ∃ i, T t = some i ∧ match i.d with
    | .string => ∃ s, x = .val (.string s) ∧ K (.val (.int .i64 s.size))
    | .slice _ _ _ => ∃ es, pelems H x = some es ∧ K (.val (.int .i64 es.length))
    | .array n _ _ => K (.val (.int .i64 n))
    | _ => False
theorem plen_ok {P : Program} {T : Tys} (hT : TysOk P T) {M : Mem} {h : Home} {H : Hp} {w : World} (I : Inv M h H w) {x : PV} {v : Value} (r : VR M h x v) {t : TypeId} {K : PV → Prop} (hk : plen T H t x K) :
    ∃ pv' v', K pv' ∧ VR M h pv' v' ∧ ∀ ty w', (Builtin.len_ #[t] ty #[v]).run P w' = .ok v' w' := by
  obtain ⟨i, hi, hk⟩ := hk
  obtain ⟨f', d, p1, p2, p3, p4, p5⟩ := ty_parts (hT t i hi)
  cases d with
  | string =>
    simp only [tdOf] at p3
    rw [← p3] at hk
    obtain ⟨s, rfl, h2⟩ := hk
    have hv := vr_val r
    subst hv
    exact ⟨_, _, h2, .val _, fun ty w' => by simp [Builtin.len_, run_underlying p2, go_sem]⟩
  | slice e =>
    simp only [tdOf] at p3
    rw [← p3] at hk
    obtain ⟨es, h1, h2⟩ := hk
    obtain ⟨o, c, rfl⟩ := pelems_len I r h1
    exact ⟨_, _, h2, .val _, fun ty w' => by simp [Builtin.len_, run_underlying p2, go_sem]⟩
  | array n e =>
    simp only [tdOf] at p3
    rw [← p3] at hk
    exact ⟨_, _, hk, .val _, fun ty w' => by simp [Builtin.len_, run_underlying p2, go_sem]⟩
  | _ => simp only [tdOf] at p3; rw [← p3] at hk; exact hk.elim
end Go.Proofs.Ytcbknmnlgoeniaa
namespace Go.Proofs.Ytcbknmnlgoeniaa
open Go.RowKit
def VRo (M : Mem) (h : Home) : Option PV → Option Value → Prop
  | none, none => True
  | some p, some v => VR M h p v
  | _, _ => False
def pb : Option PV → Nat → Option Nat
  | none, d => some d
  | some p, _ => match pint p with | some n => if 0 ≤ n then some n.toNat else none | none => none
theorem bound_ok {P : Program} {M : Mem} {h : Home} {p : PV} {v : Value} (r : VR M h p v) {d l y : Nat} (hl : pb (some p) d = some l) (hy : l ≤ y) (code : BoundsCode) (w : World) : (Instr.sliceBound v y code).run P w = .ok l w := by
  simp only [pb] at hl
  split at hl
  · rename_i n hn
    obtain ⟨k, rfl⟩ := pint_ok r hn
    split at hl
    · rename_i h0
      simp at hl
      subst hl
      simp only [Instr.sliceBound, asIntOf, Sem.run_bind, Sem.run_pure, Result.andThen_ok]
      rw [if_pos ⟨h0, by omega⟩]
      rfl
    · cases hl
  · cases hl
theorem bounds_ok {P : Program} {M : Mem} {h : Home} {lo hi : Option PV} {vlo vhi : Option Value} (rl : VRo M h lo vlo) (rh : VRo M h hi vhi) {len cap l k : Nat} (hl : pb lo 0 = some l) (hk : pb hi len = some k) (h1 : l ≤ k) (h2 : k ≤ cap) (isS : Bool) (w : World) :
    (Instr.sliceBounds isS len cap vlo vhi none).run P w = .ok (l, k, cap) w := by
  unfold Instr.sliceBounds
  cases lo with
  | none =>
    cases vlo with
    | some _ => exact rl.elim
    | none =>
      simp [pb] at hl
      subst hl
      cases hi with
      | none =>
        cases vhi with
        | some _ => exact rh.elim
        | none => simp [pb] at hk; subst hk; simp [Sem.run_pure]
      | some q =>
        cases vhi with
        | none => exact rh.elim
        | some v => simp only [Sem.run_bind, Sem.run_pure, Result.andThen_ok, bound_ok (P := P) rh hk h2]
  | some p =>
    cases vlo with
    | none => exact rl.elim
    | some u =>
      cases hi with
      | none =>
        cases vhi with
        | some _ => exact rh.elim
        | none => simp [pb] at hk; subst hk; simp only [Sem.run_bind, Sem.run_pure, Result.andThen_ok, bound_ok (P := P) rl hl h1]
      | some q =>
        cases vhi with
        | none => exact rh.elim
        | some v => simp only [Sem.run_bind, Sem.run_pure, Result.andThen_ok, bound_ok (P := P) rh hk h2, bound_ok (P := P) rl hl h1]
def pslice (T : Tys) (t : TypeId) (x : PV) (lo hi : Option PV) (K : PV → Prop) : Prop :=
  ∃ i, T t = some i ∧ match i.d with
    | .string => ∃ s l k, x = .val (.string s) ∧ pb lo 0 = some l ∧ pb hi s.size = some k ∧ l ≤ k ∧ k ≤ s.size ∧ K (.val (.string (s.extract l k)))
    | .slice _ sz _ => ∃ es l k, x = .sl sz es ∧ pb lo 0 = some l ∧ pb hi es.length = some k ∧ l ≤ k ∧ k ≤ es.length ∧ K (.sl sz ((es.drop l).take (k - l)))
    | _ => False
theorem drop_take_mem {α : Type} {es : List α} {l n : Nat} {x : α} (h : x ∈ (es.drop l).take n) : x ∈ es := List.mem_of_mem_drop (List.mem_of_mem_take h)
theorem pslice_ok {P : Program} {T : Tys} (hT : TysOk P T) (hE : elemsOk P T) {M : Mem} {h : Home} {x : PV} {v : Value} (r : VR M h x v) {lo hi : Option PV} {vlo vhi : Option Value} (rl : VRo M h lo vlo) (rh : VRo M h hi vhi) {t : TypeId} {K : PV → Prop} (hk : pslice T t x lo hi K) :
    ∃ pv' v', K pv' ∧ VR M h pv' v' ∧ ∀ w', (Instr.sliceAt t v vlo vhi none).run P w' = .ok v' w' := by
  obtain ⟨i, hi', hk⟩ := hk
  have hEt := hE t i hi'
  obtain ⟨f', d, p1, p2, p3, p4, p5⟩ := ty_parts (hT t i hi')
  cases d with
  | string =>
    simp only [tdOf] at p3
    rw [← p3] at hk
    obtain ⟨s, l, k, rfl, h1, h2, h3, h4, h5⟩ := hk
    have hv := vr_val r
    subst hv
    refine ⟨_, _, h5, .val _, fun w' => ?_⟩
    simp only [Instr.sliceAt, Instr.slice, Sem.run_bind, run_underlying p2, Result.andThen_ok]
    simp [bounds_ok (P := P) rl rh h1 h2 h3 h4]
  | slice e =>
    simp only [tdOf] at p3
    rw [← p3] at hk hEt
    simp only at hk hEt
    obtain ⟨es, l, k, rfl, h1, h2, h3, h4, h5⟩ := hk
    cases r with
    | sl0 sz o c =>
      have hk0 : k = 0 := by simpa using h4
      subst hk0
      have hl0 : l = 0 := by omega
      subst hl0
      refine ⟨_, .slice (if c = 0 then o else o.map (·.add (0 * P.cellsOf e))) 0 (c - 0), h5, .sl0 _ _ _, fun w' => ?_⟩
      have hb := bounds_ok (P := P) (len := 0) (cap := c) rl rh h1 (by simpa using h2) (Nat.le_refl 0) (Nat.zero_le _) true w'
      simp only [Instr.sliceAt, Instr.slice, Sem.run_bind, run_underlying p2, Result.andThen_ok, hb, sizeOf_cells (.inr hEt), Sem.run_pure]
    | sl sz es' b off cap f q1 q2 q3 q4 q5 q6 =>
      refine ⟨_, .slice (if cap = l then some ⟨b, off, none⟩ else some ⟨b, off + l * P.cellsOf e, none⟩) (k - l) (cap - l), h5, ?_, fun w' => ?_⟩
      · by_cases hz : k - l = 0
        · rw [hz]
          simp only [List.take_zero]
          exact .sl0 _ _ _
        · have hc : cap ≠ l := by omega
          rw [if_neg hc]
          have hlen : ((es.drop l).take (k - l)).length = k - l := by simp; omega
          have := VR.sl (M := M) (h := h) (P.cellsOf e) ((es.drop l).take (k - l)) b (off + l * P.cellsOf e) (cap - l) (fun i j => f (l + i) j) (by omega) (by omega) (by omega)
            (fun row hr => q4 row (drop_take_mem hr))
            (fun i j row pv e1 e2 => by
              rw [List.getElem?_take] at e1
              split at e1
              · rw [List.getElem?_drop] at e1
                have := q5 (l + i) j row pv e1 e2
                rw [Nat.add_mul] at this
                rw [show off + l * P.cellsOf e + i * P.cellsOf e + j = off + (l * P.cellsOf e + i * P.cellsOf e) + j by omega]
                exact this
              · cases e1)
            (fun i j row pv e1 e2 => by
              rw [List.getElem?_take] at e1
              split at e1
              · rw [List.getElem?_drop] at e1
                exact q6 (l + i) j row pv e1 e2
              · cases e1)
          rw [hlen] at this
          exact this
      · simp only [Instr.sliceAt, Instr.slice, Sem.run_bind, run_underlying p2, Result.andThen_ok, bounds_ok (P := P) (cap := cap) rl rh h1 h2 h3 (by omega), sizeOf_cells (.inr hEt), Sem.run_pure, Option.map_some, addr_add]
  | _ => simp only [tdOf] at p3; rw [← p3] at hk; exact hk.elim
def pfield (T : Tys) (s : TypeId) (x : PV) (f : Nat) (K : PV → Prop) : Prop :=
  ∃ i, T s = some i ∧ match i.d with
    | .struct fs => ∃ q cs, fs[f]? = some q ∧ q.2.1 ≠ 0 ∧ x = .agg cs ∧ if q.2.2 then K (.agg ((cs.drop q.1).take q.2.1)) else ∃ pv, cs[q.1]? = some pv ∧ K pv
    | _ => False
theorem pfield_ok {P : Program} {T : Tys} (hT : TysOk P T) {M : Mem} {h : Home} {x : PV} {v : Value} (r : VR M h x v) {s : TypeId} {f : Nat} {K : PV → Prop} (hk : pfield T s x f K) :
    ∃ pv' v', K pv' ∧ VR M h pv' v' ∧ ∀ w', (Instr.field s v f).run P w' = .ok v' w' := by
  obtain ⟨i, hi, hk⟩ := hk
  obtain ⟨f', d, p1, p2, p3, p4, p5⟩ := ty_parts (hT s i hi)
  cases d with
  | struct fs =>
    simp only [tdOf] at p3
    rw [← p3] at hk
    obtain ⟨q, cs, h1, h0, rfl, h3⟩ := hk
    rw [List.getElem?_map] at h1
    cases hf : fs.toList[f]? with
    | none => simp [hf] at h1
    | some fl =>
      simp [hf] at h1
      subst h1
      have hf' : fs[f]? = some fl := by rw [← Array.getElem?_toList]; exact hf
      cases r with
      | agg _ vs e1 e2 =>
        cases hu : P.underlying fl.type with
        | none =>
          simp [hu] at h0
        | some du =>
          have hag := isAgg_of hu
          have hi' : (P.info? fl.type).isSome := by
            unfold Program.underlying at hu
            cases hq : P.info? fl.type with
            | none => simp [hq] at hu
            | some _ => rfl
          by_cases ha : aggD du = true
          · have : aggT P fl.type = true := by cases du <;> simp_all [aggT, aggD]
            simp only [this, if_true, hu, Option.isSome_some] at h3
            refine ⟨_, .agg (vs.extract fl.offset (fl.offset + P.cellsOf fl.type)), h3, .agg _ _ (by simp; omega) fun i pv u g1 g2 => ?_, fun w' => ?_⟩
            · rw [List.getElem?_take] at g1
              split at g1
              · rw [List.getElem?_drop] at g1
                rw [Array.getElem?_extract] at g2
                split at g2
                · exact e2 _ _ _ g1 g2
                · cases g2
              · cases g1
            · simp only [Instr.field, Sem.run_bind, run_underlying p2, Result.andThen_ok, hf', asAgg, Sem.run_pure, part, hag, ha, if_true, sizeOf_cells (.inr hi')]
          · have : aggT P fl.type = false := by cases du <;> simp_all [aggT, aggD]
            simp only [this, Bool.false_eq_true, if_false] at h3
            obtain ⟨pv, g1, g2⟩ := h3
            have hlt : fl.offset < vs.size := by have := (List.getElem?_eq_some_iff.1 g1).1; omega
            refine ⟨pv, vs[fl.offset], g2, e2 _ _ _ g1 (by simp [hlt]), fun w' => ?_⟩
            simp only [Instr.field, Sem.run_bind, run_underlying p2, Result.andThen_ok, hf', asAgg, Sem.run_pure, part, hag, ha, Bool.false_eq_true, if_false]
            simp [hlt, Sem.run_pure]
  | _ => simp only [tdOf] at p3; rw [← p3] at hk; exact hk.elim
def pextract (x : PV) (n : Nat) (K : PV → Prop) : Prop := ∃ fs pv, x = .tup fs ∧ fs[n]? = some pv ∧ K pv
theorem pextract_ok {P : Program} {M : Mem} {h : Home} {x : PV} {v : Value} (r : VR M h x v) {n : Nat} {K : PV → Prop} (hk : pextract x n K) :
    ∃ pv' v', K pv' ∧ VR M h pv' v' ∧ ∀ w', (Instr.extract v n).run P w' = .ok v' w' := by
  obtain ⟨fs, pv, rfl, h1, h2⟩ := hk
  cases r with
  | tup _ vs e1 e2 =>
    have hlt : n < vs.size := by have := (List.getElem?_eq_some_iff.1 h1).1; omega
    exact ⟨pv, vs[n], h2, e2 _ _ _ h1 (by simp [hlt]), fun w' => by simp [Instr.extract, hlt, Sem.run_pure]⟩
def bytesL (bs : List UInt8) : List (List PV) := bs.map fun b => [.val (.int .u8 b.toNat)]
def pstring (T : Tys) (H : Hp) (s d : TypeId) (x : PV) (K : PV → Prop) : Prop :=
  ∃ i j e sz by' q bs, T s = some i ∧ T d = some j ∧ i.d = .slice e sz by' ∧ j.d = .string ∧ T e = some q ∧ q.d = .int .u8 ∧ q.size = 1 ∧ pelems H x = some (bytesL bs) ∧ K (.val (.string ⟨bs.toArray⟩))
theorem pelems_at {M : Mem} {h : Home} {H : Hp} {w : World} (I : Inv M h H w) {x : PV} {v : Value} (r : VR M h x v) {es : List (List PV)} (he : pelems H x = some es) (hn : es ≠ []) (sz : Nat) (hsz : ∀ row ∈ es, row.length = sz) (hz : 0 < sz) :
    ∃ k base c, v = .slice (some ⟨k, base, none⟩) es.length c ∧ k < w.heap.size ∧ ∀ (i j : Nat) (row : List PV) (q : PV), es[i]? = some row → row[j]? = some q → ∃ u, w.cell? ⟨k, base + (i * sz + j), none⟩ = some u ∧ VR M h q u ∧ u.oneCell' = true := by
  have hlt : ∀ {k base : Nat}, (∀ (i j : Nat) (row : List PV) (q : PV), es[i]? = some row → row[j]? = some q → ∃ u, w.cell? ⟨k, base + (i * sz + j), none⟩ = some u ∧ VR M h q u ∧ u.oneCell' = true) → k < w.heap.size := fun {k base} hc => by
    match es, hn with
    | row :: es', _ =>
      match row, hsz row (by simp) with
      | q :: row', _ =>
        obtain ⟨u, hu, _⟩ := hc 0 0 (q :: row') q rfl rfl
        exact World.block_lt_of_cell? w _ hu
      | [], h0 => simp at h0; omega
  cases r with
  | sl0 sz o c => simp [pelems] at he; exact absurd he.symm (by simpa using hn)
  | sl sz' es' b off cap f h1 h2 h3 h4 h5 h6 =>
    simp [pelems] at he
    subst he
    have hs : sz' = sz := by
      have e : es'[0]? = some es'[0] := List.getElem?_eq_getElem h1
      have := List.mem_of_getElem? e
      rw [← h4 _ this, hsz _ this]
    subst hs
    have hc : ∀ (i j : Nat) (row : List PV) (q : PV), es'[i]? = some row → row[j]? = some q → ∃ u, w.cell? ⟨b, off + (i * sz' + j), none⟩ = some u ∧ VR M h q u ∧ u.oneCell' = true := fun i j row q e1 e2 => ⟨f i j, by rw [← Nat.add_assoc]; exact I.mem _ _ _ (h5 i j row q e1 e2), (h6 i j row q e1 e2).mono (.refl _) .none, I.one _ _ _ (h5 i j row q e1 e2)⟩
    exact ⟨b, off, cap, rfl, hlt hc, hc⟩
  | own b o n c hb =>
    simp only [pelems] at he
    split at he
    · rename_i e sz' es' hH
      simp at he
      subst he
      obtain ⟨v', q1, -, us, q3, q4, q6, q5⟩ := I.blk b _ hH
      rw [hb] at q1
      cases q1
      have hs : sz' = sz := by
        match es', hn with
        | row :: _, _ => rw [← q4 row (by simp), hsz row (by simp)]
      subst hs
      rcases q3.2 with ⟨h0, h1⟩ | ⟨g, cap, cur, h0, h1⟩
      · exact absurd (List.eq_nil_of_length_eq_zero h1) hn
      · have hc : ∀ (i j : Nat) (row : List PV) (q : PV), es'[i]? = some row → row[j]? = some q → ∃ u, w.cell? ⟨g, 0 + (i * sz' + j), none⟩ = some u ∧ VR M h q u ∧ u.oneCell' = true := fun i j row q e1 e2 => by
          have hi : i < es'.length := (List.getElem?_eq_some_iff.1 e1).1
          have hj : j < sz' := by have := (List.getElem?_eq_some_iff.1 e2).1; rw [q4 row (List.mem_of_getElem? e1)] at this; exact this
          have hm : (i + 1) * sz' ≤ es'.length * sz' := Nat.mul_le_mul_right _ hi
          rw [Nat.add_mul] at hm
          have hu : i * sz' + j < us.length := by rw [q3.1]; omega
          have := q3.cells (g := g) (by rw [h0]; rfl) (i * sz' + j) us[i * sz' + j] (by simp [hu])
          rw [addr_add] at this
          exact ⟨_, this, q5 i j row q _ e1 e2 (by simp [hu]), q6 _ (List.getElem_mem hu)⟩
        cases h0
        exact ⟨g, 0, _, rfl, hlt hc, hc⟩
    · cases he
  | val x =>
    unfold pelems at he
    split at he
    · rename_i heq; cases heq
    · rename_i heq; cases heq
    · rename_i heq; cases heq; simp at he; exact absurd he.symm (by simpa using hn)
    · cases he
  | _ => simp [pelems] at he
theorem bytes_fold (bs : List UInt8) : ∀ s : ByteArray, ((bs.map fun b => (b.toNat : Int)).foldl (fun r n => r.push (UInt8.ofNat n.toNat)) s) = ⟨s.data ++ bs.toArray⟩ := by
  induction bs with
  | nil => intro s; simp
  | cons b bs ih =>
    intro s
    simp only [List.map_cons, List.foldl_cons]
    rw [ih]
    simp [ByteArray.push]
theorem pstring_ok {P : Program} {T : Tys} (hT : TysOk P T) {M : Mem} {h : Home} {H : Hp} {w : World} (I : Inv M h H w) {x : PV} {v : Value} (r : VR M h x v) {s d : TypeId} {K : PV → Prop} (hk : pstring T H s d x K) :
    ∃ pv' v', K pv' ∧ VR M h pv' v' ∧ ∀ w', Ext w w' → (convert s d v).run P w' = .ok v' w' := by
  obtain ⟨i, j, e, sz, by', q, bs, hi, hj, hid, hjd, hq, hqd, hqs, he, hK⟩ := hk
  obtain ⟨_, ds, _, s2, s3, _, _⟩ := ty_parts (hT s i hi)
  obtain ⟨_, dd, _, d2, d3, _, _⟩ := ty_parts (hT d j hj)
  obtain ⟨_, de, _, e2, e3, _, _⟩ := ty_parts (hT e q hq)
  rw [hid] at s3
  rw [hjd] at d3
  rw [hqd] at e3
  have hs : ∃ sl, ds = .slice sl ∧ sl = e := by cases ds <;> simp [tdOf] at s3; exact ⟨_, rfl, s3.1⟩
  obtain ⟨_, rfl, rfl⟩ := hs
  have hd : dd = .string := by cases dd <;> simp [tdOf] at d3; rfl
  subst hd
  have hee : de = .int .u8 := by cases de <;> simp [tdOf] at e3; subst e3; rfl
  subst hee
  obtain ⟨o, c, rfl⟩ := pelems_len I r he
  refine ⟨_, _, hK, .val _, fun w' hb => ?_⟩
  rw [run_convert_bytes_string w' s d _ o _ c s2 e2 d2]
  by_cases hn : bs = []
  · subst hn
    cases o with
    | none => simp [Conv.bytesToString, Sem.run_pure]; rfl
    | some a =>
      have hl : (loadCells a 0).run P w' = .ok (([] : List Int).map (Value.int .u8)).toArray w' := by simp [loadCells, loadCellsFrom, Sem.run_pure]
      have := run_bytesToString (P := P) w' a 0 c [] hl
      simp at this
      exact this
  · obtain ⟨k, base, c', hv, _, hc⟩ := pelems_at I r he (by simpa [bytesL] using hn) 1 (by intro row hr; simp [bytesL] at hr; obtain ⟨b, _, rfl⟩ := hr; rfl) (by omega)
    simp only [Value.slice.injEq] at hv
    obtain ⟨rfl, _, rfl⟩ := hv
    have hlen : (bytesL bs).length = bs.length := by simp [bytesL]
    have hl : (loadCells ⟨k, base, none⟩ (bytesL bs).length).run P w' = .ok ((bs.map fun b => (b.toNat : Int)).map (Value.int .u8)).toArray w' := by
      have := run_loadCells_list (P := P) w' ⟨k, base, none⟩ ((bs.map fun b => (b.toNat : Int)).map (Value.int .u8)) fun j u hu => by
        rw [addr_add]
        simp only [List.getElem?_map, Option.map_map, Option.map_eq_some_iff] at hu
        obtain ⟨b, hb1, rfl⟩ := hu
        obtain ⟨u, h1, h2, -⟩ := hc j 0 [.val (.int .u8 b.toNat)] (.val (.int .u8 b.toNat)) (by simp [bytesL, hb1]) rfl
        have := vr_val h2
        subst this
        simp only [Nat.mul_one, Nat.add_zero] at h1
        exact ext_cell hb h1
      simpa [hlen] using this
    rw [run_bytesToString w' _ _ _ _ hl, bytes_fold]
    simp
end Go.Proofs.Ytcbknmnlgoeniaa
namespace Go.Proofs.Ytcbknmnlgoeniaa
open Go.RowKit
def CR (M : Mem) (h : Home) (cs : List PV) (vs : Array Value) : Prop := cs.length = vs.size ∧ ∀ (i : Nat) (pv : PV) (v : Value), cs[i]? = some pv → vs[i]? = some v → VR M h pv v
def pcellsOf : PV → List PV
  | .agg fs => fs
  | .val (.agg cs) => cs.toList.map .val
  | p => [p]
theorem pcellsOf_ok {M : Mem} {h : Home} {pv : PV} {v : Value} (r : VR M h pv v) : CR M h (pcellsOf pv) v.cells := by
  have one : ∀ {pv : PV} {v : Value}, VR M h pv v → CR M h [pv] #[v] := fun {pv v} r => ⟨rfl, fun i p u h1 h2 => by
    cases i with
    | zero => simp at h1 h2; subst h1; subst h2; exact r
    | succ i => simp at h1⟩
  cases r with
  | agg fs vs h1 h2 => exact ⟨h1, h2⟩
  | val =>
    cases v with
    | agg cs =>
      refine ⟨by simp [pcellsOf, Value.cells], fun i p u h1 h2 => ?_⟩
      simp only [pcellsOf, List.getElem?_map, Array.getElem?_toList] at h1
      simp only [Value.cells] at h2
      rw [h2] at h1
      cases h1
      exact .val _
    | _ => exact one (.val _)
  | sl0 sz o c => exact one (.sl0 sz o c)
  | sl sz es b off cap f h1 h2 h3 h4 h5 h6 => exact one (.sl sz es b off cap f h1 h2 h3 h4 h5 h6)
  | tup fs vs h1 h2 => exact one (.tup fs vs h1 h2)
  | ptr b o k hb => exact one (.ptr b o k hb)
  | own b o n c hb => exact one (.own b o n c hb)
  | eptr cs o b off f h1 h2 => exact one (.eptr cs o b off f h1 h2)
  | optr b sz i o g n c hb => exact one (.optr b sz i o g n c hb)
  | clo f caps vs h1 h2 => exact one (.clo f caps vs h1 h2)
def splice {α : Type} (cells : List α) (off : Nat) (xs : List α) : List α := cells.take off ++ (xs ++ cells.drop (off + xs.length))
theorem splice_len {α : Type} {cells : List α} {off : Nat} {xs : List α} (h : off + xs.length ≤ cells.length) : (splice cells off xs).length = cells.length := by simp [splice]; omega
theorem splice_get {α : Type} {cells : List α} {off : Nat} {xs : List α} (h : off + xs.length ≤ cells.length) (i : Nat) : (splice cells off xs)[i]? = if off ≤ i ∧ i < off + xs.length then xs[i - off]? else cells[i]? := by
  unfold splice
  by_cases h1 : i < off
  · rw [if_neg (by omega), List.getElem?_append_left (by simp; omega), List.getElem?_take, if_pos h1]
  · rw [List.getElem?_append_right (by simp; omega)]
    have e : (cells.take off).length = off := by simp; omega
    rw [e]
    by_cases h2 : i < off + xs.length
    · rw [if_pos ⟨by omega, h2⟩, List.getElem?_append_left (by omega)]
    · rw [if_neg (by omega), List.getElem?_append_right (by omega), List.getElem?_drop]
      congr 1
      omega
theorem put_get : ∀ (l : List Value) (off k : Nat) (cells : Array Value), off + k + l.length ≤ cells.size → ((l.zipIdx k).foldl (fun cs (c : Value × Nat) => cs.setIfInBounds (off + c.2) c.1) cells).size = cells.size ∧
    ∀ i, ((l.zipIdx k).foldl (fun cs (c : Value × Nat) => cs.setIfInBounds (off + c.2) c.1) cells)[i]? = if off + k ≤ i ∧ i < off + k + l.length then l[i - (off + k)]? else cells[i]?
  | [], off, k, cells, _ => ⟨rfl, fun i => by rw [if_neg (by simp)]; rfl⟩
  | x :: l, off, k, cells, hl => by
    simp only [List.length_cons] at hl
    simp only [List.zipIdx_cons, List.foldl_cons]
    obtain ⟨h1, h2⟩ := put_get l off (k + 1) (cells.setIfInBounds (off + k) x) (by simp; omega)
    refine ⟨by rw [h1]; simp, fun i => ?_⟩
    rw [h2]
    simp only [List.length_cons]
    by_cases e : i = off + k
    · subst e
      rw [if_neg (by omega), if_pos (by omega), Nat.sub_self, Array.getElem?_setIfInBounds_self_of_lt (by omega)]
      rfl
    · by_cases q : off + k ≤ i ∧ i < off + k + (l.length + 1)
      · rw [if_pos (by omega), if_pos q]
        obtain ⟨j, rfl⟩ : ∃ j, i = off + k + 1 + j := ⟨i - (off + k + 1), by omega⟩
        rw [show off + k + 1 + j - (off + (k + 1)) = j by omega, show off + k + 1 + j - (off + k) = j + 1 by omega]
        rfl
      · rw [if_neg (by omega), if_neg q, Array.getElem?_setIfInBounds_ne (by omega)]
theorem put_cr {M : Mem} {h : Home} {cells xs : List PV} {cs ys : Array Value} {off : Nat} (r : CR M h cells cs) (rx : CR M h xs ys) (hl : off + xs.length ≤ cells.length) :
    CR M h (splice cells off xs) (ys.zipIdx.foldl (fun cs (c : Value × Nat) => cs.setIfInBounds (off + c.2) c.1) cs) := by
  have e : ys.zipIdx.foldl (fun cs (c : Value × Nat) => cs.setIfInBounds (off + c.2) c.1) cs = (ys.toList.zipIdx 0).foldl (fun cs (c : Value × Nat) => cs.setIfInBounds (off + c.2) c.1) cs := by
    rw [← Array.foldl_toList]
    simp
  rw [e]
  obtain ⟨h1, h2⟩ := put_get ys.toList off 0 cs (by have := r.1; have := rx.1; simp; omega)
  refine ⟨by rw [splice_len hl, h1]; exact r.1, fun i pv v g1 g2 => ?_⟩
  rw [splice_get hl] at g1
  rw [h2] at g2
  have hx : xs.length = ys.toList.length := by rw [rx.1]; simp
  simp only [Nat.add_zero] at g2
  rw [← hx] at g2
  split at g1
  · rename_i q
    rw [if_pos q] at g2
    exact rx.2 _ _ _ g1 (by simpa using g2)
  · rename_i q
    rw [if_neg q] at g2
    exact r.2 _ _ _ g1 g2
def pfill (place : Nat → Option (Nat × Nat)) (cells : List PV) : List (Nat × PV) → Option (List PV)
  | [] => some cells
  | (i, p) :: rest => match place i with
    | none => none
    | some (off, size) => if (pcellsOf p).length = size ∧ off + size ≤ cells.length then pfill place (splice cells off (pcellsOf p)) rest else none
theorem pfill_ok {M : Mem} {h : Home} (place : Nat → Option (Nat × Nat)) : ∀ (parts : List (Nat × PV)) (vparts : List (Nat × Value)) (cells out : List PV) (cs : Array Value), All2 (fun (a : Nat × PV) (b : Nat × Value) => a.1 = b.1 ∧ VR M h a.2 b.2) parts vparts → CR M h cells cs → pfill place cells parts = some out →
    ∃ outv, Instr.fill place cs vparts = some outv ∧ CR M h out outv
  | [], [], cells, out, cs, _, r, hp => by simp [pfill] at hp; subst hp; exact ⟨cs, rfl, r⟩
  | (i, p) :: parts, (j, v) :: vparts, cells, out, cs, ha, r, hp => by
    obtain ⟨⟨e1, rv⟩, ha⟩ := ha
    simp only at e1
    subst e1
    simp only [pfill] at hp
    cases hpl : place i with
    | none => simp [hpl] at hp
    | some q =>
      obtain ⟨off, size⟩ := q
      simp only [hpl] at hp
      split at hp
      · rename_i hc
        have rc := pcellsOf_ok rv
        have r2 := put_cr r rc (by rw [hc.1]; exact hc.2)
        obtain ⟨outv, h1, h2⟩ := pfill_ok place parts vparts _ out _ ha r2 hp
        refine ⟨outv, ?_, h2⟩
        simp only [Instr.fill, hpl]
        rw [if_neg (by have q1 : (pcellsOf p).length = v.cells.size := rc.1; have q2 := r.1; have e : v.cells.size = size := by omega
                       simp [e]; omega)]
        exact h1
      · cases hp
  | [], _ :: _, _, _, _, ha, _, _ => ha.elim
  | _ :: _, [], _, _, _, ha, _, _ => ha.elim
def vparts (a : Act) (parts : Array (Nat × Operand)) : List (Nat × Value) := parts.toList.map fun p => (p.1, a.eval p.2)
def pparts (tm : List PV) (parts : Array (Nat × Operand)) : List (Nat × PV) := parts.toList.map fun p => (p.1, ev tm p.2)
theorem parts_ok {M : Mem} {h : Home} {tm : List PV} {a : Act} (ht : TmOk M h tm a.tmps) (parts : Array (Nat × Operand)) : All2 (fun (a : Nat × PV) (b : Nat × Value) => a.1 = b.1 ∧ VR M h a.2 b.2) (pparts tm parts) (vparts a parts) := by
  unfold pparts vparts
  generalize parts.toList = l
  induction l with
  | nil => trivial
  | cons p l ih => exact ⟨⟨rfl, ev_vr ht _⟩, ih⟩
def pbuild (T : Tys) (t : TypeId) (parts : List (Nat × PV)) (K : PV → Prop) : Prop :=
  ∃ i cs, T t = some i ∧ (match i.d with
    | .struct fs => (∀ q ∈ fs, q.2.1 ≠ 0) ∧ pfill ((fs.map fun q => (q.1, q.2.1))[·]?) (pcellsOf (cPV i.zero)) parts = some cs
    | .array _ _ sz => pfill (fun i => some (i * sz, sz)) (pcellsOf (cPV i.zero)) parts = some cs
    | _ => False) ∧ K (.agg cs)
theorem pbuild_ok {P : Program} {T : Tys} (hT : TysOk P T) (hE : elemsOk P T) {M : Mem} {h : Home} {parts : List (Nat × PV)} {vps : Array (Nat × Value)} (r : All2 (fun (a : Nat × PV) (b : Nat × Value) => a.1 = b.1 ∧ VR M h a.2 b.2) parts vps.toList) {t : TypeId} {K : PV → Prop} (hk : pbuild T t parts K) :
    ∃ pv' v', K pv' ∧ VR M h pv' v' ∧ ∀ w', (Instr.build t vps).run P w' = .ok v' w' := by
  obtain ⟨i, cs, hi, hc, hk⟩ := hk
  have hEt := hE t i hi
  obtain ⟨f', d, p1, p2, p3, p4, p5⟩ := ty_parts (hT t i hi)
  have rz := pcellsOf_ok (cPV_vr (M := M) (h := h) i.zero)
  have done : ∀ place, pfill place (pcellsOf (cPV i.zero)) parts = some cs → (∀ outv, Instr.fill place i.zero.cells vps.toList = some outv → P.built t vps.toList = some outv) → ∃ pv' v', K pv' ∧ VR M h pv' v' ∧ ∀ w', (Instr.build t vps).run P w' = .ok v' w' := fun place hp hb => by
    obtain ⟨outv, h1, h2⟩ := pfill_ok place parts _ _ _ _ r rz hp
    exact ⟨_, .agg outv, hk, .agg _ _ h2.1 h2.2, fun w' => run_build w' t vps outv (hb outv h1)⟩
  cases d with
  | struct fs =>
    simp only [tdOf] at p3
    rw [← p3] at hc
    simp only at hc
    obtain ⟨h0, h1⟩ := hc
    refine done _ h1 fun outv h2 => ?_
    have hpl : ∀ l : List Field, (∀ q ∈ l.map (fun f => (f.offset, (if (P.underlying f.type).isSome then P.cellsOf f.type else 0), aggT P f.type)), q.2.1 ≠ 0) →
        l.mapM (fun f => (P.info? f.type).map fun i => (f.offset, i.size)) = some ((l.map (fun f => (f.offset, (if (P.underlying f.type).isSome then P.cellsOf f.type else 0), aggT P f.type))).map fun q => (q.1, q.2.1)) := fun l => by
      induction l with
      | nil => intro _; rfl
      | cons f l ih =>
        intro hq
        have q0 := hq _ (by simp only [List.map_cons, List.mem_cons]; exact .inl rfl)
        simp only at q0
        have q1 := ih fun q hm => hq q (by simp only [List.map_cons, List.mem_cons]; exact .inr hm)
        cases hu : P.underlying f.type with
        | none => simp [hu] at q0
        | some du =>
          have hi' : (P.info? f.type).isSome := by
            unfold Program.underlying at hu
            cases hq : P.info? f.type with
            | none => simp [hq] at hu
            | some _ => rfl
          obtain ⟨ti, hti⟩ := Option.isSome_iff_exists.1 hi'
          simp only [List.mapM_cons, hti, Option.map_some, Option.bind_eq_bind, Option.bind_some, q1, Option.pure_def, List.map_cons, hu, Option.isSome_some, if_true, Program.cellsOf, Option.getD_some]
    unfold Program.built
    simp only [p1, p2, p5, hpl _ h0]
    rw [← h2]
    congr 1
    funext x
    simp
  | array n e =>
    simp only [tdOf] at p3
    rw [← p3] at hc hEt
    simp only at hc hEt
    refine done _ hc fun outv h2 => ?_
    obtain ⟨ie, hie⟩ := Option.isSome_iff_exists.1 hEt
    unfold Program.built
    simp only [p1, p2, p5, hie]
    rw [← h2]
    simp [Program.cellsOf, hie]
  | _ => simp only [tdOf] at p3; rw [← p3] at hc; exact hc.elim
end Go.Proofs.Ytcbknmnlgoeniaa
namespace Go.Proofs.Ytcbknmnlgoeniaa
open Go.RowKit
def pptr : PV → Bool
  | .ptr .. => true
  | .eptr .. => true
  | .optr .. => true
  | .clo .. => true
  | _ => false
theorem pptr_ok {M : Mem} {h : Home} {pv : PV} {v : Value} (r : VR M h pv v) (hp : pptr pv = true) : (∃ a, v = .pointer (some a)) ∨ ∃ f c, v = .func (.func f) #[] c := by
  cases r with
  | ptr => exact .inl ⟨_, rfl⟩
  | eptr => exact .inl ⟨_, rfl⟩
  | optr => exact .inl ⟨_, rfl⟩
  | clo => exact .inr ⟨_, _, rfl⟩
  | _ => simp [pptr] at hp
def py (P : Program) (T : Tys) (tm : List PV) (H : Hp) (op : Op) (ty : TypeId) (K : PV → Prop) : Prop :=
  match op with
  | .move x => K (ev tm x)
  | .assign x => K (ev tm x)
  | .pick c a b => ∃ t, ev tm c = .val (.bool t) ∧ K (if t then ev tm a else ev tm b)
  | .build t parts => pbuild T t (pparts tm parts) K
  | .load t a => ∃ q, pcells H (ev tm a) = some q ∧ pload T t q.1 q.2 K
  | .nilCheck x => pptr (ev tm x) = true ∧ K (ev tm x)
  | .binOp bop xt x y _ => ∃ u v r, flat (ev tm x) = some u ∧ flat (ev tm y) = some v ∧ sflat P (do eqGuard bop xt x y u v; binOp bop xt u v) = some r ∧ K (.val r)
  | .unOp uop _ x => ∃ u r, flat (ev tm x) = some u ∧ sflat P (Op.unary uop u) = some r ∧ K (.val r)
  | .convert s d x => match ev tm x with
    | .val u => ∃ r, sflat P (convert s d u) = some r ∧ K (.val r)
    | pv => pstring T H s d pv K
  | .makeFunc (.func f) first caps => first = #[] ∧ K (.clo f (caps.toList.map (ev tm)))
  | .slice t x lo hi mx => mx = none ∧ pslice T t (ev tm x) (lo.map (ev tm)) (hi.map (ev tm)) K
  | .fieldAddr s x f => pfieldAddr T s (ev tm x) f K
  | .field s x f => pfield T s (ev tm x) f K
  | .indexAddr t x i => pindexAddr T H t (ev tm x) (ev tm i) K
  | .index t x i => pindex T t (ev tm x) (ev tm i) K
  | .extract t i => pextract (ev tm t) i K
  | .call ⟨.builtin .len, args, ats⟩ => ∃ x t, args.toList = [x] ∧ ats.toList = [t] ∧ plen T H t (ev tm x) K
  | .call ⟨.builtin .min, args, ats⟩ => ∃ x y u v r, args.toList = [x, y] ∧ flat (ev tm x) = some u ∧ flat (ev tm y) = some v ∧ sflat P (Builtin.min_ ats ty #[u, v]) = some r ∧ K (.val r)
  | .call ⟨.builtin .max, args, ats⟩ => ∃ x y u v r, args.toList = [x, y] ∧ flat (ev tm x) = some u ∧ flat (ev tm y) = some v ∧ sflat P (Builtin.max_ ats ty #[u, v]) = some r ∧ K (.val r)
  | _ => False
def extOp : Op → Bool
  | .box _ _ => true
  | .alloc _ => true
  | .buildSlice _ _ _ => true
  | .makeSlice _ _ _ => true
  | .call ⟨.value _, _, _⟩ => true
  | .call ⟨.builtin .append, args, _⟩ => match args.toList with | .const (.slice none 0 0) :: _ => true | _ => false
  | _ => false
def quietM : Op → Bool
  | .convert _ _ _ => false
  | .slice _ _ _ _ _ => false
  | .call ⟨.value _, _, _⟩ => false
  | _ => true
def tgt (tm : List PV) : Op → Option Nat
  | .store _ a _ => match ev tm a with | .ptr b _ => some b | .optr b _ _ _ => some b | _ => none
  | .call ⟨.builtin .append, args, _⟩ => match args.toList with | s :: _ => (match ev tm s with | .own b => some b | _ => none) | _ => none
  | _ => none
def kindOp : Op → Nat
  | .move _ => 0
  | .assign _ => 0
  | .pick _ _ _ => 0
  | .build _ _ => 0
  | .nilCheck _ => 0
  | .binOp _ _ _ _ _ => 0
  | .unOp _ _ _ => 0
  | .makeFunc _ _ _ => 0
  | .slice _ _ _ _ _ => 0
  | .fieldAddr _ _ _ => 0
  | .field _ _ _ => 0
  | .indexAddr _ _ _ => 0
  | .index _ _ _ => 0
  | .extract _ _ => 0
  | .call ⟨.builtin .len, _, _⟩ => 0
  | .call ⟨.builtin .min, _, _⟩ => 0
  | .call ⟨.builtin .max, _, _⟩ => 0
  | .load _ _ => 1
  | .convert _ _ _ => 1
  | op => if extOp op then 2 else 3
theorem arr_eq {α : Type} {a : Array α} {l : List α} (h : a.toList = l) : a = l.toArray := by rw [← h]
theorem run_v {P : Program} {s : Sem Value} {v : Value} {w w' : World} (h : s.run P w = .ok v w') : (do pure (Next.value (← s)) : Sem Next).run P w = .ok (.value v) w' := by
  simp only [Sem.run_bind, h, Result.andThen_ok, Sem.run_pure]
theorem vro_map {M : Mem} {h : Home} {tm : List PV} {a : Act} (ht : TmOk M h tm a.tmps) (x : Option Operand) : VRo M h (x.map (ev tm)) (x.map a.eval) := by
  cases x with
  | none => trivial
  | some x => exact ev_vr ht x
set_option maxHeartbeats 1000000 in
theorem py_ok {P : Program} {T : Tys} (hT : TysOk P T) (hE : elemsOk P T) {M : Mem} {h : Home} {H : Hp} {w : World} (I : Inv M h H w) {tm : List PV} {a : Act} (ht : TmOk M h tm a.tmps) (o : Oper) {K : PV → Prop} (hk : py P T tm H o.op o.type K) :
    ∃ pv v, K pv ∧ VR M h pv v ∧ ∀ w', (kindOp o.op = 1 → Ext w w') → (execOp a.eval o).run P w' = .ok (.value v) w' := by
  obtain ⟨dst, op, ty, pos, after, guard⟩ := o
  simp only at hk
  unfold py at hk
  unfold execOp
  simp only
  split at hk
  · exact ⟨_, _, hk, ev_vr ht _, fun w' _ => by simp only [Sem.run_pure]⟩
  · exact ⟨_, _, hk, ev_vr ht _, fun w' _ => by simp only [Sem.run_pure]⟩
  · rename_i c x y
    obtain ⟨t, h1, h2⟩ := hk
    have hc := ev_vr ht c
    rw [h1] at hc
    have e := vr_val hc
    refine ⟨_, if t then a.eval x else a.eval y, h2, by cases t; exact ev_vr ht y; exact ev_vr ht x, fun w' _ => ?_⟩
    simp only [e, asBool, Sem.run_bind, Sem.run_pure, Result.andThen_ok]
  · rename_i t parts
    obtain ⟨pv, v, h1, h2, h3⟩ := pbuild_ok hT hE (vps := parts.map fun p => (p.1, a.eval p.2)) (by have := parts_ok ht parts; unfold vparts at this; simpa using this) hk
    exact ⟨pv, v, h1, h2, fun w' _ => run_v (h3 w')⟩
  · rename_i t x
    obtain ⟨⟨cs, o⟩, h1, h2⟩ := hk
    obtain ⟨pv, v, h3, h4, h5⟩ := pload_ok hT I (ev_vr ht x) h1 h2
    exact ⟨pv, v, h3, h4, fun w' hb => run_v (h5 w' (hb rfl))⟩
  · rename_i x
    have hx := ev_vr ht x
    refine ⟨_, _, hk.2, hx, fun w' _ => ?_⟩
    rcases pptr_ok hx hk.1 with ⟨ad, e⟩ | ⟨f, c, e⟩
    · simp only [e, Sem.run_pure]
    · simp only [e, Sem.run_pure]
  · rename_i bop xt x y yt
    obtain ⟨u, v, r, h1, h2, h3, h4⟩ := hk
    have e1 := flat_vr h1 (ev_vr ht x)
    have e2 := flat_vr h2 (ev_vr ht y)
    subst e1
    subst e2
    exact ⟨_, r, h4, .val _, fun w' _ => run_v (sflat_run h3 w')⟩
  · rename_i uop xt x
    obtain ⟨u, r, h1, h3, h4⟩ := hk
    have e1 := flat_vr h1 (ev_vr ht x)
    subst e1
    exact ⟨_, r, h4, .val _, fun w' _ => run_v (sflat_run h3 w')⟩
  · rename_i s d x
    have hx := ev_vr ht x
    split at hk
    · rename_i u hu
      obtain ⟨r, h1, h2⟩ := hk
      rw [hu] at hx
      have e := vr_val hx
      subst e
      exact ⟨_, r, h2, .val _, fun w' _ => run_v (sflat_run h1 w')⟩
    · obtain ⟨pv, v, h3, h4, h5⟩ := pstring_ok hT I hx hk
      exact ⟨pv, v, h3, h4, fun w' hb => run_v (h5 w' (hb rfl))⟩
  · rename_i f first caps
    obtain ⟨rfl, hk⟩ := hk
    refine ⟨_, .func (.func f) #[] (caps.map a.eval), hk, .clo _ _ _ (by simp) fun i pv v h1 h2 => ?_, fun w' _ => ?_⟩
    · simp only [List.getElem?_map, Array.getElem?_toList, Array.getElem?_map, Option.map_eq_some_iff] at h1 h2
      obtain ⟨x, q1, rfl⟩ := h1
      obtain ⟨y, q2, rfl⟩ := h2
      rw [q1] at q2
      cases q2
      exact ev_vr ht x
    · exact run_v (by simp [Instr.makeFunc, Sem.run_pure])
  · rename_i t x lo hi mx
    obtain ⟨rfl, hk⟩ := hk
    obtain ⟨pv, v, h3, h4, h5⟩ := pslice_ok hT hE (ev_vr ht x) (vro_map ht lo) (vro_map ht hi) hk
    exact ⟨pv, v, h3, h4, fun w' hb => run_v (h5 w')⟩
  · rename_i s x f
    obtain ⟨pv, v, h3, h4, h5⟩ := pfieldAddr_ok hT (ev_vr ht x) hk
    exact ⟨pv, v, h3, h4, fun w' hb => run_v (h5 w')⟩
  · rename_i s x f
    obtain ⟨pv, v, h3, h4, h5⟩ := pfield_ok hT (ev_vr ht x) hk
    exact ⟨pv, v, h3, h4, fun w' hb => run_v (h5 w')⟩
  · rename_i t x i
    obtain ⟨pv, v, h3, h4, h5⟩ := pindexAddr_ok hT hE I (ev_vr ht x) (ev_vr ht i) hk
    exact ⟨pv, v, h3, h4, fun w' hb => run_v (h5 w')⟩
  · rename_i t x i
    obtain ⟨pv, v, h3, h4, h5⟩ := pindex_ok hT (ev_vr ht x) (ev_vr ht i) hk
    exact ⟨pv, v, h3, h4, fun w' hb => run_v (h5 w')⟩
  · rename_i t i
    obtain ⟨pv, v, h3, h4, h5⟩ := pextract_ok (P := P) (ev_vr ht t) hk
    exact ⟨pv, v, h3, h4, fun w' hb => run_v (h5 w')⟩
  · rename_i args ats
    obtain ⟨x, t, ha, hb, hk⟩ := hk
    obtain rfl := arr_eq ha
    obtain rfl := arr_eq hb
    obtain ⟨pv, v, h3, h4, h5⟩ := plen_ok hT I (ev_vr ht x) hk
    refine ⟨pv, v, h3, h4, fun w' hb => ?_⟩
    simp only [resolve, invoke, builtin, Sem.run_bind, Sem.run_pure, Result.andThen_ok, List.map_toArray, List.map_cons, List.map_nil, h5]
  · rename_i args ats
    obtain ⟨x, y, u, v, r, ha, h1, h2, h3, h4⟩ := hk
    obtain rfl := arr_eq ha
    have e1 := flat_vr h1 (ev_vr ht x)
    have e2 := flat_vr h2 (ev_vr ht y)
    refine ⟨_, r, h4, .val _, fun w' _ => ?_⟩
    simp only [resolve, invoke, builtin, Sem.run_bind, Sem.run_pure, Result.andThen_ok, List.map_toArray, List.map_cons, List.map_nil, e1, e2, sflat_run h3 w']
  · rename_i args ats
    obtain ⟨x, y, u, v, r, ha, h1, h2, h3, h4⟩ := hk
    obtain rfl := arr_eq ha
    have e1 := flat_vr h1 (ev_vr ht x)
    have e2 := flat_vr h2 (ev_vr ht y)
    refine ⟨_, r, h4, .val _, fun w' _ => ?_⟩
    simp only [resolve, invoke, builtin, Sem.run_bind, Sem.run_pure, Result.andThen_ok, List.map_toArray, List.map_cons, List.map_nil, e1, e2, sflat_run h3 w']
  · exact hk.elim
end Go.Proofs.Ytcbknmnlgoeniaa
namespace Go.Proofs.Ytcbknmnlgoeniaa
open Go.RowKit
structure Step (M : Mem) (h : Home) (H : Hp) (w : World) (M' : Mem) (h' : Home) (H' : Hp) (w' : World) : Prop where
  mle : MLe M M'
  hle : HLe h h'
  inv : Inv M' h' H' w'
  chg : ChgS (Homes h H) w w'
  sub : ∀ k, Homes h' H' k → Homes h H k ∨ w.heap.size ≤ k
  new : ∀ k o v, M' k o = some v → M k o = some v ∨ Homes h H k ∨ w.heap.size ≤ k
theorem Step.refl {M : Mem} {h : Home} {H : Hp} {w : World} (I : Inv M h H w) : Step M h H w M h H w := ⟨.refl _, .refl _, I, .refl, fun _ hk => .inl hk, fun _ _ _ q => .inl q⟩
theorem Step.trans {M M' M'' : Mem} {h h' h'' : Home} {H H' H'' : Hp} {w w' w'' : World} (s : Step M h H w M' h' H' w') (t : Step M' h' H' w' M'' h'' H'' w'') : Step M h H w M'' h'' H'' w'' where
  mle := s.mle.trans t.mle
  hle := s.hle.trans t.hle
  inv := t.inv
  chg := s.chg.after t.chg s.sub
  sub k hk := by
    rcases t.sub k hk with q | q
    · exact s.sub k q
    · right; have := s.chg.size; omega
  new k o v q := by
    rcases t.new k o v q with q | q | q
    · exact s.new k o v q
    · exact .inr (s.sub k q)
    · right; right; have := s.chg.size; omega
theorem Step.ext {M : Mem} {h : Home} {H : Hp} {w w' : World} (I : Inv M h H w) (hb : Ext w w') : Step M h H w M h H w' := ⟨.refl _, .refl _, I.ext hb, hb.chgS, fun _ hk => .inl hk, fun _ _ _ q => .inl q⟩
def upd (h : Home) (n : Nat) (v : Value) : Home := fun b => if b = n then some v else h b
theorem upd_le {h : Home} {n : Nat} {v : Value} (hn : ∀ b u, h b = some u → b < n) : HLe h (upd h n v) := fun b u q => by
  have := hn b u q
  unfold upd
  rw [if_neg (by omega)]
  exact q
theorem upd_self {h : Home} {n : Nat} {v : Value} : upd h n v n = some v := by simp [upd]
theorem getElem?_snoc {α : Type} {l : List α} {x : α} {b : Nat} {y : α} (h : (l ++ [x])[b]? = some y) : (b < l.length ∧ l[b]? = some y) ∨ (b = l.length ∧ y = x) := by
  by_cases q : b < l.length
  · rw [List.getElem?_append_left q] at h
    exact .inl ⟨q, h⟩
  · rw [List.getElem?_append_right (by omega)] at h
    have : b - l.length = 0 := by
      by_cases e : b - l.length = 0
      · exact e
      · rw [List.getElem?_eq_none (by simp; omega)] at h; cases h
    rw [this] at h
    simp at h
    exact .inr ⟨by omega, h.symm⟩
theorem Inv.push {M : Mem} {h : Home} {H : Hp} {w : World} (I : Inv M h H w) {B : Blk} {v : Value} (hr : BR M (upd h H.length v) w v B) (hk : ∀ k, hblk v = some k → ¬ Homes h H k ∧ ∀ o, M k o = none) : Inv M (upd h H.length v) (H ++ [some B]) w := by
  have old : ∀ {b : Nat} {u : Value}, b < H.length → upd h H.length v b = some u → h b = some u := fun {b u} q e => by
    unfold upd at e
    rw [if_neg (by omega)] at e
    exact e
  refine ⟨I.mem, I.one, fun b B' q => ?_, fun k q o => ?_, fun b b' B1 B2 v1 v2 k g1 g2 g3 g4 g5 g6 => ?_, fun b u q => ?_, I.glob⟩
  · rcases getElem?_snoc q with ⟨q1, q2⟩ | ⟨q1, q2⟩
    · obtain ⟨u, e1, e2⟩ := I.blk b B' q2
      exact ⟨u, upd_le I.len b u e1, e2.mono (.refl _) (upd_le I.len) fun _ _ => rfl⟩
    · subst q1
      cases q2
      exact ⟨v, upd_self, hr⟩
  · obtain ⟨b, B', u, h1, h2, h3⟩ := q
    rcases getElem?_snoc h1 with ⟨q1, q2⟩ | ⟨q1, q2⟩
    · exact I.sep k ⟨b, B', u, q2, old q1 h2, h3⟩ o
    · subst q1
      rw [upd_self] at h2
      cases h2
      exact (hk k h3).2 o
  · rcases getElem?_snoc g1 with ⟨q1, q2⟩ | ⟨q1, q2⟩ <;> rcases getElem?_snoc g2 with ⟨q3, q4⟩ | ⟨q3, q4⟩
    · exact I.inj b b' B1 B2 v1 v2 k q2 q4 (old q1 g3) (old q3 g4) g5 g6
    · subst q3
      rw [upd_self] at g4
      cases g4
      exact absurd ⟨b, B1, v1, q2, old q1 g3, g5⟩ (hk k g6).1
    · subst q1
      rw [upd_self] at g3
      cases g3
      exact absurd ⟨b', B2, v2, q4, old q3 g4, g6⟩ (hk k g5).1
    · omega
  · unfold upd at q
    simp only [List.length_append, List.length_singleton]
    split at q
    · omega
    · have := I.len b u q; omega
theorem Homes.push {h : Home} {H : Hp} {B : Blk} {v : Value} {k : Nat} (q : Homes (upd h H.length v) (H ++ [some B]) k) : Homes h H k ∨ hblk v = some k := by
  obtain ⟨b, B', u, h1, h2, h3⟩ := q
  rcases getElem?_snoc h1 with ⟨q1, q2⟩ | ⟨q1, q2⟩
  · left
    unfold upd at h2
    rw [if_neg (by omega)] at h2
    exact ⟨b, B', u, q2, h2, h3⟩
  · right
    subst q1
    rw [upd_self] at h2
    cases h2
    exact h3
theorem Inv.fresh {M : Mem} {h : Home} {H : Hp} {w : World} (I : Inv M h H w) {k : Nat} (hk : w.heap.size ≤ k) : ¬ Homes h H k ∧ ∀ o, M k o = none := by
  refine ⟨fun q => by have := I.home_lt q; omega, fun o => ?_⟩
  cases hm : M k o with
  | none => rfl
  | some x => have := I.mem_lt hm; omega
theorem Step.push {M : Mem} {h : Home} {H : Hp} {w w' : World} (I : Inv M h H w) (hb : Ext w w') {B : Blk} {v : Value} (hr : BR M (upd h H.length v) w' v B) (hk : ∀ k, hblk v = some k → w.heap.size ≤ k) :
    Step M h H w M (upd h H.length v) (H ++ [some B]) w' where
  mle := .refl _
  hle := upd_le I.len
  chg := hb.chgS
  sub k q := (Homes.push q).imp id (hk k)
  new _ _ _ q := .inl q
  inv := (I.ext hb).push hr fun k q => I.fresh (hk k q)
theorem Inv.grown {M : Mem} {h : Home} {H : Hp} {w w' : World} {row : Option Nat} (I : Inv M h H w) (hg : w.grownBy w' row) (hk : ∀ k, row = some k → ¬ Homes h H k ∧ ∀ o, M k o = none) : Inv M h H w' := by
  refine ⟨fun b o v q => ?_, I.one, fun b B q => ?_, I.sep, I.inj, I.len, I.glob⟩
  · refine hg.cell (I.mem b o v q) ?_
    intro e
    rw [(hk b e.symm).2 o] at q
    cases q
  · obtain ⟨v, e1, e2⟩ := I.blk b B q
    refine ⟨v, e1, e2.mono (.refl _) (.refl _) fun k hk' => hg.block k (e2.lt hk') ?_⟩
    intro e
    exact (hk k e.symm).1 ⟨b, B, v, q, e1, hk'⟩
theorem Inv.kill {M : Mem} {h : Home} {H : Hp} {w : World} (I : Inv M h H w) (b : Nat) : Inv M h (H.set b none) w := by
  have old : ∀ {c : Nat} {B : Blk}, (H.set b none)[c]? = some (some B) → H[c]? = some (some B) := fun {c B} q => by
    by_cases e : b = c
    · subst e
      rw [List.getElem?_set] at q
      simp at q
    · rw [List.getElem?_set_ne e] at q
      exact q
  exact ⟨I.mem, I.one, fun c B q => I.blk c B (old q), fun k ⟨c, B, v, q, r⟩ o => I.sep k ⟨c, B, v, old q, r⟩ o, fun c c' B B' v v' k g1 g2 => I.inj c c' B B' v v' k (old g1) (old g2), fun c v q => by simp; exact I.len c v q, I.glob⟩
theorem Homes.kill {h : Home} {H : Hp} {b k : Nat} (q : Homes h (H.set b none) k) : Homes h H k := by
  obtain ⟨c, B, v, q1, q2⟩ := q
  refine ⟨c, B, v, ?_, q2⟩
  by_cases e : b = c
  · subst e
    rw [List.getElem?_set] at q1
    simp at q1
  · rw [List.getElem?_set_ne e] at q1
    exact q1
theorem Step.turn {M : Mem} {h : Home} {H : Hp} {w w' : World} (I : Inv M h H w) {b k : Nat} {B B' : Blk} {v : Value} (hH : H[b]? = some (some B)) (hv : h b = some v) (hk : hblk v = some k) (hg : w.grownBy w' (some k)) (hr : BR M h w' v B') :
    Step M h H w M h (H.set b (some B')) w' := by
  have hhome : Homes h H k := ⟨b, B, v, hH, hv, hk⟩
  have hlt := I.home_lt hhome
  have hb : b < H.length := (List.getElem?_eq_some_iff.1 hH).1
  have old : ∀ {c : Nat} {C : Blk}, (H.set b (some B'))[c]? = some (some C) → (c = b ∧ C = B') ∨ (c ≠ b ∧ H[c]? = some (some C)) := fun {c C} q => by
    by_cases e : b = c
    · subst e
      rw [List.getElem?_set_self hb] at q
      simp at q
      exact .inl ⟨rfl, q.symm⟩
    · rw [List.getElem?_set_ne e] at q
      exact .inr ⟨Ne.symm e, q⟩
  have sub : ∀ {j : Nat}, Homes h (H.set b (some B')) j → Homes h H j := fun {j} ⟨c, C, u, q1, q2, q3⟩ => by
    rcases old q1 with ⟨rfl, rfl⟩ | ⟨_, q⟩
    · exact ⟨c, B, u, hH, q2, q3⟩
    · exact ⟨c, C, u, q, q2, q3⟩
  refine ⟨.refl _, .refl _, ⟨fun c o u q => ?_, I.one, fun c C q => ?_, fun j q o => I.sep j (sub q) o, fun c c' C C' u u' j g1 g2 g3 g4 g5 g6 => ?_, fun c u q => by simp; exact I.len c u q, I.glob⟩, ⟨hg.os, hg.tape, hg.output, hg.size, fun j hj hn => hg.block j hj (by intro e; cases e; exact hn hhome)⟩, fun j q => .inl (sub q), fun _ _ _ q => .inl q⟩
  · have hne : c ≠ k := fun e => by subst e; rw [I.sep _ hhome o] at q; cases q
    exact hg.cell (I.mem c o u q) (by simpa using hne)
  · rcases old q with ⟨rfl, rfl⟩ | ⟨hne, q⟩
    · exact ⟨v, hv, hr⟩
    · obtain ⟨u, e1, e2⟩ := I.blk c C q
      refine ⟨u, e1, e2.mono (.refl _) (.refl _) fun j hj => hg.block j (e2.lt hj) ?_⟩
      intro e
      cases e
      exact hne (I.inj c b C B u v k q hH e1 hv hj hk)
  · have live : ∀ {c : Nat} {C : Blk}, (H.set b (some B'))[c]? = some (some C) → ∃ C', H[c]? = some (some C') := fun {c C} q => by
      rcases old q with ⟨rfl, rfl⟩ | ⟨_, q⟩
      · exact ⟨B, hH⟩
      · exact ⟨C, q⟩
    obtain ⟨C1, e1⟩ := live g1
    obtain ⟨C2, e2⟩ := live g2
    exact I.inj c c' C1 C2 u u' j e1 e2 g3 g4 g5 g6
theorem Step.memo {M : Mem} {h : Home} {H : Hp} {w w' : World} (I : Inv M h H w) (hb : Ext w w') {g : Nat} {f : Nat → Option Value} (hg : w.heap.size ≤ g) (hf : ∀ o u, f o = some u → w'.cell? ⟨g, o, none⟩ = some u ∧ u.oneCell' = true) :
    Step M h H w (fun b o => if b = g then f o else M b o) h H w' := by
  have hM : MLe M (fun b o => if b = g then f o else M b o) := fun b o v q => by
    have := I.mem_lt q
    show (if b = g then f o else M b o) = some v
    rw [if_neg (by omega)]
    exact q
  have I' := I.ext hb
  refine ⟨hM, .refl _, ⟨fun b o v q => ?_, fun b o v q => ?_, fun b B q => ?_, fun k q o => ?_, I.inj, I.len, I.glob.mono hM⟩, hb.chgS, fun k q => .inl q, fun k o v q => ?_⟩
  · split at q
    · rename_i e; subst e; exact (hf o v q).1
    · exact I'.mem b o v q
  · split at q
    · rename_i e; subst e; exact (hf o v q).2
    · exact I'.one b o v q
  · obtain ⟨v, e1, e2⟩ := I'.blk b B q
    exact ⟨v, e1, e2.mono hM (.refl _) fun _ _ => rfl⟩
  · have := I.home_lt q
    show (if k = g then f o else M k o) = none
    rw [if_neg (by omega)]
    exact I.sep k q o
  · split at q
    · right; right; omega
    · exact .inl q
end Go.Proofs.Ytcbknmnlgoeniaa
namespace Go.Proofs.Ytcbknmnlgoeniaa
open Go.RowKit
def oneP : PV → Bool
  | .agg _ => false
  | .tup _ => false
  | .val (.agg _) => false
  | .val (.tuple _) => false
  | _ => true
theorem oneP_ok {M : Mem} {h : Home} {pv : PV} {v : Value} (r : VR M h pv v) (ho : oneP pv = true) : v.oneCell' = true := by
  cases r with
  | val => cases v <;> first | rfl | simp [oneP] at ho
  | agg => simp [oneP] at ho
  | tup => simp [oneP] at ho
  | _ => rfl
theorem CR.one {M : Mem} {h : Home} {cs : List PV} {vs : Array Value} (r : CR M h cs vs) (ho : cs.all oneP = true) : ∀ u ∈ vs, u.oneCell' = true := by
  intro u hu
  obtain ⟨i, hi, rfl⟩ := Array.getElem_of_mem hu
  have hl : i < cs.length := by rw [r.1]; exact hi
  exact oneP_ok (r.2 i _ _ (List.getElem?_eq_getElem hl) (Array.getElem?_eq_getElem hi)) (List.all_eq_true.1 ho _ (List.getElem_mem hl))
theorem box_ok {P : Program} {M : Mem} {h : Home} {H : Hp} {w : World} (I : Inv M h H w) {cs : List PV} {vs : Array Value} (r : CR M h cs vs) (ho : cs.all oneP = true) (t : TypeId) {v : Value} (hv : v.cells = vs) :
    ∃ h' w', (newVar t v).run P w = .ok ⟨w.heap.size, 0, none⟩ w' ∧ Step M h H w M h' (H ++ [some (.box cs)]) w' ∧ VR M h' (.ptr H.length 0) (.pointer (some ⟨w.heap.size, 0, none⟩)) ∧ Ext w w' := by
  have hb : Ext w (w.alloc (.cells vs t)) := (Ext.refl w).alloc _
  refine ⟨upd h H.length (.pointer (some ⟨w.heap.size, 0, none⟩)), w.alloc (.cells vs t), ?_, ?_, .ptr _ _ _ upd_self, hb⟩
  · simp only [newVar, newRow, hv]
    rfl
  · refine Step.push I hb ⟨w.heap.size, vs, t, rfl, heap_alloc_new w _, r.1.symm, r.one ho, fun j pv u a b => (r.2 j pv u a b).mono (.refl _) (upd_le I.len)⟩ fun k hk => ?_
    simp [hblk] at hk
    omega
theorem own_all {M : Mem} {h : Home} {rows : List (List PV)} {sz : Nat} {us : List Value} (hl : ∀ row ∈ rows, row.length = sz) (hu : us.length = rows.length * sz)
    (hv : ∀ (i j : Nat) (row : List PV) (pv : PV) (u : Value), rows[i]? = some row → row[j]? = some pv → us[i * sz + j]? = some u → VR M h pv u) (ho : ∀ row ∈ rows, row.all oneP = true) : ∀ u ∈ us, u.oneCell' = true := by
  intro u hm
  obtain ⟨n, hn, rfl⟩ := List.getElem_of_mem hm
  by_cases hz : sz = 0
  · subst hz; rw [hu, Nat.mul_zero] at hn; omega
  · obtain ⟨i, j, rfl, hj⟩ := divide (o := n) (by omega : 0 < sz)
    have hi : i < rows.length := by
      rcases Nat.lt_or_ge i rows.length with q | q
      · exact q
      · have := Nat.mul_le_mul_right sz q; omega
    have e1 : rows[i]? = some rows[i] := List.getElem?_eq_getElem hi
    have hm := List.getElem_mem hi
    have hj' : j < rows[i].length := by rw [hl _ hm]; exact hj
    exact oneP_ok (hv i j _ _ _ e1 (List.getElem?_eq_getElem hj') (List.getElem?_eq_getElem hn)) (List.all_eq_true.1 (ho _ hm) _ (List.getElem_mem hj'))
theorem row_ok {M : Mem} {h : Home} {H : Hp} {w w' : World} (I : Inv M h H w) (hb : Ext w w') {rows : List (List PV)} {us : List Value} {v : Value} (e : TypeId) (sz : Nat) (hw : w'.ownsRow 0 e sz v rows.length us) (hk : ∀ k, v.ownBlock = some k → w.heap.size ≤ k) (hl : ∀ row ∈ rows, row.length = sz)
    (hv : ∀ (i j : Nat) (row : List PV) (pv : PV) (u : Value), rows[i]? = some row → row[j]? = some pv → us[i * sz + j]? = some u → VR M h pv u) (ho : ∀ row ∈ rows, row.all oneP = true) :
    ∃ h', Step M h H w M h' (H ++ [some (.row e sz rows)]) w' ∧ VR M h' (.own H.length) v := by
  obtain ⟨o, n, c, rfl⟩ := own_slice hw
  refine ⟨upd h H.length (.slice o n c), ?_, .own _ o n c upd_self⟩
  refine Step.push I hb ⟨⟨o, n, c, rfl⟩, us, hw, hl, own_all hl hw.1 hv ho, fun i j row pv u a b d => (hv i j row pv u a b d).mono (.refl _) (upd_le I.len)⟩ fun k q => hk k ?_
  rw [← hblk_own rfl]
  exact q
theorem append_ok {P : Program} {M : Mem} {h : Home} {H : Hp} {w : World} (I : Inv M h H w) {b : Nat} {e : TypeId} {sz : Nat} {es : List (List PV)} {v x : Value} {px : PV} {es2 : List (List PV)} (hH : H[b]? = some (some (.row e sz es))) (hb : h b = some v) (rx : VR M h px x) (hx : pelems H px = some es2) (hl2 : ∀ row ∈ es2, row.length = sz)
    (t ty : TypeId) (i : TypeInfo) (z : Value) (bytes : Nat) (ht : P.underlying t = some (.slice e)) (hi : P.info? e = some i) (hz : i.zero = some z) (hsize : i.size = sz) (hby : i.bytes = bytes) (hzs : z.cells.size = sz) (hsz : 0 < sz) (h63 : es.length + es2.length ≤ maxLen) (hbytes : (es.length + es2.length) * bytes ≤ 140737488355328) :
    ∃ h' v' w', (Builtin.append_ #[t, t] ty #[v, x]).run P w = .ok v' w' ∧ Step M h H w M h' (H.set b none ++ [some (.row e sz (es ++ es2))]) w' ∧ VR M h' (.own H.length) v' ∧ w.grownBy w' (hblk v) := by
  obtain ⟨v0, q0, ⟨o0, n0, c0, hv0⟩, us, q1, q2, q3, q4⟩ := I.blk b _ hH
  rw [hb] at q0
  cases q0
  have hblt : b < H.length := (List.getElem?_eq_some_iff.1 hH).1
  have I0 := I.kill b
  have hg : ∀ k, v.ownBlock = some k → ¬ Homes h (H.set b none) k ∧ ∀ o, M k o = none := fun k hk => by
    have hk' : hblk v = some k := by rw [hblk_own hv0]; exact hk
    refine ⟨fun ⟨c, B, u, e1, e2, e3⟩ => ?_, I.sep k ⟨b, _, v, hH, hb, hk'⟩⟩
    by_cases q : b = c
    · subst q
      rw [List.getElem?_set] at e1
      simp at e1
    · rw [List.getElem?_set_ne q] at e1
      exact q (I.inj b c _ B v u k hH e1 hb e2 hk' e3)
  have fin : ∀ (v' : Value) (w' : World) (news : List Value), w'.ownsRow 0 e sz v' (es.length + es2.length) (us ++ news) → w.grownBy w' v.ownBlock → (∀ k, v'.ownBlock = some k → v.ownBlock = some k ∨ w.heap.size ≤ k) →
      (∀ (i j : Nat) (row : List PV) (pv : PV) (u : Value), es2[i]? = some row → row[j]? = some pv → news[i * sz + j]? = some u → VR M h pv u) → (∀ u ∈ news, u.oneCell' = true) →
      ∃ h', Step M h H w M h' (H.set b none ++ [some (.row e sz (es ++ es2))]) w' ∧ VR M h' (.own H.length) v' := fun v' w' news g1 g2 g3 g4 g5 => by
    obtain ⟨o, n, c, rfl⟩ := own_slice g1
    have hlen : (H.set b none).length = H.length := by simp
    have I1 := I0.grown (row := v.ownBlock) g2 hg
    have hk : ∀ k, hblk (.slice o n c) = some k → ¬ Homes h (H.set b none) k ∧ ∀ o, M k o = none := fun k q => by
      rw [hblk_own rfl] at q
      rcases g3 k q with q | q
      · exact hg k q
      · exact I0.fresh q
    have hus : us.length = es.length * sz := q1.1
    refine ⟨upd h H.length (.slice o n c), ⟨.refl _, upd_le I.len, ?_, ⟨g2.os, g2.tape, g2.output, g2.size, fun k hk' hn => g2.block k hk' ?_⟩, fun k q => ?_, fun _ _ _ q => .inl q⟩, .own _ o n c upd_self⟩
    · have := I1.push (B := .row e sz (es ++ es2)) (v := .slice o n c) ⟨⟨o, n, c, rfl⟩, us ++ news, by rw [List.length_append]; exact g1, ?_, ?_, ?_⟩ hk
      · rw [hlen] at this
        exact this
      · intro row hr
        rcases List.mem_append.1 hr with hr | hr
        · exact q2 row hr
        · exact hl2 row hr
      · intro u hu
        rcases List.mem_append.1 hu with hu | hu
        · exact q3 u hu
        · exact g5 u hu
      · intro i j row pv u e1 e2 e3
        have hj : j < sz := by
          have h1 := (List.getElem?_eq_some_iff.1 e2).1
          rcases List.mem_append.1 (List.mem_of_getElem? e1) with hr | hr
          · rw [q2 row hr] at h1; exact h1
          · rw [hl2 row hr] at h1; exact h1
        have hM : VR M h pv u := by
          by_cases hi : i < es.length
          · have hm : (i + 1) * sz ≤ es.length * sz := Nat.mul_le_mul_right _ hi
            rw [Nat.add_mul] at hm
            rw [List.getElem?_append_left hi] at e1
            rw [List.getElem?_append_left (by omega)] at e3
            exact q4 i j row pv u e1 e2 e3
          · have hm : es.length * sz ≤ i * sz := Nat.mul_le_mul_right _ (by omega)
            rw [List.getElem?_append_right (by omega)] at e1
            rw [List.getElem?_append_right (by omega)] at e3
            refine g4 (i - es.length) j row pv u e1 e2 ?_
            rw [Nat.sub_mul, ← hus]
            rw [show i * sz + j - us.length = i * sz - us.length + j by omega] at e3
            exact e3
        exact hM.mono (.refl _) (upd_le I0.len)
    · intro e
      exact hn ⟨b, _, v, hH, hb, by rw [hblk_own hv0]; exact e.symm⟩
    · rw [← hlen] at q
      rcases Homes.push q with q | q
      · exact .inl q.kill
      · rw [hblk_own rfl] at q
        rcases g3 k q with q | q
        · exact .inl ⟨b, _, v, hH, hb, by rw [hblk_own hv0]; exact q⟩
        · exact .inr q
  obtain ⟨xo, xc, rfl⟩ := pelems_len I rx hx
  by_cases hn : es2 = []
  · subst hn
    have hrun : (Builtin.append_ #[t, t] ty #[v, .slice xo 0 xc]).run P w = .ok v w := by
      have hn0 : n0 = es.length := by
        rcases q1.2 with ⟨e1, e2⟩ | ⟨g, cap, cur, e1, _⟩
        · rw [hv0] at e1; cases e1; exact e2.symm
        · rw [hv0] at e1; cases e1; rfl
      have hcap : es.length ≤ c0 := by
        rcases q1.2 with ⟨e1, e2⟩ | ⟨g, cap, cur, e1, _, _, e2, _⟩
        · omega
        · rw [hv0] at e1; cases e1; exact e2
      subst hn0
      subst hv0
      have hfc : (Builtin.firstCells sz 0 (.slice xo 0 xc)).run P w = .ok #[] w := by
        cases xo <;> simp [Builtin.firstCells, loadCells, loadCellsFrom, Sem.run_pure]
      cases o0 <;> simp [Builtin.append_, run_underlying ht, sizeOf, typeInfo, hi, Builtin.lenOf, hsize, hcap, hfc, storeCells]
    obtain ⟨h', s1, s2⟩ := fin v w [] (by simpa using q1) (grownBy_refl _ _) (fun k hk => .inl hk) (fun i j row pv u a => by simp at a) (by simp)
    exact ⟨h', v, w, hrun, s1, s2, grownBy_refl _ _⟩
  · obtain ⟨k, base, c, hxv, hk, hc⟩ := pelems_at I rx hx hn sz hl2 hsz
    simp only [Value.slice.injEq] at hxv
    obtain ⟨rfl, _, rfl⟩ := hxv
    let news : List Value := (List.range (es2.length * sz)).map fun j => (w.cell? ⟨k, base + j, none⟩).getD undef
    have hget : ∀ j u, news[j]? = some u → ∃ (i' j' : Nat) (row : List PV) (q : PV), j = i' * sz + j' ∧ es2[i']? = some row ∧ row[j']? = some q ∧ w.cell? ⟨k, base + j, none⟩ = some u ∧ VR M h q u ∧ u.oneCell' = true := fun j u hu => by
      simp only [news, List.getElem?_map, Option.map_eq_some_iff] at hu
      obtain ⟨j0, e1, e2⟩ := hu
      have hj0 : j < es2.length * sz ∧ j0 = j := by
        have := (List.getElem?_eq_some_iff.1 e1)
        obtain ⟨p1, p2⟩ := this
        simp at p1 p2
        exact ⟨p1, p2.symm⟩
      obtain ⟨hj1, rfl⟩ := hj0
      obtain ⟨i', j', rfl, hj'⟩ := divide (o := j0) hsz
      have hi' : i' < es2.length := by
        rcases Nat.lt_or_ge i' es2.length with q | q
        · exact q
        · have := Nat.mul_le_mul_right sz q; omega
      have er : es2[i']? = some es2[i'] := List.getElem?_eq_getElem hi'
      have hjr : j' < es2[i'].length := by rw [hl2 _ (List.getElem_mem hi')]; exact hj'
      have eq := List.getElem?_eq_getElem hjr
      obtain ⟨u', p1, p2, p3⟩ := hc i' j' _ _ er eq
      rw [p1] at e2
      simp at e2
      subst e2
      exact ⟨i', j', _, _, rfl, er, eq, p1, p2, p3⟩
    have hnl : news.length = es2.length * sz := by simp [news]
    have hone : ∀ u ∈ news, u.oneCell' = true := fun u hu => by
      obtain ⟨n, hn', e⟩ := List.getElem_of_mem hu
      obtain ⟨_, _, _, _, _, _, _, _, _, p⟩ := hget n u (by rw [← e]; exact List.getElem?_eq_getElem hn')
      exact p
    obtain ⟨v', w', r1, r2, r3, -, r5⟩ := run_append_at (P := P) (w := w) t ty e i z sz bytes ht hi hz hsize hby hzs hsz v es.length us q1 ⟨k, base, none⟩ es2.length _ news hnl (fun j u hu => by
      rw [addr_add]
      obtain ⟨_, _, _, _, _, _, _, p, _, _⟩ := hget j u hu
      exact p) hone h63 hbytes
    obtain ⟨h', s1, s2⟩ := fin v' w' news r2 r3 r5 (fun i' j' row pv u e1 e2 e3 => by
      obtain ⟨i2, j2, row2, q', p0, p1, p2, _, p4, _⟩ := hget _ u e3
      have hj1 : j' < sz := by rw [← hl2 row (List.mem_of_getElem? e1)]; exact (List.getElem?_eq_some_iff.1 e2).1
      have hj2 : j2 < sz := by rw [← hl2 row2 (List.mem_of_getElem? p1)]; exact (List.getElem?_eq_some_iff.1 p2).1
      have hij : i' = i2 ∧ j' = j2 := by
        have a1 := Nat.mul_add_div hsz i' j'
        have a2 := Nat.mul_add_div hsz i2 j2
        rw [Nat.mul_comm sz i', Nat.div_eq_of_lt hj1] at a1
        rw [Nat.mul_comm sz i2, Nat.div_eq_of_lt hj2] at a2
        have : i' = i2 := by rw [p0] at a1; omega
        subst this
        exact ⟨rfl, by omega⟩
      obtain ⟨rfl, rfl⟩ := hij
      rw [e1] at p1
      cases p1
      rw [e2] at p2
      cases p2
      exact p4) hone
    exact ⟨h', v', w', r1, s1, s2, by rw [hblk_own hv0]; exact r3⟩
end Go.Proofs.Ytcbknmnlgoeniaa
namespace Go.Proofs.Ytcbknmnlgoeniaa
open Go.RowKit
theorem run_storeAt {P : Program} {w : World} {t : TypeId} {f : TypeInfo} (hi : P.info? t = some f) {g o : Nat} {e : TypeId} {cur : Array Value} {v : Value} (hg : w.heap[g]? = some (.cells cur e (0, 0))) (hs : v.cells.size = f.size) (hl : o + v.cells.size ≤ cur.size) (h1 : ∀ u ∈ v.cells, u.oneCell' = true) :
    (Instr.storeAt t (.pointer (some ⟨g, o, none⟩)) v).run P w = .ok () (w.setRow g (splice cur.toList o v.cells.toList).toArray) := by
  have := run_storeCells_at (P := P) g o e v.cells.toList 0 cur w hg (by simpa using hl) (by simpa using h1)
  simp only [Instr.storeAt, Instr.sureAddr, storeVar, Sem.run_bind, Sem.run_pure, Result.andThen_ok, sizeOf_of hi, hs, ne_eq, not_true_eq_false, if_false, this, splice, Nat.add_zero, List.append_assoc]
theorem setRow_grown {w : World} {g : Nat} {cs : Array Value} : w.grownBy (w.setRow g cs) (some g) := ⟨rfl, rfl, rfl, by simp, fun k _ hk => setRow_other w g k cs (fun e => hk (by rw [e]))⟩
theorem splice_cr {M : Mem} {h : Home} {cells xs : List PV} {us ys : List Value} {off : Nat} (hu : us.length = cells.length) (hy : ys.length = xs.length) (hl : off + xs.length ≤ cells.length) (r : ∀ (i : Nat) (pv : PV) (v : Value), cells[i]? = some pv → us[i]? = some v → VR M h pv v) (rx : ∀ (i : Nat) (pv : PV) (v : Value), xs[i]? = some pv → ys[i]? = some v → VR M h pv v) :
    ∀ (i : Nat) (pv : PV) (v : Value), (splice cells off xs)[i]? = some pv → (splice us off ys)[i]? = some v → VR M h pv v := fun i pv v g1 g2 => by
  rw [splice_get hl] at g1
  rw [splice_get (by omega), hy] at g2
  split at g1
  · rename_i q
    rw [if_pos q] at g2
    exact rx _ _ _ g1 g2
  · rename_i q
    rw [if_neg q] at g2
    exact r _ _ _ g1 g2
theorem splice_mem {α : Type} {cells xs : List α} {off : Nat} {x : α} (h : x ∈ splice cells off xs) : x ∈ cells ∨ x ∈ xs := by
  unfold splice at h
  rcases List.mem_append.1 h with h | h
  · exact .inl (List.mem_of_mem_take h)
  · rcases List.mem_append.1 h with h | h
    · exact .inr h
    · exact .inl (List.mem_of_mem_drop h)
theorem store_box {P : Program} {M : Mem} {h : Home} {H : Hp} {w : World} (I : Inv M h H w) {b o : Nat} {cs xs : List PV} {v x : Value} (hH : H[b]? = some (some (.box cs))) (r : VR M h (.ptr b o) v) (rx : CR M h xs x.cells) (ho : xs.all oneP = true) {t : TypeId} {f : TypeInfo} (hi : P.info? t = some f) (hs : xs.length = f.size) (hl : o + xs.length ≤ cs.length) :
    ∃ w', (Instr.storeAt t v x).run P w = .ok () w' ∧ Step M h H w M h (H.set b (some (.box (splice cs o xs)))) w' ∧ ∃ hv, h b = some hv ∧ w.grownBy w' (hblk hv) := by
  cases r with
  | ptr _ _ k hb =>
    obtain ⟨v0, q0, k', us, t', rfl, q2, q3, q4, q5⟩ := I.blk b _ hH
    rw [hb] at q0
    cases q0
    have hx := rx.1
    have e := run_storeAt (P := P) (w := w) hi q2 (o := o) (v := x) (by omega) (by omega) (rx.one ho)
    refine ⟨_, e, Step.turn I hH hb rfl setRow_grown ⟨k, _, t', rfl, setRow_heap w k us _ t' (0, 0) q2, ?_, fun u hu => ?_, fun j pv u g1 g2 => ?_⟩, _, hb, setRow_grown⟩
    · rw [splice_len hl, List.size_toArray, splice_len (by simp; omega)]
      simpa using q3
    · rcases splice_mem (by simpa using hu : u ∈ splice us.toList o x.cells.toList) with hm | hm
      · exact q4 u (by simpa using hm)
      · exact rx.one ho u (by simpa using hm)
    · refine splice_cr (us := us.toList) (ys := x.cells.toList) (by simpa using q3) (by simp; omega) hl (fun i pv v a b => q5 i pv v a (by simpa using b)) (fun i pv v a b => rx.2 i pv v a (by simpa using b)) j pv u g1 ?_
      simpa using g2
theorem store_row {P : Program} {M : Mem} {h : Home} {H : Hp} {w : World} (I : Inv M h H w) {b i o : Nat} {e : TypeId} {sz : Nat} {es : List (List PV)} {row xs : List PV} {v x : Value} (hH : H[b]? = some (some (.row e sz es))) (r : VR M h (.optr b sz i o) v) (hrow : es[i]? = some row) (rx : CR M h xs x.cells) (ho : xs.all oneP = true) {t : TypeId} {f : TypeInfo} (hi : P.info? t = some f) (hs : xs.length = f.size) (hl : o + xs.length ≤ row.length) :
    ∃ w', (Instr.storeAt t v x).run P w = .ok () w' ∧ Step M h H w M h (H.set b (some (.row e sz (es.set i (splice row o xs))))) w' ∧ ∃ hv, h b = some hv ∧ w.grownBy w' (hblk hv) := by
  cases r with
  | optr _ _ _ _ g n c hb =>
    obtain ⟨v0, q0, -, us, q1, q2, q3, q4⟩ := I.blk b _ hH
    rw [hb] at q0
    cases q0
    have hx := rx.1
    have hi' : i < es.length := (List.getElem?_eq_some_iff.1 hrow).1
    have hrl := q2 row (List.mem_of_getElem? hrow)
    have hm : (i + 1) * sz ≤ es.length * sz := Nat.mul_le_mul_right _ hi'
    rw [Nat.add_mul] at hm
    rcases q1.2 with ⟨e1, _⟩ | ⟨g', cap, cur, e1, e2, e3, e4, e5, e6, e7⟩
    · cases e1
    · cases e1
      have hcap : es.length * sz ≤ c * sz := Nat.mul_le_mul_right _ e4
      have hul : us.length = es.length * sz := q1.1
      have er := run_storeAt (P := P) (w := w) hi e3 (o := i * sz + o) (v := x) (by omega) (by omega) (rx.one ho)
      have hlen : (es.set i (splice row o xs)).length = es.length := by simp
      have hsp : (splice cur.toList (i * sz + o) x.cells.toList).take (es.length * sz) = splice us (i * sz + o) x.cells.toList := by
        apply List.ext_getElem?
        intro j
        rw [List.getElem?_take, splice_get (by simp; omega), splice_get (by simp; omega)]
        split
        · split
          · rfl
          · rw [← e7, List.getElem?_take, if_pos (by assumption)]
        · rename_i hj
          rw [if_neg (by simp; omega)]
          rw [List.getElem?_eq_none (by omega)]
      refine ⟨_, er, Step.turn I hH hb rfl setRow_grown ⟨⟨_, _, _, rfl⟩, splice us (i * sz + o) x.cells.toList, ?_, ?_, ?_, ?_⟩, _, hb, setRow_grown⟩
      · rw [hlen]
        refine ⟨by rw [splice_len (by simp; omega)]; exact hul, .inr ⟨g, c, _, rfl, e2, setRow_heap w g cur _ e (0, 0) e3, e4, e5, ?_, ?_⟩⟩
        · rw [List.size_toArray, splice_len (by simp; omega)]
          simpa using e6
        · exact hsp
      · intro row' hr
        rcases List.mem_or_eq_of_mem_set hr with hr | rfl
        · exact q2 row' hr
        · rw [splice_len hl]; exact hrl
      · intro u hu
        rcases splice_mem hu with hm | hm
        · exact q3 u hm
        · exact rx.one ho u (by simpa using hm)
      · intro i2 j row2 pv u g1 g2 g3
        by_cases hii : i = i2
        · subst hii
          rw [List.getElem?_set_self hi'] at g1
          cases g1
          have hj : j < sz := by have := (List.getElem?_eq_some_iff.1 g2).1; rw [splice_len hl, hrl] at this; exact this
          rw [splice_get hl] at g2
          rw [splice_get (by simp; omega)] at g3
          simp only [Array.length_toList] at g3
          by_cases q : o ≤ j ∧ j < o + xs.length
          · rw [if_pos q] at g2
            rw [if_pos (by omega)] at g3
            rw [show i * sz + j - (i * sz + o) = j - o by omega] at g3
            exact rx.2 _ _ _ g2 (by simpa using g3)
          · rw [if_neg q] at g2
            rw [if_neg (by omega)] at g3
            exact q4 i j row pv u hrow g2 g3
        · rw [List.getElem?_set_ne hii] at g1
          have hj : j < sz := by have := (List.getElem?_eq_some_iff.1 g2).1; rw [q2 row2 (List.mem_of_getElem? g1)] at this; exact this
          rw [splice_get (by simp; omega)] at g3
          simp only [Array.length_toList] at g3
          rw [if_neg ?_] at g3
          · exact q4 i2 j row2 pv u g1 g2 g3
          · rcases Nat.lt_or_gt_of_ne hii with q | q
            · have := Nat.mul_le_mul_right sz q
              rw [Nat.succ_mul] at this
              omega
            · have := Nat.mul_le_mul_right sz q
              rw [Nat.succ_mul] at this
              omega
def prow (parts : List (Nat × PV)) : List (List PV) := parts.map fun p => pcellsOf p.2
theorem pfill_rows {sz : Nat} (pre : List PV) : ∀ (parts : List (Nat × PV)) (k : Nat) (cells : List PV), (∀ (j : Nat) (p : Nat × PV), parts[j]? = some p → p.1 = k + j ∧ (pcellsOf p.2).length = sz) → pre.length = k * sz → cells.length = parts.length * sz →
    pfill (fun i => some (i * sz, sz)) (pre ++ cells) parts = some (pre ++ (prow parts).flatten)
  | [], k, cells, _, _, hc => by
    have : cells = [] := List.eq_nil_of_length_eq_zero (by simpa using hc)
    subst this
    rfl
  | p :: parts, k, cells, hp, hpre, hc => by
    obtain ⟨i, q⟩ := p
    obtain ⟨h1, h2⟩ := hp 0 (i, q) rfl
    have h1 : i = k := h1
    have h2 : (pcellsOf q).length = sz := h2
    rw [h1]
    simp only [List.length_cons, Nat.add_mul, Nat.one_mul] at hc
    have hsp : splice (pre ++ cells) (k * sz) (pcellsOf q) = (pre ++ pcellsOf q) ++ cells.drop sz := by
      unfold splice
      rw [h2, List.take_left' hpre, List.append_assoc]
      congr 2
      rw [show k * sz + sz = (pre.length + sz) by omega, List.drop_append]
      simp
    simp only [pfill, h2]
    rw [if_pos ⟨trivial, by simp; omega⟩, hsp]
    rw [pfill_rows (pre ++ pcellsOf q) parts (k + 1) (cells.drop sz) (fun j p' hj => by have := hp (j + 1) p' (by simpa using hj); omega) (by simp [h2, hpre, Nat.add_mul]) (by simp; omega)]
    simp [prow]
theorem flatten_get {α : Type} {sz : Nat} : ∀ {rows : List (List α)}, (∀ row ∈ rows, row.length = sz) → ∀ (i j : Nat) (row : List α) (x : α), rows[i]? = some row → row[j]? = some x → rows.flatten[i * sz + j]? = some x
  | [], _, i, j, row, x, h1, _ => by simp at h1
  | r :: rows, hl, 0, j, row, x, h1, h2 => by
    simp at h1
    subst h1
    have hj := (List.getElem?_eq_some_iff.1 h2).1
    rw [List.flatten_cons, List.getElem?_append_left (by omega)]
    simpa using h2
  | r :: rows, hl, i + 1, j, row, x, h1, h2 => by
    have hr := hl r (by simp)
    rw [List.flatten_cons, List.getElem?_append_right (by rw [hr, Nat.add_mul]; omega), hr, show (i + 1) * sz + j - sz = i * sz + j by rw [Nat.add_mul]; omega]
    exact flatten_get (fun row hm => hl row (by simp [hm])) i j row x (by simpa using h1) h2
theorem flatten_len {α : Type} {sz : Nat} : ∀ {rows : List (List α)}, (∀ row ∈ rows, row.length = sz) → rows.flatten.length = rows.length * sz
  | [], _ => by simp
  | r :: rows, hl => by
    rw [List.flatten_cons, List.length_append, hl r (by simp), flatten_len fun row hm => hl row (by simp [hm]), List.length_cons, Nat.add_mul]
    omega
theorem build_ok {P : Program} {M : Mem} {h : Home} {H : Hp} {w : World} (I : Inv M h H w) {parts : List (Nat × PV)} {vps : Array (Nat × Value)} (r : All2 (fun (a : Nat × PV) (b : Nat × Value) => a.1 = b.1 ∧ VR M h a.2 b.2) parts vps.toList) {t e : TypeId} {i : TypeInfo} {z : Value} (ht : P.underlying t = some (.slice e)) (hi : P.info? e = some i) (hz : i.zero = some z)
    (hp : ∀ (j : Nat) (p : Nat × PV), parts[j]? = some p → p.1 = j ∧ (pcellsOf p.2).length = i.size) (ho : ∀ row ∈ prow parts, row.all oneP = true) (hlen : parts.length * i.size ≤ 16777216) (hmax : parts.length ≤ 16777216) :
    ∃ h' v' w', (Instr.buildSlice t parts.length vps).run P w = .ok v' w' ∧ Step M h H w M h' (H ++ [some (.row e i.size (prow parts))]) w' ∧ VR M h' (.own H.length) v' ∧ Ext w w' := by
  let init : Array Value := (Array.range (parts.length * i.size)).map ((if parts.length * i.size = 0 then #[] else z.cells)[· % (if parts.length * i.size = 0 then #[] else z.cells).size]!)
  have hinit : CR M h (init.toList.map .val) init := ⟨by simp, fun j pv v a b => by
    simp only [List.getElem?_map, Array.getElem?_toList, b, Option.map_some, Option.some.injEq] at a
    subst a
    exact .val _⟩
  have hpf := pfill_rows (sz := i.size) [] parts 0 (init.toList.map .val) (fun j p hj => by have := hp j p hj; omega) (by simp) (by simp [init])
  simp only [List.nil_append] at hpf
  obtain ⟨out, f1, f2⟩ := pfill_ok _ parts _ _ _ _ r hinit hpf
  have hrows : ∀ row ∈ prow parts, row.length = i.size := fun row hr => by
    simp only [prow, List.mem_map] at hr
    obtain ⟨p, hm, rfl⟩ := hr
    obtain ⟨j, hj, rfl⟩ := List.getElem_of_mem hm
    exact (hp j _ (List.getElem?_eq_getElem hj)).2
  have hol : out.size = parts.length * i.size := by rw [← f2.1, flatten_len hrows]; simp [prow]
  have hb : Ext w (w.alloc (.cells out e)) := (Ext.refl w).alloc _
  have hrun : (Instr.buildSlice t parts.length vps).run P w = .ok (.slice (some ⟨w.heap.size, 0, none⟩) parts.length parts.length) (w.alloc (.cells out e)) := by
    have hn : ¬ (2 ^ 24 : Nat) < parts.length * i.size := by
      have : (2 : Nat) ^ 24 = 16777216 := rfl
      omega
    simp only [init] at f1
    simp only [Instr.buildSlice, Sem.run_bind, run_underlying ht, Result.andThen_ok, sizeOf_of hi]
    rw [if_neg hn]
    have hz' : (zeroValue e).run P w = .ok z w := by simp [zeroValue, typeInfo, hi, hz]
    by_cases h0 : parts.length * i.size = 0
    · simp only [if_pos h0] at f1
      simp only [Sem.run_bind, Result.andThen_ok, if_pos h0, Sem.run_pure, f1, newRow]
      rfl
    · simp only [if_neg h0] at f1
      simp only [Sem.run_bind, Result.andThen_ok, if_neg h0, Sem.run_pure, hz', f1, newRow]
      rfl
  have hpl : (prow parts).length = parts.length := by simp [prow]
  have hown : (w.alloc (.cells out e)).ownsRow 0 e i.size (.slice (some ⟨w.heap.size, 0, none⟩) parts.length parts.length) (prow parts).length out.toList := by
    rw [hpl]
    refine ⟨by simpa using hol, .inr ⟨w.heap.size, parts.length, out, rfl, Nat.zero_le _, heap_alloc_new w _, Nat.le_refl _, (by unfold maxLen; omega), hol, ?_⟩⟩
    rw [List.take_of_length_le (by simp [hol])]
  obtain ⟨h', s1, s2⟩ := row_ok I hb e i.size hown (fun k hk => by simp [Value.ownBlock] at hk; omega) hrows (fun i' j row pv u e1 e2 e3 => f2.2 (i' * i.size + j) pv u (flatten_get hrows i' j row pv e1 e2) (by simpa using e3)) ho
  exact ⟨h', _, _, hrun, s1, s2, hb⟩
theorem make_ok {P : Program} {M : Mem} {h : Home} {H : Hp} {w : World} (I : Inv M h H w) {t e : TypeId} {i : TypeInfo} {z : Value} (ht : P.underlying t = some (.slice e)) (hi : P.info? e = some i) (hz : i.zero = some z) (hzs : z.cells.size = i.size) (hzo : (pcellsOf (cPV z)).all oneP = true) (kl kc : IntKind) (l c : Int) (h0 : 0 ≤ l) (hlc : l ≤ c) (hbytes : (i.bytes : Int) * c ≤ 281474976710656) (h63 : c ≤ 9223372036854775807) :
    ∃ h' v' w', (Instr.makeSlice t (.int kl l) (.int kc c)).run P w = .ok v' w' ∧ Step M h H w M h' (H ++ [some (.row e i.size (List.replicate l.toNat (pcellsOf (cPV z))))]) w' ∧ VR M h' (.own H.length) v' ∧ Ext w w' := by
  have hrun := run_make (P := P) w t e i z ht hi hz kl kc l c h0 hlc hbytes h63
  have hb : Ext w (w.alloc (.cells (madeCells z.cells (c.toNat * i.size)) e)) := (Ext.refl w).alloc _
  have rz := pcellsOf_ok (cPV_vr (M := M) (h := h) z)
  have hle : l.toNat * i.size ≤ c.toNat * i.size := Nat.mul_le_mul_right _ (by omega)
  have hown : (w.alloc (.cells (madeCells z.cells (c.toNat * i.size)) e)).ownsRow 0 e i.size (.slice (some ⟨w.heap.size, 0, none⟩) l.toNat c.toNat) (List.replicate l.toNat (pcellsOf (cPV z))).length ((madeCells z.cells (c.toNat * i.size)).toList.take (l.toNat * i.size)) := by
    rw [List.length_replicate]
    exact ⟨by rw [List.length_take, Array.length_toList, size_madeCells]; exact Nat.min_eq_left hle, .inr ⟨w.heap.size, c.toNat, _, rfl, Nat.zero_le _, heap_alloc_new w _, by omega, by unfold maxLen; omega, size_madeCells _ _, rfl⟩⟩
  obtain ⟨h', s1, s2⟩ := row_ok I hb e i.size hown (fun k hk => by simp [Value.ownBlock] at hk; omega) (fun row hr => by rw [(List.mem_replicate.1 hr).2, rz.1, hzs]) (fun i' j row pv u e1 e2 e3 => by
    have hi' : i' < l.toNat := by have := (List.getElem?_eq_some_iff.1 e1).1; simpa using this
    rw [List.getElem?_replicate, if_pos hi'] at e1
    cases e1
    have hj : j < i.size := by have := (List.getElem?_eq_some_iff.1 e2).1; rw [rz.1, hzs] at this; exact this
    have hm : (i' + 1) * i.size ≤ l.toNat * i.size := Nat.mul_le_mul_right _ hi'
    rw [Nat.add_mul] at hm
    rw [List.getElem?_take, if_pos (by omega)] at e3
    have hmod : (i' * i.size + j) % z.cells.size = j := by rw [hzs, Nat.mul_comm, Nat.mul_add_mod, Nat.mod_eq_of_lt hj]
    simp only [madeCells, Array.getElem?_toList, Array.getElem?_map, Array.getElem?_range, Option.map_eq_some_iff] at e3
    obtain ⟨q, q1, q2⟩ := e3
    split at q1
    · cases q1
      rw [hmod] at q2
      have hjz : j < z.cells.size := by omega
      rw [getElem!_pos z.cells j hjz] at q2
      exact rz.2 j pv u e2 (by rw [← q2]; simp [hjz])
    · cases q1) (fun row hr => by rw [(List.mem_replicate.1 hr).2]; exact hzo)
  exact ⟨h', _, _, hrun, s1, s2, hb⟩
theorem bytes_ok {P : Program} {M : Mem} {h : Home} {H : Hp} {w : World} (I : Inv M h H w) {s d e : TypeId} {x : ByteArray} {u : TypeDesc} (hs : P.underlying s = some u) (hd : P.underlying d = some (.slice e)) (he : P.underlying e = some (.int .u8)) (hsz : x.size ≤ maxLen) :
    ∃ M' v' w', (convert s d (.string x)).run P w = .ok v' w' ∧ Step M h H w M' h H w' ∧ VR M' h (.sl 1 (bytesL x.data.toList)) v' := by
  have hrun := Lib.run_convert_string_bytes (P := P) w s d e x hs hd he
  have hb : Ext w (Lib.bytesWorld w e x) := ⟨by simp [Lib.bytesWorld, World.freeze, World.alloc, World.drew, -World.alloc_eq, -World.drew_eq], by simp [Lib.bytesWorld, World.freeze, World.alloc, World.drew, -World.alloc_eq, -World.drew_eq], by simp [Lib.bytesWorld, World.freeze, World.alloc, World.drew, -World.alloc_eq, -World.drew_eq], by rw [Lib.bytesWorld_size]; omega, fun j hj => Lib.bytesWorld_at_old w e x j hj⟩
  let f : Nat → Option Value := fun j => if j < x.size then some (.int .u8 (x.data.toList.getD j 0).toNat) else none
  have st := Step.memo I hb (g := w.heap.size) (f := f) (Nat.le_refl _) fun o u hu => by
    simp only [f] at hu
    split at hu
    · rename_i hlt
      cases hu
      exact ⟨Lib.bytesWorld_cell w e x o hlt, rfl⟩
    · cases hu
  refine ⟨_, _, _, hrun, st, ?_⟩
  by_cases h0 : x.size = 0
  · have : x.data.toList = [] := List.eq_nil_of_length_eq_zero (by simpa using h0)
    rw [this, h0]
    exact .sl0 _ _ _
  · have hlen : (bytesL x.data.toList).length = x.size := by simp [bytesL]
    have := VR.sl (M := fun b o => if b = w.heap.size then f o else M b o) (h := h) 1 (bytesL x.data.toList) w.heap.size 0 (grownCap w x.size 0 e) (fun i _ => .int .u8 (x.data.toList.getD i 0).toNat) (by omega) (by rw [hlen]; exact grownCap_ge w _ _ _) (grownCap_le_maxLen w _ _ _ hsz)
      (fun row hr => by simp [bytesL] at hr; obtain ⟨b, _, rfl⟩ := hr; rfl)
      (fun i j row pv e1 e2 => by
        have hi : i < x.size := by have := (List.getElem?_eq_some_iff.1 e1).1; omega
        have hj : j = 0 := by
          have h1 := (List.getElem?_eq_some_iff.1 e2).1
          simp only [bytesL, List.getElem?_map, Option.map_eq_some_iff] at e1
          obtain ⟨b, _, rfl⟩ := e1
          simp at h1
          exact h1
        subst hj
        simp [f, hi])
      (fun i j row pv e1 e2 => by
        simp only [bytesL, List.getElem?_map, Option.map_eq_some_iff] at e1
        obtain ⟨b, hb1, rfl⟩ := e1
        cases j with
        | zero =>
          simp at e2
          subst e2
          rw [List.getD_eq_getElem?_getD, hb1]
          exact .val _
        | succ j => simp at e2)
    rw [hlen] at this
    exact this
end Go.Proofs.Ytcbknmnlgoeniaa

/- Several texts, one behind the other. -/
import Derived.WalkKit
import Derived.Lib.Hide
import Derived.Deep.QuietTactic
import Derived.Deep.LoopGhost
import Derived.Deep.AppendLies
import Derived.ProofKit
import Derived.ChangeOld
import Derived.Deep.Slices
import Derived.OwnWalk
/- Plain definitions and facts: no program in sight. -/
namespace Go.Proofs.Ytcbknmnlgoeniaa
open Go.RowKit

/-- lo ≤ x ≤ hi, as a Bool that the walk does not take apart. -/
def inB (x lo hi : Int) : Bool := decide (lo ≤ x) && decide (x ≤ hi)
theorem inB_iff {x lo hi : Int} : inB x lo hi = true ↔ lo ≤ x ∧ x ≤ hi := by simp [inB]
theorem inB_false {x lo hi : Int} : inB x lo hi = false ↔ ¬ (lo ≤ x ∧ x ≤ hi) := by rw [← inB_iff]; simp

/-- What a walk that makes memory of its own may use: the old cells and marks. -/
theorem bcell {W w1 : World} (hb : Below W.heap.size W w1) : (∀ b o, b < W.heap.size → w1.cell? ⟨b, o, none⟩ = W.cell? ⟨b, o, none⟩) ∧ (∀ b o, b < W.heap.size → w1.frozen? ⟨b, o, none⟩ = W.frozen? ⟨b, o, none⟩) :=
  ⟨fun b o h => hb.cell (p := ⟨b, o, none⟩) h, fun b o h => hb.frozen (p := ⟨b, o, none⟩) h⟩

/-- w' is w with more behind it: of what w held nothing has turned. -/
def Ext (w w' : World) : Prop := Below w.heap.size w w'
theorem Ext.refl (w : World) : Ext w w := Below.refl _ _
theorem Ext.size {w w' : World} (h : Ext w w') : w.heap.size ≤ w'.heap.size := Below.size h
theorem Ext.trans {a b c : World} (h : Ext a b) (k : Ext b c) : Ext a c := Below.trans h (Below.mono k h.size)
theorem Ext.alloc {a b : World} (h : Ext a b) (o : Obj) : Ext a (b.alloc o) := Below.alloc h h.size o
theorem Ext.drew {a b : World} (h : Ext a b) : Ext a b.drew := Below.drew h
theorem Ext.drewN {a b : World} (h : Ext a b) (n : Nat) : Ext a (b.drewN n) := Below.trans h ⟨rfl, rfl, rfl, Nat.le_refl _, fun _ _ => rfl⟩
theorem Ext.setCell {a b : World} (h : Ext a b) {p : Addr} (hp : a.heap.size ≤ p.block) (u : Value) : Ext a (b.setCell p u) := Below.setCell h hp u
theorem Ext.cells {W w1 : World} (h : Ext W w1) : (∀ b o, b < W.heap.size → w1.cell? ⟨b, o, none⟩ = W.cell? ⟨b, o, none⟩) ∧ (∀ b o, b < W.heap.size → w1.frozen? ⟨b, o, none⟩ = W.frozen? ⟨b, o, none⟩) := bcell h
theorem Ext.cellSome {w w' : World} (h : Ext w w') {b o : Nat} {v : Value} (hc : w.cell? ⟨b, o, none⟩ = some v) : w'.cell? ⟨b, o, none⟩ = some v :=
  (h.cells.1 b o (World.block_lt_of_cell? w _ hc)).trans hc

/-- Block k holds just these cells, none of them frozen. -/
def Box (w : World) (k : Nat) (cs : Array Value) : Prop := ∃ t, w.heap[k]? = some (.cells cs t (0, 0))
theorem Box.lt {w : World} {k : Nat} {cs : Array Value} (h : Box w k cs) : k < w.heap.size := by
  obtain ⟨t, h⟩ := h
  exact (Array.getElem?_eq_some_iff.1 h).1
theorem Box.cell {w : World} {k : Nat} {cs : Array Value} (h : Box w k cs) (o : Nat) : w.cell? ⟨k, o, none⟩ = cs[o]? := by
  obtain ⟨t, h⟩ := h
  simp [World.cell?, h]
theorem Box.frozen {w : World} {k : Nat} {cs : Array Value} (h : Box w k cs) (o : Nat) : w.frozen? ⟨k, o, none⟩ = false := by
  obtain ⟨t, h⟩ := h
  simp [World.frozen?, h]
theorem Box.ext {w w' : World} {k : Nat} {cs : Array Value} (h : Box w k cs) (hb : Ext w w') : Box w' k cs := by
  have hl := h.lt
  obtain ⟨t, h⟩ := h
  exact ⟨t, (Below.block hb k hl).trans h⟩
theorem Box.new {w : World} {k : Nat} {cs : Array Value} {t : TypeId} (hk : k = w.heap.size) : Box (w.alloc (.cells cs t)) k cs := ⟨t, hk ▸ heap_alloc_new w _⟩
theorem Box.alloc {w : World} {k : Nat} {cs : Array Value} (h : Box w k cs) (o : Obj) : Box (w.alloc o) k cs := h.ext ((Ext.refl _).alloc o)
theorem Box.drew {w : World} {k : Nat} {cs : Array Value} (h : Box w k cs) : Box w.drew k cs := h
theorem Box.drewN {w : World} {k : Nat} {cs : Array Value} (h : Box w k cs) (n : Nat) : Box (w.drewN n) k cs := h
theorem Box.set {w : World} {k o : Nat} {cs : Array Value} (h : Box w k cs) (v : Value) : Box (w.setCell ⟨k, o, none⟩ v) k (cs.setIfInBounds o v) := by
  obtain ⟨t, h⟩ := h
  refine ⟨t, ?_⟩
  simp [World.setCell, Array.getElem?_modify, h]
theorem Box.set_ne {w : World} {k : Nat} {a : Addr} {cs : Array Value} (h : Box w k cs) (hne : k ≠ a.block) (v : Value) : Box (w.setCell a v) k cs := by
  obtain ⟨t, h⟩ := h
  exact ⟨t, by rw [Below.heap_setCell _ _ _ _ hne]; exact h⟩
/-- A box behind a call: the box, and the two rules by which the walk reads it. -/
theorem Box.after {w w' : World} {k : Nat} {cs : Array Value} (hb : Ext w w') (h : Box w k cs) : Box w' k cs ∧ (∀ o, w'.cell? ⟨k, o, none⟩ = cs[o]?) ∧ (∀ o, w'.frozen? ⟨k, o, none⟩ = false) ∧ k < w'.heap.size :=
  ⟨h.ext hb, (h.ext hb).cell, (h.ext hb).frozen, (h.ext hb).lt⟩
/-- A contract of a function that makes no memory, as a region of reads wants it. -/
theorem quiet {P : Program} {f : FuncId} {args : Array Value} {w : World} {v : Value} (h : Calls P f args w fun e w' => e = .returned v ∧ w = w') : Calls P f args w fun e w' => e = .returned v ∧ w' = w :=
  h.mono fun _ _ ⟨a, b⟩ => ⟨a, b.symm⟩
/-- Two lists, member by member. -/
def All2 {α β : Type} (R : α → β → Prop) : List α → List β → Prop
  | [], [] => True
  | a :: l, b :: m => R a b ∧ All2 R l m
  | _, _ => False
theorem All2.length {α β : Type} {R : α → β → Prop} : ∀ {l : List α} {m : List β}, All2 R l m → l.length = m.length
  | [], [], _ => rfl
  | _ :: l, _ :: m, h => by simp [All2.length (l := l) (m := m) h.2]
theorem All2.append {α β : Type} {R : α → β → Prop} : ∀ {l l' : List α} {m m' : List β}, All2 R l m → All2 R l' m' → All2 R (l ++ l') (m ++ m')
  | [], _, [], _, _, h' => h'
  | _ :: _, _, _ :: _, _, h, h' => ⟨h.1, All2.append h.2 h'⟩
theorem All2.imp {α β : Type} {R R' : α → β → Prop} (hR : ∀ a b, R a b → R' a b) : ∀ {l : List α} {m : List β}, All2 R l m → All2 R' l m
  | [], [], _ => trivial
  | _ :: _, _ :: _, h => ⟨hR _ _ h.1, All2.imp hR h.2⟩

theorem All2.get {α β : Type} {R : α → β → Prop} : ∀ {l : List α} {m : List β} {i : Nat} {a : α}, All2 R l m → l[i]? = some a → ∃ b, m[i]? = some b ∧ R a b
  | [], _, _, _, _, e => by simp at e
  | _ :: _, [], _, _, h, _ => h.elim
  | a :: l, b :: m, 0, _, h, e => by simp at e; subst e; exact ⟨b, rfl, h.1⟩
  | _ :: l, _ :: m, i + 1, _, h, e => by simpa using All2.get (l := l) (m := m) (i := i) h.2 (by simpa using e)
theorem All2.get' {α β : Type} {R : α → β → Prop} : ∀ {l : List α} {m : List β} {i : Nat} {b : β}, All2 R l m → m[i]? = some b → ∃ a, l[i]? = some a ∧ R a b
  | _, [], _, _, _, e => by simp at e
  | [], _ :: _, _, _, h, _ => h.elim
  | a :: l, b :: m, 0, _, h, e => by simp at e; subst e; exact ⟨a, rfl, h.1⟩
  | _ :: l, _ :: m, i + 1, _, h, e => by simpa using All2.get' (l := l) (m := m) (i := i) h.2 (by simpa using e)
theorem All2.impAt {α β : Type} {R R' : α → β → Prop} : ∀ {l : List α} {m : List β}, All2 R l m → (∀ (j : Nat) a c, l[j]? = some a → m[j]? = some c → R a c → R' a c) → All2 R' l m
  | [], [], _, _ => trivial
  | _ :: _, _ :: _, h, hk => ⟨hk 0 _ _ rfl rfl h.1, All2.impAt h.2 (fun j a c h1 h2 => hk (j + 1) a c (by simpa using h1) (by simpa using h2))⟩
theorem All2.set {α β : Type} {R R' : α → β → Prop} : ∀ {l : List α} {m : List β} (i : Nat) (b : β), All2 R l m → (∀ j a c, j ≠ i → l[j]? = some a → m[j]? = some c → R a c → R' a c) → (∀ a, l[i]? = some a → R' a b) → All2 R' l (m.set i b)
  | [], [], _, _, _, _, _ => trivial
  | a :: l, c :: m, 0, b, h, hk, hb => ⟨hb a rfl, All2.impAt h.2 (fun j a c h1 h2 => hk (j + 1) a c (by omega) (by simpa using h1) (by simpa using h2))⟩
  | a :: l, c :: m, i + 1, b, h, hk, hb => ⟨hk 0 a c (by omega) rfl rfl h.1, All2.set i b h.2 (fun j a c hj h1 h2 => hk (j + 1) a c (by omega) (by simpa using h1) (by simpa using h2)) (fun a ha => hb a (by simpa using ha))⟩
theorem ret_int {k : IntKind} {a b : Int} (h : b = a) : Ending.returned (.int k a) = .returned (.int k b) := by rw [h]
theorem ret_bool {a b : Bool} (h : b = a) : Ending.returned (.bool a) = .returned (.bool b) := by rw [h]
theorem ret_str {a b : ByteArray} (h : b = a) : Ending.returned (.string a) = .returned (.string b) := by rw [h]
theorem ret_eq {a b : Value} (h : a = b) : Ending.returned a = Ending.returned b := by rw [h]
end Go.Proofs.Ytcbknmnlgoeniaa
/- Slices that are read: a slice's elements as a list, each element a row of cells. -/
namespace Go.Proofs.Ytcbknmnlgoeniaa
open Go.RowKit

/-- v is a slice (nil or not) that reads as xs: element i lies in the cells 'enc xs[i]'. -/
def Sl {α : Type} (enc : α → List Value) (sz : Nat) (w : World) (v : Value) (xs : List α) : Prop :=
  (∃ o cap, v = .slice o 0 cap ∧ xs = []) ∨
  (∃ b off cap, v = .slice (some ⟨b, off, none⟩) xs.length cap ∧ 0 < xs.length ∧ xs.length ≤ cap ∧ cap ≤ maxLen ∧ b < w.heap.size ∧
    ∀ i x, xs[i]? = some x → ∀ j, j < sz → w.cell? ⟨b, off + i * sz + j, none⟩ = (enc x)[j]?)

theorem Sl.ext {α : Type} {enc : α → List Value} {sz : Nat} {w w' : World} {v : Value} {xs : List α} (h : Sl enc sz w v xs) (hb : Ext w w') : Sl enc sz w' v xs := by
  rcases h with h | ⟨b, off, cap, h1, h2, h3, h4, h5, h6⟩
  · exact .inl h
  · exact .inr ⟨b, off, cap, h1, h2, h3, h4, Nat.lt_of_lt_of_le h5 hb.size, fun i x hx j hj => (hb.cells.1 b _ h5).trans (h6 i x hx j hj)⟩
theorem Sl.len {α : Type} {enc : α → List Value} {sz : Nat} {w : World} {v : Value} {xs : List α} (h : Sl enc sz w v xs) : xs.length ≤ maxLen := by
  rcases h with ⟨o, cap, _, rfl⟩ | ⟨b, off, cap, h1, h2, h3, h4, h5, h6⟩
  · simp
  · omega

/-- The elements of a slice that is not empty, in the walk's spelling. -/
def SlAt {α : Type} (enc : α → List Value) (sz : Nat) (w : World) (b off : Nat) (xs : List α) : Prop :=
  ∀ i x, xs[i]? = some x → ∀ j, j < sz → w.cell? ⟨b, off + i * sz + j, none⟩ = (enc x)[j]?
theorem SlAt.ext {α : Type} {enc : α → List Value} {sz : Nat} {w w' : World} {b off : Nat} {xs : List α} (h : SlAt enc sz w b off xs) (hb : Ext w w') (hl : b < w.heap.size) : SlAt enc sz w' b off xs :=
  fun i x hx j hj => (hb.cells.1 b _ hl).trans (h i x hx j hj)

/-- What a 'sz..' function leaves. -/
def szOf (left : Int) (n : Nat) : Int := if left < n then -1 else left - n
theorem szOf_no {left : Int} {n : Nat} (h : left < n) : szOf left n = -1 := if_pos h
theorem szOf_yes {left : Int} {n : Nat} (h : ¬ left < n) : szOf left n = left - n := if_neg h
end Go.Proofs.Ytcbknmnlgoeniaa
/- Slices of one's own: a row that is filled or turned element by element. -/
namespace Go.Proofs.Ytcbknmnlgoeniaa
open Go.RowKit

theorem Ext.grownBy {w w' : World} (h : Ext w w') (row : Option Nat) : w.grownBy w' row := ⟨Below.os h, Below.tape h, Below.output h, h.size, fun k hk _ => Below.block h k hk⟩
theorem Ext.of_grownBy {w w' : World} (h : w.grownBy w' none) : Ext w w' := ⟨h.os, h.tape, h.output, h.size, fun k hk => h.block k hk (by simp)⟩
theorem Ext.of_grown {a w w' : World} {row : Option Nat} (h : Ext a w) (hg : w.grownBy w' row) (hr : ∀ k, row = some k → a.heap.size ≤ k) : Ext a w' := Below.grown h hg h.size hr

/-- Block g is a row of n elements (and room for c); the first k of them are xs's. -/
def Part {α : Type} (enc : α → List Value) (sz : Nat) (e : TypeId) (w : World) (g n c k : Nat) (xs : List α) : Prop :=
  ∃ cur, w.heap[g]? = some (.cells cur e (0, 0)) ∧ n ≤ c ∧ cur.size = c * sz ∧ ∀ i x, i < k → xs[i]? = some x → ∀ j, j < sz → cur[i * sz + j]? = (enc x)[j]?

/-- The cells of a new block. -/
theorem news_new {w : World} {cs : Array Value} {t : TypeId} {k : Nat} (hk : k = w.heap.size) : ∀ (j : Nat) (u : Value), cs.toList[j]? = some u → (w.alloc (.cells cs t)).cell? ((⟨k, 0, none⟩ : Addr).add j) = some u := by
  intro j u h
  have e : (⟨k, 0, none⟩ : Addr).add j = ⟨k, j, none⟩ := by unfold Addr.add; split <;> simp_all
  rw [e, (Box.new hk).cell j]
  simpa using h
/-- The cells of one element, stored one behind the other. -/
def storeAll (w : World) (g : Nat) : Nat → List Value → World
  | _, [] => w
  | o, c :: cs => storeAll (w.setCell ⟨g, o, none⟩ c) g (o + 1) cs

section
variable {α : Type} {enc : α → List Value} {sz : Nat} {e : TypeId} {w : World} {g n c k : Nat} {xs : List α}

theorem Part.lt (h : Part enc sz e w g n c k xs) : g < w.heap.size := by
  obtain ⟨cur, h1, _⟩ := h
  exact (Array.getElem?_eq_some_iff.1 h1).1
theorem Part.ext {w' : World} (h : Part enc sz e w g n c k xs) (hb : Ext w w') : Part enc sz e w' g n c k xs := by
  have hl := h.lt
  obtain ⟨cur, h1, h2, h2', h3⟩ := h
  exact ⟨cur, (Below.block hb g hl).trans h1, h2, h2', h3⟩
theorem Part.cell (h : Part enc sz e w g n c k xs) (o : Nat) (ho : o < n * sz) : ∃ v, w.cell? ⟨g, o, none⟩ = some v := by
  obtain ⟨cur, h1, h2, h2', _⟩ := h
  have := Nat.mul_le_mul_right sz h2
  rw [cell_of_row w g o cur e (0, 0) h1]
  exact ⟨_, Array.getElem?_eq_getElem (by omega)⟩
theorem Part.frozen (h : Part enc sz e w g n c k xs) (o : Nat) : w.frozen? ⟨g, o, none⟩ = false := by
  obtain ⟨cur, h1, _⟩ := h
  exact frozen_of_row w g o cur e h1
theorem storeAll_heap (cs : List Value) : ∀ (w : World) (o : Nat) (cur : Array Value), w.heap[g]? = some (.cells cur e (0, 0)) →
    ∃ cur', (storeAll w g o cs).heap[g]? = some (.cells cur' e (0, 0)) ∧ cur'.size = cur.size ∧ (∀ i, i < o → cur'[i]? = cur[i]?) ∧ ∀ j, j < cs.length → o + j < cur.size → cur'[o + j]? = cs[j]? := by
  induction cs with
  | nil => intro w o cur h; exact ⟨cur, h, rfl, fun _ _ => rfl, fun j hj => by simp at hj⟩
  | cons c cs ih =>
    intro w o cur h
    have h1 : (w.setCell ⟨g, o, none⟩ c).heap[g]? = some (.cells (cur.setIfInBounds o c) e (0, 0)) := by simp [World.setCell, Array.getElem?_modify, h]
    obtain ⟨cur', k1, k2, k3, k4⟩ := ih _ (o + 1) _ h1
    refine ⟨cur', k1, by simpa using k2, fun i hi => ?_, fun j hj hs => ?_⟩
    · rw [k3 i (by omega), Array.getElem?_setIfInBounds_ne (by omega)]
    · cases j with
      | zero =>
        rw [k3 (o + 0) (by omega)]
        simp only [Nat.add_zero]
        rw [Array.getElem?_setIfInBounds_self_of_lt (by omega)]
        simp
      | succ j =>
        have := k4 j (by simpa using hj) (by simp; omega)
        rw [show o + (j + 1) = o + 1 + j by omega, this]
        simp
theorem storeAll_other (cs : List Value) : ∀ (w : World) (o b : Nat), b ≠ g → (storeAll w g o cs).heap[b]? = w.heap[b]? := by
  induction cs with
  | nil => intro w o b _; rfl
  | cons c cs ih => intro w o b hb; rw [storeAll, ih _ _ _ hb]; exact Below.heap_setCell _ _ _ _ hb
theorem Part.store (h : Part enc sz e w g n c k xs) {x : α} (hx : xs[k]? = some x) (hk : k < n) (hl : (enc x).length = sz) : Part enc sz e (storeAll w g (k * sz) (enc x)) g n c (k + 1) xs := by
  obtain ⟨cur, h1, h2, h2', h3⟩ := h
  have hcs := Nat.mul_le_mul_right sz h2
  obtain ⟨cur', k1, k2, k3, k4⟩ := storeAll_heap (enc x) w (k * sz) cur h1
  refine ⟨cur', k1, h2, by omega, fun i y hi hy j hj => ?_⟩
  have hb : (k + 1) * sz ≤ n * sz := Nat.mul_le_mul_right _ hk
  rw [Nat.add_mul] at hb
  by_cases hik : i < k
  · have : (i + 1) * sz ≤ k * sz := Nat.mul_le_mul_right _ hik
    rw [Nat.add_mul] at this
    rw [k3 _ (by omega)]
    exact h3 i y hik hy j hj
  · obtain rfl : i = k := by omega
    rw [hx] at hy
    cases hy
    exact k4 j (by omega) (by omega)
theorem Part.start {base : Nat} {ys : List Value} (h : w.ownsRow base e sz (.slice (some ⟨g, 0, none⟩) n c) n ys) : Part enc sz e w g n c 0 xs := by
  rcases h.2 with ⟨h', _⟩ | ⟨g', cap, cur, h', _, hg, hn, _, hs, _⟩
  · simp at h'
  · simp only [Value.slice.injEq, Option.some.injEq, Addr.mk.injEq, and_true, true_and] at h'
    obtain ⟨rfl, rfl⟩ := h'
    exact ⟨cur, hg, hn, hs, fun i x hi => by omega⟩
end

theorem flatMap_get {α : Type} {enc : α → List Value} {sz : Nat} (hl : ∀ x, (enc x).length = sz) : ∀ (xs : List α) (i j : Nat) (x : α), xs[i]? = some x → j < sz → (xs.flatMap enc)[i * sz + j]? = (enc x)[j]? := by
  intro xs
  induction xs with
  | nil => intro i j x h; simp at h
  | cons y ys ih =>
    intro i j x h hj
    rw [List.flatMap_cons]
    cases i with
    | zero =>
      simp at h
      subst h
      rw [Nat.zero_mul, Nat.zero_add, List.getElem?_append_left (by rw [hl]; exact hj)]
    | succ i =>
      simp at h
      have e : (i + 1) * sz + j = sz + (i * sz + j) := by rw [Nat.add_mul]; omega
      rw [e, List.getElem?_append_right (by rw [hl]; omega), hl, Nat.add_sub_cancel_left]
      exact ih i j x h hj
theorem flatMap_len {α : Type} {enc : α → List Value} {sz : Nat} (hl : ∀ x, (enc x).length = sz) (xs : List α) : (xs.flatMap enc).length = xs.length * sz := by
  induction xs with
  | nil => simp
  | cons y ys ih => rw [List.flatMap_cons, List.length_append, ih, hl, List.length_cons, Nat.add_mul]; omega
theorem divide {sz o : Nat} (h : 0 < sz) : ∃ i j, o = i * sz + j ∧ j < sz := ⟨o / sz, o % sz, by rw [Nat.mul_comm]; exact (Nat.div_add_mod o sz).symm, Nat.mod_lt _ h⟩

section
variable {α : Type} {enc : α → List Value} {sz : Nat} {e : TypeId} {w : World} {g n : Nat} {xs : List α}
/-- A row that is filled whole is owned. -/
theorem Part.done {base c : Nat} (hl : ∀ x, (enc x).length = sz) (hsz : 0 < sz) (h : Part enc sz e w g n c n xs) (hn : xs.length = n) (hb : base ≤ g) (hm : c ≤ maxLen) :
    w.ownsRow base e sz (.slice (some ⟨g, 0, none⟩) n c) n (xs.flatMap enc) := by
  obtain ⟨cur, h1, h2, h2', h3⟩ := h
  have hcs := Nat.mul_le_mul_right sz h2
  refine ⟨by rw [flatMap_len hl, hn], .inr ⟨g, c, cur, rfl, hb, h1, h2, hm, h2', ?_⟩⟩
  apply List.ext_getElem?
  intro o
  by_cases ho : o < n * sz
  · rw [List.getElem?_take, if_pos ho]
    obtain ⟨i, j, rfl, hj⟩ := divide (o := o) hsz
    have hi : i < n := by
      rcases Nat.lt_or_ge i n with h | h
      · exact h
      · have := Nat.mul_le_mul_right sz h; omega
    have hx : xs[i]? = some (xs[i]'(by omega)) := List.getElem?_eq_getElem _
    rw [flatMap_get hl xs i j _ hx hj, ← h3 i _ hi hx j hj]
    simp
  · rw [List.getElem?_eq_none (by simp; omega), List.getElem?_eq_none (by rw [flatMap_len hl, hn]; omega)]
/-- What is owned reads. -/
theorem Sl.of_owns {base : Nat} {v : Value} (hl : ∀ x, (enc x).length = sz) (h : w.ownsRow base e sz v xs.length (xs.flatMap enc)) : Sl enc sz w v xs := by
  rcases h.2 with ⟨rfl, hn⟩ | ⟨g, cap, cur, rfl, hb, hg, h1, h2, h3, h4⟩
  · exact .inl ⟨_, _, rfl, List.eq_nil_of_length_eq_zero hn⟩
  · by_cases hn : xs.length = 0
    · exact .inl ⟨_, _, by rw [hn], List.eq_nil_of_length_eq_zero hn⟩
    · refine .inr ⟨g, 0, cap, rfl, by omega, h1, h2, (Array.getElem?_eq_some_iff.1 hg).1, fun i x hx j hj => ?_⟩
      have hi : i < xs.length := (List.getElem?_eq_some_iff.1 hx).1
      have : (i + 1) * sz ≤ xs.length * sz := Nat.mul_le_mul_right _ hi
      rw [Nat.add_mul] at this
      rw [Nat.zero_add, cell_of_row w g _ cur e (0, 0) hg, ← flatMap_get hl xs i j x hx hj, ← h4, List.getElem?_take, if_pos (by omega)]
      simp
theorem own_ext {w' : World} {base : Nat} {v : Value} {ys : List Value} (h : w.ownsRow base e sz v n ys) (hb : Ext w w') : w'.ownsRow base e sz v n ys :=
  h.kept (hb.grownBy none) (by cases v.ownBlock <;> simp)
/-- Two rows of which one was made later lie apart. -/
theorem own_apart {w1 w2 : World} {b1 b2 n1 n2 s1 s2 : Nat} {e1 e2 : TypeId} {v1 v2 : Value} {y1 y2 : List Value} (h1 : w1.ownsRow b1 e1 s1 v1 n1 y1) (h2 : w2.ownsRow b2 e2 s2 v2 n2 y2) (hb : w1.heap.size ≤ b2) :
    v1.ownBlock = none ∨ v1.ownBlock ≠ v2.ownBlock := by
  cases e1 : v1.ownBlock with
  | none => exact .inl rfl
  | some k =>
    right
    intro e2
    have := h1.lt k e1
    have := h2.lt k e2.symm
    omega
theorem own_apart' {w1 w2 : World} {b1 b2 n1 n2 s1 s2 : Nat} {e1 e2 : TypeId} {v1 v2 : Value} {y1 y2 : List Value} (h1 : w1.ownsRow b1 e1 s1 v1 n1 y1) (h2 : w2.ownsRow b2 e2 s2 v2 n2 y2) (hb : w1.heap.size ≤ b2) :
    v2.ownBlock = none ∨ v2.ownBlock ≠ v1.ownBlock := by
  cases e2 : v2.ownBlock with
  | none => exact .inl rfl
  | some k =>
    right
    intro e1
    have := h1.lt k e1.symm
    have := h2.lt k e2
    omega
theorem own_slice {base m : Nat} {v : Value} {ys : List Value} (h : w.ownsRow base e sz v m ys) : ∃ o l c, v = .slice o l c := by
  rcases h.2 with ⟨rfl, _⟩ | ⟨g, cap, cur, rfl, _⟩
  · exact ⟨_, _, _, rfl⟩
  · exact ⟨_, _, _, rfl⟩
theorem grownBy_refl (w : World) (row : Option Nat) : w.grownBy w row := ⟨rfl, rfl, rfl, Nat.le_refl _, fun _ _ _ => rfl⟩
theorem grownBy_trans {a b c : World} {row : Option Nat} (h : a.grownBy b row) (k : b.grownBy c row) : a.grownBy c row :=
  ⟨k.os.trans h.os, k.tape.trans h.tape, k.output.trans h.output, Nat.le_trans h.size k.size, fun i hi hr => (k.block i (Nat.lt_of_lt_of_le hi h.size) hr).trans (h.block i hi hr)⟩
theorem grownBy_set {a b : World} {g : Nat} (h : a.grownBy b (some g)) (o : Nat) (u : Value) : a.grownBy (b.setCell ⟨g, o, none⟩ u) (some g) :=
  grownBy_trans h ⟨rfl, rfl, rfl, by simp [World.setCell], fun k _ hr => Below.heap_setCell _ _ _ _ (by simpa using hr)⟩
theorem Ext.toGrown {a b : World} {row : Option Nat} (h : Ext a b) : a.grownBy b row := h.grownBy row
theorem Box.grown {a b : World} {g k : Nat} {cs : Array Value} (h : Box a k cs) (hg : a.grownBy b (some g)) (hne : k ≠ g) : Box b k cs := by
  have hl := h.lt
  obtain ⟨t, h⟩ := h
  exact ⟨t, (hg.block k hl (by simpa using hne)).trans h⟩
theorem Box.far {a b : World} {k : Nat} {row : Option Nat} {cs : Array Value} (h : Box a k cs) (hg : a.grownBy b row) (hne : some k ≠ row) : Box b k cs := by
  have hl := h.lt
  obtain ⟨t, h⟩ := h
  exact ⟨t, (hg.block k hl hne).trans h⟩
/-- A box behind a call that writes into another block. -/
theorem Box.afterG {w w' : World} {g k : Nat} {cs : Array Value} (hg : w.grownBy w' (some g)) (h : Box w k cs) (hne : k ≠ g) : Box w' k cs ∧ (∀ o, w'.cell? ⟨k, o, none⟩ = cs[o]?) ∧ (∀ o, w'.frozen? ⟨k, o, none⟩ = false) ∧ k < w'.heap.size :=
  ⟨h.grown hg hne, (h.grown hg hne).cell, (h.grown hg hne).frozen, (h.grown hg hne).lt⟩
theorem Box.rules {w : World} {k : Nat} {cs : Array Value} (h : Box w k cs) : (∀ o, w.cell? ⟨k, o, none⟩ = cs[o]?) ∧ (∀ o, w.frozen? ⟨k, o, none⟩ = false) ∧ k < w.heap.size := ⟨h.cell, h.frozen, h.lt⟩
/-- What owns no memory that was there owns as before while another row is written. -/
theorem own_keep {w' : World} {base m : Nat} {v : Value} {ys : List Value} {row : Option Nat} (h : w.ownsRow base e sz v m ys) (hg : w.grownBy w' row) (hne : v.ownBlock = none ∨ v.ownBlock ≠ row) : w'.ownsRow base e sz v m ys := h.kept hg hne
theorem Part.again {base c : Nat} {ys : List Value} (h : w.ownsRow base e sz (.slice (some ⟨g, 0, none⟩) n c) n ys) : Part enc sz e w g n c 0 xs ∧ base ≤ g ∧ c ≤ maxLen := by
  refine ⟨Part.start h, ?_⟩
  rcases h.2 with ⟨h', _⟩ | ⟨g', cap, cur, h', hb, hg, hn, hm, hs, _⟩
  · simp at h'
  · simp only [Value.slice.injEq, Option.some.injEq, Addr.mk.injEq, and_true, true_and] at h'
    obtain ⟨rfl, rfl⟩ := h'
    exact ⟨hb, hm⟩
/-- The value of what is owned: nil, or the head of a row. -/
theorem own_value {base m : Nat} {v : Value} {ys : List Value} (h : w.ownsRow base e sz v m ys) : (v = .slice none 0 0 ∧ m = 0 ∧ ys = []) ∨ ∃ g c, v = .slice (some ⟨g, 0, none⟩) m c := by
  rcases h.2 with ⟨rfl, rfl⟩ | ⟨g, cap, cur, rfl, _⟩
  · exact .inl ⟨rfl, rfl, List.eq_nil_of_length_eq_zero (by simpa using h.1)⟩
  · exact .inr ⟨g, cap, rfl⟩
end
end Go.Proofs.Ytcbknmnlgoeniaa
/- Slices of slices. -/
namespace Go.Proofs.Ytcbknmnlgoeniaa
open Go.RowKit

/-- A slice as a cell. -/
def encV (v : Value) : List Value := [v]
theorem encV_len (x : Value) : (encV x).length = 1 := rfl
theorem flat_encV (l : List Value) : l.flatMap encV = l := by
  induction l with
  | nil => rfl
  | cons b l ih => rw [List.flatMap_cons, ih]; rfl
/-- Two values that lead into different blocks (or nowhere). -/
def Apart (a b : Value) : Prop := ∀ k, a.ownBlock = some k → b.ownBlock = some k → False
theorem Apart.or {a b : Value} (h : Apart a b) : a.ownBlock = none ∨ a.ownBlock ≠ b.ownBlock := by
  cases e : a.ownBlock with
  | none => exact .inl rfl
  | some k => exact .inr fun e' => h k e e'.symm
theorem Apart.symm {a b : Value} (h : Apart a b) : Apart b a := fun k h1 h2 => h k h2 h1

section
variable {α : Type} {enc : α → List Value} {sz : Nat} {e : TypeId} {w : World} {base : Nat} {vs : List Value} {xss : List (List α)}

def RowsOwn (enc : α → List Value) (sz : Nat) (e : TypeId) (base : Nat) (w : World) (vs : List Value) (xss : List (List α)) : Prop :=
  All2 (fun rv xs => w.ownsRow base e sz rv xs.length (xs.flatMap enc)) vs xss
theorem own_base {base' n : Nat} {v : Value} {ys : List Value} (h : w.ownsRow base e sz v n ys) (hb : base' ≤ base) : w.ownsRow base' e sz v n ys := by
  refine ⟨h.1, ?_⟩
  rcases h.2 with h2 | ⟨g, cap, cur, h1, h2, h3⟩
  · exact .inl h2
  · exact .inr ⟨g, cap, cur, h1, by omega, h3⟩
theorem RowsOwn.rebase {base' : Nat} (h : RowsOwn enc sz e base w vs xss) (hb : base' ≤ base) : RowsOwn enc sz e base' w vs xss := All2.imp (fun _ _ q => own_base q hb) h
theorem RowsOwn.ext {w' : World} (h : RowsOwn enc sz e base w vs xss) (hb : Ext w w') : RowsOwn enc sz e base w' vs xss := All2.imp (fun _ _ q => own_ext q hb) h
theorem RowsOwn.lt (h : RowsOwn enc sz e base w vs xss) {rv : Value} (hr : rv ∈ vs) : ∀ k, rv.ownBlock = some k → base ≤ k ∧ k < w.heap.size := by
  obtain ⟨i, hi, rfl⟩ := List.getElem_of_mem hr
  obtain ⟨xs, _, q⟩ := All2.get h (List.getElem?_eq_getElem hi)
  exact q.lt
/-- A row elsewhere is written. -/
theorem RowsOwn.keep {w' : World} {row : Option Nat} (h : RowsOwn enc sz e base w vs xss) (hg : w.grownBy w' row) (hne : ∀ rv ∈ vs, rv.ownBlock = none ∨ rv.ownBlock ≠ row) : RowsOwn enc sz e base w' vs xss :=
  All2.impAt h fun _ a _ h1 _ q => own_keep q hg (hne a (List.mem_of_getElem? h1))
theorem RowsOwn.snoc {rv : Value} {xs : List α} (h : RowsOwn enc sz e base w vs xss) (hr : w.ownsRow base e sz rv xs.length (xs.flatMap enc)) : RowsOwn enc sz e base w (vs ++ [rv]) (xss ++ [xs]) := All2.append h ⟨hr, trivial⟩
theorem pair_snoc {rv : Value} (h : vs.Pairwise Apart) (hr : ∀ a ∈ vs, Apart a rv) : (vs ++ [rv]).Pairwise Apart := by
  rw [List.pairwise_append]
  exact ⟨h, List.pairwise_singleton _ _, fun a ha b hb => by rw [List.mem_singleton] at hb; subst hb; exact hr a ha⟩
/-- One of the rows is turned. -/
theorem RowsOwn.turn {w' : World} {i : Nat} {rv : Value} {zs : List α} (h : RowsOwn enc sz e base w vs xss) (hp : vs.Pairwise Apart) (hi : vs[i]? = some rv) (hg : w.grownBy w' rv.ownBlock) (hz : w'.ownsRow base e sz rv zs.length (zs.flatMap enc)) : RowsOwn enc sz e base w' vs (xss.set i zs) := by
  refine All2.set i zs h (fun j a c hj h1 _ q => own_keep q hg ?_) (fun a ha => by rw [hi] at ha; obtain rfl := Option.some.inj ha; exact hz)
  have hij : i < vs.length := (List.getElem?_eq_some_iff.1 hi).1
  have hjj : j < vs.length := (List.getElem?_eq_some_iff.1 h1).1
  have e1 : vs[j] = a := by rw [List.getElem?_eq_getElem hjj] at h1; exact Option.some.inj h1
  have e2 : vs[i] = rv := by rw [List.getElem?_eq_getElem hij] at hi; exact Option.some.inj hi
  have hall := List.pairwise_iff_getElem.1 hp
  rcases Nat.lt_or_gt_of_ne hj with hlt | hlt
  · have := hall j i hjj hij hlt
    rw [e1, e2] at this
    exact this.or
  · have := hall i j hij hjj hlt
    rw [e1, e2] at this
    exact this.symm.or
theorem Part.more {sz' : Nat} {g n c k : Nat} {xs ys : List α} (h : Part enc sz' e w g n c k xs) (hk : k ≤ xs.length) : Part enc sz' e w g n c k (xs ++ ys) := by
  obtain ⟨cur, h1, h2, h3, h4⟩ := h
  exact ⟨cur, h1, h2, h3, fun i x hi hx j hj => h4 i x hi (by rw [List.getElem?_append_left (by omega)] at hx; exact hx) j hj⟩
/-- A slice of slices of one's own. -/
def OwnSS (enc : α → List Value) (sz : Nat) (eo ei : TypeId) (base : Nat) (w : World) (v : Value) (xss : List (List α)) : Prop :=
  ∃ vs : List Value, w.ownsRow base eo 1 v vs.length (vs.flatMap encV) ∧ RowsOwn enc sz ei base w vs xss ∧ vs.Pairwise Apart ∧ ∀ rv ∈ vs, Apart v rv
/-- A slice of slices that is read. -/
def SlSl (enc : α → List Value) (sz : Nat) (w : World) (v : Value) (xss : List (List α)) : Prop :=
  ∃ vs : List Value, Sl encV 1 w v vs ∧ All2 (Sl enc sz w) vs xss
theorem SlSl.ext {w' : World} {v : Value} (h : SlSl enc sz w v xss) (hb : Ext w w') : SlSl enc sz w' v xss := by
  obtain ⟨vs, h1, h2⟩ := h
  exact ⟨vs, h1.ext hb, All2.imp (fun _ _ q => q.ext hb) h2⟩
theorem OwnSS.read {eo ei : TypeId} {v : Value} (hl : ∀ x, (enc x).length = sz) (h : OwnSS enc sz eo ei base w v xss) : SlSl enc sz w v xss := by
  obtain ⟨vs, h1, h2, _⟩ := h
  exact ⟨vs, Sl.of_owns encV_len h1, All2.imp (fun _ _ q => Sl.of_owns hl q) h2⟩
theorem OwnSS.ext {eo ei : TypeId} {v : Value} {w' : World} (h : OwnSS enc sz eo ei base w v xss) (hb : Ext w w') : OwnSS enc sz eo ei base w' v xss := by
  obtain ⟨vs, h1, h2, h3⟩ := h
  exact ⟨vs, own_ext h1 hb, h2.ext hb, h3⟩
theorem own_under {w' : World} {k n : Nat} {v : Value} {ys : List Value} (h : w.ownsRow base e sz v n ys) (hg : w.grownBy w' (some k)) (hk : k < base) : w'.ownsRow base e sz v n ys :=
  own_keep h hg (by
    cases e : v.ownBlock with
    | none => exact .inl rfl
    | some j =>
      have := h.lt j e
      right
      intro e2
      have := Option.some.inj e2
      omega)
theorem own_set {n : Nat} {v u : Value} {ys : List Value} {p : Addr} (h : w.ownsRow base e sz v n ys) (hk : p.block < base) (hs : p.spot = none) : (w.setCell p u).ownsRow base e sz v n ys := by
  obtain ⟨b, o, s⟩ := p
  simp only at hs
  subst hs
  exact own_under h (grownBy_set (grownBy_refl _ _) _ _) hk
theorem OwnSS.rebase {eo ei : TypeId} {base' : Nat} {v : Value} (h : OwnSS enc sz eo ei base w v xss) (hb : base' ≤ base) : OwnSS enc sz eo ei base' w v xss := by
  obtain ⟨vs, h1, h2, h3⟩ := h
  exact ⟨vs, own_base h1 hb, h2.rebase hb, h3⟩
theorem OwnSS.under {eo ei : TypeId} {w' : World} {k : Nat} {v : Value} (h : OwnSS enc sz eo ei base w v xss) (hg : w.grownBy w' (some k)) (hk : k < base) : OwnSS enc sz eo ei base w' v xss := by
  obtain ⟨vs, h1, h2, h3⟩ := h
  exact ⟨vs, own_under h1 hg hk, All2.imp (fun _ _ q => own_under q hg hk) h2, h3⟩
theorem OwnSS.set {eo ei : TypeId} {v u : Value} {p : Addr} (h : OwnSS enc sz eo ei base w v xss) (hk : p.block < base) (hs : p.spot = none) : OwnSS enc sz eo ei base (w.setCell p u) v xss := by
  obtain ⟨vs, h1, h2, h3⟩ := h
  exact ⟨vs, own_set h1 hk hs, All2.imp (fun _ _ q => own_set q hk hs) h2, h3⟩
theorem OwnSS.alloc {eo ei : TypeId} {v : Value} {o : Obj} (h : OwnSS enc sz eo ei base w v xss) : OwnSS enc sz eo ei base (w.alloc o) v xss := h.ext ((Ext.refl _).alloc _)
theorem OwnSS.drew {eo ei : TypeId} {v : Value} (h : OwnSS enc sz eo ei base w v xss) : OwnSS enc sz eo ei base w.drew v xss := h.ext (Ext.refl _).drew
theorem RowsOwn.set {p : Addr} {u : Value} (h : RowsOwn enc sz e base w vs xss) (hk : p.block < base) (hs : p.spot = none) : RowsOwn enc sz e base (w.setCell p u) vs xss := All2.imp (fun _ _ q => own_set q hk hs) h
theorem SlSl.len {v : Value} (h : SlSl enc sz w v xss) : ∃ o c, v = .slice o xss.length c := by
  obtain ⟨vs, h1, h2⟩ := h
  have e := h2.length
  rcases h1 with ⟨o, c, rfl, rfl⟩ | ⟨b, off, c, rfl, _⟩
  · exact ⟨o, c, by rw [← e]; rfl⟩
  · exact ⟨_, c, by rw [← e]⟩
theorem SlSl.bd {v : Value} (h : SlSl enc sz w v xss) : xss.length ≤ maxLen := by
  obtain ⟨vs, h1, h2⟩ := h
  rw [← h2.length]
  exact h1.len
end
end Go.Proofs.Ytcbknmnlgoeniaa
/- append of a slice that is read, onto a slice of one's own: also where nothing is appended. -/
namespace Go.Proofs.Ytcbknmnlgoeniaa
open Go.RowKit Go.Builtin

section
variable {α : Type} {enc : α → List Value} {P : Program} (w : World)

theorem run_append_sl (t ty : TypeId) (base : Nat) (e : TypeId) (i : TypeInfo) (z : Value) (size bytes : Nat) (ht : P.underlying t = some (.slice e)) (hi : P.info? e = some i) (hz : i.zero = some z)
    (hsize : i.size = size) (hby : i.bytes = bytes) (hzs : z.cells.size = size) (hsz : 0 < size)
    (v : Value) (n : Nat) (xs : List Value) (hown : w.ownsRow base e size v n xs)
    (xv : Value) (ys : List α) (hsl : Sl enc size w xv ys) (hel : ∀ y, (enc y).length = size) (h1 : ∀ y ∈ ys, ∀ u ∈ enc y, u.oneCell' = true)
    (h63 : n + ys.length ≤ maxLen) (hbytes : (n + ys.length) * bytes ≤ 140737488355328) (hbase : base ≤ w.heap.size) :
    ∃ v' w', (Builtin.append_ #[t, t] ty #[v, xv]).run P w = .ok v' w' ∧ w'.ownsRow base e size v' (n + ys.length) (xs ++ ys.flatMap enc) ∧ w.grownBy w' v.ownBlock ∧ (v'.ownBlock = v.ownBlock ∨ v'.ownBlock = some w.heap.size) := by
  rcases hsl with ⟨o, c, rfl, rfl⟩ | ⟨b, off, c, rfl, hp, hlc, hcm, hb, hat⟩
  · refine ⟨v, w, ?_, by simpa using hown, grownBy_refl _ _, .inl rfl⟩
    rcases hown.2 with ⟨rfl, rfl⟩ | ⟨g, cap, cur, rfl, hbg, hg, hnc, hcm, hcs, htake⟩
    · cases o <;> simp [Builtin.append_, run_underlying ht, sizeOf, typeInfo, hi, Builtin.lenOf, Builtin.firstCells, loadCells, loadCellsFrom]
    · cases o <;> simp [Builtin.append_, run_underlying ht, sizeOf, typeInfo, hi, Builtin.lenOf, Builtin.firstCells, loadCells, loadCellsFrom, storeCells, hnc]
  · have hnews : ∀ j u, (ys.flatMap enc)[j]? = some u → w.cell? ((⟨b, off, none⟩ : Addr).add j) = some u := by
      intro j u hu
      obtain ⟨q, r, rfl, hr⟩ := divide (sz := size) (o := j) hsz
      have hlt : q * size + r < (ys.flatMap enc).length := (List.getElem?_eq_some_iff.1 hu).1
      rw [flatMap_len hel] at hlt
      have hq : q < ys.length := by
        rcases Nat.lt_or_ge q ys.length with h | h
        · exact h
        · have := Nat.mul_le_mul_right size h; omega
      have hy : ys[q]? = some ys[q] := List.getElem?_eq_getElem _
      have := hat q _ hy r hr
      rw [flatMap_get hel ys q r _ hy hr] at hu
      have e : (⟨b, off, none⟩ : Addr).add (q * size + r) = ⟨b, off + q * size + r, none⟩ := by unfold Addr.add; split <;> simp_all; omega
      rw [e, this, hu]
    obtain ⟨v', w', hr, h2, h3, _, h5⟩ := run_append_own_at (P := P) w base t ty e i z size bytes ht hi hz hsize hby hzs hsz v n xs hown ⟨b, off, none⟩ ys.length c (ys.flatMap enc) (flatMap_len hel ys) hnews
      (fun u hu => by obtain ⟨y, hm, hy⟩ := List.mem_flatMap.1 hu; exact h1 y hm u hy) h63 hbytes hbase
    exact ⟨v', w', hr, h2, h3, h5⟩

/-- At the operation. -/
theorem wp_append_sl {o : Oper} {a : Act} {K : Act → World → Prop} {Q : Exit → Act → World → Prop} (s x : Operand) (t : TypeId)
    (ho : o.op = .call { callee := .builtin .append, args := #[s, x], argTypes := #[t, t] })
    (base : Nat) (e : TypeId) (i : TypeInfo) (z : Value) (size bytes : Nat) (ht : P.underlying t = some (.slice e)) (hi : P.info? e = some i) (hz : i.zero = some z)
    (hsize : i.size = size) (hby : i.bytes = bytes) (hzs : z.cells.size = size) (hsz : 0 < size)
    (v : Value) (n : Nat) (xs : List Value) (hs : a.eval s = v) (hown : w.ownsRow base e size v n xs)
    (xv : Value) (ys : List α) (hx : a.eval x = xv) (hsl : Sl enc size w xv ys) (hel : ∀ y, (enc y).length = size) (h1 : ∀ y ∈ ys, ∀ u ∈ enc y, u.oneCell' = true)
    (h63 : n + ys.length ≤ maxLen) (hbytes : (n + ys.length) * bytes ≤ 140737488355328) (hbase : base ≤ w.heap.size)
    (h : ∀ v' w', w'.ownsRow base e size v' (n + ys.length) (xs ++ ys.flatMap enc) → w.grownBy w' v.ownBlock → (v'.ownBlock = v.ownBlock ∨ v'.ownBlock = some w.heap.size) → K (a.put o.dst v') w') : o.wp P a w K Q := by
  obtain ⟨v', w', hr, h2, h3, h4⟩ := run_append_sl (P := P) w t o.type base e i z size bytes ht hi hz hsize hby hzs hsz v n xs hown xv ys hsl hel h1 h63 hbytes hbase
  unfold Oper.wp execOp
  simp only [ho, resolve, invoke, builtin, Sem.run_bind, Sem.run_pure, Result.andThen_ok, List.map_toArray, List.map_cons, List.map_nil, hs, hx, hr]
  exact h v' w' h2 h3 h4

/-- At the list of a plain region's operations. -/
theorem wpList_append_sl {ops : Array Oper} {rest : List Oper} {o : Oper} {a : Act} {Q : Exit → Act → World → Prop} (hgd : o.guard = none) (s x : Operand) (t : TypeId)
    (ho : o.op = .call { callee := .builtin .append, args := #[s, x], argTypes := #[t, t] })
    (base : Nat) (e : TypeId) (i : TypeInfo) (z : Value) (size bytes : Nat) (ht : P.underlying t = some (.slice e)) (hi : P.info? e = some i) (hz : i.zero = some z)
    (hsize : i.size = size) (hby : i.bytes = bytes) (hzs : z.cells.size = size) (hsz : 0 < size)
    (v : Value) (n : Nat) (xs : List Value) (hs : a.eval s = v) (hown : w.ownsRow base e size v n xs)
    (xv : Value) (ys : List α) (hx : a.eval x = xv) (hsl : Sl enc size w xv ys) (hel : ∀ y, (enc y).length = size) (h1 : ∀ y ∈ ys, ∀ u ∈ enc y, u.oneCell' = true)
    (h63 : n + ys.length ≤ maxLen) (hbytes : (n + ys.length) * bytes ≤ 140737488355328) (hbase : base ≤ w.heap.size)
    (h : ∀ v' w', w'.ownsRow base e size v' (n + ys.length) (xs ++ ys.flatMap enc) → w.grownBy w' v.ownBlock → (v'.ownBlock = v.ownBlock ∨ v'.ownBlock = some w.heap.size) → wpList P ops Q rest (a.put o.dst v') w') : wpList P ops Q (o :: rest) a w :=
  wpList_plain hgd fun _ hK => wp_append_sl w s x t ho base e i z size bytes ht hi hz hsize hby hzs hsz v n xs hs hown xv ys hx hsl hel h1 h63 hbytes hbase fun v' w' h2 h3 h4 => hK _ _ (h v' w' h2 h3 h4)

/-- At a step of a region that draws its order. -/
theorem step_append_sl {ops : Array Oper} {o : Oper} {a : Act} {K : Act → World → Prop} {Q : Exit → Act → World → Prop} {E : Prop} (hgd : o.guard = none) (s x : Operand) (t : TypeId)
    (ho : o.op = .call { callee := .builtin .append, args := #[s, x], argTypes := #[t, t] })
    (base : Nat) (e : TypeId) (i : TypeInfo) (z : Value) (size bytes : Nat) (ht : P.underlying t = some (.slice e)) (hi : P.info? e = some i) (hz : i.zero = some z)
    (hsize : i.size = size) (hby : i.bytes = bytes) (hzs : z.cells.size = size) (hsz : 0 < size)
    (v : Value) (n : Nat) (xs : List Value) (hs : a.eval s = v) (hown : w.ownsRow base e size v n xs)
    (xv : Value) (ys : List α) (hx : a.eval x = xv) (hsl : Sl enc size w xv ys) (hel : ∀ y, (enc y).length = size) (h1 : ∀ y ∈ ys, ∀ u ∈ enc y, u.oneCell' = true)
    (h63 : n + ys.length ≤ maxLen) (hbytes : (n + ys.length) * bytes ≤ 140737488355328) (hbase : base ≤ w.heap.size)
    (h : ∀ v' w', w'.ownsRow base e size v' (n + ys.length) (xs ++ ys.flatMap enc) → w.grownBy w' v.ownBlock → (v'.ownBlock = v.ownBlock ∨ v'.ownBlock = some w.heap.size) → K (a.put o.dst v') w') :
    if Region.wanted o (yielded ops a.tmps) = true then Oper.wp P o a w K Q else E := by
  have hw : Region.wanted o (yielded ops a.tmps) = true := by simp [Region.wanted, hgd]
  rw [if_pos hw]
  exact wp_append_sl w s x t ho base e i z size bytes ht hi hz hsize hby hzs hsz v n xs hs hown xv ys hx hsl hel h1 h63 hbytes hbase h
end
/-- One row more: it was copied behind w1, laid into a cell and appended. -/
theorem copy_step {α : Type} {enc : α → List Value} {sz : Nat} {eo ei : TypeId} {base : Nat} {w1 w2 w3 : World} {vs : List Value} {xss : List (List α)} {ov rv ov' : Value} {xs : List α} {o : Obj} (hbs : base ≤ w1.heap.size)
    (hO : w1.ownsRow base eo 1 ov vs.length (vs.flatMap encV)) (hR : RowsOwn enc sz ei base w1 vs xss) (hA : vs.Pairwise Apart ∧ ∀ a ∈ vs, Apart ov a) (hb : Ext w1 w2) (hO2 : w2.ownsRow w1.heap.size ei sz rv xs.length (xs.flatMap enc))
    (hG : (w2.alloc o).grownBy w3 ov.ownBlock) (hB : ov'.ownBlock = ov.ownBlock ∨ ov'.ownBlock = some (w2.alloc o).heap.size) :
    RowsOwn enc sz ei base w3 (vs ++ [rv]) (xss ++ [xs]) ∧ (vs ++ [rv]).Pairwise Apart ∧ ∀ a ∈ vs ++ [rv], Apart ov' a := by
  have a1 : ∀ a ∈ vs, Apart a rv := fun a ha k h1 h2 => by
    have := hR.lt ha k h1
    have := hO2.lt k h2
    omega
  have a2 : Apart ov rv := fun k h1 h2 => by
    have := hO.lt k h1
    have := hO2.lt k h2
    omega
  have a3 : ∀ a ∈ vs ++ [rv], Apart ov a := fun a ha => by
    rcases List.mem_append.1 ha with ha | ha
    · exact hA.2 a ha
    · rw [List.mem_singleton] at ha
      subst ha
      exact a2
  have hR2 : RowsOwn enc sz ei base (w2.alloc o) (vs ++ [rv]) (xss ++ [xs]) := ((hR.ext hb).ext ((Ext.refl _).alloc _)).snoc (own_ext (own_base hO2 hbs) ((Ext.refl _).alloc _))
  refine ⟨hR2.keep hG fun a ha => (a3 a ha).symm.or, pair_snoc hA.1 a1, fun a ha k h1 h2 => ?_⟩
  rcases hB with h | h
  · exact a3 a ha k (h ▸ h1) h2
  · have := hR2.lt ha k h2
    rw [h] at h1
    have := Option.some.inj h1
    omega
/-- A slice of one cell, new made. -/
theorem Sl.newE {α : Type} {enc : α → List Value} {w : World} {x : α} {y : Value} {t : TypeId} {k : Nat} (he : enc x = [y]) (hk : k = w.heap.size) : Sl enc 1 (w.alloc (.cells #[y] t)) (.slice (some ⟨k, 0, none⟩) 1 1) [x] := by
  refine .inr ⟨k, 0, 1, rfl, by simp, by simp, by unfold maxLen; omega, by simp [hk], fun i z hz j hj => ?_⟩
  have hi : i = 0 := by have := (List.getElem?_eq_some_iff.1 hz).1; simp at this; exact this
  obtain rfl : j = 0 := by omega
  subst hi
  simp at hz
  subst hz
  rw [he]
  exact (Box.new hk).cell 0
theorem Sl.new {w : World} {x : Value} {t : TypeId} {k : Nat} (hk : k = w.heap.size) : Sl encV 1 (w.alloc (.cells #[x] t)) (.slice (some ⟨k, 0, none⟩) 1 1) [x] := Sl.newE rfl hk
end Go.Proofs.Ytcbknmnlgoeniaa
/- What an argument reads as: a value's cells by the shape of its type, computed from the program's table. And the frame that every law's statement shares. -/
namespace Go.Proofs.Ytcbknmnlgoeniaa
open Go.RowKit Go.ChangeShapes Go.WideShapes

/-- A cell's shape. -/
inductive Sh where
  | int (k : IntKind)
  | bool
  | str
  | sl (es : List Sh)

/-- The shapes of a struct's fields, laid one behind the other. -/
def shapeFields (g : TypeId → Option (List Sh)) (P : Program) : Nat → List Field → Option (List Sh)
  | _, [] => some []
  | off, f :: fs => if f.offset = off then (g f.type).bind fun ss => if ss.length = P.cellsOf f.type then (shapeFields g P (off + ss.length) fs).map (ss ++ ·) else none else none

def shapeOf (P : Program) : Nat → TypeId → Option (List Sh)
  | 0, _ => none
  | n + 1, t =>
    match P.underlying t with
    | some .bool => some [.bool]
    | some (.int k) => some [.int k]
    | some .string => some [.str]
    | some (.slice e) => (shapeOf P n e).bind fun ss => if ss.length = P.cellsOf e then some [.sl ss] else none
    | some (.struct fs) => (shapeFields (shapeOf P n) P 0 fs.toList).bind fun ss => if ss.length = P.cellsOf t then some ss else none
    | _ => none

/-- Cells, each of its shape. 'n' bounds the depth. -/
def CellN (W : World) : Nat → Sh → Value → Prop
  | _, .int k, v => ∃ n, v = .int k n ∧ (Lit.int k n).wf = true
  | _, .bool, v => ∃ b, v = .bool b
  | _, .str, v => ∃ s : ByteArray, v = .string s ∧ s.size ≤ maxLen
  | 0, .sl _, _ => False
  | n + 1, .sl es, v => (v = .slice none 0 0) ∨ ∃ (a : Addr) (len cap : Nat), v = .slice (some a) len cap ∧ len ≤ cap ∧ cap ≤ maxLen ∧
      ∀ i, i < len → ∃ cs, All2 (CellN W n) es cs ∧ cs.length = es.length ∧ ∀ j, j < cs.length → W.cell? ((a.add (i * es.length)).add j) = cs[j]?

theorem CellN.up {W : World} : ∀ {n : Nat} {s : Sh} {v : Value}, CellN W n s v → CellN W (n + 1) s v
  | 0, .int _, _, h => h
  | 0, .bool, _, h => h
  | 0, .str, _, h => h
  | 0, .sl _, _, h => h.elim
  | _ + 1, .int _, _, h => h
  | _ + 1, .bool, _, h => h
  | _ + 1, .str, _, h => h
  | n + 1, .sl es, v, h => by
    rcases h with h | ⟨a, len, cap, h1, h2, h3, h4⟩
    · exact .inl h
    · exact .inr ⟨a, len, cap, h1, h2, h3, fun i hi => let ⟨cs, q1, q2, q3⟩ := h4 i hi; ⟨cs, All2.imp (fun _ _ => CellN.up) q1, q2, q3⟩⟩

theorem wf_bd {n : Int} (h : (Lit.int .i64 n).wf = true) : -9223372036854775808 ≤ n ∧ n ≤ 9223372036854775807 := by
  simp [Lit.wf, IntKind.min, IntKind.max, IntKind.signed, IntKind.bits] at h
  omega
theorem wf_le {n : Int} (h : (Lit.int .i64 n).wf = true) : n ≤ 9223372036854775807 := (wf_bd h).2
theorem cell_int {W : World} {n : Nat} {k : IntKind} {v : Value} (h : CellN W n (.int k) v) : ∃ i, v = .int k i ∧ (Lit.int k i).wf = true := by cases n <;> exact h
theorem cell_bool {W : World} {n : Nat} {v : Value} (h : CellN W n .bool v) : ∃ b, v = .bool b := by cases n <;> exact h
theorem cell_str {W : World} {n : Nat} {v : Value} (h : CellN W n .str v) : ∃ s : ByteArray, v = .string s ∧ s.size ≤ maxLen := by cases n <;> exact h

section
variable {H : Type} {enc : TypeId × Value → H} {P : Program} {w : World} {base : Nat} {spare : Nat → Bool} {held : Bool}

theorem fields_cells {n m : Nat} (ih : ∀ (t : TypeId) (ss : List Sh) (k : Nat) (cs : List Value) (x : DataW H × List MemPlace), shapeOf P n t = some ss → DataW.trod enc P w base spare held k t cs = some x → All2 (CellN w n) ss cs) (cs : List Value) :
    ∀ (fs : List Field) (off : Nat) (ss : List Sh), shapeFields (shapeOf P n) P off fs = some ss →
      (∀ f ∈ fs, ∃ x, DataW.trod enc P w base spare held m f.type ((cs.drop f.offset).take (P.cellsOf f.type)) = some x) →
      All2 (CellN w n) ss ((cs.drop off).take ss.length) := by
  intro fs
  induction fs with
  | nil =>
    intro off ss h _
    simp only [shapeFields, Option.some.injEq] at h
    subst h
    simp [All2]
  | cons f fs ihf =>
    intro off ss h hx
    unfold shapeFields at h
    by_cases hoff : f.offset = off
    · rw [if_pos hoff] at h
      obtain ⟨s1, h1, h2⟩ := Option.bind_eq_some_iff.1 h
      by_cases hl : s1.length = P.cellsOf f.type
      · rw [if_pos hl] at h2
        obtain ⟨s2, h3, rfl⟩ := Option.map_eq_some_iff.1 h2
        obtain ⟨x, hx1⟩ := hx f (List.mem_cons_self ..)
        have q1 := ih _ _ _ _ _ h1 hx1
        have q2 := ihf _ _ h3 (fun f' hf' => hx f' (List.mem_cons_of_mem _ hf'))
        rw [hoff, ← hl] at q1
        have e : (cs.drop off).take (s1 ++ s2).length = (cs.drop off).take s1.length ++ (cs.drop (off + s1.length)).take s2.length := by
          rw [List.length_append, List.take_add, List.drop_drop]
        rw [e]
        exact All2.append q1 q2
      · rw [if_neg hl] at h2; cases h2
    · rw [if_neg hoff] at h; cases h

theorem trod_cells : ∀ (n : Nat) (t : TypeId) (ss : List Sh) (k : Nat) (cs : List Value) (x : DataW H × List MemPlace), shapeOf P n t = some ss → DataW.trod enc P w base spare held k t cs = some x → All2 (CellN w n) ss cs := by
  intro n
  induction n with
  | zero => intro t ss k cs x h; simp [shapeOf] at h
  | succ n ih =>
    intro t ss k cs x h hx
    unfold shapeOf at h
    split at h
    · rename_i hu
      obtain ⟨b, rfl, _⟩ := DataW.trod_bool hu hx
      cases h
      exact ⟨⟨b, rfl⟩, trivial⟩
    · rename_i kk hu
      obtain ⟨i, rfl, _, hw⟩ := DataW.trod_int hu hx
      cases h
      exact ⟨⟨i, rfl, hw⟩, trivial⟩
    · rename_i hu
      obtain ⟨s, rfl, _, hs⟩ := DataW.trod_string hu hx
      cases h
      exact ⟨⟨s, rfl, hs⟩, trivial⟩
    · rename_i e hu
      obtain ⟨s1, h1, h2⟩ := Option.bind_eq_some_iff.1 h
      by_cases hl : s1.length = P.cellsOf e
      · rw [if_pos hl] at h2
        cases h2
        rcases DataW.trod_slice hu hx with ⟨rfl, _⟩ | ⟨a, len, cap, elems, rest, m, _, rfl, _, _, h3, h4, h5, h6, _⟩
        · exact ⟨.inl rfl, trivial⟩
        · refine ⟨.inr ⟨a, len, cap, rfl, h3, h4, fun i hi => ?_⟩, trivial⟩
          have h7 := h6 i hi
          rw [List.getElem?_eq_getElem (by omega)] at h7
          obtain ⟨cs', h8, h9⟩ := Option.bind_eq_some_iff.1 h7
          obtain ⟨_, g2, g3⟩ := World.cells?_some h8
          have q := ih _ _ _ _ _ h1 h9
          refine ⟨cs', q, by rw [g2, hl], fun j hj => ?_⟩
          rw [← g3 j (by omega), hl]
      · rw [if_neg hl] at h2; cases h2
    · rename_i fs hu
      obtain ⟨s1, h1, h2⟩ := Option.bind_eq_some_iff.1 h
      by_cases hl : s1.length = P.cellsOf t
      · rw [if_pos hl] at h2
        cases h2
        obtain ⟨xs, m, _, _, hlen, hxl, hf⟩ := DataW.trod_struct hu hx
        have q := fields_cells (m := m) ih cs fs.toList 0 ss h1 (fun f hf' => by
          obtain ⟨i, hi, rfl⟩ := List.getElem_of_mem hf'
          have := hf i fs.toList[i] (by simp)
          rw [this]
          exact ⟨xs[i]'(by rw [hxl]; simpa using hi), by simp⟩)
        rw [List.drop_zero, List.take_of_length_le (by omega)] at q
        exact All2.imp (fun a b => CellN.up) q
      · rw [if_neg hl] at h2; cases h2
    · cases h

theorem read_struct {n : Nat} {r : Reach} {b0 : Nat} {t : TypeId} {ss : List Sh} {fs : Array Field} {v : Value} {d : DataW H} {p : List MemPlace} (hu : P.underlying t = some (.struct fs)) (hsh : shapeOf P n t = some ss)
    (hv : Value.okWide P w r b0 t v) (h : DataW.Trod enc P w base spare held t v d p) : ∃ cs : Array Value, v = .agg cs ∧ All2 (CellN w n) ss cs.toList := by
  obtain ⟨cs, rfl, _⟩ := okWide_struct hu hv
  obtain ⟨k, hk⟩ := h
  exact ⟨cs, rfl, trod_cells _ _ _ _ _ _ hsh hk⟩
theorem read_slice {n : Nat} {r : Reach} {b0 : Nat} {t e : TypeId} {s : Sh} {v : Value} {d : DataW H} {p : List MemPlace} (hu : P.underlying t = some (.slice e)) (hsh : shapeOf P n t = some [s])
    (hv : Value.okWide P w r b0 t v) (h : DataW.Trod enc P w base spare held t v d p) : CellN w n s v := by
  obtain ⟨a, len, cap, rfl⟩ := okWide_slice hu hv
  obtain ⟨k, hk⟩ := h
  exact (trod_cells _ _ _ _ _ _ hsh hk).1
theorem read_int {r : Reach} {b0 : Nat} {t : TypeId} {q : IntKind} {v : Value} {d : DataW H} {p : List MemPlace} (hu : P.underlying t = some (.int q))
    (hv : Value.okWide P w r b0 t v) (h : DataW.Trod enc P w base spare held t v d p) : ∃ i, v = .int q i ∧ (Lit.int q i).wf = true := by
  obtain ⟨i, rfl⟩ := okWide_int hu hv
  obtain ⟨k, hk⟩ := h
  obtain ⟨j, hj, _, hw⟩ := DataW.trod_int hu hk
  simp [Value.cells] at hj
  exact ⟨i, rfl, hj ▸ hw⟩
theorem read_bool {r : Reach} {b0 : Nat} {t : TypeId} {v : Value} (hu : P.underlying t = some .bool)
    (hv : Value.okWide P w r b0 t v) : ∃ b, v = .bool b := okWide_bool hu hv
theorem read_string {r : Reach} {b0 : Nat} {t : TypeId} {v : Value} {d : DataW H} {p : List MemPlace} (hu : P.underlying t = some .string)
    (hv : Value.okWide P w r b0 t v) (h : DataW.Trod enc P w base spare held t v d p) : ∃ s : ByteArray, v = .string s ∧ s.size ≤ maxLen := by
  obtain ⟨s, rfl⟩ := okWide_string hu hv
  obtain ⟨k, hk⟩ := h
  obtain ⟨s', hj, _, hs⟩ := DataW.trod_string hu hk
  simp [Value.cells] at hj
  exact ⟨s, rfl, hj ▸ hs⟩

theorem trodAll_below {w' : World} (hl : laidOutB P = true) : ∀ (ts : List TypeId) (vs : List Value) (ds : List (DataW H)) (ps : List MemPlace), ts.all (fun t => P.readableRec t && decide (t < P.types.size)) = true →
    DataW.TrodAll enc P w 0 (fun _ => true) true ts vs ds ps → Ext w w' → DataW.TrodAll enc P w' 0 (fun b => decide (b < w.heap.size)) true ts vs ds ps := by
  intro ts
  induction ts with
  | nil =>
    intro vs ds ps _ h _
    match vs, ds, h with
    | [], [], h => exact h
  | cons t ts ih =>
    intro vs ds ps hr h hb
    match vs, ds, h with
    | v :: vs, d :: ds, ⟨p, q, h1, h2, h3⟩ =>
      simp only [List.all_cons, Bool.and_eq_true, decide_eq_true_eq] at hr
      have lt : ∀ x ∈ p, x.block < w.heap.size := by obtain ⟨m, hm⟩ := h1; exact DataW.trod_lt m _ _ _ hm
      exact ⟨p, q, Below.trod hl hr.1.1 hr.1.2 h1 hb lt, ih vs ds q (by simpa using hr.2) h2 hb, h3⟩

theorem trodAll_length : ∀ (ts : List TypeId) (vs : List Value) (ds : List (DataW H)) (ps : List MemPlace), DataW.TrodAll enc P w base spare held ts vs ds ps → ds.length = ts.length
  | [], [], [], _, _ => rfl
  | _ :: ts, _ :: vs, _ :: ds, _, ⟨_, q, _, h, _⟩ => by simp [trodAll_length ts vs ds q h]

/-- THE FRAME OF A LAW: the call returns true and of what was there nothing has turned: so the row's post holds. -/
theorem law_post {fn : Func} {f : FuncId} {s : ChangeSpec} {tb : TypeId} {apart : Bool} (hv : s.vars = []) (hres : fn.resultTypes = #[tb]) (hb : P.underlying tb = some .bool) (hlaid : laidOutB P = true)
    (hread : fn.params.toList.all (fun t => P.readableRec t && decide (t < P.types.size)) = true)
    (hspec : ∀ ds : List (DataW H), ds.length = fn.params.toList.length → (s.fn H ds).results = [.lit (.bool true)] ∧ (s.fn H ds).args = ds ∧ (s.fn H ds).vars = [])
    {args : Array Value} {ds gs : List (DataW H)} {before : List MemPlace} (hW : DataW.Whole enc P fn.params.toList s.vars apart w args.toList ds gs before)
    (h : Calls P f args w fun e W' => e = .returned (.bool true) ∧ Ext w W') :
    Calls P f args w fun e W' => ∃ v, e = .returned v ∧ s.post enc P fn apart true false false w args v W' := by
  refine h.mono fun e W' ⟨he, hx⟩ => ⟨_, he, ?_⟩
  have hW' := hW
  obtain ⟨p, q, hA, hV, rfl, hfz, hnd⟩ := hW
  rw [hv] at hV
  obtain ⟨rfl, rfl⟩ := trodVars_none hV
  obtain ⟨e1, e2, e3⟩ := hspec ds (trodAll_length _ _ _ _ hA)
  refine ⟨ds, [], _, [], p, [], hW', ?_, ?_, ?_, Below.frame hx _, fun h => by cases h⟩
  · rw [List.append_nil, e1, hres]
    exact trodAll_mk1 (shut_bool hb _)
  · rw [List.append_nil, e2]
    exact trodAll_below hlaid _ _ _ _ hread hA hx
  · rw [List.append_nil, e3, hv]
    rfl
end
end Go.Proofs.Ytcbknmnlgoeniaa
/- A slice that came in, as a list. -/
namespace Go.Proofs.Ytcbknmnlgoeniaa
open Go.RowKit

theorem add_none (b off n : Nat) : (⟨b, off, none⟩ : Addr).add n = ⟨b, off + n, none⟩ := by
  unfold Addr.add
  split
  · rename_i h; subst h; rfl
  · rfl

theorem sl_read {α : Type} {enc : α → List Value} {ok : α → Prop} {W : World} {n : Nat} {es : List Sh} {v : Value} (hes : 0 < es.length)
    (hdec : ∀ cs, All2 (CellN W n) es cs → ∃ a, cs = enc a ∧ ok a) (h : CellN W (n + 1) (.sl es) v) : ∃ xs, Sl enc es.length W v xs ∧ ∀ x ∈ xs, ok x := by
  rcases h with rfl | ⟨⟨b, off, spot⟩, len, cap, rfl, h1, h2, h3⟩
  · exact ⟨[], .inl ⟨_, _, rfl, rfl⟩, by simp⟩
  · by_cases hl : len = 0
    · subst hl
      exact ⟨[], .inl ⟨_, _, rfl, rfl⟩, by simp⟩
    · have h4 : ∀ i, i < len → ∃ a : α, ok a ∧ ∀ j, j < es.length → W.cell? (((⟨b, off, spot⟩ : Addr).add (i * es.length)).add j) = (enc a)[j]? ∧ (enc a).length = es.length := fun i hi => by
        obtain ⟨cs, q1, q2, q3⟩ := h3 i hi
        obtain ⟨a, rfl, ha⟩ := hdec cs q1
        exact ⟨a, ha, fun j hj => ⟨q3 j (by omega), q2⟩⟩
      obtain ⟨a0, _, ha0⟩ := h4 0 (by omega)
      have e0 := (ha0 0 hes).1
      have hlen0 := (ha0 0 hes).2
      rw [List.getElem?_eq_getElem (by omega)] at e0
      have hspot : spot = none := by
        have := World.cell?_spot e0
        simpa [Addr.add] using this
      subst hspot
      have hb : b < W.heap.size := by
        have := World.block_lt_of_cell? W _ e0
        simpa [Addr.add] using this
      have : Inhabited α := ⟨a0⟩
      obtain ⟨f, hf⟩ := Go.Deep.choose_lt h4
      refine ⟨(List.range len).map f, .inr ⟨b, off, cap, by simp, by simp; omega, by simpa using h1, h2, hb, fun i x hx j hj => ?_⟩, fun x hx => ?_⟩
      · have hi : i < len := by have := (List.getElem?_eq_some_iff.1 hx).1; simpa using this
        have hx' : x = f i := by
          simp [hi] at hx
          exact hx.symm
        subst hx'
        have := ((hf i hi).2 j hj).1
        rw [add_none, add_none] at this
        exact this
      · obtain ⟨i, hi, rfl⟩ := List.mem_map.1 hx
        exact (hf i (List.mem_range.1 hi)).1
end Go.Proofs.Ytcbknmnlgoeniaa
/- Data of any depth: how cells read as data, and what memory data of one's own take. -/
namespace Go.Proofs.Ytcbknmnlgoeniaa
open Go.RowKit

/-- A cell's datum. A slice: its element's type, cells an element, elements, and the cells of all elements one behind the other. -/
inductive D where
  | int (n : Int)
  | bool (b : Bool)
  | str (s : ByteArray)
  | sl (e : TypeId) (sz n : Nat) (es : List D)

/-- Cells that read as data. -/
inductive Rds (w : World) : List D → List Value → Prop
  | nil : Rds w [] []
  | int {ds vs} (n : Int) : Rds w ds vs → Rds w (.int n :: ds) (.int .i64 n :: vs)
  | bool {ds vs} (b : Bool) : Rds w ds vs → Rds w (.bool b :: ds) (.bool b :: vs)
  | str {ds vs} (s : ByteArray) : Rds w ds vs → Rds w (.str s :: ds) (.string s :: vs)
  | nilS {ds vs} (e sz o cap) : Rds w ds vs → Rds w (.sl e sz 0 [] :: ds) (.slice o 0 cap :: vs)
  | sl {ds vs es us} (e sz n b off cap) : 0 < n → n ≤ cap → cap ≤ maxLen → b < w.heap.size → es.length = n * sz → us.length = n * sz → (∀ o u, us[o]? = some u → w.cell? ⟨b, off + o, none⟩ = some u) →
      Rds w es us → Rds w ds vs → Rds w (.sl e sz n es :: ds) (.slice (some ⟨b, off, none⟩) n cap :: vs)

section
variable {w : World} {ds ds' : List D} {vs vs' : List Value}

theorem Rds.ext {w' : World} (h : Rds w ds vs) (hb : Ext w w') : Rds w' ds vs := by
  induction h with
  | nil => exact .nil
  | int n _ ih => exact .int n ih
  | bool b _ ih => exact .bool b ih
  | str s _ ih => exact .str s ih
  | nilS e sz o cap _ ih => exact .nilS e sz o cap ih
  | sl e sz n b off cap h1 h2 h3 h4 h5 h6 h7 _ _ ih1 ih2 => exact .sl e sz n b off cap h1 h2 h3 (Nat.lt_of_lt_of_le h4 hb.size) h5 h6 (fun o u hu => (hb.cells.1 b _ h4).trans (h7 o u hu)) ih1 ih2
theorem Rds.len (h : Rds w ds vs) : ds.length = vs.length := by
  induction h <;> simp_all
theorem Rds.append (h : Rds w ds vs) (k : Rds w ds' vs') : Rds w (ds ++ ds') (vs ++ vs') := by
  induction h with
  | nil => exact k
  | int n _ ih => exact .int n ih
  | bool b _ ih => exact .bool b ih
  | str s _ ih => exact .str s ih
  | nilS e sz o cap _ ih => exact .nilS e sz o cap ih
  | sl e sz n b off cap h1 h2 h3 h4 h5 h6 h7 h8 _ ih1 ih2 => exact .sl e sz n b off cap h1 h2 h3 h4 h5 h6 h7 h8 ih2
theorem rds_nil : Rds w [] vs ↔ vs = [] := ⟨fun h => by cases h; rfl, fun h => h ▸ .nil⟩
theorem rds_int {n : Int} : Rds w (.int n :: ds) vs ↔ ∃ vs', vs = .int .i64 n :: vs' ∧ Rds w ds vs' :=
  ⟨fun h => by cases h with | int _ h => exact ⟨_, rfl, h⟩, fun ⟨_, e, h⟩ => e ▸ .int n h⟩
theorem rds_bool {b : Bool} : Rds w (.bool b :: ds) vs ↔ ∃ vs', vs = .bool b :: vs' ∧ Rds w ds vs' :=
  ⟨fun h => by cases h with | bool _ h => exact ⟨_, rfl, h⟩, fun ⟨_, e, h⟩ => e ▸ .bool b h⟩
theorem rds_str {s : ByteArray} : Rds w (.str s :: ds) vs ↔ ∃ vs', vs = .string s :: vs' ∧ Rds w ds vs' :=
  ⟨fun h => by cases h with | str _ h => exact ⟨_, rfl, h⟩, fun ⟨_, e, h⟩ => e ▸ .str s h⟩
/-- A slice that reads as data. -/
def RS (w : World) (e : TypeId) (sz n : Nat) (es : List D) (v : Value) : Prop := Rds w [.sl e sz n es] [v]
theorem rds_sl {e : TypeId} {sz n : Nat} {es : List D} : Rds w (.sl e sz n es :: ds) vs ↔ ∃ v vs', vs = v :: vs' ∧ RS w e sz n es v ∧ Rds w ds vs' := by
  constructor
  · intro h
    cases h with
    | nilS e sz o cap h => exact ⟨_, _, rfl, .nilS e sz o cap .nil, h⟩
    | sl e sz n b off cap h1 h2 h3 h4 h5 h6 h7 h8 h => exact ⟨_, _, rfl, .sl e sz n b off cap h1 h2 h3 h4 h5 h6 h7 h8 .nil, h⟩
  · rintro ⟨v, vs', rfl, h, k⟩
    exact Rds.append h k
theorem rds_append : Rds w (ds ++ ds') vs ↔ ∃ v1 v2, vs = v1 ++ v2 ∧ Rds w ds v1 ∧ Rds w ds' v2 := by
  constructor
  · intro h
    induction ds generalizing vs with
    | nil => exact ⟨[], vs, rfl, .nil, h⟩
    | cons d ds ih =>
      cases d with
      | int n => obtain ⟨u, rfl, k⟩ := rds_int.1 h; obtain ⟨v1, v2, rfl, q1, q2⟩ := ih k; exact ⟨_ :: v1, v2, rfl, .int n q1, q2⟩
      | bool n => obtain ⟨u, rfl, k⟩ := rds_bool.1 h; obtain ⟨v1, v2, rfl, q1, q2⟩ := ih k; exact ⟨_ :: v1, v2, rfl, .bool n q1, q2⟩
      | str n => obtain ⟨u, rfl, k⟩ := rds_str.1 h; obtain ⟨v1, v2, rfl, q1, q2⟩ := ih k; exact ⟨_ :: v1, v2, rfl, .str n q1, q2⟩
      | sl e sz n es => obtain ⟨v, u, rfl, hv, k⟩ := rds_sl.1 h; obtain ⟨v1, v2, rfl, q1, q2⟩ := ih k; exact ⟨v :: v1, v2, rfl, rds_sl.2 ⟨v, v1, rfl, hv, q1⟩, q2⟩
  · rintro ⟨v1, v2, rfl, h1, h2⟩
    exact h1.append h2

variable {e : TypeId} {sz n : Nat} {es : List D} {v : Value}
theorem RS.ext {w' : World} (h : RS w e sz n es v) (hb : Ext w w') : RS w' e sz n es v := Rds.ext h hb
theorem RS.val (h : RS w e sz n es v) : ∃ o c, v = .slice o n c := by
  unfold RS at h
  cases h with
  | nilS => exact ⟨_, _, rfl⟩
  | sl => exact ⟨_, _, rfl⟩
theorem RS.bd (h : RS w e sz n es v) : n ≤ maxLen := by
  unfold RS at h
  cases h with
  | nilS => simp
  | sl => omega
theorem RS.len (h : RS w e sz n es v) : es.length = n * sz := by
  unfold RS at h
  cases h with
  | nilS => simp
  | sl => assumption
theorem RS.cell {off : Nat} {b c : Nat} {v : Value} (h : RS w e sz n es v) (hv : v = .slice (some ⟨b, off, none⟩) n c) (hn : 0 < n) : n ≤ c ∧ c ≤ maxLen ∧ b < w.heap.size := by
  subst hv
  unfold RS at h
  cases h with
  | nilS => omega
  | sl => exact ⟨by assumption, by assumption, by assumption⟩

/-- The cells from an address on read as data. -/
def RAt (w : World) (b off : Nat) (es : List D) : Prop := ∃ us, Rds w es us ∧ b < w.heap.size ∧ ∀ o u, us[o]? = some u → w.cell? ⟨b, off + o, none⟩ = some u
theorem RAt.ext {w' : World} {b off : Nat} (h : RAt w b off es) (hb : Ext w w') : RAt w' b off es := by
  obtain ⟨us, h1, h2, h3⟩ := h
  exact ⟨us, h1.ext hb, Nat.lt_of_lt_of_le h2 hb.size, fun o u hu => (hb.cells.1 b _ h2).trans (h3 o u hu)⟩
theorem RAt.app {b off : Nat} (h : RAt w b off (ds ++ ds')) : RAt w b off ds ∧ RAt w b (off + ds.length) ds' := by
  obtain ⟨us, h1, h2, h3⟩ := h
  obtain ⟨v1, v2, rfl, k1, k2⟩ := rds_append.1 h1
  refine ⟨⟨v1, k1, h2, fun o u hu => h3 o u (by rw [List.getElem?_append_left (List.getElem?_eq_some_iff.1 hu).1]; exact hu)⟩, ⟨v2, k2, h2, fun o u hu => ?_⟩⟩
  have := h3 (v1.length + o) u (by rw [List.getElem?_append_right (by omega), Nat.add_sub_cancel_left]; exact hu)
  rw [k1.len, Nat.add_assoc]
  exact this
/-- A slice: it is empty, or it leads to its elements. -/
theorem RS.cases (h : RS w e sz n es v) : (n = 0 ∧ es = [] ∧ ∃ o c, v = .slice o 0 c) ∨ (∃ b off c, v = .slice (some ⟨b, off, none⟩) n c ∧ 0 < n ∧ n ≤ c ∧ c ≤ maxLen ∧ RAt w b off es) := by
  unfold RS at h
  cases h with
  | nilS => exact .inl ⟨rfl, rfl, _, _, rfl⟩
  | sl e sz n b off cap h1 h2 h3 h4 h5 h6 h7 h8 h9 => exact .inr ⟨b, off, cap, rfl, h1, h2, h3, _, h8, h4, h7⟩

/-- A list of elements as a datum. -/
def slD {α : Type} (e : TypeId) (sz : Nat) (enc : α → List D) (xs : List α) : D := .sl e sz xs.length (xs.flatMap enc)
def RL {α : Type} (e : TypeId) (sz : Nat) (enc : α → List D) (w : World) (v : Value) (xs : List α) : Prop := RS w e sz xs.length (xs.flatMap enc) v
theorem rds_slD {α : Type} {enc : α → List D} {xs : List α} : Rds w (slD e sz enc xs :: ds) vs ↔ ∃ v vs', vs = v :: vs' ∧ RL e sz enc w v xs ∧ Rds w ds vs' := rds_sl
end

/-- The size that the laws count. -/
def szL : List D → Nat
  | [] => 0
  | .str s :: ds => s.size + szL ds
  | .sl _ _ n es :: ds => n + szL es + szL ds
  | .int _ :: ds => szL ds
  | .bool _ :: ds => szL ds
theorem szL_append (a b : List D) : szL (a ++ b) = szL a + szL b := by
  induction a with
  | nil => simp [szL]
  | cons d a ih => cases d <;> simp [szL, ih] <;> omega
/-- What every argument keeps to. -/
def okL : List D → Prop
  | [] => True
  | .str s :: ds => s.size ≤ 9223372036854775807 ∧ okL ds
  | .sl _ _ n es :: ds => n ≤ 9223372036854775807 ∧ okL es ∧ okL ds
  | .int n :: ds => (-9223372036854775808 ≤ n ∧ n ≤ 9223372036854775807) ∧ okL ds
  | .bool _ :: ds => okL ds
theorem okL_append (a b : List D) : okL (a ++ b) ↔ okL a ∧ okL b := by
  induction a with
  | nil => simp [okL]
  | cons d a ih => cases d <;> simp [okL, ih, and_assoc]
/-- What a 'sz..' function leaves. -/
def szR (left : Int) (n : Nat) : Int := if left < n then -1 else left - n
theorem szR_no {left : Int} {n : Nat} (h : left < n) : szR left n = -1 := if_pos h
theorem szR_yes {left : Int} {n : Nat} (h : ¬ left < n) : szR left n = left - n := if_neg h
theorem szR_zero {left : Int} (h : 0 ≤ left) : szR left 0 = left := by unfold szR; rw [if_neg (by omega)]; omega
theorem szR_add {left : Int} {a b : Nat} (_ : ¬ left < a) : szR left (a + b) = szR (left - a) b := by
  unfold szR
  split <;> split <;> omega
theorem szR_out {left : Int} {a b : Nat} (_ : left < a) : szR left (a + b) = -1 := szR_no (by omega)

/-- The text that a mark writes. -/
def mtd : Nat → Nat → List UInt8
  | 0, _ => []
  | f + 1, k => if k = 0 then [] else mtd f (k / 10) ++ [UInt8.ofNat (48 + k % 10)]
def mt (k : Int) : ByteArray := ⟨([109] ++ if k ≤ 0 then [48] else mtd k.toNat k.toNat).toArray⟩
/-- How many marks cells take. -/
def cnt : List D → Nat
  | [] => 0
  | .sl _ _ _ es :: ds => cnt es + cnt ds
  | .int _ :: ds => 1 + cnt ds
  | .bool _ :: ds => 1 + cnt ds
  | .str _ :: ds => 1 + cnt ds
/-- The marks, one cell behind the other. -/
def mk : List D → Int → List D
  | [], _ => []
  | .sl e sz n es :: ds, k => .sl e sz n (mk es k) :: mk ds (k + cnt es)
  | .int _ :: ds, k => .int k :: mk ds (k + 1)
  | .bool _ :: ds, k => .bool (k % 3 == 0) :: mk ds (k + 1)
  | .str _ :: ds, k => .str (mt k) :: mk ds (k + 1)
/-- Of a struct by value only what its slices lead to is marked. -/
def cntT : List D → Nat
  | [] => 0
  | .sl _ _ _ es :: ds => cnt es + cntT ds
  | .int _ :: ds => cntT ds
  | .bool _ :: ds => cntT ds
  | .str _ :: ds => cntT ds
def mkT : List D → Int → List D
  | [], _ => []
  | .sl e sz n es :: ds, k => .sl e sz n (mk es k) :: mkT ds (k + cnt es)
  | d :: ds, k => d :: mkT ds k
theorem cnt_append (a b : List D) : cnt (a ++ b) = cnt a + cnt b := by
  induction a with
  | nil => simp [cnt]
  | cons d a ih => cases d <;> simp [cnt, ih] <;> omega
theorem cntT_append (a b : List D) : cntT (a ++ b) = cntT a + cntT b := by
  induction a with
  | nil => simp [cntT]
  | cons d a ih => cases d <;> simp [cntT, ih] <;> omega
theorem mk_append (a b : List D) (k : Int) : mk (a ++ b) k = mk a k ++ mk b (k + cnt a) := by
  induction a generalizing k with
  | nil => simp [mk, cnt]
  | cons d a ih => cases d <;> simp [mk, cnt, ih, Int.add_assoc]
theorem mkT_append (a b : List D) (k : Int) : mkT (a ++ b) k = mkT a k ++ mkT b (k + cntT a) := by
  induction a generalizing k with
  | nil => simp [mkT, cntT]
  | cons d a ih => cases d <;> simp [mkT, cntT, ih, Int.add_assoc]
theorem mk_len (a : List D) (k : Int) : (mk a k).length = a.length := by
  induction a generalizing k with
  | nil => simp [mk]
  | cons d a ih => cases d <;> simp [mk, ih]
theorem cntT_le (a : List D) : cntT a ≤ cnt a := by
  induction a with
  | nil => simp [cnt, cntT]
  | cons d a ih => cases d <;> simp [cnt, cntT] <;> omega
end Go.Proofs.Ytcbknmnlgoeniaa
/- Data of any depth that lie in memory of one's own. -/
namespace Go.Proofs.Ytcbknmnlgoeniaa
open Go.RowKit

/-- Cells that read as data and own all that they lead to; the blocks, in order. -/
inductive Ows (w : World) : List D → List Value → List Nat → Prop
  | nil : Ows w [] [] []
  | int {ds vs F} (n : Int) : Ows w ds vs F → Ows w (.int n :: ds) (.int .i64 n :: vs) F
  | bool {ds vs F} (b : Bool) : Ows w ds vs F → Ows w (.bool b :: ds) (.bool b :: vs) F
  | str {ds vs F} (s : ByteArray) : Ows w ds vs F → Ows w (.str s :: ds) (.string s :: vs) F
  | sl {ds vs es us F G} (e sz n v) : w.ownsRow 0 e sz v n us → Ows w es us G → Ows w ds vs F → Ows w (.sl e sz n es :: ds) (v :: vs) (v.ownBlock.toList ++ (G ++ F))

/-- Only the blocks of F may have turned. -/
structure Chg (F : List Nat) (w w' : World) : Prop where
  os : w'.os = w.os
  tape : w'.tape = w.tape
  output : w'.output = w.output
  size : w.heap.size ≤ w'.heap.size
  block : ∀ k, k < w.heap.size → k ∉ F → w'.heap[k]? = w.heap[k]?
theorem Chg.refl {F : List Nat} {w : World} : Chg F w w := ⟨rfl, rfl, rfl, Nat.le_refl _, fun _ _ _ => rfl⟩
theorem Chg.trans {F : List Nat} {a b c : World} (h : Chg F a b) (k : Chg F b c) : Chg F a c :=
  ⟨k.os.trans h.os, k.tape.trans h.tape, k.output.trans h.output, Nat.le_trans h.size k.size, fun i hi hn => (k.block i (Nat.lt_of_lt_of_le hi h.size) hn).trans (h.block i hi hn)⟩
theorem Chg.mono {F G : List Nat} {a b : World} (h : Chg F a b) (hs : ∀ k ∈ F, k ∈ G) : Chg G a b := ⟨h.os, h.tape, h.output, h.size, fun k hk hn => h.block k hk fun hf => hn (hs k hf)⟩
theorem Ext.chg {F : List Nat} {a b : World} (h : Ext a b) : Chg F a b := ⟨Below.os h, Below.tape h, Below.output h, h.size, fun k hk _ => Below.block h k hk⟩
theorem Chg.grown {a b : World} {g : Nat} (h : Chg [g] a b) : a.grownBy b (some g) := ⟨h.os, h.tape, h.output, h.size, fun k hk hr => h.block k hk (by simpa using hr)⟩
theorem Chg.of_grown {a b : World} {row : Option Nat} (h : a.grownBy b row) : Chg row.toList a b := ⟨h.os, h.tape, h.output, h.size, fun k hk hr => h.block k hk (by cases row <;> simp_all)⟩
theorem Chg.set {F : List Nat} {a b : World} {g : Nat} (h : Chg F a b) (hg : g ∈ F) (o : Nat) (u : Value) : Chg F a (b.setCell ⟨g, o, none⟩ u) :=
  h.trans ((Chg.of_grown (row := some g) (grownBy_set (grownBy_refl _ _) o u)).mono (by simpa using hg))
theorem Chg.ext {F : List Nat} {w0 a b : World} (h : Ext w0 a) (k : Chg F a b) (hF : ∀ i ∈ F, w0.heap.size ≤ i) : Ext w0 b :=
  ⟨k.os.trans (Below.os h), k.tape.trans (Below.tape h), k.output.trans (Below.output h), Nat.le_trans h.size k.size, fun i hi => (k.block i (Nat.lt_of_lt_of_le hi h.size) fun hf => by have := hF i hf; omega).trans (Below.block h i hi)⟩

section
variable {w w' : World} {ds ds' : List D} {vs vs' : List Value} {F G : List Nat}

theorem Ows.len (h : Ows w ds vs F) : ds.length = vs.length := by
  induction h <;> simp_all
theorem Ows.keep (h : Ows w ds vs F) (hb : Chg G w w') (hd : ∀ k ∈ F, k ∉ G) : Ows w' ds vs F := by
  induction h with
  | nil => exact .nil
  | int n _ ih => exact .int n (ih hd)
  | bool n _ ih => exact .bool n (ih hd)
  | str n _ ih => exact .str n (ih hd)
  | sl e sz n v h1 _ _ ih1 ih2 =>
    refine .sl e sz n v ?_ (ih1 fun k hk => hd k (by simp [hk])) (ih2 fun k hk => hd k (by simp [hk]))
    refine ⟨h1.1, ?_⟩
    rcases h1.2 with h2 | ⟨g, cap, cur, rfl, q1, q2, q3⟩
    · exact .inl h2
    · refine .inr ⟨g, cap, cur, rfl, q1, ?_, q3⟩
      rw [hb.block g (Array.getElem?_eq_some_iff.1 q2).1 (hd g (by simp [Value.ownBlock])), q2]
theorem Ows.ext (h : Ows w ds vs F) (hb : Ext w w') : Ows w' ds vs F := h.keep (G := []) hb.chg (by simp)
theorem Ows.mem (h : Ows w ds vs F) : ∀ k ∈ F, k < w.heap.size := by
  induction h with
  | nil => simp
  | int n _ ih => exact ih
  | bool n _ ih => exact ih
  | str n _ ih => exact ih
  | sl e sz n v h1 _ _ ih1 ih2 =>
    intro k hk
    simp only [List.mem_append, Option.mem_toList] at hk
    rcases hk with hk | hk | hk
    · exact (h1.lt k hk).2
    · exact ih1 k hk
    · exact ih2 k hk
theorem Ows.append (h : Ows w ds vs F) (k : Ows w ds' vs' G) : Ows w (ds ++ ds') (vs ++ vs') (F ++ G) := by
  induction h with
  | nil => exact k
  | int n _ ih => exact .int n ih
  | bool n _ ih => exact .bool n ih
  | str n _ ih => exact .str n ih
  | sl e sz n v h1 h2 _ _ ih2 =>
    have := Ows.sl e sz n v h1 h2 ih2
    simpa [List.append_assoc] using this
theorem ows_nil : Ows w [] vs F ↔ vs = [] ∧ F = [] := ⟨fun h => by cases h; exact ⟨rfl, rfl⟩, fun ⟨h, k⟩ => h ▸ k ▸ .nil⟩
theorem ows_int {n : Int} : Ows w (.int n :: ds) vs F ↔ ∃ vs', vs = .int .i64 n :: vs' ∧ Ows w ds vs' F :=
  ⟨fun h => by cases h with | int _ h => exact ⟨_, rfl, h⟩, fun ⟨_, e, h⟩ => e ▸ .int n h⟩
theorem ows_bool {b : Bool} : Ows w (.bool b :: ds) vs F ↔ ∃ vs', vs = .bool b :: vs' ∧ Ows w ds vs' F :=
  ⟨fun h => by cases h with | bool _ h => exact ⟨_, rfl, h⟩, fun ⟨_, e, h⟩ => e ▸ .bool b h⟩
theorem ows_str {s : ByteArray} : Ows w (.str s :: ds) vs F ↔ ∃ vs', vs = .string s :: vs' ∧ Ows w ds vs' F :=
  ⟨fun h => by cases h with | str _ h => exact ⟨_, rfl, h⟩, fun ⟨_, e, h⟩ => e ▸ .str s h⟩
theorem ows_sl {e : TypeId} {sz n : Nat} {es : List D} : Ows w (.sl e sz n es :: ds) vs F ↔ ∃ v vs' F1 F2, vs = v :: vs' ∧ F = F1 ++ F2 ∧ Ows w [.sl e sz n es] [v] F1 ∧ Ows w ds vs' F2 := by
  constructor
  · intro h
    cases h with
    | sl e sz n v h1 h2 h3 => exact ⟨v, _, _, _, rfl, by rw [← List.append_assoc], by simpa using Ows.sl e sz n v h1 h2 .nil, h3⟩
  · rintro ⟨v, vs', F1, F2, rfl, rfl, h, k⟩
    exact h.append k
theorem ows_append : Ows w (ds ++ ds') vs F ↔ ∃ v1 v2 F1 F2, vs = v1 ++ v2 ∧ F = F1 ++ F2 ∧ Ows w ds v1 F1 ∧ Ows w ds' v2 F2 := by
  constructor
  · intro h
    induction ds generalizing vs F with
    | nil => exact ⟨[], vs, [], F, rfl, rfl, .nil, h⟩
    | cons d ds ih =>
      cases d with
      | int n => obtain ⟨u, rfl, k⟩ := ows_int.1 h; obtain ⟨v1, v2, F1, F2, rfl, rfl, q1, q2⟩ := ih k; exact ⟨_ :: v1, v2, F1, F2, rfl, rfl, .int n q1, q2⟩
      | bool n => obtain ⟨u, rfl, k⟩ := ows_bool.1 h; obtain ⟨v1, v2, F1, F2, rfl, rfl, q1, q2⟩ := ih k; exact ⟨_ :: v1, v2, F1, F2, rfl, rfl, .bool n q1, q2⟩
      | str n => obtain ⟨u, rfl, k⟩ := ows_str.1 h; obtain ⟨v1, v2, F1, F2, rfl, rfl, q1, q2⟩ := ih k; exact ⟨_ :: v1, v2, F1, F2, rfl, rfl, .str n q1, q2⟩
      | sl e sz n es =>
        obtain ⟨v, u, F0, F', rfl, rfl, hv, k⟩ := ows_sl.1 h
        obtain ⟨v1, v2, F1, F2, rfl, rfl, q1, q2⟩ := ih k
        exact ⟨v :: v1, v2, F0 ++ F1, F2, rfl, by rw [List.append_assoc], hv.append q1, q2⟩
  · rintro ⟨v1, v2, F1, F2, rfl, rfl, h1, h2⟩
    exact h1.append h2
theorem Ows.read (h : Ows w ds vs F) : Rds w ds vs := by
  induction h with
  | nil => exact .nil
  | int n _ ih => exact .int n ih
  | bool n _ ih => exact .bool n ih
  | str n _ ih => exact .str n ih
  | @sl ds vs es us F G e sz n v h1 h2 _ ih1 ih2 =>
    have hl := ih1.len
    by_cases hn : n = 0
    · subst hn
      have : us = [] := List.eq_nil_of_length_eq_zero (by rw [h1.1]; omega)
      subst this
      have : es = [] := List.eq_nil_of_length_eq_zero (by simpa using hl)
      subst this
      rcases h1.2 with ⟨rfl, _⟩ | ⟨g, cap, cur, rfl, _⟩
      · exact .nilS e sz _ _ ih2
      · exact .nilS e sz _ _ ih2
    · rcases h1.2 with ⟨_, h0⟩ | ⟨g, cap, cur, rfl, q1, q2, q3, q4, q5, q6⟩
      · exact absurd h0 hn
      · refine .sl e sz n g 0 cap (by omega) q3 q4 (Array.getElem?_eq_some_iff.1 q2).1 (by rw [hl, h1.1]) h1.1 (fun o u hu => ?_) ih1 ih2
        rw [Nat.zero_add, cell_of_row w g o cur e (0, 0) q2]
        rw [← q6, List.getElem?_take] at hu
        split at hu
        · simpa using hu
        · cases hu
end

/-- Data of one's own whose blocks lie in [lo, hi). -/
def Obj (w : World) (lo hi : Nat) (ds : List D) (vs : List Value) : Prop := ∃ F, Ows w ds vs F ∧ F.Nodup ∧ ∀ k ∈ F, lo ≤ k ∧ k < hi

section
variable {w w' : World} {ds ds' : List D} {vs vs' : List Value} {lo hi : Nat}
theorem Obj.read (h : Obj w lo hi ds vs) : Rds w ds vs := h.elim fun _ h => h.1.read
theorem Obj.ext (h : Obj w lo hi ds vs) (hb : Ext w w') : Obj w' lo hi ds vs := by
  obtain ⟨F, h1, h2, h3⟩ := h
  exact ⟨F, h1.ext hb, h2, h3⟩
theorem Obj.mono {lo' hi' : Nat} (h : Obj w lo hi ds vs) (h1 : lo' ≤ lo) (h2 : hi ≤ hi') : Obj w lo' hi' ds vs := by
  obtain ⟨F, k1, k2, k3⟩ := h
  exact ⟨F, k1, k2, fun k hk => by have := k3 k hk; omega⟩
/-- Only blocks in [lo, hi) may have turned. -/
def ChgI (lo hi : Nat) (w w' : World) : Prop := ∃ F, Chg F w w' ∧ ∀ k ∈ F, lo ≤ k ∧ k < hi
theorem Obj.keep {lo' hi' : Nat} (h : Obj w lo hi ds vs) (hc : ChgI lo' hi' w w') (hd : hi ≤ lo' ∨ hi' ≤ lo) : Obj w' lo hi ds vs := by
  obtain ⟨F, k1, k2, k3⟩ := h
  obtain ⟨G, g1, g2⟩ := hc
  exact ⟨F, k1.keep g1 fun k hk hg => by have := k3 k hk; have := g2 k hg; omega, k2, k3⟩
theorem ChgI.ext {w0 : World} (h : Ext w0 w) (hc : ChgI lo hi w w') (hl : w0.heap.size ≤ lo) : Ext w0 w' := by
  obtain ⟨F, k1, k2⟩ := hc
  exact k1.ext h fun i hi => by have := k2 i hi; omega
theorem Obj.append {mid : Nat} (h : Obj w lo mid ds vs) (k : Obj w mid hi ds' vs') (hl : lo ≤ mid) (hh : mid ≤ hi) : Obj w lo hi (ds ++ ds') (vs ++ vs') := by
  obtain ⟨F, k1, k2, k3⟩ := h
  obtain ⟨G, g1, g2, g3⟩ := k
  refine ⟨F ++ G, k1.append g1, List.nodup_append.2 ⟨k2, g2, fun a ha b hb => ?_⟩, fun k hk => ?_⟩
  · have := k3 a ha; have := g3 b hb; omega
  · rcases List.mem_append.1 hk with hk | hk
    · have := k3 k hk; omega
    · have := g3 k hk; omega
theorem Obj.split (h : Obj w lo hi (ds ++ ds') vs) : ∃ v1 v2, vs = v1 ++ v2 ∧ Obj w lo hi ds v1 ∧ Obj w lo hi ds' v2 := by
  obtain ⟨F, k1, k2, k3⟩ := h
  obtain ⟨v1, v2, F1, F2, rfl, rfl, q1, q2⟩ := ows_append.1 k1
  rw [List.nodup_append] at k2
  exact ⟨v1, v2, rfl, ⟨F1, q1, k2.1, fun k hk => k3 k (by simp [hk])⟩, ⟨F2, q2, k2.2.1, fun k hk => k3 k (by simp [hk])⟩⟩
theorem obj_nil : Obj w lo hi [] [] := ⟨[], .nil, by simp, by simp⟩
theorem Obj.int {n : Int} (h : Obj w lo hi ds vs) : Obj w lo hi (.int n :: ds) (.int .i64 n :: vs) := h.elim fun F h => ⟨F, .int n h.1, h.2⟩
theorem Obj.bool {n : Bool} (h : Obj w lo hi ds vs) : Obj w lo hi (.bool n :: ds) (.bool n :: vs) := h.elim fun F h => ⟨F, .bool n h.1, h.2⟩
theorem Obj.str {n : ByteArray} (h : Obj w lo hi ds vs) : Obj w lo hi (.str n :: ds) (.string n :: vs) := h.elim fun F h => ⟨F, .str n h.1, h.2⟩
theorem Obj.cons {mid : Nat} {d : D} {v : Value} (h : Obj w lo mid [d] [v]) (k : Obj w mid hi ds vs) (hl : lo ≤ mid) (hh : mid ≤ hi) : Obj w lo hi (d :: ds) (v :: vs) := Obj.append h k hl hh
theorem Obj.more {mid mid' : Nat} (h : Obj w lo mid ds vs) (k : Obj w mid' hi ds' vs') (hm : mid ≤ mid') (hh : mid ≤ hi) (hl : lo ≤ mid') : Obj w lo hi (ds ++ ds') (vs ++ vs') := by
  obtain ⟨F, k1, k2, k3⟩ := h
  obtain ⟨G, g1, g2, g3⟩ := k
  refine ⟨F ++ G, k1.append g1, List.nodup_append.2 ⟨k2, g2, fun a ha b hb => ?_⟩, fun k hk => ?_⟩
  · have := k3 a ha; have := g3 b hb; omega
  · rcases List.mem_append.1 hk with hk | hk
    · have := k3 k hk; omega
    · have := g3 k hk; omega
theorem Obj.set {p : Addr} {u : Value} (h : Obj w lo hi ds vs) (hk : p.block < lo ∨ hi ≤ p.block) : Obj (w.setCell p u) lo hi ds vs := by
  obtain ⟨F, k1, k2, k3⟩ := h
  have hc : Chg [p.block] w (w.setCell p u) := ⟨rfl, rfl, rfl, by simp [World.setCell], fun k _ hr => Below.heap_setCell _ _ _ _ (by simpa using hr)⟩
  exact ⟨F, k1.keep hc fun k hk' => by have := k3 k hk'; simp; omega, k2, k3⟩
theorem Obj.alloc {o : Go.Obj} (h : Obj w lo hi ds vs) : Obj (w.alloc o) lo hi ds vs := h.ext ((Ext.refl _).alloc _)
theorem Obj.drew (h : Obj w lo hi ds vs) : Obj w.drew lo hi ds vs := h.ext (Ext.refl _).drew
theorem Obj.drewN {n : Nat} (h : Obj w lo hi ds vs) : Obj (w.drewN n) lo hi ds vs := h.ext ((Ext.refl _).drewN n)
theorem obj_nilS {e : TypeId} {sz : Nat} : Obj w lo hi [.sl e sz 0 []] [.slice none 0 0] := ⟨[], by simpa [Value.ownBlock] using Ows.sl e sz 0 _ (World.ownsRow_nil w 0 e sz) .nil .nil, by simp, by simp⟩
end
end Go.Proofs.Ytcbknmnlgoeniaa
/- Data of any depth: cells one by one, stores, marks, appended elements. -/
namespace Go.Proofs.Ytcbknmnlgoeniaa
open Go.RowKit

section
variable {w w' : World} {ds ds' : List D} {vs vs' : List Value} {F G H : List Nat} {b off j : Nat}

theorem Rds.get {d : D} (h : Rds w ds vs) (hd : ds[j]? = some d) : ∃ u, vs[j]? = some u ∧ Rds w [d] [u] := by
  have hj : j < ds.length := (List.getElem?_eq_some_iff.1 hd).1
  have e : ds = ds.take j ++ (d :: ds.drop (j + 1)) := by
    rw [← (List.getElem?_eq_some_iff.1 hd).2, List.getElem_cons_drop, List.take_append_drop]
  rw [e] at h
  obtain ⟨v1, v2, rfl, k1, k2⟩ := rds_append.1 h
  have k3 : Rds w ([d] ++ ds.drop (j + 1)) v2 := k2
  obtain ⟨v3, v4, rfl, q1, _⟩ := rds_append.1 k3
  have hl := k1.len
  have hl3 := q1.len
  match v3, hl3 with
  | [u], _ => exact ⟨u, by rw [List.getElem?_append_right (by simp at hl; omega)]; simp at hl; simp [← hl, Nat.min_eq_left (Nat.le_of_lt hj)], q1⟩
theorem Rds.tail {d : D} {v : Value} (h : Rds w (d :: ds) (v :: vs)) : Rds w ds vs ∧ Rds w [d] [v] := by
  have h' : Rds w ([d] ++ ds) (v :: vs) := h
  obtain ⟨v1, v2, e, k1, k2⟩ := rds_append.1 h'
  match v1, k1.len with
  | [u], _ =>
    simp at e
    obtain ⟨rfl, rfl⟩ := e
    exact ⟨k2, k1⟩
theorem Rds.drop : ∀ (i : Nat) {ds : List D} {vs : List Value}, Rds w ds vs → Rds w (ds.drop i) (vs.drop i)
  | 0, _, _, h => h
  | i + 1, [], vs, h => by obtain rfl := rds_nil.1 h; simpa using h
  | i + 1, d :: ds, [], h => by have := h.len; simp at this
  | i + 1, d :: ds, v :: vs, h => by simpa using Rds.drop i h.tail.1
theorem Rds.take : ∀ (i : Nat) {ds : List D} {vs : List Value}, Rds w ds vs → Rds w (ds.take i) (vs.take i)
  | 0, _, _, _ => .nil
  | i + 1, [], vs, h => by obtain rfl := rds_nil.1 h; simpa using h
  | i + 1, d :: ds, [], h => by have := h.len; simp at this
  | i + 1, d :: ds, v :: vs, h => by simpa using h.tail.2.append (Rds.take i h.tail.1)
theorem Rds.cut (h : Rds w ds vs) (i n : Nat) : Rds w ((ds.drop i).take n) ((vs.drop i).take n) := (h.drop i).take n
theorem szL_cut (ds : List D) (i n : Nat) : szL ((ds.drop i).take n) ≤ szL ds := by
  have h1 := szL_append (ds.take i) (ds.drop i)
  have h2 := szL_append ((ds.drop i).take n) ((ds.drop i).drop n)
  rw [List.take_append_drop] at h1 h2
  omega
theorem RAt.get {d : D} (h : RAt w b off ds) (hd : ds[j]? = some d) : ∃ u, w.cell? ⟨b, off + j, none⟩ = some u ∧ Rds w [d] [u] := by
  obtain ⟨us, h1, h2, h3⟩ := h
  obtain ⟨u, hu, hr⟩ := h1.get hd
  exact ⟨u, h3 j u hu, hr⟩
theorem RAt.int {n : Int} (h : RAt w b off ds) (hd : ds[j]? = some (.int n)) : w.cell? ⟨b, off + j, none⟩ = some (.int .i64 n) := by
  obtain ⟨u, hu, hr⟩ := h.get hd
  obtain ⟨_, e, _⟩ := rds_int.1 hr
  cases e
  exact hu
theorem RAt.bool {n : Bool} (h : RAt w b off ds) (hd : ds[j]? = some (.bool n)) : w.cell? ⟨b, off + j, none⟩ = some (.bool n) := by
  obtain ⟨u, hu, hr⟩ := h.get hd
  obtain ⟨_, e, _⟩ := rds_bool.1 hr
  cases e
  exact hu
theorem RAt.str {n : ByteArray} (h : RAt w b off ds) (hd : ds[j]? = some (.str n)) : w.cell? ⟨b, off + j, none⟩ = some (.string n) := by
  obtain ⟨u, hu, hr⟩ := h.get hd
  obtain ⟨_, e, _⟩ := rds_str.1 hr
  cases e
  exact hu
theorem RAt.sl {e : TypeId} {sz n : Nat} {es : List D} (h : RAt w b off ds) (hd : ds[j]? = some (.sl e sz n es)) : ∃ o c, w.cell? ⟨b, off + j, none⟩ = some (.slice o n c) ∧ RS w e sz n es (.slice o n c) := by
  obtain ⟨u, hu, hr⟩ := h.get hd
  obtain ⟨o, c, rfl⟩ := RS.val hr
  exact ⟨o, c, hu, hr⟩
theorem RAt.lt (h : RAt w b off ds) : b < w.heap.size := h.elim fun _ h => h.2.1
/-- Element i of a list that lies in cells. -/
theorem flat_split {α β : Type} {enc : α → List β} {sz : Nat} (hl : ∀ x, (enc x).length = sz) : ∀ (xs : List α) (i : Nat) (x : α), xs[i]? = some x → ∃ l r, xs.flatMap enc = l ++ (enc x ++ r) ∧ l.length = i * sz
  | [], _, _, h => by simp at h
  | y :: ys, 0, x, h => by
    simp at h
    subst h
    exact ⟨[], ys.flatMap enc, by simp, by simp⟩
  | y :: ys, i + 1, x, h => by
    obtain ⟨l, r, e1, e2⟩ := flat_split hl ys i x (by simpa using h)
    exact ⟨enc y ++ l, r, by simp [e1], by rw [List.length_append, hl, e2, Nat.add_mul]; omega⟩
theorem RAt.elem {α : Type} {enc : α → List D} {sz i : Nat} {xs : List α} {x : α} (hl : ∀ x, (enc x).length = sz) (h : RAt w b off (xs.flatMap enc)) (hx : xs[i]? = some x) : RAt w b (off + i * sz) (enc x) := by
  obtain ⟨l, r, e1, e2⟩ := flat_split hl xs i x hx
  rw [e1] at h
  have := h.app.2.app.1
  rw [e2] at this
  exact this
theorem okL_elem {α : Type} {enc : α → List D} {xs : List α} {x : α} (h : okL (xs.flatMap enc)) (hx : x ∈ xs) : okL (enc x) := by
  induction xs with
  | nil => cases hx
  | cons y ys ih =>
    rw [List.flatMap_cons, okL_append] at h
    rcases List.mem_cons.1 hx with rfl | hx
    · exact h.1
    · exact ih h.2 hx
theorem szL_elem {α : Type} {enc : α → List D} {xs : List α} {x : α} (hx : x ∈ xs) : szL (enc x) ≤ szL (xs.flatMap enc) := by
  induction xs with
  | nil => cases hx
  | cons y ys ih =>
    rw [List.flatMap_cons, szL_append]
    rcases List.mem_cons.1 hx with rfl | hx
    · omega
    · have := ih hx; omega

/-- A scalar's value. -/
def valD : D → Value
  | .int n => .int .i64 n
  | .bool b => .bool b
  | .str s => .string s
  | .sl .. => .slice none 0 0
def scal : D → Bool
  | .sl .. => false
  | _ => true
theorem Rds.flat (h : Rds w ds vs) (hs : ds.all scal = true) : vs = ds.map valD := by
  induction h with
  | nil => rfl
  | int n _ ih => rw [List.all_cons, Bool.and_eq_true] at hs; simp [valD, ih hs.2]
  | bool n _ ih => rw [List.all_cons, Bool.and_eq_true] at hs; simp [valD, ih hs.2]
  | str n _ ih => rw [List.all_cons, Bool.and_eq_true] at hs; simp [valD, ih hs.2]
  | nilS => simp [scal] at hs
  | sl => simp [scal] at hs
theorem ows_flat : ∀ (ds : List D), ds.all scal = true → Ows w ds (ds.map valD) []
  | [], _ => .nil
  | .int n :: ds, h => .int n (ows_flat ds (by rw [List.all_cons, Bool.and_eq_true] at h; exact h.2))
  | .bool n :: ds, h => .bool n (ows_flat ds (by rw [List.all_cons, Bool.and_eq_true] at h; exact h.2))
  | .str n :: ds, h => .str n (ows_flat ds (by rw [List.all_cons, Bool.and_eq_true] at h; exact h.2))
  | .sl .. :: ds, h => by simp [scal] at h
theorem Ows.flat (h : Ows w ds vs F) (hs : ds.all scal = true) : vs = ds.map valD ∧ F = [] := by
  induction h with
  | nil => exact ⟨rfl, rfl⟩
  | int n _ ih => rw [List.all_cons, Bool.and_eq_true] at hs; have := ih hs.2; simp [valD, this]
  | bool n _ ih => rw [List.all_cons, Bool.and_eq_true] at hs; have := ih hs.2; simp [valD, this]
  | str n _ ih => rw [List.all_cons, Bool.and_eq_true] at hs; have := ih hs.2; simp [valD, this]
  | sl => simp [scal] at hs
theorem own_zero {base base' sz n : Nat} {e : TypeId} {v : Value} {ys : List Value} (h : w.ownsRow base e sz v n ys) (hb : ∀ k, v.ownBlock = some k → base' ≤ k) : w.ownsRow base' e sz v n ys := by
  refine ⟨h.1, ?_⟩
  rcases h.2 with h2 | ⟨g, cap, cur, rfl, _, h3⟩
  · exact .inl h2
  · exact .inr ⟨g, cap, cur, rfl, hb g rfl, h3⟩
theorem Obj.of_row {lo sz n : Nat} {e : TypeId} {v : Value} (h : w.ownsRow lo e sz v n (ds.map valD)) (hs : ds.all scal = true) : Obj w lo w.heap.size [.sl e sz n ds] [v] := by
  refine ⟨v.ownBlock.toList ++ ([] ++ []), .sl e sz n v (own_zero h (by simp)) (ows_flat ds hs) .nil, by cases v.ownBlock <;> simp, fun k hk => ?_⟩
  simp only [List.append_nil, Option.mem_toList] at hk
  exact h.lt k hk
theorem Obj.row {lo hi sz n : Nat} {e : TypeId} {v : Value} (h : Obj w lo hi [.sl e sz n ds] [v]) (hs : ds.all scal = true) : w.ownsRow lo e sz v n (ds.map valD) := by
  obtain ⟨F, h1, h2, h3⟩ := h
  cases h1 with
  | sl _ _ _ _ k1 k2 k3 =>
    obtain ⟨rfl, rfl⟩ := k2.flat hs
    exact own_zero k1 fun k hk => (h3 k (by simp [hk])).1
theorem Obj.own_hi {lo hi sz n : Nat} {e : TypeId} {v : Value} (h : Obj w lo hi [.sl e sz n ds] [v]) : ∀ k, v.ownBlock = some k → lo ≤ k ∧ k < hi := by
  obtain ⟨F, h1, h2, h3⟩ := h
  cases h1 with
  | sl _ _ _ _ k1 k2 k3 => exact fun k hk => h3 k (by simp [hk])
theorem Ows.oneCell (h : Ows w ds vs F) : ∀ u ∈ vs, u.oneCell' = true := by
  induction h with
  | nil => simp
  | int n _ ih => intro u hu; rcases List.mem_cons.1 hu with rfl | hu; exact rfl; exact ih u hu
  | bool n _ ih => intro u hu; rcases List.mem_cons.1 hu with rfl | hu; exact rfl; exact ih u hu
  | str n _ ih => intro u hu; rcases List.mem_cons.1 hu with rfl | hu; exact rfl; exact ih u hu
  | sl e sz n v h1 _ _ _ ih =>
    intro u hu
    rcases List.mem_cons.1 hu with rfl | hu
    · obtain ⟨o, l, c, rfl⟩ := own_slice h1; rfl
    · exact ih u hu

/-- A slice of one's own that is not nil, seen from inside. -/
theorem Ows.inside {e : TypeId} {sz n g c : Nat} {es : List D} (h : Ows w [.sl e sz n es] [.slice (some ⟨g, 0, none⟩) n c] F) (hn : F.Nodup) :
    ∃ us G, F = g :: G ∧ g ∉ G ∧ G.Nodup ∧ Ows w es us G ∧ w.ownsRow 0 e sz (.slice (some ⟨g, 0, none⟩) n c) n us ∧ g < w.heap.size ∧
      (∀ o u, us[o]? = some u → w.cell? ⟨g, o, none⟩ = some u) ∧ (∀ o, w.frozen? ⟨g, o, none⟩ = false) ∧
      ∀ w' es', Ows w' es' us G → Chg G w w' → Ows w' [.sl e sz n es'] [.slice (some ⟨g, 0, none⟩) n c] F := by
  cases h with
  | @sl _ _ _ us F' G _ _ _ _ h1 h2 h3 =>
    obtain ⟨_, rfl⟩ := ows_nil.1 h3
    simp only [Value.ownBlock, Option.toList_some, List.append_nil, List.singleton_append] at hn ⊢
    rw [List.nodup_cons] at hn
    have hc := h1.cells (g := g) rfl
    have hz : g < w.heap.size := (h1.lt g rfl).2
    have hf : ∀ o, w.frozen? ⟨g, o, none⟩ = false := by
      rcases h1.2 with ⟨h', _⟩ | ⟨g', cap, cur, h', _, hg, _⟩
      · simp at h'
      · simp only [Value.slice.injEq, Option.some.injEq, Addr.mk.injEq, and_true, true_and] at h'
        obtain ⟨rfl, rfl⟩ := h'
        exact fun o => frozen_of_row w g o cur e hg
    refine ⟨us, G, rfl, hn.1, hn.2, h2, h1, hz, fun o u hu => ?_, hf, fun w' es' k1 k2 => ?_⟩
    · have := hc o u hu
      unfold Addr.add at this
      split at this
      · simp_all
      · simpa using this
    · have q : w'.ownsRow 0 e sz (.slice (some ⟨g, 0, none⟩) n c) n us := by
        refine ⟨h1.1, ?_⟩
        rcases h1.2 with ⟨h', _⟩ | ⟨g', cap, cur, h', a1, hg, a2⟩
        · simp at h'
        · simp only [Value.slice.injEq, Option.some.injEq, Addr.mk.injEq, and_true, true_and] at h'
          obtain ⟨rfl, rfl⟩ := h'
          exact .inr ⟨g, c, cur, rfl, a1, by rw [k2.block g hz hn.1]; exact hg, a2⟩
      simpa [Value.ownBlock] using Ows.sl e sz n _ q k1 .nil
theorem Ows.focus {d : D} {ds1 ds2 : List D} (h : Ows w (ds1 ++ d :: ds2) vs F) (hn : F.Nodup) : ∃ v1 u v2 Fd, vs = v1 ++ u :: v2 ∧ v1.length = ds1.length ∧ Ows w [d] [u] Fd ∧ Fd.Nodup ∧ (∀ k ∈ Fd, k ∈ F) ∧
    ∀ w' d', Ows w' [d'] [u] Fd → Chg Fd w w' → Ows w' (ds1 ++ d' :: ds2) vs F := by
  obtain ⟨v1, v2, F1, F2, rfl, rfl, k1, k2⟩ := ows_append.1 h
  have k2' : Ows w ([d] ++ ds2) v2 F2 := k2
  obtain ⟨v3, v4, F3, F4, rfl, rfl, q1, q2⟩ := ows_append.1 k2'
  have hl := q1.len
  rw [List.nodup_append, List.nodup_append] at hn
  obtain ⟨_, ⟨n3, _, n34⟩, n13⟩ := hn
  match v3, hl with
  | [u], _ =>
    refine ⟨v1, u, v4, F3, rfl, k1.len.symm, q1, n3, fun k hk => by simp [hk], fun w' d' a1 a2 => ?_⟩
    have b1 := k1.keep a2 fun k hk h3 => n13 k hk k (by simp [h3]) rfl
    have b2 := q2.keep a2 fun k hk h3 => n34 k h3 k hk rfl
    have := b1.append (a1.append b2)
    simpa using this
theorem storeAll_tail {g : Nat} {e : TypeId} : ∀ (cs : List Value) (w : World) (o : Nat) (cur cur' : Array Value), w.heap[g]? = some (.cells cur e (0, 0)) → (storeAll w g o cs).heap[g]? = some (.cells cur' e (0, 0)) → ∀ i, o + cs.length ≤ i → cur'[i]? = cur[i]?
  | [], w, o, cur, cur', h1, h2, i, _ => by
    rw [storeAll, h1] at h2
    cases h2
    rfl
  | c :: cs, w, o, cur, cur', h1, h2, i, hi => by
    have h3 : (w.setCell ⟨g, o, none⟩ c).heap[g]? = some (.cells (cur.setIfInBounds o c) e (0, 0)) := by simp [World.setCell, Array.getElem?_modify, h1]
    simp only [List.length_cons] at hi
    rw [storeAll_tail cs _ (o + 1) _ cur' h3 h2 i (by omega), Array.getElem?_setIfInBounds_ne (by omega)]
/-- Stores of a row's cells, one behind the other. -/
theorem ownsRow_store {e : TypeId} {sz n g c : Nat} {us1 rv us2 rv' : List Value} (h : w.ownsRow 0 e sz (.slice (some ⟨g, 0, none⟩) n c) n (us1 ++ (rv ++ us2))) (hl : rv'.length = rv.length) :
    (storeAll w g us1.length rv').ownsRow 0 e sz (.slice (some ⟨g, 0, none⟩) n c) n (us1 ++ (rv' ++ us2)) := by
  refine ⟨by have := h.1; simp at this ⊢; omega, ?_⟩
  have hlen := h.1
  rcases h.2 with ⟨h', _⟩ | ⟨g', cap, cur, h', a1, hg, a2, a3, a4, a5⟩
  · simp at h'
  · simp only [Value.slice.injEq, Option.some.injEq, Addr.mk.injEq, and_true, true_and] at h'
    obtain ⟨rfl, rfl⟩ := h'
    obtain ⟨cur', k1, k2, k3, k4⟩ := storeAll_heap rv' w us1.length cur hg
    have k5 := storeAll_tail rv' w us1.length cur cur' hg k1
    have hcs := Nat.mul_le_mul_right sz a2
    refine .inr ⟨g, c, cur', rfl, a1, k1, a2, a3, by omega, ?_⟩
    apply List.ext_getElem?
    intro o
    have a6 : ∀ o, o < n * sz → cur[o]? = (us1 ++ (rv ++ us2))[o]? := fun o ho => by
      rw [← a5, List.getElem?_take, if_pos ho]; simp
    rw [List.length_append, List.length_append] at hlen
    by_cases ho : o < n * sz
    · rw [List.getElem?_take, if_pos ho]
      rcases Nat.lt_or_ge o us1.length with h1 | h1
      · rw [List.getElem?_append_left h1, show cur'.toList[o]? = cur'[o]? by simp, k3 o h1, a6 o ho, List.getElem?_append_left h1]
      · rw [List.getElem?_append_right h1]
        rcases Nat.lt_or_ge (o - us1.length) rv'.length with h2 | h2
        · rw [List.getElem?_append_left h2]
          have := k4 (o - us1.length) h2 (by omega)
          rw [show us1.length + (o - us1.length) = o by omega] at this
          simpa using this
        · rw [List.getElem?_append_right h2, show cur'.toList[o]? = cur'[o]? by simp, k5 o (by omega), a6 o ho, List.getElem?_append_right h1, List.getElem?_append_right (by omega), hl]
    · rw [List.getElem?_take, if_neg ho, List.getElem?_eq_none (by simp; omega)]
theorem storeAll_chg {g : Nat} : ∀ (cs : List Value) (w : World) (o : Nat), Chg [g] w (storeAll w g o cs)
  | [], _, _ => Chg.refl
  | c :: cs, w, o => (Chg.refl.set (by simp) o c).trans (storeAll_chg cs _ _)
theorem Ows.put {e : TypeId} {sz n g c : Nat} {es1 row row' es2 : List D} {rv' : List Value} (h : Ows w [.sl e sz n (es1 ++ (row ++ es2))] [.slice (some ⟨g, 0, none⟩) n c] F) (hn : F.Nodup) (hr : Ows w row' rv' H) (hl : row'.length = row.length) (hg : g ∉ H) :
    ∃ G1 G2, Ows (storeAll w g es1.length rv') [.sl e sz n (es1 ++ (row' ++ es2))] [.slice (some ⟨g, 0, none⟩) n c] (g :: (G1 ++ (H ++ G2))) ∧ (∀ k ∈ G1, k ∈ F) ∧ (∀ k ∈ G2, k ∈ F) ∧ (g :: (G1 ++ G2)).Nodup ∧ g ∈ F ∧ ∃ Fr rv, F = g :: (G1 ++ (Fr ++ G2)) ∧ Ows w row rv Fr := by
  obtain ⟨us, G, rfl, g1, g2, h1, h2, _, _, _, _⟩ := h.inside hn
  obtain ⟨u1, u2, G1, G', rfl, rfl, k1, k2⟩ := ows_append.1 h1
  obtain ⟨u3, u4, Gr, G2, rfl, rfl, q1, q2⟩ := ows_append.1 k2
  have hs := ownsRow_store h2 (rv' := rv') (by rw [← hr.len, ← q1.len, hl])
  rw [← k1.len] at hs
  have hc := storeAll_chg (g := g) rv' w es1.length
  have d1 : ∀ k ∈ G1, k ∉ [g] := fun k hk h => by simp at h; subst h; exact g1 (by simp [hk])
  have d2 : ∀ k ∈ G2, k ∉ [g] := fun k hk h => by simp at h; subst h; exact g1 (by simp [hk])
  have d3 : ∀ k ∈ H, k ∉ [g] := fun k hk h => by simp at h; subst h; exact hg hk
  have := (k1.keep hc d1).append ((hr.keep hc d3).append (q2.keep hc d2))
  refine ⟨G1, G2, by simpa [Value.ownBlock] using Ows.sl e sz n _ hs this .nil, fun k hk => by simp [hk], fun k hk => by simp [hk], ?_, by simp, Gr, u3, rfl, q1⟩
  rw [List.nodup_cons]
  rw [List.nodup_append, List.nodup_append] at g2
  refine ⟨fun h => g1 (by simp at h ⊢; rcases h with h | h <;> simp [h]), List.nodup_append.2 ⟨g2.1, g2.2.1.2.1, fun a ha b hb => g2.2.2 a ha b (by simp [hb])⟩⟩
end
end Go.Proofs.Ytcbknmnlgoeniaa
/- Data of any depth: marks, rows that are filled, elements that are appended. -/
namespace Go.Proofs.Ytcbknmnlgoeniaa
open Go.RowKit

def mid (es : List D) (k : Int) (o : Nat) : List D := mk (es.take o) k ++ es.drop o
theorem mid_zero (es : List D) (k : Int) : mid es k 0 = es := by simp [mid, mk]
theorem mid_end (es : List D) (k : Int) : mid es k es.length = mk es k := by simp [mid]
theorem mid_len (es : List D) (k : Int) (o : Nat) : (mid es k o).length = es.length := by simp [mid, mk_len]; omega
theorem mid_get {es : List D} {k : Int} {o : Nat} {d : D} (h : es[o]? = some d) : mid es k o = mk (es.take o) k ++ ([d] ++ es.drop (o + 1)) := by
  unfold mid
  rw [← (List.getElem?_eq_some_iff.1 h).2]
  simp
theorem mid_succ {es : List D} {k : Int} {o : Nat} {d : D} (h : es[o]? = some d) : mid es k (o + 1) = mk (es.take o) k ++ (mk [d] (k + cnt (es.take o)) ++ es.drop (o + 1)) := by
  have ho : o < es.length := (List.getElem?_eq_some_iff.1 h).1
  have e : es.take (o + 1) = es.take o ++ [d] := by rw [List.take_succ_eq_append_getElem ho, (List.getElem?_eq_some_iff.1 h).2]
  unfold mid
  rw [e, mk_append, List.append_assoc]
theorem cnt_succ {es : List D} {o : Nat} {d : D} (h : es[o]? = some d) : cnt (es.take (o + 1)) = cnt (es.take o) + cnt [d] := by
  have ho : o < es.length := (List.getElem?_eq_some_iff.1 h).1
  rw [List.take_succ_eq_append_getElem ho, (List.getElem?_eq_some_iff.1 h).2, cnt_append]
theorem cnt_take_le (es : List D) (o : Nat) : cnt (es.take o) ≤ cnt es := by
  have := cnt_append (es.take o) (es.drop o)
  rw [List.take_append_drop] at this
  omega


/-- The counter in front of cell o. -/
def Cn (es : List D) (k0 : Int) (o : Nat) (c : Int) : Prop := c = k0 + cnt (es.take o)
theorem Cn.zero {es : List D} {k0 : Int} : Cn es k0 0 k0 := by simp [Cn, cnt]
theorem Cn.one {es : List D} {k0 c : Int} {o : Nat} {d : D} (h : Cn es k0 o c) (hd : es[o]? = some d) (hs : scal d = true) : Cn es k0 (o + 1) (c + 1) := by
  unfold Cn at *
  have e : cnt [d] = 1 := by cases d <;> simp [cnt, scal] at *
  rw [cnt_succ hd, e]
  omega
theorem Cn.sl {es es' : List D} {k0 c : Int} {o sz n : Nat} {e : TypeId} (h : Cn es k0 o c) (hd : es[o]? = some (.sl e sz n es')) : Cn es k0 (o + 1) (c + cnt es') := by
  unfold Cn at *
  have e : cnt [.sl e sz n es'] = cnt es' := by simp [cnt]
  rw [cnt_succ hd, e]
  omega
theorem Cn.bd {es : List D} {k0 c B : Int} {o : Nat} (h : Cn es k0 o c) (h0 : 0 ≤ k0) (h1 : k0 + cnt es ≤ B) : 0 ≤ c ∧ c ≤ B := by
  unfold Cn at h
  have := cnt_take_le es o
  omega
theorem Cn.last {es : List D} {k0 c : Int} {o : Nat} (h : Cn es k0 o c) (ho : o = es.length) : c = k0 + cnt es := by
  unfold Cn at h
  rw [ho, List.take_length] at h
  exact h
theorem flat_at {α β : Type} {enc : α → List β} {sz k j : Nat} {xs : List α} {x : α} {d : β} (hl : ∀ x, (enc x).length = sz) (hx : xs[k]? = some x) (hd : (enc x)[j]? = some d) : (xs.flatMap enc)[k * sz + j]? = some d := by
  obtain ⟨l, r, e1, e2⟩ := flat_split hl xs k x hx
  have hj : j < (enc x).length := (List.getElem?_eq_some_iff.1 hd).1
  rw [e1, List.getElem?_append_right (by omega), e2, Nat.add_sub_cancel_left, List.getElem?_append_left hj, hd]
theorem flat_len {α β : Type} {enc : α → List β} {sz : Nat} (hl : ∀ x, (enc x).length = sz) (xs : List α) : (xs.flatMap enc).length = xs.length * sz := by
  induction xs with
  | nil => simp
  | cons y ys ih => rw [List.flatMap_cons, List.length_append, ih, hl, List.length_cons, Nat.add_mul]; omega
theorem flat_lt {α : Type} {xs : List α} {k j sz : Nat} (h : k < xs.length) (hj : j < sz) : k * sz + j < xs.length * sz := by
  have : (k + 1) * sz ≤ xs.length * sz := Nat.mul_le_mul_right _ h
  rw [Nat.add_mul] at this
  omega
theorem RAt.markRow {α : Type} {w : World} {enc : α → List D} {sz k b off : Nat} {xs : List α} {x : α} {k0 c : Int} (hl : ∀ x, (enc x).length = sz) (h : RAt w b off (mk (xs.flatMap enc) k0)) (hx : xs[k]? = some x) (hc : Cn (xs.flatMap enc) k0 (k * sz) c) : RAt w b (off + k * sz) (mk (enc x) c) := by
  obtain ⟨l, r, e1, e2⟩ := flat_split hl xs k x hx
  have hc' : c = k0 + cnt l := by
    unfold Cn at hc
    rw [hc, e1, ← e2, List.take_left]
  rw [e1, mk_append, mk_append, ← hc'] at h
  have := h.app.2.app.1
  rw [mk_len, e2] at this
  exact this
/-- Of a struct by value: marked in front of cell o. -/
def midT (ds : List D) (k : Int) (o : Nat) : List D := mkT (ds.take o) k ++ ds.drop o
theorem midT_zero {ds : List D} {k : Int} : midT ds k 0 = ds := by simp [midT, mkT]
theorem midT_end {ds : List D} {k : Int} {o : Nat} (h : o = ds.length) : midT ds k o = mkT ds k := by subst h; simp [midT]
theorem mkT_len (a : List D) (k : Int) : (mkT a k).length = a.length := by
  induction a generalizing k with
  | nil => simp [mkT]
  | cons d a ih => cases d <;> simp [mkT, ih]
def CnT (ds : List D) (k0 : Int) (o : Nat) (c : Int) : Prop := c = k0 + cntT (ds.take o)
theorem CnT.zero {es : List D} {k0 : Int} : CnT es k0 0 k0 := by simp [CnT, cntT]
theorem CnT.step {es : List D} {k0 c : Int} {o n : Nat} (h : CnT es k0 o c) : CnT es k0 (o + n) (c + cntT ((es.drop o).take n)) := by
  unfold CnT at *
  rw [List.take_add, cntT_append]
  omega
theorem CnT.last {es : List D} {k0 c : Int} {o : Nat} (h : CnT es k0 o c) (ho : o = es.length) : c = k0 + cntT es := by
  unfold CnT at h
  rw [ho, List.take_length] at h
  exact h
theorem CnT.bd {es : List D} {k0 c B : Int} {o : Nat} (h : CnT es k0 o c) (h0 : 0 ≤ k0) (h1 : k0 + cntT es ≤ B) : 0 ≤ c ∧ c ≤ B := by
  unfold CnT at h
  have h2 := cntT_append (es.take o) (es.drop o)
  rw [List.take_append_drop] at h2
  omega
theorem flat_mkT {ds : List D} (h : ds.all scal = true) (k : Int) : mkT ds k = ds ∧ cntT ds = 0 := by
  induction ds with
  | nil => simp [mkT, cntT]
  | cons d ds ih =>
    rw [List.all_cons, Bool.and_eq_true] at h
    have := ih h.2
    cases d <;> simp [mkT, cntT, this] <;> simp [scal] at h
theorem midT_skip {ds : List D} {k : Int} {o n : Nat} (h : ((ds.drop o).take n).all scal = true) : midT ds k (o + n) = midT ds k o := by
  unfold midT
  rw [List.take_add, mkT_append, (flat_mkT h _).1, ← List.drop_drop, List.append_assoc, List.take_append_drop]
theorem CnT.skip {es : List D} {k0 c : Int} {o n : Nat} (h : CnT es k0 o c) (hs : ((es.drop o).take n).all scal = true) : CnT es k0 (o + n) c := by
  have := h.step (n := n)
  rwa [(flat_mkT hs 0).2, Int.natCast_zero, Int.add_zero] at this
theorem Ows.stepT {w : World} {ds : List D} {vs : List Value} {F : List Nat} {k0 c : Int} {o : Nat} (n : Nat) (h : Ows w (midT ds k0 o) vs F) (hn : F.Nodup) (hl : o + n ≤ ds.length) (hc : CnT ds k0 o c) :
    ∃ Fd, Ows w ((ds.drop o).take n) ((vs.drop o).take n) Fd ∧ Fd.Nodup ∧ (∀ k ∈ Fd, k ∈ F) ∧ ∀ w', Ows w' (mkT ((ds.drop o).take n) c) ((vs.drop o).take n) Fd → Chg Fd w w' → Ows w' (midT ds k0 (o + n)) vs F := by
  have e1 : midT ds k0 o = mkT (ds.take o) k0 ++ (((ds.drop o).take n) ++ ((ds.drop o).drop n)) := by rw [List.take_append_drop]; rfl
  have e2 : midT ds k0 (o + n) = mkT (ds.take o) k0 ++ (mkT ((ds.drop o).take n) c ++ ((ds.drop o).drop n)) := by
    unfold midT
    unfold CnT at hc
    rw [List.take_add, mkT_append, ← hc, List.append_assoc, List.drop_drop]
  rw [e1] at h
  rw [e2]
  obtain ⟨v1, v2, F1, F2, rfl, rfl, k1, k2⟩ := ows_append.1 h
  obtain ⟨v3, v4, F3, F4, rfl, rfl, q1, q2⟩ := ows_append.1 k2
  rw [List.nodup_append, List.nodup_append] at hn
  obtain ⟨_, ⟨n3, _, n34⟩, n13⟩ := hn
  have l1 : v1.length = o := by rw [← k1.len, mkT_len, List.length_take]; omega
  have l3 : v3.length = n := by rw [← q1.len]; simp; omega
  have e3 : ((v1 ++ (v3 ++ v4)).drop o).take n = v3 := by rw [← l1, List.drop_left, ← l3, List.take_left]
  rw [e3]
  refine ⟨F3, q1, n3, fun k hk => by simp [hk], fun w' a1 a2 => ?_⟩
  exact (k1.keep a2 fun k hk h3 => n13 k hk k (by simp [h3]) rfl).append (a1.append (q2.keep a2 fun k hk h3 => n34 k h3 k hk rfl))
theorem Rds.cutT {w : World} {ds : List D} {vs : List Value} {k0 c : Int} {o : Nat} (n : Nat) (h : Rds w (mkT ds k0) vs) (hl : o + n ≤ ds.length) (hc : CnT ds k0 o c) : Rds w (mkT ((ds.drop o).take n) c) ((vs.drop o).take n) := by
  have e1 : mkT ds k0 = mkT (ds.take o) k0 ++ (mkT ((ds.drop o).take n) c ++ mkT ((ds.drop o).drop n) (c + cntT ((ds.drop o).take n))) := by
    unfold CnT at hc
    conv => lhs; rw [← List.take_append_drop o ds, mkT_append, ← hc, ← List.take_append_drop n (ds.drop o), mkT_append]
  rw [e1] at h
  have := h.cut o n
  rw [List.drop_left' (by rw [mkT_len, List.length_take]; omega), List.take_left' (by rw [mkT_len]; simp; omega)] at this
  exact this
section
variable {w w' : World} {F : List Nat} {e : TypeId} {sz n g c : Nat} {es : List D} {k0 kk : Int} {o : Nat}

theorem Ows.cellAt (h : Ows w [.sl e sz n es] [.slice (some ⟨g, 0, none⟩) n c] F) (hn : F.Nodup) (ho : o < es.length) : ∃ u, w.cell? ⟨g, o, none⟩ = some u := by
  obtain ⟨us, G, _, _, _, h1, _, _, h2, _⟩ := h.inside hn
  exact ⟨us[o]'(by rw [← h1.len]; exact ho), h2 o _ (List.getElem?_eq_getElem _)⟩
theorem Ows.frozenAt (h : Ows w [.sl e sz n es] [.slice (some ⟨g, 0, none⟩) n c] F) (hn : F.Nodup) (o : Nat) : w.frozen? ⟨g, o, none⟩ = false := by
  obtain ⟨us, G, _, _, _, _, _, _, _, h2, _⟩ := h.inside hn
  exact h2 o
theorem Ows.gmem (h : Ows w [.sl e sz n es] [.slice (some ⟨g, 0, none⟩) n c] F) (hn : F.Nodup) : g ∈ F := by
  obtain ⟨us, G, rfl, _⟩ := h.inside hn
  simp
theorem Ows.markAny {d d' : D} (h : Ows w [.sl e sz n (mid es k0 o)] [.slice (some ⟨g, 0, none⟩) n c] F) (hn : F.Nodup) (hd : es[o]? = some d) (h1 : scal d = true) (h2 : scal d' = true) (hm : mk [d] (k0 + cnt (es.take o)) = [d']) :
    Ows (w.setCell ⟨g, o, none⟩ (valD d')) [.sl e sz n (mid es k0 (o + 1))] [.slice (some ⟨g, 0, none⟩) n c] F := by
  rw [mid_get hd] at h
  obtain ⟨G1, G2, k1, _, _, _, _, Fr, rv, rfl, k2⟩ := h.put hn (rv' := [valD d']) (ows_flat [d'] (by simp [h2])) rfl (by simp)
  obtain ⟨_, rfl⟩ := k2.flat (by simp [h1])
  rw [mid_succ hd, hm]
  have hl : (mk (es.take o) k0).length = o := by
    rw [mk_len, List.length_take]
    have := (List.getElem?_eq_some_iff.1 hd).1
    omega
  rw [hl] at k1
  exact k1
theorem Ows.markI {a : Int} (h : Ows w [.sl e sz n (mid es k0 o)] [.slice (some ⟨g, 0, none⟩) n c] F) (hn : F.Nodup) (hd : es[o]? = some (.int a)) (hk : Cn es k0 o kk) :
    Ows (w.setCell ⟨g, o, none⟩ (.int .i64 kk)) [.sl e sz n (mid es k0 (o + 1))] [.slice (some ⟨g, 0, none⟩) n c] F :=
  h.markAny hn hd rfl (d' := .int kk) rfl (by unfold Cn at hk; simp [mk, hk])
theorem Ows.markB {a : Bool} (h : Ows w [.sl e sz n (mid es k0 o)] [.slice (some ⟨g, 0, none⟩) n c] F) (hn : F.Nodup) (hd : es[o]? = some (.bool a)) (hk : Cn es k0 o kk) :
    Ows (w.setCell ⟨g, o, none⟩ (.bool (kk % 3 == 0))) [.sl e sz n (mid es k0 (o + 1))] [.slice (some ⟨g, 0, none⟩) n c] F :=
  h.markAny hn hd rfl (d' := .bool (kk % 3 == 0)) rfl (by unfold Cn at hk; simp [mk, hk])
theorem Ows.markT {a : ByteArray} (h : Ows w [.sl e sz n (mid es k0 o)] [.slice (some ⟨g, 0, none⟩) n c] F) (hn : F.Nodup) (hd : es[o]? = some (.str a)) (hk : Cn es k0 o kk) :
    Ows (w.setCell ⟨g, o, none⟩ (.string (mt kk))) [.sl e sz n (mid es k0 (o + 1))] [.slice (some ⟨g, 0, none⟩) n c] F :=
  h.markAny hn hd rfl (d' := .str (mt kk)) rfl (by unfold Cn at hk; simp [mk, hk])
theorem Ows.markN {e' : TypeId} {sz' n' : Nat} {es' : List D} (h : Ows w [.sl e sz n (mid es k0 o)] [.slice (some ⟨g, 0, none⟩) n c] F) (hn : F.Nodup) (hd : es[o]? = some (.sl e' sz' n' es')) (hk : Cn es k0 o kk) :
    ∃ uo uc Fd, w.cell? ⟨g, o, none⟩ = some (.slice uo n' uc) ∧ Ows w [.sl e' sz' n' es'] [.slice uo n' uc] Fd ∧ Fd.Nodup ∧ (∀ k ∈ Fd, k ∈ F) ∧
      ∀ w', Ows w' [.sl e' sz' n' (mk es' kk)] [.slice uo n' uc] Fd → Chg Fd w w' → Ows w' [.sl e sz n (mid es k0 (o + 1))] [.slice (some ⟨g, 0, none⟩) n c] F := by
  rw [mid_get hd] at h
  obtain ⟨us, G, rfl, g1, g2, h1, h2, _, h3, _, h4⟩ := h.inside hn
  obtain ⟨v1, u, v2, Fd, rfl, k1, k2, k3, k4, k5⟩ := h1.focus g2
  obtain ⟨uo, uc, rfl⟩ := RS.val k2.read
  have hl : (mk (es.take o) k0).length = o := by
    rw [mk_len, List.length_take]
    have := (List.getElem?_eq_some_iff.1 hd).1
    omega
  refine ⟨uo, uc, Fd, h3 o _ (by rw [List.getElem?_append_right (by omega), k1, hl]; simp), k2, k3, fun k hk => by simp [k4 k hk], fun w' q1 q2 => ?_⟩
  rw [mid_succ hd]
  have := k5 w' _ q1 q2
  exact h4 w' _ (by unfold Cn at hk; simpa [mk, hk] using this) (q2.mono k4)
end

theorem Ows.val {w : World} {e : TypeId} {sz n : Nat} {es : List D} {v : Value} {F : List Nat} (h : Ows w [.sl e sz n es] [v] F) : (v = .slice none 0 0 ∧ n = 0) ∨ ∃ g c, v = .slice (some ⟨g, 0, none⟩) n c := by
  cases h with
  | sl _ _ _ _ h1 _ _ =>
    rcases h1.2 with h2 | ⟨g, cap, cur, rfl, _⟩
    · exact .inl h2
    · exact .inr ⟨g, cap, rfl⟩
theorem szL_zero {α : Type} {enc : α → List D} (h : ∀ x, szL (enc x) = 0) (xs : List α) : szL (xs.flatMap enc) = 0 := by
  induction xs with
  | nil => simp [szL]
  | cons y ys ih => rw [List.flatMap_cons, szL_append, ih, h]
theorem szL_next {α : Type} {enc : α → List D} {xs : List α} {k : Nat} {x : α} (h : xs[k]? = some x) : szL ((xs.take (k + 1)).flatMap enc) = szL ((xs.take k).flatMap enc) + szL (enc x) := by
  rw [List.take_succ_eq_append_getElem (List.getElem?_eq_some_iff.1 h).1, (List.getElem?_eq_some_iff.1 h).2, List.flatMap_append, szL_append]
  simp
theorem szL_take {α : Type} {enc : α → List D} (xs : List α) (k : Nat) : szL ((xs.take k).flatMap enc) ≤ szL (xs.flatMap enc) := by
  have h := szL_append ((xs.take k).flatMap enc) ((xs.drop k).flatMap enc)
  rw [← List.flatMap_append, List.take_append_drop] at h
  omega
theorem okL_cut {ds : List D} (i n : Nat) (h : okL ds) : okL ((ds.drop i).take n) := by
  rw [← List.take_append_drop i ds, okL_append] at h
  have h2 := h.2
  rw [← List.take_append_drop n (ds.drop i), okL_append] at h2
  exact h2.1
theorem Box.chg {w w' : World} {F : List Nat} {k : Nat} {cs : Array Value} (h : Box w k cs) (hc : Chg F w w') (hk : k ∉ F) : Box w' k cs := by
  have hl := h.lt
  obtain ⟨t, h⟩ := h
  exact ⟨t, (hc.block k hl hk).trans h⟩

theorem Box.afterC {w w' : World} {F : List Nat} {k : Nat} {cs : Array Value} (hc : Chg F w w') (h : Box w k cs) (hk : k ∉ F) : Box w' k cs ∧ (∀ o, w'.cell? ⟨k, o, none⟩ = cs[o]?) ∧ (∀ o, w'.frozen? ⟨k, o, none⟩ = false) ∧ k < w'.heap.size :=
  ⟨h.chg hc hk, (h.chg hc hk).cell, (h.chg hc hk).frozen, (h.chg hc hk).lt⟩
/-- How many marks a list takes, by its size. -/
theorem cnt_list {α : Type} {enc : α → List D} (h : ∀ x, cnt (enc x) ≤ 64 + 64 * szL (enc x)) (xs : List α) : cnt (xs.flatMap enc) ≤ 64 * xs.length + 64 * szL (xs.flatMap enc) := by
  induction xs with
  | nil => simp [cnt]
  | cons y ys ih =>
    rw [List.flatMap_cons, cnt_append, szL_append, List.length_cons]
    have := h y
    omega

/-- A row being filled: k elements, and zeros behind them. -/
def fillE {α : Type} (enc : α → List D) (z : List D) (xs : List α) (k : Nat) : List D := (xs.take k).flatMap enc ++ (List.replicate (xs.length - k) z).flatten
theorem fillE_zero {α : Type} {enc : α → List D} {z : List D} {xs : List α} : fillE enc z xs 0 = (List.replicate xs.length z).flatten := by simp [fillE]
theorem fillE_end {α : Type} {enc : α → List D} {z : List D} {xs : List α} : fillE enc z xs xs.length = xs.flatMap enc := by simp [fillE]
theorem flatten_rep_len (z : List D) (n : Nat) : ((List.replicate n z).flatten).length = n * z.length := by induction n <;> simp_all

section
variable {w w' : World} {lo hi mid : Nat} {e : TypeId} {sz n g c : Nat} {es1 es2 row row' : List D} {rv : List Value}

theorem Obj.put {mid' : Nat} (h : Obj w lo mid [.sl e sz n (es1 ++ (row ++ es2))] [.slice (some ⟨g, 0, none⟩) n c]) (hr : Obj w mid' hi row' rv) (hm : mid ≤ mid') (hh : mid' ≤ hi) (hl : row'.length = row.length) :
    Obj (storeAll w g es1.length rv) lo hi [.sl e sz n (es1 ++ (row' ++ es2))] [.slice (some ⟨g, 0, none⟩) n c] := by
  obtain ⟨F, h1, h2, h3⟩ := h
  obtain ⟨H, k1, k2, k3⟩ := hr
  have hg : g ∉ H := fun hg => by
    have := k3 g hg
    have := h3 g (h1.gmem h2)
    omega
  obtain ⟨G1, G2, q1, q2, q3, q4, q5, _⟩ := h1.put h2 k1 hl hg
  refine ⟨_, q1, ?_, fun k hk => ?_⟩
  · rw [List.nodup_cons] at q4 ⊢
    have q6 := List.nodup_append.1 q4.2
    refine ⟨fun h => ?_, List.nodup_append.2 ⟨q6.1, List.nodup_append.2 ⟨k2, q6.2.1, fun a ha b hb => ?_⟩, fun a ha b hb => ?_⟩⟩
    · simp only [List.mem_append] at h
      rcases h with h | h | h
      · exact q4.1 (by simp [h])
      · exact hg h
      · exact q4.1 (by simp [h])
    · have := k3 a ha; have := h3 b (q3 b hb); omega
    · rcases List.mem_append.1 hb with hb | hb
      · have := k3 b hb; have := h3 a (q2 a ha); omega
      · exact q6.2.2 a ha b hb
  · simp only [List.mem_cons, List.mem_append] at hk
    rcases hk with rfl | hk | hk | hk
    · have := h3 k q5; omega
    · have := h3 k (q2 k hk); omega
    · have := k3 k hk; have := h3 g q5; omega
    · have := h3 k (q3 k hk); omega
theorem Obj.fill {α : Type} {enc : α → List D} {z : List D} {xs : List α} {x : α} {k mid' : Nat} (hl : ∀ x, (enc x).length = sz) (hz : z.length = sz) (h : Obj w lo mid [.sl e sz n (fillE enc z xs k)] [.slice (some ⟨g, 0, none⟩) n c]) (hx : xs[k]? = some x)
    (hr : Obj w mid' hi (enc x) rv) (hm : mid ≤ mid') (hh : mid' ≤ hi) : Obj (storeAll w g (k * sz) rv) lo hi [.sl e sz n (fillE enc z xs (k + 1))] [.slice (some ⟨g, 0, none⟩) n c] := by
  have hk : k < xs.length := (List.getElem?_eq_some_iff.1 hx).1
  have e1 : fillE enc z xs k = (xs.take k).flatMap enc ++ (z ++ (List.replicate (xs.length - (k + 1)) z).flatten) := by
    unfold fillE
    rw [show xs.length - k = (xs.length - (k + 1)) + 1 by omega, List.replicate_succ, List.flatten_cons]
  have e2 : fillE enc z xs (k + 1) = (xs.take k).flatMap enc ++ (enc x ++ (List.replicate (xs.length - (k + 1)) z).flatten) := by
    unfold fillE
    rw [List.take_succ_eq_append_getElem hk, (List.getElem?_eq_some_iff.1 hx).2, List.flatMap_append, List.append_assoc]
    simp
  have e3 : ((xs.take k).flatMap enc).length = k * sz := by
    have : ∀ ys : List α, (ys.flatMap enc).length = ys.length * sz := fun ys => by
      induction ys with
      | nil => simp
      | cons y ys ih => rw [List.flatMap_cons, List.length_append, ih, hl, List.length_cons, Nat.add_mul]; omega
    rw [this, List.length_take, Nat.min_eq_left (Nat.le_of_lt hk)]
  rw [e1] at h
  rw [e2, ← e3]
  exact Obj.put h hr hm hh (by rw [hl, hz])
/-- Zeros read as zeros. -/
theorem ows_made {z : List D} {cs : Array Value} (hz : ∀ w, Ows w z cs.toList []) (hp : 0 < cs.size) (w : World) : ∀ n : Nat, Ows w (List.replicate n z).flatten (madeCells cs (n * cs.size)).toList []
  | 0 => by simp [madeCells]; exact .nil
  | m + 1 => by
    have := (hz w).append (ows_made hz hp w m)
    rw [List.replicate_succ, List.flatten_cons]
    refine cast ?_ this
    congr 1
    apply List.ext_getElem?
    intro i
    by_cases hi : i < cs.size
    · rw [List.getElem?_append_left (by simpa using hi)]
      have : i < (m + 1) * cs.size := by rw [Nat.add_mul]; omega
      simp [madeCells, this, Nat.mod_eq_of_lt hi]
      rw [getElem!_pos cs i hi, Array.getElem?_eq_getElem hi]
    · rw [List.getElem?_append_right (by simpa using Nat.le_of_not_lt hi)]
      by_cases h2 : i < (m + 1) * cs.size
      · have h3 : i - cs.size < m * cs.size := by rw [Nat.add_mul] at h2; omega
        have h4 : (i - cs.size) % cs.size = i % cs.size := by
          conv => rhs; rw [show i = i - cs.size + cs.size by omega]
          simp
        simp [madeCells, h2, h3, h4]
      · have h3 : ¬ i - cs.size < m * cs.size := by rw [Nat.add_mul] at h2; omega
        simp [madeCells, h2, h3]
theorem Obj.made {z : List D} {cs : Array Value} {v : Value} (hz : ∀ w, Ows w z cs.toList []) (hp : cs.size = sz) (hs : 0 < sz) (h : w.ownsRow lo e sz v n (madeCells cs (n * sz)).toList) : Obj w lo w.heap.size [.sl e sz n (List.replicate n z).flatten] [v] := by
  subst hp
  refine ⟨v.ownBlock.toList ++ ([] ++ []), .sl e _ n v (own_zero h (by simp)) (ows_made hz hs w n) .nil, by cases v.ownBlock <;> simp, fun k hk => ?_⟩
  simp only [List.append_nil, Option.mem_toList] at hk
  exact h.lt k hk
end
end Go.Proofs.Ytcbknmnlgoeniaa
/- Data of any depth: 'append' to a slice of one's own. -/
namespace Go.Proofs.Ytcbknmnlgoeniaa
open Go.RowKit

/-- 'append', and where its result lies: in the row that was there, or in a new one. -/
theorem run_append_at {P : Program} {w : World} (t ty e : TypeId) (i : TypeInfo) (z : Value) (size bytes : Nat) (ht : P.underlying t = some (.slice e)) (hi : P.info? e = some i) (hz : i.zero = some z)
    (hsize : i.size = size) (hby : i.bytes = bytes) (hzs : z.cells.size = size) (hsz : 0 < size) (v : Value) (n : Nat) (xs : List Value) (hown : w.ownsRow 0 e size v n xs)
    (a : Addr) (m c : Nat) (news : List Value) (hl : news.length = m * size) (hnews : ∀ j u, news[j]? = some u → w.cell? (a.add j) = some u) (h1 : ∀ u ∈ news, u.oneCell' = true)
    (h63 : n + m ≤ maxLen) (hbytes : (n + m) * bytes ≤ 140737488355328) :
    ∃ v' w', (Builtin.append_ #[t, t] ty #[v, .slice (some a) m c]).run P w = .ok v' w' ∧ w'.ownsRow 0 e size v' (n + m) (xs ++ news) ∧ w.grownBy w' v.ownBlock ∧
      (v' = .slice none 0 0 ↔ v = .slice none 0 0 ∧ m = 0) ∧ ∀ k, v'.ownBlock = some k → v.ownBlock = some k ∨ w.heap.size ≤ k := by
  obtain ⟨v', w', hr, h2, h3, h4⟩ := run_append_own (P := P) (w := w) 0 t ty e i z size bytes ht hi hz hsize hby hzs hsz v n xs hown a m c news hl hnews h1 h63 hbytes (Nat.zero_le _)
  refine ⟨v', w', hr, h2, h3, h4, fun k hk => ?_⟩
  subst hsize
  subst hby
  have hmax : n + m ≤ 9223372036854775807 := by simp only [maxLen] at h63; omega
  rcases hown.2 with ⟨rfl, rfl⟩ | ⟨g, cap, cur, rfl, _, hg, _, _, hcs, _⟩
  · right
    by_cases hm : m = 0
    · rw [h4.2 ⟨rfl, hm⟩] at hk
      simp [Value.ownBlock] at hk
    · have hb : m * i.bytes ≤ 140737488355328 := by simpa using hbytes
      have q := run_append_nil (P := P) w t ty e i z ht hi hz a m c news hl hnews (by omega) (by omega) (by omega)
      rw [hr] at q
      cases q
      simp [Value.ownBlock] at hk
      omega
  · by_cases hroom : n + m ≤ cap
    · left
      have q := run_append_room (P := P) w t ty e i ht hi g n cap cur hg a m c news hl hnews h1 hroom (by rw [hl, hcs, ← Nat.add_mul]; exact Nat.mul_le_mul_right _ hroom)
      rw [hr] at q
      cases q
      exact hk
    · right
      have q := run_append_grow (P := P) w t ty e i z ht hi hz ⟨g, 0, none⟩ n cap xs hown.1 (hown.cells (g := g) rfl) a m c news hl hnews (by omega) (by omega) (growslice_fits (by omega) hbytes)
      rw [hr] at q
      cases q
      simp [Value.ownBlock] at hk
      omega

theorem Obj.appended {w w' : World} {lo mid mid' hi : Nat} {e : TypeId} {sz n m : Nat} {es row : List D} {v v' : Value} {us news : List Value} {Fe : List Nat} (hO : Ows w es us Fe) (hn : (v.ownBlock.toList ++ Fe).Nodup) (hF : ∀ k ∈ v.ownBlock.toList ++ Fe, lo ≤ k ∧ k < mid) (hR : Obj w mid' hi row news) (hm : mid ≤ mid') (hlo : lo ≤ mid') (hhw : hi ≤ w.heap.size) (hmw : mid ≤ w.heap.size) (hlw : lo ≤ w.heap.size)
    (h2 : w'.ownsRow 0 e sz v' (n + m) (us ++ news)) (h3 : w.grownBy w' v.ownBlock) (h5 : ∀ k, v'.ownBlock = some k → v.ownBlock = some k ∨ w.heap.size ≤ k) :
    Obj w' lo w'.heap.size [.sl e sz (n + m) (es ++ row)] [v'] ∧ ChgI lo mid w w' := by
  obtain ⟨H, r1, r2, r3⟩ := hR
  have hc := Chg.of_grown h3
  rw [List.nodup_append] at hn
  have a1 : ∀ k ∈ Fe, k ∉ v.ownBlock.toList := fun k hk hv => hn.2.2 k hv k hk rfl
  have a2 : ∀ k ∈ H, k ∉ v.ownBlock.toList := fun k hk hv => by have := r3 k hk; have := hF k (by simp only [List.mem_append]; exact .inl hv); omega
  have b1 := (hO.keep hc a1).append (r1.keep hc a2)
  have hz : w.heap.size ≤ w'.heap.size := h3.size
  have a3 : ∀ k, v'.ownBlock = some k → k ∉ Fe ∧ k ∉ H ∧ lo ≤ k := fun k hk => by
    rcases h5 k hk with h | h
    · have q := hF k (by simp [h])
      exact ⟨fun hh => hn.2.2 k (by simp [h]) k hh rfl, fun hh => by have := r3 k hh; omega, q.1⟩
    · exact ⟨fun hh => by have := hO.mem k hh; omega, fun hh => by have := r1.mem k hh; omega, by omega⟩
  refine ⟨⟨v'.ownBlock.toList ++ ((Fe ++ H) ++ []), .sl e sz (n + m) v' h2 b1 .nil, ?_, fun k hk => ?_⟩, ⟨_, hc, fun k hk => hF k (by simp only [List.mem_append]; exact .inl hk)⟩⟩
  · rw [List.append_nil]
    refine List.nodup_append.2 ⟨by cases v'.ownBlock <;> simp, List.nodup_append.2 ⟨hn.2.1, r2, fun a ha b hb => ?_⟩, fun a ha b hb => ?_⟩
    · have := hF a (by simp [ha]); have := r3 b hb; omega
    · have q := a3 a (by simpa using ha)
      rintro rfl
      rcases List.mem_append.1 hb with hb | hb
      · exact q.1 hb
      · exact q.2.1 hb
  · simp only [List.append_nil, List.mem_append, Option.mem_toList] at hk
    rcases hk with hk | hk | hk
    · exact ⟨(a3 k hk).2.2, (h2.lt k hk).2⟩
    · have := hF k (by simp [hk]); omega
    · have := r3 k hk; omega

theorem wpList_append_obj {P : Program} {w : World} {ops : Array Oper} {rest : List Oper} {o : Oper} {a : Act} {Q : Exit → Act → World → Prop} (hgd : o.guard = none) (s x : Operand) (t : TypeId)
    (ho : o.op = .call { callee := .builtin .append, args := #[s, x], argTypes := #[t, t] })
    (lo mid : Nat) (e : TypeId) (i : TypeInfo) (z : Value) (size bytes : Nat) (ht : P.underlying t = some (.slice e)) (hi : P.info? e = some i) (hz : i.zero = some z)
    (hsize : i.size = size) (hby : i.bytes = bytes) (hzs : z.cells.size = size) (hsz : 0 < size)
    (v : Value) (n : Nat) (es : List D) (hs : a.eval s = v) (hO : Obj w lo mid [.sl e size n es] [v])
    (ad : Addr) (m c : Nat) (row : List D) (news : List Value) (hx : a.eval x = .slice (some ad) m c) (mid' hi' : Nat) (hR : Obj w mid' hi' row news) (hl : row.length = m * size) (hnews : ∀ j u, news[j]? = some u → w.cell? (ad.add j) = some u)
    (hm : mid ≤ mid') (hlo : lo ≤ mid') (hhw : hi' ≤ w.heap.size) (hmw : mid ≤ w.heap.size) (hlw : lo ≤ w.heap.size)
    (h63 : n + m ≤ maxLen) (hbytes : (n + m) * bytes ≤ 140737488355328)
    (h : ∀ v' w', Obj w' lo w'.heap.size [.sl e size (n + m) (es ++ row)] [v'] → ChgI lo mid w w' → w.heap.size ≤ w'.heap.size → (v' = .slice none 0 0 ↔ v = .slice none 0 0 ∧ m = 0) → wpList P ops Q rest (a.put o.dst v') w') : wpList P ops Q (o :: rest) a w := by
  obtain ⟨F, f1, f2, f3⟩ := hO
  cases f1 with
  | @sl _ _ _ us F0 G _ _ _ _ k1 k2 k3 =>
    obtain ⟨_, rfl⟩ := ows_nil.1 k3
    simp only [List.append_nil] at f2 f3
    have h1 : ∀ u ∈ news, u.oneCell' = true := hR.elim fun _ q => q.1.oneCell
    have hl' : news.length = m * size := by rw [← hR.read.len, hl]
    obtain ⟨v', w', hr, h2, h3, h4, h5⟩ := run_append_at (P := P) t o.type e i z size bytes ht hi hz hsize hby hzs hsz v n us k1 ad m c news hl' hnews h1 h63 hbytes
    obtain ⟨q1, q2⟩ := Obj.appended k2 f2 f3 hR hm hlo hhw hmw hlw h2 h3 h5
    refine wpList_plain hgd fun K hK => ?_
    unfold Oper.wp execOp
    simp only [ho, resolve, invoke, builtin, Sem.run_bind, Sem.run_pure, Result.andThen_ok, List.map_toArray, List.map_cons, List.map_nil, hs, hx, hr]
    exact hK _ _ (h v' w' q1 q2 h3.size h4)
end Go.Proofs.Ytcbknmnlgoeniaa

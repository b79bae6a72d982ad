/- Plain definitions and facts: no program in sight. -/
import Derived.WalkKit
import Derived.Lib.Hide
import Derived.Deep.QuietTactic
namespace Go.Proofs.Ytbenfbmoagfboaa
open Go.RowKit

/-- lo ≤ x ≤ hi, as a Bool that the walk does not take apart. -/
def inB (x lo hi : Int) : Bool := decide (lo ≤ x) && decide (x ≤ hi)
theorem inB_iff {x lo hi : Int} : inB x lo hi = true ↔ lo ≤ x ∧ x ≤ hi := by simp [inB]
theorem inB_false {x lo hi : Int} : inB x lo hi = false ↔ ¬ (lo ≤ x ∧ x ≤ hi) := by rw [← inB_iff]; simp

/-- What a walk that makes memory of its own may use: the old cells and marks. -/
theorem bcell {W w1 : World} (hb : Below W.heap.size W w1) : (∀ b o, b < W.heap.size → w1.cell? ⟨b, o, none⟩ = W.cell? ⟨b, o, none⟩) ∧ (∀ b o, b < W.heap.size → w1.frozen? ⟨b, o, none⟩ = W.frozen? ⟨b, o, none⟩) :=
  ⟨fun b o h => hb.cell (p := ⟨b, o, none⟩) h, fun b o h => hb.frozen (p := ⟨b, o, none⟩) h⟩

/-- w' is w with more behind it: of what w held nothing has turned. -/
def Ext (w w' : World) : Prop := Below w.heap.size w w'
theorem Ext.refl (w : World) : Ext w w := Below.refl _ _
theorem Ext.size {w w' : World} (h : Ext w w') : w.heap.size ≤ w'.heap.size := Below.size h
theorem Ext.trans {a b c : World} (h : Ext a b) (k : Ext b c) : Ext a c := Below.trans h (Below.mono k h.size)
theorem Ext.alloc {a b : World} (h : Ext a b) (o : Obj) : Ext a (b.alloc o) := Below.alloc h h.size o
theorem Ext.drew {a b : World} (h : Ext a b) : Ext a b.drew := Below.drew h
theorem Ext.drewN {a b : World} (h : Ext a b) (n : Nat) : Ext a (b.drewN n) := Below.trans h ⟨rfl, rfl, rfl, Nat.le_refl _, fun _ _ => rfl⟩
theorem Ext.setCell {a b : World} (h : Ext a b) {p : Addr} (hp : a.heap.size ≤ p.block) (u : Value) : Ext a (b.setCell p u) := Below.setCell h hp u
theorem Ext.cells {W w1 : World} (h : Ext W w1) : (∀ b o, b < W.heap.size → w1.cell? ⟨b, o, none⟩ = W.cell? ⟨b, o, none⟩) ∧ (∀ b o, b < W.heap.size → w1.frozen? ⟨b, o, none⟩ = W.frozen? ⟨b, o, none⟩) := bcell h
theorem Ext.cellSome {w w' : World} (h : Ext w w') {b o : Nat} {v : Value} (hc : w.cell? ⟨b, o, none⟩ = some v) : w'.cell? ⟨b, o, none⟩ = some v :=
  (h.cells.1 b o (World.block_lt_of_cell? w _ hc)).trans hc

/-- Block k holds just these cells, none of them frozen. -/
def Box (w : World) (k : Nat) (cs : Array Value) : Prop := ∃ t, w.heap[k]? = some (.cells cs t (0, 0))
theorem Box.lt {w : World} {k : Nat} {cs : Array Value} (h : Box w k cs) : k < w.heap.size := by
  obtain ⟨t, h⟩ := h
  exact (Array.getElem?_eq_some_iff.1 h).1
theorem Box.cell {w : World} {k : Nat} {cs : Array Value} (h : Box w k cs) (o : Nat) : w.cell? ⟨k, o, none⟩ = cs[o]? := by
  obtain ⟨t, h⟩ := h
  simp [World.cell?, h]
theorem Box.frozen {w : World} {k : Nat} {cs : Array Value} (h : Box w k cs) (o : Nat) : w.frozen? ⟨k, o, none⟩ = false := by
  obtain ⟨t, h⟩ := h
  simp [World.frozen?, h]
theorem Box.ext {w w' : World} {k : Nat} {cs : Array Value} (h : Box w k cs) (hb : Ext w w') : Box w' k cs := by
  have hl := h.lt
  obtain ⟨t, h⟩ := h
  exact ⟨t, (Below.block hb k hl).trans h⟩
theorem Box.new {w : World} {k : Nat} {cs : Array Value} {t : TypeId} (hk : k = w.heap.size) : Box (w.alloc (.cells cs t)) k cs := ⟨t, hk ▸ heap_alloc_new w _⟩
theorem Box.alloc {w : World} {k : Nat} {cs : Array Value} (h : Box w k cs) (o : Obj) : Box (w.alloc o) k cs := h.ext ((Ext.refl _).alloc o)
theorem Box.drew {w : World} {k : Nat} {cs : Array Value} (h : Box w k cs) : Box w.drew k cs := h
theorem Box.drewN {w : World} {k : Nat} {cs : Array Value} (h : Box w k cs) (n : Nat) : Box (w.drewN n) k cs := h
theorem Box.set {w : World} {k o : Nat} {cs : Array Value} (h : Box w k cs) (v : Value) : Box (w.setCell ⟨k, o, none⟩ v) k (cs.setIfInBounds o v) := by
  obtain ⟨t, h⟩ := h
  refine ⟨t, ?_⟩
  simp [World.setCell, Array.getElem?_modify, h]
theorem Box.set_ne {w : World} {k : Nat} {a : Addr} {cs : Array Value} (h : Box w k cs) (hne : k ≠ a.block) (v : Value) : Box (w.setCell a v) k cs := by
  obtain ⟨t, h⟩ := h
  exact ⟨t, by rw [Below.heap_setCell _ _ _ _ hne]; exact h⟩
/-- A box behind a call: the box, and the two rules by which the walk reads it. -/
theorem Box.after {w w' : World} {k : Nat} {cs : Array Value} (hb : Ext w w') (h : Box w k cs) : Box w' k cs ∧ (∀ o, w'.cell? ⟨k, o, none⟩ = cs[o]?) ∧ (∀ o, w'.frozen? ⟨k, o, none⟩ = false) ∧ k < w'.heap.size :=
  ⟨h.ext hb, (h.ext hb).cell, (h.ext hb).frozen, (h.ext hb).lt⟩
/-- A contract of a function that makes no memory, as a region of reads wants it. -/
theorem quiet {P : Program} {f : FuncId} {args : Array Value} {w : World} {v : Value} (h : Calls P f args w fun e w' => e = .returned v ∧ w = w') : Calls P f args w fun e w' => e = .returned v ∧ w' = w :=
  h.mono fun _ _ ⟨a, b⟩ => ⟨a, b.symm⟩
/-- Two lists, member by member. -/
def All2 {α β : Type} (R : α → β → Prop) : List α → List β → Prop
  | [], [] => True
  | a :: l, b :: m => R a b ∧ All2 R l m
  | _, _ => False
theorem All2.length {α β : Type} {R : α → β → Prop} : ∀ {l : List α} {m : List β}, All2 R l m → l.length = m.length
  | [], [], _ => rfl
  | _ :: l, _ :: m, h => by simp [All2.length (l := l) (m := m) h.2]
theorem All2.append {α β : Type} {R : α → β → Prop} : ∀ {l l' : List α} {m m' : List β}, All2 R l m → All2 R l' m' → All2 R (l ++ l') (m ++ m')
  | [], _, [], _, _, h' => h'
  | _ :: _, _, _ :: _, _, h, h' => ⟨h.1, All2.append h.2 h'⟩
theorem All2.imp {α β : Type} {R R' : α → β → Prop} (hR : ∀ a b, R a b → R' a b) : ∀ {l : List α} {m : List β}, All2 R l m → All2 R' l m
  | [], [], _ => trivial
  | _ :: _, _ :: _, h => ⟨hR _ _ h.1, All2.imp hR h.2⟩

theorem All2.get {α β : Type} {R : α → β → Prop} : ∀ {l : List α} {m : List β} {i : Nat} {a : α}, All2 R l m → l[i]? = some a → ∃ b, m[i]? = some b ∧ R a b
  | [], _, _, _, _, e => by simp at e
  | _ :: _, [], _, _, h, _ => h.elim
  | a :: l, b :: m, 0, _, h, e => by simp at e; subst e; exact ⟨b, rfl, h.1⟩
  | _ :: l, _ :: m, i + 1, _, h, e => by simpa using All2.get (l := l) (m := m) (i := i) h.2 (by simpa using e)
theorem All2.get' {α β : Type} {R : α → β → Prop} : ∀ {l : List α} {m : List β} {i : Nat} {b : β}, All2 R l m → m[i]? = some b → ∃ a, l[i]? = some a ∧ R a b
  | _, [], _, _, _, e => by simp at e
  | [], _ :: _, _, _, h, _ => h.elim
  | a :: l, b :: m, 0, _, h, e => by simp at e; subst e; exact ⟨a, rfl, h.1⟩
  | _ :: l, _ :: m, i + 1, _, h, e => by simpa using All2.get' (l := l) (m := m) (i := i) h.2 (by simpa using e)
theorem All2.impAt {α β : Type} {R R' : α → β → Prop} : ∀ {l : List α} {m : List β}, All2 R l m → (∀ (j : Nat) a c, l[j]? = some a → m[j]? = some c → R a c → R' a c) → All2 R' l m
  | [], [], _, _ => trivial
  | _ :: _, _ :: _, h, hk => ⟨hk 0 _ _ rfl rfl h.1, All2.impAt h.2 (fun j a c h1 h2 => hk (j + 1) a c (by simpa using h1) (by simpa using h2))⟩
theorem All2.set {α β : Type} {R R' : α → β → Prop} : ∀ {l : List α} {m : List β} (i : Nat) (b : β), All2 R l m → (∀ j a c, j ≠ i → l[j]? = some a → m[j]? = some c → R a c → R' a c) → (∀ a, l[i]? = some a → R' a b) → All2 R' l (m.set i b)
  | [], [], _, _, _, _, _ => trivial
  | a :: l, c :: m, 0, b, h, hk, hb => ⟨hb a rfl, All2.impAt h.2 (fun j a c h1 h2 => hk (j + 1) a c (by omega) (by simpa using h1) (by simpa using h2))⟩
  | a :: l, c :: m, i + 1, b, h, hk, hb => ⟨hk 0 a c (by omega) rfl rfl h.1, All2.set i b h.2 (fun j a c hj h1 h2 => hk (j + 1) a c (by omega) (by simpa using h1) (by simpa using h2)) (fun a ha => hb a (by simpa using ha))⟩
theorem ret_int {k : IntKind} {a b : Int} (h : b = a) : Ending.returned (.int k a) = .returned (.int k b) := by rw [h]
theorem ret_bool {a b : Bool} (h : b = a) : Ending.returned (.bool a) = .returned (.bool b) := by rw [h]
theorem ret_str {a b : ByteArray} (h : b = a) : Ending.returned (.string a) = .returned (.string b) := by rw [h]
theorem ret_eq {a b : Value} (h : a = b) : Ending.returned a = Ending.returned b := by rw [h]
end Go.Proofs.Ytbenfbmoagfboaa

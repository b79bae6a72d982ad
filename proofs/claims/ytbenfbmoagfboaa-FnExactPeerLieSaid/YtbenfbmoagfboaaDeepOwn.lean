/- Data of any depth that lie in memory of one's own. -/
import Derived.Test.YtbenfbmoagfboaaDeep
namespace Go.Proofs.Ytbenfbmoagfboaa
open Go.RowKit

/-- Cells that read as data and own all that they lead to; the blocks, in order. -/
inductive Ows (w : World) : List D → List Value → List Nat → Prop
  | nil : Ows w [] [] []
  | int {ds vs F} (n : Int) : Ows w ds vs F → Ows w (.int n :: ds) (.int .i64 n :: vs) F
  | bool {ds vs F} (b : Bool) : Ows w ds vs F → Ows w (.bool b :: ds) (.bool b :: vs) F
  | str {ds vs F} (s : ByteArray) : Ows w ds vs F → Ows w (.str s :: ds) (.string s :: vs) F
  | sl {ds vs es us F G} (e sz n v) : w.ownsRow 0 e sz v n us → Ows w es us G → Ows w ds vs F → Ows w (.sl e sz n es :: ds) (v :: vs) (v.ownBlock.toList ++ (G ++ F))

/-- Only the blocks of F may have turned. -/
structure Chg (F : List Nat) (w w' : World) : Prop where
  os : w'.os = w.os
  tape : w'.tape = w.tape
  output : w'.output = w.output
  size : w.heap.size ≤ w'.heap.size
  block : ∀ k, k < w.heap.size → k ∉ F → w'.heap[k]? = w.heap[k]?
theorem Chg.refl {F : List Nat} {w : World} : Chg F w w := ⟨rfl, rfl, rfl, Nat.le_refl _, fun _ _ _ => rfl⟩
theorem Chg.trans {F : List Nat} {a b c : World} (h : Chg F a b) (k : Chg F b c) : Chg F a c :=
  ⟨k.os.trans h.os, k.tape.trans h.tape, k.output.trans h.output, Nat.le_trans h.size k.size, fun i hi hn => (k.block i (Nat.lt_of_lt_of_le hi h.size) hn).trans (h.block i hi hn)⟩
theorem Chg.mono {F G : List Nat} {a b : World} (h : Chg F a b) (hs : ∀ k ∈ F, k ∈ G) : Chg G a b := ⟨h.os, h.tape, h.output, h.size, fun k hk hn => h.block k hk fun hf => hn (hs k hf)⟩
theorem Ext.chg {F : List Nat} {a b : World} (h : Ext a b) : Chg F a b := ⟨Below.os h, Below.tape h, Below.output h, h.size, fun k hk _ => Below.block h k hk⟩
theorem Chg.grown {a b : World} {g : Nat} (h : Chg [g] a b) : a.grownBy b (some g) := ⟨h.os, h.tape, h.output, h.size, fun k hk hr => h.block k hk (by simpa using hr)⟩
theorem Chg.of_grown {a b : World} {row : Option Nat} (h : a.grownBy b row) : Chg row.toList a b := ⟨h.os, h.tape, h.output, h.size, fun k hk hr => h.block k hk (by cases row <;> simp_all)⟩
theorem Chg.set {F : List Nat} {a b : World} {g : Nat} (h : Chg F a b) (hg : g ∈ F) (o : Nat) (u : Value) : Chg F a (b.setCell ⟨g, o, none⟩ u) :=
  h.trans ((Chg.of_grown (row := some g) (grownBy_set (grownBy_refl _ _) o u)).mono (by simpa using hg))
theorem Chg.ext {F : List Nat} {w0 a b : World} (h : Ext w0 a) (k : Chg F a b) (hF : ∀ i ∈ F, w0.heap.size ≤ i) : Ext w0 b :=
  ⟨k.os.trans (Below.os h), k.tape.trans (Below.tape h), k.output.trans (Below.output h), Nat.le_trans h.size k.size, fun i hi => (k.block i (Nat.lt_of_lt_of_le hi h.size) fun hf => by have := hF i hf; omega).trans (Below.block h i hi)⟩

section
variable {w w' : World} {ds ds' : List D} {vs vs' : List Value} {F G : List Nat}

theorem Ows.len (h : Ows w ds vs F) : ds.length = vs.length := by
  induction h <;> simp_all
theorem Ows.keep (h : Ows w ds vs F) (hb : Chg G w w') (hd : ∀ k ∈ F, k ∉ G) : Ows w' ds vs F := by
  induction h with
  | nil => exact .nil
  | int n _ ih => exact .int n (ih hd)
  | bool n _ ih => exact .bool n (ih hd)
  | str n _ ih => exact .str n (ih hd)
  | sl e sz n v h1 _ _ ih1 ih2 =>
    refine .sl e sz n v ?_ (ih1 fun k hk => hd k (by simp [hk])) (ih2 fun k hk => hd k (by simp [hk]))
    refine ⟨h1.1, ?_⟩
    rcases h1.2 with h2 | ⟨g, cap, cur, rfl, q1, q2, q3⟩
    · exact .inl h2
    · refine .inr ⟨g, cap, cur, rfl, q1, ?_, q3⟩
      rw [hb.block g (Array.getElem?_eq_some_iff.1 q2).1 (hd g (by simp [Value.ownBlock])), q2]
theorem Ows.ext (h : Ows w ds vs F) (hb : Ext w w') : Ows w' ds vs F := h.keep (G := []) hb.chg (by simp)
theorem Ows.mem (h : Ows w ds vs F) : ∀ k ∈ F, k < w.heap.size := by
  induction h with
  | nil => simp
  | int n _ ih => exact ih
  | bool n _ ih => exact ih
  | str n _ ih => exact ih
  | sl e sz n v h1 _ _ ih1 ih2 =>
    intro k hk
    simp only [List.mem_append, Option.mem_toList] at hk
    rcases hk with hk | hk | hk
    · exact (h1.lt k hk).2
    · exact ih1 k hk
    · exact ih2 k hk
theorem Ows.append (h : Ows w ds vs F) (k : Ows w ds' vs' G) : Ows w (ds ++ ds') (vs ++ vs') (F ++ G) := by
  induction h with
  | nil => exact k
  | int n _ ih => exact .int n ih
  | bool n _ ih => exact .bool n ih
  | str n _ ih => exact .str n ih
  | sl e sz n v h1 h2 _ _ ih2 =>
    have := Ows.sl e sz n v h1 h2 ih2
    simpa [List.append_assoc] using this
theorem ows_nil : Ows w [] vs F ↔ vs = [] ∧ F = [] := ⟨fun h => by cases h; exact ⟨rfl, rfl⟩, fun ⟨h, k⟩ => h ▸ k ▸ .nil⟩
theorem ows_int {n : Int} : Ows w (.int n :: ds) vs F ↔ ∃ vs', vs = .int .i64 n :: vs' ∧ Ows w ds vs' F :=
  ⟨fun h => by cases h with | int _ h => exact ⟨_, rfl, h⟩, fun ⟨_, e, h⟩ => e ▸ .int n h⟩
theorem ows_bool {b : Bool} : Ows w (.bool b :: ds) vs F ↔ ∃ vs', vs = .bool b :: vs' ∧ Ows w ds vs' F :=
  ⟨fun h => by cases h with | bool _ h => exact ⟨_, rfl, h⟩, fun ⟨_, e, h⟩ => e ▸ .bool b h⟩
theorem ows_str {s : ByteArray} : Ows w (.str s :: ds) vs F ↔ ∃ vs', vs = .string s :: vs' ∧ Ows w ds vs' F :=
  ⟨fun h => by cases h with | str _ h => exact ⟨_, rfl, h⟩, fun ⟨_, e, h⟩ => e ▸ .str s h⟩
theorem ows_sl {e : TypeId} {sz n : Nat} {es : List D} : Ows w (.sl e sz n es :: ds) vs F ↔ ∃ v vs' F1 F2, vs = v :: vs' ∧ F = F1 ++ F2 ∧ Ows w [.sl e sz n es] [v] F1 ∧ Ows w ds vs' F2 := by
  constructor
  · intro h
    cases h with
    | sl e sz n v h1 h2 h3 => exact ⟨v, _, _, _, rfl, by rw [← List.append_assoc], by simpa using Ows.sl e sz n v h1 h2 .nil, h3⟩
  · rintro ⟨v, vs', F1, F2, rfl, rfl, h, k⟩
    exact h.append k
theorem ows_append : Ows w (ds ++ ds') vs F ↔ ∃ v1 v2 F1 F2, vs = v1 ++ v2 ∧ F = F1 ++ F2 ∧ Ows w ds v1 F1 ∧ Ows w ds' v2 F2 := by
  constructor
  · intro h
    induction ds generalizing vs F with
    | nil => exact ⟨[], vs, [], F, rfl, rfl, .nil, h⟩
    | cons d ds ih =>
      cases d with
      | int n => obtain ⟨u, rfl, k⟩ := ows_int.1 h; obtain ⟨v1, v2, F1, F2, rfl, rfl, q1, q2⟩ := ih k; exact ⟨_ :: v1, v2, F1, F2, rfl, rfl, .int n q1, q2⟩
      | bool n => obtain ⟨u, rfl, k⟩ := ows_bool.1 h; obtain ⟨v1, v2, F1, F2, rfl, rfl, q1, q2⟩ := ih k; exact ⟨_ :: v1, v2, F1, F2, rfl, rfl, .bool n q1, q2⟩
      | str n => obtain ⟨u, rfl, k⟩ := ows_str.1 h; obtain ⟨v1, v2, F1, F2, rfl, rfl, q1, q2⟩ := ih k; exact ⟨_ :: v1, v2, F1, F2, rfl, rfl, .str n q1, q2⟩
      | sl e sz n es =>
        obtain ⟨v, u, F0, F', rfl, rfl, hv, k⟩ := ows_sl.1 h
        obtain ⟨v1, v2, F1, F2, rfl, rfl, q1, q2⟩ := ih k
        exact ⟨v :: v1, v2, F0 ++ F1, F2, rfl, by rw [List.append_assoc], hv.append q1, q2⟩
  · rintro ⟨v1, v2, F1, F2, rfl, rfl, h1, h2⟩
    exact h1.append h2
theorem Ows.read (h : Ows w ds vs F) : Rds w ds vs := by
  induction h with
  | nil => exact .nil
  | int n _ ih => exact .int n ih
  | bool n _ ih => exact .bool n ih
  | str n _ ih => exact .str n ih
  | @sl ds vs es us F G e sz n v h1 h2 _ ih1 ih2 =>
    have hl := ih1.len
    by_cases hn : n = 0
    · subst hn
      have : us = [] := List.eq_nil_of_length_eq_zero (by rw [h1.1]; omega)
      subst this
      have : es = [] := List.eq_nil_of_length_eq_zero (by simpa using hl)
      subst this
      rcases h1.2 with ⟨rfl, _⟩ | ⟨g, cap, cur, rfl, _⟩
      · exact .nilS e sz _ _ ih2
      · exact .nilS e sz _ _ ih2
    · rcases h1.2 with ⟨_, h0⟩ | ⟨g, cap, cur, rfl, q1, q2, q3, q4, q5, q6⟩
      · exact absurd h0 hn
      · refine .sl e sz n g 0 cap (by omega) q3 q4 (Array.getElem?_eq_some_iff.1 q2).1 (by rw [hl, h1.1]) h1.1 (fun o u hu => ?_) ih1 ih2
        rw [Nat.zero_add, cell_of_row w g o cur e (0, 0) q2]
        rw [← q6, List.getElem?_take] at hu
        split at hu
        · simpa using hu
        · cases hu
end

/-- Data of one's own whose blocks lie in [lo, hi). -/
def Obj (w : World) (lo hi : Nat) (ds : List D) (vs : List Value) : Prop := ∃ F, Ows w ds vs F ∧ F.Nodup ∧ ∀ k ∈ F, lo ≤ k ∧ k < hi

section
variable {w w' : World} {ds ds' : List D} {vs vs' : List Value} {lo hi : Nat}
theorem Obj.read (h : Obj w lo hi ds vs) : Rds w ds vs := h.elim fun _ h => h.1.read
theorem Obj.ext (h : Obj w lo hi ds vs) (hb : Ext w w') : Obj w' lo hi ds vs := by
  obtain ⟨F, h1, h2, h3⟩ := h
  exact ⟨F, h1.ext hb, h2, h3⟩
theorem Obj.mono {lo' hi' : Nat} (h : Obj w lo hi ds vs) (h1 : lo' ≤ lo) (h2 : hi ≤ hi') : Obj w lo' hi' ds vs := by
  obtain ⟨F, k1, k2, k3⟩ := h
  exact ⟨F, k1, k2, fun k hk => by have := k3 k hk; omega⟩
/-- Only blocks in [lo, hi) may have turned. -/
def ChgI (lo hi : Nat) (w w' : World) : Prop := ∃ F, Chg F w w' ∧ ∀ k ∈ F, lo ≤ k ∧ k < hi
theorem Obj.keep {lo' hi' : Nat} (h : Obj w lo hi ds vs) (hc : ChgI lo' hi' w w') (hd : hi ≤ lo' ∨ hi' ≤ lo) : Obj w' lo hi ds vs := by
  obtain ⟨F, k1, k2, k3⟩ := h
  obtain ⟨G, g1, g2⟩ := hc
  exact ⟨F, k1.keep g1 fun k hk hg => by have := k3 k hk; have := g2 k hg; omega, k2, k3⟩
theorem ChgI.ext {w0 : World} (h : Ext w0 w) (hc : ChgI lo hi w w') (hl : w0.heap.size ≤ lo) : Ext w0 w' := by
  obtain ⟨F, k1, k2⟩ := hc
  exact k1.ext h fun i hi => by have := k2 i hi; omega
theorem Obj.append {mid : Nat} (h : Obj w lo mid ds vs) (k : Obj w mid hi ds' vs') (hl : lo ≤ mid) (hh : mid ≤ hi) : Obj w lo hi (ds ++ ds') (vs ++ vs') := by
  obtain ⟨F, k1, k2, k3⟩ := h
  obtain ⟨G, g1, g2, g3⟩ := k
  refine ⟨F ++ G, k1.append g1, List.nodup_append.2 ⟨k2, g2, fun a ha b hb => ?_⟩, fun k hk => ?_⟩
  · have := k3 a ha; have := g3 b hb; omega
  · rcases List.mem_append.1 hk with hk | hk
    · have := k3 k hk; omega
    · have := g3 k hk; omega
theorem Obj.split (h : Obj w lo hi (ds ++ ds') vs) : ∃ v1 v2, vs = v1 ++ v2 ∧ Obj w lo hi ds v1 ∧ Obj w lo hi ds' v2 := by
  obtain ⟨F, k1, k2, k3⟩ := h
  obtain ⟨v1, v2, F1, F2, rfl, rfl, q1, q2⟩ := ows_append.1 k1
  rw [List.nodup_append] at k2
  exact ⟨v1, v2, rfl, ⟨F1, q1, k2.1, fun k hk => k3 k (by simp [hk])⟩, ⟨F2, q2, k2.2.1, fun k hk => k3 k (by simp [hk])⟩⟩
theorem obj_nil : Obj w lo hi [] [] := ⟨[], .nil, by simp, by simp⟩
theorem Obj.int {n : Int} (h : Obj w lo hi ds vs) : Obj w lo hi (.int n :: ds) (.int .i64 n :: vs) := h.elim fun F h => ⟨F, .int n h.1, h.2⟩
theorem Obj.bool {n : Bool} (h : Obj w lo hi ds vs) : Obj w lo hi (.bool n :: ds) (.bool n :: vs) := h.elim fun F h => ⟨F, .bool n h.1, h.2⟩
theorem Obj.str {n : ByteArray} (h : Obj w lo hi ds vs) : Obj w lo hi (.str n :: ds) (.string n :: vs) := h.elim fun F h => ⟨F, .str n h.1, h.2⟩
theorem Obj.cons {mid : Nat} {d : D} {v : Value} (h : Obj w lo mid [d] [v]) (k : Obj w mid hi ds vs) (hl : lo ≤ mid) (hh : mid ≤ hi) : Obj w lo hi (d :: ds) (v :: vs) := Obj.append h k hl hh
theorem Obj.more {mid mid' : Nat} (h : Obj w lo mid ds vs) (k : Obj w mid' hi ds' vs') (hm : mid ≤ mid') (hh : mid ≤ hi) (hl : lo ≤ mid') : Obj w lo hi (ds ++ ds') (vs ++ vs') := by
  obtain ⟨F, k1, k2, k3⟩ := h
  obtain ⟨G, g1, g2, g3⟩ := k
  refine ⟨F ++ G, k1.append g1, List.nodup_append.2 ⟨k2, g2, fun a ha b hb => ?_⟩, fun k hk => ?_⟩
  · have := k3 a ha; have := g3 b hb; omega
  · rcases List.mem_append.1 hk with hk | hk
    · have := k3 k hk; omega
    · have := g3 k hk; omega
theorem Obj.set {p : Addr} {u : Value} (h : Obj w lo hi ds vs) (hk : p.block < lo ∨ hi ≤ p.block) : Obj (w.setCell p u) lo hi ds vs := by
  obtain ⟨F, k1, k2, k3⟩ := h
  have hc : Chg [p.block] w (w.setCell p u) := ⟨rfl, rfl, rfl, by simp [World.setCell], fun k _ hr => Below.heap_setCell _ _ _ _ (by simpa using hr)⟩
  exact ⟨F, k1.keep hc fun k hk' => by have := k3 k hk'; simp; omega, k2, k3⟩
theorem Obj.alloc {o : Go.Obj} (h : Obj w lo hi ds vs) : Obj (w.alloc o) lo hi ds vs := h.ext ((Ext.refl _).alloc _)
theorem Obj.drew (h : Obj w lo hi ds vs) : Obj w.drew lo hi ds vs := h.ext (Ext.refl _).drew
theorem Obj.drewN {n : Nat} (h : Obj w lo hi ds vs) : Obj (w.drewN n) lo hi ds vs := h.ext ((Ext.refl _).drewN n)
theorem obj_nilS {e : TypeId} {sz : Nat} : Obj w lo hi [.sl e sz 0 []] [.slice none 0 0] := ⟨[], by simpa [Value.ownBlock] using Ows.sl e sz 0 _ (World.ownsRow_nil w 0 e sz) .nil .nil, by simp, by simp⟩
end
end Go.Proofs.Ytbenfbmoagfboaa

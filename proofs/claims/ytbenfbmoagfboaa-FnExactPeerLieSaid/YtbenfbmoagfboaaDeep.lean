/- Data of any depth: how cells read as data, and what memory data of one's own take. -/
import Derived.Test.YtbenfbmoagfboaaNest
namespace Go.Proofs.Ytbenfbmoagfboaa
open Go.RowKit

/-- A cell's datum. A slice: its element's type, cells an element, elements, and the cells of all elements one behind the other. -/
inductive D where
  | int (n : Int)
  | bool (b : Bool)
  | str (s : ByteArray)
  | sl (e : TypeId) (sz n : Nat) (es : List D)

/-- Cells that read as data. -/
inductive Rds (w : World) : List D → List Value → Prop
  | nil : Rds w [] []
  | int {ds vs} (n : Int) : Rds w ds vs → Rds w (.int n :: ds) (.int .i64 n :: vs)
  | bool {ds vs} (b : Bool) : Rds w ds vs → Rds w (.bool b :: ds) (.bool b :: vs)
  | str {ds vs} (s : ByteArray) : Rds w ds vs → Rds w (.str s :: ds) (.string s :: vs)
  | nilS {ds vs} (e sz o cap) : Rds w ds vs → Rds w (.sl e sz 0 [] :: ds) (.slice o 0 cap :: vs)
  | sl {ds vs es us} (e sz n b off cap) : 0 < n → n ≤ cap → cap ≤ maxLen → b < w.heap.size → es.length = n * sz → us.length = n * sz → (∀ o u, us[o]? = some u → w.cell? ⟨b, off + o, none⟩ = some u) →
      Rds w es us → Rds w ds vs → Rds w (.sl e sz n es :: ds) (.slice (some ⟨b, off, none⟩) n cap :: vs)

section
variable {w : World} {ds ds' : List D} {vs vs' : List Value}

theorem Rds.ext {w' : World} (h : Rds w ds vs) (hb : Ext w w') : Rds w' ds vs := by
  induction h with
  | nil => exact .nil
  | int n _ ih => exact .int n ih
  | bool b _ ih => exact .bool b ih
  | str s _ ih => exact .str s ih
  | nilS e sz o cap _ ih => exact .nilS e sz o cap ih
  | sl e sz n b off cap h1 h2 h3 h4 h5 h6 h7 _ _ ih1 ih2 => exact .sl e sz n b off cap h1 h2 h3 (Nat.lt_of_lt_of_le h4 hb.size) h5 h6 (fun o u hu => (hb.cells.1 b _ h4).trans (h7 o u hu)) ih1 ih2
theorem Rds.len (h : Rds w ds vs) : ds.length = vs.length := by
  induction h <;> simp_all
theorem Rds.append (h : Rds w ds vs) (k : Rds w ds' vs') : Rds w (ds ++ ds') (vs ++ vs') := by
  induction h with
  | nil => exact k
  | int n _ ih => exact .int n ih
  | bool b _ ih => exact .bool b ih
  | str s _ ih => exact .str s ih
  | nilS e sz o cap _ ih => exact .nilS e sz o cap ih
  | sl e sz n b off cap h1 h2 h3 h4 h5 h6 h7 h8 _ ih1 ih2 => exact .sl e sz n b off cap h1 h2 h3 h4 h5 h6 h7 h8 ih2
theorem rds_nil : Rds w [] vs ↔ vs = [] := ⟨fun h => by cases h; rfl, fun h => h ▸ .nil⟩
theorem rds_int {n : Int} : Rds w (.int n :: ds) vs ↔ ∃ vs', vs = .int .i64 n :: vs' ∧ Rds w ds vs' :=
  ⟨fun h => by cases h with | int _ h => exact ⟨_, rfl, h⟩, fun ⟨_, e, h⟩ => e ▸ .int n h⟩
theorem rds_bool {b : Bool} : Rds w (.bool b :: ds) vs ↔ ∃ vs', vs = .bool b :: vs' ∧ Rds w ds vs' :=
  ⟨fun h => by cases h with | bool _ h => exact ⟨_, rfl, h⟩, fun ⟨_, e, h⟩ => e ▸ .bool b h⟩
theorem rds_str {s : ByteArray} : Rds w (.str s :: ds) vs ↔ ∃ vs', vs = .string s :: vs' ∧ Rds w ds vs' :=
  ⟨fun h => by cases h with | str _ h => exact ⟨_, rfl, h⟩, fun ⟨_, e, h⟩ => e ▸ .str s h⟩
/-- A slice that reads as data. -/
def RS (w : World) (e : TypeId) (sz n : Nat) (es : List D) (v : Value) : Prop := Rds w [.sl e sz n es] [v]
theorem rds_sl {e : TypeId} {sz n : Nat} {es : List D} : Rds w (.sl e sz n es :: ds) vs ↔ ∃ v vs', vs = v :: vs' ∧ RS w e sz n es v ∧ Rds w ds vs' := by
  constructor
  · intro h
    cases h with
    | nilS e sz o cap h => exact ⟨_, _, rfl, .nilS e sz o cap .nil, h⟩
    | sl e sz n b off cap h1 h2 h3 h4 h5 h6 h7 h8 h => exact ⟨_, _, rfl, .sl e sz n b off cap h1 h2 h3 h4 h5 h6 h7 h8 .nil, h⟩
  · rintro ⟨v, vs', rfl, h, k⟩
    exact Rds.append h k
theorem rds_append : Rds w (ds ++ ds') vs ↔ ∃ v1 v2, vs = v1 ++ v2 ∧ Rds w ds v1 ∧ Rds w ds' v2 := by
  constructor
  · intro h
    induction ds generalizing vs with
    | nil => exact ⟨[], vs, rfl, .nil, h⟩
    | cons d ds ih =>
      cases d with
      | int n => obtain ⟨u, rfl, k⟩ := rds_int.1 h; obtain ⟨v1, v2, rfl, q1, q2⟩ := ih k; exact ⟨_ :: v1, v2, rfl, .int n q1, q2⟩
      | bool n => obtain ⟨u, rfl, k⟩ := rds_bool.1 h; obtain ⟨v1, v2, rfl, q1, q2⟩ := ih k; exact ⟨_ :: v1, v2, rfl, .bool n q1, q2⟩
      | str n => obtain ⟨u, rfl, k⟩ := rds_str.1 h; obtain ⟨v1, v2, rfl, q1, q2⟩ := ih k; exact ⟨_ :: v1, v2, rfl, .str n q1, q2⟩
      | sl e sz n es => obtain ⟨v, u, rfl, hv, k⟩ := rds_sl.1 h; obtain ⟨v1, v2, rfl, q1, q2⟩ := ih k; exact ⟨v :: v1, v2, rfl, rds_sl.2 ⟨v, v1, rfl, hv, q1⟩, q2⟩
  · rintro ⟨v1, v2, rfl, h1, h2⟩
    exact h1.append h2

variable {e : TypeId} {sz n : Nat} {es : List D} {v : Value}
theorem RS.ext {w' : World} (h : RS w e sz n es v) (hb : Ext w w') : RS w' e sz n es v := Rds.ext h hb
theorem RS.val (h : RS w e sz n es v) : ∃ o c, v = .slice o n c := by
  unfold RS at h
  cases h with
  | nilS => exact ⟨_, _, rfl⟩
  | sl => exact ⟨_, _, rfl⟩
theorem RS.bd (h : RS w e sz n es v) : n ≤ maxLen := by
  unfold RS at h
  cases h with
  | nilS => simp
  | sl => omega
theorem RS.len (h : RS w e sz n es v) : es.length = n * sz := by
  unfold RS at h
  cases h with
  | nilS => simp
  | sl => assumption
theorem RS.cell {off : Nat} {b c : Nat} {v : Value} (h : RS w e sz n es v) (hv : v = .slice (some ⟨b, off, none⟩) n c) (hn : 0 < n) : n ≤ c ∧ c ≤ maxLen ∧ b < w.heap.size := by
  subst hv
  unfold RS at h
  cases h with
  | nilS => omega
  | sl => exact ⟨by assumption, by assumption, by assumption⟩

/-- The cells from an address on read as data. -/
def RAt (w : World) (b off : Nat) (es : List D) : Prop := ∃ us, Rds w es us ∧ b < w.heap.size ∧ ∀ o u, us[o]? = some u → w.cell? ⟨b, off + o, none⟩ = some u
theorem RAt.ext {w' : World} {b off : Nat} (h : RAt w b off es) (hb : Ext w w') : RAt w' b off es := by
  obtain ⟨us, h1, h2, h3⟩ := h
  exact ⟨us, h1.ext hb, Nat.lt_of_lt_of_le h2 hb.size, fun o u hu => (hb.cells.1 b _ h2).trans (h3 o u hu)⟩
theorem RAt.app {b off : Nat} (h : RAt w b off (ds ++ ds')) : RAt w b off ds ∧ RAt w b (off + ds.length) ds' := by
  obtain ⟨us, h1, h2, h3⟩ := h
  obtain ⟨v1, v2, rfl, k1, k2⟩ := rds_append.1 h1
  refine ⟨⟨v1, k1, h2, fun o u hu => h3 o u (by rw [List.getElem?_append_left (List.getElem?_eq_some_iff.1 hu).1]; exact hu)⟩, ⟨v2, k2, h2, fun o u hu => ?_⟩⟩
  have := h3 (v1.length + o) u (by rw [List.getElem?_append_right (by omega), Nat.add_sub_cancel_left]; exact hu)
  rw [k1.len, Nat.add_assoc]
  exact this
/-- A slice: it is empty, or it leads to its elements. -/
theorem RS.cases (h : RS w e sz n es v) : (n = 0 ∧ es = [] ∧ ∃ o c, v = .slice o 0 c) ∨ (∃ b off c, v = .slice (some ⟨b, off, none⟩) n c ∧ 0 < n ∧ n ≤ c ∧ c ≤ maxLen ∧ RAt w b off es) := by
  unfold RS at h
  cases h with
  | nilS => exact .inl ⟨rfl, rfl, _, _, rfl⟩
  | sl e sz n b off cap h1 h2 h3 h4 h5 h6 h7 h8 h9 => exact .inr ⟨b, off, cap, rfl, h1, h2, h3, _, h8, h4, h7⟩

/-- A list of elements as a datum. -/
def slD {α : Type} (e : TypeId) (sz : Nat) (enc : α → List D) (xs : List α) : D := .sl e sz xs.length (xs.flatMap enc)
def RL {α : Type} (e : TypeId) (sz : Nat) (enc : α → List D) (w : World) (v : Value) (xs : List α) : Prop := RS w e sz xs.length (xs.flatMap enc) v
theorem rds_slD {α : Type} {enc : α → List D} {xs : List α} : Rds w (slD e sz enc xs :: ds) vs ↔ ∃ v vs', vs = v :: vs' ∧ RL e sz enc w v xs ∧ Rds w ds vs' := rds_sl
end

/-- The size that the laws count. -/
def szL : List D → Nat
  | [] => 0
  | .str s :: ds => s.size + szL ds
  | .sl _ _ n es :: ds => n + szL es + szL ds
  | .int _ :: ds => szL ds
  | .bool _ :: ds => szL ds
theorem szL_append (a b : List D) : szL (a ++ b) = szL a + szL b := by
  induction a with
  | nil => simp [szL]
  | cons d a ih => cases d <;> simp [szL, ih] <;> omega
/-- What every argument keeps to. -/
def okL : List D → Prop
  | [] => True
  | .str s :: ds => s.size ≤ 9223372036854775807 ∧ okL ds
  | .sl _ _ n es :: ds => n ≤ 9223372036854775807 ∧ okL es ∧ okL ds
  | .int n :: ds => (-9223372036854775808 ≤ n ∧ n ≤ 9223372036854775807) ∧ okL ds
  | .bool _ :: ds => okL ds
theorem okL_append (a b : List D) : okL (a ++ b) ↔ okL a ∧ okL b := by
  induction a with
  | nil => simp [okL]
  | cons d a ih => cases d <;> simp [okL, ih, and_assoc]
/-- What a 'sz..' function leaves. -/
def szR (left : Int) (n : Nat) : Int := if left < n then -1 else left - n
theorem szR_no {left : Int} {n : Nat} (h : left < n) : szR left n = -1 := if_pos h
theorem szR_yes {left : Int} {n : Nat} (h : ¬ left < n) : szR left n = left - n := if_neg h
theorem szR_zero {left : Int} (h : 0 ≤ left) : szR left 0 = left := by unfold szR; rw [if_neg (by omega)]; omega
theorem szR_add {left : Int} {a b : Nat} (_ : ¬ left < a) : szR left (a + b) = szR (left - a) b := by
  unfold szR
  split <;> split <;> omega
theorem szR_out {left : Int} {a b : Nat} (_ : left < a) : szR left (a + b) = -1 := szR_no (by omega)

/-- The text that a mark writes. -/
def mtd : Nat → Nat → List UInt8
  | 0, _ => []
  | f + 1, k => if k = 0 then [] else mtd f (k / 10) ++ [UInt8.ofNat (48 + k % 10)]
def mt (k : Int) : ByteArray := ⟨([109] ++ if k ≤ 0 then [48] else mtd k.toNat k.toNat).toArray⟩
/-- How many marks cells take. -/
def cnt : List D → Nat
  | [] => 0
  | .sl _ _ _ es :: ds => cnt es + cnt ds
  | .int _ :: ds => 1 + cnt ds
  | .bool _ :: ds => 1 + cnt ds
  | .str _ :: ds => 1 + cnt ds
/-- The marks, one cell behind the other. -/
def mk : List D → Int → List D
  | [], _ => []
  | .sl e sz n es :: ds, k => .sl e sz n (mk es k) :: mk ds (k + cnt es)
  | .int _ :: ds, k => .int k :: mk ds (k + 1)
  | .bool _ :: ds, k => .bool (k % 3 == 0) :: mk ds (k + 1)
  | .str _ :: ds, k => .str (mt k) :: mk ds (k + 1)
/-- Of a struct by value only what its slices lead to is marked. -/
def cntT : List D → Nat
  | [] => 0
  | .sl _ _ _ es :: ds => cnt es + cntT ds
  | .int _ :: ds => cntT ds
  | .bool _ :: ds => cntT ds
  | .str _ :: ds => cntT ds
def mkT : List D → Int → List D
  | [], _ => []
  | .sl e sz n es :: ds, k => .sl e sz n (mk es k) :: mkT ds (k + cnt es)
  | d :: ds, k => d :: mkT ds k
theorem cnt_append (a b : List D) : cnt (a ++ b) = cnt a + cnt b := by
  induction a with
  | nil => simp [cnt]
  | cons d a ih => cases d <;> simp [cnt, ih] <;> omega
theorem cntT_append (a b : List D) : cntT (a ++ b) = cntT a + cntT b := by
  induction a with
  | nil => simp [cntT]
  | cons d a ih => cases d <;> simp [cntT, ih] <;> omega
theorem mk_append (a b : List D) (k : Int) : mk (a ++ b) k = mk a k ++ mk b (k + cnt a) := by
  induction a generalizing k with
  | nil => simp [mk, cnt]
  | cons d a ih => cases d <;> simp [mk, cnt, ih, Int.add_assoc]
theorem mkT_append (a b : List D) (k : Int) : mkT (a ++ b) k = mkT a k ++ mkT b (k + cntT a) := by
  induction a generalizing k with
  | nil => simp [mkT, cntT]
  | cons d a ih => cases d <;> simp [mkT, cntT, ih, Int.add_assoc]
theorem mk_len (a : List D) (k : Int) : (mk a k).length = a.length := by
  induction a generalizing k with
  | nil => simp [mk]
  | cons d a ih => cases d <;> simp [mk, ih]
theorem cntT_le (a : List D) : cntT a ≤ cnt a := by
  induction a with
  | nil => simp [cnt, cntT]
  | cons d a ih => cases d <;> simp [cnt, cntT] <;> omega
end Go.Proofs.Ytbenfbmoagfboaa

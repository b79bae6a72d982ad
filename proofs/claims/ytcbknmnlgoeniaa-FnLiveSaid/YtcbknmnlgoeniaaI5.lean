/- Several texts, one behind the other. -/
import Derived.Test.YtcbknmnlgoeniaaI1
import Derived.Test.YtcbknmnlgoeniaaI4
/- What came in, as data of any depth. -/
namespace Go.Proofs.Ytcbknmnlgoeniaa
open Go.RowKit

/-- Cells of these shapes read as some element. -/
def Dec {α : Type} (ss : List Sh) (enc : α → List D) : Prop := ∀ n W vs, All2 (CellN W n) ss vs → ∃ x, Rds W (enc x) vs ∧ okL (enc x)
theorem flatMap_len' {α : Type} {enc : α → List D} {sz : Nat} (hl : ∀ x, (enc x).length = sz) (xs : List α) : (xs.flatMap enc).length = xs.length * sz := by
  induction xs with
  | nil => simp
  | cons y ys ih => rw [List.flatMap_cons, List.length_append, ih, hl, List.length_cons, Nat.add_mul]; omega
theorem All2.all_len {α β : Type} {R : α → β → Prop} {l : List α} {m : List β} (h : All2 R l m) : l.length = m.length := h.length

theorem dec_rows {α : Type} {enc : α → List D} {ss : List Sh} {n : Nat} {W : World} {b off : Nat} (hd : Dec ss enc) (hl : ∀ x, (enc x).length = ss.length) : ∀ len : Nat,
    (∀ i, i < len → ∃ cs, All2 (CellN W n) ss cs ∧ cs.length = ss.length ∧ ∀ j, j < cs.length → W.cell? ⟨b, off + i * ss.length + j, none⟩ = cs[j]?) →
    ∃ (xs : List α) (us : List Value), xs.length = len ∧ us.length = len * ss.length ∧ Rds W (xs.flatMap enc) us ∧ okL (xs.flatMap enc) ∧ ∀ o u, us[o]? = some u → W.cell? ⟨b, off + o, none⟩ = some u
  | 0, _ => ⟨[], [], rfl, by simp, .nil, by simp [okL], by simp⟩
  | len + 1, h => by
    obtain ⟨xs, us, h1, h2, h3, h4, h5⟩ := dec_rows hd hl len fun i hi => h i (by omega)
    obtain ⟨cs, k1, k2, k3⟩ := h len (by omega)
    obtain ⟨x, q1, q2⟩ := hd n W cs k1
    refine ⟨xs ++ [x], us ++ cs, by simp [h1], by rw [List.length_append, h2, k2, Nat.add_mul]; omega, ?_, ?_, fun o u hu => ?_⟩
    · rw [List.flatMap_append]
      exact h3.append (by simpa using q1)
    · rw [List.flatMap_append, okL_append]
      exact ⟨h4, by simpa using q2⟩
    · rcases Nat.lt_or_ge o us.length with ho | ho
      · rw [List.getElem?_append_left ho] at hu
        exact h5 o u hu
      · rw [List.getElem?_append_right ho] at hu
        have := k3 (o - us.length) (List.getElem?_eq_some_iff.1 hu).1
        rw [hu, h2, Nat.add_assoc, show len * ss.length + (o - len * ss.length) = o by omega] at this
        exact this
theorem dec_sl {α : Type} {enc : α → List D} {ss : List Sh} {n : Nat} {W : World} {v : Value} (e : TypeId) (hd : Dec ss enc) (hl : ∀ x, (enc x).length = ss.length) (hp : 0 < ss.length) (h : CellN W n (.sl ss) v) :
    ∃ xs, RL e ss.length enc W v xs ∧ okL [slD e ss.length enc xs] := by
  cases n with
  | zero => exact h.elim
  | succ n =>
    rcases h with rfl | ⟨⟨b, off, spot⟩, len, cap, rfl, h1, h2, h3⟩
    · exact ⟨[], .nilS _ _ _ _ .nil, by simp [okL, slD]⟩
    · by_cases hl0 : len = 0
      · subst hl0
        exact ⟨[], .nilS _ _ _ _ .nil, by simp [okL, slD]⟩
      · obtain ⟨cs, q1, q2, q3⟩ := h3 0 (by omega)
        have e0 := q3 0 (by omega)
        rw [List.getElem?_eq_getElem (by omega)] at e0
        have hspot : spot = none := by
          have := World.cell?_spot e0
          simpa [Addr.add] using this
        subst hspot
        have hb : b < W.heap.size := by
          have := World.block_lt_of_cell? W _ e0
          simpa [Addr.add] using this
        obtain ⟨xs, us, k1, k2, k3, k4, k5⟩ := dec_rows (b := b) (off := off) hd hl len fun i hi => by
          obtain ⟨cs, q1, q2, q3⟩ := h3 i hi
          refine ⟨cs, q1, q2, fun j hj => ?_⟩
          have := q3 j hj
          rw [add_none, add_none] at this
          exact this
        subst k1
        refine ⟨xs, .sl _ _ _ _ _ _ (by omega) h1 h2 hb (flatMap_len' hl xs) k2 k5 k3 .nil, ?_⟩
        simp only [slD, okL, and_true]
        exact ⟨by simp only [maxLen] at h2; omega, k4⟩
theorem okL_int {n : Int} {ds : List D} (h : (Lit.int .i64 n).wf = true) (k : okL ds) : okL (.int n :: ds) := by simp only [okL]; exact ⟨wf_bd h, k⟩
theorem okL_str {s : ByteArray} {ds : List D} (h : s.size ≤ maxLen) (k : okL ds) : okL (.str s :: ds) := by simp only [okL]; exact ⟨by simp only [maxLen] at h; omega, k⟩
theorem okL_nil : okL [] := by simp [okL]
theorem okL_bool {b : Bool} {ds : List D} (k : okL ds) : okL (.bool b :: ds) := by simp only [okL]; exact k
theorem okL_cons {d : D} {ds : List D} (h : okL [d]) (k : okL ds) : okL (d :: ds) := by
  have := (okL_append [d] ds).2 ⟨h, k⟩
  simpa using this
theorem dec_int : Dec [.int .i64] (fun i : Int => [.int i]) := by
  intro n W vs h
  match vs, h with
  | [_], ⟨k1, _⟩ =>
    obtain ⟨i, rfl, h1⟩ := cell_int k1
    exact ⟨i, .int _ .nil, okL_int h1 okL_nil⟩
theorem dec_str : Dec [.str] (fun s : ByteArray => [.str s]) := by
  intro n W vs h
  match vs, h with
  | [_], ⟨k1, _⟩ =>
    obtain ⟨i, rfl, h1⟩ := cell_str k1
    exact ⟨i, .str _ .nil, okL_str h1 okL_nil⟩
/-- A slice's elements in a slice. -/
theorem dec_of_sl {α : Type} {enc : α → List D} {ss : List Sh} (e : TypeId) (hd : Dec ss enc) (hl : ∀ x, (enc x).length = ss.length) (hp : 0 < ss.length) : Dec [.sl ss] (fun xs : List α => [slD e ss.length enc xs]) := by
  intro n W vs h
  match vs, h with
  | [_], ⟨k1, _⟩ =>
    obtain ⟨xs, h1, h2⟩ := dec_sl e hd hl hp k1
    exact ⟨xs, h1, h2⟩
end Go.Proofs.Ytcbknmnlgoeniaa
/- Slices of flat elements: copied, turned in one cell. -/
namespace Go.Proofs.Ytcbknmnlgoeniaa
open Go.RowKit

/-- A flat element's cells. -/
def valE {α : Type} (enc : α → List D) (x : α) : List Value := (enc x).map valD
theorem valE_len {α : Type} {enc : α → List D} {sz : Nat} (hl : ∀ x, (enc x).length = sz) (x : α) : (valE enc x).length = sz := by unfold valE; rw [List.length_map, hl]
theorem flat_val {α : Type} {enc : α → List D} (xs : List α) : (xs.flatMap enc).map valD = xs.flatMap (valE enc) := by
  induction xs with
  | nil => rfl
  | cons x xs ih => rw [List.flatMap_cons, List.map_append, ih, List.flatMap_cons]; rfl
theorem flat_scal {α : Type} {enc : α → List D} (hs : ∀ x, (enc x).all scal = true) (xs : List α) : (xs.flatMap enc).all scal = true := by
  induction xs with
  | nil => rfl
  | cons x xs ih => rw [List.flatMap_cons, List.all_append, hs, ih]; rfl
theorem valE_one {α : Type} {enc : α → List D} {ys : List α} : ∀ y ∈ ys, ∀ u ∈ valE enc y, u.oneCell' = true := by
  intro y _ u hu
  unfold valE at hu
  obtain ⟨d, _, rfl⟩ := List.mem_map.1 hu
  cases d <;> rfl
section
variable {α : Type} {enc : α → List D} {sz : Nat} {w : World} {e : TypeId} {v : Value} {xs : List α}
theorem RL.sl (hl : ∀ x, (enc x).length = sz) (hs : ∀ x, (enc x).all scal = true) (h : RL e sz enc w v xs) : Sl (valE enc) sz w v xs := by
  rcases RS.cases h with ⟨hn, _, o, c, rfl⟩ | ⟨b, off, c, rfl, h1, h2, h3, hx⟩
  · obtain rfl := List.eq_nil_of_length_eq_zero hn
    exact .inl ⟨o, c, rfl, rfl⟩
  · refine .inr ⟨b, off, c, rfl, h1, h2, h3, hx.lt, fun i x hi j hj => ?_⟩
    have h4 := RAt.elem hl hx hi
    obtain ⟨us, k1, _, k3⟩ := h4
    obtain rfl := k1.flat (hs x)
    have hj' : j < (enc x).length := by rw [hl]; exact hj
    have := k3 j _ (List.getElem?_eq_getElem (by rw [List.length_map]; exact hj'))
    rw [this]
    unfold valE
    rw [List.getElem?_eq_getElem (by rw [List.length_map]; exact hj')]
theorem Obj.of_copy {lo : Nat} (hs : ∀ x, (enc x).all scal = true) (h : w.ownsRow lo e sz v (0 + xs.length) ([] ++ xs.flatMap (valE enc))) : Obj w lo w.heap.size [slD e sz enc xs] [v] := by
  rw [Nat.zero_add, List.nil_append, ← flat_val] at h
  exact Obj.of_row h (flat_scal hs xs)
theorem Obj.flatRow {lo hi : Nat} (hs : ∀ x, (enc x).all scal = true) (h : Obj w lo hi [slD e sz enc xs] [v]) : w.ownsRow lo e sz v xs.length (xs.flatMap (valE enc)) := by
  rw [← flat_val]
  exact Obj.row h (flat_scal hs xs)
theorem Obj.nonnil {lo hi n : Nat} {es : List D} (h : Obj w lo hi [.sl e sz n es] [v]) (hn : 0 < n) : ∃ g c, v = .slice (some ⟨g, 0, none⟩) n c ∧ lo ≤ g ∧ g < hi ∧ g < w.heap.size ∧ (∀ o, w.frozen? ⟨g, o, none⟩ = false) := by
  obtain ⟨F, h1, h2, h3⟩ := h
  rcases Ows.val h1 with ⟨_, h0⟩ | ⟨g, c, rfl⟩
  · omega
  · have hg := h1.gmem h2
    exact ⟨g, c, rfl, (h3 g hg).1, (h3 g hg).2, h1.mem g hg, h1.frozenAt h2⟩
theorem flat_parts (xs : List α) (k : Nat) (x : α) (hx : xs[k]? = some x) : xs.flatMap enc = (xs.take k).flatMap enc ++ (enc x ++ (xs.drop (k + 1)).flatMap enc) := by
  have e1 : xs = xs.take k ++ (x :: xs.drop (k + 1)) := by
    rw [← (List.getElem?_eq_some_iff.1 hx).2, List.getElem_cons_drop, List.take_append_drop]
  conv => lhs; rw [e1, List.flatMap_append, List.flatMap_cons]
theorem flat_set (xs : List α) (k : Nat) (x : α) (hk : k < xs.length) : (xs.set k x).flatMap enc = (xs.take k).flatMap enc ++ (enc x ++ (xs.drop (k + 1)).flatMap enc) := by
  rw [List.set_eq_take_append_cons_drop, if_pos hk, List.flatMap_append, List.flatMap_cons]
theorem Obj.modify {lo hi g c k j : Nat} {x x' : α} {d0 d : D} (hl : ∀ x, (enc x).length = sz) (h : Obj w lo hi [slD e sz enc xs] [.slice (some ⟨g, 0, none⟩) xs.length c]) (hx : xs[k]? = some x) (hj : (enc x)[j]? = some d0) (h1 : scal d = true) (he : enc x' = (enc x).set j d) :
    Obj (w.setCell ⟨g, k * sz + j, none⟩ (valD d)) lo hi [slD e sz enc (xs.set k x')] [.slice (some ⟨g, 0, none⟩) xs.length c] := by
  have hk := (List.getElem?_eq_some_iff.1 hx).1
  have hjl := (List.getElem?_eq_some_iff.1 hj).1
  have e1 : xs.flatMap enc = ((xs.take k).flatMap enc ++ (enc x).take j) ++ ([d0] ++ ((enc x).drop (j + 1) ++ (xs.drop (k + 1)).flatMap enc)) := by
    rw [flat_parts xs k x hx]
    conv => lhs; rhs; lhs; rw [← List.take_append_drop j (enc x), ← List.getElem_cons_drop hjl, (List.getElem?_eq_some_iff.1 hj).2]
    simp
  have e2 : (xs.set k x').flatMap enc = ((xs.take k).flatMap enc ++ (enc x).take j) ++ ([d] ++ ((enc x).drop (j + 1) ++ (xs.drop (k + 1)).flatMap enc)) := by
    rw [flat_set xs k x' hk, he, List.set_eq_take_append_cons_drop, if_pos hjl]
    simp
  have e3 : ((xs.take k).flatMap enc ++ (enc x).take j).length = k * sz + j := by
    rw [List.length_append, flat_len (sz := sz) hl, List.length_take, List.length_take, Nat.min_eq_left (Nat.le_of_lt hk), Nat.min_eq_left (Nat.le_of_lt hjl)]
  have h' : Obj w lo hi [.sl e sz xs.length (((xs.take k).flatMap enc ++ (enc x).take j) ++ ([d0] ++ ((enc x).drop (j + 1) ++ (xs.drop (k + 1)).flatMap enc)))] [.slice (some ⟨g, 0, none⟩) xs.length c] := by rw [← e1]; exact h
  have q := Obj.put (rv := [valD d]) (row' := [d]) (mid' := hi) (hi := hi) h' ⟨[], ows_flat [d] (by simp [h1]), by simp, by simp⟩ (Nat.le_refl _) (Nat.le_refl _) rfl
  rw [← e2, e3] at q
  unfold slD
  rw [List.length_set]
  exact q
end
theorem Obj.at {α : Type} {enc : α → List D} {sz : Nat} {w : World} {e : TypeId} {xs : List α} {lo hi g c k : Nat} {x : α} (hl : ∀ x, (enc x).length = sz) (h : Obj w lo hi [slD e sz enc xs] [.slice (some ⟨g, 0, none⟩) xs.length c]) (hx : xs[k]? = some x) : RAt w g (k * sz) (enc x) := by
  rcases RS.cases h.read with ⟨hn, _⟩ | ⟨b, off, c', hv, _, _, _, hr⟩
  · have := (List.getElem?_eq_some_iff.1 hx).1; omega
  · simp only [Value.slice.injEq, Option.some.injEq, Addr.mk.injEq, and_true, true_and] at hv
    obtain ⟨⟨rfl, rfl⟩, _⟩ := hv
    have := RAt.elem hl hr hx
    rwa [Nat.zero_add] at this
/-- An empty row, new made. -/
theorem own_made0 {w : World} {base k sz : Nat} {e : TypeId} (hk : k = w.heap.size) (hb : base ≤ k) : (w.alloc (.cells #[] e)).ownsRow base e sz (.slice (some ⟨k, 0, none⟩) 0 0) 0 [] := by
  subst hk
  exact World.ownsRow_made w #[] 0 hb (by omega) (by simp)
end Go.Proofs.Ytcbknmnlgoeniaa
/- The pure machine, seen from the laws: what came in, and what is given back. -/
namespace Go.Proofs.Ytcbknmnlgoeniaa
open Go.RowKit

def chunk {α : Type} (sz : Nat) : Nat → List α → List (List α)
  | 0, _ => []
  | n + 1, l => l.take sz :: chunk sz n (l.drop sz)
theorem chunk_len {α : Type} (sz : Nat) : ∀ (n : Nat) (l : List α), (chunk sz n l).length = n
  | 0, _ => rfl
  | n + 1, l => by simp [chunk, chunk_len sz n]
theorem chunk_get {α : Type} {sz : Nat} : ∀ {n : Nat} {l : List α} {i : Nat} {row : List α}, (chunk sz n l)[i]? = some row → row = (l.drop (i * sz)).take sz
  | 0, _, i, row, h => by simp [chunk] at h
  | n + 1, l, 0, row, h => by simp [chunk] at h; simp [h]
  | n + 1, l, i + 1, row, h => by
    have := chunk_get (n := n) (l := l.drop sz) (i := i) (row := row) (by simpa [chunk] using h)
    rw [this, List.drop_drop, Nat.add_mul, Nat.one_mul, Nat.add_comm]
theorem chunk_flat {α β : Type} {sz : Nat} {g : α → List β} (hl : ∀ x, (g x).length = sz) : ∀ (xs : List α), chunk sz xs.length (xs.flatMap g) = xs.map g
  | [] => rfl
  | x :: xs => by
    simp only [List.length_cons, chunk, List.flatMap_cons, List.map_cons]
    rw [List.take_left' (hl x), List.drop_left' (hl x), chunk_flat hl xs]
mutual
def toPV : D → PV
  | .int n => .val (.int .i64 n)
  | .bool b => .val (.bool b)
  | .str s => .val (.string s)
  | .sl _ sz n es => .sl sz (chunk sz n (toPVL es))
def toPVL : List D → List PV
  | [] => []
  | d :: ds => toPV d :: toPVL ds
end
theorem toPVL_map (l : List D) : toPVL l = l.map toPV := by
  induction l with
  | nil => simp [toPVL]
  | cons d l ih => simp [toPVL, ih]
theorem toPV_slD {α : Type} {e : TypeId} {sz : Nat} {enc : α → List D} (hl : ∀ x, (enc x).length = sz) (xs : List α) : toPV (slD e sz enc xs) = .sl sz (xs.map fun x => toPVL (enc x)) := by
  unfold slD
  rw [toPV, toPVL_map]
  have : (xs.flatMap enc).map toPV = xs.flatMap fun x => toPVL (enc x) := by
    rw [List.map_flatMap]
    congr 1
    funext x
    rw [toPVL_map]
  rw [this, chunk_flat (fun x => by rw [toPVL_map, List.length_map, hl])]
theorem Rds.oneC {w : World} {ds : List D} {vs : List Value} (h : Rds w ds vs) : ∀ v ∈ vs, v.oneCell' = true := by
  induction h with
  | nil => simp
  | int n _ ih => intro v hv; rcases List.mem_cons.1 hv with rfl | hv; rfl; exact ih v hv
  | bool n _ ih => intro v hv; rcases List.mem_cons.1 hv with rfl | hv; rfl; exact ih v hv
  | str n _ ih => intro v hv; rcases List.mem_cons.1 hv with rfl | hv; rfl; exact ih v hv
  | nilS _ _ _ _ _ ih => intro v hv; rcases List.mem_cons.1 hv with rfl | hv; rfl; exact ih v hv
  | sl _ _ _ _ _ _ _ _ _ _ _ _ _ _ _ _ ih => intro v hv; rcases List.mem_cons.1 hv with rfl | hv; rfl; exact ih v hv
theorem Rds.vr {w : World} {ds : List D} {vs : List Value} (h : Rds w ds vs) : ∀ (hm : Home) (i : Nat) (pv : PV) (v : Value), (toPVL ds)[i]? = some pv → vs[i]? = some v → VR (memW w) hm pv v := by
  induction h with
  | nil => intro hm i pv v a; simp [toPVL] at a
  | int n _ ih => intro hm i pv v a b; cases i with
    | zero => simp [toPVL, toPV] at a b; subst a; subst b; exact .val _
    | succ i => exact ih hm i pv v (by simpa [toPVL] using a) (by simpa using b)
  | bool n _ ih => intro hm i pv v a b; cases i with
    | zero => simp [toPVL, toPV] at a b; subst a; subst b; exact .val _
    | succ i => exact ih hm i pv v (by simpa [toPVL] using a) (by simpa using b)
  | str n _ ih => intro hm i pv v a b; cases i with
    | zero => simp [toPVL, toPV] at a b; subst a; subst b; exact .val _
    | succ i => exact ih hm i pv v (by simpa [toPVL] using a) (by simpa using b)
  | nilS e sz o cap _ ih => intro hm i pv v a b; cases i with
    | zero => simp [toPVL, toPV, chunk] at a b; subst a; subst b; exact .sl0 _ _ _
    | succ i => exact ih hm i pv v (by simpa [toPVL] using a) (by simpa using b)
  | @sl ds vs es us e sz n b off cap h1 h2 h3 h4 h5 h6 h7 h8 _ ih1 ih2 =>
    intro hm i pv v a d
    cases i with
    | succ i => exact ih2 hm i pv v (by simpa [toPVL] using a) (by simpa using d)
    | zero =>
      simp only [toPVL, toPV, List.getElem?_cons_zero, Option.some.injEq] at a d
      subst a
      subst d
      have hcl := chunk_len sz n (toPVL es)
      have hpl : (toPVL es).length = n * sz := by rw [toPVL_map, List.length_map, h5]
      have at' : ∀ (i j : Nat) (row : List PV) (pv : PV), (chunk sz n (toPVL es))[i]? = some row → row[j]? = some pv → (toPVL es)[i * sz + j]? = some pv ∧ ∃ u, us[i * sz + j]? = some u := fun i j row pv a d => by
        have hi : i < n := by have := (List.getElem?_eq_some_iff.1 a).1; omega
        have hr := chunk_get a
        have hj : j < sz := by have := (List.getElem?_eq_some_iff.1 d).1; rw [hr] at this; simp at this; omega
        rw [hr, List.getElem?_take, if_pos hj, List.getElem?_drop] at d
        have hm' : (i + 1) * sz ≤ n * sz := Nat.mul_le_mul_right _ hi
        rw [Nat.add_mul] at hm'
        exact ⟨d, us[i * sz + j]'(by omega), List.getElem?_eq_getElem _⟩
      have key := VR.sl (M := memW w) (h := hm) sz (chunk sz n (toPVL es)) b off cap (fun i j => us.getD (i * sz + j) undef) (by omega) (by omega) h3
        (fun row hr => by
          obtain ⟨i, hi, e⟩ := List.getElem_of_mem hr
          have := chunk_get (row := row) (i := i) (by rw [List.getElem?_eq_getElem hi, e])
          have hi' : i < n := by omega
          have hm' : (i + 1) * sz ≤ n * sz := Nat.mul_le_mul_right _ hi'
          rw [Nat.add_mul] at hm'
          rw [this]
          simp
          omega)
        (fun i j row pv a d => by
          obtain ⟨q1, u, q2⟩ := at' i j row pv a d
          rw [List.getD_eq_getElem?_getD, q2, Nat.add_assoc]
          exact memW_of (h7 _ u q2) (h8.oneC u (List.mem_of_getElem? q2)))
        (fun i j row pv a d => by
          obtain ⟨q1, u, q2⟩ := at' i j row pv a d
          rw [List.getD_eq_getElem?_getD, q2]
          exact ih1 _ _ pv u q1 q2)
      rw [hcl] at key
      exact key
theorem Rds.agg {w : World} {ds : List D} {vs : List Value} (h : Rds w ds vs) (hm : Home) : VR (memW w) hm (.agg (toPVL ds)) (.agg vs.toArray) :=
  .agg _ _ (by rw [toPVL_map, List.length_map]; simpa using h.len) fun i pv v a b => h.vr hm i pv v a (by simpa using b)
theorem RL.pv {α : Type} {e : TypeId} {sz : Nat} {enc : α → List D} {w : World} {v : Value} {xs : List α} (h : RL e sz enc w v xs) (hl : ∀ x, (enc x).length = sz) (hm : Home) : VR (memW w) hm (.sl sz (xs.map fun x => toPVL (enc x))) v := by
  have := Rds.vr h hm 0 (toPV (slD e sz enc xs)) v rfl rfl
  rw [toPV_slD hl] at this
  exact this
/-- A contract over the pure machine, in a world: the arguments are data that came in. -/
theorem PCalls.use {P : Program} {f : FuncId} {args : List PV} {R : PV → Hp → Prop} (h : PCalls P f args [] R) {w : World} (hg : Glob (memW w)) {vs : Array Value} (hv : CR (memW w) (fun _ => none) args vs) :
    Calls P f vs w fun e w' => ∃ v M' h' pv H', e = .returned v ∧ R pv H' ∧ VR M' h' pv v ∧ Inv M' h' H' w' ∧ Ext w w' ∧ ∀ k, Homes h' H' k → w.heap.size ≤ k :=
  (h (memW w) (fun _ => none) w vs (inv_memW w hg) hv).mono fun e w' ⟨v, M', h', pv, H', a, b, c, s⟩ => ⟨v, M', h', pv, H', a, b, c, s.inv, ChgS.ext ⟨s.chg.os, s.chg.tape, s.chg.output, s.chg.size, fun k hk hn => s.chg.block k hk fun ⟨b, B, v, q, _⟩ => by simp at q⟩, fun k hk => (s.sub k hk).resolve_left fun ⟨b, B, v, q, _⟩ => by simp at q⟩
theorem toPV_scal {d : D} (hs : scal d = true) : toPV d = .val (valD d) := by
  cases d <;> first | rfl | simp [scal] at hs
/-- A row of one's own whose elements hold no memory, as the laws see it. -/
theorem Inv.row_own {M : Mem} {h : Home} {H : Hp} {w : World} (I : Inv M h H w) {α : Type} {enc : α → List D} {sz : Nat} (hl : ∀ x, (enc x).length = sz) (hz : 0 < sz) (hs : ∀ x, (enc x).all scal = true) {b : Nat} {e : TypeId} {xs : List α} {v : Value} (hH : H[b]? = some (some (.row e sz (xs.map fun x => toPVL (enc x))))) (hv : h b = some v) :
    w.ownsRow 0 e sz v xs.length ((xs.flatMap enc).map valD) := by
  obtain ⟨v0, q0, -, us, q1, q2, q3, q4⟩ := I.blk b _ hH
  rw [hv] at q0
  cases q0
  have hu : us = (xs.flatMap enc).map valD := by
    have hlen : ((xs.flatMap enc).map valD).length = xs.length * sz := by rw [List.length_map, flatMap_len' hl]
    have hul : us.length = xs.length * sz := by have := q1.1; simpa using this
    apply List.ext_getElem?
    intro o
    by_cases ho : o < xs.length * sz
    · obtain ⟨i, j, rfl, hj⟩ := divide (o := o) hz
      have hi : i < xs.length := by
        rcases Nat.lt_or_ge i xs.length with q | q
        · exact q
        · have := Nat.mul_le_mul_right sz q; omega
      have hd : (enc xs[i])[j]? = some ((enc xs[i])[j]'(by rw [hl]; exact hj)) := List.getElem?_eq_getElem _
      have hfl : (xs.flatMap enc)[i * sz + j]? = some ((enc xs[i])[j]'(by rw [hl]; exact hj)) := by
        obtain ⟨l, r, e1, e2⟩ := flat_split hl xs i xs[i] (List.getElem?_eq_getElem hi)
        rw [e1, List.getElem?_append_right (by omega), e2, Nat.add_sub_cancel_left, List.getElem?_append_left (by rw [hl]; exact hj)]
        exact hd
      have hsc : scal ((enc xs[i])[j]'(by rw [hl]; exact hj)) = true := List.all_eq_true.1 (hs xs[i]) _ (List.getElem_mem _)
      have hu' : us[i * sz + j]? = some (us[i * sz + j]'(by omega)) := List.getElem?_eq_getElem _
      have := q4 i j (toPVL (enc xs[i])) (.val (valD ((enc xs[i])[j]'(by rw [hl]; exact hj)))) _ (by rw [List.getElem?_map, List.getElem?_eq_getElem hi]; rfl) (by rw [toPVL_map, List.getElem?_map, hd, ← toPV_scal hsc]; rfl) hu'
      rw [hu', vr_val this, List.getElem?_map, hfl]
      rfl
    · rw [List.getElem?_eq_none (by omega), List.getElem?_eq_none (by omega)]
  rw [← hu]
  have := q1
  rw [List.length_map] at this
  exact this
theorem Inv.row_obj {M : Mem} {h : Home} {H : Hp} {w : World} (I : Inv M h H w) {α : Type} {enc : α → List D} {sz : Nat} (hl : ∀ x, (enc x).length = sz) (hz : 0 < sz) (hs : ∀ x, (enc x).all scal = true) {b : Nat} {e : TypeId} {xs : List α} {v : Value} {lo : Nat} (hH : H[b]? = some (some (.row e sz (xs.map fun x => toPVL (enc x))))) (hv : h b = some v) (hlo : ∀ k, Homes h H k → lo ≤ k) :
    Obj w lo w.heap.size [slD e sz enc xs] [v] := by
  have h1 := I.row_own hl hz hs hH hv
  refine Obj.of_row (own_zero h1 fun k hk => hlo k ⟨b, _, v, hH, hv, ?_⟩) (by
    rw [List.all_eq_true]
    intro d hd
    obtain ⟨x, _, hx⟩ := List.mem_flatMap.1 hd
    exact List.all_eq_true.1 (hs x) d hx)
  obtain ⟨v0, q0, ⟨o, n, c, hv0⟩, _⟩ := I.blk b _ hH
  rw [hv] at q0
  cases q0
  rw [hblk_own hv0]
  exact hk
end Go.Proofs.Ytcbknmnlgoeniaa
/- The pure machine, seen from the laws: what is given back lies in memory of its own. -/
namespace Go.Proofs.Ytcbknmnlgoeniaa
open Go.RowKit

/-- Values of the pure machine that are data, and the blocks of one's own that they take. -/
inductive OwD (H : Hp) : List PV → List D → List Nat → Prop
  | nil : OwD H [] [] []
  | int {ps ds B} (n : Int) : OwD H ps ds B → OwD H (.val (.int .i64 n) :: ps) (.int n :: ds) B
  | bool {ps ds B} (n : Bool) : OwD H ps ds B → OwD H (.val (.bool n) :: ps) (.bool n :: ds) B
  | str {ps ds B} (n : ByteArray) : OwD H ps ds B → OwD H (.val (.string n) :: ps) (.str n :: ds) B
  | nilS {ps ds B} (e : TypeId) (sz : Nat) : OwD H ps ds B → OwD H (.val (.slice none 0 0) :: ps) (.sl e sz 0 [] :: ds) B
  | own {ps ds B es ds' B'} (b : Nat) (e : TypeId) (sz : Nat) : 0 < sz → H[b]? = some (some (.row e sz es)) → OwD H es.flatten ds' B' → OwD H ps ds B → OwD H (.own b :: ps) (.sl e sz es.length ds' :: ds) (b :: (B' ++ B))
theorem OwD.append {H : Hp} {ps qs : List PV} {ds es : List D} {B C : List Nat} (h : OwD H ps ds B) (k : OwD H qs es C) : OwD H (ps ++ qs) (ds ++ es) (B ++ C) := by
  induction h with
  | nil => exact k
  | int n _ ih => exact .int n ih
  | bool n _ ih => exact .bool n ih
  | str n _ ih => exact .str n ih
  | nilS e sz _ ih => exact .nilS e sz ih
  | own b e sz h1 h2 h3 _ _ ih =>
    have := OwD.own b e sz h1 h2 h3 ih
    simpa [List.append_assoc] using this
theorem OwD.flat {H : Hp} : ∀ {ds : List D}, ds.all scal = true → OwD H (toPVL ds) ds []
  | [], _ => .nil
  | .int n :: ds, h => .int n (OwD.flat (by simpa [scal] using h))
  | .bool n :: ds, h => .bool n (OwD.flat (by simpa [scal] using h))
  | .str n :: ds, h => .str n (OwD.flat (by simpa [scal] using h))
  | .sl .. :: ds, h => by simp [scal] at h
/-- A row of elements that hold no memory. -/
theorem OwD.rows {H : Hp} {α : Type} {enc : α → List D} {p : α → List PV} (hp : ∀ x, p x = toPVL (enc x)) (hs : ∀ x, (enc x).all scal = true) : ∀ (xs : List α), OwD H (xs.map p).flatten (xs.flatMap enc) []
  | [] => .nil
  | x :: xs => by
    rw [List.map_cons, List.flatten_cons, List.flatMap_cons, hp]
    exact (OwD.flat (hs x)).append (OwD.rows hp hs xs)
theorem ows_of {M : Mem} {h : Home} {H : Hp} {w : World} (I : Inv M h H w) {ps : List PV} {ds : List D} {B : List Nat} (o : OwD H ps ds B) : ∀ (vs : List Value), vs.length = ps.length → (∀ (i : Nat) (pv : PV) (v : Value), ps[i]? = some pv → vs[i]? = some v → VR M h pv v) → B.Nodup →
    ∃ F, Ows w ds vs F ∧ F.Nodup ∧ ∀ k ∈ F, ∃ b ∈ B, ∃ blk v, H[b]? = some (some blk) ∧ h b = some v ∧ hblk v = some k := by
  induction o with
  | nil => intro vs hl _ _; cases vs with | nil => exact ⟨[], .nil, List.nodup_nil, by simp⟩ | cons => simp at hl
  | int n _ ih =>
    intro vs hl hv hB
    cases vs with
    | nil => simp at hl
    | cons v vs =>
      have e := vr_val (hv 0 _ _ rfl rfl)
      subst e
      obtain ⟨F, f1, f2, f3⟩ := ih vs (by simpa using hl) (fun i pv v a b => hv (i + 1) pv v (by simpa using a) (by simpa using b)) hB
      exact ⟨F, .int n f1, f2, f3⟩
  | bool n _ ih =>
    intro vs hl hv hB
    cases vs with
    | nil => simp at hl
    | cons v vs =>
      have e := vr_val (hv 0 _ _ rfl rfl)
      subst e
      obtain ⟨F, f1, f2, f3⟩ := ih vs (by simpa using hl) (fun i pv v a b => hv (i + 1) pv v (by simpa using a) (by simpa using b)) hB
      exact ⟨F, .bool n f1, f2, f3⟩
  | str n _ ih =>
    intro vs hl hv hB
    cases vs with
    | nil => simp at hl
    | cons v vs =>
      have e := vr_val (hv 0 _ _ rfl rfl)
      subst e
      obtain ⟨F, f1, f2, f3⟩ := ih vs (by simpa using hl) (fun i pv v a b => hv (i + 1) pv v (by simpa using a) (by simpa using b)) hB
      exact ⟨F, .str n f1, f2, f3⟩
  | nilS e sz _ ih =>
    intro vs hl hv hB
    cases vs with
    | nil => simp at hl
    | cons v vs =>
      have e := vr_val (hv 0 _ _ rfl rfl)
      subst e
      obtain ⟨F, f1, f2, f3⟩ := ih vs (by simpa using hl) (fun i pv v a b => hv (i + 1) pv v (by simpa using a) (by simpa using b)) hB
      refine ⟨F, ?_, f2, f3⟩
      have := Ows.sl (w := w) e sz 0 (.slice none 0 0) (us := []) (es := []) (G := []) ⟨by simp, .inl ⟨rfl, rfl⟩⟩ .nil f1
      simpa [Value.ownBlock] using this
  | @own ps ds B es ds' B' b e sz hz hH _ _ ih1 ih2 =>
    intro vs hl hv hB
    cases vs with
    | nil => simp at hl
    | cons v vs =>
      have r := hv 0 _ _ rfl rfl
      cases r with
      | own _ oo n c hb =>
        obtain ⟨v0, q0, -, us, q1, q2, q3, q4⟩ := I.blk b _ hH
        rw [hb] at q0
        cases q0
        obtain ⟨hbn, hB2⟩ := List.nodup_cons.1 hB
        obtain ⟨hB', hBB, hdis⟩ := List.nodup_append.1 hB2
        have hfl := flatten_len q2
        obtain ⟨G, g1, g2, g3⟩ := ih1 us (by rw [q1.1, hfl]) (fun o pv u a d => by
          have ho : o < es.length * sz := by rw [← hfl]; exact (List.getElem?_eq_some_iff.1 a).1
          obtain ⟨i, j, rfl, hj⟩ := divide (o := o) hz
          have hi : i < es.length := by
            rcases Nat.lt_or_ge i es.length with q | q
            · exact q
            · have := Nat.mul_le_mul_right sz q; omega
          have hrow : es[i]? = some es[i] := List.getElem?_eq_getElem hi
          have hcell : (es[i])[j]? = some ((es[i])[j]'(by rw [q2 _ (List.getElem_mem hi)]; exact hj)) := List.getElem?_eq_getElem _
          have := flatten_get q2 i j _ _ hrow hcell
          rw [this] at a
          cases a
          exact q4 i j _ _ u hrow hcell d) hB'
        obtain ⟨F, f1, f2, f3⟩ := ih2 vs (by simpa using hl) (fun i pv v a b => hv (i + 1) pv v (by simpa using a) (by simpa using b)) hBB
        have ob : ∀ k, (Value.slice oo n c).ownBlock = some k → hblk (Value.slice oo n c) = some k := fun k hk => by rw [hblk_own rfl]; exact hk
        refine ⟨_, .sl e sz es.length _ q1 g1 f1, ?_, fun k hk => ?_⟩
        · rw [List.nodup_append]
          refine ⟨by cases (Value.slice oo n c).ownBlock <;> simp, ?_, fun x hx y hy e => ?_⟩
          · rw [List.nodup_append]
            refine ⟨g2, f2, fun x hx y hy e => ?_⟩
            subst e
            obtain ⟨b1, m1, blk1, v1, a1, a2, a3⟩ := g3 x hx
            obtain ⟨b2, m2, blk2, v2, c1, c2, c3⟩ := f3 x hy
            have := I.inj b1 b2 blk1 blk2 v1 v2 x a1 c1 a2 c2 a3 c3
            subst this
            exact hdis b1 m1 b1 m2 rfl
          · subst e
            have hx' := ob x (by simpa using hx)
            rcases List.mem_append.1 hy with m | m
            · obtain ⟨b1, m1, blk1, v1, a1, a2, a3⟩ := g3 x m
              have := I.inj b1 b blk1 _ v1 _ x a1 hH a2 hb a3 hx'
              subst this
              exact hbn (List.mem_append_left _ m1)
            · obtain ⟨b1, m1, blk1, v1, a1, a2, a3⟩ := f3 x m
              have := I.inj b1 b blk1 _ v1 _ x a1 hH a2 hb a3 hx'
              subst this
              exact hbn (List.mem_append_right _ m1)
        · rcases List.mem_append.1 hk with m | m
          · exact ⟨b, by simp, _, _, hH, hb, ob k (by simpa using m)⟩
          · rcases List.mem_append.1 m with m | m
            · obtain ⟨b1, m1, q⟩ := g3 k m
              exact ⟨b1, List.mem_cons_of_mem _ (List.mem_append_left _ m1), q⟩
            · obtain ⟨b1, m1, q⟩ := f3 k m
              exact ⟨b1, List.mem_cons_of_mem _ (List.mem_append_right _ m1), q⟩
theorem obj_of {M : Mem} {h : Home} {H : Hp} {w : World} (I : Inv M h H w) {ps : List PV} {ds : List D} {B : List Nat} (o : OwD H ps ds B) (hB : nodupR B = true) {lo : Nat} (hlo : ∀ k, Homes h H k → lo ≤ k) {vs : List Value} (hl : vs.length = ps.length) (hv : ∀ (i : Nat) (pv : PV) (v : Value), ps[i]? = some pv → vs[i]? = some v → VR M h pv v) :
    Obj w lo w.heap.size ds vs := by
  obtain ⟨F, f1, f2, f3⟩ := ows_of I o vs hl hv (nodupR_ok hB)
  refine ⟨F, f1, f2, fun k hk => ?_⟩
  obtain ⟨b, _, blk, v, q1, q2, q3⟩ := f3 k hk
  exact ⟨hlo k ⟨b, blk, v, q1, q2, q3⟩, I.home_lt ⟨b, blk, v, q1, q2, q3⟩⟩
end Go.Proofs.Ytcbknmnlgoeniaa
/- Places in lists: plain facts. -/
namespace Go.Proofs.Ytcbknmnlgoeniaa

/-- The first place of a list at which a test says yes, or -1. -/
def idx {α : Type} (p : α → Bool) : List α → Int
  | [] => -1
  | x :: xs => if p x then 0 else if idx p xs < 0 then -1 else idx p xs + 1
theorem idx_ge {α : Type} (p : α → Bool) (xs : List α) : -1 ≤ idx p xs ∧ idx p xs < xs.length := by
  induction xs with
  | nil => simp [idx]
  | cons x xs ih => unfold idx; simp only [List.length_cons]; split <;> (try split) <;> omega
theorem idx_none {α : Type} {p : α → Bool} : ∀ {xs : List α}, (∀ (i : Nat) x, xs[i]? = some x → p x = false) → idx p xs = -1
  | [], _ => rfl
  | x :: xs, h => by
    have h1 := h 0 x rfl
    have h2 := idx_none (xs := xs) fun i y hy => h (i + 1) y (by simpa using hy)
    unfold idx
    simp [h1, h2]
theorem idx_some {α : Type} {p : α → Bool} : ∀ {xs : List α} {k : Nat} {x : α}, xs[k]? = some x → p x = true → (∀ (i : Nat) y, i < k → xs[i]? = some y → p y = false) → idx p xs = k
  | x :: xs, 0, y, h1, h2, _ => by simp at h1; subst h1; simp [idx, h2]
  | x :: xs, k + 1, y, h1, h2, h3 => by
    have e1 := h3 0 x (by omega) rfl
    have e2 := idx_some (xs := xs) (k := k) (x := y) (by simpa using h1) h2 fun i z hi hz => h3 (i + 1) z (by omega) (by simpa using hz)
    unfold idx
    rw [e1, e2]
    simp
    omega
  | [], _, _, h1, _, _ => by simp at h1
theorem idx_get {α : Type} {p : α → Bool} : ∀ {xs : List α}, 0 ≤ idx p xs → ∃ x, xs[(idx p xs).toNat]? = some x ∧ p x = true ∧ ∀ (i : Nat) y, i < (idx p xs).toNat → xs[i]? = some y → p y = false
  | [], h => by simp [idx] at h
  | x :: xs, h => by
    unfold idx at h ⊢
    by_cases hx : p x
    · simp [hx]
    · have hx' : p x = false := by simpa using hx
      by_cases h0 : idx p xs < 0
      · simp [hx', h0] at h
      · obtain ⟨y, h1, h2, h3⟩ := idx_get (p := p) (xs := xs) (by omega)
        have e : (idx p xs + 1).toNat = (idx p xs).toNat + 1 := by omega
        simp only [hx', Bool.false_eq_true, if_false, if_neg h0]
        rw [e]
        refine ⟨y, by simpa using h1, h2, fun i z hi hz => ?_⟩
        cases i with
        | zero => simp at hz; subst hz; exact hx'
        | succ i => exact h3 i z (by omega) (by simpa using hz)
/-- No place in front of k. -/
def noneTo {α : Type} (p : α → Bool) (xs : List α) (k : Nat) : Prop := ∀ (i : Nat) y, i < k → xs[i]? = some y → p y = false
theorem noneTo_zero {α : Type} {p : α → Bool} {xs : List α} : noneTo p xs 0 := fun i _ h => by omega
theorem noneTo_succ {α : Type} {p : α → Bool} {xs : List α} {k : Nat} {x : α} (h : noneTo p xs k) (hx : xs[k]? = some x) (hp : p x = false) : noneTo p xs (k + 1) := fun i y hi hy => by
  by_cases e : i = k
  · subst e; rw [hx] at hy; cases hy; exact hp
  · exact h i y (by omega) hy
theorem noneTo_end {α : Type} {p : α → Bool} {xs : List α} (h : noneTo p xs xs.length) : idx p xs = -1 := idx_none fun i x hx => h i x (List.getElem?_eq_some_iff.1 hx).1 hx
/-- All places in front of k pass. -/
def allTo (g : Nat → Bool) (k : Nat) : Prop := ∀ i, i < k → g i = true
theorem allTo_zero {g : Nat → Bool} : allTo g 0 := fun i h => by omega
theorem allTo_succ {g : Nat → Bool} {k : Nat} (h : allTo g k) (hk : g k = true) : allTo g (k + 1) := fun i hi => by
  by_cases e : i = k
  · subst e; exact hk
  · exact h i (by omega)
def allN (g : Nat → Bool) (n : Nat) : Bool := (List.range n).all g
theorem allTo_end {g : Nat → Bool} {n : Nat} (h : allTo g n) : allN g n = true := by
  unfold allN
  rw [List.all_eq_true]
  exact fun i hi => h i (List.mem_range.1 hi)
theorem allN_no {g : Nat → Bool} {n k : Nat} (hk : k < n) (h : g k = false) : allN g n = false := by
  unfold allN
  rw [List.all_eq_false]
  exact ⟨k, List.mem_range.2 hk, by simp [h]⟩
theorem allN_get {g : Nat → Bool} {n k : Nat} (h : allN g n = true) (hk : k < n) : g k = true := by
  unfold allN at h
  rw [List.all_eq_true] at h
  exact h k (List.mem_range.2 hk)
end Go.Proofs.Ytcbknmnlgoeniaa

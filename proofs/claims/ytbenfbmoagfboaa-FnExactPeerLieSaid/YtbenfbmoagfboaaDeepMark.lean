/- Data of any depth: marks, rows that are filled, elements that are appended. -/
import Derived.Test.YtbenfbmoagfboaaDeepCell
import Derived.OwnWalk
namespace Go.Proofs.Ytbenfbmoagfboaa
open Go.RowKit

def mid (es : List D) (k : Int) (o : Nat) : List D := mk (es.take o) k ++ es.drop o
theorem mid_zero (es : List D) (k : Int) : mid es k 0 = es := by simp [mid, mk]
theorem mid_end (es : List D) (k : Int) : mid es k es.length = mk es k := by simp [mid]
theorem mid_len (es : List D) (k : Int) (o : Nat) : (mid es k o).length = es.length := by simp [mid, mk_len]; omega
theorem mid_get {es : List D} {k : Int} {o : Nat} {d : D} (h : es[o]? = some d) : mid es k o = mk (es.take o) k ++ ([d] ++ es.drop (o + 1)) := by
  unfold mid
  rw [← (List.getElem?_eq_some_iff.1 h).2]
  simp
theorem mid_succ {es : List D} {k : Int} {o : Nat} {d : D} (h : es[o]? = some d) : mid es k (o + 1) = mk (es.take o) k ++ (mk [d] (k + cnt (es.take o)) ++ es.drop (o + 1)) := by
  have ho : o < es.length := (List.getElem?_eq_some_iff.1 h).1
  have e : es.take (o + 1) = es.take o ++ [d] := by rw [List.take_succ_eq_append_getElem ho, (List.getElem?_eq_some_iff.1 h).2]
  unfold mid
  rw [e, mk_append, List.append_assoc]
theorem cnt_succ {es : List D} {o : Nat} {d : D} (h : es[o]? = some d) : cnt (es.take (o + 1)) = cnt (es.take o) + cnt [d] := by
  have ho : o < es.length := (List.getElem?_eq_some_iff.1 h).1
  rw [List.take_succ_eq_append_getElem ho, (List.getElem?_eq_some_iff.1 h).2, cnt_append]
theorem cnt_take_le (es : List D) (o : Nat) : cnt (es.take o) ≤ cnt es := by
  have := cnt_append (es.take o) (es.drop o)
  rw [List.take_append_drop] at this
  omega


/-- The counter in front of cell o. -/
def Cn (es : List D) (k0 : Int) (o : Nat) (c : Int) : Prop := c = k0 + cnt (es.take o)
theorem Cn.zero {es : List D} {k0 : Int} : Cn es k0 0 k0 := by simp [Cn, cnt]
theorem Cn.one {es : List D} {k0 c : Int} {o : Nat} {d : D} (h : Cn es k0 o c) (hd : es[o]? = some d) (hs : scal d = true) : Cn es k0 (o + 1) (c + 1) := by
  unfold Cn at *
  have e : cnt [d] = 1 := by cases d <;> simp [cnt, scal] at *
  rw [cnt_succ hd, e]
  omega
theorem Cn.sl {es es' : List D} {k0 c : Int} {o sz n : Nat} {e : TypeId} (h : Cn es k0 o c) (hd : es[o]? = some (.sl e sz n es')) : Cn es k0 (o + 1) (c + cnt es') := by
  unfold Cn at *
  have e : cnt [.sl e sz n es'] = cnt es' := by simp [cnt]
  rw [cnt_succ hd, e]
  omega
theorem Cn.bd {es : List D} {k0 c B : Int} {o : Nat} (h : Cn es k0 o c) (h0 : 0 ≤ k0) (h1 : k0 + cnt es ≤ B) : 0 ≤ c ∧ c ≤ B := by
  unfold Cn at h
  have := cnt_take_le es o
  omega
theorem Cn.last {es : List D} {k0 c : Int} {o : Nat} (h : Cn es k0 o c) (ho : o = es.length) : c = k0 + cnt es := by
  unfold Cn at h
  rw [ho, List.take_length] at h
  exact h
theorem flat_at {α β : Type} {enc : α → List β} {sz k j : Nat} {xs : List α} {x : α} {d : β} (hl : ∀ x, (enc x).length = sz) (hx : xs[k]? = some x) (hd : (enc x)[j]? = some d) : (xs.flatMap enc)[k * sz + j]? = some d := by
  obtain ⟨l, r, e1, e2⟩ := flat_split hl xs k x hx
  have hj : j < (enc x).length := (List.getElem?_eq_some_iff.1 hd).1
  rw [e1, List.getElem?_append_right (by omega), e2, Nat.add_sub_cancel_left, List.getElem?_append_left hj, hd]
theorem flat_len {α β : Type} {enc : α → List β} {sz : Nat} (hl : ∀ x, (enc x).length = sz) (xs : List α) : (xs.flatMap enc).length = xs.length * sz := by
  induction xs with
  | nil => simp
  | cons y ys ih => rw [List.flatMap_cons, List.length_append, ih, hl, List.length_cons, Nat.add_mul]; omega
theorem flat_lt {α : Type} {xs : List α} {k j sz : Nat} (h : k < xs.length) (hj : j < sz) : k * sz + j < xs.length * sz := by
  have : (k + 1) * sz ≤ xs.length * sz := Nat.mul_le_mul_right _ h
  rw [Nat.add_mul] at this
  omega
theorem RAt.markRow {α : Type} {w : World} {enc : α → List D} {sz k b off : Nat} {xs : List α} {x : α} {k0 c : Int} (hl : ∀ x, (enc x).length = sz) (h : RAt w b off (mk (xs.flatMap enc) k0)) (hx : xs[k]? = some x) (hc : Cn (xs.flatMap enc) k0 (k * sz) c) : RAt w b (off + k * sz) (mk (enc x) c) := by
  obtain ⟨l, r, e1, e2⟩ := flat_split hl xs k x hx
  have hc' : c = k0 + cnt l := by
    unfold Cn at hc
    rw [hc, e1, ← e2, List.take_left]
  rw [e1, mk_append, mk_append, ← hc'] at h
  have := h.app.2.app.1
  rw [mk_len, e2] at this
  exact this
/-- Of a struct by value: marked in front of cell o. -/
def midT (ds : List D) (k : Int) (o : Nat) : List D := mkT (ds.take o) k ++ ds.drop o
theorem midT_zero {ds : List D} {k : Int} : midT ds k 0 = ds := by simp [midT, mkT]
theorem midT_end {ds : List D} {k : Int} {o : Nat} (h : o = ds.length) : midT ds k o = mkT ds k := by subst h; simp [midT]
theorem mkT_len (a : List D) (k : Int) : (mkT a k).length = a.length := by
  induction a generalizing k with
  | nil => simp [mkT]
  | cons d a ih => cases d <;> simp [mkT, ih]
def CnT (ds : List D) (k0 : Int) (o : Nat) (c : Int) : Prop := c = k0 + cntT (ds.take o)
theorem CnT.zero {es : List D} {k0 : Int} : CnT es k0 0 k0 := by simp [CnT, cntT]
theorem CnT.step {es : List D} {k0 c : Int} {o n : Nat} (h : CnT es k0 o c) : CnT es k0 (o + n) (c + cntT ((es.drop o).take n)) := by
  unfold CnT at *
  rw [List.take_add, cntT_append]
  omega
theorem CnT.last {es : List D} {k0 c : Int} {o : Nat} (h : CnT es k0 o c) (ho : o = es.length) : c = k0 + cntT es := by
  unfold CnT at h
  rw [ho, List.take_length] at h
  exact h
theorem CnT.bd {es : List D} {k0 c B : Int} {o : Nat} (h : CnT es k0 o c) (h0 : 0 ≤ k0) (h1 : k0 + cntT es ≤ B) : 0 ≤ c ∧ c ≤ B := by
  unfold CnT at h
  have h2 := cntT_append (es.take o) (es.drop o)
  rw [List.take_append_drop] at h2
  omega
theorem flat_mkT {ds : List D} (h : ds.all scal = true) (k : Int) : mkT ds k = ds ∧ cntT ds = 0 := by
  induction ds with
  | nil => simp [mkT, cntT]
  | cons d ds ih =>
    rw [List.all_cons, Bool.and_eq_true] at h
    have := ih h.2
    cases d <;> simp [mkT, cntT, this] <;> simp [scal] at h
theorem midT_skip {ds : List D} {k : Int} {o n : Nat} (h : ((ds.drop o).take n).all scal = true) : midT ds k (o + n) = midT ds k o := by
  unfold midT
  rw [List.take_add, mkT_append, (flat_mkT h _).1, ← List.drop_drop, List.append_assoc, List.take_append_drop]
theorem CnT.skip {es : List D} {k0 c : Int} {o n : Nat} (h : CnT es k0 o c) (hs : ((es.drop o).take n).all scal = true) : CnT es k0 (o + n) c := by
  have := h.step (n := n)
  rwa [(flat_mkT hs 0).2, Int.natCast_zero, Int.add_zero] at this
theorem Ows.stepT {w : World} {ds : List D} {vs : List Value} {F : List Nat} {k0 c : Int} {o : Nat} (n : Nat) (h : Ows w (midT ds k0 o) vs F) (hn : F.Nodup) (hl : o + n ≤ ds.length) (hc : CnT ds k0 o c) :
    ∃ Fd, Ows w ((ds.drop o).take n) ((vs.drop o).take n) Fd ∧ Fd.Nodup ∧ (∀ k ∈ Fd, k ∈ F) ∧ ∀ w', Ows w' (mkT ((ds.drop o).take n) c) ((vs.drop o).take n) Fd → Chg Fd w w' → Ows w' (midT ds k0 (o + n)) vs F := by
  have e1 : midT ds k0 o = mkT (ds.take o) k0 ++ (((ds.drop o).take n) ++ ((ds.drop o).drop n)) := by rw [List.take_append_drop]; rfl
  have e2 : midT ds k0 (o + n) = mkT (ds.take o) k0 ++ (mkT ((ds.drop o).take n) c ++ ((ds.drop o).drop n)) := by
    unfold midT
    unfold CnT at hc
    rw [List.take_add, mkT_append, ← hc, List.append_assoc, List.drop_drop]
  rw [e1] at h
  rw [e2]
  obtain ⟨v1, v2, F1, F2, rfl, rfl, k1, k2⟩ := ows_append.1 h
  obtain ⟨v3, v4, F3, F4, rfl, rfl, q1, q2⟩ := ows_append.1 k2
  rw [List.nodup_append, List.nodup_append] at hn
  obtain ⟨_, ⟨n3, _, n34⟩, n13⟩ := hn
  have l1 : v1.length = o := by rw [← k1.len, mkT_len, List.length_take]; omega
  have l3 : v3.length = n := by rw [← q1.len]; simp; omega
  have e3 : ((v1 ++ (v3 ++ v4)).drop o).take n = v3 := by rw [← l1, List.drop_left, ← l3, List.take_left]
  rw [e3]
  refine ⟨F3, q1, n3, fun k hk => by simp [hk], fun w' a1 a2 => ?_⟩
  exact (k1.keep a2 fun k hk h3 => n13 k hk k (by simp [h3]) rfl).append (a1.append (q2.keep a2 fun k hk h3 => n34 k h3 k hk rfl))
theorem Rds.cutT {w : World} {ds : List D} {vs : List Value} {k0 c : Int} {o : Nat} (n : Nat) (h : Rds w (mkT ds k0) vs) (hl : o + n ≤ ds.length) (hc : CnT ds k0 o c) : Rds w (mkT ((ds.drop o).take n) c) ((vs.drop o).take n) := by
  have e1 : mkT ds k0 = mkT (ds.take o) k0 ++ (mkT ((ds.drop o).take n) c ++ mkT ((ds.drop o).drop n) (c + cntT ((ds.drop o).take n))) := by
    unfold CnT at hc
    conv => lhs; rw [← List.take_append_drop o ds, mkT_append, ← hc, ← List.take_append_drop n (ds.drop o), mkT_append]
  rw [e1] at h
  have := h.cut o n
  rw [List.drop_left' (by rw [mkT_len, List.length_take]; omega), List.take_left' (by rw [mkT_len]; simp; omega)] at this
  exact this
section
variable {w w' : World} {F : List Nat} {e : TypeId} {sz n g c : Nat} {es : List D} {k0 kk : Int} {o : Nat}

theorem Ows.cellAt (h : Ows w [.sl e sz n es] [.slice (some ⟨g, 0, none⟩) n c] F) (hn : F.Nodup) (ho : o < es.length) : ∃ u, w.cell? ⟨g, o, none⟩ = some u := by
  obtain ⟨us, G, _, _, _, h1, _, _, h2, _⟩ := h.inside hn
  exact ⟨us[o]'(by rw [← h1.len]; exact ho), h2 o _ (List.getElem?_eq_getElem _)⟩
theorem Ows.frozenAt (h : Ows w [.sl e sz n es] [.slice (some ⟨g, 0, none⟩) n c] F) (hn : F.Nodup) (o : Nat) : w.frozen? ⟨g, o, none⟩ = false := by
  obtain ⟨us, G, _, _, _, _, _, _, _, h2, _⟩ := h.inside hn
  exact h2 o
theorem Ows.gmem (h : Ows w [.sl e sz n es] [.slice (some ⟨g, 0, none⟩) n c] F) (hn : F.Nodup) : g ∈ F := by
  obtain ⟨us, G, rfl, _⟩ := h.inside hn
  simp
theorem Ows.markAny {d d' : D} (h : Ows w [.sl e sz n (mid es k0 o)] [.slice (some ⟨g, 0, none⟩) n c] F) (hn : F.Nodup) (hd : es[o]? = some d) (h1 : scal d = true) (h2 : scal d' = true) (hm : mk [d] (k0 + cnt (es.take o)) = [d']) :
    Ows (w.setCell ⟨g, o, none⟩ (valD d')) [.sl e sz n (mid es k0 (o + 1))] [.slice (some ⟨g, 0, none⟩) n c] F := by
  rw [mid_get hd] at h
  obtain ⟨G1, G2, k1, _, _, _, _, Fr, rv, rfl, k2⟩ := h.put hn (rv' := [valD d']) (ows_flat [d'] (by simp [h2])) rfl (by simp)
  obtain ⟨_, rfl⟩ := k2.flat (by simp [h1])
  rw [mid_succ hd, hm]
  have hl : (mk (es.take o) k0).length = o := by
    rw [mk_len, List.length_take]
    have := (List.getElem?_eq_some_iff.1 hd).1
    omega
  rw [hl] at k1
  exact k1
theorem Ows.markI {a : Int} (h : Ows w [.sl e sz n (mid es k0 o)] [.slice (some ⟨g, 0, none⟩) n c] F) (hn : F.Nodup) (hd : es[o]? = some (.int a)) (hk : Cn es k0 o kk) :
    Ows (w.setCell ⟨g, o, none⟩ (.int .i64 kk)) [.sl e sz n (mid es k0 (o + 1))] [.slice (some ⟨g, 0, none⟩) n c] F :=
  h.markAny hn hd rfl (d' := .int kk) rfl (by unfold Cn at hk; simp [mk, hk])
theorem Ows.markB {a : Bool} (h : Ows w [.sl e sz n (mid es k0 o)] [.slice (some ⟨g, 0, none⟩) n c] F) (hn : F.Nodup) (hd : es[o]? = some (.bool a)) (hk : Cn es k0 o kk) :
    Ows (w.setCell ⟨g, o, none⟩ (.bool (kk % 3 == 0))) [.sl e sz n (mid es k0 (o + 1))] [.slice (some ⟨g, 0, none⟩) n c] F :=
  h.markAny hn hd rfl (d' := .bool (kk % 3 == 0)) rfl (by unfold Cn at hk; simp [mk, hk])
theorem Ows.markT {a : ByteArray} (h : Ows w [.sl e sz n (mid es k0 o)] [.slice (some ⟨g, 0, none⟩) n c] F) (hn : F.Nodup) (hd : es[o]? = some (.str a)) (hk : Cn es k0 o kk) :
    Ows (w.setCell ⟨g, o, none⟩ (.string (mt kk))) [.sl e sz n (mid es k0 (o + 1))] [.slice (some ⟨g, 0, none⟩) n c] F :=
  h.markAny hn hd rfl (d' := .str (mt kk)) rfl (by unfold Cn at hk; simp [mk, hk])
theorem Ows.markN {e' : TypeId} {sz' n' : Nat} {es' : List D} (h : Ows w [.sl e sz n (mid es k0 o)] [.slice (some ⟨g, 0, none⟩) n c] F) (hn : F.Nodup) (hd : es[o]? = some (.sl e' sz' n' es')) (hk : Cn es k0 o kk) :
    ∃ uo uc Fd, w.cell? ⟨g, o, none⟩ = some (.slice uo n' uc) ∧ Ows w [.sl e' sz' n' es'] [.slice uo n' uc] Fd ∧ Fd.Nodup ∧ (∀ k ∈ Fd, k ∈ F) ∧
      ∀ w', Ows w' [.sl e' sz' n' (mk es' kk)] [.slice uo n' uc] Fd → Chg Fd w w' → Ows w' [.sl e sz n (mid es k0 (o + 1))] [.slice (some ⟨g, 0, none⟩) n c] F := by
  rw [mid_get hd] at h
  obtain ⟨us, G, rfl, g1, g2, h1, h2, _, h3, _, h4⟩ := h.inside hn
  obtain ⟨v1, u, v2, Fd, rfl, k1, k2, k3, k4, k5⟩ := h1.focus g2
  obtain ⟨uo, uc, rfl⟩ := RS.val k2.read
  have hl : (mk (es.take o) k0).length = o := by
    rw [mk_len, List.length_take]
    have := (List.getElem?_eq_some_iff.1 hd).1
    omega
  refine ⟨uo, uc, Fd, h3 o _ (by rw [List.getElem?_append_right (by omega), k1, hl]; simp), k2, k3, fun k hk => by simp [k4 k hk], fun w' q1 q2 => ?_⟩
  rw [mid_succ hd]
  have := k5 w' _ q1 q2
  exact h4 w' _ (by unfold Cn at hk; simpa [mk, hk] using this) (q2.mono k4)
end

theorem Ows.val {w : World} {e : TypeId} {sz n : Nat} {es : List D} {v : Value} {F : List Nat} (h : Ows w [.sl e sz n es] [v] F) : (v = .slice none 0 0 ∧ n = 0) ∨ ∃ g c, v = .slice (some ⟨g, 0, none⟩) n c := by
  cases h with
  | sl _ _ _ _ h1 _ _ =>
    rcases h1.2 with h2 | ⟨g, cap, cur, rfl, _⟩
    · exact .inl h2
    · exact .inr ⟨g, cap, rfl⟩
theorem szL_zero {α : Type} {enc : α → List D} (h : ∀ x, szL (enc x) = 0) (xs : List α) : szL (xs.flatMap enc) = 0 := by
  induction xs with
  | nil => simp [szL]
  | cons y ys ih => rw [List.flatMap_cons, szL_append, ih, h]
theorem szL_next {α : Type} {enc : α → List D} {xs : List α} {k : Nat} {x : α} (h : xs[k]? = some x) : szL ((xs.take (k + 1)).flatMap enc) = szL ((xs.take k).flatMap enc) + szL (enc x) := by
  rw [List.take_succ_eq_append_getElem (List.getElem?_eq_some_iff.1 h).1, (List.getElem?_eq_some_iff.1 h).2, List.flatMap_append, szL_append]
  simp
theorem szL_take {α : Type} {enc : α → List D} (xs : List α) (k : Nat) : szL ((xs.take k).flatMap enc) ≤ szL (xs.flatMap enc) := by
  have h := szL_append ((xs.take k).flatMap enc) ((xs.drop k).flatMap enc)
  rw [← List.flatMap_append, List.take_append_drop] at h
  omega
theorem okL_cut {ds : List D} (i n : Nat) (h : okL ds) : okL ((ds.drop i).take n) := by
  rw [← List.take_append_drop i ds, okL_append] at h
  have h2 := h.2
  rw [← List.take_append_drop n (ds.drop i), okL_append] at h2
  exact h2.1
theorem Box.chg {w w' : World} {F : List Nat} {k : Nat} {cs : Array Value} (h : Box w k cs) (hc : Chg F w w') (hk : k ∉ F) : Box w' k cs := by
  have hl := h.lt
  obtain ⟨t, h⟩ := h
  exact ⟨t, (hc.block k hl hk).trans h⟩

theorem Box.afterC {w w' : World} {F : List Nat} {k : Nat} {cs : Array Value} (hc : Chg F w w') (h : Box w k cs) (hk : k ∉ F) : Box w' k cs ∧ (∀ o, w'.cell? ⟨k, o, none⟩ = cs[o]?) ∧ (∀ o, w'.frozen? ⟨k, o, none⟩ = false) ∧ k < w'.heap.size :=
  ⟨h.chg hc hk, (h.chg hc hk).cell, (h.chg hc hk).frozen, (h.chg hc hk).lt⟩
/-- How many marks a list takes, by its size. -/
theorem cnt_list {α : Type} {enc : α → List D} (h : ∀ x, cnt (enc x) ≤ 64 + 64 * szL (enc x)) (xs : List α) : cnt (xs.flatMap enc) ≤ 64 * xs.length + 64 * szL (xs.flatMap enc) := by
  induction xs with
  | nil => simp [cnt]
  | cons y ys ih =>
    rw [List.flatMap_cons, cnt_append, szL_append, List.length_cons]
    have := h y
    omega

/-- A row being filled: k elements, and zeros behind them. -/
def fillE {α : Type} (enc : α → List D) (z : List D) (xs : List α) (k : Nat) : List D := (xs.take k).flatMap enc ++ (List.replicate (xs.length - k) z).flatten
theorem fillE_zero {α : Type} {enc : α → List D} {z : List D} {xs : List α} : fillE enc z xs 0 = (List.replicate xs.length z).flatten := by simp [fillE]
theorem fillE_end {α : Type} {enc : α → List D} {z : List D} {xs : List α} : fillE enc z xs xs.length = xs.flatMap enc := by simp [fillE]
theorem flatten_rep_len (z : List D) (n : Nat) : ((List.replicate n z).flatten).length = n * z.length := by induction n <;> simp_all

section
variable {w w' : World} {lo hi mid : Nat} {e : TypeId} {sz n g c : Nat} {es1 es2 row row' : List D} {rv : List Value}

theorem Obj.put {mid' : Nat} (h : Obj w lo mid [.sl e sz n (es1 ++ (row ++ es2))] [.slice (some ⟨g, 0, none⟩) n c]) (hr : Obj w mid' hi row' rv) (hm : mid ≤ mid') (hh : mid' ≤ hi) (hl : row'.length = row.length) :
    Obj (storeAll w g es1.length rv) lo hi [.sl e sz n (es1 ++ (row' ++ es2))] [.slice (some ⟨g, 0, none⟩) n c] := by
  obtain ⟨F, h1, h2, h3⟩ := h
  obtain ⟨H, k1, k2, k3⟩ := hr
  have hg : g ∉ H := fun hg => by
    have := k3 g hg
    have := h3 g (h1.gmem h2)
    omega
  obtain ⟨G1, G2, q1, q2, q3, q4, q5, _⟩ := h1.put h2 k1 hl hg
  refine ⟨_, q1, ?_, fun k hk => ?_⟩
  · rw [List.nodup_cons] at q4 ⊢
    have q6 := List.nodup_append.1 q4.2
    refine ⟨fun h => ?_, List.nodup_append.2 ⟨q6.1, List.nodup_append.2 ⟨k2, q6.2.1, fun a ha b hb => ?_⟩, fun a ha b hb => ?_⟩⟩
    · simp only [List.mem_append] at h
      rcases h with h | h | h
      · exact q4.1 (by simp [h])
      · exact hg h
      · exact q4.1 (by simp [h])
    · have := k3 a ha; have := h3 b (q3 b hb); omega
    · rcases List.mem_append.1 hb with hb | hb
      · have := k3 b hb; have := h3 a (q2 a ha); omega
      · exact q6.2.2 a ha b hb
  · simp only [List.mem_cons, List.mem_append] at hk
    rcases hk with rfl | hk | hk | hk
    · have := h3 k q5; omega
    · have := h3 k (q2 k hk); omega
    · have := k3 k hk; have := h3 g q5; omega
    · have := h3 k (q3 k hk); omega
theorem Obj.fill {α : Type} {enc : α → List D} {z : List D} {xs : List α} {x : α} {k mid' : Nat} (hl : ∀ x, (enc x).length = sz) (hz : z.length = sz) (h : Obj w lo mid [.sl e sz n (fillE enc z xs k)] [.slice (some ⟨g, 0, none⟩) n c]) (hx : xs[k]? = some x)
    (hr : Obj w mid' hi (enc x) rv) (hm : mid ≤ mid') (hh : mid' ≤ hi) : Obj (storeAll w g (k * sz) rv) lo hi [.sl e sz n (fillE enc z xs (k + 1))] [.slice (some ⟨g, 0, none⟩) n c] := by
  have hk : k < xs.length := (List.getElem?_eq_some_iff.1 hx).1
  have e1 : fillE enc z xs k = (xs.take k).flatMap enc ++ (z ++ (List.replicate (xs.length - (k + 1)) z).flatten) := by
    unfold fillE
    rw [show xs.length - k = (xs.length - (k + 1)) + 1 by omega, List.replicate_succ, List.flatten_cons]
  have e2 : fillE enc z xs (k + 1) = (xs.take k).flatMap enc ++ (enc x ++ (List.replicate (xs.length - (k + 1)) z).flatten) := by
    unfold fillE
    rw [List.take_succ_eq_append_getElem hk, (List.getElem?_eq_some_iff.1 hx).2, List.flatMap_append, List.append_assoc]
    simp
  have e3 : ((xs.take k).flatMap enc).length = k * sz := by
    have : ∀ ys : List α, (ys.flatMap enc).length = ys.length * sz := fun ys => by
      induction ys with
      | nil => simp
      | cons y ys ih => rw [List.flatMap_cons, List.length_append, ih, hl, List.length_cons, Nat.add_mul]; omega
    rw [this, List.length_take, Nat.min_eq_left (Nat.le_of_lt hk)]
  rw [e1] at h
  rw [e2, ← e3]
  exact Obj.put h hr hm hh (by rw [hl, hz])
/-- Zeros read as zeros. -/
theorem ows_made {z : List D} {cs : Array Value} (hz : ∀ w, Ows w z cs.toList []) (hp : 0 < cs.size) (w : World) : ∀ n : Nat, Ows w (List.replicate n z).flatten (madeCells cs (n * cs.size)).toList []
  | 0 => by simp [madeCells]; exact .nil
  | m + 1 => by
    have := (hz w).append (ows_made hz hp w m)
    rw [List.replicate_succ, List.flatten_cons]
    refine cast ?_ this
    congr 1
    apply List.ext_getElem?
    intro i
    by_cases hi : i < cs.size
    · rw [List.getElem?_append_left (by simpa using hi)]
      have : i < (m + 1) * cs.size := by rw [Nat.add_mul]; omega
      simp [madeCells, this, Nat.mod_eq_of_lt hi]
      rw [getElem!_pos cs i hi, Array.getElem?_eq_getElem hi]
    · rw [List.getElem?_append_right (by simpa using Nat.le_of_not_lt hi)]
      by_cases h2 : i < (m + 1) * cs.size
      · have h3 : i - cs.size < m * cs.size := by rw [Nat.add_mul] at h2; omega
        have h4 : (i - cs.size) % cs.size = i % cs.size := by
          conv => rhs; rw [show i = i - cs.size + cs.size by omega]
          simp
        simp [madeCells, h2, h3, h4]
      · have h3 : ¬ i - cs.size < m * cs.size := by rw [Nat.add_mul] at h2; omega
        simp [madeCells, h2, h3]
theorem Obj.made {z : List D} {cs : Array Value} {v : Value} (hz : ∀ w, Ows w z cs.toList []) (hp : cs.size = sz) (hs : 0 < sz) (h : w.ownsRow lo e sz v n (madeCells cs (n * sz)).toList) : Obj w lo w.heap.size [.sl e sz n (List.replicate n z).flatten] [v] := by
  subst hp
  refine ⟨v.ownBlock.toList ++ ([] ++ []), .sl e _ n v (own_zero h (by simp)) (ows_made hz hs w n) .nil, by cases v.ownBlock <;> simp, fun k hk => ?_⟩
  simp only [List.append_nil, Option.mem_toList] at hk
  exact h.lt k hk
end
end Go.Proofs.Ytbenfbmoagfboaa

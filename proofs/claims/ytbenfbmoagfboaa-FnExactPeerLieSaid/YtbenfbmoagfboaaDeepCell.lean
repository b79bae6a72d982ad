/- Data of any depth: cells one by one, stores, marks, appended elements. -/
import Derived.Test.YtbenfbmoagfboaaDeepOwn
namespace Go.Proofs.Ytbenfbmoagfboaa
open Go.RowKit

section
variable {w w' : World} {ds ds' : List D} {vs vs' : List Value} {F G H : List Nat} {b off j : Nat}

theorem Rds.get {d : D} (h : Rds w ds vs) (hd : ds[j]? = some d) : ∃ u, vs[j]? = some u ∧ Rds w [d] [u] := by
  have hj : j < ds.length := (List.getElem?_eq_some_iff.1 hd).1
  have e : ds = ds.take j ++ (d :: ds.drop (j + 1)) := by
    rw [← (List.getElem?_eq_some_iff.1 hd).2, List.getElem_cons_drop, List.take_append_drop]
  rw [e] at h
  obtain ⟨v1, v2, rfl, k1, k2⟩ := rds_append.1 h
  have k3 : Rds w ([d] ++ ds.drop (j + 1)) v2 := k2
  obtain ⟨v3, v4, rfl, q1, _⟩ := rds_append.1 k3
  have hl := k1.len
  have hl3 := q1.len
  match v3, hl3 with
  | [u], _ => exact ⟨u, by rw [List.getElem?_append_right (by simp at hl; omega)]; simp at hl; simp [← hl, Nat.min_eq_left (Nat.le_of_lt hj)], q1⟩
theorem Rds.tail {d : D} {v : Value} (h : Rds w (d :: ds) (v :: vs)) : Rds w ds vs ∧ Rds w [d] [v] := by
  have h' : Rds w ([d] ++ ds) (v :: vs) := h
  obtain ⟨v1, v2, e, k1, k2⟩ := rds_append.1 h'
  match v1, k1.len with
  | [u], _ =>
    simp at e
    obtain ⟨rfl, rfl⟩ := e
    exact ⟨k2, k1⟩
theorem Rds.drop : ∀ (i : Nat) {ds : List D} {vs : List Value}, Rds w ds vs → Rds w (ds.drop i) (vs.drop i)
  | 0, _, _, h => h
  | i + 1, [], vs, h => by obtain rfl := rds_nil.1 h; simpa using h
  | i + 1, d :: ds, [], h => by have := h.len; simp at this
  | i + 1, d :: ds, v :: vs, h => by simpa using Rds.drop i h.tail.1
theorem Rds.take : ∀ (i : Nat) {ds : List D} {vs : List Value}, Rds w ds vs → Rds w (ds.take i) (vs.take i)
  | 0, _, _, _ => .nil
  | i + 1, [], vs, h => by obtain rfl := rds_nil.1 h; simpa using h
  | i + 1, d :: ds, [], h => by have := h.len; simp at this
  | i + 1, d :: ds, v :: vs, h => by simpa using h.tail.2.append (Rds.take i h.tail.1)
theorem Rds.cut (h : Rds w ds vs) (i n : Nat) : Rds w ((ds.drop i).take n) ((vs.drop i).take n) := (h.drop i).take n
theorem szL_cut (ds : List D) (i n : Nat) : szL ((ds.drop i).take n) ≤ szL ds := by
  have h1 := szL_append (ds.take i) (ds.drop i)
  have h2 := szL_append ((ds.drop i).take n) ((ds.drop i).drop n)
  rw [List.take_append_drop] at h1 h2
  omega
theorem RAt.get {d : D} (h : RAt w b off ds) (hd : ds[j]? = some d) : ∃ u, w.cell? ⟨b, off + j, none⟩ = some u ∧ Rds w [d] [u] := by
  obtain ⟨us, h1, h2, h3⟩ := h
  obtain ⟨u, hu, hr⟩ := h1.get hd
  exact ⟨u, h3 j u hu, hr⟩
theorem RAt.int {n : Int} (h : RAt w b off ds) (hd : ds[j]? = some (.int n)) : w.cell? ⟨b, off + j, none⟩ = some (.int .i64 n) := by
  obtain ⟨u, hu, hr⟩ := h.get hd
  obtain ⟨_, e, _⟩ := rds_int.1 hr
  cases e
  exact hu
theorem RAt.bool {n : Bool} (h : RAt w b off ds) (hd : ds[j]? = some (.bool n)) : w.cell? ⟨b, off + j, none⟩ = some (.bool n) := by
  obtain ⟨u, hu, hr⟩ := h.get hd
  obtain ⟨_, e, _⟩ := rds_bool.1 hr
  cases e
  exact hu
theorem RAt.str {n : ByteArray} (h : RAt w b off ds) (hd : ds[j]? = some (.str n)) : w.cell? ⟨b, off + j, none⟩ = some (.string n) := by
  obtain ⟨u, hu, hr⟩ := h.get hd
  obtain ⟨_, e, _⟩ := rds_str.1 hr
  cases e
  exact hu
theorem RAt.sl {e : TypeId} {sz n : Nat} {es : List D} (h : RAt w b off ds) (hd : ds[j]? = some (.sl e sz n es)) : ∃ o c, w.cell? ⟨b, off + j, none⟩ = some (.slice o n c) ∧ RS w e sz n es (.slice o n c) := by
  obtain ⟨u, hu, hr⟩ := h.get hd
  obtain ⟨o, c, rfl⟩ := RS.val hr
  exact ⟨o, c, hu, hr⟩
theorem RAt.lt (h : RAt w b off ds) : b < w.heap.size := h.elim fun _ h => h.2.1
/-- Element i of a list that lies in cells. -/
theorem flat_split {α β : Type} {enc : α → List β} {sz : Nat} (hl : ∀ x, (enc x).length = sz) : ∀ (xs : List α) (i : Nat) (x : α), xs[i]? = some x → ∃ l r, xs.flatMap enc = l ++ (enc x ++ r) ∧ l.length = i * sz
  | [], _, _, h => by simp at h
  | y :: ys, 0, x, h => by
    simp at h
    subst h
    exact ⟨[], ys.flatMap enc, by simp, by simp⟩
  | y :: ys, i + 1, x, h => by
    obtain ⟨l, r, e1, e2⟩ := flat_split hl ys i x (by simpa using h)
    exact ⟨enc y ++ l, r, by simp [e1], by rw [List.length_append, hl, e2, Nat.add_mul]; omega⟩
theorem RAt.elem {α : Type} {enc : α → List D} {sz i : Nat} {xs : List α} {x : α} (hl : ∀ x, (enc x).length = sz) (h : RAt w b off (xs.flatMap enc)) (hx : xs[i]? = some x) : RAt w b (off + i * sz) (enc x) := by
  obtain ⟨l, r, e1, e2⟩ := flat_split hl xs i x hx
  rw [e1] at h
  have := h.app.2.app.1
  rw [e2] at this
  exact this
theorem okL_elem {α : Type} {enc : α → List D} {xs : List α} {x : α} (h : okL (xs.flatMap enc)) (hx : x ∈ xs) : okL (enc x) := by
  induction xs with
  | nil => cases hx
  | cons y ys ih =>
    rw [List.flatMap_cons, okL_append] at h
    rcases List.mem_cons.1 hx with rfl | hx
    · exact h.1
    · exact ih h.2 hx
theorem szL_elem {α : Type} {enc : α → List D} {xs : List α} {x : α} (hx : x ∈ xs) : szL (enc x) ≤ szL (xs.flatMap enc) := by
  induction xs with
  | nil => cases hx
  | cons y ys ih =>
    rw [List.flatMap_cons, szL_append]
    rcases List.mem_cons.1 hx with rfl | hx
    · omega
    · have := ih hx; omega

/-- A scalar's value. -/
def valD : D → Value
  | .int n => .int .i64 n
  | .bool b => .bool b
  | .str s => .string s
  | .sl .. => .slice none 0 0
def scal : D → Bool
  | .sl .. => false
  | _ => true
theorem Rds.flat (h : Rds w ds vs) (hs : ds.all scal = true) : vs = ds.map valD := by
  induction h with
  | nil => rfl
  | int n _ ih => rw [List.all_cons, Bool.and_eq_true] at hs; simp [valD, ih hs.2]
  | bool n _ ih => rw [List.all_cons, Bool.and_eq_true] at hs; simp [valD, ih hs.2]
  | str n _ ih => rw [List.all_cons, Bool.and_eq_true] at hs; simp [valD, ih hs.2]
  | nilS => simp [scal] at hs
  | sl => simp [scal] at hs
theorem ows_flat : ∀ (ds : List D), ds.all scal = true → Ows w ds (ds.map valD) []
  | [], _ => .nil
  | .int n :: ds, h => .int n (ows_flat ds (by rw [List.all_cons, Bool.and_eq_true] at h; exact h.2))
  | .bool n :: ds, h => .bool n (ows_flat ds (by rw [List.all_cons, Bool.and_eq_true] at h; exact h.2))
  | .str n :: ds, h => .str n (ows_flat ds (by rw [List.all_cons, Bool.and_eq_true] at h; exact h.2))
  | .sl .. :: ds, h => by simp [scal] at h
theorem Ows.flat (h : Ows w ds vs F) (hs : ds.all scal = true) : vs = ds.map valD ∧ F = [] := by
  induction h with
  | nil => exact ⟨rfl, rfl⟩
  | int n _ ih => rw [List.all_cons, Bool.and_eq_true] at hs; have := ih hs.2; simp [valD, this]
  | bool n _ ih => rw [List.all_cons, Bool.and_eq_true] at hs; have := ih hs.2; simp [valD, this]
  | str n _ ih => rw [List.all_cons, Bool.and_eq_true] at hs; have := ih hs.2; simp [valD, this]
  | sl => simp [scal] at hs
theorem own_zero {base base' sz n : Nat} {e : TypeId} {v : Value} {ys : List Value} (h : w.ownsRow base e sz v n ys) (hb : ∀ k, v.ownBlock = some k → base' ≤ k) : w.ownsRow base' e sz v n ys := by
  refine ⟨h.1, ?_⟩
  rcases h.2 with h2 | ⟨g, cap, cur, rfl, _, h3⟩
  · exact .inl h2
  · exact .inr ⟨g, cap, cur, rfl, hb g rfl, h3⟩
theorem Obj.of_row {lo sz n : Nat} {e : TypeId} {v : Value} (h : w.ownsRow lo e sz v n (ds.map valD)) (hs : ds.all scal = true) : Obj w lo w.heap.size [.sl e sz n ds] [v] := by
  refine ⟨v.ownBlock.toList ++ ([] ++ []), .sl e sz n v (own_zero h (by simp)) (ows_flat ds hs) .nil, by cases v.ownBlock <;> simp, fun k hk => ?_⟩
  simp only [List.append_nil, Option.mem_toList] at hk
  exact h.lt k hk
theorem Obj.row {lo hi sz n : Nat} {e : TypeId} {v : Value} (h : Obj w lo hi [.sl e sz n ds] [v]) (hs : ds.all scal = true) : w.ownsRow lo e sz v n (ds.map valD) := by
  obtain ⟨F, h1, h2, h3⟩ := h
  cases h1 with
  | sl _ _ _ _ k1 k2 k3 =>
    obtain ⟨rfl, rfl⟩ := k2.flat hs
    exact own_zero k1 fun k hk => (h3 k (by simp [hk])).1
theorem Obj.own_hi {lo hi sz n : Nat} {e : TypeId} {v : Value} (h : Obj w lo hi [.sl e sz n ds] [v]) : ∀ k, v.ownBlock = some k → lo ≤ k ∧ k < hi := by
  obtain ⟨F, h1, h2, h3⟩ := h
  cases h1 with
  | sl _ _ _ _ k1 k2 k3 => exact fun k hk => h3 k (by simp [hk])
theorem Ows.oneCell (h : Ows w ds vs F) : ∀ u ∈ vs, u.oneCell' = true := by
  induction h with
  | nil => simp
  | int n _ ih => intro u hu; rcases List.mem_cons.1 hu with rfl | hu; exact rfl; exact ih u hu
  | bool n _ ih => intro u hu; rcases List.mem_cons.1 hu with rfl | hu; exact rfl; exact ih u hu
  | str n _ ih => intro u hu; rcases List.mem_cons.1 hu with rfl | hu; exact rfl; exact ih u hu
  | sl e sz n v h1 _ _ _ ih =>
    intro u hu
    rcases List.mem_cons.1 hu with rfl | hu
    · obtain ⟨o, l, c, rfl⟩ := own_slice h1; rfl
    · exact ih u hu

/-- A slice of one's own that is not nil, seen from inside. -/
theorem Ows.inside {e : TypeId} {sz n g c : Nat} {es : List D} (h : Ows w [.sl e sz n es] [.slice (some ⟨g, 0, none⟩) n c] F) (hn : F.Nodup) :
    ∃ us G, F = g :: G ∧ g ∉ G ∧ G.Nodup ∧ Ows w es us G ∧ w.ownsRow 0 e sz (.slice (some ⟨g, 0, none⟩) n c) n us ∧ g < w.heap.size ∧
      (∀ o u, us[o]? = some u → w.cell? ⟨g, o, none⟩ = some u) ∧ (∀ o, w.frozen? ⟨g, o, none⟩ = false) ∧
      ∀ w' es', Ows w' es' us G → Chg G w w' → Ows w' [.sl e sz n es'] [.slice (some ⟨g, 0, none⟩) n c] F := by
  cases h with
  | @sl _ _ _ us F' G _ _ _ _ h1 h2 h3 =>
    obtain ⟨_, rfl⟩ := ows_nil.1 h3
    simp only [Value.ownBlock, Option.toList_some, List.append_nil, List.singleton_append] at hn ⊢
    rw [List.nodup_cons] at hn
    have hc := h1.cells (g := g) rfl
    have hz : g < w.heap.size := (h1.lt g rfl).2
    have hf : ∀ o, w.frozen? ⟨g, o, none⟩ = false := by
      rcases h1.2 with ⟨h', _⟩ | ⟨g', cap, cur, h', _, hg, _⟩
      · simp at h'
      · simp only [Value.slice.injEq, Option.some.injEq, Addr.mk.injEq, and_true, true_and] at h'
        obtain ⟨rfl, rfl⟩ := h'
        exact fun o => frozen_of_row w g o cur e hg
    refine ⟨us, G, rfl, hn.1, hn.2, h2, h1, hz, fun o u hu => ?_, hf, fun w' es' k1 k2 => ?_⟩
    · have := hc o u hu
      unfold Addr.add at this
      split at this
      · simp_all
      · simpa using this
    · have q : w'.ownsRow 0 e sz (.slice (some ⟨g, 0, none⟩) n c) n us := by
        refine ⟨h1.1, ?_⟩
        rcases h1.2 with ⟨h', _⟩ | ⟨g', cap, cur, h', a1, hg, a2⟩
        · simp at h'
        · simp only [Value.slice.injEq, Option.some.injEq, Addr.mk.injEq, and_true, true_and] at h'
          obtain ⟨rfl, rfl⟩ := h'
          exact .inr ⟨g, c, cur, rfl, a1, by rw [k2.block g hz hn.1]; exact hg, a2⟩
      simpa [Value.ownBlock] using Ows.sl e sz n _ q k1 .nil
theorem Ows.focus {d : D} {ds1 ds2 : List D} (h : Ows w (ds1 ++ d :: ds2) vs F) (hn : F.Nodup) : ∃ v1 u v2 Fd, vs = v1 ++ u :: v2 ∧ v1.length = ds1.length ∧ Ows w [d] [u] Fd ∧ Fd.Nodup ∧ (∀ k ∈ Fd, k ∈ F) ∧
    ∀ w' d', Ows w' [d'] [u] Fd → Chg Fd w w' → Ows w' (ds1 ++ d' :: ds2) vs F := by
  obtain ⟨v1, v2, F1, F2, rfl, rfl, k1, k2⟩ := ows_append.1 h
  have k2' : Ows w ([d] ++ ds2) v2 F2 := k2
  obtain ⟨v3, v4, F3, F4, rfl, rfl, q1, q2⟩ := ows_append.1 k2'
  have hl := q1.len
  rw [List.nodup_append, List.nodup_append] at hn
  obtain ⟨_, ⟨n3, _, n34⟩, n13⟩ := hn
  match v3, hl with
  | [u], _ =>
    refine ⟨v1, u, v4, F3, rfl, k1.len.symm, q1, n3, fun k hk => by simp [hk], fun w' d' a1 a2 => ?_⟩
    have b1 := k1.keep a2 fun k hk h3 => n13 k hk k (by simp [h3]) rfl
    have b2 := q2.keep a2 fun k hk h3 => n34 k h3 k hk rfl
    have := b1.append (a1.append b2)
    simpa using this
theorem storeAll_tail {g : Nat} {e : TypeId} : ∀ (cs : List Value) (w : World) (o : Nat) (cur cur' : Array Value), w.heap[g]? = some (.cells cur e (0, 0)) → (storeAll w g o cs).heap[g]? = some (.cells cur' e (0, 0)) → ∀ i, o + cs.length ≤ i → cur'[i]? = cur[i]?
  | [], w, o, cur, cur', h1, h2, i, _ => by
    rw [storeAll, h1] at h2
    cases h2
    rfl
  | c :: cs, w, o, cur, cur', h1, h2, i, hi => by
    have h3 : (w.setCell ⟨g, o, none⟩ c).heap[g]? = some (.cells (cur.setIfInBounds o c) e (0, 0)) := by simp [World.setCell, Array.getElem?_modify, h1]
    simp only [List.length_cons] at hi
    rw [storeAll_tail cs _ (o + 1) _ cur' h3 h2 i (by omega), Array.getElem?_setIfInBounds_ne (by omega)]
/-- Stores of a row's cells, one behind the other. -/
theorem ownsRow_store {e : TypeId} {sz n g c : Nat} {us1 rv us2 rv' : List Value} (h : w.ownsRow 0 e sz (.slice (some ⟨g, 0, none⟩) n c) n (us1 ++ (rv ++ us2))) (hl : rv'.length = rv.length) :
    (storeAll w g us1.length rv').ownsRow 0 e sz (.slice (some ⟨g, 0, none⟩) n c) n (us1 ++ (rv' ++ us2)) := by
  refine ⟨by have := h.1; simp at this ⊢; omega, ?_⟩
  have hlen := h.1
  rcases h.2 with ⟨h', _⟩ | ⟨g', cap, cur, h', a1, hg, a2, a3, a4, a5⟩
  · simp at h'
  · simp only [Value.slice.injEq, Option.some.injEq, Addr.mk.injEq, and_true, true_and] at h'
    obtain ⟨rfl, rfl⟩ := h'
    obtain ⟨cur', k1, k2, k3, k4⟩ := storeAll_heap rv' w us1.length cur hg
    have k5 := storeAll_tail rv' w us1.length cur cur' hg k1
    have hcs := Nat.mul_le_mul_right sz a2
    refine .inr ⟨g, c, cur', rfl, a1, k1, a2, a3, by omega, ?_⟩
    apply List.ext_getElem?
    intro o
    have a6 : ∀ o, o < n * sz → cur[o]? = (us1 ++ (rv ++ us2))[o]? := fun o ho => by
      rw [← a5, List.getElem?_take, if_pos ho]; simp
    rw [List.length_append, List.length_append] at hlen
    by_cases ho : o < n * sz
    · rw [List.getElem?_take, if_pos ho]
      rcases Nat.lt_or_ge o us1.length with h1 | h1
      · rw [List.getElem?_append_left h1, show cur'.toList[o]? = cur'[o]? by simp, k3 o h1, a6 o ho, List.getElem?_append_left h1]
      · rw [List.getElem?_append_right h1]
        rcases Nat.lt_or_ge (o - us1.length) rv'.length with h2 | h2
        · rw [List.getElem?_append_left h2]
          have := k4 (o - us1.length) h2 (by omega)
          rw [show us1.length + (o - us1.length) = o by omega] at this
          simpa using this
        · rw [List.getElem?_append_right h2, show cur'.toList[o]? = cur'[o]? by simp, k5 o (by omega), a6 o ho, List.getElem?_append_right h1, List.getElem?_append_right (by omega), hl]
    · rw [List.getElem?_take, if_neg ho, List.getElem?_eq_none (by simp; omega)]
theorem storeAll_chg {g : Nat} : ∀ (cs : List Value) (w : World) (o : Nat), Chg [g] w (storeAll w g o cs)
  | [], _, _ => Chg.refl
  | c :: cs, w, o => (Chg.refl.set (by simp) o c).trans (storeAll_chg cs _ _)
theorem Ows.put {e : TypeId} {sz n g c : Nat} {es1 row row' es2 : List D} {rv' : List Value} (h : Ows w [.sl e sz n (es1 ++ (row ++ es2))] [.slice (some ⟨g, 0, none⟩) n c] F) (hn : F.Nodup) (hr : Ows w row' rv' H) (hl : row'.length = row.length) (hg : g ∉ H) :
    ∃ G1 G2, Ows (storeAll w g es1.length rv') [.sl e sz n (es1 ++ (row' ++ es2))] [.slice (some ⟨g, 0, none⟩) n c] (g :: (G1 ++ (H ++ G2))) ∧ (∀ k ∈ G1, k ∈ F) ∧ (∀ k ∈ G2, k ∈ F) ∧ (g :: (G1 ++ G2)).Nodup ∧ g ∈ F ∧ ∃ Fr rv, F = g :: (G1 ++ (Fr ++ G2)) ∧ Ows w row rv Fr := by
  obtain ⟨us, G, rfl, g1, g2, h1, h2, _, _, _, _⟩ := h.inside hn
  obtain ⟨u1, u2, G1, G', rfl, rfl, k1, k2⟩ := ows_append.1 h1
  obtain ⟨u3, u4, Gr, G2, rfl, rfl, q1, q2⟩ := ows_append.1 k2
  have hs := ownsRow_store h2 (rv' := rv') (by rw [← hr.len, ← q1.len, hl])
  rw [← k1.len] at hs
  have hc := storeAll_chg (g := g) rv' w es1.length
  have d1 : ∀ k ∈ G1, k ∉ [g] := fun k hk h => by simp at h; subst h; exact g1 (by simp [hk])
  have d2 : ∀ k ∈ G2, k ∉ [g] := fun k hk h => by simp at h; subst h; exact g1 (by simp [hk])
  have d3 : ∀ k ∈ H, k ∉ [g] := fun k hk h => by simp at h; subst h; exact hg hk
  have := (k1.keep hc d1).append ((hr.keep hc d3).append (q2.keep hc d2))
  refine ⟨G1, G2, by simpa [Value.ownBlock] using Ows.sl e sz n _ hs this .nil, fun k hk => by simp [hk], fun k hk => by simp [hk], ?_, by simp, Gr, u3, rfl, q1⟩
  rw [List.nodup_cons]
  rw [List.nodup_append, List.nodup_append] at g2
  refine ⟨fun h => g1 (by simp at h ⊢; rcases h with h | h <;> simp [h]), List.nodup_append.2 ⟨g2.1, g2.2.1.2.1, fun a ha b hb => g2.2.2 a ha b (by simp [hb])⟩⟩
end
end Go.Proofs.Ytbenfbmoagfboaa

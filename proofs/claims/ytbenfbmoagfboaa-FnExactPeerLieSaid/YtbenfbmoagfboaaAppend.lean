/- append of a slice that is read, onto a slice of one's own: also where nothing is appended. -/
import Derived.Test.YtbenfbmoagfboaaNest
import Derived.Deep.AppendLies
namespace Go.Proofs.Ytbenfbmoagfboaa
open Go.RowKit Go.Builtin

section
variable {α : Type} {enc : α → List Value} {P : Program} (w : World)

theorem run_append_sl (t ty : TypeId) (base : Nat) (e : TypeId) (i : TypeInfo) (z : Value) (size bytes : Nat) (ht : P.underlying t = some (.slice e)) (hi : P.info? e = some i) (hz : i.zero = some z)
    (hsize : i.size = size) (hby : i.bytes = bytes) (hzs : z.cells.size = size) (hsz : 0 < size)
    (v : Value) (n : Nat) (xs : List Value) (hown : w.ownsRow base e size v n xs)
    (xv : Value) (ys : List α) (hsl : Sl enc size w xv ys) (hel : ∀ y, (enc y).length = size) (h1 : ∀ y ∈ ys, ∀ u ∈ enc y, u.oneCell' = true)
    (h63 : n + ys.length ≤ maxLen) (hbytes : (n + ys.length) * bytes ≤ 140737488355328) (hbase : base ≤ w.heap.size) :
    ∃ v' w', (Builtin.append_ #[t, t] ty #[v, xv]).run P w = .ok v' w' ∧ w'.ownsRow base e size v' (n + ys.length) (xs ++ ys.flatMap enc) ∧ w.grownBy w' v.ownBlock ∧ (v'.ownBlock = v.ownBlock ∨ v'.ownBlock = some w.heap.size) := by
  rcases hsl with ⟨o, c, rfl, rfl⟩ | ⟨b, off, c, rfl, hp, hlc, hcm, hb, hat⟩
  · refine ⟨v, w, ?_, by simpa using hown, grownBy_refl _ _, .inl rfl⟩
    rcases hown.2 with ⟨rfl, rfl⟩ | ⟨g, cap, cur, rfl, hbg, hg, hnc, hcm, hcs, htake⟩
    · cases o <;> simp [Builtin.append_, run_underlying ht, sizeOf, typeInfo, hi, Builtin.lenOf, Builtin.firstCells, loadCells, loadCellsFrom]
    · cases o <;> simp [Builtin.append_, run_underlying ht, sizeOf, typeInfo, hi, Builtin.lenOf, Builtin.firstCells, loadCells, loadCellsFrom, storeCells, hnc]
  · have hnews : ∀ j u, (ys.flatMap enc)[j]? = some u → w.cell? ((⟨b, off, none⟩ : Addr).add j) = some u := by
      intro j u hu
      obtain ⟨q, r, rfl, hr⟩ := divide (sz := size) (o := j) hsz
      have hlt : q * size + r < (ys.flatMap enc).length := (List.getElem?_eq_some_iff.1 hu).1
      rw [flatMap_len hel] at hlt
      have hq : q < ys.length := by
        rcases Nat.lt_or_ge q ys.length with h | h
        · exact h
        · have := Nat.mul_le_mul_right size h; omega
      have hy : ys[q]? = some ys[q] := List.getElem?_eq_getElem _
      have := hat q _ hy r hr
      rw [flatMap_get hel ys q r _ hy hr] at hu
      have e : (⟨b, off, none⟩ : Addr).add (q * size + r) = ⟨b, off + q * size + r, none⟩ := by unfold Addr.add; split <;> simp_all; omega
      rw [e, this, hu]
    obtain ⟨v', w', hr, h2, h3, _, h5⟩ := run_append_own_at (P := P) w base t ty e i z size bytes ht hi hz hsize hby hzs hsz v n xs hown ⟨b, off, none⟩ ys.length c (ys.flatMap enc) (flatMap_len hel ys) hnews
      (fun u hu => by obtain ⟨y, hm, hy⟩ := List.mem_flatMap.1 hu; exact h1 y hm u hy) h63 hbytes hbase
    exact ⟨v', w', hr, h2, h3, h5⟩

/-- At the operation. -/
theorem wp_append_sl {o : Oper} {a : Act} {K : Act → World → Prop} {Q : Exit → Act → World → Prop} (s x : Operand) (t : TypeId)
    (ho : o.op = .call { callee := .builtin .append, args := #[s, x], argTypes := #[t, t] })
    (base : Nat) (e : TypeId) (i : TypeInfo) (z : Value) (size bytes : Nat) (ht : P.underlying t = some (.slice e)) (hi : P.info? e = some i) (hz : i.zero = some z)
    (hsize : i.size = size) (hby : i.bytes = bytes) (hzs : z.cells.size = size) (hsz : 0 < size)
    (v : Value) (n : Nat) (xs : List Value) (hs : a.eval s = v) (hown : w.ownsRow base e size v n xs)
    (xv : Value) (ys : List α) (hx : a.eval x = xv) (hsl : Sl enc size w xv ys) (hel : ∀ y, (enc y).length = size) (h1 : ∀ y ∈ ys, ∀ u ∈ enc y, u.oneCell' = true)
    (h63 : n + ys.length ≤ maxLen) (hbytes : (n + ys.length) * bytes ≤ 140737488355328) (hbase : base ≤ w.heap.size)
    (h : ∀ v' w', w'.ownsRow base e size v' (n + ys.length) (xs ++ ys.flatMap enc) → w.grownBy w' v.ownBlock → (v'.ownBlock = v.ownBlock ∨ v'.ownBlock = some w.heap.size) → K (a.put o.dst v') w') : o.wp P a w K Q := by
  obtain ⟨v', w', hr, h2, h3, h4⟩ := run_append_sl (P := P) w t o.type base e i z size bytes ht hi hz hsize hby hzs hsz v n xs hown xv ys hsl hel h1 h63 hbytes hbase
  unfold Oper.wp execOp
  simp only [ho, resolve, invoke, builtin, Sem.run_bind, Sem.run_pure, Result.andThen_ok, List.map_toArray, List.map_cons, List.map_nil, hs, hx, hr]
  exact h v' w' h2 h3 h4

/-- At the list of a plain region's operations. -/
theorem wpList_append_sl {ops : Array Oper} {rest : List Oper} {o : Oper} {a : Act} {Q : Exit → Act → World → Prop} (hgd : o.guard = none) (s x : Operand) (t : TypeId)
    (ho : o.op = .call { callee := .builtin .append, args := #[s, x], argTypes := #[t, t] })
    (base : Nat) (e : TypeId) (i : TypeInfo) (z : Value) (size bytes : Nat) (ht : P.underlying t = some (.slice e)) (hi : P.info? e = some i) (hz : i.zero = some z)
    (hsize : i.size = size) (hby : i.bytes = bytes) (hzs : z.cells.size = size) (hsz : 0 < size)
    (v : Value) (n : Nat) (xs : List Value) (hs : a.eval s = v) (hown : w.ownsRow base e size v n xs)
    (xv : Value) (ys : List α) (hx : a.eval x = xv) (hsl : Sl enc size w xv ys) (hel : ∀ y, (enc y).length = size) (h1 : ∀ y ∈ ys, ∀ u ∈ enc y, u.oneCell' = true)
    (h63 : n + ys.length ≤ maxLen) (hbytes : (n + ys.length) * bytes ≤ 140737488355328) (hbase : base ≤ w.heap.size)
    (h : ∀ v' w', w'.ownsRow base e size v' (n + ys.length) (xs ++ ys.flatMap enc) → w.grownBy w' v.ownBlock → (v'.ownBlock = v.ownBlock ∨ v'.ownBlock = some w.heap.size) → wpList P ops Q rest (a.put o.dst v') w') : wpList P ops Q (o :: rest) a w :=
  wpList_plain hgd fun _ hK => wp_append_sl w s x t ho base e i z size bytes ht hi hz hsize hby hzs hsz v n xs hs hown xv ys hx hsl hel h1 h63 hbytes hbase fun v' w' h2 h3 h4 => hK _ _ (h v' w' h2 h3 h4)

/-- At a step of a region that draws its order. -/
theorem step_append_sl {ops : Array Oper} {o : Oper} {a : Act} {K : Act → World → Prop} {Q : Exit → Act → World → Prop} {E : Prop} (hgd : o.guard = none) (s x : Operand) (t : TypeId)
    (ho : o.op = .call { callee := .builtin .append, args := #[s, x], argTypes := #[t, t] })
    (base : Nat) (e : TypeId) (i : TypeInfo) (z : Value) (size bytes : Nat) (ht : P.underlying t = some (.slice e)) (hi : P.info? e = some i) (hz : i.zero = some z)
    (hsize : i.size = size) (hby : i.bytes = bytes) (hzs : z.cells.size = size) (hsz : 0 < size)
    (v : Value) (n : Nat) (xs : List Value) (hs : a.eval s = v) (hown : w.ownsRow base e size v n xs)
    (xv : Value) (ys : List α) (hx : a.eval x = xv) (hsl : Sl enc size w xv ys) (hel : ∀ y, (enc y).length = size) (h1 : ∀ y ∈ ys, ∀ u ∈ enc y, u.oneCell' = true)
    (h63 : n + ys.length ≤ maxLen) (hbytes : (n + ys.length) * bytes ≤ 140737488355328) (hbase : base ≤ w.heap.size)
    (h : ∀ v' w', w'.ownsRow base e size v' (n + ys.length) (xs ++ ys.flatMap enc) → w.grownBy w' v.ownBlock → (v'.ownBlock = v.ownBlock ∨ v'.ownBlock = some w.heap.size) → K (a.put o.dst v') w') :
    if Region.wanted o (yielded ops a.tmps) = true then Oper.wp P o a w K Q else E := by
  have hw : Region.wanted o (yielded ops a.tmps) = true := by simp [Region.wanted, hgd]
  rw [if_pos hw]
  exact wp_append_sl w s x t ho base e i z size bytes ht hi hz hsize hby hzs hsz v n xs hs hown xv ys hx hsl hel h1 h63 hbytes hbase h
end
/-- One row more: it was copied behind w1, laid into a cell and appended. -/
theorem copy_step {α : Type} {enc : α → List Value} {sz : Nat} {eo ei : TypeId} {base : Nat} {w1 w2 w3 : World} {vs : List Value} {xss : List (List α)} {ov rv ov' : Value} {xs : List α} {o : Obj} (hbs : base ≤ w1.heap.size)
    (hO : w1.ownsRow base eo 1 ov vs.length (vs.flatMap encV)) (hR : RowsOwn enc sz ei base w1 vs xss) (hA : vs.Pairwise Apart ∧ ∀ a ∈ vs, Apart ov a) (hb : Ext w1 w2) (hO2 : w2.ownsRow w1.heap.size ei sz rv xs.length (xs.flatMap enc))
    (hG : (w2.alloc o).grownBy w3 ov.ownBlock) (hB : ov'.ownBlock = ov.ownBlock ∨ ov'.ownBlock = some (w2.alloc o).heap.size) :
    RowsOwn enc sz ei base w3 (vs ++ [rv]) (xss ++ [xs]) ∧ (vs ++ [rv]).Pairwise Apart ∧ ∀ a ∈ vs ++ [rv], Apart ov' a := by
  have a1 : ∀ a ∈ vs, Apart a rv := fun a ha k h1 h2 => by
    have := hR.lt ha k h1
    have := hO2.lt k h2
    omega
  have a2 : Apart ov rv := fun k h1 h2 => by
    have := hO.lt k h1
    have := hO2.lt k h2
    omega
  have a3 : ∀ a ∈ vs ++ [rv], Apart ov a := fun a ha => by
    rcases List.mem_append.1 ha with ha | ha
    · exact hA.2 a ha
    · rw [List.mem_singleton] at ha
      subst ha
      exact a2
  have hR2 : RowsOwn enc sz ei base (w2.alloc o) (vs ++ [rv]) (xss ++ [xs]) := ((hR.ext hb).ext ((Ext.refl _).alloc _)).snoc (own_ext (own_base hO2 hbs) ((Ext.refl _).alloc _))
  refine ⟨hR2.keep hG fun a ha => (a3 a ha).symm.or, pair_snoc hA.1 a1, fun a ha k h1 h2 => ?_⟩
  rcases hB with h | h
  · exact a3 a ha k (h ▸ h1) h2
  · have := hR2.lt ha k h2
    rw [h] at h1
    have := Option.some.inj h1
    omega
/-- A slice of one cell, new made. -/
theorem Sl.newE {α : Type} {enc : α → List Value} {w : World} {x : α} {y : Value} {t : TypeId} {k : Nat} (he : enc x = [y]) (hk : k = w.heap.size) : Sl enc 1 (w.alloc (.cells #[y] t)) (.slice (some ⟨k, 0, none⟩) 1 1) [x] := by
  refine .inr ⟨k, 0, 1, rfl, by simp, by simp, by unfold maxLen; omega, by simp [hk], fun i z hz j hj => ?_⟩
  have hi : i = 0 := by have := (List.getElem?_eq_some_iff.1 hz).1; simp at this; exact this
  obtain rfl : j = 0 := by omega
  subst hi
  simp at hz
  subst hz
  rw [he]
  exact (Box.new hk).cell 0
theorem Sl.new {w : World} {x : Value} {t : TypeId} {k : Nat} (hk : k = w.heap.size) : Sl encV 1 (w.alloc (.cells #[x] t)) (.slice (some ⟨k, 0, none⟩) 1 1) [x] := Sl.newE rfl hk
end Go.Proofs.Ytbenfbmoagfboaa

/- The pure machine: the back part of a row of one's own that is copied at once behind another row. -/
import Derived.Test.YtkbikihbomnghaaK1
namespace Go.Proofs.Ytkbikihbomnghaa
set_option linter.unusedSimpArgs false
set_option linter.unusedVariables false
open Go.RowKit

/-- 'append' to a row of one's own: what is added is read where it lies. -/
theorem append_ok2 {P : Program} {M : Mem} {h : Home} {H : Hp} {w : World} (I : Inv M h H w) {b : Nat} {e : TypeId} {sz : Nat} {es : List (List PV)} {v x : Value} {es2 : List (List PV)} (hH : H[b]? = some (some (.row e sz es))) (hb : h b = some v) (hxl : ∃ xo xc, x = .slice xo es2.length xc) (hxc : es2 ≠ [] → ∃ k base c, x = .slice (some ⟨k, base, none⟩) es2.length c ∧ k < w.heap.size ∧ ∀ (i j : Nat) (row : List PV) (q : PV), es2[i]? = some row → row[j]? = some q → ∃ u, w.cell? ⟨k, base + (i * sz + j), none⟩ = some u ∧ VR M h q u ∧ u.oneCell' = true) (hl2 : ∀ row ∈ es2, row.length = sz)
    (t ty : TypeId) (i : TypeInfo) (z : Value) (bytes : Nat) (ht : P.underlying t = some (.slice e)) (hi : P.info? e = some i) (hz : i.zero = some z) (hsize : i.size = sz) (hby : i.bytes = bytes) (hzs : z.cells.size = sz) (hsz : 0 < sz) (h63 : es.length + es2.length ≤ maxLen) (hbytes : (es.length + es2.length) * bytes ≤ 140737488355328) :
    ∃ h' v' w', (Builtin.append_ #[t, t] ty #[v, x]).run P w = .ok v' w' ∧ Step M h H w M h' (H.set b none ++ [some (.row e sz (es ++ es2))]) w' ∧ VR M h' (.own H.length) v' ∧ w.grownBy w' (hblk v) := by
  obtain ⟨v0, q0, ⟨o0, n0, c0, hv0⟩, us, q1, q2, q3, q4⟩ := I.blk b _ hH
  rw [hb] at q0
  cases q0
  have hblt : b < H.length := (List.getElem?_eq_some_iff.1 hH).1
  have I0 := I.kill b
  have hg : ∀ k, v.ownBlock = some k → ¬ Homes h (H.set b none) k ∧ ∀ o, M k o = none := fun k hk => by
    have hk' : hblk v = some k := by rw [hblk_own hv0]; exact hk
    refine ⟨fun ⟨c, B, u, e1, e2, e3⟩ => ?_, I.sep k ⟨b, _, v, hH, hb, hk'⟩⟩
    by_cases q : b = c
    · subst q
      rw [List.getElem?_set] at e1
      simp at e1
    · rw [List.getElem?_set_ne q] at e1
      exact q (I.inj b c _ B v u k hH e1 hb e2 hk' e3)
  have fin : ∀ (v' : Value) (w' : World) (news : List Value), w'.ownsRow 0 e sz v' (es.length + es2.length) (us ++ news) → w.grownBy w' v.ownBlock → (∀ k, v'.ownBlock = some k → v.ownBlock = some k ∨ w.heap.size ≤ k) →
      (∀ (i j : Nat) (row : List PV) (pv : PV) (u : Value), es2[i]? = some row → row[j]? = some pv → news[i * sz + j]? = some u → VR M h pv u) → (∀ u ∈ news, u.oneCell' = true) →
      ∃ h', Step M h H w M h' (H.set b none ++ [some (.row e sz (es ++ es2))]) w' ∧ VR M h' (.own H.length) v' := fun v' w' news g1 g2 g3 g4 g5 => by
    obtain ⟨o, n, c, rfl⟩ := own_slice g1
    have hlen : (H.set b none).length = H.length := by simp
    have I1 := I0.grown (row := v.ownBlock) g2 hg
    have hk : ∀ k, hblk (.slice o n c) = some k → ¬ Homes h (H.set b none) k ∧ ∀ o, M k o = none := fun k q => by
      rw [hblk_own rfl] at q
      rcases g3 k q with q | q
      · exact hg k q
      · exact I0.fresh q
    have hus : us.length = es.length * sz := q1.1
    refine ⟨upd h H.length (.slice o n c), ⟨.refl _, upd_le I.len, ?_, ⟨g2.os, g2.tape, g2.output, g2.size, fun k hk' hn => g2.block k hk' ?_⟩, fun k q => ?_, fun _ _ _ q => .inl q⟩, .own _ o n c upd_self⟩
    · have := I1.push (B := .row e sz (es ++ es2)) (v := .slice o n c) ⟨⟨o, n, c, rfl⟩, us ++ news, by rw [List.length_append]; exact g1, ?_, ?_, ?_⟩ hk
      · rw [hlen] at this
        exact this
      · intro row hr
        rcases List.mem_append.1 hr with hr | hr
        · exact q2 row hr
        · exact hl2 row hr
      · intro u hu
        rcases List.mem_append.1 hu with hu | hu
        · exact q3 u hu
        · exact g5 u hu
      · intro i j row pv u e1 e2 e3
        have hj : j < sz := by
          have h1 := (List.getElem?_eq_some_iff.1 e2).1
          rcases List.mem_append.1 (List.mem_of_getElem? e1) with hr | hr
          · rw [q2 row hr] at h1; exact h1
          · rw [hl2 row hr] at h1; exact h1
        have hM : VR M h pv u := by
          by_cases hi : i < es.length
          · have hm : (i + 1) * sz ≤ es.length * sz := Nat.mul_le_mul_right _ hi
            rw [Nat.add_mul] at hm
            rw [List.getElem?_append_left hi] at e1
            rw [List.getElem?_append_left (by omega)] at e3
            exact q4 i j row pv u e1 e2 e3
          · have hm : es.length * sz ≤ i * sz := Nat.mul_le_mul_right _ (by omega)
            rw [List.getElem?_append_right (by omega)] at e1
            rw [List.getElem?_append_right (by omega)] at e3
            refine g4 (i - es.length) j row pv u e1 e2 ?_
            rw [Nat.sub_mul, ← hus]
            rw [show i * sz + j - us.length = i * sz - us.length + j by omega] at e3
            exact e3
        exact hM.mono (.refl _) (upd_le I0.len)
    · intro e
      exact hn ⟨b, _, v, hH, hb, by rw [hblk_own hv0]; exact e.symm⟩
    · rw [← hlen] at q
      rcases Homes.push q with q | q
      · exact .inl q.kill
      · rw [hblk_own rfl] at q
        rcases g3 k q with q | q
        · exact .inl ⟨b, _, v, hH, hb, by rw [hblk_own hv0]; exact q⟩
        · exact .inr q
  obtain ⟨xo, xc, rfl⟩ := hxl
  by_cases hn : es2 = []
  · subst hn
    have hrun : (Builtin.append_ #[t, t] ty #[v, .slice xo 0 xc]).run P w = .ok v w := by
      have hn0 : n0 = es.length := by
        rcases q1.2 with ⟨e1, e2⟩ | ⟨g, cap, cur, e1, _⟩
        · rw [hv0] at e1; cases e1; exact e2.symm
        · rw [hv0] at e1; cases e1; rfl
      have hcap : es.length ≤ c0 := by
        rcases q1.2 with ⟨e1, e2⟩ | ⟨g, cap, cur, e1, _, _, e2, _⟩
        · omega
        · rw [hv0] at e1; cases e1; exact e2
      subst hn0
      subst hv0
      have hfc : (Builtin.firstCells sz 0 (.slice xo 0 xc)).run P w = .ok #[] w := by
        cases xo <;> simp [Builtin.firstCells, loadCells, loadCellsFrom, Sem.run_pure]
      cases o0 <;> simp [Builtin.append_, run_underlying ht, sizeOf, typeInfo, hi, Builtin.lenOf, hsize, hcap, hfc, storeCells]
    obtain ⟨h', s1, s2⟩ := fin v w [] (by simpa using q1) (grownBy_refl _ _) (fun k hk => .inl hk) (fun i j row pv u a => by simp at a) (by simp)
    exact ⟨h', v, w, hrun, s1, s2, grownBy_refl _ _⟩
  · obtain ⟨k, base, c, hxv, hk, hc⟩ := hxc hn
    simp only [Value.slice.injEq] at hxv
    obtain ⟨rfl, _, rfl⟩ := hxv
    let news : List Value := (List.range (es2.length * sz)).map fun j => (w.cell? ⟨k, base + j, none⟩).getD undef
    have hget : ∀ j u, news[j]? = some u → ∃ (i' j' : Nat) (row : List PV) (q : PV), j = i' * sz + j' ∧ es2[i']? = some row ∧ row[j']? = some q ∧ w.cell? ⟨k, base + j, none⟩ = some u ∧ VR M h q u ∧ u.oneCell' = true := fun j u hu => by
      simp only [news, List.getElem?_map, Option.map_eq_some_iff] at hu
      obtain ⟨j0, e1, e2⟩ := hu
      have hj0 : j < es2.length * sz ∧ j0 = j := by
        have := (List.getElem?_eq_some_iff.1 e1)
        obtain ⟨p1, p2⟩ := this
        simp at p1 p2
        exact ⟨p1, p2.symm⟩
      obtain ⟨hj1, rfl⟩ := hj0
      obtain ⟨i', j', rfl, hj'⟩ := divide (o := j0) hsz
      have hi' : i' < es2.length := by
        rcases Nat.lt_or_ge i' es2.length with q | q
        · exact q
        · have := Nat.mul_le_mul_right sz q; omega
      have er : es2[i']? = some es2[i'] := List.getElem?_eq_getElem hi'
      have hjr : j' < es2[i'].length := by rw [hl2 _ (List.getElem_mem hi')]; exact hj'
      have eq := List.getElem?_eq_getElem hjr
      obtain ⟨u', p1, p2, p3⟩ := hc i' j' _ _ er eq
      rw [p1] at e2
      simp at e2
      subst e2
      exact ⟨i', j', _, _, rfl, er, eq, p1, p2, p3⟩
    have hnl : news.length = es2.length * sz := by simp [news]
    have hone : ∀ u ∈ news, u.oneCell' = true := fun u hu => by
      obtain ⟨n, hn', e⟩ := List.getElem_of_mem hu
      obtain ⟨_, _, _, _, _, _, _, _, _, p⟩ := hget n u (by rw [← e]; exact List.getElem?_eq_getElem hn')
      exact p
    obtain ⟨v', w', r1, r2, r3, -, r5⟩ := run_append_at (P := P) (w := w) t ty e i z sz bytes ht hi hz hsize hby hzs hsz v es.length us q1 ⟨k, base, none⟩ es2.length _ news hnl (fun j u hu => by
      rw [addr_add]
      obtain ⟨_, _, _, _, _, _, _, p, _, _⟩ := hget j u hu
      exact p) hone h63 hbytes
    obtain ⟨h', s1, s2⟩ := fin v' w' news r2 r3 r5 (fun i' j' row pv u e1 e2 e3 => by
      obtain ⟨i2, j2, row2, q', p0, p1, p2, _, p4, _⟩ := hget _ u e3
      have hj1 : j' < sz := by rw [← hl2 row (List.mem_of_getElem? e1)]; exact (List.getElem?_eq_some_iff.1 e2).1
      have hj2 : j2 < sz := by rw [← hl2 row2 (List.mem_of_getElem? p1)]; exact (List.getElem?_eq_some_iff.1 p2).1
      have hij : i' = i2 ∧ j' = j2 := by
        have a1 := Nat.mul_add_div hsz i' j'
        have a2 := Nat.mul_add_div hsz i2 j2
        rw [Nat.mul_comm sz i', Nat.div_eq_of_lt hj1] at a1
        rw [Nat.mul_comm sz i2, Nat.div_eq_of_lt hj2] at a2
        have : i' = i2 := by rw [p0] at a1; omega
        subst this
        exact ⟨rfl, by omega⟩
      obtain ⟨rfl, rfl⟩ := hij
      rw [e1] at p1
      cases p1
      rw [e2] at p2
      cases p2
      exact p4) hone
    exact ⟨h', v', w', r1, s1, s2, by rw [hblk_own hv0]; exact r3⟩
/-- Rows that hold no memory. -/
def flatR (es : List (List PV)) : Prop := ∀ row ∈ es, ∀ q ∈ row, ∃ x, q = .val x
theorem flatR_map {α : Type} {f : α → List PV} (h : ∀ x, ∀ q ∈ f x, ∃ v, q = .val v) (l : List α) : flatR (l.map f) := fun row hr q hq => by
  obtain ⟨x, _, rfl⟩ := List.mem_map.1 hr
  exact h x q hq
def pcut (T : Tys) (t : TypeId) (x lo s : Operand) (d1 d2 : Tmp) (K : St → Prop) (σ : St) : Prop :=
  ∃ (b c n : Nat) (e : TypeId) (sz by' : Nat) (i ie : TI) (es es1 : List (List PV)), ev σ.tm x = .own b ∧ (∀ y, ev (σ.put (some d1) (.val y)).tm s = .own c ∧ ev (σ.put (some d1) (.val y)).tm (.tmp d1) = .val y) ∧ ev σ.tm lo = .val (.int .i64 (n : Int)) ∧ n ≤ es.length ∧
    σ.H[b]? = some (some (.row e sz es)) ∧ σ.H[c]? = some (some (.row e sz es1)) ∧ flatR es ∧ (∀ row ∈ es, row.length = sz) ∧ T t = some i ∧ i.d = .slice e sz by' ∧ T e = some ie ∧ ie.size = sz ∧ (pcellsOf (cPV ie.zero)).length = sz ∧ 0 < sz ∧ es1.length + es.length ≤ 9223372036854775807 ∧ (es1.length + es.length) * by' ≤ 140737488355328 ∧
    ∀ y, K (((⟨σ.tm, σ.H.set c none ++ [some (.row e sz (es1 ++ es.drop n))]⟩ : St).put (some d1) (.val y)).put (some d2) (.own σ.H.length))
section
variable {P : Program} {T : Tys} {E : Env}
theorem pops_okL (hT : TysOk P T) (hE : elemsOk P T) {md : Bool} (ops : Array Oper) {K : St → Prop} {Q : Exit → Act → World → Prop} {l2 : List Oper} (hq : ∀ σ' a' w', K σ' → Rel E σ' a' w' → wpList P ops Q l2 a' w') :
    ∀ (l : List Oper) (σ : St) (a : Act) (w : World), pops P T md ops K l σ → Rel E σ a w → wpList P ops Q (l ++ l2) a w
  | [], σ, a, w, hk, r => hq σ a w hk r
  | o :: rest, σ, a, w, hk, r => by
    have hw := r.elim fun M q => q.elim fun h q => wanted_eq q.2.1 ops o
    simp only [pops] at hk
    simp only [List.cons_append, wpList, hw]
    split at hk
    · rename_i hp
      rw [if_pos hp]
      exact .inl (pop_rel hT hE r hk fun pv σ' v w' h1 _ h2 => pops_okL hT hE ops hq rest _ _ w' h1 h2)
    · rename_i hp
      rw [if_neg hp]
      exact pops_okL hT hE ops hq rest _ _ w hk (r.skip o.dst)
theorem pcut_ok (hT : TysOk P T) (hE : elemsOk P T) (ops : Array Oper) {K : St → Prop} {Q : Exit → Act → World → Prop} {l2 : List Oper} (hq : ∀ σ' a' w', K σ' → Rel E σ' a' w' → wpList P ops Q l2 a' w')
    {o1 o2 : Oper} {t : TypeId} {x lo s : Operand} {d1 d2 : Tmp} (p1 : o1.op = .slice t x (some lo) none none) (p2 : o1.dst = some d1) (p3 : o1.guard = none) (g1 : o2.op = .call ⟨.builtin .append, #[s, .tmp d1], #[t, t]⟩) (g2 : o2.dst = some d2) (g3 : o2.guard = none)
    {σ : St} {a : Act} {w : World} (hk : pcut T t x lo s d1 d2 K σ) (r : Rel E σ a w) : wpList P ops Q (o1 :: o2 :: l2) a w := by
  obtain ⟨b, c, n, e, sz, by', i, ie, es, es1, hx, hs, hlo, hn, hb, hc, hfl, hrow, hi, hid, hie, hsz, hzl, hz0, b1, b2, hk⟩ := hk
  obtain ⟨M, h, st, ht, hd⟩ := r
  have I := st.inv
  obtain ⟨f, d, q1, q2, q3, q4, q5⟩ := ty_parts (hT t i hi)
  obtain ⟨fe, de, e1, e2, e3, e4, e5⟩ := ty_parts (hT e ie hie)
  rw [hid] at q3
  obtain ⟨rfl, -, rfl⟩ := td_slice q3
  have hby : fe.bytes = P.bytesOf e := by simp [Program.bytesOf, e1]
  have rz := pcellsOf_ok (cPV_vr (M := M) (h := h) ie.zero)
  have hzs : ie.zero.cells.size = sz := by rw [← rz.1, hzl]
  -- the cut
  have vx := ev_vr ht x
  rw [hx] at vx
  generalize hgv : a.eval x = vv at vx
  cases vx with
  | own _ oo nn cc hbh =>
  have hcl : ∀ row ∈ es, row.all cloC = true := fun row hr => List.all_eq_true.2 fun q hq' => by
    obtain ⟨z, rfl⟩ := hfl row hr q hq'
    rfl
  obtain ⟨M', s1, s2, s3⟩ := freeze_ok I hb hbh hcl ht
  have hlo' : pb (some (PV.val (.int .i64 (n : Int)))) 0 = some n := by simp [pb, pint]
  obtain ⟨pv, v', r1, r2, r3⟩ := pslice_ok hT hE s3 (lo := (some lo).map (ev σ.tm)) (hi := (none : Option Operand).map (ev σ.tm)) (vro_map (ht.mono s1.mle (.refl _)) (some lo)) (vro_map (ht.mono s1.mle (.refl _)) none) (t := t) (K := fun pv => pv = .sl sz ((es.drop n).take (es.length - n))) ⟨i, hi, by rw [hid]; exact ⟨es, n, es.length, rfl, by rw [Option.map_some, hlo]; exact hlo', rfl, hn, Nat.le_refl _, rfl⟩⟩
  subst r1
  have htk : (es.drop n).take (es.length - n) = es.drop n := List.take_of_length_le (by simp)
  rw [htk] at r2
  have hw1 : ∀ a : Act, Region.wanted o1 (yielded ops a.tmps) = true := fun a => by simp only [Region.wanted, p3]
  have hw2 : ∀ a : Act, Region.wanted o2 (yielded ops a.tmps) = true := fun a => by simp only [Region.wanted, g3]
  simp only [wpList, hw1, hw2, if_true]
  refine .inl (wp_value (v := v') (w' := w) ?_ (.inl ?_))
  · unfold execOp
    rw [p1]
    simp only [hgv]
    exact run_v (r3 w)
  rw [p2]
  -- what is copied
  have hs2 := hs v'
  have ht1 : TmOk M h (σ.put (some d1) (.val v')).tm (a.put (some d1) v').tmps := ht.put (.val v') (some d1)
  have vs := ev_vr ht1 s
  have vt := ev_vr ht1 (.tmp d1)
  rw [hs2.1] at vs
  rw [hs2.2] at vt
  have hv2 := vr_val vt
  generalize hgs : (a.put (some d1) v').eval s = ss at vs
  cases vs with
  | own _ co cn cc2 hch =>
  have hl2 : ∀ row ∈ es.drop n, row.length = sz := fun row hr => hrow row (List.mem_of_mem_drop hr)
  have hxl : ∃ xo xc, v' = .slice xo (es.drop n).length xc := pelems_len s1.inv r2 rfl
  have hxc : es.drop n ≠ [] → ∃ k base c, v' = .slice (some ⟨k, base, none⟩) (es.drop n).length c ∧ k < w.heap.size ∧ ∀ (i j : Nat) (row : List PV) (q : PV), (es.drop n)[i]? = some row → row[j]? = some q → ∃ u, w.cell? ⟨k, base + (i * sz + j), none⟩ = some u ∧ VR M h q u ∧ u.oneCell' = true := fun hne => by
    obtain ⟨k, base, c', h1, h2, h3⟩ := pelems_at s1.inv r2 rfl hne sz hl2 hz0
    refine ⟨k, base, c', h1, h2, fun i j row q a1 a2 => ?_⟩
    obtain ⟨u, u1, u2, u3⟩ := h3 i j row q a1 a2
    obtain ⟨z, rfl⟩ := hfl row (List.mem_of_mem_drop (List.mem_of_getElem? a1)) q (List.mem_of_getElem? a2)
    have := vr_val u2
    subst this
    exact ⟨_, u1, .val _, u3⟩
  have hdl : (es.drop n).length ≤ es.length := by simp
  have hm := Nat.mul_le_mul_right (P.bytesOf e) (Nat.add_le_add_left hdl es1.length)
  obtain ⟨h', v2, w', z1, z2, z3, z9⟩ := append_ok2 (P := P) (x := v') (es2 := es.drop n) I hc hch hxl hxc hl2 t o2.type fe ie.zero (P.bytesOf e) q2 e1 e5 (by rw [e4, hsz]) hby hzs hz0 (by unfold maxLen; omega) (by omega)
  refine wp_value (v := v2) (w' := w') ?_ (hq _ _ _ (hk v') ?_)
  · unfold execOp
    rw [g1]
    simp only [resolve, invoke, builtin, Sem.run_bind, Sem.run_pure, Result.andThen_ok, List.map_toArray, List.map_cons, List.map_nil, hgs, hv2, z1]
  · rw [g2]
    refine ⟨M, h', ?_, ?_, by rw [Act.put_defers', Act.put_defers']; exact hd⟩
    · rw [St.put_H, St.put_H]
      exact st.trans z2
    · exact (((ht.mono z2.mle z2.hle).put (σ := ⟨σ.tm, _⟩) (.val v') (some d1)).put z3 (some d2))
theorem PWp.regionCut {Q : Exit → St → Prop} {σ : St} {N : Nat} (ok : Ok P T) (md : Bool) {id : Nat} {l : List Oper} (k : Nat) {o1 o2 : Oper} {t : TypeId} {x lo s : Operand} {d1 d2 : Tmp}
    (h1 : l = l.take k ++ o1 :: o2 :: l.drop (k + 2)) (p1 : o1.op = .slice t x (some lo) none none) (p2 : o1.dst = some d1) (p3 : o1.guard = none) (g1 : o2.op = .call ⟨.builtin .append, #[s, .tmp d1], #[t, t]⟩) (g2 : o2.dst = some d2) (g3 : o2.guard = none)
    (h : pops P T md l.toArray (pcut T t x lo s d1 d2 (fun σ' => pops P T md l.toArray (Q .normal) (l.drop (k + 2)) σ')) (l.take k) σ) : PWp P N (.region id l.toArray false) Q σ := fun _ _ _ _ r => by
  refine wp_region_lit ?_
  have key := pops_okL ok.ty ok.el l.toArray (Q := QL _ Q) (l2 := o1 :: o2 :: l.drop (k + 2)) (fun σ' a' w' hk r' => pcut_ok ok.ty ok.el l.toArray (fun σ2 a2 w2 hk2 r2 => pops_ok ok.ty ok.el l.toArray (fun σ3 _ _ h3 h4 => ⟨σ3, h3, h4⟩) (l.drop (k + 2)) σ2 a2 w2 hk2 r2) p1 p2 p3 g1 g2 g3 hk r') (l.take k) σ _ _ h r
  rw [← h1] at key
  exact key
end
end Go.Proofs.Ytkbikihbomnghaa

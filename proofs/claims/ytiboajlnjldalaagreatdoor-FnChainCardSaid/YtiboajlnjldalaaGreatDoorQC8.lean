/- What the proof leans on, part 8. -/
import Derived.Test.YtiboajlnjldalaaGreatDoorQC7
namespace Go.Proofs.YtiboajlnjldalaaGreatDoor
set_option linter.unusedSimpArgs false
set_option linter.unusedVariables false
open Go.RowKit
set_option maxRecDepth 100000
theorem iChainOf_n (seed : ByteArray) (n : Int) (hn : inB n 1 12 = false) : PCalls Tryz.prog 13 [.val (.string seed), .val (.int .i64 n)] [] (RH (.val (.slice none 0 0)) []) := by
  refine pcalls_ofR okP Tryz.func13 rfl ?_
  simp only [Tryz.f13, List.length_cons, List.length_nil, Nat.reduceAdd, Nat.reduceSub, List.replicate_succ, List.replicate_zero, List.cons_append, List.nil_append, List.length_map]
  repeat' (first | with_reducible (first | refine wA ?_ | refine wB ?_ | refine wC ?_ | refine w1 ?_ | refine w2 ?_ | refine w3 ?_ | refine w4 ?_ | refine w5 ?_ | refine w6 ?_ | refine w7 ?_ | refine w8 ?_ | refine wT ?_ | refine w9 ?_ | refine wE ?_ | refine wS ?_) | ((with_reducible refine hK _ ?_); clear hK K) | ((with_reducible refine PWp.condI ?_); refine ⟨_, rfl, fun hg => ?_, fun hg => ?_⟩ <;> first | (exact absurd hg (by decide)) | ((try simp only [Bool.not_true, Bool.not_false] at hg); (try simp only [hg]); (try simp only [push_cast] at hg); (try exact absurd trivial hg); (try (exfalso; omega)))) | ((with_reducible refine pops_plain fun K hK => popO_row ?_); refine ⟨_, _, _, _, _, rfl, rfl, rfl, rfl, rfl, ?_⟩; simp (disch := omega) only [push_cast, seval, hn]) | ((with_reducible refine pops_plain fun K hK => popO_build ?_); refine ⟨_, rfl, _, rfl, ?_⟩; simp (disch := omega) only [push_cast, seval, hn]) | ((with_reducible refine pbuild_cs ?_); refine ⟨_, rfl, _, rfl, ?_⟩; simp (disch := omega) only [push_cast, seval, hn]) | ((with_reducible refine pops_plain fun K hK => ?_); simp (disch := omega) only [push_cast, seval, hn]) | ((with_reducible show pcall _ _ _ _ _ _); (first | (refine pcV (cf Tryz.func77) (within_p _ _ _) ?_)); (try simp (disch := omega) only [push_cast, seval, hn])) | ((with_reducible refine And.intro ?_ ?_); omega))
  ((with_reducible show PPostR _ _ _ _ _ _); exact finH [])
theorem iChainOf_q (seed : ByteArray) (n : Int) (hs : seed.size ≤ 2000000) : PCalls Tryz.prog 13 [.val (.string seed), .val (.int .i64 n)] [] (RH (.sl 12 ((chainOf seed n).map pBlock)) []) := by
  cases hin : inB n 1 12 with
  | true =>
    have := inB_iff.1 hin
    obtain ⟨k, rfl⟩ : ∃ k : Nat, n = k := ⟨n.toNat, by omega⟩
    unfold chainOf
    rw [if_pos hin, Int.toNat_natCast]
    exact iChainOf_p seed k hs (by omega)
  | false =>
    have c := (iChainOf_n seed n hin).nilUp (R' := RH (.own 0) [some (.row 36 12 [])]) 36 12 fun r H ⟨a, b⟩ => by
      subst a; subst b
      exact ⟨_, .inr (.inl ⟨rfl, rfl⟩), rfl, rfl⟩
    unfold chainOf
    rw [if_neg (by simp [hin])]
    exact c.thawH 0 [] rfl (fun _ h => by cases h) rfl rfl trivial trivial
theorem sChainOf_n (seed : ByteArray) (n : Int) (hn : inB n 1 12 = false) : PCalls Tryz.prog 14 [.val (.string seed), .val (.int .i64 n)] [] (RH (.own 0) [some (.row 36 12 [])]) := by
  refine pcalls_ofR okP Tryz.func14 rfl ?_
  simp only [Tryz.f14, List.length_cons, List.length_nil, Nat.reduceAdd, Nat.reduceSub, List.replicate_succ, List.replicate_zero, List.cons_append, List.nil_append, List.length_map]
  repeat' (first | with_reducible (first | refine wA ?_ | refine wB ?_ | refine wC ?_) | with_reducible refine PWp.draw (id := 15) okP true [0, 1, 2, 3, 4, 5, 6, 7, 8, 9, 10, 11, 12, 13, 14, 15, 16, 17] (by kernel_rfl) ?_ | with_reducible refine PWp.drawT (id := 17) okP true (.step 0 (.step 1 (.step 2 (.step 3 (.step 5 (.step 7 (.step 8 (.step 9 (.fork (.alt 4 (.fork (.alt 6 (.fork (.alt 10 (.step 11 (.step 12 (.step 13 .done))) (.alt 12 (.step 10 (.step 11 (.step 13 .done))) .stop))) (.alt 12 (.step 6 (.step 10 (.step 11 (.step 13 .done)))) .stop))) (.alt 12 (.step 4 (.step 6 (.step 10 (.step 11 (.step 13 .done))))) .stop))))))))))) (by kernel_rfl) ?_ | with_reducible refine PWp.drawT (id := 18) okP true (.step 0 (.step 1 (.step 2 (.step 3 (.step 4 (.fork (.alt 5 (.fork (.alt 6 (.step 7 (.step 8 (.step 9 .done))) (.alt 8 (.step 6 (.step 7 (.step 9 .done))) .stop))) (.alt 8 (.step 5 (.step 6 (.step 7 (.step 9 .done)))) .stop)))))))) (by kernel_rfl) ?_ | with_reducible (first | refine w1 ?_ | refine w2 ?_ | refine w3 ?_ | refine w4 ?_ | refine w5 ?_ | refine w6 ?_ | refine w7 ?_ | refine w8 ?_ | refine wT ?_ | refine w9 ?_ | refine wE ?_ | refine wS ?_) | ((with_reducible refine hK _ ?_); clear hK K) | ((with_reducible refine PWp.condI ?_); refine ⟨_, rfl, fun hg => ?_, fun hg => ?_⟩ <;> first | (exact absurd hg (by decide)) | ((try simp only [Bool.not_true, Bool.not_false] at hg); (try simp only [hg]); (try simp only [push_cast] at hg); (try exact absurd trivial hg); (try (exfalso; omega)))) | ((first | ((with_reducible refine pops_guard0 ?_); refine ⟨_, rfl, fun K hK => ⟨rfl, ?_⟩⟩) | ((with_reducible refine pD_g0 ?_); refine ⟨_, rfl, rfl, ?_⟩)); (try simp (disch := omega) only [push_cast, seval, hn])) | with_reducible (first | refine ptree_done ?_ | exact ptree_stop | refine ptree_fork ?_) | ((with_reducible refine ptree_I ?_); refine ⟨_, rfl, fun K hK => ?_⟩) | ((with_reducible refine ptree_A ?_ ?_); (refine ⟨_, rfl, fun K hK => ?_⟩)) | ((with_reducible refine pany_I ?_); refine ⟨_, rfl, fun K hK => ?_⟩) | ((with_reducible refine pops_plain fun K hK => popO_row ?_); refine ⟨_, _, _, _, _, rfl, rfl, rfl, rfl, rfl, ?_⟩; simp (disch := omega) only [push_cast, seval, hn]) | ((with_reducible refine pD_x ?_ (popO_row ?_)); exact rfl; refine ⟨_, _, _, _, _, rfl, rfl, rfl, rfl, rfl, ?_⟩; simp (disch := omega) only [push_cast, seval, hn]) | ((with_reducible refine pops_plain fun K hK => popO_build ?_); refine ⟨_, rfl, _, rfl, ?_⟩; simp (disch := omega) only [push_cast, seval, hn]) | ((with_reducible refine pD_y ?_ (py_build ?_)); exact rfl; refine ⟨_, rfl, _, rfl, ?_⟩; simp (disch := omega) only [push_cast, seval, hn]) | ((with_reducible refine pbuild_cs ?_); refine ⟨_, rfl, _, rfl, ?_⟩; simp (disch := omega) only [push_cast, seval, hn]) | ((with_reducible refine pops_plain fun K hK => ?_); simp (disch := omega) only [push_cast, seval, hn]) | ((first | ((with_reducible refine pD_y ?_ ?_); exact rfl) | ((with_reducible refine pD_x ?_ ?_); exact rfl)); simp (disch := omega) only [push_cast, seval, hn]) | ((first | ((with_reducible refine pops_guard ?_); refine ⟨_, rfl, fun K hK => ⟨_, rfl, fun hg => ?_, fun hg => ?_⟩⟩) | ((first | ((with_reducible refine pD_gy ?_ ?_); exact rfl) | ((with_reducible refine pD_gx ?_ ?_); exact rfl)); refine ⟨_, rfl, _, rfl, fun hg => ?_, fun hg => ?_⟩)) <;> first | (exact absurd hg (by decide)) | ((try simp only [Bool.not_true, Bool.not_false] at hg); (try simp only [hg]); (try simp only [push_cast] at hg); (try exact absurd trivial hg); (try (exfalso; omega)); (try simp (disch := omega) only [push_cast, seval, hn]))) | ((with_reducible show pcall _ _ _ _ _ _); (first | (refine pcV (cf Tryz.func72) (sHeadId_p ⟨_, _, _, _, _, _⟩) ?_) | (refine pcV (cf Tryz.func79) (l1In_p _ _ _) ?_) | (refine pcV (cf Tryz.func80) (sSha_p _ sd) ?_) | (refine pcV (cf Tryz.func81) (sDec_p _ sd) ?_) | (refine pcV (cf Tryz.func83) (sValsHash_p _ sd) ?_) | (refine pcH (cf Tryz.func84) (sL9For_p ⟨_, _, _, _, _, _⟩ _ _ sd) ?_) | (refine pcH (cf Tryz.func85) (sL22Ids_p _ sd) ?_) | (refine pcF (cf Tryz.func86) (sL22Copy_p ⟨⟨_, _, _, _, _, _⟩, _, _, ⟨_, _, _, _⟩⟩ (by first | assumption | exact ⟨by (first | assumption | omega | (simp; omega) | (simp_all; done) | (simp_all; omega)), by (first | assumption | omega | (simp; omega) | (simp_all; done) | (simp_all; omega)), by (first | assumption | omega | (simp; omega) | (simp_all; done) | (simp_all; omega))⟩)) ?_)); (try simp (disch := omega) only [push_cast, seval, hn])) | ((with_reducible refine And.intro ?_ ?_); omega))
  ((with_reducible show PPostR _ _ _ _ _ _); exact finH [_])
theorem sChainOf_q (seed : ByteArray) (n : Int) (hs : seed.size ≤ 2000000) : PCalls Tryz.prog 14 [.val (.string seed), .val (.int .i64 n)] [] (RH (.sl 12 ((chainOf seed n).map pBlock)) []) := by
  cases hin : inB n 1 12 with
  | true =>
    have := inB_iff.1 hin
    obtain ⟨k, rfl⟩ : ∃ k : Nat, n = k := ⟨n.toNat, by omega⟩
    unfold chainOf
    rw [if_pos hin, Int.toNat_natCast]
    exact sChainOf_p seed k hs (by omega)
  | false =>
    unfold chainOf
    rw [if_neg (by simp [hin])]
    exact (sChainOf_n seed n hin).thawH 0 [] rfl (fun _ h => by cases h) rfl rfl trivial trivial
theorem cq_len (s : ByteArray) (n : Int) : (chainOf s n).length ≤ 12 := by
  unfold chainOf
  split
  · rename_i h
    have := inB_iff.1 h
    rw [chainTo_len]; omega
  · exact Nat.zero_le _
theorem cq_len1 (s : ByteArray) (n : Nat) (h : 1 ≤ n ∧ n ≤ 12) : (chainOf s n).length = n := by
  unfold chainOf
  rw [if_pos (inB_iff.2 ⟨by omega, by omega⟩), chainTo_len, Int.toNat_natCast]
theorem cq_get (s : ByteArray) (n : Int) : ∀ i, i < (chainOf s n).length → (chainOf s n)[i]? = some (chainAt s i) := by
  unfold chainOf
  split
  · intro i hi
    rw [chainTo_len] at hi
    exact chainTo_get hi
  · intro i hi
    exact absurd hi (Nat.not_lt_zero _)
theorem cq_mem {s : ByteArray} {n : Int} {b : GBlock} (hb : b ∈ chainOf s n) : ∃ i, i < 12 ∧ b = chainAt s i := by
  obtain ⟨i, hi, rfl⟩ := List.getElem_of_mem hb
  have e := cq_get s n i hi
  rw [List.getElem?_eq_getElem hi] at e
  exact ⟨i, by have := cq_len s n; omega, Option.some.inj e⟩
theorem cq_ok {s : ByteArray} {n : Int} : ∀ b ∈ chainOf s n, blockOk b = true := fun b hb => by
  obtain ⟨i, hi, rfl⟩ := cq_mem hb
  exact (chainAt_good s i (by omega)).ok
theorem cq_sm {s : ByteArray} {n : Int} : ∀ b ∈ chainOf s n, SmB b := fun b hb => by
  obtain ⟨i, hi, rfl⟩ := cq_mem hb
  exact (chain_sm s 100 (by omega) _ (List.mem_of_getElem? (chainTo_get (by omega)))).1
theorem pickN8 (c : Cur) : PCalls Tryz.prog 76 [.ptr 0 0, .own 1] [some (.box (pCur c)), some (.row 3 1 [[.val (.int .i64 1)], [.val (.int .i64 2)], [.val (.int .i64 3)], [.val (.int .i64 5)], [.val (.int .i64 12)], [.val (.int .i64 13)], [.val (.int .i64 0)], [.val (.int .i64 (-1))]])] (RX (α := Int × Cur) (fun x => .val (.int .i64 x.1)) (fun x => [some (.box (pCur x.2)), some (.row 3 1 [[.val (.int .i64 1)], [.val (.int .i64 2)], [.val (.int .i64 3)], [.val (.int .i64 5)], [.val (.int .i64 12)], [.val (.int .i64 13)], [.val (.int .i64 0)], [.val (.int .i64 (-1))]])]) fun _ => True) := sPickV_p c [1, 2, 3, 5, 12, 13, 0, -1] (by decide) (by decide)
theorem sDrawChainOf_p (code : List UInt8) (hc : code.length ≤ 1048576) : PCalls Tryz.prog 12 [.sl 1 (code.map pU8)] [] (RX (α := ByteArray × Int) (fun x => .tup [.val (.string x.1), .val (.int .i64 x.2)]) (fun _ => []) fun | (s, _) => s.size ≤ 5 ∧ True) := by
  refine pcalls_ofR okP Tryz.func12 rfl ?_
  simp only [Tryz.f12, List.length_cons, List.length_nil, Nat.reduceAdd, Nat.reduceSub, List.replicate_succ, List.replicate_zero, List.cons_append, List.nil_append, List.length_map]
  repeat' (first | with_reducible (first | refine wA ?_ | refine wB ?_ | refine wC ?_ | refine w1 ?_ | refine w2 ?_ | refine w3 ?_ | refine w4 ?_ | refine w5 ?_ | refine w6 ?_ | refine w7 ?_ | refine w8 ?_ | refine wT ?_ | refine w9 ?_ | refine wE ?_ | refine wS ?_) | ((with_reducible refine hK _ ?_); clear hK K) | ((with_reducible refine pops_plain fun K hK => popO_row ?_); refine ⟨_, _, _, _, _, rfl, rfl, rfl, rfl, rfl, ?_⟩; simp (disch := omega) only [push_cast, seval]) | ((with_reducible refine pops_plain fun K hK => ?_); simp (disch := omega) only [push_cast, seval]) | ((with_reducible show pcall _ _ _ _ _ _); (first | (refine pcall_X1 (cf Tryz.func74) (by ((try simp (disch := omega) only [push_cast, seval]); first | done | exact rfl)) (sL1New_p _ sd) ?_; rintro c _) | (refine pcall_XG (cf Tryz.func75) [?_] ?_ ?_ ?_ (sL1Text_p ?_ ?_ ?_ ?_) ?_; (any_goals ((with_reducible show (_ : List PV) = renL _ _ _); ((try simp (disch := omega) only [push_cast, seval]); (repeat' (first | exact trivial | exact rfl | refine And.intro ?_ ?_ | omega))))); (any_goals ((with_reducible show blkE _ _ _ _ _); (repeat' (first | exact trivial | refine And.intro ?_ ?_ | exact ⟨_, rfl⟩ | (simp (disch := omega) only [push_cast, seval]; done) | exact rfl)))); (any_goals ((with_reducible show nodupR _ = true); exact rfl)); rotate_right 1; rintro ⟨s, c⟩ ⟨hs, -⟩; (rotate_left 1; (all_goals (try (first | omega | exact (show _ = _ by assumption)))); rotate_right 1)) | (refine pcall_XG (cf Tryz.func76) [?_, ?_] ?_ ?_ ?_ (pickN8 ?_) ?_; (any_goals ((with_reducible show (_ : List PV) = renL _ _ _); ((try simp (disch := omega) only [push_cast, seval]); (repeat' (first | exact trivial | exact rfl | refine And.intro ?_ ?_ | omega))))); (any_goals ((with_reducible show blkE _ _ _ _ _); (repeat' (first | exact trivial | refine And.intro ?_ ?_ | exact ⟨_, rfl⟩ | (simp (disch := omega) only [push_cast, seval]; done) | exact rfl)))); (any_goals ((with_reducible show nodupR _ = true); exact rfl)); rotate_right 1; rintro ⟨y, c⟩ -; (rotate_left 1; (all_goals (try (first | omega | exact (show _ = _ by assumption)))); rotate_right 1))); (try simp (disch := omega) only [push_cast, seval])) | ((with_reducible refine And.intro ?_ ?_); omega))
  ((first | with_reducible (first | refine pendX1 (?_, ?_) [] ?_ ?_ ?_ ?_ ?_ ?_ | refine pendX2 (?_, ?_) [] ?_ ?_ ?_ ?_ ?_ ?_ | refine pendX3 (?_, ?_) [] ?_ ?_ ?_ ?_ ?_ ?_ | refine pendX0 (?_, ?_) [] ?_ ?_ ?_ ?_ ?_ ?_) | refine pendXG (?_, ?_) [] ?_ ?_ ?_ ?_ ?_ ?_); (try (any_goals ((with_reducible show ∃ _ : List PV, _); (apply Exists.intro; apply And.intro; (· repeat' (first | exact presults_nil | apply presults_tmp | (apply presults_agg; (· exact rfl); (· exact rfl); (· exact rfl); (· exact rfl); (· exact rfl); (· first | exact Nat.le_refl _ | decide | simp)) | (apply presults_one; (· exact rfl); (· exact rfl); (· exact rfl); (· exact rfl); (· exact rfl)))))))); (any_goals ((with_reducible show _ ∨ _); (first | exact Or.inl rfl | exact Or.inr rfl))); (any_goals ((with_reducible show (_ : PV) = _); ((try simp (disch := omega) only [push_cast, seval]); (repeat' (first | exact trivial | exact rfl | refine And.intro ?_ ?_ | omega))))); (any_goals ((with_reducible show blkR _ _ _ _ _); ((try simp (disch := omega) only [push_cast, seval]); (repeat' (first | exact trivial | exact rfl | refine And.intro ?_ ?_ | omega))))); (any_goals ((with_reducible show nodupR _ = true); exact rfl)); (any_goals ((with_reducible show preR _ _); (first | exact trivial | exact ⟨rfl, trivial⟩ | exact ⟨rfl, rfl, trivial⟩ | exact ⟨rfl, rfl, rfl, trivial⟩))))
  exact ⟨by first | omega | (dsimp only; omega), trivial⟩
end Go.Proofs.YtiboajlnjldalaaGreatDoor
namespace Go.Proofs.YtiboajlnjldalaaGreatDoor
set_option linter.unusedSimpArgs false
set_option linter.unusedVariables false
open Go.RowKit
set_option maxRecDepth 100000
def wany (P : Program) (ops : Array Oper) (K : Act → World → Prop) : List Nat → Act → World → Prop
  | [], a, w => K a w
  | i :: rest, a, w => ∃ o v, ops[i]? = some o ∧ o.guard = none ∧
      ((kindOp o.op ≤ 1 ∧ (∀ w', (execOp a.eval o).run P w' = .ok (.value v) w') ∧ wany P ops K rest (a.put o.dst v) w) ∨
        (kindOp o.op = 3 ∧ ∃ w', (execOp a.eval o).run P w = .ok (.value v) w' ∧ wany P ops K rest (a.put o.dst v) w'))
section
variable {P : Program} {T : Tys} {E : Env}
theorem wany_ok (ops : Array Oper) (hs : Region.noSelect ops = true) {K : Act → World → Prop} {Q : Exit → Act → World → Prop} (hpan : ∀ c a w, Q (.panic c) a w → False) (hq : ∀ a w, K a w → Q .normal a w) :
    ∀ (ord : List Nat) (fuel : Nat) (listed : Array Bool) (a : Act) (w : World), ord.length ≤ fuel → ordOk ops ord listed = true → ClosedL ops listed → wany P ops K ord a w → wpE P ops Q fuel listed a w
  | [], fuel, listed, a, w, _, ho, _, hk => by
    have hr : Region.ready .any ops listed = [] := by simpa [ordOk] using ho
    cases fuel with
    | zero => exact ⟨hr, hq a w hk⟩
    | succ fuel => exact ⟨fun _ => hq a w hk, by rw [hr]; simp⟩
  | i :: rest, 0, _, _, _, hl, _, _, _ => by simp at hl
  | i :: rest, fuel + 1, listed, a, w, hl, ho, hcl, hk => by
    simp only [ordOk, Bool.and_eq_true] at ho
    obtain ⟨⟨h1, h2⟩, h3⟩ := ho
    have hi : i ∈ Region.ready .any ops listed := by simpa using h1
    obtain ⟨o, v, hio, hg, hk⟩ := hk
    have hw : Region.wanted o (yielded ops a.tmps) = true := by simp only [Region.wanted, hg]
    have hka : kindAt ops i = kindOp o.op := by simp [kindAt, hio]
    rw [hka] at h2
    have next := wany_ok ops hs hpan hq rest fuel (listed.setIfInBounds i true)
    have hl' : rest.length ≤ fuel := by simpa using hl
    rcases hk with ⟨hkd, hrun, hk⟩ | ⟨hkd, w', hrun, hk⟩
    · rw [if_pos hkd, Bool.and_eq_true] at h2
      have hfree := Region.free_spec hio h2.1
      have hside : ∀ j oj, ops[j]? = some oj → j ≠ i → listed.getD j true = false → ((∀ e ∈ oj.after, Region.binds .any e = true → e.on ≠ i) → o.apart ops oj = true) ∧ ((kindOp o.op == 1) = true → waits ops i 6 j = false → kindAt ops j ≤ 2) := fun j oj hj hji hun => by
        refine ⟨fun hno => hfree j oj hj hji hun hno, fun hk1 hnw => ?_⟩
        have hk1' : kindOp o.op = 1 := by simpa using hk1
        have h22 := h2.2
        simp only [hk1', Bool.or_eq_true, beq_iff_eq, List.all_eq_true, List.mem_range] at h22
        rcases h22 with q | q
        · cases q
        · have hjl : j < ops.size := (Array.getElem?_eq_some_iff.1 hj).1
          rcases q j hjl with ((q | q) | q) | q
          · rw [hun] at q; cases q
          · exact absurd q hji
          · simpa using q
          · rw [hnw] at q; cases q
      have hk2 : kindAt ops i ≤ 2 := by rw [hka]; omega
      exact wpE_first (v := v) hio (noSelect_all hs) hpan (kindOp o.op == 1) fuel listed a w hside hcl hk2 hi (.inl ⟨hw, fun w' _ => hrun w'⟩) (next _ w hl' h3 (hcl.set hi) hk)
    · have hkn : ¬ kindOp o.op ≤ 1 := by omega
      rw [if_neg hkn] at h2
      have hrd : Region.ready .any ops listed = [i] := by simpa using h2
      refine ⟨(fun h0 => by rw [hrd] at h0; cases h0), fun j hj => ?_⟩
      rw [hrd, List.mem_singleton] at hj
      subst hj
      unfold wpOp
      simp only [hio, hw, if_true]
      refine .inl (wp_value (v := v) (w' := w') hrun ⟨fun hle => ?_, next _ w' hl' h3 (hcl.set hi) hk⟩)
      rw [hka] at hle
      omega
theorem PWp.raw (ok : Ok P T) {Q : Exit → St → Prop} {σ : St} {N : Nat} {id : Nat} {ops : Array Oper} (ord : List Nat) (ho : (Region.noSelect ops && decide (ord.length ≤ ops.size) && ordOk ops ord (Array.replicate ops.size false)) = true)
    (h : ∀ E a w, Rel E σ a w → wany P ops (fun a' w' => ∃ σ', Q .normal σ' ∧ Rel E σ' a' w') ord a w) : PWp P N (.region id ops true) Q σ := fun E a w _ r => by
  simp only [Bool.and_eq_true, decide_eq_true_eq] at ho
  refine wp_region_any ok.mix (wpAny_of_E _ _ _ _ ?_)
  refine wany_ok ops ho.1.1 (fun _ _ _ q => q) (fun a' w' q => q) ord ops.size _ a _ ho.1.2 ho.2 (ClosedL.start _ _) (h E a _ ?_)
  obtain ⟨M, hh, s, t, d⟩ := r
  refine ⟨M, hh, s.trans (Step.ext s.inv ?_), t, d⟩
  exact (Ext.refl w).drew
end
theorem sl_run {P : Program} {t e : TypeId} {M : Mem} {h : Home} (ht : P.underlying t = some (.slice e)) (hi : P.cellsOf e ≠ 0 ∨ (P.info? e).isSome) (g n cap l k : Nat) {lo hh : Option PV} {vlo vhi : Option Value} (rl : VRo M h lo vlo) (rh : VRo M h hh vhi) (hl : pb lo 0 = some l) (hk : pb hh n = some k) (h1 : l ≤ k) (h2 : k ≤ cap) (w : World) :
    (Instr.sliceAt t (.slice (some ⟨g, 0, none⟩) n cap) vlo vhi none).run P w = .ok (.slice (if cap = l then some ⟨g, 0, none⟩ else some ⟨g, l * P.cellsOf e, none⟩) (k - l) (cap - l)) w := by
  have hb := bounds_ok (P := P) rl rh hl hk h1 h2 true w
  simp only [Instr.sliceAt, Instr.slice, Sem.run_bind, run_underlying ht, Result.andThen_ok, hb, sizeOf_cells hi, Sem.run_pure]
  by_cases hc : cap = l
  · simp [hc]
  · have hc2 : ¬ cap - l = 0 := by omega
    simp [hc, hc2, Addr.add]
    exact fun q => q.symm
theorem del_row12 {b cap m k : Nat} {us : List Value} {w : World} {e : TypeId} (hown : w.ownsRow 0 e 12 (.slice (some ⟨b, 0, none⟩) (m + 1) cap) (m + 1) us) (hk : k ≤ m) :
    (w.setCells b (k * 12) (us.drop ((k + 1) * 12))).ownsRow 0 e 12 (.slice (some ⟨b, 0, none⟩) (m + 1) cap) (m + 1) (us.take (k * 12) ++ us.drop ((k + 1) * 12) ++ us.drop (m * 12)) ∧ w.grownBy (w.setCells b (k * 12) (us.drop ((k + 1) * 12))) (some b) := by
  rcases hown with ⟨hul, ⟨h0, _⟩ | ⟨g, cap', cur, hv, hbase, hb, hncap, hmax, hcur, hcells⟩⟩
  · cases h0
  cases hv
  have hdl : (us.drop ((k + 1) * 12)).length = (m - k) * 12 := by rw [List.length_drop, hul]; omega
  obtain ⟨c1, g1, g2, g3⟩ := setCells_heapV (us.drop ((k + 1) * 12)) (k * 12) w cur hb (by omega)
  have ul : ∀ j, j < (m + 1) * 12 → us[j]? = cur[j]? := fun j hj => by rw [← hcells, List.getElem?_take, if_pos hj]; simp
  refine ⟨⟨by simp only [List.length_append, List.length_take, List.length_drop, hul]; omega, .inr ⟨b, cap, c1, rfl, Nat.zero_le _, g1, hncap, hmax, by omega, ?_⟩⟩, grown_setCellsV _ _ _⟩
  apply List.ext_getElem?
  intro j
  rw [List.getElem?_take]
  by_cases hj : j < (m + 1) * 12
  · rw [if_pos hj, Array.getElem?_toList, g3 j, hdl]
    by_cases h1 : m * 12 ≤ j
    · rw [if_neg (by omega), List.getElem?_append_right (by simp only [List.length_append, List.length_take, hdl, hul]; omega), List.getElem?_drop, ← ul j hj]
      congr 1
      simp only [List.length_append, List.length_take, hdl, hul]
      omega
    · rw [List.getElem?_append_left (by simp only [List.length_append, List.length_take, hdl, hul]; omega)]
      by_cases h2 : k * 12 ≤ j
      · rw [if_pos (by omega), List.getElem?_append_right (by simp only [List.length_take, hul]; omega)]
        congr 1
        simp only [List.length_take, hul]
        omega
      · rw [if_neg (by omega), List.getElem?_append_left (by simp only [List.length_take, hul]; omega), List.getElem?_take, if_pos (by omega), ul j hj]
  · rw [if_neg hj, List.getElem?_eq_none (by simp only [List.length_append, List.length_take, List.length_drop, hul]; omega)]
theorem del_br12 {M : Mem} {h : Home} {w w' : World} {v : Value} {e : TypeId} {es : List (List PV)} {us : List Value} {m k : Nat} (hm : es.length = m + 1) (hk : k ≤ m) (hv : ∃ o n c, v = .slice o n c) (hul : us.length = (m + 1) * 12)
    (ho : w'.ownsRow 0 e 12 v (m + 1) (us.take (k * 12) ++ us.drop ((k + 1) * 12) ++ us.drop (m * 12))) (hr : ∀ row ∈ es, row.length = 12) (h1 : ∀ u ∈ us, u.oneCell' = true)
    (q : ∀ (i j : Nat) (row : List PV) (pv : PV) (u : Value), es[i]? = some row → row[j]? = some pv → us[i * 12 + j]? = some u → VR M h pv u) : BR M h w' v (.row e 12 (es.take k ++ es.drop (k + 1) ++ es.drop m)) := by
  have hlen : (es.take k ++ es.drop (k + 1) ++ es.drop m).length = m + 1 := by simp only [List.length_append, List.length_take, List.length_drop, hm]; omega
  refine ⟨hv, _, by rw [hlen]; exact ho, fun row hrow => ?_, fun u hu => ?_, fun i j row pv u a b d => ?_⟩
  · simp only [List.mem_append] at hrow
    rcases hrow with (hrow | hrow) | hrow
    · exact hr row (List.mem_of_mem_take hrow)
    · exact hr row (List.mem_of_mem_drop hrow)
    · exact hr row (List.mem_of_mem_drop hrow)
  · simp only [List.mem_append] at hu
    rcases hu with (hu | hu) | hu
    · exact h1 u (List.mem_of_mem_take hu)
    · exact h1 u (List.mem_of_mem_drop hu)
    · exact h1 u (List.mem_of_mem_drop hu)
  · by_cases h2 : i < m
    · have tl : (es.take k ++ es.drop (k + 1)).length = m := by simp only [List.length_append, List.length_take, List.length_drop, hm]; omega
      rw [List.getElem?_append_left (by omega)] at a
      by_cases h3 : i < k
      · rw [List.getElem?_append_left (by simp only [List.length_take]; omega), List.getElem?_take, if_pos h3] at a
        have hj : j < 12 := by rw [← hr row (List.mem_of_getElem? a)]; exact (List.getElem?_eq_some_iff.1 b).1
        rw [List.getElem?_append_left (by simp only [List.length_append, List.length_take, List.length_drop, hul]; omega), List.getElem?_append_left (by simp only [List.length_take, hul]; omega), List.getElem?_take, if_pos (by omega)] at d
        exact q i j row pv u a b d
      · rw [List.getElem?_append_right (by simp only [List.length_take]; omega), List.getElem?_drop, List.length_take, show k + 1 + (i - min k es.length) = i + 1 by omega] at a
        have hj : j < 12 := by rw [← hr row (List.mem_of_getElem? a)]; exact (List.getElem?_eq_some_iff.1 b).1
        rw [List.getElem?_append_left (by simp only [List.length_append, List.length_take, List.length_drop, hul]; omega), List.getElem?_append_right (by simp only [List.length_take, hul]; omega), List.getElem?_drop, List.length_take, show (k + 1) * 12 + (i * 12 + j - min (k * 12) us.length) = (i + 1) * 12 + j by omega] at d
        exact q (i + 1) j row pv u a b d
    · have tl : (es.take k ++ es.drop (k + 1)).length = m := by simp only [List.length_append, List.length_take, List.length_drop, hm]; omega
      rw [List.getElem?_append_right (by omega), List.getElem?_drop, tl] at a
      have hi : m + (i - m) = i := by omega
      rw [hi] at a
      have hj : j < 12 := by rw [← hr row (List.mem_of_getElem? a)]; exact (List.getElem?_eq_some_iff.1 b).1
      have tl2 : (us.take (k * 12) ++ us.drop ((k + 1) * 12)).length = m * 12 := by simp only [List.length_append, List.length_take, List.length_drop, hul]; omega
      rw [List.getElem?_append_right (by omega), List.getElem?_drop, tl2, show m * 12 + (i * 12 + j - m * 12) = i * 12 + j by omega] at d
      exact q i j row pv u a b d
theorem wany_pure {P : Program} {ops : Array Oper} {K : Act → World → Prop} {i : Nat} {rest : List Nat} {a : Act} {w : World} {o : Oper} {d : Tmp} (v : Value) (hio : ops[i]? = some o) (hg : o.guard = none) (hd : o.dst = some d) (hk : kindOp o.op ≤ 1) (hr : ∀ w', (execOp a.eval o).run P w' = .ok (.value v) w') (h : wany P ops K rest (a.put (some d) v) w) : wany P ops K (i :: rest) a w :=
  ⟨o, v, hio, hg, .inl ⟨hk, hr, by rw [hd]; exact h⟩⟩
theorem wany_turn {P : Program} {ops : Array Oper} {K : Act → World → Prop} {i : Nat} {rest : List Nat} {a : Act} {w : World} {o : Oper} {d : Tmp} (v : Value) (w' : World) (hio : ops[i]? = some o) (hg : o.guard = none) (hd : o.dst = some d) (hk : kindOp o.op = 3) (hr : (execOp a.eval o).run P w = .ok (.value v) w') (h : wany P ops K rest (a.put (some d) v) w') : wany P ops K (i :: rest) a w :=
  ⟨o, v, hio, hg, .inr ⟨hk, w', hr, by rw [hd]; exact h⟩⟩
theorem put_size {a : Act} {d : Option Tmp} {v : Value} : (a.put d v).tmps.size = a.tmps.size := by
  cases d <;> simp [Act.put]
theorem eval_same {a : Act} {d : Nat} {v : Value} (h : d < a.tmps.size) : (a.put (some d) v).eval (.tmp d) = v := by
  simp [Act.put, Act.eval, h]
theorem eval_const {a : Act} {v : Value} : a.eval (.const v) = v := rfl
theorem eval_ne {a : Act} {d j : Nat} {v : Value} (h : d ≠ j) : (a.put (some d) v).eval (.tmp j) = a.eval (.tmp j) := by
  simp [Act.put, Act.eval, Array.getElem?_setIfInBounds, h]
end Go.Proofs.YtiboajlnjldalaaGreatDoor
namespace Go.Proofs.YtiboajlnjldalaaGreatDoor
set_option linter.unusedSimpArgs false
set_option linter.unusedVariables false
open Go.RowKit
set_option maxRecDepth 100000
theorem infoB12 : (Tryz.prog.info? 36).map (fun i => i.size) = some 12 := by kernel_rfl
theorem cellsB12 : Tryz.prog.cellsOf 36 = 12 := by kernel_rfl
theorem undB : Tryz.prog.underlying 26 = some (.slice 36) := by kernel_rfl
theorem del8 {Q : Exit → St → Prop} {σ : St} {N id b k : Nat} {es : List (List PV)} {ops : Array Oper}
    (p0 : ∃ ty ps af, ops[0]? = some ⟨some 29, .move (.tmp 4), ty, ps, af, none⟩) (p1 : ∃ ty ps af, ops[1]? = some ⟨some 30, .move (.tmp 5), ty, ps, af, none⟩)
    (p2 : ∃ ty ps af, ops[2]? = some ⟨some 31, .slice 26 (.tmp 29) none (some (.tmp 30)) none, ty, ps, af, none⟩) (p3 : ∃ ty ps af, ops[3]? = some ⟨some 32, .move (.tmp 4), ty, ps, af, none⟩)
    (p4 : ∃ ty ps af, ops[4]? = some ⟨some 33, .move (.tmp 5), ty, ps, af, none⟩) (p5 : ∃ ty ps af, ops[5]? = some ⟨some 34, .binOp .add 3 (.tmp 33) (.const (.int .i64 1)) 3, ty, ps, af, none⟩)
    (p6 : ∃ ty ps af, ops[6]? = some ⟨some 35, .slice 26 (.tmp 32) (some (.tmp 34)) none none, ty, ps, af, none⟩) (p7 : ∃ ty ps af, ops[7]? = some ⟨some 36, .call ⟨.builtin .append, #[.tmp 31, .tmp 35], #[26, 26]⟩, ty, ps, af, none⟩)
    (p8 : ∃ ty ps af, ops[8]? = some ⟨some 4, .assign (.tmp 36), ty, ps, af, none⟩) (ho : (Region.noSelect ops && decide ([0, 1, 2, 3, 4, 5, 6, 7, 8].length ≤ ops.size) && ordOk ops [0, 1, 2, 3, 4, 5, 6, 7, 8] (Array.replicate ops.size false)) = true)
    (hsz : 36 < σ.tm.length) (h4 : ev σ.tm (.tmp 4) = .own b) (h5 : ev σ.tm (.tmp 5) = .val (.int .i64 (k : Int))) (hH : σ.H[b]? = some (some (.row 36 12 es))) (hk : k < es.length) (hl : es.length ≤ 1000)
    (hQ : ∀ y29 y30 y31 y32 y33 y34 y35 : Value, Q .normal ((((((((((⟨σ.tm, σ.H.set b none ++ [some (.row 36 12 (es.take k ++ es.drop (k + 1)))]⟩ : St).put (some 29) (.val y29)).put (some 30) (.val y30)).put (some 31) (.val y31)).put (some 32) (.val y32)).put (some 33) (.val y33)).put (some 34) (.val y34)).put (some 35) (.val y35)).put (some 36) (.own σ.H.length)).put (some 4) (.own σ.H.length))) : PWp Tryz.prog N (.region id ops true) Q σ := by
  refine PWp.raw okP [0, 1, 2, 3, 4, 5, 6, 7, 8] ho fun E a w r => ?_
  obtain ⟨M, h, st, ht, hd⟩ := r
  have I := st.inv
  have vx := ev_vr ht (.tmp 4)
  rw [h4] at vx
  generalize hgv : a.eval (.tmp 4) = vv at vx
  cases vx with
  | own _ oo nn cc hbh =>
  have v5 := ev_vr ht (.tmp 5)
  rw [h5] at v5
  have e5 := vr_val v5
  obtain ⟨v0, q0, -, us, q1, q2, q3, q4⟩ := I.blk b _ hH
  rw [hbh] at q0
  cases q0
  obtain ⟨m, hm⟩ : ∃ m, es.length = m + 1 := ⟨es.length - 1, by omega⟩
  rw [hm] at q1
  have q0 := q1
  rcases q1 with ⟨hul, ⟨f1, f2⟩ | ⟨g, cap0, cur, f1, hbase, hb, hncap, hmax, hcur, hcells⟩⟩
  · omega
  cases f1
  have hs : 36 < a.tmps.size := by have := ht.size; omega
  have s29 : 29 < a.tmps.size := by omega
  have s30 : 30 < a.tmps.size := by omega
  have s31 : 31 < a.tmps.size := by omega
  have s32 : 32 < a.tmps.size := by omega
  have s33 : 33 < a.tmps.size := by omega
  have s34 : 34 < a.tmps.size := by omega
  have s35 : 35 < a.tmps.size := by omega
  have s4 : 4 < a.tmps.size := by omega
  obtain ⟨_, _, _, p0⟩ := p0
  obtain ⟨_, _, _, p1⟩ := p1
  obtain ⟨_, _, _, p2⟩ := p2
  obtain ⟨_, _, _, p3⟩ := p3
  obtain ⟨_, _, _, p4⟩ := p4
  obtain ⟨_, _, _, p5⟩ := p5
  obtain ⟨_, _, _, p6⟩ := p6
  obtain ⟨_, _, _, p7⟩ := p7
  obtain ⟨_, _, _, p8⟩ := p8
  obtain ⟨A, hA, hsrc⟩ : ∃ A : Addr, (if cc = k + 1 then (some ⟨g, 0, none⟩ : Option Addr) else some ⟨g, (k + 1) * Tryz.prog.cellsOf 36, none⟩) = some A ∧ ∀ t u, (us.drop ((k + 1) * 12))[t]? = some u → w.cell? (A.add t) = some u := by
    have hlen : (us.drop ((k + 1) * 12)).length = (m - k) * 12 := by rw [List.length_drop, hul]; omega
    by_cases hc : cc = k + 1
    · refine ⟨⟨g, 0, none⟩, by rw [if_pos hc], fun t u hu => ?_⟩
      have h0 : (us.drop ((k + 1) * 12)).length = 0 := by rw [hlen]; omega
      rw [List.length_eq_zero_iff.1 h0] at hu
      simp at hu
    · refine ⟨⟨g, (k + 1) * 12, none⟩, by rw [if_neg hc, cellsB12], fun t u hu => ?_⟩
      have ht := (List.getElem?_eq_some_iff.1 hu).1
      rw [List.getElem?_drop, ← hcells, List.getElem?_take, if_pos (by omega)] at hu
      rw [addr_add, cell_of_row w g _ cur _ (0, 0) hb, ← hu]
      simp
  have r2 : ∀ w', (Instr.sliceAt 26 (.slice (some ⟨g, 0, none⟩) (m + 1) cc) none (some (.int .i64 (k : Int))) none).run Tryz.prog w' = .ok (.slice (some ⟨g, 0, none⟩) k cc) w' := fun w' => by
    rw [sl_run (M := M) (h := h) undB (.inl (by rw [cellsB12]; decide)) g (m + 1) cc 0 k (lo := none) (hh := some (.val (.int .i64 (k : Int)))) (vlo := none) (vhi := some (.int .i64 (k : Int))) trivial (.val _) rfl (by simp [pb, pint]) (Nat.zero_le _) (by omega) w', if_neg (by omega), Nat.zero_mul, Nat.sub_zero, Nat.sub_zero]
  have r6 : ∀ w', (Instr.sliceAt 26 (.slice (some ⟨g, 0, none⟩) (m + 1) cc) (some (.int .i64 ((k : Int) + 1))) none none).run Tryz.prog w' = .ok (.slice (some A) (m - k) (cc - (k + 1))) w' := fun w' => by
    rw [sl_run (M := M) (h := h) undB (.inl (by rw [cellsB12]; decide)) g (m + 1) cc (k + 1) (m + 1) (lo := some (.val (.int .i64 ((k : Int) + 1)))) (hh := none) (vlo := some (.int .i64 ((k : Int) + 1))) (vhi := none) (.val _) trivial (by simp [pb, pint]; omega) rfl (by omega) (by omega) w', hA, show m + 1 - (k + 1) = m - k by omega]
  obtain ⟨i0, hi0, hi1⟩ : ∃ i, Tryz.prog.info? 36 = some i ∧ i.size = 12 := by
    have := infoB12
    cases hq : Tryz.prog.info? 36 with
    | none => rw [hq] at this; cases this
    | some i => rw [hq] at this; exact ⟨i, rfl, by simpa using this⟩
  obtain ⟨d1, d2⟩ := del_row12 (k := k) q0 (by omega)
  have r7 : ∀ ty, (Builtin.append_ #[26, 26] ty #[.slice (some ⟨g, 0, none⟩) k cc, .slice (some A) (m - k) (cc - (k + 1))]).run Tryz.prog w = .ok (.slice (some ⟨g, 0, none⟩) m cc) (w.setCells g (k * 12) (us.drop ((k + 1) * 12))) := fun ty => by
    have := run_append_room_cells (P := Tryz.prog) (w := w) 26 ty 36 i0 undB hi0 g 0 k cc A (m - k) (cc - (k + 1)) (us.drop ((k + 1) * 12)) (by rw [List.length_drop, hul, hi1]; omega) hsrc (fun u hu => q3 u (List.mem_of_mem_drop hu)) (by omega) (fun j hj => by
      rw [List.length_drop, hul] at hj
      rw [cell_of_row w g _ cur _ (0, 0) hb, hi1, Array.getElem?_eq_getElem (by omega)]; rfl) (fun j hj => by simp [World.frozen?, hb])
    rw [hi1, Nat.zero_add, show k + (m - k) = m by omega] at this
    exact this
  have x7 : ∀ (ty : TypeId) (ps : String) (af : Array Edge) (ρ : Operand → Value), ρ (.tmp 31) = .slice (some ⟨g, 0, none⟩) k cc → ρ (.tmp 35) = .slice (some A) (m - k) (cc - (k + 1)) → (execOp ρ ⟨some 36, .call ⟨.builtin .append, #[.tmp 31, .tmp 35], #[26, 26]⟩, ty, ps, af, none⟩).run Tryz.prog w = .ok (.value (.slice (some ⟨g, 0, none⟩) m cc)) (w.setCells g (k * 12) (us.drop ((k + 1) * 12))) := fun ty ps af ρ h31 h35 => by
    unfold execOp
    simp only [resolve, invoke, builtin, Sem.run_bind, Sem.run_pure, Result.andThen_ok, List.map_toArray, List.map_cons, List.map_nil, h31, h35, r7]
  refine wany_pure (.slice (some ⟨g, 0, none⟩) (m + 1) cc) p0 rfl rfl (by simp [kindOp]) (fun w' => by simp only [execOp, Sem.run_pure, hgv]) ?_
  refine wany_pure (.int .i64 (k : Int)) p1 rfl rfl (by simp [kindOp]) (fun w' => by simp [execOp, eval_ne, e5]) ?_
  refine wany_pure (.slice (some ⟨g, 0, none⟩) k cc) p2 rfl rfl (by simp [kindOp]) (fun w' => by
    have := run_v (r2 w')
    simpa [execOp, eval_ne, eval_same, put_size, s29, s30] using this) ?_
  refine wany_pure (.slice (some ⟨g, 0, none⟩) (m + 1) cc) p3 rfl rfl (by simp [kindOp]) (fun w' => by simp [execOp, eval_ne, hgv]) ?_
  refine wany_pure (.int .i64 (k : Int)) p4 rfl rfl (by simp [kindOp]) (fun w' => by simp [execOp, eval_ne, e5]) ?_
  refine wany_pure (.int .i64 ((k : Int) + 1)) p5 rfl rfl (by simp [kindOp]) (fun w' => by
    have hw : IntKind.i64.wrap ((k : Int) + 1) = (k : Int) + 1 := wr64 (by omega) (by omega)
    simp [execOp, eval_ne, eval_same, put_size, s33, eval_const, eqGuard, binOp, Op.intArith, hw]) ?_
  refine wany_pure (.slice (some A) (m - k) (cc - (k + 1))) p6 rfl rfl (by simp [kindOp]) (fun w' => by
    have := run_v (r6 w')
    simpa [execOp, eval_ne, eval_same, put_size, s32, s34] using this) ?_
  refine wany_turn (.slice (some ⟨g, 0, none⟩) m cc) (w.setCells g (k * 12) (us.drop ((k + 1) * 12))) p7 rfl rfl (by simp [kindOp, extOp]) ?_ ?_
  · refine x7 _ _ _ _ ?_ ?_
    · simp [eval_ne, eval_same, put_size, s31]
    · simp [eval_same, put_size, s35]
  refine wany_pure (.slice (some ⟨g, 0, none⟩) m cc) p8 rfl rfl (by simp [kindOp]) (fun w' => by simp [execOp, eval_same, put_size, hs]) ?_
  have s1 : Step M h σ.H w M h (σ.H.set b (some (.row 36 12 (es.take k ++ es.drop (k + 1) ++ es.drop m)))) (w.setCells g (k * 12) (us.drop ((k + 1) * 12))) := Step.turn I hH hbh rfl d2 (del_br12 (w := w) hm (by omega) ⟨_, _, _, rfl⟩ hul d1 q2 q3 q4)
  have hbl : b < σ.H.length := (List.getElem?_eq_some_iff.1 hH).1
  have s2 := Step.cut (k := m) s1.inv (b := b) (by rw [List.getElem?_set_self hbl]) hbh (by simp only [List.length_append, List.length_take, List.length_drop]; omega)
  have tk : (es.take k ++ es.drop (k + 1) ++ es.drop m).take m = es.take k ++ es.drop (k + 1) := List.take_left' (by simp only [List.length_append, List.length_take, List.length_drop]; omega)
  rw [tk, List.set_set, List.length_set] at s2
  have s3 := s1.trans s2
  have ht2 := ht.mono s3.mle s3.hle
  have ow : VR M (upd h σ.H.length (.slice (some ⟨g, 0, none⟩) m cc)) (.own σ.H.length) (.slice (some ⟨g, 0, none⟩) m cc) := .own _ _ _ _ upd_self
  have t28 : TmOk M (upd h σ.H.length (.slice (some ⟨g, 0, none⟩) m cc)) (⟨σ.tm, σ.H.set b none ++ [some (.row 36 12 (es.take k ++ es.drop (k + 1)))]⟩ : St).tm a.tmps := ht2
  have t29 := t28.put (.val (.slice (some ⟨g, 0, none⟩) (m + 1) cc)) (some 29)
  have t30 := t29.put (.val (.int .i64 (k : Int))) (some 30)
  have t31 := t30.put (.val (.slice (some ⟨g, 0, none⟩) k cc)) (some 31)
  have t32 := t31.put (.val (.slice (some ⟨g, 0, none⟩) (m + 1) cc)) (some 32)
  have t33 := t32.put (.val (.int .i64 (k : Int))) (some 33)
  have t34 := t33.put (.val (.int .i64 ((k : Int) + 1))) (some 34)
  have t35 := t34.put (.val (.slice (some A) (m - k) (cc - (k + 1)))) (some 35)
  have t36 := (t35.put ow (some 36)).put ow (some 4)
  refine ⟨_, hQ (.slice (some ⟨g, 0, none⟩) (m + 1) cc) (.int .i64 (k : Int)) (.slice (some ⟨g, 0, none⟩) k cc) (.slice (some ⟨g, 0, none⟩) (m + 1) cc) (.int .i64 (k : Int)) (.int .i64 ((k : Int) + 1)) (.slice (some A) (m - k) (cc - (k + 1))), M, upd h σ.H.length (.slice (some ⟨g, 0, none⟩) m cc), ?_, t36, ?_⟩
  · simp only [St.put_H]
    exact st.trans s3
  · simp only [Act.put_defers']
    exact hd
theorem erase_small {l : List GBlock} {n : Nat} (hlen : l.length = n) (hn : n ≤ 6) (hsm : ∀ b ∈ l, SmB b) (k : Nat) : (l.take k ++ l.drop (k + 1)).length ≤ 6 ∧ ∀ b ∈ l.take k ++ l.drop (k + 1), SmB b := by
  refine ⟨by rw [List.length_append, List.length_take, List.length_drop]; omega, fun b hb => ?_⟩
  rcases List.mem_append.1 hb with hb | hb
  · exact hsm b (List.mem_of_mem_take hb)
  · exact hsm b (List.mem_of_mem_drop hb)
set_option maxHeartbeats 4000000 in
theorem sDrawChainOk_p (code : List UInt8) (hc : code.length ≤ 1048576) : PCalls Tryz.prog 18 [.sl 1 (code.map pU8)] [] (RX (α := List GBlock) (fun x => .sl 12 (x.map pBlock)) (fun _ => []) fun l => l.length ≤ 6 ∧ ∀ b ∈ l, SmB b) := by
  refine pcalls_ofR okP Tryz.func18 rfl ?_
  simp only [Tryz.f18, List.length_cons, List.length_nil, Nat.reduceAdd, Nat.reduceSub, List.replicate_succ, List.replicate_zero, List.cons_append, List.nil_append, List.length_map]
  repeat' (first | with_reducible refine mkRegion (id := 3) ?_ | with_reducible (first | refine wA ?_ | refine wB ?_ | refine wC ?_) | with_reducible refine PWp.draw (id := 8) okP true [0, 1, 2, 3, 4, 5, 6, 7, 8] (by kernel_rfl) ?_ | with_reducible (first | refine w1 ?_ | refine w2 ?_ | refine w3 ?_ | refine w4 ?_ | refine w5 ?_ | refine w6 ?_ | refine w7 ?_ | refine w8 ?_ | refine wT ?_ | refine w9 ?_ | refine wE ?_ | refine wS ?_) | ((with_reducible refine hK _ ?_); clear hK K) | ((with_reducible refine PWp.condI ?_); refine ⟨_, rfl, fun hg => ?_, fun hg => ?_⟩ <;> first | (exact absurd hg (by decide)) | ((try simp only [Bool.not_true, Bool.not_false] at hg); (try simp only [hg]); (try simp only [push_cast] at hg); (try exact absurd trivial hg); (try (exfalso; omega)))) | ((with_reducible refine pany_I ?_); refine ⟨_, rfl, fun K hK => ?_⟩) | ((with_reducible refine pops_plain fun K hK => ?_); simp (disch := omega) only [push_cast, seval]) | ((first | ((with_reducible refine pD_y ?_ ?_); exact rfl) | ((with_reducible refine pD_x ?_ ?_); exact rfl)); simp (disch := omega) only [push_cast, seval]) | ((with_reducible show pcall _ _ _ _ _ _); (first | (refine pcall_X1 (cf Tryz.func74) (by ((try simp (disch := omega) only [push_cast, seval]); first | done | exact rfl)) (sL1New_p _ sd) ?_; rintro c _) | (refine pcall_XG (cf Tryz.func94) [?_] ?_ ?_ ?_ (sL22Chain_p ?_) ?_; (any_goals ((with_reducible show (_ : List PV) = renL _ _ _); ((try simp (disch := omega) only [push_cast, seval]); (repeat' (first | exact trivial | exact rfl | refine And.intro ?_ ?_ | omega))))); (any_goals ((with_reducible show blkE _ _ _ _ _); (repeat' (first | exact trivial | refine And.intro ?_ ?_ | exact ⟨_, rfl⟩ | (simp (disch := omega) only [push_cast, seval]; done) | exact rfl)))); (any_goals ((with_reducible show nodupR _ = true); exact rfl)); rotate_right 1; rintro ⟨⟨s, n⟩, c⟩ ⟨hn1, hn2⟩; (rotate_left 1; (all_goals (try (first | omega | exact (show _ = _ by assumption)))); rotate_right 1)) | (refine pcall_XG (cf Tryz.func95) [?_] ?_ ?_ ?_ (sL1Below_p ?_ ?_ ?_) ?_; (any_goals ((with_reducible show (_ : List PV) = renL _ _ _); ((try simp (disch := omega) only [push_cast, seval]); (repeat' (first | exact trivial | exact rfl | refine And.intro ?_ ?_ | omega))))); (any_goals ((with_reducible show blkE _ _ _ _ _); (repeat' (first | exact trivial | refine And.intro ?_ ?_ | exact ⟨_, rfl⟩ | (simp (disch := omega) only [push_cast, seval]; done) | exact rfl)))); (any_goals ((with_reducible show nodupR _ = true); exact rfl)); rotate_right 1; rintro ⟨x, c⟩ ⟨hx1, hx2, hx3⟩; (rotate_left 1; (all_goals (try (first | omega | exact (show _ = _ by assumption)))); rotate_right 1))); (try simp (disch := omega) only [push_cast, seval])) | ((with_reducible refine And.intro ?_ ?_); omega))
  refine Mk.of ?_
  have hlen : (chainTo s n).length = n := chainTo_len
  have hsm0 := chain_sm s n (by omega)
  have hsm : ∀ b ∈ chainTo s n, SmB b := fun b hb => (hsm0 b hb).1
  generalize chainTo s n = l at hlen hsm0 hsm ⊢
  repeat' (first | with_reducible refine mkRegion (id := 4) ?_ | with_reducible (first | refine wA ?_ | refine wB ?_ | refine wC ?_) | with_reducible refine PWp.draw (id := 8) okP true [0, 1, 2, 3, 4, 5, 6, 7, 8] (by kernel_rfl) ?_ | with_reducible (first | refine w1 ?_ | refine w2 ?_ | refine w3 ?_ | refine w4 ?_ | refine w5 ?_ | refine w6 ?_ | refine w7 ?_ | refine w8 ?_ | refine wT ?_ | refine w9 ?_ | refine wE ?_ | refine wS ?_) | ((with_reducible refine hK _ ?_); clear hK K) | ((with_reducible refine PWp.condI ?_); refine ⟨_, rfl, fun hg => ?_, fun hg => ?_⟩ <;> first | (exact absurd hg (by decide)) | ((try simp only [Bool.not_true, Bool.not_false] at hg); (try simp only [hg]); (try simp only [push_cast] at hg); (try exact absurd trivial hg); (try (exfalso; omega)))) | ((with_reducible refine pany_I ?_); refine ⟨_, rfl, fun K hK => ?_⟩) | ((with_reducible refine pops_plain fun K hK => ?_); simp (disch := omega) only [push_cast, seval, hlen]) | ((first | ((with_reducible refine pD_y ?_ ?_); exact rfl) | ((with_reducible refine pD_x ?_ ?_); exact rfl)); simp (disch := omega) only [push_cast, seval, hlen]) | ((with_reducible show pcall _ _ _ _ _ _); (first | (refine pcall_X1 (cf Tryz.func74) (by ((try simp (disch := omega) only [push_cast, seval]); first | done | exact rfl)) (sL1New_p _ sd) ?_; rintro c _) | (refine pcall_XG (cf Tryz.func94) [?_] ?_ ?_ ?_ (sL22Chain_p ?_) ?_; (any_goals ((with_reducible show (_ : List PV) = renL _ _ _); ((try simp (disch := omega) only [push_cast, seval]); (repeat' (first | exact trivial | exact rfl | refine And.intro ?_ ?_ | omega))))); (any_goals ((with_reducible show blkE _ _ _ _ _); (repeat' (first | exact trivial | refine And.intro ?_ ?_ | exact ⟨_, rfl⟩ | (simp (disch := omega) only [push_cast, seval]; done) | exact rfl)))); (any_goals ((with_reducible show nodupR _ = true); exact rfl)); rotate_right 1; rintro ⟨⟨s, n⟩, c⟩ ⟨hn1, hn2⟩; (rotate_left 1; (all_goals (try (first | omega | exact (show _ = _ by assumption)))); rotate_right 1)) | (refine pcall_XG (cf Tryz.func95) [?_] ?_ ?_ ?_ (sL1Below_p ?_ ?_ ?_) ?_; (any_goals ((with_reducible show (_ : List PV) = renL _ _ _); ((try simp (disch := omega) only [push_cast, seval]); (repeat' (first | exact trivial | exact rfl | refine And.intro ?_ ?_ | omega))))); (any_goals ((with_reducible show blkE _ _ _ _ _); (repeat' (first | exact trivial | refine And.intro ?_ ?_ | exact ⟨_, rfl⟩ | (simp (disch := omega) only [push_cast, seval]; done) | exact rfl)))); (any_goals ((with_reducible show nodupR _ = true); exact rfl)); rotate_right 1; rintro ⟨x, c⟩ ⟨hx1, hx2, hx3⟩; (rotate_left 1; (all_goals (try (first | omega | exact (show _ = _ by assumption)))); rotate_right 1))); (try simp (disch := omega) only [push_cast, seval, hlen])) | ((with_reducible refine And.intro ?_ ?_); omega))
  refine Mk.of ?_
  obtain ⟨k, rfl⟩ : ∃ k : Nat, x = k := ⟨x.toNat, by omega⟩
  have hk : k < l.length := by omega
  have her := erase_small hlen hn2 hsm k
  obtain ⟨b, hb⟩ : ∃ b, l[k]? = some b := ⟨_, List.getElem?_eq_getElem hk⟩
  obtain ⟨q1, q2⟩ := hsm0 b (List.mem_of_getElem? hb)
  obtain ⟨⟨a1, a2, a3, a4, a5, a6⟩, vs, nx, ⟨ch, cr, ci, cs⟩⟩ := b
  have hbent := fun c => sL22Bent_p c ⟨⟨a1, a2, a3, a4, a5, a6⟩, vs, nx, ⟨ch, cr, ci, cs⟩⟩ q1 q2
  repeat' (first | with_reducible refine mkRegion (id := 8) ?_ | with_reducible refine mkRegion (id := 10) ?_ | with_reducible refine mkRegion (id := 11) ?_ | with_reducible (first | refine wA ?_ | refine wB ?_ | refine wC ?_) | with_reducible refine PWp.draw (id := 8) okP true [0, 1, 2, 3, 4, 5, 6, 7, 8] (by kernel_rfl) ?_ | with_reducible (first | refine w1 ?_ | refine w2 ?_ | refine w3 ?_ | refine w4 ?_ | refine w5 ?_ | refine w6 ?_ | refine w7 ?_ | refine w8 ?_ | refine wT ?_ | refine w9 ?_ | refine wE ?_ | refine wS ?_) | ((with_reducible refine hK _ ?_); clear hK K) | ((with_reducible refine PWp.condI ?_); refine ⟨_, rfl, fun hg => ?_, fun hg => ?_⟩ <;> first | (exact absurd hg (by decide)) | ((try simp only [Bool.not_true, Bool.not_false] at hg); (try simp only [hg]); (try simp only [push_cast] at hg); (try exact absurd trivial hg); (try (exfalso; omega)))) | ((with_reducible refine pany_I ?_); refine ⟨_, rfl, fun K hK => ?_⟩) | ((with_reducible refine pops_plain fun K hK => ?_); simp (disch := omega) only [push_cast, seval, hb, hlen]) | ((first | ((with_reducible refine pD_y ?_ ?_); exact rfl) | ((with_reducible refine pD_x ?_ ?_); exact rfl)); simp (disch := omega) only [push_cast, seval, hb, hlen]) | ((with_reducible show pcall _ _ _ _ _ _); (first | (refine pcall_X1 (cf Tryz.func74) (by ((try simp (disch := omega) only [push_cast, seval]); first | done | exact rfl)) (sL1New_p _ sd) ?_; rintro c _) | (refine pcall_XG (cf Tryz.func94) [?_] ?_ ?_ ?_ (sL22Chain_p ?_) ?_; (any_goals ((with_reducible show (_ : List PV) = renL _ _ _); ((try simp (disch := omega) only [push_cast, seval]); (repeat' (first | exact trivial | exact rfl | refine And.intro ?_ ?_ | omega))))); (any_goals ((with_reducible show blkE _ _ _ _ _); (repeat' (first | exact trivial | refine And.intro ?_ ?_ | exact ⟨_, rfl⟩ | (simp (disch := omega) only [push_cast, seval]; done) | exact rfl)))); (any_goals ((with_reducible show nodupR _ = true); exact rfl)); rotate_right 1; rintro ⟨⟨s, n⟩, c⟩ ⟨hn1, hn2⟩; (rotate_left 1; (all_goals (try (first | omega | exact (show _ = _ by assumption)))); rotate_right 1)) | (refine pcall_XG (cf Tryz.func95) [?_] ?_ ?_ ?_ (sL1Below_p ?_ ?_ ?_) ?_; (any_goals ((with_reducible show (_ : List PV) = renL _ _ _); ((try simp (disch := omega) only [push_cast, seval]); (repeat' (first | exact trivial | exact rfl | refine And.intro ?_ ?_ | omega))))); (any_goals ((with_reducible show blkE _ _ _ _ _); (repeat' (first | exact trivial | refine And.intro ?_ ?_ | exact ⟨_, rfl⟩ | (simp (disch := omega) only [push_cast, seval]; done) | exact rfl)))); (any_goals ((with_reducible show nodupR _ = true); exact rfl)); rotate_right 1; rintro ⟨x, c⟩ ⟨hx1, hx2, hx3⟩; (rotate_left 1; (all_goals (try (first | omega | exact (show _ = _ by assumption)))); rotate_right 1)) | (refine pcall_XG (cf Tryz.func96) [?_] ?_ ?_ ?_ (hbent ?_) ?_; (any_goals ((with_reducible show (_ : List PV) = renL _ _ _); ((try simp (disch := omega) only [push_cast, seval]); (repeat' (first | exact trivial | exact rfl | refine And.intro ?_ ?_ | omega))))); (any_goals ((with_reducible show blkE _ _ _ _ _); (repeat' (first | exact trivial | refine And.intro ?_ ?_ | exact ⟨_, rfl⟩ | (simp (disch := omega) only [push_cast, seval]; done) | exact rfl)))); (any_goals ((with_reducible show nodupR _ = true); exact rfl)); rotate_right 1; rintro ⟨b, c⟩ ⟨hsb, -⟩; (rotate_left 1; (all_goals (try (first | omega | exact (show _ = _ by assumption)))); rotate_right 1))); (try simp (disch := omega) only [push_cast, seval, hb, hlen])) | ((with_reducible refine And.intro ?_ ?_); omega))
  ·
    refine Mk.of ?_
    have hset : (l.map pBlock).set k (pBlock b) = (l.set k b).map pBlock := List.map_set.symm
    have hss : (l.set k b).length ≤ 6 ∧ ∀ x ∈ l.set k b, SmB x := ⟨by rw [List.length_set]; omega, fun x hx => by
      rcases List.mem_or_eq_of_mem_set hx with h | h
      · exact hsm x h
      · rw [h]; exact hsb⟩
    refine PWp.frz 1 (e := 36) (sz := 12) (es := (l.map pBlock).set k (pBlock b)) rfl (by rw [hset]; exact rowsC fun _ => rfl) ?_
    rw [hset]
    generalize l.set k b = z at hss ⊢
    refine PWp.at (tm' := ?_) (H' := ?_) ?_ ?_ ?_; rotate_left 2
    · simp (disch := omega) only [push_cast, seval, thaw, thaw1, thawB]
      exact rfl
    · simp (disch := omega) only [push_cast, seval, thaw, thaw1, thawB, thawMV, thawMC, thawMI, thawMB, thawCw]
      exact rfl
    repeat' (first | with_reducible (first | refine wA ?_ | refine wB ?_ | refine wC ?_) | with_reducible refine PWp.draw (id := 8) okP true [0, 1, 2, 3, 4, 5, 6, 7, 8] (by kernel_rfl) ?_ | with_reducible (first | refine w1 ?_ | refine w2 ?_ | refine w3 ?_ | refine w4 ?_ | refine w5 ?_ | refine w6 ?_ | refine w7 ?_ | refine w8 ?_ | refine wT ?_ | refine w9 ?_ | refine wE ?_ | refine wS ?_) | ((with_reducible refine hK _ ?_); clear hK K) | ((with_reducible refine PWp.condI ?_); refine ⟨_, rfl, fun hg => ?_, fun hg => ?_⟩ <;> first | (exact absurd hg (by decide)) | ((try simp only [Bool.not_true, Bool.not_false] at hg); (try simp only [hg]); (try simp only [push_cast] at hg); (try exact absurd trivial hg); (try (exfalso; omega)))) | ((with_reducible refine pany_I ?_); refine ⟨_, rfl, fun K hK => ?_⟩) | ((with_reducible refine pops_plain fun K hK => ?_); simp (disch := omega) only [push_cast, seval]) | ((first | ((with_reducible refine pD_y ?_ ?_); exact rfl) | ((with_reducible refine pD_x ?_ ?_); exact rfl)); simp (disch := omega) only [push_cast, seval]) | ((with_reducible show pcall _ _ _ _ _ _); (first | (refine pcall_X1 (cf Tryz.func74) (by ((try simp (disch := omega) only [push_cast, seval]); first | done | exact rfl)) (sL1New_p _ sd) ?_; rintro c _) | (refine pcall_XG (cf Tryz.func94) [?_] ?_ ?_ ?_ (sL22Chain_p ?_) ?_; (any_goals ((with_reducible show (_ : List PV) = renL _ _ _); ((try simp (disch := omega) only [push_cast, seval]); (repeat' (first | exact trivial | exact rfl | refine And.intro ?_ ?_ | omega))))); (any_goals ((with_reducible show blkE _ _ _ _ _); (repeat' (first | exact trivial | refine And.intro ?_ ?_ | exact ⟨_, rfl⟩ | (simp (disch := omega) only [push_cast, seval]; done) | exact rfl)))); (any_goals ((with_reducible show nodupR _ = true); exact rfl)); rotate_right 1; rintro ⟨⟨s, n⟩, c⟩ ⟨hn1, hn2⟩; (rotate_left 1; (all_goals (try (first | omega | exact (show _ = _ by assumption)))); rotate_right 1)) | (refine pcall_XG (cf Tryz.func95) [?_] ?_ ?_ ?_ (sL1Below_p ?_ ?_ ?_) ?_; (any_goals ((with_reducible show (_ : List PV) = renL _ _ _); ((try simp (disch := omega) only [push_cast, seval]); (repeat' (first | exact trivial | exact rfl | refine And.intro ?_ ?_ | omega))))); (any_goals ((with_reducible show blkE _ _ _ _ _); (repeat' (first | exact trivial | refine And.intro ?_ ?_ | exact ⟨_, rfl⟩ | (simp (disch := omega) only [push_cast, seval]; done) | exact rfl)))); (any_goals ((with_reducible show nodupR _ = true); exact rfl)); rotate_right 1; rintro ⟨x, c⟩ ⟨hx1, hx2, hx3⟩; (rotate_left 1; (all_goals (try (first | omega | exact (show _ = _ by assumption)))); rotate_right 1)) | (refine pcall_XG (cf Tryz.func96) [?_] ?_ ?_ ?_ (hbent ?_) ?_; (any_goals ((with_reducible show (_ : List PV) = renL _ _ _); ((try simp (disch := omega) only [push_cast, seval]); (repeat' (first | exact trivial | exact rfl | refine And.intro ?_ ?_ | omega))))); (any_goals ((with_reducible show blkE _ _ _ _ _); (repeat' (first | exact trivial | refine And.intro ?_ ?_ | exact ⟨_, rfl⟩ | (simp (disch := omega) only [push_cast, seval]; done) | exact rfl)))); (any_goals ((with_reducible show nodupR _ = true); exact rfl)); rotate_right 1; rintro ⟨b, c⟩ ⟨hsb, -⟩; (rotate_left 1; (all_goals (try (first | omega | exact (show _ = _ by assumption)))); rotate_right 1))); (try simp (disch := omega) only [push_cast, seval])) | ((with_reducible refine And.intro ?_ ?_); omega))
    ((first | with_reducible (first | refine pendX1 z [] ?_ ?_ ?_ ?_ ?_ ?_ | refine pendX2 z [] ?_ ?_ ?_ ?_ ?_ ?_ | refine pendX3 z [] ?_ ?_ ?_ ?_ ?_ ?_ | refine pendX0 z [] ?_ ?_ ?_ ?_ ?_ ?_) | refine pendXG z [] ?_ ?_ ?_ ?_ ?_ ?_); (try (any_goals ((with_reducible show ∃ _ : List PV, _); (apply Exists.intro; apply And.intro; (· repeat' (first | exact presults_nil | apply presults_tmp | (apply presults_agg; (· exact rfl); (· exact rfl); (· exact rfl); (· exact rfl); (· exact rfl); (· first | exact Nat.le_refl _ | decide | simp)) | (apply presults_one; (· exact rfl); (· exact rfl); (· exact rfl); (· exact rfl); (· exact rfl)))))))); (any_goals ((with_reducible show _ ∨ _); (first | exact Or.inl rfl | exact Or.inr rfl))); (any_goals ((with_reducible show (_ : PV) = _); ((try simp (disch := omega) only [push_cast, seval]); (repeat' (first | exact trivial | exact rfl | refine And.intro ?_ ?_ | omega))))); (any_goals ((with_reducible show blkR _ _ _ _ _); ((try simp (disch := omega) only [push_cast, seval]); (repeat' (first | exact trivial | exact rfl | refine And.intro ?_ ?_ | omega))))); (any_goals ((with_reducible show nodupR _ = true); exact rfl)); (any_goals ((with_reducible show preR _ _); (first | exact trivial | exact ⟨rfl, trivial⟩ | exact ⟨rfl, rfl, trivial⟩ | exact ⟨rfl, rfl, rfl, trivial⟩))))
    exact hss
  ·
    refine Mk.of ?_
    refine del8 (b := 1) (k := k) (es := l.map pBlock) ⟨_, _, _, rfl⟩ ⟨_, _, _, rfl⟩ ⟨_, _, _, rfl⟩ ⟨_, _, _, rfl⟩ ⟨_, _, _, rfl⟩ ⟨_, _, _, rfl⟩ ⟨_, _, _, rfl⟩ ⟨_, _, _, rfl⟩ ⟨_, _, _, rfl⟩ (by kernel_rfl) (by simp) rfl rfl rfl (by rw [List.length_map]; exact hk) (by rw [List.length_map]; omega) ?_
    intro y29 y30 y31 y32 y33 y34 y35
    rw [← List.map_take, ← List.map_drop, ← List.map_append]
    generalize l.take k ++ l.drop (k + 1) = z at her ⊢
    refine pblock_normal ?_
    refine pthen_normal ?_
    refine PWp.at (tm' := ?_) (H' := ?_) ?_ ?_ ?_; rotate_left 2
    · simp only [St.put, List.set_cons_zero, List.set_cons_succ, List.length_cons, List.length_nil, Nat.zero_add, Nat.reduceAdd]
      exact rfl
    · simp only [St.put, List.set_cons_zero, List.set_cons_succ, List.cons_append, List.nil_append]
      exact rfl
    repeat' (first | with_reducible refine mkRegion (id := 11) ?_ | with_reducible (first | refine wA ?_ | refine wB ?_ | refine wC ?_) | with_reducible refine PWp.draw (id := 8) okP true [0, 1, 2, 3, 4, 5, 6, 7, 8] (by kernel_rfl) ?_ | with_reducible (first | refine w1 ?_ | refine w2 ?_ | refine w3 ?_ | refine w4 ?_ | refine w5 ?_ | refine w6 ?_ | refine w7 ?_ | refine w8 ?_ | refine wT ?_ | refine w9 ?_ | refine wE ?_ | refine wS ?_) | ((with_reducible refine hK _ ?_); clear hK K) | ((with_reducible refine PWp.condI ?_); refine ⟨_, rfl, fun hg => ?_, fun hg => ?_⟩ <;> first | (exact absurd hg (by decide)) | ((try simp only [Bool.not_true, Bool.not_false] at hg); (try simp only [hg]); (try simp only [push_cast] at hg); (try exact absurd trivial hg); (try (exfalso; omega)))) | ((with_reducible refine pany_I ?_); refine ⟨_, rfl, fun K hK => ?_⟩) | ((with_reducible refine pops_plain fun K hK => ?_); simp (disch := omega) only [push_cast, seval]) | ((first | ((with_reducible refine pD_y ?_ ?_); exact rfl) | ((with_reducible refine pD_x ?_ ?_); exact rfl)); simp (disch := omega) only [push_cast, seval]) | ((with_reducible show pcall _ _ _ _ _ _); (first | (refine pcall_X1 (cf Tryz.func74) (by ((try simp (disch := omega) only [push_cast, seval]); first | done | exact rfl)) (sL1New_p _ sd) ?_; rintro c _) | (refine pcall_XG (cf Tryz.func94) [?_] ?_ ?_ ?_ (sL22Chain_p ?_) ?_; (any_goals ((with_reducible show (_ : List PV) = renL _ _ _); ((try simp (disch := omega) only [push_cast, seval]); (repeat' (first | exact trivial | exact rfl | refine And.intro ?_ ?_ | omega))))); (any_goals ((with_reducible show blkE _ _ _ _ _); (repeat' (first | exact trivial | refine And.intro ?_ ?_ | exact ⟨_, rfl⟩ | (simp (disch := omega) only [push_cast, seval]; done) | exact rfl)))); (any_goals ((with_reducible show nodupR _ = true); exact rfl)); rotate_right 1; rintro ⟨⟨s, n⟩, c⟩ ⟨hn1, hn2⟩; (rotate_left 1; (all_goals (try (first | omega | exact (show _ = _ by assumption)))); rotate_right 1)) | (refine pcall_XG (cf Tryz.func95) [?_] ?_ ?_ ?_ (sL1Below_p ?_ ?_ ?_) ?_; (any_goals ((with_reducible show (_ : List PV) = renL _ _ _); ((try simp (disch := omega) only [push_cast, seval]); (repeat' (first | exact trivial | exact rfl | refine And.intro ?_ ?_ | omega))))); (any_goals ((with_reducible show blkE _ _ _ _ _); (repeat' (first | exact trivial | refine And.intro ?_ ?_ | exact ⟨_, rfl⟩ | (simp (disch := omega) only [push_cast, seval]; done) | exact rfl)))); (any_goals ((with_reducible show nodupR _ = true); exact rfl)); rotate_right 1; rintro ⟨x, c⟩ ⟨hx1, hx2, hx3⟩; (rotate_left 1; (all_goals (try (first | omega | exact (show _ = _ by assumption)))); rotate_right 1)) | (refine pcall_XG (cf Tryz.func96) [?_] ?_ ?_ ?_ (hbent ?_) ?_; (any_goals ((with_reducible show (_ : List PV) = renL _ _ _); ((try simp (disch := omega) only [push_cast, seval]); (repeat' (first | exact trivial | exact rfl | refine And.intro ?_ ?_ | omega))))); (any_goals ((with_reducible show blkE _ _ _ _ _); (repeat' (first | exact trivial | refine And.intro ?_ ?_ | exact ⟨_, rfl⟩ | (simp (disch := omega) only [push_cast, seval]; done) | exact rfl)))); (any_goals ((with_reducible show nodupR _ = true); exact rfl)); rotate_right 1; rintro ⟨b, c⟩ ⟨hsb, -⟩; (rotate_left 1; (all_goals (try (first | omega | exact (show _ = _ by assumption)))); rotate_right 1))); (try simp (disch := omega) only [push_cast, seval])) | ((with_reducible refine And.intro ?_ ?_); omega))
    refine Mk.of ?_
    refine PWp.frz 2 (e := 36) (sz := 12) (es := z.map pBlock) rfl (rowsC fun _ => rfl) ?_
    refine PWp.at (tm' := ?_) (H' := ?_) ?_ ?_ ?_; rotate_left 2
    · simp (disch := omega) only [push_cast, seval, thaw, thaw1, thawB]
      exact rfl
    · simp (disch := omega) only [push_cast, seval, thaw, thaw1, thawB, thawMV, thawMC, thawMI, thawMB, thawCw]
      exact rfl
    repeat' (first | with_reducible (first | refine wA ?_ | refine wB ?_ | refine wC ?_) | with_reducible refine PWp.draw (id := 8) okP true [0, 1, 2, 3, 4, 5, 6, 7, 8] (by kernel_rfl) ?_ | with_reducible (first | refine w1 ?_ | refine w2 ?_ | refine w3 ?_ | refine w4 ?_ | refine w5 ?_ | refine w6 ?_ | refine w7 ?_ | refine w8 ?_ | refine wT ?_ | refine w9 ?_ | refine wE ?_ | refine wS ?_) | ((with_reducible refine hK _ ?_); clear hK K) | ((with_reducible refine PWp.condI ?_); refine ⟨_, rfl, fun hg => ?_, fun hg => ?_⟩ <;> first | (exact absurd hg (by decide)) | ((try simp only [Bool.not_true, Bool.not_false] at hg); (try simp only [hg]); (try simp only [push_cast] at hg); (try exact absurd trivial hg); (try (exfalso; omega)))) | ((with_reducible refine pany_I ?_); refine ⟨_, rfl, fun K hK => ?_⟩) | ((with_reducible refine pops_plain fun K hK => ?_); simp (disch := omega) only [push_cast, seval]) | ((first | ((with_reducible refine pD_y ?_ ?_); exact rfl) | ((with_reducible refine pD_x ?_ ?_); exact rfl)); simp (disch := omega) only [push_cast, seval]) | ((with_reducible show pcall _ _ _ _ _ _); (first | (refine pcall_X1 (cf Tryz.func74) (by ((try simp (disch := omega) only [push_cast, seval]); first | done | exact rfl)) (sL1New_p _ sd) ?_; rintro c _) | (refine pcall_XG (cf Tryz.func94) [?_] ?_ ?_ ?_ (sL22Chain_p ?_) ?_; (any_goals ((with_reducible show (_ : List PV) = renL _ _ _); ((try simp (disch := omega) only [push_cast, seval]); (repeat' (first | exact trivial | exact rfl | refine And.intro ?_ ?_ | omega))))); (any_goals ((with_reducible show blkE _ _ _ _ _); (repeat' (first | exact trivial | refine And.intro ?_ ?_ | exact ⟨_, rfl⟩ | (simp (disch := omega) only [push_cast, seval]; done) | exact rfl)))); (any_goals ((with_reducible show nodupR _ = true); exact rfl)); rotate_right 1; rintro ⟨⟨s, n⟩, c⟩ ⟨hn1, hn2⟩; (rotate_left 1; (all_goals (try (first | omega | exact (show _ = _ by assumption)))); rotate_right 1)) | (refine pcall_XG (cf Tryz.func95) [?_] ?_ ?_ ?_ (sL1Below_p ?_ ?_ ?_) ?_; (any_goals ((with_reducible show (_ : List PV) = renL _ _ _); ((try simp (disch := omega) only [push_cast, seval]); (repeat' (first | exact trivial | exact rfl | refine And.intro ?_ ?_ | omega))))); (any_goals ((with_reducible show blkE _ _ _ _ _); (repeat' (first | exact trivial | refine And.intro ?_ ?_ | exact ⟨_, rfl⟩ | (simp (disch := omega) only [push_cast, seval]; done) | exact rfl)))); (any_goals ((with_reducible show nodupR _ = true); exact rfl)); rotate_right 1; rintro ⟨x, c⟩ ⟨hx1, hx2, hx3⟩; (rotate_left 1; (all_goals (try (first | omega | exact (show _ = _ by assumption)))); rotate_right 1)) | (refine pcall_XG (cf Tryz.func96) [?_] ?_ ?_ ?_ (hbent ?_) ?_; (any_goals ((with_reducible show (_ : List PV) = renL _ _ _); ((try simp (disch := omega) only [push_cast, seval]); (repeat' (first | exact trivial | exact rfl | refine And.intro ?_ ?_ | omega))))); (any_goals ((with_reducible show blkE _ _ _ _ _); (repeat' (first | exact trivial | refine And.intro ?_ ?_ | exact ⟨_, rfl⟩ | (simp (disch := omega) only [push_cast, seval]; done) | exact rfl)))); (any_goals ((with_reducible show nodupR _ = true); exact rfl)); rotate_right 1; rintro ⟨b, c⟩ ⟨hsb, -⟩; (rotate_left 1; (all_goals (try (first | omega | exact (show _ = _ by assumption)))); rotate_right 1))); (try simp (disch := omega) only [push_cast, seval])) | ((with_reducible refine And.intro ?_ ?_); omega))
    ((first | with_reducible (first | refine pendX1 z [] ?_ ?_ ?_ ?_ ?_ ?_ | refine pendX2 z [] ?_ ?_ ?_ ?_ ?_ ?_ | refine pendX3 z [] ?_ ?_ ?_ ?_ ?_ ?_ | refine pendX0 z [] ?_ ?_ ?_ ?_ ?_ ?_) | refine pendXG z [] ?_ ?_ ?_ ?_ ?_ ?_); (try (any_goals ((with_reducible show ∃ _ : List PV, _); (apply Exists.intro; apply And.intro; (· repeat' (first | exact presults_nil | apply presults_tmp | (apply presults_agg; (· exact rfl); (· exact rfl); (· exact rfl); (· exact rfl); (· exact rfl); (· first | exact Nat.le_refl _ | decide | simp)) | (apply presults_one; (· exact rfl); (· exact rfl); (· exact rfl); (· exact rfl); (· exact rfl)))))))); (any_goals ((with_reducible show _ ∨ _); (first | exact Or.inl rfl | exact Or.inr rfl))); (any_goals ((with_reducible show (_ : PV) = _); ((try simp (disch := omega) only [push_cast, seval]); (repeat' (first | exact trivial | exact rfl | refine And.intro ?_ ?_ | omega))))); (any_goals ((with_reducible show blkR _ _ _ _ _); ((try simp (disch := omega) only [push_cast, seval]); (repeat' (first | exact trivial | exact rfl | refine And.intro ?_ ?_ | omega))))); (any_goals ((with_reducible show nodupR _ = true); exact rfl)); (any_goals ((with_reducible show preR _ _); (first | exact trivial | exact ⟨rfl, trivial⟩ | exact ⟨rfl, rfl, trivial⟩ | exact ⟨rfl, rfl, rfl, trivial⟩))))
    exact her
  ·
    refine Mk.of ?_
    refine PWp.frz 1 (e := 36) (sz := 12) (es := l.map pBlock) rfl (rowsC fun _ => rfl) ?_
    refine PWp.at (tm' := ?_) (H' := ?_) ?_ ?_ ?_; rotate_left 2
    · simp (disch := omega) only [push_cast, seval, thaw, thaw1, thawB]
      exact rfl
    · simp (disch := omega) only [push_cast, seval, thaw, thaw1, thawB, thawMV, thawMC, thawMI, thawMB, thawCw]
      exact rfl
    have hdr : ((l.map pBlock).drop k).take (n - k) = (l.drop k).map pBlock := by
      rw [← List.map_drop, ← List.map_take, List.take_of_length_le (by rw [List.length_drop]; omega)]
    repeat' (first | with_reducible (first | refine wA ?_ | refine wB ?_ | refine wC ?_) | with_reducible refine PWp.draw (id := 8) okP true [0, 1, 2, 3, 4, 5, 6, 7, 8] (by kernel_rfl) ?_ | with_reducible (first | refine w1 ?_ | refine w2 ?_ | refine w3 ?_ | refine w4 ?_ | refine w5 ?_ | refine w6 ?_ | refine w7 ?_ | refine w8 ?_ | refine wT ?_ | refine w9 ?_ | refine wE ?_ | refine wS ?_) | ((with_reducible refine hK _ ?_); clear hK K) | ((with_reducible refine PWp.condI ?_); refine ⟨_, rfl, fun hg => ?_, fun hg => ?_⟩ <;> first | (exact absurd hg (by decide)) | ((try simp only [Bool.not_true, Bool.not_false] at hg); (try simp only [hg]); (try simp only [push_cast] at hg); (try exact absurd trivial hg); (try (exfalso; omega)))) | ((with_reducible refine pany_I ?_); refine ⟨_, rfl, fun K hK => ?_⟩) | ((with_reducible refine pops_plain fun K hK => ?_); simp (disch := omega) only [push_cast, seval, hlen, hdr]) | ((first | ((with_reducible refine pD_y ?_ ?_); exact rfl) | ((with_reducible refine pD_x ?_ ?_); exact rfl)); simp (disch := omega) only [push_cast, seval, hlen, hdr]) | ((with_reducible show pcall _ _ _ _ _ _); (first | (refine pcall_X1 (cf Tryz.func74) (by ((try simp (disch := omega) only [push_cast, seval]); first | done | exact rfl)) (sL1New_p _ sd) ?_; rintro c _) | (refine pcall_XG (cf Tryz.func94) [?_] ?_ ?_ ?_ (sL22Chain_p ?_) ?_; (any_goals ((with_reducible show (_ : List PV) = renL _ _ _); ((try simp (disch := omega) only [push_cast, seval]); (repeat' (first | exact trivial | exact rfl | refine And.intro ?_ ?_ | omega))))); (any_goals ((with_reducible show blkE _ _ _ _ _); (repeat' (first | exact trivial | refine And.intro ?_ ?_ | exact ⟨_, rfl⟩ | (simp (disch := omega) only [push_cast, seval]; done) | exact rfl)))); (any_goals ((with_reducible show nodupR _ = true); exact rfl)); rotate_right 1; rintro ⟨⟨s, n⟩, c⟩ ⟨hn1, hn2⟩; (rotate_left 1; (all_goals (try (first | omega | exact (show _ = _ by assumption)))); rotate_right 1)) | (refine pcall_XG (cf Tryz.func95) [?_] ?_ ?_ ?_ (sL1Below_p ?_ ?_ ?_) ?_; (any_goals ((with_reducible show (_ : List PV) = renL _ _ _); ((try simp (disch := omega) only [push_cast, seval]); (repeat' (first | exact trivial | exact rfl | refine And.intro ?_ ?_ | omega))))); (any_goals ((with_reducible show blkE _ _ _ _ _); (repeat' (first | exact trivial | refine And.intro ?_ ?_ | exact ⟨_, rfl⟩ | (simp (disch := omega) only [push_cast, seval]; done) | exact rfl)))); (any_goals ((with_reducible show nodupR _ = true); exact rfl)); rotate_right 1; rintro ⟨x, c⟩ ⟨hx1, hx2, hx3⟩; (rotate_left 1; (all_goals (try (first | omega | exact (show _ = _ by assumption)))); rotate_right 1)) | (refine pcall_XG (cf Tryz.func96) [?_] ?_ ?_ ?_ (hbent ?_) ?_; (any_goals ((with_reducible show (_ : List PV) = renL _ _ _); ((try simp (disch := omega) only [push_cast, seval]); (repeat' (first | exact trivial | exact rfl | refine And.intro ?_ ?_ | omega))))); (any_goals ((with_reducible show blkE _ _ _ _ _); (repeat' (first | exact trivial | refine And.intro ?_ ?_ | exact ⟨_, rfl⟩ | (simp (disch := omega) only [push_cast, seval]; done) | exact rfl)))); (any_goals ((with_reducible show nodupR _ = true); exact rfl)); rotate_right 1; rintro ⟨b, c⟩ ⟨hsb, -⟩; (rotate_left 1; (all_goals (try (first | omega | exact (show _ = _ by assumption)))); rotate_right 1))); (try simp (disch := omega) only [push_cast, seval, hlen, hdr])) | ((with_reducible refine And.intro ?_ ?_); omega))
    ((first | with_reducible (first | refine pendX1 (l.drop k) [] ?_ ?_ ?_ ?_ ?_ ?_ | refine pendX2 (l.drop k) [] ?_ ?_ ?_ ?_ ?_ ?_ | refine pendX3 (l.drop k) [] ?_ ?_ ?_ ?_ ?_ ?_ | refine pendX0 (l.drop k) [] ?_ ?_ ?_ ?_ ?_ ?_) | refine pendXG (l.drop k) [] ?_ ?_ ?_ ?_ ?_ ?_); (try (any_goals ((with_reducible show ∃ _ : List PV, _); (apply Exists.intro; apply And.intro; (· repeat' (first | exact presults_nil | apply presults_tmp | (apply presults_agg; (· exact rfl); (· exact rfl); (· exact rfl); (· exact rfl); (· exact rfl); (· first | exact Nat.le_refl _ | decide | simp)) | (apply presults_one; (· exact rfl); (· exact rfl); (· exact rfl); (· exact rfl); (· exact rfl)))))))); (any_goals ((with_reducible show _ ∨ _); (first | exact Or.inl rfl | exact Or.inr rfl))); (any_goals ((with_reducible show (_ : PV) = _); ((try simp (disch := omega) only [push_cast, seval]); (repeat' (first | exact trivial | exact rfl | refine And.intro ?_ ?_ | omega))))); (any_goals ((with_reducible show blkR _ _ _ _ _); ((try simp (disch := omega) only [push_cast, seval]); (repeat' (first | exact trivial | exact rfl | refine And.intro ?_ ?_ | omega))))); (any_goals ((with_reducible show nodupR _ = true); exact rfl)); (any_goals ((with_reducible show preR _ _); (first | exact trivial | exact ⟨rfl, trivial⟩ | exact ⟨rfl, rfl, trivial⟩ | exact ⟨rfl, rfl, rfl, trivial⟩))))
    exact ⟨by rw [List.length_drop]; omega, fun x hx => hsm x (List.mem_of_mem_drop hx)⟩
  ·
    refine Mk.of ?_
    refine PWp.frz 1 (e := 36) (sz := 12) (es := l.map pBlock) rfl (rowsC fun _ => rfl) ?_
    refine PWp.at (tm' := ?_) (H' := ?_) ?_ ?_ ?_; rotate_left 2
    · simp (disch := omega) only [push_cast, seval, thaw, thaw1, thawB]
      exact rfl
    · simp (disch := omega) only [push_cast, seval, thaw, thaw1, thawB, thawMV, thawMC, thawMI, thawMB, thawCw]
      exact rfl
    repeat' (first | with_reducible (first | refine wA ?_ | refine wB ?_ | refine wC ?_) | with_reducible refine PWp.draw (id := 8) okP true [0, 1, 2, 3, 4, 5, 6, 7, 8] (by kernel_rfl) ?_ | with_reducible (first | refine w1 ?_ | refine w2 ?_ | refine w3 ?_ | refine w4 ?_ | refine w5 ?_ | refine w6 ?_ | refine w7 ?_ | refine w8 ?_ | refine wT ?_ | refine w9 ?_ | refine wE ?_ | refine wS ?_) | ((with_reducible refine hK _ ?_); clear hK K) | ((with_reducible refine PWp.condI ?_); refine ⟨_, rfl, fun hg => ?_, fun hg => ?_⟩ <;> first | (exact absurd hg (by decide)) | ((try simp only [Bool.not_true, Bool.not_false] at hg); (try simp only [hg]); (try simp only [push_cast] at hg); (try exact absurd trivial hg); (try (exfalso; omega)))) | ((with_reducible refine pany_I ?_); refine ⟨_, rfl, fun K hK => ?_⟩) | ((with_reducible refine pops_plain fun K hK => ?_); simp (disch := omega) only [push_cast, seval]) | ((first | ((with_reducible refine pD_y ?_ ?_); exact rfl) | ((with_reducible refine pD_x ?_ ?_); exact rfl)); simp (disch := omega) only [push_cast, seval]) | ((with_reducible show pcall _ _ _ _ _ _); (first | (refine pcall_X1 (cf Tryz.func74) (by ((try simp (disch := omega) only [push_cast, seval]); first | done | exact rfl)) (sL1New_p _ sd) ?_; rintro c _) | (refine pcall_XG (cf Tryz.func94) [?_] ?_ ?_ ?_ (sL22Chain_p ?_) ?_; (any_goals ((with_reducible show (_ : List PV) = renL _ _ _); ((try simp (disch := omega) only [push_cast, seval]); (repeat' (first | exact trivial | exact rfl | refine And.intro ?_ ?_ | omega))))); (any_goals ((with_reducible show blkE _ _ _ _ _); (repeat' (first | exact trivial | refine And.intro ?_ ?_ | exact ⟨_, rfl⟩ | (simp (disch := omega) only [push_cast, seval]; done) | exact rfl)))); (any_goals ((with_reducible show nodupR _ = true); exact rfl)); rotate_right 1; rintro ⟨⟨s, n⟩, c⟩ ⟨hn1, hn2⟩; (rotate_left 1; (all_goals (try (first | omega | exact (show _ = _ by assumption)))); rotate_right 1)) | (refine pcall_XG (cf Tryz.func95) [?_] ?_ ?_ ?_ (sL1Below_p ?_ ?_ ?_) ?_; (any_goals ((with_reducible show (_ : List PV) = renL _ _ _); ((try simp (disch := omega) only [push_cast, seval]); (repeat' (first | exact trivial | exact rfl | refine And.intro ?_ ?_ | omega))))); (any_goals ((with_reducible show blkE _ _ _ _ _); (repeat' (first | exact trivial | refine And.intro ?_ ?_ | exact ⟨_, rfl⟩ | (simp (disch := omega) only [push_cast, seval]; done) | exact rfl)))); (any_goals ((with_reducible show nodupR _ = true); exact rfl)); rotate_right 1; rintro ⟨x, c⟩ ⟨hx1, hx2, hx3⟩; (rotate_left 1; (all_goals (try (first | omega | exact (show _ = _ by assumption)))); rotate_right 1)) | (refine pcall_XG (cf Tryz.func96) [?_] ?_ ?_ ?_ (hbent ?_) ?_; (any_goals ((with_reducible show (_ : List PV) = renL _ _ _); ((try simp (disch := omega) only [push_cast, seval]); (repeat' (first | exact trivial | exact rfl | refine And.intro ?_ ?_ | omega))))); (any_goals ((with_reducible show blkE _ _ _ _ _); (repeat' (first | exact trivial | refine And.intro ?_ ?_ | exact ⟨_, rfl⟩ | (simp (disch := omega) only [push_cast, seval]; done) | exact rfl)))); (any_goals ((with_reducible show nodupR _ = true); exact rfl)); rotate_right 1; rintro ⟨b, c⟩ ⟨hsb, -⟩; (rotate_left 1; (all_goals (try (first | omega | exact (show _ = _ by assumption)))); rotate_right 1))); (try simp (disch := omega) only [push_cast, seval])) | ((with_reducible refine And.intro ?_ ?_); omega))
    ((first | with_reducible (first | refine pendX1 l [] ?_ ?_ ?_ ?_ ?_ ?_ | refine pendX2 l [] ?_ ?_ ?_ ?_ ?_ ?_ | refine pendX3 l [] ?_ ?_ ?_ ?_ ?_ ?_ | refine pendX0 l [] ?_ ?_ ?_ ?_ ?_ ?_) | refine pendXG l [] ?_ ?_ ?_ ?_ ?_ ?_); (try (any_goals ((with_reducible show ∃ _ : List PV, _); (apply Exists.intro; apply And.intro; (· repeat' (first | exact presults_nil | apply presults_tmp | (apply presults_agg; (· exact rfl); (· exact rfl); (· exact rfl); (· exact rfl); (· exact rfl); (· first | exact Nat.le_refl _ | decide | simp)) | (apply presults_one; (· exact rfl); (· exact rfl); (· exact rfl); (· exact rfl); (· exact rfl)))))))); (any_goals ((with_reducible show _ ∨ _); (first | exact Or.inl rfl | exact Or.inr rfl))); (any_goals ((with_reducible show (_ : PV) = _); ((try simp (disch := omega) only [push_cast, seval]); (repeat' (first | exact trivial | exact rfl | refine And.intro ?_ ?_ | omega))))); (any_goals ((with_reducible show blkR _ _ _ _ _); ((try simp (disch := omega) only [push_cast, seval]); (repeat' (first | exact trivial | exact rfl | refine And.intro ?_ ?_ | omega))))); (any_goals ((with_reducible show nodupR _ = true); exact rfl)); (any_goals ((with_reducible show preR _ _); (first | exact trivial | exact ⟨rfl, trivial⟩ | exact ⟨rfl, rfl, trivial⟩ | exact ⟨rfl, rfl, rfl, trivial⟩))))
    exact ⟨by omega, hsm⟩
end Go.Proofs.YtiboajlnjldalaaGreatDoor
namespace Go.Proofs.YtiboajlnjldalaaGreatDoor
set_option linter.unusedSimpArgs false
set_option linter.unusedVariables false
open Go.RowKit Go.ChangeShapes Go.WideShapes
def cellU8 (x : UInt8) : List Value := [.int .u8 (x.toNat : Nat)]
theorem u8_dec {W : World} {n : Nat} (cs : List Value) (h : All2 (CellN W n) [.int .u8] cs) : ∃ a : UInt8, cs = cellU8 a ∧ True := by
  match cs, h with
  | [_], ⟨k1, _⟩ =>
    obtain ⟨i, rfl, h1⟩ := cell_int k1
    have hb : 0 ≤ i ∧ i ≤ 255 := by
      simp [Lit.wf, IntKind.min, IntKind.max, IntKind.signed, IntKind.bits] at h1
      omega
    obtain ⟨j, rfl⟩ := Int.eq_ofNat_of_zero_le hb.1
    refine ⟨UInt8.ofNat j, ?_, trivial⟩
    have : (UInt8.ofNat j).toNat = j := by rw [UInt8.toNat_ofNat']; omega
    simp [cellU8, this]
theorem sl_code {W : World} {v : Value} {xs : List UInt8} (h : Sl cellU8 1 W v xs) (hm : Home) : VR (memW W) hm (.sl 1 (xs.map pU8)) v := by
  rcases h with ⟨o, cap, rfl, rfl⟩ | ⟨b, off, cap, rfl, h1, h2, h3, h4, h5⟩
  · exact .sl0 1 o cap
  · have := VR.sl (M := memW W) (h := hm) 1 (xs.map pU8) b off cap (fun i _ => .int .u8 ((xs.getD i 0).toNat : Nat)) (by simpa using h1) (by simpa using h2) h3 (fun row hr => by obtain ⟨x, _, rfl⟩ := List.mem_map.1 hr; rfl)
      (fun i j row pv a d => by
        rw [List.getElem?_map, Option.map_eq_some_iff] at a
        obtain ⟨x, a, rfl⟩ := a
        cases j with
        | succ j => simp [pU8] at d
        | zero =>
          refine memW_of ?_ rfl
          rw [h5 i x a 0 (by omega), List.getD_eq_getElem?_getD, a]
          rfl)
      (fun i j row pv a d => by
        rw [List.getElem?_map, Option.map_eq_some_iff] at a
        obtain ⟨x, a, rfl⟩ := a
        cases j with
        | succ j => simp [pU8] at d
        | zero =>
          simp [pU8] at d
          subst d
          rw [List.getD_eq_getElem?_getD, a]
          exact .val _)
    simpa using this
set_option maxRecDepth 100000 in
theorem code_law {f : FuncId} (hp : ∀ code : List UInt8, code.length ≤ 9223372036854775807 → PCalls Tryz.prog f [.sl 1 (code.map pU8)] [] (RV (.val (.bool true)))) {H : Type} {enc : TypeId × Value → H} (W : World) (base : Nat) (args : Array Value) (ds : List (DataW H)) (p : List MemPlace) (hG : GlobW W)
    (hval : ∀ (j : Nat) t v, #[22][j]? = some t → args[j]? = some v → Value.okWide Tryz.prog W .any base t v)
    (hA : DataW.TrodAll enc Tryz.prog W 0 (fun _ => true) true #[22].toList args.toList ds p) :
    Calls Tryz.prog f args W fun e W' => e = .returned (.bool true) ∧ Ext W W' := by
  obtain ⟨v0, d0, rfl, rfl, h0⟩ := trodAll_one hA
  have hc := read_slice Tryz.underlying22 (n := 4) (s := .sl [.int .u8]) (by kernel_rfl) (hval 0 _ _ rfl rfl) h0
  obtain ⟨xs, hx, _⟩ := sl_read (by decide) u8_dec hc
  have hl : xs.length ≤ 9223372036854775807 := by have := hx.len; unfold maxLen at this; omega
  refine ((hp xs hl).use (w := W) hG.mem (vs := #[v0]) ⟨rfl, fun i pv v a b => ?_⟩).mono fun e w' ⟨v, M', h', pv, H', e1, e2, e3, _, e5, _⟩ => ?_
  · cases i with
    | zero => simp at a b; subst a; subst b; exact sl_code hx _
    | succ i => simp at a
  · cases e2
    have := vr_val e3
    subst this
    exact ⟨e1, e5⟩
end Go.Proofs.YtiboajlnjldalaaGreatDoor
namespace Go.Proofs.YtiboajlnjldalaaGreatDoor
set_option linter.unusedSimpArgs false
set_option linter.unusedVariables false
open Go.RowKit
set_option maxRecDepth 1000000
theorem vb_eq0 {P : Program} {t : TypeId} (h : P.underlying t = some .bool) {x y : Operand} {a b : Bool} : sflat P (do eqGuard .eql t x y (.bool a) (.bool b); binOp .eql t (.bool a) (.bool b)) = some (.bool (a == b)) := by
  have e := eqIn_bool (P := P) (t := t) (d := 9999) (a := a) (b := b) h
  simp only [eqGuard, sflat_bind, binOp, Op.equal, Op.maxDepth]
  simp [sflat_pure, e, sflat_bind, sflat, pure]
theorem vb_eq {x y : Operand} {a b : Bool} : sflat Tryz.prog (do eqGuard .eql 4 x y (.bool a) (.bool b); binOp .eql 4 (.bool a) (.bool b)) = some (.bool (a == b)) := vb_eq0 (by kernel_rfl)
set_option maxHeartbeats 40000000 in
theorem fnChain_p (code : List UInt8) (hc : code.length ≤ 9223372036854775807) : PCalls Tryz.prog 3 [.sl 1 (code.map pU8)] [] (RV (.val (.bool true))) := by
  have A0 : ((atC code 0 : Nat) : Int) < 256 := by have := atC_lt code 0; omega
  refine pcalls_ofR okP Tryz.func3 rfl ?_
  simp only [Tryz.f3, List.length_cons, List.length_nil, Nat.reduceAdd, Nat.reduceSub, List.replicate_succ, List.replicate_zero, List.cons_append, List.nil_append, List.length_map]
  repeat' (first | with_reducible refine mkRegion (id := 4) ?_ | with_reducible (first | refine wA ?_ | refine wB ?_ | refine wC ?_) | with_reducible refine PWp.draw (id := 11) okP true [0, 1, 2, 3, 4, 5, 6, 7, 8, 9, 10, 11, 12, 13, 14, 15, 16, 17, 18] (by kernel_rfl) ?_ | with_reducible refine PWp.draw (id := 16) okP true [0, 2, 1, 3, 4, 5, 6, 7, 8, 9, 10, 11, 12, 13, 14, 15, 16, 17, 18, 19, 20, 21, 22, 23, 24, 25, 26, 27, 28, 29, 30, 31, 32] (by kernel_rfl) ?_ | with_reducible (first | refine w1 ?_ | refine w2 ?_ | refine w3 ?_ | refine w4 ?_ | refine w5 ?_ | refine w6 ?_ | refine w7 ?_ | refine w8 ?_ | refine wT ?_ | refine w9 ?_ | refine wE ?_ | refine wS ?_) | ((with_reducible refine hK _ ?_); clear hK K) | ((with_reducible refine PWp.condI ?_); refine ⟨_, rfl, fun hg => ?_, fun hg => ?_⟩ <;> first | (exact absurd hg (by decide)) | ((try simp only [Bool.not_true, Bool.not_false] at hg); (try simp only [hg]); (try simp only [push_cast] at hg); (try exact absurd trivial hg); (try (exfalso; omega)))) | ((first | ((with_reducible refine pops_guard0 ?_); refine ⟨_, rfl, fun K hK => ⟨rfl, ?_⟩⟩) | ((with_reducible refine pD_g0 ?_); refine ⟨_, rfl, rfl, ?_⟩)); (try simp (disch := omega) only [push_cast, seval])) | ((with_reducible refine pany_I ?_); refine ⟨_, rfl, fun K hK => ?_⟩) | ((with_reducible refine pops_plain fun K hK => ?_); simp (disch := omega) only [push_cast, seval]) | ((first | ((with_reducible refine pD_y ?_ ?_); exact rfl) | ((with_reducible refine pD_x ?_ ?_); exact rfl)); simp (disch := omega) only [push_cast, seval]) | ((first | ((with_reducible refine pops_guard ?_); refine ⟨_, rfl, fun K hK => ⟨_, rfl, fun hg => ?_, fun hg => ?_⟩⟩) | ((first | ((with_reducible refine pD_gy ?_ ?_); exact rfl) | ((with_reducible refine pD_gx ?_ ?_); exact rfl)); refine ⟨_, rfl, _, rfl, fun hg => ?_, fun hg => ?_⟩)) <;> first | (exact absurd hg (by decide)) | ((try simp only [Bool.not_true, Bool.not_false] at hg); (try simp only [hg]); (try simp only [push_cast] at hg); (try exact absurd trivial hg); (try (exfalso; omega)); (try simp (disch := omega) only [push_cast, seval]))) | ((with_reducible show pcall _ _ _ _ _ _); (first | (refine pcV (cf Tryz.func11) (big_p _ sd) ?_) | (refine pcall_X1 (cf Tryz.func12) (by ((try simp (disch := omega) only [push_cast, seval]); first | done | exact rfl)) (sDrawChainOf_p _ sd) ?_; rintro ⟨s, n⟩ ⟨hs, -⟩) | (refine pcV (cf Tryz.func15) (iChainOk_p _ sd (by assumption)) ?_) | (refine pcV (cf Tryz.func16) (sChainOk_p _ sd (by assumption)) ?_) | (refine pcV (cf Tryz.func17) (iBlockOk_p ⟨⟨_, _, _, _, _, _⟩, _, _, ⟨_, _, _, _⟩⟩ (by first | assumption | exact ⟨by (first | assumption | omega | (simp; omega) | (simp_all; done) | (simp_all; omega)), by (first | assumption | omega | (simp; omega) | (simp_all; done) | (simp_all; omega)), by (first | assumption | omega | (simp; omega) | (simp_all; done) | (simp_all; omega))⟩)) ?_) | (refine pcV (cf Tryz.func19) (at_p _ _ sd sd) ?_)); (try simp (disch := omega) only [push_cast, seval])) | ((with_reducible refine And.intro ?_ ?_); omega))
  · ((with_reducible show PPostR _ _ _ _ _ _); refine finV ?_; (try simp only [push_cast, seval]))
  refine Mk.of ?_
  have c1 := iChainOf_q s n (by omega)
  have c2 := sChainOf_q s n (by omega)
  have hok := chainOf_ok s n
  have hsm := cq_sm (s := s) (n := n)
  have hbk := cq_ok (s := s) (n := n)
  have hget := cq_get s n
  have hlen := cq_len s n
  generalize chainOf s n = l at c1 c2 hok hsm hbk hget hlen
  have d1 := iChainOk_p l (by omega) hsm
  have d2 := sChainOk_p l (by omega) hsm
  rw [hok] at d1 d2
  repeat' (first | with_reducible (first | refine wA ?_ | refine wB ?_ | refine wC ?_) | with_reducible refine PWp.draw (id := 11) okP true [0, 1, 2, 3, 4, 5, 6, 7, 8, 9, 10, 11, 12, 13, 14, 15, 16, 17, 18] (by kernel_rfl) ?_ | with_reducible refine PWp.draw (id := 16) okP true [0, 2, 1, 3, 4, 5, 6, 7, 8, 9, 10, 11, 12, 13, 14, 15, 16, 17, 18, 19, 20, 21, 22, 23, 24, 25, 26, 27, 28, 29, 30, 31, 32] (by kernel_rfl) ?_ | with_reducible (first | refine w1 ?_ | refine w2 ?_ | refine w3 ?_ | refine w4 ?_ | refine w5 ?_ | refine w6 ?_ | refine w7 ?_ | refine w8 ?_ | refine wT ?_ | refine w9 ?_ | refine wE ?_ | refine wS ?_) | ((with_reducible refine hK _ ?_); clear hK K) | ((with_reducible refine PWp.condI ?_); refine ⟨_, rfl, fun hg => ?_, fun hg => ?_⟩ <;> first | (exact absurd hg (by decide)) | ((try simp only [Bool.not_true, Bool.not_false] at hg); (try simp only [hg]); (try simp only [push_cast] at hg); (try exact absurd trivial hg); (try (exfalso; omega)))) | ((first | ((with_reducible refine pops_guard0 ?_); refine ⟨_, rfl, fun K hK => ⟨rfl, ?_⟩⟩) | ((with_reducible refine pD_g0 ?_); refine ⟨_, rfl, rfl, ?_⟩)); (try simp (disch := omega) only [push_cast, seval])) | ((with_reducible refine pany_I ?_); refine ⟨_, rfl, fun K hK => ?_⟩) | ((with_reducible refine pops_plain fun K hK => ?_); simp (disch := omega) only [push_cast, seval]) | ((first | ((with_reducible refine pD_y ?_ ?_); exact rfl) | ((with_reducible refine pD_x ?_ ?_); exact rfl)); simp (disch := omega) only [push_cast, seval]) | ((first | ((with_reducible refine pops_guard ?_); refine ⟨_, rfl, fun K hK => ⟨_, rfl, fun hg => ?_, fun hg => ?_⟩⟩) | ((first | ((with_reducible refine pD_gy ?_ ?_); exact rfl) | ((with_reducible refine pD_gx ?_ ?_); exact rfl)); refine ⟨_, rfl, _, rfl, fun hg => ?_, fun hg => ?_⟩)) <;> first | (exact absurd hg (by decide)) | ((try simp only [Bool.not_true, Bool.not_false] at hg); (try simp only [hg]); (try simp only [push_cast] at hg); (try exact absurd trivial hg); (try (exfalso; omega)); (try simp (disch := omega) only [push_cast, seval]))) | ((with_reducible show pcall _ _ _ _ _ _); (first | (refine pcV (cf Tryz.func11) (big_p _ sd) ?_) | (refine pcall_X1 (cf Tryz.func12) (by ((try simp (disch := omega) only [push_cast, seval]); first | done | exact rfl)) (sDrawChainOf_p _ sd) ?_; rintro ⟨s, n⟩ ⟨hs, -⟩) | (refine pcF (cf Tryz.func13) (c1) ?_) | (refine pcF (cf Tryz.func14) (c2) ?_) | (refine pcV (cf Tryz.func15) (d1) ?_) | (refine pcV (cf Tryz.func16) (d2) ?_) | (refine pcV (cf Tryz.func17) (iBlockOk_p ⟨⟨_, _, _, _, _, _⟩, _, _, ⟨_, _, _, _⟩⟩ (by first | assumption | exact ⟨by (first | assumption | omega | (simp; omega) | (simp_all; done) | (simp_all; omega)), by (first | assumption | omega | (simp; omega) | (simp_all; done) | (simp_all; omega)), by (first | assumption | omega | (simp; omega) | (simp_all; done) | (simp_all; omega))⟩)) ?_) | (refine pcV (cf Tryz.func19) (at_p _ _ sd sd) ?_)); (try simp (disch := omega) only [push_cast, seval])) | ((with_reducible refine And.intro ?_ ?_); omega))
  refine PWp.loopK (α := Nat) (fun i => [(7, .val (.int .i64 (i : Int)))]) [1, 2, 4, 11, 12, 13, 14, 15, 16, 17, 18, 19, 20, 21, 22, 23, 24, 25, 26, 27, 28, 29, 30, 31, 32, 33, 34, 35, 36, 37, 38, 39, 40, 41, 42, 43, 44, 45, 46, 47, 48, 49, 50, 51, 52, 53, 54, 55, 56, 57, 58, 59, 60, 61, 62, 63] (fun i => []) (fun i => i ≤ l.length) (fun i => l.length - i) (0) (Nat.zero_le _) (by (refine ⟨[], ?_, ?_, ?_, ?_⟩; (· ((try simp (disch := omega) only [push_cast, seval]); (repeat' (first | exact trivial | exact rfl | refine And.intro ?_ ?_ | omega)))); (· ((try simp (disch := omega) only [push_cast, seval]); (repeat' (first | exact trivial | exact rfl | refine And.intro ?_ ?_ | omega)))); (· exact rfl); (· (first | exact trivial | exact ⟨rfl, trivial⟩ | exact ⟨rfl, rfl, trivial⟩)))) ?_
  intro i ρ hI
  (try dsimp only at hI)
  refine PWp.at (tm' := ?_) (H' := ?_) ?_ ?_ ?_; rotate_left 2; (· ((try simp only [push_cast, seval]); exact rfl)); (· ((try dsimp only); exact rfl))
  by_cases hlt : i < l.length
  case' pos =>
    obtain ⟨b, hx⟩ : ∃ b, l[i]? = some b := ⟨_, List.getElem?_eq_getElem hlt⟩
    have e1 := iBlockOk_p b (hsm b (List.mem_of_getElem? hx))
    rw [hbk b (List.mem_of_getElem? hx)] at e1
    obtain ⟨⟨b1, b2, b3, b4, b5, b6⟩, bv, bn, ⟨dh, dr, di, ds⟩⟩ := b
    repeat' (first | with_reducible (first | refine wA ?_ | refine wB ?_ | refine wC ?_) | with_reducible refine PWp.draw (id := 11) okP true [0, 1, 2, 3, 4, 5, 6, 7, 8, 9, 10, 11, 12, 13, 14, 15, 16, 17, 18] (by kernel_rfl) ?_ | with_reducible refine PWp.draw (id := 16) okP true [0, 2, 1, 3, 4, 5, 6, 7, 8, 9, 10, 11, 12, 13, 14, 15, 16, 17, 18, 19, 20, 21, 22, 23, 24, 25, 26, 27, 28, 29, 30, 31, 32] (by kernel_rfl) ?_ | with_reducible (first | refine w1 ?_ | refine w2 ?_ | refine w3 ?_ | refine w4 ?_ | refine w5 ?_ | refine w6 ?_ | refine w7 ?_ | refine w8 ?_ | refine wT ?_ | refine w9 ?_ | refine wE ?_ | refine wS ?_) | ((with_reducible refine hK _ ?_); clear hK K) | ((with_reducible refine PWp.condI ?_); refine ⟨_, rfl, fun hg => ?_, fun hg => ?_⟩ <;> first | (exact absurd hg (by decide)) | ((try simp only [Bool.not_true, Bool.not_false] at hg); (try simp only [hg]); (try simp only [push_cast] at hg); (try exact absurd trivial hg); (try (exfalso; omega)))) | ((first | ((with_reducible refine pops_guard0 ?_); refine ⟨_, rfl, fun K hK => ⟨rfl, ?_⟩⟩) | ((with_reducible refine pD_g0 ?_); refine ⟨_, rfl, rfl, ?_⟩)); (try simp (disch := omega) only [push_cast, seval, hx, eqB_self])) | ((with_reducible refine pany_I ?_); refine ⟨_, rfl, fun K hK => ?_⟩) | ((with_reducible refine pops_plain fun K hK => ?_); simp (disch := omega) only [push_cast, seval, hx, eqB_self]) | ((first | ((with_reducible refine pD_y ?_ ?_); exact rfl) | ((with_reducible refine pD_x ?_ ?_); exact rfl)); simp (disch := omega) only [push_cast, seval, hx, eqB_self]) | ((first | ((with_reducible refine pops_guard ?_); refine ⟨_, rfl, fun K hK => ⟨_, rfl, fun hg => ?_, fun hg => ?_⟩⟩) | ((first | ((with_reducible refine pD_gy ?_ ?_); exact rfl) | ((with_reducible refine pD_gx ?_ ?_); exact rfl)); refine ⟨_, rfl, _, rfl, fun hg => ?_, fun hg => ?_⟩)) <;> first | (exact absurd hg (by decide)) | ((try simp only [Bool.not_true, Bool.not_false] at hg); (try simp only [hg]); (try simp only [push_cast] at hg); (try exact absurd trivial hg); (try (exfalso; omega)); (try simp (disch := omega) only [push_cast, seval, hx, eqB_self]))) | ((with_reducible show pcall _ _ _ _ _ _); (first | (refine pcV (cf Tryz.func11) (big_p _ sd) ?_) | (refine pcall_X1 (cf Tryz.func12) (by ((try simp (disch := omega) only [push_cast, seval]); first | done | exact rfl)) (sDrawChainOf_p _ sd) ?_; rintro ⟨s, n⟩ ⟨hs, -⟩) | (refine pcF (cf Tryz.func13) (c1) ?_) | (refine pcF (cf Tryz.func14) (c2) ?_) | (refine pcV (cf Tryz.func15) (d1) ?_) | (refine pcV (cf Tryz.func16) (d2) ?_) | (refine pcV (cf Tryz.func17) (e1) ?_) | (refine pcV (cf Tryz.func19) (at_p _ _ sd sd) ?_)); (try simp (disch := omega) only [push_cast, seval, hx, eqB_self])) | ((with_reducible refine And.intro ?_ ?_); omega))
    (refine ⟨i + 1, by ((try dsimp only); omega), ?_, by (refine ⟨[], ?_, ?_, ?_, ?_⟩; (· ((try simp (disch := omega) only [push_cast, seval]); (repeat' (first | exact trivial | exact rfl | refine And.intro ?_ ?_ | omega)))); (· ((try simp (disch := omega) only [push_cast, seval]); (repeat' (first | exact trivial | exact rfl | refine And.intro ?_ ?_ | omega)))); (· exact rfl); (· (first | exact trivial | exact ⟨rfl, trivial⟩ | exact ⟨rfl, rfl, trivial⟩)))⟩)
    exact hlt
  case' neg =>
    obtain rfl : i = l.length := by omega
    repeat' (first | with_reducible refine mkRegion (id := 14) ?_ | with_reducible (first | refine wA ?_ | refine wB ?_ | refine wC ?_) | with_reducible refine PWp.draw (id := 11) okP true [0, 1, 2, 3, 4, 5, 6, 7, 8, 9, 10, 11, 12, 13, 14, 15, 16, 17, 18] (by kernel_rfl) ?_ | with_reducible refine PWp.draw (id := 16) okP true [0, 2, 1, 3, 4, 5, 6, 7, 8, 9, 10, 11, 12, 13, 14, 15, 16, 17, 18, 19, 20, 21, 22, 23, 24, 25, 26, 27, 28, 29, 30, 31, 32] (by kernel_rfl) ?_ | with_reducible (first | refine w1 ?_ | refine w2 ?_ | refine w3 ?_ | refine w4 ?_ | refine w5 ?_ | refine w6 ?_ | refine w7 ?_ | refine w8 ?_ | refine wT ?_ | refine w9 ?_ | refine wE ?_ | refine wS ?_) | ((with_reducible refine hK _ ?_); clear hK K) | ((with_reducible refine PWp.condI ?_); refine ⟨_, rfl, fun hg => ?_, fun hg => ?_⟩ <;> first | (exact absurd hg (by decide)) | ((try simp only [Bool.not_true, Bool.not_false] at hg); (try simp only [hg]); (try simp only [push_cast] at hg); (try exact absurd trivial hg); (try (exfalso; omega)))) | ((first | ((with_reducible refine pops_guard0 ?_); refine ⟨_, rfl, fun K hK => ⟨rfl, ?_⟩⟩) | ((with_reducible refine pD_g0 ?_); refine ⟨_, rfl, rfl, ?_⟩)); (try simp (disch := omega) only [push_cast, seval])) | ((with_reducible refine pany_I ?_); refine ⟨_, rfl, fun K hK => ?_⟩) | ((with_reducible refine pops_plain fun K hK => ?_); simp (disch := omega) only [push_cast, seval]) | ((first | ((with_reducible refine pD_y ?_ ?_); exact rfl) | ((with_reducible refine pD_x ?_ ?_); exact rfl)); simp (disch := omega) only [push_cast, seval]) | ((first | ((with_reducible refine pops_guard ?_); refine ⟨_, rfl, fun K hK => ⟨_, rfl, fun hg => ?_, fun hg => ?_⟩⟩) | ((first | ((with_reducible refine pD_gy ?_ ?_); exact rfl) | ((with_reducible refine pD_gx ?_ ?_); exact rfl)); refine ⟨_, rfl, _, rfl, fun hg => ?_, fun hg => ?_⟩)) <;> first | (exact absurd hg (by decide)) | ((try simp only [Bool.not_true, Bool.not_false] at hg); (try simp only [hg]); (try simp only [push_cast] at hg); (try exact absurd trivial hg); (try (exfalso; omega)); (try simp (disch := omega) only [push_cast, seval]))) | ((with_reducible show pcall _ _ _ _ _ _); (first | (refine pcV (cf Tryz.func11) (big_p _ sd) ?_) | (refine pcall_X1 (cf Tryz.func12) (by ((try simp (disch := omega) only [push_cast, seval]); first | done | exact rfl)) (sDrawChainOf_p _ sd) ?_; rintro ⟨s, n⟩ ⟨hs, -⟩) | (refine pcF (cf Tryz.func13) (c1) ?_) | (refine pcF (cf Tryz.func14) (c2) ?_) | (refine pcV (cf Tryz.func15) (d1) ?_) | (refine pcV (cf Tryz.func16) (d2) ?_) | (refine pcV (cf Tryz.func17) (e1) ?_) | (refine pcall_X1 (cf Tryz.func18) (by ((try simp (disch := omega) only [push_cast, seval]); first | done | exact rfl)) (sDrawChainOk_p _ sd) ?_; rintro x ⟨hxl, hxs⟩) | (refine pcV (cf Tryz.func19) (at_p _ _ sd sd) ?_)); (try simp (disch := omega) only [push_cast, seval])) | ((with_reducible refine And.intro ?_ ?_); omega))
    refine Mk.of ?_
    have g1 := iChainOk_p x (by omega) hxs
    have g2 := sChainOk_p x (by omega) hxs
    generalize chainOk x = ck at g1 g2
    obtain ⟨k, hk, hk2⟩ : ∃ k : Nat, ((atC code 0 : Nat) : Int) % 3 = (k : Int) ∧ k ≤ 2 := ⟨atC code 0 % 3, by simp [Int.natCast_emod], by omega⟩
    have c3 := iChainOf_q s ((k + 1 : Nat) : Int) (by omega)
    have hl3 := cq_len1 s (k + 1) (by omega)
    have hg3 := cq_get s ((k + 1 : Nat) : Int) k (by omega)
    push_cast at c3 hl3 hg3
    generalize chainOf s ((k : Int) + 1) = z at c3 hl3 hg3
    by_cases hc3 : k < l.length
    case' pos =>
      have hg4 := hget k hc3
      generalize chainAt s k = b at hg3 hg4
      obtain ⟨⟨b1, b2, b3, b4, b5, b6⟩, bv, bn, ⟨dh, dr, di, ds⟩⟩ := b
      repeat' (first | with_reducible (first | refine wA ?_ | refine wB ?_ | refine wC ?_) | with_reducible refine PWp.draw (id := 11) okP true [0, 1, 2, 3, 4, 5, 6, 7, 8, 9, 10, 11, 12, 13, 14, 15, 16, 17, 18] (by kernel_rfl) ?_ | with_reducible refine PWp.draw (id := 16) okP true [0, 2, 1, 3, 4, 5, 6, 7, 8, 9, 10, 11, 12, 13, 14, 15, 16, 17, 18, 19, 20, 21, 22, 23, 24, 25, 26, 27, 28, 29, 30, 31, 32] (by kernel_rfl) ?_ | with_reducible (first | refine w1 ?_ | refine w2 ?_ | refine w3 ?_ | refine w4 ?_ | refine w5 ?_ | refine w6 ?_ | refine w7 ?_ | refine w8 ?_ | refine wT ?_ | refine w9 ?_ | refine wE ?_ | refine wS ?_) | ((with_reducible refine hK _ ?_); clear hK K) | ((with_reducible refine PWp.condI ?_); refine ⟨_, rfl, fun hg => ?_, fun hg => ?_⟩ <;> first | (exact absurd hg (by decide)) | ((try simp only [Bool.not_true, Bool.not_false] at hg); (try simp only [hg]); (try simp only [push_cast] at hg); (try exact absurd trivial hg); (try (exfalso; omega)))) | ((first | ((with_reducible refine pops_guard0 ?_); refine ⟨_, rfl, fun K hK => ⟨rfl, ?_⟩⟩) | ((with_reducible refine pD_g0 ?_); refine ⟨_, rfl, rfl, ?_⟩)); (try simp (disch := omega) only [push_cast, seval, hk, hl3, hg3, hg4, vb_eq, beq_self_eq_true, eqB_self])) | ((with_reducible refine pany_I ?_); refine ⟨_, rfl, fun K hK => ?_⟩) | ((with_reducible refine pops_plain fun K hK => ?_); simp (disch := omega) only [push_cast, seval, hk, hl3, hg3, hg4, vb_eq, beq_self_eq_true, eqB_self]) | ((first | ((with_reducible refine pD_y ?_ ?_); exact rfl) | ((with_reducible refine pD_x ?_ ?_); exact rfl)); simp (disch := omega) only [push_cast, seval, hk, hl3, hg3, hg4, vb_eq, beq_self_eq_true, eqB_self]) | ((first | ((with_reducible refine pops_guard ?_); refine ⟨_, rfl, fun K hK => ⟨_, rfl, fun hg => ?_, fun hg => ?_⟩⟩) | ((first | ((with_reducible refine pD_gy ?_ ?_); exact rfl) | ((with_reducible refine pD_gx ?_ ?_); exact rfl)); refine ⟨_, rfl, _, rfl, fun hg => ?_, fun hg => ?_⟩)) <;> first | (exact absurd hg (by decide)) | ((try simp only [Bool.not_true, Bool.not_false] at hg); (try simp only [hg]); (try simp only [push_cast] at hg); (try exact absurd trivial hg); (try (exfalso; omega)); (try simp (disch := omega) only [push_cast, seval, hk, hl3, hg3, hg4, vb_eq, beq_self_eq_true, eqB_self]))) | ((with_reducible show pcall _ _ _ _ _ _); (first | (refine pcV (cf Tryz.func11) (big_p _ sd) ?_) | (refine pcall_X1 (cf Tryz.func12) (by ((try simp (disch := omega) only [push_cast, seval]); first | done | exact rfl)) (sDrawChainOf_p _ sd) ?_; rintro ⟨s, n⟩ ⟨hs, -⟩) | (refine pcF (cf Tryz.func13) (c3) ?_) | (refine pcF (cf Tryz.func14) (c2) ?_) | (refine pcV (cf Tryz.func15) (g1) ?_) | (refine pcV (cf Tryz.func16) (g2) ?_) | (refine pcV (cf Tryz.func17) (e1) ?_) | (refine pcall_X1 (cf Tryz.func18) (by ((try simp (disch := omega) only [push_cast, seval]); first | done | exact rfl)) (sDrawChainOk_p _ sd) ?_; rintro x ⟨hxl, hxs⟩) | (refine pcV (cf Tryz.func19) (at_p _ _ sd sd) ?_)); (try simp (disch := omega) only [push_cast, seval, hk, hl3, hg3, hg4, vb_eq, beq_self_eq_true, eqB_self])) | ((with_reducible refine And.intro ?_ ?_); omega))
      all_goals ((with_reducible show PPostR _ _ _ _ _ _); refine finV ?_; (try simp only [push_cast, seval]))
    case' neg =>
      repeat' (first | with_reducible (first | refine wA ?_ | refine wB ?_ | refine wC ?_) | with_reducible refine PWp.draw (id := 11) okP true [0, 1, 2, 3, 4, 5, 6, 7, 8, 9, 10, 11, 12, 13, 14, 15, 16, 17, 18] (by kernel_rfl) ?_ | with_reducible refine PWp.draw (id := 16) okP true [0, 2, 1, 3, 4, 5, 6, 7, 8, 9, 10, 11, 12, 13, 14, 15, 16, 17, 18, 19, 20, 21, 22, 23, 24, 25, 26, 27, 28, 29, 30, 31, 32] (by kernel_rfl) ?_ | with_reducible (first | refine w1 ?_ | refine w2 ?_ | refine w3 ?_ | refine w4 ?_ | refine w5 ?_ | refine w6 ?_ | refine w7 ?_ | refine w8 ?_ | refine wT ?_ | refine w9 ?_ | refine wE ?_ | refine wS ?_) | ((with_reducible refine hK _ ?_); clear hK K) | ((with_reducible refine PWp.condI ?_); refine ⟨_, rfl, fun hg => ?_, fun hg => ?_⟩ <;> first | (exact absurd hg (by decide)) | ((try simp only [Bool.not_true, Bool.not_false] at hg); (try simp only [hg]); (try simp only [push_cast] at hg); (try exact absurd trivial hg); (try (exfalso; omega)))) | ((first | ((with_reducible refine pops_guard0 ?_); refine ⟨_, rfl, fun K hK => ⟨rfl, ?_⟩⟩) | ((with_reducible refine pD_g0 ?_); refine ⟨_, rfl, rfl, ?_⟩)); (try simp (disch := omega) only [push_cast, seval, hk, hl3, vb_eq, beq_self_eq_true, eqB_self])) | ((with_reducible refine pany_I ?_); refine ⟨_, rfl, fun K hK => ?_⟩) | ((with_reducible refine pops_plain fun K hK => ?_); simp (disch := omega) only [push_cast, seval, hk, hl3, vb_eq, beq_self_eq_true, eqB_self]) | ((first | ((with_reducible refine pD_y ?_ ?_); exact rfl) | ((with_reducible refine pD_x ?_ ?_); exact rfl)); simp (disch := omega) only [push_cast, seval, hk, hl3, vb_eq, beq_self_eq_true, eqB_self]) | ((first | ((with_reducible refine pops_guard ?_); refine ⟨_, rfl, fun K hK => ⟨_, rfl, fun hg => ?_, fun hg => ?_⟩⟩) | ((first | ((with_reducible refine pD_gy ?_ ?_); exact rfl) | ((with_reducible refine pD_gx ?_ ?_); exact rfl)); refine ⟨_, rfl, _, rfl, fun hg => ?_, fun hg => ?_⟩)) <;> first | (exact absurd hg (by decide)) | ((try simp only [Bool.not_true, Bool.not_false] at hg); (try simp only [hg]); (try simp only [push_cast] at hg); (try exact absurd trivial hg); (try (exfalso; omega)); (try simp (disch := omega) only [push_cast, seval, hk, hl3, vb_eq, beq_self_eq_true, eqB_self]))) | ((with_reducible show pcall _ _ _ _ _ _); (first | (refine pcV (cf Tryz.func11) (big_p _ sd) ?_) | (refine pcall_X1 (cf Tryz.func12) (by ((try simp (disch := omega) only [push_cast, seval]); first | done | exact rfl)) (sDrawChainOf_p _ sd) ?_; rintro ⟨s, n⟩ ⟨hs, -⟩) | (refine pcF (cf Tryz.func13) (c3) ?_) | (refine pcF (cf Tryz.func14) (c2) ?_) | (refine pcV (cf Tryz.func15) (g1) ?_) | (refine pcV (cf Tryz.func16) (g2) ?_) | (refine pcV (cf Tryz.func17) (e1) ?_) | (refine pcall_X1 (cf Tryz.func18) (by ((try simp (disch := omega) only [push_cast, seval]); first | done | exact rfl)) (sDrawChainOk_p _ sd) ?_; rintro x ⟨hxl, hxs⟩) | (refine pcV (cf Tryz.func19) (at_p _ _ sd sd) ?_)); (try simp (disch := omega) only [push_cast, seval, hk, hl3, vb_eq, beq_self_eq_true, eqB_self])) | ((with_reducible refine And.intro ?_ ?_); omega))
      all_goals ((with_reducible show PPostR _ _ _ _ _ _); refine finV ?_; (try simp only [push_cast, seval]))
end Go.Proofs.YtiboajlnjldalaaGreatDoor

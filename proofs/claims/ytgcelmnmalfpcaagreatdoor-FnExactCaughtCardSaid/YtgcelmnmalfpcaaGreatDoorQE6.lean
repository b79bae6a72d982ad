/- What the proof leans on, part 6. -/
import Derived.Test.YtgcelmnmalfpcaaGreatDoorQE5
namespace Go.Proofs.YtgcelmnmalfpcaaGreatDoor
set_option linter.unusedSimpArgs false
set_option linter.unusedVariables false
open Go.RowKit
set_option maxRecDepth 100000
theorem chain_step {l : List GBlock} (h : chainOk l = true) {k : Nat} {u v : GBlock} (hu : l[k]? = some u) (hv : l[k + 1]? = some v) : v.fHead.fHeight = u.fHead.fHeight + 1 := by
  have := (adjOk_iff.1 h).2 k u v hu hv
  unfold blockLink at this
  simp only [Bool.and_eq_true, decide_eq_true_eq] at this
  exact this.1.1.1
theorem chain_height {l : List GBlock} (h : chainOk l = true) {b : GBlock} (hb : l[0]? = some b) : ∀ (k : Nat) (u : GBlock), l[k]? = some u → u.fHead.fHeight = b.fHead.fHeight + k
  | 0, u, hu => by rw [hb] at hu; cases hu; simp
  | k + 1, u, hu => by
    have hk : k < l.length := by have := (List.getElem?_eq_some_iff.1 hu).1; omega
    have hv : l[k]? = some l[k] := List.getElem?_eq_getElem hk
    have h1 := chain_step h hv hu
    have h2 := chain_height h hb k _ hv
    rw [h1, h2]
    push_cast
    omega
theorem chain_bd {l : List GBlock} (h : chainOk l = true) {k : Nat} {u : GBlock} (hu : l[k]? = some u) : 1 ≤ u.fHead.fHeight ∧ u.fHead.fHeight ≤ 1000000 := by
  have := headerOk_facts (blockOk_head ((adjOk_iff.1 h).1 k u hu))
  exact ⟨this.h1, this.h2⟩
theorem chain_one {l : List GBlock} (h : chainOk l = true) {i k : Nat} {u v : GBlock} (hu : l[i]? = some u) (hv : l[k]? = some v) (e : u.fHead.fHeight = v.fHead.fHeight) : i = k := by
  have h0 : 0 < l.length := by have := (List.getElem?_eq_some_iff.1 hu).1; omega
  have hb : l[0]? = some l[0] := List.getElem?_eq_getElem h0
  have h1 := chain_height h hb i u hu
  have h2 := chain_height h hb k v hv
  omega
def lastB (l : List GBlock) : Option GBlock := l[l.length - 1]?
def mBehind (c : GLight) (l : List GBlock) : Int :=
  if lightOk c && chainOk l then (match lastB l with | some b => max 0 (b.fHead.fHeight - c.fAnchor.fHead.fHeight) | none => 0) else 0
structure SmC (c : GLight) : Prop where
  a : c.fAnchor.fNext.length ≤ 2000000
  s : c.fStore.fHeads.length ≤ 2000000
  p : c.fPeers.fPeers.length ≤ 2000000
theorem light_height {c : GLight} (ok : lightOk c = true) : 1 ≤ c.fAnchor.fHead.fHeight ∧ c.fAnchor.fHead.fHeight ≤ 1000000 := by
  have := headerOk_facts (anchor_vals (lightOk_iff.1 ok).a).1
  exact ⟨this.h1, this.h2⟩
set_option maxHeartbeats 2000000 in
theorem iBehind_p (c : GLight) (l : List GBlock) (hc : SmC c) (hl : l.length ≤ 2000000) (hs : ∀ b ∈ l, SmB b) : PCalls Tryz.prog 36 [.agg (pLight c), .sl 12 (l.map pBlock)] [] (RV (.val (.int .i64 (mBehind c l)))) := by
  obtain ⟨c1, c2, c3⟩ := hc
  cases ok : lightOk c with
  | false =>
    have e : mBehind c l = 0 := by unfold mBehind; rw [ok]; rfl
    rw [e]
    by_cases h0 : l.length = 0
    all_goals
      refine pcalls_ofR okP Tryz.func36 rfl ?_
      simp only [Tryz.f36, List.length_cons, List.length_nil, Nat.reduceAdd, Nat.reduceSub, List.replicate_succ, List.replicate_zero, List.cons_append, List.nil_append, List.length_map]
      repeat' (first | with_reducible refine PWp.seq ?_ | with_reducible refine PWp.block ?_ | with_reducible refine PWp.region okP true ?_ | with_reducible refine PWp.draw (id := 3) okP true [0, 1, 2, 3, 4, 5, 6, 7, 8, 9, 10, 11, 12, 13, 14] (by kernel_rfl) ?_ | with_reducible (first | refine pops_nil ?_ | refine pany_nil ?_ | refine pthen_normal ?_ | refine pblock_normal ?_ | refine pthen_ret ?_ | refine pblock_ret ?_ | refine pthen_exit ?_ | refine pblock_here ?_ | refine pblock_there rfl ?_ | refine PWp.ret ?_ | refine PWp.exit ?_ | refine PWp.skip ?_) | ((with_reducible refine hK _ ?_); clear hK K) | ((with_reducible refine PWp.condI ?_); refine ⟨_, rfl, fun hg => ?_, fun hg => ?_⟩ <;> first | (exact absurd hg (by decide)) | ((try simp only [Bool.not_true, Bool.not_false] at hg); (try simp only [hg]); (try simp only [push_cast] at hg); (try exact absurd trivial hg); (try (exfalso; omega)))) | ((first | ((with_reducible refine pops_guard0 ?_); refine ⟨_, rfl, fun K hK => ⟨rfl, ?_⟩⟩) | ((with_reducible refine pD_g0 ?_); refine ⟨_, rfl, rfl, ?_⟩)); (try simp (disch := omega) only [push_cast, seval, ok, h0])) | ((with_reducible refine pany_I ?_); refine ⟨_, rfl, fun K hK => ?_⟩) | ((with_reducible refine pops_plain fun K hK => ?_); simp (disch := omega) only [push_cast, seval, ok, h0]) | ((first | ((with_reducible refine pD_y ?_ ?_); exact rfl) | ((with_reducible refine pD_x ?_ ?_); exact rfl)); simp (disch := omega) only [push_cast, seval, ok, h0]) | ((first | ((with_reducible refine pops_guard ?_); refine ⟨_, rfl, fun K hK => ⟨_, rfl, fun hg => ?_, fun hg => ?_⟩⟩) | ((first | ((with_reducible refine pD_gy ?_ ?_); exact rfl) | ((with_reducible refine pD_gx ?_ ?_); exact rfl)); refine ⟨_, rfl, _, rfl, fun hg => ?_, fun hg => ?_⟩)) <;> first | (exact absurd hg (by decide)) | ((try simp only [Bool.not_true, Bool.not_false] at hg); (try simp only [hg]); (try simp only [push_cast] at hg); (try exact absurd trivial hg); (try (exfalso; omega)); (try simp (disch := omega) only [push_cast, seval, ok, h0]))) | ((with_reducible show pcall _ _ _ _ _ _); (first | (refine pcV (g := 29) (callable_of Tryz.func29 rfl rfl) (iChainOk_p _ (by (first | assumption | omega | (simp; omega) | (simp_all; done) | (simp_all; omega))) (by assumption)) ?_) | (refine pcV (g := 58) (callable_of Tryz.func58 rfl rfl) (iLightOk_p ⟨⟨_, _⟩, _, ⟨⟨_, _, _, _, _, _⟩, _⟩, ⟨_, _⟩, ⟨_, _⟩, _⟩ (by (first | assumption | omega | (simp; omega) | (simp_all; done) | (simp_all; omega))) (by (first | assumption | omega | (simp; omega) | (simp_all; done) | (simp_all; omega))) (by (first | assumption | omega | (simp; omega) | (simp_all; done) | (simp_all; omega)))) ?_)); (try simp (disch := omega) only [push_cast, seval, ok, h0])) | ((with_reducible refine And.intro ?_ ?_); omega))
      all_goals ((with_reducible show PPostR _ _ _ _ _ _); refine finV ?_; (try simp only [push_cast, seval]))
  | true =>
  cases okl : chainOk l with
  | false =>
    have e : mBehind c l = 0 := by unfold mBehind; rw [ok, okl]; rfl
    rw [e]
    by_cases h0 : l.length = 0
    all_goals
      refine pcalls_ofR okP Tryz.func36 rfl ?_
      simp only [Tryz.f36, List.length_cons, List.length_nil, Nat.reduceAdd, Nat.reduceSub, List.replicate_succ, List.replicate_zero, List.cons_append, List.nil_append, List.length_map]
      repeat' (first | with_reducible refine PWp.seq ?_ | with_reducible refine PWp.block ?_ | with_reducible refine PWp.region okP true ?_ | with_reducible refine PWp.draw (id := 3) okP true [0, 1, 2, 3, 4, 5, 6, 7, 8, 9, 10, 11, 12, 13, 14] (by kernel_rfl) ?_ | with_reducible (first | refine pops_nil ?_ | refine pany_nil ?_ | refine pthen_normal ?_ | refine pblock_normal ?_ | refine pthen_ret ?_ | refine pblock_ret ?_ | refine pthen_exit ?_ | refine pblock_here ?_ | refine pblock_there rfl ?_ | refine PWp.ret ?_ | refine PWp.exit ?_ | refine PWp.skip ?_) | ((with_reducible refine hK _ ?_); clear hK K) | ((with_reducible refine PWp.condI ?_); refine ⟨_, rfl, fun hg => ?_, fun hg => ?_⟩ <;> first | (exact absurd hg (by decide)) | ((try simp only [Bool.not_true, Bool.not_false] at hg); (try simp only [hg]); (try simp only [push_cast] at hg); (try exact absurd trivial hg); (try (exfalso; omega)))) | ((first | ((with_reducible refine pops_guard0 ?_); refine ⟨_, rfl, fun K hK => ⟨rfl, ?_⟩⟩) | ((with_reducible refine pD_g0 ?_); refine ⟨_, rfl, rfl, ?_⟩)); (try simp (disch := omega) only [push_cast, seval, ok, okl, h0])) | ((with_reducible refine pany_I ?_); refine ⟨_, rfl, fun K hK => ?_⟩) | ((with_reducible refine pops_plain fun K hK => ?_); simp (disch := omega) only [push_cast, seval, ok, okl, h0]) | ((first | ((with_reducible refine pD_y ?_ ?_); exact rfl) | ((with_reducible refine pD_x ?_ ?_); exact rfl)); simp (disch := omega) only [push_cast, seval, ok, okl, h0]) | ((first | ((with_reducible refine pops_guard ?_); refine ⟨_, rfl, fun K hK => ⟨_, rfl, fun hg => ?_, fun hg => ?_⟩⟩) | ((first | ((with_reducible refine pD_gy ?_ ?_); exact rfl) | ((with_reducible refine pD_gx ?_ ?_); exact rfl)); refine ⟨_, rfl, _, rfl, fun hg => ?_, fun hg => ?_⟩)) <;> first | (exact absurd hg (by decide)) | ((try simp only [Bool.not_true, Bool.not_false] at hg); (try simp only [hg]); (try simp only [push_cast] at hg); (try exact absurd trivial hg); (try (exfalso; omega)); (try simp (disch := omega) only [push_cast, seval, ok, okl, h0]))) | ((with_reducible show pcall _ _ _ _ _ _); (first | (refine pcV (g := 29) (callable_of Tryz.func29 rfl rfl) (iChainOk_p _ (by (first | assumption | omega | (simp; omega) | (simp_all; done) | (simp_all; omega))) (by assumption)) ?_) | (refine pcV (g := 58) (callable_of Tryz.func58 rfl rfl) (iLightOk_p ⟨⟨_, _⟩, _, ⟨⟨_, _, _, _, _, _⟩, _⟩, ⟨_, _⟩, ⟨_, _⟩, _⟩ (by (first | assumption | omega | (simp; omega) | (simp_all; done) | (simp_all; omega))) (by (first | assumption | omega | (simp; omega) | (simp_all; done) | (simp_all; omega))) (by (first | assumption | omega | (simp; omega) | (simp_all; done) | (simp_all; omega)))) ?_)); (try simp (disch := omega) only [push_cast, seval, ok, okl, h0])) | ((with_reducible refine And.intro ?_ ?_); omega))
      all_goals ((with_reducible show PPostR _ _ _ _ _ _); refine finV ?_; (try simp only [push_cast, seval]))
  | true =>
  by_cases h0 : l.length = 0
  · have e : mBehind c l = 0 := by unfold mBehind lastB; rw [ok, okl, List.length_eq_zero_iff.1 h0]; rfl
    rw [e]
    refine pcalls_ofR okP Tryz.func36 rfl ?_
    simp only [Tryz.f36, List.length_cons, List.length_nil, Nat.reduceAdd, Nat.reduceSub, List.replicate_succ, List.replicate_zero, List.cons_append, List.nil_append, List.length_map]
    repeat' (first | with_reducible refine PWp.seq ?_ | with_reducible refine PWp.block ?_ | with_reducible refine PWp.region okP true ?_ | with_reducible refine PWp.draw (id := 3) okP true [0, 1, 2, 3, 4, 5, 6, 7, 8, 9, 10, 11, 12, 13, 14] (by kernel_rfl) ?_ | with_reducible (first | refine pops_nil ?_ | refine pany_nil ?_ | refine pthen_normal ?_ | refine pblock_normal ?_ | refine pthen_ret ?_ | refine pblock_ret ?_ | refine pthen_exit ?_ | refine pblock_here ?_ | refine pblock_there rfl ?_ | refine PWp.ret ?_ | refine PWp.exit ?_ | refine PWp.skip ?_) | ((with_reducible refine hK _ ?_); clear hK K) | ((with_reducible refine PWp.condI ?_); refine ⟨_, rfl, fun hg => ?_, fun hg => ?_⟩ <;> first | (exact absurd hg (by decide)) | ((try simp only [Bool.not_true, Bool.not_false] at hg); (try simp only [hg]); (try simp only [push_cast] at hg); (try exact absurd trivial hg); (try (exfalso; omega)))) | ((first | ((with_reducible refine pops_guard0 ?_); refine ⟨_, rfl, fun K hK => ⟨rfl, ?_⟩⟩) | ((with_reducible refine pD_g0 ?_); refine ⟨_, rfl, rfl, ?_⟩)); (try simp (disch := omega) only [push_cast, seval, ok, okl, h0])) | ((with_reducible refine pany_I ?_); refine ⟨_, rfl, fun K hK => ?_⟩) | ((with_reducible refine pops_plain fun K hK => ?_); simp (disch := omega) only [push_cast, seval, ok, okl, h0]) | ((first | ((with_reducible refine pD_y ?_ ?_); exact rfl) | ((with_reducible refine pD_x ?_ ?_); exact rfl)); simp (disch := omega) only [push_cast, seval, ok, okl, h0]) | ((first | ((with_reducible refine pops_guard ?_); refine ⟨_, rfl, fun K hK => ⟨_, rfl, fun hg => ?_, fun hg => ?_⟩⟩) | ((first | ((with_reducible refine pD_gy ?_ ?_); exact rfl) | ((with_reducible refine pD_gx ?_ ?_); exact rfl)); refine ⟨_, rfl, _, rfl, fun hg => ?_, fun hg => ?_⟩)) <;> first | (exact absurd hg (by decide)) | ((try simp only [Bool.not_true, Bool.not_false] at hg); (try simp only [hg]); (try simp only [push_cast] at hg); (try exact absurd trivial hg); (try (exfalso; omega)); (try simp (disch := omega) only [push_cast, seval, ok, okl, h0]))) | ((with_reducible show pcall _ _ _ _ _ _); (first | (refine pcV (g := 29) (callable_of Tryz.func29 rfl rfl) (iChainOk_p _ (by (first | assumption | omega | (simp; omega) | (simp_all; done) | (simp_all; omega))) (by assumption)) ?_) | (refine pcV (g := 58) (callable_of Tryz.func58 rfl rfl) (iLightOk_p ⟨⟨_, _⟩, _, ⟨⟨_, _, _, _, _, _⟩, _⟩, ⟨_, _⟩, ⟨_, _⟩, _⟩ (by (first | assumption | omega | (simp; omega) | (simp_all; done) | (simp_all; omega))) (by (first | assumption | omega | (simp; omega) | (simp_all; done) | (simp_all; omega))) (by (first | assumption | omega | (simp; omega) | (simp_all; done) | (simp_all; omega)))) ?_)); (try simp (disch := omega) only [push_cast, seval, ok, okl, h0])) | ((with_reducible refine And.intro ?_ ?_); omega))
    all_goals ((with_reducible show PPostR _ _ _ _ _ _); refine finV ?_; (try simp only [push_cast, seval]))
  obtain ⟨b, hb⟩ : ∃ b, l[l.length - 1]? = some b := ⟨_, List.getElem?_eq_getElem (by omega)⟩
  have e : mBehind c l = max 0 (b.fHead.fHeight - c.fAnchor.fHead.fHeight) := by unfold mBehind lastB; rw [ok, okl, hb]; rfl
  obtain ⟨b1, b2⟩ := chain_bd okl hb
  obtain ⟨d1, d2⟩ := light_height ok
  have e1 : ((l.length : Int) - 1).toNat = l.length - 1 := by omega
  rw [e]
  refine pcalls_ofR okP Tryz.func36 rfl ?_
  simp only [Tryz.f36, List.length_cons, List.length_nil, Nat.reduceAdd, Nat.reduceSub, List.replicate_succ, List.replicate_zero, List.cons_append, List.nil_append, List.length_map]
  repeat' (first | with_reducible refine PWp.seq ?_ | with_reducible refine PWp.block ?_ | with_reducible refine PWp.region okP true ?_ | with_reducible refine PWp.draw (id := 3) okP true [0, 1, 2, 3, 4, 5, 6, 7, 8, 9, 10, 11, 12, 13, 14] (by kernel_rfl) ?_ | with_reducible (first | refine pops_nil ?_ | refine pany_nil ?_ | refine pthen_normal ?_ | refine pblock_normal ?_ | refine pthen_ret ?_ | refine pblock_ret ?_ | refine pthen_exit ?_ | refine pblock_here ?_ | refine pblock_there rfl ?_ | refine PWp.ret ?_ | refine PWp.exit ?_ | refine PWp.skip ?_) | ((with_reducible refine hK _ ?_); clear hK K) | ((with_reducible refine PWp.condI ?_); refine ⟨_, rfl, fun hg => ?_, fun hg => ?_⟩ <;> first | (exact absurd hg (by decide)) | ((try simp only [Bool.not_true, Bool.not_false] at hg); (try simp only [hg]); (try simp only [push_cast] at hg); (try exact absurd trivial hg); (try (exfalso; omega)))) | ((first | ((with_reducible refine pops_guard0 ?_); refine ⟨_, rfl, fun K hK => ⟨rfl, ?_⟩⟩) | ((with_reducible refine pD_g0 ?_); refine ⟨_, rfl, rfl, ?_⟩)); (try simp (disch := omega) only [push_cast, seval, ok, okl, hb, e1])) | ((with_reducible refine pany_I ?_); refine ⟨_, rfl, fun K hK => ?_⟩) | ((with_reducible refine pops_plain fun K hK => ?_); simp (disch := omega) only [push_cast, seval, ok, okl, hb, e1]) | ((first | ((with_reducible refine pD_y ?_ ?_); exact rfl) | ((with_reducible refine pD_x ?_ ?_); exact rfl)); simp (disch := omega) only [push_cast, seval, ok, okl, hb, e1]) | ((first | ((with_reducible refine pops_guard ?_); refine ⟨_, rfl, fun K hK => ⟨_, rfl, fun hg => ?_, fun hg => ?_⟩⟩) | ((first | ((with_reducible refine pD_gy ?_ ?_); exact rfl) | ((with_reducible refine pD_gx ?_ ?_); exact rfl)); refine ⟨_, rfl, _, rfl, fun hg => ?_, fun hg => ?_⟩)) <;> first | (exact absurd hg (by decide)) | ((try simp only [Bool.not_true, Bool.not_false] at hg); (try simp only [hg]); (try simp only [push_cast] at hg); (try exact absurd trivial hg); (try (exfalso; omega)); (try simp (disch := omega) only [push_cast, seval, ok, okl, hb, e1]))) | ((with_reducible show pcall _ _ _ _ _ _); (first | (refine pcV (g := 29) (callable_of Tryz.func29 rfl rfl) (iChainOk_p _ (by (first | assumption | omega | (simp; omega) | (simp_all; done) | (simp_all; omega))) (by assumption)) ?_) | (refine pcV (g := 58) (callable_of Tryz.func58 rfl rfl) (iLightOk_p ⟨⟨_, _⟩, _, ⟨⟨_, _, _, _, _, _⟩, _⟩, ⟨_, _⟩, ⟨_, _⟩, _⟩ (by (first | assumption | omega | (simp; omega) | (simp_all; done) | (simp_all; omega))) (by (first | assumption | omega | (simp; omega) | (simp_all; done) | (simp_all; omega))) (by (first | assumption | omega | (simp; omega) | (simp_all; done) | (simp_all; omega)))) ?_)); (try simp (disch := omega) only [push_cast, seval, ok, okl, hb, e1])) | ((with_reducible refine And.intro ?_ ?_); omega))
  all_goals
    ((with_reducible show PPostR _ _ _ _ _ _); refine finV ?_; (try simp only [push_cast, seval]))
    (try (first | omega | (congr 3; omega)))
set_option maxHeartbeats 2000000 in
theorem sBehind_p (c : GLight) (l : List GBlock) (hc : SmC c) (hl : l.length ≤ 2000000) (hs : ∀ b ∈ l, SmB b) : PCalls Tryz.prog 35 [.agg (pLight c), .sl 12 (l.map pBlock)] [] (RV (.val (.int .i64 (mBehind c l)))) := by
  obtain ⟨c1, c2, c3⟩ := hc
  cases ok : lightOk c with
  | false =>
    have e : mBehind c l = 0 := by unfold mBehind; rw [ok]; rfl
    rw [e]
    by_cases h0 : l.length = 0
    all_goals
      refine pcalls_ofR okP Tryz.func35 rfl ?_
      simp only [Tryz.f35, List.length_cons, List.length_nil, Nat.reduceAdd, Nat.reduceSub, List.replicate_succ, List.replicate_zero, List.cons_append, List.nil_append, List.length_map]
      repeat' (first | with_reducible refine PWp.seq ?_ | with_reducible refine PWp.block ?_ | with_reducible refine PWp.region okP true ?_ | with_reducible refine PWp.draw (id := 3) okP true [0, 1, 2, 3, 4, 5, 6, 7, 8, 9, 10, 11, 12, 13] (by kernel_rfl) ?_ | with_reducible (first | refine pops_nil ?_ | refine pany_nil ?_ | refine pthen_normal ?_ | refine pblock_normal ?_ | refine pthen_ret ?_ | refine pblock_ret ?_ | refine pthen_exit ?_ | refine pblock_here ?_ | refine pblock_there rfl ?_ | refine PWp.ret ?_ | refine PWp.exit ?_ | refine PWp.skip ?_) | ((with_reducible refine hK _ ?_); clear hK K) | ((with_reducible refine PWp.condI ?_); refine ⟨_, rfl, fun hg => ?_, fun hg => ?_⟩ <;> first | (exact absurd hg (by decide)) | ((try simp only [Bool.not_true, Bool.not_false] at hg); (try simp only [hg]); (try simp only [push_cast] at hg); (try exact absurd trivial hg); (try (exfalso; omega)))) | ((first | ((with_reducible refine pops_guard0 ?_); refine ⟨_, rfl, fun K hK => ⟨rfl, ?_⟩⟩) | ((with_reducible refine pD_g0 ?_); refine ⟨_, rfl, rfl, ?_⟩)); (try simp (disch := omega) only [push_cast, seval, ok, h0])) | ((with_reducible refine pany_I ?_); refine ⟨_, rfl, fun K hK => ?_⟩) | ((with_reducible refine pops_plain fun K hK => ?_); simp (disch := omega) only [push_cast, seval, ok, h0]) | ((first | ((with_reducible refine pD_y ?_ ?_); exact rfl) | ((with_reducible refine pD_x ?_ ?_); exact rfl)); simp (disch := omega) only [push_cast, seval, ok, h0]) | ((first | ((with_reducible refine pops_guard ?_); refine ⟨_, rfl, fun K hK => ⟨_, rfl, fun hg => ?_, fun hg => ?_⟩⟩) | ((first | ((with_reducible refine pD_gy ?_ ?_); exact rfl) | ((with_reducible refine pD_gx ?_ ?_); exact rfl)); refine ⟨_, rfl, _, rfl, fun hg => ?_, fun hg => ?_⟩)) <;> first | (exact absurd hg (by decide)) | ((try simp only [Bool.not_true, Bool.not_false] at hg); (try simp only [hg]); (try simp only [push_cast] at hg); (try exact absurd trivial hg); (try (exfalso; omega)); (try simp (disch := omega) only [push_cast, seval, ok, h0]))) | ((with_reducible show pcall _ _ _ _ _ _); (first | (refine pcV (g := 27) (callable_of Tryz.func27 rfl rfl) (sChainOk_p _ (by (first | assumption | omega | (simp; omega) | (simp_all; done) | (simp_all; omega))) (by assumption)) ?_) | (refine pcV (g := 53) (callable_of Tryz.func53 rfl rfl) (sLightOk_p ⟨⟨_, _⟩, _, ⟨⟨_, _, _, _, _, _⟩, _⟩, ⟨_, _⟩, ⟨_, _⟩, _⟩ (by (first | assumption | omega | (simp; omega) | (simp_all; done) | (simp_all; omega))) (by (first | assumption | omega | (simp; omega) | (simp_all; done) | (simp_all; omega))) (by (first | assumption | omega | (simp; omega) | (simp_all; done) | (simp_all; omega)))) ?_)); (try simp (disch := omega) only [push_cast, seval, ok, h0])) | ((with_reducible refine And.intro ?_ ?_); omega))
      all_goals ((with_reducible show PPostR _ _ _ _ _ _); refine finV ?_; (try simp only [push_cast, seval]))
  | true =>
  cases okl : chainOk l with
  | false =>
    have e : mBehind c l = 0 := by unfold mBehind; rw [ok, okl]; rfl
    rw [e]
    by_cases h0 : l.length = 0
    all_goals
      refine pcalls_ofR okP Tryz.func35 rfl ?_
      simp only [Tryz.f35, List.length_cons, List.length_nil, Nat.reduceAdd, Nat.reduceSub, List.replicate_succ, List.replicate_zero, List.cons_append, List.nil_append, List.length_map]
      repeat' (first | with_reducible refine PWp.seq ?_ | with_reducible refine PWp.block ?_ | with_reducible refine PWp.region okP true ?_ | with_reducible refine PWp.draw (id := 3) okP true [0, 1, 2, 3, 4, 5, 6, 7, 8, 9, 10, 11, 12, 13] (by kernel_rfl) ?_ | with_reducible (first | refine pops_nil ?_ | refine pany_nil ?_ | refine pthen_normal ?_ | refine pblock_normal ?_ | refine pthen_ret ?_ | refine pblock_ret ?_ | refine pthen_exit ?_ | refine pblock_here ?_ | refine pblock_there rfl ?_ | refine PWp.ret ?_ | refine PWp.exit ?_ | refine PWp.skip ?_) | ((with_reducible refine hK _ ?_); clear hK K) | ((with_reducible refine PWp.condI ?_); refine ⟨_, rfl, fun hg => ?_, fun hg => ?_⟩ <;> first | (exact absurd hg (by decide)) | ((try simp only [Bool.not_true, Bool.not_false] at hg); (try simp only [hg]); (try simp only [push_cast] at hg); (try exact absurd trivial hg); (try (exfalso; omega)))) | ((first | ((with_reducible refine pops_guard0 ?_); refine ⟨_, rfl, fun K hK => ⟨rfl, ?_⟩⟩) | ((with_reducible refine pD_g0 ?_); refine ⟨_, rfl, rfl, ?_⟩)); (try simp (disch := omega) only [push_cast, seval, ok, okl, h0])) | ((with_reducible refine pany_I ?_); refine ⟨_, rfl, fun K hK => ?_⟩) | ((with_reducible refine pops_plain fun K hK => ?_); simp (disch := omega) only [push_cast, seval, ok, okl, h0]) | ((first | ((with_reducible refine pD_y ?_ ?_); exact rfl) | ((with_reducible refine pD_x ?_ ?_); exact rfl)); simp (disch := omega) only [push_cast, seval, ok, okl, h0]) | ((first | ((with_reducible refine pops_guard ?_); refine ⟨_, rfl, fun K hK => ⟨_, rfl, fun hg => ?_, fun hg => ?_⟩⟩) | ((first | ((with_reducible refine pD_gy ?_ ?_); exact rfl) | ((with_reducible refine pD_gx ?_ ?_); exact rfl)); refine ⟨_, rfl, _, rfl, fun hg => ?_, fun hg => ?_⟩)) <;> first | (exact absurd hg (by decide)) | ((try simp only [Bool.not_true, Bool.not_false] at hg); (try simp only [hg]); (try simp only [push_cast] at hg); (try exact absurd trivial hg); (try (exfalso; omega)); (try simp (disch := omega) only [push_cast, seval, ok, okl, h0]))) | ((with_reducible show pcall _ _ _ _ _ _); (first | (refine pcV (g := 27) (callable_of Tryz.func27 rfl rfl) (sChainOk_p _ (by (first | assumption | omega | (simp; omega) | (simp_all; done) | (simp_all; omega))) (by assumption)) ?_) | (refine pcV (g := 53) (callable_of Tryz.func53 rfl rfl) (sLightOk_p ⟨⟨_, _⟩, _, ⟨⟨_, _, _, _, _, _⟩, _⟩, ⟨_, _⟩, ⟨_, _⟩, _⟩ (by (first | assumption | omega | (simp; omega) | (simp_all; done) | (simp_all; omega))) (by (first | assumption | omega | (simp; omega) | (simp_all; done) | (simp_all; omega))) (by (first | assumption | omega | (simp; omega) | (simp_all; done) | (simp_all; omega)))) ?_)); (try simp (disch := omega) only [push_cast, seval, ok, okl, h0])) | ((with_reducible refine And.intro ?_ ?_); omega))
      all_goals ((with_reducible show PPostR _ _ _ _ _ _); refine finV ?_; (try simp only [push_cast, seval]))
  | true =>
  by_cases h0 : l.length = 0
  · have e : mBehind c l = 0 := by unfold mBehind lastB; rw [ok, okl, List.length_eq_zero_iff.1 h0]; rfl
    rw [e]
    refine pcalls_ofR okP Tryz.func35 rfl ?_
    simp only [Tryz.f35, List.length_cons, List.length_nil, Nat.reduceAdd, Nat.reduceSub, List.replicate_succ, List.replicate_zero, List.cons_append, List.nil_append, List.length_map]
    repeat' (first | with_reducible refine PWp.seq ?_ | with_reducible refine PWp.block ?_ | with_reducible refine PWp.region okP true ?_ | with_reducible refine PWp.draw (id := 3) okP true [0, 1, 2, 3, 4, 5, 6, 7, 8, 9, 10, 11, 12, 13] (by kernel_rfl) ?_ | with_reducible (first | refine pops_nil ?_ | refine pany_nil ?_ | refine pthen_normal ?_ | refine pblock_normal ?_ | refine pthen_ret ?_ | refine pblock_ret ?_ | refine pthen_exit ?_ | refine pblock_here ?_ | refine pblock_there rfl ?_ | refine PWp.ret ?_ | refine PWp.exit ?_ | refine PWp.skip ?_) | ((with_reducible refine hK _ ?_); clear hK K) | ((with_reducible refine PWp.condI ?_); refine ⟨_, rfl, fun hg => ?_, fun hg => ?_⟩ <;> first | (exact absurd hg (by decide)) | ((try simp only [Bool.not_true, Bool.not_false] at hg); (try simp only [hg]); (try simp only [push_cast] at hg); (try exact absurd trivial hg); (try (exfalso; omega)))) | ((first | ((with_reducible refine pops_guard0 ?_); refine ⟨_, rfl, fun K hK => ⟨rfl, ?_⟩⟩) | ((with_reducible refine pD_g0 ?_); refine ⟨_, rfl, rfl, ?_⟩)); (try simp (disch := omega) only [push_cast, seval, ok, okl, h0])) | ((with_reducible refine pany_I ?_); refine ⟨_, rfl, fun K hK => ?_⟩) | ((with_reducible refine pops_plain fun K hK => ?_); simp (disch := omega) only [push_cast, seval, ok, okl, h0]) | ((first | ((with_reducible refine pD_y ?_ ?_); exact rfl) | ((with_reducible refine pD_x ?_ ?_); exact rfl)); simp (disch := omega) only [push_cast, seval, ok, okl, h0]) | ((first | ((with_reducible refine pops_guard ?_); refine ⟨_, rfl, fun K hK => ⟨_, rfl, fun hg => ?_, fun hg => ?_⟩⟩) | ((first | ((with_reducible refine pD_gy ?_ ?_); exact rfl) | ((with_reducible refine pD_gx ?_ ?_); exact rfl)); refine ⟨_, rfl, _, rfl, fun hg => ?_, fun hg => ?_⟩)) <;> first | (exact absurd hg (by decide)) | ((try simp only [Bool.not_true, Bool.not_false] at hg); (try simp only [hg]); (try simp only [push_cast] at hg); (try exact absurd trivial hg); (try (exfalso; omega)); (try simp (disch := omega) only [push_cast, seval, ok, okl, h0]))) | ((with_reducible show pcall _ _ _ _ _ _); (first | (refine pcV (g := 27) (callable_of Tryz.func27 rfl rfl) (sChainOk_p _ (by (first | assumption | omega | (simp; omega) | (simp_all; done) | (simp_all; omega))) (by assumption)) ?_) | (refine pcV (g := 53) (callable_of Tryz.func53 rfl rfl) (sLightOk_p ⟨⟨_, _⟩, _, ⟨⟨_, _, _, _, _, _⟩, _⟩, ⟨_, _⟩, ⟨_, _⟩, _⟩ (by (first | assumption | omega | (simp; omega) | (simp_all; done) | (simp_all; omega))) (by (first | assumption | omega | (simp; omega) | (simp_all; done) | (simp_all; omega))) (by (first | assumption | omega | (simp; omega) | (simp_all; done) | (simp_all; omega)))) ?_)); (try simp (disch := omega) only [push_cast, seval, ok, okl, h0])) | ((with_reducible refine And.intro ?_ ?_); omega))
    all_goals ((with_reducible show PPostR _ _ _ _ _ _); refine finV ?_; (try simp only [push_cast, seval]))
  obtain ⟨b, hb⟩ : ∃ b, l[l.length - 1]? = some b := ⟨_, List.getElem?_eq_getElem (by omega)⟩
  have e : mBehind c l = max 0 (b.fHead.fHeight - c.fAnchor.fHead.fHeight) := by unfold mBehind lastB; rw [ok, okl, hb]; rfl
  obtain ⟨b1, b2⟩ := chain_bd okl hb
  obtain ⟨d1, d2⟩ := light_height ok
  have e1 : ((l.length : Int) - 1).toNat = l.length - 1 := by omega
  rw [e]
  refine pcalls_ofR okP Tryz.func35 rfl ?_
  simp only [Tryz.f35, List.length_cons, List.length_nil, Nat.reduceAdd, Nat.reduceSub, List.replicate_succ, List.replicate_zero, List.cons_append, List.nil_append, List.length_map]
  repeat' (first | with_reducible refine PWp.seq ?_ | with_reducible refine PWp.block ?_ | with_reducible refine PWp.region okP true ?_ | with_reducible refine PWp.draw (id := 3) okP true [0, 1, 2, 3, 4, 5, 6, 7, 8, 9, 10, 11, 12, 13] (by kernel_rfl) ?_ | with_reducible (first | refine pops_nil ?_ | refine pany_nil ?_ | refine pthen_normal ?_ | refine pblock_normal ?_ | refine pthen_ret ?_ | refine pblock_ret ?_ | refine pthen_exit ?_ | refine pblock_here ?_ | refine pblock_there rfl ?_ | refine PWp.ret ?_ | refine PWp.exit ?_ | refine PWp.skip ?_) | ((with_reducible refine hK _ ?_); clear hK K) | ((with_reducible refine PWp.condI ?_); refine ⟨_, rfl, fun hg => ?_, fun hg => ?_⟩ <;> first | (exact absurd hg (by decide)) | ((try simp only [Bool.not_true, Bool.not_false] at hg); (try simp only [hg]); (try simp only [push_cast] at hg); (try exact absurd trivial hg); (try (exfalso; omega)))) | ((first | ((with_reducible refine pops_guard0 ?_); refine ⟨_, rfl, fun K hK => ⟨rfl, ?_⟩⟩) | ((with_reducible refine pD_g0 ?_); refine ⟨_, rfl, rfl, ?_⟩)); (try simp (disch := omega) only [push_cast, seval, ok, okl, hb, e1])) | ((with_reducible refine pany_I ?_); refine ⟨_, rfl, fun K hK => ?_⟩) | ((with_reducible refine pops_plain fun K hK => ?_); simp (disch := omega) only [push_cast, seval, ok, okl, hb, e1]) | ((first | ((with_reducible refine pD_y ?_ ?_); exact rfl) | ((with_reducible refine pD_x ?_ ?_); exact rfl)); simp (disch := omega) only [push_cast, seval, ok, okl, hb, e1]) | ((first | ((with_reducible refine pops_guard ?_); refine ⟨_, rfl, fun K hK => ⟨_, rfl, fun hg => ?_, fun hg => ?_⟩⟩) | ((first | ((with_reducible refine pD_gy ?_ ?_); exact rfl) | ((with_reducible refine pD_gx ?_ ?_); exact rfl)); refine ⟨_, rfl, _, rfl, fun hg => ?_, fun hg => ?_⟩)) <;> first | (exact absurd hg (by decide)) | ((try simp only [Bool.not_true, Bool.not_false] at hg); (try simp only [hg]); (try simp only [push_cast] at hg); (try exact absurd trivial hg); (try (exfalso; omega)); (try simp (disch := omega) only [push_cast, seval, ok, okl, hb, e1]))) | ((with_reducible show pcall _ _ _ _ _ _); (first | (refine pcV (g := 27) (callable_of Tryz.func27 rfl rfl) (sChainOk_p _ (by (first | assumption | omega | (simp; omega) | (simp_all; done) | (simp_all; omega))) (by assumption)) ?_) | (refine pcV (g := 53) (callable_of Tryz.func53 rfl rfl) (sLightOk_p ⟨⟨_, _⟩, _, ⟨⟨_, _, _, _, _, _⟩, _⟩, ⟨_, _⟩, ⟨_, _⟩, _⟩ (by (first | assumption | omega | (simp; omega) | (simp_all; done) | (simp_all; omega))) (by (first | assumption | omega | (simp; omega) | (simp_all; done) | (simp_all; omega))) (by (first | assumption | omega | (simp; omega) | (simp_all; done) | (simp_all; omega)))) ?_)); (try simp (disch := omega) only [push_cast, seval, ok, okl, hb, e1])) | ((with_reducible refine And.intro ?_ ?_); omega))
  all_goals
    ((with_reducible show PPostR _ _ _ _ _ _); refine finV ?_; (try simp only [push_cast, seval]))
    (try (first | omega | (congr 3; omega)))
end Go.Proofs.YtgcelmnmalfpcaaGreatDoor
namespace Go.Proofs.YtgcelmnmalfpcaaGreatDoor
set_option linter.unusedSimpArgs false
set_option linter.unusedVariables false
open Go.RowKit
theorem ows_zeroS {w : World} {ds : List D} {vs : List Value} {e : TypeId} {sz : Nat} (h : Ows w ds vs []) : Ows w (.sl e sz 0 [] :: ds) (.slice none 0 0 :: vs) [] := by simpa [Value.ownBlock] using Ows.sl e sz 0 _ (World.ownsRow_nil w 0 e sz) .nil h
end Go.Proofs.YtgcelmnmalfpcaaGreatDoor
namespace Go.Proofs.YtgcelmnmalfpcaaGreatDoor
set_option linter.unusedSimpArgs false
set_option linter.unusedVariables false
open Go.RowKit
def encTrust (x : GTrust) : List D := [.int x.fPeriod, .int x.fSlack]
theorem dec_Trust : Dec [.int .i64, .int .i64] encTrust := by
  intro n W vs h
  match vs, h with
  | [_, _], ⟨k0, k1, _⟩ =>
    obtain ⟨a0, rfl, h0⟩ := cell_int k0
    obtain ⟨a1, rfl, h1⟩ := cell_int k1
    exact ⟨⟨a0, a1⟩, (Rds.int _ (Rds.int _ Rds.nil)), (okL_int h0 (okL_int h1 okL_nil))⟩
set_option maxRecDepth 100000 in
set_option maxHeartbeats 4000000 in
theorem toTrust_any (x : GTrust) (w : World) :
    Calls Tryz.prog 32 #[.agg #[.int .i64 x.fPeriod, .int .i64 x.fSlack]] w fun e w' => e = .returned (.agg #[.int .i64 x.fPeriod, .int .i64 x.fSlack]) ∧ Ext w w' := by
  go_enter Tryz.func32, Tryz.ntmps32
  go_wp2
  exact bodyPost_ret (v := .agg #[.int .i64 x.fPeriod, .int .i64 x.fSlack]) (by simp [results, Tryz.results32, go_sem]) rfl ⟨rfl, by (repeat (first | (with_reducible exact Ext.refl _) | (with_reducible assumption) | (with_reducible refine Ext.alloc ?_ _) | (with_reducible refine Ext.drew ?_) | (with_reducible refine Ext.drewN ?_ _) | ((with_reducible apply Ext.setCell); (case hp => first | omega | (simp; done) | (simp; omega))) | (with_reducible refine Ext.trans ?_ (by assumption))))⟩
set_option maxRecDepth 100000 in
set_option maxHeartbeats 4000000 in
theorem eqTrust_any (x : GTrust) (w : World) (_h1 : Rds w (encTrust x) [.int .i64 x.fPeriod, .int .i64 x.fSlack]) (_h2 : Rds w (encTrust x) [.int .i64 x.fPeriod, .int .i64 x.fSlack]) :
    Calls Tryz.prog 60 #[.agg #[.int .i64 x.fPeriod, .int .i64 x.fSlack], .agg #[.int .i64 x.fPeriod, .int .i64 x.fSlack]] w fun e w' => e = .returned (.bool true) ∧ Ext w w' := by
  go_enter Tryz.func60, Tryz.ntmps60
  go_wp2
  go_ret
  exact ⟨rfl, by (repeat (first | (with_reducible exact Ext.refl _) | (with_reducible assumption) | (with_reducible refine Ext.alloc ?_ _) | (with_reducible refine Ext.drew ?_) | (with_reducible refine Ext.drewN ?_ _) | ((with_reducible apply Ext.setCell); (case hp => first | omega | (simp; done) | (simp; omega))) | (with_reducible refine Ext.trans ?_ (by assumption))))⟩
end Go.Proofs.YtgcelmnmalfpcaaGreatDoor
namespace Go.Proofs.YtgcelmnmalfpcaaGreatDoor
set_option linter.unusedSimpArgs false
set_option linter.unusedVariables false
open Go.RowKit
def encHeader (x : GHeader) : List D := [.int x.fHeight, .int x.fTime, .str x.fLast, .str x.fVals, .str x.fNext, .str x.fData]
theorem dec_Header : Dec [.int .i64, .int .i64, .str, .str, .str, .str] encHeader := by
  intro n W vs h
  match vs, h with
  | [_, _, _, _, _, _], ⟨k0, k1, k2, k3, k4, k5, _⟩ =>
    obtain ⟨a0, rfl, h0⟩ := cell_int k0
    obtain ⟨a1, rfl, h1⟩ := cell_int k1
    obtain ⟨a2, rfl, h2⟩ := cell_str k2
    obtain ⟨a3, rfl, h3⟩ := cell_str k3
    obtain ⟨a4, rfl, h4⟩ := cell_str k4
    obtain ⟨a5, rfl, h5⟩ := cell_str k5
    exact ⟨⟨a0, a1, a2, a3, a4, a5⟩, (Rds.int _ (Rds.int _ (Rds.str _ (Rds.str _ (Rds.str _ (Rds.str _ Rds.nil)))))), (okL_int h0 (okL_int h1 (okL_str h2 (okL_str h3 (okL_str h4 (okL_str h5 okL_nil))))))⟩
theorem pv_Header (x : GHeader) : toPVL (encHeader x) = pHeader x := by
  simp only [encHeader, pHeader, toPVL, toPV]
theorem pvs_Header (e : TypeId) (xs : List GHeader) : toPV (slD e 6 encHeader xs) = .sl 6 (xs.map pHeader) := by rw [toPV_slD (enc := encHeader) (sz := 6) (fun _ => rfl)]; simp only [pv_Header]
theorem cnt_Header (x : GHeader) : cnt (encHeader x) ≤ 64 + 64 * szL (encHeader x) := by
  simp [encHeader, cnt, szL]
  omega
set_option maxRecDepth 100000 in
set_option maxHeartbeats 4000000 in
theorem toHeader_any (x : GHeader) (w : World) :
    Calls Tryz.prog 80 #[.agg #[.int .i64 x.fHeight, .int .i64 x.fTime, .string x.fLast, .string x.fVals, .string x.fNext, .string x.fData]] w fun e w' => e = .returned (.agg #[.int .i64 x.fHeight, .int .i64 x.fTime, .string x.fLast, .string x.fVals, .string x.fNext, .string x.fData]) ∧ Ext w w' := by
  go_enter Tryz.func80, Tryz.ntmps80
  go_wp2
  exact bodyPost_ret (v := .agg #[.int .i64 x.fHeight, .int .i64 x.fTime, .string x.fLast, .string x.fVals, .string x.fNext, .string x.fData]) (by simp [results, Tryz.results80, go_sem]) rfl ⟨rfl, by (repeat (first | (with_reducible exact Ext.refl _) | (with_reducible assumption) | (with_reducible refine Ext.alloc ?_ _) | (with_reducible refine Ext.drew ?_) | (with_reducible refine Ext.drewN ?_ _) | ((with_reducible apply Ext.setCell); (case hp => first | omega | (simp; done) | (simp; omega))) | (with_reducible refine Ext.trans ?_ (by assumption))))⟩
set_option maxRecDepth 100000 in
set_option maxHeartbeats 4000000 in
theorem szHeader_any (x : GHeader) (left : Int) (w : World) (_h : Rds w (encHeader x) [.int .i64 x.fHeight, .int .i64 x.fTime, .string x.fLast, .string x.fVals, .string x.fNext, .string x.fData]) (hok : okL (encHeader x)) (h0 : 0 ≤ left) (h1 : left ≤ 1048576) :
    Calls Tryz.prog 74 #[.agg #[.int .i64 x.fHeight, .int .i64 x.fTime, .string x.fLast, .string x.fVals, .string x.fNext, .string x.fData], .int .i64 left] w fun e w' => e = .returned (.int .i64 (szR left (szL (encHeader x)))) ∧ Ext w w' := by
  have k2 : x.fLast.size ≤ 9223372036854775807 := by have h : okL [.str x.fLast] := okL_cut (ds := encHeader x) 2 1 hok; simp only [okL] at h; exact h.1
  have k3 : x.fVals.size ≤ 9223372036854775807 := by have h : okL [.str x.fVals] := okL_cut (ds := encHeader x) 3 1 hok; simp only [okL] at h; exact h.1
  have k4 : x.fNext.size ≤ 9223372036854775807 := by have h : okL [.str x.fNext] := okL_cut (ds := encHeader x) 4 1 hok; simp only [okL] at h; exact h.1
  have k5 : x.fData.size ≤ 9223372036854775807 := by have h : okL [.str x.fData] := okL_cut (ds := encHeader x) 5 1 hok; simp only [okL] at h; exact h.1
  have hT : szL (encHeader x) = x.fLast.size + x.fVals.size + x.fNext.size + x.fData.size := by simp [encHeader, szL, slD]; try omega
  rw [hT]
  clear hT hok
  by_cases h2 : left < (x.fLast.size : Nat)
  · have R0 := Lib.hid (szR_no h2)
    go_enter Tryz.func74, Tryz.ntmps74
    go_wp2
    go_ret
    exact ⟨ret_int (szR_no (by omega)), by (repeat (first | (with_reducible exact Ext.refl _) | (with_reducible assumption) | (with_reducible refine Ext.alloc ?_ _) | (with_reducible refine Ext.drew ?_) | (with_reducible refine Ext.drewN ?_ _) | ((with_reducible apply Ext.setCell); (case hp => first | omega | (simp; done) | (simp; omega))) | (with_reducible refine Ext.trans ?_ (by assumption))))⟩
  · have R0 := Lib.hid (szR_yes h2)
    by_cases h3 : left - x.fLast.size < (x.fVals.size : Nat)
    · have R1 := Lib.hid (szR_no h3)
      go_enter Tryz.func74, Tryz.ntmps74
      go_wp2
      go_ret
      exact ⟨ret_int (szR_no (by omega)), by (repeat (first | (with_reducible exact Ext.refl _) | (with_reducible assumption) | (with_reducible refine Ext.alloc ?_ _) | (with_reducible refine Ext.drew ?_) | (with_reducible refine Ext.drewN ?_ _) | ((with_reducible apply Ext.setCell); (case hp => first | omega | (simp; done) | (simp; omega))) | (with_reducible refine Ext.trans ?_ (by assumption))))⟩
    · have R1 := Lib.hid (szR_yes h3)
      by_cases h4 : left - x.fLast.size - x.fVals.size < (x.fNext.size : Nat)
      · have R2 := Lib.hid (szR_no h4)
        go_enter Tryz.func74, Tryz.ntmps74
        go_wp2
        go_ret
        exact ⟨ret_int (szR_no (by omega)), by (repeat (first | (with_reducible exact Ext.refl _) | (with_reducible assumption) | (with_reducible refine Ext.alloc ?_ _) | (with_reducible refine Ext.drew ?_) | (with_reducible refine Ext.drewN ?_ _) | ((with_reducible apply Ext.setCell); (case hp => first | omega | (simp; done) | (simp; omega))) | (with_reducible refine Ext.trans ?_ (by assumption))))⟩
      · have R2 := Lib.hid (szR_yes h4)
        by_cases h5 : left - x.fLast.size - x.fVals.size - x.fNext.size < (x.fData.size : Nat)
        · have R3 := Lib.hid (szR_no h5)
          go_enter Tryz.func74, Tryz.ntmps74
          go_wp2
          go_ret
          exact ⟨ret_int (szR_no (by omega)), by (repeat (first | (with_reducible exact Ext.refl _) | (with_reducible assumption) | (with_reducible refine Ext.alloc ?_ _) | (with_reducible refine Ext.drew ?_) | (with_reducible refine Ext.drewN ?_ _) | ((with_reducible apply Ext.setCell); (case hp => first | omega | (simp; done) | (simp; omega))) | (with_reducible refine Ext.trans ?_ (by assumption))))⟩
        · have R3 := Lib.hid (szR_yes h5)
          go_enter Tryz.func74, Tryz.ntmps74
          go_wp2
          go_ret
          exact ⟨ret_int ((szR_yes (by omega)).trans (by omega)), by (repeat (first | (with_reducible exact Ext.refl _) | (with_reducible assumption) | (with_reducible refine Ext.alloc ?_ _) | (with_reducible refine Ext.drew ?_) | (with_reducible refine Ext.drewN ?_ _) | ((with_reducible apply Ext.setCell); (case hp => first | omega | (simp; done) | (simp; omega))) | (with_reducible refine Ext.trans ?_ (by assumption))))⟩
set_option maxRecDepth 100000 in
set_option maxHeartbeats 4000000 in
theorem eqHeader_any (x : GHeader) (w : World) (_h1 : Rds w (encHeader x) [.int .i64 x.fHeight, .int .i64 x.fTime, .string x.fLast, .string x.fVals, .string x.fNext, .string x.fData]) (_h2 : Rds w (encHeader x) [.int .i64 x.fHeight, .int .i64 x.fTime, .string x.fLast, .string x.fVals, .string x.fNext, .string x.fData]) :
    Calls Tryz.prog 87 #[.agg #[.int .i64 x.fHeight, .int .i64 x.fTime, .string x.fLast, .string x.fVals, .string x.fNext, .string x.fData], .agg #[.int .i64 x.fHeight, .int .i64 x.fTime, .string x.fLast, .string x.fVals, .string x.fNext, .string x.fData]] w fun e w' => e = .returned (.bool true) ∧ Ext w w' := by
  go_enter Tryz.func87, Tryz.ntmps87
  go_wp2
  go_ret
  exact ⟨rfl, by (repeat (first | (with_reducible exact Ext.refl _) | (with_reducible assumption) | (with_reducible refine Ext.alloc ?_ _) | (with_reducible refine Ext.drew ?_) | (with_reducible refine Ext.drewN ?_ _) | ((with_reducible apply Ext.setCell); (case hp => first | omega | (simp; done) | (simp; omega))) | (with_reducible refine Ext.trans ?_ (by assumption))))⟩
theorem infoHeaderS : (Tryz.prog.info? 39).map (fun i => (i.zero, i.size, i.bytes)) = some (some (.agg #[.int .i64 0, .int .i64 0, .string ByteArray.empty, .string ByteArray.empty, .string ByteArray.empty, .string ByteArray.empty]), 6, 80) := by kernel_rfl
set_option maxRecDepth 100000 in
set_option maxHeartbeats 4000000 in
theorem toHeaderS_any (v : Value) (xs : List GHeader) (w : World) (h : RL 39 6 encHeader w v xs) (hz : szL [slD 39 6 encHeader xs] ≤ 1048576) :
    Calls Tryz.prog 125 #[v] w fun e w' => ∃ (p : Option Addr) (q : Nat), e = .returned (.slice p xs.length q) ∧ Obj w' w.heap.size w'.heap.size [slD 39 6 encHeader xs] [.slice p xs.length q] ∧ Ext w w' := by
  obtain ⟨i0, hi, hz0, hz1, hz2⟩ := info_parts infoHeaderS
  have hzero : ∀ w, Ows w [.int 0, .int 0, .str ByteArray.empty, .str ByteArray.empty, .str ByteArray.empty, .str ByteArray.empty] #[.int .i64 0, .int .i64 0, .string ByteArray.empty, .string ByteArray.empty, .string ByteArray.empty, .string ByteArray.empty].toList [] := fun w => (Ows.int _ (Ows.int _ (Ows.str _ (Ows.str _ (Ows.str _ (Ows.str _ Ows.nil))))))
  have HZ := Lib.hid hzero; clear hzero
  have hn : xs.length ≤ 1048576 := by simp only [szL, slD] at hz; omega
  rcases RS.cases h with ⟨hn0, _, o1, c1, rfl⟩ | ⟨b1, o1, c1, rfl, hp, _, hm, hx⟩
  · obtain rfl := List.eq_nil_of_length_eq_zero hn0
    clear h hn0 hz hn
    go_enter Tryz.func125, Tryz.ntmps125
    go_wp2_with (at_make; refine wpList_make_full _ rfl (.tmp 6) (.tmp 6) 43 rfl w.heap.size 39 i0 _ 6 Tryz.underlying43 hi hz0 hz1 .i64 .i64 _ _ 0 rfl rfl rfl rfl (by omega) (by omega) (Nat.le_refl _) ?_; intro w1 hown hgrow)
    have hE := Ext.of_grownBy hgrow
    have hO := Lib.hid (Obj.made (n := 0) HZ.out rfl (by decide) hown)
    clear hgrow hown
    refine wp_loop_rounds 1 ?_
    rw [rounds_succ]
    go_wp2
    go_ret
    exact ⟨_, _, rfl, hO.out, hE⟩
  · have HSZ := Lib.hid hz
    clear h hm hz
    go_enter Tryz.func125, Tryz.ntmps125
    go_wp2_with (at_make; refine wpList_make_full _ rfl (.tmp 6) (.tmp 6) 43 rfl w.heap.size 39 i0 _ 6 Tryz.underlying43 hi hz0 hz1 .i64 .i64 _ _ xs.length rfl rfl rfl rfl (by rw [hz2]; omega) (by unfold maxLen; omega) (Nat.le_refl _) ?_; intro w1 hown hgrow)
    have hE := Ext.of_grownBy hgrow
    have hO : Obj w1 w.heap.size w1.heap.size [.sl 39 6 xs.length (fillE encHeader [.int 0, .int 0, .str ByteArray.empty, .str ByteArray.empty, .str ByteArray.empty, .str ByteArray.empty] xs 0)] [.slice (some ⟨w.heap.size, 0, none⟩) xs.length xs.length] := by rw [fillE_zero]; exact Obj.made HZ.out rfl (by decide) hown
    clear hgrow hown
    go_loopg [4] xs.length (fun g i wr => ∃ k : Nat, k ≤ xs.length ∧ g = xs.length - k ∧ i = .int .i64 k ∧ Ext w wr ∧ Obj wr w.heap.size wr.heap.size [.sl 39 6 xs.length (fillE encHeader [.int 0, .int 0, .str ByteArray.empty, .str ByteArray.empty, .str ByteArray.empty, .str ByteArray.empty] xs k)] [.slice (some ⟨w.heap.size, 0, none⟩) xs.length xs.length])
    case atStart => exact ⟨0, by omega, by omega, rfl, hE, hO⟩
    case round =>
      clear hE hO
      obtain ⟨k, hk, hg, rfl, hE, hO⟩ := hrel
      have HG := Lib.hid hg; clear hg
      by_cases hlt : k < xs.length
      · obtain ⟨x, hxk⟩ : ∃ x, xs[k]? = some x := ⟨_, List.getElem?_eq_getElem hlt⟩
        have e1 := (RAt.elem (enc := encHeader) (sz := 6) (fun _ => rfl) hx hxk).ext hE
        have HX := Lib.hid hxk
        have HM := Lib.hid (List.mem_of_getElem? hxk)
        clear hxk
        have q0 : wr.cell? ⟨b1, o1 + k * 6, none⟩ = some (.int .i64 x.fHeight) := e1.int (j := 0) rfl
        have q1 : wr.cell? ⟨b1, o1 + k * 6 + 1, none⟩ = some (.int .i64 x.fTime) := e1.int (j := 1) rfl
        have q2 : wr.cell? ⟨b1, o1 + k * 6 + 2, none⟩ = some (.string x.fLast) := e1.str (j := 2) rfl
        have q3 : wr.cell? ⟨b1, o1 + k * 6 + 3, none⟩ = some (.string x.fVals) := e1.str (j := 3) rfl
        have q4 : wr.cell? ⟨b1, o1 + k * 6 + 4, none⟩ = some (.string x.fNext) := e1.str (j := 4) rfl
        have q5 : wr.cell? ⟨b1, o1 + k * 6 + 5, none⟩ = some (.string x.fData) := e1.str (j := 5) rfl
        clear e1
        go_wp2_with fail
        (refine (toHeader_any x _).mono ?_); rintro e w2 ⟨rfl, hb⟩
        have hR : Obj w2 w2.heap.size w2.heap.size (encHeader x) [.int .i64 x.fHeight, .int .i64 x.fTime, .string x.fLast, .string x.fVals, .string x.fNext, .string x.fData] := (Obj.int (Obj.int (Obj.str (Obj.str (Obj.str (Obj.str obj_nil))))))
        have hO2 := hO.ext hb
        have hsz := hb.size
        obtain ⟨F, f1, f2, f3⟩ := hO2
        obtain ⟨v0, x0⟩ := f1.cellAt (o := k * 6 + 0) f2 (by rw [RS.len f1.read]; omega)
        have y0 := f1.frozenAt f2 (k * 6 + 0)
        obtain ⟨v1, x1⟩ := f1.cellAt (o := k * 6 + 1) f2 (by rw [RS.len f1.read]; omega)
        have y1 := f1.frozenAt f2 (k * 6 + 1)
        obtain ⟨v2, x2⟩ := f1.cellAt (o := k * 6 + 2) f2 (by rw [RS.len f1.read]; omega)
        have y2 := f1.frozenAt f2 (k * 6 + 2)
        obtain ⟨v3, x3⟩ := f1.cellAt (o := k * 6 + 3) f2 (by rw [RS.len f1.read]; omega)
        have y3 := f1.frozenAt f2 (k * 6 + 3)
        obtain ⟨v4, x4⟩ := f1.cellAt (o := k * 6 + 4) f2 (by rw [RS.len f1.read]; omega)
        have y4 := f1.frozenAt f2 (k * 6 + 4)
        obtain ⟨v5, x5⟩ := f1.cellAt (o := k * 6 + 5) f2 (by rw [RS.len f1.read]; omega)
        have y5 := f1.frozenAt f2 (k * 6 + 5)
        simp only [Nat.add_zero] at x0 y0
        have hO3 := Lib.hid (Obj.fill (enc := encHeader) (z := [.int 0, .int 0, .str ByteArray.empty, .str ByteArray.empty, .str ByteArray.empty, .str ByteArray.empty]) (sz := 6) (hi := w2.heap.size) (fun _ => rfl) rfl ⟨F, f1, f2, f3⟩ HX.out hR (by omega) (by omega))
        clear f1 f2 f3 hR
        go_wp2
        go_roundg (xs.length - (k + 1))
        case measure => rw [HG.out]; omega
        case rel => exact ⟨k + 1, by omega, rfl, by go_num, by (repeat (first | (with_reducible exact Ext.refl _) | (with_reducible assumption) | (with_reducible refine Ext.alloc ?_ _) | (with_reducible refine Ext.drew ?_) | (with_reducible refine Ext.drewN ?_ _) | ((with_reducible apply Ext.setCell); (case hp => first | omega | (simp; done) | (simp; omega))) | (with_reducible refine Ext.trans ?_ (by assumption)))), Obj.mono (by have h := hO3.out; (try simp only [Nat.mul_one] at h); exact h) (Nat.le_refl _) (by (first | omega | (simp; done) | (simp; omega)))⟩
      · obtain rfl : k = xs.length := by omega
        rw [fillE_end] at hO
        go_wp2
        go_ret
        exact ⟨_, _, rfl, hO, hE⟩
set_option maxRecDepth 100000 in
set_option maxHeartbeats 4000000 in
theorem szHeaderS_any (v : Value) (xs : List GHeader) (left : Int) (w : World) (h : RL 39 6 encHeader w v xs) (hok : okL [slD 39 6 encHeader xs]) (h0 : 0 ≤ left) (h1 : left ≤ 1048576) :
    Calls Tryz.prog 114 #[v, .int .i64 left] w fun e w' => e = .returned (.int .i64 (szR left (szL [slD 39 6 encHeader xs]))) ∧ Ext w w' := by
  have hm := RS.bd h
  replace hm : xs.length ≤ 9223372036854775807 := by unfold maxLen at hm; omega
  have hT : szL [slD 39 6 encHeader xs] = xs.length + szL (xs.flatMap encHeader) := by simp [slD, szL]
  rw [hT]
  clear hT
  have hokE : ∀ x ∈ xs, okL (encHeader x) := fun x hx => by simp only [slD, okL] at hok; exact okL_elem hok.2.1 hx
  have HOK := Lib.hid hokE
  clear hok hokE
  by_cases hl : left < xs.length
  · obtain ⟨o1, c1, rfl⟩ := RS.val h
    have HR := Lib.hid (szR_out (b := szL (xs.flatMap encHeader)) hl)
    clear h
    go_enter Tryz.func114, Tryz.ntmps114
    go_wp2
    go_ret
    exact ⟨ret_int HR.out, by (repeat (first | (with_reducible exact Ext.refl _) | (with_reducible assumption) | (with_reducible refine Ext.alloc ?_ _) | (with_reducible refine Ext.drew ?_) | (with_reducible refine Ext.drewN ?_ _) | ((with_reducible apply Ext.setCell); (case hp => first | omega | (simp; done) | (simp; omega))) | (with_reducible refine Ext.trans ?_ (by assumption))))⟩
  · rcases RS.cases h with ⟨hn0, _, o1, c1, rfl⟩ | ⟨b1, o1, c1, rfl, hp, _, _, hx⟩
    · obtain rfl := List.eq_nil_of_length_eq_zero hn0
      have HR := Lib.hid (szR_zero h0)
      clear h hn0 hl
      go_enter Tryz.func114, Tryz.ntmps114
      go_wp2
      refine wp_loop_rounds 1 ?_
      rw [rounds_succ]
      go_wp2
      go_ret
      exact ⟨ret_int (by simpa [szL] using HR.out), by (repeat (first | (with_reducible exact Ext.refl _) | (with_reducible assumption) | (with_reducible refine Ext.alloc ?_ _) | (with_reducible refine Ext.drew ?_) | (with_reducible refine Ext.drewN ?_ _) | ((with_reducible apply Ext.setCell); (case hp => first | omega | (simp; done) | (simp; omega))) | (with_reducible refine Ext.trans ?_ (by assumption))))⟩
    · clear h hp
      have hl' : (xs.length : Int) ≤ left := by omega
      clear hl
      go_enter Tryz.func114, Tryz.ntmps114
      go_wp2
      go_loopg [1, 5] xs.length (fun g s i wr => ∃ (k : Nat) (t : Int), k ≤ xs.length ∧ g = xs.length - k ∧ i = .int .i64 k ∧ s = .int .i64 t ∧ 0 ≤ t ∧ t ≤ 1048576 ∧ Hid (t = left - xs.length - szL ((xs.take k).flatMap encHeader)) ∧ Ext w wr)
      case atStart => exact ⟨0, left - xs.length, by omega, by omega, rfl, rfl, by omega, by omega, Lib.hid (by simp [szL]), Ext.refl _⟩
      case round =>
        obtain ⟨k, t, hk, hg, rfl, rfl, ht0, ht1, HT, hE⟩ := hrel
        have HG := Lib.hid hg; clear hg
        by_cases hlt : k < xs.length
        · obtain ⟨x, hxk⟩ : ∃ x, xs[k]? = some x := ⟨_, List.getElem?_eq_getElem hlt⟩
          have e1 := (RAt.elem (enc := encHeader) (sz := 6) (fun _ => rfl) hx hxk).ext hE
          have hok := HOK.out x (List.mem_of_getElem? hxk)
          have HS := Lib.hid (szL_next (enc := encHeader) hxk)
          clear hxk
          have q0 : wr.cell? ⟨b1, o1 + k * 6, none⟩ = some (.int .i64 x.fHeight) := e1.int (j := 0) rfl
          have q1 : wr.cell? ⟨b1, o1 + k * 6 + 1, none⟩ = some (.int .i64 x.fTime) := e1.int (j := 1) rfl
          have q2 : wr.cell? ⟨b1, o1 + k * 6 + 2, none⟩ = some (.string x.fLast) := e1.str (j := 2) rfl
          have q3 : wr.cell? ⟨b1, o1 + k * 6 + 3, none⟩ = some (.string x.fVals) := e1.str (j := 3) rfl
          have q4 : wr.cell? ⟨b1, o1 + k * 6 + 4, none⟩ = some (.string x.fNext) := e1.str (j := 4) rfl
          have q5 : wr.cell? ⟨b1, o1 + k * 6 + 5, none⟩ = some (.string x.fData) := e1.str (j := 5) rfl
          have d1 : Rds wr (encHeader x) [.int .i64 x.fHeight, .int .i64 x.fTime, .string x.fLast, .string x.fVals, .string x.fNext, .string x.fData] := (Rds.int _ (Rds.int _ (Rds.str _ (Rds.str _ (Rds.str _ (Rds.str _ Rds.nil))))))
          clear e1
          have OKX := Lib.hid hok; clear hok
          obtain ⟨a, ha⟩ : ∃ a, a = szL (encHeader x) := ⟨_, rfl⟩
          have HA := Lib.hid ha; clear ha
          by_cases hs : t < a
          · have HR := Lib.hid (szR_no hs)
            go_wp2_with fail
            (refine (szHeader_any x t _ d1 OKX.out ht0 ht1).mono ?_); rw [show szL (encHeader x) = a from HA.out.symm, HR.out]; rintro e w1 ⟨rfl, hb⟩
            go_wp2
            go_ret
            exact ⟨ret_int (by have h1 := HT.out; have h2 : szL ((xs.take (k + 1)).flatMap encHeader) = szL ((xs.take k).flatMap encHeader) + szL (encHeader x) := HS.out; have h3 := HA.out; have h4 := szL_take (enc := encHeader) xs (k + 1); exact szR_no (by omega)), by (repeat (first | (with_reducible exact Ext.refl _) | (with_reducible assumption) | (with_reducible refine Ext.alloc ?_ _) | (with_reducible refine Ext.drew ?_) | (with_reducible refine Ext.drewN ?_ _) | ((with_reducible apply Ext.setCell); (case hp => first | omega | (simp; done) | (simp; omega))) | (with_reducible refine Ext.trans ?_ (by assumption))))⟩
          · have HR := Lib.hid (szR_yes hs)
            go_wp2_with fail
            (refine (szHeader_any x t _ d1 OKX.out ht0 ht1).mono ?_); rw [show szL (encHeader x) = a from HA.out.symm, HR.out]; rintro e w1 ⟨rfl, hb⟩
            go_wp2
            go_roundg (xs.length - (k + 1))
            case measure => rw [HG.out]; omega
            case rel => exact ⟨k + 1, _, by omega, rfl, by go_num, rfl, by omega, by omega, Lib.hid (by have h1 := HT.out; have h2 : szL ((xs.take (k + 1)).flatMap encHeader) = szL ((xs.take k).flatMap encHeader) + szL (encHeader x) := HS.out; have h3 := HA.out; have h4 := szL_take (enc := encHeader) xs (k + 1); omega), by (repeat (first | (with_reducible exact Ext.refl _) | (with_reducible assumption) | (with_reducible refine Ext.alloc ?_ _) | (with_reducible refine Ext.drew ?_) | (with_reducible refine Ext.drewN ?_ _) | ((with_reducible apply Ext.setCell); (case hp => first | omega | (simp; done) | (simp; omega))) | (with_reducible refine Ext.trans ?_ (by assumption))))⟩
        · obtain rfl : k = xs.length := by omega
          go_wp2
          go_ret
          exact ⟨ret_int (by have h1 := HT.out; rw [List.take_length] at h1; rw [szR_yes (by omega)]; omega), by (repeat (first | (with_reducible exact Ext.refl _) | (with_reducible assumption) | (with_reducible refine Ext.alloc ?_ _) | (with_reducible refine Ext.drew ?_) | (with_reducible refine Ext.drewN ?_ _) | ((with_reducible apply Ext.setCell); (case hp => first | omega | (simp; done) | (simp; omega))) | (with_reducible refine Ext.trans ?_ (by assumption))))⟩
set_option maxRecDepth 100000 in
set_option maxHeartbeats 4000000 in
theorem eqHeaderS_any (v1 v2 : Value) (xs : List GHeader) (w : World) (h1 : RL 39 6 encHeader w v1 xs) (h2 : RL 39 6 encHeader w v2 xs) :
    Calls Tryz.prog 134 #[v1, v2] w fun e w' => e = .returned (.bool true) ∧ Ext w w' := by
  rcases RS.cases h1 with ⟨hn, _, o1, c1, rfl⟩ | ⟨b1, o1, c1, rfl, hp, _, hm, hx⟩
  · rcases RS.cases h2 with ⟨_, _, o2, c2, rfl⟩ | ⟨b2, o2, c2, rfl, hp, _⟩
    · clear h1 h2 hn
      go_enter Tryz.func134, Tryz.ntmps134
      go_wp2
      refine wp_loop_rounds 1 ?_
      rw [rounds_succ]
      go_wp2
      go_ret
      exact ⟨rfl, by (repeat (first | (with_reducible exact Ext.refl _) | (with_reducible assumption) | (with_reducible refine Ext.alloc ?_ _) | (with_reducible refine Ext.drew ?_) | (with_reducible refine Ext.drewN ?_ _) | ((with_reducible apply Ext.setCell); (case hp => first | omega | (simp; done) | (simp; omega))) | (with_reducible refine Ext.trans ?_ (by assumption))))⟩
    · omega
  · rcases RS.cases h2 with ⟨hn, _⟩ | ⟨b2, o2, c2, rfl, _, _, _, hy⟩
    · omega
    · have hn : xs.length ≤ 9223372036854775807 := by unfold maxLen at hm; omega
      clear h1 h2 hp hm
      go_enter Tryz.func134, Tryz.ntmps134
      go_wp2
      go_loopg [5] xs.length (fun g i wr => ∃ k : Nat, k ≤ xs.length ∧ g = xs.length - k ∧ i = .int .i64 k ∧ Ext w wr)
      case atStart => exact ⟨0, by omega, by omega, rfl, Ext.refl _⟩
      case round =>
        obtain ⟨k, hk, hg, rfl, hE⟩ := hrel
        have HG := Lib.hid hg; clear hg
        by_cases hlt : k < xs.length
        · obtain ⟨x, hxk⟩ : ∃ x, xs[k]? = some x := ⟨_, List.getElem?_eq_getElem hlt⟩
          have e1 := (RAt.elem (enc := encHeader) (sz := 6) (fun _ => rfl) hx hxk).ext hE
          have e2 := (RAt.elem (enc := encHeader) (sz := 6) (fun _ => rfl) hy hxk).ext hE
          clear hxk
          have i0 : (0 : Int) ≤ (k : Int) := by omega
          have i1 : (k : Int) < (xs.length : Int) := by omega
          have q0 : wr.cell? ⟨b1, o1 + k * 6, none⟩ = some (.int .i64 x.fHeight) := e1.int (j := 0) rfl
          have q1 : wr.cell? ⟨b1, o1 + k * 6 + 1, none⟩ = some (.int .i64 x.fTime) := e1.int (j := 1) rfl
          have q2 : wr.cell? ⟨b1, o1 + k * 6 + 2, none⟩ = some (.string x.fLast) := e1.str (j := 2) rfl
          have q3 : wr.cell? ⟨b1, o1 + k * 6 + 3, none⟩ = some (.string x.fVals) := e1.str (j := 3) rfl
          have q4 : wr.cell? ⟨b1, o1 + k * 6 + 4, none⟩ = some (.string x.fNext) := e1.str (j := 4) rfl
          have q5 : wr.cell? ⟨b1, o1 + k * 6 + 5, none⟩ = some (.string x.fData) := e1.str (j := 5) rfl
          have m0 : wr.cell? ⟨b2, o2 + k * 6, none⟩ = some (.int .i64 x.fHeight) := e2.int (j := 0) rfl
          have m1 : wr.cell? ⟨b2, o2 + k * 6 + 1, none⟩ = some (.int .i64 x.fTime) := e2.int (j := 1) rfl
          have m2 : wr.cell? ⟨b2, o2 + k * 6 + 2, none⟩ = some (.string x.fLast) := e2.str (j := 2) rfl
          have m3 : wr.cell? ⟨b2, o2 + k * 6 + 3, none⟩ = some (.string x.fVals) := e2.str (j := 3) rfl
          have m4 : wr.cell? ⟨b2, o2 + k * 6 + 4, none⟩ = some (.string x.fNext) := e2.str (j := 4) rfl
          have m5 : wr.cell? ⟨b2, o2 + k * 6 + 5, none⟩ = some (.string x.fData) := e2.str (j := 5) rfl
          have d1 : Rds wr (encHeader x) [.int .i64 x.fHeight, .int .i64 x.fTime, .string x.fLast, .string x.fVals, .string x.fNext, .string x.fData] := (Rds.int _ (Rds.int _ (Rds.str _ (Rds.str _ (Rds.str _ (Rds.str _ Rds.nil))))))
          have d2 : Rds wr (encHeader x) [.int .i64 x.fHeight, .int .i64 x.fTime, .string x.fLast, .string x.fVals, .string x.fNext, .string x.fData] := (Rds.int _ (Rds.int _ (Rds.str _ (Rds.str _ (Rds.str _ (Rds.str _ Rds.nil))))))
          clear e1 e2
          go_wp2_with fail
          go_region_held3 (fun w' => w'.cell? ⟨b1, o1 + k * 6, none⟩ = some (.int .i64 x.fHeight) ∧ w'.cell? ⟨b1, o1 + k * 6 + 1, none⟩ = some (.int .i64 x.fTime) ∧ w'.cell? ⟨b1, o1 + k * 6 + 2, none⟩ = some (.string x.fLast) ∧ w'.cell? ⟨b1, o1 + k * 6 + 3, none⟩ = some (.string x.fVals) ∧ w'.cell? ⟨b1, o1 + k * 6 + 4, none⟩ = some (.string x.fNext) ∧ w'.cell? ⟨b1, o1 + k * 6 + 5, none⟩ = some (.string x.fData) ∧ w'.cell? ⟨b2, o2 + k * 6, none⟩ = some (.int .i64 x.fHeight) ∧ w'.cell? ⟨b2, o2 + k * 6 + 1, none⟩ = some (.int .i64 x.fTime) ∧ w'.cell? ⟨b2, o2 + k * 6 + 2, none⟩ = some (.string x.fLast) ∧ w'.cell? ⟨b2, o2 + k * 6 + 3, none⟩ = some (.string x.fVals) ∧ w'.cell? ⟨b2, o2 + k * 6 + 4, none⟩ = some (.string x.fNext) ∧ w'.cell? ⟨b2, o2 + k * 6 + 5, none⟩ = some (.string x.fData)) ((first | go_keep | ((try dsimp only); (try go_split_ands); (repeat' apply And.intro) <;> exact hb.cellSome (by assumption))))
            ((go_at_call 87; refine (eqHeader_any x _ (d1.extA) (d2.extA)).mono ?_; rintro e w1 ⟨rfl, hb⟩))
          go_wp2
          go_roundg (xs.length - (k + 1))
          case measure => rw [HG.out]; omega
          case rel => exact ⟨k + 1, by omega, rfl, by go_num, by (repeat (first | (with_reducible exact Ext.refl _) | (with_reducible assumption) | (with_reducible refine Ext.alloc ?_ _) | (with_reducible refine Ext.drew ?_) | (with_reducible refine Ext.drewN ?_ _) | ((with_reducible apply Ext.setCell); (case hp => first | omega | (simp; done) | (simp; omega))) | (with_reducible refine Ext.trans ?_ (by assumption))))⟩
        · go_wp2
          go_ret
          exact ⟨rfl, by (repeat (first | (with_reducible exact Ext.refl _) | (with_reducible assumption) | (with_reducible refine Ext.alloc ?_ _) | (with_reducible refine Ext.drew ?_) | (with_reducible refine Ext.drewN ?_ _) | ((with_reducible apply Ext.setCell); (case hp => first | omega | (simp; done) | (simp; omega))) | (with_reducible refine Ext.trans ?_ (by assumption))))⟩
end Go.Proofs.YtgcelmnmalfpcaaGreatDoor
namespace Go.Proofs.YtgcelmnmalfpcaaGreatDoor
set_option linter.unusedSimpArgs false
set_option linter.unusedVariables false
open Go.RowKit
def encVal (x : GVal) : List D := [.int x.fId, .int x.fPower]
theorem dec_Val : Dec [.int .i64, .int .i64] encVal := by
  intro n W vs h
  match vs, h with
  | [_, _], ⟨k0, k1, _⟩ =>
    obtain ⟨a0, rfl, h0⟩ := cell_int k0
    obtain ⟨a1, rfl, h1⟩ := cell_int k1
    exact ⟨⟨a0, a1⟩, (Rds.int _ (Rds.int _ Rds.nil)), (okL_int h0 (okL_int h1 okL_nil))⟩
theorem pv_Val (x : GVal) : toPVL (encVal x) = pVal x := by
  simp only [encVal, pVal, toPVL, toPV]
theorem pvs_Val (e : TypeId) (xs : List GVal) : toPV (slD e 2 encVal xs) = .sl 2 (xs.map pVal) := by rw [toPV_slD (enc := encVal) (sz := 2) (fun _ => rfl)]; simp only [pv_Val]
theorem cnt_Val (x : GVal) : cnt (encVal x) ≤ 64 + 64 * szL (encVal x) := by
  simp [encVal, cnt, szL]
set_option maxRecDepth 100000 in
set_option maxHeartbeats 4000000 in
theorem toVal_any (x : GVal) (w : World) :
    Calls Tryz.prog 147 #[.agg #[.int .i64 x.fId, .int .i64 x.fPower]] w fun e w' => e = .returned (.agg #[.int .i64 x.fId, .int .i64 x.fPower]) ∧ Ext w w' := by
  go_enter Tryz.func147, Tryz.ntmps147
  go_wp2
  exact bodyPost_ret (v := .agg #[.int .i64 x.fId, .int .i64 x.fPower]) (by simp [results, Tryz.results147, go_sem]) rfl ⟨rfl, by (repeat (first | (with_reducible exact Ext.refl _) | (with_reducible assumption) | (with_reducible refine Ext.alloc ?_ _) | (with_reducible refine Ext.drew ?_) | (with_reducible refine Ext.drewN ?_ _) | ((with_reducible apply Ext.setCell); (case hp => first | omega | (simp; done) | (simp; omega))) | (with_reducible refine Ext.trans ?_ (by assumption))))⟩
set_option maxRecDepth 100000 in
set_option maxHeartbeats 4000000 in
theorem eqVal_any (x : GVal) (w : World) (_h1 : Rds w (encVal x) [.int .i64 x.fId, .int .i64 x.fPower]) (_h2 : Rds w (encVal x) [.int .i64 x.fId, .int .i64 x.fPower]) :
    Calls Tryz.prog 154 #[.agg #[.int .i64 x.fId, .int .i64 x.fPower], .agg #[.int .i64 x.fId, .int .i64 x.fPower]] w fun e w' => e = .returned (.bool true) ∧ Ext w w' := by
  go_enter Tryz.func154, Tryz.ntmps154
  go_wp2
  go_ret
  exact ⟨rfl, by (repeat (first | (with_reducible exact Ext.refl _) | (with_reducible assumption) | (with_reducible refine Ext.alloc ?_ _) | (with_reducible refine Ext.drew ?_) | (with_reducible refine Ext.drewN ?_ _) | ((with_reducible apply Ext.setCell); (case hp => first | omega | (simp; done) | (simp; omega))) | (with_reducible refine Ext.trans ?_ (by assumption))))⟩
theorem infoValS : (Tryz.prog.info? 138).map (fun i => (i.zero, i.size, i.bytes)) = some (some (.agg #[.int .i64 0, .int .i64 0]), 2, 16) := by kernel_rfl
set_option maxRecDepth 100000 in
set_option maxHeartbeats 4000000 in
theorem toValS_any (v : Value) (xs : List GVal) (w : World) (h : RL 138 2 encVal w v xs) (hz : szL [slD 138 2 encVal xs] ≤ 1048576) :
    Calls Tryz.prog 81 #[v] w fun e w' => ∃ (p : Option Addr) (q : Nat), e = .returned (.slice p xs.length q) ∧ Obj w' w.heap.size w'.heap.size [slD 138 2 encVal xs] [.slice p xs.length q] ∧ Ext w w' := by
  obtain ⟨i0, hi, hz0, hz1, hz2⟩ := info_parts infoValS
  have hzero : ∀ w, Ows w [.int 0, .int 0] #[.int .i64 0, .int .i64 0].toList [] := fun w => (Ows.int _ (Ows.int _ Ows.nil))
  have HZ := Lib.hid hzero; clear hzero
  have hn : xs.length ≤ 1048576 := by simp only [szL, slD] at hz; omega
  rcases RS.cases h with ⟨hn0, _, o1, c1, rfl⟩ | ⟨b1, o1, c1, rfl, hp, _, hm, hx⟩
  · obtain rfl := List.eq_nil_of_length_eq_zero hn0
    clear h hn0 hz hn
    go_enter Tryz.func81, Tryz.ntmps81
    go_wp2_with (at_make; refine wpList_make_full _ rfl (.tmp 6) (.tmp 6) 40 rfl w.heap.size 138 i0 _ 2 Tryz.underlying40 hi hz0 hz1 .i64 .i64 _ _ 0 rfl rfl rfl rfl (by omega) (by omega) (Nat.le_refl _) ?_; intro w1 hown hgrow)
    have hE := Ext.of_grownBy hgrow
    have hO := Lib.hid (Obj.made (n := 0) HZ.out rfl (by decide) hown)
    clear hgrow hown
    refine wp_loop_rounds 1 ?_
    rw [rounds_succ]
    go_wp2
    go_ret
    exact ⟨_, _, rfl, hO.out, hE⟩
  · have HSZ := Lib.hid hz
    clear h hm hz
    go_enter Tryz.func81, Tryz.ntmps81
    go_wp2_with (at_make; refine wpList_make_full _ rfl (.tmp 6) (.tmp 6) 40 rfl w.heap.size 138 i0 _ 2 Tryz.underlying40 hi hz0 hz1 .i64 .i64 _ _ xs.length rfl rfl rfl rfl (by rw [hz2]; omega) (by unfold maxLen; omega) (Nat.le_refl _) ?_; intro w1 hown hgrow)
    have hE := Ext.of_grownBy hgrow
    have hO : Obj w1 w.heap.size w1.heap.size [.sl 138 2 xs.length (fillE encVal [.int 0, .int 0] xs 0)] [.slice (some ⟨w.heap.size, 0, none⟩) xs.length xs.length] := by rw [fillE_zero]; exact Obj.made HZ.out rfl (by decide) hown
    clear hgrow hown
    go_loopg [4] xs.length (fun g i wr => ∃ k : Nat, k ≤ xs.length ∧ g = xs.length - k ∧ i = .int .i64 k ∧ Ext w wr ∧ Obj wr w.heap.size wr.heap.size [.sl 138 2 xs.length (fillE encVal [.int 0, .int 0] xs k)] [.slice (some ⟨w.heap.size, 0, none⟩) xs.length xs.length])
    case atStart => exact ⟨0, by omega, by omega, rfl, hE, hO⟩
    case round =>
      clear hE hO
      obtain ⟨k, hk, hg, rfl, hE, hO⟩ := hrel
      have HG := Lib.hid hg; clear hg
      by_cases hlt : k < xs.length
      · obtain ⟨x, hxk⟩ : ∃ x, xs[k]? = some x := ⟨_, List.getElem?_eq_getElem hlt⟩
        have e1 := (RAt.elem (enc := encVal) (sz := 2) (fun _ => rfl) hx hxk).ext hE
        have HX := Lib.hid hxk
        have HM := Lib.hid (List.mem_of_getElem? hxk)
        clear hxk
        have q0 : wr.cell? ⟨b1, o1 + k * 2, none⟩ = some (.int .i64 x.fId) := e1.int (j := 0) rfl
        have q1 : wr.cell? ⟨b1, o1 + k * 2 + 1, none⟩ = some (.int .i64 x.fPower) := e1.int (j := 1) rfl
        clear e1
        go_wp2_with fail
        (refine (toVal_any x _).mono ?_); rintro e w2 ⟨rfl, hb⟩
        have hR : Obj w2 w2.heap.size w2.heap.size (encVal x) [.int .i64 x.fId, .int .i64 x.fPower] := (Obj.int (Obj.int obj_nil))
        have hO2 := hO.ext hb
        have hsz := hb.size
        obtain ⟨F, f1, f2, f3⟩ := hO2
        obtain ⟨v0, x0⟩ := f1.cellAt (o := k * 2 + 0) f2 (by rw [RS.len f1.read]; omega)
        have y0 := f1.frozenAt f2 (k * 2 + 0)
        obtain ⟨v1, x1⟩ := f1.cellAt (o := k * 2 + 1) f2 (by rw [RS.len f1.read]; omega)
        have y1 := f1.frozenAt f2 (k * 2 + 1)
        simp only [Nat.add_zero] at x0 y0
        have hO3 := Lib.hid (Obj.fill (enc := encVal) (z := [.int 0, .int 0]) (sz := 2) (hi := w2.heap.size) (fun _ => rfl) rfl ⟨F, f1, f2, f3⟩ HX.out hR (by omega) (by omega))
        clear f1 f2 f3 hR
        go_wp2
        go_roundg (xs.length - (k + 1))
        case measure => rw [HG.out]; omega
        case rel => exact ⟨k + 1, by omega, rfl, by go_num, by (repeat (first | (with_reducible exact Ext.refl _) | (with_reducible assumption) | (with_reducible refine Ext.alloc ?_ _) | (with_reducible refine Ext.drew ?_) | (with_reducible refine Ext.drewN ?_ _) | ((with_reducible apply Ext.setCell); (case hp => first | omega | (simp; done) | (simp; omega))) | (with_reducible refine Ext.trans ?_ (by assumption)))), Obj.mono (by have h := hO3.out; (try simp only [Nat.mul_one] at h); exact h) (Nat.le_refl _) (by (first | omega | (simp; done) | (simp; omega)))⟩
      · obtain rfl : k = xs.length := by omega
        rw [fillE_end] at hO
        go_wp2
        go_ret
        exact ⟨_, _, rfl, hO, hE⟩
set_option maxRecDepth 100000 in
set_option maxHeartbeats 4000000 in
theorem szValS_any (v : Value) (xs : List GVal) (left : Int) (w : World) (h : RL 138 2 encVal w v xs) (_hok : okL [slD 138 2 encVal xs]) (h0 : 0 ≤ left) (h1 : left ≤ 1048576) :
    Calls Tryz.prog 75 #[v, .int .i64 left] w fun e w' => e = .returned (.int .i64 (szR left (szL [slD 138 2 encVal xs]))) ∧ Ext w w' := by
  have hm := RS.bd h
  replace hm : xs.length ≤ 9223372036854775807 := by unfold maxLen at hm; omega
  have hs : szL [slD 138 2 encVal xs] = xs.length := by
    have : szL (xs.flatMap encVal) = 0 := szL_zero (fun x => by simp [encVal, szL]) xs
    simp [slD, szL, this]
  obtain ⟨o1, c1, rfl⟩ := RS.val h
  rw [hs]
  clear h hs
  go_enter Tryz.func75, Tryz.ntmps75
  go_wp2
  all_goals
    go_ret
    exact ⟨ret_int (by first | exact szR_no (by omega) | exact szR_yes (by omega)), by (repeat (first | (with_reducible exact Ext.refl _) | (with_reducible assumption) | (with_reducible refine Ext.alloc ?_ _) | (with_reducible refine Ext.drew ?_) | (with_reducible refine Ext.drewN ?_ _) | ((with_reducible apply Ext.setCell); (case hp => first | omega | (simp; done) | (simp; omega))) | (with_reducible refine Ext.trans ?_ (by assumption))))⟩
set_option maxRecDepth 100000 in
set_option maxHeartbeats 4000000 in
theorem eqValS_any (v1 v2 : Value) (xs : List GVal) (w : World) (h1 : RL 138 2 encVal w v1 xs) (h2 : RL 138 2 encVal w v2 xs) :
    Calls Tryz.prog 88 #[v1, v2] w fun e w' => e = .returned (.bool true) ∧ Ext w w' := by
  rcases RS.cases h1 with ⟨hn, _, o1, c1, rfl⟩ | ⟨b1, o1, c1, rfl, hp, _, hm, hx⟩
  · rcases RS.cases h2 with ⟨_, _, o2, c2, rfl⟩ | ⟨b2, o2, c2, rfl, hp, _⟩
    · clear h1 h2 hn
      go_enter Tryz.func88, Tryz.ntmps88
      go_wp2
      refine wp_loop_rounds 1 ?_
      rw [rounds_succ]
      go_wp2
      go_ret
      exact ⟨rfl, by (repeat (first | (with_reducible exact Ext.refl _) | (with_reducible assumption) | (with_reducible refine Ext.alloc ?_ _) | (with_reducible refine Ext.drew ?_) | (with_reducible refine Ext.drewN ?_ _) | ((with_reducible apply Ext.setCell); (case hp => first | omega | (simp; done) | (simp; omega))) | (with_reducible refine Ext.trans ?_ (by assumption))))⟩
    · omega
  · rcases RS.cases h2 with ⟨hn, _⟩ | ⟨b2, o2, c2, rfl, _, _, _, hy⟩
    · omega
    · have hn : xs.length ≤ 9223372036854775807 := by unfold maxLen at hm; omega
      clear h1 h2 hp hm
      go_enter Tryz.func88, Tryz.ntmps88
      go_wp2
      go_loopg [5] xs.length (fun g i wr => ∃ k : Nat, k ≤ xs.length ∧ g = xs.length - k ∧ i = .int .i64 k ∧ Ext w wr)
      case atStart => exact ⟨0, by omega, by omega, rfl, Ext.refl _⟩
      case round =>
        obtain ⟨k, hk, hg, rfl, hE⟩ := hrel
        have HG := Lib.hid hg; clear hg
        by_cases hlt : k < xs.length
        · obtain ⟨x, hxk⟩ : ∃ x, xs[k]? = some x := ⟨_, List.getElem?_eq_getElem hlt⟩
          have e1 := (RAt.elem (enc := encVal) (sz := 2) (fun _ => rfl) hx hxk).ext hE
          have e2 := (RAt.elem (enc := encVal) (sz := 2) (fun _ => rfl) hy hxk).ext hE
          clear hxk
          have i0 : (0 : Int) ≤ (k : Int) := by omega
          have i1 : (k : Int) < (xs.length : Int) := by omega
          have q0 : wr.cell? ⟨b1, o1 + k * 2, none⟩ = some (.int .i64 x.fId) := e1.int (j := 0) rfl
          have q1 : wr.cell? ⟨b1, o1 + k * 2 + 1, none⟩ = some (.int .i64 x.fPower) := e1.int (j := 1) rfl
          have m0 : wr.cell? ⟨b2, o2 + k * 2, none⟩ = some (.int .i64 x.fId) := e2.int (j := 0) rfl
          have m1 : wr.cell? ⟨b2, o2 + k * 2 + 1, none⟩ = some (.int .i64 x.fPower) := e2.int (j := 1) rfl
          have d1 : Rds wr (encVal x) [.int .i64 x.fId, .int .i64 x.fPower] := (Rds.int _ (Rds.int _ Rds.nil))
          have d2 : Rds wr (encVal x) [.int .i64 x.fId, .int .i64 x.fPower] := (Rds.int _ (Rds.int _ Rds.nil))
          clear e1 e2
          go_wp2_with fail
          go_region_held3 (fun w' => w'.cell? ⟨b1, o1 + k * 2, none⟩ = some (.int .i64 x.fId) ∧ w'.cell? ⟨b1, o1 + k * 2 + 1, none⟩ = some (.int .i64 x.fPower) ∧ w'.cell? ⟨b2, o2 + k * 2, none⟩ = some (.int .i64 x.fId) ∧ w'.cell? ⟨b2, o2 + k * 2 + 1, none⟩ = some (.int .i64 x.fPower)) ((first | go_keep | ((try dsimp only); (try go_split_ands); (repeat' apply And.intro) <;> exact hb.cellSome (by assumption))))
            ((go_at_call 154; refine (eqVal_any x _ (d1.extA) (d2.extA)).mono ?_; rintro e w1 ⟨rfl, hb⟩))
          go_wp2
          go_roundg (xs.length - (k + 1))
          case measure => rw [HG.out]; omega
          case rel => exact ⟨k + 1, by omega, rfl, by go_num, by (repeat (first | (with_reducible exact Ext.refl _) | (with_reducible assumption) | (with_reducible refine Ext.alloc ?_ _) | (with_reducible refine Ext.drew ?_) | (with_reducible refine Ext.drewN ?_ _) | ((with_reducible apply Ext.setCell); (case hp => first | omega | (simp; done) | (simp; omega))) | (with_reducible refine Ext.trans ?_ (by assumption))))⟩
        · go_wp2
          go_ret
          exact ⟨rfl, by (repeat (first | (with_reducible exact Ext.refl _) | (with_reducible assumption) | (with_reducible refine Ext.alloc ?_ _) | (with_reducible refine Ext.drew ?_) | (with_reducible refine Ext.drewN ?_ _) | ((with_reducible apply Ext.setCell); (case hp => first | omega | (simp; done) | (simp; omega))) | (with_reducible refine Ext.trans ?_ (by assumption))))⟩
end Go.Proofs.YtgcelmnmalfpcaaGreatDoor
namespace Go.Proofs.YtgcelmnmalfpcaaGreatDoor
set_option linter.unusedSimpArgs false
set_option linter.unusedVariables false
open Go.RowKit
def encAnchor (x : GAnchor) : List D := [.int x.fHead.fHeight, .int x.fHead.fTime, .str x.fHead.fLast, .str x.fHead.fVals, .str x.fHead.fNext, .str x.fHead.fData, slD 138 2 encVal x.fNext]
set_option maxRecDepth 100000 in
set_option maxHeartbeats 4000000 in
theorem toAnchor_any (x : GAnchor) (o1 : Option Addr) (c1 : Nat) (w : World) (h : Rds w (encAnchor x) [.int .i64 x.fHead.fHeight, .int .i64 x.fHead.fTime, .string x.fHead.fLast, .string x.fHead.fVals, .string x.fHead.fNext, .string x.fHead.fData, .slice o1 x.fNext.length c1]) (hz : szL (encAnchor x) ≤ 1048576) :
    Calls Tryz.prog 55 #[.agg #[.int .i64 x.fHead.fHeight, .int .i64 x.fHead.fTime, .string x.fHead.fLast, .string x.fHead.fVals, .string x.fHead.fNext, .string x.fHead.fData, .slice o1 x.fNext.length c1]] w fun e w' => ∃ (p1 : Option Addr) (q1 : Nat), e = .returned (.agg #[.int .i64 x.fHead.fHeight, .int .i64 x.fHead.fTime, .string x.fHead.fLast, .string x.fHead.fVals, .string x.fHead.fNext, .string x.fHead.fData, .slice p1 x.fNext.length q1]) ∧ Obj w' w.heap.size w'.heap.size (encAnchor x) [.int .i64 x.fHead.fHeight, .int .i64 x.fHead.fTime, .string x.fHead.fLast, .string x.fHead.fVals, .string x.fHead.fNext, .string x.fHead.fData, .slice p1 x.fNext.length q1] ∧ Ext w w' := by
  have r1 : RL 138 2 encVal w (.slice o1 x.fNext.length c1) x.fNext := h.cut 6 1
  have z1 : szL [slD 138 2 encVal x.fNext] ≤ 1048576 := Nat.le_trans (szL_cut (encAnchor x) 6 1) hz
  have Z1 := Lib.hid z1; clear z1
  clear h hz
  go_enter Tryz.func55, Tryz.ntmps55
  go_wp2_with fail
  (refine (toHeader_any x.fHead _).mono ?_); rintro e w1 ⟨rfl, hb⟩; (obtain ⟨B0, c0, f0, l0⟩ := Box.afterA (k := w.heap.size) hb); (obtain ⟨B1, c1, f1, l1⟩ := Box.afterA (k := w.heap.size + 1) hb); (obtain ⟨B2, c2, f2, l2⟩ := Box.afterA (k := w.heap.size + 2) hb)
  have hz := hb.size; simp at hz
  have A : Obj w1 (w.heap.size + 3) (w.heap.size + 3) [] [] := obj_nil
  have O : Obj w1 w1.heap.size w1.heap.size [.int x.fHead.fHeight, .int x.fHead.fTime, .str x.fHead.fLast, .str x.fHead.fVals, .str x.fHead.fNext, .str x.fHead.fData] [.int .i64 x.fHead.fHeight, .int .i64 x.fHead.fTime, .string x.fHead.fLast, .string x.fHead.fVals, .string x.fHead.fNext, .string x.fHead.fData] := (Obj.int (Obj.int (Obj.str (Obj.str (Obj.str (Obj.str obj_nil))))))
  replace A : Obj w1 (w.heap.size + 3) w1.heap.size [.int x.fHead.fHeight, .int x.fHead.fTime, .str x.fHead.fLast, .str x.fHead.fVals, .str x.fHead.fNext, .str x.fHead.fData] [.int .i64 x.fHead.fHeight, .int .i64 x.fHead.fTime, .string x.fHead.fLast, .string x.fHead.fVals, .string x.fHead.fNext, .string x.fHead.fData] := Obj.more A O (by (first | omega | (simp; done) | (simp; omega))) (by (first | omega | (simp; done) | (simp; omega))) (by (first | omega | (simp; done) | (simp; omega)))
  have E1 : Ext w w1 := by (repeat (first | (with_reducible exact Ext.refl _) | (with_reducible assumption) | (with_reducible refine Ext.alloc ?_ _) | (with_reducible refine Ext.drew ?_) | (with_reducible refine Ext.drewN ?_ _) | ((with_reducible apply Ext.setCell); (case hp => first | omega | (simp; done) | (simp; omega))) | (with_reducible refine Ext.trans ?_ (by assumption))))
  clear hb O hz
  go_wp2_with fail
  (refine (toValS_any _ x.fNext _ (r1.extA) Z1.out).mono ?_); rintro e w2 ⟨p1, q1, rfl, O, hb⟩; (obtain ⟨B0, c0, f0, l0⟩ := Box.afterA (k := w.heap.size) hb); (obtain ⟨B1, c1, f1, l1⟩ := Box.afterA (k := w.heap.size + 1) hb); (obtain ⟨B2, c2, f2, l2⟩ := Box.afterA (k := w.heap.size + 2) hb)
  have hz := hb.size; simp at hz
  replace A : Obj w2 (w.heap.size + 3) w1.heap.size [.int x.fHead.fHeight, .int x.fHead.fTime, .str x.fHead.fLast, .str x.fHead.fVals, .str x.fHead.fNext, .str x.fHead.fData] [.int .i64 x.fHead.fHeight, .int .i64 x.fHead.fTime, .string x.fHead.fLast, .string x.fHead.fVals, .string x.fHead.fNext, .string x.fHead.fData] := by (repeat (first | (with_reducible assumption) | (with_reducible apply Obj.alloc) | (with_reducible apply Obj.drew) | (with_reducible apply Obj.drewN) | ((with_reducible apply Obj.set); (case hk => first | omega | (simp; done) | (simp; omega) | (left; simp; omega) | (right; simp; omega))) | (with_reducible refine Obj.ext ?_ (by assumption))))
  replace A : Obj w2 (w.heap.size + 3) w2.heap.size [.int x.fHead.fHeight, .int x.fHead.fTime, .str x.fHead.fLast, .str x.fHead.fVals, .str x.fHead.fNext, .str x.fHead.fData, slD 138 2 encVal x.fNext] [.int .i64 x.fHead.fHeight, .int .i64 x.fHead.fTime, .string x.fHead.fLast, .string x.fHead.fVals, .string x.fHead.fNext, .string x.fHead.fData, .slice p1 x.fNext.length q1] := Obj.more A O (by (first | omega | (simp; done) | (simp; omega))) (by (first | omega | (simp; done) | (simp; omega))) (by (first | omega | (simp; done) | (simp; omega)))
  have E2 : Ext w w2 := by (repeat (first | (with_reducible exact Ext.refl _) | (with_reducible assumption) | (with_reducible refine Ext.alloc ?_ _) | (with_reducible refine Ext.drew ?_) | (with_reducible refine Ext.drewN ?_ _) | ((with_reducible apply Ext.setCell); (case hp => first | omega | (simp; done) | (simp; omega))) | (with_reducible refine Ext.trans ?_ (by assumption))))
  clear hb O hz E1
  have AS := A.read
  have HA := Lib.hid A; clear A AS
  go_wp2
  exact bodyPost_ret (v := .agg #[.int .i64 x.fHead.fHeight, .int .i64 x.fHead.fTime, .string x.fHead.fLast, .string x.fHead.fVals, .string x.fHead.fNext, .string x.fHead.fData, .slice p1 x.fNext.length q1]) (by simp [results, Tryz.results55, go_sem, c1]) rfl ⟨_, _, rfl, Obj.mono (lo := w.heap.size + 3) (hi := w2.heap.size) (show Obj _ _ _ [.int x.fHead.fHeight, .int x.fHead.fTime, .str x.fHead.fLast, .str x.fHead.fVals, .str x.fHead.fNext, .str x.fHead.fData, slD 138 2 encVal x.fNext] _ from by have A := HA.out; (repeat (first | (with_reducible assumption) | (with_reducible apply Obj.alloc) | (with_reducible apply Obj.drew) | (with_reducible apply Obj.drewN) | ((with_reducible apply Obj.set); (case hk => first | omega | (simp; done) | (simp; omega) | (left; simp; omega) | (right; simp; omega))) | (with_reducible refine Obj.ext ?_ (by assumption))))) (by (first | omega | (simp; done) | (simp; omega))) (by (first | omega | (simp; done) | (simp; omega))), by (repeat (first | (with_reducible exact Ext.refl _) | (with_reducible assumption) | (with_reducible refine Ext.alloc ?_ _) | (with_reducible refine Ext.drew ?_) | (with_reducible refine Ext.drewN ?_ _) | ((with_reducible apply Ext.setCell); (case hp => first | omega | (simp; done) | (simp; omega))) | (with_reducible refine Ext.trans ?_ (by assumption))))⟩
set_option maxRecDepth 100000 in
set_option maxHeartbeats 4000000 in
theorem szAnchor_any (x : GAnchor) (o1 : Option Addr) (c1 : Nat) (left : Int) (w : World) (h : Rds w (encAnchor x) [.int .i64 x.fHead.fHeight, .int .i64 x.fHead.fTime, .string x.fHead.fLast, .string x.fHead.fVals, .string x.fHead.fNext, .string x.fHead.fData, .slice o1 x.fNext.length c1]) (hok : okL (encAnchor x)) (h0 : 0 ≤ left) (h1 : left ≤ 1048576) :
    Calls Tryz.prog 50 #[.agg #[.int .i64 x.fHead.fHeight, .int .i64 x.fHead.fTime, .string x.fHead.fLast, .string x.fHead.fVals, .string x.fHead.fNext, .string x.fHead.fData, .slice o1 x.fNext.length c1], .int .i64 left] w fun e w' => e = .returned (.int .i64 (szR left (szL (encAnchor x)))) ∧ Ext w w' := by
  have r0 : Rds w (encHeader x.fHead) [.int .i64 x.fHead.fHeight, .int .i64 x.fHead.fTime, .string x.fHead.fLast, .string x.fHead.fVals, .string x.fHead.fNext, .string x.fHead.fData] := h.cut 0 6
  have k0 : okL (encHeader x.fHead) := okL_cut (ds := encAnchor x) 0 6 hok
  have K0 := Lib.hid k0; clear k0
  have r1 : RL 138 2 encVal w (.slice o1 x.fNext.length c1) x.fNext := h.cut 6 1
  have k1 : okL [slD 138 2 encVal x.fNext] := okL_cut (ds := encAnchor x) 6 1 hok
  have K1 := Lib.hid k1; clear k1
  have hT : szL (encAnchor x) = szL (encHeader x.fHead) + szL [slD 138 2 encVal x.fNext] := by simp [encAnchor, encHeader, szL, slD]; try omega
  rw [hT]
  clear hT hok h
  obtain ⟨a0, ha0⟩ : ∃ a, a = szL (encHeader x.fHead) := ⟨_, rfl⟩
  rw [← ha0]
  have HA0 := Lib.hid ha0; clear ha0
  obtain ⟨a1, ha1⟩ : ∃ a, a = szL [slD 138 2 encVal x.fNext] := ⟨_, rfl⟩
  rw [← ha1]
  have HA1 := Lib.hid ha1; clear ha1
  by_cases h2 : left < (a0 : Nat)
  · have R0 := Lib.hid (szR_no h2)
    go_enter Tryz.func50, Tryz.ntmps50
    go_wp2_with fail
    (refine (szHeader_any x.fHead _ _ (r0.extA) K0.out (by omega) (by omega)).mono ?_); rw [show szL (encHeader x.fHead) = a0 from HA0.out.symm, R0.out]; rintro e w0 ⟨rfl, hb⟩; (obtain ⟨B0, c0, f0, l0⟩ := Box.afterA (k := w.heap.size) hb)
    have E0 : Ext w w0 := by (repeat (first | (with_reducible exact Ext.refl _) | (with_reducible assumption) | (with_reducible refine Ext.alloc ?_ _) | (with_reducible refine Ext.drew ?_) | (with_reducible refine Ext.drewN ?_ _) | ((with_reducible apply Ext.setCell); (case hp => first | omega | (simp; done) | (simp; omega))) | (with_reducible refine Ext.trans ?_ (by assumption))))
    clear hb
    go_wp2
    go_ret
    exact ⟨ret_int (szR_no (by omega)), by (repeat (first | (with_reducible exact Ext.refl _) | (with_reducible assumption) | (with_reducible refine Ext.alloc ?_ _) | (with_reducible refine Ext.drew ?_) | (with_reducible refine Ext.drewN ?_ _) | ((with_reducible apply Ext.setCell); (case hp => first | omega | (simp; done) | (simp; omega))) | (with_reducible refine Ext.trans ?_ (by assumption))))⟩
  · have R0 := Lib.hid (szR_yes h2)
    by_cases h3 : left - a0 < (a1 : Nat)
    · have R1 := Lib.hid (szR_no h3)
      go_enter Tryz.func50, Tryz.ntmps50
      go_wp2_with fail
      (refine (szHeader_any x.fHead _ _ (r0.extA) K0.out (by omega) (by omega)).mono ?_); rw [show szL (encHeader x.fHead) = a0 from HA0.out.symm, R0.out]; rintro e w0 ⟨rfl, hb⟩; (obtain ⟨B0, c0, f0, l0⟩ := Box.afterA (k := w.heap.size) hb)
      have E0 : Ext w w0 := by (repeat (first | (with_reducible exact Ext.refl _) | (with_reducible assumption) | (with_reducible refine Ext.alloc ?_ _) | (with_reducible refine Ext.drew ?_) | (with_reducible refine Ext.drewN ?_ _) | ((with_reducible apply Ext.setCell); (case hp => first | omega | (simp; done) | (simp; omega))) | (with_reducible refine Ext.trans ?_ (by assumption))))
      clear hb
      go_wp2_with fail
      (refine (szValS_any _ x.fNext _ _ (r1.extA) K1.out (by omega) (by omega)).mono ?_); rw [show szL [slD 138 2 encVal x.fNext] = a1 from HA1.out.symm, R1.out]; rintro e w1 ⟨rfl, hb⟩; (obtain ⟨B0, c0, f0, l0⟩ := Box.afterA (k := w.heap.size) hb)
      have E1 : Ext w w1 := by (repeat (first | (with_reducible exact Ext.refl _) | (with_reducible assumption) | (with_reducible refine Ext.alloc ?_ _) | (with_reducible refine Ext.drew ?_) | (with_reducible refine Ext.drewN ?_ _) | ((with_reducible apply Ext.setCell); (case hp => first | omega | (simp; done) | (simp; omega))) | (with_reducible refine Ext.trans ?_ (by assumption))))
      clear hb
      go_wp2
      go_ret
      exact ⟨ret_int (szR_no (by omega)), by (repeat (first | (with_reducible exact Ext.refl _) | (with_reducible assumption) | (with_reducible refine Ext.alloc ?_ _) | (with_reducible refine Ext.drew ?_) | (with_reducible refine Ext.drewN ?_ _) | ((with_reducible apply Ext.setCell); (case hp => first | omega | (simp; done) | (simp; omega))) | (with_reducible refine Ext.trans ?_ (by assumption))))⟩
    · have R1 := Lib.hid (szR_yes h3)
      go_enter Tryz.func50, Tryz.ntmps50
      go_wp2_with fail
      (refine (szHeader_any x.fHead _ _ (r0.extA) K0.out (by omega) (by omega)).mono ?_); rw [show szL (encHeader x.fHead) = a0 from HA0.out.symm, R0.out]; rintro e w0 ⟨rfl, hb⟩; (obtain ⟨B0, c0, f0, l0⟩ := Box.afterA (k := w.heap.size) hb)
      have E0 : Ext w w0 := by (repeat (first | (with_reducible exact Ext.refl _) | (with_reducible assumption) | (with_reducible refine Ext.alloc ?_ _) | (with_reducible refine Ext.drew ?_) | (with_reducible refine Ext.drewN ?_ _) | ((with_reducible apply Ext.setCell); (case hp => first | omega | (simp; done) | (simp; omega))) | (with_reducible refine Ext.trans ?_ (by assumption))))
      clear hb
      go_wp2_with fail
      (refine (szValS_any _ x.fNext _ _ (r1.extA) K1.out (by omega) (by omega)).mono ?_); rw [show szL [slD 138 2 encVal x.fNext] = a1 from HA1.out.symm, R1.out]; rintro e w1 ⟨rfl, hb⟩; (obtain ⟨B0, c0, f0, l0⟩ := Box.afterA (k := w.heap.size) hb)
      have E1 : Ext w w1 := by (repeat (first | (with_reducible exact Ext.refl _) | (with_reducible assumption) | (with_reducible refine Ext.alloc ?_ _) | (with_reducible refine Ext.drew ?_) | (with_reducible refine Ext.drewN ?_ _) | ((with_reducible apply Ext.setCell); (case hp => first | omega | (simp; done) | (simp; omega))) | (with_reducible refine Ext.trans ?_ (by assumption))))
      clear hb
      go_wp2
      go_ret
      exact ⟨ret_int ((szR_yes (by omega)).trans (by omega)), by (repeat (first | (with_reducible exact Ext.refl _) | (with_reducible assumption) | (with_reducible refine Ext.alloc ?_ _) | (with_reducible refine Ext.drew ?_) | (with_reducible refine Ext.drewN ?_ _) | ((with_reducible apply Ext.setCell); (case hp => first | omega | (simp; done) | (simp; omega))) | (with_reducible refine Ext.trans ?_ (by assumption))))⟩
set_option maxRecDepth 100000 in
set_option maxHeartbeats 4000000 in
theorem eqAnchor_any (x : GAnchor) (o1 : Option Addr) (c1 : Nat) (p1 : Option Addr) (q1 : Nat) (w : World) (h1 : Rds w (encAnchor x) [.int .i64 x.fHead.fHeight, .int .i64 x.fHead.fTime, .string x.fHead.fLast, .string x.fHead.fVals, .string x.fHead.fNext, .string x.fHead.fData, .slice o1 x.fNext.length c1]) (h2 : Rds w (encAnchor x) [.int .i64 x.fHead.fHeight, .int .i64 x.fHead.fTime, .string x.fHead.fLast, .string x.fHead.fVals, .string x.fHead.fNext, .string x.fHead.fData, .slice p1 x.fNext.length q1]) :
    Calls Tryz.prog 61 #[.agg #[.int .i64 x.fHead.fHeight, .int .i64 x.fHead.fTime, .string x.fHead.fLast, .string x.fHead.fVals, .string x.fHead.fNext, .string x.fHead.fData, .slice o1 x.fNext.length c1], .agg #[.int .i64 x.fHead.fHeight, .int .i64 x.fHead.fTime, .string x.fHead.fLast, .string x.fHead.fVals, .string x.fHead.fNext, .string x.fHead.fData, .slice p1 x.fNext.length q1]] w fun e w' => e = .returned (.bool true) ∧ Ext w w' := by
  have r0_0 : Rds w (encHeader x.fHead) [.int .i64 x.fHead.fHeight, .int .i64 x.fHead.fTime, .string x.fHead.fLast, .string x.fHead.fVals, .string x.fHead.fNext, .string x.fHead.fData] := h1.cut 0 6
  have r0_1 : Rds w (encHeader x.fHead) [.int .i64 x.fHead.fHeight, .int .i64 x.fHead.fTime, .string x.fHead.fLast, .string x.fHead.fVals, .string x.fHead.fNext, .string x.fHead.fData] := h2.cut 0 6
  have r1_0 : RL 138 2 encVal w (.slice o1 x.fNext.length c1) x.fNext := h1.cut 6 1
  have r1_1 : RL 138 2 encVal w (.slice p1 x.fNext.length q1) x.fNext := h2.cut 6 1
  clear h1 h2
  go_enter Tryz.func61, Tryz.ntmps61
  go_wp2_with fail
  (refine (eqHeader_any x.fHead _ (r0_0.extA) (r0_1.extA)).mono ?_); rintro e w1 ⟨rfl, hb⟩; (obtain ⟨B0, c0, f0, l0⟩ := Box.afterA (k := w.heap.size) hb); (obtain ⟨B1, c1, f1, l1⟩ := Box.afterA (k := w.heap.size + 1) hb)
  have E1 : Ext w w1 := by (repeat (first | (with_reducible exact Ext.refl _) | (with_reducible assumption) | (with_reducible refine Ext.alloc ?_ _) | (with_reducible refine Ext.drew ?_) | (with_reducible refine Ext.drewN ?_ _) | ((with_reducible apply Ext.setCell); (case hp => first | omega | (simp; done) | (simp; omega))) | (with_reducible refine Ext.trans ?_ (by assumption))))
  clear hb
  go_wp2_with fail
  (refine (eqValS_any _ _ x.fNext _ (r1_0.extA) (r1_1.extA)).mono ?_); rintro e w2 ⟨rfl, hb⟩; (obtain ⟨B0, c0, f0, l0⟩ := Box.afterA (k := w.heap.size) hb); (obtain ⟨B1, c1, f1, l1⟩ := Box.afterA (k := w.heap.size + 1) hb)
  have E2 : Ext w w2 := by (repeat (first | (with_reducible exact Ext.refl _) | (with_reducible assumption) | (with_reducible refine Ext.alloc ?_ _) | (with_reducible refine Ext.drew ?_) | (with_reducible refine Ext.drewN ?_ _) | ((with_reducible apply Ext.setCell); (case hp => first | omega | (simp; done) | (simp; omega))) | (with_reducible refine Ext.trans ?_ (by assumption))))
  clear hb E1
  go_wp2
  go_ret
  exact ⟨rfl, by (repeat (first | (with_reducible exact Ext.refl _) | (with_reducible assumption) | (with_reducible refine Ext.alloc ?_ _) | (with_reducible refine Ext.drew ?_) | (with_reducible refine Ext.drewN ?_ _) | ((with_reducible apply Ext.setCell); (case hp => first | omega | (simp; done) | (simp; omega))) | (with_reducible refine Ext.trans ?_ (by assumption))))⟩
end Go.Proofs.YtgcelmnmalfpcaaGreatDoor
namespace Go.Proofs.YtgcelmnmalfpcaaGreatDoor
set_option linter.unusedSimpArgs false
set_option linter.unusedVariables false
open Go.RowKit
def encStore (x : GStore) : List D := [slD 39 6 encHeader x.fHeads, .int x.fSynced]
set_option maxRecDepth 100000 in
set_option maxHeartbeats 4000000 in
theorem toStore_any (x : GStore) (o1 : Option Addr) (c1 : Nat) (w : World) (h : Rds w (encStore x) [.slice o1 x.fHeads.length c1, .int .i64 x.fSynced]) (hz : szL (encStore x) ≤ 1048576) :
    Calls Tryz.prog 56 #[.agg #[.slice o1 x.fHeads.length c1, .int .i64 x.fSynced]] w fun e w' => ∃ (p1 : Option Addr) (q1 : Nat), e = .returned (.agg #[.slice p1 x.fHeads.length q1, .int .i64 x.fSynced]) ∧ Obj w' w.heap.size w'.heap.size (encStore x) [.slice p1 x.fHeads.length q1, .int .i64 x.fSynced] ∧ Ext w w' := by
  have r0 : RL 39 6 encHeader w (.slice o1 x.fHeads.length c1) x.fHeads := h.cut 0 1
  have z0 : szL [slD 39 6 encHeader x.fHeads] ≤ 1048576 := Nat.le_trans (szL_cut (encStore x) 0 1) hz
  have Z0 := Lib.hid z0; clear z0
  clear h hz
  go_enter Tryz.func56, Tryz.ntmps56
  go_wp2_with fail
  (refine (toHeaderS_any _ x.fHeads _ (r0.extA) Z0.out).mono ?_); rintro e w1 ⟨p1, q1, rfl, O, hb⟩; (obtain ⟨B0, c0, f0, l0⟩ := Box.afterA (k := w.heap.size) hb); (obtain ⟨B1, c1, f1, l1⟩ := Box.afterA (k := w.heap.size + 1) hb); (obtain ⟨B2, c2, f2, l2⟩ := Box.afterA (k := w.heap.size + 2) hb)
  have hz := hb.size; simp at hz
  have A : Obj w1 (w.heap.size + 3) (w.heap.size + 3) [] [] := obj_nil
  replace A : Obj w1 (w.heap.size + 3) w1.heap.size [slD 39 6 encHeader x.fHeads] [.slice p1 x.fHeads.length q1] := Obj.more A O (by (first | omega | (simp; done) | (simp; omega))) (by (first | omega | (simp; done) | (simp; omega))) (by (first | omega | (simp; done) | (simp; omega)))
  have E1 : Ext w w1 := by (repeat (first | (with_reducible exact Ext.refl _) | (with_reducible assumption) | (with_reducible refine Ext.alloc ?_ _) | (with_reducible refine Ext.drew ?_) | (with_reducible refine Ext.drewN ?_ _) | ((with_reducible apply Ext.setCell); (case hp => first | omega | (simp; done) | (simp; omega))) | (with_reducible refine Ext.trans ?_ (by assumption))))
  clear hb O hz
  replace A : Obj w1 (w.heap.size + 3) w1.heap.size [slD 39 6 encHeader x.fHeads, .int x.fSynced] [.slice p1 x.fHeads.length q1, .int .i64 x.fSynced] := Obj.more A (.int obj_nil : Obj _ w1.heap.size w1.heap.size _ _) (Nat.le_refl _) (Nat.le_refl _) (by (first | omega | (simp; done) | (simp; omega)))
  have AS := A.read
  have HA := Lib.hid A; clear A AS
  go_wp2
  exact bodyPost_ret (v := .agg #[.slice p1 x.fHeads.length q1, .int .i64 x.fSynced]) (by simp [results, Tryz.results56, go_sem, c1]) rfl ⟨_, _, rfl, Obj.mono (lo := w.heap.size + 3) (hi := w1.heap.size) (show Obj _ _ _ [slD 39 6 encHeader x.fHeads, .int x.fSynced] _ from by have A := HA.out; (repeat (first | (with_reducible assumption) | (with_reducible apply Obj.alloc) | (with_reducible apply Obj.drew) | (with_reducible apply Obj.drewN) | ((with_reducible apply Obj.set); (case hk => first | omega | (simp; done) | (simp; omega) | (left; simp; omega) | (right; simp; omega))) | (with_reducible refine Obj.ext ?_ (by assumption))))) (by (first | omega | (simp; done) | (simp; omega))) (by (first | omega | (simp; done) | (simp; omega))), by (repeat (first | (with_reducible exact Ext.refl _) | (with_reducible assumption) | (with_reducible refine Ext.alloc ?_ _) | (with_reducible refine Ext.drew ?_) | (with_reducible refine Ext.drewN ?_ _) | ((with_reducible apply Ext.setCell); (case hp => first | omega | (simp; done) | (simp; omega))) | (with_reducible refine Ext.trans ?_ (by assumption))))⟩
set_option maxRecDepth 100000 in
set_option maxHeartbeats 4000000 in
theorem szStore_any (x : GStore) (o1 : Option Addr) (c1 : Nat) (left : Int) (w : World) (h : Rds w (encStore x) [.slice o1 x.fHeads.length c1, .int .i64 x.fSynced]) (hok : okL (encStore x)) (h0 : 0 ≤ left) (h1 : left ≤ 1048576) :
    Calls Tryz.prog 51 #[.agg #[.slice o1 x.fHeads.length c1, .int .i64 x.fSynced], .int .i64 left] w fun e w' => e = .returned (.int .i64 (szR left (szL (encStore x)))) ∧ Ext w w' := by
  have r0 : RL 39 6 encHeader w (.slice o1 x.fHeads.length c1) x.fHeads := h.cut 0 1
  have k0 : okL [slD 39 6 encHeader x.fHeads] := okL_cut (ds := encStore x) 0 1 hok
  have K0 := Lib.hid k0; clear k0
  have hT : szL (encStore x) = szL [slD 39 6 encHeader x.fHeads] := by simp [encStore, szL, slD]; try omega
  rw [hT]
  clear hT hok h
  obtain ⟨a0, ha0⟩ : ∃ a, a = szL [slD 39 6 encHeader x.fHeads] := ⟨_, rfl⟩
  rw [← ha0]
  have HA0 := Lib.hid ha0; clear ha0
  by_cases h2 : left < (a0 : Nat)
  · have R0 := Lib.hid (szR_no h2)
    go_enter Tryz.func51, Tryz.ntmps51
    go_wp2_with fail
    (refine (szHeaderS_any _ x.fHeads _ _ (r0.extA) K0.out (by omega) (by omega)).mono ?_); rw [show szL [slD 39 6 encHeader x.fHeads] = a0 from HA0.out.symm, R0.out]; rintro e w0 ⟨rfl, hb⟩; (obtain ⟨B0, c0, f0, l0⟩ := Box.afterA (k := w.heap.size) hb)
    have E0 : Ext w w0 := by (repeat (first | (with_reducible exact Ext.refl _) | (with_reducible assumption) | (with_reducible refine Ext.alloc ?_ _) | (with_reducible refine Ext.drew ?_) | (with_reducible refine Ext.drewN ?_ _) | ((with_reducible apply Ext.setCell); (case hp => first | omega | (simp; done) | (simp; omega))) | (with_reducible refine Ext.trans ?_ (by assumption))))
    clear hb
    go_wp2
    go_ret
    exact ⟨ret_int (szR_no (by omega)), by (repeat (first | (with_reducible exact Ext.refl _) | (with_reducible assumption) | (with_reducible refine Ext.alloc ?_ _) | (with_reducible refine Ext.drew ?_) | (with_reducible refine Ext.drewN ?_ _) | ((with_reducible apply Ext.setCell); (case hp => first | omega | (simp; done) | (simp; omega))) | (with_reducible refine Ext.trans ?_ (by assumption))))⟩
  · have R0 := Lib.hid (szR_yes h2)
    go_enter Tryz.func51, Tryz.ntmps51
    go_wp2_with fail
    (refine (szHeaderS_any _ x.fHeads _ _ (r0.extA) K0.out (by omega) (by omega)).mono ?_); rw [show szL [slD 39 6 encHeader x.fHeads] = a0 from HA0.out.symm, R0.out]; rintro e w0 ⟨rfl, hb⟩; (obtain ⟨B0, c0, f0, l0⟩ := Box.afterA (k := w.heap.size) hb)
    have E0 : Ext w w0 := by (repeat (first | (with_reducible exact Ext.refl _) | (with_reducible assumption) | (with_reducible refine Ext.alloc ?_ _) | (with_reducible refine Ext.drew ?_) | (with_reducible refine Ext.drewN ?_ _) | ((with_reducible apply Ext.setCell); (case hp => first | omega | (simp; done) | (simp; omega))) | (with_reducible refine Ext.trans ?_ (by assumption))))
    clear hb
    go_wp2
    go_ret
    exact ⟨ret_int ((szR_yes (by omega)).trans (by omega)), by (repeat (first | (with_reducible exact Ext.refl _) | (with_reducible assumption) | (with_reducible refine Ext.alloc ?_ _) | (with_reducible refine Ext.drew ?_) | (with_reducible refine Ext.drewN ?_ _) | ((with_reducible apply Ext.setCell); (case hp => first | omega | (simp; done) | (simp; omega))) | (with_reducible refine Ext.trans ?_ (by assumption))))⟩
set_option maxRecDepth 100000 in
set_option maxHeartbeats 4000000 in
theorem eqStore_any (x : GStore) (o1 : Option Addr) (c1 : Nat) (p1 : Option Addr) (q1 : Nat) (w : World) (h1 : Rds w (encStore x) [.slice o1 x.fHeads.length c1, .int .i64 x.fSynced]) (h2 : Rds w (encStore x) [.slice p1 x.fHeads.length q1, .int .i64 x.fSynced]) :
    Calls Tryz.prog 62 #[.agg #[.slice o1 x.fHeads.length c1, .int .i64 x.fSynced], .agg #[.slice p1 x.fHeads.length q1, .int .i64 x.fSynced]] w fun e w' => e = .returned (.bool true) ∧ Ext w w' := by
  have r0_0 : RL 39 6 encHeader w (.slice o1 x.fHeads.length c1) x.fHeads := h1.cut 0 1
  have r0_1 : RL 39 6 encHeader w (.slice p1 x.fHeads.length q1) x.fHeads := h2.cut 0 1
  clear h1 h2
  go_enter Tryz.func62, Tryz.ntmps62
  go_wp2_with fail
  (refine (eqHeaderS_any _ _ x.fHeads _ (r0_0.extA) (r0_1.extA)).mono ?_); rintro e w1 ⟨rfl, hb⟩; (obtain ⟨B0, c0, f0, l0⟩ := Box.afterA (k := w.heap.size) hb); (obtain ⟨B1, c1, f1, l1⟩ := Box.afterA (k := w.heap.size + 1) hb)
  have E1 : Ext w w1 := by (repeat (first | (with_reducible exact Ext.refl _) | (with_reducible assumption) | (with_reducible refine Ext.alloc ?_ _) | (with_reducible refine Ext.drew ?_) | (with_reducible refine Ext.drewN ?_ _) | ((with_reducible apply Ext.setCell); (case hp => first | omega | (simp; done) | (simp; omega))) | (with_reducible refine Ext.trans ?_ (by assumption))))
  clear hb
  go_wp2
  go_ret
  exact ⟨rfl, by (repeat (first | (with_reducible exact Ext.refl _) | (with_reducible assumption) | (with_reducible refine Ext.alloc ?_ _) | (with_reducible refine Ext.drew ?_) | (with_reducible refine Ext.drewN ?_ _) | ((with_reducible apply Ext.setCell); (case hp => first | omega | (simp; done) | (simp; omega))) | (with_reducible refine Ext.trans ?_ (by assumption))))⟩
end Go.Proofs.YtgcelmnmalfpcaaGreatDoor
namespace Go.Proofs.YtgcelmnmalfpcaaGreatDoor
set_option linter.unusedSimpArgs false
set_option linter.unusedVariables false
open Go.RowKit
def encPeer (x : GPeer) : List D := [.int x.fId, .bool x.fPinned, .int x.fUntil, .int x.fBans]
theorem dec_Peer : Dec [.int .i64, .bool, .int .i64, .int .i64] encPeer := by
  intro n W vs h
  match vs, h with
  | [_, _, _, _], ⟨k0, k1, k2, k3, _⟩ =>
    obtain ⟨a0, rfl, h0⟩ := cell_int k0
    obtain ⟨a1, rfl⟩ := cell_bool k1
    obtain ⟨a2, rfl, h2⟩ := cell_int k2
    obtain ⟨a3, rfl, h3⟩ := cell_int k3
    exact ⟨⟨a0, a1, a2, a3⟩, (Rds.int _ (Rds.bool _ (Rds.int _ (Rds.int _ Rds.nil)))), (okL_int h0 (okL_bool (okL_int h2 (okL_int h3 okL_nil))))⟩
theorem pv_Peer (x : GPeer) : toPVL (encPeer x) = pPeer x := by
  simp only [encPeer, pPeer, toPVL, toPV]
theorem pvs_Peer (e : TypeId) (xs : List GPeer) : toPV (slD e 4 encPeer xs) = .sl 4 (xs.map pPeer) := by rw [toPV_slD (enc := encPeer) (sz := 4) (fun _ => rfl)]; simp only [pv_Peer]
theorem cnt_Peer (x : GPeer) : cnt (encPeer x) ≤ 64 + 64 * szL (encPeer x) := by
  simp [encPeer, cnt, szL]
set_option maxRecDepth 100000 in
set_option maxHeartbeats 4000000 in
theorem toPeer_any (x : GPeer) (w : World) :
    Calls Tryz.prog 169 #[.agg #[.int .i64 x.fId, .bool x.fPinned, .int .i64 x.fUntil, .int .i64 x.fBans]] w fun e w' => e = .returned (.agg #[.int .i64 x.fId, .bool x.fPinned, .int .i64 x.fUntil, .int .i64 x.fBans]) ∧ Ext w w' := by
  go_enter Tryz.func169, Tryz.ntmps169
  go_wp2
  exact bodyPost_ret (v := .agg #[.int .i64 x.fId, .bool x.fPinned, .int .i64 x.fUntil, .int .i64 x.fBans]) (by simp [results, Tryz.results169, go_sem]) rfl ⟨rfl, by (repeat (first | (with_reducible exact Ext.refl _) | (with_reducible assumption) | (with_reducible refine Ext.alloc ?_ _) | (with_reducible refine Ext.drew ?_) | (with_reducible refine Ext.drewN ?_ _) | ((with_reducible apply Ext.setCell); (case hp => first | omega | (simp; done) | (simp; omega))) | (with_reducible refine Ext.trans ?_ (by assumption))))⟩
set_option maxRecDepth 100000 in
set_option maxHeartbeats 4000000 in
theorem eqPeer_any (x : GPeer) (w : World) (_h1 : Rds w (encPeer x) [.int .i64 x.fId, .bool x.fPinned, .int .i64 x.fUntil, .int .i64 x.fBans]) (_h2 : Rds w (encPeer x) [.int .i64 x.fId, .bool x.fPinned, .int .i64 x.fUntil, .int .i64 x.fBans]) :
    Calls Tryz.prog 170 #[.agg #[.int .i64 x.fId, .bool x.fPinned, .int .i64 x.fUntil, .int .i64 x.fBans], .agg #[.int .i64 x.fId, .bool x.fPinned, .int .i64 x.fUntil, .int .i64 x.fBans]] w fun e w' => e = .returned (.bool true) ∧ Ext w w' := by
  go_enter Tryz.func170, Tryz.ntmps170
  go_wp2
  go_ret
  exact ⟨rfl, by (repeat (first | (with_reducible exact Ext.refl _) | (with_reducible assumption) | (with_reducible refine Ext.alloc ?_ _) | (with_reducible refine Ext.drew ?_) | (with_reducible refine Ext.drewN ?_ _) | ((with_reducible apply Ext.setCell); (case hp => first | omega | (simp; done) | (simp; omega))) | (with_reducible refine Ext.trans ?_ (by assumption))))⟩
theorem infoPeerS : (Tryz.prog.info? 109).map (fun i => (i.zero, i.size, i.bytes)) = some (some (.agg #[.int .i64 0, .bool false, .int .i64 0, .int .i64 0]), 4, 32) := by kernel_rfl
set_option maxRecDepth 100000 in
set_option maxHeartbeats 4000000 in
theorem toPeerS_any (v : Value) (xs : List GPeer) (w : World) (h : RL 109 4 encPeer w v xs) (hz : szL [slD 109 4 encPeer xs] ≤ 1048576) :
    Calls Tryz.prog 126 #[v] w fun e w' => ∃ (p : Option Addr) (q : Nat), e = .returned (.slice p xs.length q) ∧ Obj w' w.heap.size w'.heap.size [slD 109 4 encPeer xs] [.slice p xs.length q] ∧ Ext w w' := by
  obtain ⟨i0, hi, hz0, hz1, hz2⟩ := info_parts infoPeerS
  have hzero : ∀ w, Ows w [.int 0, .bool false, .int 0, .int 0] #[.int .i64 0, .bool false, .int .i64 0, .int .i64 0].toList [] := fun w => (Ows.int _ (Ows.bool _ (Ows.int _ (Ows.int _ Ows.nil))))
  have HZ := Lib.hid hzero; clear hzero
  have hn : xs.length ≤ 1048576 := by simp only [szL, slD] at hz; omega
  rcases RS.cases h with ⟨hn0, _, o1, c1, rfl⟩ | ⟨b1, o1, c1, rfl, hp, _, hm, hx⟩
  · obtain rfl := List.eq_nil_of_length_eq_zero hn0
    clear h hn0 hz hn
    go_enter Tryz.func126, Tryz.ntmps126
    go_wp2_with (at_make; refine wpList_make_full _ rfl (.tmp 6) (.tmp 6) 46 rfl w.heap.size 109 i0 _ 4 Tryz.underlying46 hi hz0 hz1 .i64 .i64 _ _ 0 rfl rfl rfl rfl (by omega) (by omega) (Nat.le_refl _) ?_; intro w1 hown hgrow)
    have hE := Ext.of_grownBy hgrow
    have hO := Lib.hid (Obj.made (n := 0) HZ.out rfl (by decide) hown)
    clear hgrow hown
    refine wp_loop_rounds 1 ?_
    rw [rounds_succ]
    go_wp2
    go_ret
    exact ⟨_, _, rfl, hO.out, hE⟩
  · have HSZ := Lib.hid hz
    clear h hm hz
    go_enter Tryz.func126, Tryz.ntmps126
    go_wp2_with (at_make; refine wpList_make_full _ rfl (.tmp 6) (.tmp 6) 46 rfl w.heap.size 109 i0 _ 4 Tryz.underlying46 hi hz0 hz1 .i64 .i64 _ _ xs.length rfl rfl rfl rfl (by rw [hz2]; omega) (by unfold maxLen; omega) (Nat.le_refl _) ?_; intro w1 hown hgrow)
    have hE := Ext.of_grownBy hgrow
    have hO : Obj w1 w.heap.size w1.heap.size [.sl 109 4 xs.length (fillE encPeer [.int 0, .bool false, .int 0, .int 0] xs 0)] [.slice (some ⟨w.heap.size, 0, none⟩) xs.length xs.length] := by rw [fillE_zero]; exact Obj.made HZ.out rfl (by decide) hown
    clear hgrow hown
    go_loopg [4] xs.length (fun g i wr => ∃ k : Nat, k ≤ xs.length ∧ g = xs.length - k ∧ i = .int .i64 k ∧ Ext w wr ∧ Obj wr w.heap.size wr.heap.size [.sl 109 4 xs.length (fillE encPeer [.int 0, .bool false, .int 0, .int 0] xs k)] [.slice (some ⟨w.heap.size, 0, none⟩) xs.length xs.length])
    case atStart => exact ⟨0, by omega, by omega, rfl, hE, hO⟩
    case round =>
      clear hE hO
      obtain ⟨k, hk, hg, rfl, hE, hO⟩ := hrel
      have HG := Lib.hid hg; clear hg
      by_cases hlt : k < xs.length
      · obtain ⟨x, hxk⟩ : ∃ x, xs[k]? = some x := ⟨_, List.getElem?_eq_getElem hlt⟩
        have e1 := (RAt.elem (enc := encPeer) (sz := 4) (fun _ => rfl) hx hxk).ext hE
        have HX := Lib.hid hxk
        have HM := Lib.hid (List.mem_of_getElem? hxk)
        clear hxk
        have q0 : wr.cell? ⟨b1, o1 + k * 4, none⟩ = some (.int .i64 x.fId) := e1.int (j := 0) rfl
        have q1 : wr.cell? ⟨b1, o1 + k * 4 + 1, none⟩ = some (.bool x.fPinned) := e1.bool (j := 1) rfl
        have q2 : wr.cell? ⟨b1, o1 + k * 4 + 2, none⟩ = some (.int .i64 x.fUntil) := e1.int (j := 2) rfl
        have q3 : wr.cell? ⟨b1, o1 + k * 4 + 3, none⟩ = some (.int .i64 x.fBans) := e1.int (j := 3) rfl
        clear e1
        go_wp2_with fail
        (refine (toPeer_any x _).mono ?_); rintro e w2 ⟨rfl, hb⟩
        have hR : Obj w2 w2.heap.size w2.heap.size (encPeer x) [.int .i64 x.fId, .bool x.fPinned, .int .i64 x.fUntil, .int .i64 x.fBans] := (Obj.int (Obj.bool (Obj.int (Obj.int obj_nil))))
        have hO2 := hO.ext hb
        have hsz := hb.size
        obtain ⟨F, f1, f2, f3⟩ := hO2
        obtain ⟨v0, x0⟩ := f1.cellAt (o := k * 4 + 0) f2 (by rw [RS.len f1.read]; omega)
        have y0 := f1.frozenAt f2 (k * 4 + 0)
        obtain ⟨v1, x1⟩ := f1.cellAt (o := k * 4 + 1) f2 (by rw [RS.len f1.read]; omega)
        have y1 := f1.frozenAt f2 (k * 4 + 1)
        obtain ⟨v2, x2⟩ := f1.cellAt (o := k * 4 + 2) f2 (by rw [RS.len f1.read]; omega)
        have y2 := f1.frozenAt f2 (k * 4 + 2)
        obtain ⟨v3, x3⟩ := f1.cellAt (o := k * 4 + 3) f2 (by rw [RS.len f1.read]; omega)
        have y3 := f1.frozenAt f2 (k * 4 + 3)
        simp only [Nat.add_zero] at x0 y0
        have hO3 := Lib.hid (Obj.fill (enc := encPeer) (z := [.int 0, .bool false, .int 0, .int 0]) (sz := 4) (hi := w2.heap.size) (fun _ => rfl) rfl ⟨F, f1, f2, f3⟩ HX.out hR (by omega) (by omega))
        clear f1 f2 f3 hR
        go_wp2
        go_roundg (xs.length - (k + 1))
        case measure => rw [HG.out]; omega
        case rel => exact ⟨k + 1, by omega, rfl, by go_num, by (repeat (first | (with_reducible exact Ext.refl _) | (with_reducible assumption) | (with_reducible refine Ext.alloc ?_ _) | (with_reducible refine Ext.drew ?_) | (with_reducible refine Ext.drewN ?_ _) | ((with_reducible apply Ext.setCell); (case hp => first | omega | (simp; done) | (simp; omega))) | (with_reducible refine Ext.trans ?_ (by assumption)))), Obj.mono (by have h := hO3.out; (try simp only [Nat.mul_one] at h); exact h) (Nat.le_refl _) (by (first | omega | (simp; done) | (simp; omega)))⟩
      · obtain rfl : k = xs.length := by omega
        rw [fillE_end] at hO
        go_wp2
        go_ret
        exact ⟨_, _, rfl, hO, hE⟩
set_option maxRecDepth 100000 in
set_option maxHeartbeats 4000000 in
theorem szPeerS_any (v : Value) (xs : List GPeer) (left : Int) (w : World) (h : RL 109 4 encPeer w v xs) (_hok : okL [slD 109 4 encPeer xs]) (h0 : 0 ≤ left) (h1 : left ≤ 1048576) :
    Calls Tryz.prog 115 #[v, .int .i64 left] w fun e w' => e = .returned (.int .i64 (szR left (szL [slD 109 4 encPeer xs]))) ∧ Ext w w' := by
  have hm := RS.bd h
  replace hm : xs.length ≤ 9223372036854775807 := by unfold maxLen at hm; omega
  have hs : szL [slD 109 4 encPeer xs] = xs.length := by
    have : szL (xs.flatMap encPeer) = 0 := szL_zero (fun x => by simp [encPeer, szL]) xs
    simp [slD, szL, this]
  obtain ⟨o1, c1, rfl⟩ := RS.val h
  rw [hs]
  clear h hs
  go_enter Tryz.func115, Tryz.ntmps115
  go_wp2
  all_goals
    go_ret
    exact ⟨ret_int (by first | exact szR_no (by omega) | exact szR_yes (by omega)), by (repeat (first | (with_reducible exact Ext.refl _) | (with_reducible assumption) | (with_reducible refine Ext.alloc ?_ _) | (with_reducible refine Ext.drew ?_) | (with_reducible refine Ext.drewN ?_ _) | ((with_reducible apply Ext.setCell); (case hp => first | omega | (simp; done) | (simp; omega))) | (with_reducible refine Ext.trans ?_ (by assumption))))⟩
set_option maxRecDepth 100000 in
set_option maxHeartbeats 4000000 in
theorem eqPeerS_any (v1 v2 : Value) (xs : List GPeer) (w : World) (h1 : RL 109 4 encPeer w v1 xs) (h2 : RL 109 4 encPeer w v2 xs) :
    Calls Tryz.prog 135 #[v1, v2] w fun e w' => e = .returned (.bool true) ∧ Ext w w' := by
  rcases RS.cases h1 with ⟨hn, _, o1, c1, rfl⟩ | ⟨b1, o1, c1, rfl, hp, _, hm, hx⟩
  · rcases RS.cases h2 with ⟨_, _, o2, c2, rfl⟩ | ⟨b2, o2, c2, rfl, hp, _⟩
    · clear h1 h2 hn
      go_enter Tryz.func135, Tryz.ntmps135
      go_wp2
      refine wp_loop_rounds 1 ?_
      rw [rounds_succ]
      go_wp2
      go_ret
      exact ⟨rfl, by (repeat (first | (with_reducible exact Ext.refl _) | (with_reducible assumption) | (with_reducible refine Ext.alloc ?_ _) | (with_reducible refine Ext.drew ?_) | (with_reducible refine Ext.drewN ?_ _) | ((with_reducible apply Ext.setCell); (case hp => first | omega | (simp; done) | (simp; omega))) | (with_reducible refine Ext.trans ?_ (by assumption))))⟩
    · omega
  · rcases RS.cases h2 with ⟨hn, _⟩ | ⟨b2, o2, c2, rfl, _, _, _, hy⟩
    · omega
    · have hn : xs.length ≤ 9223372036854775807 := by unfold maxLen at hm; omega
      clear h1 h2 hp hm
      go_enter Tryz.func135, Tryz.ntmps135
      go_wp2
      go_loopg [5] xs.length (fun g i wr => ∃ k : Nat, k ≤ xs.length ∧ g = xs.length - k ∧ i = .int .i64 k ∧ Ext w wr)
      case atStart => exact ⟨0, by omega, by omega, rfl, Ext.refl _⟩
      case round =>
        obtain ⟨k, hk, hg, rfl, hE⟩ := hrel
        have HG := Lib.hid hg; clear hg
        by_cases hlt : k < xs.length
        · obtain ⟨x, hxk⟩ : ∃ x, xs[k]? = some x := ⟨_, List.getElem?_eq_getElem hlt⟩
          have e1 := (RAt.elem (enc := encPeer) (sz := 4) (fun _ => rfl) hx hxk).ext hE
          have e2 := (RAt.elem (enc := encPeer) (sz := 4) (fun _ => rfl) hy hxk).ext hE
          clear hxk
          have i0 : (0 : Int) ≤ (k : Int) := by omega
          have i1 : (k : Int) < (xs.length : Int) := by omega
          have q0 : wr.cell? ⟨b1, o1 + k * 4, none⟩ = some (.int .i64 x.fId) := e1.int (j := 0) rfl
          have q1 : wr.cell? ⟨b1, o1 + k * 4 + 1, none⟩ = some (.bool x.fPinned) := e1.bool (j := 1) rfl
          have q2 : wr.cell? ⟨b1, o1 + k * 4 + 2, none⟩ = some (.int .i64 x.fUntil) := e1.int (j := 2) rfl
          have q3 : wr.cell? ⟨b1, o1 + k * 4 + 3, none⟩ = some (.int .i64 x.fBans) := e1.int (j := 3) rfl
          have m0 : wr.cell? ⟨b2, o2 + k * 4, none⟩ = some (.int .i64 x.fId) := e2.int (j := 0) rfl
          have m1 : wr.cell? ⟨b2, o2 + k * 4 + 1, none⟩ = some (.bool x.fPinned) := e2.bool (j := 1) rfl
          have m2 : wr.cell? ⟨b2, o2 + k * 4 + 2, none⟩ = some (.int .i64 x.fUntil) := e2.int (j := 2) rfl
          have m3 : wr.cell? ⟨b2, o2 + k * 4 + 3, none⟩ = some (.int .i64 x.fBans) := e2.int (j := 3) rfl
          have d1 : Rds wr (encPeer x) [.int .i64 x.fId, .bool x.fPinned, .int .i64 x.fUntil, .int .i64 x.fBans] := (Rds.int _ (Rds.bool _ (Rds.int _ (Rds.int _ Rds.nil))))
          have d2 : Rds wr (encPeer x) [.int .i64 x.fId, .bool x.fPinned, .int .i64 x.fUntil, .int .i64 x.fBans] := (Rds.int _ (Rds.bool _ (Rds.int _ (Rds.int _ Rds.nil))))
          clear e1 e2
          go_wp2_with fail
          go_region_held3 (fun w' => w'.cell? ⟨b1, o1 + k * 4, none⟩ = some (.int .i64 x.fId) ∧ w'.cell? ⟨b1, o1 + k * 4 + 1, none⟩ = some (.bool x.fPinned) ∧ w'.cell? ⟨b1, o1 + k * 4 + 2, none⟩ = some (.int .i64 x.fUntil) ∧ w'.cell? ⟨b1, o1 + k * 4 + 3, none⟩ = some (.int .i64 x.fBans) ∧ w'.cell? ⟨b2, o2 + k * 4, none⟩ = some (.int .i64 x.fId) ∧ w'.cell? ⟨b2, o2 + k * 4 + 1, none⟩ = some (.bool x.fPinned) ∧ w'.cell? ⟨b2, o2 + k * 4 + 2, none⟩ = some (.int .i64 x.fUntil) ∧ w'.cell? ⟨b2, o2 + k * 4 + 3, none⟩ = some (.int .i64 x.fBans)) ((first | go_keep | ((try dsimp only); (try go_split_ands); (repeat' apply And.intro) <;> exact hb.cellSome (by assumption))))
            ((go_at_call 170; refine (eqPeer_any x _ (d1.extA) (d2.extA)).mono ?_; rintro e w1 ⟨rfl, hb⟩))
          go_wp2
          go_roundg (xs.length - (k + 1))
          case measure => rw [HG.out]; omega
          case rel => exact ⟨k + 1, by omega, rfl, by go_num, by (repeat (first | (with_reducible exact Ext.refl _) | (with_reducible assumption) | (with_reducible refine Ext.alloc ?_ _) | (with_reducible refine Ext.drew ?_) | (with_reducible refine Ext.drewN ?_ _) | ((with_reducible apply Ext.setCell); (case hp => first | omega | (simp; done) | (simp; omega))) | (with_reducible refine Ext.trans ?_ (by assumption))))⟩
        · go_wp2
          go_ret
          exact ⟨rfl, by (repeat (first | (with_reducible exact Ext.refl _) | (with_reducible assumption) | (with_reducible refine Ext.alloc ?_ _) | (with_reducible refine Ext.drew ?_) | (with_reducible refine Ext.drewN ?_ _) | ((with_reducible apply Ext.setCell); (case hp => first | omega | (simp; done) | (simp; omega))) | (with_reducible refine Ext.trans ?_ (by assumption))))⟩
end Go.Proofs.YtgcelmnmalfpcaaGreatDoor
namespace Go.Proofs.YtgcelmnmalfpcaaGreatDoor
set_option linter.unusedSimpArgs false
set_option linter.unusedVariables false
open Go.RowKit
def encTable (x : GTable) : List D := [slD 109 4 encPeer x.fPeers, .int x.fTurn]
set_option maxRecDepth 100000 in
set_option maxHeartbeats 4000000 in
theorem toTable_any (x : GTable) (o1 : Option Addr) (c1 : Nat) (w : World) (h : Rds w (encTable x) [.slice o1 x.fPeers.length c1, .int .i64 x.fTurn]) (hz : szL (encTable x) ≤ 1048576) :
    Calls Tryz.prog 57 #[.agg #[.slice o1 x.fPeers.length c1, .int .i64 x.fTurn]] w fun e w' => ∃ (p1 : Option Addr) (q1 : Nat), e = .returned (.agg #[.slice p1 x.fPeers.length q1, .int .i64 x.fTurn]) ∧ Obj w' w.heap.size w'.heap.size (encTable x) [.slice p1 x.fPeers.length q1, .int .i64 x.fTurn] ∧ Ext w w' := by
  have r0 : RL 109 4 encPeer w (.slice o1 x.fPeers.length c1) x.fPeers := h.cut 0 1
  have z0 : szL [slD 109 4 encPeer x.fPeers] ≤ 1048576 := Nat.le_trans (szL_cut (encTable x) 0 1) hz
  have Z0 := Lib.hid z0; clear z0
  clear h hz
  go_enter Tryz.func57, Tryz.ntmps57
  go_wp2_with fail
  (refine (toPeerS_any _ x.fPeers _ (r0.extA) Z0.out).mono ?_); rintro e w1 ⟨p1, q1, rfl, O, hb⟩; (obtain ⟨B0, c0, f0, l0⟩ := Box.afterA (k := w.heap.size) hb); (obtain ⟨B1, c1, f1, l1⟩ := Box.afterA (k := w.heap.size + 1) hb); (obtain ⟨B2, c2, f2, l2⟩ := Box.afterA (k := w.heap.size + 2) hb)
  have hz := hb.size; simp at hz
  have A : Obj w1 (w.heap.size + 3) (w.heap.size + 3) [] [] := obj_nil
  replace A : Obj w1 (w.heap.size + 3) w1.heap.size [slD 109 4 encPeer x.fPeers] [.slice p1 x.fPeers.length q1] := Obj.more A O (by (first | omega | (simp; done) | (simp; omega))) (by (first | omega | (simp; done) | (simp; omega))) (by (first | omega | (simp; done) | (simp; omega)))
  have E1 : Ext w w1 := by (repeat (first | (with_reducible exact Ext.refl _) | (with_reducible assumption) | (with_reducible refine Ext.alloc ?_ _) | (with_reducible refine Ext.drew ?_) | (with_reducible refine Ext.drewN ?_ _) | ((with_reducible apply Ext.setCell); (case hp => first | omega | (simp; done) | (simp; omega))) | (with_reducible refine Ext.trans ?_ (by assumption))))
  clear hb O hz
  replace A : Obj w1 (w.heap.size + 3) w1.heap.size [slD 109 4 encPeer x.fPeers, .int x.fTurn] [.slice p1 x.fPeers.length q1, .int .i64 x.fTurn] := Obj.more A (.int obj_nil : Obj _ w1.heap.size w1.heap.size _ _) (Nat.le_refl _) (Nat.le_refl _) (by (first | omega | (simp; done) | (simp; omega)))
  have AS := A.read
  have HA := Lib.hid A; clear A AS
  go_wp2
  exact bodyPost_ret (v := .agg #[.slice p1 x.fPeers.length q1, .int .i64 x.fTurn]) (by simp [results, Tryz.results57, go_sem, c1]) rfl ⟨_, _, rfl, Obj.mono (lo := w.heap.size + 3) (hi := w1.heap.size) (show Obj _ _ _ [slD 109 4 encPeer x.fPeers, .int x.fTurn] _ from by have A := HA.out; (repeat (first | (with_reducible assumption) | (with_reducible apply Obj.alloc) | (with_reducible apply Obj.drew) | (with_reducible apply Obj.drewN) | ((with_reducible apply Obj.set); (case hk => first | omega | (simp; done) | (simp; omega) | (left; simp; omega) | (right; simp; omega))) | (with_reducible refine Obj.ext ?_ (by assumption))))) (by (first | omega | (simp; done) | (simp; omega))) (by (first | omega | (simp; done) | (simp; omega))), by (repeat (first | (with_reducible exact Ext.refl _) | (with_reducible assumption) | (with_reducible refine Ext.alloc ?_ _) | (with_reducible refine Ext.drew ?_) | (with_reducible refine Ext.drewN ?_ _) | ((with_reducible apply Ext.setCell); (case hp => first | omega | (simp; done) | (simp; omega))) | (with_reducible refine Ext.trans ?_ (by assumption))))⟩
set_option maxRecDepth 100000 in
set_option maxHeartbeats 4000000 in
theorem szTable_any (x : GTable) (o1 : Option Addr) (c1 : Nat) (left : Int) (w : World) (h : Rds w (encTable x) [.slice o1 x.fPeers.length c1, .int .i64 x.fTurn]) (hok : okL (encTable x)) (h0 : 0 ≤ left) (h1 : left ≤ 1048576) :
    Calls Tryz.prog 52 #[.agg #[.slice o1 x.fPeers.length c1, .int .i64 x.fTurn], .int .i64 left] w fun e w' => e = .returned (.int .i64 (szR left (szL (encTable x)))) ∧ Ext w w' := by
  have r0 : RL 109 4 encPeer w (.slice o1 x.fPeers.length c1) x.fPeers := h.cut 0 1
  have k0 : okL [slD 109 4 encPeer x.fPeers] := okL_cut (ds := encTable x) 0 1 hok
  have K0 := Lib.hid k0; clear k0
  have hT : szL (encTable x) = szL [slD 109 4 encPeer x.fPeers] := by simp [encTable, szL, slD]; try omega
  rw [hT]
  clear hT hok h
  obtain ⟨a0, ha0⟩ : ∃ a, a = szL [slD 109 4 encPeer x.fPeers] := ⟨_, rfl⟩
  rw [← ha0]
  have HA0 := Lib.hid ha0; clear ha0
  by_cases h2 : left < (a0 : Nat)
  · have R0 := Lib.hid (szR_no h2)
    go_enter Tryz.func52, Tryz.ntmps52
    go_wp2_with fail
    (refine (szPeerS_any _ x.fPeers _ _ (r0.extA) K0.out (by omega) (by omega)).mono ?_); rw [show szL [slD 109 4 encPeer x.fPeers] = a0 from HA0.out.symm, R0.out]; rintro e w0 ⟨rfl, hb⟩; (obtain ⟨B0, c0, f0, l0⟩ := Box.afterA (k := w.heap.size) hb)
    have E0 : Ext w w0 := by (repeat (first | (with_reducible exact Ext.refl _) | (with_reducible assumption) | (with_reducible refine Ext.alloc ?_ _) | (with_reducible refine Ext.drew ?_) | (with_reducible refine Ext.drewN ?_ _) | ((with_reducible apply Ext.setCell); (case hp => first | omega | (simp; done) | (simp; omega))) | (with_reducible refine Ext.trans ?_ (by assumption))))
    clear hb
    go_wp2
    go_ret
    exact ⟨ret_int (szR_no (by omega)), by (repeat (first | (with_reducible exact Ext.refl _) | (with_reducible assumption) | (with_reducible refine Ext.alloc ?_ _) | (with_reducible refine Ext.drew ?_) | (with_reducible refine Ext.drewN ?_ _) | ((with_reducible apply Ext.setCell); (case hp => first | omega | (simp; done) | (simp; omega))) | (with_reducible refine Ext.trans ?_ (by assumption))))⟩
  · have R0 := Lib.hid (szR_yes h2)
    go_enter Tryz.func52, Tryz.ntmps52
    go_wp2_with fail
    (refine (szPeerS_any _ x.fPeers _ _ (r0.extA) K0.out (by omega) (by omega)).mono ?_); rw [show szL [slD 109 4 encPeer x.fPeers] = a0 from HA0.out.symm, R0.out]; rintro e w0 ⟨rfl, hb⟩; (obtain ⟨B0, c0, f0, l0⟩ := Box.afterA (k := w.heap.size) hb)
    have E0 : Ext w w0 := by (repeat (first | (with_reducible exact Ext.refl _) | (with_reducible assumption) | (with_reducible refine Ext.alloc ?_ _) | (with_reducible refine Ext.drew ?_) | (with_reducible refine Ext.drewN ?_ _) | ((with_reducible apply Ext.setCell); (case hp => first | omega | (simp; done) | (simp; omega))) | (with_reducible refine Ext.trans ?_ (by assumption))))
    clear hb
    go_wp2
    go_ret
    exact ⟨ret_int ((szR_yes (by omega)).trans (by omega)), by (repeat (first | (with_reducible exact Ext.refl _) | (with_reducible assumption) | (with_reducible refine Ext.alloc ?_ _) | (with_reducible refine Ext.drew ?_) | (with_reducible refine Ext.drewN ?_ _) | ((with_reducible apply Ext.setCell); (case hp => first | omega | (simp; done) | (simp; omega))) | (with_reducible refine Ext.trans ?_ (by assumption))))⟩
set_option maxRecDepth 100000 in
set_option maxHeartbeats 4000000 in
theorem eqTable_any (x : GTable) (o1 : Option Addr) (c1 : Nat) (p1 : Option Addr) (q1 : Nat) (w : World) (h1 : Rds w (encTable x) [.slice o1 x.fPeers.length c1, .int .i64 x.fTurn]) (h2 : Rds w (encTable x) [.slice p1 x.fPeers.length q1, .int .i64 x.fTurn]) :
    Calls Tryz.prog 63 #[.agg #[.slice o1 x.fPeers.length c1, .int .i64 x.fTurn], .agg #[.slice p1 x.fPeers.length q1, .int .i64 x.fTurn]] w fun e w' => e = .returned (.bool true) ∧ Ext w w' := by
  have r0_0 : RL 109 4 encPeer w (.slice o1 x.fPeers.length c1) x.fPeers := h1.cut 0 1
  have r0_1 : RL 109 4 encPeer w (.slice p1 x.fPeers.length q1) x.fPeers := h2.cut 0 1
  clear h1 h2
  go_enter Tryz.func63, Tryz.ntmps63
  go_wp2_with fail
  (refine (eqPeerS_any _ _ x.fPeers _ (r0_0.extA) (r0_1.extA)).mono ?_); rintro e w1 ⟨rfl, hb⟩; (obtain ⟨B0, c0, f0, l0⟩ := Box.afterA (k := w.heap.size) hb); (obtain ⟨B1, c1, f1, l1⟩ := Box.afterA (k := w.heap.size + 1) hb)
  have E1 : Ext w w1 := by (repeat (first | (with_reducible exact Ext.refl _) | (with_reducible assumption) | (with_reducible refine Ext.alloc ?_ _) | (with_reducible refine Ext.drew ?_) | (with_reducible refine Ext.drewN ?_ _) | ((with_reducible apply Ext.setCell); (case hp => first | omega | (simp; done) | (simp; omega))) | (with_reducible refine Ext.trans ?_ (by assumption))))
  clear hb
  go_wp2
  go_ret
  exact ⟨rfl, by (repeat (first | (with_reducible exact Ext.refl _) | (with_reducible assumption) | (with_reducible refine Ext.alloc ?_ _) | (with_reducible refine Ext.drew ?_) | (with_reducible refine Ext.drewN ?_ _) | ((with_reducible apply Ext.setCell); (case hp => first | omega | (simp; done) | (simp; omega))) | (with_reducible refine Ext.trans ?_ (by assumption))))⟩
end Go.Proofs.YtgcelmnmalfpcaaGreatDoor
namespace Go.Proofs.YtgcelmnmalfpcaaGreatDoor
set_option linter.unusedSimpArgs false
set_option linter.unusedVariables false
open Go.RowKit
def encLight (x : GLight) : List D := [.int x.fTrust.fPeriod, .int x.fTrust.fSlack, .int x.fState, .int x.fAnchor.fHead.fHeight, .int x.fAnchor.fHead.fTime, .str x.fAnchor.fHead.fLast, .str x.fAnchor.fHead.fVals, .str x.fAnchor.fHead.fNext, .str x.fAnchor.fHead.fData, slD 138 2 encVal x.fAnchor.fNext, slD 39 6 encHeader x.fStore.fHeads, .int x.fStore.fSynced, slD 109 4 encPeer x.fPeers.fPeers, .int x.fPeers.fTurn, .int x.fNow]
theorem dec_Light : Dec [.int .i64, .int .i64, .int .i64, .int .i64, .int .i64, .str, .str, .str, .str, .sl [.int .i64, .int .i64], .sl [.int .i64, .int .i64, .str, .str, .str, .str], .int .i64, .sl [.int .i64, .bool, .int .i64, .int .i64], .int .i64, .int .i64] encLight := by
  intro n W vs h
  match vs, h with
  | [_, _, _, _, _, _, _, _, _, _, _, _, _, _, _], ⟨k0, k1, k2, k3, k4, k5, k6, k7, k8, k9, k10, k11, k12, k13, k14, _⟩ =>
    obtain ⟨a0, rfl, h0⟩ := cell_int k0
    obtain ⟨a1, rfl, h1⟩ := cell_int k1
    obtain ⟨a2, rfl, h2⟩ := cell_int k2
    obtain ⟨a3, rfl, h3⟩ := cell_int k3
    obtain ⟨a4, rfl, h4⟩ := cell_int k4
    obtain ⟨a5, rfl, h5⟩ := cell_str k5
    obtain ⟨a6, rfl, h6⟩ := cell_str k6
    obtain ⟨a7, rfl, h7⟩ := cell_str k7
    obtain ⟨a8, rfl, h8⟩ := cell_str k8
    obtain ⟨a9, r9, h9⟩ := dec_sl 138 dec_Val (fun _ => rfl) (by decide) k9
    obtain ⟨a10, r10, h10⟩ := dec_sl 39 dec_Header (fun _ => rfl) (by decide) k10
    obtain ⟨a11, rfl, h11⟩ := cell_int k11
    obtain ⟨a12, r12, h12⟩ := dec_sl 109 dec_Peer (fun _ => rfl) (by decide) k12
    obtain ⟨a13, rfl, h13⟩ := cell_int k13
    obtain ⟨a14, rfl, h14⟩ := cell_int k14
    exact ⟨⟨⟨a0, a1⟩, a2, ⟨⟨a3, a4, a5, a6, a7, a8⟩, a9⟩, ⟨a10, a11⟩, ⟨a12, a13⟩, a14⟩, (Rds.int _ (Rds.int _ (Rds.int _ (Rds.int _ (Rds.int _ (Rds.str _ (Rds.str _ (Rds.str _ (Rds.str _ (rds_slD.2 ⟨_, _, rfl, r9, (rds_slD.2 ⟨_, _, rfl, r10, (Rds.int _ (rds_slD.2 ⟨_, _, rfl, r12, (Rds.int _ (Rds.int _ Rds.nil))⟩))⟩)⟩)))))))))), (okL_int h0 (okL_int h1 (okL_int h2 (okL_int h3 (okL_int h4 (okL_str h5 (okL_str h6 (okL_str h7 (okL_str h8 (okL_cons h9 (okL_cons h10 (okL_int h11 (okL_cons h12 (okL_int h13 (okL_int h14 okL_nil)))))))))))))))⟩
theorem pv_Light (x : GLight) : toPVL (encLight x) = pLight x := by
  simp only [encLight, pLight, toPVL, toPV, pvs_Header, pvs_Peer, pvs_Val]
theorem cnt_Light (x : GLight) : cnt (encLight x) ≤ 64 + 64 * szL (encLight x) := by
  have h0 := cnt_list cnt_Val x.fAnchor.fNext
  have h1 := cnt_list cnt_Header x.fStore.fHeads
  have h2 := cnt_list cnt_Peer x.fPeers.fPeers
  simp [encLight, cnt, szL, slD]
  omega
set_option maxRecDepth 100000 in
set_option maxHeartbeats 4000000 in
theorem toLight_any (x : GLight) (o1 o2 o3 : Option Addr) (c1 c2 c3 : Nat) (w : World) (h : Rds w (encLight x) [.int .i64 x.fTrust.fPeriod, .int .i64 x.fTrust.fSlack, .int .i64 x.fState, .int .i64 x.fAnchor.fHead.fHeight, .int .i64 x.fAnchor.fHead.fTime, .string x.fAnchor.fHead.fLast, .string x.fAnchor.fHead.fVals, .string x.fAnchor.fHead.fNext, .string x.fAnchor.fHead.fData, .slice o1 x.fAnchor.fNext.length c1, .slice o2 x.fStore.fHeads.length c2, .int .i64 x.fStore.fSynced, .slice o3 x.fPeers.fPeers.length c3, .int .i64 x.fPeers.fTurn, .int .i64 x.fNow]) (hz : szL (encLight x) ≤ 1048576) :
    Calls Tryz.prog 14 #[.agg #[.int .i64 x.fTrust.fPeriod, .int .i64 x.fTrust.fSlack, .int .i64 x.fState, .int .i64 x.fAnchor.fHead.fHeight, .int .i64 x.fAnchor.fHead.fTime, .string x.fAnchor.fHead.fLast, .string x.fAnchor.fHead.fVals, .string x.fAnchor.fHead.fNext, .string x.fAnchor.fHead.fData, .slice o1 x.fAnchor.fNext.length c1, .slice o2 x.fStore.fHeads.length c2, .int .i64 x.fStore.fSynced, .slice o3 x.fPeers.fPeers.length c3, .int .i64 x.fPeers.fTurn, .int .i64 x.fNow]] w fun e w' => ∃ (p1 p2 p3 : Option Addr) (q1 q2 q3 : Nat), e = .returned (.agg #[.int .i64 x.fTrust.fPeriod, .int .i64 x.fTrust.fSlack, .int .i64 x.fState, .int .i64 x.fAnchor.fHead.fHeight, .int .i64 x.fAnchor.fHead.fTime, .string x.fAnchor.fHead.fLast, .string x.fAnchor.fHead.fVals, .string x.fAnchor.fHead.fNext, .string x.fAnchor.fHead.fData, .slice p1 x.fAnchor.fNext.length q1, .slice p2 x.fStore.fHeads.length q2, .int .i64 x.fStore.fSynced, .slice p3 x.fPeers.fPeers.length q3, .int .i64 x.fPeers.fTurn, .int .i64 x.fNow]) ∧ Obj w' w.heap.size w'.heap.size (encLight x) [.int .i64 x.fTrust.fPeriod, .int .i64 x.fTrust.fSlack, .int .i64 x.fState, .int .i64 x.fAnchor.fHead.fHeight, .int .i64 x.fAnchor.fHead.fTime, .string x.fAnchor.fHead.fLast, .string x.fAnchor.fHead.fVals, .string x.fAnchor.fHead.fNext, .string x.fAnchor.fHead.fData, .slice p1 x.fAnchor.fNext.length q1, .slice p2 x.fStore.fHeads.length q2, .int .i64 x.fStore.fSynced, .slice p3 x.fPeers.fPeers.length q3, .int .i64 x.fPeers.fTurn, .int .i64 x.fNow] ∧ Ext w w' := by
  have r2 : Rds w (encAnchor x.fAnchor) [.int .i64 x.fAnchor.fHead.fHeight, .int .i64 x.fAnchor.fHead.fTime, .string x.fAnchor.fHead.fLast, .string x.fAnchor.fHead.fVals, .string x.fAnchor.fHead.fNext, .string x.fAnchor.fHead.fData, .slice o1 x.fAnchor.fNext.length c1] := h.cut 3 7
  have z2 : szL (encAnchor x.fAnchor) ≤ 1048576 := Nat.le_trans (szL_cut (encLight x) 3 7) hz
  have Z2 := Lib.hid z2; clear z2
  have r3 : Rds w (encStore x.fStore) [.slice o2 x.fStore.fHeads.length c2, .int .i64 x.fStore.fSynced] := h.cut 10 2
  have z3 : szL (encStore x.fStore) ≤ 1048576 := Nat.le_trans (szL_cut (encLight x) 10 2) hz
  have Z3 := Lib.hid z3; clear z3
  have r4 : Rds w (encTable x.fPeers) [.slice o3 x.fPeers.fPeers.length c3, .int .i64 x.fPeers.fTurn] := h.cut 12 2
  have z4 : szL (encTable x.fPeers) ≤ 1048576 := Nat.le_trans (szL_cut (encLight x) 12 2) hz
  have Z4 := Lib.hid z4; clear z4
  clear h hz
  go_enter Tryz.func14, Tryz.ntmps14
  go_wp2_with fail
  (refine (toTrust_any x.fTrust _).mono ?_); rintro e w1 ⟨rfl, hb⟩; (obtain ⟨B0, c0, f0, l0⟩ := Box.afterA (k := w.heap.size) hb); (obtain ⟨B1, c1, f1, l1⟩ := Box.afterA (k := w.heap.size + 1) hb); (obtain ⟨B2, c2, f2, l2⟩ := Box.afterA (k := w.heap.size + 2) hb)
  have hz := hb.size; simp at hz
  have A : Obj w1 (w.heap.size + 3) (w.heap.size + 3) [] [] := obj_nil
  have O : Obj w1 w1.heap.size w1.heap.size [.int x.fTrust.fPeriod, .int x.fTrust.fSlack] [.int .i64 x.fTrust.fPeriod, .int .i64 x.fTrust.fSlack] := (Obj.int (Obj.int obj_nil))
  replace A : Obj w1 (w.heap.size + 3) w1.heap.size [.int x.fTrust.fPeriod, .int x.fTrust.fSlack] [.int .i64 x.fTrust.fPeriod, .int .i64 x.fTrust.fSlack] := Obj.more A O (by (first | omega | (simp; done) | (simp; omega))) (by (first | omega | (simp; done) | (simp; omega))) (by (first | omega | (simp; done) | (simp; omega)))
  have E1 : Ext w w1 := by (repeat (first | (with_reducible exact Ext.refl _) | (with_reducible assumption) | (with_reducible refine Ext.alloc ?_ _) | (with_reducible refine Ext.drew ?_) | (with_reducible refine Ext.drewN ?_ _) | ((with_reducible apply Ext.setCell); (case hp => first | omega | (simp; done) | (simp; omega))) | (with_reducible refine Ext.trans ?_ (by assumption))))
  clear hb O hz
  go_wp2_with fail
  (refine (toAnchor_any x.fAnchor _ _ _ (r2.extA) Z2.out).mono ?_); rintro e w2 ⟨p1, q1, rfl, O, hb⟩; (obtain ⟨B0, c0, f0, l0⟩ := Box.afterA (k := w.heap.size) hb); (obtain ⟨B1, c1, f1, l1⟩ := Box.afterA (k := w.heap.size + 1) hb); (obtain ⟨B2, c2, f2, l2⟩ := Box.afterA (k := w.heap.size + 2) hb)
  have hz := hb.size; simp at hz
  replace A : Obj w2 (w.heap.size + 3) w1.heap.size [.int x.fTrust.fPeriod, .int x.fTrust.fSlack] [.int .i64 x.fTrust.fPeriod, .int .i64 x.fTrust.fSlack] := by (repeat (first | (with_reducible assumption) | (with_reducible apply Obj.alloc) | (with_reducible apply Obj.drew) | (with_reducible apply Obj.drewN) | ((with_reducible apply Obj.set); (case hk => first | omega | (simp; done) | (simp; omega) | (left; simp; omega) | (right; simp; omega))) | (with_reducible refine Obj.ext ?_ (by assumption))))
  replace A : Obj w2 (w.heap.size + 3) w1.heap.size [.int x.fTrust.fPeriod, .int x.fTrust.fSlack, .int x.fState] [.int .i64 x.fTrust.fPeriod, .int .i64 x.fTrust.fSlack, .int .i64 x.fState] := Obj.more A (.int obj_nil : Obj _ w1.heap.size w1.heap.size _ _) (Nat.le_refl _) (Nat.le_refl _) (by (first | omega | (simp; done) | (simp; omega)))
  replace A : Obj w2 (w.heap.size + 3) w2.heap.size [.int x.fTrust.fPeriod, .int x.fTrust.fSlack, .int x.fState, .int x.fAnchor.fHead.fHeight, .int x.fAnchor.fHead.fTime, .str x.fAnchor.fHead.fLast, .str x.fAnchor.fHead.fVals, .str x.fAnchor.fHead.fNext, .str x.fAnchor.fHead.fData, slD 138 2 encVal x.fAnchor.fNext] [.int .i64 x.fTrust.fPeriod, .int .i64 x.fTrust.fSlack, .int .i64 x.fState, .int .i64 x.fAnchor.fHead.fHeight, .int .i64 x.fAnchor.fHead.fTime, .string x.fAnchor.fHead.fLast, .string x.fAnchor.fHead.fVals, .string x.fAnchor.fHead.fNext, .string x.fAnchor.fHead.fData, .slice p1 x.fAnchor.fNext.length q1] := Obj.more A O (by (first | omega | (simp; done) | (simp; omega))) (by (first | omega | (simp; done) | (simp; omega))) (by (first | omega | (simp; done) | (simp; omega)))
  have E2 : Ext w w2 := by (repeat (first | (with_reducible exact Ext.refl _) | (with_reducible assumption) | (with_reducible refine Ext.alloc ?_ _) | (with_reducible refine Ext.drew ?_) | (with_reducible refine Ext.drewN ?_ _) | ((with_reducible apply Ext.setCell); (case hp => first | omega | (simp; done) | (simp; omega))) | (with_reducible refine Ext.trans ?_ (by assumption))))
  clear hb O hz E1
  go_wp2_with fail
  (refine (toStore_any x.fStore _ _ _ (r3.extA) Z3.out).mono ?_); rintro e w3 ⟨p2, q2, rfl, O, hb⟩; (obtain ⟨B0, c0, f0, l0⟩ := Box.afterA (k := w.heap.size) hb); (obtain ⟨B1, c1, f1, l1⟩ := Box.afterA (k := w.heap.size + 1) hb); (obtain ⟨B2, c2, f2, l2⟩ := Box.afterA (k := w.heap.size + 2) hb)
  have hz := hb.size; simp at hz
  replace A : Obj w3 (w.heap.size + 3) w2.heap.size [.int x.fTrust.fPeriod, .int x.fTrust.fSlack, .int x.fState, .int x.fAnchor.fHead.fHeight, .int x.fAnchor.fHead.fTime, .str x.fAnchor.fHead.fLast, .str x.fAnchor.fHead.fVals, .str x.fAnchor.fHead.fNext, .str x.fAnchor.fHead.fData, slD 138 2 encVal x.fAnchor.fNext] [.int .i64 x.fTrust.fPeriod, .int .i64 x.fTrust.fSlack, .int .i64 x.fState, .int .i64 x.fAnchor.fHead.fHeight, .int .i64 x.fAnchor.fHead.fTime, .string x.fAnchor.fHead.fLast, .string x.fAnchor.fHead.fVals, .string x.fAnchor.fHead.fNext, .string x.fAnchor.fHead.fData, .slice p1 x.fAnchor.fNext.length q1] := by (repeat (first | (with_reducible assumption) | (with_reducible apply Obj.alloc) | (with_reducible apply Obj.drew) | (with_reducible apply Obj.drewN) | ((with_reducible apply Obj.set); (case hk => first | omega | (simp; done) | (simp; omega) | (left; simp; omega) | (right; simp; omega))) | (with_reducible refine Obj.ext ?_ (by assumption))))
  replace A : Obj w3 (w.heap.size + 3) w3.heap.size [.int x.fTrust.fPeriod, .int x.fTrust.fSlack, .int x.fState, .int x.fAnchor.fHead.fHeight, .int x.fAnchor.fHead.fTime, .str x.fAnchor.fHead.fLast, .str x.fAnchor.fHead.fVals, .str x.fAnchor.fHead.fNext, .str x.fAnchor.fHead.fData, slD 138 2 encVal x.fAnchor.fNext, slD 39 6 encHeader x.fStore.fHeads, .int x.fStore.fSynced] [.int .i64 x.fTrust.fPeriod, .int .i64 x.fTrust.fSlack, .int .i64 x.fState, .int .i64 x.fAnchor.fHead.fHeight, .int .i64 x.fAnchor.fHead.fTime, .string x.fAnchor.fHead.fLast, .string x.fAnchor.fHead.fVals, .string x.fAnchor.fHead.fNext, .string x.fAnchor.fHead.fData, .slice p1 x.fAnchor.fNext.length q1, .slice p2 x.fStore.fHeads.length q2, .int .i64 x.fStore.fSynced] := Obj.more A O (by (first | omega | (simp; done) | (simp; omega))) (by (first | omega | (simp; done) | (simp; omega))) (by (first | omega | (simp; done) | (simp; omega)))
  have E3 : Ext w w3 := by (repeat (first | (with_reducible exact Ext.refl _) | (with_reducible assumption) | (with_reducible refine Ext.alloc ?_ _) | (with_reducible refine Ext.drew ?_) | (with_reducible refine Ext.drewN ?_ _) | ((with_reducible apply Ext.setCell); (case hp => first | omega | (simp; done) | (simp; omega))) | (with_reducible refine Ext.trans ?_ (by assumption))))
  clear hb O hz E2
  go_wp2_with fail
  (refine (toTable_any x.fPeers _ _ _ (r4.extA) Z4.out).mono ?_); rintro e w4 ⟨p3, q3, rfl, O, hb⟩; (obtain ⟨B0, c0, f0, l0⟩ := Box.afterA (k := w.heap.size) hb); (obtain ⟨B1, c1, f1, l1⟩ := Box.afterA (k := w.heap.size + 1) hb); (obtain ⟨B2, c2, f2, l2⟩ := Box.afterA (k := w.heap.size + 2) hb)
  have hz := hb.size; simp at hz
  replace A : Obj w4 (w.heap.size + 3) w3.heap.size [.int x.fTrust.fPeriod, .int x.fTrust.fSlack, .int x.fState, .int x.fAnchor.fHead.fHeight, .int x.fAnchor.fHead.fTime, .str x.fAnchor.fHead.fLast, .str x.fAnchor.fHead.fVals, .str x.fAnchor.fHead.fNext, .str x.fAnchor.fHead.fData, slD 138 2 encVal x.fAnchor.fNext, slD 39 6 encHeader x.fStore.fHeads, .int x.fStore.fSynced] [.int .i64 x.fTrust.fPeriod, .int .i64 x.fTrust.fSlack, .int .i64 x.fState, .int .i64 x.fAnchor.fHead.fHeight, .int .i64 x.fAnchor.fHead.fTime, .string x.fAnchor.fHead.fLast, .string x.fAnchor.fHead.fVals, .string x.fAnchor.fHead.fNext, .string x.fAnchor.fHead.fData, .slice p1 x.fAnchor.fNext.length q1, .slice p2 x.fStore.fHeads.length q2, .int .i64 x.fStore.fSynced] := by (repeat (first | (with_reducible assumption) | (with_reducible apply Obj.alloc) | (with_reducible apply Obj.drew) | (with_reducible apply Obj.drewN) | ((with_reducible apply Obj.set); (case hk => first | omega | (simp; done) | (simp; omega) | (left; simp; omega) | (right; simp; omega))) | (with_reducible refine Obj.ext ?_ (by assumption))))
  replace A : Obj w4 (w.heap.size + 3) w4.heap.size [.int x.fTrust.fPeriod, .int x.fTrust.fSlack, .int x.fState, .int x.fAnchor.fHead.fHeight, .int x.fAnchor.fHead.fTime, .str x.fAnchor.fHead.fLast, .str x.fAnchor.fHead.fVals, .str x.fAnchor.fHead.fNext, .str x.fAnchor.fHead.fData, slD 138 2 encVal x.fAnchor.fNext, slD 39 6 encHeader x.fStore.fHeads, .int x.fStore.fSynced, slD 109 4 encPeer x.fPeers.fPeers, .int x.fPeers.fTurn] [.int .i64 x.fTrust.fPeriod, .int .i64 x.fTrust.fSlack, .int .i64 x.fState, .int .i64 x.fAnchor.fHead.fHeight, .int .i64 x.fAnchor.fHead.fTime, .string x.fAnchor.fHead.fLast, .string x.fAnchor.fHead.fVals, .string x.fAnchor.fHead.fNext, .string x.fAnchor.fHead.fData, .slice p1 x.fAnchor.fNext.length q1, .slice p2 x.fStore.fHeads.length q2, .int .i64 x.fStore.fSynced, .slice p3 x.fPeers.fPeers.length q3, .int .i64 x.fPeers.fTurn] := Obj.more A O (by (first | omega | (simp; done) | (simp; omega))) (by (first | omega | (simp; done) | (simp; omega))) (by (first | omega | (simp; done) | (simp; omega)))
  have E4 : Ext w w4 := by (repeat (first | (with_reducible exact Ext.refl _) | (with_reducible assumption) | (with_reducible refine Ext.alloc ?_ _) | (with_reducible refine Ext.drew ?_) | (with_reducible refine Ext.drewN ?_ _) | ((with_reducible apply Ext.setCell); (case hp => first | omega | (simp; done) | (simp; omega))) | (with_reducible refine Ext.trans ?_ (by assumption))))
  clear hb O hz E3
  replace A : Obj w4 (w.heap.size + 3) w4.heap.size [.int x.fTrust.fPeriod, .int x.fTrust.fSlack, .int x.fState, .int x.fAnchor.fHead.fHeight, .int x.fAnchor.fHead.fTime, .str x.fAnchor.fHead.fLast, .str x.fAnchor.fHead.fVals, .str x.fAnchor.fHead.fNext, .str x.fAnchor.fHead.fData, slD 138 2 encVal x.fAnchor.fNext, slD 39 6 encHeader x.fStore.fHeads, .int x.fStore.fSynced, slD 109 4 encPeer x.fPeers.fPeers, .int x.fPeers.fTurn, .int x.fNow] [.int .i64 x.fTrust.fPeriod, .int .i64 x.fTrust.fSlack, .int .i64 x.fState, .int .i64 x.fAnchor.fHead.fHeight, .int .i64 x.fAnchor.fHead.fTime, .string x.fAnchor.fHead.fLast, .string x.fAnchor.fHead.fVals, .string x.fAnchor.fHead.fNext, .string x.fAnchor.fHead.fData, .slice p1 x.fAnchor.fNext.length q1, .slice p2 x.fStore.fHeads.length q2, .int .i64 x.fStore.fSynced, .slice p3 x.fPeers.fPeers.length q3, .int .i64 x.fPeers.fTurn, .int .i64 x.fNow] := Obj.more A (.int obj_nil : Obj _ w4.heap.size w4.heap.size _ _) (Nat.le_refl _) (Nat.le_refl _) (by (first | omega | (simp; done) | (simp; omega)))
  have AS := A.read
  have HA := Lib.hid A; clear A AS
  go_wp2
  exact bodyPost_ret (v := .agg #[.int .i64 x.fTrust.fPeriod, .int .i64 x.fTrust.fSlack, .int .i64 x.fState, .int .i64 x.fAnchor.fHead.fHeight, .int .i64 x.fAnchor.fHead.fTime, .string x.fAnchor.fHead.fLast, .string x.fAnchor.fHead.fVals, .string x.fAnchor.fHead.fNext, .string x.fAnchor.fHead.fData, .slice p1 x.fAnchor.fNext.length q1, .slice p2 x.fStore.fHeads.length q2, .int .i64 x.fStore.fSynced, .slice p3 x.fPeers.fPeers.length q3, .int .i64 x.fPeers.fTurn, .int .i64 x.fNow]) (by simp [results, Tryz.results14, go_sem, c1]) rfl ⟨_, _, _, _, _, _, rfl, Obj.mono (lo := w.heap.size + 3) (hi := w4.heap.size) (show Obj _ _ _ [.int x.fTrust.fPeriod, .int x.fTrust.fSlack, .int x.fState, .int x.fAnchor.fHead.fHeight, .int x.fAnchor.fHead.fTime, .str x.fAnchor.fHead.fLast, .str x.fAnchor.fHead.fVals, .str x.fAnchor.fHead.fNext, .str x.fAnchor.fHead.fData, slD 138 2 encVal x.fAnchor.fNext, slD 39 6 encHeader x.fStore.fHeads, .int x.fStore.fSynced, slD 109 4 encPeer x.fPeers.fPeers, .int x.fPeers.fTurn, .int x.fNow] _ from by have A := HA.out; (repeat (first | (with_reducible assumption) | (with_reducible apply Obj.alloc) | (with_reducible apply Obj.drew) | (with_reducible apply Obj.drewN) | ((with_reducible apply Obj.set); (case hk => first | omega | (simp; done) | (simp; omega) | (left; simp; omega) | (right; simp; omega))) | (with_reducible refine Obj.ext ?_ (by assumption))))) (by (first | omega | (simp; done) | (simp; omega))) (by (first | omega | (simp; done) | (simp; omega))), by (repeat (first | (with_reducible exact Ext.refl _) | (with_reducible assumption) | (with_reducible refine Ext.alloc ?_ _) | (with_reducible refine Ext.drew ?_) | (with_reducible refine Ext.drewN ?_ _) | ((with_reducible apply Ext.setCell); (case hp => first | omega | (simp; done) | (simp; omega))) | (with_reducible refine Ext.trans ?_ (by assumption))))⟩
set_option maxRecDepth 100000 in
set_option maxHeartbeats 4000000 in
theorem szLight_any (x : GLight) (o1 o2 o3 : Option Addr) (c1 c2 c3 : Nat) (left : Int) (w : World) (h : Rds w (encLight x) [.int .i64 x.fTrust.fPeriod, .int .i64 x.fTrust.fSlack, .int .i64 x.fState, .int .i64 x.fAnchor.fHead.fHeight, .int .i64 x.fAnchor.fHead.fTime, .string x.fAnchor.fHead.fLast, .string x.fAnchor.fHead.fVals, .string x.fAnchor.fHead.fNext, .string x.fAnchor.fHead.fData, .slice o1 x.fAnchor.fNext.length c1, .slice o2 x.fStore.fHeads.length c2, .int .i64 x.fStore.fSynced, .slice o3 x.fPeers.fPeers.length c3, .int .i64 x.fPeers.fTurn, .int .i64 x.fNow]) (hok : okL (encLight x)) (h0 : 0 ≤ left) (h1 : left ≤ 1048576) :
    Calls Tryz.prog 12 #[.agg #[.int .i64 x.fTrust.fPeriod, .int .i64 x.fTrust.fSlack, .int .i64 x.fState, .int .i64 x.fAnchor.fHead.fHeight, .int .i64 x.fAnchor.fHead.fTime, .string x.fAnchor.fHead.fLast, .string x.fAnchor.fHead.fVals, .string x.fAnchor.fHead.fNext, .string x.fAnchor.fHead.fData, .slice o1 x.fAnchor.fNext.length c1, .slice o2 x.fStore.fHeads.length c2, .int .i64 x.fStore.fSynced, .slice o3 x.fPeers.fPeers.length c3, .int .i64 x.fPeers.fTurn, .int .i64 x.fNow], .int .i64 left] w fun e w' => e = .returned (.int .i64 (szR left (szL (encLight x)))) ∧ Ext w w' := by
  have r2 : Rds w (encAnchor x.fAnchor) [.int .i64 x.fAnchor.fHead.fHeight, .int .i64 x.fAnchor.fHead.fTime, .string x.fAnchor.fHead.fLast, .string x.fAnchor.fHead.fVals, .string x.fAnchor.fHead.fNext, .string x.fAnchor.fHead.fData, .slice o1 x.fAnchor.fNext.length c1] := h.cut 3 7
  have k2 : okL (encAnchor x.fAnchor) := okL_cut (ds := encLight x) 3 7 hok
  have K2 := Lib.hid k2; clear k2
  have r3 : Rds w (encStore x.fStore) [.slice o2 x.fStore.fHeads.length c2, .int .i64 x.fStore.fSynced] := h.cut 10 2
  have k3 : okL (encStore x.fStore) := okL_cut (ds := encLight x) 10 2 hok
  have K3 := Lib.hid k3; clear k3
  have r4 : Rds w (encTable x.fPeers) [.slice o3 x.fPeers.fPeers.length c3, .int .i64 x.fPeers.fTurn] := h.cut 12 2
  have k4 : okL (encTable x.fPeers) := okL_cut (ds := encLight x) 12 2 hok
  have K4 := Lib.hid k4; clear k4
  have hT : szL (encLight x) = szL (encAnchor x.fAnchor) + szL (encStore x.fStore) + szL (encTable x.fPeers) := by simp [encLight, encTrust, encAnchor, encHeader, encStore, encTable, szL, slD]; try omega
  rw [hT]
  clear hT hok h
  obtain ⟨a2, ha2⟩ : ∃ a, a = szL (encAnchor x.fAnchor) := ⟨_, rfl⟩
  rw [← ha2]
  have HA2 := Lib.hid ha2; clear ha2
  obtain ⟨a3, ha3⟩ : ∃ a, a = szL (encStore x.fStore) := ⟨_, rfl⟩
  rw [← ha3]
  have HA3 := Lib.hid ha3; clear ha3
  obtain ⟨a4, ha4⟩ : ∃ a, a = szL (encTable x.fPeers) := ⟨_, rfl⟩
  rw [← ha4]
  have HA4 := Lib.hid ha4; clear ha4
  by_cases h2 : left < (a2 : Nat)
  · have R0 := Lib.hid (szR_no h2)
    go_enter Tryz.func12, Tryz.ntmps12
    go_wp2_with fail
    (refine (szAnchor_any x.fAnchor _ _ _ _ (r2.extA) K2.out (by omega) (by omega)).mono ?_); rw [show szL (encAnchor x.fAnchor) = a2 from HA2.out.symm, R0.out]; rintro e w0 ⟨rfl, hb⟩; (obtain ⟨B0, c0, f0, l0⟩ := Box.afterA (k := w.heap.size) hb)
    have E0 : Ext w w0 := by (repeat (first | (with_reducible exact Ext.refl _) | (with_reducible assumption) | (with_reducible refine Ext.alloc ?_ _) | (with_reducible refine Ext.drew ?_) | (with_reducible refine Ext.drewN ?_ _) | ((with_reducible apply Ext.setCell); (case hp => first | omega | (simp; done) | (simp; omega))) | (with_reducible refine Ext.trans ?_ (by assumption))))
    clear hb
    go_wp2
    go_ret
    exact ⟨ret_int (szR_no (by omega)), by (repeat (first | (with_reducible exact Ext.refl _) | (with_reducible assumption) | (with_reducible refine Ext.alloc ?_ _) | (with_reducible refine Ext.drew ?_) | (with_reducible refine Ext.drewN ?_ _) | ((with_reducible apply Ext.setCell); (case hp => first | omega | (simp; done) | (simp; omega))) | (with_reducible refine Ext.trans ?_ (by assumption))))⟩
  · have R0 := Lib.hid (szR_yes h2)
    by_cases h3 : left - a2 < (a3 : Nat)
    · have R1 := Lib.hid (szR_no h3)
      go_enter Tryz.func12, Tryz.ntmps12
      go_wp2_with fail
      (refine (szAnchor_any x.fAnchor _ _ _ _ (r2.extA) K2.out (by omega) (by omega)).mono ?_); rw [show szL (encAnchor x.fAnchor) = a2 from HA2.out.symm, R0.out]; rintro e w0 ⟨rfl, hb⟩; (obtain ⟨B0, c0, f0, l0⟩ := Box.afterA (k := w.heap.size) hb)
      have E0 : Ext w w0 := by (repeat (first | (with_reducible exact Ext.refl _) | (with_reducible assumption) | (with_reducible refine Ext.alloc ?_ _) | (with_reducible refine Ext.drew ?_) | (with_reducible refine Ext.drewN ?_ _) | ((with_reducible apply Ext.setCell); (case hp => first | omega | (simp; done) | (simp; omega))) | (with_reducible refine Ext.trans ?_ (by assumption))))
      clear hb
      go_wp2_with fail
      (refine (szStore_any x.fStore _ _ _ _ (r3.extA) K3.out (by omega) (by omega)).mono ?_); rw [show szL (encStore x.fStore) = a3 from HA3.out.symm, R1.out]; rintro e w1 ⟨rfl, hb⟩; (obtain ⟨B0, c0, f0, l0⟩ := Box.afterA (k := w.heap.size) hb)
      have E1 : Ext w w1 := by (repeat (first | (with_reducible exact Ext.refl _) | (with_reducible assumption) | (with_reducible refine Ext.alloc ?_ _) | (with_reducible refine Ext.drew ?_) | (with_reducible refine Ext.drewN ?_ _) | ((with_reducible apply Ext.setCell); (case hp => first | omega | (simp; done) | (simp; omega))) | (with_reducible refine Ext.trans ?_ (by assumption))))
      clear hb
      go_wp2
      go_ret
      exact ⟨ret_int (szR_no (by omega)), by (repeat (first | (with_reducible exact Ext.refl _) | (with_reducible assumption) | (with_reducible refine Ext.alloc ?_ _) | (with_reducible refine Ext.drew ?_) | (with_reducible refine Ext.drewN ?_ _) | ((with_reducible apply Ext.setCell); (case hp => first | omega | (simp; done) | (simp; omega))) | (with_reducible refine Ext.trans ?_ (by assumption))))⟩
    · have R1 := Lib.hid (szR_yes h3)
      by_cases h4 : left - a2 - a3 < (a4 : Nat)
      · have R2 := Lib.hid (szR_no h4)
        go_enter Tryz.func12, Tryz.ntmps12
        go_wp2_with fail
        (refine (szAnchor_any x.fAnchor _ _ _ _ (r2.extA) K2.out (by omega) (by omega)).mono ?_); rw [show szL (encAnchor x.fAnchor) = a2 from HA2.out.symm, R0.out]; rintro e w0 ⟨rfl, hb⟩; (obtain ⟨B0, c0, f0, l0⟩ := Box.afterA (k := w.heap.size) hb)
        have E0 : Ext w w0 := by (repeat (first | (with_reducible exact Ext.refl _) | (with_reducible assumption) | (with_reducible refine Ext.alloc ?_ _) | (with_reducible refine Ext.drew ?_) | (with_reducible refine Ext.drewN ?_ _) | ((with_reducible apply Ext.setCell); (case hp => first | omega | (simp; done) | (simp; omega))) | (with_reducible refine Ext.trans ?_ (by assumption))))
        clear hb
        go_wp2_with fail
        (refine (szStore_any x.fStore _ _ _ _ (r3.extA) K3.out (by omega) (by omega)).mono ?_); rw [show szL (encStore x.fStore) = a3 from HA3.out.symm, R1.out]; rintro e w1 ⟨rfl, hb⟩; (obtain ⟨B0, c0, f0, l0⟩ := Box.afterA (k := w.heap.size) hb)
        have E1 : Ext w w1 := by (repeat (first | (with_reducible exact Ext.refl _) | (with_reducible assumption) | (with_reducible refine Ext.alloc ?_ _) | (with_reducible refine Ext.drew ?_) | (with_reducible refine Ext.drewN ?_ _) | ((with_reducible apply Ext.setCell); (case hp => first | omega | (simp; done) | (simp; omega))) | (with_reducible refine Ext.trans ?_ (by assumption))))
        clear hb
        go_wp2_with fail
        (refine (szTable_any x.fPeers _ _ _ _ (r4.extA) K4.out (by omega) (by omega)).mono ?_); rw [show szL (encTable x.fPeers) = a4 from HA4.out.symm, R2.out]; rintro e w2 ⟨rfl, hb⟩; (obtain ⟨B0, c0, f0, l0⟩ := Box.afterA (k := w.heap.size) hb)
        have E2 : Ext w w2 := by (repeat (first | (with_reducible exact Ext.refl _) | (with_reducible assumption) | (with_reducible refine Ext.alloc ?_ _) | (with_reducible refine Ext.drew ?_) | (with_reducible refine Ext.drewN ?_ _) | ((with_reducible apply Ext.setCell); (case hp => first | omega | (simp; done) | (simp; omega))) | (with_reducible refine Ext.trans ?_ (by assumption))))
        clear hb
        go_wp2
        go_ret
        exact ⟨ret_int (szR_no (by omega)), by (repeat (first | (with_reducible exact Ext.refl _) | (with_reducible assumption) | (with_reducible refine Ext.alloc ?_ _) | (with_reducible refine Ext.drew ?_) | (with_reducible refine Ext.drewN ?_ _) | ((with_reducible apply Ext.setCell); (case hp => first | omega | (simp; done) | (simp; omega))) | (with_reducible refine Ext.trans ?_ (by assumption))))⟩
      · have R2 := Lib.hid (szR_yes h4)
        go_enter Tryz.func12, Tryz.ntmps12
        go_wp2_with fail
        (refine (szAnchor_any x.fAnchor _ _ _ _ (r2.extA) K2.out (by omega) (by omega)).mono ?_); rw [show szL (encAnchor x.fAnchor) = a2 from HA2.out.symm, R0.out]; rintro e w0 ⟨rfl, hb⟩; (obtain ⟨B0, c0, f0, l0⟩ := Box.afterA (k := w.heap.size) hb)
        have E0 : Ext w w0 := by (repeat (first | (with_reducible exact Ext.refl _) | (with_reducible assumption) | (with_reducible refine Ext.alloc ?_ _) | (with_reducible refine Ext.drew ?_) | (with_reducible refine Ext.drewN ?_ _) | ((with_reducible apply Ext.setCell); (case hp => first | omega | (simp; done) | (simp; omega))) | (with_reducible refine Ext.trans ?_ (by assumption))))
        clear hb
        go_wp2_with fail
        (refine (szStore_any x.fStore _ _ _ _ (r3.extA) K3.out (by omega) (by omega)).mono ?_); rw [show szL (encStore x.fStore) = a3 from HA3.out.symm, R1.out]; rintro e w1 ⟨rfl, hb⟩; (obtain ⟨B0, c0, f0, l0⟩ := Box.afterA (k := w.heap.size) hb)
        have E1 : Ext w w1 := by (repeat (first | (with_reducible exact Ext.refl _) | (with_reducible assumption) | (with_reducible refine Ext.alloc ?_ _) | (with_reducible refine Ext.drew ?_) | (with_reducible refine Ext.drewN ?_ _) | ((with_reducible apply Ext.setCell); (case hp => first | omega | (simp; done) | (simp; omega))) | (with_reducible refine Ext.trans ?_ (by assumption))))
        clear hb
        go_wp2_with fail
        (refine (szTable_any x.fPeers _ _ _ _ (r4.extA) K4.out (by omega) (by omega)).mono ?_); rw [show szL (encTable x.fPeers) = a4 from HA4.out.symm, R2.out]; rintro e w2 ⟨rfl, hb⟩; (obtain ⟨B0, c0, f0, l0⟩ := Box.afterA (k := w.heap.size) hb)
        have E2 : Ext w w2 := by (repeat (first | (with_reducible exact Ext.refl _) | (with_reducible assumption) | (with_reducible refine Ext.alloc ?_ _) | (with_reducible refine Ext.drew ?_) | (with_reducible refine Ext.drewN ?_ _) | ((with_reducible apply Ext.setCell); (case hp => first | omega | (simp; done) | (simp; omega))) | (with_reducible refine Ext.trans ?_ (by assumption))))
        clear hb
        go_wp2
        go_ret
        exact ⟨ret_int ((szR_yes (by omega)).trans (by omega)), by (repeat (first | (with_reducible exact Ext.refl _) | (with_reducible assumption) | (with_reducible refine Ext.alloc ?_ _) | (with_reducible refine Ext.drew ?_) | (with_reducible refine Ext.drewN ?_ _) | ((with_reducible apply Ext.setCell); (case hp => first | omega | (simp; done) | (simp; omega))) | (with_reducible refine Ext.trans ?_ (by assumption))))⟩
set_option maxRecDepth 100000 in
set_option maxHeartbeats 4000000 in
theorem eqLight_any (x : GLight) (o1 o2 o3 : Option Addr) (c1 c2 c3 : Nat) (p1 p2 p3 : Option Addr) (q1 q2 q3 : Nat) (w : World) (h1 : Rds w (encLight x) [.int .i64 x.fTrust.fPeriod, .int .i64 x.fTrust.fSlack, .int .i64 x.fState, .int .i64 x.fAnchor.fHead.fHeight, .int .i64 x.fAnchor.fHead.fTime, .string x.fAnchor.fHead.fLast, .string x.fAnchor.fHead.fVals, .string x.fAnchor.fHead.fNext, .string x.fAnchor.fHead.fData, .slice o1 x.fAnchor.fNext.length c1, .slice o2 x.fStore.fHeads.length c2, .int .i64 x.fStore.fSynced, .slice o3 x.fPeers.fPeers.length c3, .int .i64 x.fPeers.fTurn, .int .i64 x.fNow]) (h2 : Rds w (encLight x) [.int .i64 x.fTrust.fPeriod, .int .i64 x.fTrust.fSlack, .int .i64 x.fState, .int .i64 x.fAnchor.fHead.fHeight, .int .i64 x.fAnchor.fHead.fTime, .string x.fAnchor.fHead.fLast, .string x.fAnchor.fHead.fVals, .string x.fAnchor.fHead.fNext, .string x.fAnchor.fHead.fData, .slice p1 x.fAnchor.fNext.length q1, .slice p2 x.fStore.fHeads.length q2, .int .i64 x.fStore.fSynced, .slice p3 x.fPeers.fPeers.length q3, .int .i64 x.fPeers.fTurn, .int .i64 x.fNow]) :
    Calls Tryz.prog 16 #[.agg #[.int .i64 x.fTrust.fPeriod, .int .i64 x.fTrust.fSlack, .int .i64 x.fState, .int .i64 x.fAnchor.fHead.fHeight, .int .i64 x.fAnchor.fHead.fTime, .string x.fAnchor.fHead.fLast, .string x.fAnchor.fHead.fVals, .string x.fAnchor.fHead.fNext, .string x.fAnchor.fHead.fData, .slice o1 x.fAnchor.fNext.length c1, .slice o2 x.fStore.fHeads.length c2, .int .i64 x.fStore.fSynced, .slice o3 x.fPeers.fPeers.length c3, .int .i64 x.fPeers.fTurn, .int .i64 x.fNow], .agg #[.int .i64 x.fTrust.fPeriod, .int .i64 x.fTrust.fSlack, .int .i64 x.fState, .int .i64 x.fAnchor.fHead.fHeight, .int .i64 x.fAnchor.fHead.fTime, .string x.fAnchor.fHead.fLast, .string x.fAnchor.fHead.fVals, .string x.fAnchor.fHead.fNext, .string x.fAnchor.fHead.fData, .slice p1 x.fAnchor.fNext.length q1, .slice p2 x.fStore.fHeads.length q2, .int .i64 x.fStore.fSynced, .slice p3 x.fPeers.fPeers.length q3, .int .i64 x.fPeers.fTurn, .int .i64 x.fNow]] w fun e w' => e = .returned (.bool true) ∧ Ext w w' := by
  have r0_0 : Rds w (encTrust x.fTrust) [.int .i64 x.fTrust.fPeriod, .int .i64 x.fTrust.fSlack] := h1.cut 0 2
  have r0_1 : Rds w (encTrust x.fTrust) [.int .i64 x.fTrust.fPeriod, .int .i64 x.fTrust.fSlack] := h2.cut 0 2
  have r2_0 : Rds w (encAnchor x.fAnchor) [.int .i64 x.fAnchor.fHead.fHeight, .int .i64 x.fAnchor.fHead.fTime, .string x.fAnchor.fHead.fLast, .string x.fAnchor.fHead.fVals, .string x.fAnchor.fHead.fNext, .string x.fAnchor.fHead.fData, .slice o1 x.fAnchor.fNext.length c1] := h1.cut 3 7
  have r2_1 : Rds w (encAnchor x.fAnchor) [.int .i64 x.fAnchor.fHead.fHeight, .int .i64 x.fAnchor.fHead.fTime, .string x.fAnchor.fHead.fLast, .string x.fAnchor.fHead.fVals, .string x.fAnchor.fHead.fNext, .string x.fAnchor.fHead.fData, .slice p1 x.fAnchor.fNext.length q1] := h2.cut 3 7
  have r3_0 : Rds w (encStore x.fStore) [.slice o2 x.fStore.fHeads.length c2, .int .i64 x.fStore.fSynced] := h1.cut 10 2
  have r3_1 : Rds w (encStore x.fStore) [.slice p2 x.fStore.fHeads.length q2, .int .i64 x.fStore.fSynced] := h2.cut 10 2
  have r4_0 : Rds w (encTable x.fPeers) [.slice o3 x.fPeers.fPeers.length c3, .int .i64 x.fPeers.fTurn] := h1.cut 12 2
  have r4_1 : Rds w (encTable x.fPeers) [.slice p3 x.fPeers.fPeers.length q3, .int .i64 x.fPeers.fTurn] := h2.cut 12 2
  clear h1 h2
  go_enter Tryz.func16, Tryz.ntmps16
  go_wp2_with fail
  (refine (eqTrust_any x.fTrust _ (r0_0.extA) (r0_1.extA)).mono ?_); rintro e w1 ⟨rfl, hb⟩; (obtain ⟨B0, c0, f0, l0⟩ := Box.afterA (k := w.heap.size) hb); (obtain ⟨B1, c1, f1, l1⟩ := Box.afterA (k := w.heap.size + 1) hb)
  have E1 : Ext w w1 := by (repeat (first | (with_reducible exact Ext.refl _) | (with_reducible assumption) | (with_reducible refine Ext.alloc ?_ _) | (with_reducible refine Ext.drew ?_) | (with_reducible refine Ext.drewN ?_ _) | ((with_reducible apply Ext.setCell); (case hp => first | omega | (simp; done) | (simp; omega))) | (with_reducible refine Ext.trans ?_ (by assumption))))
  clear hb
  go_wp2_with fail
  (refine (eqAnchor_any x.fAnchor _ _ _ _ _ (r2_0.extA) (r2_1.extA)).mono ?_); rintro e w2 ⟨rfl, hb⟩; (obtain ⟨B0, c0, f0, l0⟩ := Box.afterA (k := w.heap.size) hb); (obtain ⟨B1, c1, f1, l1⟩ := Box.afterA (k := w.heap.size + 1) hb)
  have E2 : Ext w w2 := by (repeat (first | (with_reducible exact Ext.refl _) | (with_reducible assumption) | (with_reducible refine Ext.alloc ?_ _) | (with_reducible refine Ext.drew ?_) | (with_reducible refine Ext.drewN ?_ _) | ((with_reducible apply Ext.setCell); (case hp => first | omega | (simp; done) | (simp; omega))) | (with_reducible refine Ext.trans ?_ (by assumption))))
  clear hb E1
  go_wp2_with fail
  (refine (eqStore_any x.fStore _ _ _ _ _ (r3_0.extA) (r3_1.extA)).mono ?_); rintro e w3 ⟨rfl, hb⟩; (obtain ⟨B0, c0, f0, l0⟩ := Box.afterA (k := w.heap.size) hb); (obtain ⟨B1, c1, f1, l1⟩ := Box.afterA (k := w.heap.size + 1) hb)
  have E3 : Ext w w3 := by (repeat (first | (with_reducible exact Ext.refl _) | (with_reducible assumption) | (with_reducible refine Ext.alloc ?_ _) | (with_reducible refine Ext.drew ?_) | (with_reducible refine Ext.drewN ?_ _) | ((with_reducible apply Ext.setCell); (case hp => first | omega | (simp; done) | (simp; omega))) | (with_reducible refine Ext.trans ?_ (by assumption))))
  clear hb E2
  go_wp2_with fail
  (refine (eqTable_any x.fPeers _ _ _ _ _ (r4_0.extA) (r4_1.extA)).mono ?_); rintro e w4 ⟨rfl, hb⟩; (obtain ⟨B0, c0, f0, l0⟩ := Box.afterA (k := w.heap.size) hb); (obtain ⟨B1, c1, f1, l1⟩ := Box.afterA (k := w.heap.size + 1) hb)
  have E4 : Ext w w4 := by (repeat (first | (with_reducible exact Ext.refl _) | (with_reducible assumption) | (with_reducible refine Ext.alloc ?_ _) | (with_reducible refine Ext.drew ?_) | (with_reducible refine Ext.drewN ?_ _) | ((with_reducible apply Ext.setCell); (case hp => first | omega | (simp; done) | (simp; omega))) | (with_reducible refine Ext.trans ?_ (by assumption))))
  clear hb E3
  go_wp2
  go_ret
  exact ⟨rfl, by (repeat (first | (with_reducible exact Ext.refl _) | (with_reducible assumption) | (with_reducible refine Ext.alloc ?_ _) | (with_reducible refine Ext.drew ?_) | (with_reducible refine Ext.drewN ?_ _) | ((with_reducible apply Ext.setCell); (case hp => first | omega | (simp; done) | (simp; omega))) | (with_reducible refine Ext.trans ?_ (by assumption))))⟩
end Go.Proofs.YtgcelmnmalfpcaaGreatDoor

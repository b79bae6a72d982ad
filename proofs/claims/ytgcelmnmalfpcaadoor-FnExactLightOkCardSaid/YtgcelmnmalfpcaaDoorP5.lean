/- Walks on the pure machine: the reference's hash. -/
import Derived.Test.YtgcelmnmalfpcaaDoorP4
import Derived.Test.YtgcelmnmalfpcaaDoorShaL
namespace Go.Proofs.YtgcelmnmalfpcaaDoor
set_option linter.unusedSimpArgs false
set_option linter.unusedVariables false
open Go.RowKit
set_option maxRecDepth 100000

/-- A word as an element. -/
def pW (x : W32) : List PV := [.val (.int .i64 (u x))]
theorem pW_clo (x : W32) : (pW x).all cloC = true := rfl
theorem pW_ren {φ : List Nat} {n : Nat} (l : List W32) : (l.map pW).map (renL φ n) = l.map pW := rows_flat pW_clo l
attribute [push_cast] pW_ren
/-- A row of one's own that holds words. -/
theorem row_words {M : Mem} {h : Home} {w : World} {v : Value} {e : TypeId} {l : List W32} (r : BR M h w v (.row e 1 (l.map pW))) (hl : l ≠ []) : ∃ g c, v = .slice (some ⟨g, 0, none⟩) l.length c ∧ RowI w g l := by
  obtain ⟨-, us, q1, q2, q3, q4⟩ := r
  have hu : us = l.map vI := by
    have hlen : us.length = l.length := by have := q1.1; simpa using this
    apply List.ext_getElem?
    intro o
    by_cases ho : o < l.length
    · have hx : l[o]? = some l[o] := List.getElem?_eq_getElem ho
      have hu' : us[o]? = some us[o] := List.getElem?_eq_getElem (by omega)
      have := q4 o 0 (pW l[o]) (.val (.int .i64 (u l[o]))) us[o] (by rw [List.getElem?_map, hx]; rfl) rfl (by simp)
      rw [hu', vr_val this, List.getElem?_map, hx]
      rfl
    · rw [List.getElem?_eq_none (by omega), List.getElem?_eq_none (by simp; omega)]
  subst hu
  rw [List.length_map] at q1
  rcases q1.2 with ⟨_, h0⟩ | ⟨g, cap, cur, hv, hb⟩
  · exact absurd (List.eq_nil_of_length_eq_zero h0) hl
  · subst hv
    exact ⟨g, cap, rfl, RowI.of_own (n := l.length) (c := cap) q1⟩
theorem sL3Block_p (hv : HSt) (s : ByteArray) (hs : s.size = 64) : PCalls Tryd.prog 100 [.own 0, .val (.string s), .own 1] [some (.row 3 1 ((listS hv).map pW)), some (.row 3 1 (shaK.map pW))]
    (RH (.own 2) [some (.row 3 1 ((listS hv).map pW)), some (.row 3 1 (shaK.map pW)), some (.row 3 1 ((listS (blk hv s 0)).map pW))]) := by
  intro M hh w vs I rv
  obtain ⟨rl, rg⟩ := rv
  obtain ⟨v0, v1, v2, rfl⟩ : ∃ a b c, vs = #[a, b, c] := by
    match vs, rl with
    | ⟨[a, b, c]⟩, _ => exact ⟨a, b, c, rfl⟩
  have r0 := rg 0 _ v0 rfl rfl
  have r1 := vr_val (rg 1 _ v1 rfl rfl)
  have r2 := rg 2 _ v2 rfl rfl
  subst r1
  obtain ⟨x0, a0, b0⟩ := I.blk 0 _ rfl
  obtain ⟨x1, a1, b1⟩ := I.blk 1 _ rfl
  obtain ⟨g0, c0, rfl, R0⟩ := row_words b0 (by simp [listS])
  obtain ⟨g1, c1, rfl, R1⟩ := row_words b1 (by simp [shaK])
  have e0 : v0 = .slice (some ⟨g0, 0, none⟩) (listS hv).length c0 := by cases r0 with | own _ o n c hb => rw [a0] at hb; cases hb; rfl
  have e2 : v2 = .slice (some ⟨g1, 0, none⟩) shaK.length c1 := by cases r2 with | own _ o n c hb => rw [a1] at hb; cases hb; rfl
  subst e0
  subst e2
  refine (l3Block_any hv s g0 c0 g1 c1 w hs R0 R1).mono fun e w' ⟨b, c, h1, h2, h3⟩ => ?_
  have hfr : ∀ k, hblk (.slice (some ⟨b, 0, none⟩) 8 c) = some k → w.heap.size ≤ k := fun k hk => by
    rw [hblk_own rfl] at hk
    exact (h2.lt k hk).1
  refine ⟨_, M, upd hh 2 _, .own 2, _, h1, ⟨rfl, rfl⟩, .own _ _ _ _ upd_self, Step.push I h3 (v := .slice (some ⟨b, 0, none⟩) 8 c) ⟨⟨_, _, _, rfl⟩, (listS (blk hv s 0)).map vI, own_less (Nat.zero_le _) h2, fun row hr => ?_, fun x hx => ?_, fun i j row pv x p1 p2 p3 => ?_⟩ hfr⟩
  · obtain ⟨y, _, rfl⟩ := List.mem_map.1 hr
    rfl
  · obtain ⟨y, _, rfl⟩ := List.mem_map.1 hx
    rfl
  · rw [List.getElem?_map, Option.map_eq_some_iff] at p1
    obtain ⟨y, p1, rfl⟩ := p1
    cases j with
    | zero =>
      simp [pW] at p2
      subst p2
      rw [Nat.mul_one, Nat.add_zero, List.getElem?_map, p1] at p3
      cases p3
      exact .val _
    | succ j => simp [pW] at p2
set_option maxHeartbeats 4000000 in
theorem sL3Keys_p : PCalls Tryd.prog 99 [] [] (RH (.own 0) [some (.row 3 1 (shaK.map pW))]) := by
  refine pcalls_ofR okP Tryd.func99 rfl ?_
  simp only [Tryd.f99, List.length_cons, List.length_nil, Nat.reduceAdd, Nat.reduceSub, List.replicate_succ, List.replicate_zero, List.cons_append, List.nil_append, List.length_map]
  repeat' (first
      | with_reducible refine PWp.seq ?_
      | with_reducible refine PWp.block ?_
      | with_reducible refine PWp.region okP true ?_
      | with_reducible (first | refine pops_nil ?_ | refine pany_nil ?_ | refine pthen_normal ?_ | refine pblock_normal ?_ | refine pthen_ret ?_ | refine pblock_ret ?_ | refine pthen_exit ?_ | refine pblock_here ?_ | refine pblock_there rfl ?_ | refine PWp.ret ?_ | refine PWp.exit ?_ | refine PWp.skip ?_)
      | ((with_reducible refine hK _ ?_); clear hK K)
      | ((with_reducible refine PWp.condI ?_); refine ⟨_, rfl, fun hg => ?_, fun hg => ?_⟩ <;> first | (exact absurd hg (by decide)) | ((try simp only [Bool.not_true, Bool.not_false] at hg); (try simp only [hg]); (try simp only [push_cast] at hg); (try exact absurd trivial hg); (try (exfalso; omega))))
      | ((first | ((with_reducible refine pops_guard0 ?_); refine ⟨_, rfl, fun K hK => ⟨rfl, ?_⟩⟩) | ((with_reducible refine pD_g0 ?_); refine ⟨_, rfl, rfl, ?_⟩)); (try simp (disch := omega) only [push_cast, seval]))
      | ((with_reducible refine pany_I ?_); refine ⟨_, rfl, fun K hK => ?_⟩)
      | ((with_reducible refine pops_plain fun K hK => popO_row ?_); refine ⟨_, _, _, _, _, rfl, rfl, rfl, rfl, rfl, ?_⟩; simp (disch := omega) only [push_cast, seval])
      | ((with_reducible refine pD_x ?_ (popO_row ?_)); exact rfl; refine ⟨_, _, _, _, _, rfl, rfl, rfl, rfl, rfl, ?_⟩; simp (disch := omega) only [push_cast, seval])
      | ((with_reducible refine pops_plain fun K hK => ?_); simp (disch := omega) only [push_cast, seval])
      | ((first | ((with_reducible refine pD_y ?_ ?_); exact rfl) | ((with_reducible refine pD_x ?_ ?_); exact rfl)); simp (disch := omega) only [push_cast, seval])
      | ((first | ((with_reducible refine pops_guard ?_); refine ⟨_, rfl, fun K hK => ⟨_, rfl, fun hg => ?_, fun hg => ?_⟩⟩) | ((first | ((with_reducible refine pD_gy ?_ ?_); exact rfl) | ((with_reducible refine pD_gx ?_ ?_); exact rfl)); refine ⟨_, rfl, _, rfl, fun hg => ?_, fun hg => ?_⟩)) <;> first | (exact absurd hg (by decide)) | ((try simp only [Bool.not_true, Bool.not_false] at hg); (try simp only [hg]); (try simp only [push_cast] at hg); (try exact absurd trivial hg); (try (exfalso; omega)); (try simp (disch := omega) only [push_cast, seval])))
      | ((with_reducible refine And.intro ?_ ?_); omega))
  ((first | with_reducible (first | refine pendH1 [?_] ?_ ?_ ?_ ?_ ?_ | refine pendH2 [?_] ?_ ?_ ?_ ?_ ?_ | refine pendH3 [?_] ?_ ?_ ?_ ?_ ?_ | refine pendH0 [?_] ?_ ?_ ?_ ?_ ?_) | refine pendHG [?_] ?_ ?_ ?_ ?_ ?_); rotate_left 1; (· (first | exact .inl rfl | exact .inr rfl)); (· ((try (apply Exists.intro; apply And.intro; (· repeat' (first | exact presults_nil | apply presults_tmp | (apply presults_agg; (· exact rfl); (· exact rfl); (· exact rfl); (· exact rfl); (· exact rfl); (· first | exact Nat.le_refl _ | decide | simp)) | (apply presults_one; (· exact rfl); (· exact rfl); (· exact rfl); (· exact rfl); (· exact rfl)))))); (try simp (disch := omega) only [push_cast, seval]); (repeat' (first | exact trivial | exact rfl | refine And.intro ?_ ?_ | omega)))); (· ((try simp (disch := omega) only [push_cast, seval]); (repeat' (first | exact trivial | exact rfl | refine And.intro ?_ ?_ | omega)))); (· exact rfl); (· first | exact trivial | exact ⟨rfl, trivial⟩ | exact ⟨rfl, rfl, trivial⟩))
theorem sL3Block_q (hv : HSt) (s : ByteArray) (l kl lr : List W32) (hs : s.size = 64) (e1 : l = listS hv) (e2 : kl = shaK) (e3 : lr = listS (blk hv s 0)) : PCalls Tryd.prog 100 [.own 0, .val (.string s), .own 1] [some (.row 3 1 (l.map pW)), some (.row 3 1 (kl.map pW))]
    (RH (.own 2) [some (.row 3 1 (l.map pW)), some (.row 3 1 (kl.map pW)), some (.row 3 1 (lr.map pW))]) := by
  subst e1
  subst e2
  subst e3
  exact sL3Block_p hv s hs
theorem sL3Keys_q (kl : List W32) (e2 : kl = shaK) : PCalls Tryd.prog 99 [] [] (RH (.own 0) [some (.row 3 1 (kl.map pW))]) := by
  subst e2
  exact sL3Keys_p
end Go.Proofs.YtgcelmnmalfpcaaDoor

/- What the proof leans on, part 6. -/
import Derived.Test.YtiboajlnjldalaaGreatDoorQR5
namespace Go.Proofs.YtiboajlnjldalaaGreatDoor
set_option linter.unusedSimpArgs false
set_option linter.unusedVariables false
open Go.RowKit
set_option maxRecDepth 100000
theorem sL22Ids_p (l : List GVal) (hl : l.length ≤ 1000000) : PCalls Tryz.prog 85 [.sl 2 (l.map pVal)] [] (RH (.own 0) [some (.row 3 1 ((l.map (·.fId)).map pInt))]) := by
  refine pcalls_ofR okP Tryz.func85 rfl ?_
  simp only [Tryz.f85, List.length_cons, List.length_nil, Nat.reduceAdd, Nat.reduceSub, List.replicate_succ, List.replicate_zero, List.cons_append, List.nil_append, List.length_map]
  repeat' (first | with_reducible (first | refine wA ?_ | refine wB ?_ | refine wC ?_ | refine w1 ?_ | refine w2 ?_ | refine w3 ?_ | refine w4 ?_ | refine w5 ?_ | refine w6 ?_ | refine w7 ?_ | refine w8 ?_ | refine wT ?_ | refine w9 ?_ | refine wE ?_ | refine wS ?_) | ((with_reducible refine hK _ ?_); clear hK K) | ((with_reducible refine PWp.condI ?_); refine ⟨_, rfl, fun hg => ?_, fun hg => ?_⟩ <;> first | (exact absurd hg (by decide)) | ((try simp only [Bool.not_true, Bool.not_false] at hg); (try simp only [hg]); (try simp only [push_cast] at hg); (try exact absurd trivial hg); (try (exfalso; omega)))) | ((with_reducible refine pops_plain fun K hK => popO_row ?_); refine ⟨_, _, _, _, _, rfl, rfl, rfl, rfl, rfl, ?_⟩; simp (disch := omega) only [push_cast, seval]) | ((with_reducible refine pops_plain fun K hK => ?_); simp (disch := omega) only [push_cast, seval]) | ((with_reducible refine And.intro ?_ ?_); omega))
  refine PWp.loopK (α := Nat) (fun k => [(3, .own 0), (4, .val (.int .i64 (k : Int)))]) [1, 5, 6, 7, 8, 9, 10, 11, 12, 13, 14, 15, 16, 17, 18, 19] (fun k => [some (.row 3 1 (((l.take k).map (·.fId)).map pInt))]) (fun k => k ≤ l.length) (fun k => l.length - k) (0) (Nat.zero_le _) (by (refine ⟨[?_], ?_, ?_, ?_, ?_⟩; rotate_left 1; (· ((try simp (disch := omega) only [push_cast, seval]); (repeat' (first | exact trivial | exact rfl | refine And.intro ?_ ?_ | omega)))); (· ((try simp (disch := omega) only [push_cast, seval]); (repeat' (first | exact trivial | exact rfl | refine And.intro ?_ ?_ | omega)))); (· exact rfl); (· (first | exact trivial | exact ⟨rfl, trivial⟩ | exact ⟨rfl, rfl, trivial⟩)))) ?_
  intro k ρ hI
  (try dsimp only at hI)
  refine PWp.at (tm' := ?_) (H' := ?_) ?_ ?_ ?_; rotate_left 2; (· ((try simp only [push_cast, seval]); exact rfl)); (· ((try dsimp only); exact rfl))
  by_cases hlt : k < l.length
  · obtain ⟨x, hx⟩ : ∃ x, l[k]? = some x := ⟨_, List.getElem?_eq_getElem hlt⟩
    have e : l.take (k + 1) = l.take k ++ [x] := by rw [List.take_add_one, hx]; rfl
    have hln : (l.take k).length ≤ 1000000 := by rw [List.length_take]; omega
    repeat' (first | with_reducible (first | refine wA ?_ | refine wB ?_ | refine wC ?_ | refine w1 ?_ | refine w2 ?_ | refine w3 ?_ | refine w4 ?_ | refine w5 ?_ | refine w6 ?_ | refine w7 ?_ | refine w8 ?_ | refine wT ?_ | refine w9 ?_ | refine wE ?_ | refine wS ?_) | ((with_reducible refine hK _ ?_); clear hK K) | ((with_reducible refine PWp.condI ?_); refine ⟨_, rfl, fun hg => ?_, fun hg => ?_⟩ <;> first | (exact absurd hg (by decide)) | ((try simp only [Bool.not_true, Bool.not_false] at hg); (try simp only [hg]); (try simp only [push_cast] at hg); (try exact absurd trivial hg); (try (exfalso; omega)))) | ((with_reducible refine pops_plain fun K hK => popO_row ?_); refine ⟨_, _, _, _, _, rfl, rfl, rfl, rfl, rfl, ?_⟩; simp (disch := omega) only [push_cast, seval, hx]) | ((with_reducible refine pops_plain fun K hK => ?_); simp (disch := omega) only [push_cast, seval, hx]) | ((with_reducible refine And.intro ?_ ?_); omega))
    (refine ⟨k + 1, by ((try dsimp only); omega), ?_, by (refine ⟨[?_], ?_, ?_, ?_, ?_⟩; rotate_left 1; (· ((first | simp (disch := omega) only [push_cast, seval, e, List.map_append, List.map_cons, List.map_nil, pInt] | simp (disch := omega) only [push_cast, seval] | skip); (repeat' (first | exact trivial | exact rfl | refine And.intro ?_ ?_ | omega)))); (· ((first | simp (disch := omega) only [push_cast, seval, e, List.map_append, List.map_cons, List.map_nil, pInt] | simp (disch := omega) only [push_cast, seval] | skip); (repeat' (first | exact trivial | exact rfl | refine And.intro ?_ ?_ | omega)))); (· exact rfl); (· (first | exact trivial | exact ⟨rfl, trivial⟩ | exact ⟨rfl, rfl, trivial⟩)))⟩)
    exact hlt
  obtain rfl : k = l.length := by omega
  rw [List.take_length]
  repeat' (first | with_reducible (first | refine wA ?_ | refine wB ?_ | refine wC ?_ | refine w1 ?_ | refine w2 ?_ | refine w3 ?_ | refine w4 ?_ | refine w5 ?_ | refine w6 ?_ | refine w7 ?_ | refine w8 ?_ | refine wT ?_ | refine w9 ?_ | refine wE ?_ | refine wS ?_) | ((with_reducible refine hK _ ?_); clear hK K) | ((with_reducible refine PWp.condI ?_); refine ⟨_, rfl, fun hg => ?_, fun hg => ?_⟩ <;> first | (exact absurd hg (by decide)) | ((try simp only [Bool.not_true, Bool.not_false] at hg); (try simp only [hg]); (try simp only [push_cast] at hg); (try exact absurd trivial hg); (try (exfalso; omega)))) | ((with_reducible refine pops_plain fun K hK => popO_row ?_); refine ⟨_, _, _, _, _, rfl, rfl, rfl, rfl, rfl, ?_⟩; simp (disch := omega) only [push_cast, seval]) | ((with_reducible refine pops_plain fun K hK => ?_); simp (disch := omega) only [push_cast, seval]) | ((with_reducible refine And.intro ?_ ?_); omega))
  ((with_reducible show PPostR _ _ _ _ _ _); exact finH [_])
def pBkO (b : GBlock) : List PV := [.val (.int .i64 b.fHead.fHeight), .val (.int .i64 b.fHead.fTime), .val (.string b.fHead.fLast), .val (.string b.fHead.fVals), .val (.string b.fHead.fNext), .val (.string b.fHead.fData), .own 0, .own 1, .val (.int .i64 b.fCommit.fHeight), .val (.int .i64 b.fCommit.fRound), .val (.string b.fCommit.fId), .own 2]
def bBk (b : GBlock) : Hp := [some (.row 141 2 (b.fVals.map pVal)), some (.row 141 2 (b.fNext.map pVal)), some (.row 227 2 (b.fCommit.fSigs.map pCSig))]
attribute [push_cast] pBkO bBk
theorem frzOk_rows {α : Type} {H : Hp} {f : α → List PV} (h : ∀ x, (f x).all cloC = true) (l : List α) : ∀ row ∈ l.map f, ∀ p ∈ row, frzOk H 0 p := fun row hr p hp => by
  obtain ⟨x, _, rfl⟩ := List.mem_map.1 hr
  exact List.all_eq_true.1 (h x) p hp
theorem blk_frz {P : Program} {f : FuncId} {args : List PV} {b : GBlock} (c : PCalls P f args [] (RH (.agg (pBkO b)) (bBk b))) : PCalls P f args [] (RH (.agg (pBlock b)) []) :=
  c.freeze 2 fun r H ⟨e1, e2⟩ => by
    subst e1; subst e2
    refine ⟨fun p hp => ?_, ?_, rfl⟩
    · simp only [pBkO, List.mem_cons, List.not_mem_nil, or_false] at hp
      rcases hp with rfl | rfl | rfl | rfl | rfl | rfl | rfl | rfl | rfl | rfl | rfl | rfl
      all_goals first
        | exact rfl
        | exact frzOk_rows (fun _ => rfl) _
    · simp only [frz, pBkO, bBk, List.map_cons, List.map_nil, List.getElem?_cons_zero, List.getElem?_cons_succ, List.map_id']
      rfl
theorem iCopyBlock_o (b : GBlock) (hs : SmB b) : PCalls Tryz.prog 97 [.agg (pBlock b)] [] (RH (.agg (pBkO b)) (bBk b)) := by
  obtain ⟨h1, h2, h3⟩ := hs
  obtain ⟨⟨a1, a2, a3, a4, a5, a6⟩, vs, nx, ⟨ch, cr, ci, cs⟩⟩ := b
  dsimp only at h1 h2 h3
  refine pcalls_ofR okP Tryz.func97 rfl ?_
  simp only [Tryz.f97, List.length_cons, List.length_nil, Nat.reduceAdd, Nat.reduceSub, List.replicate_succ, List.replicate_zero, List.cons_append, List.nil_append, List.length_map]
  repeat' (first | with_reducible (first | refine wA ?_ | refine wB ?_ | refine wC ?_ | refine w1 ?_ | refine w2 ?_ | refine w3 ?_ | refine w4 ?_ | refine w5 ?_ | refine w6 ?_ | refine w7 ?_ | refine w8 ?_ | refine wT ?_ | refine w9 ?_ | refine wE ?_ | refine wS ?_) | ((with_reducible refine hK _ ?_); clear hK K) | ((with_reducible refine pops_plain fun K hK => ?_); simp (disch := omega) only [push_cast, seval]) | ((with_reducible show pcall _ _ _ _ _ _); (first | (refine pcF (cf Tryz.func120) (copyVals_p _ sd) ?_) | (refine pcF (cf Tryz.func120) (iCopyVals_p _ sd) ?_)); (try simp (disch := omega) only [push_cast, seval])) | ((with_reducible refine And.intro ?_ ?_); omega))
  all_goals ((with_reducible show PPostR _ _ _ _ _ _); exact finH [_, _, _])
theorem sL22Copy_o (b : GBlock) (hs : SmB b) : PCalls Tryz.prog 86 [.agg (pBlock b)] [] (RH (.agg (pBkO b)) (bBk b)) := by
  obtain ⟨h1, h2, h3⟩ := hs
  obtain ⟨⟨a1, a2, a3, a4, a5, a6⟩, vs, nx, ⟨ch, cr, ci, cs⟩⟩ := b
  dsimp only at h1 h2 h3
  refine pcalls_ofR okP Tryz.func86 rfl ?_
  simp only [Tryz.f86, List.length_cons, List.length_nil, Nat.reduceAdd, Nat.reduceSub, List.replicate_succ, List.replicate_zero, List.cons_append, List.nil_append, List.length_map]
  repeat' (first | with_reducible (first | refine wA ?_ | refine wB ?_ | refine wC ?_ | refine w1 ?_ | refine w2 ?_ | refine w3 ?_ | refine w4 ?_ | refine w5 ?_ | refine w6 ?_ | refine w7 ?_ | refine w8 ?_ | refine wT ?_ | refine w9 ?_ | refine wE ?_ | refine wS ?_) | ((with_reducible refine hK _ ?_); clear hK K) | ((with_reducible refine pops_plain fun K hK => popO_row ?_); refine ⟨_, _, _, _, _, rfl, rfl, rfl, rfl, rfl, ?_⟩; simp (disch := omega) only [push_cast, seval]) | ((with_reducible refine pops_plain fun K hK => ?_); simp (disch := omega) only [push_cast, seval]) | ((with_reducible refine And.intro ?_ ?_); omega))
  all_goals ((with_reducible show PPostR _ _ _ _ _ _); exact finH [_, _, _])
theorem sL22Copy_p (b : GBlock) (hs : SmB b) : PCalls Tryz.prog 86 [.agg (pBlock b)] [] (RH (.agg (pBlock b)) []) := blk_frz (sL22Copy_o b hs)
theorem cm_frz {P : Program} {f : FuncId} {args : List PV} {c : GCommit} {t : TypeId} (h : PCalls P f args [] (RH (.agg [.val (.int .i64 c.fHeight), .val (.int .i64 c.fRound), .val (.string c.fId), .own 0]) [some (.row t 2 (c.fSigs.map pCSig))])) : PCalls P f args [] (RH (.agg (pCommit c)) []) :=
  h.freeze 2 fun r H ⟨e1, e2⟩ => by
    subst e1; subst e2
    refine ⟨fun p hp => ?_, ?_, rfl⟩
    · simp only [List.mem_cons, List.not_mem_nil, or_false] at hp
      rcases hp with rfl | rfl | rfl | rfl
      all_goals first
        | exact rfl
        | exact frzOk_rows (fun _ => rfl) _
    · simp only [frz, List.map_cons, List.map_nil, List.getElem?_cons_zero, List.map_id']
      rfl
set_option maxHeartbeats 4000000 in
theorem sL9For_o (hd : GHeader) (round : Int) (ids : List Int) (hl : ids.length ≤ 1000) : PCalls Tryz.prog 84 [.agg (pHeader hd), .val (.int .i64 round), .sl 1 (ids.map pInt)] [] (RH (.agg [.val (.int .i64 hd.fHeight), .val (.int .i64 round), .val (.string (headId hd)), .own 0]) [some (.row 227 2 ((cFor hd round ids).fSigs.map pCSig))]) := by
  have hid := headId_le hd
  obtain ⟨h1, h2, h3, h4, h5, h6⟩ := hd
  unfold cFor
  dsimp only at *
  generalize hid' : headId ⟨h1, h2, h3, h4, h5, h6⟩ = id at *
  refine pcalls_ofR okP Tryz.func84 rfl ?_
  simp only [Tryz.f84, List.length_cons, List.length_nil, Nat.reduceAdd, Nat.reduceSub, List.replicate_succ, List.replicate_zero, List.cons_append, List.nil_append, List.length_map]
  repeat' (first | with_reducible refine mkRegion (id := 2) ?_ | with_reducible (first | refine wA ?_ | refine wB ?_ | refine wC ?_) | with_reducible refine PWp.draw (id := 5) okP true [0, 1, 2, 3, 4, 5, 6, 7, 8, 9, 10, 11, 12, 13, 14, 15, 16, 17, 18, 19, 20, 21, 22] (by kernel_rfl) ?_ | with_reducible refine PWp.drawT (id := 1) okP true (.step 0 (.step 1 (.step 2 (.step 3 (.fork (.alt 4 (.step 5 (.step 6 (.step 7 .done))) (.alt 6 (.step 4 (.step 5 (.step 7 .done))) .stop))))))) (by kernel_rfl) ?_ | with_reducible (first | refine w1 ?_ | refine w2 ?_ | refine w3 ?_ | refine w4 ?_ | refine w5 ?_ | refine w6 ?_ | refine w7 ?_ | refine w8 ?_ | refine wT ?_ | refine w9 ?_ | refine wE ?_ | refine wS ?_) | ((with_reducible refine hK _ ?_); clear hK K) | ((with_reducible refine PWp.condI ?_); refine ⟨_, rfl, fun hg => ?_, fun hg => ?_⟩ <;> first | (exact absurd hg (by decide)) | ((try simp only [Bool.not_true, Bool.not_false] at hg); (try simp only [hg]); (try simp only [push_cast] at hg); (try exact absurd trivial hg); (try (exfalso; omega)))) | with_reducible (first | refine ptree_done ?_ | exact ptree_stop | refine ptree_fork ?_) | ((with_reducible refine ptree_I ?_); refine ⟨_, rfl, fun K hK => ?_⟩) | ((with_reducible refine ptree_A ?_ ?_); (refine ⟨_, rfl, fun K hK => ?_⟩)) | ((with_reducible refine pany_I ?_); refine ⟨_, rfl, fun K hK => ?_⟩) | ((with_reducible refine pops_plain fun K hK => popO_row ?_); refine ⟨_, _, _, _, _, rfl, rfl, rfl, rfl, rfl, ?_⟩; simp (disch := omega) only [push_cast, seval, hid']) | ((with_reducible refine pD_x ?_ (popO_row ?_)); exact rfl; refine ⟨_, _, _, _, _, rfl, rfl, rfl, rfl, rfl, ?_⟩; simp (disch := omega) only [push_cast, seval, hid']) | ((with_reducible refine pops_plain fun K hK => popO_build ?_); refine ⟨_, rfl, _, rfl, ?_⟩; simp (disch := omega) only [push_cast, seval, hid']) | ((with_reducible refine pD_y ?_ (py_build ?_)); exact rfl; refine ⟨_, rfl, _, rfl, ?_⟩; simp (disch := omega) only [push_cast, seval, hid']) | ((with_reducible refine pbuild_cs ?_); refine ⟨_, rfl, _, rfl, ?_⟩; simp (disch := omega) only [push_cast, seval, hid']) | ((with_reducible refine pops_plain fun K hK => ?_); simp (disch := omega) only [push_cast, seval, hid']) | ((first | ((with_reducible refine pD_y ?_ ?_); exact rfl) | ((with_reducible refine pD_x ?_ ?_); exact rfl)); simp (disch := omega) only [push_cast, seval, hid']) | ((with_reducible show pcall _ _ _ _ _ _); (first | (refine pcV (cf Tryz.func72) (sHeadId_p ⟨_, _, _, _, _, _⟩) ?_) | (refine pcV (cf Tryz.func185) (sSignAs_p _ _ sd) ?_) | (refine pcV (cf Tryz.func186) (sDigest_p ⟨_, _, _, _, _⟩) ?_) | (refine pcH (cf Tryz.func187) (sL9Vote_p ⟨_, _, _, _⟩ _) ?_)); (try simp (disch := omega) only [push_cast, seval, hid'])) | ((with_reducible refine And.intro ?_ ?_); omega))
  all_goals
    refine Mk.of ?_
    refine PWp.nilB 2 3 227 2 rfl rfl ?_
    repeat' (first | with_reducible (first | refine wA ?_ | refine wB ?_ | refine wC ?_) | with_reducible refine PWp.draw (id := 5) okP true [0, 1, 2, 3, 4, 5, 6, 7, 8, 9, 10, 11, 12, 13, 14, 15, 16, 17, 18, 19, 20, 21, 22] (by kernel_rfl) ?_ | with_reducible refine PWp.drawT (id := 1) okP true (.step 0 (.step 1 (.step 2 (.step 3 (.fork (.alt 4 (.step 5 (.step 6 (.step 7 .done))) (.alt 6 (.step 4 (.step 5 (.step 7 .done))) .stop))))))) (by kernel_rfl) ?_ | with_reducible (first | refine w1 ?_ | refine w2 ?_ | refine w3 ?_ | refine w4 ?_ | refine w5 ?_ | refine w6 ?_ | refine w7 ?_ | refine w8 ?_ | refine wT ?_ | refine w9 ?_ | refine wE ?_ | refine wS ?_) | ((with_reducible refine hK _ ?_); clear hK K) | ((with_reducible refine PWp.condI ?_); refine ⟨_, rfl, fun hg => ?_, fun hg => ?_⟩ <;> first | (exact absurd hg (by decide)) | ((try simp only [Bool.not_true, Bool.not_false] at hg); (try simp only [hg]); (try simp only [push_cast] at hg); (try exact absurd trivial hg); (try (exfalso; omega)))) | with_reducible (first | refine ptree_done ?_ | exact ptree_stop | refine ptree_fork ?_) | ((with_reducible refine ptree_I ?_); refine ⟨_, rfl, fun K hK => ?_⟩) | ((with_reducible refine ptree_A ?_ ?_); (refine ⟨_, rfl, fun K hK => ?_⟩)) | ((with_reducible refine pany_I ?_); refine ⟨_, rfl, fun K hK => ?_⟩) | ((with_reducible refine pops_plain fun K hK => popO_row ?_); refine ⟨_, _, _, _, _, rfl, rfl, rfl, rfl, rfl, ?_⟩; simp (disch := omega) only [push_cast, seval]) | ((with_reducible refine pD_x ?_ (popO_row ?_)); exact rfl; refine ⟨_, _, _, _, _, rfl, rfl, rfl, rfl, rfl, ?_⟩; simp (disch := omega) only [push_cast, seval]) | ((with_reducible refine pops_plain fun K hK => popO_build ?_); refine ⟨_, rfl, _, rfl, ?_⟩; simp (disch := omega) only [push_cast, seval]) | ((with_reducible refine pD_y ?_ (py_build ?_)); exact rfl; refine ⟨_, rfl, _, rfl, ?_⟩; simp (disch := omega) only [push_cast, seval]) | ((with_reducible refine pbuild_cs ?_); refine ⟨_, rfl, _, rfl, ?_⟩; simp (disch := omega) only [push_cast, seval]) | ((with_reducible refine pops_plain fun K hK => ?_); simp (disch := omega) only [push_cast, seval]) | ((first | ((with_reducible refine pD_y ?_ ?_); exact rfl) | ((with_reducible refine pD_x ?_ ?_); exact rfl)); simp (disch := omega) only [push_cast, seval]) | ((with_reducible show pcall _ _ _ _ _ _); (first | (refine pcV (cf Tryz.func72) (sHeadId_p ⟨_, _, _, _, _, _⟩) ?_) | (refine pcV (cf Tryz.func185) (sSignAs_p _ _ sd) ?_) | (refine pcV (cf Tryz.func186) (sDigest_p ⟨_, _, _, _, _⟩) ?_) | (refine pcH (cf Tryz.func187) (sL9Vote_p ⟨_, _, _, _⟩ _) ?_)); (try simp (disch := omega) only [push_cast, seval])) | ((with_reducible refine And.intro ?_ ?_); omega))
    refine PWp.loopK (α := Nat) (fun k => [(6, .ptr 1 0), (7, .ptr 0 0), (8, .val (.int .i64 (k : Int)))]) [0, 1, 3, 4, 5, 9, 10, 11, 12, 13, 14, 15, 16, 17, 18, 19, 20, 21, 22, 23, 24, 25, 26, 27, 28, 29, 30, 31, 32, 33, 34, 35, 36, 37, 38, 39, 40, 41, 42] (fun k => [some (.box [.val (.int .i64 h1), .val (.int .i64 round), .val (.string id), .own 2]), some (.box [.val (.int .i64 0), .val (.int .i64 0), .val (.string ⟨#[]⟩), .val (.slice none 0 0)]), some (.row 227 2 (((ids.take k).map (sigOf h1 round id)).map pCSig))]) (fun k => k ≤ ids.length) (fun k => ids.length - k) (0) (Nat.zero_le _) (by (refine ⟨[?_, ?_, ?_], ?_, ?_, ?_, ?_⟩; rotate_left 3; (· ((try simp (disch := omega) only [push_cast, seval]); (repeat' (first | exact trivial | exact rfl | refine And.intro ?_ ?_ | omega)))); (· ((try simp (disch := omega) only [push_cast, seval]); (repeat' (first | exact trivial | exact rfl | refine And.intro ?_ ?_ | omega)))); (· exact rfl); (· (first | exact trivial | exact ⟨rfl, trivial⟩ | exact ⟨rfl, rfl, trivial⟩)))) ?_
    intro k ρ hI
    (try dsimp only at hI)
    refine PWp.at (tm' := ?_) (H' := ?_) ?_ ?_ ?_; rotate_left 2; (· ((try simp only [push_cast, seval]); exact rfl)); (· ((try dsimp only); exact rfl))
    by_cases hlt : k < ids.length
    case' pos =>
      obtain ⟨x, hx⟩ : ∃ x, ids[k]? = some x := ⟨_, List.getElem?_eq_getElem hlt⟩
      have e : ids.take (k + 1) = ids.take k ++ [x] := by rw [List.take_add_one, hx]; rfl
      have hln : (ids.take k).length ≤ 1000 := by rw [List.length_take]; omega
      have hdz := digest_size ⟨h1, round, 2, id, x⟩
      repeat' (first | with_reducible (first | refine wA ?_ | refine wB ?_ | refine wC ?_) | with_reducible refine PWp.draw (id := 5) okP true [0, 1, 2, 3, 4, 5, 6, 7, 8, 9, 10, 11, 12, 13, 14, 15, 16, 17, 18, 19, 20, 21, 22] (by kernel_rfl) ?_ | with_reducible refine PWp.drawT (id := 1) okP true (.step 0 (.step 1 (.step 2 (.step 3 (.fork (.alt 4 (.step 5 (.step 6 (.step 7 .done))) (.alt 6 (.step 4 (.step 5 (.step 7 .done))) .stop))))))) (by kernel_rfl) ?_ | with_reducible (first | refine w1 ?_ | refine w2 ?_ | refine w3 ?_ | refine w4 ?_ | refine w5 ?_ | refine w6 ?_ | refine w7 ?_ | refine w8 ?_ | refine wT ?_ | refine w9 ?_ | refine wE ?_ | refine wS ?_) | ((with_reducible refine hK _ ?_); clear hK K) | ((with_reducible refine PWp.condI ?_); refine ⟨_, rfl, fun hg => ?_, fun hg => ?_⟩ <;> first | (exact absurd hg (by decide)) | ((try simp only [Bool.not_true, Bool.not_false] at hg); (try simp only [hg]); (try simp only [push_cast] at hg); (try exact absurd trivial hg); (try (exfalso; omega)))) | with_reducible (first | refine ptree_done ?_ | exact ptree_stop | refine ptree_fork ?_) | ((with_reducible refine ptree_I ?_); refine ⟨_, rfl, fun K hK => ?_⟩) | ((with_reducible refine ptree_A ?_ ?_); (refine ⟨_, rfl, fun K hK => ?_⟩)) | ((with_reducible refine pany_I ?_); refine ⟨_, rfl, fun K hK => ?_⟩) | ((with_reducible refine pops_plain fun K hK => popO_row ?_); refine ⟨_, _, _, _, _, rfl, rfl, rfl, rfl, rfl, ?_⟩; simp (disch := omega) only [push_cast, seval, hx, pInt]) | ((with_reducible refine pD_x ?_ (popO_row ?_)); exact rfl; refine ⟨_, _, _, _, _, rfl, rfl, rfl, rfl, rfl, ?_⟩; simp (disch := omega) only [push_cast, seval, hx, pInt]) | ((with_reducible refine pops_plain fun K hK => popO_build ?_); refine ⟨_, rfl, _, rfl, ?_⟩; simp (disch := omega) only [push_cast, seval, hx, pInt]) | ((with_reducible refine pD_y ?_ (py_build ?_)); exact rfl; refine ⟨_, rfl, _, rfl, ?_⟩; simp (disch := omega) only [push_cast, seval, hx, pInt]) | ((with_reducible refine pbuild_cs ?_); refine ⟨_, rfl, _, rfl, ?_⟩; simp (disch := omega) only [push_cast, seval, hx, pInt]) | ((with_reducible refine pops_plain fun K hK => ?_); simp (disch := omega) only [push_cast, seval, hx, pInt]) | ((first | ((with_reducible refine pD_y ?_ ?_); exact rfl) | ((with_reducible refine pD_x ?_ ?_); exact rfl)); simp (disch := omega) only [push_cast, seval, hx, pInt]) | ((with_reducible show pcall _ _ _ _ _ _); (first | (refine pcV (cf Tryz.func72) (sHeadId_p ⟨_, _, _, _, _, _⟩) ?_) | (refine pcV (cf Tryz.func185) (sSignAs_p _ _ sd) ?_) | (refine pcV (cf Tryz.func186) (sDigest_p ⟨_, _, _, _, _⟩) ?_) | (refine pcH (cf Tryz.func187) (sL9Vote_p ⟨_, _, _, _⟩ _) ?_)); (try simp (disch := omega) only [push_cast, seval, hx, pInt])) | ((with_reducible refine And.intro ?_ ?_); omega))
      all_goals
        (refine ⟨k + 1, by ((try dsimp only); omega), ?_, by (refine ⟨[?_, ?_, ?_], ?_, ?_, ?_, ?_⟩; rotate_left 3; (· ((first | simp (disch := omega) only [push_cast, seval, e, List.map_append, List.map_cons, List.map_nil, pCSig, sigOf] | simp (disch := omega) only [push_cast, seval] | skip); (repeat' (first | exact trivial | exact rfl | refine And.intro ?_ ?_ | omega)))); (· ((first | simp (disch := omega) only [push_cast, seval, e, List.map_append, List.map_cons, List.map_nil, pCSig, sigOf] | simp (disch := omega) only [push_cast, seval] | skip); (repeat' (first | exact trivial | exact rfl | refine And.intro ?_ ?_ | omega)))); (· exact rfl); (· (first | exact trivial | exact ⟨rfl, trivial⟩ | exact ⟨rfl, rfl, trivial⟩)))⟩)
        exact hlt
    case' neg =>
      obtain rfl : k = ids.length := by omega
      rw [List.take_length]
      repeat' (first | with_reducible (first | refine wA ?_ | refine wB ?_ | refine wC ?_) | with_reducible refine PWp.draw (id := 5) okP true [0, 1, 2, 3, 4, 5, 6, 7, 8, 9, 10, 11, 12, 13, 14, 15, 16, 17, 18, 19, 20, 21, 22] (by kernel_rfl) ?_ | with_reducible refine PWp.drawT (id := 1) okP true (.step 0 (.step 1 (.step 2 (.step 3 (.fork (.alt 4 (.step 5 (.step 6 (.step 7 .done))) (.alt 6 (.step 4 (.step 5 (.step 7 .done))) .stop))))))) (by kernel_rfl) ?_ | with_reducible (first | refine w1 ?_ | refine w2 ?_ | refine w3 ?_ | refine w4 ?_ | refine w5 ?_ | refine w6 ?_ | refine w7 ?_ | refine w8 ?_ | refine wT ?_ | refine w9 ?_ | refine wE ?_ | refine wS ?_) | ((with_reducible refine hK _ ?_); clear hK K) | ((with_reducible refine PWp.condI ?_); refine ⟨_, rfl, fun hg => ?_, fun hg => ?_⟩ <;> first | (exact absurd hg (by decide)) | ((try simp only [Bool.not_true, Bool.not_false] at hg); (try simp only [hg]); (try simp only [push_cast] at hg); (try exact absurd trivial hg); (try (exfalso; omega)))) | with_reducible (first | refine ptree_done ?_ | exact ptree_stop | refine ptree_fork ?_) | ((with_reducible refine ptree_I ?_); refine ⟨_, rfl, fun K hK => ?_⟩) | ((with_reducible refine ptree_A ?_ ?_); (refine ⟨_, rfl, fun K hK => ?_⟩)) | ((with_reducible refine pany_I ?_); refine ⟨_, rfl, fun K hK => ?_⟩) | ((with_reducible refine pops_plain fun K hK => popO_row ?_); refine ⟨_, _, _, _, _, rfl, rfl, rfl, rfl, rfl, ?_⟩; simp (disch := omega) only [push_cast, seval]) | ((with_reducible refine pD_x ?_ (popO_row ?_)); exact rfl; refine ⟨_, _, _, _, _, rfl, rfl, rfl, rfl, rfl, ?_⟩; simp (disch := omega) only [push_cast, seval]) | ((with_reducible refine pops_plain fun K hK => popO_build ?_); refine ⟨_, rfl, _, rfl, ?_⟩; simp (disch := omega) only [push_cast, seval]) | ((with_reducible refine pD_y ?_ (py_build ?_)); exact rfl; refine ⟨_, rfl, _, rfl, ?_⟩; simp (disch := omega) only [push_cast, seval]) | ((with_reducible refine pbuild_cs ?_); refine ⟨_, rfl, _, rfl, ?_⟩; simp (disch := omega) only [push_cast, seval]) | ((with_reducible refine pops_plain fun K hK => ?_); simp (disch := omega) only [push_cast, seval]) | ((first | ((with_reducible refine pD_y ?_ ?_); exact rfl) | ((with_reducible refine pD_x ?_ ?_); exact rfl)); simp (disch := omega) only [push_cast, seval]) | ((with_reducible show pcall _ _ _ _ _ _); (first | (refine pcV (cf Tryz.func72) (sHeadId_p ⟨_, _, _, _, _, _⟩) ?_) | (refine pcV (cf Tryz.func185) (sSignAs_p _ _ sd) ?_) | (refine pcV (cf Tryz.func186) (sDigest_p ⟨_, _, _, _, _⟩) ?_) | (refine pcH (cf Tryz.func187) (sL9Vote_p ⟨_, _, _, _⟩ _) ?_)); (try simp (disch := omega) only [push_cast, seval])) | ((with_reducible refine And.intro ?_ ?_); omega))
      ((with_reducible show PPostR _ _ _ _ _ _); exact finH [_])
theorem sL9For_p (hd : GHeader) (round : Int) (ids : List Int) (hl : ids.length ≤ 1000) : PCalls Tryz.prog 84 [.agg (pHeader hd), .val (.int .i64 round), .sl 1 (ids.map pInt)] [] (RH (.agg (pCommit (cFor hd round ids))) []) :=
  cm_frz (c := cFor hd round ids) (sL9For_o hd round ids hl)
end Go.Proofs.YtiboajlnjldalaaGreatDoor
namespace Go.Proofs.YtiboajlnjldalaaGreatDoor
set_option linter.unusedSimpArgs false
set_option linter.unusedVariables false
open Go.RowKit
set_option maxRecDepth 100000
theorem rowC4 {r : List PV} (hr : r.all cloC = true) : ∀ row ∈ [r], row.all cloC = true := fun row hm => by rw [List.mem_singleton.1 hm]; exact hr
theorem sChO_p (l : List GVal) (a b : Int) (ok : valsOk l = true) : PCalls Tryz.prog 82 [.sl 2 (l.map pVal), .sl 2 [[.val (.int .i64 a), .val (.int .i64 b)]]] [] (RH (.tup [.own 0, .val (.bool (changeVals l [⟨a, b⟩]).2)]) [some (.row 141 2 ((changeVals l [⟨a, b⟩]).1.map pVal))]) := sChangeVals_o l [⟨a, b⟩] ok (by simp)
def ChSt (seed : ByteArray) : Nat → List GVal → Int → ByteArray → Prop
  | 0, v, t, l => v = [] ∧ t = 0 ∧ l = ⟨#[]⟩
  | k + 1, v, t, l => v = (chainAt seed k).fNext ∧ t = (chainAt seed k).fHead.fTime ∧ l = headId (chainAt seed k).fHead
def chVals (h : ByteArray) (j : Nat) (v : List GVal) : List GVal := match j with | 0 => firstTo h 4 | _ + 1 => v
structure ChFacts (j : Nat) (h : ByteArray) (v : List GVal) (t : Int) (l : ByteArray) : Prop where
  ok : valsOk (chVals h j v) = true
  t : 0 ≤ t ∧ t ≤ 5 * (j : Int)
  l : l.size ≤ 8
  v : v.length ≤ 7
theorem ch_facts {seed : ByteArray} {h : ByteArray} : ∀ {j : Nat} {v : List GVal} {t : Int} {l : ByteArray}, ChSt seed j v t l → j < 100 → ChFacts j h v t l
  | 0, _, _, _, ⟨rfl, rfl, rfl⟩, _ => ⟨firstTo_ok h, by decide, by decide, by decide⟩
  | k + 1, _, _, _, ⟨rfl, rfl, rfl⟩, hk => by
    have g := chainAt_good seed k (by omega)
    exact ⟨g.n, by have := g.t; omega, headId_le _, (valsOk_iff.1 g.n).2.2.2⟩
theorem ch_step {seed : ByteArray} : ∀ {j : Nat} {v : List GVal} {t : Int} {l : ByteArray}, ChSt seed j v t l → chainAt seed j = mkBlock (seedH seed ((j : Int) + 1)) ((j : Int) + 1) t l (chVals (seedH seed ((j : Int) + 1)) j v)
  | 0, _, _, _, ⟨rfl, rfl, rfl⟩ => rfl
  | k + 1, _, _, _, ⟨rfl, rfl, rfl⟩ => by
    rw [chainAt_succ]
    show mkBlock _ _ _ _ _ = mkBlock _ _ _ _ (chainAt seed k).fNext
    rw [show (((k + 1 : Nat) : Int) + 1) = (k : Int) + 2 by omega]
theorem ch_bytes {h : ByteArray} (hz : h.size = 32) (k : Nat) (hk : k < 32) : ∃ u : UInt8, h.data.toList[k]? = some u ∧ (u.toNat : Int) < 256 ∧ hbI h k = (u.toNat : Int) := by
  have hl : k < h.data.toList.length := by
    have : h.data.toList.length = h.size := rfl
    omega
  have := (h.data.toList[k]).toNat_lt
  exact ⟨_, List.getElem?_eq_getElem hl, by omega, hbI_get (List.getElem?_eq_getElem hl)⟩
theorem thawM {α : Type} {f : α → List PV} {b sz : Nat} {es : List (List PV)} (h : ∀ x, (f x).map (thaw1 b sz es) = f x) (l : List α) : (l.map f).map (fun row => row.map (thaw1 b sz es)) = l.map f := by
  rw [List.map_map]
  exact List.map_congr_left fun x _ => h x
theorem thawMV {b sz : Nat} {es : List (List PV)} (l : List GVal) : (l.map pVal).map (fun row => row.map (thaw1 b sz es)) = l.map pVal := thawM (fun _ => rfl) l
theorem thawMC {b sz : Nat} {es : List (List PV)} (l : List GCSig) : (l.map pCSig).map (fun row => row.map (thaw1 b sz es)) = l.map pCSig := thawM (fun _ => rfl) l
theorem thawMI {b sz : Nat} {es : List (List PV)} (l : List Int) : (l.map pInt).map (fun row => row.map (thaw1 b sz es)) = l.map pInt := thawM (fun _ => rfl) l
theorem thawMB {b sz : Nat} {es : List (List PV)} (l : List GBlock) : (l.map pBlock).map (fun row => row.map (thaw1 b sz es)) = l.map pBlock := thawM (fun _ => rfl) l
set_option maxHeartbeats 40000000 in
theorem sChainOf_o (seed : ByteArray) (n : Nat) (hs : seed.size ≤ 2000000) (hn : 1 ≤ n ∧ n ≤ 12) : PCalls Tryz.prog 14 [.val (.string seed), .val (.int .i64 (n : Int))] [] (RH (.own 0) [some (.row 36 12 ((chainTo seed n).map pBlock))]) := by
  have hin : inB (n : Int) 1 12 = true := inB_iff.2 ⟨by omega, by omega⟩
  refine pcalls_ofR okP Tryz.func14 rfl ?_
  simp only [Tryz.f14, List.length_cons, List.length_nil, Nat.reduceAdd, Nat.reduceSub, List.replicate_succ, List.replicate_zero, List.cons_append, List.nil_append, List.length_map]
  repeat' (first | with_reducible (first | refine wA ?_ | refine wB ?_ | refine wC ?_) | with_reducible refine PWp.draw (id := 15) okP true [0, 1, 2, 3, 4, 5, 6, 7, 8, 9, 10, 11, 12, 13, 14, 15, 16, 17] (by kernel_rfl) ?_ | with_reducible refine PWp.drawT (id := 17) okP true (.step 0 (.step 1 (.step 2 (.step 3 (.step 5 (.step 7 (.step 8 (.step 9 (.fork (.alt 4 (.fork (.alt 6 (.fork (.alt 10 (.step 11 (.step 12 (.step 13 .done))) (.alt 12 (.step 10 (.step 11 (.step 13 .done))) .stop))) (.alt 12 (.step 6 (.step 10 (.step 11 (.step 13 .done)))) .stop))) (.alt 12 (.step 4 (.step 6 (.step 10 (.step 11 (.step 13 .done))))) .stop))))))))))) (by kernel_rfl) ?_ | with_reducible refine PWp.drawT (id := 18) okP true (.step 0 (.step 1 (.step 2 (.step 3 (.step 4 (.fork (.alt 5 (.fork (.alt 6 (.step 7 (.step 8 (.step 9 .done))) (.alt 8 (.step 6 (.step 7 (.step 9 .done))) .stop))) (.alt 8 (.step 5 (.step 6 (.step 7 (.step 9 .done)))) .stop)))))))) (by kernel_rfl) ?_ | with_reducible (first | refine w1 ?_ | refine w2 ?_ | refine w3 ?_ | refine w4 ?_ | refine w5 ?_ | refine w6 ?_ | refine w7 ?_ | refine w8 ?_ | refine wT ?_ | refine w9 ?_ | refine wE ?_ | refine wS ?_) | ((with_reducible refine hK _ ?_); clear hK K) | ((with_reducible refine PWp.condI ?_); refine ⟨_, rfl, fun hg => ?_, fun hg => ?_⟩ <;> first | (exact absurd hg (by decide)) | ((try simp only [Bool.not_true, Bool.not_false] at hg); (try simp only [hg]); (try simp only [push_cast] at hg); (try exact absurd trivial hg); (try (exfalso; omega)))) | ((first | ((with_reducible refine pops_guard0 ?_); refine ⟨_, rfl, fun K hK => ⟨rfl, ?_⟩⟩) | ((with_reducible refine pD_g0 ?_); refine ⟨_, rfl, rfl, ?_⟩)); (try simp (disch := omega) only [push_cast, seval, hin])) | with_reducible (first | refine ptree_done ?_ | exact ptree_stop | refine ptree_fork ?_) | ((with_reducible refine ptree_I ?_); refine ⟨_, rfl, fun K hK => ?_⟩) | ((with_reducible refine ptree_A ?_ ?_); (refine ⟨_, rfl, fun K hK => ?_⟩)) | ((with_reducible refine pany_I ?_); refine ⟨_, rfl, fun K hK => ?_⟩) | ((with_reducible refine pops_plain fun K hK => popO_row ?_); refine ⟨_, _, _, _, _, rfl, rfl, rfl, rfl, rfl, ?_⟩; simp (disch := omega) only [push_cast, seval, hin]) | ((with_reducible refine pD_x ?_ (popO_row ?_)); exact rfl; refine ⟨_, _, _, _, _, rfl, rfl, rfl, rfl, rfl, ?_⟩; simp (disch := omega) only [push_cast, seval, hin]) | ((with_reducible refine pops_plain fun K hK => popO_build ?_); refine ⟨_, rfl, _, rfl, ?_⟩; simp (disch := omega) only [push_cast, seval, hin]) | ((with_reducible refine pD_y ?_ (py_build ?_)); exact rfl; refine ⟨_, rfl, _, rfl, ?_⟩; simp (disch := omega) only [push_cast, seval, hin]) | ((with_reducible refine pbuild_cs ?_); refine ⟨_, rfl, _, rfl, ?_⟩; simp (disch := omega) only [push_cast, seval, hin]) | ((with_reducible refine pops_plain fun K hK => ?_); simp (disch := omega) only [push_cast, seval, hin]) | ((first | ((with_reducible refine pD_y ?_ ?_); exact rfl) | ((with_reducible refine pD_x ?_ ?_); exact rfl)); simp (disch := omega) only [push_cast, seval, hin]) | ((first | ((with_reducible refine pops_guard ?_); refine ⟨_, rfl, fun K hK => ⟨_, rfl, fun hg => ?_, fun hg => ?_⟩⟩) | ((first | ((with_reducible refine pD_gy ?_ ?_); exact rfl) | ((with_reducible refine pD_gx ?_ ?_); exact rfl)); refine ⟨_, rfl, _, rfl, fun hg => ?_, fun hg => ?_⟩)) <;> first | (exact absurd hg (by decide)) | ((try simp only [Bool.not_true, Bool.not_false] at hg); (try simp only [hg]); (try simp only [push_cast] at hg); (try exact absurd trivial hg); (try (exfalso; omega)); (try simp (disch := omega) only [push_cast, seval, hin]))) | ((with_reducible show pcall _ _ _ _ _ _); (first | (refine pcV (cf Tryz.func72) (sHeadId_p ⟨_, _, _, _, _, _⟩) ?_) | (refine pcV (cf Tryz.func79) (l1In_p _ _ _) ?_) | (refine pcV (cf Tryz.func80) (sSha_p _ sd) ?_) | (refine pcV (cf Tryz.func81) (sDec_p _ sd) ?_) | (refine pcV (cf Tryz.func83) (sValsHash_p _ sd) ?_) | (refine pcH (cf Tryz.func84) (sL9For_p ⟨_, _, _, _, _, _⟩ _ _ sd) ?_) | (refine pcH (cf Tryz.func85) (sL22Ids_p _ sd) ?_) | (refine pcF (cf Tryz.func86) (sL22Copy_p ⟨⟨_, _, _, _, _, _⟩, _, _, ⟨_, _, _, _⟩⟩ (by first | assumption | exact ⟨by (first | assumption | omega | (simp; omega) | (simp_all; done) | (simp_all; omega)), by (first | assumption | omega | (simp; omega) | (simp_all; done) | (simp_all; omega)), by (first | assumption | omega | (simp; omega) | (simp_all; done) | (simp_all; omega))⟩)) ?_)); (try simp (disch := omega) only [push_cast, seval, hin])) | ((with_reducible refine And.intro ?_ ?_); omega))
  refine PWp.loopK (α := Nat × List GVal × Int × ByteArray) (fun x => match x with | (j, v, t, l) => [(5, .own 0), (6, .own 1), (7, .val (.int .i64 t)), (8, .val (.string l)), (9, .val (.int .i64 ((j : Int) + 1)))]) [2, 3, 10, 11, 12, 13, 14, 15, 16, 17, 18, 19, 20, 21, 22, 23, 24, 25, 26, 27, 28, 29, 30, 31, 32, 33, 34, 35, 36, 37, 38, 39, 40, 41, 42, 43, 44, 45, 46, 47, 48, 49, 50, 51, 52, 53, 54, 55, 56, 57, 58, 59, 60, 61, 62, 63, 64, 65, 66, 67, 68, 69, 70, 71, 72, 73, 74, 75, 76, 77, 78, 79, 80, 81, 82, 83, 84, 85, 86, 87, 88, 89, 90, 91, 92, 93, 94, 95, 96, 97, 98, 99, 100, 101, 102] (fun x => match x with | (j, v, t, l) => [some (.row 36 12 ((chainTo seed j).map pBlock)), some (.row 141 2 (v.map pVal))]) (fun x => match x with | (j, v, t, l) => j ≤ n ∧ ChSt seed j v t l) (fun x => match x with | (j, v, t, l) => n - j) ((0, [], 0, ⟨#[]⟩)) (⟨Nat.zero_le _, rfl, rfl, rfl⟩) (by (refine ⟨[?_, ?_], ?_, ?_, ?_, ?_⟩; rotate_left 2; (· ((try simp (disch := omega) only [push_cast, seval]); (repeat' (first | exact trivial | exact rfl | refine And.intro ?_ ?_ | omega)))); (· ((try simp (disch := omega) only [push_cast, seval]); (repeat' (first | exact trivial | exact rfl | refine And.intro ?_ ?_ | omega)))); (· exact rfl); (· (first | exact trivial | exact ⟨rfl, trivial⟩ | exact ⟨rfl, rfl, trivial⟩)))) ?_
  intro x ρ hI; obtain ⟨j, v, t, l⟩ := x
  (try dsimp only at hI)
  refine PWp.at (tm' := ?_) (H' := ?_) ?_ ?_ ?_; rotate_left 2; (· ((try simp only [push_cast, seval]); exact rfl)); (· ((try dsimp only); exact rfl))
  obtain ⟨hj, hS⟩ := hI
  have hcl : (chainTo seed j).length = j := chainTo_len
  by_cases hlt : j < n
  case' neg =>
    obtain rfl : j = n := by omega
    repeat' (first | with_reducible (first | refine wA ?_ | refine wB ?_ | refine wC ?_) | with_reducible refine PWp.draw (id := 15) okP true [0, 1, 2, 3, 4, 5, 6, 7, 8, 9, 10, 11, 12, 13, 14, 15, 16, 17] (by kernel_rfl) ?_ | with_reducible refine PWp.drawT (id := 17) okP true (.step 0 (.step 1 (.step 2 (.step 3 (.step 5 (.step 7 (.step 8 (.step 9 (.fork (.alt 4 (.fork (.alt 6 (.fork (.alt 10 (.step 11 (.step 12 (.step 13 .done))) (.alt 12 (.step 10 (.step 11 (.step 13 .done))) .stop))) (.alt 12 (.step 6 (.step 10 (.step 11 (.step 13 .done)))) .stop))) (.alt 12 (.step 4 (.step 6 (.step 10 (.step 11 (.step 13 .done))))) .stop))))))))))) (by kernel_rfl) ?_ | with_reducible refine PWp.drawT (id := 18) okP true (.step 0 (.step 1 (.step 2 (.step 3 (.step 4 (.fork (.alt 5 (.fork (.alt 6 (.step 7 (.step 8 (.step 9 .done))) (.alt 8 (.step 6 (.step 7 (.step 9 .done))) .stop))) (.alt 8 (.step 5 (.step 6 (.step 7 (.step 9 .done)))) .stop)))))))) (by kernel_rfl) ?_ | with_reducible (first | refine w1 ?_ | refine w2 ?_ | refine w3 ?_ | refine w4 ?_ | refine w5 ?_ | refine w6 ?_ | refine w7 ?_ | refine w8 ?_ | refine wT ?_ | refine w9 ?_ | refine wE ?_ | refine wS ?_) | ((with_reducible refine hK _ ?_); clear hK K) | ((with_reducible refine PWp.condI ?_); refine ⟨_, rfl, fun hg => ?_, fun hg => ?_⟩ <;> first | (exact absurd hg (by decide)) | ((try simp only [Bool.not_true, Bool.not_false] at hg); (try simp only [hg]); (try simp only [push_cast] at hg); (try exact absurd trivial hg); (try (exfalso; omega)))) | ((first | ((with_reducible refine pops_guard0 ?_); refine ⟨_, rfl, fun K hK => ⟨rfl, ?_⟩⟩) | ((with_reducible refine pD_g0 ?_); refine ⟨_, rfl, rfl, ?_⟩)); (try simp (disch := omega) only [push_cast, seval])) | with_reducible (first | refine ptree_done ?_ | exact ptree_stop | refine ptree_fork ?_) | ((with_reducible refine ptree_I ?_); refine ⟨_, rfl, fun K hK => ?_⟩) | ((with_reducible refine ptree_A ?_ ?_); (refine ⟨_, rfl, fun K hK => ?_⟩)) | ((with_reducible refine pany_I ?_); refine ⟨_, rfl, fun K hK => ?_⟩) | ((with_reducible refine pops_plain fun K hK => popO_row ?_); refine ⟨_, _, _, _, _, rfl, rfl, rfl, rfl, rfl, ?_⟩; simp (disch := omega) only [push_cast, seval]) | ((with_reducible refine pD_x ?_ (popO_row ?_)); exact rfl; refine ⟨_, _, _, _, _, rfl, rfl, rfl, rfl, rfl, ?_⟩; simp (disch := omega) only [push_cast, seval]) | ((with_reducible refine pops_plain fun K hK => popO_build ?_); refine ⟨_, rfl, _, rfl, ?_⟩; simp (disch := omega) only [push_cast, seval]) | ((with_reducible refine pD_y ?_ (py_build ?_)); exact rfl; refine ⟨_, rfl, _, rfl, ?_⟩; simp (disch := omega) only [push_cast, seval]) | ((with_reducible refine pbuild_cs ?_); refine ⟨_, rfl, _, rfl, ?_⟩; simp (disch := omega) only [push_cast, seval]) | ((with_reducible refine pops_plain fun K hK => ?_); simp (disch := omega) only [push_cast, seval]) | ((first | ((with_reducible refine pD_y ?_ ?_); exact rfl) | ((with_reducible refine pD_x ?_ ?_); exact rfl)); simp (disch := omega) only [push_cast, seval]) | ((first | ((with_reducible refine pops_guard ?_); refine ⟨_, rfl, fun K hK => ⟨_, rfl, fun hg => ?_, fun hg => ?_⟩⟩) | ((first | ((with_reducible refine pD_gy ?_ ?_); exact rfl) | ((with_reducible refine pD_gx ?_ ?_); exact rfl)); refine ⟨_, rfl, _, rfl, fun hg => ?_, fun hg => ?_⟩)) <;> first | (exact absurd hg (by decide)) | ((try simp only [Bool.not_true, Bool.not_false] at hg); (try simp only [hg]); (try simp only [push_cast] at hg); (try exact absurd trivial hg); (try (exfalso; omega)); (try simp (disch := omega) only [push_cast, seval]))) | ((with_reducible show pcall _ _ _ _ _ _); (first | (refine pcV (cf Tryz.func72) (sHeadId_p ⟨_, _, _, _, _, _⟩) ?_) | (refine pcV (cf Tryz.func79) (l1In_p _ _ _) ?_) | (refine pcV (cf Tryz.func80) (sSha_p _ sd) ?_) | (refine pcV (cf Tryz.func81) (sDec_p _ sd) ?_) | (refine pcV (cf Tryz.func83) (sValsHash_p _ sd) ?_) | (refine pcH (cf Tryz.func84) (sL9For_p ⟨_, _, _, _, _, _⟩ _ _ sd) ?_) | (refine pcH (cf Tryz.func85) (sL22Ids_p _ sd) ?_) | (refine pcF (cf Tryz.func86) (sL22Copy_p ⟨⟨_, _, _, _, _, _⟩, _, _, ⟨_, _, _, _⟩⟩ (by first | assumption | exact ⟨by (first | assumption | omega | (simp; omega) | (simp_all; done) | (simp_all; omega)), by (first | assumption | omega | (simp; omega) | (simp_all; done) | (simp_all; omega)), by (first | assumption | omega | (simp; omega) | (simp_all; done) | (simp_all; omega))⟩)) ?_)); (try simp (disch := omega) only [push_cast, seval])) | ((with_reducible refine And.intro ?_ ?_); omega))
    ((with_reducible show PPostR _ _ _ _ _ _); exact finH [_])
  case' pos =>
    have hdz := decS_size ((j : Int) + 1)
    have est := ch_step hS
    have hf := fun h => ch_facts (h := h) hS (by omega)
    have hsz := sha_size (seed ++ decS ((j : Int) + 1))
    unfold seedH at est
    repeat' (first | with_reducible refine mkRegion (id := 11) ?_ | with_reducible (first | refine wA ?_ | refine wB ?_ | refine wC ?_) | with_reducible refine PWp.draw (id := 15) okP true [0, 1, 2, 3, 4, 5, 6, 7, 8, 9, 10, 11, 12, 13, 14, 15, 16, 17] (by kernel_rfl) ?_ | with_reducible refine PWp.drawT (id := 17) okP true (.step 0 (.step 1 (.step 2 (.step 3 (.step 5 (.step 7 (.step 8 (.step 9 (.fork (.alt 4 (.fork (.alt 6 (.fork (.alt 10 (.step 11 (.step 12 (.step 13 .done))) (.alt 12 (.step 10 (.step 11 (.step 13 .done))) .stop))) (.alt 12 (.step 6 (.step 10 (.step 11 (.step 13 .done)))) .stop))) (.alt 12 (.step 4 (.step 6 (.step 10 (.step 11 (.step 13 .done))))) .stop))))))))))) (by kernel_rfl) ?_ | with_reducible refine PWp.drawT (id := 18) okP true (.step 0 (.step 1 (.step 2 (.step 3 (.step 4 (.fork (.alt 5 (.fork (.alt 6 (.step 7 (.step 8 (.step 9 .done))) (.alt 8 (.step 6 (.step 7 (.step 9 .done))) .stop))) (.alt 8 (.step 5 (.step 6 (.step 7 (.step 9 .done)))) .stop)))))))) (by kernel_rfl) ?_ | with_reducible (first | refine w1 ?_ | refine w2 ?_ | refine w3 ?_ | refine w4 ?_ | refine w5 ?_ | refine w6 ?_ | refine w7 ?_ | refine w8 ?_ | refine wT ?_ | refine w9 ?_ | refine wE ?_ | refine wS ?_) | ((with_reducible refine hK _ ?_); clear hK K) | ((with_reducible refine PWp.condI ?_); refine ⟨_, rfl, fun hg => ?_, fun hg => ?_⟩ <;> first | (exact absurd hg (by decide)) | ((try simp only [Bool.not_true, Bool.not_false] at hg); (try simp only [hg]); (try simp only [push_cast] at hg); (try exact absurd trivial hg); (try (exfalso; omega)))) | ((first | ((with_reducible refine pops_guard0 ?_); refine ⟨_, rfl, fun K hK => ⟨rfl, ?_⟩⟩) | ((with_reducible refine pD_g0 ?_); refine ⟨_, rfl, rfl, ?_⟩)); (try simp (disch := omega) only [push_cast, seval])) | with_reducible (first | refine ptree_done ?_ | exact ptree_stop | refine ptree_fork ?_) | ((with_reducible refine ptree_I ?_); refine ⟨_, rfl, fun K hK => ?_⟩) | ((with_reducible refine ptree_A ?_ ?_); (refine ⟨_, rfl, fun K hK => ?_⟩)) | ((with_reducible refine pany_I ?_); refine ⟨_, rfl, fun K hK => ?_⟩) | ((with_reducible refine pops_plain fun K hK => popO_row ?_); refine ⟨_, _, _, _, _, rfl, rfl, rfl, rfl, rfl, ?_⟩; simp (disch := omega) only [push_cast, seval]) | ((with_reducible refine pD_x ?_ (popO_row ?_)); exact rfl; refine ⟨_, _, _, _, _, rfl, rfl, rfl, rfl, rfl, ?_⟩; simp (disch := omega) only [push_cast, seval]) | ((with_reducible refine pops_plain fun K hK => popO_build ?_); refine ⟨_, rfl, _, rfl, ?_⟩; simp (disch := omega) only [push_cast, seval]) | ((with_reducible refine pD_y ?_ (py_build ?_)); exact rfl; refine ⟨_, rfl, _, rfl, ?_⟩; simp (disch := omega) only [push_cast, seval]) | ((with_reducible refine pbuild_cs ?_); refine ⟨_, rfl, _, rfl, ?_⟩; simp (disch := omega) only [push_cast, seval]) | ((with_reducible refine pops_plain fun K hK => ?_); simp (disch := omega) only [push_cast, seval]) | ((first | ((with_reducible refine pD_y ?_ ?_); exact rfl) | ((with_reducible refine pD_x ?_ ?_); exact rfl)); simp (disch := omega) only [push_cast, seval]) | ((first | ((with_reducible refine pops_guard ?_); refine ⟨_, rfl, fun K hK => ⟨_, rfl, fun hg => ?_, fun hg => ?_⟩⟩) | ((first | ((with_reducible refine pD_gy ?_ ?_); exact rfl) | ((with_reducible refine pD_gx ?_ ?_); exact rfl)); refine ⟨_, rfl, _, rfl, fun hg => ?_, fun hg => ?_⟩)) <;> first | (exact absurd hg (by decide)) | ((try simp only [Bool.not_true, Bool.not_false] at hg); (try simp only [hg]); (try simp only [push_cast] at hg); (try exact absurd trivial hg); (try (exfalso; omega)); (try simp (disch := omega) only [push_cast, seval]))) | ((with_reducible show pcall _ _ _ _ _ _); (first | (refine pcV (cf Tryz.func72) (sHeadId_p ⟨_, _, _, _, _, _⟩) ?_) | (refine pcV (cf Tryz.func79) (l1In_p _ _ _) ?_) | (refine pcV (cf Tryz.func80) (sSha_p _ sd) ?_) | (refine pcV (cf Tryz.func81) (sDec_p _ sd) ?_) | (refine pcV (cf Tryz.func83) (sValsHash_p _ sd) ?_) | (refine pcH (cf Tryz.func84) (sL9For_p ⟨_, _, _, _, _, _⟩ _ _ sd) ?_) | (refine pcH (cf Tryz.func85) (sL22Ids_p _ sd) ?_) | (refine pcF (cf Tryz.func86) (sL22Copy_p ⟨⟨_, _, _, _, _, _⟩, _, _, ⟨_, _, _, _⟩⟩ (by first | assumption | exact ⟨by (first | assumption | omega | (simp; omega) | (simp_all; done) | (simp_all; omega)), by (first | assumption | omega | (simp; omega) | (simp_all; done) | (simp_all; omega)), by (first | assumption | omega | (simp; omega) | (simp_all; done) | (simp_all; omega))⟩)) ?_)); (try simp (disch := omega) only [push_cast, seval])) | ((with_reducible refine And.intro ?_ ?_); omega))
    all_goals
      refine Mk.of ?_
      generalize sha (seed ++ decS ((j : Int) + 1)) = h at est hsz ⊢
      obtain ⟨ok, ht, hl8, hv7⟩ := hf h
      clear hf
      apply PWp.cap (α := List GVal) (fun V => [(5, .own 0), (6, .own 1), (7, .val (.int .i64 t)), (8, .val (.string l)), (9, .val (.int .i64 ((j : Int) + 1))), (10, .val (.string h))]) [2, 3, 11, 12, 13, 14, 15, 16, 17, 18, 19, 20, 21, 22, 23, 24, 25, 26, 27, 28, 29, 30, 31, 32, 33, 34, 35, 36, 37, 38, 39, 40, 41, 42, 43, 44, 45, 46, 47, 48, 49, 50, 51, 52, 53, 54, 55, 56, 57, 58, 59, 60, 61, 62, 63, 64, 65, 66, 67, 68, 69, 70, 71, 72, 73, 74, 75, 76, 77, 78, 79, 80, 81, 82, 83, 84, 85, 86, 87, 88, 89, 90, 91, 92, 93, 94, 95, 96, 97, 98, 99, 100, 101, 102] (fun V => [some (.row 36 12 ((chainTo seed j).map pBlock)), some (.row 141 2 (V.map pVal))]) (fun V => V = chVals h j v)
      case main =>
        intro tail
        by_cases hj0 : j = 0
        case' pos =>
          obtain ⟨hv0, ht0, hl0⟩ : v = [] ∧ t = 0 ∧ l = ⟨#[]⟩ := by subst hj0; exact hS
          rw [hv0]
          repeat' (first | with_reducible refine mkRegion (id := 15) ?_ | with_reducible (first | refine wA ?_ | refine wB ?_ | refine wC ?_) | with_reducible refine PWp.draw (id := 15) okP true [0, 1, 2, 3, 4, 5, 6, 7, 8, 9, 10, 11, 12, 13, 14, 15, 16, 17] (by kernel_rfl) ?_ | with_reducible refine PWp.drawT (id := 17) okP true (.step 0 (.step 1 (.step 2 (.step 3 (.step 5 (.step 7 (.step 8 (.step 9 (.fork (.alt 4 (.fork (.alt 6 (.fork (.alt 10 (.step 11 (.step 12 (.step 13 .done))) (.alt 12 (.step 10 (.step 11 (.step 13 .done))) .stop))) (.alt 12 (.step 6 (.step 10 (.step 11 (.step 13 .done)))) .stop))) (.alt 12 (.step 4 (.step 6 (.step 10 (.step 11 (.step 13 .done))))) .stop))))))))))) (by kernel_rfl) ?_ | with_reducible refine PWp.drawT (id := 18) okP true (.step 0 (.step 1 (.step 2 (.step 3 (.step 4 (.fork (.alt 5 (.fork (.alt 6 (.step 7 (.step 8 (.step 9 .done))) (.alt 8 (.step 6 (.step 7 (.step 9 .done))) .stop))) (.alt 8 (.step 5 (.step 6 (.step 7 (.step 9 .done)))) .stop)))))))) (by kernel_rfl) ?_ | with_reducible (first | refine w1 ?_ | refine w2 ?_ | refine w3 ?_ | refine w4 ?_ | refine w5 ?_ | refine w6 ?_ | refine w7 ?_ | refine w8 ?_ | refine wT ?_ | refine w9 ?_ | refine wE ?_ | refine wS ?_) | ((with_reducible refine hK _ ?_); clear hK K) | ((with_reducible refine PWp.condI ?_); refine ⟨_, rfl, fun hg => ?_, fun hg => ?_⟩ <;> first | (exact absurd hg (by decide)) | ((try simp only [Bool.not_true, Bool.not_false] at hg); (try simp only [hg]); (try simp only [push_cast] at hg); (try exact absurd trivial hg); (try (exfalso; omega)))) | ((first | ((with_reducible refine pops_guard0 ?_); refine ⟨_, rfl, fun K hK => ⟨rfl, ?_⟩⟩) | ((with_reducible refine pD_g0 ?_); refine ⟨_, rfl, rfl, ?_⟩)); (try simp (disch := omega) only [push_cast, seval])) | with_reducible (first | refine ptree_done ?_ | exact ptree_stop | refine ptree_fork ?_) | ((with_reducible refine ptree_I ?_); refine ⟨_, rfl, fun K hK => ?_⟩) | ((with_reducible refine ptree_A ?_ ?_); (refine ⟨_, rfl, fun K hK => ?_⟩)) | ((with_reducible refine pany_I ?_); refine ⟨_, rfl, fun K hK => ?_⟩) | ((with_reducible refine pops_plain fun K hK => popO_row ?_); refine ⟨_, _, _, _, _, rfl, rfl, rfl, rfl, rfl, ?_⟩; simp (disch := omega) only [push_cast, seval]) | ((with_reducible refine pD_x ?_ (popO_row ?_)); exact rfl; refine ⟨_, _, _, _, _, rfl, rfl, rfl, rfl, rfl, ?_⟩; simp (disch := omega) only [push_cast, seval]) | ((with_reducible refine pops_plain fun K hK => popO_build ?_); refine ⟨_, rfl, _, rfl, ?_⟩; simp (disch := omega) only [push_cast, seval]) | ((with_reducible refine pD_y ?_ (py_build ?_)); exact rfl; refine ⟨_, rfl, _, rfl, ?_⟩; simp (disch := omega) only [push_cast, seval]) | ((with_reducible refine pbuild_cs ?_); refine ⟨_, rfl, _, rfl, ?_⟩; simp (disch := omega) only [push_cast, seval]) | ((with_reducible refine pops_plain fun K hK => ?_); simp (disch := omega) only [push_cast, seval]) | ((first | ((with_reducible refine pD_y ?_ ?_); exact rfl) | ((with_reducible refine pD_x ?_ ?_); exact rfl)); simp (disch := omega) only [push_cast, seval]) | ((first | ((with_reducible refine pops_guard ?_); refine ⟨_, rfl, fun K hK => ⟨_, rfl, fun hg => ?_, fun hg => ?_⟩⟩) | ((first | ((with_reducible refine pD_gy ?_ ?_); exact rfl) | ((with_reducible refine pD_gx ?_ ?_); exact rfl)); refine ⟨_, rfl, _, rfl, fun hg => ?_, fun hg => ?_⟩)) <;> first | (exact absurd hg (by decide)) | ((try simp only [Bool.not_true, Bool.not_false] at hg); (try simp only [hg]); (try simp only [push_cast] at hg); (try exact absurd trivial hg); (try (exfalso; omega)); (try simp (disch := omega) only [push_cast, seval]))) | ((with_reducible show pcall _ _ _ _ _ _); (first | (refine pcV (cf Tryz.func72) (sHeadId_p ⟨_, _, _, _, _, _⟩) ?_) | (refine pcV (cf Tryz.func79) (l1In_p _ _ _) ?_) | (refine pcV (cf Tryz.func80) (sSha_p _ sd) ?_) | (refine pcV (cf Tryz.func81) (sDec_p _ sd) ?_) | (refine pcV (cf Tryz.func83) (sValsHash_p _ sd) ?_) | (refine pcH (cf Tryz.func84) (sL9For_p ⟨_, _, _, _, _, _⟩ _ _ sd) ?_) | (refine pcH (cf Tryz.func85) (sL22Ids_p _ sd) ?_) | (refine pcF (cf Tryz.func86) (sL22Copy_p ⟨⟨_, _, _, _, _, _⟩, _, _, ⟨_, _, _, _⟩⟩ (by first | assumption | exact ⟨by (first | assumption | omega | (simp; omega) | (simp_all; done) | (simp_all; omega)), by (first | assumption | omega | (simp; omega) | (simp_all; done) | (simp_all; omega)), by (first | assumption | omega | (simp; omega) | (simp_all; done) | (simp_all; omega))⟩)) ?_)); (try simp (disch := omega) only [push_cast, seval])) | ((with_reducible refine And.intro ?_ ?_); omega))
          refine PWp.loopK (α := Nat) (fun k => [(5, .own 0), (6, .own 1), (11, .val (.int .i64 (k : Int)))]) [2, 3, 13, 16, 17, 18, 19, 20, 21, 32, 33, 34, 35, 36, 37, 38, 39, 40, 41, 42, 43, 44, 45, 46, 47, 48, 49, 50, 51] (fun k => [some (.row 36 12 ((chainTo seed j).map pBlock)), some (.row 141 2 ((firstTo h k).map pVal))]) (fun k => k ≤ 4) (fun k => 4 - k) (0) (Nat.zero_le _) (by (refine ⟨[?_, ?_], ?_, ?_, ?_, ?_⟩; rotate_left 2; (· ((try simp (disch := omega) only [push_cast, seval]); (repeat' (first | exact trivial | exact rfl | refine And.intro ?_ ?_ | omega)))); (· ((try simp (disch := omega) only [push_cast, seval]); (repeat' (first | exact trivial | exact rfl | refine And.intro ?_ ?_ | omega)))); (· exact rfl); (· (first | exact trivial | exact ⟨rfl, trivial⟩ | exact ⟨rfl, rfl, trivial⟩)))) ?_
          intro k ρ hI
          (try dsimp only at hI)
          refine PWp.at (tm' := ?_) (H' := ?_) ?_ ?_ ?_; rotate_left 2; (· ((try simp only [push_cast, seval]); exact rfl)); (· ((try dsimp only); exact rfl))
          have hfl : (firstTo h k).length = k := firstTo_len
          by_cases hk4 : k < 4
          case' pos =>
            obtain ⟨u, hu, hub, hbu⟩ := ch_bytes hsz k (by omega)
            repeat' (first | with_reducible refine mkRegion (id := 15) ?_ | with_reducible (first | refine wA ?_ | refine wB ?_ | refine wC ?_) | with_reducible refine PWp.draw (id := 15) okP true [0, 1, 2, 3, 4, 5, 6, 7, 8, 9, 10, 11, 12, 13, 14, 15, 16, 17] (by kernel_rfl) ?_ | with_reducible refine PWp.drawT (id := 17) okP true (.step 0 (.step 1 (.step 2 (.step 3 (.step 5 (.step 7 (.step 8 (.step 9 (.fork (.alt 4 (.fork (.alt 6 (.fork (.alt 10 (.step 11 (.step 12 (.step 13 .done))) (.alt 12 (.step 10 (.step 11 (.step 13 .done))) .stop))) (.alt 12 (.step 6 (.step 10 (.step 11 (.step 13 .done)))) .stop))) (.alt 12 (.step 4 (.step 6 (.step 10 (.step 11 (.step 13 .done))))) .stop))))))))))) (by kernel_rfl) ?_ | with_reducible refine PWp.drawT (id := 18) okP true (.step 0 (.step 1 (.step 2 (.step 3 (.step 4 (.fork (.alt 5 (.fork (.alt 6 (.step 7 (.step 8 (.step 9 .done))) (.alt 8 (.step 6 (.step 7 (.step 9 .done))) .stop))) (.alt 8 (.step 5 (.step 6 (.step 7 (.step 9 .done)))) .stop)))))))) (by kernel_rfl) ?_ | with_reducible (first | refine w1 ?_ | refine w2 ?_ | refine w3 ?_ | refine w4 ?_ | refine w5 ?_ | refine w6 ?_ | refine w7 ?_ | refine w8 ?_ | refine wT ?_ | refine w9 ?_ | refine wE ?_ | refine wS ?_) | ((with_reducible refine hK _ ?_); clear hK K) | ((with_reducible refine PWp.condI ?_); refine ⟨_, rfl, fun hg => ?_, fun hg => ?_⟩ <;> first | (exact absurd hg (by decide)) | ((try simp only [Bool.not_true, Bool.not_false] at hg); (try simp only [hg]); (try simp only [push_cast] at hg); (try exact absurd trivial hg); (try (exfalso; omega)))) | ((first | ((with_reducible refine pops_guard0 ?_); refine ⟨_, rfl, fun K hK => ⟨rfl, ?_⟩⟩) | ((with_reducible refine pD_g0 ?_); refine ⟨_, rfl, rfl, ?_⟩)); (try simp (disch := omega) only [push_cast, seval, hu])) | with_reducible (first | refine ptree_done ?_ | exact ptree_stop | refine ptree_fork ?_) | ((with_reducible refine ptree_I ?_); refine ⟨_, rfl, fun K hK => ?_⟩) | ((with_reducible refine ptree_A ?_ ?_); (refine ⟨_, rfl, fun K hK => ?_⟩)) | ((with_reducible refine pany_I ?_); refine ⟨_, rfl, fun K hK => ?_⟩) | ((with_reducible refine pops_plain fun K hK => popO_row ?_); refine ⟨_, _, _, _, _, rfl, rfl, rfl, rfl, rfl, ?_⟩; simp (disch := omega) only [push_cast, seval, hu]) | ((with_reducible refine pD_x ?_ (popO_row ?_)); exact rfl; refine ⟨_, _, _, _, _, rfl, rfl, rfl, rfl, rfl, ?_⟩; simp (disch := omega) only [push_cast, seval, hu]) | ((with_reducible refine pops_plain fun K hK => popO_build ?_); refine ⟨_, rfl, _, rfl, ?_⟩; simp (disch := omega) only [push_cast, seval, hu]) | ((with_reducible refine pD_y ?_ (py_build ?_)); exact rfl; refine ⟨_, rfl, _, rfl, ?_⟩; simp (disch := omega) only [push_cast, seval, hu]) | ((with_reducible refine pbuild_cs ?_); refine ⟨_, rfl, _, rfl, ?_⟩; simp (disch := omega) only [push_cast, seval, hu]) | ((with_reducible refine pops_plain fun K hK => ?_); simp (disch := omega) only [push_cast, seval, hu]) | ((first | ((with_reducible refine pD_y ?_ ?_); exact rfl) | ((with_reducible refine pD_x ?_ ?_); exact rfl)); simp (disch := omega) only [push_cast, seval, hu]) | ((first | ((with_reducible refine pops_guard ?_); refine ⟨_, rfl, fun K hK => ⟨_, rfl, fun hg => ?_, fun hg => ?_⟩⟩) | ((first | ((with_reducible refine pD_gy ?_ ?_); exact rfl) | ((with_reducible refine pD_gx ?_ ?_); exact rfl)); refine ⟨_, rfl, _, rfl, fun hg => ?_, fun hg => ?_⟩)) <;> first | (exact absurd hg (by decide)) | ((try simp only [Bool.not_true, Bool.not_false] at hg); (try simp only [hg]); (try simp only [push_cast] at hg); (try exact absurd trivial hg); (try (exfalso; omega)); (try simp (disch := omega) only [push_cast, seval, hu]))) | ((with_reducible show pcall _ _ _ _ _ _); (first | (refine pcV (cf Tryz.func72) (sHeadId_p ⟨_, _, _, _, _, _⟩) ?_) | (refine pcV (cf Tryz.func79) (l1In_p _ _ _) ?_) | (refine pcV (cf Tryz.func80) (sSha_p _ sd) ?_) | (refine pcV (cf Tryz.func81) (sDec_p _ sd) ?_) | (refine pcV (cf Tryz.func83) (sValsHash_p _ sd) ?_) | (refine pcH (cf Tryz.func84) (sL9For_p ⟨_, _, _, _, _, _⟩ _ _ sd) ?_) | (refine pcH (cf Tryz.func85) (sL22Ids_p _ sd) ?_) | (refine pcF (cf Tryz.func86) (sL22Copy_p ⟨⟨_, _, _, _, _, _⟩, _, _, ⟨_, _, _, _⟩⟩ (by first | assumption | exact ⟨by (first | assumption | omega | (simp; omega) | (simp_all; done) | (simp_all; omega)), by (first | assumption | omega | (simp; omega) | (simp_all; done) | (simp_all; omega)), by (first | assumption | omega | (simp; omega) | (simp_all; done) | (simp_all; omega))⟩)) ?_)); (try simp (disch := omega) only [push_cast, seval, hu])) | ((with_reducible refine And.intro ?_ ?_); omega))
            (refine ⟨k + 1, by ((try dsimp only); omega), ?_, by (refine ⟨[?_, ?_], ?_, ?_, ?_, ?_⟩; rotate_left 2; (· ((first | simp (disch := omega) only [push_cast, seval, firstTo_succ, hbu, List.map_append, List.map_cons, List.map_nil, pVal] | simp (disch := omega) only [push_cast, seval] | skip); (repeat' (first | exact trivial | exact rfl | refine And.intro ?_ ?_ | omega)))); (· ((first | simp (disch := omega) only [push_cast, seval, firstTo_succ, hbu, List.map_append, List.map_cons, List.map_nil, pVal] | simp (disch := omega) only [push_cast, seval] | skip); (repeat' (first | exact trivial | exact rfl | refine And.intro ?_ ?_ | omega)))); (· exact rfl); (· (first | exact trivial | exact ⟨rfl, trivial⟩ | exact ⟨rfl, rfl, trivial⟩)))⟩)
            exact hk4
          case' neg =>
            obtain rfl : k = 4 := by omega
            repeat' (first | with_reducible refine mkRegion (id := 15) ?_ | with_reducible (first | refine wA ?_ | refine wB ?_ | refine wC ?_) | with_reducible refine PWp.draw (id := 15) okP true [0, 1, 2, 3, 4, 5, 6, 7, 8, 9, 10, 11, 12, 13, 14, 15, 16, 17] (by kernel_rfl) ?_ | with_reducible refine PWp.drawT (id := 17) okP true (.step 0 (.step 1 (.step 2 (.step 3 (.step 5 (.step 7 (.step 8 (.step 9 (.fork (.alt 4 (.fork (.alt 6 (.fork (.alt 10 (.step 11 (.step 12 (.step 13 .done))) (.alt 12 (.step 10 (.step 11 (.step 13 .done))) .stop))) (.alt 12 (.step 6 (.step 10 (.step 11 (.step 13 .done)))) .stop))) (.alt 12 (.step 4 (.step 6 (.step 10 (.step 11 (.step 13 .done))))) .stop))))))))))) (by kernel_rfl) ?_ | with_reducible refine PWp.drawT (id := 18) okP true (.step 0 (.step 1 (.step 2 (.step 3 (.step 4 (.fork (.alt 5 (.fork (.alt 6 (.step 7 (.step 8 (.step 9 .done))) (.alt 8 (.step 6 (.step 7 (.step 9 .done))) .stop))) (.alt 8 (.step 5 (.step 6 (.step 7 (.step 9 .done)))) .stop)))))))) (by kernel_rfl) ?_ | with_reducible (first | refine w1 ?_ | refine w2 ?_ | refine w3 ?_ | refine w4 ?_ | refine w5 ?_ | refine w6 ?_ | refine w7 ?_ | refine w8 ?_ | refine wT ?_ | refine w9 ?_ | refine wE ?_ | refine wS ?_) | ((with_reducible refine hK _ ?_); clear hK K) | ((with_reducible refine PWp.condI ?_); refine ⟨_, rfl, fun hg => ?_, fun hg => ?_⟩ <;> first | (exact absurd hg (by decide)) | ((try simp only [Bool.not_true, Bool.not_false] at hg); (try simp only [hg]); (try simp only [push_cast] at hg); (try exact absurd trivial hg); (try (exfalso; omega)))) | ((first | ((with_reducible refine pops_guard0 ?_); refine ⟨_, rfl, fun K hK => ⟨rfl, ?_⟩⟩) | ((with_reducible refine pD_g0 ?_); refine ⟨_, rfl, rfl, ?_⟩)); (try simp (disch := omega) only [push_cast, seval])) | with_reducible (first | refine ptree_done ?_ | exact ptree_stop | refine ptree_fork ?_) | ((with_reducible refine ptree_I ?_); refine ⟨_, rfl, fun K hK => ?_⟩) | ((with_reducible refine ptree_A ?_ ?_); (refine ⟨_, rfl, fun K hK => ?_⟩)) | ((with_reducible refine pany_I ?_); refine ⟨_, rfl, fun K hK => ?_⟩) | ((with_reducible refine pops_plain fun K hK => popO_row ?_); refine ⟨_, _, _, _, _, rfl, rfl, rfl, rfl, rfl, ?_⟩; simp (disch := omega) only [push_cast, seval]) | ((with_reducible refine pD_x ?_ (popO_row ?_)); exact rfl; refine ⟨_, _, _, _, _, rfl, rfl, rfl, rfl, rfl, ?_⟩; simp (disch := omega) only [push_cast, seval]) | ((with_reducible refine pops_plain fun K hK => popO_build ?_); refine ⟨_, rfl, _, rfl, ?_⟩; simp (disch := omega) only [push_cast, seval]) | ((with_reducible refine pD_y ?_ (py_build ?_)); exact rfl; refine ⟨_, rfl, _, rfl, ?_⟩; simp (disch := omega) only [push_cast, seval]) | ((with_reducible refine pbuild_cs ?_); refine ⟨_, rfl, _, rfl, ?_⟩; simp (disch := omega) only [push_cast, seval]) | ((with_reducible refine pops_plain fun K hK => ?_); simp (disch := omega) only [push_cast, seval]) | ((first | ((with_reducible refine pD_y ?_ ?_); exact rfl) | ((with_reducible refine pD_x ?_ ?_); exact rfl)); simp (disch := omega) only [push_cast, seval]) | ((first | ((with_reducible refine pops_guard ?_); refine ⟨_, rfl, fun K hK => ⟨_, rfl, fun hg => ?_, fun hg => ?_⟩⟩) | ((first | ((with_reducible refine pD_gy ?_ ?_); exact rfl) | ((with_reducible refine pD_gx ?_ ?_); exact rfl)); refine ⟨_, rfl, _, rfl, fun hg => ?_, fun hg => ?_⟩)) <;> first | (exact absurd hg (by decide)) | ((try simp only [Bool.not_true, Bool.not_false] at hg); (try simp only [hg]); (try simp only [push_cast] at hg); (try exact absurd trivial hg); (try (exfalso; omega)); (try simp (disch := omega) only [push_cast, seval]))) | ((with_reducible show pcall _ _ _ _ _ _); (first | (refine pcV (cf Tryz.func72) (sHeadId_p ⟨_, _, _, _, _, _⟩) ?_) | (refine pcV (cf Tryz.func79) (l1In_p _ _ _) ?_) | (refine pcV (cf Tryz.func80) (sSha_p _ sd) ?_) | (refine pcV (cf Tryz.func81) (sDec_p _ sd) ?_) | (refine pcV (cf Tryz.func83) (sValsHash_p _ sd) ?_) | (refine pcH (cf Tryz.func84) (sL9For_p ⟨_, _, _, _, _, _⟩ _ _ sd) ?_) | (refine pcH (cf Tryz.func85) (sL22Ids_p _ sd) ?_) | (refine pcF (cf Tryz.func86) (sL22Copy_p ⟨⟨_, _, _, _, _, _⟩, _, _, ⟨_, _, _, _⟩⟩ (by first | assumption | exact ⟨by (first | assumption | omega | (simp; omega) | (simp_all; done) | (simp_all; omega)), by (first | assumption | omega | (simp; omega) | (simp_all; done) | (simp_all; omega)), by (first | assumption | omega | (simp; omega) | (simp_all; done) | (simp_all; omega))⟩)) ?_)); (try simp (disch := omega) only [push_cast, seval])) | ((with_reducible refine And.intro ?_ ?_); omega))
            (refine Mk.of (tail (firstTo h 4) _ _ ?_ (by (refine ⟨[?_, ?_], ?_, ?_, ?_, ?_⟩; rotate_left 2; (· ((try simp (disch := omega) only [push_cast, seval]); (repeat' (first | exact trivial | exact rfl | refine And.intro ?_ ?_ | omega)))); (· ((try simp (disch := omega) only [push_cast, seval]); (repeat' (first | exact trivial | exact rfl | refine And.intro ?_ ?_ | omega)))); (· exact rfl); (· (first | exact trivial | exact ⟨rfl, trivial⟩ | exact ⟨rfl, rfl, trivial⟩))))))
            rw [hj0]
            rfl
        case' neg =>
          repeat' (first | with_reducible refine mkRegion (id := 15) ?_ | with_reducible (first | refine wA ?_ | refine wB ?_ | refine wC ?_) | with_reducible refine PWp.draw (id := 15) okP true [0, 1, 2, 3, 4, 5, 6, 7, 8, 9, 10, 11, 12, 13, 14, 15, 16, 17] (by kernel_rfl) ?_ | with_reducible refine PWp.drawT (id := 17) okP true (.step 0 (.step 1 (.step 2 (.step 3 (.step 5 (.step 7 (.step 8 (.step 9 (.fork (.alt 4 (.fork (.alt 6 (.fork (.alt 10 (.step 11 (.step 12 (.step 13 .done))) (.alt 12 (.step 10 (.step 11 (.step 13 .done))) .stop))) (.alt 12 (.step 6 (.step 10 (.step 11 (.step 13 .done)))) .stop))) (.alt 12 (.step 4 (.step 6 (.step 10 (.step 11 (.step 13 .done))))) .stop))))))))))) (by kernel_rfl) ?_ | with_reducible refine PWp.drawT (id := 18) okP true (.step 0 (.step 1 (.step 2 (.step 3 (.step 4 (.fork (.alt 5 (.fork (.alt 6 (.step 7 (.step 8 (.step 9 .done))) (.alt 8 (.step 6 (.step 7 (.step 9 .done))) .stop))) (.alt 8 (.step 5 (.step 6 (.step 7 (.step 9 .done)))) .stop)))))))) (by kernel_rfl) ?_ | with_reducible (first | refine w1 ?_ | refine w2 ?_ | refine w3 ?_ | refine w4 ?_ | refine w5 ?_ | refine w6 ?_ | refine w7 ?_ | refine w8 ?_ | refine wT ?_ | refine w9 ?_ | refine wE ?_ | refine wS ?_) | ((with_reducible refine hK _ ?_); clear hK K) | ((with_reducible refine PWp.condI ?_); refine ⟨_, rfl, fun hg => ?_, fun hg => ?_⟩ <;> first | (exact absurd hg (by decide)) | ((try simp only [Bool.not_true, Bool.not_false] at hg); (try simp only [hg]); (try simp only [push_cast] at hg); (try exact absurd trivial hg); (try (exfalso; omega)))) | ((first | ((with_reducible refine pops_guard0 ?_); refine ⟨_, rfl, fun K hK => ⟨rfl, ?_⟩⟩) | ((with_reducible refine pD_g0 ?_); refine ⟨_, rfl, rfl, ?_⟩)); (try simp (disch := omega) only [push_cast, seval])) | with_reducible (first | refine ptree_done ?_ | exact ptree_stop | refine ptree_fork ?_) | ((with_reducible refine ptree_I ?_); refine ⟨_, rfl, fun K hK => ?_⟩) | ((with_reducible refine ptree_A ?_ ?_); (refine ⟨_, rfl, fun K hK => ?_⟩)) | ((with_reducible refine pany_I ?_); refine ⟨_, rfl, fun K hK => ?_⟩) | ((with_reducible refine pops_plain fun K hK => popO_row ?_); refine ⟨_, _, _, _, _, rfl, rfl, rfl, rfl, rfl, ?_⟩; simp (disch := omega) only [push_cast, seval]) | ((with_reducible refine pD_x ?_ (popO_row ?_)); exact rfl; refine ⟨_, _, _, _, _, rfl, rfl, rfl, rfl, rfl, ?_⟩; simp (disch := omega) only [push_cast, seval]) | ((with_reducible refine pops_plain fun K hK => popO_build ?_); refine ⟨_, rfl, _, rfl, ?_⟩; simp (disch := omega) only [push_cast, seval]) | ((with_reducible refine pD_y ?_ (py_build ?_)); exact rfl; refine ⟨_, rfl, _, rfl, ?_⟩; simp (disch := omega) only [push_cast, seval]) | ((with_reducible refine pbuild_cs ?_); refine ⟨_, rfl, _, rfl, ?_⟩; simp (disch := omega) only [push_cast, seval]) | ((with_reducible refine pops_plain fun K hK => ?_); simp (disch := omega) only [push_cast, seval]) | ((first | ((with_reducible refine pD_y ?_ ?_); exact rfl) | ((with_reducible refine pD_x ?_ ?_); exact rfl)); simp (disch := omega) only [push_cast, seval]) | ((first | ((with_reducible refine pops_guard ?_); refine ⟨_, rfl, fun K hK => ⟨_, rfl, fun hg => ?_, fun hg => ?_⟩⟩) | ((first | ((with_reducible refine pD_gy ?_ ?_); exact rfl) | ((with_reducible refine pD_gx ?_ ?_); exact rfl)); refine ⟨_, rfl, _, rfl, fun hg => ?_, fun hg => ?_⟩)) <;> first | (exact absurd hg (by decide)) | ((try simp only [Bool.not_true, Bool.not_false] at hg); (try simp only [hg]); (try simp only [push_cast] at hg); (try exact absurd trivial hg); (try (exfalso; omega)); (try simp (disch := omega) only [push_cast, seval]))) | ((with_reducible show pcall _ _ _ _ _ _); (first | (refine pcV (cf Tryz.func72) (sHeadId_p ⟨_, _, _, _, _, _⟩) ?_) | (refine pcV (cf Tryz.func79) (l1In_p _ _ _) ?_) | (refine pcV (cf Tryz.func80) (sSha_p _ sd) ?_) | (refine pcV (cf Tryz.func81) (sDec_p _ sd) ?_) | (refine pcV (cf Tryz.func83) (sValsHash_p _ sd) ?_) | (refine pcH (cf Tryz.func84) (sL9For_p ⟨_, _, _, _, _, _⟩ _ _ sd) ?_) | (refine pcH (cf Tryz.func85) (sL22Ids_p _ sd) ?_) | (refine pcF (cf Tryz.func86) (sL22Copy_p ⟨⟨_, _, _, _, _, _⟩, _, _, ⟨_, _, _, _⟩⟩ (by first | assumption | exact ⟨by (first | assumption | omega | (simp; omega) | (simp_all; done) | (simp_all; omega)), by (first | assumption | omega | (simp; omega) | (simp_all; done) | (simp_all; omega)), by (first | assumption | omega | (simp; omega) | (simp_all; done) | (simp_all; omega))⟩)) ?_)); (try simp (disch := omega) only [push_cast, seval])) | ((with_reducible refine And.intro ?_ ?_); omega))
          refine PWp.loopK (α := Nat) (fun k => [(5, .own 0), (6, .own 1), (11, .val (.int .i64 (k : Int)))]) [2, 3, 13, 16, 17, 18, 19, 20, 21, 32, 33, 34, 35, 36, 37, 38, 39, 40, 41, 42, 43, 44, 45, 46, 47, 48, 49, 50, 51] (fun k => [some (.row 36 12 ((chainTo seed j).map pBlock)), some (.row 141 2 (v.map pVal))]) (fun k => k = 0) (fun k => 0) (0) (rfl) (by (refine ⟨[?_, ?_], ?_, ?_, ?_, ?_⟩; rotate_left 2; (· ((try simp (disch := omega) only [push_cast, seval]); (repeat' (first | exact trivial | exact rfl | refine And.intro ?_ ?_ | omega)))); (· ((try simp (disch := omega) only [push_cast, seval]); (repeat' (first | exact trivial | exact rfl | refine And.intro ?_ ?_ | omega)))); (· exact rfl); (· (first | exact trivial | exact ⟨rfl, trivial⟩ | exact ⟨rfl, rfl, trivial⟩)))) ?_
          intro k ρ hI
          (try dsimp only at hI)
          refine PWp.at (tm' := ?_) (H' := ?_) ?_ ?_ ?_; rotate_left 2; (· ((try simp only [push_cast, seval]); exact rfl)); (· ((try dsimp only); exact rfl))
          obtain rfl := hI
          repeat' (first | with_reducible refine mkRegion (id := 15) ?_ | with_reducible (first | refine wA ?_ | refine wB ?_ | refine wC ?_) | with_reducible refine PWp.draw (id := 15) okP true [0, 1, 2, 3, 4, 5, 6, 7, 8, 9, 10, 11, 12, 13, 14, 15, 16, 17] (by kernel_rfl) ?_ | with_reducible refine PWp.drawT (id := 17) okP true (.step 0 (.step 1 (.step 2 (.step 3 (.step 5 (.step 7 (.step 8 (.step 9 (.fork (.alt 4 (.fork (.alt 6 (.fork (.alt 10 (.step 11 (.step 12 (.step 13 .done))) (.alt 12 (.step 10 (.step 11 (.step 13 .done))) .stop))) (.alt 12 (.step 6 (.step 10 (.step 11 (.step 13 .done)))) .stop))) (.alt 12 (.step 4 (.step 6 (.step 10 (.step 11 (.step 13 .done))))) .stop))))))))))) (by kernel_rfl) ?_ | with_reducible refine PWp.drawT (id := 18) okP true (.step 0 (.step 1 (.step 2 (.step 3 (.step 4 (.fork (.alt 5 (.fork (.alt 6 (.step 7 (.step 8 (.step 9 .done))) (.alt 8 (.step 6 (.step 7 (.step 9 .done))) .stop))) (.alt 8 (.step 5 (.step 6 (.step 7 (.step 9 .done)))) .stop)))))))) (by kernel_rfl) ?_ | with_reducible (first | refine w1 ?_ | refine w2 ?_ | refine w3 ?_ | refine w4 ?_ | refine w5 ?_ | refine w6 ?_ | refine w7 ?_ | refine w8 ?_ | refine wT ?_ | refine w9 ?_ | refine wE ?_ | refine wS ?_) | ((with_reducible refine hK _ ?_); clear hK K) | ((with_reducible refine PWp.condI ?_); refine ⟨_, rfl, fun hg => ?_, fun hg => ?_⟩ <;> first | (exact absurd hg (by decide)) | ((try simp only [Bool.not_true, Bool.not_false] at hg); (try simp only [hg]); (try simp only [push_cast] at hg); (try exact absurd trivial hg); (try (exfalso; omega)))) | ((first | ((with_reducible refine pops_guard0 ?_); refine ⟨_, rfl, fun K hK => ⟨rfl, ?_⟩⟩) | ((with_reducible refine pD_g0 ?_); refine ⟨_, rfl, rfl, ?_⟩)); (try simp (disch := omega) only [push_cast, seval])) | with_reducible (first | refine ptree_done ?_ | exact ptree_stop | refine ptree_fork ?_) | ((with_reducible refine ptree_I ?_); refine ⟨_, rfl, fun K hK => ?_⟩) | ((with_reducible refine ptree_A ?_ ?_); (refine ⟨_, rfl, fun K hK => ?_⟩)) | ((with_reducible refine pany_I ?_); refine ⟨_, rfl, fun K hK => ?_⟩) | ((with_reducible refine pops_plain fun K hK => popO_row ?_); refine ⟨_, _, _, _, _, rfl, rfl, rfl, rfl, rfl, ?_⟩; simp (disch := omega) only [push_cast, seval]) | ((with_reducible refine pD_x ?_ (popO_row ?_)); exact rfl; refine ⟨_, _, _, _, _, rfl, rfl, rfl, rfl, rfl, ?_⟩; simp (disch := omega) only [push_cast, seval]) | ((with_reducible refine pops_plain fun K hK => popO_build ?_); refine ⟨_, rfl, _, rfl, ?_⟩; simp (disch := omega) only [push_cast, seval]) | ((with_reducible refine pD_y ?_ (py_build ?_)); exact rfl; refine ⟨_, rfl, _, rfl, ?_⟩; simp (disch := omega) only [push_cast, seval]) | ((with_reducible refine pbuild_cs ?_); refine ⟨_, rfl, _, rfl, ?_⟩; simp (disch := omega) only [push_cast, seval]) | ((with_reducible refine pops_plain fun K hK => ?_); simp (disch := omega) only [push_cast, seval]) | ((first | ((with_reducible refine pD_y ?_ ?_); exact rfl) | ((with_reducible refine pD_x ?_ ?_); exact rfl)); simp (disch := omega) only [push_cast, seval]) | ((first | ((with_reducible refine pops_guard ?_); refine ⟨_, rfl, fun K hK => ⟨_, rfl, fun hg => ?_, fun hg => ?_⟩⟩) | ((first | ((with_reducible refine pD_gy ?_ ?_); exact rfl) | ((with_reducible refine pD_gx ?_ ?_); exact rfl)); refine ⟨_, rfl, _, rfl, fun hg => ?_, fun hg => ?_⟩)) <;> first | (exact absurd hg (by decide)) | ((try simp only [Bool.not_true, Bool.not_false] at hg); (try simp only [hg]); (try simp only [push_cast] at hg); (try exact absurd trivial hg); (try (exfalso; omega)); (try simp (disch := omega) only [push_cast, seval]))) | ((with_reducible show pcall _ _ _ _ _ _); (first | (refine pcV (cf Tryz.func72) (sHeadId_p ⟨_, _, _, _, _, _⟩) ?_) | (refine pcV (cf Tryz.func79) (l1In_p _ _ _) ?_) | (refine pcV (cf Tryz.func80) (sSha_p _ sd) ?_) | (refine pcV (cf Tryz.func81) (sDec_p _ sd) ?_) | (refine pcV (cf Tryz.func83) (sValsHash_p _ sd) ?_) | (refine pcH (cf Tryz.func84) (sL9For_p ⟨_, _, _, _, _, _⟩ _ _ sd) ?_) | (refine pcH (cf Tryz.func85) (sL22Ids_p _ sd) ?_) | (refine pcF (cf Tryz.func86) (sL22Copy_p ⟨⟨_, _, _, _, _, _⟩, _, _, ⟨_, _, _, _⟩⟩ (by first | assumption | exact ⟨by (first | assumption | omega | (simp; omega) | (simp_all; done) | (simp_all; omega)), by (first | assumption | omega | (simp; omega) | (simp_all; done) | (simp_all; omega)), by (first | assumption | omega | (simp; omega) | (simp_all; done) | (simp_all; omega))⟩)) ?_)); (try simp (disch := omega) only [push_cast, seval])) | ((with_reducible refine And.intro ?_ ?_); omega))
          (refine Mk.of (tail (v) _ _ ?_ (by (refine ⟨[?_, ?_], ?_, ?_, ?_, ?_⟩; rotate_left 2; (· ((try simp (disch := omega) only [push_cast, seval]); (repeat' (first | exact trivial | exact rfl | refine And.intro ?_ ?_ | omega)))); (· ((try simp (disch := omega) only [push_cast, seval]); (repeat' (first | exact trivial | exact rfl | refine And.intro ?_ ?_ | omega)))); (· exact rfl); (· (first | exact trivial | exact ⟨rfl, trivial⟩ | exact ⟨rfl, rfl, trivial⟩))))))
          obtain ⟨i, rfl⟩ : ∃ i, j = i + 1 := ⟨j - 1, by omega⟩
          rfl
      case t =>
        intro V ρ2 hI; (try dsimp only at hI); refine PWp.at (tm' := ?_) (H' := ?_) ?_ ?_ ?_; rotate_left 2; (· ((try simp only [push_cast, seval]); exact rfl)); (· ((try dsimp only); exact rfl))
        rw [← hI] at ok est
        obtain ⟨u4, h4, b4, e4⟩ := ch_bytes hsz 4 (by omega)
        obtain ⟨u5, h5, b5, e5⟩ := ch_bytes hsz 5 (by omega)
        obtain ⟨u6, h6, b6, e6⟩ := ch_bytes hsz 6 (by omega)
        obtain ⟨u7, h7, b7, e7⟩ := ch_bytes hsz 7 (by omega)
        have hch := sChO_p V (1 + (u4.toNat : Int) % 6) ((u5.toNat : Int) % 4) ok
        have ex : nextOf h V = (changeVals V [⟨1 + (u4.toNat : Int) % 6, (u5.toNat : Int) % 4⟩]).1 := by unfold nextOf chX; rw [e4, e5]
        rw [← ex] at hch
        clear ex
        generalize (changeVals V [⟨1 + (u4.toNat : Int) % 6, (u5.toNat : Int) % 4⟩]).2 = bb at hch
        have okn := nextOf_ok (h := h) ok
        have hvl := (valsOk_iff.1 ok).2.2.2
        have hnl := (valsOk_iff.1 okn).2.2.2
        unfold mkBlock mkHead at est
        rw [e6, e7] at est
        generalize nextOf h V = nx at hch okn hnl est
        clear okn
        have hz1 := valsHash_le V
        have hz2 := valsHash_le nx
        have hz3 := decS_size (u7.toNat : Int)
        have c1 := sValsHash_p V (by omega)
        have c2 := sValsHash_p nx (by omega)
        have c3 := sDec_p (u7.toNat : Int) (by omega)
        have hsl : ((V.map (·.fId)).length) ≤ 1000 := by rw [List.length_map]; omega
        generalize valsHash V = s1 at c1 hz1 est
        generalize valsHash nx = s2 at c2 hz2 est
        generalize decS (u7.toNat : Int) = s3 at c3 hz3 est
        obtain ⟨tm, htm⟩ : ∃ x, x = t + 1 + (u6.toNat : Int) % 5 := ⟨_, rfl⟩
        rw [← htm] at est
        have c4 := sL9For_o ⟨(j : Int) + 1, tm, l, s1, s2, s3⟩ 0 (V.map (·.fId)) hsl
        have c5 := sHeadId_p ⟨(j : Int) + 1, tm, l, s1, s2, s3⟩
        have hz4 := headId_le ⟨(j : Int) + 1, tm, l, s1, s2, s3⟩
        have hsgl : (cFor ⟨(j : Int) + 1, tm, l, s1, s2, s3⟩ 0 (V.map (·.fId))).fSigs.length ≤ 7 := by
          unfold cFor
          dsimp only
          rw [List.length_map, List.length_map]
          exact hvl
        unfold mkCommit at est
        have e0 : cFor ⟨(j : Int) + 1, tm, l, s1, s2, s3⟩ 0 (V.map (·.fId)) = ⟨(j : Int) + 1, 0, headId ⟨(j : Int) + 1, tm, l, s1, s2, s3⟩, (cFor ⟨(j : Int) + 1, tm, l, s1, s2, s3⟩ 0 (V.map (·.fId))).fSigs⟩ := rfl
        rw [e0] at est
        clear e0
        generalize (cFor ⟨(j : Int) + 1, tm, l, s1, s2, s3⟩ 0 (V.map (·.fId))).fSigs = sg at c4 hsgl est
        have ehd : headId (chainAt seed j).fHead = headId ⟨(j : Int) + 1, tm, l, s1, s2, s3⟩ := by rw [est]
        generalize headId ⟨(j : Int) + 1, tm, l, s1, s2, s3⟩ = id at c4 c5 hz4 est ehd
        dsimp only at c4
        have c6 := sL22Copy_o ⟨⟨(j : Int) + 1, tm, l, s1, s2, s3⟩, V, nx, ⟨(j : Int) + 1, 0, id, sg⟩⟩ ⟨by dsimp only; omega, by dsimp only; omega, by dsimp only; omega⟩
        apply PWp.cap (α := Unit) (fun z => [(5, .own 0), (12, .own 1), (9, .val (.int .i64 ((j : Int) + 1))), (7, .val (.int .i64 tm)), (14, .ptr 2 0)]) [2, 3, 6, 8, 10, 11, 13, 15, 16, 17, 18, 19, 20, 21, 22, 23, 24, 25, 26, 27, 28, 29, 30, 31, 32, 33, 34, 35, 36, 37, 38, 39, 40, 41, 42, 43, 44, 45, 46, 47, 48, 49, 50, 51, 52, 53, 54, 55, 56, 57, 58, 59, 60, 61, 62, 63, 64, 65, 66, 67, 68, 69, 70, 71, 72, 73, 74, 75, 76, 77, 78, 79, 80, 81, 82, 83, 84, 85, 86, 87, 88, 89, 90, 91, 92, 93, 94, 95, 96, 97, 98, 99, 100, 101, 102] (fun z => [some (.row 36 12 ((chainTo seed j).map pBlock ++ [[.val (.int .i64 ((j : Int) + 1)), .val (.int .i64 tm), .val (.string l), .val (.string s1), .val (.string s2), .val (.string s3), .own 3, .own 4, .val (.int .i64 ((j : Int) + 1)), .val (.int .i64 0), .val (.string id), .own 5]])), some (.row 141 2 (nx.map pVal)), some (.box [.val (.int .i64 ((j : Int) + 1)), .val (.int .i64 tm), .val (.string l), .val (.string s1), .val (.string s2), .val (.string s3)]), some (.row 141 2 (V.map pVal)), some (.row 141 2 (nx.map pVal)), some (.row 227 2 (sg.map pCSig))]) (fun z => True)
        case main =>
          intro tail
          repeat' (first | with_reducible refine mkRegion (id := 20) ?_ | with_reducible (first | refine wA ?_ | refine wB ?_ | refine wC ?_) | with_reducible refine PWp.draw (id := 15) okP true [0, 1, 2, 3, 4, 5, 6, 7, 8, 9, 10, 11, 12, 13, 14, 15, 16, 17] (by kernel_rfl) ?_ | with_reducible refine PWp.drawT (id := 17) okP true (.step 0 (.step 1 (.step 2 (.step 3 (.step 5 (.step 7 (.step 8 (.step 9 (.fork (.alt 4 (.fork (.alt 6 (.fork (.alt 10 (.step 11 (.step 12 (.step 13 .done))) (.alt 12 (.step 10 (.step 11 (.step 13 .done))) .stop))) (.alt 12 (.step 6 (.step 10 (.step 11 (.step 13 .done)))) .stop))) (.alt 12 (.step 4 (.step 6 (.step 10 (.step 11 (.step 13 .done))))) .stop))))))))))) (by kernel_rfl) ?_ | with_reducible refine PWp.drawT (id := 18) okP true (.step 0 (.step 1 (.step 2 (.step 3 (.step 4 (.fork (.alt 5 (.fork (.alt 6 (.step 7 (.step 8 (.step 9 .done))) (.alt 8 (.step 6 (.step 7 (.step 9 .done))) .stop))) (.alt 8 (.step 5 (.step 6 (.step 7 (.step 9 .done)))) .stop)))))))) (by kernel_rfl) ?_ | with_reducible (first | refine w1 ?_ | refine w2 ?_ | refine w3 ?_ | refine w4 ?_ | refine w5 ?_ | refine w6 ?_ | refine w7 ?_ | refine w8 ?_ | refine wT ?_ | refine w9 ?_ | refine wE ?_ | refine wS ?_) | ((with_reducible refine hK _ ?_); clear hK K) | ((with_reducible refine PWp.condI ?_); refine ⟨_, rfl, fun hg => ?_, fun hg => ?_⟩ <;> first | (exact absurd hg (by decide)) | ((try simp only [Bool.not_true, Bool.not_false] at hg); (try simp only [hg]); (try simp only [push_cast] at hg); (try exact absurd trivial hg); (try (exfalso; omega)))) | ((first | ((with_reducible refine pops_guard0 ?_); refine ⟨_, rfl, fun K hK => ⟨rfl, ?_⟩⟩) | ((with_reducible refine pD_g0 ?_); refine ⟨_, rfl, rfl, ?_⟩)); (try simp (disch := omega) only [push_cast, seval, h4, h5, h6, h7, ← htm])) | with_reducible (first | refine ptree_done ?_ | exact ptree_stop | refine ptree_fork ?_) | ((with_reducible refine ptree_I ?_); refine ⟨_, rfl, fun K hK => ?_⟩) | ((with_reducible refine ptree_A ?_ ?_); (refine ⟨_, rfl, fun K hK => ?_⟩)) | ((with_reducible refine pany_I ?_); refine ⟨_, rfl, fun K hK => ?_⟩) | ((with_reducible refine pops_plain fun K hK => popO_row ?_); refine ⟨_, _, _, _, _, rfl, rfl, rfl, rfl, rfl, ?_⟩; simp (disch := omega) only [push_cast, seval, h4, h5, h6, h7, ← htm]) | ((with_reducible refine pD_x ?_ (popO_row ?_)); exact rfl; refine ⟨_, _, _, _, _, rfl, rfl, rfl, rfl, rfl, ?_⟩; simp (disch := omega) only [push_cast, seval, h4, h5, h6, h7, ← htm]) | ((with_reducible refine pops_plain fun K hK => popO_build ?_); refine ⟨_, rfl, _, rfl, ?_⟩; simp (disch := omega) only [push_cast, seval, h4, h5, h6, h7, ← htm]) | ((with_reducible refine pD_y ?_ (py_build ?_)); exact rfl; refine ⟨_, rfl, _, rfl, ?_⟩; simp (disch := omega) only [push_cast, seval, h4, h5, h6, h7, ← htm]) | ((with_reducible refine pbuild_cs ?_); refine ⟨_, rfl, _, rfl, ?_⟩; simp (disch := omega) only [push_cast, seval, h4, h5, h6, h7, ← htm]) | ((with_reducible refine pops_plain fun K hK => ?_); simp (disch := omega) only [push_cast, seval, h4, h5, h6, h7, ← htm]) | ((first | ((with_reducible refine pD_y ?_ ?_); exact rfl) | ((with_reducible refine pD_x ?_ ?_); exact rfl)); simp (disch := omega) only [push_cast, seval, h4, h5, h6, h7, ← htm]) | ((first | ((with_reducible refine pops_guard ?_); refine ⟨_, rfl, fun K hK => ⟨_, rfl, fun hg => ?_, fun hg => ?_⟩⟩) | ((first | ((with_reducible refine pD_gy ?_ ?_); exact rfl) | ((with_reducible refine pD_gx ?_ ?_); exact rfl)); refine ⟨_, rfl, _, rfl, fun hg => ?_, fun hg => ?_⟩)) <;> first | (exact absurd hg (by decide)) | ((try simp only [Bool.not_true, Bool.not_false] at hg); (try simp only [hg]); (try simp only [push_cast] at hg); (try exact absurd trivial hg); (try (exfalso; omega)); (try simp (disch := omega) only [push_cast, seval, h4, h5, h6, h7, ← htm]))) | ((with_reducible show pcall _ _ _ _ _ _); (first | (refine pcV (cf Tryz.func72) (c5) ?_) | (refine pcV (cf Tryz.func79) (l1In_p _ _ _) ?_) | (refine pcV (cf Tryz.func80) (sSha_p _ sd) ?_) | (refine pcV (cf Tryz.func81) (c3) ?_) | (refine pcH (cf Tryz.func82) (hch) ?_ (ha := ⟨rowsC fun _ => rfl, rowC4 rfl, trivial⟩)) | (refine pcV (cf Tryz.func83) (c1) ?_) | (refine pcV (cf Tryz.func83) (c2) ?_) | (refine pcH (cf Tryz.func84) (c4) ?_) | (refine pcH (cf Tryz.func85) (sL22Ids_p _ sd) ?_) | (refine pcH (cf Tryz.func86) (c6) ?_)); (try simp (disch := omega) only [push_cast, seval, h4, h5, h6, h7, ← htm])) | ((with_reducible refine And.intro ?_ ?_); omega))
          all_goals
            (refine Mk.of (tail (()) _ _ ?_ (by (refine ⟨[?_, ?_, ?_, ?_, ?_, ?_], ?_, ?_, ?_, ?_⟩; rotate_left 6; (· ((try simp (disch := omega) only [push_cast, seval]); (repeat' (first | exact trivial | exact rfl | refine And.intro ?_ ?_ | omega)))); (· ((try simp (disch := omega) only [push_cast, seval]); (repeat' (first | exact trivial | exact rfl | refine And.intro ?_ ?_ | omega)))); (· exact rfl); (· (first | exact trivial | exact ⟨rfl, trivial⟩ | exact ⟨rfl, rfl, trivial⟩))))))
            trivial
        case t =>
          intro z ρ2 hI; (try dsimp only at hI); refine PWp.at (tm' := ?_) (H' := ?_) ?_ ?_ ?_; rotate_left 2; (· ((try simp only [push_cast, seval]); exact rfl)); (· ((try dsimp only); exact rfl))
          refine PWp.frz 3 (e := 141) (sz := 2) (es := V.map pVal) rfl (rowsC fun _ => rfl) ?_
          refine PWp.at (tm' := ?_) (H' := ?_) ?_ ?_ ?_; rotate_left 2
          · simp (disch := omega) only [push_cast, seval, thaw, thaw1, thawB]
            exact rfl
          · simp (disch := omega) only [push_cast, seval, thaw, thaw1, thawB, thawMV, thawMC, thawMI, thawMB]
            exact rfl
          refine PWp.frz 4 (e := 141) (sz := 2) (es := nx.map pVal) rfl (rowsC fun _ => rfl) ?_
          refine PWp.at (tm' := ?_) (H' := ?_) ?_ ?_ ?_; rotate_left 2
          · simp (disch := omega) only [push_cast, seval, thaw, thaw1, thawB]
            exact rfl
          · simp (disch := omega) only [push_cast, seval, thaw, thaw1, thawB, thawMV, thawMC, thawMI, thawMB]
            exact rfl
          refine PWp.frz 5 (e := 227) (sz := 2) (es := sg.map pCSig) rfl (rowsC fun _ => rfl) ?_
          refine PWp.at (tm' := ?_) (H' := ?_) ?_ ?_ ?_; rotate_left 2
          · simp (disch := omega) only [push_cast, seval, thaw, thaw1, thawB]
            exact rfl
          · simp (disch := omega) only [push_cast, seval, thaw, thaw1, thawB, thawMV, thawMC, thawMI, thawMB]
            exact rfl
          repeat' (first | with_reducible (first | refine wA ?_ | refine wB ?_ | refine wC ?_) | with_reducible refine PWp.draw (id := 15) okP true [0, 1, 2, 3, 4, 5, 6, 7, 8, 9, 10, 11, 12, 13, 14, 15, 16, 17] (by kernel_rfl) ?_ | with_reducible refine PWp.drawT (id := 17) okP true (.step 0 (.step 1 (.step 2 (.step 3 (.step 5 (.step 7 (.step 8 (.step 9 (.fork (.alt 4 (.fork (.alt 6 (.fork (.alt 10 (.step 11 (.step 12 (.step 13 .done))) (.alt 12 (.step 10 (.step 11 (.step 13 .done))) .stop))) (.alt 12 (.step 6 (.step 10 (.step 11 (.step 13 .done)))) .stop))) (.alt 12 (.step 4 (.step 6 (.step 10 (.step 11 (.step 13 .done))))) .stop))))))))))) (by kernel_rfl) ?_ | with_reducible refine PWp.drawT (id := 18) okP true (.step 0 (.step 1 (.step 2 (.step 3 (.step 4 (.fork (.alt 5 (.fork (.alt 6 (.step 7 (.step 8 (.step 9 .done))) (.alt 8 (.step 6 (.step 7 (.step 9 .done))) .stop))) (.alt 8 (.step 5 (.step 6 (.step 7 (.step 9 .done)))) .stop)))))))) (by kernel_rfl) ?_ | with_reducible (first | refine w1 ?_ | refine w2 ?_ | refine w3 ?_ | refine w4 ?_ | refine w5 ?_ | refine w6 ?_ | refine w7 ?_ | refine w8 ?_ | refine wT ?_ | refine w9 ?_ | refine wE ?_ | refine wS ?_) | ((with_reducible refine hK _ ?_); clear hK K) | ((with_reducible refine PWp.condI ?_); refine ⟨_, rfl, fun hg => ?_, fun hg => ?_⟩ <;> first | (exact absurd hg (by decide)) | ((try simp only [Bool.not_true, Bool.not_false] at hg); (try simp only [hg]); (try simp only [push_cast] at hg); (try exact absurd trivial hg); (try (exfalso; omega)))) | ((first | ((with_reducible refine pops_guard0 ?_); refine ⟨_, rfl, fun K hK => ⟨rfl, ?_⟩⟩) | ((with_reducible refine pD_g0 ?_); refine ⟨_, rfl, rfl, ?_⟩)); (try simp (disch := omega) only [push_cast, seval])) | with_reducible (first | refine ptree_done ?_ | exact ptree_stop | refine ptree_fork ?_) | ((with_reducible refine ptree_I ?_); refine ⟨_, rfl, fun K hK => ?_⟩) | ((with_reducible refine ptree_A ?_ ?_); (refine ⟨_, rfl, fun K hK => ?_⟩)) | ((with_reducible refine pany_I ?_); refine ⟨_, rfl, fun K hK => ?_⟩) | ((with_reducible refine pops_plain fun K hK => popO_row ?_); refine ⟨_, _, _, _, _, rfl, rfl, rfl, rfl, rfl, ?_⟩; simp (disch := omega) only [push_cast, seval]) | ((with_reducible refine pD_x ?_ (popO_row ?_)); exact rfl; refine ⟨_, _, _, _, _, rfl, rfl, rfl, rfl, rfl, ?_⟩; simp (disch := omega) only [push_cast, seval]) | ((with_reducible refine pops_plain fun K hK => popO_build ?_); refine ⟨_, rfl, _, rfl, ?_⟩; simp (disch := omega) only [push_cast, seval]) | ((with_reducible refine pD_y ?_ (py_build ?_)); exact rfl; refine ⟨_, rfl, _, rfl, ?_⟩; simp (disch := omega) only [push_cast, seval]) | ((with_reducible refine pbuild_cs ?_); refine ⟨_, rfl, _, rfl, ?_⟩; simp (disch := omega) only [push_cast, seval]) | ((with_reducible refine pops_plain fun K hK => ?_); simp (disch := omega) only [push_cast, seval]) | ((first | ((with_reducible refine pD_y ?_ ?_); exact rfl) | ((with_reducible refine pD_x ?_ ?_); exact rfl)); simp (disch := omega) only [push_cast, seval]) | ((first | ((with_reducible refine pops_guard ?_); refine ⟨_, rfl, fun K hK => ⟨_, rfl, fun hg => ?_, fun hg => ?_⟩⟩) | ((first | ((with_reducible refine pD_gy ?_ ?_); exact rfl) | ((with_reducible refine pD_gx ?_ ?_); exact rfl)); refine ⟨_, rfl, _, rfl, fun hg => ?_, fun hg => ?_⟩)) <;> first | (exact absurd hg (by decide)) | ((try simp only [Bool.not_true, Bool.not_false] at hg); (try simp only [hg]); (try simp only [push_cast] at hg); (try exact absurd trivial hg); (try (exfalso; omega)); (try simp (disch := omega) only [push_cast, seval]))) | ((with_reducible show pcall _ _ _ _ _ _); (first | (refine pcV (cf Tryz.func72) (c5) ?_) | (refine pcV (cf Tryz.func79) (l1In_p _ _ _) ?_) | (refine pcV (cf Tryz.func80) (sSha_p _ sd) ?_) | (refine pcV (cf Tryz.func81) (c3) ?_) | (refine pcH (cf Tryz.func82) (hch) ?_ (ha := ⟨rowsC fun _ => rfl, rowC4 rfl, trivial⟩)) | (refine pcV (cf Tryz.func83) (c1) ?_) | (refine pcV (cf Tryz.func83) (c2) ?_) | (refine pcH (cf Tryz.func84) (c4) ?_) | (refine pcH (cf Tryz.func85) (sL22Ids_p _ sd) ?_) | (refine pcH (cf Tryz.func86) (c6) ?_)); (try simp (disch := omega) only [push_cast, seval])) | ((with_reducible refine And.intro ?_ ?_); omega))
          (refine ⟨(j + 1, nx, tm, id), by ((try dsimp only); omega), ?_, by (refine ⟨[?_, ?_], ?_, ?_, ?_, ?_⟩; rotate_left 2; (· ((first | simp (disch := omega) only [push_cast, seval, chainTo_succ, est, List.map_append, List.map_cons, List.map_nil] | simp (disch := omega) only [push_cast, seval] | skip); (repeat' (first | exact trivial | exact rfl | refine And.intro ?_ ?_ | omega)))); (· ((first | simp (disch := omega) only [push_cast, seval, chainTo_succ, est, List.map_append, List.map_cons, List.map_nil] | simp (disch := omega) only [push_cast, seval] | skip); (repeat' (first | exact trivial | exact rfl | refine And.intro ?_ ?_ | omega)))); (· exact rfl); (· (first | exact trivial | exact ⟨rfl, trivial⟩ | exact ⟨rfl, rfl, trivial⟩)))⟩)
          exact ⟨hlt, by rw [est], by rw [est], ehd.symm⟩
theorem sChainOf_p (seed : ByteArray) (n : Nat) (hs : seed.size ≤ 2000000) (hn : 1 ≤ n ∧ n ≤ 12) : PCalls Tryz.prog 14 [.val (.string seed), .val (.int .i64 (n : Int))] [] (RH (.sl 12 ((chainTo seed n).map pBlock)) []) :=
  (sChainOf_o seed n hs hn).thawH 0 [] rfl (rowsC fun _ => rfl) rfl rfl trivial trivial
end Go.Proofs.YtiboajlnjldalaaGreatDoor
namespace Go.Proofs.YtiboajlnjldalaaGreatDoor
theorem idx_modify {α : Type} {p : α → Bool} {f : α → α} (h : ∀ x, p (f x) = p x) : ∀ (l : List α) (k : Nat), idx p (l.modify k f) = idx p l
  | [], k => by cases k <;> rfl
  | x :: xs, 0 => by simp only [List.modify_zero_cons]; unfold idx; rw [h]
  | x :: xs, k + 1 => by
    simp only [List.modify_succ_cons]
    have := idx_modify h xs k
    unfold idx
    rw [this]
theorem tableOk_set {t : GTable} {id : Int} {f : GPeer → GPeer} (ok : tableOk t = true) (hi : ∀ p, (f p).fId = p.fId) (hu : ∀ p, 0 ≤ p.fUntil ∧ p.fUntil ≤ 1000320 → 0 ≤ p.fBans ∧ p.fBans ≤ 20 → (0 ≤ (f p).fUntil ∧ (f p).fUntil ≤ 1000320) ∧ (0 ≤ (f p).fBans ∧ (f p).fBans ≤ 20)) : tableOk (peerSet t id f) = true := by
  obtain ⟨h1, h2, h3⟩ := tableOk_iff.1 ok
  refine tableOk_iff.2 ⟨fun k p hp => ?_, by unfold peerSet; dsimp only; rw [List.length_modify]; exact h2, h3⟩
  have e : ∀ x, peerIdx (peerSet t id f).fPeers x = peerIdx t.fPeers x := fun x => by
    unfold peerSet peerIdx
    exact idx_modify (fun q => by rw [hi]) _ _
  rw [e]
  unfold peerSet at hp
  dsimp only at hp
  rw [List.getElem?_modify] at hp
  cases hx : t.fPeers[k]? with
  | none => rw [hx] at hp; simp at hp
  | some x =>
    rw [hx] at hp
    obtain ⟨a1, a2, a3, a4⟩ := h1 k x hx
    simp only [Option.map_eq_map, Option.map_some, Option.some.injEq] at hp
    by_cases q : (peerIdx t.fPeers id).toNat = k
    · rw [if_pos q] at hp
      subst hp
      obtain ⟨b1, b2⟩ := hu x a2 a3
      rw [hi]
      exact ⟨a1, b1, b2, a4⟩
    · rw [if_neg q] at hp
      subst hp
      exact ⟨a1, a2, a3, a4⟩
theorem peerGood_ok {t : GTable} (ok : tableOk t = true) (id : Int) : tableOk (peerGood t id).1 = true := by
  unfold peerGood
  split
  · exact ok
  · exact tableOk_set ok (fun _ => rfl) fun p h _ => ⟨h, by dsimp only; omega⟩
theorem peerLie_ok {t : GTable} (ok : tableOk t = true) (id now : Int) : tableOk (peerLie t id now).1 = true := by
  unfold peerLie
  split
  · exact ok
  · rename_i h
    rw [not_or] at h
    have hn : 0 ≤ now ∧ now ≤ 1000000 := inB_iff.1 (show isTime now = true by simpa using h.2)
    refine tableOk_set ok (fun _ => rfl) fun p h1 h2 => ?_
    have : lieN p.fBans.toNat ≤ 320 := by unfold lieN; omega
    unfold lied
    dsimp only
    omega
theorem lightTick_ok {c : GLight} (ok : lightOk c = true) (n : Int) : lightOk (lightTick c n).1 = true := by
  unfold lightTick
  split
  · rename_i h
    rw [Bool.and_eq_true] at h
    have f := lightOk_iff.1 ok
    exact lightOk_iff.2 ⟨f.t, f.a, f.s, f.p, by have := f.st; dsimp only; split <;> omega, h.2, f.h⟩
  · exact ok
theorem storePut_ok {s : GStore} {a h : GHeader} (ok : storeOk s = true) (hl : lastHead s.fHeads = some a) (hh : headerOk h = true) (hk : linkOk a h = true) : storeOk (storePut s h) = true ∧ lastHead (storePut s h).fHeads = some h := by
  obtain ⟨h1, h2, h3, h4⟩ := storeOk_iff.1 ok
  have key : ∀ l : List GHeader, storeOk ⟨l, l.length⟩ = true → storeOk ⟨l, l.length⟩ = true := fun _ h => h
  have last : ∀ l : List GHeader, lastHead (l ++ [h]) = some h := fun l => by unfold lastHead; simp
  have full : ∀ (l : List GHeader) (sy : Int), storeOk ⟨l ++ [h], sy⟩ = true → storeOk ⟨l ++ [h], ((l ++ [h]).length : Int)⟩ = true := fun l sy q => by
    obtain ⟨q1, q2, q3, q4⟩ := storeOk_iff.1 q
    exact storeOk_iff.2 ⟨q1, q2, by dsimp only; omega, by dsimp only; omega⟩
  by_cases h20 : s.fHeads.length = 20
  · have e : storePut s h = ⟨s.fHeads.drop 10 ++ [h], ((s.fHeads.drop 10 ++ [h]).length : Int)⟩ := by unfold storePut; rw [if_pos h20]
    rw [e]
    exact ⟨full _ _ (store_snoc (store_drop ok h20) (by rw [List.length_drop]; omega) (last_drop h20 hl) hh hk), last _⟩
  · have e : storePut s h = ⟨s.fHeads ++ [h], ((s.fHeads ++ [h]).length : Int)⟩ := by unfold storePut; rw [if_neg h20]
    rw [e]
    exact ⟨full _ s.fSynced (store_snoc ok (by omega) hl hh hk), last _⟩
theorem lightFeed_ok {c : GLight} (ok : lightOk c = true) (peer : Int) (b : GBlock) : lightOk (lightFeed c peer b).1 = true := by
  have f := lightOk_iff.1 ok
  unfold lightFeed
  split
  · exact ok
  · split
    · rename_i hv
      have vf := verified_zero hv
      have va := verified_anchor hv
      obtain ⟨s1, s2⟩ := storePut_ok f.s f.h vf.hd vf.link
      exact lightOk_iff.2 ⟨f.t, va, s1, peerGood_ok f.p _, f.st, f.n, s2⟩
    · split
      · exact lightOk_iff.2 ⟨f.t, f.a, f.s, peerLie_ok f.p _ _, f.st, f.n, f.h⟩
      · exact ok
def tickO (x : GLight) (o : GOffer) : GLight := if o.fWait = 0 then x else (lightTick x o.fWait).1
def syncF (s : GLight × List Int) (o : GOffer) : GLight × List Int := ((lightFeed (tickO s.1 o) o.fPeer o.fBlock).1, s.2 ++ [(lightFeed (tickO s.1 o) o.fPeer o.fBlock).2])
def syncTo (c : GLight) (l : List GOffer) (k : Nat) : GLight × List Int := (l.take k).foldl syncF (c, [])
theorem syncTo_succ {c : GLight} {l : List GOffer} {k : Nat} {o : GOffer} (h : l[k]? = some o) : syncTo c l (k + 1) = syncF (syncTo c l k) o := by
  unfold syncTo
  rw [List.take_add_one, h]
  simp [List.foldl_append]
theorem tickO_ok {c : GLight} (ok : lightOk c = true) (o : GOffer) : lightOk (tickO c o) = true := by
  unfold tickO
  split
  · exact ok
  · exact lightTick_ok ok _
theorem syncTo_ok {c : GLight} (ok : lightOk c = true) (l : List GOffer) : ∀ k, lightOk (syncTo c l k).1 = true ∧ (syncTo c l k).2.length ≤ k
  | 0 => ⟨ok, Nat.le_refl _⟩
  | k + 1 => by
    obtain ⟨h1, h2⟩ := syncTo_ok ok l k
    cases h : l[k]? with
    | none =>
      have e : syncTo c l (k + 1) = syncTo c l k := by
        unfold syncTo
        rw [List.take_add_one, h]
        simp
      rw [e]
      exact ⟨h1, by omega⟩
    | some o =>
      rw [syncTo_succ h]
      unfold syncF
      refine ⟨lightFeed_ok (tickO_ok h1 o) _ _, ?_⟩
      simp only [List.length_append, List.length_cons, List.length_nil]
      omega
end Go.Proofs.YtiboajlnjldalaaGreatDoor
namespace Go.Proofs.YtiboajlnjldalaaGreatDoor
set_option linter.unusedSimpArgs false
set_option linter.unusedVariables false
open Go.RowKit
set_option maxRecDepth 100000
theorem verified_commit {t : GTrust} {a : GAnchor} {h : GHeader} {next : List GVal} {c : GCommit} {now : Int} (e : verified t a h next c now = 0) : c.fId = headId h := by
  by_cases c9 : commitOk a.fNext h c = true
  · unfold commitOk at c9
    simp only [Bool.and_eq_true] at c9
    exact eqB_iff.1 c9.1.1.2
  · simp only [Bool.not_eq_true] at c9
    unfold verified at e
    rw [c9] at e
    exfalso
    repeat' split at e
    all_goals first
      | (exact absurd e (by decide))
      | contradiction
theorem anchor_good {k : Nat} {b : GBlock} (g : GoodB k b) : anchorOk ⟨b.fHead, b.fNext⟩ = true := by
  unfold anchorOk
  rw [g.h, g.nh, Bool.true_and]
  exact eqB_iff.2 rfl
def P12 (l : List GPeer) : Prop := ∃ b1 u b2, l = [⟨1, true, 0, b1⟩, ⟨2, false, u, b2⟩]
theorem p12_idx1 {l : List GPeer} (h : P12 l) : peerIdx l 1 = 0 := by
  obtain ⟨b1, u, b2, rfl⟩ := h
  rfl
theorem p12_idx2 {l : List GPeer} (h : P12 l) : peerIdx l 2 = 1 := by
  obtain ⟨b1, u, b2, rfl⟩ := h
  rfl
theorem p12_free {l : List GPeer} (h : P12 l) {now : Int} (hn : 0 ≤ now) : hasI (bans l now) 1 = false := by
  obtain ⟨b1, u, b2, rfl⟩ := h
  unfold hasI bans
  rw [List.any_eq_false]
  intro y hy
  obtain ⟨z, hz, rfl⟩ := List.mem_map.1 hy
  obtain ⟨hz1, hz2⟩ := List.mem_filter.1 hz
  simp only [decide_eq_true_eq] at hz2 ⊢
  simp only [List.mem_cons, List.not_mem_nil, or_false] at hz1
  rcases hz1 with rfl | rfl
  · dsimp only at hz2; omega
  · dsimp only; omega
theorem p12_good {t : GTable} (h : P12 t.fPeers) {id : Int} (hid : id = 1 ∨ id = 2) : P12 (peerGood t id).1.fPeers := by
  have h1 := p12_idx1 h
  have h2 := p12_idx2 h
  obtain ⟨l, tu⟩ := t
  dsimp only at h h1 h2 ⊢
  unfold peerGood peerSet
  dsimp only
  rcases hid with rfl | rfl
  · rw [h1, if_neg (by decide)]
    obtain ⟨b1, u, b2, rfl⟩ := h
    exact ⟨0, u, b2, rfl⟩
  · rw [h2, if_neg (by decide)]
    obtain ⟨b1, u, b2, rfl⟩ := h
    exact ⟨b1, u, 0, rfl⟩
theorem p12_lie {t : GTable} (h : P12 t.fPeers) {now : Int} : P12 (peerLie t 2 now).1.fPeers := by
  have h2 := p12_idx2 h
  obtain ⟨l, tu⟩ := t
  dsimp only at h h2 ⊢
  unfold peerLie peerSet
  dsimp only
  split
  · exact h
  · rw [h2]
    obtain ⟨b1, u, b2, rfl⟩ := h
    exact ⟨b1, _, _, rfl⟩
structure RInv (s : ByteArray) (n m : Nat) (w : Int) (c : GLight) : Prop where
  ok : lightOk c = true
  t : c.fTrust = ⟨500, 1000⟩
  st : c.fState = 1
  a : c.fAnchor = ⟨(chainAt s m).fHead, (chainAt s m).fNext⟩
  h : c.fStore.fHeads = (chainTo s (m + 1)).map (·.fHead)
  nw : 0 ≤ c.fNow ∧ c.fNow ≤ w
  p : P12 c.fPeers.fPeers
  m : m < n
theorem RInv.start (s : ByteArray) {n : Nat} (hn : 0 < n) : RInv s n 0 5 ⟨⟨500, 1000⟩, 1, ⟨(chainAt s 0).fHead, (chainAt s 0).fNext⟩, ⟨[(chainAt s 0).fHead], 1⟩, ⟨[⟨1, true, 0, 0⟩, ⟨2, false, 0, 0⟩], 0⟩, (chainAt s 0).fHead.fTime⟩ := by
  have g := chainAt_good s 0 (by decide)
  have gt := g.t
  refine ⟨lightOk_iff.2 ⟨rfl, anchor_good g, ?_, rfl, by dsimp only; omega, ?_, rfl⟩, rfl, rfl, rfl, rfl, ?_, ⟨0, 0, 0, rfl⟩, hn⟩
  · refine storeOk_iff.2 ⟨adjOk_iff.2 ⟨fun k v hk => ?_, fun k u v hu hv => ?_⟩, by simp, by dsimp only; omega, by simp⟩
    · cases k with
      | zero => cases hk; exact g.h
      | succ k => simp at hk
    · simp at hv
  · unfold isTime
    rw [inB_iff]
    dsimp only
    omega
  · dsimp only; omega
theorem RInv.tick {s : ByteArray} {n m : Nat} {w : Int} {c : GLight} (r : RInv s n m w c) (hw : w ≤ 300) (hm : m ≤ 100) {o : GOffer} (ho : 0 ≤ o.fWait ∧ o.fWait ≤ 3) : RInv s n m (w + o.fWait) (tickO c o) := by
  have g := chainAt_good s m (by omega)
  have gt := g.t
  have hn := r.nw
  unfold tickO
  split
  · rename_i h0
    rw [h0, Int.add_zero]
    exact r
  · have ok := lightTick_ok r.ok o.fWait
    have e : (lightTick c o.fWait).1 = { c with fNow := c.fNow + o.fWait, fState := 1 } := by
      unfold lightTick
      rw [if_pos (by
        rw [Bool.and_eq_true]
        refine ⟨inB_iff.2 ⟨by omega, by omega⟩, ?_⟩
        unfold isTime
        exact inB_iff.2 ⟨by omega, by omega⟩)]
      dsimp only
      rw [r.a, r.t, r.st]
      dsimp only
      rw [if_neg (by omega)]
    rw [e] at ok ⊢
    exact ⟨ok, r.t, rfl, r.a, r.h, by dsimp only; omega, r.p, r.m⟩
theorem RInv.take {s : ByteArray} {n m : Nat} {w : Int} {c : GLight} (r : RInv s n m w c) {id : Int} (hid : id = 1 ∨ id = 2) (hn : n ≤ 10) (hm : m + 1 < n) (ok : lightOk { c with fAnchor := ⟨(chainAt s (m + 1)).fHead, (chainAt s (m + 1)).fNext⟩, fStore := storePut c.fStore (chainAt s (m + 1)).fHead, fPeers := (peerGood c.fPeers id).1 } = true) : RInv s n (m + 1) w { c with fAnchor := ⟨(chainAt s (m + 1)).fHead, (chainAt s (m + 1)).fNext⟩, fStore := storePut c.fStore (chainAt s (m + 1)).fHead, fPeers := (peerGood c.fPeers id).1 } := by
  refine ⟨ok, r.t, r.st, rfl, ?_, r.nw, p12_good r.p hid, hm⟩
  have hl : c.fStore.fHeads.length = m + 1 := by rw [r.h, List.length_map, chainTo_len]
  dsimp only
  unfold storePut
  dsimp only
  rw [if_neg (by omega), r.h, chainTo_succ (n := m + 1), List.map_append]
  rfl
def Liar (s : ByteArray) (n : Nat) (o : GOffer) : Prop := o.fPeer = 2 ∧ (0 ≤ o.fWait ∧ o.fWait ≤ 3) ∧ (o.fBlock.fCommit.fId ≠ headId o.fBlock.fHead ∨ ∃ j, j < n ∧ o.fBlock = chainAt s j)
theorem RInv.two {s : ByteArray} {n m : Nat} {w : Int} {c : GLight} (r : RInv s n m w c) (hn : n ≤ 10) {b : GBlock} (hb : b.fCommit.fId ≠ headId b.fHead ∨ ∃ j, j < n ∧ b = chainAt s j) : ∃ m', m ≤ m' ∧ RInv s n m' w (lightFeed c 2 b).1 := by
  have ok := lightFeed_ok r.ok 2 b
  unfold lightFeed at ok ⊢
  split
  · exact ⟨m, Nat.le_refl _, r⟩
  · rename_i hA
    rw [if_neg hA] at ok
    split
    · rename_i hv
      rw [if_pos hv] at ok
      rcases hb with hb | ⟨j, hj, rfl⟩
      · exact absurd (verified_commit hv) hb
      · have vf := (verified_zero hv).ht
        rw [r.a] at vf
        dsimp only at vf
        have gj := (chainAt_good s j (by omega)).k
        have gm := (chainAt_good s m (by have := r.m; omega)).k
        obtain rfl : j = m + 1 := by omega
        exact ⟨m + 1, by omega, r.take (.inr rfl) hn hj ok⟩
    · rename_i hv
      rw [if_neg hv] at ok
      split
      · rename_i h5
        rw [if_pos h5] at ok
        exact ⟨m, Nat.le_refl _, ok, r.t, r.st, r.a, r.h, r.nw, p12_lie r.p, r.m⟩
      · exact ⟨m, Nat.le_refl _, r⟩
theorem RInv.one {s : ByteArray} {n m i : Nat} {w : Int} {c : GLight} (r : RInv s n m w c) (hn : n ≤ 10) (hw : w ≤ 300) (hi : i < n) (him : i ≤ m + 1) : ∃ m', m ≤ m' ∧ i ≤ m' ∧ RInv s n m' w (lightFeed c 1 (chainAt s i)).1 := by
  have hmn := r.m
  have ok := lightFeed_ok r.ok 1 (chainAt s i)
  have gi := chainAt_good s i (by omega)
  have gm := chainAt_good s m (by omega)
  have hnow := r.nw
  have f := lightOk_iff.1 r.ok
  have gik := gi.k; have gmk := gm.k; have git := gi.t; have gmt := gm.t
  have c1 : (trustOk c.fTrust && anchorOk c.fAnchor && headerOk (chainAt s i).fHead && isTime c.fNow) = true := by rw [f.t, f.a, f.n, gi.h]; rfl
  have hv : verified c.fTrust c.fAnchor (chainAt s i).fHead (chainAt s i).fNext (chainAt s i).fCommit c.fNow = if i = m + 1 then 0 else 4 := by
    unfold verified
    rw [c1, if_neg (by simp), r.t, r.a]
    dsimp only
    rw [if_neg (by omega), if_neg (by omega)]
    by_cases e : i = m + 1
    · subst e
      have lk := chain_link s m (by omega)
      unfold blockLink at lk
      simp only [Bool.and_eq_true, decide_eq_true_eq] at lk
      obtain ⟨⟨⟨l1, l2⟩, l3⟩, l4⟩ := lk
      have l5 := sameVals_iff.1 l4
      have cm := gi.commit
      rw [l5] at cm
      rw [if_neg (by omega), if_neg (by omega), l2, if_neg (by simp), gi.vh, l5, gm.nh, gi.nh, cm, if_pos rfl]
      rw [if_neg (by rw [eqB_iff.2 rfl]; simp), if_neg (by rw [eqB_iff.2 rfl]; simp), if_neg (by simp)]
    · rw [if_pos (by omega), if_neg e]
  unfold lightFeed at ok ⊢
  rw [r.st, p12_idx1 r.p, p12_free r.p hnow.1] at ok ⊢
  rw [if_neg (by simp)] at ok ⊢
  rw [hv] at ok ⊢
  by_cases e : i = m + 1
  · rw [if_pos e, if_pos rfl] at ok ⊢
    subst e
    refine ⟨m + 1, by omega, Nat.le_refl _, ?_⟩
    have ok' : lightOk { c with fAnchor := ⟨(chainAt s (m + 1)).fHead, (chainAt s (m + 1)).fNext⟩, fStore := storePut c.fStore (chainAt s (m + 1)).fHead, fPeers := (peerGood c.fPeers 1).1 } = true := by
      rw [r.st]
      exact ok
    have q := r.take (.inl rfl) hn hi ok'
    rw [r.st] at q
    exact q
  · rw [if_neg e, if_neg (by decide), if_neg (by decide)]
    exact ⟨m, Nat.le_refl _, by omega, r⟩
def Rounds (s : ByteArray) (n : Nat) : Nat → List GOffer → Prop
  | 0, os => os = []
  | k + 1, os => ∃ os' o1 o2, os = os' ++ [o1, o2] ∧ Rounds s n k os' ∧ Liar s n o1 ∧ o2.fPeer = 1 ∧ (0 ≤ o2.fWait ∧ o2.fWait ≤ 3) ∧ o2.fBlock = chainAt s (k + 1)
theorem rounds_len {s : ByteArray} {n : Nat} : ∀ {k : Nat} {os : List GOffer}, Rounds s n k os → os.length = 2 * k
  | 0, _, h => by rw [h]; rfl
  | k + 1, _, ⟨os', o1, o2, e, h, _⟩ => by
    rw [e, List.length_append, rounds_len h]
    simp
    omega
theorem rounds_run {s : ByteArray} {n : Nat} (hn : n ≤ 10) {c : GLight} (r : RInv s n 0 5 c) : ∀ {k : Nat} {os : List GOffer}, k < n → Rounds s n k os → (∃ m, k ≤ m ∧ RInv s n m (5 + 6 * (k : Int)) (os.foldl syncF (c, [])).1) ∧ (os.foldl syncF (c, [])).2.length = os.length
  | 0, _, _, h => by
    rw [h]
    exact ⟨⟨0, Nat.le_refl _, by simpa using r⟩, rfl⟩
  | k + 1, _, hk, ⟨os', o1, o2, e, h, ⟨p1, w1, b1⟩, p2, w2, b2⟩ => by
    obtain ⟨⟨m, hm, q⟩, hl⟩ := rounds_run hn r (by omega) h
    have hmn := q.m
    rw [e, List.foldl_append]
    generalize os'.foldl syncF (c, []) = st at q hl ⊢
    obtain ⟨x, cs⟩ := st
    dsimp only at q hl
    simp only [List.foldl_cons, List.foldl_nil, syncF]
    have q1 := q.tick (by omega) (by omega) w1
    obtain ⟨m1, hm1, q2⟩ := q1.two hn b1
    rw [← p1] at q2
    generalize (lightFeed (tickO x o1) o1.fPeer o1.fBlock).1 = y at q2 ⊢
    have hm1n := q2.m
    have q3 := q2.tick (by omega) (by omega) w2
    obtain ⟨m2, hm2, hi2, q4⟩ := q3.one hn (by omega) hk (by omega)
    rw [← p2, ← b2] at q4
    refine ⟨⟨m2, hi2, ?_⟩, by simp [hl]⟩
    exact ⟨q4.ok, q4.t, q4.st, q4.a, q4.h, by have := q4.nw; omega, q4.p, q4.m⟩
theorem rounds_end {s : ByteArray} {n : Nat} (hn : n ≤ 10) {c : GLight} (r : RInv s n 0 5 c) {k : Nat} (hk : k + 1 = n) {os : List GOffer} (h : Rounds s n k os) : RInv s n k 100 (syncTo c os os.length).1 ∧ (syncTo c os os.length).2.length = os.length := by
  obtain ⟨⟨m, hm, q⟩, hl⟩ := rounds_run hn r (by omega) h
  unfold syncTo
  rw [List.take_length]
  have hmn := q.m
  obtain rfl : m = k := by omega
  exact ⟨⟨q.ok, q.t, q.st, q.a, q.h, by have := q.nw; omega, q.p, q.m⟩, hl⟩
end Go.Proofs.YtiboajlnjldalaaGreatDoor
namespace Go.Proofs.YtiboajlnjldalaaGreatDoor
set_option linter.unusedSimpArgs false
set_option linter.unusedVariables false
open Go.RowKit
set_option maxRecDepth 100000
theorem storeOk_bad {s : GStore} {k : Nat} (hlt : k < s.fHeads.length) (h : adjAt headerOk linkOk s.fHeads k = false) : storeOk s = false := by
  unfold storeOk
  rw [adjOk_no hlt h]
  rfl
set_option maxHeartbeats 2000000 in
theorem iStoreOk_p (s : GStore) (hl : s.fHeads.length ≤ 1099511627776) : PCalls Tryz.prog 206 [.agg (pStore s)] [] (RV (.val (.bool (storeOk s)))) := by
  refine pcalls_ofR okP Tryz.func206 rfl ?_
  simp only [Tryz.f206, List.length_cons, List.length_nil, Nat.reduceAdd, Nat.reduceSub, List.replicate_succ, List.replicate_zero, List.cons_append, List.nil_append, List.length_map]
  repeat' (first | with_reducible (first | refine wA ?_ | refine wB ?_ | refine wC ?_) | with_reducible refine PWp.draw (id := 8) okP true [0, 1, 2, 3, 4, 5, 6, 7, 8, 9, 10, 11, 12, 13, 14, 15, 16, 17, 18, 19, 20, 21, 22, 23, 24, 25, 26] (by kernel_rfl) ?_ | with_reducible (first | refine w1 ?_ | refine w2 ?_ | refine w3 ?_ | refine w4 ?_ | refine w5 ?_ | refine w6 ?_ | refine w7 ?_ | refine w8 ?_ | refine wT ?_ | refine w9 ?_ | refine wE ?_ | refine wS ?_) | ((with_reducible refine hK _ ?_); clear hK K) | ((with_reducible refine PWp.condI ?_); refine ⟨_, rfl, fun hg => ?_, fun hg => ?_⟩ <;> first | (exact absurd hg (by decide)) | ((try simp only [Bool.not_true, Bool.not_false] at hg); (try simp only [hg]); (try simp only [push_cast] at hg); (try exact absurd trivial hg); (try (exfalso; omega)))) | ((first | ((with_reducible refine pops_guard0 ?_); refine ⟨_, rfl, fun K hK => ⟨rfl, ?_⟩⟩) | ((with_reducible refine pD_g0 ?_); refine ⟨_, rfl, rfl, ?_⟩)); (try simp (disch := omega) only [push_cast, seval])) | ((with_reducible refine pany_I ?_); refine ⟨_, rfl, fun K hK => ?_⟩) | ((with_reducible refine pops_plain fun K hK => ?_); simp (disch := omega) only [push_cast, seval]) | ((first | ((with_reducible refine pD_y ?_ ?_); exact rfl) | ((with_reducible refine pD_x ?_ ?_); exact rfl)); simp (disch := omega) only [push_cast, seval]) | ((first | ((with_reducible refine pops_guard ?_); refine ⟨_, rfl, fun K hK => ⟨_, rfl, fun hg => ?_, fun hg => ?_⟩⟩) | ((first | ((with_reducible refine pD_gy ?_ ?_); exact rfl) | ((with_reducible refine pD_gx ?_ ?_); exact rfl)); refine ⟨_, rfl, _, rfl, fun hg => ?_, fun hg => ?_⟩)) <;> first | (exact absurd hg (by decide)) | ((try simp only [Bool.not_true, Bool.not_false] at hg); (try simp only [hg]); (try simp only [push_cast] at hg); (try exact absurd trivial hg); (try (exfalso; omega)); (try simp (disch := omega) only [push_cast, seval]))) | ((with_reducible show pcall _ _ _ _ _ _); (first | (refine pcV (cf Tryz.func77) (within_p _ _ _) ?_) | (refine pcV (cf Tryz.func87) (iHeadId_p ⟨_, _, _, _, _, _⟩) ?_) | (refine pcV (cf Tryz.func91) (iHeaderOk_p ⟨_, _, _, _, _, _⟩) ?_)); (try simp (disch := omega) only [push_cast, seval])) | ((with_reducible refine And.intro ?_ ?_); omega))
  refine PWp.loopK (α := Nat) (fun k => [(1, .ptr 0 0), (9, .val (.int .i64 (k : Int)))]) [0, 2, 3, 4, 5, 6, 10, 11, 12, 13, 14, 15, 16, 17, 18, 19, 20, 21, 22, 23, 24, 25, 26, 27, 28, 29, 30, 31, 32, 33, 34, 35, 36, 37, 38, 39, 40, 41, 42, 43, 44, 45, 46, 47, 48, 49, 50, 51, 52] (fun k => [some (.box (pStore s))]) (fun k => k ≤ s.fHeads.length ∧ allTo (adjAt headerOk linkOk s.fHeads) k) (fun k => s.fHeads.length - k) (0) (⟨Nat.zero_le _, allTo_zero⟩) (by (refine ⟨[?_], ?_, ?_, ?_, ?_⟩; rotate_left 1; (· ((try simp (disch := omega) only [push_cast, seval]); (repeat' (first | exact trivial | exact rfl | refine And.intro ?_ ?_ | omega)))); (· ((try simp (disch := omega) only [push_cast, seval]); (repeat' (first | exact trivial | exact rfl | refine And.intro ?_ ?_ | omega)))); (· exact rfl); (· (first | exact trivial | exact ⟨rfl, trivial⟩ | exact ⟨rfl, rfl, trivial⟩)))) ?_
  intro k ρ hI
  (try dsimp only at hI)
  refine PWp.at (tm' := ?_) (H' := ?_) ?_ ?_ ?_; rotate_left 2; (· ((try simp only [push_cast, seval]); exact rfl)); (· ((try dsimp only); exact rfl))
  obtain ⟨hk, hA⟩ := hI
  by_cases hlt : k < s.fHeads.length
  · obtain ⟨x, hx⟩ : ∃ x, s.fHeads[k]? = some x := ⟨_, List.getElem?_eq_getElem hlt⟩
    have bad := storeOk_bad hlt
    cases k with
    | zero =>
      have e := adjAt_zero (f := headerOk) (g := linkOk) hx
      repeat' (first | with_reducible (first | refine wA ?_ | refine wB ?_ | refine wC ?_) | with_reducible refine PWp.draw (id := 8) okP true [0, 1, 2, 3, 4, 5, 6, 7, 8, 9, 10, 11, 12, 13, 14, 15, 16, 17, 18, 19, 20, 21, 22, 23, 24, 25, 26] (by kernel_rfl) ?_ | with_reducible (first | refine w1 ?_ | refine w2 ?_ | refine w3 ?_ | refine w4 ?_ | refine w5 ?_ | refine w6 ?_ | refine w7 ?_ | refine w8 ?_ | refine wT ?_ | refine w9 ?_ | refine wE ?_ | refine wS ?_) | ((with_reducible refine hK _ ?_); clear hK K) | ((with_reducible refine PWp.condI ?_); refine ⟨_, rfl, fun hg => ?_, fun hg => ?_⟩ <;> first | (exact absurd hg (by decide)) | ((try simp only [Bool.not_true, Bool.not_false] at hg); (try simp only [hg]); (try simp only [push_cast] at hg); (try exact absurd trivial hg); (try (exfalso; omega)))) | ((first | ((with_reducible refine pops_guard0 ?_); refine ⟨_, rfl, fun K hK => ⟨rfl, ?_⟩⟩) | ((with_reducible refine pD_g0 ?_); refine ⟨_, rfl, rfl, ?_⟩)); (try simp (disch := omega) only [push_cast, seval, hx])) | ((with_reducible refine pany_I ?_); refine ⟨_, rfl, fun K hK => ?_⟩) | ((with_reducible refine pops_plain fun K hK => ?_); simp (disch := omega) only [push_cast, seval, hx]) | ((first | ((with_reducible refine pD_y ?_ ?_); exact rfl) | ((with_reducible refine pD_x ?_ ?_); exact rfl)); simp (disch := omega) only [push_cast, seval, hx]) | ((first | ((with_reducible refine pops_guard ?_); refine ⟨_, rfl, fun K hK => ⟨_, rfl, fun hg => ?_, fun hg => ?_⟩⟩) | ((first | ((with_reducible refine pD_gy ?_ ?_); exact rfl) | ((with_reducible refine pD_gx ?_ ?_); exact rfl)); refine ⟨_, rfl, _, rfl, fun hg => ?_, fun hg => ?_⟩)) <;> first | (exact absurd hg (by decide)) | ((try simp only [Bool.not_true, Bool.not_false] at hg); (try simp only [hg]); (try simp only [push_cast] at hg); (try exact absurd trivial hg); (try (exfalso; omega)); (try simp (disch := omega) only [push_cast, seval, hx]))) | ((with_reducible show pcall _ _ _ _ _ _); (first | (refine pcV (cf Tryz.func77) (within_p _ _ _) ?_) | (refine pcV (cf Tryz.func87) (iHeadId_p ⟨_, _, _, _, _, _⟩) ?_) | (refine pcV (cf Tryz.func91) (iHeaderOk_p ⟨_, _, _, _, _, _⟩) ?_)); (try simp (disch := omega) only [push_cast, seval, hx])) | ((with_reducible refine And.intro ?_ ?_); omega))
      all_goals first
        | (((with_reducible show PPostR _ _ _ _ _ _); refine finV ?_; (try simp only [push_cast, seval])); rw [bad (by rw [e]; simp_all)])
        | ((refine ⟨1, by ((try dsimp only); omega), ?_, by (refine ⟨[?_], ?_, ?_, ?_, ?_⟩; rotate_left 1; (· ((try simp (disch := omega) only [push_cast, seval]); (repeat' (first | exact trivial | exact rfl | refine And.intro ?_ ?_ | omega)))); (· ((try simp (disch := omega) only [push_cast, seval]); (repeat' (first | exact trivial | exact rfl | refine And.intro ?_ ?_ | omega)))); (· exact rfl); (· (first | exact trivial | exact ⟨rfl, trivial⟩ | exact ⟨rfl, rfl, trivial⟩)))⟩); exact ⟨by omega, allTo_succ hA (by rw [e]; simp_all)⟩)
    | succ j =>
      obtain ⟨y, hy⟩ : ∃ y, s.fHeads[j]? = some y := ⟨_, List.getElem?_eq_getElem (by omega)⟩
      have e := adjAt_succ (f := headerOk) (g := linkOk) hx hy
      have by' := headerOk_facts (adjAt_f (hA j (by omega)) hy)
      have b1 := by'.h1; have b2 := by'.h2
      repeat' (first | with_reducible (first | refine wA ?_ | refine wB ?_ | refine wC ?_) | with_reducible refine PWp.draw (id := 8) okP true [0, 1, 2, 3, 4, 5, 6, 7, 8, 9, 10, 11, 12, 13, 14, 15, 16, 17, 18, 19, 20, 21, 22, 23, 24, 25, 26] (by kernel_rfl) ?_ | with_reducible (first | refine w1 ?_ | refine w2 ?_ | refine w3 ?_ | refine w4 ?_ | refine w5 ?_ | refine w6 ?_ | refine w7 ?_ | refine w8 ?_ | refine wT ?_ | refine w9 ?_ | refine wE ?_ | refine wS ?_) | ((with_reducible refine hK _ ?_); clear hK K) | ((with_reducible refine PWp.condI ?_); refine ⟨_, rfl, fun hg => ?_, fun hg => ?_⟩ <;> first | (exact absurd hg (by decide)) | ((try simp only [Bool.not_true, Bool.not_false] at hg); (try simp only [hg]); (try simp only [push_cast] at hg); (try exact absurd trivial hg); (try (exfalso; omega)))) | ((first | ((with_reducible refine pops_guard0 ?_); refine ⟨_, rfl, fun K hK => ⟨rfl, ?_⟩⟩) | ((with_reducible refine pD_g0 ?_); refine ⟨_, rfl, rfl, ?_⟩)); (try simp (disch := omega) only [push_cast, seval, hx, hy])) | ((with_reducible refine pany_I ?_); refine ⟨_, rfl, fun K hK => ?_⟩) | ((with_reducible refine pops_plain fun K hK => ?_); simp (disch := omega) only [push_cast, seval, hx, hy]) | ((first | ((with_reducible refine pD_y ?_ ?_); exact rfl) | ((with_reducible refine pD_x ?_ ?_); exact rfl)); simp (disch := omega) only [push_cast, seval, hx, hy]) | ((first | ((with_reducible refine pops_guard ?_); refine ⟨_, rfl, fun K hK => ⟨_, rfl, fun hg => ?_, fun hg => ?_⟩⟩) | ((first | ((with_reducible refine pD_gy ?_ ?_); exact rfl) | ((with_reducible refine pD_gx ?_ ?_); exact rfl)); refine ⟨_, rfl, _, rfl, fun hg => ?_, fun hg => ?_⟩)) <;> first | (exact absurd hg (by decide)) | ((try simp only [Bool.not_true, Bool.not_false] at hg); (try simp only [hg]); (try simp only [push_cast] at hg); (try exact absurd trivial hg); (try (exfalso; omega)); (try simp (disch := omega) only [push_cast, seval, hx, hy]))) | ((with_reducible show pcall _ _ _ _ _ _); (first | (refine pcV (cf Tryz.func77) (within_p _ _ _) ?_) | (refine pcV (cf Tryz.func87) (iHeadId_p ⟨_, _, _, _, _, _⟩) ?_) | (refine pcV (cf Tryz.func91) (iHeaderOk_p ⟨_, _, _, _, _, _⟩) ?_)); (try simp (disch := omega) only [push_cast, seval, hx, hy])) | ((with_reducible refine And.intro ?_ ?_); omega))
      all_goals first
        | (((with_reducible show PPostR _ _ _ _ _ _); refine finV ?_; (try simp only [push_cast, seval])); rw [bad (by rw [e]; (first | (simp_all [linkOk]; done) | (simp_all [linkOk]; omega)))])
        | ((refine ⟨j + 2, by ((try dsimp only); omega), ?_, by (refine ⟨[?_], ?_, ?_, ?_, ?_⟩; rotate_left 1; (· ((try simp (disch := omega) only [push_cast, seval]); (repeat' (first | exact trivial | exact rfl | refine And.intro ?_ ?_ | omega)))); (· ((try simp (disch := omega) only [push_cast, seval]); (repeat' (first | exact trivial | exact rfl | refine And.intro ?_ ?_ | omega)))); (· exact rfl); (· (first | exact trivial | exact ⟨rfl, trivial⟩ | exact ⟨rfl, rfl, trivial⟩)))⟩); exact ⟨by omega, allTo_succ hA (by rw [e]; (first | (simp_all [linkOk]; done) | (simp_all [linkOk]; omega)))⟩)
  obtain rfl : k = s.fHeads.length := by omega
  have hend : storeOk s = (decide ((s.fHeads.length : Int) ≤ 20) && inB s.fSynced 0 s.fHeads.length) := by unfold storeOk; rw [adjOk_end hA, Bool.true_and]
  repeat' (first | with_reducible (first | refine wA ?_ | refine wB ?_ | refine wC ?_) | with_reducible refine PWp.draw (id := 8) okP true [0, 1, 2, 3, 4, 5, 6, 7, 8, 9, 10, 11, 12, 13, 14, 15, 16, 17, 18, 19, 20, 21, 22, 23, 24, 25, 26] (by kernel_rfl) ?_ | with_reducible (first | refine w1 ?_ | refine w2 ?_ | refine w3 ?_ | refine w4 ?_ | refine w5 ?_ | refine w6 ?_ | refine w7 ?_ | refine w8 ?_ | refine wT ?_ | refine w9 ?_ | refine wE ?_ | refine wS ?_) | ((with_reducible refine hK _ ?_); clear hK K) | ((with_reducible refine PWp.condI ?_); refine ⟨_, rfl, fun hg => ?_, fun hg => ?_⟩ <;> first | (exact absurd hg (by decide)) | ((try simp only [Bool.not_true, Bool.not_false] at hg); (try simp only [hg]); (try simp only [push_cast] at hg); (try exact absurd trivial hg); (try (exfalso; omega)))) | ((first | ((with_reducible refine pops_guard0 ?_); refine ⟨_, rfl, fun K hK => ⟨rfl, ?_⟩⟩) | ((with_reducible refine pD_g0 ?_); refine ⟨_, rfl, rfl, ?_⟩)); (try simp (disch := omega) only [push_cast, seval])) | ((with_reducible refine pany_I ?_); refine ⟨_, rfl, fun K hK => ?_⟩) | ((with_reducible refine pops_plain fun K hK => ?_); simp (disch := omega) only [push_cast, seval]) | ((first | ((with_reducible refine pD_y ?_ ?_); exact rfl) | ((with_reducible refine pD_x ?_ ?_); exact rfl)); simp (disch := omega) only [push_cast, seval]) | ((first | ((with_reducible refine pops_guard ?_); refine ⟨_, rfl, fun K hK => ⟨_, rfl, fun hg => ?_, fun hg => ?_⟩⟩) | ((first | ((with_reducible refine pD_gy ?_ ?_); exact rfl) | ((with_reducible refine pD_gx ?_ ?_); exact rfl)); refine ⟨_, rfl, _, rfl, fun hg => ?_, fun hg => ?_⟩)) <;> first | (exact absurd hg (by decide)) | ((try simp only [Bool.not_true, Bool.not_false] at hg); (try simp only [hg]); (try simp only [push_cast] at hg); (try exact absurd trivial hg); (try (exfalso; omega)); (try simp (disch := omega) only [push_cast, seval]))) | ((with_reducible show pcall _ _ _ _ _ _); (first | (refine pcV (cf Tryz.func77) (within_p _ _ _) ?_) | (refine pcV (cf Tryz.func87) (iHeadId_p ⟨_, _, _, _, _, _⟩) ?_) | (refine pcV (cf Tryz.func91) (iHeaderOk_p ⟨_, _, _, _, _, _⟩) ?_)); (try simp (disch := omega) only [push_cast, seval])) | ((with_reducible refine And.intro ?_ ?_); omega))
  all_goals
    ((with_reducible show PPostR _ _ _ _ _ _); refine finV ?_; (try simp only [push_cast, seval]))
    rw [hend]
    first
      | (simp_all; done)
      | (simp_all; intros; omega)
def pStO (s : GStore) : List PV := [.own 0, .val (.int .i64 s.fSynced)]
def bSt (s : GStore) : Hp := [some (.row 30 6 (s.fHeads.map pHeader))]
attribute [push_cast] pStO bSt
theorem iCopyStore_p (s : GStore) (hl : s.fHeads.length ≤ 2000000) : PCalls Tryz.prog 225 [.agg (pStore s)] [] (RH (.agg (pStO s)) (bSt s)) := by
  refine pcalls_ofR okP Tryz.func225 rfl ?_
  simp only [Tryz.f225, List.length_cons, List.length_nil, Nat.reduceAdd, Nat.reduceSub, List.replicate_succ, List.replicate_zero, List.cons_append, List.nil_append, List.length_map]
  repeat' (first | with_reducible (first | refine wA ?_ | refine wB ?_ | refine wC ?_) | with_reducible refine PWp.draw (id := 1) okP true [0, 1, 3, 4, 2, 5, 6] (by kernel_rfl) ?_ | with_reducible (first | refine w1 ?_ | refine w2 ?_ | refine w3 ?_ | refine w4 ?_ | refine w5 ?_ | refine w6 ?_ | refine w7 ?_ | refine w8 ?_ | refine wT ?_ | refine w9 ?_ | refine wE ?_ | refine wS ?_) | ((with_reducible refine hK _ ?_); clear hK K) | ((with_reducible refine pany_I ?_); refine ⟨_, rfl, fun K hK => ?_⟩) | ((with_reducible refine pops_plain fun K hK => popO_build ?_); refine ⟨_, rfl, _, rfl, ?_⟩; simp (disch := omega) only [push_cast, seval]) | ((with_reducible refine pD_y ?_ (py_build ?_)); exact rfl; refine ⟨_, rfl, _, rfl, ?_⟩; simp (disch := omega) only [push_cast, seval]) | ((with_reducible refine pbuild_cs ?_); refine ⟨_, rfl, _, rfl, ?_⟩; simp (disch := omega) only [push_cast, seval]) | ((with_reducible refine pops_plain fun K hK => ?_); simp (disch := omega) only [push_cast, seval]) | ((first | ((with_reducible refine pD_y ?_ ?_); exact rfl) | ((with_reducible refine pD_x ?_ ?_); exact rfl)); simp (disch := omega) only [push_cast, seval]) | ((with_reducible refine And.intro ?_ ?_); omega))
  all_goals
    ((with_reducible show PPostR _ _ _ _ _ _); exact finH [_])
theorem iStoreOk_app (s : GStore) (h : GHeader) (hl : s.fHeads.length ≤ 2000000) : PCalls Tryz.prog 206 [.agg [.sl 6 (s.fHeads.map pHeader ++ [[.val (.int .i64 h.fHeight), .val (.int .i64 h.fTime), .val (.string h.fLast), .val (.string h.fVals), .val (.string h.fNext), .val (.string h.fData)]]), .val (.int .i64 s.fSynced)]] [] (RV (.val (.bool (storeOk ⟨s.fHeads ++ [h], s.fSynced⟩)))) := by
  have := iStoreOk_p ⟨s.fHeads ++ [h], s.fSynced⟩ (by simp; omega)
  unfold pStore at this
  rw [List.map_append] at this
  exact this
theorem iStoreAdd_p (s : GStore) (h : GHeader) (ok : storeOk s = true) : PCalls Tryz.prog 151 [.agg (pStore s), .agg (pHeader h)] [] (RH (.tup [.agg (pStO (storeAdd s h).1), .val (.bool (storeAdd s h).2)]) (bSt (storeAdd s h).1)) := by
  have h20 := (storeOk_iff.1 ok).2.1
  cases ok2 : storeOk ⟨s.fHeads ++ [h], s.fSynced⟩ with
  | false =>
    have e : storeAdd s h = (s, false) := by unfold storeAdd; rw [if_neg (by simp [ok2])]
    rw [e]
    refine pcalls_ofR okP Tryz.func151 rfl ?_
    simp only [Tryz.f151, List.length_cons, List.length_nil, Nat.reduceAdd, Nat.reduceSub, List.replicate_succ, List.replicate_zero, List.cons_append, List.nil_append, List.length_map]
    repeat' (first | with_reducible (first | refine wA ?_ | refine wB ?_ | refine wC ?_ | refine w1 ?_ | refine w2 ?_ | refine w3 ?_ | refine w4 ?_ | refine w5 ?_ | refine w6 ?_ | refine w7 ?_ | refine w8 ?_ | refine wT ?_ | refine w9 ?_ | refine wE ?_ | refine wS ?_) | ((with_reducible refine hK _ ?_); clear hK K) | ((with_reducible refine PWp.condI ?_); refine ⟨_, rfl, fun hg => ?_, fun hg => ?_⟩ <;> first | (exact absurd hg (by decide)) | ((try simp only [Bool.not_true, Bool.not_false] at hg); (try simp only [hg]); (try simp only [push_cast] at hg); (try exact absurd trivial hg); (try (exfalso; omega)))) | ((with_reducible refine pops_plain fun K hK => popO_row ?_); refine ⟨_, _, _, _, _, rfl, rfl, rfl, rfl, rfl, ?_⟩; simp (disch := omega) only [push_cast, seval, ok, ok2]) | ((with_reducible refine pops_plain fun K hK => popO_build ?_); refine ⟨_, rfl, _, rfl, ?_⟩; simp (disch := omega) only [push_cast, seval, ok, ok2]) | ((with_reducible refine pbuild_cs ?_); refine ⟨_, rfl, _, rfl, ?_⟩; simp (disch := omega) only [push_cast, seval, ok, ok2]) | ((with_reducible refine pops_plain fun K hK => ?_); simp (disch := omega) only [push_cast, seval, ok, ok2]) | ((with_reducible show pcall _ _ _ _ _ _); (first | (refine pcV (cf Tryz.func206) (iStoreOk_app s h (by omega)) ?_) | (refine pcV (cf Tryz.func206) (iStoreOk_p ⟨_, _⟩ sd) ?_) | (refine pcF (cf Tryz.func225) (iCopyStore_p ⟨_, _⟩ sd) ?_)); (try simp (disch := omega) only [push_cast, seval, ok, ok2])) | ((with_reducible refine And.intro ?_ ?_); omega))
    ((with_reducible show PPostR _ _ _ _ _ _); exact finH [_])
  | true =>
    have e : storeAdd s h = (⟨s.fHeads ++ [h], s.fSynced⟩, true) := by unfold storeAdd; rw [if_pos ok2]
    rw [e]
    refine pcalls_ofR okP Tryz.func151 rfl ?_
    simp only [Tryz.f151, List.length_cons, List.length_nil, Nat.reduceAdd, Nat.reduceSub, List.replicate_succ, List.replicate_zero, List.cons_append, List.nil_append, List.length_map]
    repeat' (first | with_reducible (first | refine wA ?_ | refine wB ?_ | refine wC ?_ | refine w1 ?_ | refine w2 ?_ | refine w3 ?_ | refine w4 ?_ | refine w5 ?_ | refine w6 ?_ | refine w7 ?_ | refine w8 ?_ | refine wT ?_ | refine w9 ?_ | refine wE ?_ | refine wS ?_) | ((with_reducible refine hK _ ?_); clear hK K) | ((with_reducible refine PWp.condI ?_); refine ⟨_, rfl, fun hg => ?_, fun hg => ?_⟩ <;> first | (exact absurd hg (by decide)) | ((try simp only [Bool.not_true, Bool.not_false] at hg); (try simp only [hg]); (try simp only [push_cast] at hg); (try exact absurd trivial hg); (try (exfalso; omega)))) | ((with_reducible refine pops_plain fun K hK => popO_row ?_); refine ⟨_, _, _, _, _, rfl, rfl, rfl, rfl, rfl, ?_⟩; simp (disch := omega) only [push_cast, seval, ok, ok2]) | ((with_reducible refine pops_plain fun K hK => popO_build ?_); refine ⟨_, rfl, _, rfl, ?_⟩; simp (disch := omega) only [push_cast, seval, ok, ok2]) | ((with_reducible refine pbuild_cs ?_); refine ⟨_, rfl, _, rfl, ?_⟩; simp (disch := omega) only [push_cast, seval, ok, ok2]) | ((with_reducible refine pops_plain fun K hK => ?_); simp (disch := omega) only [push_cast, seval, ok, ok2]) | ((with_reducible show pcall _ _ _ _ _ _); (first | (refine pcV (cf Tryz.func206) (iStoreOk_app s h (by omega)) ?_) | (refine pcV (cf Tryz.func206) (iStoreOk_p ⟨_, _⟩ sd) ?_) | (refine pcF (cf Tryz.func225) (iCopyStore_p ⟨_, _⟩ sd) ?_)); (try simp (disch := omega) only [push_cast, seval, ok, ok2])) | ((with_reducible refine And.intro ?_ ?_); omega))
    ((with_reducible show PPostR _ _ _ _ _ _); exact finH [_])
theorem iStoreSync_p (s : GStore) (ok : storeOk s = true) : PCalls Tryz.prog 152 [.agg (pStore s)] [] (RH (.tup [.agg (pStO ⟨s.fHeads, s.fHeads.length⟩), .val (.bool true)]) (bSt s)) := by
  have h20 := (storeOk_iff.1 ok).2.1
  refine pcalls_ofR okP Tryz.func152 rfl ?_
  simp only [Tryz.f152, List.length_cons, List.length_nil, Nat.reduceAdd, Nat.reduceSub, List.replicate_succ, List.replicate_zero, List.cons_append, List.nil_append, List.length_map]
  repeat' (first | with_reducible (first | refine wA ?_ | refine wB ?_ | refine wC ?_ | refine w1 ?_ | refine w2 ?_ | refine w3 ?_ | refine w4 ?_ | refine w5 ?_ | refine w6 ?_ | refine w7 ?_ | refine w8 ?_ | refine wT ?_ | refine w9 ?_ | refine wE ?_ | refine wS ?_) | ((with_reducible refine hK _ ?_); clear hK K) | ((with_reducible refine PWp.condI ?_); refine ⟨_, rfl, fun hg => ?_, fun hg => ?_⟩ <;> first | (exact absurd hg (by decide)) | ((try simp only [Bool.not_true, Bool.not_false] at hg); (try simp only [hg]); (try simp only [push_cast] at hg); (try exact absurd trivial hg); (try (exfalso; omega)))) | ((with_reducible refine pops_plain fun K hK => popO_build ?_); refine ⟨_, rfl, _, rfl, ?_⟩; simp (disch := omega) only [push_cast, seval, ok]) | ((with_reducible refine pbuild_cs ?_); refine ⟨_, rfl, _, rfl, ?_⟩; simp (disch := omega) only [push_cast, seval, ok]) | ((with_reducible refine pops_plain fun K hK => ?_); simp (disch := omega) only [push_cast, seval, ok]) | ((with_reducible show pcall _ _ _ _ _ _); (first | (refine pcV (cf Tryz.func206) (iStoreOk_p ⟨_, _⟩ sd) ?_) | (refine pcF (cf Tryz.func225) (iCopyStore_p ⟨_, _⟩ sd) ?_)); (try simp (disch := omega) only [push_cast, seval, ok])) | ((with_reducible refine And.intro ?_ ?_); omega))
  ((with_reducible show PPostR _ _ _ _ _ _); exact finH [_])
theorem iStorePrune_p (s : GStore) (ok : storeOk s = true) (h20 : s.fHeads.length = 20) : PCalls Tryz.prog 150 [.agg (pStore s), .val (.int .i64 10)] [] (RH (.tup [.agg (pStO ⟨s.fHeads.drop 10, max 0 (s.fSynced - 10)⟩), .val (.bool true)]) (bSt ⟨s.fHeads.drop 10, 0⟩)) := by
  have hs := (storeOk_iff.1 ok).2.2
  have hin : inB 10 1 19 = true := by decide
  have htk : List.take 10 (List.drop 10 (s.fHeads.map pHeader)) = (s.fHeads.drop 10).map pHeader := by rw [List.take_of_length_le (by simp; omega), List.map_drop]
  refine pcalls_ofR okP Tryz.func150 rfl ?_
  simp only [Tryz.f150, List.length_cons, List.length_nil, Nat.reduceAdd, Nat.reduceSub, List.replicate_succ, List.replicate_zero, List.cons_append, List.nil_append, List.length_map]
  repeat' (first | with_reducible (first | refine wA ?_ | refine wB ?_ | refine wC ?_ | refine w1 ?_ | refine w2 ?_ | refine w3 ?_ | refine w4 ?_ | refine w5 ?_ | refine w6 ?_ | refine w7 ?_ | refine w8 ?_ | refine wT ?_ | refine w9 ?_ | refine wE ?_ | refine wS ?_) | ((with_reducible refine hK _ ?_); clear hK K) | ((with_reducible refine PWp.condI ?_); refine ⟨_, rfl, fun hg => ?_, fun hg => ?_⟩ <;> first | (exact absurd hg (by decide)) | ((try simp only [Bool.not_true, Bool.not_false] at hg); (try simp only [hg]); (try simp only [push_cast] at hg); (try exact absurd trivial hg); (try (exfalso; omega)))) | ((with_reducible refine pops_plain fun K hK => popO_build ?_); refine ⟨_, rfl, _, rfl, ?_⟩; simp (disch := omega) only [push_cast, seval, ok, h20, hin, htk, List.length_drop]) | ((with_reducible refine pbuild_cs ?_); refine ⟨_, rfl, _, rfl, ?_⟩; simp (disch := omega) only [push_cast, seval, ok, h20, hin, htk, List.length_drop]) | ((with_reducible refine pops_plain fun K hK => ?_); simp (disch := omega) only [push_cast, seval, ok, h20, hin, htk, List.length_drop]) | ((with_reducible show pcall _ _ _ _ _ _); (first | (refine pcV (cf Tryz.func77) (within_p _ _ _) ?_) | (refine pcV (cf Tryz.func206) (iStoreOk_p ⟨_, _⟩ sd) ?_) | (refine pcF (cf Tryz.func225) (iCopyStore_p ⟨_, _⟩ sd) ?_)); (try simp (disch := omega) only [push_cast, seval, ok, h20, hin, htk, List.length_drop])) | ((with_reducible refine And.intro ?_ ?_); omega))
  ((with_reducible show PPostR _ _ _ _ _ _); exact finH [_])
end Go.Proofs.YtiboajlnjldalaaGreatDoor
namespace Go.Proofs.YtiboajlnjldalaaGreatDoor
set_option linter.unusedSimpArgs false
set_option linter.unusedVariables false
open Go.RowKit
set_option maxRecDepth 100000
theorem sL19At_p (t : GTable) (id : Int) (hl : t.fPeers.length ≤ 1099511627776) : PCalls Tryz.prog 170 [.agg (pTable t), .val (.int .i64 id)] [] (RV (.val (.int .i64 (peerIdx t.fPeers id)))) := by
  refine pcalls_ofR okP Tryz.func170 rfl ?_
  simp only [Tryz.f170, List.length_cons, List.length_nil, Nat.reduceAdd, Nat.reduceSub, List.replicate_succ, List.replicate_zero, List.cons_append, List.nil_append, List.length_map]
  repeat' (first | with_reducible (first | refine wA ?_ | refine wB ?_ | refine wC ?_ | refine w1 ?_ | refine w2 ?_ | refine w3 ?_ | refine w4 ?_ | refine w5 ?_ | refine w6 ?_ | refine w7 ?_ | refine w8 ?_ | refine wT ?_ | refine w9 ?_ | refine wE ?_ | refine wS ?_) | ((with_reducible refine hK _ ?_); clear hK K) | ((with_reducible refine PWp.condI ?_); refine ⟨_, rfl, fun hg => ?_, fun hg => ?_⟩ <;> first | (exact absurd hg (by decide)) | ((try simp only [Bool.not_true, Bool.not_false] at hg); (try simp only [hg]); (try simp only [push_cast] at hg); (try exact absurd trivial hg); (try (exfalso; omega)))) | ((with_reducible refine pops_plain fun K hK => ?_); simp (disch := omega) only [push_cast, seval]) | ((with_reducible refine And.intro ?_ ?_); omega))
  refine PWp.loopK (α := Nat) (fun k => [(1, .val (.int .i64 id)), (2, .ptr 0 0), (5, .val (.int .i64 (k : Int)))]) [0, 3, 4, 6, 7, 8, 9, 10, 11, 12, 13, 14, 15, 16, 17, 18, 19, 20, 21] (fun k => [some (.box (pTable t))]) (fun k => k ≤ t.fPeers.length ∧ noneTo (fun p => decide (p.fId = id)) t.fPeers k) (fun k => t.fPeers.length - k) (0) (⟨Nat.zero_le _, noneTo_zero⟩) (by (refine ⟨[?_], ?_, ?_, ?_, ?_⟩; rotate_left 1; (· ((try simp (disch := omega) only [push_cast, seval]); (repeat' (first | exact trivial | exact rfl | refine And.intro ?_ ?_ | omega)))); (· ((try simp (disch := omega) only [push_cast, seval]); (repeat' (first | exact trivial | exact rfl | refine And.intro ?_ ?_ | omega)))); (· exact rfl); (· (first | exact trivial | exact ⟨rfl, trivial⟩ | exact ⟨rfl, rfl, trivial⟩)))) ?_
  intro k ρ hI
  (try dsimp only at hI)
  refine PWp.at (tm' := ?_) (H' := ?_) ?_ ?_ ?_; rotate_left 2; (· ((try simp only [push_cast, seval]); exact rfl)); (· ((try dsimp only); exact rfl))
  obtain ⟨hk, hA⟩ := hI
  by_cases hlt : k < t.fPeers.length
  · obtain ⟨x, hx⟩ : ∃ x, t.fPeers[k]? = some x := ⟨_, List.getElem?_eq_getElem hlt⟩
    by_cases he : x.fId = id
    · have e : peerIdx t.fPeers id = k := idx_some hx (by simpa using he) hA
      repeat' (first | with_reducible (first | refine wA ?_ | refine wB ?_ | refine wC ?_ | refine w1 ?_ | refine w2 ?_ | refine w3 ?_ | refine w4 ?_ | refine w5 ?_ | refine w6 ?_ | refine w7 ?_ | refine w8 ?_ | refine wT ?_ | refine w9 ?_ | refine wE ?_ | refine wS ?_) | ((with_reducible refine hK _ ?_); clear hK K) | ((with_reducible refine PWp.condI ?_); refine ⟨_, rfl, fun hg => ?_, fun hg => ?_⟩ <;> first | (exact absurd hg (by decide)) | ((try simp only [Bool.not_true, Bool.not_false] at hg); (try simp only [hg]); (try simp only [push_cast] at hg); (try exact absurd trivial hg); (try (exfalso; omega)))) | ((with_reducible refine pops_plain fun K hK => ?_); simp (disch := omega) only [push_cast, seval, hx, he]) | ((with_reducible refine And.intro ?_ ?_); omega))
      ((with_reducible show PPostR _ _ _ _ _ _); refine finV ?_; (try simp only [push_cast, seval]))
      rw [e]
    ·
      repeat' (first | with_reducible (first | refine wA ?_ | refine wB ?_ | refine wC ?_ | refine w1 ?_ | refine w2 ?_ | refine w3 ?_ | refine w4 ?_ | refine w5 ?_ | refine w6 ?_ | refine w7 ?_ | refine w8 ?_ | refine wT ?_ | refine w9 ?_ | refine wE ?_ | refine wS ?_) | ((with_reducible refine hK _ ?_); clear hK K) | ((with_reducible refine PWp.condI ?_); refine ⟨_, rfl, fun hg => ?_, fun hg => ?_⟩ <;> first | (exact absurd hg (by decide)) | ((try simp only [Bool.not_true, Bool.not_false] at hg); (try simp only [hg]); (try simp only [push_cast] at hg); (try exact absurd trivial hg); (try (exfalso; omega)))) | ((with_reducible refine pops_plain fun K hK => ?_); simp (disch := omega) only [push_cast, seval, hx]) | ((with_reducible refine And.intro ?_ ?_); omega))
      (refine ⟨k + 1, by ((try dsimp only); omega), ?_, by (refine ⟨[?_], ?_, ?_, ?_, ?_⟩; rotate_left 1; (· ((try simp (disch := omega) only [push_cast, seval]); (repeat' (first | exact trivial | exact rfl | refine And.intro ?_ ?_ | omega)))); (· ((try simp (disch := omega) only [push_cast, seval]); (repeat' (first | exact trivial | exact rfl | refine And.intro ?_ ?_ | omega)))); (· exact rfl); (· (first | exact trivial | exact ⟨rfl, trivial⟩ | exact ⟨rfl, rfl, trivial⟩)))⟩)
      exact ⟨hlt, noneTo_succ hA hx (by simpa using he)⟩
  obtain rfl : k = t.fPeers.length := by omega
  have e : peerIdx t.fPeers id = -1 := noneTo_end hA
  repeat' (first | with_reducible (first | refine wA ?_ | refine wB ?_ | refine wC ?_ | refine w1 ?_ | refine w2 ?_ | refine w3 ?_ | refine w4 ?_ | refine w5 ?_ | refine w6 ?_ | refine w7 ?_ | refine w8 ?_ | refine wT ?_ | refine w9 ?_ | refine wE ?_ | refine wS ?_) | ((with_reducible refine hK _ ?_); clear hK K) | ((with_reducible refine PWp.condI ?_); refine ⟨_, rfl, fun hg => ?_, fun hg => ?_⟩ <;> first | (exact absurd hg (by decide)) | ((try simp only [Bool.not_true, Bool.not_false] at hg); (try simp only [hg]); (try simp only [push_cast] at hg); (try exact absurd trivial hg); (try (exfalso; omega)))) | ((with_reducible refine pops_plain fun K hK => ?_); simp (disch := omega) only [push_cast, seval]) | ((with_reducible refine And.intro ?_ ?_); omega))
  ((with_reducible show PPostR _ _ _ _ _ _); refine finV ?_; (try simp only [push_cast, seval]))
  rw [e]
theorem at1_p (p : GPeer) (id : Int) : PCalls Tryz.prog 228 [.agg (pPeer p), .eptr [.val (.int .i64 id)] 0] [] (RV (.val (.bool (decide (p.fId = id))))) := by
  refine pcalls_ofR okP Tryz.func228 rfl ?_
  simp only [Tryz.f228, List.length_cons, List.length_nil, Nat.reduceAdd, Nat.reduceSub, List.replicate_succ, List.replicate_zero, List.cons_append, List.nil_append, List.length_map]
  repeat' (first | with_reducible (first | refine wA ?_ | refine wB ?_ | refine wC ?_ | refine w1 ?_ | refine w2 ?_ | refine w3 ?_ | refine w4 ?_ | refine w5 ?_ | refine w6 ?_ | refine w7 ?_ | refine w8 ?_ | refine wT ?_ | refine w9 ?_ | refine wE ?_ | refine wS ?_) | ((with_reducible refine hK _ ?_); clear hK K) | ((with_reducible refine pops_plain fun K hK => ?_); simp (disch := omega) only [push_cast, seval]) | ((with_reducible refine And.intro ?_ ?_); omega))
  ((with_reducible show PPostR _ _ _ _ _ _); refine finV ?_; (try simp only [push_cast, seval]))
  exact eqI_B
theorem idxPeer_p (l : List GPeer) (id : Int) (hl : l.length ≤ 1099511627776) : PCalls Tryz.prog 227 [.sl 4 (l.map pPeer), .clo 228 [.eptr [.val (.int .i64 id)] 0]] [] (RV (.val (.int .i64 (peerIdx l id)))) := by
  have cloC : Callable Tryz.prog 228 := callable_of Tryz.func228 rfl rfl
  refine pcalls_ofR okP Tryz.func227 rfl ?_
  simp only [Tryz.f227, List.length_cons, List.length_nil, Nat.reduceAdd, Nat.reduceSub, List.replicate_succ, List.replicate_zero, List.cons_append, List.nil_append, List.length_map]
  repeat' (first | with_reducible (first | refine wA ?_ | refine wB ?_ | refine wC ?_ | refine w1 ?_ | refine w2 ?_ | refine w3 ?_ | refine w4 ?_ | refine w5 ?_ | refine w6 ?_ | refine w7 ?_ | refine w8 ?_ | refine wT ?_ | refine w9 ?_ | refine wE ?_ | refine wS ?_) | ((with_reducible refine hK _ ?_); clear hK K) | ((with_reducible refine PWp.condI ?_); refine ⟨_, rfl, fun hg => ?_, fun hg => ?_⟩ <;> first | (exact absurd hg (by decide)) | ((try simp only [Bool.not_true, Bool.not_false] at hg); (try simp only [hg]); (try simp only [push_cast] at hg); (try exact absurd trivial hg); (try (exfalso; omega)))) | ((with_reducible refine pops_plain fun K hK => ?_); simp (disch := omega) only [push_cast, seval]) | ((with_reducible show pcall _ _ _ _ _ _); (first | (refine pcV (g := 228) cloC (at1_p ⟨_, _, _, _⟩ _) ?_)); (try simp (disch := omega) only [push_cast, seval])) | ((with_reducible refine And.intro ?_ ?_); omega))
  refine PWp.loopK (α := Nat) (fun k => [(8, .val (.int .i64 (k : Int)))]) [2, 3, 4, 5, 6, 9, 10, 11, 12, 13, 14, 15, 16, 17, 18] (fun k => []) (fun k => k ≤ l.length ∧ noneTo (fun p => decide (p.fId = id)) l k) (fun k => l.length - k) (0) (⟨Nat.zero_le _, noneTo_zero⟩) (by (refine ⟨[], ?_, ?_, ?_, ?_⟩; (· ((try simp (disch := omega) only [push_cast, seval]); (repeat' (first | exact trivial | exact rfl | refine And.intro ?_ ?_ | omega)))); (· ((try simp (disch := omega) only [push_cast, seval]); (repeat' (first | exact trivial | exact rfl | refine And.intro ?_ ?_ | omega)))); (· exact rfl); (· (first | exact trivial | exact ⟨rfl, trivial⟩ | exact ⟨rfl, rfl, trivial⟩)))) ?_
  intro k ρ hI
  (try dsimp only at hI)
  refine PWp.at (tm' := ?_) (H' := ?_) ?_ ?_ ?_; rotate_left 2; (· ((try simp only [push_cast, seval]); exact rfl)); (· ((try dsimp only); exact rfl))
  obtain ⟨hk, hA⟩ := hI
  by_cases hlt : k < l.length
  · obtain ⟨x, hx⟩ : ∃ x, l[k]? = some x := ⟨_, List.getElem?_eq_getElem hlt⟩
    by_cases he : x.fId = id
    · have e : peerIdx l id = k := idx_some hx (by simpa using he) hA
      repeat' (first | with_reducible (first | refine wA ?_ | refine wB ?_ | refine wC ?_ | refine w1 ?_ | refine w2 ?_ | refine w3 ?_ | refine w4 ?_ | refine w5 ?_ | refine w6 ?_ | refine w7 ?_ | refine w8 ?_ | refine wT ?_ | refine w9 ?_ | refine wE ?_ | refine wS ?_) | ((with_reducible refine hK _ ?_); clear hK K) | ((with_reducible refine PWp.condI ?_); refine ⟨_, rfl, fun hg => ?_, fun hg => ?_⟩ <;> first | (exact absurd hg (by decide)) | ((try simp only [Bool.not_true, Bool.not_false] at hg); (try simp only [hg]); (try simp only [push_cast] at hg); (try exact absurd trivial hg); (try (exfalso; omega)))) | ((with_reducible refine pops_plain fun K hK => ?_); simp (disch := omega) only [push_cast, seval, hx, he]) | ((with_reducible show pcall _ _ _ _ _ _); (first | (refine pcV (g := 228) cloC (at1_p ⟨_, _, _, _⟩ _) ?_)); (try simp (disch := omega) only [push_cast, seval, hx, he])) | ((with_reducible refine And.intro ?_ ?_); omega))
      ((with_reducible show PPostR _ _ _ _ _ _); refine finV ?_; (try simp only [push_cast, seval]))
      rw [e]
    ·
      repeat' (first | with_reducible (first | refine wA ?_ | refine wB ?_ | refine wC ?_ | refine w1 ?_ | refine w2 ?_ | refine w3 ?_ | refine w4 ?_ | refine w5 ?_ | refine w6 ?_ | refine w7 ?_ | refine w8 ?_ | refine wT ?_ | refine w9 ?_ | refine wE ?_ | refine wS ?_) | ((with_reducible refine hK _ ?_); clear hK K) | ((with_reducible refine PWp.condI ?_); refine ⟨_, rfl, fun hg => ?_, fun hg => ?_⟩ <;> first | (exact absurd hg (by decide)) | ((try simp only [Bool.not_true, Bool.not_false] at hg); (try simp only [hg]); (try simp only [push_cast] at hg); (try exact absurd trivial hg); (try (exfalso; omega)))) | ((with_reducible refine pops_plain fun K hK => ?_); simp (disch := omega) only [push_cast, seval, hx]) | ((with_reducible show pcall _ _ _ _ _ _); (first | (refine pcV (g := 228) cloC (at1_p ⟨_, _, _, _⟩ _) ?_)); (try simp (disch := omega) only [push_cast, seval, hx])) | ((with_reducible refine And.intro ?_ ?_); omega))
      (refine ⟨k + 1, by ((try dsimp only); omega), ?_, by (refine ⟨[], ?_, ?_, ?_, ?_⟩; (· ((try simp (disch := omega) only [push_cast, seval]); (repeat' (first | exact trivial | exact rfl | refine And.intro ?_ ?_ | omega)))); (· ((try simp (disch := omega) only [push_cast, seval]); (repeat' (first | exact trivial | exact rfl | refine And.intro ?_ ?_ | omega)))); (· exact rfl); (· (first | exact trivial | exact ⟨rfl, trivial⟩ | exact ⟨rfl, rfl, trivial⟩)))⟩)
      exact ⟨hlt, noneTo_succ hA hx (by simpa using he)⟩
  obtain rfl : k = l.length := by omega
  have e : peerIdx l id = -1 := noneTo_end hA
  repeat' (first | with_reducible (first | refine wA ?_ | refine wB ?_ | refine wC ?_ | refine w1 ?_ | refine w2 ?_ | refine w3 ?_ | refine w4 ?_ | refine w5 ?_ | refine w6 ?_ | refine w7 ?_ | refine w8 ?_ | refine wT ?_ | refine w9 ?_ | refine wE ?_ | refine wS ?_) | ((with_reducible refine hK _ ?_); clear hK K) | ((with_reducible refine PWp.condI ?_); refine ⟨_, rfl, fun hg => ?_, fun hg => ?_⟩ <;> first | (exact absurd hg (by decide)) | ((try simp only [Bool.not_true, Bool.not_false] at hg); (try simp only [hg]); (try simp only [push_cast] at hg); (try exact absurd trivial hg); (try (exfalso; omega)))) | ((with_reducible refine pops_plain fun K hK => ?_); simp (disch := omega) only [push_cast, seval]) | ((with_reducible show pcall _ _ _ _ _ _); (first | (refine pcV (g := 228) cloC (at1_p ⟨_, _, _, _⟩ _) ?_)); (try simp (disch := omega) only [push_cast, seval])) | ((with_reducible refine And.intro ?_ ?_); omega))
  ((with_reducible show PPostR _ _ _ _ _ _); refine finV ?_; (try simp only [push_cast, seval]))
  rw [e]
theorem iAt_p (t : GTable) (id : Int) (hl : t.fPeers.length ≤ 1099511627776) : PCalls Tryz.prog 146 [.agg (pTable t), .val (.int .i64 id)] [] (RV (.val (.int .i64 (peerIdx t.fPeers id)))) := by
  refine pcalls_ofR okP Tryz.func146 rfl ?_
  simp only [Tryz.f146, List.length_cons, List.length_nil, Nat.reduceAdd, Nat.reduceSub, List.replicate_succ, List.replicate_zero, List.cons_append, List.nil_append, List.length_map]
  repeat' (first | with_reducible (first | refine wA ?_ | refine wB ?_ | refine wC ?_ | refine w1 ?_ | refine w2 ?_ | refine w3 ?_ | refine w4 ?_ | refine w5 ?_ | refine w6 ?_ | refine w7 ?_ | refine w8 ?_ | refine wT ?_ | refine w9 ?_ | refine wE ?_ | refine wS ?_) | ((with_reducible refine hK _ ?_); clear hK K) | ((with_reducible refine pops_plain fun K hK => ?_); simp (disch := omega) only [push_cast, seval]) | ((with_reducible show pcall _ _ _ _ _ _); (first | (refine pcV (cf Tryz.func227) (idxFree_p _ sd) ?_) | (refine pcV (cf Tryz.func227) (idxPeer_p _ _ sd) ?_)); (try simp (disch := omega) only [push_cast, seval])) | ((with_reducible refine And.intro ?_ ?_); omega))
  ((with_reducible show PPostR _ _ _ _ _ _); refine finV ?_; (try simp only [push_cast, seval]))
theorem table_bad {t : GTable} {k : Nat} (hlt : k < t.fPeers.length) (h : peerAt t.fPeers k = false) : tableOk t = false := by
  unfold tableOk
  rw [allN_no hlt h]
  rfl
set_option maxHeartbeats 1000000 in
theorem iTableOk_p (t : GTable) (hl : t.fPeers.length ≤ 1099511627776) : PCalls Tryz.prog 207 [.agg (pTable t)] [] (RV (.val (.bool (tableOk t)))) := by
  refine pcalls_ofR okP Tryz.func207 rfl ?_
  simp only [Tryz.f207, List.length_cons, List.length_nil, Nat.reduceAdd, Nat.reduceSub, List.replicate_succ, List.replicate_zero, List.cons_append, List.nil_append, List.length_map]
  repeat' (first | with_reducible (first | refine wA ?_ | refine wB ?_ | refine wC ?_ | refine w1 ?_ | refine w2 ?_ | refine w3 ?_ | refine w4 ?_ | refine w5 ?_ | refine w6 ?_ | refine w7 ?_ | refine w8 ?_ | refine wT ?_ | refine w9 ?_ | refine wE ?_ | refine wS ?_) | ((with_reducible refine hK _ ?_); clear hK K) | ((with_reducible refine PWp.condI ?_); refine ⟨_, rfl, fun hg => ?_, fun hg => ?_⟩ <;> first | (exact absurd hg (by decide)) | ((try simp only [Bool.not_true, Bool.not_false] at hg); (try simp only [hg]); (try simp only [push_cast] at hg); (try exact absurd trivial hg); (try (exfalso; omega)))) | ((with_reducible refine pops_guard0 ?_); refine ⟨_, rfl, fun K hK => ⟨rfl, ?_⟩⟩; (try simp (disch := omega) only [push_cast, seval])) | ((with_reducible refine pops_plain fun K hK => ?_); simp (disch := omega) only [push_cast, seval]) | ((with_reducible refine pops_guard ?_); refine ⟨_, rfl, fun K hK => ⟨_, rfl, fun hg => ?_, fun hg => ?_⟩⟩ <;> first | (exact absurd hg (by decide)) | ((try simp only [Bool.not_true, Bool.not_false] at hg); (try simp only [hg]); (try simp only [push_cast] at hg); (try exact absurd trivial hg); (try (exfalso; omega)); (try simp (disch := omega) only [push_cast, seval]))) | ((with_reducible show pcall _ _ _ _ _ _); (first | (refine pcV (cf Tryz.func77) (within_p _ _ _) ?_) | (refine pcV (cf Tryz.func146) (iAt_p ⟨_, _⟩ _ sd) ?_) | (refine pcV (cf Tryz.func167) (isTime_p _) ?_)); (try simp (disch := omega) only [push_cast, seval])) | ((with_reducible refine And.intro ?_ ?_); omega))
  refine PWp.loopK (α := Nat) (fun k => [(1, .ptr 0 0), (8, .val (.int .i64 (k : Int)))]) [0, 2, 3, 4, 5, 9, 10, 11, 12, 13, 14, 15, 16, 17, 18, 19, 20, 21, 22, 23, 24, 25, 26, 27, 28, 29, 30, 31, 32, 33, 34, 35, 36, 37] (fun k => [some (.box (pTable t))]) (fun k => k ≤ t.fPeers.length ∧ allTo (peerAt t.fPeers) k) (fun k => t.fPeers.length - k) (0) (⟨Nat.zero_le _, allTo_zero⟩) (by (refine ⟨[?_], ?_, ?_, ?_, ?_⟩; rotate_left 1; (· ((try simp (disch := omega) only [push_cast, seval]); (repeat' (first | exact trivial | exact rfl | refine And.intro ?_ ?_ | omega)))); (· ((try simp (disch := omega) only [push_cast, seval]); (repeat' (first | exact trivial | exact rfl | refine And.intro ?_ ?_ | omega)))); (· exact rfl); (· (first | exact trivial | exact ⟨rfl, trivial⟩ | exact ⟨rfl, rfl, trivial⟩)))) ?_
  intro k ρ hI
  (try dsimp only at hI)
  refine PWp.at (tm' := ?_) (H' := ?_) ?_ ?_ ?_; rotate_left 2; (· ((try simp only [push_cast, seval]); exact rfl)); (· ((try dsimp only); exact rfl))
  obtain ⟨hk, hA⟩ := hI
  by_cases hlt : k < t.fPeers.length
  · obtain ⟨x, hx⟩ : ∃ x, t.fPeers[k]? = some x := ⟨_, List.getElem?_eq_getElem hlt⟩
    have bad := table_bad hlt
    have e : peerAt t.fPeers k = (inB x.fId 1 99 && inB x.fUntil 0 1000320 && inB x.fBans 0 20 && decide (peerIdx t.fPeers x.fId = (k : Int))) := by unfold peerAt; rw [hx]
    repeat' (first | with_reducible (first | refine wA ?_ | refine wB ?_ | refine wC ?_ | refine w1 ?_ | refine w2 ?_ | refine w3 ?_ | refine w4 ?_ | refine w5 ?_ | refine w6 ?_ | refine w7 ?_ | refine w8 ?_ | refine wT ?_ | refine w9 ?_ | refine wE ?_ | refine wS ?_) | ((with_reducible refine hK _ ?_); clear hK K) | ((with_reducible refine PWp.condI ?_); refine ⟨_, rfl, fun hg => ?_, fun hg => ?_⟩ <;> first | (exact absurd hg (by decide)) | ((try simp only [Bool.not_true, Bool.not_false] at hg); (try simp only [hg]); (try simp only [push_cast] at hg); (try exact absurd trivial hg); (try (exfalso; omega)))) | ((with_reducible refine pops_guard0 ?_); refine ⟨_, rfl, fun K hK => ⟨rfl, ?_⟩⟩; (try simp (disch := omega) only [push_cast, seval, hx])) | ((with_reducible refine pops_plain fun K hK => ?_); simp (disch := omega) only [push_cast, seval, hx]) | ((with_reducible refine pops_guard ?_); refine ⟨_, rfl, fun K hK => ⟨_, rfl, fun hg => ?_, fun hg => ?_⟩⟩ <;> first | (exact absurd hg (by decide)) | ((try simp only [Bool.not_true, Bool.not_false] at hg); (try simp only [hg]); (try simp only [push_cast] at hg); (try exact absurd trivial hg); (try (exfalso; omega)); (try simp (disch := omega) only [push_cast, seval, hx]))) | ((with_reducible show pcall _ _ _ _ _ _); (first | (refine pcV (cf Tryz.func77) (within_p _ _ _) ?_) | (refine pcV (cf Tryz.func146) (iAt_p ⟨_, _⟩ _ sd) ?_) | (refine pcV (cf Tryz.func167) (isTime_p _) ?_)); (try simp (disch := omega) only [push_cast, seval, hx])) | ((with_reducible refine And.intro ?_ ?_); omega))
    all_goals first
      | (((with_reducible show PPostR _ _ _ _ _ _); refine finV ?_; (try simp only [push_cast, seval])); rw [bad (by rw [e]; simp_all)])
      | ((refine ⟨k + 1, by ((try dsimp only); omega), ?_, by (refine ⟨[?_], ?_, ?_, ?_, ?_⟩; rotate_left 1; (· ((try simp (disch := omega) only [push_cast, seval]); (repeat' (first | exact trivial | exact rfl | refine And.intro ?_ ?_ | omega)))); (· ((try simp (disch := omega) only [push_cast, seval]); (repeat' (first | exact trivial | exact rfl | refine And.intro ?_ ?_ | omega)))); (· exact rfl); (· (first | exact trivial | exact ⟨rfl, trivial⟩ | exact ⟨rfl, rfl, trivial⟩)))⟩); exact ⟨by omega, allTo_succ hA (by rw [e]; simp_all)⟩)
  obtain rfl : k = t.fPeers.length := by omega
  have e : tableOk t = (decide ((t.fPeers.length : Int) ≤ 6) && isTime t.fTurn) := by unfold tableOk; rw [allTo_end hA, Bool.true_and]
  repeat' (first | with_reducible (first | refine wA ?_ | refine wB ?_ | refine wC ?_ | refine w1 ?_ | refine w2 ?_ | refine w3 ?_ | refine w4 ?_ | refine w5 ?_ | refine w6 ?_ | refine w7 ?_ | refine w8 ?_ | refine wT ?_ | refine w9 ?_ | refine wE ?_ | refine wS ?_) | ((with_reducible refine hK _ ?_); clear hK K) | ((with_reducible refine PWp.condI ?_); refine ⟨_, rfl, fun hg => ?_, fun hg => ?_⟩ <;> first | (exact absurd hg (by decide)) | ((try simp only [Bool.not_true, Bool.not_false] at hg); (try simp only [hg]); (try simp only [push_cast] at hg); (try exact absurd trivial hg); (try (exfalso; omega)))) | ((with_reducible refine pops_guard0 ?_); refine ⟨_, rfl, fun K hK => ⟨rfl, ?_⟩⟩; (try simp (disch := omega) only [push_cast, seval])) | ((with_reducible refine pops_plain fun K hK => ?_); simp (disch := omega) only [push_cast, seval]) | ((with_reducible refine pops_guard ?_); refine ⟨_, rfl, fun K hK => ⟨_, rfl, fun hg => ?_, fun hg => ?_⟩⟩ <;> first | (exact absurd hg (by decide)) | ((try simp only [Bool.not_true, Bool.not_false] at hg); (try simp only [hg]); (try simp only [push_cast] at hg); (try exact absurd trivial hg); (try (exfalso; omega)); (try simp (disch := omega) only [push_cast, seval]))) | ((with_reducible show pcall _ _ _ _ _ _); (first | (refine pcV (cf Tryz.func77) (within_p _ _ _) ?_) | (refine pcV (cf Tryz.func146) (iAt_p ⟨_, _⟩ _ sd) ?_) | (refine pcV (cf Tryz.func167) (isTime_p _) ?_)); (try simp (disch := omega) only [push_cast, seval])) | ((with_reducible refine And.intro ?_ ?_); omega))
  all_goals
    ((with_reducible show PPostR _ _ _ _ _ _); refine finV ?_; (try simp only [push_cast, seval]))
    rw [e]
    first
      | (simp_all; done)
      | (simp_all; intros; omega)
set_option maxHeartbeats 1000000 in
theorem sTableOk_p (t : GTable) (hl : t.fPeers.length ≤ 1099511627776) : PCalls Tryz.prog 165 [.agg (pTable t)] [] (RV (.val (.bool (tableOk t)))) := by
  by_cases h6 : (t.fPeers.length : Int) ≤ 6
  case neg =>
    have e : tableOk t = false := by unfold tableOk; rw [decide_eq_false h6, Bool.and_false]; rfl
    rw [e]
    refine pcalls_ofR okP Tryz.func165 rfl ?_
    simp only [Tryz.f165, List.length_cons, List.length_nil, Nat.reduceAdd, Nat.reduceSub, List.replicate_succ, List.replicate_zero, List.cons_append, List.nil_append, List.length_map]
    repeat' (first | with_reducible (first | refine wA ?_ | refine wB ?_ | refine wC ?_ | refine w1 ?_ | refine w2 ?_ | refine w3 ?_ | refine w4 ?_ | refine w5 ?_ | refine w6 ?_ | refine w7 ?_ | refine w8 ?_ | refine wT ?_ | refine w9 ?_ | refine wE ?_ | refine wS ?_) | ((with_reducible refine hK _ ?_); clear hK K) | ((with_reducible refine PWp.condI ?_); refine ⟨_, rfl, fun hg => ?_, fun hg => ?_⟩ <;> first | (exact absurd hg (by decide)) | ((try simp only [Bool.not_true, Bool.not_false] at hg); (try simp only [hg]); (try simp only [push_cast] at hg); (try exact absurd trivial hg); (try (exfalso; omega)))) | ((with_reducible refine pops_guard0 ?_); refine ⟨_, rfl, fun K hK => ⟨rfl, ?_⟩⟩; (try simp (disch := omega) only [push_cast, seval])) | ((with_reducible refine pops_plain fun K hK => ?_); simp (disch := omega) only [push_cast, seval]) | ((with_reducible refine pops_guard ?_); refine ⟨_, rfl, fun K hK => ⟨_, rfl, fun hg => ?_, fun hg => ?_⟩⟩ <;> first | (exact absurd hg (by decide)) | ((try simp only [Bool.not_true, Bool.not_false] at hg); (try simp only [hg]); (try simp only [push_cast] at hg); (try exact absurd trivial hg); (try (exfalso; omega)); (try simp (disch := omega) only [push_cast, seval]))) | ((with_reducible show pcall _ _ _ _ _ _); (first | (refine pcV (cf Tryz.func79) (l1In_p _ _ _) ?_) | (refine pcV (cf Tryz.func166) (l10Time_p _) ?_) | (refine pcV (cf Tryz.func170) (sL19At_p ⟨_, _⟩ _ sd) ?_)); (try simp (disch := omega) only [push_cast, seval])) | ((with_reducible refine And.intro ?_ ?_); omega))
    ((with_reducible show PPostR _ _ _ _ _ _); refine finV ?_; (try simp only [push_cast, seval]))
  cases ht : isTime t.fTurn with
  | false =>
    have e : tableOk t = false := by unfold tableOk; rw [ht, Bool.and_false]
    rw [e]
    refine pcalls_ofR okP Tryz.func165 rfl ?_
    simp only [Tryz.f165, List.length_cons, List.length_nil, Nat.reduceAdd, Nat.reduceSub, List.replicate_succ, List.replicate_zero, List.cons_append, List.nil_append, List.length_map]
    repeat' (first | with_reducible (first | refine wA ?_ | refine wB ?_ | refine wC ?_ | refine w1 ?_ | refine w2 ?_ | refine w3 ?_ | refine w4 ?_ | refine w5 ?_ | refine w6 ?_ | refine w7 ?_ | refine w8 ?_ | refine wT ?_ | refine w9 ?_ | refine wE ?_ | refine wS ?_) | ((with_reducible refine hK _ ?_); clear hK K) | ((with_reducible refine PWp.condI ?_); refine ⟨_, rfl, fun hg => ?_, fun hg => ?_⟩ <;> first | (exact absurd hg (by decide)) | ((try simp only [Bool.not_true, Bool.not_false] at hg); (try simp only [hg]); (try simp only [push_cast] at hg); (try exact absurd trivial hg); (try (exfalso; omega)))) | ((with_reducible refine pops_guard0 ?_); refine ⟨_, rfl, fun K hK => ⟨rfl, ?_⟩⟩; (try simp (disch := omega) only [push_cast, seval, ht])) | ((with_reducible refine pops_plain fun K hK => ?_); simp (disch := omega) only [push_cast, seval, ht]) | ((with_reducible refine pops_guard ?_); refine ⟨_, rfl, fun K hK => ⟨_, rfl, fun hg => ?_, fun hg => ?_⟩⟩ <;> first | (exact absurd hg (by decide)) | ((try simp only [Bool.not_true, Bool.not_false] at hg); (try simp only [hg]); (try simp only [push_cast] at hg); (try exact absurd trivial hg); (try (exfalso; omega)); (try simp (disch := omega) only [push_cast, seval, ht]))) | ((with_reducible show pcall _ _ _ _ _ _); (first | (refine pcV (cf Tryz.func79) (l1In_p _ _ _) ?_) | (refine pcV (cf Tryz.func166) (l10Time_p _) ?_) | (refine pcV (cf Tryz.func170) (sL19At_p ⟨_, _⟩ _ sd) ?_)); (try simp (disch := omega) only [push_cast, seval, ht])) | ((with_reducible refine And.intro ?_ ?_); omega))
    ((with_reducible show PPostR _ _ _ _ _ _); refine finV ?_; (try simp only [push_cast, seval]))
  | true =>
  refine pcalls_ofR okP Tryz.func165 rfl ?_
  simp only [Tryz.f165, List.length_cons, List.length_nil, Nat.reduceAdd, Nat.reduceSub, List.replicate_succ, List.replicate_zero, List.cons_append, List.nil_append, List.length_map]
  repeat' (first | with_reducible (first | refine wA ?_ | refine wB ?_ | refine wC ?_ | refine w1 ?_ | refine w2 ?_ | refine w3 ?_ | refine w4 ?_ | refine w5 ?_ | refine w6 ?_ | refine w7 ?_ | refine w8 ?_ | refine wT ?_ | refine w9 ?_ | refine wE ?_ | refine wS ?_) | ((with_reducible refine hK _ ?_); clear hK K) | ((with_reducible refine PWp.condI ?_); refine ⟨_, rfl, fun hg => ?_, fun hg => ?_⟩ <;> first | (exact absurd hg (by decide)) | ((try simp only [Bool.not_true, Bool.not_false] at hg); (try simp only [hg]); (try simp only [push_cast] at hg); (try exact absurd trivial hg); (try (exfalso; omega)))) | ((with_reducible refine pops_guard0 ?_); refine ⟨_, rfl, fun K hK => ⟨rfl, ?_⟩⟩; (try simp (disch := omega) only [push_cast, seval, ht])) | ((with_reducible refine pops_plain fun K hK => ?_); simp (disch := omega) only [push_cast, seval, ht]) | ((with_reducible refine pops_guard ?_); refine ⟨_, rfl, fun K hK => ⟨_, rfl, fun hg => ?_, fun hg => ?_⟩⟩ <;> first | (exact absurd hg (by decide)) | ((try simp only [Bool.not_true, Bool.not_false] at hg); (try simp only [hg]); (try simp only [push_cast] at hg); (try exact absurd trivial hg); (try (exfalso; omega)); (try simp (disch := omega) only [push_cast, seval, ht]))) | ((with_reducible show pcall _ _ _ _ _ _); (first | (refine pcV (cf Tryz.func79) (l1In_p _ _ _) ?_) | (refine pcV (cf Tryz.func166) (l10Time_p _) ?_) | (refine pcV (cf Tryz.func170) (sL19At_p ⟨_, _⟩ _ sd) ?_)); (try simp (disch := omega) only [push_cast, seval, ht])) | ((with_reducible refine And.intro ?_ ?_); omega))
  refine PWp.loopK (α := Nat) (fun k => [(1, .ptr 0 0), (3, .val (.int .i64 (k : Int)))]) [0, 2, 4, 5, 6, 7, 8, 9, 10, 11, 12, 13, 14, 15, 16, 17, 18, 19, 20, 21, 22, 23, 24, 25, 26, 27, 28, 29, 30, 31, 32, 33, 34, 35, 36, 37, 38, 39, 40, 41, 42, 43, 44, 45, 46, 47, 48, 49, 50] (fun k => [some (.box (pTable t))]) (fun k => k ≤ t.fPeers.length ∧ allTo (peerAt t.fPeers) k) (fun k => t.fPeers.length - k) (0) (⟨Nat.zero_le _, allTo_zero⟩) (by (refine ⟨[?_], ?_, ?_, ?_, ?_⟩; rotate_left 1; (· ((try simp (disch := omega) only [push_cast, seval]); (repeat' (first | exact trivial | exact rfl | refine And.intro ?_ ?_ | omega)))); (· ((try simp (disch := omega) only [push_cast, seval]); (repeat' (first | exact trivial | exact rfl | refine And.intro ?_ ?_ | omega)))); (· exact rfl); (· (first | exact trivial | exact ⟨rfl, trivial⟩ | exact ⟨rfl, rfl, trivial⟩)))) ?_
  intro k ρ hI
  (try dsimp only at hI)
  refine PWp.at (tm' := ?_) (H' := ?_) ?_ ?_ ?_; rotate_left 2; (· ((try simp only [push_cast, seval]); exact rfl)); (· ((try dsimp only); exact rfl))
  obtain ⟨hk, hA⟩ := hI
  by_cases hlt : k < t.fPeers.length
  · obtain ⟨x, hx⟩ : ∃ x, t.fPeers[k]? = some x := ⟨_, List.getElem?_eq_getElem hlt⟩
    have bad := table_bad hlt
    have e : peerAt t.fPeers k = (inB x.fId 1 99 && inB x.fUntil 0 1000320 && inB x.fBans 0 20 && decide (peerIdx t.fPeers x.fId = (k : Int))) := by unfold peerAt; rw [hx]
    repeat' (first | with_reducible (first | refine wA ?_ | refine wB ?_ | refine wC ?_ | refine w1 ?_ | refine w2 ?_ | refine w3 ?_ | refine w4 ?_ | refine w5 ?_ | refine w6 ?_ | refine w7 ?_ | refine w8 ?_ | refine wT ?_ | refine w9 ?_ | refine wE ?_ | refine wS ?_) | ((with_reducible refine hK _ ?_); clear hK K) | ((with_reducible refine PWp.condI ?_); refine ⟨_, rfl, fun hg => ?_, fun hg => ?_⟩ <;> first | (exact absurd hg (by decide)) | ((try simp only [Bool.not_true, Bool.not_false] at hg); (try simp only [hg]); (try simp only [push_cast] at hg); (try exact absurd trivial hg); (try (exfalso; omega)))) | ((with_reducible refine pops_guard0 ?_); refine ⟨_, rfl, fun K hK => ⟨rfl, ?_⟩⟩; (try simp (disch := omega) only [push_cast, seval, hx])) | ((with_reducible refine pops_plain fun K hK => ?_); simp (disch := omega) only [push_cast, seval, hx]) | ((with_reducible refine pops_guard ?_); refine ⟨_, rfl, fun K hK => ⟨_, rfl, fun hg => ?_, fun hg => ?_⟩⟩ <;> first | (exact absurd hg (by decide)) | ((try simp only [Bool.not_true, Bool.not_false] at hg); (try simp only [hg]); (try simp only [push_cast] at hg); (try exact absurd trivial hg); (try (exfalso; omega)); (try simp (disch := omega) only [push_cast, seval, hx]))) | ((with_reducible show pcall _ _ _ _ _ _); (first | (refine pcV (cf Tryz.func79) (l1In_p _ _ _) ?_) | (refine pcV (cf Tryz.func166) (l10Time_p _) ?_) | (refine pcV (cf Tryz.func170) (sL19At_p ⟨_, _⟩ _ sd) ?_)); (try simp (disch := omega) only [push_cast, seval, hx])) | ((with_reducible refine And.intro ?_ ?_); omega))
    all_goals first
      | (((with_reducible show PPostR _ _ _ _ _ _); refine finV ?_; (try simp only [push_cast, seval])); rw [bad (by rw [e]; simp_all)])
      | ((refine ⟨k + 1, by ((try dsimp only); omega), ?_, by (refine ⟨[?_], ?_, ?_, ?_, ?_⟩; rotate_left 1; (· ((try simp (disch := omega) only [push_cast, seval]); (repeat' (first | exact trivial | exact rfl | refine And.intro ?_ ?_ | omega)))); (· ((try simp (disch := omega) only [push_cast, seval]); (repeat' (first | exact trivial | exact rfl | refine And.intro ?_ ?_ | omega)))); (· exact rfl); (· (first | exact trivial | exact ⟨rfl, trivial⟩ | exact ⟨rfl, rfl, trivial⟩)))⟩); exact ⟨by omega, allTo_succ hA (by rw [e]; simp_all)⟩)
  obtain rfl : k = t.fPeers.length := by omega
  have e : tableOk t = true := by unfold tableOk; rw [allTo_end hA, decide_eq_true h6, ht]; rfl
  repeat' (first | with_reducible (first | refine wA ?_ | refine wB ?_ | refine wC ?_ | refine w1 ?_ | refine w2 ?_ | refine w3 ?_ | refine w4 ?_ | refine w5 ?_ | refine w6 ?_ | refine w7 ?_ | refine w8 ?_ | refine wT ?_ | refine w9 ?_ | refine wE ?_ | refine wS ?_) | ((with_reducible refine hK _ ?_); clear hK K) | ((with_reducible refine PWp.condI ?_); refine ⟨_, rfl, fun hg => ?_, fun hg => ?_⟩ <;> first | (exact absurd hg (by decide)) | ((try simp only [Bool.not_true, Bool.not_false] at hg); (try simp only [hg]); (try simp only [push_cast] at hg); (try exact absurd trivial hg); (try (exfalso; omega)))) | ((with_reducible refine pops_guard0 ?_); refine ⟨_, rfl, fun K hK => ⟨rfl, ?_⟩⟩; (try simp (disch := omega) only [push_cast, seval])) | ((with_reducible refine pops_plain fun K hK => ?_); simp (disch := omega) only [push_cast, seval]) | ((with_reducible refine pops_guard ?_); refine ⟨_, rfl, fun K hK => ⟨_, rfl, fun hg => ?_, fun hg => ?_⟩⟩ <;> first | (exact absurd hg (by decide)) | ((try simp only [Bool.not_true, Bool.not_false] at hg); (try simp only [hg]); (try simp only [push_cast] at hg); (try exact absurd trivial hg); (try (exfalso; omega)); (try simp (disch := omega) only [push_cast, seval]))) | ((with_reducible show pcall _ _ _ _ _ _); (first | (refine pcV (cf Tryz.func79) (l1In_p _ _ _) ?_) | (refine pcV (cf Tryz.func166) (l10Time_p _) ?_) | (refine pcV (cf Tryz.func170) (sL19At_p ⟨_, _⟩ _ sd) ?_)); (try simp (disch := omega) only [push_cast, seval])) | ((with_reducible refine And.intro ?_ ?_); omega))
  ((with_reducible show PPostR _ _ _ _ _ _); refine finV ?_; (try simp only [push_cast, seval]))
  rw [e]
def pTbO (t : GTable) : List PV := [.own 0, .val (.int .i64 t.fTurn)]
def bTb (t : GTable) : Hp := [some (.row 211 4 (t.fPeers.map pPeer))]
attribute [push_cast] pTbO bTb
theorem iCopyTable_p (t : GTable) (hl : t.fPeers.length ≤ 2000000) : PCalls Tryz.prog 226 [.agg (pTable t)] [] (RH (.agg (pTbO t)) (bTb t)) := by
  refine pcalls_ofR okP Tryz.func226 rfl ?_
  simp only [Tryz.f226, List.length_cons, List.length_nil, Nat.reduceAdd, Nat.reduceSub, List.replicate_succ, List.replicate_zero, List.cons_append, List.nil_append, List.length_map]
  repeat' (first | with_reducible (first | refine wA ?_ | refine wB ?_ | refine wC ?_) | with_reducible refine PWp.draw (id := 1) okP true [0, 1, 3, 4, 2, 5, 6] (by kernel_rfl) ?_ | with_reducible (first | refine w1 ?_ | refine w2 ?_ | refine w3 ?_ | refine w4 ?_ | refine w5 ?_ | refine w6 ?_ | refine w7 ?_ | refine w8 ?_ | refine wT ?_ | refine w9 ?_ | refine wE ?_ | refine wS ?_) | ((with_reducible refine hK _ ?_); clear hK K) | ((with_reducible refine pany_I ?_); refine ⟨_, rfl, fun K hK => ?_⟩) | ((with_reducible refine pops_plain fun K hK => popO_build ?_); refine ⟨_, rfl, _, rfl, ?_⟩; simp (disch := omega) only [push_cast, seval]) | ((with_reducible refine pD_y ?_ (py_build ?_)); exact rfl; refine ⟨_, rfl, _, rfl, ?_⟩; simp (disch := omega) only [push_cast, seval]) | ((with_reducible refine pbuild_cs ?_); refine ⟨_, rfl, _, rfl, ?_⟩; simp (disch := omega) only [push_cast, seval]) | ((with_reducible refine pops_plain fun K hK => ?_); simp (disch := omega) only [push_cast, seval]) | ((first | ((with_reducible refine pD_y ?_ ?_); exact rfl) | ((with_reducible refine pD_x ?_ ?_); exact rfl)); simp (disch := omega) only [push_cast, seval]) | ((with_reducible refine And.intro ?_ ?_); omega))
  all_goals
    ((with_reducible show PPostR _ _ _ _ _ _); exact finH [_])
theorem sL19Copy_p (t : GTable) (hl : t.fPeers.length ≤ 2000000) : PCalls Tryz.prog 171 [.agg (pTable t)] [] (RH (.agg (pTbO t)) (bTb t)) := by
  refine pcalls_ofR okP Tryz.func171 rfl ?_
  simp only [Tryz.f171, List.length_cons, List.length_nil, Nat.reduceAdd, Nat.reduceSub, List.replicate_succ, List.replicate_zero, List.cons_append, List.nil_append, List.length_map]
  repeat' (first | with_reducible (first | refine wA ?_ | refine wB ?_ | refine wC ?_ | refine w1 ?_ | refine w2 ?_ | refine w3 ?_ | refine w4 ?_ | refine w5 ?_ | refine w6 ?_ | refine w7 ?_ | refine w8 ?_ | refine wT ?_ | refine w9 ?_ | refine wE ?_ | refine wS ?_) | ((with_reducible refine hK _ ?_); clear hK K) | ((with_reducible refine pops_plain fun K hK => popO_row ?_); refine ⟨_, _, _, _, _, rfl, rfl, rfl, rfl, rfl, ?_⟩; simp (disch := omega) only [push_cast, seval]) | ((with_reducible refine pops_plain fun K hK => ?_); simp (disch := omega) only [push_cast, seval]) | ((with_reducible refine And.intro ?_ ?_); omega))
  all_goals
    ((with_reducible show PPostR _ _ _ _ _ _); exact finH [_])
theorem iBanned_o (t : GTable) (now : Int) (ok : tableOk t = true) (hn : isTime now = true) : PCalls Tryz.prog 148 [.agg (pTable t), .val (.int .i64 now)] [] (RH (.own 0) [some (.row 3 1 ((sortI (bans t.fPeers now)).map pInt))]) := by
  have h6 := (tableOk_iff.1 ok).2.1
  refine pcalls_ofR okP Tryz.func148 rfl ?_
  simp only [Tryz.f148, List.length_cons, List.length_nil, Nat.reduceAdd, Nat.reduceSub, List.replicate_succ, List.replicate_zero, List.cons_append, List.nil_append, List.length_map]
  repeat' (first | with_reducible (first | refine wA ?_ | refine wB ?_ | refine wC ?_ | refine w1 ?_ | refine w2 ?_ | refine w3 ?_ | refine w4 ?_ | refine w5 ?_ | refine w6 ?_ | refine w7 ?_ | refine w8 ?_ | refine wT ?_ | refine w9 ?_ | refine wE ?_ | refine wS ?_) | ((with_reducible refine hK _ ?_); clear hK K) | ((with_reducible refine PWp.condI ?_); refine ⟨_, rfl, fun hg => ?_, fun hg => ?_⟩ <;> first | (exact absurd hg (by decide)) | ((try simp only [Bool.not_true, Bool.not_false] at hg); (try simp only [hg]); (try simp only [push_cast] at hg); (try exact absurd trivial hg); (try (exfalso; omega)))) | ((with_reducible refine pops_guard0 ?_); refine ⟨_, rfl, fun K hK => ⟨rfl, ?_⟩⟩; (try simp (disch := omega) only [push_cast, seval, ok, hn])) | ((with_reducible refine pops_plain fun K hK => popO_row ?_); refine ⟨_, _, _, _, _, rfl, rfl, rfl, rfl, rfl, ?_⟩; simp (disch := omega) only [push_cast, seval, ok, hn]) | ((with_reducible refine pops_plain fun K hK => ?_); simp (disch := omega) only [push_cast, seval, ok, hn]) | ((with_reducible refine pops_guard ?_); refine ⟨_, rfl, fun K hK => ⟨_, rfl, fun hg => ?_, fun hg => ?_⟩⟩ <;> first | (exact absurd hg (by decide)) | ((try simp only [Bool.not_true, Bool.not_false] at hg); (try simp only [hg]); (try simp only [push_cast] at hg); (try exact absurd trivial hg); (try (exfalso; omega)); (try simp (disch := omega) only [push_cast, seval, ok, hn]))) | ((with_reducible show pcall _ _ _ _ _ _); (first | (refine pcV (cf Tryz.func167) (isTime_p _) ?_) | (refine pcV (cf Tryz.func207) (iTableOk_p ⟨_, _⟩ sd) ?_) | (refine pcall_RGf (cf Tryz.func230) [?_] ?_ ?_ ?_ (sortI_p ?_ ?_) ?_; rotate_left 1; (· ((try simp (disch := omega) only [push_cast, seval]); (repeat' (first | exact trivial | exact rfl | refine And.intro ?_ ?_ | omega)))); (· (repeat' (first | exact trivial | refine And.intro ?_ ?_ | exact ⟨_, rfl⟩ | (simp (disch := omega) only [push_cast, seval]; done) | exact rfl))); (· exact rfl); rotate_right 1; rotate_left 1; (all_goals (try (first | omega | exact (show _ = _ by assumption)))))); (try simp (disch := omega) only [push_cast, seval, ok, hn])) | ((with_reducible refine And.intro ?_ ?_); omega))
  refine PWp.loopK (α := Nat) (fun k => [(5, .own 0), (20, .val (.int .i64 (k : Int)))]) [0, 2, 3, 6, 7, 8, 9, 10, 11, 12, 13, 14, 15, 16, 17, 21, 22, 23, 24, 25, 26, 27, 28, 29, 30, 31, 32, 33, 35] (fun k => [some (.row 3 1 ((bans (t.fPeers.take k) now).map pInt))]) (fun k => k ≤ t.fPeers.length) (fun k => t.fPeers.length - k) (0) (Nat.zero_le _) (by (refine ⟨[?_], ?_, ?_, ?_, ?_⟩; rotate_left 1; (· ((try simp (disch := omega) only [push_cast, seval]); (repeat' (first | exact trivial | exact rfl | refine And.intro ?_ ?_ | omega)))); (· ((try simp (disch := omega) only [push_cast, seval]); (repeat' (first | exact trivial | exact rfl | refine And.intro ?_ ?_ | omega)))); (· exact rfl); (· (first | exact trivial | exact ⟨rfl, trivial⟩ | exact ⟨rfl, rfl, trivial⟩)))) ?_
  intro k ρ hI
  (try dsimp only at hI)
  refine PWp.at (tm' := ?_) (H' := ?_) ?_ ?_ ?_; rotate_left 2; (· ((try simp only [push_cast, seval]); exact rfl)); (· ((try dsimp only); exact rfl))
  by_cases hlt : k < t.fPeers.length
  · obtain ⟨x, hx⟩ : ∃ x, t.fPeers[k]? = some x := ⟨_, List.getElem?_eq_getElem hlt⟩
    have e := bans_take (now := now) hx
    have hz := bans_len (t.fPeers.take k) now
    rw [List.length_take] at hz
    by_cases hb : now < x.fUntil
    · rw [if_pos hb] at e
      repeat' (first | with_reducible (first | refine wA ?_ | refine wB ?_ | refine wC ?_ | refine w1 ?_ | refine w2 ?_ | refine w3 ?_ | refine w4 ?_ | refine w5 ?_ | refine w6 ?_ | refine w7 ?_ | refine w8 ?_ | refine wT ?_ | refine w9 ?_ | refine wE ?_ | refine wS ?_) | ((with_reducible refine hK _ ?_); clear hK K) | ((with_reducible refine PWp.condI ?_); refine ⟨_, rfl, fun hg => ?_, fun hg => ?_⟩ <;> first | (exact absurd hg (by decide)) | ((try simp only [Bool.not_true, Bool.not_false] at hg); (try simp only [hg]); (try simp only [push_cast] at hg); (try exact absurd trivial hg); (try (exfalso; omega)))) | ((with_reducible refine pops_guard0 ?_); refine ⟨_, rfl, fun K hK => ⟨rfl, ?_⟩⟩; (try simp (disch := omega) only [push_cast, seval, hx])) | ((with_reducible refine pops_plain fun K hK => popO_row ?_); refine ⟨_, _, _, _, _, rfl, rfl, rfl, rfl, rfl, ?_⟩; simp (disch := omega) only [push_cast, seval, hx]) | ((with_reducible refine pops_plain fun K hK => ?_); simp (disch := omega) only [push_cast, seval, hx]) | ((with_reducible refine pops_guard ?_); refine ⟨_, rfl, fun K hK => ⟨_, rfl, fun hg => ?_, fun hg => ?_⟩⟩ <;> first | (exact absurd hg (by decide)) | ((try simp only [Bool.not_true, Bool.not_false] at hg); (try simp only [hg]); (try simp only [push_cast] at hg); (try exact absurd trivial hg); (try (exfalso; omega)); (try simp (disch := omega) only [push_cast, seval, hx]))) | ((with_reducible show pcall _ _ _ _ _ _); (first | (refine pcV (cf Tryz.func167) (isTime_p _) ?_) | (refine pcV (cf Tryz.func207) (iTableOk_p ⟨_, _⟩ sd) ?_) | (refine pcall_RGf (cf Tryz.func230) [?_] ?_ ?_ ?_ (sortI_p ?_ ?_) ?_; rotate_left 1; (· ((try simp (disch := omega) only [push_cast, seval]); (repeat' (first | exact trivial | exact rfl | refine And.intro ?_ ?_ | omega)))); (· (repeat' (first | exact trivial | refine And.intro ?_ ?_ | exact ⟨_, rfl⟩ | (simp (disch := omega) only [push_cast, seval]; done) | exact rfl))); (· exact rfl); rotate_right 1; rotate_left 1; (all_goals (try (first | omega | exact (show _ = _ by assumption)))))); (try simp (disch := omega) only [push_cast, seval, hx])) | ((with_reducible refine And.intro ?_ ?_); omega))
      (refine ⟨k + 1, by ((try dsimp only); omega), ?_, by (refine ⟨[?_], ?_, ?_, ?_, ?_⟩; rotate_left 1; (· ((first | simp (disch := omega) only [push_cast, seval, e, List.map_append, List.map_cons, List.map_nil, pInt] | simp (disch := omega) only [push_cast, seval] | skip); (repeat' (first | exact trivial | exact rfl | refine And.intro ?_ ?_ | omega)))); (· ((first | simp (disch := omega) only [push_cast, seval, e, List.map_append, List.map_cons, List.map_nil, pInt] | simp (disch := omega) only [push_cast, seval] | skip); (repeat' (first | exact trivial | exact rfl | refine And.intro ?_ ?_ | omega)))); (· exact rfl); (· (first | exact trivial | exact ⟨rfl, trivial⟩ | exact ⟨rfl, rfl, trivial⟩)))⟩)
      exact hlt
    · rw [if_neg hb] at e
      repeat' (first | with_reducible (first | refine wA ?_ | refine wB ?_ | refine wC ?_ | refine w1 ?_ | refine w2 ?_ | refine w3 ?_ | refine w4 ?_ | refine w5 ?_ | refine w6 ?_ | refine w7 ?_ | refine w8 ?_ | refine wT ?_ | refine w9 ?_ | refine wE ?_ | refine wS ?_) | ((with_reducible refine hK _ ?_); clear hK K) | ((with_reducible refine PWp.condI ?_); refine ⟨_, rfl, fun hg => ?_, fun hg => ?_⟩ <;> first | (exact absurd hg (by decide)) | ((try simp only [Bool.not_true, Bool.not_false] at hg); (try simp only [hg]); (try simp only [push_cast] at hg); (try exact absurd trivial hg); (try (exfalso; omega)))) | ((with_reducible refine pops_guard0 ?_); refine ⟨_, rfl, fun K hK => ⟨rfl, ?_⟩⟩; (try simp (disch := omega) only [push_cast, seval, hx])) | ((with_reducible refine pops_plain fun K hK => popO_row ?_); refine ⟨_, _, _, _, _, rfl, rfl, rfl, rfl, rfl, ?_⟩; simp (disch := omega) only [push_cast, seval, hx]) | ((with_reducible refine pops_plain fun K hK => ?_); simp (disch := omega) only [push_cast, seval, hx]) | ((with_reducible refine pops_guard ?_); refine ⟨_, rfl, fun K hK => ⟨_, rfl, fun hg => ?_, fun hg => ?_⟩⟩ <;> first | (exact absurd hg (by decide)) | ((try simp only [Bool.not_true, Bool.not_false] at hg); (try simp only [hg]); (try simp only [push_cast] at hg); (try exact absurd trivial hg); (try (exfalso; omega)); (try simp (disch := omega) only [push_cast, seval, hx]))) | ((with_reducible show pcall _ _ _ _ _ _); (first | (refine pcV (cf Tryz.func167) (isTime_p _) ?_) | (refine pcV (cf Tryz.func207) (iTableOk_p ⟨_, _⟩ sd) ?_) | (refine pcall_RGf (cf Tryz.func230) [?_] ?_ ?_ ?_ (sortI_p ?_ ?_) ?_; rotate_left 1; (· ((try simp (disch := omega) only [push_cast, seval]); (repeat' (first | exact trivial | exact rfl | refine And.intro ?_ ?_ | omega)))); (· (repeat' (first | exact trivial | refine And.intro ?_ ?_ | exact ⟨_, rfl⟩ | (simp (disch := omega) only [push_cast, seval]; done) | exact rfl))); (· exact rfl); rotate_right 1; rotate_left 1; (all_goals (try (first | omega | exact (show _ = _ by assumption)))))); (try simp (disch := omega) only [push_cast, seval, hx])) | ((with_reducible refine And.intro ?_ ?_); omega))
      (refine ⟨k + 1, by ((try dsimp only); omega), ?_, by (refine ⟨[?_], ?_, ?_, ?_, ?_⟩; rotate_left 1; (· ((first | simp (disch := omega) only [push_cast, seval, e] | simp (disch := omega) only [push_cast, seval] | skip); (repeat' (first | exact trivial | exact rfl | refine And.intro ?_ ?_ | omega)))); (· ((first | simp (disch := omega) only [push_cast, seval, e] | simp (disch := omega) only [push_cast, seval] | skip); (repeat' (first | exact trivial | exact rfl | refine And.intro ?_ ?_ | omega)))); (· exact rfl); (· (first | exact trivial | exact ⟨rfl, trivial⟩ | exact ⟨rfl, rfl, trivial⟩)))⟩)
      exact hlt
  obtain rfl : k = t.fPeers.length := by omega
  have hz := bans_len t.fPeers now
  rw [List.take_length]
  repeat' (first | with_reducible (first | refine wA ?_ | refine wB ?_ | refine wC ?_ | refine w1 ?_ | refine w2 ?_ | refine w3 ?_ | refine w4 ?_ | refine w5 ?_ | refine w6 ?_ | refine w7 ?_ | refine w8 ?_ | refine wT ?_ | refine w9 ?_ | refine wE ?_ | refine wS ?_) | ((with_reducible refine hK _ ?_); clear hK K) | ((with_reducible refine PWp.condI ?_); refine ⟨_, rfl, fun hg => ?_, fun hg => ?_⟩ <;> first | (exact absurd hg (by decide)) | ((try simp only [Bool.not_true, Bool.not_false] at hg); (try simp only [hg]); (try simp only [push_cast] at hg); (try exact absurd trivial hg); (try (exfalso; omega)))) | ((with_reducible refine pops_guard0 ?_); refine ⟨_, rfl, fun K hK => ⟨rfl, ?_⟩⟩; (try simp (disch := omega) only [push_cast, seval])) | ((with_reducible refine pops_plain fun K hK => popO_row ?_); refine ⟨_, _, _, _, _, rfl, rfl, rfl, rfl, rfl, ?_⟩; simp (disch := omega) only [push_cast, seval]) | ((with_reducible refine pops_plain fun K hK => ?_); simp (disch := omega) only [push_cast, seval]) | ((with_reducible refine pops_guard ?_); refine ⟨_, rfl, fun K hK => ⟨_, rfl, fun hg => ?_, fun hg => ?_⟩⟩ <;> first | (exact absurd hg (by decide)) | ((try simp only [Bool.not_true, Bool.not_false] at hg); (try simp only [hg]); (try simp only [push_cast] at hg); (try exact absurd trivial hg); (try (exfalso; omega)); (try simp (disch := omega) only [push_cast, seval]))) | ((with_reducible show pcall _ _ _ _ _ _); (first | (refine pcV (cf Tryz.func167) (isTime_p _) ?_) | (refine pcV (cf Tryz.func207) (iTableOk_p ⟨_, _⟩ sd) ?_) | (refine pcall_RGf (cf Tryz.func230) [?_] ?_ ?_ ?_ (sortI_p ?_ ?_) ?_; rotate_left 1; (· ((try simp (disch := omega) only [push_cast, seval]); (repeat' (first | exact trivial | exact rfl | refine And.intro ?_ ?_ | omega)))); (· (repeat' (first | exact trivial | refine And.intro ?_ ?_ | exact ⟨_, rfl⟩ | (simp (disch := omega) only [push_cast, seval]; done) | exact rfl))); (· exact rfl); rotate_right 1; rotate_left 1; (all_goals (try (first | omega | exact (show _ = _ by assumption)))))); (try simp (disch := omega) only [push_cast, seval])) | ((with_reducible refine And.intro ?_ ?_); omega))
  ((with_reducible show PPostR _ _ _ _ _ _); exact finH [_])
theorem iBanned_p (t : GTable) (now : Int) (ok : tableOk t = true) (hn : isTime now = true) : PCalls Tryz.prog 148 [.agg (pTable t), .val (.int .i64 now)] [] (RH (.sl 1 ((sortI (bans t.fPeers now)).map pInt)) []) :=
  (iBanned_o t now ok hn).thawH 0 [] rfl (of_eq_true (pInt_rc _)) rfl rfl trivial trivial
theorem modify_set {α : Type} {l : List α} {k : Nat} {x : α} {f : α → α} (h : l[k]? = some x) : l.modify k f = l.set k (f x) := by
  apply List.ext_getElem?
  intro i
  rw [List.getElem?_modify, List.getElem?_set]
  by_cases e : k = i
  · subst e
    have hlt := (List.getElem?_eq_some_iff.1 h).1
    rw [h]
    simp [hlt]
  · simp [e]
attribute [push_cast] List.map_set
set_option maxHeartbeats 1000000 in
theorem iPeerGood_p (t : GTable) (id : Int) (ok : tableOk t = true) : PCalls Tryz.prog 153 [.agg (pTable t), .val (.int .i64 id)] [] (RH (.tup [.agg (pTbO (peerGood t id).1), .val (.bool (peerGood t id).2)]) (bTb (peerGood t id).1)) := by
  have h6 := (tableOk_iff.1 ok).2.1
  obtain ⟨g1, g2⟩ := idx_ge (fun p : GPeer => decide (p.fId = id)) t.fPeers
  by_cases h0 : peerIdx t.fPeers id < 0
  · have e : peerGood t id = (t, false) := by unfold peerGood; rw [if_pos h0]
    rw [e]
    refine pcalls_ofR okP Tryz.func153 rfl ?_
    simp only [Tryz.f153, List.length_cons, List.length_nil, Nat.reduceAdd, Nat.reduceSub, List.replicate_succ, List.replicate_zero, List.cons_append, List.nil_append, List.length_map]
    repeat' (first | with_reducible (first | refine wA ?_ | refine wB ?_ | refine wC ?_ | refine w1 ?_ | refine w2 ?_ | refine w3 ?_ | refine w4 ?_ | refine w5 ?_ | refine w6 ?_ | refine w7 ?_ | refine w8 ?_ | refine wT ?_ | refine w9 ?_ | refine wE ?_ | refine wS ?_) | ((with_reducible refine hK _ ?_); clear hK K) | ((with_reducible refine PWp.condI ?_); refine ⟨_, rfl, fun hg => ?_, fun hg => ?_⟩ <;> first | (exact absurd hg (by decide)) | ((try simp only [Bool.not_true, Bool.not_false] at hg); (try simp only [hg]); (try simp only [push_cast] at hg); (try exact absurd trivial hg); (try (exfalso; omega)))) | ((with_reducible refine pops_plain fun K hK => popO_build ?_); refine ⟨_, rfl, _, rfl, ?_⟩; simp (disch := omega) only [push_cast, seval, ok]) | ((with_reducible refine pbuild_cs ?_); refine ⟨_, rfl, _, rfl, ?_⟩; simp (disch := omega) only [push_cast, seval, ok]) | ((with_reducible refine pops_plain fun K hK => ?_); simp (disch := omega) only [push_cast, seval, ok]) | ((with_reducible show pcall _ _ _ _ _ _); (first | (refine pcV (cf Tryz.func146) (iAt_p ⟨_, _⟩ _ sd) ?_) | (refine pcV (cf Tryz.func207) (iTableOk_p ⟨_, _⟩ sd) ?_) | (refine pcF (cf Tryz.func226) (iCopyTable_p ⟨_, _⟩ sd) ?_)); (try simp (disch := omega) only [push_cast, seval, ok])) | ((with_reducible refine And.intro ?_ ?_); omega))
    ((with_reducible show PPostR _ _ _ _ _ _); exact finH [_])
  · have e : peerGood t id = (peerSet t id fun p => { p with fBans := 0 }, true) := by unfold peerGood; rw [if_neg h0]
    rw [e]
    obtain ⟨k, hk⟩ : ∃ k : Nat, peerIdx t.fPeers id = k := ⟨(peerIdx t.fPeers id).toNat, by omega⟩
    have hkl : k < t.fPeers.length := by unfold peerIdx at hk; omega
    obtain ⟨x, hx⟩ : ∃ x, t.fPeers[k]? = some x := ⟨_, List.getElem?_eq_getElem hkl⟩
    have es : (t.fPeers.modify k fun p => { p with fBans := 0 }).map pPeer = (t.fPeers.map pPeer).set k (pPeer { x with fBans := 0 }) := by rw [modify_set hx, List.map_set]
    unfold peerSet
    rw [hk, Int.toNat_natCast]
    simp only [pTbO, bTb, es]
    refine pcalls_ofR okP Tryz.func153 rfl ?_
    simp only [Tryz.f153, List.length_cons, List.length_nil, Nat.reduceAdd, Nat.reduceSub, List.replicate_succ, List.replicate_zero, List.cons_append, List.nil_append, List.length_map]
    repeat' (first | with_reducible (first | refine wA ?_ | refine wB ?_ | refine wC ?_ | refine w1 ?_ | refine w2 ?_ | refine w3 ?_ | refine w4 ?_ | refine w5 ?_ | refine w6 ?_ | refine w7 ?_ | refine w8 ?_ | refine wT ?_ | refine w9 ?_ | refine wE ?_ | refine wS ?_) | ((with_reducible refine hK _ ?_); clear hK K) | ((with_reducible refine PWp.condI ?_); refine ⟨_, rfl, fun hg => ?_, fun hg => ?_⟩ <;> first | (exact absurd hg (by decide)) | ((try simp only [Bool.not_true, Bool.not_false] at hg); (try simp only [hg]); (try simp only [push_cast] at hg); (try exact absurd trivial hg); (try (exfalso; omega)))) | ((with_reducible refine pops_plain fun K hK => popO_build ?_); refine ⟨_, rfl, _, rfl, ?_⟩; simp (disch := omega) only [push_cast, seval, ok, hk, hx]) | ((with_reducible refine pbuild_cs ?_); refine ⟨_, rfl, _, rfl, ?_⟩; simp (disch := omega) only [push_cast, seval, ok, hk, hx]) | ((with_reducible refine pops_plain fun K hK => ?_); simp (disch := omega) only [push_cast, seval, ok, hk, hx]) | ((with_reducible show pcall _ _ _ _ _ _); (first | (refine pcV (cf Tryz.func146) (iAt_p ⟨_, _⟩ _ sd) ?_) | (refine pcV (cf Tryz.func207) (iTableOk_p ⟨_, _⟩ sd) ?_) | (refine pcF (cf Tryz.func226) (iCopyTable_p ⟨_, _⟩ sd) ?_)); (try simp (disch := omega) only [push_cast, seval, ok, hk, hx])) | ((with_reducible refine And.intro ?_ ?_); omega))
    ((with_reducible show PPostR _ _ _ _ _ _); exact finH [_])
end Go.Proofs.YtiboajlnjldalaaGreatDoor
namespace Go.Proofs.YtiboajlnjldalaaGreatDoor
set_option linter.unusedSimpArgs false
set_option linter.unusedVariables false
open Go.RowKit
set_option maxRecDepth 100000
theorem lieN_eq {b n i : Nat} (h1 : n = 10 * 2 ^ i) (h2 : i ≤ b) (h3 : i = b ∨ 320 ≤ n) (h5 : i ≤ 5) : lieN b = n := by
  unfold lieN
  rcases h3 with rfl | h3
  · subst h1
    have : (2 : Nat) ^ i ≤ 2 ^ 5 := Nat.pow_le_pow_right (by omega) h5
    omega
  · have e : i = 5 := by
      rcases Nat.lt_or_ge i 5 with q | q
      · have : (2 : Nat) ^ i ≤ 2 ^ 4 := Nat.pow_le_pow_right (by omega) (by omega)
        omega
      · omega
    subst e
    have : (2 : Nat) ^ 5 ≤ 2 ^ b := Nat.pow_le_pow_right (by omega) h2
    omega
theorem shl10 {b : Nat} (h : b ≤ 20) : IntKind.i64.wrap (10 * 2 ^ b) = ((10 * 2 ^ b : Nat) : Int) := by
  have : (2 : Nat) ^ b ≤ 2 ^ 20 := Nat.pow_le_pow_right (by omega) h
  have e : ((10 : Int) * 2 ^ b) = ((10 * 2 ^ b : Nat) : Int) := by simp
  rw [e, wr64] <;> omega
attribute [push_cast] List.set_set List.length_set
set_option maxHeartbeats 1000000 in
theorem iPeerLie_p (t : GTable) (id now : Int) (ok : tableOk t = true) : PCalls Tryz.prog 154 [.agg (pTable t), .val (.int .i64 id), .val (.int .i64 now)] [] (RH (.tup [.agg (pTbO (peerLie t id now).1), .val (.bool (peerLie t id now).2)]) (bTb (peerLie t id now).1)) := by
  have h6 := (tableOk_iff.1 ok).2.1
  obtain ⟨g1, g2⟩ := idx_ge (fun p : GPeer => decide (p.fId = id)) t.fPeers
  by_cases h0 : peerIdx t.fPeers id < 0
  · have e : peerLie t id now = (t, false) := by unfold peerLie; rw [if_pos (.inl h0)]
    rw [e]
    refine pcalls_ofR okP Tryz.func154 rfl ?_
    simp only [Tryz.f154, List.length_cons, List.length_nil, Nat.reduceAdd, Nat.reduceSub, List.replicate_succ, List.replicate_zero, List.cons_append, List.nil_append, List.length_map]
    repeat' (first | with_reducible (first | refine wA ?_ | refine wB ?_ | refine wC ?_ | refine w1 ?_ | refine w2 ?_ | refine w3 ?_ | refine w4 ?_ | refine w5 ?_ | refine w6 ?_ | refine w7 ?_ | refine w8 ?_ | refine wT ?_ | refine w9 ?_ | refine wE ?_ | refine wS ?_) | ((with_reducible refine hK _ ?_); clear hK K) | ((with_reducible refine PWp.condI ?_); refine ⟨_, rfl, fun hg => ?_, fun hg => ?_⟩ <;> first | (exact absurd hg (by decide)) | ((try simp only [Bool.not_true, Bool.not_false] at hg); (try simp only [hg]); (try simp only [push_cast] at hg); (try exact absurd trivial hg); (try (exfalso; omega)))) | ((with_reducible refine pops_guard0 ?_); refine ⟨_, rfl, fun K hK => ⟨rfl, ?_⟩⟩; (try simp (disch := omega) only [push_cast, seval, ok])) | ((with_reducible refine pops_plain fun K hK => popO_build ?_); refine ⟨_, rfl, _, rfl, ?_⟩; simp (disch := omega) only [push_cast, seval, ok]) | ((with_reducible refine pbuild_cs ?_); refine ⟨_, rfl, _, rfl, ?_⟩; simp (disch := omega) only [push_cast, seval, ok]) | ((with_reducible refine pops_plain fun K hK => ?_); simp (disch := omega) only [push_cast, seval, ok]) | ((with_reducible refine pops_guard ?_); refine ⟨_, rfl, fun K hK => ⟨_, rfl, fun hg => ?_, fun hg => ?_⟩⟩ <;> first | (exact absurd hg (by decide)) | ((try simp only [Bool.not_true, Bool.not_false] at hg); (try simp only [hg]); (try simp only [push_cast] at hg); (try exact absurd trivial hg); (try (exfalso; omega)); (try simp (disch := omega) only [push_cast, seval, ok]))) | ((with_reducible show pcall _ _ _ _ _ _); (first | (refine pcV (cf Tryz.func146) (iAt_p ⟨_, _⟩ _ sd) ?_) | (refine pcV (cf Tryz.func167) (isTime_p _) ?_) | (refine pcV (cf Tryz.func207) (iTableOk_p ⟨_, _⟩ sd) ?_) | (refine pcF (cf Tryz.func226) (iCopyTable_p ⟨_, _⟩ sd) ?_)); (try simp (disch := omega) only [push_cast, seval, ok])) | ((with_reducible refine And.intro ?_ ?_); omega))
    ((with_reducible show PPostR _ _ _ _ _ _); exact finH [_])
  cases hn : isTime now with
  | false =>
    have e : peerLie t id now = (t, false) := by unfold peerLie; rw [if_pos (.inr hn)]
    rw [e]
    refine pcalls_ofR okP Tryz.func154 rfl ?_
    simp only [Tryz.f154, List.length_cons, List.length_nil, Nat.reduceAdd, Nat.reduceSub, List.replicate_succ, List.replicate_zero, List.cons_append, List.nil_append, List.length_map]
    repeat' (first | with_reducible (first | refine wA ?_ | refine wB ?_ | refine wC ?_ | refine w1 ?_ | refine w2 ?_ | refine w3 ?_ | refine w4 ?_ | refine w5 ?_ | refine w6 ?_ | refine w7 ?_ | refine w8 ?_ | refine wT ?_ | refine w9 ?_ | refine wE ?_ | refine wS ?_) | ((with_reducible refine hK _ ?_); clear hK K) | ((with_reducible refine PWp.condI ?_); refine ⟨_, rfl, fun hg => ?_, fun hg => ?_⟩ <;> first | (exact absurd hg (by decide)) | ((try simp only [Bool.not_true, Bool.not_false] at hg); (try simp only [hg]); (try simp only [push_cast] at hg); (try exact absurd trivial hg); (try (exfalso; omega)))) | ((with_reducible refine pops_guard0 ?_); refine ⟨_, rfl, fun K hK => ⟨rfl, ?_⟩⟩; (try simp (disch := omega) only [push_cast, seval, ok, hn])) | ((with_reducible refine pops_plain fun K hK => popO_build ?_); refine ⟨_, rfl, _, rfl, ?_⟩; simp (disch := omega) only [push_cast, seval, ok, hn]) | ((with_reducible refine pbuild_cs ?_); refine ⟨_, rfl, _, rfl, ?_⟩; simp (disch := omega) only [push_cast, seval, ok, hn]) | ((with_reducible refine pops_plain fun K hK => ?_); simp (disch := omega) only [push_cast, seval, ok, hn]) | ((with_reducible refine pops_guard ?_); refine ⟨_, rfl, fun K hK => ⟨_, rfl, fun hg => ?_, fun hg => ?_⟩⟩ <;> first | (exact absurd hg (by decide)) | ((try simp only [Bool.not_true, Bool.not_false] at hg); (try simp only [hg]); (try simp only [push_cast] at hg); (try exact absurd trivial hg); (try (exfalso; omega)); (try simp (disch := omega) only [push_cast, seval, ok, hn]))) | ((with_reducible show pcall _ _ _ _ _ _); (first | (refine pcV (cf Tryz.func146) (iAt_p ⟨_, _⟩ _ sd) ?_) | (refine pcV (cf Tryz.func167) (isTime_p _) ?_) | (refine pcV (cf Tryz.func207) (iTableOk_p ⟨_, _⟩ sd) ?_) | (refine pcF (cf Tryz.func226) (iCopyTable_p ⟨_, _⟩ sd) ?_)); (try simp (disch := omega) only [push_cast, seval, ok, hn])) | ((with_reducible refine And.intro ?_ ?_); omega))
    ((with_reducible show PPostR _ _ _ _ _ _); exact finH [_])
  | true =>
    have e : peerLie t id now = (peerSet t id (lied now), true) := by unfold peerLie; rw [if_neg (by simp [h0, hn])]
    rw [e]
    have hnb := time_bd hn
    obtain ⟨k, hk⟩ : ∃ k : Nat, peerIdx t.fPeers id = k := ⟨(peerIdx t.fPeers id).toNat, by omega⟩
    have hkl : k < t.fPeers.length := by unfold peerIdx at hk; omega
    obtain ⟨x, hx⟩ : ∃ x, t.fPeers[k]? = some x := ⟨_, List.getElem?_eq_getElem hkl⟩
    have hb := ((tableOk_iff.1 ok).1 k x hx).2.2.1
    obtain ⟨b, hbb⟩ : ∃ b : Nat, x.fBans = b := ⟨x.fBans.toNat, by omega⟩
    have hb20 : b ≤ 20 := by omega
    have hset : ∀ r, ((t.fPeers.map pPeer).set k r)[k]? = some r := fun r => by rw [List.getElem?_set_self (by rw [List.length_map]; exact hkl)]
    have es : (t.fPeers.modify k (lied now)).map pPeer = (t.fPeers.map pPeer).set k (pPeer (lied now x)) := by rw [modify_set hx, List.map_set]
    have el : lied now x = ⟨x.fId, x.fPinned, now + (if ((10 * 2 ^ b : Nat) : Int) < 320 then ((10 * 2 ^ b : Nat) : Int) else 320), (if (b : Int) + 1 < 20 then (b : Int) + 1 else 20)⟩ := by
      unfold lied lieN
      rw [hbb, Int.toNat_natCast]
      generalize 10 * 2 ^ b = B
      congr 1
      · split <;> omega
      · split <;> omega
    rw [el] at es
    have hsh := shl10 hb20
    have hpw : (2 : Nat) ^ b ≤ 2 ^ 20 := Nat.pow_le_pow_right (by omega) hb20
    unfold peerSet
    rw [hk, Int.toNat_natCast]
    simp only [pTbO, bTb, es]
    generalize 10 * 2 ^ b = B at *
    refine pcalls_ofR okP Tryz.func154 rfl ?_
    simp only [Tryz.f154, List.length_cons, List.length_nil, Nat.reduceAdd, Nat.reduceSub, List.replicate_succ, List.replicate_zero, List.cons_append, List.nil_append, List.length_map]
    repeat' (first | with_reducible (first | refine wA ?_ | refine wB ?_ | refine wC ?_ | refine w1 ?_ | refine w2 ?_ | refine w3 ?_ | refine w4 ?_ | refine w5 ?_ | refine w6 ?_ | refine w7 ?_ | refine w8 ?_ | refine wT ?_ | refine w9 ?_ | refine wE ?_ | refine wS ?_) | ((with_reducible refine hK _ ?_); clear hK K) | ((with_reducible refine PWp.condI ?_); refine ⟨_, rfl, fun hg => ?_, fun hg => ?_⟩ <;> first | (exact absurd hg (by decide)) | ((try simp only [Bool.not_true, Bool.not_false] at hg); (try simp only [hg]); (try simp only [push_cast] at hg); (try exact absurd trivial hg); (try (exfalso; omega)))) | ((with_reducible refine pops_guard0 ?_); refine ⟨_, rfl, fun K hK => ⟨rfl, ?_⟩⟩; (try simp (disch := omega) only [push_cast, seval, ok, hn, hk, hx, hbb, hsh, hset])) | ((with_reducible refine pops_plain fun K hK => popO_build ?_); refine ⟨_, rfl, _, rfl, ?_⟩; simp (disch := omega) only [push_cast, seval, ok, hn, hk, hx, hbb, hsh, hset]) | ((with_reducible refine pbuild_cs ?_); refine ⟨_, rfl, _, rfl, ?_⟩; simp (disch := omega) only [push_cast, seval, ok, hn, hk, hx, hbb, hsh, hset]) | ((with_reducible refine pops_plain fun K hK => ?_); simp (disch := omega) only [push_cast, seval, ok, hn, hk, hx, hbb, hsh, hset]) | ((with_reducible refine pops_guard ?_); refine ⟨_, rfl, fun K hK => ⟨_, rfl, fun hg => ?_, fun hg => ?_⟩⟩ <;> first | (exact absurd hg (by decide)) | ((try simp only [Bool.not_true, Bool.not_false] at hg); (try simp only [hg]); (try simp only [push_cast] at hg); (try exact absurd trivial hg); (try (exfalso; omega)); (try simp (disch := omega) only [push_cast, seval, ok, hn, hk, hx, hbb, hsh, hset]))) | ((with_reducible show pcall _ _ _ _ _ _); (first | (refine pcV (cf Tryz.func146) (iAt_p ⟨_, _⟩ _ sd) ?_) | (refine pcV (cf Tryz.func167) (isTime_p _) ?_) | (refine pcV (cf Tryz.func207) (iTableOk_p ⟨_, _⟩ sd) ?_) | (refine pcF (cf Tryz.func226) (iCopyTable_p ⟨_, _⟩ sd) ?_)); (try simp (disch := omega) only [push_cast, seval, ok, hn, hk, hx, hbb, hsh, hset])) | ((with_reducible refine And.intro ?_ ?_); omega))
    ((with_reducible show PPostR _ _ _ _ _ _); exact finH [_])
end Go.Proofs.YtiboajlnjldalaaGreatDoor
namespace Go.Proofs.YtiboajlnjldalaaGreatDoor
set_option linter.unusedSimpArgs false
set_option linter.unusedVariables false
open Go.RowKit
set_option maxRecDepth 100000
set_option maxHeartbeats 2000000 in
theorem iLightOk_p (c : GLight) (h1 : c.fAnchor.fNext.length ≤ 2000000) (h2 : c.fStore.fHeads.length ≤ 2000000) (h3 : c.fPeers.fPeers.length ≤ 2000000) : PCalls Tryz.prog 121 [.agg (pLight c)] [] (RV (.val (.bool (lightOk c)))) := by
  obtain ⟨tr, st, ⟨hh, nx⟩, ⟨hs, sy⟩, ⟨ps, tu⟩, now⟩ := c
  dsimp only at h1 h2 h3
  have hd : lightOk ⟨tr, st, ⟨hh, nx⟩, ⟨hs, sy⟩, ⟨ps, tu⟩, now⟩ = (trustOk tr && anchorOk ⟨hh, nx⟩ && storeOk ⟨hs, sy⟩ && tableOk ⟨ps, tu⟩ && inB st 1 2 && isTime now && (match lastHead hs with | some h => headEq h hh | none => false)) := rfl
  by_cases hlen : hs.length = 0
  · have e : lastHead hs = none := by unfold lastHead; exact List.getElem?_eq_none (by omega)
    rw [e] at hd
    refine pcalls_ofR okP Tryz.func121 rfl ?_
    simp only [Tryz.f121, List.length_cons, List.length_nil, Nat.reduceAdd, Nat.reduceSub, List.replicate_succ, List.replicate_zero, List.cons_append, List.nil_append, List.length_map]
    repeat' (first | with_reducible (first | refine wA ?_ | refine wB ?_ | refine wC ?_) | with_reducible refine PWp.draw (id := 4) okP true [0, 1, 2, 3, 4, 5, 6, 7, 8, 9, 10, 11, 12, 13, 14, 15, 16, 17, 18, 19, 20, 21, 22, 23, 24, 25] (by kernel_rfl) ?_ | with_reducible (first | refine w1 ?_ | refine w2 ?_ | refine w3 ?_ | refine w4 ?_ | refine w5 ?_ | refine w6 ?_ | refine w7 ?_ | refine w8 ?_ | refine wT ?_ | refine w9 ?_ | refine wE ?_ | refine wS ?_) | ((with_reducible refine hK _ ?_); clear hK K) | ((with_reducible refine PWp.condI ?_); refine ⟨_, rfl, fun hg => ?_, fun hg => ?_⟩ <;> first | (exact absurd hg (by decide)) | ((try simp only [Bool.not_true, Bool.not_false] at hg); (try simp only [hg]); (try simp only [push_cast] at hg); (try exact absurd trivial hg); (try (exfalso; omega)))) | ((first | ((with_reducible refine pops_guard0 ?_); refine ⟨_, rfl, fun K hK => ⟨rfl, ?_⟩⟩) | ((with_reducible refine pD_g0 ?_); refine ⟨_, rfl, rfl, ?_⟩)); (try simp (disch := omega) only [push_cast, seval])) | ((with_reducible refine pany_I ?_); refine ⟨_, rfl, fun K hK => ?_⟩) | ((with_reducible refine pops_plain fun K hK => ?_); simp (disch := omega) only [push_cast, seval]) | ((first | ((with_reducible refine pD_y ?_ ?_); exact rfl) | ((with_reducible refine pD_x ?_ ?_); exact rfl)); simp (disch := omega) only [push_cast, seval]) | ((first | ((with_reducible refine pops_guard ?_); refine ⟨_, rfl, fun K hK => ⟨_, rfl, fun hg => ?_, fun hg => ?_⟩⟩) | ((first | ((with_reducible refine pD_gy ?_ ?_); exact rfl) | ((with_reducible refine pD_gx ?_ ?_); exact rfl)); refine ⟨_, rfl, _, rfl, fun hg => ?_, fun hg => ?_⟩)) <;> first | (exact absurd hg (by decide)) | ((try simp only [Bool.not_true, Bool.not_false] at hg); (try simp only [hg]); (try simp only [push_cast] at hg); (try exact absurd trivial hg); (try (exfalso; omega)); (try simp (disch := omega) only [push_cast, seval]))) | ((with_reducible show pcall _ _ _ _ _ _); (first | (refine pcV (cf Tryz.func77) (within_p _ _ _) ?_) | (refine pcV (cf Tryz.func167) (isTime_p _) ?_) | (refine pcV (cf Tryz.func204) (iTrustOk_p ⟨_, _⟩) ?_) | (refine pcV (cf Tryz.func205) (iAnchorOk_p ⟨⟨_, _, _, _, _, _⟩, _⟩ sd) ?_) | (refine pcV (cf Tryz.func206) (iStoreOk_p ⟨_, _⟩ sd) ?_) | (refine pcV (cf Tryz.func207) (iTableOk_p ⟨_, _⟩ sd) ?_)); (try simp (disch := omega) only [push_cast, seval])) | ((with_reducible refine And.intro ?_ ?_); omega))
    all_goals
      ((with_reducible show PPostR _ _ _ _ _ _); refine finV ?_; (try simp only [push_cast, seval]))
      simp_all
  · obtain ⟨x, hx⟩ : ∃ x, hs[hs.length - 1]? = some x := ⟨_, List.getElem?_eq_getElem (by omega)⟩
    have e : lastHead hs = some x := hx
    rw [e] at hd
    have e1 : ((hs.length : Int) - 1).toNat = hs.length - 1 := by omega
    refine pcalls_ofR okP Tryz.func121 rfl ?_
    simp only [Tryz.f121, List.length_cons, List.length_nil, Nat.reduceAdd, Nat.reduceSub, List.replicate_succ, List.replicate_zero, List.cons_append, List.nil_append, List.length_map]
    repeat' (first | with_reducible (first | refine wA ?_ | refine wB ?_ | refine wC ?_) | with_reducible refine PWp.draw (id := 4) okP true [0, 1, 2, 3, 4, 5, 6, 7, 8, 9, 10, 11, 12, 13, 14, 15, 16, 17, 18, 19, 20, 21, 22, 23, 24, 25] (by kernel_rfl) ?_ | with_reducible (first | refine w1 ?_ | refine w2 ?_ | refine w3 ?_ | refine w4 ?_ | refine w5 ?_ | refine w6 ?_ | refine w7 ?_ | refine w8 ?_ | refine wT ?_ | refine w9 ?_ | refine wE ?_ | refine wS ?_) | ((with_reducible refine hK _ ?_); clear hK K) | ((with_reducible refine PWp.condI ?_); refine ⟨_, rfl, fun hg => ?_, fun hg => ?_⟩ <;> first | (exact absurd hg (by decide)) | ((try simp only [Bool.not_true, Bool.not_false] at hg); (try simp only [hg]); (try simp only [push_cast] at hg); (try exact absurd trivial hg); (try (exfalso; omega)))) | ((first | ((with_reducible refine pops_guard0 ?_); refine ⟨_, rfl, fun K hK => ⟨rfl, ?_⟩⟩) | ((with_reducible refine pD_g0 ?_); refine ⟨_, rfl, rfl, ?_⟩)); (try simp (disch := omega) only [push_cast, seval, e1, hx])) | ((with_reducible refine pany_I ?_); refine ⟨_, rfl, fun K hK => ?_⟩) | ((with_reducible refine pops_plain fun K hK => ?_); simp (disch := omega) only [push_cast, seval, e1, hx]) | ((first | ((with_reducible refine pD_y ?_ ?_); exact rfl) | ((with_reducible refine pD_x ?_ ?_); exact rfl)); simp (disch := omega) only [push_cast, seval, e1, hx]) | ((first | ((with_reducible refine pops_guard ?_); refine ⟨_, rfl, fun K hK => ⟨_, rfl, fun hg => ?_, fun hg => ?_⟩⟩) | ((first | ((with_reducible refine pD_gy ?_ ?_); exact rfl) | ((with_reducible refine pD_gx ?_ ?_); exact rfl)); refine ⟨_, rfl, _, rfl, fun hg => ?_, fun hg => ?_⟩)) <;> first | (exact absurd hg (by decide)) | ((try simp only [Bool.not_true, Bool.not_false] at hg); (try simp only [hg]); (try simp only [push_cast] at hg); (try exact absurd trivial hg); (try (exfalso; omega)); (try simp (disch := omega) only [push_cast, seval, e1, hx]))) | ((with_reducible show pcall _ _ _ _ _ _); (first | (refine pcV (cf Tryz.func77) (within_p _ _ _) ?_) | (refine pcV (cf Tryz.func167) (isTime_p _) ?_) | (refine pcV (cf Tryz.func204) (iTrustOk_p ⟨_, _⟩) ?_) | (refine pcV (cf Tryz.func205) (iAnchorOk_p ⟨⟨_, _, _, _, _, _⟩, _⟩ sd) ?_) | (refine pcV (cf Tryz.func206) (iStoreOk_p ⟨_, _⟩ sd) ?_) | (refine pcV (cf Tryz.func207) (iTableOk_p ⟨_, _⟩ sd) ?_)); (try simp (disch := omega) only [push_cast, seval, e1, hx])) | ((with_reducible refine And.intro ?_ ?_); omega))
    all_goals
      ((with_reducible show PPostR _ _ _ _ _ _); refine finV ?_; (try simp only [push_cast, seval]))
      first
        | (simp_all [headEq]; done)
        | (simp_all [headEq]; omega)
end Go.Proofs.YtiboajlnjldalaaGreatDoor
namespace Go.Proofs.YtiboajlnjldalaaGreatDoor
set_option linter.unusedSimpArgs false
set_option linter.unusedVariables false
open Go.RowKit
set_option maxRecDepth 100000
theorem chain_bd {l : List GBlock} (h : chainOk l = true) {k : Nat} {u : GBlock} (hu : l[k]? = some u) : 1 ≤ u.fHead.fHeight ∧ u.fHead.fHeight ≤ 1000000 := by
  have := headerOk_facts (blockOk_head ((adjOk_iff.1 h).1 k u hu))
  exact ⟨this.h1, this.h2⟩
def lastB (l : List GBlock) : Option GBlock := l[l.length - 1]?
def mBehind (c : GLight) (l : List GBlock) : Int :=
  if lightOk c && chainOk l then (match lastB l with | some b => max 0 (b.fHead.fHeight - c.fAnchor.fHead.fHeight) | none => 0) else 0
structure SmC (c : GLight) : Prop where
  a : c.fAnchor.fNext.length ≤ 2000000
  s : c.fStore.fHeads.length ≤ 2000000
  p : c.fPeers.fPeers.length ≤ 2000000
theorem light_height {c : GLight} (ok : lightOk c = true) : 1 ≤ c.fAnchor.fHead.fHeight ∧ c.fAnchor.fHead.fHeight ≤ 1000000 := by
  have := headerOk_facts (anchor_vals (lightOk_iff.1 ok).a).1
  exact ⟨this.h1, this.h2⟩
set_option maxHeartbeats 2000000 in
theorem iBehind_p (c : GLight) (l : List GBlock) (hc : SmC c) (hl : l.length ≤ 2000000) (hs : ∀ b ∈ l, SmB b) : PCalls Tryz.prog 73 [.agg (pLight c), .sl 12 (l.map pBlock)] [] (RV (.val (.int .i64 (mBehind c l)))) := by
  obtain ⟨c1, c2, c3⟩ := hc
  cases ok : lightOk c with
  | false =>
    have e : mBehind c l = 0 := by unfold mBehind; rw [ok]; rfl
    rw [e]
    by_cases h0 : l.length = 0
    all_goals
      refine pcalls_ofR okP Tryz.func73 rfl ?_
      simp only [Tryz.f73, List.length_cons, List.length_nil, Nat.reduceAdd, Nat.reduceSub, List.replicate_succ, List.replicate_zero, List.cons_append, List.nil_append, List.length_map]
      repeat' (first | with_reducible (first | refine wA ?_ | refine wB ?_ | refine wC ?_) | with_reducible refine PWp.draw (id := 3) okP true [0, 1, 2, 3, 4, 5, 6, 7, 8, 9, 10, 11, 12, 13, 14] (by kernel_rfl) ?_ | with_reducible (first | refine w1 ?_ | refine w2 ?_ | refine w3 ?_ | refine w4 ?_ | refine w5 ?_ | refine w6 ?_ | refine w7 ?_ | refine w8 ?_ | refine wT ?_ | refine w9 ?_ | refine wE ?_ | refine wS ?_) | ((with_reducible refine hK _ ?_); clear hK K) | ((with_reducible refine PWp.condI ?_); refine ⟨_, rfl, fun hg => ?_, fun hg => ?_⟩ <;> first | (exact absurd hg (by decide)) | ((try simp only [Bool.not_true, Bool.not_false] at hg); (try simp only [hg]); (try simp only [push_cast] at hg); (try exact absurd trivial hg); (try (exfalso; omega)))) | ((first | ((with_reducible refine pops_guard0 ?_); refine ⟨_, rfl, fun K hK => ⟨rfl, ?_⟩⟩) | ((with_reducible refine pD_g0 ?_); refine ⟨_, rfl, rfl, ?_⟩)); (try simp (disch := omega) only [push_cast, seval, ok, h0])) | ((with_reducible refine pany_I ?_); refine ⟨_, rfl, fun K hK => ?_⟩) | ((with_reducible refine pops_plain fun K hK => ?_); simp (disch := omega) only [push_cast, seval, ok, h0]) | ((first | ((with_reducible refine pD_y ?_ ?_); exact rfl) | ((with_reducible refine pD_x ?_ ?_); exact rfl)); simp (disch := omega) only [push_cast, seval, ok, h0]) | ((first | ((with_reducible refine pops_guard ?_); refine ⟨_, rfl, fun K hK => ⟨_, rfl, fun hg => ?_, fun hg => ?_⟩⟩) | ((first | ((with_reducible refine pD_gy ?_ ?_); exact rfl) | ((with_reducible refine pD_gx ?_ ?_); exact rfl)); refine ⟨_, rfl, _, rfl, fun hg => ?_, fun hg => ?_⟩)) <;> first | (exact absurd hg (by decide)) | ((try simp only [Bool.not_true, Bool.not_false] at hg); (try simp only [hg]); (try simp only [push_cast] at hg); (try exact absurd trivial hg); (try (exfalso; omega)); (try simp (disch := omega) only [push_cast, seval, ok, h0]))) | ((with_reducible show pcall _ _ _ _ _ _); (first | (refine pcV (cf Tryz.func15) (iChainOk_p _ sd (by assumption)) ?_) | (refine pcV (cf Tryz.func121) (iLightOk_p ⟨⟨_, _⟩, _, ⟨⟨_, _, _, _, _, _⟩, _⟩, ⟨_, _⟩, ⟨_, _⟩, _⟩ sd sd sd) ?_)); (try simp (disch := omega) only [push_cast, seval, ok, h0])) | ((with_reducible refine And.intro ?_ ?_); omega))
      all_goals ((with_reducible show PPostR _ _ _ _ _ _); refine finV ?_; (try simp only [push_cast, seval]))
  | true =>
  cases okl : chainOk l with
  | false =>
    have e : mBehind c l = 0 := by unfold mBehind; rw [ok, okl]; rfl
    rw [e]
    by_cases h0 : l.length = 0
    all_goals
      refine pcalls_ofR okP Tryz.func73 rfl ?_
      simp only [Tryz.f73, List.length_cons, List.length_nil, Nat.reduceAdd, Nat.reduceSub, List.replicate_succ, List.replicate_zero, List.cons_append, List.nil_append, List.length_map]
      repeat' (first | with_reducible (first | refine wA ?_ | refine wB ?_ | refine wC ?_) | with_reducible refine PWp.draw (id := 3) okP true [0, 1, 2, 3, 4, 5, 6, 7, 8, 9, 10, 11, 12, 13, 14] (by kernel_rfl) ?_ | with_reducible (first | refine w1 ?_ | refine w2 ?_ | refine w3 ?_ | refine w4 ?_ | refine w5 ?_ | refine w6 ?_ | refine w7 ?_ | refine w8 ?_ | refine wT ?_ | refine w9 ?_ | refine wE ?_ | refine wS ?_) | ((with_reducible refine hK _ ?_); clear hK K) | ((with_reducible refine PWp.condI ?_); refine ⟨_, rfl, fun hg => ?_, fun hg => ?_⟩ <;> first | (exact absurd hg (by decide)) | ((try simp only [Bool.not_true, Bool.not_false] at hg); (try simp only [hg]); (try simp only [push_cast] at hg); (try exact absurd trivial hg); (try (exfalso; omega)))) | ((first | ((with_reducible refine pops_guard0 ?_); refine ⟨_, rfl, fun K hK => ⟨rfl, ?_⟩⟩) | ((with_reducible refine pD_g0 ?_); refine ⟨_, rfl, rfl, ?_⟩)); (try simp (disch := omega) only [push_cast, seval, ok, okl, h0])) | ((with_reducible refine pany_I ?_); refine ⟨_, rfl, fun K hK => ?_⟩) | ((with_reducible refine pops_plain fun K hK => ?_); simp (disch := omega) only [push_cast, seval, ok, okl, h0]) | ((first | ((with_reducible refine pD_y ?_ ?_); exact rfl) | ((with_reducible refine pD_x ?_ ?_); exact rfl)); simp (disch := omega) only [push_cast, seval, ok, okl, h0]) | ((first | ((with_reducible refine pops_guard ?_); refine ⟨_, rfl, fun K hK => ⟨_, rfl, fun hg => ?_, fun hg => ?_⟩⟩) | ((first | ((with_reducible refine pD_gy ?_ ?_); exact rfl) | ((with_reducible refine pD_gx ?_ ?_); exact rfl)); refine ⟨_, rfl, _, rfl, fun hg => ?_, fun hg => ?_⟩)) <;> first | (exact absurd hg (by decide)) | ((try simp only [Bool.not_true, Bool.not_false] at hg); (try simp only [hg]); (try simp only [push_cast] at hg); (try exact absurd trivial hg); (try (exfalso; omega)); (try simp (disch := omega) only [push_cast, seval, ok, okl, h0]))) | ((with_reducible show pcall _ _ _ _ _ _); (first | (refine pcV (cf Tryz.func15) (iChainOk_p _ sd (by assumption)) ?_) | (refine pcV (cf Tryz.func121) (iLightOk_p ⟨⟨_, _⟩, _, ⟨⟨_, _, _, _, _, _⟩, _⟩, ⟨_, _⟩, ⟨_, _⟩, _⟩ sd sd sd) ?_)); (try simp (disch := omega) only [push_cast, seval, ok, okl, h0])) | ((with_reducible refine And.intro ?_ ?_); omega))
      all_goals ((with_reducible show PPostR _ _ _ _ _ _); refine finV ?_; (try simp only [push_cast, seval]))
  | true =>
  by_cases h0 : l.length = 0
  · have e : mBehind c l = 0 := by unfold mBehind lastB; rw [ok, okl, List.length_eq_zero_iff.1 h0]; rfl
    rw [e]
    refine pcalls_ofR okP Tryz.func73 rfl ?_
    simp only [Tryz.f73, List.length_cons, List.length_nil, Nat.reduceAdd, Nat.reduceSub, List.replicate_succ, List.replicate_zero, List.cons_append, List.nil_append, List.length_map]
    repeat' (first | with_reducible (first | refine wA ?_ | refine wB ?_ | refine wC ?_) | with_reducible refine PWp.draw (id := 3) okP true [0, 1, 2, 3, 4, 5, 6, 7, 8, 9, 10, 11, 12, 13, 14] (by kernel_rfl) ?_ | with_reducible (first | refine w1 ?_ | refine w2 ?_ | refine w3 ?_ | refine w4 ?_ | refine w5 ?_ | refine w6 ?_ | refine w7 ?_ | refine w8 ?_ | refine wT ?_ | refine w9 ?_ | refine wE ?_ | refine wS ?_) | ((with_reducible refine hK _ ?_); clear hK K) | ((with_reducible refine PWp.condI ?_); refine ⟨_, rfl, fun hg => ?_, fun hg => ?_⟩ <;> first | (exact absurd hg (by decide)) | ((try simp only [Bool.not_true, Bool.not_false] at hg); (try simp only [hg]); (try simp only [push_cast] at hg); (try exact absurd trivial hg); (try (exfalso; omega)))) | ((first | ((with_reducible refine pops_guard0 ?_); refine ⟨_, rfl, fun K hK => ⟨rfl, ?_⟩⟩) | ((with_reducible refine pD_g0 ?_); refine ⟨_, rfl, rfl, ?_⟩)); (try simp (disch := omega) only [push_cast, seval, ok, okl, h0])) | ((with_reducible refine pany_I ?_); refine ⟨_, rfl, fun K hK => ?_⟩) | ((with_reducible refine pops_plain fun K hK => ?_); simp (disch := omega) only [push_cast, seval, ok, okl, h0]) | ((first | ((with_reducible refine pD_y ?_ ?_); exact rfl) | ((with_reducible refine pD_x ?_ ?_); exact rfl)); simp (disch := omega) only [push_cast, seval, ok, okl, h0]) | ((first | ((with_reducible refine pops_guard ?_); refine ⟨_, rfl, fun K hK => ⟨_, rfl, fun hg => ?_, fun hg => ?_⟩⟩) | ((first | ((with_reducible refine pD_gy ?_ ?_); exact rfl) | ((with_reducible refine pD_gx ?_ ?_); exact rfl)); refine ⟨_, rfl, _, rfl, fun hg => ?_, fun hg => ?_⟩)) <;> first | (exact absurd hg (by decide)) | ((try simp only [Bool.not_true, Bool.not_false] at hg); (try simp only [hg]); (try simp only [push_cast] at hg); (try exact absurd trivial hg); (try (exfalso; omega)); (try simp (disch := omega) only [push_cast, seval, ok, okl, h0]))) | ((with_reducible show pcall _ _ _ _ _ _); (first | (refine pcV (cf Tryz.func15) (iChainOk_p _ sd (by assumption)) ?_) | (refine pcV (cf Tryz.func121) (iLightOk_p ⟨⟨_, _⟩, _, ⟨⟨_, _, _, _, _, _⟩, _⟩, ⟨_, _⟩, ⟨_, _⟩, _⟩ sd sd sd) ?_)); (try simp (disch := omega) only [push_cast, seval, ok, okl, h0])) | ((with_reducible refine And.intro ?_ ?_); omega))
    all_goals ((with_reducible show PPostR _ _ _ _ _ _); refine finV ?_; (try simp only [push_cast, seval]))
  obtain ⟨b, hb⟩ : ∃ b, l[l.length - 1]? = some b := ⟨_, List.getElem?_eq_getElem (by omega)⟩
  have e : mBehind c l = max 0 (b.fHead.fHeight - c.fAnchor.fHead.fHeight) := by unfold mBehind lastB; rw [ok, okl, hb]; rfl
  obtain ⟨b1, b2⟩ := chain_bd okl hb
  obtain ⟨d1, d2⟩ := light_height ok
  have e1 : ((l.length : Int) - 1).toNat = l.length - 1 := by omega
  rw [e]
  refine pcalls_ofR okP Tryz.func73 rfl ?_
  simp only [Tryz.f73, List.length_cons, List.length_nil, Nat.reduceAdd, Nat.reduceSub, List.replicate_succ, List.replicate_zero, List.cons_append, List.nil_append, List.length_map]
  repeat' (first | with_reducible (first | refine wA ?_ | refine wB ?_ | refine wC ?_) | with_reducible refine PWp.draw (id := 3) okP true [0, 1, 2, 3, 4, 5, 6, 7, 8, 9, 10, 11, 12, 13, 14] (by kernel_rfl) ?_ | with_reducible (first | refine w1 ?_ | refine w2 ?_ | refine w3 ?_ | refine w4 ?_ | refine w5 ?_ | refine w6 ?_ | refine w7 ?_ | refine w8 ?_ | refine wT ?_ | refine w9 ?_ | refine wE ?_ | refine wS ?_) | ((with_reducible refine hK _ ?_); clear hK K) | ((with_reducible refine PWp.condI ?_); refine ⟨_, rfl, fun hg => ?_, fun hg => ?_⟩ <;> first | (exact absurd hg (by decide)) | ((try simp only [Bool.not_true, Bool.not_false] at hg); (try simp only [hg]); (try simp only [push_cast] at hg); (try exact absurd trivial hg); (try (exfalso; omega)))) | ((first | ((with_reducible refine pops_guard0 ?_); refine ⟨_, rfl, fun K hK => ⟨rfl, ?_⟩⟩) | ((with_reducible refine pD_g0 ?_); refine ⟨_, rfl, rfl, ?_⟩)); (try simp (disch := omega) only [push_cast, seval, ok, okl, hb, e1])) | ((with_reducible refine pany_I ?_); refine ⟨_, rfl, fun K hK => ?_⟩) | ((with_reducible refine pops_plain fun K hK => ?_); simp (disch := omega) only [push_cast, seval, ok, okl, hb, e1]) | ((first | ((with_reducible refine pD_y ?_ ?_); exact rfl) | ((with_reducible refine pD_x ?_ ?_); exact rfl)); simp (disch := omega) only [push_cast, seval, ok, okl, hb, e1]) | ((first | ((with_reducible refine pops_guard ?_); refine ⟨_, rfl, fun K hK => ⟨_, rfl, fun hg => ?_, fun hg => ?_⟩⟩) | ((first | ((with_reducible refine pD_gy ?_ ?_); exact rfl) | ((with_reducible refine pD_gx ?_ ?_); exact rfl)); refine ⟨_, rfl, _, rfl, fun hg => ?_, fun hg => ?_⟩)) <;> first | (exact absurd hg (by decide)) | ((try simp only [Bool.not_true, Bool.not_false] at hg); (try simp only [hg]); (try simp only [push_cast] at hg); (try exact absurd trivial hg); (try (exfalso; omega)); (try simp (disch := omega) only [push_cast, seval, ok, okl, hb, e1]))) | ((with_reducible show pcall _ _ _ _ _ _); (first | (refine pcV (cf Tryz.func15) (iChainOk_p _ sd (by assumption)) ?_) | (refine pcV (cf Tryz.func121) (iLightOk_p ⟨⟨_, _⟩, _, ⟨⟨_, _, _, _, _, _⟩, _⟩, ⟨_, _⟩, ⟨_, _⟩, _⟩ sd sd sd) ?_)); (try simp (disch := omega) only [push_cast, seval, ok, okl, hb, e1])) | ((with_reducible refine And.intro ?_ ?_); omega))
  all_goals
    ((with_reducible show PPostR _ _ _ _ _ _); refine finV ?_; (try simp only [push_cast, seval]))
    (try (first | omega | (congr 3; omega)))
end Go.Proofs.YtiboajlnjldalaaGreatDoor
namespace Go.Proofs.YtiboajlnjldalaaGreatDoor
set_option linter.unusedSimpArgs false
set_option linter.unusedVariables false
open Go.RowKit
set_option maxRecDepth 100000
def pLiO (c : GLight) : List PV := [.val (.int .i64 c.fTrust.fPeriod), .val (.int .i64 c.fTrust.fSlack), .val (.int .i64 c.fState), .val (.int .i64 c.fAnchor.fHead.fHeight), .val (.int .i64 c.fAnchor.fHead.fTime), .val (.string c.fAnchor.fHead.fLast), .val (.string c.fAnchor.fHead.fVals), .val (.string c.fAnchor.fHead.fNext), .val (.string c.fAnchor.fHead.fData), .own 0, .own 1, .val (.int .i64 c.fStore.fSynced), .own 2, .val (.int .i64 c.fPeers.fTurn), .val (.int .i64 c.fNow)]
def bLi (c : GLight) : Hp := [some (.row 141 2 (c.fAnchor.fNext.map pVal)), some (.row 30 6 (c.fStore.fHeads.map pHeader)), some (.row 211 4 (c.fPeers.fPeers.map pPeer))]
attribute [push_cast] pLiO bLi
set_option maxHeartbeats 1000000 in
theorem iCopyLight_p (c : GLight) (h1 : c.fAnchor.fNext.length ≤ 2000000) (h2 : c.fStore.fHeads.length ≤ 2000000) (h3 : c.fPeers.fPeers.length ≤ 2000000) : PCalls Tryz.prog 145 [.agg (pLight c)] [] (RH (.agg (pLiO c)) (bLi c)) := by
  obtain ⟨tr, st, ⟨hh, nx⟩, ⟨hs, sy⟩, ⟨ps, tu⟩, now⟩ := c
  dsimp only at h1 h2 h3
  refine pcalls_ofR okP Tryz.func145 rfl ?_
  simp only [Tryz.f145, List.length_cons, List.length_nil, Nat.reduceAdd, Nat.reduceSub, List.replicate_succ, List.replicate_zero, List.cons_append, List.nil_append, List.length_map]
  repeat' (first | with_reducible (first | refine wA ?_ | refine wB ?_ | refine wC ?_ | refine w1 ?_ | refine w2 ?_ | refine w3 ?_ | refine w4 ?_ | refine w5 ?_ | refine w6 ?_ | refine w7 ?_ | refine w8 ?_ | refine wT ?_ | refine w9 ?_ | refine wE ?_ | refine wS ?_) | ((with_reducible refine hK _ ?_); clear hK K) | ((with_reducible refine pops_plain fun K hK => ?_); simp (disch := omega) only [push_cast, seval]) | ((with_reducible show pcall _ _ _ _ _ _); (first | (refine pcF (cf Tryz.func224) (iCopyAnchor_p ⟨⟨_, _, _, _, _, _⟩, _⟩ sd) ?_) | (refine pcF (cf Tryz.func225) (iCopyStore_p ⟨_, _⟩ sd) ?_) | (refine pcF (cf Tryz.func226) (iCopyTable_p ⟨_, _⟩ sd) ?_)); (try simp (disch := omega) only [push_cast, seval])) | ((with_reducible refine And.intro ?_ ?_); omega))
  all_goals ((with_reducible show PPostR _ _ _ _ _ _); exact finH [_, _, _])
set_option maxHeartbeats 2000000 in
theorem iLightTick_p (c : GLight) (n : Int) (ok : lightOk c = true) (h1 : c.fAnchor.fNext.length ≤ 2000000) : PCalls Tryz.prog 64 [.agg (pLight c), .val (.int .i64 n)] [] (RH (.tup [.agg (pLiO (lightTick c n).1), .val (.bool (lightTick c n).2)]) (bLi (lightTick c n).1)) := by
  have f := lightOk_iff.1 ok
  have f1 := time_bd f.n
  have f2 := (storeOk_iff.1 f.s).2.1
  have f3 := (tableOk_iff.1 f.p).2.1
  have f4 := trust_bd f.t
  have f5 := headerOk_facts (anchor_vals f.a).1
  have f6 := f5.t0; have f7 := f5.t1
  have ht := f.t
  obtain ⟨tr, st, ⟨hh, nx⟩, ⟨hs, sy⟩, ⟨ps, tu⟩, now⟩ := c
  dsimp only at h1 f1 f2 f3 f4 f6 f7 ht
  clear f f5
  have ee : expires tr hh.fTime = hh.fTime + tr.fPeriod := by
    unfold expires isTime
    rw [ht, Bool.true_and, if_pos (inB_iff.2 ⟨f6, f7⟩)]
  by_cases hin : inB n 1 1000 = true
  case neg =>
    have e : lightTick ⟨tr, st, ⟨hh, nx⟩, ⟨hs, sy⟩, ⟨ps, tu⟩, now⟩ n = (⟨tr, st, ⟨hh, nx⟩, ⟨hs, sy⟩, ⟨ps, tu⟩, now⟩, false) := by unfold lightTick; rw [if_neg (by simp [hin])]
    rw [e]
    refine pcalls_ofR okP Tryz.func64 rfl ?_
    simp only [Tryz.f64, List.length_cons, List.length_nil, Nat.reduceAdd, Nat.reduceSub, List.replicate_succ, List.replicate_zero, List.cons_append, List.nil_append, List.length_map]
    repeat' (first | with_reducible (first | refine wA ?_ | refine wB ?_ | refine wC ?_) | with_reducible refine PWp.draw (id := 7) okP true [0, 1, 2, 3, 4, 5, 6, 7, 8, 9] (by kernel_rfl) ?_ | with_reducible (first | refine w1 ?_ | refine w2 ?_ | refine w3 ?_ | refine w4 ?_ | refine w5 ?_ | refine w6 ?_ | refine w7 ?_ | refine w8 ?_ | refine wT ?_ | refine w9 ?_ | refine wE ?_ | refine wS ?_) | ((with_reducible refine hK _ ?_); clear hK K) | ((with_reducible refine PWp.condI ?_); refine ⟨_, rfl, fun hg => ?_, fun hg => ?_⟩ <;> first | (exact absurd hg (by decide)) | ((try simp only [Bool.not_true, Bool.not_false] at hg); (try simp only [hg]); (try simp only [push_cast] at hg); (try exact absurd trivial hg); (try (exfalso; omega)))) | ((first | ((with_reducible refine pops_guard0 ?_); refine ⟨_, rfl, fun K hK => ⟨rfl, ?_⟩⟩) | ((with_reducible refine pD_g0 ?_); refine ⟨_, rfl, rfl, ?_⟩)); (try simp (disch := omega) only [push_cast, seval, ok, hin])) | ((with_reducible refine pany_I ?_); refine ⟨_, rfl, fun K hK => ?_⟩) | ((with_reducible refine pops_plain fun K hK => popO_build ?_); refine ⟨_, rfl, _, rfl, ?_⟩; simp (disch := omega) only [push_cast, seval, ok, hin]) | ((with_reducible refine pD_y ?_ (py_build ?_)); exact rfl; refine ⟨_, rfl, _, rfl, ?_⟩; simp (disch := omega) only [push_cast, seval, ok, hin]) | ((with_reducible refine pbuild_cs ?_); refine ⟨_, rfl, _, rfl, ?_⟩; simp (disch := omega) only [push_cast, seval, ok, hin]) | ((with_reducible refine pops_plain fun K hK => ?_); simp (disch := omega) only [push_cast, seval, ok, hin]) | ((first | ((with_reducible refine pD_y ?_ ?_); exact rfl) | ((with_reducible refine pD_x ?_ ?_); exact rfl)); simp (disch := omega) only [push_cast, seval, ok, hin]) | ((first | ((with_reducible refine pops_guard ?_); refine ⟨_, rfl, fun K hK => ⟨_, rfl, fun hg => ?_, fun hg => ?_⟩⟩) | ((first | ((with_reducible refine pD_gy ?_ ?_); exact rfl) | ((with_reducible refine pD_gx ?_ ?_); exact rfl)); refine ⟨_, rfl, _, rfl, fun hg => ?_, fun hg => ?_⟩)) <;> first | (exact absurd hg (by decide)) | ((try simp only [Bool.not_true, Bool.not_false] at hg); (try simp only [hg]); (try simp only [push_cast] at hg); (try exact absurd trivial hg); (try (exfalso; omega)); (try simp (disch := omega) only [push_cast, seval, ok, hin]))) | ((with_reducible show pcall _ _ _ _ _ _); (first | (refine pcV (cf Tryz.func77) (within_p _ _ _) ?_) | (refine pcV (cf Tryz.func121) (iLightOk_p ⟨⟨_, _⟩, _, ⟨⟨_, _, _, _, _, _⟩, _⟩, ⟨_, _⟩, ⟨_, _⟩, _⟩ sd sd sd) ?_) | (refine pcV (cf Tryz.func122) (iExpires_p ⟨_, _⟩ _) ?_) | (refine pcF (cf Tryz.func145) (iCopyLight_p ⟨⟨_, _⟩, _, ⟨⟨_, _, _, _, _, _⟩, _⟩, ⟨_, _⟩, ⟨_, _⟩, _⟩ sd sd sd) ?_) | (refine pcV (cf Tryz.func167) (isTime_p _) ?_)); (try simp (disch := omega) only [push_cast, seval, ok, hin])) | ((with_reducible refine And.intro ?_ ?_); omega))
    all_goals ((with_reducible show PPostR _ _ _ _ _ _); exact finH [_, _, _])
  obtain ⟨n1, n2⟩ := inB_iff.1 hin
  cases hit : isTime (now + n) with
  | false =>
    have e : lightTick ⟨tr, st, ⟨hh, nx⟩, ⟨hs, sy⟩, ⟨ps, tu⟩, now⟩ n = (⟨tr, st, ⟨hh, nx⟩, ⟨hs, sy⟩, ⟨ps, tu⟩, now⟩, false) := by unfold lightTick; dsimp only; rw [if_neg (by simp [hit])]
    rw [e]
    refine pcalls_ofR okP Tryz.func64 rfl ?_
    simp only [Tryz.f64, List.length_cons, List.length_nil, Nat.reduceAdd, Nat.reduceSub, List.replicate_succ, List.replicate_zero, List.cons_append, List.nil_append, List.length_map]
    repeat' (first | with_reducible (first | refine wA ?_ | refine wB ?_ | refine wC ?_) | with_reducible refine PWp.draw (id := 7) okP true [0, 1, 2, 3, 4, 5, 6, 7, 8, 9] (by kernel_rfl) ?_ | with_reducible (first | refine w1 ?_ | refine w2 ?_ | refine w3 ?_ | refine w4 ?_ | refine w5 ?_ | refine w6 ?_ | refine w7 ?_ | refine w8 ?_ | refine wT ?_ | refine w9 ?_ | refine wE ?_ | refine wS ?_) | ((with_reducible refine hK _ ?_); clear hK K) | ((with_reducible refine PWp.condI ?_); refine ⟨_, rfl, fun hg => ?_, fun hg => ?_⟩ <;> first | (exact absurd hg (by decide)) | ((try simp only [Bool.not_true, Bool.not_false] at hg); (try simp only [hg]); (try simp only [push_cast] at hg); (try exact absurd trivial hg); (try (exfalso; omega)))) | ((first | ((with_reducible refine pops_guard0 ?_); refine ⟨_, rfl, fun K hK => ⟨rfl, ?_⟩⟩) | ((with_reducible refine pD_g0 ?_); refine ⟨_, rfl, rfl, ?_⟩)); (try simp (disch := omega) only [push_cast, seval, ok, hin, hit])) | ((with_reducible refine pany_I ?_); refine ⟨_, rfl, fun K hK => ?_⟩) | ((with_reducible refine pops_plain fun K hK => popO_build ?_); refine ⟨_, rfl, _, rfl, ?_⟩; simp (disch := omega) only [push_cast, seval, ok, hin, hit]) | ((with_reducible refine pD_y ?_ (py_build ?_)); exact rfl; refine ⟨_, rfl, _, rfl, ?_⟩; simp (disch := omega) only [push_cast, seval, ok, hin, hit]) | ((with_reducible refine pbuild_cs ?_); refine ⟨_, rfl, _, rfl, ?_⟩; simp (disch := omega) only [push_cast, seval, ok, hin, hit]) | ((with_reducible refine pops_plain fun K hK => ?_); simp (disch := omega) only [push_cast, seval, ok, hin, hit]) | ((first | ((with_reducible refine pD_y ?_ ?_); exact rfl) | ((with_reducible refine pD_x ?_ ?_); exact rfl)); simp (disch := omega) only [push_cast, seval, ok, hin, hit]) | ((first | ((with_reducible refine pops_guard ?_); refine ⟨_, rfl, fun K hK => ⟨_, rfl, fun hg => ?_, fun hg => ?_⟩⟩) | ((first | ((with_reducible refine pD_gy ?_ ?_); exact rfl) | ((with_reducible refine pD_gx ?_ ?_); exact rfl)); refine ⟨_, rfl, _, rfl, fun hg => ?_, fun hg => ?_⟩)) <;> first | (exact absurd hg (by decide)) | ((try simp only [Bool.not_true, Bool.not_false] at hg); (try simp only [hg]); (try simp only [push_cast] at hg); (try exact absurd trivial hg); (try (exfalso; omega)); (try simp (disch := omega) only [push_cast, seval, ok, hin, hit]))) | ((with_reducible show pcall _ _ _ _ _ _); (first | (refine pcV (cf Tryz.func77) (within_p _ _ _) ?_) | (refine pcV (cf Tryz.func121) (iLightOk_p ⟨⟨_, _⟩, _, ⟨⟨_, _, _, _, _, _⟩, _⟩, ⟨_, _⟩, ⟨_, _⟩, _⟩ sd sd sd) ?_) | (refine pcV (cf Tryz.func122) (iExpires_p ⟨_, _⟩ _) ?_) | (refine pcF (cf Tryz.func145) (iCopyLight_p ⟨⟨_, _⟩, _, ⟨⟨_, _, _, _, _, _⟩, _⟩, ⟨_, _⟩, ⟨_, _⟩, _⟩ sd sd sd) ?_) | (refine pcV (cf Tryz.func167) (isTime_p _) ?_)); (try simp (disch := omega) only [push_cast, seval, ok, hin, hit])) | ((with_reducible refine And.intro ?_ ?_); omega))
    all_goals ((with_reducible show PPostR _ _ _ _ _ _); exact finH [_, _, _])
  | true =>
    have e : lightTick ⟨tr, st, ⟨hh, nx⟩, ⟨hs, sy⟩, ⟨ps, tu⟩, now⟩ n = (⟨tr, if hh.fTime + tr.fPeriod < now + n then 2 else st, ⟨hh, nx⟩, ⟨hs, sy⟩, ⟨ps, tu⟩, now + n⟩, true) := by unfold lightTick; dsimp only; rw [if_pos (by simp [hin, hit])]
    rw [e]
    by_cases hx : hh.fTime + tr.fPeriod < now + n
    · rw [if_pos hx]
      refine pcalls_ofR okP Tryz.func64 rfl ?_
      simp only [Tryz.f64, List.length_cons, List.length_nil, Nat.reduceAdd, Nat.reduceSub, List.replicate_succ, List.replicate_zero, List.cons_append, List.nil_append, List.length_map]
      repeat' (first | with_reducible (first | refine wA ?_ | refine wB ?_ | refine wC ?_) | with_reducible refine PWp.draw (id := 7) okP true [0, 1, 2, 3, 4, 5, 6, 7, 8, 9] (by kernel_rfl) ?_ | with_reducible (first | refine w1 ?_ | refine w2 ?_ | refine w3 ?_ | refine w4 ?_ | refine w5 ?_ | refine w6 ?_ | refine w7 ?_ | refine w8 ?_ | refine wT ?_ | refine w9 ?_ | refine wE ?_ | refine wS ?_) | ((with_reducible refine hK _ ?_); clear hK K) | ((with_reducible refine PWp.condI ?_); refine ⟨_, rfl, fun hg => ?_, fun hg => ?_⟩ <;> first | (exact absurd hg (by decide)) | ((try simp only [Bool.not_true, Bool.not_false] at hg); (try simp only [hg]); (try simp only [push_cast] at hg); (try exact absurd trivial hg); (try (exfalso; omega)))) | ((first | ((with_reducible refine pops_guard0 ?_); refine ⟨_, rfl, fun K hK => ⟨rfl, ?_⟩⟩) | ((with_reducible refine pD_g0 ?_); refine ⟨_, rfl, rfl, ?_⟩)); (try simp (disch := omega) only [push_cast, seval, ok, hin, hit, ee])) | ((with_reducible refine pany_I ?_); refine ⟨_, rfl, fun K hK => ?_⟩) | ((with_reducible refine pops_plain fun K hK => popO_build ?_); refine ⟨_, rfl, _, rfl, ?_⟩; simp (disch := omega) only [push_cast, seval, ok, hin, hit, ee]) | ((with_reducible refine pD_y ?_ (py_build ?_)); exact rfl; refine ⟨_, rfl, _, rfl, ?_⟩; simp (disch := omega) only [push_cast, seval, ok, hin, hit, ee]) | ((with_reducible refine pbuild_cs ?_); refine ⟨_, rfl, _, rfl, ?_⟩; simp (disch := omega) only [push_cast, seval, ok, hin, hit, ee]) | ((with_reducible refine pops_plain fun K hK => ?_); simp (disch := omega) only [push_cast, seval, ok, hin, hit, ee]) | ((first | ((with_reducible refine pD_y ?_ ?_); exact rfl) | ((with_reducible refine pD_x ?_ ?_); exact rfl)); simp (disch := omega) only [push_cast, seval, ok, hin, hit, ee]) | ((first | ((with_reducible refine pops_guard ?_); refine ⟨_, rfl, fun K hK => ⟨_, rfl, fun hg => ?_, fun hg => ?_⟩⟩) | ((first | ((with_reducible refine pD_gy ?_ ?_); exact rfl) | ((with_reducible refine pD_gx ?_ ?_); exact rfl)); refine ⟨_, rfl, _, rfl, fun hg => ?_, fun hg => ?_⟩)) <;> first | (exact absurd hg (by decide)) | ((try simp only [Bool.not_true, Bool.not_false] at hg); (try simp only [hg]); (try simp only [push_cast] at hg); (try exact absurd trivial hg); (try (exfalso; omega)); (try simp (disch := omega) only [push_cast, seval, ok, hin, hit, ee]))) | ((with_reducible show pcall _ _ _ _ _ _); (first | (refine pcV (cf Tryz.func77) (within_p _ _ _) ?_) | (refine pcV (cf Tryz.func121) (iLightOk_p ⟨⟨_, _⟩, _, ⟨⟨_, _, _, _, _, _⟩, _⟩, ⟨_, _⟩, ⟨_, _⟩, _⟩ sd sd sd) ?_) | (refine pcV (cf Tryz.func122) (iExpires_p ⟨_, _⟩ _) ?_) | (refine pcF (cf Tryz.func145) (iCopyLight_p ⟨⟨_, _⟩, _, ⟨⟨_, _, _, _, _, _⟩, _⟩, ⟨_, _⟩, ⟨_, _⟩, _⟩ sd sd sd) ?_) | (refine pcV (cf Tryz.func167) (isTime_p _) ?_)); (try simp (disch := omega) only [push_cast, seval, ok, hin, hit, ee])) | ((with_reducible refine And.intro ?_ ?_); omega))
      all_goals ((with_reducible show PPostR _ _ _ _ _ _); exact finH [_, _, _])
    · rw [if_neg hx]
      refine pcalls_ofR okP Tryz.func64 rfl ?_
      simp only [Tryz.f64, List.length_cons, List.length_nil, Nat.reduceAdd, Nat.reduceSub, List.replicate_succ, List.replicate_zero, List.cons_append, List.nil_append, List.length_map]
      repeat' (first | with_reducible (first | refine wA ?_ | refine wB ?_ | refine wC ?_) | with_reducible refine PWp.draw (id := 7) okP true [0, 1, 2, 3, 4, 5, 6, 7, 8, 9] (by kernel_rfl) ?_ | with_reducible (first | refine w1 ?_ | refine w2 ?_ | refine w3 ?_ | refine w4 ?_ | refine w5 ?_ | refine w6 ?_ | refine w7 ?_ | refine w8 ?_ | refine wT ?_ | refine w9 ?_ | refine wE ?_ | refine wS ?_) | ((with_reducible refine hK _ ?_); clear hK K) | ((with_reducible refine PWp.condI ?_); refine ⟨_, rfl, fun hg => ?_, fun hg => ?_⟩ <;> first | (exact absurd hg (by decide)) | ((try simp only [Bool.not_true, Bool.not_false] at hg); (try simp only [hg]); (try simp only [push_cast] at hg); (try exact absurd trivial hg); (try (exfalso; omega)))) | ((first | ((with_reducible refine pops_guard0 ?_); refine ⟨_, rfl, fun K hK => ⟨rfl, ?_⟩⟩) | ((with_reducible refine pD_g0 ?_); refine ⟨_, rfl, rfl, ?_⟩)); (try simp (disch := omega) only [push_cast, seval, ok, hin, hit, ee])) | ((with_reducible refine pany_I ?_); refine ⟨_, rfl, fun K hK => ?_⟩) | ((with_reducible refine pops_plain fun K hK => popO_build ?_); refine ⟨_, rfl, _, rfl, ?_⟩; simp (disch := omega) only [push_cast, seval, ok, hin, hit, ee]) | ((with_reducible refine pD_y ?_ (py_build ?_)); exact rfl; refine ⟨_, rfl, _, rfl, ?_⟩; simp (disch := omega) only [push_cast, seval, ok, hin, hit, ee]) | ((with_reducible refine pbuild_cs ?_); refine ⟨_, rfl, _, rfl, ?_⟩; simp (disch := omega) only [push_cast, seval, ok, hin, hit, ee]) | ((with_reducible refine pops_plain fun K hK => ?_); simp (disch := omega) only [push_cast, seval, ok, hin, hit, ee]) | ((first | ((with_reducible refine pD_y ?_ ?_); exact rfl) | ((with_reducible refine pD_x ?_ ?_); exact rfl)); simp (disch := omega) only [push_cast, seval, ok, hin, hit, ee]) | ((first | ((with_reducible refine pops_guard ?_); refine ⟨_, rfl, fun K hK => ⟨_, rfl, fun hg => ?_, fun hg => ?_⟩⟩) | ((first | ((with_reducible refine pD_gy ?_ ?_); exact rfl) | ((with_reducible refine pD_gx ?_ ?_); exact rfl)); refine ⟨_, rfl, _, rfl, fun hg => ?_, fun hg => ?_⟩)) <;> first | (exact absurd hg (by decide)) | ((try simp only [Bool.not_true, Bool.not_false] at hg); (try simp only [hg]); (try simp only [push_cast] at hg); (try exact absurd trivial hg); (try (exfalso; omega)); (try simp (disch := omega) only [push_cast, seval, ok, hin, hit, ee]))) | ((with_reducible show pcall _ _ _ _ _ _); (first | (refine pcV (cf Tryz.func77) (within_p _ _ _) ?_) | (refine pcV (cf Tryz.func121) (iLightOk_p ⟨⟨_, _⟩, _, ⟨⟨_, _, _, _, _, _⟩, _⟩, ⟨_, _⟩, ⟨_, _⟩, _⟩ sd sd sd) ?_) | (refine pcV (cf Tryz.func122) (iExpires_p ⟨_, _⟩ _) ?_) | (refine pcF (cf Tryz.func145) (iCopyLight_p ⟨⟨_, _⟩, _, ⟨⟨_, _, _, _, _, _⟩, _⟩, ⟨_, _⟩, ⟨_, _⟩, _⟩ sd sd sd) ?_) | (refine pcV (cf Tryz.func167) (isTime_p _) ?_)); (try simp (disch := omega) only [push_cast, seval, ok, hin, hit, ee])) | ((with_reducible refine And.intro ?_ ?_); omega))
      all_goals ((with_reducible show PPostR _ _ _ _ _ _); exact finH [_, _, _])
end Go.Proofs.YtiboajlnjldalaaGreatDoor
namespace Go.Proofs.YtiboajlnjldalaaGreatDoor
set_option linter.unusedSimpArgs false
set_option linter.unusedVariables false
open Go.RowKit
set_option maxRecDepth 100000
structure TickFacts (c : GLight) : Prop where
  n1 : 0 ≤ c.fNow
  n2 : c.fNow ≤ 1000000
  h1 : 0 ≤ c.fAnchor.fHead.fTime
  h2 : c.fAnchor.fHead.fTime ≤ 1000000
  t1 : 1 ≤ c.fTrust.fPeriod
  t2 : c.fTrust.fPeriod ≤ 1000000
theorem tick_facts {c : GLight} (ok : lightOk c = true) : TickFacts c := by
  have f := lightOk_iff.1 ok
  have f1 := time_bd f.n
  have f4 := trust_bd f.t
  have f5 := headerOk_facts (anchor_vals f.a).1
  have f6 := f5.t0; have f7 := f5.t1
  constructor <;> omega
end Go.Proofs.YtiboajlnjldalaaGreatDoor

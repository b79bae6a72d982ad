/- What the proof leans on, part 7. -/
import Derived.Test.YtiboajlnjldalaaGreatDoorQF6
namespace Go.Proofs.YtiboajlnjldalaaGreatDoor
set_option linter.unusedSimpArgs false
set_option linter.unusedVariables false
open Go.RowKit
set_option maxRecDepth 100000
theorem feed_bad {c : GLight} {peer : Int} {b : GBlock} (h : c.fState ≠ 1 ∨ peerIdx c.fPeers.fPeers peer < 0 ∨ hasI (bans c.fPeers.fPeers c.fNow) peer = true) : lightFeed c peer b = (c, 1) := by
  unfold lightFeed
  rw [if_pos h]
theorem feed_go {c : GLight} {peer : Int} {b : GBlock} (h1 : c.fState = 1) (h2 : ¬ peerIdx c.fPeers.fPeers peer < 0) (h3 : hasI (bans c.fPeers.fPeers c.fNow) peer = false) : lightFeed c peer b =
    if verified c.fTrust c.fAnchor b.fHead b.fNext b.fCommit c.fNow = 0 then
      ({ c with fAnchor := ⟨b.fHead, b.fNext⟩, fStore := storePut c.fStore b.fHead, fPeers := (peerGood c.fPeers peer).1 }, 0)
    else if 5 ≤ verified c.fTrust c.fAnchor b.fHead b.fNext b.fCommit c.fNow then
      ({ c with fPeers := (peerLie c.fPeers peer c.fNow).1 }, verified c.fTrust c.fAnchor b.fHead b.fNext b.fCommit c.fNow)
    else (c, verified c.fTrust c.fAnchor b.fHead b.fNext b.fCommit c.fNow) := by
  unfold lightFeed
  rw [if_neg (by simp [h1, h2, h3])]
theorem hasI_sort (l : List Int) (x : Int) : hasI (sortI l) x = hasI l x := hasI_perm (sortI_perm l) x
def mLightFeed (c : GLight) (peer : Int) (b : GBlock) : GLight × Int := if lightOk c then lightFeed c peer b else (light0, 1)
set_option maxHeartbeats 4000000 in
theorem iLightFeed_p (c : GLight) (peer : Int) (b : GBlock) (ok : lightOk c = true) (hb : SmB b) : PCalls Tryz.prog 49 [.agg (pLight c), .val (.int .i64 peer), .agg (pBlock b)] [] (RH (.tup [.agg (pLiO (lightFeed c peer b).1), .val (.int .i64 (lightFeed c peer b).2)]) (bLi (lightFeed c peer b).1)) := by
  obtain ⟨b1, b2, b3⟩ := hb
  have f := lightOk_iff.1 ok
  have hnow := f.n
  have f2 := (storeOk_iff.1 f.s).2.1
  have f3 := (tableOk_iff.1 f.p).2.1
  have f4 := (anchor_vals f.a).2
  have f5 := (valsOk_iff.1 f4).2.2.2
  by_cases hA : c.fState = 1 ∧ ¬ peerIdx c.fPeers.fPeers peer < 0
  case neg =>
    rw [feed_bad (by by_cases q : c.fState = 1; right; left; (by_cases r : peerIdx c.fPeers.fPeers peer < 0; exact r; exact absurd ⟨q, r⟩ hA); left; exact q)]
    obtain ⟨tr, st, ⟨hh, nx⟩, ⟨hs, sy⟩, ⟨ps, tu⟩, now⟩ := c
    obtain ⟨h, vs, bn, ⟨ch, cr, ci, cs⟩⟩ := b
    dsimp only at *
    by_cases q : st = 1
    · have r : peerIdx ps peer < 0 := by by_cases r : peerIdx ps peer < 0; exact r; exact absurd ⟨q, r⟩ hA
      clear hA f
      refine pcalls_ofR okP Tryz.func49 rfl ?_
      simp only [Tryz.f49, List.length_cons, List.length_nil, Nat.reduceAdd, Nat.reduceSub, List.replicate_succ, List.replicate_zero, List.cons_append, List.nil_append, List.length_map]
      repeat' (first | with_reducible (first | refine wA ?_ | refine wB ?_ | refine wC ?_ | refine w1 ?_ | refine w2 ?_ | refine w3 ?_ | refine w4 ?_ | refine w5 ?_ | refine w6 ?_ | refine w7 ?_ | refine w8 ?_ | refine wT ?_ | refine w9 ?_ | refine wE ?_ | refine wS ?_) | ((with_reducible refine hK _ ?_); clear hK K) | ((with_reducible refine PWp.condI ?_); refine ⟨_, rfl, fun hg => ?_, fun hg => ?_⟩ <;> first | (exact absurd hg (by decide)) | ((try simp only [Bool.not_true, Bool.not_false] at hg); (try simp only [hg]); (try simp only [push_cast] at hg); (try exact absurd trivial hg); (try (exfalso; omega)))) | ((with_reducible refine pops_guard0 ?_); refine ⟨_, rfl, fun K hK => ⟨rfl, ?_⟩⟩; (try simp (disch := omega) only [push_cast, seval, ok])) | ((with_reducible refine pops_plain fun K hK => popO_build ?_); refine ⟨_, rfl, _, rfl, ?_⟩; simp (disch := omega) only [push_cast, seval, ok]) | ((with_reducible refine pbuild_cs ?_); refine ⟨_, rfl, _, rfl, ?_⟩; simp (disch := omega) only [push_cast, seval, ok]) | ((with_reducible refine pops_plain fun K hK => ?_); simp (disch := omega) only [push_cast, seval, ok]) | ((with_reducible refine pops_guard ?_); refine ⟨_, rfl, fun K hK => ⟨_, rfl, fun hg => ?_, fun hg => ?_⟩⟩ <;> first | (exact absurd hg (by decide)) | ((try simp only [Bool.not_true, Bool.not_false] at hg); (try simp only [hg]); (try simp only [push_cast] at hg); (try exact absurd trivial hg); (try (exfalso; omega)); (try simp (disch := omega) only [push_cast, seval, ok]))) | ((with_reducible show pcall _ _ _ _ _ _); (first | (refine pcV (cf Tryz.func121) (iLightOk_p ⟨⟨_, _⟩, _, ⟨⟨_, _, _, _, _, _⟩, _⟩, ⟨_, _⟩, ⟨_, _⟩, _⟩ sd sd sd) ?_) | (refine pcF (cf Tryz.func145) (iCopyLight_p ⟨⟨_, _⟩, _, ⟨⟨_, _, _, _, _, _⟩, _⟩, ⟨_, _⟩, ⟨_, _⟩, _⟩ sd sd sd) ?_) | (refine pcV (cf Tryz.func146) (iAt_p ⟨_, _⟩ _ sd) ?_) | (refine pcV (cf Tryz.func147) (contains_p _ _ sd) ?_) | (refine pcF (cf Tryz.func148) (iBanned_p ⟨_, _⟩ _ sd sd) ?_) | (refine pcF (cf Tryz.func149) (iVerify_p ⟨_, _⟩ ⟨⟨_, _, _, _, _, _⟩, _⟩ ⟨_, _, _, _, _, _⟩ _ ⟨_, _, _, _⟩ _ sd sd sd) ?_) | (refine pcF (cf Tryz.func150) (iStorePrune_p ⟨_, _⟩ sd sd) ?_) | (refine pcF (cf Tryz.func151) (iStoreAdd_p ⟨_, _⟩ ⟨_, _, _, _, _, _⟩ sd) ?_) | (refine pcF (cf Tryz.func152) (iStoreSync_p ⟨_, _⟩ sd) ?_) | (refine pcF (cf Tryz.func153) (iPeerGood_p ⟨_, _⟩ _ sd) ?_) | (refine pcF (cf Tryz.func154) (iPeerLie_p ⟨_, _⟩ _ _ sd) ?_)); (try simp (disch := omega) only [push_cast, seval, ok])) | ((with_reducible refine And.intro ?_ ?_); omega))
      all_goals ((with_reducible show PPostR _ _ _ _ _ _); exact finH [_, _, _])
    · clear hA f
      refine pcalls_ofR okP Tryz.func49 rfl ?_
      simp only [Tryz.f49, List.length_cons, List.length_nil, Nat.reduceAdd, Nat.reduceSub, List.replicate_succ, List.replicate_zero, List.cons_append, List.nil_append, List.length_map]
      repeat' (first | with_reducible (first | refine wA ?_ | refine wB ?_ | refine wC ?_ | refine w1 ?_ | refine w2 ?_ | refine w3 ?_ | refine w4 ?_ | refine w5 ?_ | refine w6 ?_ | refine w7 ?_ | refine w8 ?_ | refine wT ?_ | refine w9 ?_ | refine wE ?_ | refine wS ?_) | ((with_reducible refine hK _ ?_); clear hK K) | ((with_reducible refine PWp.condI ?_); refine ⟨_, rfl, fun hg => ?_, fun hg => ?_⟩ <;> first | (exact absurd hg (by decide)) | ((try simp only [Bool.not_true, Bool.not_false] at hg); (try simp only [hg]); (try simp only [push_cast] at hg); (try exact absurd trivial hg); (try (exfalso; omega)))) | ((with_reducible refine pops_guard0 ?_); refine ⟨_, rfl, fun K hK => ⟨rfl, ?_⟩⟩; (try simp (disch := omega) only [push_cast, seval, ok])) | ((with_reducible refine pops_plain fun K hK => popO_build ?_); refine ⟨_, rfl, _, rfl, ?_⟩; simp (disch := omega) only [push_cast, seval, ok]) | ((with_reducible refine pbuild_cs ?_); refine ⟨_, rfl, _, rfl, ?_⟩; simp (disch := omega) only [push_cast, seval, ok]) | ((with_reducible refine pops_plain fun K hK => ?_); simp (disch := omega) only [push_cast, seval, ok]) | ((with_reducible refine pops_guard ?_); refine ⟨_, rfl, fun K hK => ⟨_, rfl, fun hg => ?_, fun hg => ?_⟩⟩ <;> first | (exact absurd hg (by decide)) | ((try simp only [Bool.not_true, Bool.not_false] at hg); (try simp only [hg]); (try simp only [push_cast] at hg); (try exact absurd trivial hg); (try (exfalso; omega)); (try simp (disch := omega) only [push_cast, seval, ok]))) | ((with_reducible show pcall _ _ _ _ _ _); (first | (refine pcV (cf Tryz.func121) (iLightOk_p ⟨⟨_, _⟩, _, ⟨⟨_, _, _, _, _, _⟩, _⟩, ⟨_, _⟩, ⟨_, _⟩, _⟩ sd sd sd) ?_) | (refine pcF (cf Tryz.func145) (iCopyLight_p ⟨⟨_, _⟩, _, ⟨⟨_, _, _, _, _, _⟩, _⟩, ⟨_, _⟩, ⟨_, _⟩, _⟩ sd sd sd) ?_) | (refine pcV (cf Tryz.func146) (iAt_p ⟨_, _⟩ _ sd) ?_) | (refine pcV (cf Tryz.func147) (contains_p _ _ sd) ?_) | (refine pcF (cf Tryz.func148) (iBanned_p ⟨_, _⟩ _ sd sd) ?_) | (refine pcF (cf Tryz.func149) (iVerify_p ⟨_, _⟩ ⟨⟨_, _, _, _, _, _⟩, _⟩ ⟨_, _, _, _, _, _⟩ _ ⟨_, _, _, _⟩ _ sd sd sd) ?_) | (refine pcF (cf Tryz.func150) (iStorePrune_p ⟨_, _⟩ sd sd) ?_) | (refine pcF (cf Tryz.func151) (iStoreAdd_p ⟨_, _⟩ ⟨_, _, _, _, _, _⟩ sd) ?_) | (refine pcF (cf Tryz.func152) (iStoreSync_p ⟨_, _⟩ sd) ?_) | (refine pcF (cf Tryz.func153) (iPeerGood_p ⟨_, _⟩ _ sd) ?_) | (refine pcF (cf Tryz.func154) (iPeerLie_p ⟨_, _⟩ _ _ sd) ?_)); (try simp (disch := omega) only [push_cast, seval, ok])) | ((with_reducible refine And.intro ?_ ?_); omega))
      all_goals ((with_reducible show PPostR _ _ _ _ _ _); exact finH [_, _, _])
  obtain ⟨hS, hP⟩ := hA
  have hz := bans_len c.fPeers.fPeers c.fNow
  have hz2 := (sortI_perm (bans c.fPeers.fPeers c.fNow)).length_eq
  cases hbn : hasI (bans c.fPeers.fPeers c.fNow) peer with
  | true =>
    rw [feed_bad (.inr (.inr hbn))]
    have hso := hasI_sort (bans c.fPeers.fPeers c.fNow) peer
    rw [hbn] at hso
    have tok := f.p
    obtain ⟨tr, st, ⟨hh, nx⟩, ⟨hs, sy⟩, ⟨ps, tu⟩, now⟩ := c
    obtain ⟨h, vs, bn, ⟨ch, cr, ci, cs⟩⟩ := b
    dsimp only at *
    clear f
    refine pcalls_ofR okP Tryz.func49 rfl ?_
    simp only [Tryz.f49, List.length_cons, List.length_nil, Nat.reduceAdd, Nat.reduceSub, List.replicate_succ, List.replicate_zero, List.cons_append, List.nil_append, List.length_map]
    repeat' (first | with_reducible (first | refine wA ?_ | refine wB ?_ | refine wC ?_ | refine w1 ?_ | refine w2 ?_ | refine w3 ?_ | refine w4 ?_ | refine w5 ?_ | refine w6 ?_ | refine w7 ?_ | refine w8 ?_ | refine wT ?_ | refine w9 ?_ | refine wE ?_ | refine wS ?_) | ((with_reducible refine hK _ ?_); clear hK K) | ((with_reducible refine PWp.condI ?_); refine ⟨_, rfl, fun hg => ?_, fun hg => ?_⟩ <;> first | (exact absurd hg (by decide)) | ((try simp only [Bool.not_true, Bool.not_false] at hg); (try simp only [hg]); (try simp only [push_cast] at hg); (try exact absurd trivial hg); (try (exfalso; omega)))) | ((with_reducible refine pops_guard0 ?_); refine ⟨_, rfl, fun K hK => ⟨rfl, ?_⟩⟩; (try simp (disch := omega) only [push_cast, seval, ok, tok, hnow, hso])) | ((with_reducible refine pops_plain fun K hK => popO_build ?_); refine ⟨_, rfl, _, rfl, ?_⟩; simp (disch := omega) only [push_cast, seval, ok, tok, hnow, hso]) | ((with_reducible refine pbuild_cs ?_); refine ⟨_, rfl, _, rfl, ?_⟩; simp (disch := omega) only [push_cast, seval, ok, tok, hnow, hso]) | ((with_reducible refine pops_plain fun K hK => ?_); simp (disch := omega) only [push_cast, seval, ok, tok, hnow, hso]) | ((with_reducible refine pops_guard ?_); refine ⟨_, rfl, fun K hK => ⟨_, rfl, fun hg => ?_, fun hg => ?_⟩⟩ <;> first | (exact absurd hg (by decide)) | ((try simp only [Bool.not_true, Bool.not_false] at hg); (try simp only [hg]); (try simp only [push_cast] at hg); (try exact absurd trivial hg); (try (exfalso; omega)); (try simp (disch := omega) only [push_cast, seval, ok, tok, hnow, hso]))) | ((with_reducible show pcall _ _ _ _ _ _); (first | (refine pcV (cf Tryz.func121) (iLightOk_p ⟨⟨_, _⟩, _, ⟨⟨_, _, _, _, _, _⟩, _⟩, ⟨_, _⟩, ⟨_, _⟩, _⟩ sd sd sd) ?_) | (refine pcF (cf Tryz.func145) (iCopyLight_p ⟨⟨_, _⟩, _, ⟨⟨_, _, _, _, _, _⟩, _⟩, ⟨_, _⟩, ⟨_, _⟩, _⟩ sd sd sd) ?_) | (refine pcV (cf Tryz.func146) (iAt_p ⟨_, _⟩ _ sd) ?_) | (refine pcV (cf Tryz.func147) (contains_p _ _ sd) ?_) | (refine pcF (cf Tryz.func148) (iBanned_p ⟨_, _⟩ _ sd sd) ?_) | (refine pcF (cf Tryz.func149) (iVerify_p ⟨_, _⟩ ⟨⟨_, _, _, _, _, _⟩, _⟩ ⟨_, _, _, _, _, _⟩ _ ⟨_, _, _, _⟩ _ sd sd sd) ?_) | (refine pcF (cf Tryz.func150) (iStorePrune_p ⟨_, _⟩ sd sd) ?_) | (refine pcF (cf Tryz.func151) (iStoreAdd_p ⟨_, _⟩ ⟨_, _, _, _, _, _⟩ sd) ?_) | (refine pcF (cf Tryz.func152) (iStoreSync_p ⟨_, _⟩ sd) ?_) | (refine pcF (cf Tryz.func153) (iPeerGood_p ⟨_, _⟩ _ sd) ?_) | (refine pcF (cf Tryz.func154) (iPeerLie_p ⟨_, _⟩ _ _ sd) ?_)); (try simp (disch := omega) only [push_cast, seval, ok, tok, hnow, hso])) | ((with_reducible refine And.intro ?_ ?_); omega))
    all_goals ((with_reducible show PPostR _ _ _ _ _ _); exact finH [_, _, _])
  | false =>
  rw [feed_go hS hP hbn]
  have hso := hasI_sort (bans c.fPeers.fPeers c.fNow) peer
  rw [hbn] at hso
  have tok := f.p
  have sok := f.s
  have hlast := f.h
  generalize hv : verified c.fTrust c.fAnchor b.fHead b.fNext b.fCommit c.fNow = r
  by_cases h0 : r = 0
  · subst h0
    rw [if_pos rfl]
    have vf := verified_zero hv
    have hve : verify c.fTrust c.fAnchor b.fHead b.fNext b.fCommit c.fNow = (⟨b.fHead, b.fNext⟩, 0) := by unfold verify; rw [hv, if_pos rfl]
    have lk := vf.link; have hd := vf.hd
    clear vf
    by_cases h20 : c.fStore.fHeads.length = 20
    · have s1 := store_drop sok h20
      have l1 := last_drop h20 hlast
      have s2 := store_snoc (h := b.fHead) s1 (by rw [List.length_drop]; omega) l1 hd lk
      have e1 : storeAdd ⟨c.fStore.fHeads.drop 10, max 0 (c.fStore.fSynced - 10)⟩ b.fHead = (⟨c.fStore.fHeads.drop 10 ++ [b.fHead], max 0 (c.fStore.fSynced - 10)⟩, true) := by unfold storeAdd; rw [if_pos s2]
      have e2 : storePut c.fStore b.fHead = ⟨c.fStore.fHeads.drop 10 ++ [b.fHead], ((c.fStore.fHeads.drop 10 ++ [b.fHead]).length : Int)⟩ := by unfold storePut; rw [if_pos h20]
      rw [e2]
      have pr := iStorePrune_p c.fStore sok h20
      have ad := iStoreAdd_p ⟨c.fStore.fHeads.drop 10, max 0 (c.fStore.fSynced - 10)⟩ b.fHead s1
      rw [e1] at ad
      have sy' := iStoreSync_p ⟨c.fStore.fHeads.drop 10 ++ [b.fHead], max 0 (c.fStore.fSynced - 10)⟩ s2
      clear e1 e2 s1 s2 l1
      generalize c.fStore.fHeads.drop 10 ++ [b.fHead] = D at ad sy' ⊢
      generalize c.fStore.fHeads.drop 10 = d at pr ad
      generalize max 0 (c.fStore.fSynced - 10) = m at pr ad sy'
      have pg := iPeerGood_p c.fPeers peer tok
      have ve := iVerify_p c.fTrust c.fAnchor b.fHead b.fNext b.fCommit c.fNow (by omega) b2 b3
      rw [hve] at ve
      generalize peerGood c.fPeers peer = q at pg ⊢
      obtain ⟨⟨ps', tu'⟩, pb⟩ := q
      clear lk hd hlast hve hv sok f
      obtain ⟨tr, st, ⟨hh, nx⟩, ⟨hs, sy⟩, ⟨ps, tu⟩, now⟩ := c
      obtain ⟨h, vs, bn, ⟨ch, cr, ci, cs⟩⟩ := b
      dsimp only at *
      refine pcalls_ofR okP Tryz.func49 rfl ?_
      simp only [Tryz.f49, List.length_cons, List.length_nil, Nat.reduceAdd, Nat.reduceSub, List.replicate_succ, List.replicate_zero, List.cons_append, List.nil_append, List.length_map]
      repeat' (first | with_reducible (first | refine wA ?_ | refine wB ?_ | refine wC ?_ | refine w1 ?_ | refine w2 ?_ | refine w3 ?_ | refine w4 ?_ | refine w5 ?_ | refine w6 ?_ | refine w7 ?_ | refine w8 ?_ | refine wT ?_ | refine w9 ?_ | refine wE ?_ | refine wS ?_) | ((with_reducible refine hK _ ?_); clear hK K) | ((with_reducible refine PWp.condI ?_); refine ⟨_, rfl, fun hg => ?_, fun hg => ?_⟩ <;> first | (exact absurd hg (by decide)) | ((try simp only [Bool.not_true, Bool.not_false] at hg); (try simp only [hg]); (try simp only [push_cast] at hg); (try exact absurd trivial hg); (try (exfalso; omega)))) | ((with_reducible refine pops_guard0 ?_); refine ⟨_, rfl, fun K hK => ⟨rfl, ?_⟩⟩; (try simp (disch := omega) only [push_cast, seval, ok, tok, hnow, hso, h20])) | ((with_reducible refine pops_plain fun K hK => popO_build ?_); refine ⟨_, rfl, _, rfl, ?_⟩; simp (disch := omega) only [push_cast, seval, ok, tok, hnow, hso, h20]) | ((with_reducible refine pbuild_cs ?_); refine ⟨_, rfl, _, rfl, ?_⟩; simp (disch := omega) only [push_cast, seval, ok, tok, hnow, hso, h20]) | ((with_reducible refine pops_plain fun K hK => ?_); simp (disch := omega) only [push_cast, seval, ok, tok, hnow, hso, h20]) | ((with_reducible refine pops_guard ?_); refine ⟨_, rfl, fun K hK => ⟨_, rfl, fun hg => ?_, fun hg => ?_⟩⟩ <;> first | (exact absurd hg (by decide)) | ((try simp only [Bool.not_true, Bool.not_false] at hg); (try simp only [hg]); (try simp only [push_cast] at hg); (try exact absurd trivial hg); (try (exfalso; omega)); (try simp (disch := omega) only [push_cast, seval, ok, tok, hnow, hso, h20]))) | ((with_reducible show pcall _ _ _ _ _ _); (first | (refine pcV (cf Tryz.func121) (iLightOk_p ⟨⟨_, _⟩, _, ⟨⟨_, _, _, _, _, _⟩, _⟩, ⟨_, _⟩, ⟨_, _⟩, _⟩ sd sd sd) ?_) | (refine pcF (cf Tryz.func145) (iCopyLight_p ⟨⟨_, _⟩, _, ⟨⟨_, _, _, _, _, _⟩, _⟩, ⟨_, _⟩, ⟨_, _⟩, _⟩ sd sd sd) ?_) | (refine pcV (cf Tryz.func146) (iAt_p ⟨_, _⟩ _ sd) ?_) | (refine pcV (cf Tryz.func147) (contains_p _ _ sd) ?_) | (refine pcF (cf Tryz.func148) (iBanned_p ⟨_, _⟩ _ sd sd) ?_) | (refine pcF (cf Tryz.func149) (ve) ?_) | (refine pcH (cf Tryz.func150) (pr) ?_) | (refine pcH (cf Tryz.func151) (ad) ?_) | (refine pcH (cf Tryz.func152) (sy') ?_) | (refine pcH (cf Tryz.func153) (pg) ?_) | (refine pcF (cf Tryz.func154) (iPeerLie_p ⟨_, _⟩ _ _ sd) ?_)); (try simp (disch := omega) only [push_cast, seval, ok, tok, hnow, hso, h20])) | ((with_reducible refine And.intro ?_ ?_); omega))
      all_goals ((with_reducible show PPostR _ _ _ _ _ _); exact finH [_, _, _])
    · have s2 := store_snoc (h := b.fHead) (show storeOk ⟨c.fStore.fHeads, c.fStore.fSynced⟩ = true from sok) (by omega) hlast hd lk
      have e1 : storeAdd c.fStore b.fHead = (⟨c.fStore.fHeads ++ [b.fHead], c.fStore.fSynced⟩, true) := by unfold storeAdd; rw [if_pos s2]
      have e2 : storePut c.fStore b.fHead = ⟨c.fStore.fHeads ++ [b.fHead], ((c.fStore.fHeads ++ [b.fHead]).length : Int)⟩ := by unfold storePut; rw [if_neg h20]
      rw [e2]
      have ad := iStoreAdd_p c.fStore b.fHead sok
      rw [e1] at ad
      have sy' := iStoreSync_p ⟨c.fStore.fHeads ++ [b.fHead], c.fStore.fSynced⟩ s2
      clear e1 e2 s2
      generalize c.fStore.fHeads ++ [b.fHead] = D at ad sy' ⊢
      have pg := iPeerGood_p c.fPeers peer tok
      have ve := iVerify_p c.fTrust c.fAnchor b.fHead b.fNext b.fCommit c.fNow (by omega) b2 b3
      rw [hve] at ve
      generalize peerGood c.fPeers peer = q at pg ⊢
      obtain ⟨⟨ps', tu'⟩, pb⟩ := q
      clear lk hd hlast hve hv sok f
      obtain ⟨tr, st, ⟨hh, nx⟩, ⟨hs, sy⟩, ⟨ps, tu⟩, now⟩ := c
      obtain ⟨h, vs, bn, ⟨ch, cr, ci, cs⟩⟩ := b
      dsimp only at *
      refine pcalls_ofR okP Tryz.func49 rfl ?_
      simp only [Tryz.f49, List.length_cons, List.length_nil, Nat.reduceAdd, Nat.reduceSub, List.replicate_succ, List.replicate_zero, List.cons_append, List.nil_append, List.length_map]
      repeat' (first | with_reducible (first | refine wA ?_ | refine wB ?_ | refine wC ?_ | refine w1 ?_ | refine w2 ?_ | refine w3 ?_ | refine w4 ?_ | refine w5 ?_ | refine w6 ?_ | refine w7 ?_ | refine w8 ?_ | refine wT ?_ | refine w9 ?_ | refine wE ?_ | refine wS ?_) | ((with_reducible refine hK _ ?_); clear hK K) | ((with_reducible refine PWp.condI ?_); refine ⟨_, rfl, fun hg => ?_, fun hg => ?_⟩ <;> first | (exact absurd hg (by decide)) | ((try simp only [Bool.not_true, Bool.not_false] at hg); (try simp only [hg]); (try simp only [push_cast] at hg); (try exact absurd trivial hg); (try (exfalso; omega)))) | ((with_reducible refine pops_guard0 ?_); refine ⟨_, rfl, fun K hK => ⟨rfl, ?_⟩⟩; (try simp (disch := omega) only [push_cast, seval, ok, tok, hnow, hso, h20])) | ((with_reducible refine pops_plain fun K hK => popO_build ?_); refine ⟨_, rfl, _, rfl, ?_⟩; simp (disch := omega) only [push_cast, seval, ok, tok, hnow, hso, h20]) | ((with_reducible refine pbuild_cs ?_); refine ⟨_, rfl, _, rfl, ?_⟩; simp (disch := omega) only [push_cast, seval, ok, tok, hnow, hso, h20]) | ((with_reducible refine pops_plain fun K hK => ?_); simp (disch := omega) only [push_cast, seval, ok, tok, hnow, hso, h20]) | ((with_reducible refine pops_guard ?_); refine ⟨_, rfl, fun K hK => ⟨_, rfl, fun hg => ?_, fun hg => ?_⟩⟩ <;> first | (exact absurd hg (by decide)) | ((try simp only [Bool.not_true, Bool.not_false] at hg); (try simp only [hg]); (try simp only [push_cast] at hg); (try exact absurd trivial hg); (try (exfalso; omega)); (try simp (disch := omega) only [push_cast, seval, ok, tok, hnow, hso, h20]))) | ((with_reducible show pcall _ _ _ _ _ _); (first | (refine pcV (cf Tryz.func121) (iLightOk_p ⟨⟨_, _⟩, _, ⟨⟨_, _, _, _, _, _⟩, _⟩, ⟨_, _⟩, ⟨_, _⟩, _⟩ sd sd sd) ?_) | (refine pcF (cf Tryz.func145) (iCopyLight_p ⟨⟨_, _⟩, _, ⟨⟨_, _, _, _, _, _⟩, _⟩, ⟨_, _⟩, ⟨_, _⟩, _⟩ sd sd sd) ?_) | (refine pcV (cf Tryz.func146) (iAt_p ⟨_, _⟩ _ sd) ?_) | (refine pcV (cf Tryz.func147) (contains_p _ _ sd) ?_) | (refine pcF (cf Tryz.func148) (iBanned_p ⟨_, _⟩ _ sd sd) ?_) | (refine pcF (cf Tryz.func149) (ve) ?_) | (refine pcF (cf Tryz.func150) (iStorePrune_p ⟨_, _⟩ sd sd) ?_) | (refine pcH (cf Tryz.func151) (ad) ?_) | (refine pcH (cf Tryz.func152) (sy') ?_) | (refine pcH (cf Tryz.func153) (pg) ?_) | (refine pcF (cf Tryz.func154) (iPeerLie_p ⟨_, _⟩ _ _ sd) ?_)); (try simp (disch := omega) only [push_cast, seval, ok, tok, hnow, hso, h20])) | ((with_reducible refine And.intro ?_ ?_); omega))
      all_goals ((with_reducible show PPostR _ _ _ _ _ _); exact finH [_, _, _])
  · rw [if_neg h0]
    have hve : verify c.fTrust c.fAnchor b.fHead b.fNext b.fCommit c.fNow = (c.fAnchor, r) := by unfold verify; rw [hv, if_neg h0]
    have ve := iVerify_p c.fTrust c.fAnchor b.fHead b.fNext b.fCommit c.fNow (by omega) b2 b3
    rw [hve] at ve
    by_cases h5 : 5 ≤ r
    · rw [if_pos h5]
      have pl := iPeerLie_p c.fPeers peer c.fNow tok
      generalize peerLie c.fPeers peer c.fNow = q at pl ⊢
      obtain ⟨⟨ps', tu'⟩, pb⟩ := q
      clear hlast hve hv sok f
      obtain ⟨tr, st, ⟨hh, nx⟩, ⟨hs, sy⟩, ⟨ps, tu⟩, now⟩ := c
      obtain ⟨h, vs, bn, ⟨ch, cr, ci, cs⟩⟩ := b
      dsimp only at *
      refine pcalls_ofR okP Tryz.func49 rfl ?_
      simp only [Tryz.f49, List.length_cons, List.length_nil, Nat.reduceAdd, Nat.reduceSub, List.replicate_succ, List.replicate_zero, List.cons_append, List.nil_append, List.length_map]
      repeat' (first | with_reducible (first | refine wA ?_ | refine wB ?_ | refine wC ?_ | refine w1 ?_ | refine w2 ?_ | refine w3 ?_ | refine w4 ?_ | refine w5 ?_ | refine w6 ?_ | refine w7 ?_ | refine w8 ?_ | refine wT ?_ | refine w9 ?_ | refine wE ?_ | refine wS ?_) | ((with_reducible refine hK _ ?_); clear hK K) | ((with_reducible refine PWp.condI ?_); refine ⟨_, rfl, fun hg => ?_, fun hg => ?_⟩ <;> first | (exact absurd hg (by decide)) | ((try simp only [Bool.not_true, Bool.not_false] at hg); (try simp only [hg]); (try simp only [push_cast] at hg); (try exact absurd trivial hg); (try (exfalso; omega)))) | ((with_reducible refine pops_guard0 ?_); refine ⟨_, rfl, fun K hK => ⟨rfl, ?_⟩⟩; (try simp (disch := omega) only [push_cast, seval, ok, tok, hnow, hso])) | ((with_reducible refine pops_plain fun K hK => popO_build ?_); refine ⟨_, rfl, _, rfl, ?_⟩; simp (disch := omega) only [push_cast, seval, ok, tok, hnow, hso]) | ((with_reducible refine pbuild_cs ?_); refine ⟨_, rfl, _, rfl, ?_⟩; simp (disch := omega) only [push_cast, seval, ok, tok, hnow, hso]) | ((with_reducible refine pops_plain fun K hK => ?_); simp (disch := omega) only [push_cast, seval, ok, tok, hnow, hso]) | ((with_reducible refine pops_guard ?_); refine ⟨_, rfl, fun K hK => ⟨_, rfl, fun hg => ?_, fun hg => ?_⟩⟩ <;> first | (exact absurd hg (by decide)) | ((try simp only [Bool.not_true, Bool.not_false] at hg); (try simp only [hg]); (try simp only [push_cast] at hg); (try exact absurd trivial hg); (try (exfalso; omega)); (try simp (disch := omega) only [push_cast, seval, ok, tok, hnow, hso]))) | ((with_reducible show pcall _ _ _ _ _ _); (first | (refine pcV (cf Tryz.func121) (iLightOk_p ⟨⟨_, _⟩, _, ⟨⟨_, _, _, _, _, _⟩, _⟩, ⟨_, _⟩, ⟨_, _⟩, _⟩ sd sd sd) ?_) | (refine pcF (cf Tryz.func145) (iCopyLight_p ⟨⟨_, _⟩, _, ⟨⟨_, _, _, _, _, _⟩, _⟩, ⟨_, _⟩, ⟨_, _⟩, _⟩ sd sd sd) ?_) | (refine pcV (cf Tryz.func146) (iAt_p ⟨_, _⟩ _ sd) ?_) | (refine pcV (cf Tryz.func147) (contains_p _ _ sd) ?_) | (refine pcF (cf Tryz.func148) (iBanned_p ⟨_, _⟩ _ sd sd) ?_) | (refine pcF (cf Tryz.func149) (ve) ?_) | (refine pcF (cf Tryz.func150) (iStorePrune_p ⟨_, _⟩ sd sd) ?_) | (refine pcF (cf Tryz.func151) (iStoreAdd_p ⟨_, _⟩ ⟨_, _, _, _, _, _⟩ sd) ?_) | (refine pcF (cf Tryz.func152) (iStoreSync_p ⟨_, _⟩ sd) ?_) | (refine pcF (cf Tryz.func153) (iPeerGood_p ⟨_, _⟩ _ sd) ?_) | (refine pcH (cf Tryz.func154) (pl) ?_)); (try simp (disch := omega) only [push_cast, seval, ok, tok, hnow, hso])) | ((with_reducible refine And.intro ?_ ?_); omega))
      all_goals ((with_reducible show PPostR _ _ _ _ _ _); exact finH [_, _, _])
    · rw [if_neg h5]
      clear hlast hve hv sok f
      obtain ⟨tr, st, ⟨hh, nx⟩, ⟨hs, sy⟩, ⟨ps, tu⟩, now⟩ := c
      obtain ⟨h, vs, bn, ⟨ch, cr, ci, cs⟩⟩ := b
      dsimp only at *
      refine pcalls_ofR okP Tryz.func49 rfl ?_
      simp only [Tryz.f49, List.length_cons, List.length_nil, Nat.reduceAdd, Nat.reduceSub, List.replicate_succ, List.replicate_zero, List.cons_append, List.nil_append, List.length_map]
      repeat' (first | with_reducible (first | refine wA ?_ | refine wB ?_ | refine wC ?_ | refine w1 ?_ | refine w2 ?_ | refine w3 ?_ | refine w4 ?_ | refine w5 ?_ | refine w6 ?_ | refine w7 ?_ | refine w8 ?_ | refine wT ?_ | refine w9 ?_ | refine wE ?_ | refine wS ?_) | ((with_reducible refine hK _ ?_); clear hK K) | ((with_reducible refine PWp.condI ?_); refine ⟨_, rfl, fun hg => ?_, fun hg => ?_⟩ <;> first | (exact absurd hg (by decide)) | ((try simp only [Bool.not_true, Bool.not_false] at hg); (try simp only [hg]); (try simp only [push_cast] at hg); (try exact absurd trivial hg); (try (exfalso; omega)))) | ((with_reducible refine pops_guard0 ?_); refine ⟨_, rfl, fun K hK => ⟨rfl, ?_⟩⟩; (try simp (disch := omega) only [push_cast, seval, ok, tok, hnow, hso])) | ((with_reducible refine pops_plain fun K hK => popO_build ?_); refine ⟨_, rfl, _, rfl, ?_⟩; simp (disch := omega) only [push_cast, seval, ok, tok, hnow, hso]) | ((with_reducible refine pbuild_cs ?_); refine ⟨_, rfl, _, rfl, ?_⟩; simp (disch := omega) only [push_cast, seval, ok, tok, hnow, hso]) | ((with_reducible refine pops_plain fun K hK => ?_); simp (disch := omega) only [push_cast, seval, ok, tok, hnow, hso]) | ((with_reducible refine pops_guard ?_); refine ⟨_, rfl, fun K hK => ⟨_, rfl, fun hg => ?_, fun hg => ?_⟩⟩ <;> first | (exact absurd hg (by decide)) | ((try simp only [Bool.not_true, Bool.not_false] at hg); (try simp only [hg]); (try simp only [push_cast] at hg); (try exact absurd trivial hg); (try (exfalso; omega)); (try simp (disch := omega) only [push_cast, seval, ok, tok, hnow, hso]))) | ((with_reducible show pcall _ _ _ _ _ _); (first | (refine pcV (cf Tryz.func121) (iLightOk_p ⟨⟨_, _⟩, _, ⟨⟨_, _, _, _, _, _⟩, _⟩, ⟨_, _⟩, ⟨_, _⟩, _⟩ sd sd sd) ?_) | (refine pcF (cf Tryz.func145) (iCopyLight_p ⟨⟨_, _⟩, _, ⟨⟨_, _, _, _, _, _⟩, _⟩, ⟨_, _⟩, ⟨_, _⟩, _⟩ sd sd sd) ?_) | (refine pcV (cf Tryz.func146) (iAt_p ⟨_, _⟩ _ sd) ?_) | (refine pcV (cf Tryz.func147) (contains_p _ _ sd) ?_) | (refine pcF (cf Tryz.func148) (iBanned_p ⟨_, _⟩ _ sd sd) ?_) | (refine pcF (cf Tryz.func149) (ve) ?_) | (refine pcF (cf Tryz.func150) (iStorePrune_p ⟨_, _⟩ sd sd) ?_) | (refine pcF (cf Tryz.func151) (iStoreAdd_p ⟨_, _⟩ ⟨_, _, _, _, _, _⟩ sd) ?_) | (refine pcF (cf Tryz.func152) (iStoreSync_p ⟨_, _⟩ sd) ?_) | (refine pcF (cf Tryz.func153) (iPeerGood_p ⟨_, _⟩ _ sd) ?_) | (refine pcF (cf Tryz.func154) (iPeerLie_p ⟨_, _⟩ _ _ sd) ?_)); (try simp (disch := omega) only [push_cast, seval, ok, tok, hnow, hso])) | ((with_reducible refine And.intro ?_ ?_); omega))
      all_goals ((with_reducible show PPostR _ _ _ _ _ _); exact finH [_, _, _])
def pLx (c : GLight) (x y z : PV) : List PV := [.val (.int .i64 c.fTrust.fPeriod), .val (.int .i64 c.fTrust.fSlack), .val (.int .i64 c.fState), .val (.int .i64 c.fAnchor.fHead.fHeight), .val (.int .i64 c.fAnchor.fHead.fTime), .val (.string c.fAnchor.fHead.fLast), .val (.string c.fAnchor.fHead.fVals), .val (.string c.fAnchor.fHead.fNext), .val (.string c.fAnchor.fHead.fData), x, y, .val (.int .i64 c.fStore.fSynced), z, .val (.int .i64 c.fPeers.fTurn), .val (.int .i64 c.fNow)]
attribute [push_cast] pLx
set_option maxHeartbeats 4000000 in
theorem sL24Feed_bad (c : GLight) (peer : Int) (b : GBlock) (ok : lightOk c = true) (hA : c.fState ≠ 1 ∨ peerIdx c.fPeers.fPeers peer < 0 ∨ hasI (bans c.fPeers.fPeers c.fNow) peer = true) : PCalls Tryz.prog 140 [.agg (pLiO c), .val (.int .i64 peer), .agg (pBlock b)] (bLi c) (RH (.tup [.agg (pLiO c), .val (.int .i64 1)]) (bLi c)) := by
  have f := lightOk_iff.1 ok
  have f3 := (tableOk_iff.1 f.p).2.1
  have tok := f.p
  obtain ⟨g1, g2⟩ := idx_ge (fun p : GPeer => decide (p.fId = peer)) c.fPeers.fPeers
  by_cases q : c.fState = 1
  case neg =>
    clear hA f
    obtain ⟨tr, st, ⟨hh, nx⟩, ⟨hs, sy⟩, ⟨ps, tu⟩, now⟩ := c
    obtain ⟨h, vs, bn, ⟨ch, cr, ci, cs⟩⟩ := b
    dsimp only at *
    refine pcalls_ofR okP Tryz.func140 rfl ?_
    simp only [Tryz.f140, List.length_cons, List.length_nil, Nat.reduceAdd, Nat.reduceSub, List.replicate_succ, List.replicate_zero, List.cons_append, List.nil_append, List.length_map]
    repeat' (first | with_reducible (first | refine wA ?_ | refine wB ?_ | refine wC ?_) | with_reducible refine PWp.draw (id := 2) okP true [0, 1, 2, 3, 4, 5, 6, 7, 8, 9, 10, 11, 12, 13, 14, 15, 16, 17, 18] (by kernel_rfl) ?_ | with_reducible (first | refine w1 ?_ | refine w2 ?_ | refine w3 ?_ | refine w4 ?_ | refine w5 ?_ | refine w6 ?_ | refine w7 ?_ | refine w8 ?_ | refine wT ?_ | refine w9 ?_ | refine wE ?_ | refine wS ?_) | ((with_reducible refine hK _ ?_); clear hK K) | ((with_reducible refine PWp.condI ?_); refine ⟨_, rfl, fun hg => ?_, fun hg => ?_⟩ <;> first | (exact absurd hg (by decide)) | ((try simp only [Bool.not_true, Bool.not_false] at hg); (try simp only [hg]); (try simp only [push_cast] at hg); (try exact absurd trivial hg); (try (exfalso; omega)))) | ((first | ((with_reducible refine pops_guard0 ?_); refine ⟨_, rfl, fun K hK => ⟨rfl, ?_⟩⟩) | ((with_reducible refine pD_g0 ?_); refine ⟨_, rfl, rfl, ?_⟩)); (try simp (disch := omega) only [push_cast, seval])) | ((with_reducible refine pany_I ?_); refine ⟨_, rfl, fun K hK => ?_⟩) | ((with_reducible refine pops_plain fun K hK => popO_row ?_); refine ⟨_, _, _, _, _, rfl, rfl, rfl, rfl, rfl, ?_⟩; simp (disch := omega) only [push_cast, seval]) | ((with_reducible refine pD_x ?_ (popO_row ?_)); exact rfl; refine ⟨_, _, _, _, _, rfl, rfl, rfl, rfl, rfl, ?_⟩; simp (disch := omega) only [push_cast, seval]) | ((with_reducible refine pops_plain fun K hK => ?_); simp (disch := omega) only [push_cast, seval]) | ((first | ((with_reducible refine pD_y ?_ ?_); exact rfl) | ((with_reducible refine pD_x ?_ ?_); exact rfl)); simp (disch := omega) only [push_cast, seval]) | ((first | ((with_reducible refine pops_guard ?_); refine ⟨_, rfl, fun K hK => ⟨_, rfl, fun hg => ?_, fun hg => ?_⟩⟩) | ((first | ((with_reducible refine pD_gy ?_ ?_); exact rfl) | ((with_reducible refine pD_gx ?_ ?_); exact rfl)); refine ⟨_, rfl, _, rfl, fun hg => ?_, fun hg => ?_⟩)) <;> first | (exact absurd hg (by decide)) | ((try simp only [Bool.not_true, Bool.not_false] at hg); (try simp only [hg]); (try simp only [push_cast] at hg); (try exact absurd trivial hg); (try (exfalso; omega)); (try simp (disch := omega) only [push_cast, seval]))) | ((with_reducible show pcall _ _ _ _ _ _); (first | (refine pcV (cf Tryz.func170) (sL19At_p ⟨_, _⟩ _ sd) ?_) | (refine pcF (cf Tryz.func218) (sVerify_p ⟨_, _⟩ ⟨⟨_, _, _, _, _, _⟩, _⟩ ⟨_, _, _, _, _, _⟩ _ ⟨_, _, _, _⟩ _ sd sd sd) ?_) | (refine pcF (cf Tryz.func219) (sPeerGood_p ⟨_, _⟩ _ sd) ?_) | (refine pcF (cf Tryz.func220) (sPeerLie_p ⟨_, _⟩ _ _ sd) ?_)); (try simp (disch := omega) only [push_cast, seval])) | ((with_reducible refine And.intro ?_ ?_); omega))
    all_goals ((with_reducible show PPostR _ _ _ _ _ _); exact finH [0, 1, 2])
  by_cases r : peerIdx c.fPeers.fPeers peer < 0
  · clear hA f
    obtain ⟨tr, st, ⟨hh, nx⟩, ⟨hs, sy⟩, ⟨ps, tu⟩, now⟩ := c
    obtain ⟨h, vs, bn, ⟨ch, cr, ci, cs⟩⟩ := b
    dsimp only at *
    refine pcalls_ofR okP Tryz.func140 rfl ?_
    simp only [Tryz.f140, List.length_cons, List.length_nil, Nat.reduceAdd, Nat.reduceSub, List.replicate_succ, List.replicate_zero, List.cons_append, List.nil_append, List.length_map]
    repeat' (first | with_reducible (first | refine wA ?_ | refine wB ?_ | refine wC ?_) | with_reducible refine PWp.draw (id := 2) okP true [0, 1, 2, 3, 4, 5, 6, 7, 8, 9, 10, 11, 12, 13, 14, 15, 16, 17, 18] (by kernel_rfl) ?_ | with_reducible (first | refine w1 ?_ | refine w2 ?_ | refine w3 ?_ | refine w4 ?_ | refine w5 ?_ | refine w6 ?_ | refine w7 ?_ | refine w8 ?_ | refine wT ?_ | refine w9 ?_ | refine wE ?_ | refine wS ?_) | ((with_reducible refine hK _ ?_); clear hK K) | ((with_reducible refine PWp.condI ?_); refine ⟨_, rfl, fun hg => ?_, fun hg => ?_⟩ <;> first | (exact absurd hg (by decide)) | ((try simp only [Bool.not_true, Bool.not_false] at hg); (try simp only [hg]); (try simp only [push_cast] at hg); (try exact absurd trivial hg); (try (exfalso; omega)))) | ((first | ((with_reducible refine pops_guard0 ?_); refine ⟨_, rfl, fun K hK => ⟨rfl, ?_⟩⟩) | ((with_reducible refine pD_g0 ?_); refine ⟨_, rfl, rfl, ?_⟩)); (try simp (disch := omega) only [push_cast, seval])) | ((with_reducible refine pany_I ?_); refine ⟨_, rfl, fun K hK => ?_⟩) | ((with_reducible refine pops_plain fun K hK => popO_row ?_); refine ⟨_, _, _, _, _, rfl, rfl, rfl, rfl, rfl, ?_⟩; simp (disch := omega) only [push_cast, seval]) | ((with_reducible refine pD_x ?_ (popO_row ?_)); exact rfl; refine ⟨_, _, _, _, _, rfl, rfl, rfl, rfl, rfl, ?_⟩; simp (disch := omega) only [push_cast, seval]) | ((with_reducible refine pops_plain fun K hK => ?_); simp (disch := omega) only [push_cast, seval]) | ((first | ((with_reducible refine pD_y ?_ ?_); exact rfl) | ((with_reducible refine pD_x ?_ ?_); exact rfl)); simp (disch := omega) only [push_cast, seval]) | ((first | ((with_reducible refine pops_guard ?_); refine ⟨_, rfl, fun K hK => ⟨_, rfl, fun hg => ?_, fun hg => ?_⟩⟩) | ((first | ((with_reducible refine pD_gy ?_ ?_); exact rfl) | ((with_reducible refine pD_gx ?_ ?_); exact rfl)); refine ⟨_, rfl, _, rfl, fun hg => ?_, fun hg => ?_⟩)) <;> first | (exact absurd hg (by decide)) | ((try simp only [Bool.not_true, Bool.not_false] at hg); (try simp only [hg]); (try simp only [push_cast] at hg); (try exact absurd trivial hg); (try (exfalso; omega)); (try simp (disch := omega) only [push_cast, seval]))) | ((with_reducible show pcall _ _ _ _ _ _); (first | (refine pcV (cf Tryz.func170) (sL19At_p ⟨_, _⟩ _ sd) ?_) | (refine pcF (cf Tryz.func218) (sVerify_p ⟨_, _⟩ ⟨⟨_, _, _, _, _, _⟩, _⟩ ⟨_, _, _, _, _, _⟩ _ ⟨_, _, _, _⟩ _ sd sd sd) ?_) | (refine pcF (cf Tryz.func219) (sPeerGood_p ⟨_, _⟩ _ sd) ?_) | (refine pcF (cf Tryz.func220) (sPeerLie_p ⟨_, _⟩ _ _ sd) ?_)); (try simp (disch := omega) only [push_cast, seval])) | ((with_reducible refine And.intro ?_ ?_); omega))
    all_goals ((with_reducible show PPostR _ _ _ _ _ _); exact finH [0, 1, 2])
  have hb : hasI (bans c.fPeers.fPeers c.fNow) peer = true := by
    rcases hA with h | h | h
    · exact absurd q h
    · exact absurd h r
    · exact h
  obtain ⟨k, hk⟩ : ∃ k : Nat, peerIdx c.fPeers.fPeers peer = k := ⟨(peerIdx c.fPeers.fPeers peer).toNat, by omega⟩
  have hkl : k < c.fPeers.fPeers.length := by unfold peerIdx at hk; omega
  obtain ⟨x, hx⟩ : ∃ x, c.fPeers.fPeers[k]? = some x := ⟨_, List.getElem?_eq_getElem hkl⟩
  have hu := bans_has (now := c.fNow) tok (id := peer) (p := x) (by omega) (by rw [hk, Int.toNat_natCast]; exact hx)
  rw [hb] at hu
  have hu' : c.fNow < x.fUntil := by simpa using hu.symm
  clear hA f hu hb
  obtain ⟨tr, st, ⟨hh, nx⟩, ⟨hs, sy⟩, ⟨ps, tu⟩, now⟩ := c
  obtain ⟨h, vs, bn, ⟨ch, cr, ci, cs⟩⟩ := b
  dsimp only at *
  refine pcalls_ofR okP Tryz.func140 rfl ?_
  simp only [Tryz.f140, List.length_cons, List.length_nil, Nat.reduceAdd, Nat.reduceSub, List.replicate_succ, List.replicate_zero, List.cons_append, List.nil_append, List.length_map]
  repeat' (first | with_reducible (first | refine wA ?_ | refine wB ?_ | refine wC ?_) | with_reducible refine PWp.draw (id := 2) okP true [0, 1, 2, 3, 4, 5, 6, 7, 8, 9, 10, 11, 12, 13, 14, 15, 16, 17, 18] (by kernel_rfl) ?_ | with_reducible (first | refine w1 ?_ | refine w2 ?_ | refine w3 ?_ | refine w4 ?_ | refine w5 ?_ | refine w6 ?_ | refine w7 ?_ | refine w8 ?_ | refine wT ?_ | refine w9 ?_ | refine wE ?_ | refine wS ?_) | ((with_reducible refine hK _ ?_); clear hK K) | ((with_reducible refine PWp.condI ?_); refine ⟨_, rfl, fun hg => ?_, fun hg => ?_⟩ <;> first | (exact absurd hg (by decide)) | ((try simp only [Bool.not_true, Bool.not_false] at hg); (try simp only [hg]); (try simp only [push_cast] at hg); (try exact absurd trivial hg); (try (exfalso; omega)))) | ((first | ((with_reducible refine pops_guard0 ?_); refine ⟨_, rfl, fun K hK => ⟨rfl, ?_⟩⟩) | ((with_reducible refine pD_g0 ?_); refine ⟨_, rfl, rfl, ?_⟩)); (try simp (disch := omega) only [push_cast, seval, hk, hx])) | ((with_reducible refine pany_I ?_); refine ⟨_, rfl, fun K hK => ?_⟩) | ((with_reducible refine pops_plain fun K hK => popO_row ?_); refine ⟨_, _, _, _, _, rfl, rfl, rfl, rfl, rfl, ?_⟩; simp (disch := omega) only [push_cast, seval, hk, hx]) | ((with_reducible refine pD_x ?_ (popO_row ?_)); exact rfl; refine ⟨_, _, _, _, _, rfl, rfl, rfl, rfl, rfl, ?_⟩; simp (disch := omega) only [push_cast, seval, hk, hx]) | ((with_reducible refine pops_plain fun K hK => ?_); simp (disch := omega) only [push_cast, seval, hk, hx]) | ((first | ((with_reducible refine pD_y ?_ ?_); exact rfl) | ((with_reducible refine pD_x ?_ ?_); exact rfl)); simp (disch := omega) only [push_cast, seval, hk, hx]) | ((first | ((with_reducible refine pops_guard ?_); refine ⟨_, rfl, fun K hK => ⟨_, rfl, fun hg => ?_, fun hg => ?_⟩⟩) | ((first | ((with_reducible refine pD_gy ?_ ?_); exact rfl) | ((with_reducible refine pD_gx ?_ ?_); exact rfl)); refine ⟨_, rfl, _, rfl, fun hg => ?_, fun hg => ?_⟩)) <;> first | (exact absurd hg (by decide)) | ((try simp only [Bool.not_true, Bool.not_false] at hg); (try simp only [hg]); (try simp only [push_cast] at hg); (try exact absurd trivial hg); (try (exfalso; omega)); (try simp (disch := omega) only [push_cast, seval, hk, hx]))) | ((with_reducible show pcall _ _ _ _ _ _); (first | (refine pcV (cf Tryz.func170) (sL19At_p ⟨_, _⟩ _ sd) ?_) | (refine pcF (cf Tryz.func218) (sVerify_p ⟨_, _⟩ ⟨⟨_, _, _, _, _, _⟩, _⟩ ⟨_, _, _, _, _, _⟩ _ ⟨_, _, _, _⟩ _ sd sd sd) ?_) | (refine pcF (cf Tryz.func219) (sPeerGood_p ⟨_, _⟩ _ sd) ?_) | (refine pcF (cf Tryz.func220) (sPeerLie_p ⟨_, _⟩ _ _ sd) ?_)); (try simp (disch := omega) only [push_cast, seval, hk, hx])) | ((with_reducible refine And.intro ?_ ?_); omega))
  all_goals ((with_reducible show PPostR _ _ _ _ _ _); exact finH [0, 1, 2])
structure FeedGo (c : GLight) (peer : Int) (k : Nat) (x : GPeer) : Prop where
  hk : peerIdx c.fPeers.fPeers peer = (k : Int)
  hx : c.fPeers.fPeers[k]? = some x
  hu : x.fUntil ≤ c.fNow
  hl : c.fPeers.fPeers.length ≤ 6
theorem feed_facts {c : GLight} (ok : lightOk c = true) {peer : Int} (hP : ¬ peerIdx c.fPeers.fPeers peer < 0) (hb : hasI (bans c.fPeers.fPeers c.fNow) peer = false) : ∃ k x, FeedGo c peer k x := by
  have f := lightOk_iff.1 ok
  obtain ⟨g1, g2⟩ := idx_ge (fun p : GPeer => decide (p.fId = peer)) c.fPeers.fPeers
  obtain ⟨k, hk⟩ : ∃ k : Nat, peerIdx c.fPeers.fPeers peer = k := ⟨(peerIdx c.fPeers.fPeers peer).toNat, by omega⟩
  have hkl : k < c.fPeers.fPeers.length := by unfold peerIdx at hk; omega
  obtain ⟨x, hx⟩ : ∃ x, c.fPeers.fPeers[k]? = some x := ⟨_, List.getElem?_eq_getElem hkl⟩
  have hu := bans_has (now := c.fNow) f.p (id := peer) (p := x) (by omega) (by rw [hk, Int.toNat_natCast]; exact hx)
  rw [hb] at hu
  have hu' : ¬ c.fNow < x.fUntil := by simpa using hu.symm
  exact ⟨k, x, hk, hx, by omega, (tableOk_iff.1 f.p).2.1⟩
set_option maxHeartbeats 4000000 in
theorem sL24Feed_code (c : GLight) (peer : Int) (b : GBlock) (hS : c.fState = 1) (h7 : c.fAnchor.fNext.length ≤ 2000000) (hb : SmB b) {k : Nat} {x : GPeer} (go : FeedGo c peer k x) {r : Int} (hv : verified c.fTrust c.fAnchor b.fHead b.fNext b.fCommit c.fNow = r) (h0 : r ≠ 0) (h5 : ¬ 5 ≤ r) : PCalls Tryz.prog 140 [.agg (pLiO c), .val (.int .i64 peer), .agg (pBlock b)] (bLi c) (RH (.tup [.agg (pLiO c), .val (.int .i64 r)]) (bLi c)) := by
  obtain ⟨b1, b2, b3⟩ := hb
  obtain ⟨hk, hx, hu, hl⟩ := go
  have hkl : k < c.fPeers.fPeers.length := (List.getElem?_eq_some_iff.1 hx).1
  have hve : verify c.fTrust c.fAnchor b.fHead b.fNext b.fCommit c.fNow = (c.fAnchor, r) := by unfold verify; rw [hv, if_neg h0]
  have ve := sVerify_p c.fTrust c.fAnchor b.fHead b.fNext b.fCommit c.fNow (by omega) b2 b3
  rw [hve] at ve
  clear hve hv
  obtain ⟨tr, st, ⟨hh, nx⟩, ⟨hs, sy⟩, ⟨ps, tu⟩, now⟩ := c
  obtain ⟨h, vs, bn, ⟨ch, cr, ci, cs⟩⟩ := b
  dsimp only at *
  refine pcalls_ofR okP Tryz.func140 rfl ?_
  simp only [Tryz.f140, List.length_cons, List.length_nil, Nat.reduceAdd, Nat.reduceSub, List.replicate_succ, List.replicate_zero, List.cons_append, List.nil_append, List.length_map]
  repeat' (first | with_reducible (first | refine wA ?_ | refine wB ?_ | refine wC ?_) | with_reducible refine PWp.draw (id := 2) okP true [0, 1, 2, 3, 4, 5, 6, 7, 8, 9, 10, 11, 12, 13, 14, 15, 16, 17, 18] (by kernel_rfl) ?_ | with_reducible (first | refine w1 ?_ | refine w2 ?_ | refine w3 ?_ | refine w4 ?_ | refine w5 ?_ | refine w6 ?_ | refine w7 ?_ | refine w8 ?_ | refine wT ?_ | refine w9 ?_ | refine wE ?_ | refine wS ?_) | ((with_reducible refine hK _ ?_); clear hK K) | ((with_reducible refine PWp.condI ?_); refine ⟨_, rfl, fun hg => ?_, fun hg => ?_⟩ <;> first | (exact absurd hg (by decide)) | ((try simp only [Bool.not_true, Bool.not_false] at hg); (try simp only [hg]); (try simp only [push_cast] at hg); (try exact absurd trivial hg); (try (exfalso; omega)))) | ((first | ((with_reducible refine pops_guard0 ?_); refine ⟨_, rfl, fun K hK => ⟨rfl, ?_⟩⟩) | ((with_reducible refine pD_g0 ?_); refine ⟨_, rfl, rfl, ?_⟩)); (try simp (disch := omega) only [push_cast, seval, hk, hx])) | ((with_reducible refine pany_I ?_); refine ⟨_, rfl, fun K hK => ?_⟩) | ((with_reducible refine pops_plain fun K hK => popO_row ?_); refine ⟨_, _, _, _, _, rfl, rfl, rfl, rfl, rfl, ?_⟩; simp (disch := omega) only [push_cast, seval, hk, hx]) | ((with_reducible refine pD_x ?_ (popO_row ?_)); exact rfl; refine ⟨_, _, _, _, _, rfl, rfl, rfl, rfl, rfl, ?_⟩; simp (disch := omega) only [push_cast, seval, hk, hx]) | ((with_reducible refine pops_plain fun K hK => ?_); simp (disch := omega) only [push_cast, seval, hk, hx]) | ((first | ((with_reducible refine pD_y ?_ ?_); exact rfl) | ((with_reducible refine pD_x ?_ ?_); exact rfl)); simp (disch := omega) only [push_cast, seval, hk, hx]) | ((first | ((with_reducible refine pops_guard ?_); refine ⟨_, rfl, fun K hK => ⟨_, rfl, fun hg => ?_, fun hg => ?_⟩⟩) | ((first | ((with_reducible refine pD_gy ?_ ?_); exact rfl) | ((with_reducible refine pD_gx ?_ ?_); exact rfl)); refine ⟨_, rfl, _, rfl, fun hg => ?_, fun hg => ?_⟩)) <;> first | (exact absurd hg (by decide)) | ((try simp only [Bool.not_true, Bool.not_false] at hg); (try simp only [hg]); (try simp only [push_cast] at hg); (try exact absurd trivial hg); (try (exfalso; omega)); (try simp (disch := omega) only [push_cast, seval, hk, hx]))) | ((with_reducible show pcall _ _ _ _ _ _); (first | (refine pcV (cf Tryz.func170) (sL19At_p ⟨_, _⟩ _ sd) ?_) | (refine pcH (cf Tryz.func218) (ve) ?_) | (refine pcF (cf Tryz.func219) (sPeerGood_p ⟨_, _⟩ _ sd) ?_) | (refine pcF (cf Tryz.func220) (sPeerLie_p ⟨_, _⟩ _ _ sd) ?_)); (try simp (disch := omega) only [push_cast, seval, hk, hx])) | ((with_reducible refine And.intro ?_ ?_); omega))
  all_goals ((with_reducible show PPostR _ _ _ _ _ _); exact finH [0, 1, 2])
set_option maxHeartbeats 4000000 in
theorem sL24Feed_lie (c : GLight) (peer : Int) (b : GBlock) (hS : c.fState = 1) (h7 : c.fAnchor.fNext.length ≤ 2000000) (tok : tableOk c.fPeers = true) (hb : SmB b) {k : Nat} {x : GPeer} (go : FeedGo c peer k x) {r : Int} (hv : verified c.fTrust c.fAnchor b.fHead b.fNext b.fCommit c.fNow = r) (h0 : r ≠ 0) (h5 : 5 ≤ r) : PCalls Tryz.prog 140 [.agg (pLiO c), .val (.int .i64 peer), .agg (pBlock b)] (bLi c) (RH (.tup [.agg (pLx { c with fPeers := (peerLie c.fPeers peer c.fNow).1 } (.own 0) (.own 1) (.own 3)), .val (.int .i64 r)]) [some (.row 141 2 (c.fAnchor.fNext.map pVal)), some (.row 30 6 (c.fStore.fHeads.map pHeader)), none, some (.row 211 4 ((peerLie c.fPeers peer c.fNow).1.fPeers.map pPeer))]) := by
  obtain ⟨b1, b2, b3⟩ := hb
  obtain ⟨hk, hx, hu, hl⟩ := go
  have hkl : k < c.fPeers.fPeers.length := (List.getElem?_eq_some_iff.1 hx).1
  have hve : verify c.fTrust c.fAnchor b.fHead b.fNext b.fCommit c.fNow = (c.fAnchor, r) := by unfold verify; rw [hv, if_neg h0]
  have ve := sVerify_p c.fTrust c.fAnchor b.fHead b.fNext b.fCommit c.fNow (by omega) b2 b3
  rw [hve] at ve
  have pl := sPeerLie_p c.fPeers peer c.fNow tok
  generalize peerLie c.fPeers peer c.fNow = q at pl ⊢
  obtain ⟨⟨ps', tu'⟩, pb⟩ := q
  clear hve hv tok
  obtain ⟨tr, st, ⟨hh, nx⟩, ⟨hs, sy⟩, ⟨ps, tu⟩, now⟩ := c
  obtain ⟨h, vs, bn, ⟨ch, cr, ci, cs⟩⟩ := b
  dsimp only at *
  refine pcalls_ofR okP Tryz.func140 rfl ?_
  simp only [Tryz.f140, List.length_cons, List.length_nil, Nat.reduceAdd, Nat.reduceSub, List.replicate_succ, List.replicate_zero, List.cons_append, List.nil_append, List.length_map]
  repeat' (first | with_reducible (first | refine wA ?_ | refine wB ?_ | refine wC ?_) | with_reducible refine PWp.draw (id := 2) okP true [0, 1, 2, 3, 4, 5, 6, 7, 8, 9, 10, 11, 12, 13, 14, 15, 16, 17, 18] (by kernel_rfl) ?_ | with_reducible (first | refine w1 ?_ | refine w2 ?_ | refine w3 ?_ | refine w4 ?_ | refine w5 ?_ | refine w6 ?_ | refine w7 ?_ | refine w8 ?_ | refine wT ?_ | refine w9 ?_ | refine wE ?_ | refine wS ?_) | ((with_reducible refine hK _ ?_); clear hK K) | ((with_reducible refine PWp.condI ?_); refine ⟨_, rfl, fun hg => ?_, fun hg => ?_⟩ <;> first | (exact absurd hg (by decide)) | ((try simp only [Bool.not_true, Bool.not_false] at hg); (try simp only [hg]); (try simp only [push_cast] at hg); (try exact absurd trivial hg); (try (exfalso; omega)))) | ((first | ((with_reducible refine pops_guard0 ?_); refine ⟨_, rfl, fun K hK => ⟨rfl, ?_⟩⟩) | ((with_reducible refine pD_g0 ?_); refine ⟨_, rfl, rfl, ?_⟩)); (try simp (disch := omega) only [push_cast, seval, hk, hx])) | ((with_reducible refine pany_I ?_); refine ⟨_, rfl, fun K hK => ?_⟩) | ((with_reducible refine pops_plain fun K hK => popO_row ?_); refine ⟨_, _, _, _, _, rfl, rfl, rfl, rfl, rfl, ?_⟩; simp (disch := omega) only [push_cast, seval, hk, hx]) | ((with_reducible refine pD_x ?_ (popO_row ?_)); exact rfl; refine ⟨_, _, _, _, _, rfl, rfl, rfl, rfl, rfl, ?_⟩; simp (disch := omega) only [push_cast, seval, hk, hx]) | ((with_reducible refine pops_plain fun K hK => ?_); simp (disch := omega) only [push_cast, seval, hk, hx]) | ((first | ((with_reducible refine pD_y ?_ ?_); exact rfl) | ((with_reducible refine pD_x ?_ ?_); exact rfl)); simp (disch := omega) only [push_cast, seval, hk, hx]) | ((first | ((with_reducible refine pops_guard ?_); refine ⟨_, rfl, fun K hK => ⟨_, rfl, fun hg => ?_, fun hg => ?_⟩⟩) | ((first | ((with_reducible refine pD_gy ?_ ?_); exact rfl) | ((with_reducible refine pD_gx ?_ ?_); exact rfl)); refine ⟨_, rfl, _, rfl, fun hg => ?_, fun hg => ?_⟩)) <;> first | (exact absurd hg (by decide)) | ((try simp only [Bool.not_true, Bool.not_false] at hg); (try simp only [hg]); (try simp only [push_cast] at hg); (try exact absurd trivial hg); (try (exfalso; omega)); (try simp (disch := omega) only [push_cast, seval, hk, hx]))) | ((with_reducible show pcall _ _ _ _ _ _); (first | (refine pcV (cf Tryz.func170) (sL19At_p ⟨_, _⟩ _ sd) ?_) | (refine pcH (cf Tryz.func218) (ve) ?_) | (refine pcF (cf Tryz.func219) (sPeerGood_p ⟨_, _⟩ _ sd) ?_) | (refine pcH (cf Tryz.func220) (pl) ?_)); (try simp (disch := omega) only [push_cast, seval, hk, hx])) | ((with_reducible refine And.intro ?_ ?_); omega))
  all_goals ((with_reducible show PPostR _ _ _ _ _ _); exact finH [0, 1, 2, _])
theorem thawV (b sz : Nat) (es : List (List PV)) (l : List GVal) : (l.map pVal).map (fun row => row.map (thaw1 b sz es)) = l.map pVal := by
  rw [List.map_map]
  exact congrArg (fun f => List.map f l) (funext fun x => rfl)
theorem thawP (b sz : Nat) (es : List (List PV)) (l : List GPeer) : (l.map pPeer).map (fun row => row.map (thaw1 b sz es)) = l.map pPeer := by
  rw [List.map_map]
  exact congrArg (fun f => List.map f l) (funext fun x => rfl)
set_option maxHeartbeats 4000000 in
theorem sL24Feed_ok (c : GLight) (peer : Int) (b : GBlock) (hS : c.fState = 1) (h7 : c.fAnchor.fNext.length ≤ 2000000) (tok : tableOk c.fPeers = true) (h20 : c.fStore.fHeads.length ≤ 20) (hb : SmB b) {k : Nat} {x : GPeer} (go : FeedGo c peer k x) (hv : verified c.fTrust c.fAnchor b.fHead b.fNext b.fCommit c.fNow = 0) : PCalls Tryz.prog 140 [.agg (pLiO c), .val (.int .i64 peer), .agg (pBlock b)] (bLi c) (RH (.tup [.agg (pLx ⟨c.fTrust, c.fState, ⟨b.fHead, b.fNext⟩, storePut c.fStore b.fHead, (peerGood c.fPeers peer).1, c.fNow⟩ (.own 3) (.own 4) (.own 5)), .val (.int .i64 0)]) [none, none, none, some (.row 141 2 (b.fNext.map pVal)), some (.row 30 6 ((storePut c.fStore b.fHead).fHeads.map pHeader)), some (.row 211 4 ((peerGood c.fPeers peer).1.fPeers.map pPeer))]) := by
  obtain ⟨b1, b2, b3⟩ := hb
  obtain ⟨hk, hx, hu, hl⟩ := go
  have hkl : k < c.fPeers.fPeers.length := (List.getElem?_eq_some_iff.1 hx).1
  have hve : verify c.fTrust c.fAnchor b.fHead b.fNext b.fCommit c.fNow = (⟨b.fHead, b.fNext⟩, 0) := by unfold verify; rw [hv, if_pos rfl]
  have ve := sVerify_p c.fTrust c.fAnchor b.fHead b.fNext b.fCommit c.fNow (by omega) b2 b3
  rw [hve] at ve
  have pg := sPeerGood_p c.fPeers peer tok
  generalize peerGood c.fPeers peer = q at pg ⊢
  obtain ⟨⟨ps', tu'⟩, pb⟩ := q
  clear hve hv tok
  by_cases h2 : c.fStore.fHeads.length = 20
  · have e2 : storePut c.fStore b.fHead = ⟨c.fStore.fHeads.drop 10 ++ [b.fHead], 11⟩ := by unfold storePut; rw [if_pos h2]; simp [h2]
    rw [e2]
    obtain ⟨tr, st, ⟨hh, nx⟩, ⟨hs, sy⟩, ⟨ps, tu⟩, now⟩ := c
    obtain ⟨h, vs, bn, ⟨ch, cr, ci, cs⟩⟩ := b
    dsimp only at *
    have htk : List.take 10 (List.drop 10 (hs.map pHeader)) = (hs.drop 10).map pHeader := by rw [List.take_of_length_le (by simp; omega), List.map_drop]
    refine pcalls_ofR okP Tryz.func140 rfl ?_
    simp only [Tryz.f140, List.length_cons, List.length_nil, Nat.reduceAdd, Nat.reduceSub, List.replicate_succ, List.replicate_zero, List.cons_append, List.nil_append, List.length_map]
    repeat' (first | with_reducible refine PWp.seq ?_ | with_reducible refine PWp.block ?_ | with_reducible refine PWp.region okP false ?_ | with_reducible refine PWp.draw (id := 2) okP false [0, 1, 2, 3, 4, 5, 6, 7, 8, 9, 10, 11, 12, 13, 14, 15, 16, 17, 18] (by kernel_rfl) ?_ | with_reducible (first | refine w1 ?_ | refine w2 ?_ | refine w3 ?_ | refine w4 ?_ | refine w5 ?_ | refine w6 ?_ | refine w7 ?_ | refine w8 ?_ | refine wT ?_ | refine w9 ?_ | refine wE ?_ | refine wS ?_) | ((with_reducible refine hK _ ?_); clear hK K) | ((with_reducible refine PWp.condI ?_); refine ⟨_, rfl, fun hg => ?_, fun hg => ?_⟩ <;> first | (exact absurd hg (by decide)) | ((try simp only [Bool.not_true, Bool.not_false] at hg); (try simp only [hg]); (try simp only [push_cast] at hg); (try exact absurd trivial hg); (try (exfalso; omega)))) | ((first | ((with_reducible refine pops_guard0 ?_); refine ⟨_, rfl, fun K hK => ⟨rfl, ?_⟩⟩) | ((with_reducible refine pD_g0 ?_); refine ⟨_, rfl, rfl, ?_⟩)); (try simp (disch := omega) only [push_cast, seval, hk, hx, h2, htk, List.length_drop, thawV, thawP])) | ((with_reducible refine pany_I ?_); refine ⟨_, rfl, fun K hK => ?_⟩) | ((with_reducible refine pops_plain fun K hK => popO_row ?_); refine ⟨_, _, _, _, _, rfl, rfl, rfl, rfl, rfl, ?_⟩; simp (disch := omega) only [push_cast, seval, hk, hx, h2, htk, List.length_drop, thawV, thawP]) | ((with_reducible refine pD_x ?_ (popO_row ?_)); exact rfl; refine ⟨_, _, _, _, _, rfl, rfl, rfl, rfl, rfl, ?_⟩; simp (disch := omega) only [push_cast, seval, hk, hx, h2, htk, List.length_drop, thawV, thawP]) | ((with_reducible refine pops_plain fun K hK => ?_); simp (disch := omega) only [push_cast, seval, hk, hx, h2, htk, List.length_drop, thawV, thawP]) | ((first | ((with_reducible refine pD_y ?_ ?_); exact rfl) | ((with_reducible refine pD_x ?_ ?_); exact rfl)); simp (disch := omega) only [push_cast, seval, hk, hx, h2, htk, List.length_drop, thawV, thawP]) | ((first | ((with_reducible refine pops_guard ?_); refine ⟨_, rfl, fun K hK => ⟨_, rfl, fun hg => ?_, fun hg => ?_⟩⟩) | ((first | ((with_reducible refine pD_gy ?_ ?_); exact rfl) | ((with_reducible refine pD_gx ?_ ?_); exact rfl)); refine ⟨_, rfl, _, rfl, fun hg => ?_, fun hg => ?_⟩)) <;> first | (exact absurd hg (by decide)) | ((try simp only [Bool.not_true, Bool.not_false] at hg); (try simp only [hg]); (try simp only [push_cast] at hg); (try exact absurd trivial hg); (try (exfalso; omega)); (try simp (disch := omega) only [push_cast, seval, hk, hx, h2, htk, List.length_drop, thawV, thawP]))) | ((with_reducible show pcall _ _ _ _ _ _); (first | (refine pcV (cf Tryz.func170) (sL19At_p ⟨_, _⟩ _ sd) ?_) | (refine pcH (cf Tryz.func218) (ve) ?_) | (refine pcH (cf Tryz.func219) (pg) ?_) | (refine pcF (cf Tryz.func220) (sPeerLie_p ⟨_, _⟩ _ _ sd) ?_)); (try simp (disch := omega) only [push_cast, seval, hk, hx, h2, htk, List.length_drop, thawV, thawP])) | ((with_reducible refine And.intro ?_ ?_); omega))
    all_goals ((with_reducible show PPostR _ _ _ _ _ _); exact finH [0, 1, 2, _, _, _])
  · have e2 : storePut c.fStore b.fHead = ⟨c.fStore.fHeads ++ [b.fHead], (c.fStore.fHeads.length : Int) + 1⟩ := by unfold storePut; rw [if_neg h2]; simp
    rw [e2]
    obtain ⟨tr, st, ⟨hh, nx⟩, ⟨hs, sy⟩, ⟨ps, tu⟩, now⟩ := c
    obtain ⟨h, vs, bn, ⟨ch, cr, ci, cs⟩⟩ := b
    dsimp only at *
    refine pcalls_ofR okP Tryz.func140 rfl ?_
    simp only [Tryz.f140, List.length_cons, List.length_nil, Nat.reduceAdd, Nat.reduceSub, List.replicate_succ, List.replicate_zero, List.cons_append, List.nil_append, List.length_map]
    repeat' (first | with_reducible (first | refine wA ?_ | refine wB ?_ | refine wC ?_) | with_reducible refine PWp.draw (id := 2) okP true [0, 1, 2, 3, 4, 5, 6, 7, 8, 9, 10, 11, 12, 13, 14, 15, 16, 17, 18] (by kernel_rfl) ?_ | with_reducible (first | refine w1 ?_ | refine w2 ?_ | refine w3 ?_ | refine w4 ?_ | refine w5 ?_ | refine w6 ?_ | refine w7 ?_ | refine w8 ?_ | refine wT ?_ | refine w9 ?_ | refine wE ?_ | refine wS ?_) | ((with_reducible refine hK _ ?_); clear hK K) | ((with_reducible refine PWp.condI ?_); refine ⟨_, rfl, fun hg => ?_, fun hg => ?_⟩ <;> first | (exact absurd hg (by decide)) | ((try simp only [Bool.not_true, Bool.not_false] at hg); (try simp only [hg]); (try simp only [push_cast] at hg); (try exact absurd trivial hg); (try (exfalso; omega)))) | ((first | ((with_reducible refine pops_guard0 ?_); refine ⟨_, rfl, fun K hK => ⟨rfl, ?_⟩⟩) | ((with_reducible refine pD_g0 ?_); refine ⟨_, rfl, rfl, ?_⟩)); (try simp (disch := omega) only [push_cast, seval, hk, hx])) | ((with_reducible refine pany_I ?_); refine ⟨_, rfl, fun K hK => ?_⟩) | ((with_reducible refine pops_plain fun K hK => popO_row ?_); refine ⟨_, _, _, _, _, rfl, rfl, rfl, rfl, rfl, ?_⟩; simp (disch := omega) only [push_cast, seval, hk, hx]) | ((with_reducible refine pD_x ?_ (popO_row ?_)); exact rfl; refine ⟨_, _, _, _, _, rfl, rfl, rfl, rfl, rfl, ?_⟩; simp (disch := omega) only [push_cast, seval, hk, hx]) | ((with_reducible refine pops_plain fun K hK => ?_); simp (disch := omega) only [push_cast, seval, hk, hx]) | ((first | ((with_reducible refine pD_y ?_ ?_); exact rfl) | ((with_reducible refine pD_x ?_ ?_); exact rfl)); simp (disch := omega) only [push_cast, seval, hk, hx]) | ((first | ((with_reducible refine pops_guard ?_); refine ⟨_, rfl, fun K hK => ⟨_, rfl, fun hg => ?_, fun hg => ?_⟩⟩) | ((first | ((with_reducible refine pD_gy ?_ ?_); exact rfl) | ((with_reducible refine pD_gx ?_ ?_); exact rfl)); refine ⟨_, rfl, _, rfl, fun hg => ?_, fun hg => ?_⟩)) <;> first | (exact absurd hg (by decide)) | ((try simp only [Bool.not_true, Bool.not_false] at hg); (try simp only [hg]); (try simp only [push_cast] at hg); (try exact absurd trivial hg); (try (exfalso; omega)); (try simp (disch := omega) only [push_cast, seval, hk, hx]))) | ((with_reducible show pcall _ _ _ _ _ _); (first | (refine pcV (cf Tryz.func170) (sL19At_p ⟨_, _⟩ _ sd) ?_) | (refine pcH (cf Tryz.func218) (ve) ?_) | (refine pcH (cf Tryz.func219) (pg) ?_) | (refine pcF (cf Tryz.func220) (sPeerLie_p ⟨_, _⟩ _ _ sd) ?_)); (try simp (disch := omega) only [push_cast, seval, hk, hx])) | ((with_reducible refine And.intro ?_ ?_); omega))
    all_goals ((with_reducible show PPostR _ _ _ _ _ _); exact finH [0, 1, 2, _, _, _])
theorem sL24Feed_cases (c : GLight) (peer : Int) (b : GBlock) (ok : lightOk c = true) (hb : SmB b) :
    PCalls Tryz.prog 140 [.agg (pLiO c), .val (.int .i64 peer), .agg (pBlock b)] (bLi c) (RH (.tup [.agg (pLiO (lightFeed c peer b).1), .val (.int .i64 (lightFeed c peer b).2)]) (bLi (lightFeed c peer b).1)) ∨
    PCalls Tryz.prog 140 [.agg (pLiO c), .val (.int .i64 peer), .agg (pBlock b)] (bLi c) (RH (.tup [.agg (pLx (lightFeed c peer b).1 (.own 0) (.own 1) (.own 3)), .val (.int .i64 (lightFeed c peer b).2)]) [some (.row 141 2 ((lightFeed c peer b).1.fAnchor.fNext.map pVal)), some (.row 30 6 ((lightFeed c peer b).1.fStore.fHeads.map pHeader)), none, some (.row 211 4 ((lightFeed c peer b).1.fPeers.fPeers.map pPeer))]) ∨
    PCalls Tryz.prog 140 [.agg (pLiO c), .val (.int .i64 peer), .agg (pBlock b)] (bLi c) (RH (.tup [.agg (pLx (lightFeed c peer b).1 (.own 3) (.own 4) (.own 5)), .val (.int .i64 (lightFeed c peer b).2)]) [none, none, none, some (.row 141 2 ((lightFeed c peer b).1.fAnchor.fNext.map pVal)), some (.row 30 6 ((lightFeed c peer b).1.fStore.fHeads.map pHeader)), some (.row 211 4 ((lightFeed c peer b).1.fPeers.fPeers.map pPeer))]) := by
  have f := lightOk_iff.1 ok
  have f2 := (storeOk_iff.1 f.s).2.1
  have f5 := (valsOk_iff.1 (anchor_vals f.a).2).2.2.2
  by_cases hA : c.fState ≠ 1 ∨ peerIdx c.fPeers.fPeers peer < 0 ∨ hasI (bans c.fPeers.fPeers c.fNow) peer = true
  · left
    rw [feed_bad hA]
    exact sL24Feed_bad c peer b ok hA
  have h1 : c.fState = 1 := by by_cases q : c.fState = 1; exact q; exact absurd (.inl q) hA
  have h2 : ¬ peerIdx c.fPeers.fPeers peer < 0 := fun q => hA (.inr (.inl q))
  have h3 : hasI (bans c.fPeers.fPeers c.fNow) peer = false := by cases q : hasI (bans c.fPeers.fPeers c.fNow) peer; rfl; exact absurd (.inr (.inr q)) hA
  obtain ⟨k, x, go⟩ := feed_facts ok h2 h3
  rw [feed_go h1 h2 h3]
  by_cases h0 : verified c.fTrust c.fAnchor b.fHead b.fNext b.fCommit c.fNow = 0
  · rw [if_pos h0]
    exact .inr (.inr (sL24Feed_ok c peer b h1 (by omega) f.p f2 hb go h0))
  rw [if_neg h0]
  by_cases h5 : 5 ≤ verified c.fTrust c.fAnchor b.fHead b.fNext b.fCommit c.fNow
  · rw [if_pos h5]
    exact .inr (.inl (sL24Feed_lie c peer b h1 (by omega) f.p hb go rfl h0 h5))
  · rw [if_neg h5]
    exact .inl (sL24Feed_code c peer b h1 (by omega) hb go rfl h0 h5)
set_option maxHeartbeats 2000000 in
theorem sLightFeed_p (c : GLight) (peer : Int) (b : GBlock) (ok : lightOk c = true) (hb : SmB b) : PCalls Tryz.prog 47 [.agg (pLight c), .val (.int .i64 peer), .agg (pBlock b)] [] (RH (.tup [.agg (pLiO (lightFeed c peer b).1), .val (.int .i64 (lightFeed c peer b).2)]) (bLi (lightFeed c peer b).1)) := by
  have f := lightOk_iff.1 ok
  have f2 := (storeOk_iff.1 f.s).2.1
  have f3 := (tableOk_iff.1 f.p).2.1
  have f5 := (valsOk_iff.1 (anchor_vals f.a).2).2.2.2
  have fe := sL24Feed_cases c peer b ok hb
  generalize lightFeed c peer b = r at fe ⊢
  obtain ⟨⟨⟨tp', tl'⟩, st', ⟨⟨g1, g2, g3, g4, g5, g6⟩, nx'⟩, ⟨hs', sy'⟩, ⟨ps', tu'⟩, now'⟩, code⟩ := r
  clear f
  obtain ⟨tr, st, ⟨hh, nx⟩, ⟨hs, sy⟩, ⟨ps, tu⟩, now⟩ := c
  obtain ⟨h, vs, bn, ⟨ch, cr, ci, cs⟩⟩ := b
  dsimp only at *
  rcases fe with fe | fe | fe
  all_goals
    refine pcalls_ofR okP Tryz.func47 rfl ?_
    simp only [Tryz.f47, List.length_cons, List.length_nil, Nat.reduceAdd, Nat.reduceSub, List.replicate_succ, List.replicate_zero, List.cons_append, List.nil_append, List.length_map]
    repeat' (first | with_reducible (first | refine wA ?_ | refine wB ?_ | refine wC ?_) | with_reducible refine PWp.drawCT (id := 3) okP true [4] (.step 0 (.step 2 (.step 3 (.fork (.alt 1 (.fork (.alt 4 (.step 5 (.step 6 (.step 7 (.step 8 (.step 9 (.step 10 .done)))))) (.alt 8 (.step 4 (.step 5 (.step 6 (.step 7 (.step 9 (.step 10 .done)))))) .stop))) (.alt 8 (.step 1 (.step 4 (.step 5 (.step 6 (.step 7 (.step 9 (.step 10 .done))))))) .stop)))))) (by kernel_rfl) ?_ | with_reducible refine PWp.drawT (id := 3) okP true (.step 0 (.step 2 (.step 3 (.fork (.alt 1 (.fork (.alt 4 (.step 5 (.step 6 (.step 7 (.step 8 (.step 9 (.step 10 .done)))))) (.alt 8 (.step 4 (.step 5 (.step 6 (.step 7 (.step 9 (.step 10 .done)))))) .stop))) (.alt 8 (.step 1 (.step 4 (.step 5 (.step 6 (.step 7 (.step 9 (.step 10 .done))))))) .stop)))))) (by kernel_rfl) ?_ | with_reducible (first | refine w1 ?_ | refine w2 ?_ | refine w3 ?_ | refine w4 ?_ | refine w5 ?_ | refine w6 ?_ | refine w7 ?_ | refine w8 ?_ | refine wT ?_ | refine w9 ?_ | refine wE ?_ | refine wS ?_) | ((with_reducible refine hK _ ?_); clear hK K) | ((with_reducible refine PWp.condI ?_); refine ⟨_, rfl, fun hg => ?_, fun hg => ?_⟩ <;> first | (exact absurd hg (by decide)) | ((try simp only [Bool.not_true, Bool.not_false] at hg); (try simp only [hg]); (try simp only [push_cast] at hg); (try exact absurd trivial hg); (try (exfalso; omega)))) | with_reducible (first | refine ptree_done ?_ | exact ptree_stop | refine ptree_fork ?_) | ((with_reducible refine ptree_I ?_); refine ⟨_, rfl, fun K hK => ?_⟩) | ((with_reducible refine ptree_A ?_ ?_); (refine ⟨_, rfl, fun K hK => ?_⟩)) | with_reducible refine panyC_nil ?_ | ((with_reducible refine panyC_I ?_); refine ⟨_, rfl, fun K hK => ?_⟩) | ((with_reducible refine panyC_w ?_ ?_); exact rfl) | ((with_reducible refine panyC_s (cm := true) ?_ ?_ (popO_row ?_)); exact rfl; exact rfl; refine ⟨_, _, _, _, _, rfl, rfl, rfl, rfl, rfl, ?_⟩; simp (disch := omega) only [push_cast, seval, ok]) | ((with_reducible refine panyC_s (cm := true) ?_ ?_ ?_); exact rfl; exact rfl; simp (disch := omega) only [push_cast, seval, ok]) | ((with_reducible refine panyC_s (cm := false) ?_ ?_ (popO_row ?_)); exact rfl; exact rfl; refine ⟨_, _, _, _, _, rfl, rfl, rfl, rfl, rfl, ?_⟩; simp (disch := omega) only [push_cast, seval, ok]) | ((with_reducible refine panyC_s (cm := false) ?_ ?_ ?_); exact rfl; exact rfl; simp (disch := omega) only [push_cast, seval, ok]) | ((with_reducible refine stepC_s (cm := true) ?_ ?_ (popO_row ?_)); exact rfl; exact rfl; refine ⟨_, _, _, _, _, rfl, rfl, rfl, rfl, rfl, ?_⟩; simp (disch := omega) only [push_cast, seval, ok]) | ((with_reducible refine stepC_s (cm := true) ?_ ?_ ?_); exact rfl; exact rfl; simp (disch := omega) only [push_cast, seval, ok]) | ((with_reducible refine stepC_s (cm := false) ?_ ?_ (popO_row ?_)); exact rfl; exact rfl; refine ⟨_, _, _, _, _, rfl, rfl, rfl, rfl, rfl, ?_⟩; simp (disch := omega) only [push_cast, seval, ok]) | ((with_reducible refine stepC_s (cm := false) ?_ ?_ ?_); exact rfl; exact rfl; simp (disch := omega) only [push_cast, seval, ok]) | with_reducible (first | refine ptreeC_done ?_ | exact ptreeC_stop | refine ptreeC_fork ?_) | ((with_reducible refine ptreeC_I ?_); refine ⟨_, rfl, fun K hK => ?_⟩) | ((with_reducible refine ptreeC_A ?_ ?_); (refine ⟨_, rfl, fun K hK => ?_⟩)) | ((with_reducible refine stepC_w ?_ ?_); exact rfl) | ((with_reducible refine pany_I ?_); refine ⟨_, rfl, fun K hK => ?_⟩) | ((with_reducible refine pops_plain fun K hK => popO_build ?_); refine ⟨_, rfl, _, rfl, ?_⟩; simp (disch := omega) only [push_cast, seval, ok]) | ((with_reducible refine pD_y ?_ (py_build ?_)); exact rfl; refine ⟨_, rfl, _, rfl, ?_⟩; simp (disch := omega) only [push_cast, seval, ok]) | ((with_reducible refine pbuild_cs ?_); refine ⟨_, rfl, _, rfl, ?_⟩; simp (disch := omega) only [push_cast, seval, ok]) | ((with_reducible refine pops_plain fun K hK => ?_); simp (disch := omega) only [push_cast, seval, ok]) | ((first | ((with_reducible refine pD_y ?_ ?_); exact rfl) | ((with_reducible refine pD_x ?_ ?_); exact rfl)); simp (disch := omega) only [push_cast, seval, ok]) | ((with_reducible show pcall _ _ _ _ _ _); (first | (refine pcV (cf Tryz.func62) (sLightOk_p ⟨⟨_, _⟩, _, ⟨⟨_, _, _, _, _, _⟩, _⟩, ⟨_, _⟩, ⟨_, _⟩, _⟩ sd sd sd) ?_) | (refine pcall_RGf (cf Tryz.func140) [?_, ?_, ?_] ?_ ?_ ?_ (fe) ?_; rotate_left 3; (· ((try simp (disch := omega) only [push_cast, seval]); (repeat' (first | exact trivial | exact rfl | refine And.intro ?_ ?_ | omega)))); (· (repeat' (first | exact trivial | refine And.intro ?_ ?_ | exact ⟨_, rfl⟩ | (simp (disch := omega) only [push_cast, seval]; done) | exact rfl))); (· exact rfl); rotate_right 1; rotate_left 1; (all_goals (try (first | omega | exact (show _ = _ by assumption))))) | (refine pcF (cf Tryz.func141) (sL24Copy_p ⟨⟨_, _⟩, _, ⟨⟨_, _, _, _, _, _⟩, _⟩, ⟨_, _⟩, ⟨_, _⟩, _⟩ sd sd sd) ?_)); (try simp (disch := omega) only [push_cast, seval, ok])) | ((with_reducible refine And.intro ?_ ?_); omega))
    all_goals ((with_reducible show PPostR _ _ _ _ _ _); exact finH [_, _, _])
set_option maxHeartbeats 2000000 in
theorem iLightFeed_bad (c : GLight) (peer : Int) (b : GBlock) (ok : lightOk c = false) (h1 : c.fAnchor.fNext.length ≤ 2000000) (h2 : c.fStore.fHeads.length ≤ 2000000) (h3 : c.fPeers.fPeers.length ≤ 2000000) : PCalls Tryz.prog 49 [.agg (pLight c), .val (.int .i64 peer), .agg (pBlock b)] [] (RH (.tup [.agg [.val (.int .i64 0), .val (.int .i64 0), .val (.int .i64 0), .val (.int .i64 0), .val (.int .i64 0), .val (.string ⟨#[]⟩), .val (.string ⟨#[]⟩), .val (.string ⟨#[]⟩), .val (.string ⟨#[]⟩), .val (.slice none 0 0), .val (.slice none 0 0), .val (.int .i64 0), .val (.slice none 0 0), .val (.int .i64 0), .val (.int .i64 0)], .val (.int .i64 1)]) []) := by
  obtain ⟨tr, st, ⟨hh, nx⟩, ⟨hs, sy⟩, ⟨ps, tu⟩, now⟩ := c
  obtain ⟨h, vs, bn, ⟨ch, cr, ci, cs⟩⟩ := b
  dsimp only at h1 h2 h3
  refine pcalls_ofR okP Tryz.func49 rfl ?_
  simp only [Tryz.f49, List.length_cons, List.length_nil, Nat.reduceAdd, Nat.reduceSub, List.replicate_succ, List.replicate_zero, List.cons_append, List.nil_append, List.length_map]
  repeat' (first | with_reducible (first | refine wA ?_ | refine wB ?_ | refine wC ?_ | refine w1 ?_ | refine w2 ?_ | refine w3 ?_ | refine w4 ?_ | refine w5 ?_ | refine w6 ?_ | refine w7 ?_ | refine w8 ?_ | refine wT ?_ | refine w9 ?_ | refine wE ?_ | refine wS ?_) | ((with_reducible refine hK _ ?_); clear hK K) | ((with_reducible refine PWp.condI ?_); refine ⟨_, rfl, fun hg => ?_, fun hg => ?_⟩ <;> first | (exact absurd hg (by decide)) | ((try simp only [Bool.not_true, Bool.not_false] at hg); (try simp only [hg]); (try simp only [push_cast] at hg); (try exact absurd trivial hg); (try (exfalso; omega)))) | ((with_reducible refine pops_guard0 ?_); refine ⟨_, rfl, fun K hK => ⟨rfl, ?_⟩⟩; (try simp (disch := omega) only [push_cast, seval, ok])) | ((with_reducible refine pops_plain fun K hK => popO_build ?_); refine ⟨_, rfl, _, rfl, ?_⟩; simp (disch := omega) only [push_cast, seval, ok]) | ((with_reducible refine pbuild_cs ?_); refine ⟨_, rfl, _, rfl, ?_⟩; simp (disch := omega) only [push_cast, seval, ok]) | ((with_reducible refine pops_plain fun K hK => ?_); simp (disch := omega) only [push_cast, seval, ok]) | ((with_reducible refine pops_guard ?_); refine ⟨_, rfl, fun K hK => ⟨_, rfl, fun hg => ?_, fun hg => ?_⟩⟩ <;> first | (exact absurd hg (by decide)) | ((try simp only [Bool.not_true, Bool.not_false] at hg); (try simp only [hg]); (try simp only [push_cast] at hg); (try exact absurd trivial hg); (try (exfalso; omega)); (try simp (disch := omega) only [push_cast, seval, ok]))) | ((with_reducible show pcall _ _ _ _ _ _); (first | (refine pcV (cf Tryz.func121) (iLightOk_p ⟨⟨_, _⟩, _, ⟨⟨_, _, _, _, _, _⟩, _⟩, ⟨_, _⟩, ⟨_, _⟩, _⟩ sd sd sd) ?_) | (refine pcF (cf Tryz.func145) (iCopyLight_p ⟨⟨_, _⟩, _, ⟨⟨_, _, _, _, _, _⟩, _⟩, ⟨_, _⟩, ⟨_, _⟩, _⟩ sd sd sd) ?_) | (refine pcV (cf Tryz.func146) (iAt_p ⟨_, _⟩ _ sd) ?_) | (refine pcV (cf Tryz.func147) (contains_p _ _ sd) ?_) | (refine pcF (cf Tryz.func148) (iBanned_p ⟨_, _⟩ _ sd sd) ?_) | (refine pcF (cf Tryz.func149) (iVerify_p ⟨_, _⟩ ⟨⟨_, _, _, _, _, _⟩, _⟩ ⟨_, _, _, _, _, _⟩ _ ⟨_, _, _, _⟩ _ sd sd sd) ?_) | (refine pcF (cf Tryz.func150) (iStorePrune_p ⟨_, _⟩ sd sd) ?_) | (refine pcF (cf Tryz.func151) (iStoreAdd_p ⟨_, _⟩ ⟨_, _, _, _, _, _⟩ sd) ?_) | (refine pcF (cf Tryz.func152) (iStoreSync_p ⟨_, _⟩ sd) ?_) | (refine pcF (cf Tryz.func153) (iPeerGood_p ⟨_, _⟩ _ sd) ?_) | (refine pcF (cf Tryz.func154) (iPeerLie_p ⟨_, _⟩ _ _ sd) ?_)); (try simp (disch := omega) only [push_cast, seval, ok])) | ((with_reducible refine And.intro ?_ ?_); omega))
  all_goals ((with_reducible show PPostR _ _ _ _ _ _); exact finH [])
set_option maxHeartbeats 2000000 in
theorem sLightFeed_bad (c : GLight) (peer : Int) (b : GBlock) (ok : lightOk c = false) (h1 : c.fAnchor.fNext.length ≤ 2000000) (h2 : c.fStore.fHeads.length ≤ 2000000) (h3 : c.fPeers.fPeers.length ≤ 2000000) : PCalls Tryz.prog 47 [.agg (pLight c), .val (.int .i64 peer), .agg (pBlock b)] [] (RH (.tup [.agg [.val (.int .i64 0), .val (.int .i64 0), .val (.int .i64 0), .val (.int .i64 0), .val (.int .i64 0), .val (.string ⟨#[]⟩), .val (.string ⟨#[]⟩), .val (.string ⟨#[]⟩), .val (.string ⟨#[]⟩), .val (.slice none 0 0), .val (.slice none 0 0), .val (.int .i64 0), .val (.slice none 0 0), .val (.int .i64 0), .val (.int .i64 0)], .val (.int .i64 1)]) []) := by
  obtain ⟨tr, st, ⟨hh, nx⟩, ⟨hs, sy⟩, ⟨ps, tu⟩, now⟩ := c
  obtain ⟨h, vs, bn, ⟨ch, cr, ci, cs⟩⟩ := b
  dsimp only at h1 h2 h3
  refine pcalls_ofR okP Tryz.func47 rfl ?_
  simp only [Tryz.f47, List.length_cons, List.length_nil, Nat.reduceAdd, Nat.reduceSub, List.replicate_succ, List.replicate_zero, List.cons_append, List.nil_append, List.length_map]
  repeat' (first | with_reducible (first | refine wA ?_ | refine wB ?_ | refine wC ?_) | with_reducible refine PWp.drawT (id := 3) okP true (.step 0 (.step 2 (.step 3 (.fork (.alt 1 (.fork (.alt 4 (.step 5 (.step 6 (.step 7 (.step 8 (.step 9 (.step 10 .done)))))) (.alt 8 (.step 4 (.step 5 (.step 6 (.step 7 (.step 9 (.step 10 .done)))))) .stop))) (.alt 8 (.step 1 (.step 4 (.step 5 (.step 6 (.step 7 (.step 9 (.step 10 .done))))))) .stop)))))) (by kernel_rfl) ?_ | with_reducible (first | refine w1 ?_ | refine w2 ?_ | refine w3 ?_ | refine w4 ?_ | refine w5 ?_ | refine w6 ?_ | refine w7 ?_ | refine w8 ?_ | refine wT ?_ | refine w9 ?_ | refine wE ?_ | refine wS ?_) | ((with_reducible refine hK _ ?_); clear hK K) | ((with_reducible refine PWp.condI ?_); refine ⟨_, rfl, fun hg => ?_, fun hg => ?_⟩ <;> first | (exact absurd hg (by decide)) | ((try simp only [Bool.not_true, Bool.not_false] at hg); (try simp only [hg]); (try simp only [push_cast] at hg); (try exact absurd trivial hg); (try (exfalso; omega)))) | with_reducible (first | refine ptree_done ?_ | exact ptree_stop | refine ptree_fork ?_) | ((with_reducible refine ptree_I ?_); refine ⟨_, rfl, fun K hK => ?_⟩) | ((with_reducible refine ptree_A ?_ ?_); (refine ⟨_, rfl, fun K hK => ?_⟩)) | ((with_reducible refine pany_I ?_); refine ⟨_, rfl, fun K hK => ?_⟩) | ((with_reducible refine pops_plain fun K hK => popO_build ?_); refine ⟨_, rfl, _, rfl, ?_⟩; simp (disch := omega) only [push_cast, seval, ok]) | ((with_reducible refine pD_y ?_ (py_build ?_)); exact rfl; refine ⟨_, rfl, _, rfl, ?_⟩; simp (disch := omega) only [push_cast, seval, ok]) | ((with_reducible refine pbuild_cs ?_); refine ⟨_, rfl, _, rfl, ?_⟩; simp (disch := omega) only [push_cast, seval, ok]) | ((with_reducible refine pops_plain fun K hK => ?_); simp (disch := omega) only [push_cast, seval, ok]) | ((first | ((with_reducible refine pD_y ?_ ?_); exact rfl) | ((with_reducible refine pD_x ?_ ?_); exact rfl)); simp (disch := omega) only [push_cast, seval, ok]) | ((with_reducible show pcall _ _ _ _ _ _); (first | (refine pcV (cf Tryz.func62) (sLightOk_p ⟨⟨_, _⟩, _, ⟨⟨_, _, _, _, _, _⟩, _⟩, ⟨_, _⟩, ⟨_, _⟩, _⟩ sd sd sd) ?_) | (refine pcF (cf Tryz.func141) (sL24Copy_p ⟨⟨_, _⟩, _, ⟨⟨_, _, _, _, _, _⟩, _⟩, ⟨_, _⟩, ⟨_, _⟩, _⟩ sd sd sd) ?_)); (try simp (disch := omega) only [push_cast, seval, ok])) | ((with_reducible refine And.intro ?_ ?_); omega))
  all_goals ((with_reducible show PPostR _ _ _ _ _ _); exact finH [])
end Go.Proofs.YtiboajlnjldalaaGreatDoor
namespace Go.Proofs.YtiboajlnjldalaaGreatDoor
set_option linter.unusedSimpArgs false
set_option linter.unusedVariables false
open Go.RowKit
set_option maxRecDepth 100000
theorem iCopyVals_p (l : List GVal) (hl : l.length ≤ 1000000) : PCalls Tryz.prog 120 [.sl 2 (l.map pVal)] [] (RH (.own 0) [some (.row 141 2 (l.map pVal))]) := by
  refine pcalls_ofR okP Tryz.func120 rfl ?_
  simp only [Tryz.f120, List.length_cons, List.length_nil, Nat.reduceAdd, Nat.reduceSub, List.replicate_succ, List.replicate_zero, List.cons_append, List.nil_append, List.length_map]
  repeat' (first | with_reducible (first | refine wA ?_ | refine wB ?_ | refine wC ?_ | refine w1 ?_ | refine w2 ?_ | refine w3 ?_ | refine w4 ?_ | refine w5 ?_ | refine w6 ?_ | refine w7 ?_ | refine w8 ?_ | refine wT ?_ | refine w9 ?_ | refine wE ?_ | refine wS ?_) | ((with_reducible refine hK _ ?_); clear hK K) | ((with_reducible refine pops_plain fun K hK => ?_); simp (disch := omega) only [push_cast, seval]) | ((with_reducible refine And.intro ?_ ?_); omega))
  ((with_reducible show PPostR _ _ _ _ _ _); exact finH [_])
end Go.Proofs.YtiboajlnjldalaaGreatDoor
namespace Go.Proofs.YtiboajlnjldalaaGreatDoor
set_option linter.unusedSimpArgs false
set_option linter.unusedVariables false
open Go.RowKit
theorem nil_push {M : Mem} {h : Home} {H : Hp} {w : World} (I : Inv M h H w) (e : TypeId) (sz : Nat) : Step M h H w M (upd h H.length (.slice none 0 0)) (H ++ [some (.row e sz [])]) w :=
  Step.push I (Ext.refl w) (B := .row e sz []) (v := .slice none 0 0) ⟨⟨none, 0, 0, rfl⟩, [], ⟨by simp, .inl ⟨rfl, rfl⟩⟩, by simp, by simp, by simp⟩ fun k hk => by cases hk
end Go.Proofs.YtiboajlnjldalaaGreatDoor
namespace Go.Proofs.YtiboajlnjldalaaGreatDoor
set_option linter.unusedSimpArgs false
set_option linter.unusedVariables false
open Go.RowKit
set_option maxRecDepth 100000
def pBkO (b : GBlock) : List PV := [.val (.int .i64 b.fHead.fHeight), .val (.int .i64 b.fHead.fTime), .val (.string b.fHead.fLast), .val (.string b.fHead.fVals), .val (.string b.fHead.fNext), .val (.string b.fHead.fData), .own 0, .own 1, .val (.int .i64 b.fCommit.fHeight), .val (.int .i64 b.fCommit.fRound), .val (.string b.fCommit.fId), .own 2]
def bBk (b : GBlock) : Hp := [some (.row 141 2 (b.fVals.map pVal)), some (.row 141 2 (b.fNext.map pVal)), some (.row 227 2 (b.fCommit.fSigs.map pCSig))]
attribute [push_cast] pBkO bBk
end Go.Proofs.YtiboajlnjldalaaGreatDoor
namespace Go.Proofs.YtiboajlnjldalaaGreatDoor
set_option linter.unusedSimpArgs false
set_option linter.unusedVariables false
open Go.RowKit
set_option maxRecDepth 100000
def pCmO (c : GCommit) : List PV := [.val (.int .i64 c.fHeight), .val (.int .i64 c.fRound), .val (.string c.fId), .own 0]
attribute [push_cast] pCmO
def mkAnchor (k : Int) (a : GAnchor) : GAnchor := ⟨a.fHead, mkd (mkVal k) a.fNext a.fNext.length⟩
def mkStore (k : Int) (s : GStore) : GStore := ⟨mkd (mkHeader k) s.fHeads s.fHeads.length, s.fSynced⟩
def mkTable (k : Int) (t : GTable) : GTable := ⟨mkd (mkPeer k) t.fPeers t.fPeers.length, t.fTurn⟩
def mkCommitM (k : Int) (c : GCommit) : GCommit := ⟨c.fHeight, c.fRound, c.fId, mkd (mkCSig k) c.fSigs c.fSigs.length⟩
theorem lToTrust_p (x : GTrust) : PCalls Tryz.prog 38 [.agg (pTrust x)] [] (RH (.agg (pTrust x)) []) := by
  refine pcalls_ofR okP Tryz.func38 rfl ?_
  simp only [Tryz.f38, List.length_cons, List.length_nil, Nat.reduceAdd, Nat.reduceSub, List.replicate_succ, List.replicate_zero, List.cons_append, List.nil_append, List.length_map]
  repeat' (first | with_reducible (first | refine wA ?_ | refine wB ?_ | refine wC ?_ | refine w1 ?_ | refine w2 ?_ | refine w3 ?_ | refine w4 ?_ | refine w5 ?_ | refine w6 ?_ | refine w7 ?_ | refine w8 ?_ | refine wT ?_ | refine w9 ?_ | refine wE ?_ | refine wS ?_) | ((with_reducible refine hK _ ?_); clear hK K) | ((with_reducible refine pops_plain fun K hK => ?_); simp (disch := omega) only [push_cast, seval]) | ((with_reducible refine And.intro ?_ ?_); omega))
  all_goals ((with_reducible show PPostR _ _ _ _ _ _); exact finH [])
theorem lEqTrust_p (x : GTrust) : PCalls Tryz.prog 123 [.agg (pTrust x), .agg (pTrust x)] [] (RV (.val (.bool true))) := by
  refine pcalls_ofR okP Tryz.func123 rfl ?_
  simp only [Tryz.f123, List.length_cons, List.length_nil, Nat.reduceAdd, Nat.reduceSub, List.replicate_succ, List.replicate_zero, List.cons_append, List.nil_append, List.length_map]
  repeat' (first | with_reducible (first | refine wA ?_ | refine wB ?_ | refine wC ?_ | refine w1 ?_ | refine w2 ?_ | refine w3 ?_ | refine w4 ?_ | refine w5 ?_ | refine w6 ?_ | refine w7 ?_ | refine w8 ?_ | refine wT ?_ | refine w9 ?_ | refine wE ?_ | refine wS ?_) | ((with_reducible refine hK _ ?_); clear hK K) | ((with_reducible refine PWp.condI ?_); refine ⟨_, rfl, fun hg => ?_, fun hg => ?_⟩ <;> first | (exact absurd hg (by decide)) | ((try simp only [Bool.not_true, Bool.not_false] at hg); (try simp only [hg]); (try simp only [push_cast] at hg); (try exact absurd trivial hg); (try (exfalso; omega)))) | ((with_reducible refine pops_plain fun K hK => ?_); simp (disch := omega) only [push_cast, seval]) | ((with_reducible refine And.intro ?_ ?_); omega))
  all_goals ((with_reducible show PPostR _ _ _ _ _ _); refine finV ?_; (try simp only [push_cast, seval]))
theorem lToAnchor_p (x : GAnchor) (hl : x.fNext.length ≤ 2000000) : PCalls Tryz.prog 142 [.agg (pAnchor x)] [] (RH (.agg (pAnO x)) [some (.row 141 2 (x.fNext.map pVal))]) := by
  refine pcalls_ofR okP Tryz.func142 rfl ?_
  simp only [Tryz.f142, List.length_cons, List.length_nil, Nat.reduceAdd, Nat.reduceSub, List.replicate_succ, List.replicate_zero, List.cons_append, List.nil_append, List.length_map]
  repeat' (first | with_reducible (first | refine wA ?_ | refine wB ?_ | refine wC ?_ | refine w1 ?_ | refine w2 ?_ | refine w3 ?_ | refine w4 ?_ | refine w5 ?_ | refine w6 ?_ | refine w7 ?_ | refine w8 ?_ | refine wT ?_ | refine w9 ?_ | refine wE ?_ | refine wS ?_) | ((with_reducible refine hK _ ?_); clear hK K) | ((with_reducible refine pops_plain fun K hK => ?_); simp (disch := omega) only [push_cast, seval]) | ((with_reducible show pcall _ _ _ _ _ _); (first | (refine pcF (cf Tryz.func117) (lToHeader_p ⟨_, _, _, _, _, _⟩) ?_) | (refine pcH (cf Tryz.func118) (lToValS_p _ sd) ?_)); (try simp (disch := omega) only [push_cast, seval])) | ((with_reducible refine And.intro ?_ ?_); omega))
  all_goals ((with_reducible show PPostR _ _ _ _ _ _); exact finH [_])
theorem lEqAnchor_p (x : GAnchor) (hl : x.fNext.length ≤ 2000000) : PCalls Tryz.prog 124 [.agg (pAnchor x), .agg (pAnchor x)] [] (RV (.val (.bool true))) := by
  refine pcalls_ofR okP Tryz.func124 rfl ?_
  simp only [Tryz.f124, List.length_cons, List.length_nil, Nat.reduceAdd, Nat.reduceSub, List.replicate_succ, List.replicate_zero, List.cons_append, List.nil_append, List.length_map]
  repeat' (first | with_reducible (first | refine wA ?_ | refine wB ?_ | refine wC ?_ | refine w1 ?_ | refine w2 ?_ | refine w3 ?_ | refine w4 ?_ | refine w5 ?_ | refine w6 ?_ | refine w7 ?_ | refine w8 ?_ | refine wT ?_ | refine w9 ?_ | refine wE ?_ | refine wS ?_) | ((with_reducible refine hK _ ?_); clear hK K) | ((with_reducible refine PWp.condI ?_); refine ⟨_, rfl, fun hg => ?_, fun hg => ?_⟩ <;> first | (exact absurd hg (by decide)) | ((try simp only [Bool.not_true, Bool.not_false] at hg); (try simp only [hg]); (try simp only [push_cast] at hg); (try exact absurd trivial hg); (try (exfalso; omega)))) | ((with_reducible refine pops_plain fun K hK => ?_); simp (disch := omega) only [push_cast, seval, eqB_self]) | ((with_reducible show pcall _ _ _ _ _ _); (first | (refine pcV (cf Tryz.func127) (lEqHeader_p ⟨_, _, _, _, _, _⟩) ?_) | (refine pcV (cf Tryz.func128) (lEqValS_p _ sd) ?_)); (try simp (disch := omega) only [push_cast, seval, eqB_self])) | ((with_reducible refine And.intro ?_ ?_); omega))
  all_goals ((with_reducible show PPostR _ _ _ _ _ _); refine finV ?_; (try simp only [push_cast, seval]))
theorem lMarkAnchor_p (x : GAnchor) (k : Int) (hl : x.fNext.length ≤ 2000000) (hk : 0 ≤ k ∧ k ≤ 100000000) : PCalls Tryz.prog 131 [.agg (pAnO x), .val (.int .i64 k)] [some (.row 141 2 (x.fNext.map pVal))] (RH (.val (.int .i64 (k + 2 * (x.fNext.length : Int)))) [some (.row 141 2 ((mkAnchor k x).fNext.map pVal))]) := by
  refine pcalls_ofR okP Tryz.func131 rfl ?_
  simp only [Tryz.f131, List.length_cons, List.length_nil, Nat.reduceAdd, Nat.reduceSub, List.replicate_succ, List.replicate_zero, List.cons_append, List.nil_append, List.length_map]
  repeat' (first | with_reducible (first | refine wA ?_ | refine wB ?_ | refine wC ?_ | refine w1 ?_ | refine w2 ?_ | refine w3 ?_ | refine w4 ?_ | refine w5 ?_ | refine w6 ?_ | refine w7 ?_ | refine w8 ?_ | refine wT ?_ | refine w9 ?_ | refine wE ?_ | refine wS ?_) | ((with_reducible refine hK _ ?_); clear hK K) | ((with_reducible refine pops_plain fun K hK => ?_); simp (disch := omega) only [push_cast, seval]) | ((with_reducible show pcall _ _ _ _ _ _); (first | (refine pcall_RGf (cf Tryz.func99) [?_] ?_ ?_ ?_ (lMarkValS_p ?_ ?_ ?_ ?_) ?_; rotate_left 1; (· ((try simp (disch := omega) only [push_cast, seval]); (repeat' (first | exact trivial | exact rfl | refine And.intro ?_ ?_ | omega)))); (· (repeat' (first | exact trivial | refine And.intro ?_ ?_ | exact ⟨_, rfl⟩ | (simp (disch := omega) only [push_cast, seval]; done) | exact rfl))); (· exact rfl); rotate_right 1; rotate_left 1; (all_goals (try (first | omega | exact (show _ = _ by assumption)))))); (try simp (disch := omega) only [push_cast, seval])) | ((with_reducible refine And.intro ?_ ?_); omega))
  all_goals ((with_reducible show PPostR _ _ _ _ _ _); exact finH [0])
theorem lHeldAnchor_p (x : GAnchor) (k : Int) (hl : x.fNext.length ≤ 2000000) (hk : 0 ≤ k ∧ k ≤ 100000000) : PCalls Tryz.prog 134 [.agg (pAnchor (mkAnchor k x)), .val (.int .i64 k)] [] (RV (.val (.int .i64 (k + 2 * (x.fNext.length : Int))))) := by
  unfold mkAnchor
  refine pcalls_ofR okP Tryz.func134 rfl ?_
  simp only [Tryz.f134, List.length_cons, List.length_nil, Nat.reduceAdd, Nat.reduceSub, List.replicate_succ, List.replicate_zero, List.cons_append, List.nil_append, List.length_map]
  repeat' (first | with_reducible (first | refine wA ?_ | refine wB ?_ | refine wC ?_ | refine w1 ?_ | refine w2 ?_ | refine w3 ?_ | refine w4 ?_ | refine w5 ?_ | refine w6 ?_ | refine w7 ?_ | refine w8 ?_ | refine wT ?_ | refine w9 ?_ | refine wE ?_ | refine wS ?_) | ((with_reducible refine hK _ ?_); clear hK K) | ((with_reducible refine PWp.condI ?_); refine ⟨_, rfl, fun hg => ?_, fun hg => ?_⟩ <;> first | (exact absurd hg (by decide)) | ((try simp only [Bool.not_true, Bool.not_false] at hg); (try simp only [hg]); (try simp only [push_cast] at hg); (try exact absurd trivial hg); (try (exfalso; omega)))) | ((with_reducible refine pops_plain fun K hK => ?_); simp (disch := omega) only [push_cast, seval]) | ((with_reducible show pcall _ _ _ _ _ _); (first | (refine pcV (cf Tryz.func101) (lHeldValS_p _ _ sd sd) ?_)); (try simp (disch := omega) only [push_cast, seval])) | ((with_reducible refine And.intro ?_ ?_); omega))
  all_goals ((with_reducible show PPostR _ _ _ _ _ _); refine finV ?_; (try simp only [push_cast, seval]))
theorem lToStore_p (x : GStore) (hl : x.fHeads.length ≤ 2000000) : PCalls Tryz.prog 143 [.agg (pStore x)] [] (RH (.agg (pStO x)) [some (.row 30 6 (x.fHeads.map pHeader))]) := by
  refine pcalls_ofR okP Tryz.func143 rfl ?_
  simp only [Tryz.f143, List.length_cons, List.length_nil, Nat.reduceAdd, Nat.reduceSub, List.replicate_succ, List.replicate_zero, List.cons_append, List.nil_append, List.length_map]
  repeat' (first | with_reducible (first | refine wA ?_ | refine wB ?_ | refine wC ?_ | refine w1 ?_ | refine w2 ?_ | refine w3 ?_ | refine w4 ?_ | refine w5 ?_ | refine w6 ?_ | refine w7 ?_ | refine w8 ?_ | refine wT ?_ | refine w9 ?_ | refine wE ?_ | refine wS ?_) | ((with_reducible refine hK _ ?_); clear hK K) | ((with_reducible refine pops_plain fun K hK => ?_); simp (disch := omega) only [push_cast, seval]) | ((with_reducible show pcall _ _ _ _ _ _); (first | (refine pcH (cf Tryz.func222) (lToHeaderS_p _ sd) ?_)); (try simp (disch := omega) only [push_cast, seval])) | ((with_reducible refine And.intro ?_ ?_); omega))
  all_goals ((with_reducible show PPostR _ _ _ _ _ _); exact finH [_])
theorem lEqStore_p (x : GStore) (hl : x.fHeads.length ≤ 2000000) : PCalls Tryz.prog 125 [.agg (pStore x), .agg (pStore x)] [] (RV (.val (.bool true))) := by
  refine pcalls_ofR okP Tryz.func125 rfl ?_
  simp only [Tryz.f125, List.length_cons, List.length_nil, Nat.reduceAdd, Nat.reduceSub, List.replicate_succ, List.replicate_zero, List.cons_append, List.nil_append, List.length_map]
  repeat' (first | with_reducible (first | refine wA ?_ | refine wB ?_ | refine wC ?_ | refine w1 ?_ | refine w2 ?_ | refine w3 ?_ | refine w4 ?_ | refine w5 ?_ | refine w6 ?_ | refine w7 ?_ | refine w8 ?_ | refine wT ?_ | refine w9 ?_ | refine wE ?_ | refine wS ?_) | ((with_reducible refine hK _ ?_); clear hK K) | ((with_reducible refine PWp.condI ?_); refine ⟨_, rfl, fun hg => ?_, fun hg => ?_⟩ <;> first | (exact absurd hg (by decide)) | ((try simp only [Bool.not_true, Bool.not_false] at hg); (try simp only [hg]); (try simp only [push_cast] at hg); (try exact absurd trivial hg); (try (exfalso; omega)))) | ((with_reducible refine pops_plain fun K hK => ?_); simp (disch := omega) only [push_cast, seval, eqB_self]) | ((with_reducible show pcall _ _ _ _ _ _); (first | (refine pcV (cf Tryz.func208) (lEqHeaderS_p _ sd) ?_)); (try simp (disch := omega) only [push_cast, seval, eqB_self])) | ((with_reducible refine And.intro ?_ ?_); omega))
  all_goals ((with_reducible show PPostR _ _ _ _ _ _); refine finV ?_; (try simp only [push_cast, seval]))
theorem lMarkStore_p (x : GStore) (k : Int) (hl : x.fHeads.length ≤ 2000000) (hk : 0 ≤ k ∧ k ≤ 100000000) : PCalls Tryz.prog 132 [.agg (pStO x), .val (.int .i64 k)] [some (.row 30 6 (x.fHeads.map pHeader))] (RH (.val (.int .i64 (k + 6 * (x.fHeads.length : Int)))) [some (.row 30 6 ((mkStore k x).fHeads.map pHeader))]) := by
  refine pcalls_ofR okP Tryz.func132 rfl ?_
  simp only [Tryz.f132, List.length_cons, List.length_nil, Nat.reduceAdd, Nat.reduceSub, List.replicate_succ, List.replicate_zero, List.cons_append, List.nil_append, List.length_map]
  repeat' (first | with_reducible (first | refine wA ?_ | refine wB ?_ | refine wC ?_ | refine w1 ?_ | refine w2 ?_ | refine w3 ?_ | refine w4 ?_ | refine w5 ?_ | refine w6 ?_ | refine w7 ?_ | refine w8 ?_ | refine wT ?_ | refine w9 ?_ | refine wE ?_ | refine wS ?_) | ((with_reducible refine hK _ ?_); clear hK K) | ((with_reducible refine pops_plain fun K hK => ?_); simp (disch := omega) only [push_cast, seval]) | ((with_reducible show pcall _ _ _ _ _ _); (first | (refine pcall_RGf (cf Tryz.func212) [?_] ?_ ?_ ?_ (lMarkHeaderS_p ?_ ?_ ?_ ?_) ?_; rotate_left 1; (· ((try simp (disch := omega) only [push_cast, seval]); (repeat' (first | exact trivial | exact rfl | refine And.intro ?_ ?_ | omega)))); (· (repeat' (first | exact trivial | refine And.intro ?_ ?_ | exact ⟨_, rfl⟩ | (simp (disch := omega) only [push_cast, seval]; done) | exact rfl))); (· exact rfl); rotate_right 1; rotate_left 1; (all_goals (try (first | omega | exact (show _ = _ by assumption)))))); (try simp (disch := omega) only [push_cast, seval])) | ((with_reducible refine And.intro ?_ ?_); omega))
  all_goals ((with_reducible show PPostR _ _ _ _ _ _); exact finH [0])
theorem lHeldStore_p (x : GStore) (k : Int) (hl : x.fHeads.length ≤ 2000000) (hk : 0 ≤ k ∧ k ≤ 100000000) : PCalls Tryz.prog 135 [.agg (pStore (mkStore k x)), .val (.int .i64 k)] [] (RV (.val (.int .i64 (k + 6 * (x.fHeads.length : Int))))) := by
  unfold mkStore
  refine pcalls_ofR okP Tryz.func135 rfl ?_
  simp only [Tryz.f135, List.length_cons, List.length_nil, Nat.reduceAdd, Nat.reduceSub, List.replicate_succ, List.replicate_zero, List.cons_append, List.nil_append, List.length_map]
  repeat' (first | with_reducible (first | refine wA ?_ | refine wB ?_ | refine wC ?_ | refine w1 ?_ | refine w2 ?_ | refine w3 ?_ | refine w4 ?_ | refine w5 ?_ | refine w6 ?_ | refine w7 ?_ | refine w8 ?_ | refine wT ?_ | refine w9 ?_ | refine wE ?_ | refine wS ?_) | ((with_reducible refine hK _ ?_); clear hK K) | ((with_reducible refine PWp.condI ?_); refine ⟨_, rfl, fun hg => ?_, fun hg => ?_⟩ <;> first | (exact absurd hg (by decide)) | ((try simp only [Bool.not_true, Bool.not_false] at hg); (try simp only [hg]); (try simp only [push_cast] at hg); (try exact absurd trivial hg); (try (exfalso; omega)))) | ((with_reducible refine pops_plain fun K hK => ?_); simp (disch := omega) only [push_cast, seval]) | ((with_reducible show pcall _ _ _ _ _ _); (first | (refine pcV (cf Tryz.func214) (lHeldHeaderS_p _ _ sd sd) ?_)); (try simp (disch := omega) only [push_cast, seval])) | ((with_reducible refine And.intro ?_ ?_); omega))
  all_goals ((with_reducible show PPostR _ _ _ _ _ _); refine finV ?_; (try simp only [push_cast, seval]))
theorem lToTable_p (x : GTable) (hl : x.fPeers.length ≤ 2000000) : PCalls Tryz.prog 144 [.agg (pTable x)] [] (RH (.agg (pTbO x)) [some (.row 211 4 (x.fPeers.map pPeer))]) := by
  refine pcalls_ofR okP Tryz.func144 rfl ?_
  simp only [Tryz.f144, List.length_cons, List.length_nil, Nat.reduceAdd, Nat.reduceSub, List.replicate_succ, List.replicate_zero, List.cons_append, List.nil_append, List.length_map]
  repeat' (first | with_reducible (first | refine wA ?_ | refine wB ?_ | refine wC ?_ | refine w1 ?_ | refine w2 ?_ | refine w3 ?_ | refine w4 ?_ | refine w5 ?_ | refine w6 ?_ | refine w7 ?_ | refine w8 ?_ | refine wT ?_ | refine w9 ?_ | refine wE ?_ | refine wS ?_) | ((with_reducible refine hK _ ?_); clear hK K) | ((with_reducible refine pops_plain fun K hK => ?_); simp (disch := omega) only [push_cast, seval]) | ((with_reducible show pcall _ _ _ _ _ _); (first | (refine pcH (cf Tryz.func223) (lToPeerS_p _ sd) ?_)); (try simp (disch := omega) only [push_cast, seval])) | ((with_reducible refine And.intro ?_ ?_); omega))
  all_goals ((with_reducible show PPostR _ _ _ _ _ _); exact finH [_])
theorem lEqTable_p (x : GTable) (hl : x.fPeers.length ≤ 2000000) : PCalls Tryz.prog 126 [.agg (pTable x), .agg (pTable x)] [] (RV (.val (.bool true))) := by
  refine pcalls_ofR okP Tryz.func126 rfl ?_
  simp only [Tryz.f126, List.length_cons, List.length_nil, Nat.reduceAdd, Nat.reduceSub, List.replicate_succ, List.replicate_zero, List.cons_append, List.nil_append, List.length_map]
  repeat' (first | with_reducible (first | refine wA ?_ | refine wB ?_ | refine wC ?_ | refine w1 ?_ | refine w2 ?_ | refine w3 ?_ | refine w4 ?_ | refine w5 ?_ | refine w6 ?_ | refine w7 ?_ | refine w8 ?_ | refine wT ?_ | refine w9 ?_ | refine wE ?_ | refine wS ?_) | ((with_reducible refine hK _ ?_); clear hK K) | ((with_reducible refine PWp.condI ?_); refine ⟨_, rfl, fun hg => ?_, fun hg => ?_⟩ <;> first | (exact absurd hg (by decide)) | ((try simp only [Bool.not_true, Bool.not_false] at hg); (try simp only [hg]); (try simp only [push_cast] at hg); (try exact absurd trivial hg); (try (exfalso; omega)))) | ((with_reducible refine pops_plain fun K hK => ?_); simp (disch := omega) only [push_cast, seval, eqB_self]) | ((with_reducible show pcall _ _ _ _ _ _); (first | (refine pcV (cf Tryz.func209) (lEqPeerS_p _ sd) ?_)); (try simp (disch := omega) only [push_cast, seval, eqB_self])) | ((with_reducible refine And.intro ?_ ?_); omega))
  all_goals ((with_reducible show PPostR _ _ _ _ _ _); refine finV ?_; (try simp only [push_cast, seval]))
theorem lMarkTable_p (x : GTable) (k : Int) (hl : x.fPeers.length ≤ 2000000) (hk : 0 ≤ k ∧ k ≤ 100000000) : PCalls Tryz.prog 133 [.agg (pTbO x), .val (.int .i64 k)] [some (.row 211 4 (x.fPeers.map pPeer))] (RH (.val (.int .i64 (k + 4 * (x.fPeers.length : Int)))) [some (.row 211 4 ((mkTable k x).fPeers.map pPeer))]) := by
  refine pcalls_ofR okP Tryz.func133 rfl ?_
  simp only [Tryz.f133, List.length_cons, List.length_nil, Nat.reduceAdd, Nat.reduceSub, List.replicate_succ, List.replicate_zero, List.cons_append, List.nil_append, List.length_map]
  repeat' (first | with_reducible (first | refine wA ?_ | refine wB ?_ | refine wC ?_ | refine w1 ?_ | refine w2 ?_ | refine w3 ?_ | refine w4 ?_ | refine w5 ?_ | refine w6 ?_ | refine w7 ?_ | refine w8 ?_ | refine wT ?_ | refine w9 ?_ | refine wE ?_ | refine wS ?_) | ((with_reducible refine hK _ ?_); clear hK K) | ((with_reducible refine pops_plain fun K hK => ?_); simp (disch := omega) only [push_cast, seval]) | ((with_reducible show pcall _ _ _ _ _ _); (first | (refine pcall_RGf (cf Tryz.func213) [?_] ?_ ?_ ?_ (lMarkPeerS_p ?_ ?_ ?_ ?_) ?_; rotate_left 1; (· ((try simp (disch := omega) only [push_cast, seval]); (repeat' (first | exact trivial | exact rfl | refine And.intro ?_ ?_ | omega)))); (· (repeat' (first | exact trivial | refine And.intro ?_ ?_ | exact ⟨_, rfl⟩ | (simp (disch := omega) only [push_cast, seval]; done) | exact rfl))); (· exact rfl); rotate_right 1; rotate_left 1; (all_goals (try (first | omega | exact (show _ = _ by assumption)))))); (try simp (disch := omega) only [push_cast, seval])) | ((with_reducible refine And.intro ?_ ?_); omega))
  all_goals ((with_reducible show PPostR _ _ _ _ _ _); exact finH [0])
theorem lHeldTable_p (x : GTable) (k : Int) (hl : x.fPeers.length ≤ 2000000) (hk : 0 ≤ k ∧ k ≤ 100000000) : PCalls Tryz.prog 136 [.agg (pTable (mkTable k x)), .val (.int .i64 k)] [] (RV (.val (.int .i64 (k + 4 * (x.fPeers.length : Int))))) := by
  unfold mkTable
  refine pcalls_ofR okP Tryz.func136 rfl ?_
  simp only [Tryz.f136, List.length_cons, List.length_nil, Nat.reduceAdd, Nat.reduceSub, List.replicate_succ, List.replicate_zero, List.cons_append, List.nil_append, List.length_map]
  repeat' (first | with_reducible (first | refine wA ?_ | refine wB ?_ | refine wC ?_ | refine w1 ?_ | refine w2 ?_ | refine w3 ?_ | refine w4 ?_ | refine w5 ?_ | refine w6 ?_ | refine w7 ?_ | refine w8 ?_ | refine wT ?_ | refine w9 ?_ | refine wE ?_ | refine wS ?_) | ((with_reducible refine hK _ ?_); clear hK K) | ((with_reducible refine PWp.condI ?_); refine ⟨_, rfl, fun hg => ?_, fun hg => ?_⟩ <;> first | (exact absurd hg (by decide)) | ((try simp only [Bool.not_true, Bool.not_false] at hg); (try simp only [hg]); (try simp only [push_cast] at hg); (try exact absurd trivial hg); (try (exfalso; omega)))) | ((with_reducible refine pops_plain fun K hK => ?_); simp (disch := omega) only [push_cast, seval]) | ((with_reducible show pcall _ _ _ _ _ _); (first | (refine pcV (cf Tryz.func215) (lHeldPeerS_p _ _ sd sd) ?_)); (try simp (disch := omega) only [push_cast, seval])) | ((with_reducible refine And.intro ?_ ?_); omega))
  all_goals ((with_reducible show PPostR _ _ _ _ _ _); refine finV ?_; (try simp only [push_cast, seval]))
theorem lToCommit_p (x : GCommit) (hl : x.fSigs.length ≤ 2000000) : PCalls Tryz.prog 119 [.agg (pCommit x)] [] (RH (.agg (pCmO x)) [some (.row 227 2 (x.fSigs.map pCSig))]) := by
  refine pcalls_ofR okP Tryz.func119 rfl ?_
  simp only [Tryz.f119, List.length_cons, List.length_nil, Nat.reduceAdd, Nat.reduceSub, List.replicate_succ, List.replicate_zero, List.cons_append, List.nil_append, List.length_map]
  repeat' (first | with_reducible (first | refine wA ?_ | refine wB ?_ | refine wC ?_ | refine w1 ?_ | refine w2 ?_ | refine w3 ?_ | refine w4 ?_ | refine w5 ?_ | refine w6 ?_ | refine w7 ?_ | refine w8 ?_ | refine wT ?_ | refine w9 ?_ | refine wE ?_ | refine wS ?_) | ((with_reducible refine hK _ ?_); clear hK K) | ((with_reducible refine pops_plain fun K hK => ?_); simp (disch := omega) only [push_cast, seval]) | ((with_reducible show pcall _ _ _ _ _ _); (first | (refine pcH (cf Tryz.func203) (lToCSigS_p _ sd) ?_)); (try simp (disch := omega) only [push_cast, seval])) | ((with_reducible refine And.intro ?_ ?_); omega))
  all_goals ((with_reducible show PPostR _ _ _ _ _ _); exact finH [_])
theorem lEqCommit_p (x : GCommit) (hl : x.fSigs.length ≤ 2000000) : PCalls Tryz.prog 129 [.agg (pCommit x), .agg (pCommit x)] [] (RV (.val (.bool true))) := by
  refine pcalls_ofR okP Tryz.func129 rfl ?_
  simp only [Tryz.f129, List.length_cons, List.length_nil, Nat.reduceAdd, Nat.reduceSub, List.replicate_succ, List.replicate_zero, List.cons_append, List.nil_append, List.length_map]
  repeat' (first | with_reducible (first | refine wA ?_ | refine wB ?_ | refine wC ?_ | refine w1 ?_ | refine w2 ?_ | refine w3 ?_ | refine w4 ?_ | refine w5 ?_ | refine w6 ?_ | refine w7 ?_ | refine w8 ?_ | refine wT ?_ | refine w9 ?_ | refine wE ?_ | refine wS ?_) | ((with_reducible refine hK _ ?_); clear hK K) | ((with_reducible refine PWp.condI ?_); refine ⟨_, rfl, fun hg => ?_, fun hg => ?_⟩ <;> first | (exact absurd hg (by decide)) | ((try simp only [Bool.not_true, Bool.not_false] at hg); (try simp only [hg]); (try simp only [push_cast] at hg); (try exact absurd trivial hg); (try (exfalso; omega)))) | ((with_reducible refine pops_plain fun K hK => ?_); simp (disch := omega) only [push_cast, seval, eqB_self]) | ((with_reducible show pcall _ _ _ _ _ _); (first | (refine pcV (cf Tryz.func211) (lEqCSigS_p _ sd) ?_)); (try simp (disch := omega) only [push_cast, seval, eqB_self])) | ((with_reducible refine And.intro ?_ ?_); omega))
  all_goals ((with_reducible show PPostR _ _ _ _ _ _); refine finV ?_; (try simp only [push_cast, seval]))
theorem lMarkCommit_p (x : GCommit) (k : Int) (hl : x.fSigs.length ≤ 2000000) (hk : 0 ≤ k ∧ k ≤ 100000000) : PCalls Tryz.prog 130 [.agg (pCmO x), .val (.int .i64 k)] [some (.row 227 2 (x.fSigs.map pCSig))] (RH (.val (.int .i64 (k + 2 * (x.fSigs.length : Int)))) [some (.row 227 2 ((mkCommitM k x).fSigs.map pCSig))]) := by
  refine pcalls_ofR okP Tryz.func130 rfl ?_
  simp only [Tryz.f130, List.length_cons, List.length_nil, Nat.reduceAdd, Nat.reduceSub, List.replicate_succ, List.replicate_zero, List.cons_append, List.nil_append, List.length_map]
  repeat' (first | with_reducible (first | refine wA ?_ | refine wB ?_ | refine wC ?_ | refine w1 ?_ | refine w2 ?_ | refine w3 ?_ | refine w4 ?_ | refine w5 ?_ | refine w6 ?_ | refine w7 ?_ | refine w8 ?_ | refine wT ?_ | refine w9 ?_ | refine wE ?_ | refine wS ?_) | ((with_reducible refine hK _ ?_); clear hK K) | ((with_reducible refine pops_plain fun K hK => ?_); simp (disch := omega) only [push_cast, seval]) | ((with_reducible show pcall _ _ _ _ _ _); (first | (refine pcall_RGf (cf Tryz.func100) [?_] ?_ ?_ ?_ (lMarkCSigS_p ?_ ?_ ?_ ?_) ?_; rotate_left 1; (· ((try simp (disch := omega) only [push_cast, seval]); (repeat' (first | exact trivial | exact rfl | refine And.intro ?_ ?_ | omega)))); (· (repeat' (first | exact trivial | refine And.intro ?_ ?_ | exact ⟨_, rfl⟩ | (simp (disch := omega) only [push_cast, seval]; done) | exact rfl))); (· exact rfl); rotate_right 1; rotate_left 1; (all_goals (try (first | omega | exact (show _ = _ by assumption)))))); (try simp (disch := omega) only [push_cast, seval])) | ((with_reducible refine And.intro ?_ ?_); omega))
  all_goals ((with_reducible show PPostR _ _ _ _ _ _); exact finH [0])
def cLight (c : GLight) : Int := 2 * (c.fAnchor.fNext.length : Int) + 6 * (c.fStore.fHeads.length : Int) + 4 * (c.fPeers.fPeers.length : Int)
def mkLight (k : Int) (c : GLight) : GLight := ⟨c.fTrust, c.fState, mkAnchor k c.fAnchor, mkStore (k + 2 * (c.fAnchor.fNext.length : Int)) c.fStore, mkTable (k + 2 * (c.fAnchor.fNext.length : Int) + 6 * (c.fStore.fHeads.length : Int)) c.fPeers, c.fNow⟩
theorem lToLight_p (c : GLight) (hs : SmC c) : PCalls Tryz.prog 48 [.agg (pLight c)] [] (RH (.agg (pLiO c)) (bLi c)) := by
  obtain ⟨h1, h2, h3⟩ := hs
  obtain ⟨⟨tp, tl⟩, st, ⟨⟨g1, g2, g3, g4, g5, g6⟩, nx⟩, ⟨hds, sy⟩, ⟨ps, tu⟩, now⟩ := c
  dsimp only at *
  refine pcalls_ofR okP Tryz.func48 rfl ?_
  simp only [Tryz.f48, List.length_cons, List.length_nil, Nat.reduceAdd, Nat.reduceSub, List.replicate_succ, List.replicate_zero, List.cons_append, List.nil_append, List.length_map]
  repeat' (first | with_reducible (first | refine wA ?_ | refine wB ?_ | refine wC ?_ | refine w1 ?_ | refine w2 ?_ | refine w3 ?_ | refine w4 ?_ | refine w5 ?_ | refine w6 ?_ | refine w7 ?_ | refine w8 ?_ | refine wT ?_ | refine w9 ?_ | refine wE ?_ | refine wS ?_) | ((with_reducible refine hK _ ?_); clear hK K) | ((with_reducible refine pops_plain fun K hK => ?_); simp (disch := omega) only [push_cast, seval]) | ((with_reducible show pcall _ _ _ _ _ _); (first | (refine pcF (cf Tryz.func38) (lToTrust_p ⟨_, _⟩) ?_) | (refine pcH (cf Tryz.func142) (lToAnchor_p ⟨⟨_, _, _, _, _, _⟩, _⟩ sd) ?_) | (refine pcH (cf Tryz.func143) (lToStore_p ⟨_, _⟩ sd) ?_) | (refine pcH (cf Tryz.func144) (lToTable_p ⟨_, _⟩ sd) ?_)); (try simp (disch := omega) only [push_cast, seval])) | ((with_reducible refine And.intro ?_ ?_); omega))
  all_goals ((with_reducible show PPostR _ _ _ _ _ _); exact finH [_, _, _])
theorem lEqLight_p (c : GLight) (hs : SmC c) : PCalls Tryz.prog 41 [.agg (pLight c), .agg (pLight c)] [] (RV (.val (.bool true))) := by
  obtain ⟨h1, h2, h3⟩ := hs
  obtain ⟨⟨tp, tl⟩, st, ⟨⟨g1, g2, g3, g4, g5, g6⟩, nx⟩, ⟨hds, sy⟩, ⟨ps, tu⟩, now⟩ := c
  dsimp only at *
  refine pcalls_ofR okP Tryz.func41 rfl ?_
  simp only [Tryz.f41, List.length_cons, List.length_nil, Nat.reduceAdd, Nat.reduceSub, List.replicate_succ, List.replicate_zero, List.cons_append, List.nil_append, List.length_map]
  repeat' (first | with_reducible (first | refine wA ?_ | refine wB ?_ | refine wC ?_ | refine w1 ?_ | refine w2 ?_ | refine w3 ?_ | refine w4 ?_ | refine w5 ?_ | refine w6 ?_ | refine w7 ?_ | refine w8 ?_ | refine wT ?_ | refine w9 ?_ | refine wE ?_ | refine wS ?_) | ((with_reducible refine hK _ ?_); clear hK K) | ((with_reducible refine PWp.condI ?_); refine ⟨_, rfl, fun hg => ?_, fun hg => ?_⟩ <;> first | (exact absurd hg (by decide)) | ((try simp only [Bool.not_true, Bool.not_false] at hg); (try simp only [hg]); (try simp only [push_cast] at hg); (try exact absurd trivial hg); (try (exfalso; omega)))) | ((with_reducible refine pops_plain fun K hK => ?_); simp (disch := omega) only [push_cast, seval, eqB_self]) | ((with_reducible show pcall _ _ _ _ _ _); (first | (refine pcV (cf Tryz.func123) (lEqTrust_p ⟨_, _⟩) ?_) | (refine pcV (cf Tryz.func124) (lEqAnchor_p ⟨⟨_, _, _, _, _, _⟩, _⟩ sd) ?_) | (refine pcV (cf Tryz.func125) (lEqStore_p ⟨_, _⟩ sd) ?_) | (refine pcV (cf Tryz.func126) (lEqTable_p ⟨_, _⟩ sd) ?_)); (try simp (disch := omega) only [push_cast, seval, eqB_self])) | ((with_reducible refine And.intro ?_ ?_); omega))
  all_goals ((with_reducible show PPostR _ _ _ _ _ _); refine finV ?_; (try simp only [push_cast, seval]))
theorem lMarkLight_p (c : GLight) (k : Int) (hs : SmC c) (hk : 0 ≤ k ∧ k ≤ 10000000) : PCalls Tryz.prog 44 [.agg (pLiO c), .val (.int .i64 k)] (bLi c) (RH (.val (.int .i64 (k + cLight c))) (bLi (mkLight k c))) := by
  obtain ⟨h1, h2, h3⟩ := hs
  rw [show k + cLight c = k + 2 * (c.fAnchor.fNext.length : Int) + 6 * (c.fStore.fHeads.length : Int) + 4 * (c.fPeers.fPeers.length : Int) by unfold cLight; omega]
  obtain ⟨⟨tp, tl⟩, st, ⟨⟨g1, g2, g3, g4, g5, g6⟩, nx⟩, ⟨hds, sy⟩, ⟨ps, tu⟩, now⟩ := c
  dsimp only at *
  refine pcalls_ofR okP Tryz.func44 rfl ?_
  simp only [Tryz.f44, List.length_cons, List.length_nil, Nat.reduceAdd, Nat.reduceSub, List.replicate_succ, List.replicate_zero, List.cons_append, List.nil_append, List.length_map]
  repeat' (first | with_reducible (first | refine wA ?_ | refine wB ?_ | refine wC ?_ | refine w1 ?_ | refine w2 ?_ | refine w3 ?_ | refine w4 ?_ | refine w5 ?_ | refine w6 ?_ | refine w7 ?_ | refine w8 ?_ | refine wT ?_ | refine w9 ?_ | refine wE ?_ | refine wS ?_) | ((with_reducible refine hK _ ?_); clear hK K) | ((with_reducible refine pops_plain fun K hK => ?_); simp (disch := omega) only [push_cast, seval]) | ((with_reducible show pcall _ _ _ _ _ _); (first | (refine pcall_RGf (cf Tryz.func131) [?_] ?_ ?_ ?_ (lMarkAnchor_p ⟨⟨?_, ?_, ?_, ?_, ?_, ?_⟩, ?_⟩ ?_ ?_ ?_) ?_; rotate_left 1; (· ((try simp (disch := omega) only [push_cast, seval]); (repeat' (first | exact trivial | exact rfl | refine And.intro ?_ ?_ | omega)))); (· (repeat' (first | exact trivial | refine And.intro ?_ ?_ | exact ⟨_, rfl⟩ | (simp (disch := omega) only [push_cast, seval]; done) | exact rfl))); (· exact rfl); rotate_right 1; rotate_left 1; (all_goals (try (first | omega | exact (show _ = _ by assumption))))) | (refine pcall_RGf (cf Tryz.func132) [?_] ?_ ?_ ?_ (lMarkStore_p ⟨?_, ?_⟩ ?_ ?_ ?_) ?_; rotate_left 1; (· ((try simp (disch := omega) only [push_cast, seval]); (repeat' (first | exact trivial | exact rfl | refine And.intro ?_ ?_ | omega)))); (· (repeat' (first | exact trivial | refine And.intro ?_ ?_ | exact ⟨_, rfl⟩ | (simp (disch := omega) only [push_cast, seval]; done) | exact rfl))); (· exact rfl); rotate_right 1; rotate_left 1; (all_goals (try (first | omega | exact (show _ = _ by assumption))))) | (refine pcall_RGf (cf Tryz.func133) [?_] ?_ ?_ ?_ (lMarkTable_p ⟨?_, ?_⟩ ?_ ?_ ?_) ?_; rotate_left 1; (· ((try simp (disch := omega) only [push_cast, seval]); (repeat' (first | exact trivial | exact rfl | refine And.intro ?_ ?_ | omega)))); (· (repeat' (first | exact trivial | refine And.intro ?_ ?_ | exact ⟨_, rfl⟩ | (simp (disch := omega) only [push_cast, seval]; done) | exact rfl))); (· exact rfl); rotate_right 1; rotate_left 1; (all_goals (try (first | omega | exact (show _ = _ by assumption)))))); (try simp (disch := omega) only [push_cast, seval])) | ((with_reducible refine And.intro ?_ ?_); omega))
  all_goals ((with_reducible show PPostR _ _ _ _ _ _); exact finH [0, 1, 2])
theorem lHeldLight_p (c : GLight) (k : Int) (hs : SmC c) (hk : 0 ≤ k ∧ k ≤ 10000000) : PCalls Tryz.prog 45 [.agg (pLight (mkLight k c)), .val (.int .i64 k)] [] (RV (.val (.int .i64 (k + cLight c)))) := by
  obtain ⟨h1, h2, h3⟩ := hs
  rw [show k + cLight c = k + 2 * (c.fAnchor.fNext.length : Int) + 6 * (c.fStore.fHeads.length : Int) + 4 * (c.fPeers.fPeers.length : Int) by unfold cLight; omega]
  unfold mkLight mkAnchor mkStore mkTable
  obtain ⟨⟨tp, tl⟩, st, ⟨⟨g1, g2, g3, g4, g5, g6⟩, nx⟩, ⟨hds, sy⟩, ⟨ps, tu⟩, now⟩ := c
  dsimp only at *
  refine pcalls_ofR okP Tryz.func45 rfl ?_
  simp only [Tryz.f45, List.length_cons, List.length_nil, Nat.reduceAdd, Nat.reduceSub, List.replicate_succ, List.replicate_zero, List.cons_append, List.nil_append, List.length_map]
  repeat' (first | with_reducible (first | refine wA ?_ | refine wB ?_ | refine wC ?_ | refine w1 ?_ | refine w2 ?_ | refine w3 ?_ | refine w4 ?_ | refine w5 ?_ | refine w6 ?_ | refine w7 ?_ | refine w8 ?_ | refine wT ?_ | refine w9 ?_ | refine wE ?_ | refine wS ?_) | ((with_reducible refine hK _ ?_); clear hK K) | ((with_reducible refine PWp.condI ?_); refine ⟨_, rfl, fun hg => ?_, fun hg => ?_⟩ <;> first | (exact absurd hg (by decide)) | ((try simp only [Bool.not_true, Bool.not_false] at hg); (try simp only [hg]); (try simp only [push_cast] at hg); (try exact absurd trivial hg); (try (exfalso; omega)))) | ((with_reducible refine pops_plain fun K hK => ?_); simp (disch := omega) only [push_cast, seval]) | ((with_reducible show pcall _ _ _ _ _ _); (first | (refine pcV (cf Tryz.func134) (lHeldAnchor_p ⟨⟨_, _, _, _, _, _⟩, _⟩ _ sd sd) ?_) | (refine pcV (cf Tryz.func135) (lHeldStore_p ⟨_, _⟩ _ sd sd) ?_) | (refine pcV (cf Tryz.func136) (lHeldTable_p ⟨_, _⟩ _ sd sd) ?_)); (try simp (disch := omega) only [push_cast, seval])) | ((with_reducible refine And.intro ?_ ?_); omega))
  all_goals ((with_reducible show PPostR _ _ _ _ _ _); refine finV ?_; (try simp only [push_cast, seval]))
def cBlock (b : GBlock) : Int := 2 * (b.fVals.length : Int) + 2 * (b.fNext.length : Int) + 2 * (b.fCommit.fSigs.length : Int)
def mkBlk (k : Int) (b : GBlock) : GBlock := ⟨b.fHead, mkd (mkVal k) b.fVals b.fVals.length, mkd (mkVal (k + 2 * (b.fVals.length : Int))) b.fNext b.fNext.length, mkCommitM (k + 2 * (b.fVals.length : Int) + 2 * (b.fNext.length : Int)) b.fCommit⟩
theorem lToBlock_p (b : GBlock) (hs : SmB b) : PCalls Tryz.prog 39 [.agg (pBlock b)] [] (RH (.agg (pBkO b)) (bBk b)) := by
  obtain ⟨h1, h2, h3⟩ := hs
  obtain ⟨⟨a1, a2, a3, a4, a5, a6⟩, vs, nx, ⟨ch, cr, ci, cs⟩⟩ := b
  dsimp only at *
  refine pcalls_ofR okP Tryz.func39 rfl ?_
  simp only [Tryz.f39, List.length_cons, List.length_nil, Nat.reduceAdd, Nat.reduceSub, List.replicate_succ, List.replicate_zero, List.cons_append, List.nil_append, List.length_map]
  repeat' (first | with_reducible (first | refine wA ?_ | refine wB ?_ | refine wC ?_ | refine w1 ?_ | refine w2 ?_ | refine w3 ?_ | refine w4 ?_ | refine w5 ?_ | refine w6 ?_ | refine w7 ?_ | refine w8 ?_ | refine wT ?_ | refine w9 ?_ | refine wE ?_ | refine wS ?_) | ((with_reducible refine hK _ ?_); clear hK K) | ((with_reducible refine pops_plain fun K hK => ?_); simp (disch := omega) only [push_cast, seval]) | ((with_reducible show pcall _ _ _ _ _ _); (first | (refine pcF (cf Tryz.func117) (lToHeader_p ⟨_, _, _, _, _, _⟩) ?_) | (refine pcH (cf Tryz.func118) (lToValS_p _ sd) ?_) | (refine pcH (cf Tryz.func119) (lToCommit_p ⟨_, _, _, _⟩ sd) ?_)); (try simp (disch := omega) only [push_cast, seval])) | ((with_reducible refine And.intro ?_ ?_); omega))
  all_goals ((with_reducible show PPostR _ _ _ _ _ _); exact finH [_, _, _])
theorem lEqBlock_p (b : GBlock) (hs : SmB b) : PCalls Tryz.prog 42 [.agg (pBlock b), .agg (pBlock b)] [] (RV (.val (.bool true))) := by
  obtain ⟨h1, h2, h3⟩ := hs
  obtain ⟨⟨a1, a2, a3, a4, a5, a6⟩, vs, nx, ⟨ch, cr, ci, cs⟩⟩ := b
  dsimp only at *
  refine pcalls_ofR okP Tryz.func42 rfl ?_
  simp only [Tryz.f42, List.length_cons, List.length_nil, Nat.reduceAdd, Nat.reduceSub, List.replicate_succ, List.replicate_zero, List.cons_append, List.nil_append, List.length_map]
  repeat' (first | with_reducible (first | refine wA ?_ | refine wB ?_ | refine wC ?_ | refine w1 ?_ | refine w2 ?_ | refine w3 ?_ | refine w4 ?_ | refine w5 ?_ | refine w6 ?_ | refine w7 ?_ | refine w8 ?_ | refine wT ?_ | refine w9 ?_ | refine wE ?_ | refine wS ?_) | ((with_reducible refine hK _ ?_); clear hK K) | ((with_reducible refine PWp.condI ?_); refine ⟨_, rfl, fun hg => ?_, fun hg => ?_⟩ <;> first | (exact absurd hg (by decide)) | ((try simp only [Bool.not_true, Bool.not_false] at hg); (try simp only [hg]); (try simp only [push_cast] at hg); (try exact absurd trivial hg); (try (exfalso; omega)))) | ((with_reducible refine pops_plain fun K hK => ?_); simp (disch := omega) only [push_cast, seval, eqB_self]) | ((with_reducible show pcall _ _ _ _ _ _); (first | (refine pcV (cf Tryz.func127) (lEqHeader_p ⟨_, _, _, _, _, _⟩) ?_) | (refine pcV (cf Tryz.func128) (lEqValS_p _ sd) ?_) | (refine pcV (cf Tryz.func129) (lEqCommit_p ⟨_, _, _, _⟩ sd) ?_)); (try simp (disch := omega) only [push_cast, seval, eqB_self])) | ((with_reducible refine And.intro ?_ ?_); omega))
  all_goals ((with_reducible show PPostR _ _ _ _ _ _); refine finV ?_; (try simp only [push_cast, seval]))
structure OkBlock (b : GBlock) : Prop where
  h : OkHeader b.fHead
  v : b.fVals.length ≤ 9223372036854775807
  n : b.fNext.length ≤ 9223372036854775807
  s : b.fCommit.fSigs.length ≤ 9223372036854775807
  g : ∀ x ∈ b.fCommit.fSigs, OkCSig x
  i : b.fCommit.fId.size ≤ 9223372036854775807
structure OkLight (c : GLight) : Prop where
  h : OkHeader c.fAnchor.fHead
  n : c.fAnchor.fNext.length ≤ 9223372036854775807
  s : c.fStore.fHeads.length ≤ 9223372036854775807
  g : ∀ x ∈ c.fStore.fHeads, OkHeader x
  p : c.fPeers.fPeers.length ≤ 9223372036854775807
theorem lSzCommit_p (x : GCommit) (left : Int) (h1 : x.fSigs.length ≤ 9223372036854775807) (h2 : ∀ s ∈ x.fSigs, OkCSig s) (h3 : x.fId.size ≤ 9223372036854775807) (h0 : 0 ≤ left ∧ left ≤ 1048576) : PCalls Tryz.prog 115 [.agg (pCommit x), .val (.int .i64 left)] [] (RX (α := Int) (fun x => .val (.int .i64 x)) (fun _ => []) fun y => SzOk x.fSigs.length left y) := by
  have hct := fun y (h0 : 0 ≤ y ∧ y ≤ 1048576) => lSzCSigS_p x.fSigs y h1 h2 h0
  refine pcalls_ofR okP Tryz.func115 rfl ?_
  simp only [Tryz.f115, List.length_cons, List.length_nil, Nat.reduceAdd, Nat.reduceSub, List.replicate_succ, List.replicate_zero, List.cons_append, List.nil_append, List.length_map]
  repeat' (first | with_reducible (first | refine wA ?_ | refine wB ?_ | refine wC ?_ | refine w1 ?_ | refine w2 ?_ | refine w3 ?_ | refine w4 ?_ | refine w5 ?_ | refine w6 ?_ | refine w7 ?_ | refine w8 ?_ | refine wT ?_ | refine w9 ?_ | refine wE ?_ | refine wS ?_) | ((with_reducible refine hK _ ?_); clear hK K) | ((with_reducible refine PWp.condI ?_); refine ⟨_, rfl, fun hg => ?_, fun hg => ?_⟩ <;> first | (exact absurd hg (by decide)) | ((try simp only [Bool.not_true, Bool.not_false] at hg); (try simp only [hg]); (try simp only [push_cast] at hg); (try exact absurd trivial hg); (try (exfalso; omega)))) | ((with_reducible refine pops_plain fun K hK => ?_); simp (disch := omega) only [push_cast, seval]) | ((with_reducible show pcall _ _ _ _ _ _); (first | (refine pcall_X1 (cf Tryz.func200) (by ((try simp (disch := omega) only [push_cast, seval]); first | done | exact rfl)) (hct _ sd) ?_; rintro y2 hy3)); (try simp (disch := omega) only [push_cast, seval])) | ((with_reducible refine And.intro ?_ ?_); omega))
  all_goals
    ((first | with_reducible (first | refine pendX1 ?_ [] ?_ ?_ ?_ ?_ ?_ ?_ | refine pendX2 ?_ [] ?_ ?_ ?_ ?_ ?_ ?_ | refine pendX3 ?_ [] ?_ ?_ ?_ ?_ ?_ ?_ | refine pendX0 ?_ [] ?_ ?_ ?_ ?_ ?_ ?_) | refine pendXG ?_ [] ?_ ?_ ?_ ?_ ?_ ?_); (try (any_goals ((with_reducible show ∃ _ : List PV, _); (apply Exists.intro; apply And.intro; (· repeat' (first | exact presults_nil | apply presults_tmp | (apply presults_agg; (· exact rfl); (· exact rfl); (· exact rfl); (· exact rfl); (· exact rfl); (· first | exact Nat.le_refl _ | decide | simp)) | (apply presults_one; (· exact rfl); (· exact rfl); (· exact rfl); (· exact rfl); (· exact rfl)))))))); (any_goals ((with_reducible show _ ∨ _); (first | exact Or.inl rfl | exact Or.inr rfl))); (any_goals ((with_reducible show (_ : PV) = _); ((try simp (disch := omega) only [push_cast, seval]); (repeat' (first | exact trivial | exact rfl | refine And.intro ?_ ?_ | omega))))); (any_goals ((with_reducible show blkR _ _ _ _ _); ((try simp (disch := omega) only [push_cast, seval]); (repeat' (first | exact trivial | exact rfl | refine And.intro ?_ ?_ | omega))))); (any_goals ((with_reducible show nodupR _ = true); exact rfl)); (any_goals ((with_reducible show preR _ _); (first | exact trivial | exact ⟨rfl, trivial⟩ | exact ⟨rfl, rfl, trivial⟩ | exact ⟨rfl, rfl, rfl, trivial⟩))))
    intro h
    omega
theorem lSzBlock_p (b : GBlock) (left : Int) (ok : OkBlock b) (h0 : 0 ≤ left ∧ left ≤ 1048576) : PCalls Tryz.prog 36 [.agg (pBlock b), .val (.int .i64 left)] [] (RX (α := Int) (fun x => .val (.int .i64 x)) (fun _ => []) fun y => (0 ≤ y → y ≤ left) ∧ (0 ≤ y → SmB b)) := by
  obtain ⟨q1, q2, q3, q4, q5, q6⟩ := ok
  have c1 := fun y (h0 : 0 ≤ y ∧ y ≤ 1048576) => lSzHeader_p b.fHead y q1 h0
  have c2 := fun y (h0 : 0 ≤ y ∧ y ≤ 1048576) => lSzValS_p b.fVals y q2 h0
  have c3 := fun y (h0 : 0 ≤ y ∧ y ≤ 1048576) => lSzValS_p b.fNext y q3 h0
  have c4 := fun y (h0 : 0 ≤ y ∧ y ≤ 1048576) => lSzCommit_p b.fCommit y q4 q5 q6 h0
  refine pcalls_ofR okP Tryz.func36 rfl ?_
  simp only [Tryz.f36, List.length_cons, List.length_nil, Nat.reduceAdd, Nat.reduceSub, List.replicate_succ, List.replicate_zero, List.cons_append, List.nil_append, List.length_map]
  repeat' (first | with_reducible (first | refine wA ?_ | refine wB ?_ | refine wC ?_ | refine w1 ?_ | refine w2 ?_ | refine w3 ?_ | refine w4 ?_ | refine w5 ?_ | refine w6 ?_ | refine w7 ?_ | refine w8 ?_ | refine wT ?_ | refine w9 ?_ | refine wE ?_ | refine wS ?_) | ((with_reducible refine hK _ ?_); clear hK K) | ((with_reducible refine PWp.condI ?_); refine ⟨_, rfl, fun hg => ?_, fun hg => ?_⟩ <;> first | (exact absurd hg (by decide)) | ((try simp only [Bool.not_true, Bool.not_false] at hg); (try simp only [hg]); (try simp only [push_cast] at hg); (try exact absurd trivial hg); (try (exfalso; omega)))) | ((with_reducible refine pops_plain fun K hK => ?_); simp (disch := omega) only [push_cast, seval]) | ((with_reducible show pcall _ _ _ _ _ _); (first | (refine pcall_X1 (cf Tryz.func113) (by ((try simp (disch := omega) only [push_cast, seval]); first | done | exact rfl)) (c1 _ sd) ?_; rintro y2 hy3) | (refine pcall_X1 (cf Tryz.func114) (by ((try simp (disch := omega) only [push_cast, seval]); first | done | exact rfl)) (c2 _ sd) ?_; rintro y2 hy3) | (refine pcall_X1 (cf Tryz.func114) (by ((try simp (disch := omega) only [push_cast, seval]); first | done | exact rfl)) (c3 _ sd) ?_; rintro y2 hy3) | (refine pcall_X1 (cf Tryz.func115) (by ((try simp (disch := omega) only [push_cast, seval]); first | done | exact rfl)) (c4 _ sd) ?_; rintro y2 hy3)); (try simp (disch := omega) only [push_cast, seval])) | ((with_reducible refine And.intro ?_ ?_); omega))
  all_goals
    ((first | with_reducible (first | refine pendX1 ?_ [] ?_ ?_ ?_ ?_ ?_ ?_ | refine pendX2 ?_ [] ?_ ?_ ?_ ?_ ?_ ?_ | refine pendX3 ?_ [] ?_ ?_ ?_ ?_ ?_ ?_ | refine pendX0 ?_ [] ?_ ?_ ?_ ?_ ?_ ?_) | refine pendXG ?_ [] ?_ ?_ ?_ ?_ ?_ ?_); (try (any_goals ((with_reducible show ∃ _ : List PV, _); (apply Exists.intro; apply And.intro; (· repeat' (first | exact presults_nil | apply presults_tmp | (apply presults_agg; (· exact rfl); (· exact rfl); (· exact rfl); (· exact rfl); (· exact rfl); (· first | exact Nat.le_refl _ | decide | simp)) | (apply presults_one; (· exact rfl); (· exact rfl); (· exact rfl); (· exact rfl); (· exact rfl)))))))); (any_goals ((with_reducible show _ ∨ _); (first | exact Or.inl rfl | exact Or.inr rfl))); (any_goals ((with_reducible show (_ : PV) = _); ((try simp (disch := omega) only [push_cast, seval]); (repeat' (first | exact trivial | exact rfl | refine And.intro ?_ ?_ | omega))))); (any_goals ((with_reducible show blkR _ _ _ _ _); ((try simp (disch := omega) only [push_cast, seval]); (repeat' (first | exact trivial | exact rfl | refine And.intro ?_ ?_ | omega))))); (any_goals ((with_reducible show nodupR _ = true); exact rfl)); (any_goals ((with_reducible show preR _ _); (first | exact trivial | exact ⟨rfl, trivial⟩ | exact ⟨rfl, rfl, trivial⟩ | exact ⟨rfl, rfl, rfl, trivial⟩))))
    exact ⟨fun h => by omega, fun h => ⟨by omega, by omega, by omega⟩⟩
theorem lSzAnchor_p (x : GAnchor) (left : Int) (q1 : OkHeader x.fHead) (q2 : x.fNext.length ≤ 9223372036854775807) (h0 : 0 ≤ left ∧ left ≤ 1048576) : PCalls Tryz.prog 137 [.agg (pAnchor x), .val (.int .i64 left)] [] (RX (α := Int) (fun x => .val (.int .i64 x)) (fun _ => []) fun y => SzOk x.fNext.length left y) := by
  have c1 := fun y (h0 : 0 ≤ y ∧ y ≤ 1048576) => lSzHeader_p x.fHead y q1 h0
  have c2 := fun y (h0 : 0 ≤ y ∧ y ≤ 1048576) => lSzValS_p x.fNext y q2 h0
  refine pcalls_ofR okP Tryz.func137 rfl ?_
  simp only [Tryz.f137, List.length_cons, List.length_nil, Nat.reduceAdd, Nat.reduceSub, List.replicate_succ, List.replicate_zero, List.cons_append, List.nil_append, List.length_map]
  repeat' (first | with_reducible (first | refine wA ?_ | refine wB ?_ | refine wC ?_ | refine w1 ?_ | refine w2 ?_ | refine w3 ?_ | refine w4 ?_ | refine w5 ?_ | refine w6 ?_ | refine w7 ?_ | refine w8 ?_ | refine wT ?_ | refine w9 ?_ | refine wE ?_ | refine wS ?_) | ((with_reducible refine hK _ ?_); clear hK K) | ((with_reducible refine PWp.condI ?_); refine ⟨_, rfl, fun hg => ?_, fun hg => ?_⟩ <;> first | (exact absurd hg (by decide)) | ((try simp only [Bool.not_true, Bool.not_false] at hg); (try simp only [hg]); (try simp only [push_cast] at hg); (try exact absurd trivial hg); (try (exfalso; omega)))) | ((with_reducible refine pops_plain fun K hK => ?_); simp (disch := omega) only [push_cast, seval]) | ((with_reducible show pcall _ _ _ _ _ _); (first | (refine pcall_X1 (cf Tryz.func113) (by ((try simp (disch := omega) only [push_cast, seval]); first | done | exact rfl)) (c1 _ sd) ?_; rintro y2 hy3) | (refine pcall_X1 (cf Tryz.func114) (by ((try simp (disch := omega) only [push_cast, seval]); first | done | exact rfl)) (c2 _ sd) ?_; rintro y2 hy3)); (try simp (disch := omega) only [push_cast, seval])) | ((with_reducible refine And.intro ?_ ?_); omega))
  all_goals
    ((first | with_reducible (first | refine pendX1 ?_ [] ?_ ?_ ?_ ?_ ?_ ?_ | refine pendX2 ?_ [] ?_ ?_ ?_ ?_ ?_ ?_ | refine pendX3 ?_ [] ?_ ?_ ?_ ?_ ?_ ?_ | refine pendX0 ?_ [] ?_ ?_ ?_ ?_ ?_ ?_) | refine pendXG ?_ [] ?_ ?_ ?_ ?_ ?_ ?_); (try (any_goals ((with_reducible show ∃ _ : List PV, _); (apply Exists.intro; apply And.intro; (· repeat' (first | exact presults_nil | apply presults_tmp | (apply presults_agg; (· exact rfl); (· exact rfl); (· exact rfl); (· exact rfl); (· exact rfl); (· first | exact Nat.le_refl _ | decide | simp)) | (apply presults_one; (· exact rfl); (· exact rfl); (· exact rfl); (· exact rfl); (· exact rfl)))))))); (any_goals ((with_reducible show _ ∨ _); (first | exact Or.inl rfl | exact Or.inr rfl))); (any_goals ((with_reducible show (_ : PV) = _); ((try simp (disch := omega) only [push_cast, seval]); (repeat' (first | exact trivial | exact rfl | refine And.intro ?_ ?_ | omega))))); (any_goals ((with_reducible show blkR _ _ _ _ _); ((try simp (disch := omega) only [push_cast, seval]); (repeat' (first | exact trivial | exact rfl | refine And.intro ?_ ?_ | omega))))); (any_goals ((with_reducible show nodupR _ = true); exact rfl)); (any_goals ((with_reducible show preR _ _); (first | exact trivial | exact ⟨rfl, trivial⟩ | exact ⟨rfl, rfl, trivial⟩ | exact ⟨rfl, rfl, rfl, trivial⟩))))
    intro h
    omega
theorem lSzStore_p (x : GStore) (left : Int) (q1 : x.fHeads.length ≤ 9223372036854775807) (q2 : ∀ h ∈ x.fHeads, OkHeader h) (h0 : 0 ≤ left ∧ left ≤ 1048576) : PCalls Tryz.prog 138 [.agg (pStore x), .val (.int .i64 left)] [] (RX (α := Int) (fun x => .val (.int .i64 x)) (fun _ => []) fun y => SzOk x.fHeads.length left y) := by
  have c1 := fun y (h0 : 0 ≤ y ∧ y ≤ 1048576) => lSzHeaderS_p x.fHeads y q1 q2 h0
  refine pcalls_ofR okP Tryz.func138 rfl ?_
  simp only [Tryz.f138, List.length_cons, List.length_nil, Nat.reduceAdd, Nat.reduceSub, List.replicate_succ, List.replicate_zero, List.cons_append, List.nil_append, List.length_map]
  repeat' (first | with_reducible (first | refine wA ?_ | refine wB ?_ | refine wC ?_ | refine w1 ?_ | refine w2 ?_ | refine w3 ?_ | refine w4 ?_ | refine w5 ?_ | refine w6 ?_ | refine w7 ?_ | refine w8 ?_ | refine wT ?_ | refine w9 ?_ | refine wE ?_ | refine wS ?_) | ((with_reducible refine hK _ ?_); clear hK K) | ((with_reducible refine PWp.condI ?_); refine ⟨_, rfl, fun hg => ?_, fun hg => ?_⟩ <;> first | (exact absurd hg (by decide)) | ((try simp only [Bool.not_true, Bool.not_false] at hg); (try simp only [hg]); (try simp only [push_cast] at hg); (try exact absurd trivial hg); (try (exfalso; omega)))) | ((with_reducible refine pops_plain fun K hK => ?_); simp (disch := omega) only [push_cast, seval]) | ((with_reducible show pcall _ _ _ _ _ _); (first | (refine pcall_X1 (cf Tryz.func216) (by ((try simp (disch := omega) only [push_cast, seval]); first | done | exact rfl)) (c1 _ sd) ?_; rintro y2 hy3)); (try simp (disch := omega) only [push_cast, seval])) | ((with_reducible refine And.intro ?_ ?_); omega))
  all_goals
    ((first | with_reducible (first | refine pendX1 ?_ [] ?_ ?_ ?_ ?_ ?_ ?_ | refine pendX2 ?_ [] ?_ ?_ ?_ ?_ ?_ ?_ | refine pendX3 ?_ [] ?_ ?_ ?_ ?_ ?_ ?_ | refine pendX0 ?_ [] ?_ ?_ ?_ ?_ ?_ ?_) | refine pendXG ?_ [] ?_ ?_ ?_ ?_ ?_ ?_); (try (any_goals ((with_reducible show ∃ _ : List PV, _); (apply Exists.intro; apply And.intro; (· repeat' (first | exact presults_nil | apply presults_tmp | (apply presults_agg; (· exact rfl); (· exact rfl); (· exact rfl); (· exact rfl); (· exact rfl); (· first | exact Nat.le_refl _ | decide | simp)) | (apply presults_one; (· exact rfl); (· exact rfl); (· exact rfl); (· exact rfl); (· exact rfl)))))))); (any_goals ((with_reducible show _ ∨ _); (first | exact Or.inl rfl | exact Or.inr rfl))); (any_goals ((with_reducible show (_ : PV) = _); ((try simp (disch := omega) only [push_cast, seval]); (repeat' (first | exact trivial | exact rfl | refine And.intro ?_ ?_ | omega))))); (any_goals ((with_reducible show blkR _ _ _ _ _); ((try simp (disch := omega) only [push_cast, seval]); (repeat' (first | exact trivial | exact rfl | refine And.intro ?_ ?_ | omega))))); (any_goals ((with_reducible show nodupR _ = true); exact rfl)); (any_goals ((with_reducible show preR _ _); (first | exact trivial | exact ⟨rfl, trivial⟩ | exact ⟨rfl, rfl, trivial⟩ | exact ⟨rfl, rfl, rfl, trivial⟩))))
    intro h
    omega
theorem lSzTable_p (x : GTable) (left : Int) (q1 : x.fPeers.length ≤ 9223372036854775807) (h0 : 0 ≤ left ∧ left ≤ 1048576) : PCalls Tryz.prog 139 [.agg (pTable x), .val (.int .i64 left)] [] (RX (α := Int) (fun x => .val (.int .i64 x)) (fun _ => []) fun y => SzOk x.fPeers.length left y) := by
  have c1 := fun y (h0 : 0 ≤ y ∧ y ≤ 1048576) => lSzPeerS_p x.fPeers y q1 h0
  refine pcalls_ofR okP Tryz.func139 rfl ?_
  simp only [Tryz.f139, List.length_cons, List.length_nil, Nat.reduceAdd, Nat.reduceSub, List.replicate_succ, List.replicate_zero, List.cons_append, List.nil_append, List.length_map]
  repeat' (first | with_reducible (first | refine wA ?_ | refine wB ?_ | refine wC ?_ | refine w1 ?_ | refine w2 ?_ | refine w3 ?_ | refine w4 ?_ | refine w5 ?_ | refine w6 ?_ | refine w7 ?_ | refine w8 ?_ | refine wT ?_ | refine w9 ?_ | refine wE ?_ | refine wS ?_) | ((with_reducible refine hK _ ?_); clear hK K) | ((with_reducible refine PWp.condI ?_); refine ⟨_, rfl, fun hg => ?_, fun hg => ?_⟩ <;> first | (exact absurd hg (by decide)) | ((try simp only [Bool.not_true, Bool.not_false] at hg); (try simp only [hg]); (try simp only [push_cast] at hg); (try exact absurd trivial hg); (try (exfalso; omega)))) | ((with_reducible refine pops_plain fun K hK => ?_); simp (disch := omega) only [push_cast, seval]) | ((with_reducible show pcall _ _ _ _ _ _); (first | (refine pcall_X1 (cf Tryz.func217) (by ((try simp (disch := omega) only [push_cast, seval]); first | done | exact rfl)) (c1 _ sd) ?_; rintro y2 hy3)); (try simp (disch := omega) only [push_cast, seval])) | ((with_reducible refine And.intro ?_ ?_); omega))
  all_goals
    ((first | with_reducible (first | refine pendX1 ?_ [] ?_ ?_ ?_ ?_ ?_ ?_ | refine pendX2 ?_ [] ?_ ?_ ?_ ?_ ?_ ?_ | refine pendX3 ?_ [] ?_ ?_ ?_ ?_ ?_ ?_ | refine pendX0 ?_ [] ?_ ?_ ?_ ?_ ?_ ?_) | refine pendXG ?_ [] ?_ ?_ ?_ ?_ ?_ ?_); (try (any_goals ((with_reducible show ∃ _ : List PV, _); (apply Exists.intro; apply And.intro; (· repeat' (first | exact presults_nil | apply presults_tmp | (apply presults_agg; (· exact rfl); (· exact rfl); (· exact rfl); (· exact rfl); (· exact rfl); (· first | exact Nat.le_refl _ | decide | simp)) | (apply presults_one; (· exact rfl); (· exact rfl); (· exact rfl); (· exact rfl); (· exact rfl)))))))); (any_goals ((with_reducible show _ ∨ _); (first | exact Or.inl rfl | exact Or.inr rfl))); (any_goals ((with_reducible show (_ : PV) = _); ((try simp (disch := omega) only [push_cast, seval]); (repeat' (first | exact trivial | exact rfl | refine And.intro ?_ ?_ | omega))))); (any_goals ((with_reducible show blkR _ _ _ _ _); ((try simp (disch := omega) only [push_cast, seval]); (repeat' (first | exact trivial | exact rfl | refine And.intro ?_ ?_ | omega))))); (any_goals ((with_reducible show nodupR _ = true); exact rfl)); (any_goals ((with_reducible show preR _ _); (first | exact trivial | exact ⟨rfl, trivial⟩ | exact ⟨rfl, rfl, trivial⟩ | exact ⟨rfl, rfl, rfl, trivial⟩))))
    intro h
    omega
theorem lSzLight_p (c : GLight) (left : Int) (ok : OkLight c) (h0 : 0 ≤ left ∧ left ≤ 1048576) : PCalls Tryz.prog 46 [.agg (pLight c), .val (.int .i64 left)] [] (RX (α := Int) (fun x => .val (.int .i64 x)) (fun _ => []) fun y => (0 ≤ y → y ≤ left) ∧ (0 ≤ y → SmC c)) := by
  obtain ⟨q1, q2, q3, q4, q5⟩ := ok
  have c1 := fun y (h0 : 0 ≤ y ∧ y ≤ 1048576) => lSzAnchor_p c.fAnchor y q1 q2 h0
  have c2 := fun y (h0 : 0 ≤ y ∧ y ≤ 1048576) => lSzStore_p c.fStore y q3 q4 h0
  have c3 := fun y (h0 : 0 ≤ y ∧ y ≤ 1048576) => lSzTable_p c.fPeers y q5 h0
  refine pcalls_ofR okP Tryz.func46 rfl ?_
  simp only [Tryz.f46, List.length_cons, List.length_nil, Nat.reduceAdd, Nat.reduceSub, List.replicate_succ, List.replicate_zero, List.cons_append, List.nil_append, List.length_map]
  repeat' (first | with_reducible (first | refine wA ?_ | refine wB ?_ | refine wC ?_ | refine w1 ?_ | refine w2 ?_ | refine w3 ?_ | refine w4 ?_ | refine w5 ?_ | refine w6 ?_ | refine w7 ?_ | refine w8 ?_ | refine wT ?_ | refine w9 ?_ | refine wE ?_ | refine wS ?_) | ((with_reducible refine hK _ ?_); clear hK K) | ((with_reducible refine PWp.condI ?_); refine ⟨_, rfl, fun hg => ?_, fun hg => ?_⟩ <;> first | (exact absurd hg (by decide)) | ((try simp only [Bool.not_true, Bool.not_false] at hg); (try simp only [hg]); (try simp only [push_cast] at hg); (try exact absurd trivial hg); (try (exfalso; omega)))) | ((with_reducible refine pops_plain fun K hK => ?_); simp (disch := omega) only [push_cast, seval]) | ((with_reducible show pcall _ _ _ _ _ _); (first | (refine pcall_X1 (cf Tryz.func137) (by ((try simp (disch := omega) only [push_cast, seval]); first | done | exact rfl)) (c1 _ sd) ?_; rintro y2 hy3) | (refine pcall_X1 (cf Tryz.func138) (by ((try simp (disch := omega) only [push_cast, seval]); first | done | exact rfl)) (c2 _ sd) ?_; rintro y2 hy3) | (refine pcall_X1 (cf Tryz.func139) (by ((try simp (disch := omega) only [push_cast, seval]); first | done | exact rfl)) (c3 _ sd) ?_; rintro y2 hy3)); (try simp (disch := omega) only [push_cast, seval])) | ((with_reducible refine And.intro ?_ ?_); omega))
  all_goals
    ((first | with_reducible (first | refine pendX1 ?_ [] ?_ ?_ ?_ ?_ ?_ ?_ | refine pendX2 ?_ [] ?_ ?_ ?_ ?_ ?_ ?_ | refine pendX3 ?_ [] ?_ ?_ ?_ ?_ ?_ ?_ | refine pendX0 ?_ [] ?_ ?_ ?_ ?_ ?_ ?_) | refine pendXG ?_ [] ?_ ?_ ?_ ?_ ?_ ?_); (try (any_goals ((with_reducible show ∃ _ : List PV, _); (apply Exists.intro; apply And.intro; (· repeat' (first | exact presults_nil | apply presults_tmp | (apply presults_agg; (· exact rfl); (· exact rfl); (· exact rfl); (· exact rfl); (· exact rfl); (· first | exact Nat.le_refl _ | decide | simp)) | (apply presults_one; (· exact rfl); (· exact rfl); (· exact rfl); (· exact rfl); (· exact rfl)))))))); (any_goals ((with_reducible show _ ∨ _); (first | exact Or.inl rfl | exact Or.inr rfl))); (any_goals ((with_reducible show (_ : PV) = _); ((try simp (disch := omega) only [push_cast, seval]); (repeat' (first | exact trivial | exact rfl | refine And.intro ?_ ?_ | omega))))); (any_goals ((with_reducible show blkR _ _ _ _ _); ((try simp (disch := omega) only [push_cast, seval]); (repeat' (first | exact trivial | exact rfl | refine And.intro ?_ ?_ | omega))))); (any_goals ((with_reducible show nodupR _ = true); exact rfl)); (any_goals ((with_reducible show preR _ _); (first | exact trivial | exact ⟨rfl, trivial⟩ | exact ⟨rfl, rfl, trivial⟩ | exact ⟨rfl, rfl, rfl, trivial⟩))))
    exact ⟨fun h => by omega, fun h => ⟨by omega, by omega, by omega⟩⟩
end Go.Proofs.YtiboajlnjldalaaGreatDoor
namespace Go.Proofs.YtiboajlnjldalaaGreatDoor
set_option linter.unusedSimpArgs false
set_option linter.unusedVariables false
open Go.RowKit
set_option maxRecDepth 100000
def nil2 (R : PV → PV → Prop) : List PV → List PV → Prop
  | [], [] => True
  | a :: u, b :: v => R a b ∧ nil2 R u v
  | _, _ => False
def nilTo (n : Nat) : Nat → PV → PV → Prop
  | 0, p, q => p = q
  | d + 1, p, q => p = q ∨ (p = .val (.slice none 0 0) ∧ q = .own n) ∨ (∃ fs gs, p = .agg fs ∧ q = .agg gs ∧ nil2 (nilTo n d) fs gs) ∨ (∃ fs gs, p = .tup fs ∧ q = .tup gs ∧ nil2 (nilTo n d) fs gs)
theorem nil2_len {R : PV → PV → Prop} : ∀ {fs gs : List PV}, nil2 R fs gs → fs.length = gs.length
  | [], [], _ => rfl
  | _ :: _, _ :: _, h => by rw [List.length_cons, List.length_cons, nil2_len h.2]
  | [], _ :: _, h => h.elim
  | _ :: _, [], h => h.elim
theorem nil2_get {R : PV → PV → Prop} : ∀ {fs gs : List PV}, nil2 R fs gs → ∀ (i : Nat) b, gs[i]? = some b → ∃ a, fs[i]? = some a ∧ R a b
  | [], [], _, i, b, q => by simp at q
  | x :: _, y :: _, h, 0, b, q => by simp at q; subst q; exact ⟨x, rfl, h.1⟩
  | x :: _, y :: _, h, i + 1, b, q => nil2_get h.2 i b (by simpa using q)
  | [], _ :: _, h, _, _, _ => h.elim
  | _ :: _, [], h, _, _, _ => h.elim
theorem nilTo_vr {M : Mem} {h h' : Home} {n : Nat} (hh : HLe h h') (hn : h' n = some (.slice none 0 0)) : ∀ (d : Nat) {p q : PV} {v : Value}, nilTo n d p q → VR M h p v → VR M h' q v
  | 0, p, q, v, e, r => by
    have e : p = q := e
    subst e
    exact r.mono (.refl _) hh
  | d + 1, p, q, v, e, r => by
    rcases e with e | ⟨e1, e2⟩ | ⟨fs, gs, e1, e2, e3⟩ | ⟨fs, gs, e1, e2, e3⟩
    · subst e
      exact r.mono (.refl _) hh
    · subst e1; subst e2
      have := vr_val r
      subst this
      exact .own _ none 0 0 hn
    · subst e1; subst e2
      cases r with
      | agg _ vs h1 h2 =>
        refine .agg _ _ ((nil2_len e3).symm.trans h1) fun i pv u a b => ?_
        obtain ⟨x, hx, hr⟩ := nil2_get e3 i pv a
        exact nilTo_vr hh hn d hr (h2 i x u hx b)
    · subst e1; subst e2
      cases r with
      | tup _ vs h1 h2 =>
        refine .tup _ _ ((nil2_len e3).symm.trans h1) fun i pv u a b => ?_
        obtain ⟨x, hx, hr⟩ := nil2_get e3 i pv a
        exact nilTo_vr hh hn d hr (h2 i x u hx b)
theorem PCalls.nilUp {P : Program} {f : FuncId} {args : List PV} {H0 : Hp} {R R' : PV → Hp → Prop} (c : PCalls P f args H0 R) (e : TypeId) (sz : Nat) (hR : ∀ r H, R r H → ∃ r', nilTo H.length 3 r r' ∧ R' r' (H ++ [some (.row e sz [])])) : PCalls P f args H0 R' := by
  intro M hh w vs I rv
  refine (c M hh w vs I rv).mono fun e' w' ⟨v, M', h', pv, H', a, b, r, s⟩ => ?_
  obtain ⟨r', g1, g2⟩ := hR pv H' b
  have st := nil_push s.inv e sz
  exact ⟨v, M', _, r', _, a, g2, nilTo_vr st.hle upd_self 3 g1 r, s.trans st⟩
theorem li0_up {P : Program} {f : FuncId} {args : List PV} {H0 : Hp} {u : Value} (c0 : PCalls P f args H0 (RH (.tup [.agg [.val (.int .i64 0), .val (.int .i64 0), .val (.int .i64 0), .val (.int .i64 0), .val (.int .i64 0), .val (.string ⟨#[]⟩), .val (.string ⟨#[]⟩), .val (.string ⟨#[]⟩), .val (.string ⟨#[]⟩), .val (.slice none 0 0), .val (.slice none 0 0), .val (.int .i64 0), .val (.slice none 0 0), .val (.int .i64 0), .val (.int .i64 0)], .val u]) [])) : PCalls P f args H0 (RH (.tup [.agg (pLiO light0), .val u]) (bLi light0)) := by
  have c1 := c0.nilUp (R' := RH (.tup [.agg [.val (.int .i64 0), .val (.int .i64 0), .val (.int .i64 0), .val (.int .i64 0), .val (.int .i64 0), .val (.string ⟨#[]⟩), .val (.string ⟨#[]⟩), .val (.string ⟨#[]⟩), .val (.string ⟨#[]⟩), .own 0, .val (.slice none 0 0), .val (.int .i64 0), .val (.slice none 0 0), .val (.int .i64 0), .val (.int .i64 0)], .val u]) [some (.row 141 2 [])]) 141 2 fun r H ⟨a, b⟩ => by
    subst a; subst b
    refine ⟨_, ?_, rfl, rfl⟩
    (refine .inr (.inr (.inr ⟨_, _, rfl, rfl, ?_⟩)); refine ⟨.inr (.inr (.inl ⟨_, _, rfl, rfl, ?_⟩)), .inl rfl, trivial⟩; (repeat' (first | exact trivial | refine And.intro ?_ ?_ | exact Or.inl rfl | exact Or.inr (Or.inl ⟨rfl, rfl⟩))))
  have c2 := c1.nilUp (R' := RH (.tup [.agg [.val (.int .i64 0), .val (.int .i64 0), .val (.int .i64 0), .val (.int .i64 0), .val (.int .i64 0), .val (.string ⟨#[]⟩), .val (.string ⟨#[]⟩), .val (.string ⟨#[]⟩), .val (.string ⟨#[]⟩), .own 0, .own 1, .val (.int .i64 0), .val (.slice none 0 0), .val (.int .i64 0), .val (.int .i64 0)], .val u]) [some (.row 141 2 []), some (.row 30 6 [])]) 30 6 fun r H ⟨a, b⟩ => by
    subst a; subst b
    refine ⟨_, ?_, rfl, rfl⟩
    (refine .inr (.inr (.inr ⟨_, _, rfl, rfl, ?_⟩)); refine ⟨.inr (.inr (.inl ⟨_, _, rfl, rfl, ?_⟩)), .inl rfl, trivial⟩; (repeat' (first | exact trivial | refine And.intro ?_ ?_ | exact Or.inl rfl | exact Or.inr (Or.inl ⟨rfl, rfl⟩))))
  have c3 := c2.nilUp (R' := RH (.tup [.agg [.val (.int .i64 0), .val (.int .i64 0), .val (.int .i64 0), .val (.int .i64 0), .val (.int .i64 0), .val (.string ⟨#[]⟩), .val (.string ⟨#[]⟩), .val (.string ⟨#[]⟩), .val (.string ⟨#[]⟩), .own 0, .own 1, .val (.int .i64 0), .own 2, .val (.int .i64 0), .val (.int .i64 0)], .val u]) [some (.row 141 2 []), some (.row 30 6 []), some (.row 211 4 [])]) 211 4 fun r H ⟨a, b⟩ => by
    subst a; subst b
    refine ⟨_, ?_, rfl, rfl⟩
    (refine .inr (.inr (.inr ⟨_, _, rfl, rfl, ?_⟩)); refine ⟨.inr (.inr (.inl ⟨_, _, rfl, rfl, ?_⟩)), .inl rfl, trivial⟩; (repeat' (first | exact trivial | refine And.intro ?_ ?_ | exact Or.inl rfl | exact Or.inr (Or.inl ⟨rfl, rfl⟩))))
  exact c3
end Go.Proofs.YtiboajlnjldalaaGreatDoor
namespace Go.Proofs.YtiboajlnjldalaaGreatDoor
set_option linter.unusedSimpArgs false
set_option linter.unusedVariables false
open Go.RowKit
set_option maxRecDepth 1000000
def pLiX (c : GLight) (x y z : PV) : List PV := [.val (.int .i64 c.fTrust.fPeriod), .val (.int .i64 c.fTrust.fSlack), .val (.int .i64 c.fState), .val (.int .i64 c.fAnchor.fHead.fHeight), .val (.int .i64 c.fAnchor.fHead.fTime), .val (.string c.fAnchor.fHead.fLast), .val (.string c.fAnchor.fHead.fVals), .val (.string c.fAnchor.fHead.fNext), .val (.string c.fAnchor.fHead.fData), x, y, .val (.int .i64 c.fStore.fSynced), z, .val (.int .i64 c.fPeers.fTurn), .val (.int .i64 c.fNow)]
def pBkX (b : GBlock) (x y z : PV) : List PV := [.val (.int .i64 b.fHead.fHeight), .val (.int .i64 b.fHead.fTime), .val (.string b.fHead.fLast), .val (.string b.fHead.fVals), .val (.string b.fHead.fNext), .val (.string b.fHead.fData), x, y, .val (.int .i64 b.fCommit.fHeight), .val (.int .i64 b.fCommit.fRound), .val (.string b.fCommit.fId), z]
attribute [push_cast] pLiX pBkX
theorem cBlock_pos (b : GBlock) : 0 ≤ cBlock b := by unfold cBlock; omega
theorem cLight_pos (c : GLight) : 0 ≤ cLight c := by unfold cLight; omega
end Go.Proofs.YtiboajlnjldalaaGreatDoor
namespace Go.Proofs.YtiboajlnjldalaaGreatDoor
theorem idx_modify {α : Type} {p : α → Bool} {f : α → α} (h : ∀ x, p (f x) = p x) : ∀ (l : List α) (k : Nat), idx p (l.modify k f) = idx p l
  | [], k => by cases k <;> rfl
  | x :: xs, 0 => by simp only [List.modify_zero_cons]; unfold idx; rw [h]
  | x :: xs, k + 1 => by
    simp only [List.modify_succ_cons]
    have := idx_modify h xs k
    unfold idx
    rw [this]
theorem tableOk_set {t : GTable} {id : Int} {f : GPeer → GPeer} (ok : tableOk t = true) (hi : ∀ p, (f p).fId = p.fId) (hu : ∀ p, 0 ≤ p.fUntil ∧ p.fUntil ≤ 1000320 → 0 ≤ p.fBans ∧ p.fBans ≤ 20 → (0 ≤ (f p).fUntil ∧ (f p).fUntil ≤ 1000320) ∧ (0 ≤ (f p).fBans ∧ (f p).fBans ≤ 20)) : tableOk (peerSet t id f) = true := by
  obtain ⟨h1, h2, h3⟩ := tableOk_iff.1 ok
  refine tableOk_iff.2 ⟨fun k p hp => ?_, by unfold peerSet; dsimp only; rw [List.length_modify]; exact h2, h3⟩
  have e : ∀ x, peerIdx (peerSet t id f).fPeers x = peerIdx t.fPeers x := fun x => by
    unfold peerSet peerIdx
    exact idx_modify (fun q => by rw [hi]) _ _
  rw [e]
  unfold peerSet at hp
  dsimp only at hp
  rw [List.getElem?_modify] at hp
  cases hx : t.fPeers[k]? with
  | none => rw [hx] at hp; simp at hp
  | some x =>
    rw [hx] at hp
    obtain ⟨a1, a2, a3, a4⟩ := h1 k x hx
    simp only [Option.map_eq_map, Option.map_some, Option.some.injEq] at hp
    by_cases q : (peerIdx t.fPeers id).toNat = k
    · rw [if_pos q] at hp
      subst hp
      obtain ⟨b1, b2⟩ := hu x a2 a3
      rw [hi]
      exact ⟨a1, b1, b2, a4⟩
    · rw [if_neg q] at hp
      subst hp
      exact ⟨a1, a2, a3, a4⟩
theorem peerGood_ok {t : GTable} (ok : tableOk t = true) (id : Int) : tableOk (peerGood t id).1 = true := by
  unfold peerGood
  split
  · exact ok
  · exact tableOk_set ok (fun _ => rfl) fun p h _ => ⟨h, by dsimp only; omega⟩
theorem peerLie_ok {t : GTable} (ok : tableOk t = true) (id now : Int) : tableOk (peerLie t id now).1 = true := by
  unfold peerLie
  split
  · exact ok
  · rename_i h
    rw [not_or] at h
    have hn : 0 ≤ now ∧ now ≤ 1000000 := inB_iff.1 (show isTime now = true by simpa using h.2)
    refine tableOk_set ok (fun _ => rfl) fun p h1 h2 => ?_
    have : lieN p.fBans.toNat ≤ 320 := by unfold lieN; omega
    unfold lied
    dsimp only
    omega
theorem storePut_ok {s : GStore} {a h : GHeader} (ok : storeOk s = true) (hl : lastHead s.fHeads = some a) (hh : headerOk h = true) (hk : linkOk a h = true) : storeOk (storePut s h) = true ∧ lastHead (storePut s h).fHeads = some h := by
  obtain ⟨h1, h2, h3, h4⟩ := storeOk_iff.1 ok
  have key : ∀ l : List GHeader, storeOk ⟨l, l.length⟩ = true → storeOk ⟨l, l.length⟩ = true := fun _ h => h
  have last : ∀ l : List GHeader, lastHead (l ++ [h]) = some h := fun l => by unfold lastHead; simp
  have full : ∀ (l : List GHeader) (sy : Int), storeOk ⟨l ++ [h], sy⟩ = true → storeOk ⟨l ++ [h], ((l ++ [h]).length : Int)⟩ = true := fun l sy q => by
    obtain ⟨q1, q2, q3, q4⟩ := storeOk_iff.1 q
    exact storeOk_iff.2 ⟨q1, q2, by dsimp only; omega, by dsimp only; omega⟩
  by_cases h20 : s.fHeads.length = 20
  · have e : storePut s h = ⟨s.fHeads.drop 10 ++ [h], ((s.fHeads.drop 10 ++ [h]).length : Int)⟩ := by unfold storePut; rw [if_pos h20]
    rw [e]
    exact ⟨full _ _ (store_snoc (store_drop ok h20) (by rw [List.length_drop]; omega) (last_drop h20 hl) hh hk), last _⟩
  · have e : storePut s h = ⟨s.fHeads ++ [h], ((s.fHeads ++ [h]).length : Int)⟩ := by unfold storePut; rw [if_neg h20]
    rw [e]
    exact ⟨full _ s.fSynced (store_snoc ok (by omega) hl hh hk), last _⟩
theorem lightFeed_ok {c : GLight} (ok : lightOk c = true) (peer : Int) (b : GBlock) : lightOk (lightFeed c peer b).1 = true := by
  have f := lightOk_iff.1 ok
  unfold lightFeed
  split
  · exact ok
  · split
    · rename_i hv
      have vf := verified_zero hv
      have va := verified_anchor hv
      obtain ⟨s1, s2⟩ := storePut_ok f.s f.h vf.hd vf.link
      exact lightOk_iff.2 ⟨f.t, va, s1, peerGood_ok f.p _, f.st, f.n, s2⟩
    · split
      · exact lightOk_iff.2 ⟨f.t, f.a, f.s, peerLie_ok f.p _ _, f.st, f.n, f.h⟩
      · exact ok
end Go.Proofs.YtiboajlnjldalaaGreatDoor
namespace Go.Proofs.YtiboajlnjldalaaGreatDoor
set_option linter.unusedSimpArgs false
set_option linter.unusedVariables false
open Go.RowKit
set_option maxRecDepth 1000000
theorem light_sm {c : GLight} (ok : lightOk c = true) : SmC c := by
  have f := lightOk_iff.1 ok
  have f2 := (storeOk_iff.1 f.s).2.1
  have f3 := (tableOk_iff.1 f.p).2.1
  have f5 := (valsOk_iff.1 (anchor_vals f.a).2).2.2.2
  exact ⟨by omega, by omega, by omega⟩
theorem light0_sm : SmC light0 := ⟨by simp [light0], by simp [light0], by simp [light0]⟩
theorem feed_sm (c : GLight) (peer : Int) (b : GBlock) : SmC (mLightFeed c peer b).1 := by
  unfold mLightFeed
  split
  · rename_i ok
    exact light_sm (lightFeed_ok ok peer b)
  · exact light0_sm
theorem iLightFeed_u (c : GLight) (peer : Int) (b : GBlock) (hc : SmC c) (hb : SmB b) : PCalls Tryz.prog 49 [.agg (pLight c), .val (.int .i64 peer), .agg (pBlock b)] [] (RH (.tup [.agg (pLiO (mLightFeed c peer b).1), .val (.int .i64 (mLightFeed c peer b).2)]) (bLi (mLightFeed c peer b).1)) := by
  cases ok : lightOk c with
  | false =>
    have e : mLightFeed c peer b = (light0, 1) := by unfold mLightFeed; rw [ok]; rfl
    rw [e]
    exact li0_up (iLightFeed_bad c peer b ok hc.a hc.s hc.p)
  | true =>
    have e : mLightFeed c peer b = lightFeed c peer b := by unfold mLightFeed; rw [if_pos ok]
    rw [e]
    exact iLightFeed_p c peer b ok hb
theorem sLightFeed_u (c : GLight) (peer : Int) (b : GBlock) (hc : SmC c) (hb : SmB b) : PCalls Tryz.prog 47 [.agg (pLight c), .val (.int .i64 peer), .agg (pBlock b)] [] (RH (.tup [.agg (pLiO (mLightFeed c peer b).1), .val (.int .i64 (mLightFeed c peer b).2)]) (bLi (mLightFeed c peer b).1)) := by
  cases ok : lightOk c with
  | false =>
    have e : mLightFeed c peer b = (light0, 1) := by unfold mLightFeed; rw [ok]; rfl
    rw [e]
    exact li0_up (sLightFeed_bad c peer b ok hc.a hc.s hc.p)
  | true =>
    have e : mLightFeed c peer b = lightFeed c peer b := by unfold mLightFeed; rw [if_pos ok]
    rw [e]
    exact sLightFeed_p c peer b ok hb
theorem lMarkBlock_q (b : GBlock) (k : Int) (hs : SmB b) (hk : 0 ≤ k ∧ k ≤ 60000000) : PCalls Tryz.prog 43 [.agg (pBkO b), .val (.int .i64 k)] (bBk b) (RH (.val (.int .i64 (k + cBlock b))) (bBk (mkBlk k b))) := by
  obtain ⟨h1, h2, h3⟩ := hs
  rw [show k + cBlock b = k + 2 * (b.fVals.length : Int) + 2 * (b.fNext.length : Int) + 2 * (b.fCommit.fSigs.length : Int) by unfold cBlock; omega]
  obtain ⟨⟨a1, a2, a3, a4, a5, a6⟩, vs, nx, ⟨ch, cr, ci, cs⟩⟩ := b
  dsimp only at *
  refine pcalls_ofR okP Tryz.func43 rfl ?_
  simp only [Tryz.f43, List.length_cons, List.length_nil, Nat.reduceAdd, Nat.reduceSub, List.replicate_succ, List.replicate_zero, List.cons_append, List.nil_append, List.length_map]
  repeat' (first | with_reducible (first | refine wA ?_ | refine wB ?_ | refine wC ?_ | refine w1 ?_ | refine w2 ?_ | refine w3 ?_ | refine w4 ?_ | refine w5 ?_ | refine w6 ?_ | refine w7 ?_ | refine w8 ?_ | refine wT ?_ | refine w9 ?_ | refine wE ?_ | refine wS ?_) | ((with_reducible refine hK _ ?_); clear hK K) | ((with_reducible refine pops_plain fun K hK => ?_); simp (disch := omega) only [push_cast, seval]) | ((with_reducible show pcall _ _ _ _ _ _); (first | (refine pcall_RGf (cf Tryz.func99) [?_] ?_ ?_ ?_ (lMarkValS_p ?_ ?_ ?_ ?_) ?_; rotate_left 1; (· ((try simp (disch := omega) only [push_cast, seval]); (repeat' (first | exact trivial | exact rfl | refine And.intro ?_ ?_ | omega)))); (· (repeat' (first | exact trivial | refine And.intro ?_ ?_ | exact ⟨_, rfl⟩ | (simp (disch := omega) only [push_cast, seval]; done) | exact rfl))); (· exact rfl); rotate_right 1; rotate_left 1; (all_goals (try (first | omega | exact (show _ = _ by assumption))))) | (refine pcall_RGf (cf Tryz.func130) [?_] ?_ ?_ ?_ (lMarkCommit_p ⟨?_, ?_, ?_, ?_⟩ ?_ ?_ ?_) ?_; rotate_left 1; (· ((try simp (disch := omega) only [push_cast, seval]); (repeat' (first | exact trivial | exact rfl | refine And.intro ?_ ?_ | omega)))); (· (repeat' (first | exact trivial | refine And.intro ?_ ?_ | exact ⟨_, rfl⟩ | (simp (disch := omega) only [push_cast, seval]; done) | exact rfl))); (· exact rfl); rotate_right 1; rotate_left 1; (all_goals (try (first | omega | exact (show _ = _ by assumption)))))); (try simp (disch := omega) only [push_cast, seval])) | ((with_reducible refine And.intro ?_ ?_); omega))
  all_goals ((with_reducible show PPostR _ _ _ _ _ _); exact finH [0, 1, 2])
set_option maxHeartbeats 40000000 in
theorem fnExactLightFeed_p (c : GLight) (peer : Int) (b : GBlock) (kc : OkLight c) (kn : -9223372036854775808 ≤ peer ∧ peer ≤ 9223372036854775807) (kb : OkBlock b) : PCalls Tryz.prog 7 [.agg (pLight c), .val (.int .i64 peer), .agg (pBlock b)] [] (RV (.val (.bool true))) := by
  have hz1 := lSzLight_p c 1048576 kc (by decide)
  have hz2 := fun y h => lSzBlock_p b y kb h
  refine pcalls_ofR okP Tryz.func7 rfl ?_
  simp only [Tryz.f7, List.length_cons, List.length_nil, Nat.reduceAdd, Nat.reduceSub, List.replicate_succ, List.replicate_zero, List.cons_append, List.nil_append, List.length_map]
  repeat' (first | with_reducible refine mkRegion (id := 8) ?_ | with_reducible (first | refine wA ?_ | refine wB ?_ | refine wC ?_) | with_reducible refine PWp.draw (id := 14) okP true [0, 1, 2, 3, 4] (by kernel_rfl) ?_ | with_reducible refine PWp.draw (id := 16) okP true [0, 1, 2, 3, 4] (by kernel_rfl) ?_ | with_reducible refine PWp.drawT (id := 8) okP true (.step 0 (.step 2 (.step 3 (.fork (.alt 1 (.fork (.alt 4 (.fork (.alt 5 (.step 6 (.step 7 (.step 8 (.step 9 (.step 10 (.step 11 .done)))))) (.alt 9 (.step 5 (.step 6 (.step 7 (.step 8 (.step 10 (.step 11 .done)))))) .stop))) (.alt 9 (.step 4 (.step 5 (.step 6 (.step 7 (.step 8 (.step 10 (.step 11 .done))))))) .stop))) (.alt 9 (.step 1 (.step 4 (.step 5 (.step 6 (.step 7 (.step 8 (.step 10 (.step 11 .done)))))))) .stop)))))) (by kernel_rfl) ?_ | with_reducible refine PWp.drawT (id := 31) okP true (.step 0 (.step 2 (.step 3 (.fork (.alt 1 (.fork (.alt 4 (.fork (.alt 5 (.step 6 (.step 7 (.step 8 (.step 9 (.step 10 (.step 11 .done)))))) (.alt 9 (.step 5 (.step 6 (.step 7 (.step 8 (.step 10 (.step 11 .done)))))) .stop))) (.alt 9 (.step 4 (.step 5 (.step 6 (.step 7 (.step 8 (.step 10 (.step 11 .done))))))) .stop))) (.alt 9 (.step 1 (.step 4 (.step 5 (.step 6 (.step 7 (.step 8 (.step 10 (.step 11 .done)))))))) .stop)))))) (by kernel_rfl) ?_ | with_reducible (first | refine w1 ?_ | refine w2 ?_ | refine w3 ?_ | refine w4 ?_ | refine w5 ?_ | refine w6 ?_ | refine w7 ?_ | refine w8 ?_ | refine wT ?_ | refine w9 ?_ | refine wE ?_ | refine wS ?_) | ((with_reducible refine hK _ ?_); clear hK K) | ((with_reducible refine PWp.condI ?_); refine ⟨_, rfl, fun hg => ?_, fun hg => ?_⟩ <;> first | (exact absurd hg (by decide)) | ((try simp only [Bool.not_true, Bool.not_false] at hg); (try simp only [hg]); (try simp only [push_cast] at hg); (try exact absurd trivial hg); (try (exfalso; omega)))) | ((first | ((with_reducible refine pops_guard0 ?_); refine ⟨_, rfl, fun K hK => ⟨rfl, ?_⟩⟩) | ((with_reducible refine pD_g0 ?_); refine ⟨_, rfl, rfl, ?_⟩)); (try simp (disch := omega) only [push_cast, seval])) | with_reducible (first | refine ptree_done ?_ | exact ptree_stop | refine ptree_fork ?_) | ((with_reducible refine ptree_I ?_); refine ⟨_, rfl, fun K hK => ?_⟩) | ((with_reducible refine ptree_A ?_ ?_); (refine ⟨_, rfl, fun K hK => ?_⟩)) | ((with_reducible refine pany_I ?_); refine ⟨_, rfl, fun K hK => ?_⟩) | ((with_reducible refine pops_plain fun K hK => ?_); simp (disch := omega) only [push_cast, seval]) | ((first | ((with_reducible refine pD_y ?_ ?_); exact rfl) | ((with_reducible refine pD_x ?_ ?_); exact rfl)); simp (disch := omega) only [push_cast, seval]) | ((first | ((with_reducible refine pops_guard ?_); refine ⟨_, rfl, fun K hK => ⟨_, rfl, fun hg => ?_, fun hg => ?_⟩⟩) | ((first | ((with_reducible refine pD_gy ?_ ?_); exact rfl) | ((with_reducible refine pD_gx ?_ ?_); exact rfl)); refine ⟨_, rfl, _, rfl, fun hg => ?_, fun hg => ?_⟩)) <;> first | (exact absurd hg (by decide)) | ((try simp only [Bool.not_true, Bool.not_false] at hg); (try simp only [hg]); (try simp only [push_cast] at hg); (try exact absurd trivial hg); (try (exfalso; omega)); (try simp (disch := omega) only [push_cast, seval]))) | ((with_reducible show pcall _ _ _ _ _ _); (first | (refine pcall_X1 (cf Tryz.func36) (by ((try simp (disch := omega) only [push_cast, seval]); first | done | exact rfl)) (hz2 _ sd) ?_; rintro y2 ⟨hy3, hy4⟩) | (refine pcall_X1 (cf Tryz.func46) (by ((try simp (disch := omega) only [push_cast, seval]); first | done | exact rfl)) (hz1) ?_; rintro y1 ⟨hy1, hy2⟩) | (refine pcF (cf Tryz.func49) (iLightFeed_p ⟨⟨_, _⟩, _, ⟨⟨_, _, _, _, _, _⟩, _⟩, ⟨_, _⟩, ⟨_, _⟩, _⟩ _ ⟨⟨_, _, _, _, _, _⟩, _, _, ⟨_, _, _, _⟩⟩ sd (by first | assumption | exact ⟨by (first | assumption | omega | (simp; omega) | (simp_all; done) | (simp_all; omega)), by (first | assumption | omega | (simp; omega) | (simp_all; done) | (simp_all; omega)), by (first | assumption | omega | (simp; omega) | (simp_all; done) | (simp_all; omega))⟩)) ?_)); (try simp (disch := omega) only [push_cast, seval])) | ((with_reducible refine And.intro ?_ ?_); omega))
  · ((with_reducible show PPostR _ _ _ _ _ _); refine finV ?_; (try simp only [push_cast, seval]))
  · ((with_reducible show PPostR _ _ _ _ _ _); refine finV ?_; (try simp only [push_cast, seval]))
  refine Mk.of ?_
  have hc : SmC c := hy2 (by omega)
  have hb : SmB b := hy4 (by omega)
  have cs := sLightFeed_u c peer b hc hb
  have ci := iLightFeed_u c peer b hc hb
  have hr := feed_sm c peer b
  generalize mLightFeed c peer b = r at cs ci hr
  obtain ⟨r0, r1⟩ := r
  dsimp only at cs ci hr
  have ct := lToLight_p c hc
  have cb := lToBlock_p b hb
  have ce := lEqLight_p r0 hr
  have ce2 := lEqLight_p c hc
  have cq := lEqBlock_p b hb
  have q0 := cLight_pos c
  have q1 := cBlock_pos b
  have q2 := cLight_pos r0
  have m1 := lMarkLight_p c 1 hc (by decide)
  have q5 : cLight c ≤ 24000000 := by have := hc.a; have := hc.s; have := hc.p; unfold cLight; omega
  have m2 := lMarkBlock_q b (1 + cLight c) hb ⟨by omega, by omega⟩
  have m3 := lMarkLight_p r0 1 hr (by decide)
  have ch := lHeldLight_p r0 1 hr (by decide)
  have q4 : cLight r0 ≤ 24000000 := by have := hr.a; have := hr.s; have := hr.p; unfold cLight; omega
  have q6 : cBlock b ≤ 12000000 := by have := hb.v; have := hb.n; have := hb.s; unfold cBlock; omega
  generalize cBlock b = nb at *
  generalize cLight r0 = nl at *
  generalize cLight c = nc at *
  apply PWp.cap (α := Unit) (fun z => [(1, .val (.int .i64 peer)), (3, .ptr 0 0), (5, .ptr 1 0), (8, .ptr 2 0), (9, .val (.int .i64 r1))]) [0, 2, 4, 6, 7, 10, 11, 12, 13, 14, 15, 16, 17, 18, 19, 20, 21, 22, 23, 24, 25, 26, 27, 28, 29, 30, 31, 32, 33, 34, 35, 36, 37, 38, 39, 40, 41, 42, 43, 44, 45, 46, 47, 48, 49, 50, 51, 52, 53, 54, 55, 56, 57, 58, 59, 60, 61, 62, 63, 64, 65, 66, 67, 68, 69, 70, 71, 72, 73, 74, 75, 76, 77, 78, 79, 80, 81, 82, 83, 84, 85, 86, 87, 88, 89, 90, 91, 92, 93, 94, 95, 96, 97, 98, 99, 100, 101, 102, 103, 104, 105, 106, 107, 108, 109, 110, 111, 112, 113, 114, 115, 116, 117, 118, 119, 120, 121, 122, 123] (fun z => [some (.box (pLight c)), some (.box (pBlock b)), some (.box (pLiX r0 (.own 3) (.own 4) (.own 5))), some (.row 141 2 (r0.fAnchor.fNext.map pVal)), some (.row 30 6 (r0.fStore.fHeads.map pHeader)), some (.row 211 4 (r0.fPeers.fPeers.map pPeer))]) (fun z => True)
  case main =>
    intro tail
    repeat' (first | with_reducible refine mkRegion (id := 9) ?_ | with_reducible (first | refine wA ?_ | refine wB ?_ | refine wC ?_) | with_reducible refine PWp.draw (id := 14) okP true [0, 1, 2, 3, 4] (by kernel_rfl) ?_ | with_reducible refine PWp.draw (id := 16) okP true [0, 1, 2, 3, 4] (by kernel_rfl) ?_ | with_reducible refine PWp.drawT (id := 8) okP true (.step 0 (.step 2 (.step 3 (.fork (.alt 1 (.fork (.alt 4 (.fork (.alt 5 (.step 6 (.step 7 (.step 8 (.step 9 (.step 10 (.step 11 .done)))))) (.alt 9 (.step 5 (.step 6 (.step 7 (.step 8 (.step 10 (.step 11 .done)))))) .stop))) (.alt 9 (.step 4 (.step 5 (.step 6 (.step 7 (.step 8 (.step 10 (.step 11 .done))))))) .stop))) (.alt 9 (.step 1 (.step 4 (.step 5 (.step 6 (.step 7 (.step 8 (.step 10 (.step 11 .done)))))))) .stop)))))) (by kernel_rfl) ?_ | with_reducible refine PWp.drawT (id := 31) okP true (.step 0 (.step 2 (.step 3 (.fork (.alt 1 (.fork (.alt 4 (.fork (.alt 5 (.step 6 (.step 7 (.step 8 (.step 9 (.step 10 (.step 11 .done)))))) (.alt 9 (.step 5 (.step 6 (.step 7 (.step 8 (.step 10 (.step 11 .done)))))) .stop))) (.alt 9 (.step 4 (.step 5 (.step 6 (.step 7 (.step 8 (.step 10 (.step 11 .done))))))) .stop))) (.alt 9 (.step 1 (.step 4 (.step 5 (.step 6 (.step 7 (.step 8 (.step 10 (.step 11 .done)))))))) .stop)))))) (by kernel_rfl) ?_ | with_reducible (first | refine w1 ?_ | refine w2 ?_ | refine w3 ?_ | refine w4 ?_ | refine w5 ?_ | refine w6 ?_ | refine w7 ?_ | refine w8 ?_ | refine wT ?_ | refine w9 ?_ | refine wE ?_ | refine wS ?_) | ((with_reducible refine hK _ ?_); clear hK K) | ((with_reducible refine PWp.condI ?_); refine ⟨_, rfl, fun hg => ?_, fun hg => ?_⟩ <;> first | (exact absurd hg (by decide)) | ((try simp only [Bool.not_true, Bool.not_false] at hg); (try simp only [hg]); (try simp only [push_cast] at hg); (try exact absurd trivial hg); (try (exfalso; omega)))) | ((first | ((with_reducible refine pops_guard0 ?_); refine ⟨_, rfl, fun K hK => ⟨rfl, ?_⟩⟩) | ((with_reducible refine pD_g0 ?_); refine ⟨_, rfl, rfl, ?_⟩)); (try simp (disch := omega) only [push_cast, seval])) | with_reducible (first | refine ptree_done ?_ | exact ptree_stop | refine ptree_fork ?_) | ((with_reducible refine ptree_I ?_); refine ⟨_, rfl, fun K hK => ?_⟩) | ((with_reducible refine ptree_A ?_ ?_); (refine ⟨_, rfl, fun K hK => ?_⟩)) | ((with_reducible refine pany_I ?_); refine ⟨_, rfl, fun K hK => ?_⟩) | ((with_reducible refine pops_plain fun K hK => ?_); simp (disch := omega) only [push_cast, seval]) | ((first | ((with_reducible refine pD_y ?_ ?_); exact rfl) | ((with_reducible refine pD_x ?_ ?_); exact rfl)); simp (disch := omega) only [push_cast, seval]) | ((first | ((with_reducible refine pops_guard ?_); refine ⟨_, rfl, fun K hK => ⟨_, rfl, fun hg => ?_, fun hg => ?_⟩⟩) | ((first | ((with_reducible refine pD_gy ?_ ?_); exact rfl) | ((with_reducible refine pD_gx ?_ ?_); exact rfl)); refine ⟨_, rfl, _, rfl, fun hg => ?_, fun hg => ?_⟩)) <;> first | (exact absurd hg (by decide)) | ((try simp only [Bool.not_true, Bool.not_false] at hg); (try simp only [hg]); (try simp only [push_cast] at hg); (try exact absurd trivial hg); (try (exfalso; omega)); (try simp (disch := omega) only [push_cast, seval]))) | ((with_reducible show pcall _ _ _ _ _ _); (first | (refine pcall_X1 (cf Tryz.func36) (by ((try simp (disch := omega) only [push_cast, seval]); first | done | exact rfl)) (hz2 _ sd) ?_; rintro y2 ⟨hy3, hy4⟩) | (refine pcH (cf Tryz.func39) (cb) ?_) | (refine pcV (cf Tryz.func41) (ce) ?_) | (refine pcV (cf Tryz.func41) (ce2) ?_) | (refine pcV (cf Tryz.func42) (cq) ?_) | (refine pcall_RGf (cf Tryz.func43) [?_, ?_, ?_] ?_ ?_ ?_ (m2) ?_; rotate_left 3; (· ((try simp (disch := omega) only [push_cast, seval]); (repeat' (first | exact trivial | exact rfl | refine And.intro ?_ ?_ | omega)))); (· (repeat' (first | exact trivial | refine And.intro ?_ ?_ | exact ⟨_, rfl⟩ | (simp (disch := omega) only [push_cast, seval]; done) | exact rfl))); (· exact rfl); rotate_right 1; rotate_left 1; (all_goals (try (first | omega | exact (show _ = _ by assumption))))) | (refine pcall_RGf (cf Tryz.func44) [?_, ?_, ?_] ?_ ?_ ?_ (m1) ?_; rotate_left 3; (· ((try simp (disch := omega) only [push_cast, seval]); (repeat' (first | exact trivial | exact rfl | refine And.intro ?_ ?_ | omega)))); (· (repeat' (first | exact trivial | refine And.intro ?_ ?_ | exact ⟨_, rfl⟩ | (simp (disch := omega) only [push_cast, seval]; done) | exact rfl))); (· exact rfl); rotate_right 1; rotate_left 1; (all_goals (try (first | omega | exact (show _ = _ by assumption))))) | (refine pcall_RGf (cf Tryz.func44) [?_, ?_, ?_] ?_ ?_ ?_ (m3) ?_; rotate_left 3; (· ((try simp (disch := omega) only [push_cast, seval]); (repeat' (first | exact trivial | exact rfl | refine And.intro ?_ ?_ | omega)))); (· (repeat' (first | exact trivial | refine And.intro ?_ ?_ | exact ⟨_, rfl⟩ | (simp (disch := omega) only [push_cast, seval]; done) | exact rfl))); (· exact rfl); rotate_right 1; rotate_left 1; (all_goals (try (first | omega | exact (show _ = _ by assumption))))) | (refine pcV (cf Tryz.func45) (ch) ?_) | (refine pcall_X1 (cf Tryz.func46) (by ((try simp (disch := omega) only [push_cast, seval]); first | done | exact rfl)) (hz1) ?_; rintro y1 ⟨hy1, hy2⟩) | (refine pcH (cf Tryz.func47) (cs) ?_) | (refine pcH (cf Tryz.func48) (ct) ?_) | (refine pcH (cf Tryz.func49) (ci) ?_)); (try simp (disch := omega) only [push_cast, seval])) | ((with_reducible refine And.intro ?_ ?_); omega))
    all_goals
      (refine Mk.of (tail (()) _ _ ?_ (by (refine ⟨[?_, ?_, ?_, ?_, ?_, ?_], ?_, ?_, ?_, ?_⟩; rotate_left 6; (· ((try simp (disch := omega) only [push_cast, seval]); (repeat' (first | exact trivial | exact rfl | refine And.intro ?_ ?_ | omega)))); (· ((try simp (disch := omega) only [push_cast, seval]); (repeat' (first | exact trivial | exact rfl | refine And.intro ?_ ?_ | omega)))); (· exact rfl); (· (first | exact trivial | exact ⟨rfl, trivial⟩ | exact ⟨rfl, rfl, trivial⟩))))))
      trivial
  case t =>
    intro z ρ2 hI; (try dsimp only at hI); refine PWp.at (tm' := ?_) (H' := ?_) ?_ ?_ ?_; rotate_left 2; (· ((try simp only [push_cast, seval]); exact rfl)); (· ((try dsimp only); exact rfl))
    apply PWp.cap (α := Unit) (fun z => [(1, .val (.int .i64 peer)), (3, .ptr 0 0), (5, .ptr 1 0), (8, .ptr 2 0), (9, .val (.int .i64 r1)), (10, .ptr 6 0), (11, .ptr 10 0), (12, .ptr 14 0), (13, .val (.int .i64 r1))]) [0, 2, 4, 6, 7, 14, 15, 16, 17, 18, 19, 20, 21, 22, 23, 24, 25, 26, 27, 28, 29, 30, 31, 32, 33, 34, 35, 36, 37, 38, 39, 40, 41, 42, 43, 44, 45, 46, 47, 48, 49, 50, 51, 52, 53, 54, 55, 56, 57, 58, 59, 60, 61, 62, 63, 64, 65, 66, 67, 68, 69, 70, 71, 72, 73, 74, 75, 76, 77, 78, 79, 80, 81, 82, 83, 84, 85, 86, 87, 88, 89, 90, 91, 92, 93, 94, 95, 96, 97, 98, 99, 100, 101, 102, 103, 104, 105, 106, 107, 108, 109, 110, 111, 112, 113, 114, 115, 116, 117, 118, 119, 120, 121, 122, 123] (fun z => [some (.box (pLight c)), some (.box (pBlock b)), some (.box (pLiX r0 (.own 3) (.own 4) (.own 5))), some (.row 141 2 (r0.fAnchor.fNext.map pVal)), some (.row 30 6 (r0.fStore.fHeads.map pHeader)), some (.row 211 4 (r0.fPeers.fPeers.map pPeer)), some (.box (pLiX c (.own 7) (.own 8) (.own 9))), some (.row 141 2 (c.fAnchor.fNext.map pVal)), some (.row 30 6 (c.fStore.fHeads.map pHeader)), some (.row 211 4 (c.fPeers.fPeers.map pPeer)), some (.box (pBkX b (.own 11) (.own 12) (.own 13))), some (.row 141 2 (b.fVals.map pVal)), some (.row 141 2 (b.fNext.map pVal)), some (.row 227 2 (b.fCommit.fSigs.map pCSig)), some (.box (pLiX r0 (.own 15) (.own 16) (.own 17))), some (.row 141 2 (r0.fAnchor.fNext.map pVal)), some (.row 30 6 (r0.fStore.fHeads.map pHeader)), some (.row 211 4 (r0.fPeers.fPeers.map pPeer))]) (fun z => True)
    case main =>
      intro tail
      repeat' (first | with_reducible refine mkRegion (id := 12) ?_ | with_reducible (first | refine wA ?_ | refine wB ?_ | refine wC ?_) | with_reducible refine PWp.draw (id := 14) okP true [0, 1, 2, 3, 4] (by kernel_rfl) ?_ | with_reducible refine PWp.draw (id := 16) okP true [0, 1, 2, 3, 4] (by kernel_rfl) ?_ | with_reducible refine PWp.drawT (id := 8) okP true (.step 0 (.step 2 (.step 3 (.fork (.alt 1 (.fork (.alt 4 (.fork (.alt 5 (.step 6 (.step 7 (.step 8 (.step 9 (.step 10 (.step 11 .done)))))) (.alt 9 (.step 5 (.step 6 (.step 7 (.step 8 (.step 10 (.step 11 .done)))))) .stop))) (.alt 9 (.step 4 (.step 5 (.step 6 (.step 7 (.step 8 (.step 10 (.step 11 .done))))))) .stop))) (.alt 9 (.step 1 (.step 4 (.step 5 (.step 6 (.step 7 (.step 8 (.step 10 (.step 11 .done)))))))) .stop)))))) (by kernel_rfl) ?_ | with_reducible refine PWp.drawT (id := 31) okP true (.step 0 (.step 2 (.step 3 (.fork (.alt 1 (.fork (.alt 4 (.fork (.alt 5 (.step 6 (.step 7 (.step 8 (.step 9 (.step 10 (.step 11 .done)))))) (.alt 9 (.step 5 (.step 6 (.step 7 (.step 8 (.step 10 (.step 11 .done)))))) .stop))) (.alt 9 (.step 4 (.step 5 (.step 6 (.step 7 (.step 8 (.step 10 (.step 11 .done))))))) .stop))) (.alt 9 (.step 1 (.step 4 (.step 5 (.step 6 (.step 7 (.step 8 (.step 10 (.step 11 .done)))))))) .stop)))))) (by kernel_rfl) ?_ | with_reducible (first | refine w1 ?_ | refine w2 ?_ | refine w3 ?_ | refine w4 ?_ | refine w5 ?_ | refine w6 ?_ | refine w7 ?_ | refine w8 ?_ | refine wT ?_ | refine w9 ?_ | refine wE ?_ | refine wS ?_) | ((with_reducible refine hK _ ?_); clear hK K) | ((with_reducible refine PWp.condI ?_); refine ⟨_, rfl, fun hg => ?_, fun hg => ?_⟩ <;> first | (exact absurd hg (by decide)) | ((try simp only [Bool.not_true, Bool.not_false] at hg); (try simp only [hg]); (try simp only [push_cast] at hg); (try exact absurd trivial hg); (try (exfalso; omega)))) | ((first | ((with_reducible refine pops_guard0 ?_); refine ⟨_, rfl, fun K hK => ⟨rfl, ?_⟩⟩) | ((with_reducible refine pD_g0 ?_); refine ⟨_, rfl, rfl, ?_⟩)); (try simp (disch := omega) only [push_cast, seval])) | with_reducible (first | refine ptree_done ?_ | exact ptree_stop | refine ptree_fork ?_) | ((with_reducible refine ptree_I ?_); refine ⟨_, rfl, fun K hK => ?_⟩) | ((with_reducible refine ptree_A ?_ ?_); (refine ⟨_, rfl, fun K hK => ?_⟩)) | ((with_reducible refine pany_I ?_); refine ⟨_, rfl, fun K hK => ?_⟩) | ((with_reducible refine pops_plain fun K hK => ?_); simp (disch := omega) only [push_cast, seval]) | ((first | ((with_reducible refine pD_y ?_ ?_); exact rfl) | ((with_reducible refine pD_x ?_ ?_); exact rfl)); simp (disch := omega) only [push_cast, seval]) | ((first | ((with_reducible refine pops_guard ?_); refine ⟨_, rfl, fun K hK => ⟨_, rfl, fun hg => ?_, fun hg => ?_⟩⟩) | ((first | ((with_reducible refine pD_gy ?_ ?_); exact rfl) | ((with_reducible refine pD_gx ?_ ?_); exact rfl)); refine ⟨_, rfl, _, rfl, fun hg => ?_, fun hg => ?_⟩)) <;> first | (exact absurd hg (by decide)) | ((try simp only [Bool.not_true, Bool.not_false] at hg); (try simp only [hg]); (try simp only [push_cast] at hg); (try exact absurd trivial hg); (try (exfalso; omega)); (try simp (disch := omega) only [push_cast, seval]))) | ((with_reducible show pcall _ _ _ _ _ _); (first | (refine pcall_X1 (cf Tryz.func36) (by ((try simp (disch := omega) only [push_cast, seval]); first | done | exact rfl)) (hz2 _ sd) ?_; rintro y2 ⟨hy3, hy4⟩) | (refine pcH (cf Tryz.func39) (cb) ?_) | (refine pcV (cf Tryz.func41) (ce) ?_) | (refine pcV (cf Tryz.func41) (ce2) ?_) | (refine pcV (cf Tryz.func42) (cq) ?_) | (refine pcall_RGf (cf Tryz.func43) [?_, ?_, ?_] ?_ ?_ ?_ (m2) ?_; rotate_left 3; (· ((try simp (disch := omega) only [push_cast, seval]); (repeat' (first | exact trivial | exact rfl | refine And.intro ?_ ?_ | omega)))); (· (repeat' (first | exact trivial | refine And.intro ?_ ?_ | exact ⟨_, rfl⟩ | (simp (disch := omega) only [push_cast, seval]; done) | exact rfl))); (· exact rfl); rotate_right 1; rotate_left 1; (all_goals (try (first | omega | exact (show _ = _ by assumption))))) | (refine pcall_RGf (cf Tryz.func44) [?_, ?_, ?_] ?_ ?_ ?_ (m1) ?_; rotate_left 3; (· ((try simp (disch := omega) only [push_cast, seval]); (repeat' (first | exact trivial | exact rfl | refine And.intro ?_ ?_ | omega)))); (· (repeat' (first | exact trivial | refine And.intro ?_ ?_ | exact ⟨_, rfl⟩ | (simp (disch := omega) only [push_cast, seval]; done) | exact rfl))); (· exact rfl); rotate_right 1; rotate_left 1; (all_goals (try (first | omega | exact (show _ = _ by assumption))))) | (refine pcall_RGf (cf Tryz.func44) [?_, ?_, ?_] ?_ ?_ ?_ (m3) ?_; rotate_left 3; (· ((try simp (disch := omega) only [push_cast, seval]); (repeat' (first | exact trivial | exact rfl | refine And.intro ?_ ?_ | omega)))); (· (repeat' (first | exact trivial | refine And.intro ?_ ?_ | exact ⟨_, rfl⟩ | (simp (disch := omega) only [push_cast, seval]; done) | exact rfl))); (· exact rfl); rotate_right 1; rotate_left 1; (all_goals (try (first | omega | exact (show _ = _ by assumption))))) | (refine pcV (cf Tryz.func45) (ch) ?_) | (refine pcall_X1 (cf Tryz.func46) (by ((try simp (disch := omega) only [push_cast, seval]); first | done | exact rfl)) (hz1) ?_; rintro y1 ⟨hy1, hy2⟩) | (refine pcH (cf Tryz.func47) (cs) ?_) | (refine pcH (cf Tryz.func48) (ct) ?_) | (refine pcH (cf Tryz.func49) (ci) ?_)); (try simp (disch := omega) only [push_cast, seval])) | ((with_reducible refine And.intro ?_ ?_); omega))
      all_goals
        (refine Mk.of (tail (()) _ _ ?_ (by (refine ⟨[?_, ?_, ?_, ?_, ?_, ?_, ?_, ?_, ?_, ?_, ?_, ?_, ?_, ?_, ?_, ?_, ?_, ?_], ?_, ?_, ?_, ?_⟩; rotate_left 18; (· ((try simp (disch := omega) only [push_cast, seval]); (repeat' (first | exact trivial | exact rfl | refine And.intro ?_ ?_ | omega)))); (· ((try simp (disch := omega) only [push_cast, seval]); (repeat' (first | exact trivial | exact rfl | refine And.intro ?_ ?_ | omega)))); (· exact rfl); (· (first | exact trivial | exact ⟨rfl, trivial⟩ | exact ⟨rfl, rfl, trivial⟩))))))
        trivial
    case t =>
      intro z ρ2 hI; (try dsimp only at hI); refine PWp.at (tm' := ?_) (H' := ?_) ?_ ?_ ?_; rotate_left 2; (· ((try simp only [push_cast, seval]); exact rfl)); (· ((try dsimp only); exact rfl))
      repeat' (first | with_reducible refine mkRegion (id := 31) ?_ | with_reducible (first | refine wA ?_ | refine wB ?_ | refine wC ?_) | with_reducible refine PWp.draw (id := 14) okP true [0, 1, 2, 3, 4] (by kernel_rfl) ?_ | with_reducible refine PWp.draw (id := 16) okP true [0, 1, 2, 3, 4] (by kernel_rfl) ?_ | with_reducible refine PWp.drawT (id := 8) okP true (.step 0 (.step 2 (.step 3 (.fork (.alt 1 (.fork (.alt 4 (.fork (.alt 5 (.step 6 (.step 7 (.step 8 (.step 9 (.step 10 (.step 11 .done)))))) (.alt 9 (.step 5 (.step 6 (.step 7 (.step 8 (.step 10 (.step 11 .done)))))) .stop))) (.alt 9 (.step 4 (.step 5 (.step 6 (.step 7 (.step 8 (.step 10 (.step 11 .done))))))) .stop))) (.alt 9 (.step 1 (.step 4 (.step 5 (.step 6 (.step 7 (.step 8 (.step 10 (.step 11 .done)))))))) .stop)))))) (by kernel_rfl) ?_ | with_reducible refine PWp.drawT (id := 31) okP true (.step 0 (.step 2 (.step 3 (.fork (.alt 1 (.fork (.alt 4 (.fork (.alt 5 (.step 6 (.step 7 (.step 8 (.step 9 (.step 10 (.step 11 .done)))))) (.alt 9 (.step 5 (.step 6 (.step 7 (.step 8 (.step 10 (.step 11 .done)))))) .stop))) (.alt 9 (.step 4 (.step 5 (.step 6 (.step 7 (.step 8 (.step 10 (.step 11 .done))))))) .stop))) (.alt 9 (.step 1 (.step 4 (.step 5 (.step 6 (.step 7 (.step 8 (.step 10 (.step 11 .done)))))))) .stop)))))) (by kernel_rfl) ?_ | with_reducible (first | refine w1 ?_ | refine w2 ?_ | refine w3 ?_ | refine w4 ?_ | refine w5 ?_ | refine w6 ?_ | refine w7 ?_ | refine w8 ?_ | refine wT ?_ | refine w9 ?_ | refine wE ?_ | refine wS ?_) | ((with_reducible refine hK _ ?_); clear hK K) | ((with_reducible refine PWp.condI ?_); refine ⟨_, rfl, fun hg => ?_, fun hg => ?_⟩ <;> first | (exact absurd hg (by decide)) | ((try simp only [Bool.not_true, Bool.not_false] at hg); (try simp only [hg]); (try simp only [push_cast] at hg); (try exact absurd trivial hg); (try (exfalso; omega)))) | ((first | ((with_reducible refine pops_guard0 ?_); refine ⟨_, rfl, fun K hK => ⟨rfl, ?_⟩⟩) | ((with_reducible refine pD_g0 ?_); refine ⟨_, rfl, rfl, ?_⟩)); (try simp (disch := omega) only [push_cast, seval, xb_ne, beq_self_eq_true])) | with_reducible (first | refine ptree_done ?_ | exact ptree_stop | refine ptree_fork ?_) | ((with_reducible refine ptree_I ?_); refine ⟨_, rfl, fun K hK => ?_⟩) | ((with_reducible refine ptree_A ?_ ?_); (refine ⟨_, rfl, fun K hK => ?_⟩)) | ((with_reducible refine pany_I ?_); refine ⟨_, rfl, fun K hK => ?_⟩) | ((with_reducible refine pops_plain fun K hK => ?_); simp (disch := omega) only [push_cast, seval, xb_ne, beq_self_eq_true]) | ((first | ((with_reducible refine pD_y ?_ ?_); exact rfl) | ((with_reducible refine pD_x ?_ ?_); exact rfl)); simp (disch := omega) only [push_cast, seval, xb_ne, beq_self_eq_true]) | ((first | ((with_reducible refine pops_guard ?_); refine ⟨_, rfl, fun K hK => ⟨_, rfl, fun hg => ?_, fun hg => ?_⟩⟩) | ((first | ((with_reducible refine pD_gy ?_ ?_); exact rfl) | ((with_reducible refine pD_gx ?_ ?_); exact rfl)); refine ⟨_, rfl, _, rfl, fun hg => ?_, fun hg => ?_⟩)) <;> first | (exact absurd hg (by decide)) | ((try simp only [Bool.not_true, Bool.not_false] at hg); (try simp only [hg]); (try simp only [push_cast] at hg); (try exact absurd trivial hg); (try (exfalso; omega)); (try simp (disch := omega) only [push_cast, seval, xb_ne, beq_self_eq_true]))) | ((with_reducible show pcall _ _ _ _ _ _); (first | (refine pcall_X1 (cf Tryz.func36) (by ((try simp (disch := omega) only [push_cast, seval]); first | done | exact rfl)) (hz2 _ sd) ?_; rintro y2 ⟨hy3, hy4⟩) | (refine pcH (cf Tryz.func39) (cb) ?_) | (refine pcV (cf Tryz.func41) (ce) ?_) | (refine pcV (cf Tryz.func41) (ce2) ?_) | (refine pcV (cf Tryz.func42) (cq) ?_) | (refine pcall_RGf (cf Tryz.func43) [?_, ?_, ?_] ?_ ?_ ?_ (m2) ?_; rotate_left 3; (· ((try simp (disch := omega) only [push_cast, seval]); (repeat' (first | exact trivial | exact rfl | refine And.intro ?_ ?_ | omega)))); (· (repeat' (first | exact trivial | refine And.intro ?_ ?_ | exact ⟨_, rfl⟩ | (simp (disch := omega) only [push_cast, seval]; done) | exact rfl))); (· exact rfl); rotate_right 1; rotate_left 1; (all_goals (try (first | omega | exact (show _ = _ by assumption))))) | (refine pcall_RGf (cf Tryz.func44) [?_, ?_, ?_] ?_ ?_ ?_ (m1) ?_; rotate_left 3; (· ((try simp (disch := omega) only [push_cast, seval]); (repeat' (first | exact trivial | exact rfl | refine And.intro ?_ ?_ | omega)))); (· (repeat' (first | exact trivial | refine And.intro ?_ ?_ | exact ⟨_, rfl⟩ | (simp (disch := omega) only [push_cast, seval]; done) | exact rfl))); (· exact rfl); rotate_right 1; rotate_left 1; (all_goals (try (first | omega | exact (show _ = _ by assumption))))) | (refine pcall_RGf (cf Tryz.func44) [?_, ?_, ?_] ?_ ?_ ?_ (m3) ?_; rotate_left 3; (· ((try simp (disch := omega) only [push_cast, seval]); (repeat' (first | exact trivial | exact rfl | refine And.intro ?_ ?_ | omega)))); (· (repeat' (first | exact trivial | refine And.intro ?_ ?_ | exact ⟨_, rfl⟩ | (simp (disch := omega) only [push_cast, seval]; done) | exact rfl))); (· exact rfl); rotate_right 1; rotate_left 1; (all_goals (try (first | omega | exact (show _ = _ by assumption))))) | (refine pcV (cf Tryz.func45) (ch) ?_) | (refine pcall_X1 (cf Tryz.func46) (by ((try simp (disch := omega) only [push_cast, seval]); first | done | exact rfl)) (hz1) ?_; rintro y1 ⟨hy1, hy2⟩) | (refine pcH (cf Tryz.func47) (cs) ?_) | (refine pcH (cf Tryz.func48) (ct) ?_) | (refine pcH (cf Tryz.func49) (ci) ?_)); (try simp (disch := omega) only [push_cast, seval, xb_ne, beq_self_eq_true])) | ((with_reducible refine And.intro ?_ ?_); omega))
      all_goals
        refine Mk.of ?_
        apply PWp.cap (α := Unit) (fun z => [(8, .ptr 0 0), (9, .val (.int .i64 r1)), (12, .ptr 4 0), (15, .val (.int .i64 (1 + nl))), (17, .ptr 8 0), (18, .val (.int .i64 r1))]) [0, 1, 2, 3, 4, 5, 6, 7, 10, 11, 13, 14, 16, 19, 20, 21, 22, 23, 24, 25, 26, 27, 28, 29, 30, 31, 32, 33, 34, 35, 36, 37, 38, 39, 40, 41, 42, 43, 44, 45, 46, 47, 48, 49, 50, 51, 52, 53, 54, 55, 56, 57, 58, 59, 60, 61, 62, 63, 64, 65, 66, 67, 68, 69, 70, 71, 72, 73, 74, 75, 76, 77, 78, 79, 80, 81, 82, 83, 84, 85, 86, 87, 88, 89, 90, 91, 92, 93, 94, 95, 96, 97, 98, 99, 100, 101, 102, 103, 104, 105, 106, 107, 108, 109, 110, 111, 112, 113, 114, 115, 116, 117, 118, 119, 120, 121, 122, 123] (fun z => [some (.box (pLiX r0 (.own 1) (.own 2) (.own 3))), some (.row 141 2 (r0.fAnchor.fNext.map pVal)), some (.row 30 6 (r0.fStore.fHeads.map pHeader)), some (.row 211 4 (r0.fPeers.fPeers.map pPeer)), some (.box (pLiX (mkLight 1 r0) (.own 5) (.own 6) (.own 7))), some (.row 141 2 ((mkLight 1 r0).fAnchor.fNext.map pVal)), some (.row 30 6 ((mkLight 1 r0).fStore.fHeads.map pHeader)), some (.row 211 4 ((mkLight 1 r0).fPeers.fPeers.map pPeer)), some (.box (pLiX r0 (.own 9) (.own 10) (.own 11))), some (.row 141 2 (r0.fAnchor.fNext.map pVal)), some (.row 30 6 (r0.fStore.fHeads.map pHeader)), some (.row 211 4 (r0.fPeers.fPeers.map pPeer))]) (fun z => True)
        case main =>
          intro tail
          repeat' (first | with_reducible refine mkRegion (id := 32) ?_ | with_reducible (first | refine wA ?_ | refine wB ?_ | refine wC ?_) | with_reducible refine PWp.draw (id := 14) okP true [0, 1, 2, 3, 4] (by kernel_rfl) ?_ | with_reducible refine PWp.draw (id := 16) okP true [0, 1, 2, 3, 4] (by kernel_rfl) ?_ | with_reducible refine PWp.drawT (id := 8) okP true (.step 0 (.step 2 (.step 3 (.fork (.alt 1 (.fork (.alt 4 (.fork (.alt 5 (.step 6 (.step 7 (.step 8 (.step 9 (.step 10 (.step 11 .done)))))) (.alt 9 (.step 5 (.step 6 (.step 7 (.step 8 (.step 10 (.step 11 .done)))))) .stop))) (.alt 9 (.step 4 (.step 5 (.step 6 (.step 7 (.step 8 (.step 10 (.step 11 .done))))))) .stop))) (.alt 9 (.step 1 (.step 4 (.step 5 (.step 6 (.step 7 (.step 8 (.step 10 (.step 11 .done)))))))) .stop)))))) (by kernel_rfl) ?_ | with_reducible refine PWp.drawT (id := 31) okP true (.step 0 (.step 2 (.step 3 (.fork (.alt 1 (.fork (.alt 4 (.fork (.alt 5 (.step 6 (.step 7 (.step 8 (.step 9 (.step 10 (.step 11 .done)))))) (.alt 9 (.step 5 (.step 6 (.step 7 (.step 8 (.step 10 (.step 11 .done)))))) .stop))) (.alt 9 (.step 4 (.step 5 (.step 6 (.step 7 (.step 8 (.step 10 (.step 11 .done))))))) .stop))) (.alt 9 (.step 1 (.step 4 (.step 5 (.step 6 (.step 7 (.step 8 (.step 10 (.step 11 .done)))))))) .stop)))))) (by kernel_rfl) ?_ | with_reducible (first | refine w1 ?_ | refine w2 ?_ | refine w3 ?_ | refine w4 ?_ | refine w5 ?_ | refine w6 ?_ | refine w7 ?_ | refine w8 ?_ | refine wT ?_ | refine w9 ?_ | refine wE ?_ | refine wS ?_) | ((with_reducible refine hK _ ?_); clear hK K) | ((with_reducible refine PWp.condI ?_); refine ⟨_, rfl, fun hg => ?_, fun hg => ?_⟩ <;> first | (exact absurd hg (by decide)) | ((try simp only [Bool.not_true, Bool.not_false] at hg); (try simp only [hg]); (try simp only [push_cast] at hg); (try exact absurd trivial hg); (try (exfalso; omega)))) | ((first | ((with_reducible refine pops_guard0 ?_); refine ⟨_, rfl, fun K hK => ⟨rfl, ?_⟩⟩) | ((with_reducible refine pD_g0 ?_); refine ⟨_, rfl, rfl, ?_⟩)); (try simp (disch := omega) only [push_cast, seval])) | with_reducible (first | refine ptree_done ?_ | exact ptree_stop | refine ptree_fork ?_) | ((with_reducible refine ptree_I ?_); refine ⟨_, rfl, fun K hK => ?_⟩) | ((with_reducible refine ptree_A ?_ ?_); (refine ⟨_, rfl, fun K hK => ?_⟩)) | ((with_reducible refine pany_I ?_); refine ⟨_, rfl, fun K hK => ?_⟩) | ((with_reducible refine pops_plain fun K hK => ?_); simp (disch := omega) only [push_cast, seval]) | ((first | ((with_reducible refine pD_y ?_ ?_); exact rfl) | ((with_reducible refine pD_x ?_ ?_); exact rfl)); simp (disch := omega) only [push_cast, seval]) | ((first | ((with_reducible refine pops_guard ?_); refine ⟨_, rfl, fun K hK => ⟨_, rfl, fun hg => ?_, fun hg => ?_⟩⟩) | ((first | ((with_reducible refine pD_gy ?_ ?_); exact rfl) | ((with_reducible refine pD_gx ?_ ?_); exact rfl)); refine ⟨_, rfl, _, rfl, fun hg => ?_, fun hg => ?_⟩)) <;> first | (exact absurd hg (by decide)) | ((try simp only [Bool.not_true, Bool.not_false] at hg); (try simp only [hg]); (try simp only [push_cast] at hg); (try exact absurd trivial hg); (try (exfalso; omega)); (try simp (disch := omega) only [push_cast, seval]))) | ((with_reducible show pcall _ _ _ _ _ _); (first | (refine pcall_X1 (cf Tryz.func36) (by ((try simp (disch := omega) only [push_cast, seval]); first | done | exact rfl)) (hz2 _ sd) ?_; rintro y2 ⟨hy3, hy4⟩) | (refine pcH (cf Tryz.func39) (cb) ?_) | (refine pcV (cf Tryz.func41) (ce) ?_) | (refine pcV (cf Tryz.func41) (ce2) ?_) | (refine pcV (cf Tryz.func42) (cq) ?_) | (refine pcall_RGf (cf Tryz.func43) [?_, ?_, ?_] ?_ ?_ ?_ (m2) ?_; rotate_left 3; (· ((try simp (disch := omega) only [push_cast, seval]); (repeat' (first | exact trivial | exact rfl | refine And.intro ?_ ?_ | omega)))); (· (repeat' (first | exact trivial | refine And.intro ?_ ?_ | exact ⟨_, rfl⟩ | (simp (disch := omega) only [push_cast, seval]; done) | exact rfl))); (· exact rfl); rotate_right 1; rotate_left 1; (all_goals (try (first | omega | exact (show _ = _ by assumption))))) | (refine pcall_RGf (cf Tryz.func44) [?_, ?_, ?_] ?_ ?_ ?_ (m1) ?_; rotate_left 3; (· ((try simp (disch := omega) only [push_cast, seval]); (repeat' (first | exact trivial | exact rfl | refine And.intro ?_ ?_ | omega)))); (· (repeat' (first | exact trivial | refine And.intro ?_ ?_ | exact ⟨_, rfl⟩ | (simp (disch := omega) only [push_cast, seval]; done) | exact rfl))); (· exact rfl); rotate_right 1; rotate_left 1; (all_goals (try (first | omega | exact (show _ = _ by assumption))))) | (refine pcall_RGf (cf Tryz.func44) [?_, ?_, ?_] ?_ ?_ ?_ (m3) ?_; rotate_left 3; (· ((try simp (disch := omega) only [push_cast, seval]); (repeat' (first | exact trivial | exact rfl | refine And.intro ?_ ?_ | omega)))); (· (repeat' (first | exact trivial | refine And.intro ?_ ?_ | exact ⟨_, rfl⟩ | (simp (disch := omega) only [push_cast, seval]; done) | exact rfl))); (· exact rfl); rotate_right 1; rotate_left 1; (all_goals (try (first | omega | exact (show _ = _ by assumption))))) | (refine pcV (cf Tryz.func45) (ch) ?_) | (refine pcall_X1 (cf Tryz.func46) (by ((try simp (disch := omega) only [push_cast, seval]); first | done | exact rfl)) (hz1) ?_; rintro y1 ⟨hy1, hy2⟩) | (refine pcH (cf Tryz.func47) (cs) ?_) | (refine pcH (cf Tryz.func48) (ct) ?_) | (refine pcH (cf Tryz.func49) (ci) ?_)); (try simp (disch := omega) only [push_cast, seval])) | ((with_reducible refine And.intro ?_ ?_); omega))
          all_goals
            (refine Mk.of (tail (()) _ _ ?_ (by (refine ⟨[?_, ?_, ?_, ?_, ?_, ?_, ?_, ?_, ?_, ?_, ?_, ?_], ?_, ?_, ?_, ?_⟩; rotate_left 12; (· ((try simp (disch := omega) only [push_cast, seval]); (repeat' (first | exact trivial | exact rfl | refine And.intro ?_ ?_ | omega)))); (· ((try simp (disch := omega) only [push_cast, seval]); (repeat' (first | exact trivial | exact rfl | refine And.intro ?_ ?_ | omega)))); (· exact rfl); (· (first | exact trivial | exact ⟨rfl, trivial⟩ | exact ⟨rfl, rfl, trivial⟩))))))
            trivial
        case t =>
          intro z ρ2 hI; (try dsimp only at hI); refine PWp.at (tm' := ?_) (H' := ?_) ?_ ?_ ?_; rotate_left 2; (· ((try simp only [push_cast, seval]); exact rfl)); (· ((try dsimp only); exact rfl))
          repeat' (first | with_reducible (first | refine wA ?_ | refine wB ?_ | refine wC ?_) | with_reducible refine PWp.draw (id := 14) okP true [0, 1, 2, 3, 4] (by kernel_rfl) ?_ | with_reducible refine PWp.draw (id := 16) okP true [0, 1, 2, 3, 4] (by kernel_rfl) ?_ | with_reducible refine PWp.drawT (id := 8) okP true (.step 0 (.step 2 (.step 3 (.fork (.alt 1 (.fork (.alt 4 (.fork (.alt 5 (.step 6 (.step 7 (.step 8 (.step 9 (.step 10 (.step 11 .done)))))) (.alt 9 (.step 5 (.step 6 (.step 7 (.step 8 (.step 10 (.step 11 .done)))))) .stop))) (.alt 9 (.step 4 (.step 5 (.step 6 (.step 7 (.step 8 (.step 10 (.step 11 .done))))))) .stop))) (.alt 9 (.step 1 (.step 4 (.step 5 (.step 6 (.step 7 (.step 8 (.step 10 (.step 11 .done)))))))) .stop)))))) (by kernel_rfl) ?_ | with_reducible refine PWp.drawT (id := 31) okP true (.step 0 (.step 2 (.step 3 (.fork (.alt 1 (.fork (.alt 4 (.fork (.alt 5 (.step 6 (.step 7 (.step 8 (.step 9 (.step 10 (.step 11 .done)))))) (.alt 9 (.step 5 (.step 6 (.step 7 (.step 8 (.step 10 (.step 11 .done)))))) .stop))) (.alt 9 (.step 4 (.step 5 (.step 6 (.step 7 (.step 8 (.step 10 (.step 11 .done))))))) .stop))) (.alt 9 (.step 1 (.step 4 (.step 5 (.step 6 (.step 7 (.step 8 (.step 10 (.step 11 .done)))))))) .stop)))))) (by kernel_rfl) ?_ | with_reducible (first | refine w1 ?_ | refine w2 ?_ | refine w3 ?_ | refine w4 ?_ | refine w5 ?_ | refine w6 ?_ | refine w7 ?_ | refine w8 ?_ | refine wT ?_ | refine w9 ?_ | refine wE ?_ | refine wS ?_) | ((with_reducible refine hK _ ?_); clear hK K) | ((with_reducible refine PWp.condI ?_); refine ⟨_, rfl, fun hg => ?_, fun hg => ?_⟩ <;> first | (exact absurd hg (by decide)) | ((try simp only [Bool.not_true, Bool.not_false] at hg); (try simp only [hg]); (try simp only [push_cast] at hg); (try exact absurd trivial hg); (try (exfalso; omega)))) | ((first | ((with_reducible refine pops_guard0 ?_); refine ⟨_, rfl, fun K hK => ⟨rfl, ?_⟩⟩) | ((with_reducible refine pD_g0 ?_); refine ⟨_, rfl, rfl, ?_⟩)); (try simp (disch := omega) only [push_cast, seval, xb_ne, beq_self_eq_true])) | with_reducible (first | refine ptree_done ?_ | exact ptree_stop | refine ptree_fork ?_) | ((with_reducible refine ptree_I ?_); refine ⟨_, rfl, fun K hK => ?_⟩) | ((with_reducible refine ptree_A ?_ ?_); (refine ⟨_, rfl, fun K hK => ?_⟩)) | ((with_reducible refine pany_I ?_); refine ⟨_, rfl, fun K hK => ?_⟩) | ((with_reducible refine pops_plain fun K hK => ?_); simp (disch := omega) only [push_cast, seval, xb_ne, beq_self_eq_true]) | ((first | ((with_reducible refine pD_y ?_ ?_); exact rfl) | ((with_reducible refine pD_x ?_ ?_); exact rfl)); simp (disch := omega) only [push_cast, seval, xb_ne, beq_self_eq_true]) | ((first | ((with_reducible refine pops_guard ?_); refine ⟨_, rfl, fun K hK => ⟨_, rfl, fun hg => ?_, fun hg => ?_⟩⟩) | ((first | ((with_reducible refine pD_gy ?_ ?_); exact rfl) | ((with_reducible refine pD_gx ?_ ?_); exact rfl)); refine ⟨_, rfl, _, rfl, fun hg => ?_, fun hg => ?_⟩)) <;> first | (exact absurd hg (by decide)) | ((try simp only [Bool.not_true, Bool.not_false] at hg); (try simp only [hg]); (try simp only [push_cast] at hg); (try exact absurd trivial hg); (try (exfalso; omega)); (try simp (disch := omega) only [push_cast, seval, xb_ne, beq_self_eq_true]))) | ((with_reducible show pcall _ _ _ _ _ _); (first | (refine pcall_X1 (cf Tryz.func36) (by ((try simp (disch := omega) only [push_cast, seval]); first | done | exact rfl)) (hz2 _ sd) ?_; rintro y2 ⟨hy3, hy4⟩) | (refine pcH (cf Tryz.func39) (cb) ?_) | (refine pcV (cf Tryz.func41) (ce) ?_) | (refine pcV (cf Tryz.func41) (ce2) ?_) | (refine pcV (cf Tryz.func42) (cq) ?_) | (refine pcall_RGf (cf Tryz.func43) [?_, ?_, ?_] ?_ ?_ ?_ (m2) ?_; rotate_left 3; (· ((try simp (disch := omega) only [push_cast, seval]); (repeat' (first | exact trivial | exact rfl | refine And.intro ?_ ?_ | omega)))); (· (repeat' (first | exact trivial | refine And.intro ?_ ?_ | exact ⟨_, rfl⟩ | (simp (disch := omega) only [push_cast, seval]; done) | exact rfl))); (· exact rfl); rotate_right 1; rotate_left 1; (all_goals (try (first | omega | exact (show _ = _ by assumption))))) | (refine pcall_RGf (cf Tryz.func44) [?_, ?_, ?_] ?_ ?_ ?_ (m1) ?_; rotate_left 3; (· ((try simp (disch := omega) only [push_cast, seval]); (repeat' (first | exact trivial | exact rfl | refine And.intro ?_ ?_ | omega)))); (· (repeat' (first | exact trivial | refine And.intro ?_ ?_ | exact ⟨_, rfl⟩ | (simp (disch := omega) only [push_cast, seval]; done) | exact rfl))); (· exact rfl); rotate_right 1; rotate_left 1; (all_goals (try (first | omega | exact (show _ = _ by assumption))))) | (refine pcall_RGf (cf Tryz.func44) [?_, ?_, ?_] ?_ ?_ ?_ (m3) ?_; rotate_left 3; (· ((try simp (disch := omega) only [push_cast, seval]); (repeat' (first | exact trivial | exact rfl | refine And.intro ?_ ?_ | omega)))); (· (repeat' (first | exact trivial | refine And.intro ?_ ?_ | exact ⟨_, rfl⟩ | (simp (disch := omega) only [push_cast, seval]; done) | exact rfl))); (· exact rfl); rotate_right 1; rotate_left 1; (all_goals (try (first | omega | exact (show _ = _ by assumption))))) | (refine pcV (cf Tryz.func45) (ch) ?_) | (refine pcall_X1 (cf Tryz.func46) (by ((try simp (disch := omega) only [push_cast, seval]); first | done | exact rfl)) (hz1) ?_; rintro y1 ⟨hy1, hy2⟩) | (refine pcH (cf Tryz.func47) (cs) ?_) | (refine pcH (cf Tryz.func48) (ct) ?_) | (refine pcH (cf Tryz.func49) (ci) ?_)); (try simp (disch := omega) only [push_cast, seval, xb_ne, beq_self_eq_true])) | ((with_reducible refine And.intro ?_ ?_); omega))
          all_goals ((with_reducible show PPostR _ _ _ _ _ _); refine finV ?_; (try simp only [push_cast, seval]))
end Go.Proofs.YtiboajlnjldalaaGreatDoor
namespace Go.Proofs.YtiboajlnjldalaaGreatDoor
set_option linter.unusedSimpArgs false
set_option linter.unusedVariables false
open Go.RowKit
def encCSig (x : GCSig) : List D := [.int x.fVal, .str x.fSig]
theorem dec_CSig : Dec [.int .i64, .str] encCSig := by
  intro n W vs h
  match vs, h with
  | [_, _], ⟨k0, k1, _⟩ =>
    obtain ⟨a0, rfl, h0⟩ := cell_int k0
    obtain ⟨a1, rfl, h1⟩ := cell_str k1
    exact ⟨⟨a0, a1⟩, (Rds.int _ (Rds.str _ Rds.nil)), (okL_int h0 (okL_str h1 okL_nil))⟩
theorem pv_CSig (x : GCSig) : toPVL (encCSig x) = pCSig x := by
  simp only [encCSig, pCSig, toPVL, toPV]
theorem pvs_CSig (e : TypeId) (xs : List GCSig) : toPV (slD e 2 encCSig xs) = .sl 2 (xs.map pCSig) := by rw [toPV_slD (enc := encCSig) (sz := 2) (fun _ => rfl)]; simp only [pv_CSig]
end Go.Proofs.YtiboajlnjldalaaGreatDoor
namespace Go.Proofs.YtiboajlnjldalaaGreatDoor
set_option linter.unusedSimpArgs false
set_option linter.unusedVariables false
open Go.RowKit
end Go.Proofs.YtiboajlnjldalaaGreatDoor
namespace Go.Proofs.YtiboajlnjldalaaGreatDoor
set_option linter.unusedSimpArgs false
set_option linter.unusedVariables false
open Go.RowKit
def encBlock (x : GBlock) : List D := [.int x.fHead.fHeight, .int x.fHead.fTime, .str x.fHead.fLast, .str x.fHead.fVals, .str x.fHead.fNext, .str x.fHead.fData, slD 141 2 encVal x.fVals, slD 141 2 encVal x.fNext, .int x.fCommit.fHeight, .int x.fCommit.fRound, .str x.fCommit.fId, slD 227 2 encCSig x.fCommit.fSigs]
theorem dec_Block : Dec [.int .i64, .int .i64, .str, .str, .str, .str, .sl [.int .i64, .int .i64], .sl [.int .i64, .int .i64], .int .i64, .int .i64, .str, .sl [.int .i64, .str]] encBlock := by
  intro n W vs h
  match vs, h with
  | [_, _, _, _, _, _, _, _, _, _, _, _], ⟨k0, k1, k2, k3, k4, k5, k6, k7, k8, k9, k10, k11, _⟩ =>
    obtain ⟨a0, rfl, h0⟩ := cell_int k0
    obtain ⟨a1, rfl, h1⟩ := cell_int k1
    obtain ⟨a2, rfl, h2⟩ := cell_str k2
    obtain ⟨a3, rfl, h3⟩ := cell_str k3
    obtain ⟨a4, rfl, h4⟩ := cell_str k4
    obtain ⟨a5, rfl, h5⟩ := cell_str k5
    obtain ⟨a6, r6, h6⟩ := dec_sl 141 dec_Val (fun _ => rfl) (by decide) k6
    obtain ⟨a7, r7, h7⟩ := dec_sl 141 dec_Val (fun _ => rfl) (by decide) k7
    obtain ⟨a8, rfl, h8⟩ := cell_int k8
    obtain ⟨a9, rfl, h9⟩ := cell_int k9
    obtain ⟨a10, rfl, h10⟩ := cell_str k10
    obtain ⟨a11, r11, h11⟩ := dec_sl 227 dec_CSig (fun _ => rfl) (by decide) k11
    exact ⟨⟨⟨a0, a1, a2, a3, a4, a5⟩, a6, a7, ⟨a8, a9, a10, a11⟩⟩, (Rds.int _ (Rds.int _ (Rds.str _ (Rds.str _ (Rds.str _ (Rds.str _ (rds_slD.2 ⟨_, _, rfl, r6, (rds_slD.2 ⟨_, _, rfl, r7, (Rds.int _ (Rds.int _ (Rds.str _ (rds_slD.2 ⟨_, _, rfl, r11, Rds.nil⟩))))⟩)⟩))))))), (okL_int h0 (okL_int h1 (okL_str h2 (okL_str h3 (okL_str h4 (okL_str h5 (okL_cons h6 (okL_cons h7 (okL_int h8 (okL_int h9 (okL_str h10 (okL_cons h11 okL_nil))))))))))))⟩
theorem pv_Block (x : GBlock) : toPVL (encBlock x) = pBlock x := by
  simp only [encBlock, pBlock, toPVL, toPV, pvs_CSig, pvs_Val]
end Go.Proofs.YtiboajlnjldalaaGreatDoor
namespace Go.Proofs.YtiboajlnjldalaaGreatDoor
set_option linter.unusedSimpArgs false
set_option linter.unusedVariables false
open Go.RowKit
theorem okL_mem {α : Type} {enc : α → List D} : ∀ {xs : List α}, okL (xs.flatMap enc) → ∀ x ∈ xs, okL (enc x)
  | [], _, _, h => by cases h
  | y :: ys, h, x, hx => by
    rw [List.flatMap_cons, okL_append] at h
    rcases List.mem_cons.1 hx with rfl | hx
    · exact h.1
    · exact okL_mem h.2 x hx
theorem okHeader_of {x : GHeader} (h : okL (encHeader x)) : OkHeader x := by
  simp only [encHeader, okL] at h
  obtain ⟨-, -, h1, h2, h3, h4, -⟩ := h
  exact ⟨h1, h2, h3, h4⟩
theorem okCSig_of {x : GCSig} (h : okL (encCSig x)) : OkCSig x := by
  simp only [encCSig, okL] at h
  obtain ⟨-, h1, -⟩ := h
  exact ⟨h1⟩
theorem okBlock_of {b : GBlock} (h : okL (encBlock b)) : OkBlock b := by
  simp only [encBlock, slD, okL] at h
  obtain ⟨-, -, h1, h2, h3, h4, ⟨h5, -, h6, -, -, -, h7, h8, h9, -⟩⟩ := h
  exact ⟨⟨h1, h2, h3, h4⟩, h5, h6, h8, fun x hx => okCSig_of (okL_mem h9 x hx), h7⟩
theorem okLight_of {c : GLight} (h : okL (encLight c)) : OkLight c := by
  simp only [encLight, slD, okL] at h
  obtain ⟨-, -, -, -, -, h1, h2, h3, h4, h5, -, h6, h7, -, h8, -⟩ := h
  exact ⟨⟨h1, h2, h3, h4⟩, h5, h6, fun x hx => okHeader_of (okL_mem h7 x hx), h8⟩
end Go.Proofs.YtiboajlnjldalaaGreatDoor
namespace Go.Proofs.YtiboajlnjldalaaGreatDoor
set_option linter.unusedSimpArgs false
set_option linter.unusedVariables false
open Go.RowKit Go.ChangeShapes Go.WideShapes
set_option maxRecDepth 100000 in
set_option maxHeartbeats 4000000 in
theorem fnExactLightFeed_any (x0 : GLight) (x1 : Int) (x2 : GBlock) (o1 o2 o3 o4 o5 o6 : Option Addr) (c1 c2 c3 c4 c5 c6 : Nat) (w : World) (h0 : Rds w (encLight x0) [.int .i64 x0.fTrust.fPeriod, .int .i64 x0.fTrust.fSlack, .int .i64 x0.fState, .int .i64 x0.fAnchor.fHead.fHeight, .int .i64 x0.fAnchor.fHead.fTime, .string x0.fAnchor.fHead.fLast, .string x0.fAnchor.fHead.fVals, .string x0.fAnchor.fHead.fNext, .string x0.fAnchor.fHead.fData, .slice o1 x0.fAnchor.fNext.length c1, .slice o2 x0.fStore.fHeads.length c2, .int .i64 x0.fStore.fSynced, .slice o3 x0.fPeers.fPeers.length c3, .int .i64 x0.fPeers.fTurn, .int .i64 x0.fNow]) (k0 : okL (encLight x0)) (k1 : -9223372036854775808 ≤ x1 ∧ x1 ≤ 9223372036854775807) (h2 : Rds w (encBlock x2) [.int .i64 x2.fHead.fHeight, .int .i64 x2.fHead.fTime, .string x2.fHead.fLast, .string x2.fHead.fVals, .string x2.fHead.fNext, .string x2.fHead.fData, .slice o4 x2.fVals.length c4, .slice o5 x2.fNext.length c5, .int .i64 x2.fCommit.fHeight, .int .i64 x2.fCommit.fRound, .string x2.fCommit.fId, .slice o6 x2.fCommit.fSigs.length c6]) (k2 : okL (encBlock x2)) (hG : GlobW w) :
    Calls Tryz.prog 7 #[.agg #[.int .i64 x0.fTrust.fPeriod, .int .i64 x0.fTrust.fSlack, .int .i64 x0.fState, .int .i64 x0.fAnchor.fHead.fHeight, .int .i64 x0.fAnchor.fHead.fTime, .string x0.fAnchor.fHead.fLast, .string x0.fAnchor.fHead.fVals, .string x0.fAnchor.fHead.fNext, .string x0.fAnchor.fHead.fData, .slice o1 x0.fAnchor.fNext.length c1, .slice o2 x0.fStore.fHeads.length c2, .int .i64 x0.fStore.fSynced, .slice o3 x0.fPeers.fPeers.length c3, .int .i64 x0.fPeers.fTurn, .int .i64 x0.fNow], .int .i64 x1, .agg #[.int .i64 x2.fHead.fHeight, .int .i64 x2.fHead.fTime, .string x2.fHead.fLast, .string x2.fHead.fVals, .string x2.fHead.fNext, .string x2.fHead.fData, .slice o4 x2.fVals.length c4, .slice o5 x2.fNext.length c5, .int .i64 x2.fCommit.fHeight, .int .i64 x2.fCommit.fRound, .string x2.fCommit.fId, .slice o6 x2.fCommit.fSigs.length c6]] w fun e w' => e = .returned (.bool true) ∧ Ext w w' := by
  have hp := fnExactLightFeed_p x0 x1 x2 (okLight_of k0) k1 (okBlock_of k2)
  refine (hp.use (w := w) hG.mem (vs := #[.agg #[.int .i64 x0.fTrust.fPeriod, .int .i64 x0.fTrust.fSlack, .int .i64 x0.fState, .int .i64 x0.fAnchor.fHead.fHeight, .int .i64 x0.fAnchor.fHead.fTime, .string x0.fAnchor.fHead.fLast, .string x0.fAnchor.fHead.fVals, .string x0.fAnchor.fHead.fNext, .string x0.fAnchor.fHead.fData, .slice o1 x0.fAnchor.fNext.length c1, .slice o2 x0.fStore.fHeads.length c2, .int .i64 x0.fStore.fSynced, .slice o3 x0.fPeers.fPeers.length c3, .int .i64 x0.fPeers.fTurn, .int .i64 x0.fNow], .int .i64 x1, .agg #[.int .i64 x2.fHead.fHeight, .int .i64 x2.fHead.fTime, .string x2.fHead.fLast, .string x2.fHead.fVals, .string x2.fHead.fNext, .string x2.fHead.fData, .slice o4 x2.fVals.length c4, .slice o5 x2.fNext.length c5, .int .i64 x2.fCommit.fHeight, .int .i64 x2.fCommit.fRound, .string x2.fCommit.fId, .slice o6 x2.fCommit.fSigs.length c6]]) ⟨rfl, fun i pv v a b => ?_⟩).mono fun e w' ⟨v, M', h', pv, H', e1, e2, e3, e4, e5, e6⟩ => ?_
  · match i with
    | 0 => simp at a b; subst a; subst b; rw [← pv_Light]; exact Rds.agg h0 _
    | 1 => simp at a b; subst a; subst b; exact .val _
    | 2 => simp at a b; subst a; subst b; rw [← pv_Block]; exact Rds.agg h2 _
    | i + 3 => simp at a
  · cases e2; have q := vr_val e3; subst q; exact ⟨e1, e5⟩
set_option maxRecDepth 100000 in
theorem fnExactLightFeed_args {H : Type} {enc : TypeId × Value → H} (W : World) (base : Nat) (args : Array Value) (ds : List (DataW H)) (p : List MemPlace) (hG : GlobW W)
    (hval : ∀ (j : Nat) t v, #[98, 3, 67][j]? = some t → args[j]? = some v → Value.okWide Tryz.prog W .any base t v)
    (hA : DataW.TrodAll enc Tryz.prog W 0 (fun _ => true) true #[98, 3, 67].toList args.toList ds p) :
    Calls Tryz.prog 7 args W fun e W' => e = .returned (.bool true) ∧ Ext W W' := by
  obtain ⟨v0, v1, v2, d0, d1, d2, p0, p1, p2, rfl, rfl, rfl, h0, h1, h2⟩ := trodAll_three hA
  obtain ⟨cs0, rfl, e0⟩ := read_struct Tryz.underlying98 (n := 8) (ss := [.int .i64, .int .i64, .int .i64, .int .i64, .int .i64, .str, .str, .str, .str, .sl [.int .i64, .int .i64], .sl [.int .i64, .int .i64, .str, .str, .str, .str], .int .i64, .sl [.int .i64, .bool, .int .i64, .int .i64], .int .i64, .int .i64]) (by kernel_rfl) (hval 0 _ _ rfl rfl) h0
  obtain ⟨x0, r0, k0⟩ := dec_Light _ _ _ e0
  have q0 := r0
  obtain ⟨l0_0, e0_0, q0⟩ := rds_int.1 q0
  obtain ⟨l0_1, e0_1, q0⟩ := rds_int.1 q0
  obtain ⟨l0_2, e0_2, q0⟩ := rds_int.1 q0
  obtain ⟨l0_3, e0_3, q0⟩ := rds_int.1 q0
  obtain ⟨l0_4, e0_4, q0⟩ := rds_int.1 q0
  obtain ⟨l0_5, e0_5, q0⟩ := rds_str.1 q0
  obtain ⟨l0_6, e0_6, q0⟩ := rds_str.1 q0
  obtain ⟨l0_7, e0_7, q0⟩ := rds_str.1 q0
  obtain ⟨l0_8, e0_8, q0⟩ := rds_str.1 q0
  obtain ⟨_, l0_9, e0_9, b0_9, q0⟩ := rds_slD.1 q0
  obtain ⟨o1, c1, rfl⟩ := RS.val b0_9
  obtain ⟨_, l0_10, e0_10, b0_10, q0⟩ := rds_slD.1 q0
  obtain ⟨o2, c2, rfl⟩ := RS.val b0_10
  obtain ⟨l0_11, e0_11, q0⟩ := rds_int.1 q0
  obtain ⟨_, l0_12, e0_12, b0_12, q0⟩ := rds_slD.1 q0
  obtain ⟨o3, c3, rfl⟩ := RS.val b0_12
  obtain ⟨l0_13, e0_13, q0⟩ := rds_int.1 q0
  obtain ⟨l0_14, e0_14, q0⟩ := rds_int.1 q0
  have z0 := rds_nil.1 q0
  subst z0
  subst e0_14
  subst e0_13
  subst e0_12
  subst e0_11
  subst e0_10
  subst e0_9
  subst e0_8
  subst e0_7
  subst e0_6
  subst e0_5
  subst e0_4
  subst e0_3
  subst e0_2
  subst e0_1
  obtain rfl : cs0 = #[.int .i64 x0.fTrust.fPeriod, .int .i64 x0.fTrust.fSlack, .int .i64 x0.fState, .int .i64 x0.fAnchor.fHead.fHeight, .int .i64 x0.fAnchor.fHead.fTime, .string x0.fAnchor.fHead.fLast, .string x0.fAnchor.fHead.fVals, .string x0.fAnchor.fHead.fNext, .string x0.fAnchor.fHead.fData, .slice o1 x0.fAnchor.fNext.length c1, .slice o2 x0.fStore.fHeads.length c2, .int .i64 x0.fStore.fSynced, .slice o3 x0.fPeers.fPeers.length c3, .int .i64 x0.fPeers.fTurn, .int .i64 x0.fNow] := by rw [← Array.toArray_toList (xs := cs0), e0_0]
  obtain ⟨x1, rfl, u1⟩ := read_int Tryz.underlying3 (hval 1 _ _ rfl rfl) h1
  obtain ⟨cs2, rfl, e2⟩ := read_struct Tryz.underlying67 (n := 8) (ss := [.int .i64, .int .i64, .str, .str, .str, .str, .sl [.int .i64, .int .i64], .sl [.int .i64, .int .i64], .int .i64, .int .i64, .str, .sl [.int .i64, .str]]) (by kernel_rfl) (hval 2 _ _ rfl rfl) h2
  obtain ⟨x2, r2, k2⟩ := dec_Block _ _ _ e2
  have q2 := r2
  obtain ⟨l2_0, e2_0, q2⟩ := rds_int.1 q2
  obtain ⟨l2_1, e2_1, q2⟩ := rds_int.1 q2
  obtain ⟨l2_2, e2_2, q2⟩ := rds_str.1 q2
  obtain ⟨l2_3, e2_3, q2⟩ := rds_str.1 q2
  obtain ⟨l2_4, e2_4, q2⟩ := rds_str.1 q2
  obtain ⟨l2_5, e2_5, q2⟩ := rds_str.1 q2
  obtain ⟨_, l2_6, e2_6, b2_6, q2⟩ := rds_slD.1 q2
  obtain ⟨o4, c4, rfl⟩ := RS.val b2_6
  obtain ⟨_, l2_7, e2_7, b2_7, q2⟩ := rds_slD.1 q2
  obtain ⟨o5, c5, rfl⟩ := RS.val b2_7
  obtain ⟨l2_8, e2_8, q2⟩ := rds_int.1 q2
  obtain ⟨l2_9, e2_9, q2⟩ := rds_int.1 q2
  obtain ⟨l2_10, e2_10, q2⟩ := rds_str.1 q2
  obtain ⟨_, l2_11, e2_11, b2_11, q2⟩ := rds_slD.1 q2
  obtain ⟨o6, c6, rfl⟩ := RS.val b2_11
  have z2 := rds_nil.1 q2
  subst z2
  subst e2_11
  subst e2_10
  subst e2_9
  subst e2_8
  subst e2_7
  subst e2_6
  subst e2_5
  subst e2_4
  subst e2_3
  subst e2_2
  subst e2_1
  obtain rfl : cs2 = #[.int .i64 x2.fHead.fHeight, .int .i64 x2.fHead.fTime, .string x2.fHead.fLast, .string x2.fHead.fVals, .string x2.fHead.fNext, .string x2.fHead.fData, .slice o4 x2.fVals.length c4, .slice o5 x2.fNext.length c5, .int .i64 x2.fCommit.fHeight, .int .i64 x2.fCommit.fRound, .string x2.fCommit.fId, .slice o6 x2.fCommit.fSigs.length c6] := by rw [← Array.toArray_toList (xs := cs2), e2_0]
  exact fnExactLightFeed_any x0 x1 x2 o1 o2 o3 o4 o5 o6 c1 c2 c3 c4 c5 c6 W r0 k0 (wf_bd u1) r2 k2 hG
end Go.Proofs.YtiboajlnjldalaaGreatDoor

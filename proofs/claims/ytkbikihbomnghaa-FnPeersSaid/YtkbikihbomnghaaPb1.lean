/- Walks on the pure machine: who is banned, as the reference counts. -/
import Derived.Test.YtkbikihbomnghaaPc6
namespace Go.Proofs.Ytkbikihbomnghaa
set_option linter.unusedSimpArgs false
set_option linter.unusedVariables false
open Go.RowKit
set_option maxRecDepth 100000

def isBan (t : GTable) (now : Int) (id : Nat) : Bool := decide (1 ≤ id) && (decide (0 ≤ peerIdx t.fPeers id) && (match t.fPeers[(peerIdx t.fPeers id).toNat]? with | some p => decide (now < p.fUntil) | none => false))
def banU (t : GTable) (now : Int) (k : Nat) : List Int := ((List.range k).filter (isBan t now)).map fun n : Nat => (n : Int)
theorem banU_one {t : GTable} {now : Int} : banU t now 1 = [] := by
  have : isBan t now 0 = false := by unfold isBan; rfl
  unfold banU
  rw [List.range_succ, List.range_zero, List.nil_append, List.filter_cons, this]
  rfl
theorem banU_yes {t : GTable} {now : Int} {k : Nat} (h : isBan t now k = true) : banU t now (k + 1) = banU t now k ++ [(k : Int)] := by
  unfold banU
  rw [List.range_succ, List.filter_append, List.filter_cons, h, List.map_append]
  rfl
theorem banU_no {t : GTable} {now : Int} {k : Nat} (h : isBan t now k = false) : banU t now (k + 1) = banU t now k := by
  unfold banU
  rw [List.range_succ, List.filter_append, List.filter_cons, h, List.map_append]
  simp
theorem banU_len {t : GTable} {now : Int} {k : Nat} : (banU t now k).length ≤ k := by
  unfold banU
  rw [List.length_map]
  exact Nat.le_trans (List.length_filter_le _ _) (by simp)
theorem banU_mem {t : GTable} {now : Int} {k : Nat} {x : Int} : x ∈ banU t now k ↔ ∃ n : Nat, n < k ∧ isBan t now n = true ∧ (n : Int) = x := by
  unfold banU
  simp only [List.mem_map, List.mem_filter, List.mem_range]
  constructor
  · rintro ⟨n, ⟨h1, h2⟩, h3⟩; exact ⟨n, h1, h2, h3⟩
  · rintro ⟨n, h1, h2, h3⟩; exact ⟨n, ⟨h1, h2⟩, h3⟩
theorem ids_nodup {t : GTable} (ok : tableOk t = true) : (t.fPeers.map (·.fId)).Nodup := by
  have f := (tableOk_iff.1 ok).1
  unfold List.Nodup
  rw [List.pairwise_iff_getElem]
  intro i j hi hj hij e
  simp only [List.length_map] at hi hj
  simp only [List.getElem_map] at e
  have h1 := (f i _ (List.getElem?_eq_getElem hi)).2.2.2
  have h2 := (f j _ (List.getElem?_eq_getElem hj)).2.2.2
  rw [e] at h1
  omega
theorem ban_sort {t : GTable} (ok : tableOk t = true) (now : Int) : banU t now 100 = sortI (bans t.fPeers now) := by
  have f := (tableOk_iff.1 ok).1
  have p1 : (banU t now 100).Pairwise fun a b => a ≤ b := by
    unfold banU
    rw [List.pairwise_map]
    refine List.Pairwise.imp ?_ (List.Pairwise.filter _ List.pairwise_lt_range)
    intro a b h
    omega
  have n1 : (banU t now 100).Nodup := by
    unfold banU List.Nodup
    rw [List.pairwise_map]
    refine List.Pairwise.imp ?_ (List.Pairwise.filter _ List.pairwise_lt_range)
    intro a b h e
    omega
  have p2 : (sortI (bans t.fPeers now)).Pairwise fun a b => a ≤ b := by
    have := List.pairwise_mergeSort (le := fun x y : Int => decide (x ≤ y)) (fun a b c h1 h2 => by simp only [decide_eq_true_eq] at *; omega) (fun a b => by simp only [Bool.or_eq_true, decide_eq_true_eq]; omega) (bans t.fPeers now)
    exact this.imp fun {a b} h => by simpa using h
  have n2 : (bans t.fPeers now).Nodup := by
    unfold bans
    exact (ids_nodup ok).sublist (List.filter_sublist.map _)
  refine List.Perm.eq_of_pairwise (le := fun a b : Int => a ≤ b) (fun a b _ _ h1 h2 => by omega) p1 p2 (List.Perm.trans ?_ (show (sortI (bans t.fPeers now)).Perm (bans t.fPeers now) from List.mergeSort_perm _ _).symm)
  refine (List.perm_ext_iff_of_nodup n1 n2).2 fun x => ?_
  rw [banU_mem]
  constructor
  · rintro ⟨n, _, hb, rfl⟩
    unfold isBan at hb
    simp only [Bool.and_eq_true, decide_eq_true_eq] at hb
    obtain ⟨_, h0, h1⟩ := hb
    obtain ⟨p, hp, hid, _⟩ := idx_get (p := fun p : GPeer => decide (p.fId = (n : Int))) (xs := t.fPeers) h0
    have hp' : t.fPeers[(peerIdx t.fPeers (n : Int)).toNat]? = some p := hp
    rw [hp'] at h1
    simp only [decide_eq_true_eq] at h1 hid
    unfold bans
    exact List.mem_map.2 ⟨p, List.mem_filter.2 ⟨List.mem_of_getElem? hp, by simpa using h1⟩, hid⟩
  · intro hx
    unfold bans at hx
    obtain ⟨p, hp, rfl⟩ := List.mem_map.1 hx
    obtain ⟨hp, hu⟩ := List.mem_filter.1 hp
    obtain ⟨i, hi, rfl⟩ := List.getElem_of_mem hp
    have g := f i _ (List.getElem?_eq_getElem hi)
    refine ⟨(t.fPeers[i].fId).toNat, by omega, ?_, by omega⟩
    have e : ((t.fPeers[i].fId.toNat : Nat) : Int) = t.fPeers[i].fId := by omega
    unfold isBan
    rw [e, g.2.2.2, Int.toNat_natCast, List.getElem?_eq_getElem hi]
    simp only [Bool.and_eq_true, decide_eq_true_eq]
    simp only [decide_eq_true_eq] at hu
    exact ⟨by omega, by omega, hu⟩
set_option maxHeartbeats 1000000 in
theorem sBanned_o (t : GTable) (now : Int) (ok : tableOk t = true) (hn : isTime now = true) : PCalls Try.prog 29 [.agg (pTable t), .val (.int .i64 now)] [] (RH (.own 0) [some (.row 3 1 ((sortI (bans t.fPeers now)).map pInt))]) := by
  rw [← ban_sort ok]
  have h6 := (tableOk_iff.1 ok).2.1
  refine pcalls_ofR okP Try.func29 rfl ?_
  simp only [Try.f29, List.length_cons, List.length_nil, Nat.reduceAdd, Nat.reduceSub, List.replicate_succ, List.replicate_zero, List.cons_append, List.nil_append, List.length_map]
  repeat' (first | with_reducible refine PWp.seq ?_ | with_reducible refine PWp.block ?_ | with_reducible refine PWp.region okP true ?_ | with_reducible (first | refine pops_nil ?_ | refine pany_nil ?_ | refine pthen_normal ?_ | refine pblock_normal ?_ | refine pthen_ret ?_ | refine pblock_ret ?_ | refine pthen_exit ?_ | refine pblock_here ?_ | refine pblock_there rfl ?_ | refine PWp.ret ?_ | refine PWp.exit ?_ | refine PWp.skip ?_) | ((with_reducible refine hK _ ?_); clear hK K) | ((with_reducible refine PWp.condI ?_); refine ⟨_, rfl, fun hg => ?_, fun hg => ?_⟩ <;> first | (exact absurd hg (by decide)) | ((try simp only [Bool.not_true, Bool.not_false] at hg); (try simp only [hg]); (try simp only [push_cast] at hg); (try exact absurd trivial hg); (try (exfalso; omega)))) | ((with_reducible refine pops_guard0 ?_); refine ⟨_, rfl, fun K hK => ⟨rfl, ?_⟩⟩; (try simp (disch := omega) only [push_cast, seval])) | ((with_reducible refine pops_plain fun K hK => popO_row ?_); refine ⟨_, _, _, _, _, rfl, rfl, rfl, rfl, rfl, ?_⟩; simp (disch := omega) only [push_cast, seval]) | ((with_reducible refine pops_plain fun K hK => ?_); simp (disch := omega) only [push_cast, seval]) | ((with_reducible refine pops_guard ?_); refine ⟨_, rfl, fun K hK => ⟨_, rfl, fun hg => ?_, fun hg => ?_⟩⟩ <;> first | (exact absurd hg (by decide)) | ((try simp only [Bool.not_true, Bool.not_false] at hg); (try simp only [hg]); (try simp only [push_cast] at hg); (try exact absurd trivial hg); (try (exfalso; omega)); (try simp (disch := omega) only [push_cast, seval]))) | ((with_reducible show pcall _ _ _ _ _ _); (first | (refine pcV (g := 39) (callable_of Try.func39 rfl rfl) (sTableOk_p ⟨_, _⟩ (by (first | assumption | omega | (simp; omega) | (simp_all; done) | (simp_all; omega)))) ?_) | (refine pcV (g := 77) (callable_of Try.func77 rfl rfl) (sL19At_p ⟨_, _⟩ _ (by (first | assumption | omega | (simp; omega) | (simp_all; done) | (simp_all; omega)))) ?_) | (refine pcV (g := 99) (callable_of Try.func99 rfl rfl) (l10Time_p _) ?_)); (try simp (disch := omega) only [push_cast, seval])) | ((with_reducible refine And.intro ?_ ?_); omega))
  refine PWp.loopK (α := Nat) (fun k => [(2, .ptr 0 0), (5, .own 1), (6, .val (.int .i64 (k : Int)))]) [0, 3, 7, 8, 9, 10, 11, 12, 13, 14, 15, 16, 17, 18, 19, 20, 21, 22, 23, 24, 25, 26, 27, 28, 29, 30, 31, 32, 33, 34, 35, 36, 37, 38, 39] (fun k => [some (.box (pTable t)), some (.row 3 1 ((banU t now k).map pInt))]) (fun k => 1 ≤ k ∧ k ≤ 100) (fun k => 100 - k) (1) (⟨Nat.le_refl _, by omega⟩) (by (refine ⟨[?_, ?_], ?_, ?_, ?_, ?_⟩; rotate_left 2; (· ((try simp (disch := omega) only [push_cast, seval]); (repeat' (first | exact trivial | exact rfl | refine And.intro ?_ ?_ | omega)))); (· ((try simp (disch := omega) only [push_cast, seval]); (repeat' (first | exact trivial | exact rfl | refine And.intro ?_ ?_ | omega)))); (· exact rfl); (· (first | exact trivial | exact ⟨rfl, trivial⟩ | exact ⟨rfl, rfl, trivial⟩)))) ?_
  intro k ρ hI
  (try dsimp only at hI)
  refine PWp.at (tm' := ?_) (H' := ?_) ?_ ?_ ?_; rotate_left 2; (· ((try simp only [push_cast, seval]); exact rfl)); (· ((try dsimp only); exact rfl))
  obtain ⟨hk1, hk2⟩ := hI
  have hlen := banU_len (t := t) (now := now) (k := k)
  by_cases hlt : k < 100
  · obtain ⟨g1, g2⟩ := idx_ge (fun p : GPeer => decide (p.fId = (k : Int))) t.fPeers
    by_cases h0 : peerIdx t.fPeers (k : Int) < 0
    · have hb : isBan t now k = false := by unfold isBan; rw [decide_eq_false (by omega : ¬ 0 ≤ peerIdx t.fPeers (k : Int))]; simp
      repeat' (first | with_reducible refine PWp.seq ?_ | with_reducible refine PWp.block ?_ | with_reducible refine PWp.region okP true ?_ | with_reducible (first | refine pops_nil ?_ | refine pany_nil ?_ | refine pthen_normal ?_ | refine pblock_normal ?_ | refine pthen_ret ?_ | refine pblock_ret ?_ | refine pthen_exit ?_ | refine pblock_here ?_ | refine pblock_there rfl ?_ | refine PWp.ret ?_ | refine PWp.exit ?_ | refine PWp.skip ?_) | ((with_reducible refine hK _ ?_); clear hK K) | ((with_reducible refine PWp.condI ?_); refine ⟨_, rfl, fun hg => ?_, fun hg => ?_⟩ <;> first | (exact absurd hg (by decide)) | ((try simp only [Bool.not_true, Bool.not_false] at hg); (try simp only [hg]); (try simp only [push_cast] at hg); (try exact absurd trivial hg); (try (exfalso; omega)))) | ((with_reducible refine pops_guard0 ?_); refine ⟨_, rfl, fun K hK => ⟨rfl, ?_⟩⟩; (try simp (disch := omega) only [push_cast, seval, ok, hn])) | ((with_reducible refine pops_plain fun K hK => popO_row ?_); refine ⟨_, _, _, _, _, rfl, rfl, rfl, rfl, rfl, ?_⟩; simp (disch := omega) only [push_cast, seval, ok, hn]) | ((with_reducible refine pops_plain fun K hK => ?_); simp (disch := omega) only [push_cast, seval, ok, hn]) | ((with_reducible refine pops_guard ?_); refine ⟨_, rfl, fun K hK => ⟨_, rfl, fun hg => ?_, fun hg => ?_⟩⟩ <;> first | (exact absurd hg (by decide)) | ((try simp only [Bool.not_true, Bool.not_false] at hg); (try simp only [hg]); (try simp only [push_cast] at hg); (try exact absurd trivial hg); (try (exfalso; omega)); (try simp (disch := omega) only [push_cast, seval, ok, hn]))) | ((with_reducible show pcall _ _ _ _ _ _); (first | (refine pcV (g := 39) (callable_of Try.func39 rfl rfl) (sTableOk_p ⟨_, _⟩ (by (first | assumption | omega | (simp; omega) | (simp_all; done) | (simp_all; omega)))) ?_) | (refine pcV (g := 77) (callable_of Try.func77 rfl rfl) (sL19At_p ⟨_, _⟩ _ (by (first | assumption | omega | (simp; omega) | (simp_all; done) | (simp_all; omega)))) ?_) | (refine pcV (g := 99) (callable_of Try.func99 rfl rfl) (l10Time_p _) ?_)); (try simp (disch := omega) only [push_cast, seval, ok, hn])) | ((with_reducible refine And.intro ?_ ?_); omega))
      (refine ⟨k + 1, by ((try dsimp only); omega), ?_, by (refine ⟨[?_, ?_], ?_, ?_, ?_, ?_⟩; rotate_left 2; (· ((try simp (disch := omega) only [push_cast, seval, banU_no hb]); (repeat' (first | exact trivial | exact rfl | refine And.intro ?_ ?_ | omega)))); (· ((try simp (disch := omega) only [push_cast, seval, banU_no hb]); (repeat' (first | exact trivial | exact rfl | refine And.intro ?_ ?_ | omega)))); (· exact rfl); (· (first | exact trivial | exact ⟨rfl, trivial⟩ | exact ⟨rfl, rfl, trivial⟩)))⟩)
      exact ⟨by omega, by omega⟩
    obtain ⟨i, hi⟩ : ∃ i : Nat, peerIdx t.fPeers (k : Int) = i := ⟨(peerIdx t.fPeers k).toNat, by omega⟩
    have hil : i < t.fPeers.length := by unfold peerIdx at hi; omega
    obtain ⟨x, hx⟩ : ∃ x, t.fPeers[i]? = some x := ⟨_, List.getElem?_eq_getElem hil⟩
    by_cases hu : now < x.fUntil
    · have hb : isBan t now k = true := by unfold isBan; rw [hi, Int.toNat_natCast, hx]; simp [hk1, hu]
      repeat' (first | with_reducible refine PWp.seq ?_ | with_reducible refine PWp.block ?_ | with_reducible refine PWp.region okP true ?_ | with_reducible (first | refine pops_nil ?_ | refine pany_nil ?_ | refine pthen_normal ?_ | refine pblock_normal ?_ | refine pthen_ret ?_ | refine pblock_ret ?_ | refine pthen_exit ?_ | refine pblock_here ?_ | refine pblock_there rfl ?_ | refine PWp.ret ?_ | refine PWp.exit ?_ | refine PWp.skip ?_) | ((with_reducible refine hK _ ?_); clear hK K) | ((with_reducible refine PWp.condI ?_); refine ⟨_, rfl, fun hg => ?_, fun hg => ?_⟩ <;> first | (exact absurd hg (by decide)) | ((try simp only [Bool.not_true, Bool.not_false] at hg); (try simp only [hg]); (try simp only [push_cast] at hg); (try exact absurd trivial hg); (try (exfalso; omega)))) | ((with_reducible refine pops_guard0 ?_); refine ⟨_, rfl, fun K hK => ⟨rfl, ?_⟩⟩; (try simp (disch := omega) only [push_cast, seval, ok, hn, hi, hx])) | ((with_reducible refine pops_plain fun K hK => popO_row ?_); refine ⟨_, _, _, _, _, rfl, rfl, rfl, rfl, rfl, ?_⟩; simp (disch := omega) only [push_cast, seval, ok, hn, hi, hx]) | ((with_reducible refine pops_plain fun K hK => ?_); simp (disch := omega) only [push_cast, seval, ok, hn, hi, hx]) | ((with_reducible refine pops_guard ?_); refine ⟨_, rfl, fun K hK => ⟨_, rfl, fun hg => ?_, fun hg => ?_⟩⟩ <;> first | (exact absurd hg (by decide)) | ((try simp only [Bool.not_true, Bool.not_false] at hg); (try simp only [hg]); (try simp only [push_cast] at hg); (try exact absurd trivial hg); (try (exfalso; omega)); (try simp (disch := omega) only [push_cast, seval, ok, hn, hi, hx]))) | ((with_reducible show pcall _ _ _ _ _ _); (first | (refine pcV (g := 39) (callable_of Try.func39 rfl rfl) (sTableOk_p ⟨_, _⟩ (by (first | assumption | omega | (simp; omega) | (simp_all; done) | (simp_all; omega)))) ?_) | (refine pcV (g := 77) (callable_of Try.func77 rfl rfl) (sL19At_p ⟨_, _⟩ _ (by (first | assumption | omega | (simp; omega) | (simp_all; done) | (simp_all; omega)))) ?_) | (refine pcV (g := 99) (callable_of Try.func99 rfl rfl) (l10Time_p _) ?_)); (try simp (disch := omega) only [push_cast, seval, ok, hn, hi, hx])) | ((with_reducible refine And.intro ?_ ?_); omega))
      (refine ⟨k + 1, by ((try dsimp only); omega), ?_, by (refine ⟨[?_, ?_], ?_, ?_, ?_, ?_⟩; rotate_left 2; (· ((try simp (disch := omega) only [push_cast, seval, banU_yes hb, List.map_append, List.map_cons, List.map_nil, pInt]); (repeat' (first | exact trivial | exact rfl | refine And.intro ?_ ?_ | omega)))); (· ((try simp (disch := omega) only [push_cast, seval, banU_yes hb, List.map_append, List.map_cons, List.map_nil, pInt]); (repeat' (first | exact trivial | exact rfl | refine And.intro ?_ ?_ | omega)))); (· exact rfl); (· (first | exact trivial | exact ⟨rfl, trivial⟩ | exact ⟨rfl, rfl, trivial⟩)))⟩)
      exact ⟨by omega, by omega⟩
    · have hb : isBan t now k = false := by unfold isBan; rw [hi, Int.toNat_natCast, hx]; simp [hu]
      repeat' (first | with_reducible refine PWp.seq ?_ | with_reducible refine PWp.block ?_ | with_reducible refine PWp.region okP true ?_ | with_reducible (first | refine pops_nil ?_ | refine pany_nil ?_ | refine pthen_normal ?_ | refine pblock_normal ?_ | refine pthen_ret ?_ | refine pblock_ret ?_ | refine pthen_exit ?_ | refine pblock_here ?_ | refine pblock_there rfl ?_ | refine PWp.ret ?_ | refine PWp.exit ?_ | refine PWp.skip ?_) | ((with_reducible refine hK _ ?_); clear hK K) | ((with_reducible refine PWp.condI ?_); refine ⟨_, rfl, fun hg => ?_, fun hg => ?_⟩ <;> first | (exact absurd hg (by decide)) | ((try simp only [Bool.not_true, Bool.not_false] at hg); (try simp only [hg]); (try simp only [push_cast] at hg); (try exact absurd trivial hg); (try (exfalso; omega)))) | ((with_reducible refine pops_guard0 ?_); refine ⟨_, rfl, fun K hK => ⟨rfl, ?_⟩⟩; (try simp (disch := omega) only [push_cast, seval, ok, hn, hi, hx])) | ((with_reducible refine pops_plain fun K hK => popO_row ?_); refine ⟨_, _, _, _, _, rfl, rfl, rfl, rfl, rfl, ?_⟩; simp (disch := omega) only [push_cast, seval, ok, hn, hi, hx]) | ((with_reducible refine pops_plain fun K hK => ?_); simp (disch := omega) only [push_cast, seval, ok, hn, hi, hx]) | ((with_reducible refine pops_guard ?_); refine ⟨_, rfl, fun K hK => ⟨_, rfl, fun hg => ?_, fun hg => ?_⟩⟩ <;> first | (exact absurd hg (by decide)) | ((try simp only [Bool.not_true, Bool.not_false] at hg); (try simp only [hg]); (try simp only [push_cast] at hg); (try exact absurd trivial hg); (try (exfalso; omega)); (try simp (disch := omega) only [push_cast, seval, ok, hn, hi, hx]))) | ((with_reducible show pcall _ _ _ _ _ _); (first | (refine pcV (g := 39) (callable_of Try.func39 rfl rfl) (sTableOk_p ⟨_, _⟩ (by (first | assumption | omega | (simp; omega) | (simp_all; done) | (simp_all; omega)))) ?_) | (refine pcV (g := 77) (callable_of Try.func77 rfl rfl) (sL19At_p ⟨_, _⟩ _ (by (first | assumption | omega | (simp; omega) | (simp_all; done) | (simp_all; omega)))) ?_) | (refine pcV (g := 99) (callable_of Try.func99 rfl rfl) (l10Time_p _) ?_)); (try simp (disch := omega) only [push_cast, seval, ok, hn, hi, hx])) | ((with_reducible refine And.intro ?_ ?_); omega))
      (refine ⟨k + 1, by ((try dsimp only); omega), ?_, by (refine ⟨[?_, ?_], ?_, ?_, ?_, ?_⟩; rotate_left 2; (· ((try simp (disch := omega) only [push_cast, seval, banU_no hb]); (repeat' (first | exact trivial | exact rfl | refine And.intro ?_ ?_ | omega)))); (· ((try simp (disch := omega) only [push_cast, seval, banU_no hb]); (repeat' (first | exact trivial | exact rfl | refine And.intro ?_ ?_ | omega)))); (· exact rfl); (· (first | exact trivial | exact ⟨rfl, trivial⟩ | exact ⟨rfl, rfl, trivial⟩)))⟩)
      exact ⟨by omega, by omega⟩
  obtain rfl : k = 100 := by omega
  repeat' (first | with_reducible refine PWp.seq ?_ | with_reducible refine PWp.block ?_ | with_reducible refine PWp.region okP true ?_ | with_reducible (first | refine pops_nil ?_ | refine pany_nil ?_ | refine pthen_normal ?_ | refine pblock_normal ?_ | refine pthen_ret ?_ | refine pblock_ret ?_ | refine pthen_exit ?_ | refine pblock_here ?_ | refine pblock_there rfl ?_ | refine PWp.ret ?_ | refine PWp.exit ?_ | refine PWp.skip ?_) | ((with_reducible refine hK _ ?_); clear hK K) | ((with_reducible refine PWp.condI ?_); refine ⟨_, rfl, fun hg => ?_, fun hg => ?_⟩ <;> first | (exact absurd hg (by decide)) | ((try simp only [Bool.not_true, Bool.not_false] at hg); (try simp only [hg]); (try simp only [push_cast] at hg); (try exact absurd trivial hg); (try (exfalso; omega)))) | ((with_reducible refine pops_guard0 ?_); refine ⟨_, rfl, fun K hK => ⟨rfl, ?_⟩⟩; (try simp (disch := omega) only [push_cast, seval])) | ((with_reducible refine pops_plain fun K hK => popO_row ?_); refine ⟨_, _, _, _, _, rfl, rfl, rfl, rfl, rfl, ?_⟩; simp (disch := omega) only [push_cast, seval]) | ((with_reducible refine pops_plain fun K hK => ?_); simp (disch := omega) only [push_cast, seval]) | ((with_reducible refine pops_guard ?_); refine ⟨_, rfl, fun K hK => ⟨_, rfl, fun hg => ?_, fun hg => ?_⟩⟩ <;> first | (exact absurd hg (by decide)) | ((try simp only [Bool.not_true, Bool.not_false] at hg); (try simp only [hg]); (try simp only [push_cast] at hg); (try exact absurd trivial hg); (try (exfalso; omega)); (try simp (disch := omega) only [push_cast, seval]))) | ((with_reducible show pcall _ _ _ _ _ _); (first | (refine pcV (g := 39) (callable_of Try.func39 rfl rfl) (sTableOk_p ⟨_, _⟩ (by (first | assumption | omega | (simp; omega) | (simp_all; done) | (simp_all; omega)))) ?_) | (refine pcV (g := 77) (callable_of Try.func77 rfl rfl) (sL19At_p ⟨_, _⟩ _ (by (first | assumption | omega | (simp; omega) | (simp_all; done) | (simp_all; omega)))) ?_) | (refine pcV (g := 99) (callable_of Try.func99 rfl rfl) (l10Time_p _) ?_)); (try simp (disch := omega) only [push_cast, seval])) | ((with_reducible refine And.intro ?_ ?_); omega))
  ((first | with_reducible (first | refine pendH1 [?_] ?_ ?_ ?_ ?_ ?_ | refine pendH2 [?_] ?_ ?_ ?_ ?_ ?_ | refine pendH3 [?_] ?_ ?_ ?_ ?_ ?_ | refine pendH0 [?_] ?_ ?_ ?_ ?_ ?_) | refine pendHG [?_] ?_ ?_ ?_ ?_ ?_); rotate_left 1; (· (first | exact .inl rfl | exact .inr rfl)); (· ((try (apply Exists.intro; apply And.intro; (· repeat' (first | exact presults_nil | apply presults_tmp | (apply presults_agg; (· exact rfl); (· exact rfl); (· exact rfl); (· exact rfl); (· exact rfl); (· first | exact Nat.le_refl _ | decide | simp)) | (apply presults_one; (· exact rfl); (· exact rfl); (· exact rfl); (· exact rfl); (· exact rfl)))))); (try simp (disch := omega) only [push_cast, seval]); (repeat' (first | exact trivial | exact rfl | refine And.intro ?_ ?_ | omega)))); (· ((try simp (disch := omega) only [push_cast, seval]); (repeat' (first | exact trivial | exact rfl | refine And.intro ?_ ?_ | omega)))); (· exact rfl); (· first | exact trivial | exact ⟨rfl, trivial⟩ | exact ⟨rfl, rfl, trivial⟩ | exact ⟨rfl, rfl, rfl, trivial⟩))
theorem sBanned_p (t : GTable) (now : Int) (ok : tableOk t = true) (hn : isTime now = true) : PCalls Try.prog 29 [.agg (pTable t), .val (.int .i64 now)] [] (RH (.sl 1 ((sortI (bans t.fPeers now)).map pInt)) []) :=
  (sBanned_o t now ok hn).thawH 0 [] rfl (of_eq_true (pInt_rc _)) rfl rfl trivial trivial
end Go.Proofs.Ytkbikihbomnghaa

/- What the laws ask of a peer that is added, in the model's worlds. -/
import Derived.Test.YtkbikihbomnghaaPb2
import Derived.Test.YtkbikihbomnghaaTyTable
import Derived.Test.YtkbikihbomnghaaK6
namespace Go.Proofs.Ytkbikihbomnghaa
set_option linter.unusedSimpArgs false
set_option linter.unusedVariables false
open Go.RowKit
set_option maxRecDepth 100000
theorem GlobW.ext {w w' : World} (h : GlobW w) (e : Ext w w') : GlobW w' := fun i n q => e.cellSome (h i n q)
def tb0 : GTable := ⟨[], 0⟩
def mPeerAdd (t : GTable) (id : Int) (pin : Bool) : GTable × Bool := if tableOk t then peerAdd t id pin else (tb0, false)
theorem tcnt (t : GTable) : cntT (encTable t) ≤ 64 * t.fPeers.length := by
  have h1 := cnt_list cnt_Peer t.fPeers
  have h2 := szL_zero (enc := encPeer) (fun x => by simp [encPeer, szL]) t.fPeers
  simp only [encTable, cntT, slD]
  omega
theorem mPeerAdd_len (t : GTable) (id : Int) (pin : Bool) : (mPeerAdd t id pin).1.fPeers.length ≤ 7 := by
  unfold mPeerAdd
  cases ok : tableOk t with
  | false => simp [tb0]
  | true =>
    have h6 := (tableOk_iff.1 ok).2.1
    simp only [if_true]
    unfold peerAdd
    split
    · dsimp only; omega
    · dsimp only
      rw [List.length_append, List.length_singleton]
      split
      · have := List.length_eraseIdx_le t.fPeers (freeIdx t.fPeers).toNat
        omega
      · omega
theorem mPeerAdd_cnt (t : GTable) (id : Int) (pin : Bool) (_z : szL (encTable t) ≤ 1048576) : cntT (encTable (mPeerAdd t id pin).1) ≤ 1000000000000 := by
  have h1 := tcnt (mPeerAdd t id pin).1
  have h2 := mPeerAdd_len t id pin
  omega
theorem ro_tab {t : GTable} {b : Bool} : ∀ pv H, RH (.tup [.agg (pTbO t), .val (.bool b)]) (bTb t) pv H → RO2 (encTable t) (.bool b) pv H := fun pv H ⟨h1, h2⟩ => by
  subst h1
  subst h2
  exact ⟨_, _, rfl, owd_row 0 _ _ t.fPeers (by omega) rfl (fun x => (pv_Peer x).symm) (fun x => rfl) (.int t.fTurn .nil), rfl⟩
theorem ro_tab0 : ∀ pv H, RH (.tup [.agg [.val (.slice none 0 0), .val (.int .i64 0)], .val (.bool false)]) [] pv H → RO2 (encTable tb0) (.bool false) pv H := fun pv H ⟨h1, h2⟩ => by
  subst h1
  exact ⟨_, _, rfl, owd_nil _ _ (.int 0 .nil), rfl⟩
theorem iPeerAdd_o (t : GTable) (id : Int) (pin : Bool) (hl : t.fPeers.length ≤ 1099511627776) : PCalls Try.prog 17 [.agg (pTable t), .val (.int .i64 id), .val (.bool pin)] [] (RO2 (encTable (mPeerAdd t id pin).1) (.bool (mPeerAdd t id pin).2)) := by
  cases ok : tableOk t with
  | true =>
    have e : mPeerAdd t id pin = peerAdd t id pin := by unfold mPeerAdd; rw [if_pos ok]
    rw [e]
    exact (iPeerAdd_p t id pin ok).mono ro_tab
  | false =>
    have e : mPeerAdd t id pin = (tb0, false) := by unfold mPeerAdd; rw [ok]; rfl
    rw [e]
    refine PCalls.mono ?_ ro_tab0
    refine pcalls_ofR okP Try.func17 rfl ?_
    simp only [Try.f17, List.length_cons, List.length_nil, Nat.reduceAdd, Nat.reduceSub, List.replicate_succ, List.replicate_zero, List.cons_append, List.nil_append, List.length_map]
    repeat' (first | with_reducible refine PWp.seq ?_ | with_reducible refine PWp.block ?_ | with_reducible refine PWp.region okP true ?_ | with_reducible (first | refine pops_nil ?_ | refine pany_nil ?_ | refine pthen_normal ?_ | refine pblock_normal ?_ | refine pthen_ret ?_ | refine pblock_ret ?_ | refine pthen_exit ?_ | refine pblock_here ?_ | refine pblock_there rfl ?_ | refine PWp.ret ?_ | refine PWp.exit ?_ | refine PWp.skip ?_) | ((with_reducible refine hK _ ?_); clear hK K) | ((with_reducible refine PWp.condI ?_); refine ⟨_, rfl, fun hg => ?_, fun hg => ?_⟩ <;> first | (exact absurd hg (by decide)) | ((try simp only [Bool.not_true, Bool.not_false] at hg); (try simp only [hg]); (try simp only [push_cast] at hg); (try exact absurd trivial hg); (try (exfalso; omega)))) | ((with_reducible refine pops_guard0 ?_); refine ⟨_, rfl, fun K hK => ⟨rfl, ?_⟩⟩; (try simp (disch := omega) only [push_cast, seval, ok])) | ((with_reducible refine pops_plain fun K hK => popO_row ?_); refine ⟨_, _, _, _, _, rfl, rfl, rfl, rfl, rfl, ?_⟩; simp (disch := omega) only [push_cast, seval, ok]) | ((with_reducible refine pops_plain fun K hK => popO_build ?_); refine ⟨_, rfl, _, rfl, ?_⟩; simp (disch := omega) only [push_cast, seval, ok]) | ((with_reducible refine pbuild_cs ?_); refine ⟨_, rfl, _, rfl, ?_⟩; simp (disch := omega) only [push_cast, seval, ok]) | ((with_reducible refine pops_plain fun K hK => ?_); simp (disch := omega) only [push_cast, seval, ok]) | ((with_reducible refine pops_guard ?_); refine ⟨_, rfl, fun K hK => ⟨_, rfl, fun hg => ?_, fun hg => ?_⟩⟩ <;> first | (exact absurd hg (by decide)) | ((try simp only [Bool.not_true, Bool.not_false] at hg); (try simp only [hg]); (try simp only [push_cast] at hg); (try exact absurd trivial hg); (try (exfalso; omega)); (try simp (disch := omega) only [push_cast, seval, ok]))) | ((with_reducible show pcall _ _ _ _ _ _); (first | (refine pcV (g := 80) (callable_of Try.func80 rfl rfl) (iTableOk_p ⟨_, _⟩ (by (first | assumption | omega | (simp; omega) | (simp_all; done) | (simp_all; omega)))) ?_) | (refine pcF (g := 81) (callable_of Try.func81 rfl rfl) (iCopyTable_p ⟨_, _⟩ (by (first | assumption | omega | (simp; omega) | (simp_all; done) | (simp_all; omega)))) ?_) | (refine pcV (g := 82) (callable_of Try.func82 rfl rfl) (idxFree_p _ (by (first | assumption | omega | (simp; omega) | (simp_all; done) | (simp_all; omega)))) ?_) | (refine pcV (g := 82) (callable_of Try.func82 rfl rfl) (idxPeer_p _ _ (by (first | assumption | omega | (simp; omega) | (simp_all; done) | (simp_all; omega)))) ?_) | (refine pcV (g := 84) (callable_of Try.func84 rfl rfl) (within_p _ _ _) ?_) | (refine pcV (g := 85) (callable_of Try.func85 rfl rfl) (iAt_p ⟨_, _⟩ _ (by (first | assumption | omega | (simp; omega) | (simp_all; done) | (simp_all; omega)))) ?_) | (refine pcall_RGf (g := 86) (callable_of Try.func86 rfl rfl) [?_] ?_ ?_ ?_ (iDelete_p ?_ ?_ ?_ ?_) ?_; rotate_left 1; (· ((try simp (disch := omega) only [push_cast, seval]); (repeat' (first | exact trivial | exact rfl | refine And.intro ?_ ?_ | omega)))); (· (repeat' (first | exact trivial | refine And.intro ?_ ?_ | exact ⟨_, rfl⟩ | (simp (disch := omega) only [push_cast, seval]; done) | exact rfl))); (· exact rfl); rotate_right 1; rotate_left 1; (all_goals (try (first | omega | exact (show _ = _ by assumption)))))); (try simp (disch := omega) only [push_cast, seval, ok])) | ((with_reducible refine And.intro ?_ ?_); omega))
    ((first | with_reducible (first | refine pendH1 [] ?_ ?_ ?_ ?_ ?_ | refine pendH2 [] ?_ ?_ ?_ ?_ ?_ | refine pendH3 [] ?_ ?_ ?_ ?_ ?_ | refine pendH0 [] ?_ ?_ ?_ ?_ ?_) | refine pendHG [] ?_ ?_ ?_ ?_ ?_); rotate_left 0; (· (first | exact .inl rfl | exact .inr rfl)); (· ((try (apply Exists.intro; apply And.intro; (· repeat' (first | exact presults_nil | apply presults_tmp | (apply presults_agg; (· exact rfl); (· exact rfl); (· exact rfl); (· exact rfl); (· exact rfl); (· first | exact Nat.le_refl _ | decide | simp)) | (apply presults_one; (· exact rfl); (· exact rfl); (· exact rfl); (· exact rfl); (· exact rfl)))))); (try simp (disch := omega) only [push_cast, seval]); (repeat' (first | exact trivial | exact rfl | refine And.intro ?_ ?_ | omega)))); (· ((try simp (disch := omega) only [push_cast, seval]); (repeat' (first | exact trivial | exact rfl | refine And.intro ?_ ?_ | omega)))); (· exact rfl); (· first | exact trivial | exact ⟨rfl, trivial⟩ | exact ⟨rfl, rfl, trivial⟩ | exact ⟨rfl, rfl, rfl, trivial⟩))
theorem sPeerAdd_o (t : GTable) (id : Int) (pin : Bool) (hl : t.fPeers.length ≤ 1099511627776) : PCalls Try.prog 15 [.agg (pTable t), .val (.int .i64 id), .val (.bool pin)] [] (RO2 (encTable (mPeerAdd t id pin).1) (.bool (mPeerAdd t id pin).2)) := by
  cases ok : tableOk t with
  | true =>
    have e : mPeerAdd t id pin = peerAdd t id pin := by unfold mPeerAdd; rw [if_pos ok]
    rw [e]
    exact (sPeerAdd_p t id pin ok).mono ro_tab
  | false =>
    have e : mPeerAdd t id pin = (tb0, false) := by unfold mPeerAdd; rw [ok]; rfl
    rw [e]
    refine PCalls.mono ?_ ro_tab0
    refine pcalls_ofR okP Try.func15 rfl ?_
    simp only [Try.f15, List.length_cons, List.length_nil, Nat.reduceAdd, Nat.reduceSub, List.replicate_succ, List.replicate_zero, List.cons_append, List.nil_append, List.length_map]
    repeat' (first | with_reducible refine PWp.seq ?_ | with_reducible refine PWp.block ?_ | with_reducible refine PWp.region okP true ?_ | with_reducible (first | refine pops_nil ?_ | refine pany_nil ?_ | refine pthen_normal ?_ | refine pblock_normal ?_ | refine pthen_ret ?_ | refine pblock_ret ?_ | refine pthen_exit ?_ | refine pblock_here ?_ | refine pblock_there rfl ?_ | refine PWp.ret ?_ | refine PWp.exit ?_ | refine PWp.skip ?_) | ((with_reducible refine hK _ ?_); clear hK K) | ((with_reducible refine PWp.condI ?_); refine ⟨_, rfl, fun hg => ?_, fun hg => ?_⟩ <;> first | (exact absurd hg (by decide)) | ((try simp only [Bool.not_true, Bool.not_false] at hg); (try simp only [hg]); (try simp only [push_cast] at hg); (try exact absurd trivial hg); (try (exfalso; omega)))) | ((with_reducible refine pops_guard0 ?_); refine ⟨_, rfl, fun K hK => ⟨rfl, ?_⟩⟩; (try simp (disch := omega) only [push_cast, seval, ok])) | ((with_reducible refine pops_plain fun K hK => popO_row ?_); refine ⟨_, _, _, _, _, rfl, rfl, rfl, rfl, rfl, ?_⟩; simp (disch := omega) only [push_cast, seval, ok]) | ((with_reducible refine pops_plain fun K hK => popO_build ?_); refine ⟨_, rfl, _, rfl, ?_⟩; simp (disch := omega) only [push_cast, seval, ok]) | ((with_reducible refine pbuild_cs ?_); refine ⟨_, rfl, _, rfl, ?_⟩; simp (disch := omega) only [push_cast, seval, ok]) | ((with_reducible refine pops_plain fun K hK => ?_); simp (disch := omega) only [push_cast, seval, ok]) | ((with_reducible refine pops_guard ?_); refine ⟨_, rfl, fun K hK => ⟨_, rfl, fun hg => ?_, fun hg => ?_⟩⟩ <;> first | (exact absurd hg (by decide)) | ((try simp only [Bool.not_true, Bool.not_false] at hg); (try simp only [hg]); (try simp only [push_cast] at hg); (try exact absurd trivial hg); (try (exfalso; omega)); (try simp (disch := omega) only [push_cast, seval, ok]))) | ((with_reducible show pcall _ _ _ _ _ _); (first | (refine pcV (g := 39) (callable_of Try.func39 rfl rfl) (sTableOk_p ⟨_, _⟩ (by (first | assumption | omega | (simp; omega) | (simp_all; done) | (simp_all; omega)))) ?_) | (refine pcF (g := 76) (callable_of Try.func76 rfl rfl) (sL19Copy_p ⟨_, _⟩ (by (first | assumption | omega | (simp; omega) | (simp_all; done) | (simp_all; omega)))) ?_) | (refine pcV (g := 77) (callable_of Try.func77 rfl rfl) (sL19At_p ⟨_, _⟩ _ (by (first | assumption | omega | (simp; omega) | (simp_all; done) | (simp_all; omega)))) ?_) | (refine pcV (g := 78) (callable_of Try.func78 rfl rfl) (l1In_p _ _ _) ?_)); (try simp (disch := omega) only [push_cast, seval, ok])) | ((with_reducible refine And.intro ?_ ?_); omega))
    ((first | with_reducible (first | refine pendH1 [] ?_ ?_ ?_ ?_ ?_ | refine pendH2 [] ?_ ?_ ?_ ?_ ?_ | refine pendH3 [] ?_ ?_ ?_ ?_ ?_ | refine pendH0 [] ?_ ?_ ?_ ?_ ?_) | refine pendHG [] ?_ ?_ ?_ ?_ ?_); rotate_left 0; (· (first | exact .inl rfl | exact .inr rfl)); (· ((try (apply Exists.intro; apply And.intro; (· repeat' (first | exact presults_nil | apply presults_tmp | (apply presults_agg; (· exact rfl); (· exact rfl); (· exact rfl); (· exact rfl); (· exact rfl); (· first | exact Nat.le_refl _ | decide | simp)) | (apply presults_one; (· exact rfl); (· exact rfl); (· exact rfl); (· exact rfl); (· exact rfl)))))); (try simp (disch := omega) only [push_cast, seval]); (repeat' (first | exact trivial | exact rfl | refine And.intro ?_ ?_ | omega)))); (· ((try simp (disch := omega) only [push_cast, seval]); (repeat' (first | exact trivial | exact rfl | refine And.intro ?_ ?_ | omega)))); (· exact rfl); (· first | exact trivial | exact ⟨rfl, trivial⟩ | exact ⟨rfl, rfl, trivial⟩ | exact ⟨rfl, rfl, rfl, trivial⟩))
theorem shp_Table {w : World} {x : GTable} {vs : List Value} (h : Rds w (encTable x) vs) : ∃ (o1 : Option Addr) (c1 : Nat), vs = [.slice o1 x.fPeers.length c1, .int .i64 x.fTurn] := by
  obtain ⟨_, l_0, e_0, b_0, h⟩ := rds_slD.1 h
  obtain ⟨o1, c1, rfl⟩ := RS.val b_0
  obtain ⟨l_1, e_1, h⟩ := rds_int.1 h
  have z := rds_nil.1 h
  subst z
  subst e_1
  exact ⟨o1, c1, e_0⟩
theorem sPeerAdd_any (x0 : GTable) (x1 : Int) (x2 : Bool) (o1 : Option Addr) (c1 : Nat) (w : World) (h0 : Rds w (encTable x0) [.slice o1 x0.fPeers.length c1, .int .i64 x0.fTurn]) (z0 : szL (encTable x0) ≤ 1048576) (k0 : okL (encTable x0)) (k1 : -9223372036854775808 ≤ x1 ∧ x1 ≤ 9223372036854775807) (hG : GlobW w) :
    Calls Try.prog 15 #[.agg #[.slice o1 x0.fPeers.length c1, .int .i64 x0.fTurn], .int .i64 x1, .bool x2] w fun e w' => ∃ (p1 : Option Addr) (q1 : Nat), e = .returned (.tuple #[.agg #[.slice p1 (mPeerAdd x0 x1 x2).1.fPeers.length q1, .int .i64 (mPeerAdd x0 x1 x2).1.fTurn], .bool (mPeerAdd x0 x1 x2).2]) ∧ Obj w' w.heap.size w'.heap.size (encTable ((mPeerAdd x0 x1 x2).1)) [.slice p1 ((mPeerAdd x0 x1 x2).1).fPeers.length q1, .int .i64 ((mPeerAdd x0 x1 x2).1).fTurn] ∧ Ext w w' := by
  have zz0 := z0; simp only [encTable, slD, szL] at zz0
  have hp := sPeerAdd_o x0 x1 x2 (by omega)
  refine (hp.use (w := w) hG.mem (vs := #[.agg #[.slice o1 x0.fPeers.length c1, .int .i64 x0.fTurn], .int .i64 x1, .bool x2]) ⟨rfl, fun i pv v a b => ?_⟩).mono fun e w' ⟨v, M', h', pv, H', e1, e2, e3, e4, e5, e6⟩ => ?_
  · match i with
    | 0 => simp at a b; subst a; subst b; rw [← pv_Table]; exact Rds.agg h0 _
    | 1 => simp at a b; subst a; subst b; exact .val _
    | 2 => simp at a b; subst a; subst b; exact .val _
    | i + 3 => simp at a
  · obtain ⟨vs, rfl, O⟩ := RO2.obj e2 e4 e6 e3
    obtain ⟨p1, q1, rfl⟩ := shp_Table O.read
    exact ⟨p1, q1, e1, O, e5⟩
theorem iPeerAdd_any (x0 : GTable) (x1 : Int) (x2 : Bool) (o1 : Option Addr) (c1 : Nat) (w : World) (h0 : Rds w (encTable x0) [.slice o1 x0.fPeers.length c1, .int .i64 x0.fTurn]) (z0 : szL (encTable x0) ≤ 1048576) (k0 : okL (encTable x0)) (k1 : -9223372036854775808 ≤ x1 ∧ x1 ≤ 9223372036854775807) (hG : GlobW w) :
    Calls Try.prog 17 #[.agg #[.slice o1 x0.fPeers.length c1, .int .i64 x0.fTurn], .int .i64 x1, .bool x2] w fun e w' => ∃ (p1 : Option Addr) (q1 : Nat), e = .returned (.tuple #[.agg #[.slice p1 (mPeerAdd x0 x1 x2).1.fPeers.length q1, .int .i64 (mPeerAdd x0 x1 x2).1.fTurn], .bool (mPeerAdd x0 x1 x2).2]) ∧ Obj w' w.heap.size w'.heap.size (encTable ((mPeerAdd x0 x1 x2).1)) [.slice p1 ((mPeerAdd x0 x1 x2).1).fPeers.length q1, .int .i64 ((mPeerAdd x0 x1 x2).1).fTurn] ∧ Ext w w' := by
  have zz0 := z0; simp only [encTable, slD, szL] at zz0
  have hp := iPeerAdd_o x0 x1 x2 (by omega)
  refine (hp.use (w := w) hG.mem (vs := #[.agg #[.slice o1 x0.fPeers.length c1, .int .i64 x0.fTurn], .int .i64 x1, .bool x2]) ⟨rfl, fun i pv v a b => ?_⟩).mono fun e w' ⟨v, M', h', pv, H', e1, e2, e3, e4, e5, e6⟩ => ?_
  · match i with
    | 0 => simp at a b; subst a; subst b; rw [← pv_Table]; exact Rds.agg h0 _
    | 1 => simp at a b; subst a; subst b; exact .val _
    | 2 => simp at a b; subst a; subst b; exact .val _
    | i + 3 => simp at a
  · obtain ⟨vs, rfl, O⟩ := RO2.obj e2 e4 e6 e3
    obtain ⟨p1, q1, rfl⟩ := shp_Table O.read
    exact ⟨p1, q1, e1, O, e5⟩
end Go.Proofs.Ytkbikihbomnghaa

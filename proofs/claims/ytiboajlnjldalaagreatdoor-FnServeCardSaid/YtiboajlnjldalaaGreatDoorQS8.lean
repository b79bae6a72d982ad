/- What the proof leans on, part 8. -/
import Derived.Test.YtiboajlnjldalaaGreatDoorQS7
namespace Go.Proofs.YtiboajlnjldalaaGreatDoor
set_option linter.unusedSimpArgs false
set_option linter.unusedVariables false
open Go.RowKit
set_option maxRecDepth 100000
theorem sChainOf_i (seed : ByteArray) (n : Int) (hs : seed.size ≤ 2000000) (hn : 1 ≤ n ∧ n ≤ 12) : PCalls Tryz.prog 14 [.val (.string seed), .val (.int .i64 n)] [] (RH (.own 0) [some (.row 36 12 ((chainTo seed n.toNat).map pBlock))]) := by
  obtain ⟨k, rfl⟩ : ∃ k : Nat, n = k := ⟨n.toNat, by omega⟩
  exact sChainOf_o seed k hs (by omega)
theorem sL22Chain_p (c : Cur) : PCalls Tryz.prog 94 [.ptr 0 0] [some (.box (pCur c))] (RX (α := (ByteArray × Nat) × Cur) (fun x => .own 1) (fun x => [some (.box (pCur x.2)), some (.row 36 12 ((chainTo x.1.1 x.1.2).map pBlock))]) fun | ((_, n), _) => 1 ≤ n ∧ n ≤ 6) := by
  refine pcalls_ofR okP Tryz.func94 rfl ?_
  simp only [Tryz.f94, List.length_cons, List.length_nil, Nat.reduceAdd, Nat.reduceSub, List.replicate_succ, List.replicate_zero, List.cons_append, List.nil_append, List.length_map]
  repeat' (first | with_reducible (first | refine wA ?_ | refine wB ?_ | refine wC ?_ | refine w1 ?_ | refine w2 ?_ | refine w3 ?_ | refine w4 ?_ | refine w5 ?_ | refine w6 ?_ | refine w7 ?_ | refine w8 ?_ | refine wT ?_ | refine w9 ?_ | refine wE ?_ | refine wS ?_) | ((with_reducible refine hK _ ?_); clear hK K) | ((with_reducible refine pops_plain fun K hK => popO_row ?_); refine ⟨_, _, _, _, _, rfl, rfl, rfl, rfl, rfl, ?_⟩; simp (disch := omega) only [push_cast, seval]) | ((with_reducible refine pops_plain fun K hK => ?_); simp (disch := omega) only [push_cast, seval]) | ((with_reducible show pcall _ _ _ _ _ _); (first | (refine pcF (cf Tryz.func14) (sChainOf_i _ _ sd sd) ?_) | (refine pcX (cf Tryz.func95) [_] (sL1Below_p _ _ ?_) ?_; rotate_right 1; rintro ⟨x, c⟩ ⟨hx1, hx2, hx3⟩; (rotate_left 1; (all_goals (try (first | omega | exact (show _ = _ by assumption)))); rotate_right 1)) | (refine pcX (cf Tryz.func194) [_, _] (pickSeed _) ?_; rotate_right 1; rintro ⟨s, c⟩ ⟨hs, -⟩; (rotate_left 1; (all_goals (try (first | omega | exact (show _ = _ by assumption)))); rotate_right 1))); (try simp (disch := omega) only [push_cast, seval])) | ((with_reducible refine And.intro ?_ ?_); omega))
  (refine finX ((s, (1 + x).toNat), _) [0, _] ?_)
  exact ⟨by dsimp only; omega, by dsimp only; omega⟩
theorem chain_sm (s : ByteArray) (n : Nat) (hn : n ≤ 100) : ∀ b ∈ chainTo s n, SmB b ∧ LowB b := fun b hb => by
  obtain ⟨i, hi, rfl⟩ := List.getElem_of_mem hb
  rw [chainTo_len] at hi
  have e : (chainTo s n)[i]? = some (chainAt s i) := chainTo_get hi
  rw [List.getElem?_eq_getElem (by rw [chainTo_len]; exact hi)] at e
  rw [Option.some.inj e]
  have g := chainAt_good s i (by omega)
  have v := (valsOk_iff.1 g.v).2.2.2
  have n := (valsOk_iff.1 g.n).2.2.2
  have k := g.k
  have t := g.t
  refine ⟨⟨by omega, by omega, ?_⟩, ⟨by omega, by omega⟩, by omega, by omega⟩
  rw [g.c]
  unfold mkCommit cFor
  dsimp only
  rw [List.length_map, List.length_map]
  omega
set_option maxHeartbeats 4000000 in
theorem sDrawServeReq_p (code : List UInt8) (hc : code.length ≤ 1048576) : PCalls Tryz.prog 28 [.sl 1 (code.map pU8)] [] (RX (α := List GBlock × GReq) (fun x => .tup [.own 0, .agg (pReq x.2)]) (fun x => [some (.row 36 12 (x.1.map pBlock))]) fun | (l, _) => l.length ≤ 6 ∧ ∀ b ∈ l, SmB b) := by
  refine pcalls_ofR okP Tryz.func28 rfl ?_
  simp only [Tryz.f28, List.length_cons, List.length_nil, Nat.reduceAdd, Nat.reduceSub, List.replicate_succ, List.replicate_zero, List.cons_append, List.nil_append, List.length_map]
  repeat' (first | with_reducible refine mkRegion (id := 3) ?_ | with_reducible (first | refine wA ?_ | refine wB ?_ | refine wC ?_ | refine w1 ?_ | refine w2 ?_ | refine w3 ?_ | refine w4 ?_ | refine w5 ?_ | refine w6 ?_ | refine w7 ?_ | refine w8 ?_ | refine wT ?_ | refine w9 ?_ | refine wE ?_ | refine wS ?_) | ((with_reducible refine hK _ ?_); clear hK K) | ((with_reducible refine PWp.condI ?_); refine ⟨_, rfl, fun hg => ?_, fun hg => ?_⟩ <;> first | (exact absurd hg (by decide)) | ((try simp only [Bool.not_true, Bool.not_false] at hg); (try simp only [hg]); (try simp only [push_cast] at hg); (try exact absurd trivial hg); (try (exfalso; omega)))) | ((with_reducible refine pops_plain fun K hK => ?_); simp (disch := omega) only [push_cast, seval]) | ((with_reducible show pcall _ _ _ _ _ _); (first | (refine pcall_X1 (cf Tryz.func74) (by ((try simp (disch := omega) only [push_cast, seval]); first | done | exact rfl)) (sL1New_p _ sd) ?_; rintro c _) | (refine pcX (cf Tryz.func94) [_] (sL22Chain_p _) ?_; rotate_right 1; rintro ⟨⟨s, n⟩, c⟩ ⟨hn1, hn2⟩; (rotate_left 1; (all_goals (try (first | omega | exact (show _ = _ by assumption)))); rotate_right 1)) | (refine pcX (cf Tryz.func103) [_] (sL1Once_p _ _ ?_) ?_; rotate_right 1; rintro ⟨b, c⟩ _; (rotate_left 1; (all_goals (try (first | omega | exact (show _ = _ by assumption)))); rotate_right 1)) | (refine pcX (cf Tryz.func104) [_] (sL23Req_p _) ?_; rotate_right 1; rintro ⟨r, c⟩ -; (rotate_left 1; (all_goals (try (first | omega | exact (show _ = _ by assumption)))); rotate_right 1))); (try simp (disch := omega) only [push_cast, seval])) | ((with_reducible refine And.intro ?_ ?_); omega))
  refine Mk.of ?_
  have hlen : (chainTo s n).length = n := chainTo_len
  have hsm := chain_sm s n (by omega)
  generalize chainTo s n = l at hlen hsm ⊢
  obtain ⟨b, hb⟩ : ∃ b, l[0]? = some b := ⟨_, List.getElem?_eq_getElem (by omega)⟩
  obtain ⟨q1, q2⟩ := hsm b (List.mem_of_getElem? hb)
  obtain ⟨⟨a1, a2, a3, a4, a5, a6⟩, vs, nx, ⟨ch, cr, ci, cs⟩⟩ := b
  have hbent := fun c => sL22Bent_p c ⟨⟨a1, a2, a3, a4, a5, a6⟩, vs, nx, ⟨ch, cr, ci, cs⟩⟩ q1 q2
  repeat' (first | with_reducible (first | refine wA ?_ | refine wB ?_ | refine wC ?_ | refine w1 ?_ | refine w2 ?_ | refine w3 ?_ | refine w4 ?_ | refine w5 ?_ | refine w6 ?_ | refine w7 ?_ | refine w8 ?_ | refine wT ?_ | refine w9 ?_ | refine wE ?_ | refine wS ?_) | ((with_reducible refine hK _ ?_); clear hK K) | ((with_reducible refine PWp.condI ?_); refine ⟨_, rfl, fun hg => ?_, fun hg => ?_⟩ <;> first | (exact absurd hg (by decide)) | ((try simp only [Bool.not_true, Bool.not_false] at hg); (try simp only [hg]); (try simp only [push_cast] at hg); (try exact absurd trivial hg); (try (exfalso; omega)))) | ((with_reducible refine pops_plain fun K hK => ?_); simp (disch := omega) only [push_cast, seval, hb, hlen]) | ((with_reducible show pcall _ _ _ _ _ _); (first | (refine pcall_X1 (cf Tryz.func74) (by ((try simp (disch := omega) only [push_cast, seval]); first | done | exact rfl)) (sL1New_p _ sd) ?_; rintro c _) | (refine pcX (cf Tryz.func94) [_] (sL22Chain_p _) ?_; rotate_right 1; rintro ⟨⟨s, n⟩, c⟩ ⟨hn1, hn2⟩; (rotate_left 1; (all_goals (try (first | omega | exact (show _ = _ by assumption)))); rotate_right 1)) | (refine pcX (cf Tryz.func96) [_] (hbent _) ?_; rotate_right 1; rintro ⟨b, c⟩ ⟨hsb, -⟩; (rotate_left 1; (all_goals (try (first | omega | exact (show _ = _ by assumption)))); rotate_right 1)) | (refine pcX (cf Tryz.func103) [_] (sL1Once_p _ _ ?_) ?_; rotate_right 1; rintro ⟨b, c⟩ _; (rotate_left 1; (all_goals (try (first | omega | exact (show _ = _ by assumption)))); rotate_right 1)) | (refine pcX (cf Tryz.func104) [_] (sL23Req_p _) ?_; rotate_right 1; rintro ⟨r, c⟩ -; (rotate_left 1; (all_goals (try (first | omega | exact (show _ = _ by assumption)))); rotate_right 1))); (try simp (disch := omega) only [push_cast, seval, hb, hlen])) | ((with_reducible refine And.intro ?_ ?_); omega))
  ·
    ((first | with_reducible (first | refine pendX1 (l.set 0 b, ?_) [?_] ?_ ?_ ?_ ?_ ?_ ?_ | refine pendX2 (l.set 0 b, ?_) [?_] ?_ ?_ ?_ ?_ ?_ ?_ | refine pendX3 (l.set 0 b, ?_) [?_] ?_ ?_ ?_ ?_ ?_ ?_ | refine pendX0 (l.set 0 b, ?_) [?_] ?_ ?_ ?_ ?_ ?_ ?_) | refine pendXG (l.set 0 b, ?_) [?_] ?_ ?_ ?_ ?_ ?_ ?_); (try (any_goals ((with_reducible show ∃ _ : List PV, _); (apply Exists.intro; apply And.intro; (· repeat' (first | exact presults_nil | apply presults_tmp | (apply presults_agg; (· exact rfl); (· exact rfl); (· exact rfl); (· exact rfl); (· exact rfl); (· first | exact Nat.le_refl _ | decide | simp)) | (apply presults_one; (· exact rfl); (· exact rfl); (· exact rfl); (· exact rfl); (· exact rfl)))))))); (any_goals ((with_reducible show _ ∨ _); (first | exact Or.inl rfl | exact Or.inr rfl))); (any_goals ((with_reducible show (_ : PV) = _); ((try simp (disch := omega) only [push_cast, seval]); (repeat' (first | exact trivial | exact rfl | refine And.intro ?_ ?_ | omega))))); (any_goals ((with_reducible show blkR _ _ _ _ _); ((try simp (disch := omega) only [push_cast, seval]); (repeat' (first | exact trivial | exact rfl | refine And.intro ?_ ?_ | omega))))); (any_goals ((with_reducible show nodupR _ = true); exact rfl)); (any_goals ((with_reducible show preR _ _); (first | exact trivial | exact ⟨rfl, trivial⟩ | exact ⟨rfl, rfl, trivial⟩ | exact ⟨rfl, rfl, rfl, trivial⟩))))
    · exact List.map_set.symm
    refine ⟨by dsimp only; rw [List.length_set]; omega, fun x hx => ?_⟩
    rcases List.mem_or_eq_of_mem_set hx with h | h
    · exact (hsm x h).1
    · rw [h]; exact hsb
  ·
    (refine finX (l, _) [_] ?_)
    exact ⟨by dsimp only; omega, fun x hx => (hsm x hx).1⟩
theorem drawSrv_t (code : List UInt8) (hc : code.length ≤ 1048576) : PCalls Tryz.prog 28 [.sl 1 (code.map pU8)] [] (RX (α := List GBlock × GReq) (fun x => .tup [.sl 12 (x.1.map pBlock), .agg (pReq x.2)]) (fun _ => []) fun | (l, _) => l.length ≤ 6 ∧ ∀ b ∈ l, SmB b) :=
  (sDrawServeReq_p code hc).thawX 0 [] fun x _ => ⟨_, _, _, rfl, rowsC fun _ => rfl, rfl, rfl, trivial, trivial⟩
theorem sDrawShowReq_p (code : List UInt8) (hc : code.length ≤ 1048576) : PCalls Tryz.prog 30 [.sl 1 (code.map pU8)] [] (RX (α := GReq) (fun x => .agg (pReq x)) (fun _ => []) fun _ => True) := by
  refine pcalls_ofR okP Tryz.func30 rfl ?_
  simp only [Tryz.f30, List.length_cons, List.length_nil, Nat.reduceAdd, Nat.reduceSub, List.replicate_succ, List.replicate_zero, List.cons_append, List.nil_append, List.length_map]
  repeat' (first | with_reducible (first | refine wA ?_ | refine wB ?_ | refine wC ?_ | refine w1 ?_ | refine w2 ?_ | refine w3 ?_ | refine w4 ?_ | refine w5 ?_ | refine w6 ?_ | refine w7 ?_ | refine w8 ?_ | refine wT ?_ | refine w9 ?_ | refine wE ?_ | refine wS ?_) | ((with_reducible refine hK _ ?_); clear hK K) | ((with_reducible refine pops_plain fun K hK => ?_); simp (disch := omega) only [push_cast, seval]) | ((with_reducible show pcall _ _ _ _ _ _); (first | (refine pcall_X1 (cf Tryz.func74) (by ((try simp (disch := omega) only [push_cast, seval]); first | done | exact rfl)) (sL1New_p _ sd) ?_; rintro c _) | (refine pcX (cf Tryz.func104) [_] (sL23Req_p _) ?_; rotate_right 1; rintro ⟨r, c⟩ -; (rotate_left 1; (all_goals (try (first | omega | exact (show _ = _ by assumption)))); rotate_right 1))); (try simp (disch := omega) only [push_cast, seval])) | ((with_reducible refine And.intro ?_ ?_); omega))
  (refine finX _ [] ?_)
  trivial
theorem sDrawReadReq_p (code : List UInt8) (hc : code.length ≤ 1048576) : PCalls Tryz.prog 33 [.sl 1 (code.map pU8)] [] (RX (α := ByteArray) (fun x => .val (.string x)) (fun _ => []) fun s => s.size ≤ 310 ∧ True) := by
  refine pcalls_ofR okP Tryz.func33 rfl ?_
  simp only [Tryz.f33, List.length_cons, List.length_nil, Nat.reduceAdd, Nat.reduceSub, List.replicate_succ, List.replicate_zero, List.cons_append, List.nil_append, List.length_map]
  repeat' (first | with_reducible refine mkRegion (id := 3) ?_ | with_reducible (first | refine wA ?_ | refine wB ?_ | refine wC ?_ | refine w1 ?_ | refine w2 ?_ | refine w3 ?_ | refine w4 ?_ | refine w5 ?_ | refine w6 ?_ | refine w7 ?_ | refine w8 ?_ | refine wT ?_ | refine w9 ?_ | refine wE ?_ | refine wS ?_) | ((with_reducible refine hK _ ?_); clear hK K) | ((with_reducible refine PWp.condI ?_); refine ⟨_, rfl, fun hg => ?_, fun hg => ?_⟩ <;> first | (exact absurd hg (by decide)) | ((try simp only [Bool.not_true, Bool.not_false] at hg); (try simp only [hg]); (try simp only [push_cast] at hg); (try exact absurd trivial hg); (try (exfalso; omega)))) | ((with_reducible refine pops_plain fun K hK => ?_); simp (disch := omega) only [push_cast, seval]) | ((with_reducible show pcall _ _ _ _ _ _); (first | (refine pcV (cf Tryz.func35) (sShowReq_p ⟨_, _, _⟩) ?_) | (refine pcall_X1 (cf Tryz.func74) (by ((try simp (disch := omega) only [push_cast, seval]); first | done | exact rfl)) (sL1New_p _ sd) ?_; rintro c _) | (refine pcX (cf Tryz.func103) [_] (sL1Once_p _ _ ?_) ?_; rotate_right 1; rintro ⟨b, c⟩ _; (rotate_left 1; (all_goals (try (first | omega | exact (show _ = _ by assumption)))); rotate_right 1)) | (refine pcX (cf Tryz.func104) [_] (sL23Req_p _) ?_; rotate_right 1; rintro ⟨r, c⟩ -; (rotate_left 1; (all_goals (try (first | omega | exact (show _ = _ by assumption)))); rotate_right 1)) | (refine pcX (cf Tryz.func109) [_] (sL1Spoil_p _ _ ?_) ?_; rotate_right 1; rintro ⟨s, c⟩ ⟨hs, -⟩; (rotate_left 1; (all_goals (try (first | omega | exact (show _ = _ by assumption)))); rotate_right 1)) | (refine pcX (cf Tryz.func109) [_] (sL1Spoil_p _ _ ?_) ?_; rotate_right 1; rintro ⟨s, c⟩ ⟨hs, -⟩; (rotate_left 1; (all_goals (try (first | omega | exact (show _ = _ by assumption)))); rotate_right 1))); (try simp (disch := omega) only [push_cast, seval])) | ((with_reducible refine And.intro ?_ ?_); omega))
  refine Mk.of ?_
  have hz := showReq_size r
  generalize showReq r = s at hz ⊢
  repeat' (first | with_reducible (first | refine wA ?_ | refine wB ?_ | refine wC ?_ | refine w1 ?_ | refine w2 ?_ | refine w3 ?_ | refine w4 ?_ | refine w5 ?_ | refine w6 ?_ | refine w7 ?_ | refine w8 ?_ | refine wT ?_ | refine w9 ?_ | refine wE ?_ | refine wS ?_) | ((with_reducible refine hK _ ?_); clear hK K) | ((with_reducible refine PWp.condI ?_); refine ⟨_, rfl, fun hg => ?_, fun hg => ?_⟩ <;> first | (exact absurd hg (by decide)) | ((try simp only [Bool.not_true, Bool.not_false] at hg); (try simp only [hg]); (try simp only [push_cast] at hg); (try exact absurd trivial hg); (try (exfalso; omega)))) | ((with_reducible refine pops_plain fun K hK => ?_); simp (disch := omega) only [push_cast, seval]) | ((with_reducible show pcall _ _ _ _ _ _); (first | (refine pcV (cf Tryz.func35) (sShowReq_p ⟨_, _, _⟩) ?_) | (refine pcall_X1 (cf Tryz.func74) (by ((try simp (disch := omega) only [push_cast, seval]); first | done | exact rfl)) (sL1New_p _ sd) ?_; rintro c _) | (refine pcX (cf Tryz.func103) [_] (sL1Once_p _ _ ?_) ?_; rotate_right 1; rintro ⟨b, c⟩ _; (rotate_left 1; (all_goals (try (first | omega | exact (show _ = _ by assumption)))); rotate_right 1)) | (refine pcX (cf Tryz.func104) [_] (sL23Req_p _) ?_; rotate_right 1; rintro ⟨r, c⟩ -; (rotate_left 1; (all_goals (try (first | omega | exact (show _ = _ by assumption)))); rotate_right 1)) | (refine pcX (cf Tryz.func109) [_] (sL1Spoil_p _ _ ?_) ?_; rotate_right 1; rintro ⟨s, c⟩ ⟨hs, -⟩; (rotate_left 1; (all_goals (try (first | omega | exact (show _ = _ by assumption)))); rotate_right 1)) | (refine pcX (cf Tryz.func109) [_] (sL1Spoil_p _ _ ?_) ?_; rotate_right 1; rintro ⟨s, c⟩ ⟨hs, -⟩; (rotate_left 1; (all_goals (try (first | omega | exact (show _ = _ by assumption)))); rotate_right 1))); (try simp (disch := omega) only [push_cast, seval])) | ((with_reducible refine And.intro ?_ ?_); omega))
  all_goals
    (refine finX _ [] ?_)
    exact ⟨by first | omega | (dsimp only; omega), trivial⟩
end Go.Proofs.YtiboajlnjldalaaGreatDoor
namespace Go.Proofs.YtiboajlnjldalaaGreatDoor
set_option linter.unusedSimpArgs false
set_option linter.unusedVariables false
open Go.RowKit Go.ChangeShapes Go.WideShapes
def cellU8 (x : UInt8) : List Value := [.int .u8 (x.toNat : Nat)]
theorem u8_dec {W : World} {n : Nat} (cs : List Value) (h : All2 (CellN W n) [.int .u8] cs) : ∃ a : UInt8, cs = cellU8 a ∧ True := by
  match cs, h with
  | [_], ⟨k1, _⟩ =>
    obtain ⟨i, rfl, h1⟩ := cell_int k1
    have hb : 0 ≤ i ∧ i ≤ 255 := by
      simp [Lit.wf, IntKind.min, IntKind.max, IntKind.signed, IntKind.bits] at h1
      omega
    obtain ⟨j, rfl⟩ := Int.eq_ofNat_of_zero_le hb.1
    refine ⟨UInt8.ofNat j, ?_, trivial⟩
    have : (UInt8.ofNat j).toNat = j := by rw [UInt8.toNat_ofNat']; omega
    simp [cellU8, this]
theorem sl_code {W : World} {v : Value} {xs : List UInt8} (h : Sl cellU8 1 W v xs) (hm : Home) : VR (memW W) hm (.sl 1 (xs.map pU8)) v := by
  rcases h with ⟨o, cap, rfl, rfl⟩ | ⟨b, off, cap, rfl, h1, h2, h3, h4, h5⟩
  · exact .sl0 1 o cap
  · have := VR.sl (M := memW W) (h := hm) 1 (xs.map pU8) b off cap (fun i _ => .int .u8 ((xs.getD i 0).toNat : Nat)) (by simpa using h1) (by simpa using h2) h3 (fun row hr => by obtain ⟨x, _, rfl⟩ := List.mem_map.1 hr; rfl)
      (fun i j row pv a d => by
        rw [List.getElem?_map, Option.map_eq_some_iff] at a
        obtain ⟨x, a, rfl⟩ := a
        cases j with
        | succ j => simp [pU8] at d
        | zero =>
          refine memW_of ?_ rfl
          rw [h5 i x a 0 (by omega), List.getD_eq_getElem?_getD, a]
          rfl)
      (fun i j row pv a d => by
        rw [List.getElem?_map, Option.map_eq_some_iff] at a
        obtain ⟨x, a, rfl⟩ := a
        cases j with
        | succ j => simp [pU8] at d
        | zero =>
          simp [pU8] at d
          subst d
          rw [List.getD_eq_getElem?_getD, a]
          exact .val _)
    simpa using this
set_option maxRecDepth 100000 in
theorem code_law {f : FuncId} (hp : ∀ code : List UInt8, code.length ≤ 9223372036854775807 → PCalls Tryz.prog f [.sl 1 (code.map pU8)] [] (RV (.val (.bool true)))) {H : Type} {enc : TypeId × Value → H} (W : World) (base : Nat) (args : Array Value) (ds : List (DataW H)) (p : List MemPlace) (hG : GlobW W)
    (hval : ∀ (j : Nat) t v, #[22][j]? = some t → args[j]? = some v → Value.okWide Tryz.prog W .any base t v)
    (hA : DataW.TrodAll enc Tryz.prog W 0 (fun _ => true) true #[22].toList args.toList ds p) :
    Calls Tryz.prog f args W fun e W' => e = .returned (.bool true) ∧ Ext W W' := by
  obtain ⟨v0, d0, rfl, rfl, h0⟩ := trodAll_one hA
  have hc := read_slice Tryz.underlying22 (n := 4) (s := .sl [.int .u8]) (by kernel_rfl) (hval 0 _ _ rfl rfl) h0
  obtain ⟨xs, hx, _⟩ := sl_read (by decide) u8_dec hc
  have hl : xs.length ≤ 9223372036854775807 := by have := hx.len; unfold maxLen at this; omega
  refine ((hp xs hl).use (w := W) hG.mem (vs := #[v0]) ⟨rfl, fun i pv v a b => ?_⟩).mono fun e w' ⟨v, M', h', pv, H', e1, e2, e3, _, e5, _⟩ => ?_
  · cases i with
    | zero => simp at a b; subst a; subst b; exact sl_code hx _
    | succ i => simp at a
  · cases e2
    have := vr_val e3
    subst this
    exact ⟨e1, e5⟩
end Go.Proofs.YtiboajlnjldalaaGreatDoor
namespace Go.Proofs.YtiboajlnjldalaaGreatDoor
set_option linter.unusedSimpArgs false
set_option linter.unusedVariables false
open Go.RowKit
set_option maxRecDepth 1000000
theorem vb_ne0 {P : Program} {t : TypeId} (h : P.underlying t = some .bool) {x y : Operand} {a b : Bool} : sflat P (do eqGuard .neq t x y (.bool a) (.bool b); binOp .neq t (.bool a) (.bool b)) = some (.bool (!(a == b))) := by
  have e := eqIn_bool (P := P) (t := t) (d := 9999) (a := a) (b := b) h
  simp only [eqGuard, sflat_bind, binOp, Op.equal, Op.maxDepth]
  simp [sflat_pure, e, sflat_bind, sflat, pure]
theorem vb_ne {x y : Operand} {a b : Bool} : sflat Tryz.prog (do eqGuard .neq 4 x y (.bool a) (.bool b); binOp .neq 4 (.bool a) (.bool b)) = some (.bool (!(a == b))) := vb_ne0 (by kernel_rfl)
theorem vb_eq0 {P : Program} {t : TypeId} (h : P.underlying t = some .bool) {x y : Operand} {a b : Bool} : sflat P (do eqGuard .eql t x y (.bool a) (.bool b); binOp .eql t (.bool a) (.bool b)) = some (.bool (a == b)) := by
  have e := eqIn_bool (P := P) (t := t) (d := 9999) (a := a) (b := b) h
  simp only [eqGuard, sflat_bind, binOp, Op.equal, Op.maxDepth]
  simp [sflat_pure, e, sflat_bind, sflat, pure]
theorem vb_eq {x y : Operand} {a b : Bool} : sflat Tryz.prog (do eqGuard .eql 4 x y (.bool a) (.bool b); binOp .eql 4 (.bool a) (.bool b)) = some (.bool (a == b)) := vb_eq0 (by kernel_rfl)
theorem block_h {b : GBlock} (h : blockOk b = true) : 1 ≤ b.fHead.fHeight ∧ b.fHead.fHeight ≤ 1000000 := by
  unfold blockOk commitOk at h
  simp only [Bool.and_eq_true] at h
  have f := headerOk_facts h.2.1.1.1.1.2
  exact ⟨f.h1, f.h2⟩
theorem readQ (q : GReq) : ∃ q' rd, PCalls Tryz.prog 32 [.val (.string (showReq q))] [] (RH (.tup [.agg (pReq q'), .val (.bool rd)]) []) ∧ ((rd = true ∧ q' = q ∧ eqB (showReq q) ⟨#[]⟩ = false) ∨ (rd = false ∧ eqB (showReq q) ⟨#[]⟩ = true)) := by
  cases ok : reqOk q with
  | true => exact ⟨q, true, iReadReq_a q ok, .inl ⟨rfl, rfl, eqB_no.2 (rq_ne ok)⟩⟩
  | false =>
    rw [rq_no ok]
    exact ⟨⟨0, 0, 0⟩, false, iReadReq_b ⟨#[]⟩ (by decide) fun r h => rq_ne h, .inr ⟨rfl, eqB_iff.2 rfl⟩⟩
set_option maxHeartbeats 40000000 in
theorem fnServe_p (code : List UInt8) (hc : code.length ≤ 9223372036854775807) : PCalls Tryz.prog 5 [.sl 1 (code.map pU8)] [] (RV (.val (.bool true))) := by
  refine pcalls_ofR okP Tryz.func5 rfl ?_
  simp only [Tryz.f5, List.length_cons, List.length_nil, Nat.reduceAdd, Nat.reduceSub, List.replicate_succ, List.replicate_zero, List.cons_append, List.nil_append, List.length_map]
  repeat' (first | with_reducible refine mkRegion (id := 4) ?_ | with_reducible (first | refine wA ?_ | refine wB ?_ | refine wC ?_) | with_reducible refine PWp.draw (id := 11) okP true [0, 1, 2, 3, 4, 5, 6, 7, 8, 9, 10, 11, 12, 13, 14, 15, 16, 17, 18, 19, 20, 21, 22, 23, 24, 25, 26, 27, 28, 29, 30, 31, 32, 33, 34, 35, 36, 37, 38, 39] (by kernel_rfl) ?_ | with_reducible (first | refine w1 ?_ | refine w2 ?_ | refine w3 ?_ | refine w4 ?_ | refine w5 ?_ | refine w6 ?_ | refine w7 ?_ | refine w8 ?_ | refine wT ?_ | refine w9 ?_ | refine wE ?_ | refine wS ?_) | ((with_reducible refine hK _ ?_); clear hK K) | ((with_reducible refine PWp.condI ?_); refine ⟨_, rfl, fun hg => ?_, fun hg => ?_⟩ <;> first | (exact absurd hg (by decide)) | ((try simp only [Bool.not_true, Bool.not_false] at hg); (try simp only [hg]); (try simp only [push_cast] at hg); (try exact absurd trivial hg); (try (exfalso; omega)))) | ((first | ((with_reducible refine pops_guard0 ?_); refine ⟨_, rfl, fun K hK => ⟨rfl, ?_⟩⟩) | ((with_reducible refine pD_g0 ?_); refine ⟨_, rfl, rfl, ?_⟩)); (try simp (disch := omega) only [push_cast, seval])) | ((with_reducible refine pany_I ?_); refine ⟨_, rfl, fun K hK => ?_⟩) | ((with_reducible refine pops_plain fun K hK => ?_); simp (disch := omega) only [push_cast, seval]) | ((first | ((with_reducible refine pD_y ?_ ?_); exact rfl) | ((with_reducible refine pD_x ?_ ?_); exact rfl)); simp (disch := omega) only [push_cast, seval]) | ((first | ((with_reducible refine pops_guard ?_); refine ⟨_, rfl, fun K hK => ⟨_, rfl, fun hg => ?_, fun hg => ?_⟩⟩) | ((first | ((with_reducible refine pD_gy ?_ ?_); exact rfl) | ((with_reducible refine pD_gx ?_ ?_); exact rfl)); refine ⟨_, rfl, _, rfl, fun hg => ?_, fun hg => ?_⟩)) <;> first | (exact absurd hg (by decide)) | ((try simp only [Bool.not_true, Bool.not_false] at hg); (try simp only [hg]); (try simp only [push_cast] at hg); (try exact absurd trivial hg); (try (exfalso; omega)); (try simp (disch := omega) only [push_cast, seval]))) | ((with_reducible show pcall _ _ _ _ _ _); (first | (refine pcV (cf Tryz.func11) (big_p _ sd) ?_) | (refine pcall_X1 (cf Tryz.func28) (by ((try simp (disch := omega) only [push_cast, seval]); first | done | exact rfl)) (drawSrv_t _ sd) ?_; rintro ⟨l, r⟩ ⟨hl, hs⟩) | (refine pcV (cf Tryz.func29) (sBlockOk_p ⟨⟨_, _, _, _, _, _⟩, _, _, ⟨_, _, _, _⟩⟩ (by first | assumption | exact ⟨by (first | assumption | omega | (simp; omega) | (simp_all; done) | (simp_all; omega)), by (first | assumption | omega | (simp; omega) | (simp_all; done) | (simp_all; omega)), by (first | assumption | omega | (simp; omega) | (simp_all; done) | (simp_all; omega))⟩)) ?_) | (refine pcV (cf Tryz.func31) (iShowReq_p ⟨_, _, _⟩) ?_) | (refine pcV (cf Tryz.func35) (sShowReq_p ⟨_, _, _⟩) ?_)); (try simp (disch := omega) only [push_cast, seval])) | ((with_reducible refine And.intro ?_ ?_); omega))
  · ((with_reducible show PPostR _ _ _ _ _ _); refine finV ?_; (try simp only [push_cast, seval]))
  refine Mk.of ?_
  have hi := iServeReq_p l r (by omega) hs
  have ho := sServeReq_p l r (by omega) hs
  have hcs := serve_cons l r
  have hok := serve_ok l r
  have hln := serve_len l r
  have hmm := fun b hb => hs b (serve_mem l r b hb)
  generalize serve l r = z at hi ho hcs hok hln hmm
  obtain ⟨x, is⟩ := z
  obtain ⟨k0, f0, m0⟩ := r
  dsimp only at hi ho hcs hok hln hmm
  repeat' (first | with_reducible (first | refine wA ?_ | refine wB ?_ | refine wC ?_) | with_reducible refine PWp.draw (id := 11) okP true [0, 1, 2, 3, 4, 5, 6, 7, 8, 9, 10, 11, 12, 13, 14, 15, 16, 17, 18, 19, 20, 21, 22, 23, 24, 25, 26, 27, 28, 29, 30, 31, 32, 33, 34, 35, 36, 37, 38, 39] (by kernel_rfl) ?_ | with_reducible (first | refine w1 ?_ | refine w2 ?_ | refine w3 ?_ | refine w4 ?_ | refine w5 ?_ | refine w6 ?_ | refine w7 ?_ | refine w8 ?_ | refine wT ?_ | refine w9 ?_ | refine wE ?_ | refine wS ?_) | ((with_reducible refine hK _ ?_); clear hK K) | ((with_reducible refine PWp.condI ?_); refine ⟨_, rfl, fun hg => ?_, fun hg => ?_⟩ <;> first | (exact absurd hg (by decide)) | ((try simp only [Bool.not_true, Bool.not_false] at hg); (try simp only [hg]); (try simp only [push_cast] at hg); (try exact absurd trivial hg); (try (exfalso; omega)))) | ((first | ((with_reducible refine pops_guard0 ?_); refine ⟨_, rfl, fun K hK => ⟨rfl, ?_⟩⟩) | ((with_reducible refine pD_g0 ?_); refine ⟨_, rfl, rfl, ?_⟩)); (try simp (disch := omega) only [push_cast, seval, vb_ne, beq_self_eq_true])) | ((with_reducible refine pany_I ?_); refine ⟨_, rfl, fun K hK => ?_⟩) | ((with_reducible refine pops_plain fun K hK => ?_); simp (disch := omega) only [push_cast, seval, vb_ne, beq_self_eq_true]) | ((first | ((with_reducible refine pD_y ?_ ?_); exact rfl) | ((with_reducible refine pD_x ?_ ?_); exact rfl)); simp (disch := omega) only [push_cast, seval, vb_ne, beq_self_eq_true]) | ((first | ((with_reducible refine pops_guard ?_); refine ⟨_, rfl, fun K hK => ⟨_, rfl, fun hg => ?_, fun hg => ?_⟩⟩) | ((first | ((with_reducible refine pD_gy ?_ ?_); exact rfl) | ((with_reducible refine pD_gx ?_ ?_); exact rfl)); refine ⟨_, rfl, _, rfl, fun hg => ?_, fun hg => ?_⟩)) <;> first | (exact absurd hg (by decide)) | ((try simp only [Bool.not_true, Bool.not_false] at hg); (try simp only [hg]); (try simp only [push_cast] at hg); (try exact absurd trivial hg); (try (exfalso; omega)); (try simp (disch := omega) only [push_cast, seval, vb_ne, beq_self_eq_true]))) | ((with_reducible show pcall _ _ _ _ _ _); (first | (refine pcV (cf Tryz.func11) (big_p _ sd) ?_) | (refine pcF (cf Tryz.func21) (ho) ?_) | (refine pcF (cf Tryz.func24) (hi) ?_) | (refine pcall_X1 (cf Tryz.func28) (by ((try simp (disch := omega) only [push_cast, seval]); first | done | exact rfl)) (drawSrv_t _ sd) ?_; rintro ⟨l, r⟩ ⟨hl, hs⟩) | (refine pcV (cf Tryz.func29) (sBlockOk_p ⟨⟨_, _, _, _, _, _⟩, _, _, ⟨_, _, _, _⟩⟩ (by first | assumption | exact ⟨by (first | assumption | omega | (simp; omega) | (simp_all; done) | (simp_all; omega)), by (first | assumption | omega | (simp; omega) | (simp_all; done) | (simp_all; omega)), by (first | assumption | omega | (simp; omega) | (simp_all; done) | (simp_all; omega))⟩)) ?_) | (refine pcV (cf Tryz.func31) (iShowReq_p ⟨_, _, _⟩) ?_) | (refine pcV (cf Tryz.func35) (sShowReq_p ⟨_, _, _⟩) ?_)); (try simp (disch := omega) only [push_cast, seval, vb_ne, beq_self_eq_true])) | ((with_reducible refine And.intro ?_ ?_); omega))
  refine PWp.loopK (α := Nat) (fun i => [(4, .ptr 0 0), (9, .val (.int .i64 (i : Int)))]) [1, 2, 3, 6, 8, 19, 20, 21, 22, 23, 24, 25, 26, 27, 28, 29, 30, 31, 32, 33, 34, 35, 36, 37, 38, 39, 40, 41, 42, 43, 44, 45, 46, 47, 48, 49, 50, 51, 52, 53, 54, 55, 56, 57, 58, 59, 60, 61, 62, 63, 64, 65, 66, 67, 68, 69, 70, 71, 72, 73, 74, 75, 76, 77, 78, 79, 80, 81, 82, 83, 84, 85, 86, 87, 88, 89, 90, 91, 92, 93] (fun i => [some (.box [.val (.int .i64 k0), .val (.int .i64 f0), .val (.int .i64 m0)])]) (fun i => i ≤ x.length) (fun i => x.length - i) (0) (Nat.zero_le _) (by (refine ⟨[?_], ?_, ?_, ?_, ?_⟩; rotate_left 1; (· ((try simp (disch := omega) only [push_cast, seval]); (repeat' (first | exact trivial | exact rfl | refine And.intro ?_ ?_ | omega)))); (· ((try simp (disch := omega) only [push_cast, seval]); (repeat' (first | exact trivial | exact rfl | refine And.intro ?_ ?_ | omega)))); (· exact rfl); (· (first | exact trivial | exact ⟨rfl, trivial⟩ | exact ⟨rfl, rfl, trivial⟩)))) ?_
  intro i ρ hI
  (try dsimp only at hI)
  refine PWp.at (tm' := ?_) (H' := ?_) ?_ ?_ ?_; rotate_left 2; (· ((try simp only [push_cast, seval]); exact rfl)); (· ((try dsimp only); exact rfl))
  by_cases hlt : i < x.length
  case' pos =>
    obtain ⟨b, hx⟩ : ∃ b, x[i]? = some b := ⟨_, List.getElem?_eq_getElem hlt⟩
    have hbm := List.mem_of_getElem? hx
    have c1 := sBlockOk_p b (hmm b hbm)
    rw [hok b hbm] at c1
    rcases Nat.eq_zero_or_pos i with h0 | h0
    case' inl =>
      subst h0
      repeat' (first | with_reducible (first | refine wA ?_ | refine wB ?_ | refine wC ?_) | with_reducible refine PWp.draw (id := 11) okP true [0, 1, 2, 3, 4, 5, 6, 7, 8, 9, 10, 11, 12, 13, 14, 15, 16, 17, 18, 19, 20, 21, 22, 23, 24, 25, 26, 27, 28, 29, 30, 31, 32, 33, 34, 35, 36, 37, 38, 39] (by kernel_rfl) ?_ | with_reducible (first | refine w1 ?_ | refine w2 ?_ | refine w3 ?_ | refine w4 ?_ | refine w5 ?_ | refine w6 ?_ | refine w7 ?_ | refine w8 ?_ | refine wT ?_ | refine w9 ?_ | refine wE ?_ | refine wS ?_) | ((with_reducible refine hK _ ?_); clear hK K) | ((with_reducible refine PWp.condI ?_); refine ⟨_, rfl, fun hg => ?_, fun hg => ?_⟩ <;> first | (exact absurd hg (by decide)) | ((try simp only [Bool.not_true, Bool.not_false] at hg); (try simp only [hg]); (try simp only [push_cast] at hg); (try exact absurd trivial hg); (try (exfalso; omega)))) | ((first | ((with_reducible refine pops_guard0 ?_); refine ⟨_, rfl, fun K hK => ⟨rfl, ?_⟩⟩) | ((with_reducible refine pD_g0 ?_); refine ⟨_, rfl, rfl, ?_⟩)); (try simp (disch := omega) only [push_cast, seval, hx, eqB_self])) | ((with_reducible refine pany_I ?_); refine ⟨_, rfl, fun K hK => ?_⟩) | ((with_reducible refine pops_plain fun K hK => ?_); simp (disch := omega) only [push_cast, seval, hx, eqB_self]) | ((first | ((with_reducible refine pD_y ?_ ?_); exact rfl) | ((with_reducible refine pD_x ?_ ?_); exact rfl)); simp (disch := omega) only [push_cast, seval, hx, eqB_self]) | ((first | ((with_reducible refine pops_guard ?_); refine ⟨_, rfl, fun K hK => ⟨_, rfl, fun hg => ?_, fun hg => ?_⟩⟩) | ((first | ((with_reducible refine pD_gy ?_ ?_); exact rfl) | ((with_reducible refine pD_gx ?_ ?_); exact rfl)); refine ⟨_, rfl, _, rfl, fun hg => ?_, fun hg => ?_⟩)) <;> first | (exact absurd hg (by decide)) | ((try simp only [Bool.not_true, Bool.not_false] at hg); (try simp only [hg]); (try simp only [push_cast] at hg); (try exact absurd trivial hg); (try (exfalso; omega)); (try simp (disch := omega) only [push_cast, seval, hx, eqB_self]))) | ((with_reducible show pcall _ _ _ _ _ _); (first | (refine pcV (cf Tryz.func11) (big_p _ sd) ?_) | (refine pcF (cf Tryz.func21) (ho) ?_) | (refine pcF (cf Tryz.func24) (hi) ?_) | (refine pcall_X1 (cf Tryz.func28) (by ((try simp (disch := omega) only [push_cast, seval]); first | done | exact rfl)) (drawSrv_t _ sd) ?_; rintro ⟨l, r⟩ ⟨hl, hs⟩) | (refine pcV (cf Tryz.func29) (c1) ?_) | (refine pcV (cf Tryz.func31) (iShowReq_p ⟨_, _, _⟩) ?_) | (refine pcV (cf Tryz.func35) (sShowReq_p ⟨_, _, _⟩) ?_)); (try simp (disch := omega) only [push_cast, seval, hx, eqB_self])) | ((with_reducible refine And.intro ?_ ?_); omega))
      (refine ⟨0 + 1, by ((try dsimp only); omega), ?_, by (refine ⟨[?_], ?_, ?_, ?_, ?_⟩; rotate_left 1; (· ((try simp (disch := omega) only [push_cast, seval]); (repeat' (first | exact trivial | exact rfl | refine And.intro ?_ ?_ | omega)))); (· ((try simp (disch := omega) only [push_cast, seval]); (repeat' (first | exact trivial | exact rfl | refine And.intro ?_ ?_ | omega)))); (· exact rfl); (· (first | exact trivial | exact ⟨rfl, trivial⟩ | exact ⟨rfl, rfl, trivial⟩)))⟩)
      exact hlt
    case' inr =>
      obtain ⟨j, rfl⟩ : ∃ j, i = j + 1 := ⟨i - 1, by omega⟩
      obtain ⟨a, ha⟩ : ∃ a, x[j]? = some a := ⟨_, List.getElem?_eq_getElem (by omega)⟩
      have hh := hcs j a b ha hx
      have hah := block_h (hok a (List.mem_of_getElem? ha))
      have hj1 : ((j : Int) + 1) - 1 = (j : Int) := by omega
      obtain ⟨⟨b1, b2, b3, b4, b5, b6⟩, bv, bn, ⟨dh, dr, di, ds⟩⟩ := b
      dsimp only at hh
      subst hh
      repeat' (first | with_reducible (first | refine wA ?_ | refine wB ?_ | refine wC ?_) | with_reducible refine PWp.draw (id := 11) okP true [0, 1, 2, 3, 4, 5, 6, 7, 8, 9, 10, 11, 12, 13, 14, 15, 16, 17, 18, 19, 20, 21, 22, 23, 24, 25, 26, 27, 28, 29, 30, 31, 32, 33, 34, 35, 36, 37, 38, 39] (by kernel_rfl) ?_ | with_reducible (first | refine w1 ?_ | refine w2 ?_ | refine w3 ?_ | refine w4 ?_ | refine w5 ?_ | refine w6 ?_ | refine w7 ?_ | refine w8 ?_ | refine wT ?_ | refine w9 ?_ | refine wE ?_ | refine wS ?_) | ((with_reducible refine hK _ ?_); clear hK K) | ((with_reducible refine PWp.condI ?_); refine ⟨_, rfl, fun hg => ?_, fun hg => ?_⟩ <;> first | (exact absurd hg (by decide)) | ((try simp only [Bool.not_true, Bool.not_false] at hg); (try simp only [hg]); (try simp only [push_cast] at hg); (try exact absurd trivial hg); (try (exfalso; omega)))) | ((first | ((with_reducible refine pops_guard0 ?_); refine ⟨_, rfl, fun K hK => ⟨rfl, ?_⟩⟩) | ((with_reducible refine pD_g0 ?_); refine ⟨_, rfl, rfl, ?_⟩)); (try simp (disch := omega) only [push_cast, seval, hx, ha, hj1, eqB_self])) | ((with_reducible refine pany_I ?_); refine ⟨_, rfl, fun K hK => ?_⟩) | ((with_reducible refine pops_plain fun K hK => ?_); simp (disch := omega) only [push_cast, seval, hx, ha, hj1, eqB_self]) | ((first | ((with_reducible refine pD_y ?_ ?_); exact rfl) | ((with_reducible refine pD_x ?_ ?_); exact rfl)); simp (disch := omega) only [push_cast, seval, hx, ha, hj1, eqB_self]) | ((first | ((with_reducible refine pops_guard ?_); refine ⟨_, rfl, fun K hK => ⟨_, rfl, fun hg => ?_, fun hg => ?_⟩⟩) | ((first | ((with_reducible refine pD_gy ?_ ?_); exact rfl) | ((with_reducible refine pD_gx ?_ ?_); exact rfl)); refine ⟨_, rfl, _, rfl, fun hg => ?_, fun hg => ?_⟩)) <;> first | (exact absurd hg (by decide)) | ((try simp only [Bool.not_true, Bool.not_false] at hg); (try simp only [hg]); (try simp only [push_cast] at hg); (try exact absurd trivial hg); (try (exfalso; omega)); (try simp (disch := omega) only [push_cast, seval, hx, ha, hj1, eqB_self]))) | ((with_reducible show pcall _ _ _ _ _ _); (first | (refine pcV (cf Tryz.func11) (big_p _ sd) ?_) | (refine pcF (cf Tryz.func21) (ho) ?_) | (refine pcF (cf Tryz.func24) (hi) ?_) | (refine pcall_X1 (cf Tryz.func28) (by ((try simp (disch := omega) only [push_cast, seval]); first | done | exact rfl)) (drawSrv_t _ sd) ?_; rintro ⟨l, r⟩ ⟨hl, hs⟩) | (refine pcV (cf Tryz.func29) (c1) ?_) | (refine pcV (cf Tryz.func31) (iShowReq_p ⟨_, _, _⟩) ?_) | (refine pcV (cf Tryz.func35) (sShowReq_p ⟨_, _, _⟩) ?_)); (try simp (disch := omega) only [push_cast, seval, hx, ha, hj1, eqB_self])) | ((with_reducible refine And.intro ?_ ?_); omega))
      (refine ⟨j + 1 + 1, by ((try dsimp only); omega), ?_, by (refine ⟨[?_], ?_, ?_, ?_, ?_⟩; rotate_left 1; (· ((try simp (disch := omega) only [push_cast, seval]); (repeat' (first | exact trivial | exact rfl | refine And.intro ?_ ?_ | omega)))); (· ((try simp (disch := omega) only [push_cast, seval]); (repeat' (first | exact trivial | exact rfl | refine And.intro ?_ ?_ | omega)))); (· exact rfl); (· (first | exact trivial | exact ⟨rfl, trivial⟩ | exact ⟨rfl, rfl, trivial⟩)))⟩)
      exact hlt
  case' neg =>
    obtain rfl : i = x.length := by omega
    repeat' (first | with_reducible refine mkRegion (id := 14) ?_ | with_reducible (first | refine wA ?_ | refine wB ?_ | refine wC ?_) | with_reducible refine PWp.draw (id := 11) okP true [0, 1, 2, 3, 4, 5, 6, 7, 8, 9, 10, 11, 12, 13, 14, 15, 16, 17, 18, 19, 20, 21, 22, 23, 24, 25, 26, 27, 28, 29, 30, 31, 32, 33, 34, 35, 36, 37, 38, 39] (by kernel_rfl) ?_ | with_reducible (first | refine w1 ?_ | refine w2 ?_ | refine w3 ?_ | refine w4 ?_ | refine w5 ?_ | refine w6 ?_ | refine w7 ?_ | refine w8 ?_ | refine wT ?_ | refine w9 ?_ | refine wE ?_ | refine wS ?_) | ((with_reducible refine hK _ ?_); clear hK K) | ((with_reducible refine PWp.condI ?_); refine ⟨_, rfl, fun hg => ?_, fun hg => ?_⟩ <;> first | (exact absurd hg (by decide)) | ((try simp only [Bool.not_true, Bool.not_false] at hg); (try simp only [hg]); (try simp only [push_cast] at hg); (try exact absurd trivial hg); (try (exfalso; omega)))) | ((first | ((with_reducible refine pops_guard0 ?_); refine ⟨_, rfl, fun K hK => ⟨rfl, ?_⟩⟩) | ((with_reducible refine pD_g0 ?_); refine ⟨_, rfl, rfl, ?_⟩)); (try simp (disch := omega) only [push_cast, seval])) | ((with_reducible refine pany_I ?_); refine ⟨_, rfl, fun K hK => ?_⟩) | ((with_reducible refine pops_plain fun K hK => ?_); simp (disch := omega) only [push_cast, seval]) | ((first | ((with_reducible refine pD_y ?_ ?_); exact rfl) | ((with_reducible refine pD_x ?_ ?_); exact rfl)); simp (disch := omega) only [push_cast, seval]) | ((first | ((with_reducible refine pops_guard ?_); refine ⟨_, rfl, fun K hK => ⟨_, rfl, fun hg => ?_, fun hg => ?_⟩⟩) | ((first | ((with_reducible refine pD_gy ?_ ?_); exact rfl) | ((with_reducible refine pD_gx ?_ ?_); exact rfl)); refine ⟨_, rfl, _, rfl, fun hg => ?_, fun hg => ?_⟩)) <;> first | (exact absurd hg (by decide)) | ((try simp only [Bool.not_true, Bool.not_false] at hg); (try simp only [hg]); (try simp only [push_cast] at hg); (try exact absurd trivial hg); (try (exfalso; omega)); (try simp (disch := omega) only [push_cast, seval]))) | ((with_reducible show pcall _ _ _ _ _ _); (first | (refine pcV (cf Tryz.func11) (big_p _ sd) ?_) | (refine pcF (cf Tryz.func21) (ho) ?_) | (refine pcF (cf Tryz.func24) (hi) ?_) | (refine pcall_X1 (cf Tryz.func28) (by ((try simp (disch := omega) only [push_cast, seval]); first | done | exact rfl)) (drawSrv_t _ sd) ?_; rintro ⟨l, r⟩ ⟨hl, hs⟩) | (refine pcV (cf Tryz.func29) (c1) ?_) | (refine pcall_X1 (cf Tryz.func30) (by ((try simp (disch := omega) only [push_cast, seval]); first | done | exact rfl)) (sDrawShowReq_p _ sd) ?_; rintro q -) | (refine pcV (cf Tryz.func31) (iShowReq_p ⟨_, _, _⟩) ?_) | (refine pcV (cf Tryz.func35) (sShowReq_p ⟨_, _, _⟩) ?_)); (try simp (disch := omega) only [push_cast, seval])) | ((with_reducible refine And.intro ?_ ?_); omega))
    refine Mk.of ?_
    obtain ⟨q', rd, c3, hrd⟩ := readQ q
    have c1 := iShowReq_p q
    have c2 := sShowReq_p q
    have hz := showReq_size q
    generalize showReq q = s at c1 c2 c3 hrd hz
    rcases hrd with ⟨rfl, rfl, he⟩ | ⟨rfl, he⟩
    all_goals
      repeat' (first | with_reducible refine mkRegion (id := 17) ?_ | with_reducible (first | refine wA ?_ | refine wB ?_ | refine wC ?_) | with_reducible refine PWp.draw (id := 11) okP true [0, 1, 2, 3, 4, 5, 6, 7, 8, 9, 10, 11, 12, 13, 14, 15, 16, 17, 18, 19, 20, 21, 22, 23, 24, 25, 26, 27, 28, 29, 30, 31, 32, 33, 34, 35, 36, 37, 38, 39] (by kernel_rfl) ?_ | with_reducible (first | refine w1 ?_ | refine w2 ?_ | refine w3 ?_ | refine w4 ?_ | refine w5 ?_ | refine w6 ?_ | refine w7 ?_ | refine w8 ?_ | refine wT ?_ | refine w9 ?_ | refine wE ?_ | refine wS ?_) | ((with_reducible refine hK _ ?_); clear hK K) | ((with_reducible refine PWp.condI ?_); refine ⟨_, rfl, fun hg => ?_, fun hg => ?_⟩ <;> first | (exact absurd hg (by decide)) | ((try simp only [Bool.not_true, Bool.not_false] at hg); (try simp only [hg]); (try simp only [push_cast] at hg); (try exact absurd trivial hg); (try (exfalso; omega)))) | ((first | ((with_reducible refine pops_guard0 ?_); refine ⟨_, rfl, fun K hK => ⟨rfl, ?_⟩⟩) | ((with_reducible refine pD_g0 ?_); refine ⟨_, rfl, rfl, ?_⟩)); (try simp (disch := omega) only [push_cast, seval, he])) | ((with_reducible refine pany_I ?_); refine ⟨_, rfl, fun K hK => ?_⟩) | ((with_reducible refine pops_plain fun K hK => ?_); simp (disch := omega) only [push_cast, seval, he]) | ((first | ((with_reducible refine pD_y ?_ ?_); exact rfl) | ((with_reducible refine pD_x ?_ ?_); exact rfl)); simp (disch := omega) only [push_cast, seval, he]) | ((first | ((with_reducible refine pops_guard ?_); refine ⟨_, rfl, fun K hK => ⟨_, rfl, fun hg => ?_, fun hg => ?_⟩⟩) | ((first | ((with_reducible refine pD_gy ?_ ?_); exact rfl) | ((with_reducible refine pD_gx ?_ ?_); exact rfl)); refine ⟨_, rfl, _, rfl, fun hg => ?_, fun hg => ?_⟩)) <;> first | (exact absurd hg (by decide)) | ((try simp only [Bool.not_true, Bool.not_false] at hg); (try simp only [hg]); (try simp only [push_cast] at hg); (try exact absurd trivial hg); (try (exfalso; omega)); (try simp (disch := omega) only [push_cast, seval, he]))) | ((with_reducible show pcall _ _ _ _ _ _); (first | (refine pcV (cf Tryz.func11) (big_p _ sd) ?_) | (refine pcF (cf Tryz.func21) (ho) ?_) | (refine pcF (cf Tryz.func24) (hi) ?_) | (refine pcall_X1 (cf Tryz.func28) (by ((try simp (disch := omega) only [push_cast, seval]); first | done | exact rfl)) (drawSrv_t _ sd) ?_; rintro ⟨l, r⟩ ⟨hl, hs⟩) | (refine pcV (cf Tryz.func29) (c1) ?_) | (refine pcall_X1 (cf Tryz.func30) (by ((try simp (disch := omega) only [push_cast, seval]); first | done | exact rfl)) (sDrawShowReq_p _ sd) ?_; rintro q -) | (refine pcV (cf Tryz.func31) (c1) ?_) | (refine pcF (cf Tryz.func32) (c3) ?_) | (refine pcall_X1 (cf Tryz.func33) (by ((try simp (disch := omega) only [push_cast, seval]); first | done | exact rfl)) (sDrawReadReq_p _ sd) ?_; rintro t ⟨ht, -⟩) | (refine pcV (cf Tryz.func35) (c2) ?_)); (try simp (disch := omega) only [push_cast, seval, he])) | ((with_reducible refine And.intro ?_ ?_); omega))
      refine Mk.of ?_
      rcases Classical.em (∃ r', reqOk r' = true ∧ showReq r' = t) with ⟨r', ok', hr'⟩ | hn
      case' inl =>
        have c4 := iReadReq_a r' ok'
        have c5 := sReadReq_a r' ok'
        have c6 := iShowReq_p r'
        rw [hr'] at c4 c5 c6
      case' inr =>
        have c4 := iReadReq_b t (by omega) fun r h e => hn ⟨r, h, e⟩
        have c5 := sReadReq_b t (by omega) fun r h e => hn ⟨r, h, e⟩
        have c6 := c1
      all_goals
        repeat' (first | with_reducible (first | refine wA ?_ | refine wB ?_ | refine wC ?_) | with_reducible refine PWp.draw (id := 11) okP true [0, 1, 2, 3, 4, 5, 6, 7, 8, 9, 10, 11, 12, 13, 14, 15, 16, 17, 18, 19, 20, 21, 22, 23, 24, 25, 26, 27, 28, 29, 30, 31, 32, 33, 34, 35, 36, 37, 38, 39] (by kernel_rfl) ?_ | with_reducible (first | refine w1 ?_ | refine w2 ?_ | refine w3 ?_ | refine w4 ?_ | refine w5 ?_ | refine w6 ?_ | refine w7 ?_ | refine w8 ?_ | refine wT ?_ | refine w9 ?_ | refine wE ?_ | refine wS ?_) | ((with_reducible refine hK _ ?_); clear hK K) | ((with_reducible refine PWp.condI ?_); refine ⟨_, rfl, fun hg => ?_, fun hg => ?_⟩ <;> first | (exact absurd hg (by decide)) | ((try simp only [Bool.not_true, Bool.not_false] at hg); (try simp only [hg]); (try simp only [push_cast] at hg); (try exact absurd trivial hg); (try (exfalso; omega)))) | ((first | ((with_reducible refine pops_guard0 ?_); refine ⟨_, rfl, fun K hK => ⟨rfl, ?_⟩⟩) | ((with_reducible refine pD_g0 ?_); refine ⟨_, rfl, rfl, ?_⟩)); (try simp (disch := omega) only [push_cast, seval, he, vb_eq, vb_ne, beq_self_eq_true, eqB_self])) | ((with_reducible refine pany_I ?_); refine ⟨_, rfl, fun K hK => ?_⟩) | ((with_reducible refine pops_plain fun K hK => ?_); simp (disch := omega) only [push_cast, seval, he, vb_eq, vb_ne, beq_self_eq_true, eqB_self]) | ((first | ((with_reducible refine pD_y ?_ ?_); exact rfl) | ((with_reducible refine pD_x ?_ ?_); exact rfl)); simp (disch := omega) only [push_cast, seval, he, vb_eq, vb_ne, beq_self_eq_true, eqB_self]) | ((first | ((with_reducible refine pops_guard ?_); refine ⟨_, rfl, fun K hK => ⟨_, rfl, fun hg => ?_, fun hg => ?_⟩⟩) | ((first | ((with_reducible refine pD_gy ?_ ?_); exact rfl) | ((with_reducible refine pD_gx ?_ ?_); exact rfl)); refine ⟨_, rfl, _, rfl, fun hg => ?_, fun hg => ?_⟩)) <;> first | (exact absurd hg (by decide)) | ((try simp only [Bool.not_true, Bool.not_false] at hg); (try simp only [hg]); (try simp only [push_cast] at hg); (try exact absurd trivial hg); (try (exfalso; omega)); (try simp (disch := omega) only [push_cast, seval, he, vb_eq, vb_ne, beq_self_eq_true, eqB_self]))) | ((with_reducible show pcall _ _ _ _ _ _); (first | (refine pcV (cf Tryz.func11) (big_p _ sd) ?_) | (refine pcF (cf Tryz.func21) (ho) ?_) | (refine pcF (cf Tryz.func24) (hi) ?_) | (refine pcall_X1 (cf Tryz.func28) (by ((try simp (disch := omega) only [push_cast, seval]); first | done | exact rfl)) (drawSrv_t _ sd) ?_; rintro ⟨l, r⟩ ⟨hl, hs⟩) | (refine pcV (cf Tryz.func29) (c1) ?_) | (refine pcall_X1 (cf Tryz.func30) (by ((try simp (disch := omega) only [push_cast, seval]); first | done | exact rfl)) (sDrawShowReq_p _ sd) ?_; rintro q -) | (refine pcV (cf Tryz.func31) (c6) ?_) | (refine pcF (cf Tryz.func32) (c4) ?_) | (refine pcall_X1 (cf Tryz.func33) (by ((try simp (disch := omega) only [push_cast, seval]); first | done | exact rfl)) (sDrawReadReq_p _ sd) ?_; rintro t ⟨ht, -⟩) | (refine pcF (cf Tryz.func34) (c5) ?_) | (refine pcV (cf Tryz.func35) (c2) ?_)); (try simp (disch := omega) only [push_cast, seval, he, vb_eq, vb_ne, beq_self_eq_true, eqB_self])) | ((with_reducible refine And.intro ?_ ?_); omega))
        all_goals ((with_reducible show PPostR _ _ _ _ _ _); refine finV ?_; (try simp only [push_cast, seval]))
end Go.Proofs.YtiboajlnjldalaaGreatDoor

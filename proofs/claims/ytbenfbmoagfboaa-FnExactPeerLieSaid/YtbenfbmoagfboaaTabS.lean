/- Tables of peers: the other walk's at and ok; both copies. -/
import Derived.Test.YtbenfbmoagfboaaTab
namespace Go.Proofs.Ytbenfbmoagfboaa
open Go.RowKit

set_option maxRecDepth 100000 in
set_option maxHeartbeats 4000000 in
theorem l19At_any (t : GTable) (o1 : Option Addr) (c1 : Nat) (id : Int) (w : World) (h : Rds w (encTable t) [.slice o1 t.fPeers.length c1, .int .i64 t.fTurn]) :
    Calls Try.prog 81 #[.agg #[.slice o1 t.fPeers.length c1, .int .i64 t.fTurn], .int .i64 id] w fun e w' => e = .returned (.int .i64 (pAt t.fPeers id)) ∧ Ext w w' := by
  have r : RL 103 4 encPeer w (.slice o1 t.fPeers.length c1) t.fPeers := h.cut 0 1
  have hm := RS.bd r
  replace hm : t.fPeers.length ≤ 9223372036854775807 := by unfold maxLen at hm; omega
  clear h
  rcases RS.cases r with ⟨hn0, _, o2, c2, hv⟩ | ⟨b1, off, c2, hv, hp, _, _, hx⟩
  · have HT := Lib.hid (show pAt t.fPeers id = -1 from by rw [List.eq_nil_of_length_eq_zero hn0]; rfl)
    rw [hn0]
    clear r hm hn0 hv
    go_enter Try.func81, Try.ntmps81
    go_wp2
    refine wp_loop_rounds 1 ?_
    rw [rounds_succ]
    go_wp2
    go_ret
    exact ⟨ret_int HT.out, by (repeat (first | (with_reducible exact Ext.refl _) | (with_reducible assumption) | (with_reducible refine Ext.alloc ?_ _) | (with_reducible refine Ext.drew ?_) | (with_reducible refine Ext.drewN ?_ _) | ((with_reducible apply Ext.setCell); (case hp => first | omega | (simp; done) | (simp; omega))) | (with_reducible refine Ext.trans ?_ (by assumption))))⟩
  · simp at hv
    obtain ⟨rfl, rfl⟩ := hv
    clear r hp
    go_enter Try.func81, Try.ntmps81
    go_wp2
    go_loopg [5] t.fPeers.length (fun g i wr => ∃ k : Nat, k ≤ t.fPeers.length ∧ g = t.fPeers.length - k ∧ i = .int .i64 k ∧ Ext w wr ∧ Box wr w.heap.size #[.slice (some ⟨b1, off, none⟩) t.fPeers.length c1, .int .i64 t.fTurn] ∧ Hid (noneTo (fun p => p.fId == id) t.fPeers k))
    case atStart => exact ⟨0, by omega, by omega, rfl, by (repeat (first | (with_reducible exact Ext.refl _) | (with_reducible assumption) | (with_reducible refine Ext.alloc ?_ _) | (with_reducible refine Ext.drew ?_) | (with_reducible refine Ext.drewN ?_ _) | ((with_reducible apply Ext.setCell); (case hp => first | omega | (simp; done) | (simp; omega))) | (with_reducible refine Ext.trans ?_ (by assumption)))), by (repeat (first | (with_reducible assumption) | ((with_reducible apply Box.new); (first | (with_reducible rfl) | (simp; done) | (simp; omega))) | (with_reducible apply Box.alloc) | (with_reducible apply Box.drew) | (with_reducible apply Box.drewN) | (with_reducible apply Box.set) | ((with_reducible apply Box.set_ne); (case hne => first | omega | (simp; done) | (simp; omega))))), noneTo_zero⟩
    case round =>
      obtain ⟨k, hk, hg, rfl, hE, hB, hN⟩ := hrel
      have HG := Lib.hid hg; clear hg
      obtain ⟨cb, fb, lb⟩ := hB.rules
      by_cases hlt : k < t.fPeers.length
      · obtain ⟨x, hxk⟩ : ∃ x, t.fPeers[k]? = some x := ⟨_, List.getElem?_eq_getElem hlt⟩
        have e1 := (RAt.elem (enc := encPeer) (sz := 4) (fun _ => rfl) hx hxk).ext hE
        have HX := Lib.hid hxk; clear hxk
        have q0 : wr.cell? ⟨b1, off + k * 4, none⟩ = some (.int .i64 x.fId) := e1.int (j := 0) rfl
        have q1 : wr.cell? ⟨b1, off + k * 4 + 1, none⟩ = some (.bool x.fPinned) := e1.bool (j := 1) rfl
        have q2 : wr.cell? ⟨b1, off + k * 4 + 2, none⟩ = some (.int .i64 x.fUntil) := e1.int (j := 2) rfl
        have q3 : wr.cell? ⟨b1, off + k * 4 + 3, none⟩ = some (.int .i64 x.fBans) := e1.int (j := 3) rfl
        clear e1
        have i0 : (0 : Int) ≤ (k : Int) := by omega
        have i1 : (k : Int) < (t.fPeers.length : Int) := by omega
        go_wp2
        all_goals first
          | (go_ret; exact ⟨ret_int (idx_some HX.out (by simp_all) hN.out), by (repeat (first | (with_reducible exact Ext.refl _) | (with_reducible assumption) | (with_reducible refine Ext.alloc ?_ _) | (with_reducible refine Ext.drew ?_) | (with_reducible refine Ext.drewN ?_ _) | ((with_reducible apply Ext.setCell); (case hp => first | omega | (simp; done) | (simp; omega))) | (with_reducible refine Ext.trans ?_ (by assumption))))⟩)
          | (go_roundg (t.fPeers.length - (k + 1))
             case measure => rw [HG.out]; omega
             case rel => exact ⟨k + 1, by omega, rfl, by go_num, by (repeat (first | (with_reducible exact Ext.refl _) | (with_reducible assumption) | (with_reducible refine Ext.alloc ?_ _) | (with_reducible refine Ext.drew ?_) | (with_reducible refine Ext.drewN ?_ _) | ((with_reducible apply Ext.setCell); (case hp => first | omega | (simp; done) | (simp; omega))) | (with_reducible refine Ext.trans ?_ (by assumption)))), by (repeat (first | (with_reducible assumption) | ((with_reducible apply Box.new); (first | (with_reducible rfl) | (simp; done) | (simp; omega))) | (with_reducible apply Box.alloc) | (with_reducible apply Box.drew) | (with_reducible apply Box.drewN) | (with_reducible apply Box.set) | ((with_reducible apply Box.set_ne); (case hne => first | omega | (simp; done) | (simp; omega))))), noneTo_succ hN.out HX.out (by simp_all)⟩)
      · obtain rfl : k = t.fPeers.length := by omega
        go_wp2
        go_ret
        exact ⟨ret_int (noneTo_end hN.out), by (repeat (first | (with_reducible exact Ext.refl _) | (with_reducible assumption) | (with_reducible refine Ext.alloc ?_ _) | (with_reducible refine Ext.drew ?_) | (with_reducible refine Ext.drewN ?_ _) | ((with_reducible apply Ext.setCell); (case hp => first | omega | (simp; done) | (simp; omega))) | (with_reducible refine Ext.trans ?_ (by assumption))))⟩

set_option maxRecDepth 100000 in
set_option maxHeartbeats 4000000 in
theorem sTableOk_any (t : GTable) (o1 : Option Addr) (c1 : Nat) (w : World) (h : Rds w (encTable t) [.slice o1 t.fPeers.length c1, .int .i64 t.fTurn]) :
    Calls Try.prog 77 #[.agg #[.slice o1 t.fPeers.length c1, .int .i64 t.fTurn]] w fun e w' => e = .returned (.bool (tableOk t)) ∧ Ext w w' := by
  have r : RL 103 4 encPeer w (.slice o1 t.fPeers.length c1) t.fPeers := h.cut 0 1
  have hm := RS.bd r
  replace hm : t.fPeers.length ≤ 9223372036854775807 := by unfold maxLen at hm; omega
  by_cases hpre : (decide (t.fPeers.length ≤ 6) && inB t.fTurn 0 1000000) = true
  · have hp1 : (t.fPeers.length : Int) ≤ 6 := by simp at hpre; omega
    have hp2 : inB t.fTurn 0 1000000 = true := by simp at hpre; exact hpre.2
    have HT := Lib.hid (show ∀ b, allN (pOk t.fPeers) t.fPeers.length = b → tableOk t = b from fun b hb => by unfold tableOk; rw [Bool.and_assoc, hpre, hb, Bool.and_true])
    clear hpre
    rcases RS.cases r with ⟨hn0, _, o2, c2, hv⟩ | ⟨b1, off, c2, hv, hp, _, _, hx⟩
    · have HT2 := Lib.hid (HT.out true (by rw [hn0]; rfl))
      rw [hn0] at h ⊢
      clear r hm hn0 hv hp1
      go_enter Try.func77, Try.ntmps77
      go_wp2_with (go_at_call 89; refine (l10Time_any _ _).mono ?_; rintro e w' ⟨rfl, rfl⟩)
      refine wp_loop_rounds 1 ?_
      rw [rounds_succ]
      go_wp2
      go_ret
      exact ⟨ret_bool HT2.out, by (repeat (first | (with_reducible exact Ext.refl _) | (with_reducible assumption) | (with_reducible refine Ext.alloc ?_ _) | (with_reducible refine Ext.drew ?_) | (with_reducible refine Ext.drewN ?_ _) | ((with_reducible apply Ext.setCell); (case hp => first | omega | (simp; done) | (simp; omega))) | (with_reducible refine Ext.trans ?_ (by assumption))))⟩
    · simp at hv
      obtain ⟨rfl, rfl⟩ := hv
      clear r hp
      go_enter Try.func77, Try.ntmps77
      go_wp2_with (go_at_call 89; refine (l10Time_any _ _).mono ?_; rintro e w' ⟨rfl, rfl⟩)
      go_loopg [3] t.fPeers.length (fun g i wr => ∃ k : Nat, k ≤ t.fPeers.length ∧ g = t.fPeers.length - k ∧ i = .int .i64 k ∧ Ext w wr ∧ Box wr w.heap.size #[.slice (some ⟨b1, off, none⟩) t.fPeers.length c1, .int .i64 t.fTurn] ∧ Hid (allTo (pOk t.fPeers) k))
      case atStart => exact ⟨0, by omega, by omega, rfl, by (repeat (first | (with_reducible exact Ext.refl _) | (with_reducible assumption) | (with_reducible refine Ext.alloc ?_ _) | (with_reducible refine Ext.drew ?_) | (with_reducible refine Ext.drewN ?_ _) | ((with_reducible apply Ext.setCell); (case hp => first | omega | (simp; done) | (simp; omega))) | (with_reducible refine Ext.trans ?_ (by assumption)))), by (repeat (first | (with_reducible assumption) | ((with_reducible apply Box.new); (first | (with_reducible rfl) | (simp; done) | (simp; omega))) | (with_reducible apply Box.alloc) | (with_reducible apply Box.drew) | (with_reducible apply Box.drewN) | (with_reducible apply Box.set) | ((with_reducible apply Box.set_ne); (case hne => first | omega | (simp; done) | (simp; omega))))), allTo_zero⟩
      case round =>
        obtain ⟨k, hk, hg, rfl, hE, hB, hA⟩ := hrel
        have HG := Lib.hid hg; clear hg
        obtain ⟨cb, fb, lb⟩ := hB.rules
        by_cases hlt : k < t.fPeers.length
        · obtain ⟨x, hxk⟩ : ∃ x, t.fPeers[k]? = some x := ⟨_, List.getElem?_eq_getElem hlt⟩
          have e1 := (RAt.elem (enc := encPeer) (sz := 4) (fun _ => rfl) hx hxk).ext hE
          have HX := Lib.hid hxk; clear hxk
          have q0 : wr.cell? ⟨b1, off + k * 4, none⟩ = some (.int .i64 x.fId) := e1.int (j := 0) rfl
          have q1 : wr.cell? ⟨b1, off + k * 4 + 1, none⟩ = some (.bool x.fPinned) := e1.bool (j := 1) rfl
          have q2 : wr.cell? ⟨b1, off + k * 4 + 2, none⟩ = some (.int .i64 x.fUntil) := e1.int (j := 2) rfl
          have q3 : wr.cell? ⟨b1, off + k * 4 + 3, none⟩ = some (.int .i64 x.fBans) := e1.int (j := 3) rfl
          clear e1
          have i0 : (0 : Int) ≤ (k : Int) := by omega
          have i1 : (k : Int) < (t.fPeers.length : Int) := by omega
          go_wp2_with (first | (go_at_call 98; refine (l1In_any _ _ _ _).mono ?_; rintro e w' ⟨rfl, rfl⟩) | (go_at_call 81; refine (l19At_any t _ _ _ _ (h.ext (by (repeat (first | (with_reducible exact Ext.refl _) | (with_reducible assumption) | (with_reducible refine Ext.alloc ?_ _) | (with_reducible refine Ext.drew ?_) | (with_reducible refine Ext.drewN ?_ _) | ((with_reducible apply Ext.setCell); (case hp => first | omega | (simp; done) | (simp; omega))) | (with_reducible refine Ext.trans ?_ (by assumption))))))).mono ?_; rintro e w2 ⟨rfl, hb⟩; (obtain ⟨B2, c2, f2, l2⟩ := Box.after (k := w.heap.size) hb (by (repeat (first | (with_reducible assumption) | ((with_reducible apply Box.new); (first | (with_reducible rfl) | (simp; done) | (simp; omega))) | (with_reducible apply Box.alloc) | (with_reducible apply Box.drew) | (with_reducible apply Box.drewN) | (with_reducible apply Box.set) | ((with_reducible apply Box.set_ne); (case hne => first | omega | (simp; done) | (simp; omega)))))))))
          all_goals first
            | (go_ret; exact ⟨ret_bool (HT.out _ (pOk_bad HX.out (by simp_all) hlt)), by (repeat (first | (with_reducible exact Ext.refl _) | (with_reducible assumption) | (with_reducible refine Ext.alloc ?_ _) | (with_reducible refine Ext.drew ?_) | (with_reducible refine Ext.drewN ?_ _) | ((with_reducible apply Ext.setCell); (case hp => first | omega | (simp; done) | (simp; omega))) | (with_reducible refine Ext.trans ?_ (by assumption))))⟩)
            | (go_roundg (t.fPeers.length - (k + 1))
               case measure => rw [HG.out]; omega
               case rel => exact ⟨k + 1, by omega, rfl, by go_num, by (repeat (first | (with_reducible exact Ext.refl _) | (with_reducible assumption) | (with_reducible refine Ext.alloc ?_ _) | (with_reducible refine Ext.drew ?_) | (with_reducible refine Ext.drewN ?_ _) | ((with_reducible apply Ext.setCell); (case hp => first | omega | (simp; done) | (simp; omega))) | (with_reducible refine Ext.trans ?_ (by assumption)))), by (repeat (first | (with_reducible assumption) | ((with_reducible apply Box.new); (first | (with_reducible rfl) | (simp; done) | (simp; omega))) | (with_reducible apply Box.alloc) | (with_reducible apply Box.drew) | (with_reducible apply Box.drewN) | (with_reducible apply Box.set) | ((with_reducible apply Box.set_ne); (case hne => first | omega | (simp; done) | (simp; omega))))), allTo_succ hA.out (pOk_good HX.out (by simp_all))⟩)
        · obtain rfl : k = t.fPeers.length := by omega
          have HA := Lib.hid (allTo_end hA.out)
          go_wp2
          go_ret
          exact ⟨ret_bool (HT.out _ HA.out), by (repeat (first | (with_reducible exact Ext.refl _) | (with_reducible assumption) | (with_reducible refine Ext.alloc ?_ _) | (with_reducible refine Ext.drew ?_) | (with_reducible refine Ext.drewN ?_ _) | ((with_reducible apply Ext.setCell); (case hp => first | omega | (simp; done) | (simp; omega))) | (with_reducible refine Ext.trans ?_ (by assumption))))⟩
  · have HT := Lib.hid (show tableOk t = false from by unfold tableOk; rw [Bool.and_assoc]; simp only [Bool.not_eq_true] at hpre; rw [hpre, Bool.and_false])
    have HP := Lib.hid hpre
    clear r hpre
    go_enter Try.func77, Try.ntmps77
    go_wp2_with (go_at_call 89; refine (l10Time_any _ _).mono ?_; rintro e w' ⟨rfl, rfl⟩)
    all_goals first
      | (go_ret; exact ⟨ret_bool HT.out, by (repeat (first | (with_reducible exact Ext.refl _) | (with_reducible assumption) | (with_reducible refine Ext.alloc ?_ _) | (with_reducible refine Ext.drew ?_) | (with_reducible refine Ext.drewN ?_ _) | ((with_reducible apply Ext.setCell); (case hp => first | omega | (simp; done) | (simp; omega))) | (with_reducible refine Ext.trans ?_ (by assumption))))⟩)
      | (exfalso; have := HP.out; simp_all; omega)

theorem infoP : (Try.prog.info? 103).map (fun i => (i.zero, i.size, i.bytes)) = some (some (.agg #[.int .i64 0, .bool false, .int .i64 0, .int .i64 0]), 4, 32) := by kernel_rfl

set_option maxRecDepth 100000 in
set_option maxHeartbeats 4000000 in
theorem copyTable_any (t : GTable) (o1 : Option Addr) (c1 : Nat) (w : World) (h : Rds w (encTable t) [.slice o1 t.fPeers.length c1, .int .i64 t.fTurn]) (hn : t.fPeers.length ≤ 1048576) :
    Calls Try.prog 84 #[.agg #[.slice o1 t.fPeers.length c1, .int .i64 t.fTurn]] w fun e w' => ∃ p1 q1, e = .returned (.agg #[.slice p1 t.fPeers.length q1, .int .i64 t.fTurn]) ∧ Obj w' w.heap.size w'.heap.size (encTable t) [.slice p1 t.fPeers.length q1, .int .i64 t.fTurn] ∧ Ext w w' := by
  have r : RL 103 4 encPeer w (.slice o1 t.fPeers.length c1) t.fPeers := h.cut 0 1
  obtain ⟨i0, hi, hz0, hz1, hz2⟩ := info_parts infoP
  clear h
  go_enter Try.func84, Try.ntmps84
  go_wp2_with fail
  go_region_law
    (refine step_append_sl _ (by rfl) _ _ _ (by rfl) (w.heap.size + 2) 103 i0 _ 4 32 Try.underlying26 hi hz0 hz1 hz2 rfl (by decide) (.slice none 0 0) 0 [] (by rfl) (World.ownsRow_nil _ _ _ _) (.slice o1 t.fPeers.length c1) t.fPeers (by rfl) (RL.sl (enc := encPeer) (fun _ => rfl) (fun _ => rfl) (RS.ext r (by (repeat (first | (with_reducible exact Ext.refl _) | (with_reducible assumption) | (with_reducible refine Ext.alloc ?_ _) | (with_reducible refine Ext.drew ?_) | (with_reducible refine Ext.drewN ?_ _) | ((with_reducible apply Ext.setCell); (case hp => first | omega | (simp; done) | (simp; omega))) | (with_reducible refine Ext.trans ?_ (by assumption))))))) (valE_len (fun _ => rfl)) valE_one (by unfold maxLen; omega) (by omega) (by (first | omega | (simp; done) | (simp; omega))) ?_; intro v w2 hO2 hG2 _; have hb : Ext _ w2 := Ext.of_grownBy hG2; have hz2 := hb.size; simp at hz2; have O := Obj.of_copy (enc := encPeer) (fun _ => rfl) hO2; obtain ⟨p1, q1, rfl⟩ := RS.val O.read; (obtain ⟨B0, c0, f0, l0⟩ := Box.after (k := w.heap.size) hb (by (repeat (first | (with_reducible assumption) | ((with_reducible apply Box.new); (first | (with_reducible rfl) | (simp; done) | (simp; omega))) | (with_reducible apply Box.alloc) | (with_reducible apply Box.drew) | (with_reducible apply Box.drewN) | (with_reducible apply Box.set) | ((with_reducible apply Box.set_ne); (case hne => first | omega | (simp; done) | (simp; omega))))))); (obtain ⟨B1, c1, f1, l1⟩ := Box.after (k := w.heap.size + 1) hb (by (repeat (first | (with_reducible assumption) | ((with_reducible apply Box.new); (first | (with_reducible rfl) | (simp; done) | (simp; omega))) | (with_reducible apply Box.alloc) | (with_reducible apply Box.drew) | (with_reducible apply Box.drewN) | (with_reducible apply Box.set) | ((with_reducible apply Box.set_ne); (case hne => first | omega | (simp; done) | (simp; omega))))))))
  all_goals
    have HO := Lib.hid O
    have E : Ext w w2 := by (repeat (first | (with_reducible exact Ext.refl _) | (with_reducible assumption) | (with_reducible refine Ext.alloc ?_ _) | (with_reducible refine Ext.drew ?_) | (with_reducible refine Ext.drewN ?_ _) | ((with_reducible apply Ext.setCell); (case hp => first | omega | (simp; done) | (simp; omega))) | (with_reducible refine Ext.trans ?_ (by assumption))))
    clear O hO2 hG2 hb
    go_wp2
    exact bodyPost_ret (v := .agg #[.slice p1 t.fPeers.length q1, .int .i64 t.fTurn]) (by simp [results, Try.results84, go_sem, c1]) rfl ⟨_, _, rfl, Obj.mono (lo := w.heap.size + 2) (hi := w2.heap.size) (show Obj _ _ _ [slD 103 4 encPeer t.fPeers, .int t.fTurn] _ from by have A : Obj w2 (w.heap.size + 2) w2.heap.size [slD 103 4 encPeer t.fPeers, .int t.fTurn] [.slice p1 t.fPeers.length q1, .int .i64 t.fTurn] := Obj.more HO.out (.int obj_nil : Obj _ w2.heap.size w2.heap.size [.int t.fTurn] [.int .i64 t.fTurn]) (Nat.le_refl _) (Nat.le_refl _) (by (first | omega | (simp; done) | (simp; omega))); (repeat (first | (with_reducible assumption) | (with_reducible apply Obj.alloc) | (with_reducible apply Obj.drew) | (with_reducible apply Obj.drewN) | ((with_reducible apply Obj.set); (case hk => first | omega | (simp; done) | (simp; omega) | (left; simp; omega) | (right; simp; omega))) | (with_reducible refine Obj.ext ?_ (by assumption))))) (by (first | omega | (simp; done) | (simp; omega))) (by (first | omega | (simp; done) | (simp; omega))), by (repeat (first | (with_reducible exact Ext.refl _) | (with_reducible assumption) | (with_reducible refine Ext.alloc ?_ _) | (with_reducible refine Ext.drew ?_) | (with_reducible refine Ext.drewN ?_ _) | ((with_reducible apply Ext.setCell); (case hp => first | omega | (simp; done) | (simp; omega))) | (with_reducible refine Ext.trans ?_ (by assumption))))⟩
end Go.Proofs.Ytbenfbmoagfboaa

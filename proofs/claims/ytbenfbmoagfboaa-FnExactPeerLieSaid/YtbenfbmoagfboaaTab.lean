/- Tables of peers: at, ok, copy; both walks. -/
import Derived.Test.YtbenfbmoagfboaaTyTable
import Derived.Test.YtbenfbmoagfboaaIdx
import Derived.Test.YtbenfbmoagfboaaDeepFlat
import Derived.Deep.RegionLaw
namespace Go.Proofs.Ytbenfbmoagfboaa
open Go.RowKit

def pAt (ps : List GPeer) (id : Int) : Int := idx (fun p => p.fId == id) ps
def pOk (ps : List GPeer) (i : Nat) : Bool :=
  match ps[i]? with
  | none => true
  | some p => inB p.fId 1 99 && inB p.fUntil 0 1000320 && inB p.fBans 0 20 && (pAt ps p.fId == i)
def tableOk (t : GTable) : Bool := allN (pOk t.fPeers) t.fPeers.length && decide (t.fPeers.length ≤ 6) && inB t.fTurn 0 1000000

theorem at1_any (p : GPeer) (id : Int) (bx : Nat) (w : World) (hB : Box w bx #[.int .i64 id]) :
    Calls Try.prog 145 #[.agg #[.int .i64 p.fId, .bool p.fPinned, .int .i64 p.fUntil, .int .i64 p.fBans], .pointer (some ⟨bx, 0, none⟩)] w fun e w' => e = .returned (.bool (p.fId == id)) ∧ Ext w w' := by
  obtain ⟨cb, fb, lb⟩ := hB.rules
  clear hB
  go_enter Try.func145, Try.ntmps145
  go_wp2
  go_ret
  exact ⟨rfl, by (repeat (first | (with_reducible exact Ext.refl _) | (with_reducible assumption) | (with_reducible refine Ext.alloc ?_ _) | (with_reducible refine Ext.drew ?_) | (with_reducible refine Ext.drewN ?_ _) | ((with_reducible apply Ext.setCell); (case hp => first | omega | (simp; done) | (simp; omega))) | (with_reducible refine Ext.trans ?_ (by assumption))))⟩

set_option maxRecDepth 100000 in
set_option maxHeartbeats 4000000 in
theorem indexP_any (v : Value) (ps : List GPeer) (id : Int) (bx : Nat) (w : World) (h : RL 103 4 encPeer w v ps) (hB : Box w bx #[.int .i64 id]) :
    Calls Try.prog 106 #[v, .func (.func 145) #[] #[.pointer (some ⟨bx, 0, none⟩)]] w fun e w' => e = .returned (.int .i64 (pAt ps id)) ∧ Ext w w' := by
  have hm := RS.bd h
  replace hm : ps.length ≤ 9223372036854775807 := by unfold maxLen at hm; omega
  rcases RS.cases h with ⟨hn0, _, o1, c1, rfl⟩ | ⟨b1, o1, c1, rfl, hp, _, _, hx⟩
  · obtain rfl := List.eq_nil_of_length_eq_zero hn0
    clear h hn0
    go_enter Try.func106, Try.ntmps106
    go_wp2
    refine wp_loop_rounds 1 ?_
    rw [rounds_succ]
    go_wp2
    go_ret
    exact ⟨rfl, by (repeat (first | (with_reducible exact Ext.refl _) | (with_reducible assumption) | (with_reducible refine Ext.alloc ?_ _) | (with_reducible refine Ext.drew ?_) | (with_reducible refine Ext.drewN ?_ _) | ((with_reducible apply Ext.setCell); (case hp => first | omega | (simp; done) | (simp; omega))) | (with_reducible refine Ext.trans ?_ (by assumption))))⟩
  · clear h hp
    go_enter Try.func106, Try.ntmps106
    go_wp2
    go_loopg [8] ps.length (fun g i wr => ∃ k : Nat, k ≤ ps.length ∧ g = ps.length - k ∧ i = .int .i64 k ∧ Ext w wr ∧ Hid (noneTo (fun p => p.fId == id) ps k))
    case atStart => exact ⟨0, by omega, by omega, rfl, Ext.refl _, noneTo_zero⟩
    case round =>
      obtain ⟨k, hk, hg, rfl, hE, hN⟩ := hrel
      have HG := Lib.hid hg; clear hg
      have hB2 := hB.ext hE
      by_cases hlt : k < ps.length
      · obtain ⟨x, hxk⟩ : ∃ x, ps[k]? = some x := ⟨_, List.getElem?_eq_getElem hlt⟩
        have e1 := (RAt.elem (enc := encPeer) (sz := 4) (fun _ => rfl) hx hxk).ext hE
        have HX := Lib.hid hxk; clear hxk
        have q0 : wr.cell? ⟨b1, o1 + k * 4, none⟩ = some (.int .i64 x.fId) := e1.int (j := 0) rfl
        have q1 : wr.cell? ⟨b1, o1 + k * 4 + 1, none⟩ = some (.bool x.fPinned) := e1.bool (j := 1) rfl
        have q2 : wr.cell? ⟨b1, o1 + k * 4 + 2, none⟩ = some (.int .i64 x.fUntil) := e1.int (j := 2) rfl
        have q3 : wr.cell? ⟨b1, o1 + k * 4 + 3, none⟩ = some (.int .i64 x.fBans) := e1.int (j := 3) rfl
        clear e1
        have i0 : (0 : Int) ≤ (k : Int) := by omega
        have i1 : (k : Int) < (ps.length : Int) := by omega
        go_wp2_with fail
        (refine (at1_any x id bx _ (by (repeat (first | (with_reducible assumption) | ((with_reducible apply Box.new); (first | (with_reducible rfl) | (simp; done) | (simp; omega))) | (with_reducible apply Box.alloc) | (with_reducible apply Box.drew) | (with_reducible apply Box.drewN) | (with_reducible apply Box.set) | ((with_reducible apply Box.set_ne); (case hne => first | omega | (simp; done) | (simp; omega))))))).mono ?_); rintro e w2 ⟨rfl, hb⟩
        go_wp2
        all_goals first
          | (go_ret; exact ⟨ret_int (idx_some HX.out (by assumption) hN.out), by (repeat (first | (with_reducible exact Ext.refl _) | (with_reducible assumption) | (with_reducible refine Ext.alloc ?_ _) | (with_reducible refine Ext.drew ?_) | (with_reducible refine Ext.drewN ?_ _) | ((with_reducible apply Ext.setCell); (case hp => first | omega | (simp; done) | (simp; omega))) | (with_reducible refine Ext.trans ?_ (by assumption))))⟩)
          | (go_roundg (ps.length - (k + 1))
             case measure => rw [HG.out]; omega
             case rel => exact ⟨k + 1, by omega, rfl, by go_num, by (repeat (first | (with_reducible exact Ext.refl _) | (with_reducible assumption) | (with_reducible refine Ext.alloc ?_ _) | (with_reducible refine Ext.drew ?_) | (with_reducible refine Ext.drewN ?_ _) | ((with_reducible apply Ext.setCell); (case hp => first | omega | (simp; done) | (simp; omega))) | (with_reducible refine Ext.trans ?_ (by assumption)))), noneTo_succ hN.out HX.out (by assumption)⟩)
      · obtain rfl : k = ps.length := by omega
        go_wp2
        go_ret
        exact ⟨ret_int (noneTo_end hN.out), by (repeat (first | (with_reducible exact Ext.refl _) | (with_reducible assumption) | (with_reducible refine Ext.alloc ?_ _) | (with_reducible refine Ext.drew ?_) | (with_reducible refine Ext.drewN ?_ _) | ((with_reducible apply Ext.setCell); (case hp => first | omega | (simp; done) | (simp; omega))) | (with_reducible refine Ext.trans ?_ (by assumption))))⟩

set_option maxHeartbeats 1000000 in
theorem tAt_any (t : GTable) (o1 : Option Addr) (c1 : Nat) (id : Int) (w : World) (h : Rds w (encTable t) [.slice o1 t.fPeers.length c1, .int .i64 t.fTurn]) :
    Calls Try.prog 85 #[.agg #[.slice o1 t.fPeers.length c1, .int .i64 t.fTurn], .int .i64 id] w fun e w' => e = .returned (.int .i64 (pAt t.fPeers id)) ∧ Ext w w' := by
  have r : RL 103 4 encPeer w (.slice o1 t.fPeers.length c1) t.fPeers := h.cut 0 1
  clear h
  go_enter Try.func85, Try.ntmps85
  go_wp2_with fail
  (refine (indexP_any _ t.fPeers id _ _ (RS.ext r (by (repeat (first | (with_reducible exact Ext.refl _) | (with_reducible assumption) | (with_reducible refine Ext.alloc ?_ _) | (with_reducible refine Ext.drew ?_) | (with_reducible refine Ext.drewN ?_ _) | ((with_reducible apply Ext.setCell); (case hp => first | omega | (simp; done) | (simp; omega))) | (with_reducible refine Ext.trans ?_ (by assumption)))))) (by (repeat (first | (with_reducible assumption) | ((with_reducible apply Box.new); (first | (with_reducible rfl) | (simp; done) | (simp; omega))) | (with_reducible apply Box.alloc) | (with_reducible apply Box.drew) | (with_reducible apply Box.drewN) | (with_reducible apply Box.set) | ((with_reducible apply Box.set_ne); (case hne => first | omega | (simp; done) | (simp; omega))))))).mono ?_); rintro e w1 ⟨rfl, hb⟩
  go_wp2
  go_ret
  exact ⟨rfl, by (repeat (first | (with_reducible exact Ext.refl _) | (with_reducible assumption) | (with_reducible refine Ext.alloc ?_ _) | (with_reducible refine Ext.drew ?_) | (with_reducible refine Ext.drewN ?_ _) | ((with_reducible apply Ext.setCell); (case hp => first | omega | (simp; done) | (simp; omega))) | (with_reducible refine Ext.trans ?_ (by assumption))))⟩

theorem pOk_bad {ps : List GPeer} {k : Nat} {x : GPeer} (hx : ps[k]? = some x) (h : (inB x.fId 1 99 && inB x.fUntil 0 1000320 && inB x.fBans 0 20 && (pAt ps x.fId == k)) = false) (hk : k < ps.length) : allN (pOk ps) ps.length = false :=
  allN_no hk (by unfold pOk; rw [hx]; exact h)
theorem pOk_good {ps : List GPeer} {k : Nat} {x : GPeer} (hx : ps[k]? = some x) (h : (inB x.fId 1 99 && inB x.fUntil 0 1000320 && inB x.fBans 0 20 && (pAt ps x.fId == k)) = true) : pOk ps k = true := by unfold pOk; rw [hx]; exact h

set_option maxRecDepth 100000 in
set_option maxHeartbeats 4000000 in
theorem tableOk_any (t : GTable) (o1 : Option Addr) (c1 : Nat) (w : World) (h : Rds w (encTable t) [.slice o1 t.fPeers.length c1, .int .i64 t.fTurn]) :
    Calls Try.prog 83 #[.agg #[.slice o1 t.fPeers.length c1, .int .i64 t.fTurn]] w fun e w' => e = .returned (.bool (tableOk t)) ∧ Ext w w' := by
  have r : RL 103 4 encPeer w (.slice o1 t.fPeers.length c1) t.fPeers := h.cut 0 1
  have hm := RS.bd r
  replace hm : t.fPeers.length ≤ 9223372036854775807 := by unfold maxLen at hm; omega
  rcases RS.cases r with ⟨hn0, _, o2, c2, hv⟩ | ⟨b1, off, c2, hv, hp, _, _, hx⟩
  · have HT := Lib.hid (show tableOk t = inB t.fTurn 0 1000000 from by unfold tableOk; rw [hn0]; simp [allN])
    simp at hv
    rw [hn0] at h ⊢
    clear r hm hn0 hv
    go_enter Try.func83, Try.ntmps83
    go_wp2
    refine wp_loop_rounds 1 ?_
    rw [rounds_succ]
    go_wp2_with (go_at_call 90; refine (isTime_any _ _).mono ?_; rintro e w' ⟨rfl, rfl⟩)
    go_ret
    exact ⟨ret_bool HT.out, by (repeat (first | (with_reducible exact Ext.refl _) | (with_reducible assumption) | (with_reducible refine Ext.alloc ?_ _) | (with_reducible refine Ext.drew ?_) | (with_reducible refine Ext.drewN ?_ _) | ((with_reducible apply Ext.setCell); (case hp => first | omega | (simp; done) | (simp; omega))) | (with_reducible refine Ext.trans ?_ (by assumption))))⟩
  · simp at hv
    obtain ⟨rfl, rfl⟩ := hv
    clear r hp
    go_enter Try.func83, Try.ntmps83
    go_wp2
    go_loopg [8] t.fPeers.length (fun g i wr => ∃ k : Nat, k ≤ t.fPeers.length ∧ g = t.fPeers.length - k ∧ i = .int .i64 k ∧ Ext w wr ∧ Box wr w.heap.size #[.slice (some ⟨b1, off, none⟩) t.fPeers.length c1, .int .i64 t.fTurn] ∧ Hid (allTo (pOk t.fPeers) k))
    case atStart => exact ⟨0, by omega, by omega, rfl, by (repeat (first | (with_reducible exact Ext.refl _) | (with_reducible assumption) | (with_reducible refine Ext.alloc ?_ _) | (with_reducible refine Ext.drew ?_) | (with_reducible refine Ext.drewN ?_ _) | ((with_reducible apply Ext.setCell); (case hp => first | omega | (simp; done) | (simp; omega))) | (with_reducible refine Ext.trans ?_ (by assumption)))), by (repeat (first | (with_reducible assumption) | ((with_reducible apply Box.new); (first | (with_reducible rfl) | (simp; done) | (simp; omega))) | (with_reducible apply Box.alloc) | (with_reducible apply Box.drew) | (with_reducible apply Box.drewN) | (with_reducible apply Box.set) | ((with_reducible apply Box.set_ne); (case hne => first | omega | (simp; done) | (simp; omega))))), allTo_zero⟩
    case round =>
      obtain ⟨k, hk, hg, rfl, hE, hB, hA⟩ := hrel
      have HG := Lib.hid hg; clear hg
      obtain ⟨cb, fb, lb⟩ := hB.rules
      by_cases hlt : k < t.fPeers.length
      · obtain ⟨x, hxk⟩ : ∃ x, t.fPeers[k]? = some x := ⟨_, List.getElem?_eq_getElem hlt⟩
        have e1 := (RAt.elem (enc := encPeer) (sz := 4) (fun _ => rfl) hx hxk).ext hE
        have HX := Lib.hid hxk; clear hxk
        have q0 : wr.cell? ⟨b1, off + k * 4, none⟩ = some (.int .i64 x.fId) := e1.int (j := 0) rfl
        have q1 : wr.cell? ⟨b1, off + k * 4 + 1, none⟩ = some (.bool x.fPinned) := e1.bool (j := 1) rfl
        have q2 : wr.cell? ⟨b1, off + k * 4 + 2, none⟩ = some (.int .i64 x.fUntil) := e1.int (j := 2) rfl
        have q3 : wr.cell? ⟨b1, off + k * 4 + 3, none⟩ = some (.int .i64 x.fBans) := e1.int (j := 3) rfl
        clear e1
        have i0 : (0 : Int) ≤ (k : Int) := by omega
        have i1 : (k : Int) < (t.fPeers.length : Int) := by omega
        go_wp2_with (first | (go_at_call 95; refine (within_any _ _ _ _).mono ?_; rintro e w' ⟨rfl, rfl⟩) | (go_at_call 85; refine (tAt_any t _ _ _ _ (h.ext (by (repeat (first | (with_reducible exact Ext.refl _) | (with_reducible assumption) | (with_reducible refine Ext.alloc ?_ _) | (with_reducible refine Ext.drew ?_) | (with_reducible refine Ext.drewN ?_ _) | ((with_reducible apply Ext.setCell); (case hp => first | omega | (simp; done) | (simp; omega))) | (with_reducible refine Ext.trans ?_ (by assumption))))))).mono ?_; rintro e w2 ⟨rfl, hb⟩; (obtain ⟨B2, c2, f2, l2⟩ := Box.after (k := w.heap.size) hb (by (repeat (first | (with_reducible assumption) | ((with_reducible apply Box.new); (first | (with_reducible rfl) | (simp; done) | (simp; omega))) | (with_reducible apply Box.alloc) | (with_reducible apply Box.drew) | (with_reducible apply Box.drewN) | (with_reducible apply Box.set) | ((with_reducible apply Box.set_ne); (case hne => first | omega | (simp; done) | (simp; omega)))))))))
        all_goals first
          | (go_ret; exact ⟨ret_bool (by unfold tableOk; rw [pOk_bad HX.out (by simp_all) hlt]; rfl), by (repeat (first | (with_reducible exact Ext.refl _) | (with_reducible assumption) | (with_reducible refine Ext.alloc ?_ _) | (with_reducible refine Ext.drew ?_) | (with_reducible refine Ext.drewN ?_ _) | ((with_reducible apply Ext.setCell); (case hp => first | omega | (simp; done) | (simp; omega))) | (with_reducible refine Ext.trans ?_ (by assumption))))⟩)
          | (go_roundg (t.fPeers.length - (k + 1))
             case measure => rw [HG.out]; omega
             case rel => exact ⟨k + 1, by omega, rfl, by go_num, by (repeat (first | (with_reducible exact Ext.refl _) | (with_reducible assumption) | (with_reducible refine Ext.alloc ?_ _) | (with_reducible refine Ext.drew ?_) | (with_reducible refine Ext.drewN ?_ _) | ((with_reducible apply Ext.setCell); (case hp => first | omega | (simp; done) | (simp; omega))) | (with_reducible refine Ext.trans ?_ (by assumption)))), by (repeat (first | (with_reducible assumption) | ((with_reducible apply Box.new); (first | (with_reducible rfl) | (simp; done) | (simp; omega))) | (with_reducible apply Box.alloc) | (with_reducible apply Box.drew) | (with_reducible apply Box.drewN) | (with_reducible apply Box.set) | ((with_reducible apply Box.set_ne); (case hne => first | omega | (simp; done) | (simp; omega))))), allTo_succ hA.out (pOk_good HX.out (by simp_all))⟩)
      · obtain rfl : k = t.fPeers.length := by omega
        have HA := Lib.hid (allTo_end hA.out)
        go_wp2_with (go_at_call 90; refine (isTime_any _ _).mono ?_; rintro e w' ⟨rfl, rfl⟩)
        all_goals
          go_ret
          exact ⟨ret_bool (by unfold tableOk; rw [HA.out]; simp_all <;> (intros; omega)), by (repeat (first | (with_reducible exact Ext.refl _) | (with_reducible assumption) | (with_reducible refine Ext.alloc ?_ _) | (with_reducible refine Ext.drew ?_) | (with_reducible refine Ext.drewN ?_ _) | ((with_reducible apply Ext.setCell); (case hp => first | omega | (simp; done) | (simp; omega))) | (with_reducible refine Ext.trans ?_ (by assumption))))⟩
end Go.Proofs.Ytbenfbmoagfboaa

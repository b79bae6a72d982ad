/- PeerLie: the other walk. -/
import Derived.Test.YtbenfbmoagfboaaPeerLie
namespace Go.Proofs.Ytbenfbmoagfboaa
open Go.RowKit

theorem ban_step {j : Nat} {v : Int} (h : v = 10 * 2 ^ j) (h2 : v < 320) : 2 * v = 10 * 2 ^ (j + 1) ∧ 2 * v ≤ 320 := by
  have h3 : j < 5 := by
    apply Classical.byContradiction
    intro hc
    have : (2 : Int) ^ 5 ≤ 2 ^ j := pow_mono (by omega)
    omega
  refine ⟨by rw [h, Int.pow_succ]; omega, ?_⟩
  have : (2 : Int) ^ j ≤ 2 ^ 4 := pow_mono (by omega)
  omega
theorem ban_end {j bn : Nat} {v : Int} (hj : j ≤ bn) (h : v = 10 * 2 ^ j) (h1 : v ≤ 320) (h2 : ¬ ((j : Int) < (bn : Int) ∧ v < 320)) : banOf (bn : Int) = v := by
  unfold banOf
  rw [Int.toNat_natCast]
  by_cases e : j = bn
  · subst e
    rw [← h]
    omega
  · have h3 : v = 320 := by omega
    have : (2 : Int) ^ j ≤ 2 ^ bn := pow_mono hj
    omega

set_option maxRecDepth 100000 in
set_option maxHeartbeats 4000000 in
theorem sPeerLie_in (x0 : GTable) (x1 x2 : Int) (o1 : Option Addr) (c1 : Nat) (w : World) (h0 : Rds w (encTable x0) [.slice o1 x0.fPeers.length c1, .int .i64 x0.fTurn]) (hn : x0.fPeers.length ≤ 1048576) (hok : tableOk x0 = true) (p : GPeer) (k : Nat) (hp' : x0.fPeers[k]? = some p) (hk : pAt x0.fPeers x1 = k) (hnow : inB x2 0 1000000 = true) :
    Calls Try.prog 40 #[.agg #[.slice o1 x0.fPeers.length c1, .int .i64 x0.fTurn], .int .i64 x1, .int .i64 x2] w fun e w' => ∃ (p1 : Option Addr) (q1 : Nat), e = .returned (.tuple #[.agg #[.slice p1 (x0.fPeers.set k (lied p x2)).length q1, .int .i64 x0.fTurn], .bool true]) ∧ Obj w' w.heap.size w'.heap.size (encTable ⟨x0.fPeers.set k (lied p x2), x0.fTurn⟩) [.slice p1 (x0.fPeers.set k (lied p x2)).length q1, .int .i64 x0.fTurn] ∧ Ext w w' := by
  have hkl : k < x0.fPeers.length := (List.getElem?_eq_some_iff.1 hp').1
  have HP := Lib.hid hp'; have HK := Lib.hid hk
  have i0 : (0 : Int) ≤ (k : Int) := by omega
  have i1 : (k : Int) < (x0.fPeers.length : Int) := by omega
  obtain ⟨⟨u0, u1⟩, b0, b1⟩ := ok_peer hok hp'
  obtain ⟨n0, n1⟩ := inB_iff.1 hnow
  obtain ⟨bn, hbn⟩ := Int.eq_ofNat_of_zero_le b0
  have HBN := Lib.hid hbn
  have bn1 : (bn : Int) ≤ 20 := by omega
  have HBC := Lib.hid (show p.fBans = (bn : Int) from hbn)
  clear hp' hk hbn
  go_enter Try.func40, Try.ntmps40
  go_wp2_with fail
  (refine (sTableOk_any x0 _ _ _ (h0.ext (by (repeat (first | (with_reducible exact Ext.refl _) | (with_reducible assumption) | (with_reducible refine Ext.alloc ?_ _) | (with_reducible refine Ext.drew ?_) | (with_reducible refine Ext.drewN ?_ _) | ((with_reducible apply Ext.setCell); (case hp => first | omega | (simp; done) | (simp; omega))) | (with_reducible refine Ext.trans ?_ (by assumption))))))).mono ?_); rintro e w1 ⟨rfl, hb⟩; (obtain ⟨B0, c0, f0, l0⟩ := Box.after (k := w.heap.size) hb (by (repeat (first | (with_reducible assumption) | ((with_reducible apply Box.new); (first | (with_reducible rfl) | (simp; done) | (simp; omega))) | (with_reducible apply Box.alloc) | (with_reducible apply Box.drew) | (with_reducible apply Box.drewN) | (with_reducible apply Box.set) | ((with_reducible apply Box.set_ne); (case hne => first | omega | (simp; done) | (simp; omega))))))); (obtain ⟨B1, c1, f1, l1⟩ := Box.after (k := w.heap.size + 1) hb (by (repeat (first | (with_reducible assumption) | ((with_reducible apply Box.new); (first | (with_reducible rfl) | (simp; done) | (simp; omega))) | (with_reducible apply Box.alloc) | (with_reducible apply Box.drew) | (with_reducible apply Box.drewN) | (with_reducible apply Box.set) | ((with_reducible apply Box.set_ne); (case hne => first | omega | (simp; done) | (simp; omega)))))))
  have E1 : Ext w w1 := by (repeat (first | (with_reducible exact Ext.refl _) | (with_reducible assumption) | (with_reducible refine Ext.alloc ?_ _) | (with_reducible refine Ext.drew ?_) | (with_reducible refine Ext.drewN ?_ _) | ((with_reducible apply Ext.setCell); (case hp => first | omega | (simp; done) | (simp; omega))) | (with_reducible refine Ext.trans ?_ (by assumption))))
  clear hb
  go_wp2_with fail
  (refine (l19Copy_any x0 _ _ _ (h0.ext (by (repeat (first | (with_reducible exact Ext.refl _) | (with_reducible assumption) | (with_reducible refine Ext.alloc ?_ _) | (with_reducible refine Ext.drew ?_) | (with_reducible refine Ext.drewN ?_ _) | ((with_reducible apply Ext.setCell); (case hp => first | omega | (simp; done) | (simp; omega))) | (with_reducible refine Ext.trans ?_ (by assumption)))))) hn).mono ?_); rintro e w2 ⟨p1, q1, rfl, O, hb⟩; (obtain ⟨B0, c0, f0, l0⟩ := Box.after (k := w.heap.size) hb (by (repeat (first | (with_reducible assumption) | ((with_reducible apply Box.new); (first | (with_reducible rfl) | (simp; done) | (simp; omega))) | (with_reducible apply Box.alloc) | (with_reducible apply Box.drew) | (with_reducible apply Box.drewN) | (with_reducible apply Box.set) | ((with_reducible apply Box.set_ne); (case hne => first | omega | (simp; done) | (simp; omega))))))); (obtain ⟨B1, c1, f1, l1⟩ := Box.after (k := w.heap.size + 1) hb (by (repeat (first | (with_reducible assumption) | ((with_reducible apply Box.new); (first | (with_reducible rfl) | (simp; done) | (simp; omega))) | (with_reducible apply Box.alloc) | (with_reducible apply Box.drew) | (with_reducible apply Box.drewN) | (with_reducible apply Box.set) | ((with_reducible apply Box.set_ne); (case hne => first | omega | (simp; done) | (simp; omega)))))))
  have E2 : Ext w w2 := by (repeat (first | (with_reducible exact Ext.refl _) | (with_reducible assumption) | (with_reducible refine Ext.alloc ?_ _) | (with_reducible refine Ext.drew ?_) | (with_reducible refine Ext.drewN ?_ _) | ((with_reducible apply Ext.setCell); (case hp => first | omega | (simp; done) | (simp; omega))) | (with_reducible refine Ext.trans ?_ (by assumption))))
  have s2 := hb.size; (try simp at s2)
  have s1 := E1.size
  clear hb E1
  go_wp2_with fail
  (refine (l19At_any x0 _ _ _ _ (h0.ext (by (repeat (first | (with_reducible exact Ext.refl _) | (with_reducible assumption) | (with_reducible refine Ext.alloc ?_ _) | (with_reducible refine Ext.drew ?_) | (with_reducible refine Ext.drewN ?_ _) | ((with_reducible apply Ext.setCell); (case hp => first | omega | (simp; done) | (simp; omega))) | (with_reducible refine Ext.trans ?_ (by assumption))))))).mono ?_); rw [HK.out]; rintro e w3 ⟨rfl, hb⟩; (obtain ⟨B0, c0, f0, l0⟩ := Box.after (k := w.heap.size) hb (by (repeat (first | (with_reducible assumption) | ((with_reducible apply Box.new); (first | (with_reducible rfl) | (simp; done) | (simp; omega))) | (with_reducible apply Box.alloc) | (with_reducible apply Box.drew) | (with_reducible apply Box.drewN) | (with_reducible apply Box.set) | ((with_reducible apply Box.set_ne); (case hne => first | omega | (simp; done) | (simp; omega))))))); (obtain ⟨B1, c1, f1, l1⟩ := Box.after (k := w.heap.size + 1) hb (by (repeat (first | (with_reducible assumption) | ((with_reducible apply Box.new); (first | (with_reducible rfl) | (simp; done) | (simp; omega))) | (with_reducible apply Box.alloc) | (with_reducible apply Box.drew) | (with_reducible apply Box.drewN) | (with_reducible apply Box.set) | ((with_reducible apply Box.set_ne); (case hne => first | omega | (simp; done) | (simp; omega))))))); (obtain ⟨B2, c2, f2, l2⟩ := Box.after (k := w2.heap.size) hb (by (repeat (first | (with_reducible assumption) | ((with_reducible apply Box.new); (first | (with_reducible rfl) | (simp; done) | (simp; omega))) | (with_reducible apply Box.alloc) | (with_reducible apply Box.drew) | (with_reducible apply Box.drewN) | (with_reducible apply Box.set) | ((with_reducible apply Box.set_ne); (case hne => first | omega | (simp; done) | (simp; omega)))))))
  have E3 : Ext w w3 := by (repeat (first | (with_reducible exact Ext.refl _) | (with_reducible assumption) | (with_reducible refine Ext.alloc ?_ _) | (with_reducible refine Ext.drew ?_) | (with_reducible refine Ext.drewN ?_ _) | ((with_reducible apply Ext.setCell); (case hp => first | omega | (simp; done) | (simp; omega))) | (with_reducible refine Ext.trans ?_ (by assumption))))
  have O3 : Obj w3 w1.heap.size w2.heap.size (encTable x0) [.slice p1 x0.fPeers.length q1, .int .i64 x0.fTurn] := Obj.ext (by (repeat (first | (with_reducible assumption) | (with_reducible apply Obj.alloc) | (with_reducible apply Obj.drew) | (with_reducible apply Obj.drewN) | ((with_reducible apply Obj.set); (case hk => first | omega | (simp; done) | (simp; omega) | (left; simp; omega) | (right; simp; omega))) | (with_reducible refine Obj.ext ?_ (by assumption))))) hb
  have s3 := hb.size; (try simp at s3)
  obtain ⟨v1, v2, e1, O4, -⟩ := Obj.split (ds := [slD 103 4 encPeer x0.fPeers]) (ds' := [.int x0.fTurn]) O3
  obtain ⟨u, rfl⟩ : ∃ u, v1 = [u] := by have := O4.read.len; match v1, this with | [u], _ => exact ⟨u, rfl⟩
  obtain ⟨g, c', rfl, g1, g2, g3, g4⟩ := Obj.nonnil O4 (by omega)
  simp at e1
  obtain ⟨⟨rfl, rfl⟩, -⟩ := e1
  have g6 := (Obj.at (enc := encPeer) (fun _ => rfl) O4 HP.out).int (j := 2) (n := p.fUntil) rfl
  have g5 := (Obj.at (enc := encPeer) (fun _ => rfl) O4 HP.out).int (j := 3) (n := p.fBans) rfl
  rw [HBC.out] at g5
  have HO4 := Lib.hid O4
  clear hb E2 O O3 O4
  have p0 : (10 : Int) * 2 ^ 0 = 10 := rfl
  have P0 := Lib.hid p0
  clear p0
  go_wp2_with (go_at_call 89; refine (l10Time_any _ _).mono ?_; rintro e w' ⟨rfl, rfl⟩)
  go_loopg [10, 11] 21 (fun gk nn ii wr => ∃ (j : Nat) (v : Int), j ≤ bn ∧ gk = 21 - j ∧ ii = .int .i64 j ∧ nn = .int .i64 v ∧ 10 ≤ v ∧ v ≤ 320 ∧ Hid (v = 10 * 2 ^ j) ∧ w3 = wr)
  case atStart => exact ⟨0, 10, by omega, by omega, rfl, rfl, by omega, by omega, P0.out.symm, rfl⟩
  case round =>
    obtain ⟨j, v, hj, hg, rfl, rfl, v0, v1, HV, rfl⟩ := hrel
    have HG := Lib.hid hg; clear hg
    by_cases hrun : (j : Int) < (bn : Int) ∧ v < 320
    · obtain ⟨r1, r2⟩ := hrun
      have HS := Lib.hid (ban_step HV.out r2)
      go_wp2
      go_roundg (21 - (j + 1))
      case measure => rw [HG.out]; omega
      case rel => exact ⟨j + 1, 2 * v, by omega, rfl, by go_num, rfl, by omega, HS.out.2, HS.out.1, rfl⟩
    · have hbv : banOf p.fBans = v := by rw [HBC.out]; exact ban_end (by omega) HV.out v1 hrun
      have HBV := Lib.hid hbv
      clear hbv
      have M1 := Obj.modify (enc := encPeer) (x' := ⟨p.fId, p.fPinned, x2 + v, p.fBans⟩) (j := 2) (d := .int (x2 + v)) (d0 := .int p.fUntil) (fun _ => rfl) HO4.out HP.out rfl rfl rfl
      by_cases h2 : (bn : Int) < 20
      · have M2 := Obj.modify (enc := encPeer) (xs := x0.fPeers.set k ⟨p.fId, p.fPinned, x2 + v, p.fBans⟩) (x := ⟨p.fId, p.fPinned, x2 + v, p.fBans⟩) (x' := ⟨p.fId, p.fPinned, x2 + v, (bn : Int) + 1⟩) (k := k) (j := 3) (d := .int ((bn : Int) + 1)) (d0 := .int p.fBans) (fun _ => rfl) (by rw [List.length_set]; exact M1) (by rw [List.getElem?_set_self hkl]) rfl rfl rfl
        rw [List.set_set, List.length_set] at M2
        have hl : lied p x2 = ⟨p.fId, p.fPinned, x2 + v, (bn : Int) + 1⟩ := by unfold lied; rw [HBV.out, HBC.out]; simp; omega
        have HM := Lib.hid M2
        have HL := Lib.hid hl
        clear M1 M2 hl
        rcases Classical.em ((j : Int) < (bn : Int)) with hx | hx
        all_goals
          (try have hx2 : 320 ≤ v := by omega)
          go_wp2
          go_region
          all_goals
            go_wp2
            exact bodyPost_ret (v := .tuple #[.agg #[.slice (some ⟨g, 0, none⟩) x0.fPeers.length q1, .int .i64 x0.fTurn], .bool true]) (by simp [results, Try.results40, go_sem, c1]) rfl ⟨some ⟨g, 0, none⟩, q1, (by first | rfl | (rw [List.length_set])), Obj.mono (lo := w.heap.size) (hi := w2.heap.size) (objT (lo := w1.heap.size) (by have A : Obj ((w3.setCell ⟨g, k * 4 + 2, none⟩ (.int .i64 (x2 + v))).setCell ⟨g, k * 4 + 3, none⟩ (.int .i64 ((bn : Int) + 1))) w1.heap.size w2.heap.size [slD 103 4 encPeer (x0.fPeers.set k ⟨p.fId, p.fPinned, x2 + v, (bn : Int) + 1⟩)] [.slice (some ⟨g, 0, none⟩) x0.fPeers.length q1] := HM.out; rw [← HL.out] at A; first | (rw [List.length_set]; (repeat (first | (with_reducible assumption) | (with_reducible apply Obj.alloc) | (with_reducible apply Obj.drew) | (with_reducible apply Obj.drewN) | ((with_reducible apply Obj.set); (case hk => first | omega | (simp; done) | (simp; omega) | (left; simp; omega) | (right; simp; omega))) | (with_reducible refine Obj.ext ?_ (by assumption))))) | (repeat (first | (with_reducible assumption) | (with_reducible apply Obj.alloc) | (with_reducible apply Obj.drew) | (with_reducible apply Obj.drewN) | ((with_reducible apply Obj.set); (case hk => first | omega | (simp; done) | (simp; omega) | (left; simp; omega) | (right; simp; omega))) | (with_reducible refine Obj.ext ?_ (by assumption))))) (by omega)) (by (first | omega | (simp; done) | (simp; omega))) (by (first | omega | (simp; done) | (simp; omega))), by (repeat (first | (with_reducible exact Ext.refl _) | (with_reducible assumption) | (with_reducible refine Ext.alloc ?_ _) | (with_reducible refine Ext.drew ?_) | (with_reducible refine Ext.drewN ?_ _) | ((with_reducible apply Ext.setCell); (case hp => first | omega | (simp; done) | (simp; omega))) | (with_reducible refine Ext.trans ?_ (by assumption))))⟩
      · have hl : lied p x2 = ⟨p.fId, p.fPinned, x2 + v, p.fBans⟩ := by unfold lied; rw [HBV.out, HBC.out]; simp; omega
        have HM := Lib.hid M1
        have HL := Lib.hid hl
        clear M1 hl
        rcases Classical.em ((j : Int) < (bn : Int)) with hx | hx
        all_goals
          (try have hx2 : 320 ≤ v := by omega)
          go_wp2
          exact bodyPost_ret (v := .tuple #[.agg #[.slice (some ⟨g, 0, none⟩) x0.fPeers.length q1, .int .i64 x0.fTurn], .bool true]) (by simp [results, Try.results40, go_sem, c1]) rfl ⟨some ⟨g, 0, none⟩, q1, (by first | rfl | (rw [List.length_set])), Obj.mono (lo := w.heap.size) (hi := w2.heap.size) (objT (lo := w1.heap.size) (by have A : Obj (w3.setCell ⟨g, k * 4 + 2, none⟩ (.int .i64 (x2 + v))) w1.heap.size w2.heap.size [slD 103 4 encPeer (x0.fPeers.set k ⟨p.fId, p.fPinned, x2 + v, p.fBans⟩)] [.slice (some ⟨g, 0, none⟩) x0.fPeers.length q1] := HM.out; rw [← HL.out] at A; first | (rw [List.length_set]; (repeat (first | (with_reducible assumption) | (with_reducible apply Obj.alloc) | (with_reducible apply Obj.drew) | (with_reducible apply Obj.drewN) | ((with_reducible apply Obj.set); (case hk => first | omega | (simp; done) | (simp; omega) | (left; simp; omega) | (right; simp; omega))) | (with_reducible refine Obj.ext ?_ (by assumption))))) | (repeat (first | (with_reducible assumption) | (with_reducible apply Obj.alloc) | (with_reducible apply Obj.drew) | (with_reducible apply Obj.drewN) | ((with_reducible apply Obj.set); (case hk => first | omega | (simp; done) | (simp; omega) | (left; simp; omega) | (right; simp; omega))) | (with_reducible refine Obj.ext ?_ (by assumption))))) (by omega)) (by (first | omega | (simp; done) | (simp; omega))) (by (first | omega | (simp; done) | (simp; omega))), by (repeat (first | (with_reducible exact Ext.refl _) | (with_reducible assumption) | (with_reducible refine Ext.alloc ?_ _) | (with_reducible refine Ext.drew ?_) | (with_reducible refine Ext.drewN ?_ _) | ((with_reducible apply Ext.setCell); (case hp => first | omega | (simp; done) | (simp; omega))) | (with_reducible refine Ext.trans ?_ (by assumption))))⟩

set_option maxRecDepth 100000 in
set_option maxHeartbeats 4000000 in
theorem iPeerLie_any (x0 : GTable) (x1 x2 : Int) (o1 : Option Addr) (c1 : Nat) (w : World) (h0 : Rds w (encTable x0) [.slice o1 x0.fPeers.length c1, .int .i64 x0.fTurn]) (z0 : szL (encTable x0) ≤ 1048576) (_k0 : okL (encTable x0)) (_k1 : -9223372036854775808 ≤ x1 ∧ x1 ≤ 9223372036854775807) (_k2 : -9223372036854775808 ≤ x2 ∧ x2 ≤ 9223372036854775807) :
    Calls Try.prog 41 #[.agg #[.slice o1 x0.fPeers.length c1, .int .i64 x0.fTurn], .int .i64 x1, .int .i64 x2] w fun e w' => ∃ (p1 : Option Addr) (q1 : Nat), e = .returned (.tuple #[.agg #[.slice p1 (mPeerLie x0 x1 x2).1.fPeers.length q1, .int .i64 (mPeerLie x0 x1 x2).1.fTurn], .bool (mPeerLie x0 x1 x2).2]) ∧ Obj w' w.heap.size w'.heap.size (encTable ((mPeerLie x0 x1 x2).1)) [.slice p1 ((mPeerLie x0 x1 x2).1).fPeers.length q1, .int .i64 ((mPeerLie x0 x1 x2).1).fTurn] ∧ Ext w w' := by
  have hn := tz z0
  clear z0 _k0 _k1 _k2
  by_cases hok : tableOk x0 = true
  · by_cases hat : pAt x0.fPeers x1 < 0 ∨ inB x2 0 1000000 = false
    · have E := Lib.hid (lie_out hok hat)
      go_enter Try.func41, Try.ntmps41
      go_wp2_with fail
      (refine (tableOk_any x0 _ _ _ (h0.ext (by (repeat (first | (with_reducible exact Ext.refl _) | (with_reducible assumption) | (with_reducible refine Ext.alloc ?_ _) | (with_reducible refine Ext.drew ?_) | (with_reducible refine Ext.drewN ?_ _) | ((with_reducible apply Ext.setCell); (case hp => first | omega | (simp; done) | (simp; omega))) | (with_reducible refine Ext.trans ?_ (by assumption))))))).mono ?_); rintro e w1 ⟨rfl, hb⟩; (obtain ⟨B0, c0, f0, l0⟩ := Box.after (k := w.heap.size) hb (by (repeat (first | (with_reducible assumption) | ((with_reducible apply Box.new); (first | (with_reducible rfl) | (simp; done) | (simp; omega))) | (with_reducible apply Box.alloc) | (with_reducible apply Box.drew) | (with_reducible apply Box.drewN) | (with_reducible apply Box.set) | ((with_reducible apply Box.set_ne); (case hne => first | omega | (simp; done) | (simp; omega))))))); (obtain ⟨B1, c1, f1, l1⟩ := Box.after (k := w.heap.size + 1) hb (by (repeat (first | (with_reducible assumption) | ((with_reducible apply Box.new); (first | (with_reducible rfl) | (simp; done) | (simp; omega))) | (with_reducible apply Box.alloc) | (with_reducible apply Box.drew) | (with_reducible apply Box.drewN) | (with_reducible apply Box.set) | ((with_reducible apply Box.set_ne); (case hne => first | omega | (simp; done) | (simp; omega)))))))
      have E1 : Ext w w1 := by (repeat (first | (with_reducible exact Ext.refl _) | (with_reducible assumption) | (with_reducible refine Ext.alloc ?_ _) | (with_reducible refine Ext.drew ?_) | (with_reducible refine Ext.drewN ?_ _) | ((with_reducible apply Ext.setCell); (case hp => first | omega | (simp; done) | (simp; omega))) | (with_reducible refine Ext.trans ?_ (by assumption))))
      clear hb
      go_wp2_with fail
      (refine (copyTable_any x0 _ _ _ (h0.ext (by (repeat (first | (with_reducible exact Ext.refl _) | (with_reducible assumption) | (with_reducible refine Ext.alloc ?_ _) | (with_reducible refine Ext.drew ?_) | (with_reducible refine Ext.drewN ?_ _) | ((with_reducible apply Ext.setCell); (case hp => first | omega | (simp; done) | (simp; omega))) | (with_reducible refine Ext.trans ?_ (by assumption)))))) hn).mono ?_); rintro e w2 ⟨p1, q1, rfl, O, hb⟩; (obtain ⟨B0, c0, f0, l0⟩ := Box.after (k := w.heap.size) hb (by (repeat (first | (with_reducible assumption) | ((with_reducible apply Box.new); (first | (with_reducible rfl) | (simp; done) | (simp; omega))) | (with_reducible apply Box.alloc) | (with_reducible apply Box.drew) | (with_reducible apply Box.drewN) | (with_reducible apply Box.set) | ((with_reducible apply Box.set_ne); (case hne => first | omega | (simp; done) | (simp; omega))))))); (obtain ⟨B1, c1, f1, l1⟩ := Box.after (k := w.heap.size + 1) hb (by (repeat (first | (with_reducible assumption) | ((with_reducible apply Box.new); (first | (with_reducible rfl) | (simp; done) | (simp; omega))) | (with_reducible apply Box.alloc) | (with_reducible apply Box.drew) | (with_reducible apply Box.drewN) | (with_reducible apply Box.set) | ((with_reducible apply Box.set_ne); (case hne => first | omega | (simp; done) | (simp; omega)))))))
      have E2 : Ext w w2 := by (repeat (first | (with_reducible exact Ext.refl _) | (with_reducible assumption) | (with_reducible refine Ext.alloc ?_ _) | (with_reducible refine Ext.drew ?_) | (with_reducible refine Ext.drewN ?_ _) | ((with_reducible apply Ext.setCell); (case hp => first | omega | (simp; done) | (simp; omega))) | (with_reducible refine Ext.trans ?_ (by assumption))))
      have s2 := hb.size; (try simp at s2)
      clear hb E1
      go_wp2_with fail
      (refine (tAt_any x0 _ _ _ _ (h0.ext (by (repeat (first | (with_reducible exact Ext.refl _) | (with_reducible assumption) | (with_reducible refine Ext.alloc ?_ _) | (with_reducible refine Ext.drew ?_) | (with_reducible refine Ext.drewN ?_ _) | ((with_reducible apply Ext.setCell); (case hp => first | omega | (simp; done) | (simp; omega))) | (with_reducible refine Ext.trans ?_ (by assumption))))))).mono ?_); rintro e w3 ⟨rfl, hb⟩; (obtain ⟨B0, c0, f0, l0⟩ := Box.after (k := w.heap.size) hb (by (repeat (first | (with_reducible assumption) | ((with_reducible apply Box.new); (first | (with_reducible rfl) | (simp; done) | (simp; omega))) | (with_reducible apply Box.alloc) | (with_reducible apply Box.drew) | (with_reducible apply Box.drewN) | (with_reducible apply Box.set) | ((with_reducible apply Box.set_ne); (case hne => first | omega | (simp; done) | (simp; omega))))))); (obtain ⟨B1, c1, f1, l1⟩ := Box.after (k := w.heap.size + 1) hb (by (repeat (first | (with_reducible assumption) | ((with_reducible apply Box.new); (first | (with_reducible rfl) | (simp; done) | (simp; omega))) | (with_reducible apply Box.alloc) | (with_reducible apply Box.drew) | (with_reducible apply Box.drewN) | (with_reducible apply Box.set) | ((with_reducible apply Box.set_ne); (case hne => first | omega | (simp; done) | (simp; omega))))))); (obtain ⟨B2, c2, f2, l2⟩ := Box.after (k := w2.heap.size) hb (by (repeat (first | (with_reducible assumption) | ((with_reducible apply Box.new); (first | (with_reducible rfl) | (simp; done) | (simp; omega))) | (with_reducible apply Box.alloc) | (with_reducible apply Box.drew) | (with_reducible apply Box.drewN) | (with_reducible apply Box.set) | ((with_reducible apply Box.set_ne); (case hne => first | omega | (simp; done) | (simp; omega)))))))
      have E3 : Ext w w3 := by (repeat (first | (with_reducible exact Ext.refl _) | (with_reducible assumption) | (with_reducible refine Ext.alloc ?_ _) | (with_reducible refine Ext.drew ?_) | (with_reducible refine Ext.drewN ?_ _) | ((with_reducible apply Ext.setCell); (case hp => first | omega | (simp; done) | (simp; omega))) | (with_reducible refine Ext.trans ?_ (by assumption))))
      have O3 : Obj w3 w1.heap.size w2.heap.size (encTable x0) [.slice p1 x0.fPeers.length q1, .int .i64 x0.fTurn] := Obj.ext (by (repeat (first | (with_reducible assumption) | (with_reducible apply Obj.alloc) | (with_reducible apply Obj.drew) | (with_reducible apply Obj.drewN) | ((with_reducible apply Obj.set); (case hk => first | omega | (simp; done) | (simp; omega) | (left; simp; omega) | (right; simp; omega))) | (with_reducible refine Obj.ext ?_ (by assumption))))) hb
      have s3 := hb.size; (try simp at s3)
      have HO := Lib.hid O3
      have HAT := Lib.hid hat
      clear hb E2 O O3 hat
      go_wp2_with (go_at_call 90; refine (isTime_any _ _).mono ?_; rintro e w' ⟨rfl, rfl⟩)
      all_goals first
        | exact bodyPost_ret (v := .tuple #[.agg #[.slice p1 x0.fPeers.length q1, .int .i64 x0.fTurn], .bool false]) (by simp [results, Try.results41, go_sem, c1]) rfl ⟨p1, q1, by rw [E.out], by rw [E.out]; exact Obj.mono (lo := w1.heap.size) (hi := w2.heap.size) (show Obj _ _ _ (encTable x0) _ from by have A := HO.out; (repeat (first | (with_reducible assumption) | (with_reducible apply Obj.alloc) | (with_reducible apply Obj.drew) | (with_reducible apply Obj.drewN) | ((with_reducible apply Obj.set); (case hk => first | omega | (simp; done) | (simp; omega) | (left; simp; omega) | (right; simp; omega))) | (with_reducible refine Obj.ext ?_ (by assumption))))) (by (first | omega | (simp; done) | (simp; omega))) (by (first | omega | (simp; done) | (simp; omega))), by (repeat (first | (with_reducible exact Ext.refl _) | (with_reducible assumption) | (with_reducible refine Ext.alloc ?_ _) | (with_reducible refine Ext.drew ?_) | (with_reducible refine Ext.drewN ?_ _) | ((with_reducible apply Ext.setCell); (case hp => first | omega | (simp; done) | (simp; omega))) | (with_reducible refine Ext.trans ?_ (by assumption))))⟩
        | (exfalso; have := HAT.out; simp_all; try omega)
    · obtain ⟨p, hp, -, -⟩ := idx_get (p := fun p : GPeer => p.fId == x1) (xs := x0.fPeers) (by unfold pAt at hat; omega)
      obtain ⟨k, hk⟩ : ∃ k : Nat, (pAt x0.fPeers x1) = k := ⟨(pAt x0.fPeers x1).toNat, by omega⟩
      have hp' : x0.fPeers[k]? = some p := by rw [show k = (pAt x0.fPeers x1).toNat by omega]; exact hp
      have h3 : inB x2 0 1000000 = true := by simpa using fun h => hat (.inr h)
      rw [lie_in hok hk hp' h3]
      exact iPeerLie_in x0 x1 x2 o1 c1 w h0 hn hok p k hp' hk h3
  · have E := Lib.hid (lie_bad (id := x1) (now := x2) (by simpa using hok))
    have hok' : tableOk x0 = false := by simpa using hok
    clear hok
    go_enter Try.func41, Try.ntmps41
    go_wp2_with fail
    (refine (tableOk_any x0 _ _ _ (h0.ext (by (repeat (first | (with_reducible exact Ext.refl _) | (with_reducible assumption) | (with_reducible refine Ext.alloc ?_ _) | (with_reducible refine Ext.drew ?_) | (with_reducible refine Ext.drewN ?_ _) | ((with_reducible apply Ext.setCell); (case hp => first | omega | (simp; done) | (simp; omega))) | (with_reducible refine Ext.trans ?_ (by assumption))))))).mono ?_); rintro e w1 ⟨rfl, hb⟩; (obtain ⟨B0, c0, f0, l0⟩ := Box.after (k := w.heap.size) hb (by (repeat (first | (with_reducible assumption) | ((with_reducible apply Box.new); (first | (with_reducible rfl) | (simp; done) | (simp; omega))) | (with_reducible apply Box.alloc) | (with_reducible apply Box.drew) | (with_reducible apply Box.drewN) | (with_reducible apply Box.set) | ((with_reducible apply Box.set_ne); (case hne => first | omega | (simp; done) | (simp; omega))))))); (obtain ⟨B1, c1, f1, l1⟩ := Box.after (k := w.heap.size + 1) hb (by (repeat (first | (with_reducible assumption) | ((with_reducible apply Box.new); (first | (with_reducible rfl) | (simp; done) | (simp; omega))) | (with_reducible apply Box.alloc) | (with_reducible apply Box.drew) | (with_reducible apply Box.drewN) | (with_reducible apply Box.set) | ((with_reducible apply Box.set_ne); (case hne => first | omega | (simp; done) | (simp; omega)))))))
    go_wp2
    exact bodyPost_ret (v := .tuple #[.agg #[.slice none 0 0, .int .i64 0], .bool false]) (by simp [results, Try.results41, go_sem, c1]) rfl ⟨none, 0, by rw [E.out]; rfl, by rw [E.out]; exact objT (lo := w.heap.size) obj_nilS (Nat.le_refl _), by (repeat (first | (with_reducible exact Ext.refl _) | (with_reducible assumption) | (with_reducible refine Ext.alloc ?_ _) | (with_reducible refine Ext.drew ?_) | (with_reducible refine Ext.drewN ?_ _) | ((with_reducible apply Ext.setCell); (case hp => first | omega | (simp; done) | (simp; omega))) | (with_reducible refine Ext.trans ?_ (by assumption))))⟩
set_option maxRecDepth 100000 in
set_option maxHeartbeats 4000000 in
theorem sPeerLie_any (x0 : GTable) (x1 x2 : Int) (o1 : Option Addr) (c1 : Nat) (w : World) (h0 : Rds w (encTable x0) [.slice o1 x0.fPeers.length c1, .int .i64 x0.fTurn]) (z0 : szL (encTable x0) ≤ 1048576) (_k0 : okL (encTable x0)) (_k1 : -9223372036854775808 ≤ x1 ∧ x1 ≤ 9223372036854775807) (_k2 : -9223372036854775808 ≤ x2 ∧ x2 ≤ 9223372036854775807) :
    Calls Try.prog 40 #[.agg #[.slice o1 x0.fPeers.length c1, .int .i64 x0.fTurn], .int .i64 x1, .int .i64 x2] w fun e w' => ∃ (p1 : Option Addr) (q1 : Nat), e = .returned (.tuple #[.agg #[.slice p1 (mPeerLie x0 x1 x2).1.fPeers.length q1, .int .i64 (mPeerLie x0 x1 x2).1.fTurn], .bool (mPeerLie x0 x1 x2).2]) ∧ Obj w' w.heap.size w'.heap.size (encTable ((mPeerLie x0 x1 x2).1)) [.slice p1 ((mPeerLie x0 x1 x2).1).fPeers.length q1, .int .i64 ((mPeerLie x0 x1 x2).1).fTurn] ∧ Ext w w' := by
  have hn := tz z0
  clear z0 _k0 _k1 _k2
  by_cases hok : tableOk x0 = true
  · by_cases hat : pAt x0.fPeers x1 < 0 ∨ inB x2 0 1000000 = false
    · have E := Lib.hid (lie_out hok hat)
      go_enter Try.func40, Try.ntmps40
      go_wp2_with fail
      (refine (sTableOk_any x0 _ _ _ (h0.ext (by (repeat (first | (with_reducible exact Ext.refl _) | (with_reducible assumption) | (with_reducible refine Ext.alloc ?_ _) | (with_reducible refine Ext.drew ?_) | (with_reducible refine Ext.drewN ?_ _) | ((with_reducible apply Ext.setCell); (case hp => first | omega | (simp; done) | (simp; omega))) | (with_reducible refine Ext.trans ?_ (by assumption))))))).mono ?_); rintro e w1 ⟨rfl, hb⟩; (obtain ⟨B0, c0, f0, l0⟩ := Box.after (k := w.heap.size) hb (by (repeat (first | (with_reducible assumption) | ((with_reducible apply Box.new); (first | (with_reducible rfl) | (simp; done) | (simp; omega))) | (with_reducible apply Box.alloc) | (with_reducible apply Box.drew) | (with_reducible apply Box.drewN) | (with_reducible apply Box.set) | ((with_reducible apply Box.set_ne); (case hne => first | omega | (simp; done) | (simp; omega))))))); (obtain ⟨B1, c1, f1, l1⟩ := Box.after (k := w.heap.size + 1) hb (by (repeat (first | (with_reducible assumption) | ((with_reducible apply Box.new); (first | (with_reducible rfl) | (simp; done) | (simp; omega))) | (with_reducible apply Box.alloc) | (with_reducible apply Box.drew) | (with_reducible apply Box.drewN) | (with_reducible apply Box.set) | ((with_reducible apply Box.set_ne); (case hne => first | omega | (simp; done) | (simp; omega)))))))
      have E1 : Ext w w1 := by (repeat (first | (with_reducible exact Ext.refl _) | (with_reducible assumption) | (with_reducible refine Ext.alloc ?_ _) | (with_reducible refine Ext.drew ?_) | (with_reducible refine Ext.drewN ?_ _) | ((with_reducible apply Ext.setCell); (case hp => first | omega | (simp; done) | (simp; omega))) | (with_reducible refine Ext.trans ?_ (by assumption))))
      clear hb
      go_wp2_with fail
      (refine (l19Copy_any x0 _ _ _ (h0.ext (by (repeat (first | (with_reducible exact Ext.refl _) | (with_reducible assumption) | (with_reducible refine Ext.alloc ?_ _) | (with_reducible refine Ext.drew ?_) | (with_reducible refine Ext.drewN ?_ _) | ((with_reducible apply Ext.setCell); (case hp => first | omega | (simp; done) | (simp; omega))) | (with_reducible refine Ext.trans ?_ (by assumption)))))) hn).mono ?_); rintro e w2 ⟨p1, q1, rfl, O, hb⟩; (obtain ⟨B0, c0, f0, l0⟩ := Box.after (k := w.heap.size) hb (by (repeat (first | (with_reducible assumption) | ((with_reducible apply Box.new); (first | (with_reducible rfl) | (simp; done) | (simp; omega))) | (with_reducible apply Box.alloc) | (with_reducible apply Box.drew) | (with_reducible apply Box.drewN) | (with_reducible apply Box.set) | ((with_reducible apply Box.set_ne); (case hne => first | omega | (simp; done) | (simp; omega))))))); (obtain ⟨B1, c1, f1, l1⟩ := Box.after (k := w.heap.size + 1) hb (by (repeat (first | (with_reducible assumption) | ((with_reducible apply Box.new); (first | (with_reducible rfl) | (simp; done) | (simp; omega))) | (with_reducible apply Box.alloc) | (with_reducible apply Box.drew) | (with_reducible apply Box.drewN) | (with_reducible apply Box.set) | ((with_reducible apply Box.set_ne); (case hne => first | omega | (simp; done) | (simp; omega)))))))
      have E2 : Ext w w2 := by (repeat (first | (with_reducible exact Ext.refl _) | (with_reducible assumption) | (with_reducible refine Ext.alloc ?_ _) | (with_reducible refine Ext.drew ?_) | (with_reducible refine Ext.drewN ?_ _) | ((with_reducible apply Ext.setCell); (case hp => first | omega | (simp; done) | (simp; omega))) | (with_reducible refine Ext.trans ?_ (by assumption))))
      have s2 := hb.size; (try simp at s2)
      clear hb E1
      go_wp2_with fail
      (refine (l19At_any x0 _ _ _ _ (h0.ext (by (repeat (first | (with_reducible exact Ext.refl _) | (with_reducible assumption) | (with_reducible refine Ext.alloc ?_ _) | (with_reducible refine Ext.drew ?_) | (with_reducible refine Ext.drewN ?_ _) | ((with_reducible apply Ext.setCell); (case hp => first | omega | (simp; done) | (simp; omega))) | (with_reducible refine Ext.trans ?_ (by assumption))))))).mono ?_); rintro e w3 ⟨rfl, hb⟩; (obtain ⟨B0, c0, f0, l0⟩ := Box.after (k := w.heap.size) hb (by (repeat (first | (with_reducible assumption) | ((with_reducible apply Box.new); (first | (with_reducible rfl) | (simp; done) | (simp; omega))) | (with_reducible apply Box.alloc) | (with_reducible apply Box.drew) | (with_reducible apply Box.drewN) | (with_reducible apply Box.set) | ((with_reducible apply Box.set_ne); (case hne => first | omega | (simp; done) | (simp; omega))))))); (obtain ⟨B1, c1, f1, l1⟩ := Box.after (k := w.heap.size + 1) hb (by (repeat (first | (with_reducible assumption) | ((with_reducible apply Box.new); (first | (with_reducible rfl) | (simp; done) | (simp; omega))) | (with_reducible apply Box.alloc) | (with_reducible apply Box.drew) | (with_reducible apply Box.drewN) | (with_reducible apply Box.set) | ((with_reducible apply Box.set_ne); (case hne => first | omega | (simp; done) | (simp; omega))))))); (obtain ⟨B2, c2, f2, l2⟩ := Box.after (k := w2.heap.size) hb (by (repeat (first | (with_reducible assumption) | ((with_reducible apply Box.new); (first | (with_reducible rfl) | (simp; done) | (simp; omega))) | (with_reducible apply Box.alloc) | (with_reducible apply Box.drew) | (with_reducible apply Box.drewN) | (with_reducible apply Box.set) | ((with_reducible apply Box.set_ne); (case hne => first | omega | (simp; done) | (simp; omega)))))))
      have E3 : Ext w w3 := by (repeat (first | (with_reducible exact Ext.refl _) | (with_reducible assumption) | (with_reducible refine Ext.alloc ?_ _) | (with_reducible refine Ext.drew ?_) | (with_reducible refine Ext.drewN ?_ _) | ((with_reducible apply Ext.setCell); (case hp => first | omega | (simp; done) | (simp; omega))) | (with_reducible refine Ext.trans ?_ (by assumption))))
      have O3 : Obj w3 w1.heap.size w2.heap.size (encTable x0) [.slice p1 x0.fPeers.length q1, .int .i64 x0.fTurn] := Obj.ext (by (repeat (first | (with_reducible assumption) | (with_reducible apply Obj.alloc) | (with_reducible apply Obj.drew) | (with_reducible apply Obj.drewN) | ((with_reducible apply Obj.set); (case hk => first | omega | (simp; done) | (simp; omega) | (left; simp; omega) | (right; simp; omega))) | (with_reducible refine Obj.ext ?_ (by assumption))))) hb
      have s3 := hb.size; (try simp at s3)
      have HO := Lib.hid O3
      have HAT := Lib.hid hat
      clear hb E2 O O3 hat
      go_wp2_with (go_at_call 89; refine (l10Time_any _ _).mono ?_; rintro e w' ⟨rfl, rfl⟩)
      all_goals first
        | exact bodyPost_ret (v := .tuple #[.agg #[.slice p1 x0.fPeers.length q1, .int .i64 x0.fTurn], .bool false]) (by simp [results, Try.results40, go_sem, c1]) rfl ⟨p1, q1, by rw [E.out], by rw [E.out]; exact Obj.mono (lo := w1.heap.size) (hi := w2.heap.size) (show Obj _ _ _ (encTable x0) _ from by have A := HO.out; (repeat (first | (with_reducible assumption) | (with_reducible apply Obj.alloc) | (with_reducible apply Obj.drew) | (with_reducible apply Obj.drewN) | ((with_reducible apply Obj.set); (case hk => first | omega | (simp; done) | (simp; omega) | (left; simp; omega) | (right; simp; omega))) | (with_reducible refine Obj.ext ?_ (by assumption))))) (by (first | omega | (simp; done) | (simp; omega))) (by (first | omega | (simp; done) | (simp; omega))), by (repeat (first | (with_reducible exact Ext.refl _) | (with_reducible assumption) | (with_reducible refine Ext.alloc ?_ _) | (with_reducible refine Ext.drew ?_) | (with_reducible refine Ext.drewN ?_ _) | ((with_reducible apply Ext.setCell); (case hp => first | omega | (simp; done) | (simp; omega))) | (with_reducible refine Ext.trans ?_ (by assumption))))⟩
        | (exfalso; have := HAT.out; simp_all; try omega)
    · obtain ⟨p, hp, -, -⟩ := idx_get (p := fun p : GPeer => p.fId == x1) (xs := x0.fPeers) (by unfold pAt at hat; omega)
      obtain ⟨k, hk⟩ : ∃ k : Nat, (pAt x0.fPeers x1) = k := ⟨(pAt x0.fPeers x1).toNat, by omega⟩
      have hp' : x0.fPeers[k]? = some p := by rw [show k = (pAt x0.fPeers x1).toNat by omega]; exact hp
      have h3 : inB x2 0 1000000 = true := by simpa using fun h => hat (.inr h)
      rw [lie_in hok hk hp' h3]
      exact sPeerLie_in x0 x1 x2 o1 c1 w h0 hn hok p k hp' hk h3
  · have E := Lib.hid (lie_bad (id := x1) (now := x2) (by simpa using hok))
    have hok' : tableOk x0 = false := by simpa using hok
    clear hok
    go_enter Try.func40, Try.ntmps40
    go_wp2_with fail
    (refine (sTableOk_any x0 _ _ _ (h0.ext (by (repeat (first | (with_reducible exact Ext.refl _) | (with_reducible assumption) | (with_reducible refine Ext.alloc ?_ _) | (with_reducible refine Ext.drew ?_) | (with_reducible refine Ext.drewN ?_ _) | ((with_reducible apply Ext.setCell); (case hp => first | omega | (simp; done) | (simp; omega))) | (with_reducible refine Ext.trans ?_ (by assumption))))))).mono ?_); rintro e w1 ⟨rfl, hb⟩; (obtain ⟨B0, c0, f0, l0⟩ := Box.after (k := w.heap.size) hb (by (repeat (first | (with_reducible assumption) | ((with_reducible apply Box.new); (first | (with_reducible rfl) | (simp; done) | (simp; omega))) | (with_reducible apply Box.alloc) | (with_reducible apply Box.drew) | (with_reducible apply Box.drewN) | (with_reducible apply Box.set) | ((with_reducible apply Box.set_ne); (case hne => first | omega | (simp; done) | (simp; omega))))))); (obtain ⟨B1, c1, f1, l1⟩ := Box.after (k := w.heap.size + 1) hb (by (repeat (first | (with_reducible assumption) | ((with_reducible apply Box.new); (first | (with_reducible rfl) | (simp; done) | (simp; omega))) | (with_reducible apply Box.alloc) | (with_reducible apply Box.drew) | (with_reducible apply Box.drewN) | (with_reducible apply Box.set) | ((with_reducible apply Box.set_ne); (case hne => first | omega | (simp; done) | (simp; omega)))))))
    go_wp2
    exact bodyPost_ret (v := .tuple #[.agg #[.slice none 0 0, .int .i64 0], .bool false]) (by simp [results, Try.results40, go_sem, c1]) rfl ⟨none, 0, by rw [E.out]; rfl, by rw [E.out]; exact objT (lo := w.heap.size) obj_nilS (Nat.le_refl _), by (repeat (first | (with_reducible exact Ext.refl _) | (with_reducible assumption) | (with_reducible refine Ext.alloc ?_ _) | (with_reducible refine Ext.drew ?_) | (with_reducible refine Ext.drewN ?_ _) | ((with_reducible apply Ext.setCell); (case hp => first | omega | (simp; done) | (simp; omega))) | (with_reducible refine Ext.trans ?_ (by assumption))))⟩
theorem mPeerLie_cnt (x0 : GTable) (x1 x2 : Int) (h : szL (encTable x0) ≤ 1048576) : cntT (encTable (mPeerLie x0 x1 x2).1) ≤ 1000000000000 := by
  have h1 := tcnt (mPeerLie x0 x1 x2).1
  have h2 := tz h
  have h3 : (mPeerLie x0 x1 x2).1.fPeers.length ≤ x0.fPeers.length := by
    unfold mPeerLie
    split
    · split
      · split <;> simp
      · simp
    · simp
  omega
end Go.Proofs.Ytbenfbmoagfboaa

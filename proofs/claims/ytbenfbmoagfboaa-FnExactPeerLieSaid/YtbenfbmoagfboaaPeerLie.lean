/- PeerLie: both walks. -/
import Derived.Test.YtbenfbmoagfboaaPeerGood
namespace Go.Proofs.Ytbenfbmoagfboaa
open Go.RowKit

def banOf (b : Int) : Int := min 320 (10 * 2 ^ b.toNat)
def lied (p : GPeer) (now : Int) : GPeer := ⟨p.fId, p.fPinned, now + banOf p.fBans, min 20 (p.fBans + 1)⟩
def mPeerLie (t : GTable) (id now : Int) : GTable × Bool :=
  if tableOk t then
    match t.fPeers[(pAt t.fPeers id).toNat]? with
    | some p => if pAt t.fPeers id < 0 || !inB now 0 1000000 then (t, false) else (⟨t.fPeers.set (pAt t.fPeers id).toNat (lied p now), t.fTurn⟩, true)
    | none => (t, false)
  else (⟨[], 0⟩, false)
theorem lie_bad {t : GTable} {id now : Int} (h : tableOk t = false) : mPeerLie t id now = (⟨[], 0⟩, false) := by simp [mPeerLie, h]
theorem lie_out {t : GTable} {id now : Int} (h : tableOk t = true) (h2 : pAt t.fPeers id < 0 ∨ inB now 0 1000000 = false) : mPeerLie t id now = (t, false) := by
  unfold mPeerLie
  rw [if_pos h]
  split
  · rw [if_pos (by rcases h2 with h2 | h2 <;> simp [h2])]
  · rfl
theorem lie_in {t : GTable} {id now : Int} {k : Nat} {p : GPeer} (h : tableOk t = true) (h2 : pAt t.fPeers id = k) (hp : t.fPeers[k]? = some p) (h3 : inB now 0 1000000 = true) : mPeerLie t id now = (⟨t.fPeers.set k (lied p now), t.fTurn⟩, true) := by
  unfold mPeerLie
  have e : ((k : Int)).toNat = k := by omega
  have e2 : decide ((k : Int) < 0) = false := by simp
  rw [if_pos h, h2, e, hp]
  simp [h3]
theorem ok_peer {t : GTable} {k : Nat} {p : GPeer} (h : tableOk t = true) (hp : t.fPeers[k]? = some p) : (0 ≤ p.fUntil ∧ p.fUntil ≤ 1000320) ∧ 0 ≤ p.fBans ∧ p.fBans ≤ 20 := by
  simp only [tableOk, Bool.and_eq_true] at h
  have h1 := allN_get h.1.1 (List.getElem?_eq_some_iff.1 hp).1
  unfold pOk at h1
  rw [hp] at h1
  simp only [Bool.and_eq_true] at h1
  exact ⟨inB_iff.1 h1.1.1.2, inB_iff.1 h1.1.2⟩

theorem pow_mono {a b : Nat} (h : a ≤ b) : (2 : Int) ^ a ≤ 2 ^ b := by
  have e : ∀ n : Nat, (2 : Int) ^ n = ((2 ^ n : Nat) : Int) := fun n => by simp
  rw [e, e]
  exact Int.ofNat_le.2 (Nat.pow_le_pow_right (by omega) h)
theorem pow_bd {b : Int} (h1 : b ≤ 20) : 10 ≤ (10 : Int) * 2 ^ b.toNat ∧ (10 : Int) * 2 ^ b.toNat ≤ 10485760 := by
  have h2 : b.toNat ≤ 20 := by omega
  have h3 : (2 : Int) ^ b.toNat ≤ 2 ^ 20 := pow_mono h2
  have h4 : (2 : Int) ^ 0 ≤ 2 ^ b.toNat := pow_mono (by omega)
  omega

set_option maxRecDepth 100000 in
set_option maxHeartbeats 4000000 in
theorem iPeerLie_in (x0 : GTable) (x1 x2 : Int) (o1 : Option Addr) (c1 : Nat) (w : World) (h0 : Rds w (encTable x0) [.slice o1 x0.fPeers.length c1, .int .i64 x0.fTurn]) (hn : x0.fPeers.length ≤ 1048576) (hok : tableOk x0 = true) (p : GPeer) (k : Nat) (hp' : x0.fPeers[k]? = some p) (hk : pAt x0.fPeers x1 = k) (hnow : inB x2 0 1000000 = true) :
    Calls Try.prog 41 #[.agg #[.slice o1 x0.fPeers.length c1, .int .i64 x0.fTurn], .int .i64 x1, .int .i64 x2] w fun e w' => ∃ (p1 : Option Addr) (q1 : Nat), e = .returned (.tuple #[.agg #[.slice p1 (x0.fPeers.set k (lied p x2)).length q1, .int .i64 x0.fTurn], .bool true]) ∧ Obj w' w.heap.size w'.heap.size (encTable ⟨x0.fPeers.set k (lied p x2), x0.fTurn⟩) [.slice p1 (x0.fPeers.set k (lied p x2)).length q1, .int .i64 x0.fTurn] ∧ Ext w w' := by
  have hkl : k < x0.fPeers.length := (List.getElem?_eq_some_iff.1 hp').1
  have HP := Lib.hid hp'; have HK := Lib.hid hk
  have i0 : (0 : Int) ≤ (k : Int) := by omega
  have i1 : (k : Int) < (x0.fPeers.length : Int) := by omega
  obtain ⟨⟨u0, u1⟩, b0, b1⟩ := ok_peer hok hp'
  obtain ⟨n0, n1⟩ := inB_iff.1 hnow
  clear hp' hk
  obtain ⟨pw0, pw1⟩ := pow_bd b1
  obtain ⟨pw, hpw⟩ : ∃ pw, pw = (10 : Int) * 2 ^ p.fBans.toNat := ⟨_, rfl⟩
  have hbn : banOf p.fBans = min 320 pw := by rw [hpw]; rfl
  rw [← hpw] at pw0 pw1
  have hw1 : IntKind.i64.wrap ((10 : Int) * 2 ^ p.fBans.toNat) = pw := by rw [hpw]; exact IntWalk.i64_in _ (by omega)
  have hw2 : wrap64 ((10 : Int) * 2 ^ p.fBans.toNat) = pw := by rw [hpw]; exact IntWalk.wrap64_in _ ⟨by omega, by omega⟩
  have HBN := Lib.hid hbn
  clear hbn hpw
  go_enter Try.func41, Try.ntmps41
  go_wp2_with fail
  (refine (tableOk_any x0 _ _ _ (h0.ext (by (repeat (first | (with_reducible exact Ext.refl _) | (with_reducible assumption) | (with_reducible refine Ext.alloc ?_ _) | (with_reducible refine Ext.drew ?_) | (with_reducible refine Ext.drewN ?_ _) | ((with_reducible apply Ext.setCell); (case hp => first | omega | (simp; done) | (simp; omega))) | (with_reducible refine Ext.trans ?_ (by assumption))))))).mono ?_); rintro e w1 ⟨rfl, hb⟩; (obtain ⟨B0, c0, f0, l0⟩ := Box.after (k := w.heap.size) hb (by (repeat (first | (with_reducible assumption) | ((with_reducible apply Box.new); (first | (with_reducible rfl) | (simp; done) | (simp; omega))) | (with_reducible apply Box.alloc) | (with_reducible apply Box.drew) | (with_reducible apply Box.drewN) | (with_reducible apply Box.set) | ((with_reducible apply Box.set_ne); (case hne => first | omega | (simp; done) | (simp; omega))))))); (obtain ⟨B1, c1, f1, l1⟩ := Box.after (k := w.heap.size + 1) hb (by (repeat (first | (with_reducible assumption) | ((with_reducible apply Box.new); (first | (with_reducible rfl) | (simp; done) | (simp; omega))) | (with_reducible apply Box.alloc) | (with_reducible apply Box.drew) | (with_reducible apply Box.drewN) | (with_reducible apply Box.set) | ((with_reducible apply Box.set_ne); (case hne => first | omega | (simp; done) | (simp; omega)))))))
  have E1 : Ext w w1 := by (repeat (first | (with_reducible exact Ext.refl _) | (with_reducible assumption) | (with_reducible refine Ext.alloc ?_ _) | (with_reducible refine Ext.drew ?_) | (with_reducible refine Ext.drewN ?_ _) | ((with_reducible apply Ext.setCell); (case hp => first | omega | (simp; done) | (simp; omega))) | (with_reducible refine Ext.trans ?_ (by assumption))))
  clear hb
  go_wp2_with fail
  (refine (copyTable_any x0 _ _ _ (h0.ext (by (repeat (first | (with_reducible exact Ext.refl _) | (with_reducible assumption) | (with_reducible refine Ext.alloc ?_ _) | (with_reducible refine Ext.drew ?_) | (with_reducible refine Ext.drewN ?_ _) | ((with_reducible apply Ext.setCell); (case hp => first | omega | (simp; done) | (simp; omega))) | (with_reducible refine Ext.trans ?_ (by assumption)))))) hn).mono ?_); rintro e w2 ⟨p1, q1, rfl, O, hb⟩; (obtain ⟨B0, c0, f0, l0⟩ := Box.after (k := w.heap.size) hb (by (repeat (first | (with_reducible assumption) | ((with_reducible apply Box.new); (first | (with_reducible rfl) | (simp; done) | (simp; omega))) | (with_reducible apply Box.alloc) | (with_reducible apply Box.drew) | (with_reducible apply Box.drewN) | (with_reducible apply Box.set) | ((with_reducible apply Box.set_ne); (case hne => first | omega | (simp; done) | (simp; omega))))))); (obtain ⟨B1, c1, f1, l1⟩ := Box.after (k := w.heap.size + 1) hb (by (repeat (first | (with_reducible assumption) | ((with_reducible apply Box.new); (first | (with_reducible rfl) | (simp; done) | (simp; omega))) | (with_reducible apply Box.alloc) | (with_reducible apply Box.drew) | (with_reducible apply Box.drewN) | (with_reducible apply Box.set) | ((with_reducible apply Box.set_ne); (case hne => first | omega | (simp; done) | (simp; omega)))))))
  have E2 : Ext w w2 := by (repeat (first | (with_reducible exact Ext.refl _) | (with_reducible assumption) | (with_reducible refine Ext.alloc ?_ _) | (with_reducible refine Ext.drew ?_) | (with_reducible refine Ext.drewN ?_ _) | ((with_reducible apply Ext.setCell); (case hp => first | omega | (simp; done) | (simp; omega))) | (with_reducible refine Ext.trans ?_ (by assumption))))
  have s2 := hb.size; (try simp at s2)
  have s1 := E1.size
  clear hb E1
  go_wp2_with fail
  (refine (tAt_any x0 _ _ _ _ (h0.ext (by (repeat (first | (with_reducible exact Ext.refl _) | (with_reducible assumption) | (with_reducible refine Ext.alloc ?_ _) | (with_reducible refine Ext.drew ?_) | (with_reducible refine Ext.drewN ?_ _) | ((with_reducible apply Ext.setCell); (case hp => first | omega | (simp; done) | (simp; omega))) | (with_reducible refine Ext.trans ?_ (by assumption))))))).mono ?_); rw [HK.out]; rintro e w3 ⟨rfl, hb⟩; (obtain ⟨B0, c0, f0, l0⟩ := Box.after (k := w.heap.size) hb (by (repeat (first | (with_reducible assumption) | ((with_reducible apply Box.new); (first | (with_reducible rfl) | (simp; done) | (simp; omega))) | (with_reducible apply Box.alloc) | (with_reducible apply Box.drew) | (with_reducible apply Box.drewN) | (with_reducible apply Box.set) | ((with_reducible apply Box.set_ne); (case hne => first | omega | (simp; done) | (simp; omega))))))); (obtain ⟨B1, c1, f1, l1⟩ := Box.after (k := w.heap.size + 1) hb (by (repeat (first | (with_reducible assumption) | ((with_reducible apply Box.new); (first | (with_reducible rfl) | (simp; done) | (simp; omega))) | (with_reducible apply Box.alloc) | (with_reducible apply Box.drew) | (with_reducible apply Box.drewN) | (with_reducible apply Box.set) | ((with_reducible apply Box.set_ne); (case hne => first | omega | (simp; done) | (simp; omega))))))); (obtain ⟨B2, c2, f2, l2⟩ := Box.after (k := w2.heap.size) hb (by (repeat (first | (with_reducible assumption) | ((with_reducible apply Box.new); (first | (with_reducible rfl) | (simp; done) | (simp; omega))) | (with_reducible apply Box.alloc) | (with_reducible apply Box.drew) | (with_reducible apply Box.drewN) | (with_reducible apply Box.set) | ((with_reducible apply Box.set_ne); (case hne => first | omega | (simp; done) | (simp; omega)))))))
  have E3 : Ext w w3 := by (repeat (first | (with_reducible exact Ext.refl _) | (with_reducible assumption) | (with_reducible refine Ext.alloc ?_ _) | (with_reducible refine Ext.drew ?_) | (with_reducible refine Ext.drewN ?_ _) | ((with_reducible apply Ext.setCell); (case hp => first | omega | (simp; done) | (simp; omega))) | (with_reducible refine Ext.trans ?_ (by assumption))))
  have O3 : Obj w3 w1.heap.size w2.heap.size (encTable x0) [.slice p1 x0.fPeers.length q1, .int .i64 x0.fTurn] := Obj.ext (by (repeat (first | (with_reducible assumption) | (with_reducible apply Obj.alloc) | (with_reducible apply Obj.drew) | (with_reducible apply Obj.drewN) | ((with_reducible apply Obj.set); (case hk => first | omega | (simp; done) | (simp; omega) | (left; simp; omega) | (right; simp; omega))) | (with_reducible refine Obj.ext ?_ (by assumption))))) hb
  have s3 := hb.size; (try simp at s3)
  obtain ⟨v1, v2, e1, O4, -⟩ := Obj.split (ds := [slD 103 4 encPeer x0.fPeers]) (ds' := [.int x0.fTurn]) O3
  obtain ⟨u, rfl⟩ : ∃ u, v1 = [u] := by have := O4.read.len; match v1, this with | [u], _ => exact ⟨u, rfl⟩
  obtain ⟨g, c', rfl, g1, g2, g3, g4⟩ := Obj.nonnil O4 (by omega)
  simp at e1
  obtain ⟨⟨rfl, rfl⟩, -⟩ := e1
  have g6 := (Obj.at (enc := encPeer) (fun _ => rfl) O4 HP.out).int (j := 2) (n := p.fUntil) rfl
  have g5 := (Obj.at (enc := encPeer) (fun _ => rfl) O4 HP.out).int (j := 3) (n := p.fBans) rfl
  have M1 := Obj.modify (enc := encPeer) (x' := ⟨p.fId, p.fPinned, x2 + banOf p.fBans, p.fBans⟩) (j := 2) (d := .int (x2 + banOf p.fBans)) (d0 := .int p.fUntil) (fun _ => rfl) O4 HP.out rfl rfl rfl
  have M2 := Obj.modify (enc := encPeer) (xs := x0.fPeers.set k ⟨p.fId, p.fPinned, x2 + banOf p.fBans, p.fBans⟩) (x := ⟨p.fId, p.fPinned, x2 + banOf p.fBans, p.fBans⟩) (x' := lied p x2) (k := k) (j := 3) (d := .int (min 20 (p.fBans + 1))) (d0 := .int p.fBans) (fun _ => rfl) (by rw [List.length_set]; exact M1) (by rw [List.getElem?_set_self hkl]) rfl rfl rfl
  rw [List.set_set, List.length_set] at M2
  by_cases h1 : 320 ≤ pw
  · have e1 : banOf p.fBans = 320 := by rw [HBN.out]; omega
    rw [e1] at M2
    by_cases h2 : p.fBans + 1 < 20
    · have e2 : min 20 (p.fBans + 1) = p.fBans + 1 := by omega
      rw [e2] at M2
      have HM := Lib.hid M2
      clear hb E2 O O3 O4 M1 M2 e1 e2
      go_wp2_with (go_at_call 90; refine (isTime_any _ _).mono ?_; rintro e w' ⟨rfl, rfl⟩)
      all_goals first
        | exact bodyPost_ret (v := .tuple #[.agg #[.slice (some ⟨g, 0, none⟩) x0.fPeers.length q1, .int .i64 x0.fTurn], .bool true]) (by simp [results, Try.results41, go_sem, c1]) rfl ⟨some ⟨g, 0, none⟩, q1, (by first | rfl | (rw [List.length_set])), Obj.mono (lo := w.heap.size) (hi := w2.heap.size) (objT (lo := w1.heap.size) (by have A : Obj ((w3.setCell ⟨g, k * 4 + 2, none⟩ (.int .i64 (x2 + 320))).setCell ⟨g, k * 4 + 3, none⟩ (.int .i64 (p.fBans + 1))) w1.heap.size w2.heap.size [slD 103 4 encPeer (x0.fPeers.set k (lied p x2))] [.slice (some ⟨g, 0, none⟩) x0.fPeers.length q1] := HM.out; first | (rw [List.length_set]; (repeat (first | (with_reducible assumption) | (with_reducible apply Obj.alloc) | (with_reducible apply Obj.drew) | (with_reducible apply Obj.drewN) | ((with_reducible apply Obj.set); (case hk => first | omega | (simp; done) | (simp; omega) | (left; simp; omega) | (right; simp; omega))) | (with_reducible refine Obj.ext ?_ (by assumption))))) | (repeat (first | (with_reducible assumption) | (with_reducible apply Obj.alloc) | (with_reducible apply Obj.drew) | (with_reducible apply Obj.drewN) | ((with_reducible apply Obj.set); (case hk => first | omega | (simp; done) | (simp; omega) | (left; simp; omega) | (right; simp; omega))) | (with_reducible refine Obj.ext ?_ (by assumption))))) (by omega)) (by (first | omega | (simp; done) | (simp; omega))) (by (first | omega | (simp; done) | (simp; omega))), by (repeat (first | (with_reducible exact Ext.refl _) | (with_reducible assumption) | (with_reducible refine Ext.alloc ?_ _) | (with_reducible refine Ext.drew ?_) | (with_reducible refine Ext.drewN ?_ _) | ((with_reducible apply Ext.setCell); (case hp => first | omega | (simp; done) | (simp; omega))) | (with_reducible refine Ext.trans ?_ (by assumption))))⟩
        | (exfalso; omega)
    · have e2 : min 20 (p.fBans + 1) = 20 := by omega
      rw [e2] at M2
      have HM := Lib.hid M2
      clear hb E2 O O3 O4 M1 M2 e1 e2
      go_wp2_with (go_at_call 90; refine (isTime_any _ _).mono ?_; rintro e w' ⟨rfl, rfl⟩)
      all_goals first
        | exact bodyPost_ret (v := .tuple #[.agg #[.slice (some ⟨g, 0, none⟩) x0.fPeers.length q1, .int .i64 x0.fTurn], .bool true]) (by simp [results, Try.results41, go_sem, c1]) rfl ⟨some ⟨g, 0, none⟩, q1, (by first | rfl | (rw [List.length_set])), Obj.mono (lo := w.heap.size) (hi := w2.heap.size) (objT (lo := w1.heap.size) (by have A : Obj ((w3.setCell ⟨g, k * 4 + 2, none⟩ (.int .i64 (x2 + 320))).setCell ⟨g, k * 4 + 3, none⟩ (.int .i64 (20))) w1.heap.size w2.heap.size [slD 103 4 encPeer (x0.fPeers.set k (lied p x2))] [.slice (some ⟨g, 0, none⟩) x0.fPeers.length q1] := HM.out; first | (rw [List.length_set]; (repeat (first | (with_reducible assumption) | (with_reducible apply Obj.alloc) | (with_reducible apply Obj.drew) | (with_reducible apply Obj.drewN) | ((with_reducible apply Obj.set); (case hk => first | omega | (simp; done) | (simp; omega) | (left; simp; omega) | (right; simp; omega))) | (with_reducible refine Obj.ext ?_ (by assumption))))) | (repeat (first | (with_reducible assumption) | (with_reducible apply Obj.alloc) | (with_reducible apply Obj.drew) | (with_reducible apply Obj.drewN) | ((with_reducible apply Obj.set); (case hk => first | omega | (simp; done) | (simp; omega) | (left; simp; omega) | (right; simp; omega))) | (with_reducible refine Obj.ext ?_ (by assumption))))) (by omega)) (by (first | omega | (simp; done) | (simp; omega))) (by (first | omega | (simp; done) | (simp; omega))), by (repeat (first | (with_reducible exact Ext.refl _) | (with_reducible assumption) | (with_reducible refine Ext.alloc ?_ _) | (with_reducible refine Ext.drew ?_) | (with_reducible refine Ext.drewN ?_ _) | ((with_reducible apply Ext.setCell); (case hp => first | omega | (simp; done) | (simp; omega))) | (with_reducible refine Ext.trans ?_ (by assumption))))⟩
        | (exfalso; omega)
  · have e1 : banOf p.fBans = pw := by rw [HBN.out]; omega
    rw [e1] at M2
    by_cases h2 : p.fBans + 1 < 20
    · have e2 : min 20 (p.fBans + 1) = p.fBans + 1 := by omega
      rw [e2] at M2
      have HM := Lib.hid M2
      clear hb E2 O O3 O4 M1 M2 e1 e2
      go_wp2_with (go_at_call 90; refine (isTime_any _ _).mono ?_; rintro e w' ⟨rfl, rfl⟩)
      all_goals first
        | exact bodyPost_ret (v := .tuple #[.agg #[.slice (some ⟨g, 0, none⟩) x0.fPeers.length q1, .int .i64 x0.fTurn], .bool true]) (by simp [results, Try.results41, go_sem, c1]) rfl ⟨some ⟨g, 0, none⟩, q1, (by first | rfl | (rw [List.length_set])), Obj.mono (lo := w.heap.size) (hi := w2.heap.size) (objT (lo := w1.heap.size) (by have A : Obj ((w3.setCell ⟨g, k * 4 + 2, none⟩ (.int .i64 (x2 + pw))).setCell ⟨g, k * 4 + 3, none⟩ (.int .i64 (p.fBans + 1))) w1.heap.size w2.heap.size [slD 103 4 encPeer (x0.fPeers.set k (lied p x2))] [.slice (some ⟨g, 0, none⟩) x0.fPeers.length q1] := HM.out; first | (rw [List.length_set]; (repeat (first | (with_reducible assumption) | (with_reducible apply Obj.alloc) | (with_reducible apply Obj.drew) | (with_reducible apply Obj.drewN) | ((with_reducible apply Obj.set); (case hk => first | omega | (simp; done) | (simp; omega) | (left; simp; omega) | (right; simp; omega))) | (with_reducible refine Obj.ext ?_ (by assumption))))) | (repeat (first | (with_reducible assumption) | (with_reducible apply Obj.alloc) | (with_reducible apply Obj.drew) | (with_reducible apply Obj.drewN) | ((with_reducible apply Obj.set); (case hk => first | omega | (simp; done) | (simp; omega) | (left; simp; omega) | (right; simp; omega))) | (with_reducible refine Obj.ext ?_ (by assumption))))) (by omega)) (by (first | omega | (simp; done) | (simp; omega))) (by (first | omega | (simp; done) | (simp; omega))), by (repeat (first | (with_reducible exact Ext.refl _) | (with_reducible assumption) | (with_reducible refine Ext.alloc ?_ _) | (with_reducible refine Ext.drew ?_) | (with_reducible refine Ext.drewN ?_ _) | ((with_reducible apply Ext.setCell); (case hp => first | omega | (simp; done) | (simp; omega))) | (with_reducible refine Ext.trans ?_ (by assumption))))⟩
        | (exfalso; omega)
    · have e2 : min 20 (p.fBans + 1) = 20 := by omega
      rw [e2] at M2
      have HM := Lib.hid M2
      clear hb E2 O O3 O4 M1 M2 e1 e2
      go_wp2_with (go_at_call 90; refine (isTime_any _ _).mono ?_; rintro e w' ⟨rfl, rfl⟩)
      all_goals first
        | exact bodyPost_ret (v := .tuple #[.agg #[.slice (some ⟨g, 0, none⟩) x0.fPeers.length q1, .int .i64 x0.fTurn], .bool true]) (by simp [results, Try.results41, go_sem, c1]) rfl ⟨some ⟨g, 0, none⟩, q1, (by first | rfl | (rw [List.length_set])), Obj.mono (lo := w.heap.size) (hi := w2.heap.size) (objT (lo := w1.heap.size) (by have A : Obj ((w3.setCell ⟨g, k * 4 + 2, none⟩ (.int .i64 (x2 + pw))).setCell ⟨g, k * 4 + 3, none⟩ (.int .i64 (20))) w1.heap.size w2.heap.size [slD 103 4 encPeer (x0.fPeers.set k (lied p x2))] [.slice (some ⟨g, 0, none⟩) x0.fPeers.length q1] := HM.out; first | (rw [List.length_set]; (repeat (first | (with_reducible assumption) | (with_reducible apply Obj.alloc) | (with_reducible apply Obj.drew) | (with_reducible apply Obj.drewN) | ((with_reducible apply Obj.set); (case hk => first | omega | (simp; done) | (simp; omega) | (left; simp; omega) | (right; simp; omega))) | (with_reducible refine Obj.ext ?_ (by assumption))))) | (repeat (first | (with_reducible assumption) | (with_reducible apply Obj.alloc) | (with_reducible apply Obj.drew) | (with_reducible apply Obj.drewN) | ((with_reducible apply Obj.set); (case hk => first | omega | (simp; done) | (simp; omega) | (left; simp; omega) | (right; simp; omega))) | (with_reducible refine Obj.ext ?_ (by assumption))))) (by omega)) (by (first | omega | (simp; done) | (simp; omega))) (by (first | omega | (simp; done) | (simp; omega))), by (repeat (first | (with_reducible exact Ext.refl _) | (with_reducible assumption) | (with_reducible refine Ext.alloc ?_ _) | (with_reducible refine Ext.drew ?_) | (with_reducible refine Ext.drewN ?_ _) | ((with_reducible apply Ext.setCell); (case hp => first | omega | (simp; done) | (simp; omega))) | (with_reducible refine Ext.trans ?_ (by assumption))))⟩
        | (exfalso; omega)

end Go.Proofs.Ytbenfbmoagfboaa

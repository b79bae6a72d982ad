/- PeerNext: both walks. -/
import Derived.Test.YtbenfbmoagfboaaPeerGood
namespace Go.Proofs.Ytbenfbmoagfboaa
open Go.RowKit

def nT (ps : List GPeer) (tn : Nat) (now : Int) (i : Nat) : Bool :=
  match ps[(tn + i) % ps.length]? with
  | some p => decide (p.fUntil ≤ now)
  | none => false
def nxt (ps : List GPeer) (tn : Nat) (now : Int) : Int × Int :=
  match ps[(tn + (idx (nT ps tn now) (List.range ps.length)).toNat) % ps.length]? with
  | some p => if idx (nT ps tn now) (List.range ps.length) < 0 then ((tn : Int), 0) else ((((tn + (idx (nT ps tn now) (List.range ps.length)).toNat) % ps.length : Nat) : Int) + 1, p.fId)
  | none => ((tn : Int), 0)
def mPeerNext (t : GTable) (now : Int) : GTable × Int :=
  if tableOk t then if inB now 0 1000000 then (⟨t.fPeers, (nxt t.fPeers t.fTurn.toNat now).1⟩, (nxt t.fPeers t.fTurn.toNat now).2) else (t, 0) else (⟨[], 0⟩, 0)
theorem range_get {n k : Nat} (h : k < n) : (List.range n)[k]? = some k := by simp [h]
theorem nxt_in {ps : List GPeer} {tn k : Nat} {now : Int} {p : GPeer} (hk : k < ps.length) (hp : ps[(tn + k) % ps.length]? = some p) (h : p.fUntil ≤ now) (hN : noneTo (nT ps tn now) (List.range ps.length) k) : nxt ps tn now = ((((tn + k) % ps.length : Nat) : Int) + 1, p.fId) := by
  have e : idx (nT ps tn now) (List.range ps.length) = k := idx_some (range_get hk) (by unfold nT; rw [hp]; simp [h]) hN
  unfold nxt
  rw [e]
  simp only [Int.toNat_natCast]
  rw [hp]
  simp only
  rw [if_neg (by omega)]
theorem nxt_out {ps : List GPeer} {tn : Nat} {now : Int} (hN : noneTo (nT ps tn now) (List.range ps.length) ps.length) : nxt ps tn now = ((tn : Int), 0) := by
  have e : idx (nT ps tn now) (List.range ps.length) = -1 := noneTo_end (by rw [List.length_range]; exact hN)
  unfold nxt
  rw [e]
  split
  · rw [if_pos (by omega)]
  · rfl
theorem nxt_step {ps : List GPeer} {tn k : Nat} {now : Int} {p : GPeer} (hk : k < ps.length) (hp : ps[(tn + k) % ps.length]? = some p) (h : ¬ p.fUntil ≤ now) (hN : noneTo (nT ps tn now) (List.range ps.length) k) : noneTo (nT ps tn now) (List.range ps.length) (k + 1) :=
  noneTo_succ hN (range_get hk) (by unfold nT; rw [hp]; simp; omega)

set_option maxRecDepth 100000 in
set_option maxHeartbeats 4000000 in
theorem iPeerNext_aux (ps : List GPeer) (tn : Nat) (now : Int) (b1 off cc : Nat) (w : World) (h0 : Rds w (encTable ⟨ps, tn⟩) [.slice (some ⟨b1, off, none⟩) ps.length cc, .int .i64 tn]) (hx : RAt w b1 off (ps.flatMap encPeer)) (hn : ps.length ≤ 1048576) (hp : 0 < ps.length) (htn : tn ≤ 1000000) (hok : tableOk ⟨ps, tn⟩ = true) (hnow : inB now 0 1000000 = true) :
    Calls Try.prog 23 #[.agg #[.slice (some ⟨b1, off, none⟩) ps.length cc, .int .i64 tn], .int .i64 now] w fun e w' => ∃ (p1 : Option Addr) (q1 : Nat), e = .returned (.tuple #[.agg #[.slice p1 ps.length q1, .int .i64 (nxt ps tn now).1], .int .i64 (nxt ps tn now).2]) ∧ Obj w' w.heap.size w'.heap.size (encTable ⟨ps, (nxt ps tn now).1⟩) [.slice p1 ps.length q1, .int .i64 (nxt ps tn now).1] ∧ Ext w w' := by
  have hb1 := hx.lt
  have m0 : (0 : Int) ≤ (tn : Int) % (ps.length : Int) := Int.emod_nonneg _ (by omega)
  have m1 : (tn : Int) % (ps.length : Int) < (ps.length : Int) := Int.emod_lt_of_pos _ (by omega)
  go_enter Try.func23, Try.ntmps23
  go_wp2_with fail
  (refine (tableOk_any ⟨ps, tn⟩ _ _ _ (h0.ext (by (repeat (first | (with_reducible exact Ext.refl _) | (with_reducible assumption) | (with_reducible refine Ext.alloc ?_ _) | (with_reducible refine Ext.drew ?_) | (with_reducible refine Ext.drewN ?_ _) | ((with_reducible apply Ext.setCell); (case hp => first | omega | (simp; done) | (simp; omega))) | (with_reducible refine Ext.trans ?_ (by assumption))))))).mono ?_); rintro e w1 ⟨rfl, hb⟩; (obtain ⟨B0, c0, f0, l0⟩ := Box.after (k := w.heap.size) hb (by (repeat (first | (with_reducible assumption) | ((with_reducible apply Box.new); (first | (with_reducible rfl) | (simp; done) | (simp; omega))) | (with_reducible apply Box.alloc) | (with_reducible apply Box.drew) | (with_reducible apply Box.drewN) | (with_reducible apply Box.set) | ((with_reducible apply Box.set_ne); (case hne => first | omega | (simp; done) | (simp; omega))))))); (obtain ⟨B1, c1, f1, l1⟩ := Box.after (k := w.heap.size + 1) hb (by (repeat (first | (with_reducible assumption) | ((with_reducible apply Box.new); (first | (with_reducible rfl) | (simp; done) | (simp; omega))) | (with_reducible apply Box.alloc) | (with_reducible apply Box.drew) | (with_reducible apply Box.drewN) | (with_reducible apply Box.set) | ((with_reducible apply Box.set_ne); (case hne => first | omega | (simp; done) | (simp; omega)))))))
  have E1 : Ext w w1 := by (repeat (first | (with_reducible exact Ext.refl _) | (with_reducible assumption) | (with_reducible refine Ext.alloc ?_ _) | (with_reducible refine Ext.drew ?_) | (with_reducible refine Ext.drewN ?_ _) | ((with_reducible apply Ext.setCell); (case hp => first | omega | (simp; done) | (simp; omega))) | (with_reducible refine Ext.trans ?_ (by assumption))))
  clear hb
  go_wp2_with fail
  (refine (copyTable_any ⟨ps, tn⟩ _ _ _ (h0.ext (by (repeat (first | (with_reducible exact Ext.refl _) | (with_reducible assumption) | (with_reducible refine Ext.alloc ?_ _) | (with_reducible refine Ext.drew ?_) | (with_reducible refine Ext.drewN ?_ _) | ((with_reducible apply Ext.setCell); (case hp => first | omega | (simp; done) | (simp; omega))) | (with_reducible refine Ext.trans ?_ (by assumption)))))) hn).mono ?_); rintro e w2 ⟨p1, q1, rfl, O, hb⟩; (obtain ⟨B0, c0, f0, l0⟩ := Box.after (k := w.heap.size) hb (by (repeat (first | (with_reducible assumption) | ((with_reducible apply Box.new); (first | (with_reducible rfl) | (simp; done) | (simp; omega))) | (with_reducible apply Box.alloc) | (with_reducible apply Box.drew) | (with_reducible apply Box.drewN) | (with_reducible apply Box.set) | ((with_reducible apply Box.set_ne); (case hne => first | omega | (simp; done) | (simp; omega))))))); (obtain ⟨B1, c1, f1, l1⟩ := Box.after (k := w.heap.size + 1) hb (by (repeat (first | (with_reducible assumption) | ((with_reducible apply Box.new); (first | (with_reducible rfl) | (simp; done) | (simp; omega))) | (with_reducible apply Box.alloc) | (with_reducible apply Box.drew) | (with_reducible apply Box.drewN) | (with_reducible apply Box.set) | ((with_reducible apply Box.set_ne); (case hne => first | omega | (simp; done) | (simp; omega)))))))
  have E2 : Ext w w2 := by (repeat (first | (with_reducible exact Ext.refl _) | (with_reducible assumption) | (with_reducible refine Ext.alloc ?_ _) | (with_reducible refine Ext.drew ?_) | (with_reducible refine Ext.drewN ?_ _) | ((with_reducible apply Ext.setCell); (case hp => first | omega | (simp; done) | (simp; omega))) | (with_reducible refine Ext.trans ?_ (by assumption))))
  have s2 := hb.size; (try simp at s2)
  have s1 := E1.size
  obtain ⟨v1, v2, e1, O4, -⟩ := Obj.split (ds := [slD 103 4 encPeer ps]) (ds' := [.int tn]) O
  obtain ⟨u, rfl⟩ : ∃ u, v1 = [u] := by have := O4.read.len; match v1, this with | [u], _ => exact ⟨u, rfl⟩
  simp at e1
  obtain ⟨rfl, -⟩ := e1
  replace O4 : Obj w2 w1.heap.size w2.heap.size [slD 103 4 encPeer ps] [.slice p1 ps.length q1] := O4
  clear hb E1 O
  go_wp2
  go_loopg [8] ps.length (fun g i wr => ∃ k : Nat, k ≤ ps.length ∧ g = ps.length - k ∧ i = .int .i64 k ∧ Ext w wr ∧ Box wr w.heap.size #[.slice (some ⟨b1, off, none⟩) ps.length cc, .int .i64 tn] ∧ Box wr (w.heap.size + 1) #[.slice none 0 0, .int .i64 0] ∧ Box wr w2.heap.size #[.slice p1 ps.length q1, .int .i64 tn] ∧ Obj wr w1.heap.size w2.heap.size [slD 103 4 encPeer ps] [.slice p1 ps.length q1] ∧ Hid (noneTo (nT ps tn now) (List.range ps.length) k))
  case atStart => exact ⟨0, by omega, by omega, rfl, by (repeat (first | (with_reducible exact Ext.refl _) | (with_reducible assumption) | (with_reducible refine Ext.alloc ?_ _) | (with_reducible refine Ext.drew ?_) | (with_reducible refine Ext.drewN ?_ _) | ((with_reducible apply Ext.setCell); (case hp => first | omega | (simp; done) | (simp; omega))) | (with_reducible refine Ext.trans ?_ (by assumption)))), by (repeat (first | (with_reducible assumption) | ((with_reducible apply Box.new); (first | (with_reducible rfl) | (simp; done) | (simp; omega))) | (with_reducible apply Box.alloc) | (with_reducible apply Box.drew) | (with_reducible apply Box.drewN) | (with_reducible apply Box.set) | ((with_reducible apply Box.set_ne); (case hne => first | omega | (simp; done) | (simp; omega))))), by (repeat (first | (with_reducible assumption) | ((with_reducible apply Box.new); (first | (with_reducible rfl) | (simp; done) | (simp; omega))) | (with_reducible apply Box.alloc) | (with_reducible apply Box.drew) | (with_reducible apply Box.drewN) | (with_reducible apply Box.set) | ((with_reducible apply Box.set_ne); (case hne => first | omega | (simp; done) | (simp; omega))))), by (repeat (first | (with_reducible assumption) | ((with_reducible apply Box.new); (first | (with_reducible rfl) | (simp; done) | (simp; omega))) | (with_reducible apply Box.alloc) | (with_reducible apply Box.drew) | (with_reducible apply Box.drewN) | (with_reducible apply Box.set) | ((with_reducible apply Box.set_ne); (case hne => first | omega | (simp; done) | (simp; omega))))), by (repeat (first | (with_reducible assumption) | (with_reducible apply Obj.alloc) | (with_reducible apply Obj.drew) | (with_reducible apply Obj.drewN) | ((with_reducible apply Obj.set); (case hk => first | omega | (simp; done) | (simp; omega) | (left; simp; omega) | (right; simp; omega))) | (with_reducible refine Obj.ext ?_ (by assumption)))), noneTo_zero⟩
  case round =>
    clear O4
    obtain ⟨k, hk, hg, rfl, hE, hB0, hB1, hB2, O4, hN⟩ := hrel
    have HG := Lib.hid hg; clear hg
    obtain ⟨c0, f0, l0⟩ := hB0.rules
    obtain ⟨c1', f1, l1⟩ := hB1.rules
    obtain ⟨c2, f2, l2⟩ := hB2.rules
    by_cases hlt : k < ps.length
    · have hj : (tn + k) % ps.length < ps.length := Nat.mod_lt _ hp
      obtain ⟨x, hxk⟩ : ∃ x, ps[(tn + k) % ps.length]? = some x := ⟨_, List.getElem?_eq_getElem hj⟩
      have HX := Lib.hid hxk
      have e1 := (RAt.elem (enc := encPeer) (sz := 4) (fun _ => rfl) hx hxk).ext hE
      clear hxk
      have y0 : wr.cell? ⟨b1, off + ((tn + k) % ps.length) * 4, none⟩ = some (.int .i64 x.fId) := e1.int (j := 0) rfl
      have y1 : wr.cell? ⟨b1, off + ((tn + k) % ps.length) * 4 + 1, none⟩ = some (.bool x.fPinned) := e1.bool (j := 1) rfl
      have y2 : wr.cell? ⟨b1, off + ((tn + k) % ps.length) * 4 + 2, none⟩ = some (.int .i64 x.fUntil) := e1.int (j := 2) rfl
      have y3 : wr.cell? ⟨b1, off + ((tn + k) % ps.length) * 4 + 3, none⟩ = some (.int .i64 x.fBans) := e1.int (j := 3) rfl
      clear e1
      have HZ := Lib.hid (show ((tn : Int) + (k : Int)) % (ps.length : Int) = (((tn + k) % ps.length : Nat) : Int) from by simp)
      have j0 : (0 : Int) ≤ ((tn : Int) + (k : Int)) % (ps.length : Int) := Int.emod_nonneg _ (by omega)
      have j1 : ((tn : Int) + (k : Int)) % (ps.length : Int) < (ps.length : Int) := Int.emod_lt_of_pos _ (by omega)
      have n1 : b1 ≠ w2.heap.size := by omega
      have n2 : w2.heap.size ≠ b1 := by omega
      go_wp2_with (go_at_call 90; refine (isTime_any _ _).mono ?_; rintro e w' ⟨rfl, rfl⟩)
      all_goals first
        | (go_roundg (ps.length - (k + 1))
           case measure => rw [HG.out]; omega
           case rel => exact ⟨k + 1, by omega, rfl, by go_num, by (repeat (first | (with_reducible exact Ext.refl _) | (with_reducible assumption) | (with_reducible refine Ext.alloc ?_ _) | (with_reducible refine Ext.drew ?_) | (with_reducible refine Ext.drewN ?_ _) | ((with_reducible apply Ext.setCell); (case hp => first | omega | (simp; done) | (simp; omega))) | (with_reducible refine Ext.trans ?_ (by assumption)))), by (repeat (first | (with_reducible assumption) | ((with_reducible apply Box.new); (first | (with_reducible rfl) | (simp; done) | (simp; omega))) | (with_reducible apply Box.alloc) | (with_reducible apply Box.drew) | (with_reducible apply Box.drewN) | (with_reducible apply Box.set) | ((with_reducible apply Box.set_ne); (case hne => first | omega | (simp; done) | (simp; omega))))), by (repeat (first | (with_reducible assumption) | ((with_reducible apply Box.new); (first | (with_reducible rfl) | (simp; done) | (simp; omega))) | (with_reducible apply Box.alloc) | (with_reducible apply Box.drew) | (with_reducible apply Box.drewN) | (with_reducible apply Box.set) | ((with_reducible apply Box.set_ne); (case hne => first | omega | (simp; done) | (simp; omega))))), by (repeat (first | (with_reducible assumption) | ((with_reducible apply Box.new); (first | (with_reducible rfl) | (simp; done) | (simp; omega))) | (with_reducible apply Box.alloc) | (with_reducible apply Box.drew) | (with_reducible apply Box.drewN) | (with_reducible apply Box.set) | ((with_reducible apply Box.set_ne); (case hne => first | omega | (simp; done) | (simp; omega))))), by (repeat (first | (with_reducible assumption) | (with_reducible apply Obj.alloc) | (with_reducible apply Obj.drew) | (with_reducible apply Obj.drewN) | ((with_reducible apply Obj.set); (case hk => first | omega | (simp; done) | (simp; omega) | (left; simp; omega) | (right; simp; omega))) | (with_reducible refine Obj.ext ?_ (by assumption)))), nxt_step hlt HX.out (by omega) hN.out⟩)
        | (have HE := Lib.hid (nxt_in hlt HX.out (by omega) hN.out)
           go_region
           all_goals
             have HO := Lib.hid O4
             clear O4
             go_wp2
             exact bodyPost_ret (v := .tuple #[.agg #[.slice p1 ps.length q1, .int .i64 (((tn : Int) + (k : Int)) % (ps.length : Int) + 1)], .int .i64 x.fId]) (by simp [results, Try.results23, go_sem, c1']) rfl ⟨p1, q1, by rw [HE.out, HZ.out], by rw [HE.out, ← HZ.out]; exact Obj.mono (lo := w.heap.size) (hi := w2.heap.size) (objT (lo := w1.heap.size) (by have A := HO.out; (repeat (first | (with_reducible assumption) | (with_reducible apply Obj.alloc) | (with_reducible apply Obj.drew) | (with_reducible apply Obj.drewN) | ((with_reducible apply Obj.set); (case hk => first | omega | (simp; done) | (simp; omega) | (left; simp; omega) | (right; simp; omega))) | (with_reducible refine Obj.ext ?_ (by assumption))))) (by omega)) (by (first | omega | (simp; done) | (simp; omega))) (by (first | omega | (simp; done) | (simp; omega))), by (repeat (first | (with_reducible exact Ext.refl _) | (with_reducible assumption) | (with_reducible refine Ext.alloc ?_ _) | (with_reducible refine Ext.drew ?_) | (with_reducible refine Ext.drewN ?_ _) | ((with_reducible apply Ext.setCell); (case hp => first | omega | (simp; done) | (simp; omega))) | (with_reducible refine Ext.trans ?_ (by assumption))))⟩)
    · obtain rfl : k = ps.length := by omega
      have HE := Lib.hid (nxt_out hN.out)
      have HO := Lib.hid O4
      clear O4
      go_wp2
      exact bodyPost_ret (v := .tuple #[.agg #[.slice p1 ps.length q1, .int .i64 tn], .int .i64 0]) (by simp [results, Try.results23, go_sem, c1']) rfl ⟨p1, q1, by rw [HE.out], by rw [HE.out]; exact Obj.mono (lo := w.heap.size) (hi := w2.heap.size) (objT (lo := w1.heap.size) (by have A := HO.out; (repeat (first | (with_reducible assumption) | (with_reducible apply Obj.alloc) | (with_reducible apply Obj.drew) | (with_reducible apply Obj.drewN) | ((with_reducible apply Obj.set); (case hk => first | omega | (simp; done) | (simp; omega) | (left; simp; omega) | (right; simp; omega))) | (with_reducible refine Obj.ext ?_ (by assumption))))) (by omega)) (by (first | omega | (simp; done) | (simp; omega))) (by (first | omega | (simp; done) | (simp; omega))), by (repeat (first | (with_reducible exact Ext.refl _) | (with_reducible assumption) | (with_reducible refine Ext.alloc ?_ _) | (with_reducible refine Ext.drew ?_) | (with_reducible refine Ext.drewN ?_ _) | ((with_reducible apply Ext.setCell); (case hp => first | omega | (simp; done) | (simp; omega))) | (with_reducible refine Ext.trans ?_ (by assumption))))⟩
set_option maxRecDepth 100000 in
set_option maxHeartbeats 4000000 in
theorem sPeerNext_aux (ps : List GPeer) (tn : Nat) (now : Int) (b1 off cc : Nat) (w : World) (h0 : Rds w (encTable ⟨ps, tn⟩) [.slice (some ⟨b1, off, none⟩) ps.length cc, .int .i64 tn]) (hx : RAt w b1 off (ps.flatMap encPeer)) (hn : ps.length ≤ 1048576) (hp : 0 < ps.length) (htn : tn ≤ 1000000) (hok : tableOk ⟨ps, tn⟩ = true) (hnow : inB now 0 1000000 = true) :
    Calls Try.prog 22 #[.agg #[.slice (some ⟨b1, off, none⟩) ps.length cc, .int .i64 tn], .int .i64 now] w fun e w' => ∃ (p1 : Option Addr) (q1 : Nat), e = .returned (.tuple #[.agg #[.slice p1 ps.length q1, .int .i64 (nxt ps tn now).1], .int .i64 (nxt ps tn now).2]) ∧ Obj w' w.heap.size w'.heap.size (encTable ⟨ps, (nxt ps tn now).1⟩) [.slice p1 ps.length q1, .int .i64 (nxt ps tn now).1] ∧ Ext w w' := by
  have hb1 := hx.lt
  have m0 : (0 : Int) ≤ (tn : Int) % (ps.length : Int) := Int.emod_nonneg _ (by omega)
  have m1 : (tn : Int) % (ps.length : Int) < (ps.length : Int) := Int.emod_lt_of_pos _ (by omega)
  go_enter Try.func22, Try.ntmps22
  go_wp2_with fail
  (refine (sTableOk_any ⟨ps, tn⟩ _ _ _ (h0.ext (by (repeat (first | (with_reducible exact Ext.refl _) | (with_reducible assumption) | (with_reducible refine Ext.alloc ?_ _) | (with_reducible refine Ext.drew ?_) | (with_reducible refine Ext.drewN ?_ _) | ((with_reducible apply Ext.setCell); (case hp => first | omega | (simp; done) | (simp; omega))) | (with_reducible refine Ext.trans ?_ (by assumption))))))).mono ?_); rintro e w1 ⟨rfl, hb⟩; (obtain ⟨B0, c0, f0, l0⟩ := Box.after (k := w.heap.size) hb (by (repeat (first | (with_reducible assumption) | ((with_reducible apply Box.new); (first | (with_reducible rfl) | (simp; done) | (simp; omega))) | (with_reducible apply Box.alloc) | (with_reducible apply Box.drew) | (with_reducible apply Box.drewN) | (with_reducible apply Box.set) | ((with_reducible apply Box.set_ne); (case hne => first | omega | (simp; done) | (simp; omega))))))); (obtain ⟨B1, c1, f1, l1⟩ := Box.after (k := w.heap.size + 1) hb (by (repeat (first | (with_reducible assumption) | ((with_reducible apply Box.new); (first | (with_reducible rfl) | (simp; done) | (simp; omega))) | (with_reducible apply Box.alloc) | (with_reducible apply Box.drew) | (with_reducible apply Box.drewN) | (with_reducible apply Box.set) | ((with_reducible apply Box.set_ne); (case hne => first | omega | (simp; done) | (simp; omega)))))))
  have E1 : Ext w w1 := by (repeat (first | (with_reducible exact Ext.refl _) | (with_reducible assumption) | (with_reducible refine Ext.alloc ?_ _) | (with_reducible refine Ext.drew ?_) | (with_reducible refine Ext.drewN ?_ _) | ((with_reducible apply Ext.setCell); (case hp => first | omega | (simp; done) | (simp; omega))) | (with_reducible refine Ext.trans ?_ (by assumption))))
  clear hb
  go_wp2_with fail
  (refine (l19Copy_any ⟨ps, tn⟩ _ _ _ (h0.ext (by (repeat (first | (with_reducible exact Ext.refl _) | (with_reducible assumption) | (with_reducible refine Ext.alloc ?_ _) | (with_reducible refine Ext.drew ?_) | (with_reducible refine Ext.drewN ?_ _) | ((with_reducible apply Ext.setCell); (case hp => first | omega | (simp; done) | (simp; omega))) | (with_reducible refine Ext.trans ?_ (by assumption)))))) hn).mono ?_); rintro e w2 ⟨p1, q1, rfl, O, hb⟩; (obtain ⟨B0, c0, f0, l0⟩ := Box.after (k := w.heap.size) hb (by (repeat (first | (with_reducible assumption) | ((with_reducible apply Box.new); (first | (with_reducible rfl) | (simp; done) | (simp; omega))) | (with_reducible apply Box.alloc) | (with_reducible apply Box.drew) | (with_reducible apply Box.drewN) | (with_reducible apply Box.set) | ((with_reducible apply Box.set_ne); (case hne => first | omega | (simp; done) | (simp; omega))))))); (obtain ⟨B1, c1, f1, l1⟩ := Box.after (k := w.heap.size + 1) hb (by (repeat (first | (with_reducible assumption) | ((with_reducible apply Box.new); (first | (with_reducible rfl) | (simp; done) | (simp; omega))) | (with_reducible apply Box.alloc) | (with_reducible apply Box.drew) | (with_reducible apply Box.drewN) | (with_reducible apply Box.set) | ((with_reducible apply Box.set_ne); (case hne => first | omega | (simp; done) | (simp; omega)))))))
  have E2 : Ext w w2 := by (repeat (first | (with_reducible exact Ext.refl _) | (with_reducible assumption) | (with_reducible refine Ext.alloc ?_ _) | (with_reducible refine Ext.drew ?_) | (with_reducible refine Ext.drewN ?_ _) | ((with_reducible apply Ext.setCell); (case hp => first | omega | (simp; done) | (simp; omega))) | (with_reducible refine Ext.trans ?_ (by assumption))))
  have s2 := hb.size; (try simp at s2)
  have s1 := E1.size
  obtain ⟨v1, v2, e1, O4, -⟩ := Obj.split (ds := [slD 103 4 encPeer ps]) (ds' := [.int tn]) O
  obtain ⟨u, rfl⟩ : ∃ u, v1 = [u] := by have := O4.read.len; match v1, this with | [u], _ => exact ⟨u, rfl⟩
  simp at e1
  obtain ⟨rfl, -⟩ := e1
  replace O4 : Obj w2 w1.heap.size w2.heap.size [slD 103 4 encPeer ps] [.slice p1 ps.length q1] := O4
  clear hb E1 O
  go_wp2
  go_loopg [8] ps.length (fun g i wr => ∃ k : Nat, k ≤ ps.length ∧ g = ps.length - k ∧ i = .int .i64 k ∧ Ext w wr ∧ Box wr w.heap.size #[.slice (some ⟨b1, off, none⟩) ps.length cc, .int .i64 tn] ∧ Box wr (w.heap.size + 1) #[.slice none 0 0, .int .i64 0] ∧ Box wr w2.heap.size #[.slice p1 ps.length q1, .int .i64 tn] ∧ Obj wr w1.heap.size w2.heap.size [slD 103 4 encPeer ps] [.slice p1 ps.length q1] ∧ Hid (noneTo (nT ps tn now) (List.range ps.length) k))
  case atStart => exact ⟨0, by omega, by omega, rfl, by (repeat (first | (with_reducible exact Ext.refl _) | (with_reducible assumption) | (with_reducible refine Ext.alloc ?_ _) | (with_reducible refine Ext.drew ?_) | (with_reducible refine Ext.drewN ?_ _) | ((with_reducible apply Ext.setCell); (case hp => first | omega | (simp; done) | (simp; omega))) | (with_reducible refine Ext.trans ?_ (by assumption)))), by (repeat (first | (with_reducible assumption) | ((with_reducible apply Box.new); (first | (with_reducible rfl) | (simp; done) | (simp; omega))) | (with_reducible apply Box.alloc) | (with_reducible apply Box.drew) | (with_reducible apply Box.drewN) | (with_reducible apply Box.set) | ((with_reducible apply Box.set_ne); (case hne => first | omega | (simp; done) | (simp; omega))))), by (repeat (first | (with_reducible assumption) | ((with_reducible apply Box.new); (first | (with_reducible rfl) | (simp; done) | (simp; omega))) | (with_reducible apply Box.alloc) | (with_reducible apply Box.drew) | (with_reducible apply Box.drewN) | (with_reducible apply Box.set) | ((with_reducible apply Box.set_ne); (case hne => first | omega | (simp; done) | (simp; omega))))), by (repeat (first | (with_reducible assumption) | ((with_reducible apply Box.new); (first | (with_reducible rfl) | (simp; done) | (simp; omega))) | (with_reducible apply Box.alloc) | (with_reducible apply Box.drew) | (with_reducible apply Box.drewN) | (with_reducible apply Box.set) | ((with_reducible apply Box.set_ne); (case hne => first | omega | (simp; done) | (simp; omega))))), by (repeat (first | (with_reducible assumption) | (with_reducible apply Obj.alloc) | (with_reducible apply Obj.drew) | (with_reducible apply Obj.drewN) | ((with_reducible apply Obj.set); (case hk => first | omega | (simp; done) | (simp; omega) | (left; simp; omega) | (right; simp; omega))) | (with_reducible refine Obj.ext ?_ (by assumption)))), noneTo_zero⟩
  case round =>
    clear O4
    obtain ⟨k, hk, hg, rfl, hE, hB0, hB1, hB2, O4, hN⟩ := hrel
    have HG := Lib.hid hg; clear hg
    obtain ⟨c0, f0, l0⟩ := hB0.rules
    obtain ⟨c1', f1, l1⟩ := hB1.rules
    obtain ⟨c2, f2, l2⟩ := hB2.rules
    by_cases hlt : k < ps.length
    · have hj : (tn + k) % ps.length < ps.length := Nat.mod_lt _ hp
      obtain ⟨x, hxk⟩ : ∃ x, ps[(tn + k) % ps.length]? = some x := ⟨_, List.getElem?_eq_getElem hj⟩
      have HX := Lib.hid hxk
      have e1 := (RAt.elem (enc := encPeer) (sz := 4) (fun _ => rfl) hx hxk).ext hE
      clear hxk
      have y0 : wr.cell? ⟨b1, off + ((tn + k) % ps.length) * 4, none⟩ = some (.int .i64 x.fId) := e1.int (j := 0) rfl
      have y1 : wr.cell? ⟨b1, off + ((tn + k) % ps.length) * 4 + 1, none⟩ = some (.bool x.fPinned) := e1.bool (j := 1) rfl
      have y2 : wr.cell? ⟨b1, off + ((tn + k) % ps.length) * 4 + 2, none⟩ = some (.int .i64 x.fUntil) := e1.int (j := 2) rfl
      have y3 : wr.cell? ⟨b1, off + ((tn + k) % ps.length) * 4 + 3, none⟩ = some (.int .i64 x.fBans) := e1.int (j := 3) rfl
      clear e1
      have HZ := Lib.hid (show ((tn : Int) + (k : Int)) % (ps.length : Int) = (((tn + k) % ps.length : Nat) : Int) from by simp)
      have j0 : (0 : Int) ≤ ((tn : Int) + (k : Int)) % (ps.length : Int) := Int.emod_nonneg _ (by omega)
      have j1 : ((tn : Int) + (k : Int)) % (ps.length : Int) < (ps.length : Int) := Int.emod_lt_of_pos _ (by omega)
      have n1 : b1 ≠ w2.heap.size := by omega
      have n2 : w2.heap.size ≠ b1 := by omega
      go_wp2_with (go_at_call 89; refine (l10Time_any _ _).mono ?_; rintro e w' ⟨rfl, rfl⟩)
      all_goals first
        | (go_roundg (ps.length - (k + 1))
           case measure => rw [HG.out]; omega
           case rel => exact ⟨k + 1, by omega, rfl, by go_num, by (repeat (first | (with_reducible exact Ext.refl _) | (with_reducible assumption) | (with_reducible refine Ext.alloc ?_ _) | (with_reducible refine Ext.drew ?_) | (with_reducible refine Ext.drewN ?_ _) | ((with_reducible apply Ext.setCell); (case hp => first | omega | (simp; done) | (simp; omega))) | (with_reducible refine Ext.trans ?_ (by assumption)))), by (repeat (first | (with_reducible assumption) | ((with_reducible apply Box.new); (first | (with_reducible rfl) | (simp; done) | (simp; omega))) | (with_reducible apply Box.alloc) | (with_reducible apply Box.drew) | (with_reducible apply Box.drewN) | (with_reducible apply Box.set) | ((with_reducible apply Box.set_ne); (case hne => first | omega | (simp; done) | (simp; omega))))), by (repeat (first | (with_reducible assumption) | ((with_reducible apply Box.new); (first | (with_reducible rfl) | (simp; done) | (simp; omega))) | (with_reducible apply Box.alloc) | (with_reducible apply Box.drew) | (with_reducible apply Box.drewN) | (with_reducible apply Box.set) | ((with_reducible apply Box.set_ne); (case hne => first | omega | (simp; done) | (simp; omega))))), by (repeat (first | (with_reducible assumption) | ((with_reducible apply Box.new); (first | (with_reducible rfl) | (simp; done) | (simp; omega))) | (with_reducible apply Box.alloc) | (with_reducible apply Box.drew) | (with_reducible apply Box.drewN) | (with_reducible apply Box.set) | ((with_reducible apply Box.set_ne); (case hne => first | omega | (simp; done) | (simp; omega))))), by (repeat (first | (with_reducible assumption) | (with_reducible apply Obj.alloc) | (with_reducible apply Obj.drew) | (with_reducible apply Obj.drewN) | ((with_reducible apply Obj.set); (case hk => first | omega | (simp; done) | (simp; omega) | (left; simp; omega) | (right; simp; omega))) | (with_reducible refine Obj.ext ?_ (by assumption)))), nxt_step hlt HX.out (by omega) hN.out⟩)
        | (have HE := Lib.hid (nxt_in hlt HX.out (by omega) hN.out)
           go_region
           all_goals
             have HO := Lib.hid O4
             clear O4
             go_wp2
             exact bodyPost_ret (v := .tuple #[.agg #[.slice p1 ps.length q1, .int .i64 (((tn : Int) + (k : Int)) % (ps.length : Int) + 1)], .int .i64 x.fId]) (by simp [results, Try.results22, go_sem, c1']) rfl ⟨p1, q1, by rw [HE.out, HZ.out], by rw [HE.out, ← HZ.out]; exact Obj.mono (lo := w.heap.size) (hi := w2.heap.size) (objT (lo := w1.heap.size) (by have A := HO.out; (repeat (first | (with_reducible assumption) | (with_reducible apply Obj.alloc) | (with_reducible apply Obj.drew) | (with_reducible apply Obj.drewN) | ((with_reducible apply Obj.set); (case hk => first | omega | (simp; done) | (simp; omega) | (left; simp; omega) | (right; simp; omega))) | (with_reducible refine Obj.ext ?_ (by assumption))))) (by omega)) (by (first | omega | (simp; done) | (simp; omega))) (by (first | omega | (simp; done) | (simp; omega))), by (repeat (first | (with_reducible exact Ext.refl _) | (with_reducible assumption) | (with_reducible refine Ext.alloc ?_ _) | (with_reducible refine Ext.drew ?_) | (with_reducible refine Ext.drewN ?_ _) | ((with_reducible apply Ext.setCell); (case hp => first | omega | (simp; done) | (simp; omega))) | (with_reducible refine Ext.trans ?_ (by assumption))))⟩)
    · obtain rfl : k = ps.length := by omega
      have HE := Lib.hid (nxt_out hN.out)
      have HO := Lib.hid O4
      clear O4
      go_wp2
      exact bodyPost_ret (v := .tuple #[.agg #[.slice p1 ps.length q1, .int .i64 tn], .int .i64 0]) (by simp [results, Try.results22, go_sem, c1']) rfl ⟨p1, q1, by rw [HE.out], by rw [HE.out]; exact Obj.mono (lo := w.heap.size) (hi := w2.heap.size) (objT (lo := w1.heap.size) (by have A := HO.out; (repeat (first | (with_reducible assumption) | (with_reducible apply Obj.alloc) | (with_reducible apply Obj.drew) | (with_reducible apply Obj.drewN) | ((with_reducible apply Obj.set); (case hk => first | omega | (simp; done) | (simp; omega) | (left; simp; omega) | (right; simp; omega))) | (with_reducible refine Obj.ext ?_ (by assumption))))) (by omega)) (by (first | omega | (simp; done) | (simp; omega))) (by (first | omega | (simp; done) | (simp; omega))), by (repeat (first | (with_reducible exact Ext.refl _) | (with_reducible assumption) | (with_reducible refine Ext.alloc ?_ _) | (with_reducible refine Ext.drew ?_) | (with_reducible refine Ext.drewN ?_ _) | ((with_reducible apply Ext.setCell); (case hp => first | omega | (simp; done) | (simp; omega))) | (with_reducible refine Ext.trans ?_ (by assumption))))⟩

theorem next_bad {t : GTable} {now : Int} (h : tableOk t = false) : mPeerNext t now = (⟨[], 0⟩, 0) := by simp [mPeerNext, h]
theorem next_no {t : GTable} {now : Int} (h : tableOk t = true) (h2 : inB now 0 1000000 = false) : mPeerNext t now = (t, 0) := by simp [mPeerNext, h, h2]
theorem next_yes {ps : List GPeer} {tn : Nat} {now : Int} (h : tableOk ⟨ps, tn⟩ = true) (h2 : inB now 0 1000000 = true) : mPeerNext ⟨ps, tn⟩ now = (⟨ps, (nxt ps tn now).1⟩, (nxt ps tn now).2) := by simp [mPeerNext, h, h2]
theorem next_nil {tu : Int} {now : Int} (h : tableOk ⟨[], tu⟩ = true) : mPeerNext ⟨[], tu⟩ now = (⟨[], tu⟩, 0) := by
  have h1 : inB tu 0 1000000 = true := by simp [tableOk] at h; exact h.2
  obtain ⟨h2, _⟩ := inB_iff.1 h1
  unfold mPeerNext
  rw [if_pos h]
  split
  · simp [nxt, idx]
    omega
  · rfl
theorem ok_turn {t : GTable} (h : tableOk t = true) : 0 ≤ t.fTurn ∧ t.fTurn ≤ 1000000 := by
  simp [tableOk] at h
  exact inB_iff.1 h.2

set_option maxRecDepth 100000 in
set_option maxHeartbeats 4000000 in
theorem iPeerNext_any (x0 : GTable) (x1 : Int) (o1 : Option Addr) (c1 : Nat) (w : World) (h0 : Rds w (encTable x0) [.slice o1 x0.fPeers.length c1, .int .i64 x0.fTurn]) (z0 : szL (encTable x0) ≤ 1048576) (_k0 : okL (encTable x0)) (_k1 : -9223372036854775808 ≤ x1 ∧ x1 ≤ 9223372036854775807) :
    Calls Try.prog 23 #[.agg #[.slice o1 x0.fPeers.length c1, .int .i64 x0.fTurn], .int .i64 x1] w fun e w' => ∃ (p1 : Option Addr) (q1 : Nat), e = .returned (.tuple #[.agg #[.slice p1 (mPeerNext x0 x1).1.fPeers.length q1, .int .i64 (mPeerNext x0 x1).1.fTurn], .int .i64 (mPeerNext x0 x1).2]) ∧ Obj w' w.heap.size w'.heap.size (encTable ((mPeerNext x0 x1).1)) [.slice p1 ((mPeerNext x0 x1).1).fPeers.length q1, .int .i64 ((mPeerNext x0 x1).1).fTurn] ∧ Ext w w' := by
  have hn := tz z0
  clear z0 _k0 _k1
  by_cases hok : tableOk x0 = true
  · by_cases hrun : inB x1 0 1000000 = true ∧ 0 < x0.fPeers.length
    · obtain ⟨ps, tu⟩ := x0
      obtain ⟨t0, t1⟩ := ok_turn hok
      simp only at t0 t1 hn hrun
      obtain ⟨tn, rfl⟩ := Int.eq_ofNat_of_zero_le t0
      have r : RL 103 4 encPeer w (.slice o1 ps.length c1) ps := h0.cut 0 1
      rcases RS.cases r with ⟨hn0, _⟩ | ⟨b1, off, c2, hv, _, _, _, hx⟩
      · omega
      · simp at hv
        obtain ⟨rfl, rfl⟩ := hv
        rw [next_yes hok hrun.1]
        exact iPeerNext_aux ps tn x1 b1 off c1 w h0 hx hn hrun.2 (by omega) hok hrun.1
    · have E : Hid (mPeerNext x0 x1 = (x0, 0)) := by
        by_cases h1 : inB x1 0 1000000 = true
        · obtain ⟨ps, tu⟩ := x0
          have : ps = [] := List.eq_nil_of_length_eq_zero (by have : ¬ 0 < ps.length := fun h => hrun ⟨h1, h⟩; omega)
          subst this
          exact Lib.hid (next_nil hok)
        · exact Lib.hid (next_no hok (by simpa using h1))
      have HR := Lib.hid hrun
      clear hrun
      go_enter Try.func23, Try.ntmps23
      go_wp2_with fail
      (refine (tableOk_any x0 _ _ _ (h0.ext (by (repeat (first | (with_reducible exact Ext.refl _) | (with_reducible assumption) | (with_reducible refine Ext.alloc ?_ _) | (with_reducible refine Ext.drew ?_) | (with_reducible refine Ext.drewN ?_ _) | ((with_reducible apply Ext.setCell); (case hp => first | omega | (simp; done) | (simp; omega))) | (with_reducible refine Ext.trans ?_ (by assumption))))))).mono ?_); rintro e w1 ⟨rfl, hb⟩; (obtain ⟨B0, c0, f0, l0⟩ := Box.after (k := w.heap.size) hb (by (repeat (first | (with_reducible assumption) | ((with_reducible apply Box.new); (first | (with_reducible rfl) | (simp; done) | (simp; omega))) | (with_reducible apply Box.alloc) | (with_reducible apply Box.drew) | (with_reducible apply Box.drewN) | (with_reducible apply Box.set) | ((with_reducible apply Box.set_ne); (case hne => first | omega | (simp; done) | (simp; omega))))))); (obtain ⟨B1, c1, f1, l1⟩ := Box.after (k := w.heap.size + 1) hb (by (repeat (first | (with_reducible assumption) | ((with_reducible apply Box.new); (first | (with_reducible rfl) | (simp; done) | (simp; omega))) | (with_reducible apply Box.alloc) | (with_reducible apply Box.drew) | (with_reducible apply Box.drewN) | (with_reducible apply Box.set) | ((with_reducible apply Box.set_ne); (case hne => first | omega | (simp; done) | (simp; omega)))))))
      have E1 : Ext w w1 := by (repeat (first | (with_reducible exact Ext.refl _) | (with_reducible assumption) | (with_reducible refine Ext.alloc ?_ _) | (with_reducible refine Ext.drew ?_) | (with_reducible refine Ext.drewN ?_ _) | ((with_reducible apply Ext.setCell); (case hp => first | omega | (simp; done) | (simp; omega))) | (with_reducible refine Ext.trans ?_ (by assumption))))
      clear hb
      go_wp2_with fail
      (refine (copyTable_any x0 _ _ _ (h0.ext (by (repeat (first | (with_reducible exact Ext.refl _) | (with_reducible assumption) | (with_reducible refine Ext.alloc ?_ _) | (with_reducible refine Ext.drew ?_) | (with_reducible refine Ext.drewN ?_ _) | ((with_reducible apply Ext.setCell); (case hp => first | omega | (simp; done) | (simp; omega))) | (with_reducible refine Ext.trans ?_ (by assumption)))))) hn).mono ?_); rintro e w2 ⟨p1, q1, rfl, O, hb⟩; (obtain ⟨B0, c0, f0, l0⟩ := Box.after (k := w.heap.size) hb (by (repeat (first | (with_reducible assumption) | ((with_reducible apply Box.new); (first | (with_reducible rfl) | (simp; done) | (simp; omega))) | (with_reducible apply Box.alloc) | (with_reducible apply Box.drew) | (with_reducible apply Box.drewN) | (with_reducible apply Box.set) | ((with_reducible apply Box.set_ne); (case hne => first | omega | (simp; done) | (simp; omega))))))); (obtain ⟨B1, c1, f1, l1⟩ := Box.after (k := w.heap.size + 1) hb (by (repeat (first | (with_reducible assumption) | ((with_reducible apply Box.new); (first | (with_reducible rfl) | (simp; done) | (simp; omega))) | (with_reducible apply Box.alloc) | (with_reducible apply Box.drew) | (with_reducible apply Box.drewN) | (with_reducible apply Box.set) | ((with_reducible apply Box.set_ne); (case hne => first | omega | (simp; done) | (simp; omega)))))))
      have E2 : Ext w w2 := by (repeat (first | (with_reducible exact Ext.refl _) | (with_reducible assumption) | (with_reducible refine Ext.alloc ?_ _) | (with_reducible refine Ext.drew ?_) | (with_reducible refine Ext.drewN ?_ _) | ((with_reducible apply Ext.setCell); (case hp => first | omega | (simp; done) | (simp; omega))) | (with_reducible refine Ext.trans ?_ (by assumption))))
      have s2 := hb.size; (try simp at s2)
      have s1 := E1.size
      have O2 : Obj w2 w1.heap.size w2.heap.size (encTable x0) [.slice p1 x0.fPeers.length q1, .int .i64 x0.fTurn] := O
      have HO := Lib.hid O2
      clear hb E1 O O2
      go_wp2
      refine wp_loop_rounds 1 ?_
      rw [rounds_succ]
      go_wp2_with (go_at_call 90; refine (isTime_any _ _).mono ?_; rintro e w' ⟨rfl, rfl⟩)
      all_goals first
        | exact bodyPost_ret (v := .tuple #[.agg #[.slice p1 x0.fPeers.length q1, .int .i64 x0.fTurn], .int .i64 0]) (by simp [results, Try.results23, go_sem, c1, l1]) rfl ⟨p1, q1, by rw [E.out], by rw [E.out]; exact Obj.mono (lo := w1.heap.size) (hi := w2.heap.size) (show Obj _ _ _ (encTable x0) _ from by have A := HO.out; (repeat (first | (with_reducible assumption) | (with_reducible apply Obj.alloc) | (with_reducible apply Obj.drew) | (with_reducible apply Obj.drewN) | ((with_reducible apply Obj.set); (case hk => first | omega | (simp; done) | (simp; omega) | (left; simp; omega) | (right; simp; omega))) | (with_reducible refine Obj.ext ?_ (by assumption))))) (by (first | omega | (simp; done) | (simp; omega))) (by (first | omega | (simp; done) | (simp; omega))), by (repeat (first | (with_reducible exact Ext.refl _) | (with_reducible assumption) | (with_reducible refine Ext.alloc ?_ _) | (with_reducible refine Ext.drew ?_) | (with_reducible refine Ext.drewN ?_ _) | ((with_reducible apply Ext.setCell); (case hp => first | omega | (simp; done) | (simp; omega))) | (with_reducible refine Ext.trans ?_ (by assumption))))⟩
        | (exfalso; have := HR.out; simp_all)
  · have E := Lib.hid (next_bad (now := x1) (by simpa using hok))
    have hok' : tableOk x0 = false := by simpa using hok
    clear hok
    go_enter Try.func23, Try.ntmps23
    go_wp2_with fail
    (refine (tableOk_any x0 _ _ _ (h0.ext (by (repeat (first | (with_reducible exact Ext.refl _) | (with_reducible assumption) | (with_reducible refine Ext.alloc ?_ _) | (with_reducible refine Ext.drew ?_) | (with_reducible refine Ext.drewN ?_ _) | ((with_reducible apply Ext.setCell); (case hp => first | omega | (simp; done) | (simp; omega))) | (with_reducible refine Ext.trans ?_ (by assumption))))))).mono ?_); rintro e w1 ⟨rfl, hb⟩; (obtain ⟨B0, c0, f0, l0⟩ := Box.after (k := w.heap.size) hb (by (repeat (first | (with_reducible assumption) | ((with_reducible apply Box.new); (first | (with_reducible rfl) | (simp; done) | (simp; omega))) | (with_reducible apply Box.alloc) | (with_reducible apply Box.drew) | (with_reducible apply Box.drewN) | (with_reducible apply Box.set) | ((with_reducible apply Box.set_ne); (case hne => first | omega | (simp; done) | (simp; omega))))))); (obtain ⟨B1, c1, f1, l1⟩ := Box.after (k := w.heap.size + 1) hb (by (repeat (first | (with_reducible assumption) | ((with_reducible apply Box.new); (first | (with_reducible rfl) | (simp; done) | (simp; omega))) | (with_reducible apply Box.alloc) | (with_reducible apply Box.drew) | (with_reducible apply Box.drewN) | (with_reducible apply Box.set) | ((with_reducible apply Box.set_ne); (case hne => first | omega | (simp; done) | (simp; omega)))))))
    go_wp2
    exact bodyPost_ret (v := .tuple #[.agg #[.slice none 0 0, .int .i64 0], .int .i64 0]) (by simp [results, Try.results23, go_sem, c1]) rfl ⟨none, 0, by rw [E.out]; rfl, by rw [E.out]; exact objT (lo := w.heap.size) obj_nilS (Nat.le_refl _), by (repeat (first | (with_reducible exact Ext.refl _) | (with_reducible assumption) | (with_reducible refine Ext.alloc ?_ _) | (with_reducible refine Ext.drew ?_) | (with_reducible refine Ext.drewN ?_ _) | ((with_reducible apply Ext.setCell); (case hp => first | omega | (simp; done) | (simp; omega))) | (with_reducible refine Ext.trans ?_ (by assumption))))⟩
set_option maxRecDepth 100000 in
set_option maxHeartbeats 4000000 in
theorem sPeerNext_any (x0 : GTable) (x1 : Int) (o1 : Option Addr) (c1 : Nat) (w : World) (h0 : Rds w (encTable x0) [.slice o1 x0.fPeers.length c1, .int .i64 x0.fTurn]) (z0 : szL (encTable x0) ≤ 1048576) (_k0 : okL (encTable x0)) (_k1 : -9223372036854775808 ≤ x1 ∧ x1 ≤ 9223372036854775807) :
    Calls Try.prog 22 #[.agg #[.slice o1 x0.fPeers.length c1, .int .i64 x0.fTurn], .int .i64 x1] w fun e w' => ∃ (p1 : Option Addr) (q1 : Nat), e = .returned (.tuple #[.agg #[.slice p1 (mPeerNext x0 x1).1.fPeers.length q1, .int .i64 (mPeerNext x0 x1).1.fTurn], .int .i64 (mPeerNext x0 x1).2]) ∧ Obj w' w.heap.size w'.heap.size (encTable ((mPeerNext x0 x1).1)) [.slice p1 ((mPeerNext x0 x1).1).fPeers.length q1, .int .i64 ((mPeerNext x0 x1).1).fTurn] ∧ Ext w w' := by
  have hn := tz z0
  clear z0 _k0 _k1
  by_cases hok : tableOk x0 = true
  · by_cases hrun : inB x1 0 1000000 = true ∧ 0 < x0.fPeers.length
    · obtain ⟨ps, tu⟩ := x0
      obtain ⟨t0, t1⟩ := ok_turn hok
      simp only at t0 t1 hn hrun
      obtain ⟨tn, rfl⟩ := Int.eq_ofNat_of_zero_le t0
      have r : RL 103 4 encPeer w (.slice o1 ps.length c1) ps := h0.cut 0 1
      rcases RS.cases r with ⟨hn0, _⟩ | ⟨b1, off, c2, hv, _, _, _, hx⟩
      · omega
      · simp at hv
        obtain ⟨rfl, rfl⟩ := hv
        rw [next_yes hok hrun.1]
        exact sPeerNext_aux ps tn x1 b1 off c1 w h0 hx hn hrun.2 (by omega) hok hrun.1
    · have E : Hid (mPeerNext x0 x1 = (x0, 0)) := by
        by_cases h1 : inB x1 0 1000000 = true
        · obtain ⟨ps, tu⟩ := x0
          have : ps = [] := List.eq_nil_of_length_eq_zero (by have : ¬ 0 < ps.length := fun h => hrun ⟨h1, h⟩; omega)
          subst this
          exact Lib.hid (next_nil hok)
        · exact Lib.hid (next_no hok (by simpa using h1))
      have HR := Lib.hid hrun
      clear hrun
      go_enter Try.func22, Try.ntmps22
      go_wp2_with fail
      (refine (sTableOk_any x0 _ _ _ (h0.ext (by (repeat (first | (with_reducible exact Ext.refl _) | (with_reducible assumption) | (with_reducible refine Ext.alloc ?_ _) | (with_reducible refine Ext.drew ?_) | (with_reducible refine Ext.drewN ?_ _) | ((with_reducible apply Ext.setCell); (case hp => first | omega | (simp; done) | (simp; omega))) | (with_reducible refine Ext.trans ?_ (by assumption))))))).mono ?_); rintro e w1 ⟨rfl, hb⟩; (obtain ⟨B0, c0, f0, l0⟩ := Box.after (k := w.heap.size) hb (by (repeat (first | (with_reducible assumption) | ((with_reducible apply Box.new); (first | (with_reducible rfl) | (simp; done) | (simp; omega))) | (with_reducible apply Box.alloc) | (with_reducible apply Box.drew) | (with_reducible apply Box.drewN) | (with_reducible apply Box.set) | ((with_reducible apply Box.set_ne); (case hne => first | omega | (simp; done) | (simp; omega))))))); (obtain ⟨B1, c1, f1, l1⟩ := Box.after (k := w.heap.size + 1) hb (by (repeat (first | (with_reducible assumption) | ((with_reducible apply Box.new); (first | (with_reducible rfl) | (simp; done) | (simp; omega))) | (with_reducible apply Box.alloc) | (with_reducible apply Box.drew) | (with_reducible apply Box.drewN) | (with_reducible apply Box.set) | ((with_reducible apply Box.set_ne); (case hne => first | omega | (simp; done) | (simp; omega)))))))
      have E1 : Ext w w1 := by (repeat (first | (with_reducible exact Ext.refl _) | (with_reducible assumption) | (with_reducible refine Ext.alloc ?_ _) | (with_reducible refine Ext.drew ?_) | (with_reducible refine Ext.drewN ?_ _) | ((with_reducible apply Ext.setCell); (case hp => first | omega | (simp; done) | (simp; omega))) | (with_reducible refine Ext.trans ?_ (by assumption))))
      clear hb
      go_wp2_with fail
      (refine (l19Copy_any x0 _ _ _ (h0.ext (by (repeat (first | (with_reducible exact Ext.refl _) | (with_reducible assumption) | (with_reducible refine Ext.alloc ?_ _) | (with_reducible refine Ext.drew ?_) | (with_reducible refine Ext.drewN ?_ _) | ((with_reducible apply Ext.setCell); (case hp => first | omega | (simp; done) | (simp; omega))) | (with_reducible refine Ext.trans ?_ (by assumption)))))) hn).mono ?_); rintro e w2 ⟨p1, q1, rfl, O, hb⟩; (obtain ⟨B0, c0, f0, l0⟩ := Box.after (k := w.heap.size) hb (by (repeat (first | (with_reducible assumption) | ((with_reducible apply Box.new); (first | (with_reducible rfl) | (simp; done) | (simp; omega))) | (with_reducible apply Box.alloc) | (with_reducible apply Box.drew) | (with_reducible apply Box.drewN) | (with_reducible apply Box.set) | ((with_reducible apply Box.set_ne); (case hne => first | omega | (simp; done) | (simp; omega))))))); (obtain ⟨B1, c1, f1, l1⟩ := Box.after (k := w.heap.size + 1) hb (by (repeat (first | (with_reducible assumption) | ((with_reducible apply Box.new); (first | (with_reducible rfl) | (simp; done) | (simp; omega))) | (with_reducible apply Box.alloc) | (with_reducible apply Box.drew) | (with_reducible apply Box.drewN) | (with_reducible apply Box.set) | ((with_reducible apply Box.set_ne); (case hne => first | omega | (simp; done) | (simp; omega)))))))
      have E2 : Ext w w2 := by (repeat (first | (with_reducible exact Ext.refl _) | (with_reducible assumption) | (with_reducible refine Ext.alloc ?_ _) | (with_reducible refine Ext.drew ?_) | (with_reducible refine Ext.drewN ?_ _) | ((with_reducible apply Ext.setCell); (case hp => first | omega | (simp; done) | (simp; omega))) | (with_reducible refine Ext.trans ?_ (by assumption))))
      have s2 := hb.size; (try simp at s2)
      have s1 := E1.size
      have O2 : Obj w2 w1.heap.size w2.heap.size (encTable x0) [.slice p1 x0.fPeers.length q1, .int .i64 x0.fTurn] := O
      have HO := Lib.hid O2
      clear hb E1 O O2
      go_wp2
      refine wp_loop_rounds 1 ?_
      rw [rounds_succ]
      go_wp2_with (go_at_call 89; refine (l10Time_any _ _).mono ?_; rintro e w' ⟨rfl, rfl⟩)
      all_goals first
        | exact bodyPost_ret (v := .tuple #[.agg #[.slice p1 x0.fPeers.length q1, .int .i64 x0.fTurn], .int .i64 0]) (by simp [results, Try.results22, go_sem, c1, l1]) rfl ⟨p1, q1, by rw [E.out], by rw [E.out]; exact Obj.mono (lo := w1.heap.size) (hi := w2.heap.size) (show Obj _ _ _ (encTable x0) _ from by have A := HO.out; (repeat (first | (with_reducible assumption) | (with_reducible apply Obj.alloc) | (with_reducible apply Obj.drew) | (with_reducible apply Obj.drewN) | ((with_reducible apply Obj.set); (case hk => first | omega | (simp; done) | (simp; omega) | (left; simp; omega) | (right; simp; omega))) | (with_reducible refine Obj.ext ?_ (by assumption))))) (by (first | omega | (simp; done) | (simp; omega))) (by (first | omega | (simp; done) | (simp; omega))), by (repeat (first | (with_reducible exact Ext.refl _) | (with_reducible assumption) | (with_reducible refine Ext.alloc ?_ _) | (with_reducible refine Ext.drew ?_) | (with_reducible refine Ext.drewN ?_ _) | ((with_reducible apply Ext.setCell); (case hp => first | omega | (simp; done) | (simp; omega))) | (with_reducible refine Ext.trans ?_ (by assumption))))⟩
        | (exfalso; have := HR.out; simp_all)
  · have E := Lib.hid (next_bad (now := x1) (by simpa using hok))
    have hok' : tableOk x0 = false := by simpa using hok
    clear hok
    go_enter Try.func22, Try.ntmps22
    go_wp2_with fail
    (refine (sTableOk_any x0 _ _ _ (h0.ext (by (repeat (first | (with_reducible exact Ext.refl _) | (with_reducible assumption) | (with_reducible refine Ext.alloc ?_ _) | (with_reducible refine Ext.drew ?_) | (with_reducible refine Ext.drewN ?_ _) | ((with_reducible apply Ext.setCell); (case hp => first | omega | (simp; done) | (simp; omega))) | (with_reducible refine Ext.trans ?_ (by assumption))))))).mono ?_); rintro e w1 ⟨rfl, hb⟩; (obtain ⟨B0, c0, f0, l0⟩ := Box.after (k := w.heap.size) hb (by (repeat (first | (with_reducible assumption) | ((with_reducible apply Box.new); (first | (with_reducible rfl) | (simp; done) | (simp; omega))) | (with_reducible apply Box.alloc) | (with_reducible apply Box.drew) | (with_reducible apply Box.drewN) | (with_reducible apply Box.set) | ((with_reducible apply Box.set_ne); (case hne => first | omega | (simp; done) | (simp; omega))))))); (obtain ⟨B1, c1, f1, l1⟩ := Box.after (k := w.heap.size + 1) hb (by (repeat (first | (with_reducible assumption) | ((with_reducible apply Box.new); (first | (with_reducible rfl) | (simp; done) | (simp; omega))) | (with_reducible apply Box.alloc) | (with_reducible apply Box.drew) | (with_reducible apply Box.drewN) | (with_reducible apply Box.set) | ((with_reducible apply Box.set_ne); (case hne => first | omega | (simp; done) | (simp; omega)))))))
    go_wp2
    exact bodyPost_ret (v := .tuple #[.agg #[.slice none 0 0, .int .i64 0], .int .i64 0]) (by simp [results, Try.results22, go_sem, c1]) rfl ⟨none, 0, by rw [E.out]; rfl, by rw [E.out]; exact objT (lo := w.heap.size) obj_nilS (Nat.le_refl _), by (repeat (first | (with_reducible exact Ext.refl _) | (with_reducible assumption) | (with_reducible refine Ext.alloc ?_ _) | (with_reducible refine Ext.drew ?_) | (with_reducible refine Ext.drewN ?_ _) | ((with_reducible apply Ext.setCell); (case hp => first | omega | (simp; done) | (simp; omega))) | (with_reducible refine Ext.trans ?_ (by assumption))))⟩
theorem mPeerNext_cnt (x0 : GTable) (x1 : Int) (h : szL (encTable x0) ≤ 1048576) : cntT (encTable (mPeerNext x0 x1).1) ≤ 1000000000000 := by
  have h1 := tcnt (mPeerNext x0 x1).1
  have h2 := tz h
  have h3 : (mPeerNext x0 x1).1.fPeers.length ≤ x0.fPeers.length := by
    unfold mPeerNext
    split
    · split <;> simp
    · simp
  omega
end Go.Proofs.Ytbenfbmoagfboaa

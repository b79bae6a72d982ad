/- The walk of a block. -/
import Derived.Test.YtmdjnohdkhepjaaDoorS1
import Derived.Test.YtmdjnohdkhepjaaDoorI1
import Derived.BigRegion
import Derived.Deep.LoopGhost
import Derived.Handy
import Derived.BigGuardPart
import Derived.RegionTactic
namespace Go.Proofs.YtmdjnohdkhepjaaDoor
set_option linter.unusedSimpArgs false
set_option linter.unusedVariables false
open Go.RowKit

set_option maxRecDepth 100000 in
set_option maxHeartbeats 4000000 in
theorem shaBlock_any (v : HSt) (s : ByteArray) (w : World) (hs : s.size = 64) (ht : ShaTab w) :
    Calls Tryd.prog 81 #[.agg (cellsS v), .string s] w fun e w' => e = .returned (.agg (cellsS (blk v s 0))) ∧ Ext w w' := by
  have hs1 : (64 : Int) ≤ (s.size : Int) := by omega
  have HS := Lib.hid hs
  have HT := Lib.hid ht
  clear hs ht
  unfold cellsS
  go_enter Tryd.func81, Tryd.ntmps81
  go_wp2
  go_loopg [22] 16 (fun g i wr => ∃ k : Nat, k ≤ 16 ∧ g = 16 - k ∧ i = .int .i64 k ∧ Ext w wr ∧ Box wr w.heap.size (cellsS v) ∧ Box wr (w.heap.size + 1) (arrW (List.replicate 8 0)) ∧ Box wr (w.heap.size + 1 + 1) (arrW (wrow s 0 k)))
  case atStart => exact ⟨0, by omega, by omega, rfl, by (repeat (first | (with_reducible exact Ext.refl _) | (with_reducible assumption) | (with_reducible refine Ext.alloc ?_ _) | (with_reducible refine Ext.drew ?_) | (with_reducible refine Ext.drewN ?_ _) | ((with_reducible apply Ext.setCell); (case hp => first | omega | (simp; done) | (simp; omega))) | (with_reducible refine Ext.trans ?_ (by assumption)))), (show Box _ w.heap.size #[.int .u32 (u v.a), .int .u32 (u v.b), .int .u32 (u v.c), .int .u32 (u v.d), .int .u32 (u v.e), .int .u32 (u v.f), .int .u32 (u v.g), .int .u32 (u v.h)] from by (repeat (first | (with_reducible assumption) | ((with_reducible apply Box.new); (first | (with_reducible rfl) | (simp; done) | (simp; omega))) | (with_reducible apply Box.alloc) | (with_reducible apply Box.drew) | (with_reducible apply Box.drewN) | (with_reducible apply Box.set) | ((with_reducible apply Box.set_ne); (case hne => first | omega | (simp; done) | (simp; omega)))))), (show Box _ (w.heap.size + 1) #[.int .u32 0, .int .u32 0, .int .u32 0, .int .u32 0, .int .u32 0, .int .u32 0, .int .u32 0, .int .u32 0] from by (repeat (first | (with_reducible assumption) | ((with_reducible apply Box.new); (first | (with_reducible rfl) | (simp; done) | (simp; omega))) | (with_reducible apply Box.alloc) | (with_reducible apply Box.drew) | (with_reducible apply Box.drewN) | (with_reducible apply Box.set) | ((with_reducible apply Box.set_ne); (case hne => first | omega | (simp; done) | (simp; omega)))))), (show Box _ (w.heap.size + 1 + 1) #[.int .u32 0, .int .u32 0, .int .u32 0, .int .u32 0, .int .u32 0, .int .u32 0, .int .u32 0, .int .u32 0, .int .u32 0, .int .u32 0, .int .u32 0, .int .u32 0, .int .u32 0, .int .u32 0, .int .u32 0, .int .u32 0, .int .u32 0, .int .u32 0, .int .u32 0, .int .u32 0, .int .u32 0, .int .u32 0, .int .u32 0, .int .u32 0, .int .u32 0, .int .u32 0, .int .u32 0, .int .u32 0, .int .u32 0, .int .u32 0, .int .u32 0, .int .u32 0, .int .u32 0, .int .u32 0, .int .u32 0, .int .u32 0, .int .u32 0, .int .u32 0, .int .u32 0, .int .u32 0, .int .u32 0, .int .u32 0, .int .u32 0, .int .u32 0, .int .u32 0, .int .u32 0, .int .u32 0, .int .u32 0, .int .u32 0, .int .u32 0, .int .u32 0, .int .u32 0, .int .u32 0, .int .u32 0, .int .u32 0, .int .u32 0, .int .u32 0, .int .u32 0, .int .u32 0, .int .u32 0, .int .u32 0, .int .u32 0, .int .u32 0, .int .u32 0] from by (repeat (first | (with_reducible assumption) | ((with_reducible apply Box.new); (first | (with_reducible rfl) | (simp; done) | (simp; omega))) | (with_reducible apply Box.alloc) | (with_reducible apply Box.drew) | (with_reducible apply Box.drewN) | (with_reducible apply Box.set) | ((with_reducible apply Box.set_ne); (case hne => first | omega | (simp; done) | (simp; omega))))))⟩
  case round =>
    obtain ⟨k, hk, hg, rfl, hE, hB0, hB1, hB2⟩ := hrel
    have HG := Lib.hid hg; clear hg
    by_cases hlt : k < 16
    · obtain ⟨c2, f2, l2⟩ := hB2.rules
      obtain ⟨y, hy⟩ : ∃ y, (wrow s 0 k)[k]? = some y := ⟨_, List.getElem?_eq_getElem (by rw [wrow_len s 0 k (by omega)]; omega)⟩
      have q0 : wr.cell? ⟨w.heap.size + 1 + 1, k, none⟩ = some (.int .u32 (u y)) := (c2 k).trans (arrW_get hy)
      have HN := Lib.hid (show (wrow s 0 k).set k (wordAt s (4 * k)) = wrow s 0 (k + 1) from by rw [← wrow_set s 0 k (by omega)]; congr 1; rw [wl, List.getD_eq_getElem?_getD, List.getElem?_append_right (by rw [wl_len]; omega), wl_len]; simp [hlt])
      have HZ := Lib.hid (wordAt_cut s (4 * k) (by have := HS.out; omega))
      have hf2 := f2 k
      clear hy c2 f2
      have k1 : (4 : Int) * (k : Int) ≤ (s.size : Int) := by omega
      go_wp2_with fail
      (refine (word_any (s.extract (4 * k) s.size) _ (by have := HS.out; rw [ByteArray.size_extract]; omega)).mono ?_); rw [HZ.out]; rintro e w' ⟨n, rfl, rfl⟩
      go_wp2
      go_roundg (16 - (k + 1))
      case measure => rw [HG.out]; omega
      case rel => exact ⟨k + 1, by omega, rfl, by go_num, by (repeat (first | (with_reducible exact Ext.refl _) | (with_reducible assumption) | (with_reducible refine Ext.alloc ?_ _) | (with_reducible refine Ext.drew ?_) | (with_reducible refine Ext.drewN ?_ _) | ((with_reducible apply Ext.setCell); (case hp => first | omega | (simp; done) | (simp; omega))) | (with_reducible refine Ext.trans ?_ (by assumption)))), by (repeat (first | (with_reducible assumption) | ((with_reducible apply Box.new); (first | (with_reducible rfl) | (simp; done) | (simp; omega))) | (with_reducible apply Box.alloc) | (with_reducible apply Box.drew) | (with_reducible apply Box.drewN) | (with_reducible apply Box.set) | ((with_reducible apply Box.set_ne); (case hne => first | omega | (simp; done) | (simp; omega))))), by (repeat (first | (with_reducible assumption) | ((with_reducible apply Box.new); (first | (with_reducible rfl) | (simp; done) | (simp; omega))) | (with_reducible apply Box.alloc) | (with_reducible apply Box.drew) | (with_reducible apply Box.drewN) | (with_reducible apply Box.set) | ((with_reducible apply Box.set_ne); (case hne => first | omega | (simp; done) | (simp; omega))))), by have h := (hB2.drewN n).set (o := k) (.int .u32 (u (wordAt s (4 * k)))); rw [arrW_set, HN.out] at h; exact h⟩
    · obtain rfl : k = 16 := by omega
      obtain ⟨wo, hwo⟩ : ∃ wo : World, wo = wr := ⟨_, rfl⟩
      subst hwo
      have F0 := Lib.hid (⟨hE, hB0, hB1, hB2⟩ : Ext w wo ∧ Box wo w.heap.size (cellsS v) ∧ Box wo (w.heap.size + 1) (arrW (List.replicate 8 0)) ∧ Box wo (w.heap.size + 1 + 1) (arrW (wrow s 0 16)))
      clear hE hB0 hB1 hB2
      go_wp2
      go_loopg [7] 48 (fun g i wr => ∃ k : Nat, 16 ≤ k ∧ k ≤ 64 ∧ g = 64 - k ∧ i = .int .i64 k ∧ Ext w wr ∧ Box wr w.heap.size (cellsS v) ∧ Box wr (w.heap.size + 1) (arrW (List.replicate 8 0)) ∧ Box wr (w.heap.size + 1 + 1) (arrW (wrow s 0 k)))
      case atStart => exact ⟨16, by omega, by omega, by omega, rfl, F0.out⟩
      case round =>
        clear F0
        obtain ⟨k, hk0, hk, hg, rfl, hE, hB0, hB1, hB2⟩ := hrel
        have HG := Lib.hid hg; clear hg
        by_cases hlt : k < 64
        · obtain ⟨c2, f2, l2⟩ := hB2.rules
          obtain ⟨y, hy⟩ : ∃ y, (wrow s 0 k)[k]? = some y := ⟨_, List.getElem?_eq_getElem (by rw [wrow_len s 0 k (by omega)]; omega)⟩
          have q0 : wr.cell? ⟨w.heap.size + 1 + 1, k, none⟩ = some (.int .u32 (u y)) := (c2 k).trans (arrW_get hy)
          obtain ⟨a15, h15⟩ : ∃ a, a = (wl s 0 k).getD (k - 15) 0 := ⟨_, rfl⟩
          obtain ⟨a2, h2⟩ : ∃ a, a = (wl s 0 k).getD (k - 2) 0 := ⟨_, rfl⟩
          obtain ⟨a16, h16⟩ : ∃ a, a = (wl s 0 k).getD (k - 16) 0 := ⟨_, rfl⟩
          obtain ⟨a7, h7⟩ : ∃ a, a = (wl s 0 k).getD (k - 7) 0 := ⟨_, rfl⟩
          have q15 : wr.cell? ⟨w.heap.size + 1 + 1, k - 15, none⟩ = some (.int .u32 (u a15)) := (c2 _).trans (arrW_get (by rw [h15]; exact wrow_get s 0 k _ (by omega)))
          have q2 : wr.cell? ⟨w.heap.size + 1 + 1, k - 2, none⟩ = some (.int .u32 (u a2)) := (c2 _).trans (arrW_get (by rw [h2]; exact wrow_get s 0 k _ (by omega)))
          have q16 : wr.cell? ⟨w.heap.size + 1 + 1, k - 16, none⟩ = some (.int .u32 (u a16)) := (c2 _).trans (arrW_get (by rw [h16]; exact wrow_get s 0 k _ (by omega)))
          have q7 : wr.cell? ⟨w.heap.size + 1 + 1, k - 7, none⟩ = some (.int .u32 (u a7)) := (c2 _).trans (arrW_get (by rw [h7]; exact wrow_get s 0 k _ (by omega)))
          have hf2 := f2 k
          have HN := Lib.hid (show (wrow s 0 k).set k (a16 + sg0 a15 + a7 + sg1 a2) = wrow s 0 (k + 1) from by rw [← wrow_set s 0 k (by omega)]; congr 1; rw [wl, List.getD_eq_getElem?_getD, List.getElem?_append_right (by rw [wl_len]; omega), wl_len, h15, h2, h16, h7]; simp [show ¬ k < 16 by omega])
          clear hy c2 f2 h15 h2 h16 h7
          have e15 : (0 : Int) ≤ (k : Int) - 15 := by omega
          have e2 : (0 : Int) ≤ (k : Int) - 2 := by omega
          have e16 : (0 : Int) ≤ (k : Int) - 16 := by omega
          have e7 : (0 : Int) ≤ (k : Int) - 7 := by omega
          have t15 : ((k : Int) - 15).toNat = k - 15 := by omega
          have t2 : ((k : Int) - 2).toNat = k - 2 := by omega
          have t16 : ((k : Int) - 16).toNat = k - 16 := by omega
          have t7 : ((k : Int) - 7).toNat = k - 7 := by omega
          have w15 : IntKind.i64.wrap ((k : Int) - 15) = (k : Int) - 15 := IntWalk.i64_in _ (by omega)
          have w2 : IntKind.i64.wrap ((k : Int) - 2) = (k : Int) - 2 := IntWalk.i64_in _ (by omega)
          have w16 : IntKind.i64.wrap ((k : Int) - 16) = (k : Int) - 16 := IntWalk.i64_in _ (by omega)
          have w7 : IntKind.i64.wrap ((k : Int) - 7) = (k : Int) - 7 := IntWalk.i64_in _ (by omega)
          go_wp2
          go_region
          all_goals
            have R1 := xor_u
            go_wp2_with fail
            (refine (rot_any a15 7 _ (by omega) (by omega)).mono ?_); rintro e w' ⟨rfl, rfl⟩
            go_wp2_with fail
            (refine (rot_any a15 18 _ (by omega) (by omega)).mono ?_); rintro e w' ⟨rfl, rfl⟩
            go_wp2_with fail
            (refine (rot_any a2 17 _ (by omega) (by omega)).mono ?_); rintro e w' ⟨rfl, rfl⟩
            go_wp2_with fail
            (refine (rot_any a2 19 _ (by omega) (by omega)).mono ?_); rintro e w' ⟨rfl, rfl⟩
            go_wp2
            go_region
            all_goals
              go_wp2
              go_roundg (64 - (k + 1))
              case measure => rw [HG.out]; omega
              case rel => exact ⟨k + 1, by omega, by omega, rfl, by go_num, by (repeat (first | (with_reducible exact Ext.refl _) | (with_reducible assumption) | (with_reducible refine Ext.alloc ?_ _) | (with_reducible refine Ext.drew ?_) | (with_reducible refine Ext.drewN ?_ _) | ((with_reducible apply Ext.setCell); (case hp => first | omega | (simp; done) | (simp; omega))) | (with_reducible refine Ext.trans ?_ (by assumption)))), by (repeat (first | (with_reducible assumption) | ((with_reducible apply Box.new); (first | (with_reducible rfl) | (simp; done) | (simp; omega))) | (with_reducible apply Box.alloc) | (with_reducible apply Box.drew) | (with_reducible apply Box.drewN) | (with_reducible apply Box.set) | ((with_reducible apply Box.set_ne); (case hne => first | omega | (simp; done) | (simp; omega))))), by (repeat (first | (with_reducible assumption) | ((with_reducible apply Box.new); (first | (with_reducible rfl) | (simp; done) | (simp; omega))) | (with_reducible apply Box.alloc) | (with_reducible apply Box.drew) | (with_reducible apply Box.drewN) | (with_reducible apply Box.set) | ((with_reducible apply Box.set_ne); (case hne => first | omega | (simp; done) | (simp; omega))))), by have h := hB2.set (o := k) (.int .u32 (u (a16 + sg0 a15 + a7 + sg1 a2))); rw [arrW_set, HN.out, ← sched_eq] at h; exact h⟩
        · obtain rfl : k = 64 := by omega
          obtain ⟨w4, hw4⟩ : ∃ wo : World, wo = wr := ⟨_, rfl⟩
          subst hw4
          have F0 := Lib.hid (⟨hE, hB0, hB1, hB2⟩ : Ext w w4 ∧ Box w4 w.heap.size (cellsS v) ∧ Box w4 (w.heap.size + 1) (arrW (List.replicate 8 0)) ∧ Box w4 (w.heap.size + 1 + 1) (arrW (wrow s 0 64)))
          obtain ⟨c0, f0, l0⟩ := hB0.rules
          unfold cellsS at c0
          clear hE hB0 hB1 hB2
          rw [wrow_64] at F0
          go_wp2
          go_loopg [77] 64 (fun g i wr => ∃ k : Nat, k ≤ 64 ∧ g = 64 - k ∧ i = .int .i64 k ∧ Ext w wr ∧ Box wr w.heap.size (cellsS v) ∧ Box wr (w.heap.size + 1) (arrW (List.replicate 8 0)) ∧ Box wr (w.heap.size + 1 + 1) (arrW (wl s 0 64)) ∧ Box wr w4.heap.size (cellsS (rnds v (wl s 0 64) k)))
          case atStart =>
            obtain ⟨g1, g2, g3, g4⟩ := F0.out
            exact ⟨0, by omega, by omega, rfl, by (repeat (first | (with_reducible exact Ext.refl _) | (with_reducible assumption) | (with_reducible refine Ext.alloc ?_ _) | (with_reducible refine Ext.drew ?_) | (with_reducible refine Ext.drewN ?_ _) | ((with_reducible apply Ext.setCell); (case hp => first | omega | (simp; done) | (simp; omega))) | (with_reducible refine Ext.trans ?_ (by assumption)))), by (repeat (first | (with_reducible assumption) | ((with_reducible apply Box.new); (first | (with_reducible rfl) | (simp; done) | (simp; omega))) | (with_reducible apply Box.alloc) | (with_reducible apply Box.drew) | (with_reducible apply Box.drewN) | (with_reducible apply Box.set) | ((with_reducible apply Box.set_ne); (case hne => first | omega | (simp; done) | (simp; omega))))), by (repeat (first | (with_reducible assumption) | ((with_reducible apply Box.new); (first | (with_reducible rfl) | (simp; done) | (simp; omega))) | (with_reducible apply Box.alloc) | (with_reducible apply Box.drew) | (with_reducible apply Box.drewN) | (with_reducible apply Box.set) | ((with_reducible apply Box.set_ne); (case hne => first | omega | (simp; done) | (simp; omega))))), by (repeat (first | (with_reducible assumption) | ((with_reducible apply Box.new); (first | (with_reducible rfl) | (simp; done) | (simp; omega))) | (with_reducible apply Box.alloc) | (with_reducible apply Box.drew) | (with_reducible apply Box.drewN) | (with_reducible apply Box.set) | ((with_reducible apply Box.set_ne); (case hne => first | omega | (simp; done) | (simp; omega))))), (show Box _ w4.heap.size #[.int .u32 (u v.a), .int .u32 (u v.b), .int .u32 (u v.c), .int .u32 (u v.d), .int .u32 (u v.e), .int .u32 (u v.f), .int .u32 (u v.g), .int .u32 (u v.h)] from by (repeat (first | (with_reducible assumption) | ((with_reducible apply Box.new); (first | (with_reducible rfl) | (simp; done) | (simp; omega))) | (with_reducible apply Box.alloc) | (with_reducible apply Box.drew) | (with_reducible apply Box.drewN) | (with_reducible apply Box.set) | ((with_reducible apply Box.set_ne); (case hne => first | omega | (simp; done) | (simp; omega))))))⟩
          case round =>
            clear c0 f0
            obtain ⟨k, hk, hg, rfl, hE, hB0, hB1, hB2, hB3⟩ := hrel
            have HG := Lib.hid hg; clear hg
            by_cases hlt : k < 64
            · obtain ⟨st, hst⟩ : ∃ st, st = rnds v (wl s 0 64) k := ⟨_, rfl⟩
              rw [← hst] at hB3
              have HST := Lib.hid hst; clear hst
              have s4 := F0.out.2.2.2.lt
              obtain ⟨c3, f3, l3⟩ := hB3.rules
              unfold cellsS at c3
              obtain ⟨ww, hww⟩ : ∃ ww, ww = (wl s 0 64).getD k 0 := ⟨_, rfl⟩
              obtain ⟨kk, hkk⟩ : ∃ kk, kk = shaK.getD k 0 := ⟨_, rfl⟩
              have qw : wr.cell? ⟨w.heap.size + 1 + 1, k, none⟩ = some (.int .u32 (u ww)) := (hB2.cell k).trans (arrW_get (by rw [hww, List.getD_eq_getElem?_getD, List.getElem?_eq_getElem (by rw [wl_len]; exact hlt)]; rfl))
              have qk : wr.cell? ⟨0, k, none⟩ = some (.int .u32 (u kk)) := by rw [hkk]; exact (HT.out.ext hE) k hlt
              have HN := Lib.hid (show rnds v (wl s 0 64) (k + 1) = rnd st kk ww from by rw [rnds, ← HST.out, hkk, hww])
              clear hww hkk
              have k0 : (0 : Int) ≤ (k : Int) := by omega
              have k1 : (k : Int) < 64 := by omega
              go_wp2
              go_region
              all_goals
                go_wp2_with fail
                (refine (rot_any st.e 6 _ (by omega) (by omega)).mono ?_); rintro e w' ⟨rfl, rfl⟩
                go_wp2_with fail
                (refine (rot_any st.e 11 _ (by omega) (by omega)).mono ?_); rintro e w' ⟨rfl, rfl⟩
                go_wp2_with fail
                (refine (rot_any st.e 25 _ (by omega) (by omega)).mono ?_); rintro e w' ⟨rfl, rfl⟩
                go_wp2
                go_region
                all_goals
                  go_wp2_with fail
                  (refine (rot_any st.a 2 _ (by omega) (by omega)).mono ?_); rintro e w' ⟨rfl, rfl⟩
                  go_wp2_with fail
                  (refine (rot_any st.a 13 _ (by omega) (by omega)).mono ?_); rintro e w' ⟨rfl, rfl⟩
                  go_wp2_with fail
                  (refine (rot_any st.a 22 _ (by omega) (by omega)).mono ?_); rintro e w' ⟨rfl, rfl⟩
                  go_wp2
                  go_roundg (64 - (k + 1))
                  case measure => rw [HG.out]; omega
                  case rel => exact ⟨k + 1, by omega, rfl, by go_num, by (repeat (first | (with_reducible exact Ext.refl _) | (with_reducible assumption) | (with_reducible refine Ext.alloc ?_ _) | (with_reducible refine Ext.drew ?_) | (with_reducible refine Ext.drewN ?_ _) | ((with_reducible apply Ext.setCell); (case hp => first | omega | (simp; done) | (simp; omega))) | (with_reducible refine Ext.trans ?_ (by assumption)))), by (repeat (first | (with_reducible assumption) | ((with_reducible apply Box.new); (first | (with_reducible rfl) | (simp; done) | (simp; omega))) | (with_reducible apply Box.alloc) | (with_reducible apply Box.drew) | (with_reducible apply Box.drewN) | (with_reducible apply Box.set) | ((with_reducible apply Box.set_ne); (case hne => first | omega | (simp; done) | (simp; omega))))), by (repeat (first | (with_reducible assumption) | ((with_reducible apply Box.new); (first | (with_reducible rfl) | (simp; done) | (simp; omega))) | (with_reducible apply Box.alloc) | (with_reducible apply Box.drew) | (with_reducible apply Box.drewN) | (with_reducible apply Box.set) | ((with_reducible apply Box.set_ne); (case hne => first | omega | (simp; done) | (simp; omega))))), by (repeat (first | (with_reducible assumption) | ((with_reducible apply Box.new); (first | (with_reducible rfl) | (simp; done) | (simp; omega))) | (with_reducible apply Box.alloc) | (with_reducible apply Box.drew) | (with_reducible apply Box.drewN) | (with_reducible apply Box.set) | ((with_reducible apply Box.set_ne); (case hne => first | omega | (simp; done) | (simp; omega))))), by rw [HN.out]; (repeat (with_reducible apply Box.drew)); exact box8 hB3 (rnd_a st kk ww) (rnd_e st kk ww)⟩
            · obtain rfl : k = 64 := by omega
              have s4 := F0.out.2.2.2.lt
              obtain ⟨w5, hw5⟩ : ∃ wo : World, wo = wr := ⟨_, rfl⟩
              subst hw5
              obtain ⟨r, hr⟩ : ∃ r, r = rnds v (wl s 0 64) 64 := ⟨_, rfl⟩
              rw [← hr] at hB3
              have HR := Lib.hid hr
              rw [← addL_start v r] at hB0
              rw [← arrW_listS] at hB3
              have F1 := Lib.hid (⟨hE, hB0, hB1, hB3⟩ : Ext w w5 ∧ Box w5 w.heap.size (arrW (addL v r 0)) ∧ Box w5 (w.heap.size + 1) (arrW (List.replicate 8 0)) ∧ Box w5 w4.heap.size (arrW (listS r)))
              clear hE hB0 hB1 hB2 hB3 hr
              go_wp2
              go_loopg [162] 8 (fun g i wr => ∃ k : Nat, k ≤ 8 ∧ g = 8 - k ∧ i = .int .i64 k ∧ Ext w wr ∧ Box wr w.heap.size (arrW (addL v r k)) ∧ Box wr (w.heap.size + 1) (arrW (List.replicate 8 0)) ∧ Box wr w4.heap.size (arrW (listS r)))
              case atStart => exact ⟨0, by omega, by omega, rfl, F1.out⟩
              case round =>
                clear F1
                obtain ⟨k, hk, hg, rfl, hE, hB0, hB1, hB3⟩ := hrel
                have HG := Lib.hid hg; clear hg
                by_cases hlt : k < 8
                · obtain ⟨m1, m2, m3⟩ := addL_step v r k hlt
                  obtain ⟨xx, hxx⟩ : ∃ x, x = (listS v).getD k 0 := ⟨_, rfl⟩
                  obtain ⟨yy, hyy⟩ : ∃ x, x = (listS r).getD k 0 := ⟨_, rfl⟩
                  rw [← hxx] at m1 m3
                  rw [← hyy] at m2 m3
                  have qx : wr.cell? ⟨w.heap.size, k, none⟩ = some (.int .u32 (u xx)) := (hB0.cell k).trans (arrW_get m1)
                  have qy : wr.cell? ⟨w4.heap.size, k, none⟩ = some (.int .u32 (u yy)) := (hB3.cell k).trans (arrW_get m2)
                  have hf := hB0.frozen k
                  have HN := Lib.hid m3
                  clear m1 m2 m3 hxx hyy
                  have k0 : (0 : Int) ≤ (k : Int) := by omega
                  have k1 : (k : Int) < 8 := by omega
                  go_wp2
                  go_region
                  all_goals
                    go_wp2
                    go_roundg (8 - (k + 1))
                    case measure => rw [HG.out]; omega
                    case rel => exact ⟨k + 1, by omega, rfl, by go_num, by (repeat (first | (with_reducible exact Ext.refl _) | (with_reducible assumption) | (with_reducible refine Ext.alloc ?_ _) | (with_reducible refine Ext.drew ?_) | (with_reducible refine Ext.drewN ?_ _) | ((with_reducible apply Ext.setCell); (case hp => first | omega | (simp; done) | (simp; omega))) | (with_reducible refine Ext.trans ?_ (by assumption)))), by have h := hB0.set (o := k) (.int .u32 (u (xx + yy))); rw [arrW_set, HN.out, ← fold_add] at h; exact h, by (repeat (first | (with_reducible assumption) | ((with_reducible apply Box.new); (first | (with_reducible rfl) | (simp; done) | (simp; omega))) | (with_reducible apply Box.alloc) | (with_reducible apply Box.drew) | (with_reducible apply Box.drewN) | (with_reducible apply Box.set) | ((with_reducible apply Box.set_ne); (case hne => first | omega | (simp; done) | (simp; omega))))), by (repeat (first | (with_reducible assumption) | ((with_reducible apply Box.new); (first | (with_reducible rfl) | (simp; done) | (simp; omega))) | (with_reducible apply Box.alloc) | (with_reducible apply Box.drew) | (with_reducible apply Box.drewN) | (with_reducible apply Box.set) | ((with_reducible apply Box.set_ne); (case hne => first | omega | (simp; done) | (simp; omega)))))⟩
                · obtain rfl : k = 8 := by omega
                  rw [addL_end] at hB0
                  replace hB1 : Box wr (w.heap.size + 1) #[.int .u32 0, .int .u32 0, .int .u32 0, .int .u32 0, .int .u32 0, .int .u32 0, .int .u32 0, .int .u32 0] := hB1
                  obtain ⟨c0, f0, l0'⟩ := hB0.rules
                  obtain ⟨c1, f1, l1⟩ := hB1.rules
                  unfold cellsS at c0
                  clear hB3
                  go_wp2
                  exact bodyPost_ret (v := .agg (cellsS (addS v r))) (by simp [results, Tryd.results81, go_sem, c1, cellsS]) rfl (And.intro (by unfold blk cellsS; rw [HR.out]) (by (repeat (first | (with_reducible exact Ext.refl _) | (with_reducible assumption) | (with_reducible refine Ext.alloc ?_ _) | (with_reducible refine Ext.drew ?_) | (with_reducible refine Ext.drewN ?_ _) | ((with_reducible apply Ext.setCell); (case hp => first | omega | (simp; done) | (simp; omega))) | (with_reducible refine Ext.trans ?_ (by assumption))))))
end Go.Proofs.YtmdjnohdkhepjaaDoor

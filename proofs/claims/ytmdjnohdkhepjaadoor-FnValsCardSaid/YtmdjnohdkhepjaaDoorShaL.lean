/- The other walk of a block: its small parts, and the first two loops. -/
import Derived.Test.YtmdjnohdkhepjaaDoorS1
import Derived.Test.YtmdjnohdkhepjaaDoorI1
import Derived.OwnWalk
import Derived.Deep.RegionLaw
import Derived.BigRegion
import Derived.RegionTactic
import Derived.Deep.LoopGhost
import Derived.Handy
import Derived.BigGuardPart
import Derived.StillTailTactics
import Derived.Deep.QuietTactic
import Derived.BigQuiet
namespace Go.Proofs.YtmdjnohdkhepjaaDoor
set_option linter.unusedSimpArgs false
set_option linter.unusedVariables false
open Go.RowKit

theorem quiet_add_same {P : Program} {f : FuncId} {args : Array Value} {w : World} {a n : Nat} {v : Value}
    (h : Calls P f args (w.drewN (a + n)) fun e w' => e = .returned v ∧ w' = w.drewN (a + n)) :
    Calls P f args (w.drewN (a + n)) fun e w'' => e = .returned v ∧ ∃ m, w'' = w.drewN (a + m) :=
  h.mono fun _ _ ⟨he, hw⟩ => ⟨he, n, hw⟩
theorem l3RightI_any (x : W32) (m : Int) (w : World) (h0 : 1 ≤ m) (h1 : m ≤ 31) :
    Calls Tryd.prog 102 #[.int .i64 (u x), .int .u64 m] w fun e w' => e = .returned (.int .i64 (u (rotr x m.toNat))) ∧ w' = w := by
  obtain ⟨n, rfl⟩ := Int.eq_ofNat_of_zero_le (show 0 ≤ m by omega)
  exact (l3Right_any x n w (by omega) (by omega)).mono fun _ _ ⟨a, b⟩ => ⟨a, b.symm⟩
theorem l3Word_is {n : Int} {x : W32} (w : World) (h0 : -9223372036854775808 ≤ n) (h1 : n ≤ 9223372036854775807) (h : wd n = x) :
    Calls Tryd.prog 103 #[.int .i64 n] w fun e w' => e = .returned (.int .i64 (u x)) ∧ w' = w :=
  (l3Word_any n w h0 h1).mono fun _ _ ⟨a, b⟩ => ⟨h ▸ a, b.symm⟩
theorem xsg0 (x : W32) : bits BinOp.xor IntKind.i64 (bits BinOp.xor IntKind.i64 (u (rotr x 7)) (u (rotr x 18))) (u x / 8) = u (sg0 x) := by
  rw [fold_shr3, xor_i, xor_i]; rfl
theorem xsg1 (x : W32) : bits BinOp.xor IntKind.i64 (bits BinOp.xor IntKind.i64 (u (rotr x 17)) (u (rotr x 19))) (u x / 1024) = u (sg1 x) := by
  rw [fold_shr10, xor_i, xor_i]; rfl
/-- Words as ints in a row of cells. -/
def vI (x : W32) : Value := .int .i64 (u x)
def arrI (l : List W32) : Array Value := (l.map vI).toArray
theorem arrI_get {l : List W32} {i : Nat} {x : W32} (h : l[i]? = some x) : (arrI l)[i]? = some (.int .i64 (u x)) := by simp [arrI, h, vI]
theorem arrI_set {l : List W32} {i : Nat} {x : W32} : (arrI l).setIfInBounds i (.int .i64 (u x)) = arrI (l.set i x) := by simp [arrI, List.map_set, vI]
def RowI (w : World) (b : Nat) (l : List W32) : Prop := ∀ i x, l[i]? = some x → w.cell? ⟨b, i, none⟩ = some (.int .i64 (u x))
theorem RowI.of_box {w : World} {b : Nat} {l : List W32} (h : Box w b (arrI l)) : RowI w b l := fun i _ hx => (h.cell i).trans (arrI_get hx)
theorem RowI.ext {w w' : World} {b : Nat} {l : List W32} (h : RowI w b l) (hb : Ext w w') : RowI w' b l := fun i x hx => (hb.cells.1 b i (World.block_lt_of_cell? w ⟨b, i, none⟩ (h i x hx))).trans (h i x hx)
theorem RowI.of_app {w : World} {b : Nat} {st : HSt} {z : Array Value} (h : Box w b (#[.int .i64 (u st.a), .int .i64 (u st.b), .int .i64 (u st.c), .int .i64 (u st.d), .int .i64 (u st.e), .int .i64 (u st.f), .int .i64 (u st.g), .int .i64 (u st.h)] ++ z)) : RowI w b (listS st) := by
  intro i x hx
  have hi : i < 8 := by have := (List.getElem?_eq_some_iff.1 hx).1; simpa [listS] using this
  rw [h.cell, Array.getElem?_append_left (by simpa using hi)]
  exact arrI_get hx
theorem l3Not (x : W32) : wd (bits .xor .i64 (if IntKind.i64.signed = true then -1 else 9223372036854775807) (u x)) = ~~~x := by
  rw [if_pos (by decide)]
  have e1 : (BitVec.ofInt 64 (u x)).toNat = x.toNat := by unfold u; simp only [BitVec.toNat_ofInt]; have := x.isLt; omega
  have e2 : BitVec.ofInt 64 (-1) = BitVec.allOnes 64 := by decide
  have e3 : (BitVec.allOnes 64 ^^^ BitVec.ofInt 64 (u x)) = ~~~ (BitVec.ofInt 64 (u x)) := by ext i hi; rw [BitVec.getElem_xor, BitVec.getElem_allOnes, BitVec.getElem_not]; cases (BitVec.ofInt 64 (u x))[i] <;> rfl
  show BitVec.ofInt 32 (IntKind.i64.wrap ((BitVec.ofInt 64 (-1) ^^^ BitVec.ofInt 64 (u x)).toNat : Int)) = _
  rw [e2, e3]
  apply BitVec.eq_of_toNat_eq
  rw [BitVec.toNat_not, BitVec.toNat_ofInt, BitVec.toNat_not, e1]
  have := x.isLt
  simp [IntKind.wrap, IntKind.signed, IntKind.bits]
  omega
theorem RowI.of_own {w : World} {base g n c : Nat} {e : TypeId} {l : List W32} (h : w.ownsRow base e 1 (.slice (some ⟨g, 0, none⟩) n c) n (l.map vI)) : RowI w g l := by
  rcases h.2 with ⟨hv, _⟩ | ⟨g', cap, cur, hv, hb, hg, h1, h2, h3, h4⟩
  · cases hv
  · cases hv
    intro i x hx
    have hi : i < l.length := (List.getElem?_eq_some_iff.1 hx).1
    have hl : l.length = n * 1 := by simpa using h.1
    have this : (cur.toList.take (n * 1))[i]? = some (vI x) := by rw [h4]; simp [hx]
    rw [List.getElem?_take, if_pos (by omega)] at this
    rw [cell_of_row w g _ cur e (0, 0) hg]
    simpa [vI] using this
theorem add8_get (v r : HSt) : ∀ k, k < 8 → ∃ x y, (listS v)[k]? = some x ∧ (listS r)[k]? = some y ∧ (listS (addS v r)).take (k + 1) = (listS (addS v r)).take k ++ [x + y]
  | 0, _ => ⟨_, _, rfl, rfl, rfl⟩ | 1, _ => ⟨_, _, rfl, rfl, rfl⟩ | 2, _ => ⟨_, _, rfl, rfl, rfl⟩ | 3, _ => ⟨_, _, rfl, rfl, rfl⟩
  | 4, _ => ⟨_, _, rfl, rfl, rfl⟩ | 5, _ => ⟨_, _, rfl, rfl, rfl⟩ | 6, _ => ⟨_, _, rfl, rfl, rfl⟩ | 7, _ => ⟨_, _, rfl, rfl, rfl⟩
  | n + 8, h => absurd h (by omega)
theorem own_less {w : World} {b b' sz n : Nat} {e : TypeId} {v : Value} {us : List Value} (hb : b ≤ b') (h : w.ownsRow b' e sz v n us) : w.ownsRow b e sz v n us :=
  ⟨h.1, h.2.imp id fun ⟨g, cap, cur, h1, h2, h3⟩ => ⟨g, cap, cur, h1, Nat.le_trans hb h2, h3⟩⟩
theorem infoI3 : (Tryd.prog.info? 3).map (fun i => (i.zero, i.size, i.bytes)) = some (some (.int .i64 0), 1, 8) := by kernel_rfl
theorem be4_at {s : ByteArray} {k : Nat} (h : k + 3 < s.size) : bits .or .i64 (bits .or .i64 (bits .or .i64 (((s[k]'(by omega)).toNat : Int) * 16777216) (((s[k + 1]'(by omega)).toNat : Int) * 65536)) (((s[k + 2]'(by omega)).toNat : Int) * 256)) ((s[k + 3]'(by omega)).toNat : Int) = u (wordAt s k) := by
  unfold wordAt
  rw [byte_getD (show k < s.size by omega), byte_getD (show k + 1 < s.size by omega), byte_getD (show k + 2 < s.size by omega), byte_getD h]
  exact be4_i64 (UInt8.toNat_lt _) (UInt8.toNat_lt _) (UInt8.toNat_lt _) (UInt8.toNat_lt _)
theorem be4w_at {s : ByteArray} {k : Nat} (h : k + 3 < s.size) : bits .or .i64 (bits .or .i64 (bits .or .i64 (wrap64 (wrap64 ((s[k]'(by omega)).toNat : Int) * 16777216)) (wrap64 (wrap64 ((s[k + 1]'(by omega)).toNat : Int) * 65536))) (wrap64 (wrap64 ((s[k + 2]'(by omega)).toNat : Int) * 256))) (wrap64 ((s[k + 3]'(by omega)).toNat : Int)) = u (wordAt s k) := by
  have b0 := UInt8.toNat_lt (s[k]'(by omega))
  have b1 := UInt8.toNat_lt (s[k + 1]'(by omega))
  have b2 := UInt8.toNat_lt (s[k + 2]'(by omega))
  have b3 := UInt8.toNat_lt (s[k + 3]'(by omega))
  rw [IntWalk.wrap64_in ((s[k]'(by omega)).toNat : Int) (by omega), IntWalk.wrap64_in ((s[k + 1]'(by omega)).toNat : Int) (by omega), IntWalk.wrap64_in ((s[k + 2]'(by omega)).toNat : Int) (by omega), IntWalk.wrap64_in ((s[k + 3]'(by omega)).toNat : Int) (by omega)]
  rw [IntWalk.wrap64_in (((s[k]'(by omega)).toNat : Int) * 16777216) (by omega), IntWalk.wrap64_in (((s[k + 1]'(by omega)).toNat : Int) * 65536) (by omega), IntWalk.wrap64_in (((s[k + 2]'(by omega)).toNat : Int) * 256) (by omega)]
  exact be4_at h

set_option maxRecDepth 100000 in
set_option maxHeartbeats 4000000 in
theorem l3Block_any (hv : HSt) (s : ByteArray) (bh ch bk ck : Nat) (w : World) (hs : s.size = 64) (hH : RowI w bh (listS hv)) (hK : RowI w bk shaK) :
    Calls Tryd.prog 83 #[.slice (some ⟨bh, 0, none⟩) 8 ch, .string s, .slice (some ⟨bk, 0, none⟩) 64 ck] w fun e w' => ∃ b c, e = .returned (.slice (some ⟨b, 0, none⟩) 8 c) ∧ w'.ownsRow w.heap.size 3 1 (.slice (some ⟨b, 0, none⟩) 8 c) 8 ((listS (blk hv s 0)).map vI) ∧ Ext w w' := by
  have hmk : ∀ w, (Instr.makeSlice 38 (.int .i64 64) (.int .i64 64)).run Tryd.prog w = .ok (.slice (some ⟨w.heap.size, 0, none⟩) 64 64) (w.alloc (.cells #[.int .i64 0, .int .i64 0, .int .i64 0, .int .i64 0, .int .i64 0, .int .i64 0, .int .i64 0, .int .i64 0, .int .i64 0, .int .i64 0, .int .i64 0, .int .i64 0, .int .i64 0, .int .i64 0, .int .i64 0, .int .i64 0, .int .i64 0, .int .i64 0, .int .i64 0, .int .i64 0, .int .i64 0, .int .i64 0, .int .i64 0, .int .i64 0, .int .i64 0, .int .i64 0, .int .i64 0, .int .i64 0, .int .i64 0, .int .i64 0, .int .i64 0, .int .i64 0, .int .i64 0, .int .i64 0, .int .i64 0, .int .i64 0, .int .i64 0, .int .i64 0, .int .i64 0, .int .i64 0, .int .i64 0, .int .i64 0, .int .i64 0, .int .i64 0, .int .i64 0, .int .i64 0, .int .i64 0, .int .i64 0, .int .i64 0, .int .i64 0, .int .i64 0, .int .i64 0, .int .i64 0, .int .i64 0, .int .i64 0, .int .i64 0, .int .i64 0, .int .i64 0, .int .i64 0, .int .i64 0, .int .i64 0, .int .i64 0, .int .i64 0, .int .i64 0] 3)) := fun _ => by kernel_rfl
  have hs1 : (64 : Int) ≤ (s.size : Int) := by omega
  have HS := Lib.hid hs
  have HH := Lib.hid hH
  have HK := Lib.hid hK
  clear hs hH hK
  go_enter Tryd.func83, Tryd.ntmps83
  go_wp2
  clear hmk
  go_loopg [8] 16 (fun g i wr => ∃ k : Nat, k ≤ 16 ∧ g = 16 - k ∧ i = .int .i64 k ∧ Ext w wr ∧ Box wr w.heap.size (arrI (wrow s 0 k)))
  case atStart => exact ⟨0, by omega, by omega, rfl, by (repeat (first | (with_reducible exact Ext.refl _) | (with_reducible assumption) | (with_reducible refine Ext.alloc ?_ _) | (with_reducible refine Ext.drew ?_) | (with_reducible refine Ext.drewN ?_ _) | ((with_reducible apply Ext.setCell); (case hp => first | omega | (simp; done) | (simp; omega))) | (with_reducible refine Ext.trans ?_ (by assumption)))), (show Box _ w.heap.size #[.int .i64 0, .int .i64 0, .int .i64 0, .int .i64 0, .int .i64 0, .int .i64 0, .int .i64 0, .int .i64 0, .int .i64 0, .int .i64 0, .int .i64 0, .int .i64 0, .int .i64 0, .int .i64 0, .int .i64 0, .int .i64 0, .int .i64 0, .int .i64 0, .int .i64 0, .int .i64 0, .int .i64 0, .int .i64 0, .int .i64 0, .int .i64 0, .int .i64 0, .int .i64 0, .int .i64 0, .int .i64 0, .int .i64 0, .int .i64 0, .int .i64 0, .int .i64 0, .int .i64 0, .int .i64 0, .int .i64 0, .int .i64 0, .int .i64 0, .int .i64 0, .int .i64 0, .int .i64 0, .int .i64 0, .int .i64 0, .int .i64 0, .int .i64 0, .int .i64 0, .int .i64 0, .int .i64 0, .int .i64 0, .int .i64 0, .int .i64 0, .int .i64 0, .int .i64 0, .int .i64 0, .int .i64 0, .int .i64 0, .int .i64 0, .int .i64 0, .int .i64 0, .int .i64 0, .int .i64 0, .int .i64 0, .int .i64 0, .int .i64 0, .int .i64 0] from by (repeat (first | (with_reducible assumption) | ((with_reducible apply Box.new); (first | (with_reducible rfl) | (simp; done) | (simp; omega))) | (with_reducible apply Box.alloc) | (with_reducible apply Box.drew) | (with_reducible apply Box.drewN) | (with_reducible apply Box.set) | ((with_reducible apply Box.set_ne); (case hne => first | omega | (simp; done) | (simp; omega))))))⟩
  case round =>
    obtain ⟨k, hk, hg, rfl, hE, hB2⟩ := hrel
    have HG := Lib.hid hg; clear hg
    by_cases hlt : k < 16
    · obtain ⟨c2, f2, l2⟩ := hB2.rules
      obtain ⟨y, hy⟩ : ∃ y, (wrow s 0 k)[k]? = some y := ⟨_, List.getElem?_eq_getElem (by rw [wrow_len s 0 k (by omega)]; omega)⟩
      have q0 : wr.cell? ⟨w.heap.size, k, none⟩ = some (.int .i64 (u y)) := (c2 k).trans (arrI_get hy)
      have HN := Lib.hid (show (wrow s 0 k).set k (wordAt s (4 * k)) = wrow s 0 (k + 1) from by rw [← wrow_set s 0 k (by omega)]; congr 1; rw [wl, List.getD_eq_getElem?_getD, List.getElem?_append_right (by rw [wl_len]; omega), wl_len]; simp [hlt])
      have hf2 := f2 k
      clear hy c2 f2
      have k0 : (0 : Int) ≤ (k : Int) := by omega
      have j0 : (4 : Int) * (k : Int) < (s.size : Int) := by omega
      have j1 : (4 : Int) * (k : Int) + 1 < (s.size : Int) := by omega
      have j2 : (4 : Int) * (k : Int) + 2 < (s.size : Int) := by omega
      have j3 : (4 : Int) * (k : Int) + 3 < (s.size : Int) := by omega
      have i1 : (0 : Int) ≤ (4 : Int) * (k : Int) + 1 := by omega
      have i2 : (0 : Int) ≤ (4 : Int) * (k : Int) + 2 := by omega
      have i3 : (0 : Int) ≤ (4 : Int) * (k : Int) + 3 := by omega
      have i0 : (0 : Int) ≤ (4 : Int) * (k : Int) := by omega
      have v0 : IntKind.i64.wrap ((4 : Int) * (k : Int)) = (4 : Int) * (k : Int) := IntWalk.i64_in _ (by omega)
      have v1 : IntKind.i64.wrap ((4 : Int) * (k : Int) + 1) = (4 : Int) * (k : Int) + 1 := IntWalk.i64_in _ (by omega)
      have v2 : IntKind.i64.wrap ((4 : Int) * (k : Int) + 2) = (4 : Int) * (k : Int) + 2 := IntWalk.i64_in _ (by omega)
      have v3 : IntKind.i64.wrap ((4 : Int) * (k : Int) + 3) = (4 : Int) * (k : Int) + 3 := IntWalk.i64_in _ (by omega)
      have n0 : 4 * k < s.size := by omega
      have n1 : 4 * k + 1 < s.size := by omega
      have n2 : 4 * k + 2 < s.size := by omega
      have n3 : 4 * k + 3 < s.size := by omega
      have t0 : ((4 : Int) * (k : Int)).toNat = 4 * k := by omega
      have t1 : ((4 : Int) * (k : Int) + 1).toNat = 4 * k + 1 := by omega
      have t2 : ((4 : Int) * (k : Int) + 2).toNat = 4 * k + 2 := by omega
      have t3 : ((4 : Int) * (k : Int) + 3).toNat = 4 * k + 3 := by omega
      go_wp2
      go_region
      all_goals
        go_wp2
        go_roundg (16 - (k + 1))
        case measure => rw [HG.out]; omega
        case rel => exact ⟨k + 1, by omega, rfl, by go_num, by (repeat (first | (with_reducible exact Ext.refl _) | (with_reducible assumption) | (with_reducible refine Ext.alloc ?_ _) | (with_reducible refine Ext.drew ?_) | (with_reducible refine Ext.drewN ?_ _) | ((with_reducible apply Ext.setCell); (case hp => first | omega | (simp; done) | (simp; omega))) | (with_reducible refine Ext.trans ?_ (by assumption)))), by have h := hB2.set (o := k) (.int .i64 (u (wordAt s (4 * k)))); rw [arrI_set, HN.out, ← be4w_at n3] at h; exact h⟩
    · obtain rfl : k = 16 := by omega
      obtain ⟨wo, hwo⟩ : ∃ wo : World, wo = wr := ⟨_, rfl⟩
      subst hwo
      have F0 := Lib.hid (⟨hE, hB2⟩ : Ext w wo ∧ Box wo w.heap.size (arrI (wrow s 0 16)))
      clear hE hB2
      go_wp2
      go_loopg [9] 48 (fun g i wr => ∃ k : Nat, 16 ≤ k ∧ k ≤ 64 ∧ g = 64 - k ∧ i = .int .i64 k ∧ Ext w wr ∧ Box wr w.heap.size (arrI (wrow s 0 k)))
      case atStart => exact ⟨16, by omega, by omega, by omega, rfl, F0.out⟩
      case round =>
        clear F0
        obtain ⟨k, hk0, hk, hg, rfl, hE, hB2⟩ := hrel
        have HG := Lib.hid hg; clear hg
        by_cases hlt : k < 64
        · obtain ⟨c2, f2, l2⟩ := hB2.rules
          obtain ⟨y, hy⟩ : ∃ y, (wrow s 0 k)[k]? = some y := ⟨_, List.getElem?_eq_getElem (by rw [wrow_len s 0 k (by omega)]; omega)⟩
          have q0 : wr.cell? ⟨w.heap.size, k, none⟩ = some (.int .i64 (u y)) := (c2 k).trans (arrI_get hy)
          obtain ⟨a15, h15⟩ : ∃ a, a = (wl s 0 k).getD (k - 15) 0 := ⟨_, rfl⟩
          obtain ⟨a2, h2⟩ : ∃ a, a = (wl s 0 k).getD (k - 2) 0 := ⟨_, rfl⟩
          obtain ⟨a16, h16⟩ : ∃ a, a = (wl s 0 k).getD (k - 16) 0 := ⟨_, rfl⟩
          obtain ⟨a7, h7⟩ : ∃ a, a = (wl s 0 k).getD (k - 7) 0 := ⟨_, rfl⟩
          have q15 : wr.cell? ⟨w.heap.size, k - 15, none⟩ = some (.int .i64 (u a15)) := (c2 _).trans (arrI_get (by rw [h15]; exact wrow_get s 0 k _ (by omega)))
          have q2 : wr.cell? ⟨w.heap.size, k - 2, none⟩ = some (.int .i64 (u a2)) := (c2 _).trans (arrI_get (by rw [h2]; exact wrow_get s 0 k _ (by omega)))
          have q16 : wr.cell? ⟨w.heap.size, k - 16, none⟩ = some (.int .i64 (u a16)) := (c2 _).trans (arrI_get (by rw [h16]; exact wrow_get s 0 k _ (by omega)))
          have q7 : wr.cell? ⟨w.heap.size, k - 7, none⟩ = some (.int .i64 (u a7)) := (c2 _).trans (arrI_get (by rw [h7]; exact wrow_get s 0 k _ (by omega)))
          have hf2 := f2 k
          have HN := Lib.hid (show (wrow s 0 k).set k (a16 + sg0 a15 + a7 + sg1 a2) = wrow s 0 (k + 1) from by rw [← wrow_set s 0 k (by omega)]; congr 1; rw [wl, List.getD_eq_getElem?_getD, List.getElem?_append_right (by rw [wl_len]; omega), wl_len, h15, h2, h16, h7]; simp [show ¬ k < 16 by omega])
          clear hy c2 f2 h15 h2 h16 h7
          have e15 : (0 : Int) ≤ (k : Int) - 15 := by omega
          have e2 : (0 : Int) ≤ (k : Int) - 2 := by omega
          have e16 : (0 : Int) ≤ (k : Int) - 16 := by omega
          have e7 : (0 : Int) ≤ (k : Int) - 7 := by omega
          have g15 : (k : Int) - 15 < 64 := by omega
          have g2 : (k : Int) - 2 < 64 := by omega
          have g16 : (k : Int) - 16 < 64 := by omega
          have g7 : (k : Int) - 7 < 64 := by omega
          have t15 : ((k : Int) - 15).toNat = k - 15 := by omega
          have t2 : ((k : Int) - 2).toNat = k - 2 := by omega
          have t16 : ((k : Int) - 16).toNat = k - 16 := by omega
          have t7 : ((k : Int) - 7).toNat = k - 7 := by omega
          have w15 : IntKind.i64.wrap ((k : Int) - 15) = (k : Int) - 15 := IntWalk.i64_in _ (by omega)
          have w2 : IntKind.i64.wrap ((k : Int) - 2) = (k : Int) - 2 := IntWalk.i64_in _ (by omega)
          have w16 : IntKind.i64.wrap ((k : Int) - 16) = (k : Int) - 16 := IntWalk.i64_in _ (by omega)
          have w7 : IntKind.i64.wrap ((k : Int) - 7) = (k : Int) - 7 := IntWalk.i64_in _ (by omega)
          go_wp2
          go_quiet ((go_at_call 102; exact Calls.quiet_of_same (l3RightI_any _ _ _ (by omega) (by omega))))
          revert nq; intro m1
          go_wp2
          go_quiet ((go_at_call 102; exact quiet_add_same (l3RightI_any _ _ _ (by omega) (by omega))))
          go_wp2
          rw [xsg0 a15, xsg1 a2]
          have v1 : IntKind.i64.wrap (u a16 + u (sg0 a15)) = u a16 + u (sg0 a15) := IntWalk.i64_in _ (by have := u_bd a16; have := u_bd (sg0 a15); omega)
          have v2 : IntKind.i64.wrap (u a16 + u (sg0 a15) + u a7) = u a16 + u (sg0 a15) + u a7 := IntWalk.i64_in _ (by have := u_bd a16; have := u_bd (sg0 a15); have := u_bd a7; omega)
          have v3 : IntKind.i64.wrap (u a16 + u (sg0 a15) + u a7 + u (sg1 a2)) = u a16 + u (sg0 a15) + u a7 + u (sg1 a2) := IntWalk.i64_in _ (by have := u_bd a16; have := u_bd (sg0 a15); have := u_bd a7; have := u_bd (sg1 a2); omega)
          refine wp_region_still_tail 18 (by kernel_rfl) (by kernel_rfl) ?_
          simp only [List.take_succ_cons, List.take_zero, List.drop_succ_cons, List.drop_zero]
          change wpStill _ _ ((wr.drewN m1).drewN nq).drew (fun a' => wpList _ _ _ _ a' ((wr.drewN m1).drewN nq).drew) _ _
          have zE : Ext w ((wr.drewN m1).drewN nq).drew := by (repeat (first | (with_reducible exact Ext.refl _) | (with_reducible assumption) | (with_reducible refine Ext.alloc ?_ _) | (with_reducible refine Ext.drew ?_) | (with_reducible refine Ext.drewN ?_ _) | ((with_reducible apply Ext.setCell); (case hp => first | omega | (simp; done) | (simp; omega))) | (with_reducible refine Ext.trans ?_ (by assumption))))
          have zB : Box ((wr.drewN m1).drewN nq).drew w.heap.size (arrI (wrow s 0 k)) := hB2
          have z0 : ((wr.drewN m1).drewN nq).drew.cell? ⟨w.heap.size, k, none⟩ = some (.int .i64 (u y)) := q0
          have z7 : ((wr.drewN m1).drewN nq).drew.cell? ⟨w.heap.size, k - 7, none⟩ = some (.int .i64 (u a7)) := q7
          have z16 : ((wr.drewN m1).drewN nq).drew.cell? ⟨w.heap.size, k - 16, none⟩ = some (.int .i64 (u a16)) := q16
          have zf : ((wr.drewN m1).drewN nq).drew.frozen? ⟨w.heap.size, k, none⟩ = false := hf2
          have zl : w.heap.size < ((wr.drewN m1).drewN nq).drew.heap.size := l2
          generalize ((wr.drewN m1).drewN nq).drew = wz at *
          clear q0 q7 q16 q15 q2 hf2 l2 hE hB2
          have c16 : (16 : Int) ≤ (k : Int) := by omega
          have c7 : (7 : Int) ≤ (k : Int) := by omega
          repeat still_step
          still_call (l3Word_is (x := a16 + sg0 a15 + a7 + sg1 a2) _ (by have := u_bd a16; have := u_bd (sg0 a15); have := u_bd a7; have := u_bd (sg1 a2); omega) (by have := u_bd a16; have := u_bd (sg0 a15); have := u_bd a7; have := u_bd (sg1 a2); omega) (by rw [wd_add, wd_add, wd_add, wd_u, wd_u, wd_u, wd_u]))
          refine wpStill_nil ?_
          change wpList _ _ _ _ _ wz
          go_wp2
          go_roundg (64 - (k + 1))
          case measure => rw [HG.out]; omega
          case rel => exact ⟨k + 1, by omega, by omega, rfl, by go_num, by (repeat (first | (with_reducible exact Ext.refl _) | (with_reducible assumption) | (with_reducible refine Ext.alloc ?_ _) | (with_reducible refine Ext.drew ?_) | (with_reducible refine Ext.drewN ?_ _) | ((with_reducible apply Ext.setCell); (case hp => first | omega | (simp; done) | (simp; omega))) | (with_reducible refine Ext.trans ?_ (by assumption)))), by have h := zB.set (o := k) (.int .i64 (u (a16 + sg0 a15 + a7 + sg1 a2))); rw [arrI_set, HN.out] at h; exact h⟩
        · obtain rfl : k = 64 := by omega
          obtain ⟨w4, hw4⟩ : ∃ wo : World, wo = wr := ⟨_, rfl⟩
          subst hw4
          have F0 := Lib.hid (⟨hE, hB2⟩ : Ext w w4 ∧ Box w4 w.heap.size (arrI (wrow s 0 64)))
          clear hE hB2
          rw [wrow_64] at F0
          have hbl : bh < w4.heap.size := Nat.lt_of_lt_of_le (World.block_lt_of_cell? w ⟨bh, 0, none⟩ (HH.out 0 _ rfl)) F0.out.1.size
          have h0 : w4.cell? ⟨bh, 0, none⟩ = some (.int .i64 (u hv.a)) := HH.out.ext F0.out.1 0 _ rfl
          have h1 : w4.cell? ⟨bh, 1, none⟩ = some (.int .i64 (u hv.b)) := HH.out.ext F0.out.1 1 _ rfl
          have h2 : w4.cell? ⟨bh, 2, none⟩ = some (.int .i64 (u hv.c)) := HH.out.ext F0.out.1 2 _ rfl
          have h3 : w4.cell? ⟨bh, 3, none⟩ = some (.int .i64 (u hv.d)) := HH.out.ext F0.out.1 3 _ rfl
          have h4 : w4.cell? ⟨bh, 4, none⟩ = some (.int .i64 (u hv.e)) := HH.out.ext F0.out.1 4 _ rfl
          have h5 : w4.cell? ⟨bh, 5, none⟩ = some (.int .i64 (u hv.f)) := HH.out.ext F0.out.1 5 _ rfl
          have h6 : w4.cell? ⟨bh, 6, none⟩ = some (.int .i64 (u hv.g)) := HH.out.ext F0.out.1 6 _ rfl
          have h7 : w4.cell? ⟨bh, 7, none⟩ = some (.int .i64 (u hv.h)) := HH.out.ext F0.out.1 7 _ rfl
          go_wp2
          clear h0 h1 h2 h3 h4 h5 h6 h7
          go_loopg [12, 13] 64 (fun g v i wr => ∃ (k b c : Nat), k ≤ 64 ∧ g = 64 - k ∧ i = .int .i64 k ∧ v = .slice (some ⟨b, 0, none⟩) 8 c ∧ Ext w wr ∧ Box wr w.heap.size (arrI (wl s 0 64)) ∧ RowI wr b (listS (rnds hv (wl s 0 64) k)))
          case atStart =>
            obtain ⟨g1, g2⟩ := F0.out
            exact ⟨0, _, _, by omega, by omega, rfl, rfl, by (repeat (first | (with_reducible exact Ext.refl _) | (with_reducible assumption) | (with_reducible refine Ext.alloc ?_ _) | (with_reducible refine Ext.drew ?_) | (with_reducible refine Ext.drewN ?_ _) | ((with_reducible apply Ext.setCell); (case hp => first | omega | (simp; done) | (simp; omega))) | (with_reducible refine Ext.trans ?_ (by assumption)))), by (repeat (first | (with_reducible assumption) | ((with_reducible apply Box.new); (first | (with_reducible rfl) | (simp; done) | (simp; omega))) | (with_reducible apply Box.alloc) | (with_reducible apply Box.drew) | (with_reducible apply Box.drewN) | (with_reducible apply Box.set) | ((with_reducible apply Box.set_ne); (case hne => first | omega | (simp; done) | (simp; omega))))), RowI.of_app (st := hv) (Box.drew (Box.new (by simp)))⟩
          case round =>
            clear F0 hbl
            obtain ⟨k, b, c, hk, hg, rfl, rfl, hE, hB2, hR⟩ := hrel
            have HG := Lib.hid hg; clear hg
            by_cases hlt : k < 64
            · obtain ⟨st, hst⟩ : ∃ st, st = rnds hv (wl s 0 64) k := ⟨_, rfl⟩
              rw [← hst] at hR
              have HST := Lib.hid hst; clear hst
              obtain ⟨ww, hww⟩ : ∃ ww, ww = (wl s 0 64).getD k 0 := ⟨_, rfl⟩
              obtain ⟨kk, hkk⟩ : ∃ kk, kk = shaK.getD k 0 := ⟨_, rfl⟩
              have qw : wr.cell? ⟨w.heap.size, k, none⟩ = some (.int .i64 (u ww)) := (hB2.cell k).trans (arrI_get (by rw [hww, List.getD_eq_getElem?_getD, List.getElem?_eq_getElem (by rw [wl_len]; exact hlt)]; rfl))
              have qk : wr.cell? ⟨bk, k, none⟩ = some (.int .i64 (u kk)) := HK.out.ext hE k kk (by rw [hkk, List.getD_eq_getElem?_getD, List.getElem?_eq_getElem (show k < shaK.length from hlt)]; rfl)
              have HN := Lib.hid (show rnds hv (wl s 0 64) (k + 1) = rnd st kk ww from by rw [rnds, ← HST.out, hkk, hww])
              clear hww hkk
              have k0 : (0 : Int) ≤ (k : Int) := by omega
              have k1 : (k : Int) < 64 := by omega
              have h0 := hR 0 _ rfl
              have h1 := hR 1 _ rfl
              have h2 := hR 2 _ rfl
              have h3 := hR 3 _ rfl
              have h4 := hR 4 _ rfl
              have h5 := hR 5 _ rfl
              have h6 := hR 6 _ rfl
              have h7 := hR 7 _ rfl
              obtain ⟨X, hX⟩ : ∃ X, X = rotr st.e 6 ^^^ rotr st.e 11 ^^^ rotr st.e 25 := ⟨_, rfl⟩
              obtain ⟨Y, hY⟩ : ∃ Y, Y = (st.e &&& st.f) ^^^ (~~~st.e &&& st.g) := ⟨_, rfl⟩
              have x1 : bits .xor .i64 (bits .xor .i64 (u (rotr st.e 6)) (u (rotr st.e 11))) (u (rotr st.e 25)) = u X := by rw [xor_i, xor_i, hX]
              have y1 : bits .xor .i64 (bits .and .i64 (u st.e) (u st.f)) (bits .and .i64 (u (~~~st.e)) (u st.g)) = u Y := by rw [and_i, and_i, xor_i, hY]
              have s1 : IntKind.i64.wrap (u st.h + u X) = u st.h + u X := IntWalk.i64_in _ (by have := u_bd st.h; have := u_bd X; omega)
              have s2 : IntKind.i64.wrap (u st.h + u X + u Y) = u st.h + u X + u Y := IntWalk.i64_in _ (by have := u_bd st.h; have := u_bd X; have := u_bd Y; omega)
              have s3 : IntKind.i64.wrap (u st.h + u X + u Y + u kk) = u st.h + u X + u Y + u kk := IntWalk.i64_in _ (by have := u_bd st.h; have := u_bd X; have := u_bd Y; have := u_bd kk; omega)
              have s4 : IntKind.i64.wrap (u st.h + u X + u Y + u kk + u ww) = u st.h + u X + u Y + u kk + u ww := IntWalk.i64_in _ (by have := u_bd st.h; have := u_bd X; have := u_bd Y; have := u_bd kk; have := u_bd ww; omega)
              obtain ⟨T, hT⟩ : ∃ T, T = u st.h + u X + u Y + u kk + u ww := ⟨_, rfl⟩
              have bT : 0 ≤ T ∧ T < 21474836480 := by have := u_bd st.h; have := u_bd X; have := u_bd Y; have := u_bd kk; have := u_bd ww; omega
              have HT := Lib.hid (show wd T = rndT st kk ww from by rw [hT, wd_add, wd_add, wd_add, wd_add, wd_u, wd_u, wd_u, wd_u, wd_u, hX, hY]; rfl)
              have HT2 := Lib.hid hT.symm
              clear hT hX hY
              go_wp2
              go_quiet ((first | (go_at_call 102; exact Calls.quiet_of_same (l3RightI_any _ _ _ (by omega) (by omega))) | (go_at_call 103; exact Calls.quiet_of_same (l3Word_is (x := ~~~st.e) _ (bits_within .xor .i64 _ _).1 (bits_within .xor .i64 _ _).2 (l3Not st.e)))))
              rw [HT2.out]
              clear x1 y1 s1 s2 s3 s4
              have zE : Ext w (wr.drewN nq) := by (repeat (first | (with_reducible exact Ext.refl _) | (with_reducible assumption) | (with_reducible refine Ext.alloc ?_ _) | (with_reducible refine Ext.drew ?_) | (with_reducible refine Ext.drewN ?_ _) | ((with_reducible apply Ext.setCell); (case hp => first | omega | (simp; done) | (simp; omega))) | (with_reducible refine Ext.trans ?_ (by assumption))))
              have zB : Box (wr.drewN nq) w.heap.size (arrI (wl s 0 64)) := hB2
              have zR : RowI (wr.drewN nq) b (listS st) := hR
              generalize wr.drewN nq = wz at *
              clear h0 h1 h2 h3 h4 h5 h6 h7 qw qk hR hB2 hE
              have h0 := zR 0 _ rfl
              have h1 := zR 1 _ rfl
              have h2 := zR 2 _ rfl
              obtain ⟨X2, hX⟩ : ∃ X, X = rotr st.a 2 ^^^ rotr st.a 13 ^^^ rotr st.a 22 := ⟨_, rfl⟩
              obtain ⟨Y2, hY⟩ : ∃ Y, Y = (st.a &&& st.b) ^^^ (st.a &&& st.c) ^^^ (st.b &&& st.c) := ⟨_, rfl⟩
              have x1 : bits .xor .i64 (bits .xor .i64 (u (rotr st.a 2)) (u (rotr st.a 13))) (u (rotr st.a 22)) = u X2 := by rw [xor_i, xor_i, hX]
              have y1 : bits .xor .i64 (bits .xor .i64 (bits .and .i64 (u st.a) (u st.b)) (bits .and .i64 (u st.a) (u st.c))) (bits .and .i64 (u st.b) (u st.c)) = u Y2 := by rw [and_i, and_i, and_i, xor_i, xor_i, hY]
              have s1 : IntKind.i64.wrap (u X2 + u Y2) = u X2 + u Y2 := IntWalk.i64_in _ (by have := u_bd X2; have := u_bd Y2; omega)
              obtain ⟨U, hU⟩ : ∃ U, U = u X2 + u Y2 := ⟨_, rfl⟩
              have bU : 0 ≤ U ∧ U < 8589934592 := by have := u_bd X2; have := u_bd Y2; omega
              have HA := Lib.hid (show wd (T + U) = (rnd st kk ww).a from by rw [wd_add, HT.out, hU, wd_add, wd_u, wd_u, hX, hY]; exact (BitVec.add_assoc _ _ _).symm)
              have HD := Lib.hid (show wd (u st.d + T) = (rnd st kk ww).e from by rw [wd_add, HT.out, wd_u]; rfl)
              have HU2 := Lib.hid hU.symm
              clear hU hX hY
              go_wp2
              go_quiet ((go_at_call 102; exact Calls.quiet_of_same (l3RightI_any _ _ _ (by omega) (by omega))))
              rw [HU2.out]
              clear x1 y1 s1
              go_wp2
              have e1 : IntKind.i64.wrap (T + U) = T + U := IntWalk.i64_in _ (by omega)
              have e2 : IntKind.i64.wrap (u st.d + T) = u st.d + T := IntWalk.i64_in _ (by have := u_bd st.d; omega)
              refine wp_region_still_tail 28 (by kernel_rfl) (by kernel_rfl) ?_
              simp only [List.take_succ_cons, List.take_zero, List.drop_succ_cons, List.drop_zero]
              change wpStill _ _ (wz.drewN nq).drew (fun a' => wpList _ _ _ _ a' (wz.drewN nq).drew) _ _
              have yE : Ext w (wz.drewN nq).drew := by (repeat (first | (with_reducible exact Ext.refl _) | (with_reducible assumption) | (with_reducible refine Ext.alloc ?_ _) | (with_reducible refine Ext.drew ?_) | (with_reducible refine Ext.drewN ?_ _) | ((with_reducible apply Ext.setCell); (case hp => first | omega | (simp; done) | (simp; omega))) | (with_reducible refine Ext.trans ?_ (by assumption))))
              have yB : Box (wz.drewN nq).drew w.heap.size (arrI (wl s 0 64)) := zB
              have yR : RowI (wz.drewN nq).drew b (listS st) := zR
              generalize (wz.drewN nq).drew = wy at *
              clear h0 h1 h2 zR zB zE
              have h0 := yR 0 _ rfl
              have h1 := yR 1 _ rfl
              have h2 := yR 2 _ rfl
              have h3 := yR 3 _ rfl
              have h4 := yR 4 _ rfl
              have h5 := yR 5 _ rfl
              have h6 := yR 6 _ rfl
              repeat still_step
              still_call (l3Word_is (x := (rnd st kk ww).a) _ (by omega) (by omega) HA.out)
              repeat still_step
              still_call (l3Word_is (x := (rnd st kk ww).e) _ (by have := u_bd st.d; omega) (by have := u_bd st.d; omega) HD.out)
              repeat still_step
              refine wpStill_nil ?_
              change wpList _ _ _ _ _ wy
              go_wp2
              go_roundg (64 - (k + 1))
              case measure => rw [HG.out]; omega
              case rel => exact ⟨k + 1, wy.heap.size, 8, by omega, rfl, by go_num, rfl, by (repeat (first | (with_reducible exact Ext.refl _) | (with_reducible assumption) | (with_reducible refine Ext.alloc ?_ _) | (with_reducible refine Ext.drew ?_) | (with_reducible refine Ext.drewN ?_ _) | ((with_reducible apply Ext.setCell); (case hp => first | omega | (simp; done) | (simp; omega))) | (with_reducible refine Ext.trans ?_ (by assumption)))), by (repeat (first | (with_reducible assumption) | ((with_reducible apply Box.new); (first | (with_reducible rfl) | (simp; done) | (simp; omega))) | (with_reducible apply Box.alloc) | (with_reducible apply Box.drew) | (with_reducible apply Box.drewN) | (with_reducible apply Box.set) | ((with_reducible apply Box.set_ne); (case hne => first | omega | (simp; done) | (simp; omega))))), by rw [HN.out]; exact RowI.of_box (show Box _ wy.heap.size (arrI (listS (rnd st kk ww))) from Box.new rfl)⟩
            · obtain rfl : k = 64 := by omega
              obtain ⟨w6, hw6⟩ : ∃ wo : World, wo = wr := ⟨_, rfl⟩
              subst hw6
              obtain ⟨rr, hrr⟩ : ∃ r, r = rnds hv (wl s 0 64) 64 := ⟨_, rfl⟩
              rw [← hrr] at hR
              have HF := Lib.hid (show addS hv rr = blk hv s 0 from by rw [hrr]; rfl)
              have F0 := Lib.hid (⟨hE, hR⟩ : Ext w w6 ∧ RowI w6 b (listS rr))
              clear hrr hE hR hB2
              obtain ⟨i0, hi, hz0, hz1, hz2⟩ := info_parts infoI3
              go_wp2
              go_loopg [18, 19] 8 (fun g v i wr => ∃ k : Nat, k ≤ 8 ∧ g = 8 - k ∧ i = .int .i64 k ∧ Ext w6 wr ∧ wr.ownsRow w6.heap.size 3 1 v k (((listS (addS hv rr)).take k).map vI))
              case atStart => exact ⟨0, by omega, by omega, rfl, by (repeat (first | (with_reducible exact Ext.refl _) | (with_reducible assumption) | (with_reducible refine Ext.alloc ?_ _) | (with_reducible refine Ext.drew ?_) | (with_reducible refine Ext.drewN ?_ _) | ((with_reducible apply Ext.setCell); (case hp => first | omega | (simp; done) | (simp; omega))) | (with_reducible refine Ext.trans ?_ (by assumption)))), by first | exact World.ownsRow_made (e := 3) (size := 1) (base := w6.heap.size) w6 #[] 0 (by omega) (by decide) rfl | exact own_ext (World.ownsRow_made (e := 3) (size := 1) (base := w6.heap.size) w6 #[] 0 (by omega) (by decide) rfl) (by (repeat (first | (with_reducible exact Ext.refl _) | (with_reducible assumption) | (with_reducible refine Ext.alloc ?_ _) | (with_reducible refine Ext.drew ?_) | (with_reducible refine Ext.drewN ?_ _) | ((with_reducible apply Ext.setCell); (case hp => first | omega | (simp; done) | (simp; omega))) | (with_reducible refine Ext.trans ?_ (by assumption)))))⟩
              case round =>
                obtain ⟨k, hk, hg, rfl, hE2, hO⟩ := hrel
                have HG := Lib.hid hg; clear hg
                by_cases hlt : k < 8
                · obtain ⟨x, y, hx, hy, ht⟩ := add8_get hv rr k hlt
                  have HT := Lib.hid ht
                  have qx : wr.cell? ⟨bh, k, none⟩ = some (.int .i64 (u x)) := HH.out.ext (Ext.trans F0.out.1 hE2) k x hx
                  have qy : wr.cell? ⟨b, k, none⟩ = some (.int .i64 (u y)) := F0.out.2.ext hE2 k y hy
                  clear hx hy ht
                  have k0 : (0 : Int) ≤ (k : Int) := by omega
                  have k1 : (k : Int) < 8 := by omega
                  have bs : -9223372036854775808 ≤ u x + u y ∧ u x + u y ≤ 9223372036854775807 := by have := u_bd x; have := u_bd y; omega
                  have s1 : IntKind.i64.wrap (u x + u y) = u x + u y := IntWalk.i64_in _ bs
                  obtain ⟨uo, ul, uc, rfl⟩ := own_slice hO
                  go_wp2
                  have zs := hE2.size
                  go_wp2_with fail
                  go_region_law
                    (first
                      | (refine step_append_sl _ (by rfl) _ _ _ (by rfl) w6.heap.size 3 i0 (.int .i64 0) 1 8 Tryd.underlying38 hi hz0 hz1 hz2 rfl (by decide) (.slice uo ul uc) k _ (by rfl) (own_ext hO (by (repeat (first | (with_reducible exact Ext.refl _) | (with_reducible assumption) | (with_reducible refine Ext.alloc ?_ _) | (with_reducible refine Ext.drew ?_) | (with_reducible refine Ext.drewN ?_ _) | ((with_reducible apply Ext.setCell); (case hp => first | omega | (simp; done) | (simp; omega))) | (with_reducible refine Ext.trans ?_ (by assumption)))))) _ [.int .i64 (u (x + y))] (by rfl) (Sl.new rfl) encV_len (fun y hy u hu => by simp [encV] at hy hu; subst hu; subst hy; rfl) (by unfold maxLen; simp; omega) (by simp; omega) (by first | omega | (simp; omega)) ?_; intro v' w3 hO3 hG3 _; have hE3 : Ext w6 w3 := Ext.of_grown (by (repeat (first | (with_reducible exact Ext.refl _) | (with_reducible assumption) | (with_reducible refine Ext.alloc ?_ _) | (with_reducible refine Ext.drew ?_) | (with_reducible refine Ext.drewN ?_ _) | ((with_reducible apply Ext.setCell); (case hp => first | omega | (simp; done) | (simp; omega))) | (with_reducible refine Ext.trans ?_ (by assumption))))) hG3 (fun b hb' => by have := hO.lt b hb'; omega))
                      | (go_simp; go_at_call 103; (refine (l3Word_is (x := x + y) _ bs.1 bs.2 (by rw [wd_add, wd_u, wd_u])).mono ?_); rintro e w' ⟨rfl, rfl⟩))
                  all_goals
                    go_wp2
                    go_roundg (8 - (k + 1))
                    case measure => rw [HG.out]; omega
                    case rel => exact ⟨k + 1, by omega, rfl, by go_num, by (repeat (first | (with_reducible exact Ext.refl _) | (with_reducible assumption) | (with_reducible refine Ext.alloc ?_ _) | (with_reducible refine Ext.drew ?_) | (with_reducible refine Ext.drewN ?_ _) | ((with_reducible apply Ext.setCell); (case hp => first | omega | (simp; done) | (simp; omega))) | (with_reducible refine Ext.trans ?_ (by assumption)))), by rw [HT.out, List.map_append]; simpa [encV, vI] using hO3⟩
                · obtain rfl : k = 8 := by omega
                  rcases own_value hO with ⟨_, h0, _⟩ | ⟨g, c', rfl⟩
                  · omega
                  go_wp2
                  go_ret
                  exact ⟨g, c', rfl, by rw [← HF.out]; exact own_less F0.out.1.size hO, Ext.trans F0.out.1 hE2⟩
end Go.Proofs.YtmdjnohdkhepjaaDoor

/- Several texts, one behind the other. -/
import Derived.Test.YtkbikihbomnghaaI5
import Derived.Test.YtkbikihbomnghaaI1
import Derived.Test.YtkbikihbomnghaaRows
import Derived.Test.YtkbikihbomnghaaK2
import Derived.Test.YtkbikihbomnghaaPT
import Derived.BigGuardPart
import Derived.BigQuiet
import Derived.Deep.QuietTactic
import Derived.Handy
import Derived.StillTailTactics
import Derived.Deep.RegionHeld3
import Derived.OwnWalk
/- Helpers of the laws: slices of int, of text, of rows. Printed by a program of ours. -/
namespace Go.Proofs.Ytkbikihbomnghaa
set_option linter.unusedSimpArgs false
set_option linter.unusedVariables false
open Go.RowKit

def encInt (x : Int) : List D := [.int x]
def encStr (x : ByteArray) : List D := [.str x]
def encBool (x : Bool) : List D := [.bool x]
def encRow (x : List Int) : List D := [slD 3 1 encInt x]
theorem pv_int (x : Int) : toPVL (encInt x) = pInt x := by simp only [encInt, pInt, toPVL, toPV]
theorem pvs_int (e : TypeId) (xs : List Int) : toPV (slD e 1 encInt xs) = .sl 1 (xs.map pInt) := by rw [toPV_slD (enc := encInt) (sz := 1) (fun _ => rfl)]; simp only [pv_int]
theorem pv_str (x : ByteArray) : toPVL (encStr x) = pStr x := by simp only [encStr, pStr, toPVL, toPV]
theorem pvs_str (e : TypeId) (xs : List ByteArray) : toPV (slD e 1 encStr xs) = .sl 1 (xs.map pStr) := by rw [toPV_slD (enc := encStr) (sz := 1) (fun _ => rfl)]; simp only [pv_str]
theorem pv_row (x : List Int) : toPVL (encRow x) = pRow x := by simp only [encRow, pRow, toPVL, toPV_slD (fun x => (rfl : (encInt x).length = 1)), pv_int]
theorem pvs_row (e : TypeId) (xs : List (List Int)) : toPV (slD e 1 encRow xs) = .sl 1 (xs.map pRow) := by rw [toPV_slD (enc := encRow) (sz := 1) (fun _ => rfl)]; simp only [pv_row]
theorem ows_zeroS {w : World} {ds : List D} {vs : List Value} {e : TypeId} {sz : Nat} (h : Ows w ds vs []) : Ows w (.sl e sz 0 [] :: ds) (.slice none 0 0 :: vs) [] := by simpa [Value.ownBlock] using Ows.sl e sz 0 _ (World.ownsRow_nil w 0 e sz) .nil h
theorem cnt_encInt (x : Int) : cnt (encInt x) ≤ 64 + 64 * szL (encInt x) := by simp [encInt, cnt, szL]
theorem cnt_encStr (x : ByteArray) : cnt (encStr x) ≤ 64 + 64 * szL (encStr x) := by simp [encStr, cnt, szL]; omega
theorem cnt_encRow (x : List Int) : cnt (encRow x) ≤ 64 + 64 * szL (encRow x) := by
  have h := cnt_list cnt_encInt x
  simp [encRow, cnt, szL, slD]
  omega
theorem dec_row : Dec [.sl [.int .i64]] encRow := dec_of_sl 3 dec_int (fun _ => rfl) (by decide)

set_option maxRecDepth 100000 in
set_option maxHeartbeats 4000000 in
theorem eqIntS_any (v1 v2 : Value) (xs : List Int) (w : World) (h1 : RL 3 1 encInt w v1 xs) (h2 : RL 3 1 encInt w v2 xs) :
    Calls Try.prog 31 #[v1, v2] w fun e w' => e = .returned (.bool true) ∧ Ext w w' := by
  rcases RS.cases h1 with ⟨hn, _, o1, c1, rfl⟩ | ⟨b1, o1, c1, rfl, hp, _, hm, hx⟩
  · rcases RS.cases h2 with ⟨_, _, o2, c2, rfl⟩ | ⟨b2, o2, c2, rfl, hp, _⟩
    · clear h1 h2 hn
      go_enter Try.func31, Try.ntmps31
      go_wp2
      refine wp_loop_rounds 1 ?_
      rw [rounds_succ]
      go_wp2
      go_ret
      exact ⟨rfl, by (repeat (first | (with_reducible exact Ext.refl _) | (with_reducible assumption) | (with_reducible refine Ext.alloc ?_ _) | (with_reducible refine Ext.drew ?_) | (with_reducible refine Ext.drewN ?_ _) | ((with_reducible apply Ext.setCell); (case hp => first | omega | (simp; done) | (simp; omega))) | (with_reducible refine Ext.trans ?_ (by assumption))))⟩
    · omega
  · rcases RS.cases h2 with ⟨hn, _⟩ | ⟨b2, o2, c2, rfl, _, _, _, hy⟩
    · omega
    · have hn : xs.length ≤ 9223372036854775807 := by unfold maxLen at hm; omega
      clear h1 h2 hp hm
      go_enter Try.func31, Try.ntmps31
      go_wp2
      go_loopg [5] xs.length (fun g i wr => ∃ k : Nat, k ≤ xs.length ∧ g = xs.length - k ∧ i = .int .i64 k ∧ Ext w wr)
      case atStart => exact ⟨0, by omega, by omega, rfl, Ext.refl _⟩
      case round =>
        obtain ⟨k, hk, hg, rfl, hE⟩ := hrel
        have HG := Lib.hid hg; clear hg
        by_cases hlt : k < xs.length
        · obtain ⟨x, hxk⟩ : ∃ x, xs[k]? = some x := ⟨_, List.getElem?_eq_getElem hlt⟩
          have e1 := (RAt.elem (enc := encInt) (sz := 1) (fun _ => rfl) hx hxk).ext hE
          have e2 := (RAt.elem (enc := encInt) (sz := 1) (fun _ => rfl) hy hxk).ext hE
          clear hxk
          have i0 : (0 : Int) ≤ (k : Int) := by omega
          have i1 : (k : Int) < (xs.length : Int) := by omega
          have q0 : wr.cell? ⟨b1, o1 + k, none⟩ = some (.int .i64 x) := by have h := e1.int (j := 0) rfl; simpa only [Nat.mul_one, Nat.add_zero] using h
          have m0 : wr.cell? ⟨b2, o2 + k, none⟩ = some (.int .i64 x) := by have h := e2.int (j := 0) rfl; simpa only [Nat.mul_one, Nat.add_zero] using h
          clear e1 e2
          go_wp2_with fail
          go_quiet (fail)
          go_wp2
          go_roundg (xs.length - (k + 1))
          case measure => rw [HG.out]; omega
          case rel => exact ⟨k + 1, by omega, rfl, by go_num, by (repeat (first | (with_reducible exact Ext.refl _) | (with_reducible assumption) | (with_reducible refine Ext.alloc ?_ _) | (with_reducible refine Ext.drew ?_) | (with_reducible refine Ext.drewN ?_ _) | ((with_reducible apply Ext.setCell); (case hp => first | omega | (simp; done) | (simp; omega))) | (with_reducible refine Ext.trans ?_ (by assumption))))⟩
        · go_wp2
          go_ret
          exact ⟨rfl, by (repeat (first | (with_reducible exact Ext.refl _) | (with_reducible assumption) | (with_reducible refine Ext.alloc ?_ _) | (with_reducible refine Ext.drew ?_) | (with_reducible refine Ext.drewN ?_ _) | ((with_reducible apply Ext.setCell); (case hp => first | omega | (simp; done) | (simp; omega))) | (with_reducible refine Ext.trans ?_ (by assumption))))⟩

theorem infoIntS : (Try.prog.info? 3).map (fun i => (i.zero, i.size, i.bytes)) = some (some (.int .i64 0), 1, 8) := by kernel_rfl
set_option maxRecDepth 100000 in
set_option maxHeartbeats 4000000 in
theorem toIntS_any (v : Value) (xs : List Int) (w : World) (h : RL 3 1 encInt w v xs) (hz : szL [slD 3 1 encInt xs] ≤ 1048576) :
    Calls Try.prog 162 #[v] w fun e w' => ∃ (p : Option Addr) (q : Nat), e = .returned (.slice p xs.length q) ∧ Obj w' w.heap.size w'.heap.size [slD 3 1 encInt xs] [.slice p xs.length q] ∧ Ext w w' := by
  obtain ⟨i0, hi, hz0, hz1, hz2⟩ := info_parts infoIntS
  have hzero : ∀ w, Ows w [.int 0] #[.int .i64 0].toList [] := fun w => (Ows.int _ Ows.nil)
  have HZ := Lib.hid hzero; clear hzero
  have hn : xs.length ≤ 1048576 := by simp only [szL, slD] at hz; omega
  rcases RS.cases h with ⟨hn0, _, o1, c1, rfl⟩ | ⟨b1, o1, c1, rfl, hp, _, hm, hx⟩
  · obtain rfl := List.eq_nil_of_length_eq_zero hn0
    clear h hn0 hz hn
    go_enter Try.func162, Try.ntmps162
    go_wp2_with (at_make; refine wpList_make_full _ rfl (.tmp 6) (.tmp 6) 51 rfl w.heap.size 3 i0 _ 1 Try.underlying51 hi hz0 hz1 .i64 .i64 _ _ 0 rfl rfl rfl rfl (by omega) (by omega) (Nat.le_refl _) ?_; intro w1 hown hgrow)
    have hE := Ext.of_grownBy hgrow
    have hO := Lib.hid (Obj.made (n := 0) HZ.out rfl (by decide) hown)
    clear hgrow hown
    refine wp_loop_rounds 1 ?_
    rw [rounds_succ]
    go_wp2
    go_ret
    exact ⟨_, _, rfl, hO.out, hE⟩
  · have HSZ := Lib.hid hz
    clear h hm hz
    go_enter Try.func162, Try.ntmps162
    go_wp2_with (at_make; refine wpList_make_full _ rfl (.tmp 6) (.tmp 6) 51 rfl w.heap.size 3 i0 _ 1 Try.underlying51 hi hz0 hz1 .i64 .i64 _ _ xs.length rfl rfl rfl rfl (by rw [hz2]; omega) (by unfold maxLen; omega) (Nat.le_refl _) ?_; intro w1 hown hgrow)
    have hE := Ext.of_grownBy hgrow
    have hO : Obj w1 w.heap.size w1.heap.size [.sl 3 1 xs.length (fillE encInt [.int 0] xs 0)] [.slice (some ⟨w.heap.size, 0, none⟩) xs.length xs.length] := by rw [fillE_zero]; exact Obj.made HZ.out rfl (by decide) hown
    clear hgrow hown
    go_loopg [4] xs.length (fun g i wr => ∃ k : Nat, k ≤ xs.length ∧ g = xs.length - k ∧ i = .int .i64 k ∧ Ext w wr ∧ Obj wr w.heap.size wr.heap.size [.sl 3 1 xs.length (fillE encInt [.int 0] xs k)] [.slice (some ⟨w.heap.size, 0, none⟩) xs.length xs.length])
    case atStart => exact ⟨0, by omega, by omega, rfl, hE, hO⟩
    case round =>
      clear hE hO
      obtain ⟨k, hk, hg, rfl, hE, hO⟩ := hrel
      have HG := Lib.hid hg; clear hg
      by_cases hlt : k < xs.length
      · obtain ⟨x, hxk⟩ : ∃ x, xs[k]? = some x := ⟨_, List.getElem?_eq_getElem hlt⟩
        have e1 := (RAt.elem (enc := encInt) (sz := 1) (fun _ => rfl) hx hxk).ext hE
        have HX := Lib.hid hxk
        have HM := Lib.hid (List.mem_of_getElem? hxk)
        clear hxk
        have q0 : wr.cell? ⟨b1, o1 + k, none⟩ = some (.int .i64 x) := by have h := e1.int (j := 0) rfl; simpa only [Nat.mul_one, Nat.add_zero] using h
        clear e1
        have hR : Obj wr wr.heap.size wr.heap.size (encInt x) [.int .i64 x] := (Obj.int obj_nil)
        obtain ⟨F, f1, f2, f3⟩ := hO
        obtain ⟨v0, x0⟩ := f1.cellAt (o := k * 1 + 0) f2 (by rw [RS.len f1.read]; omega)
        have y0 := f1.frozenAt f2 (k * 1 + 0)
        simp only [Nat.mul_one, Nat.add_zero] at x0 y0
        have hO3 := Lib.hid (Obj.fill (enc := encInt) (z := [.int 0]) (sz := 1) (hi := wr.heap.size) (fun _ => rfl) rfl ⟨F, f1, f2, f3⟩ HX.out hR (by omega) (by omega))
        clear f1 f2 f3 hR
        go_wp2
        go_roundg (xs.length - (k + 1))
        case measure => rw [HG.out]; omega
        case rel => exact ⟨k + 1, by omega, rfl, by go_num, by (repeat (first | (with_reducible exact Ext.refl _) | (with_reducible assumption) | (with_reducible refine Ext.alloc ?_ _) | (with_reducible refine Ext.drew ?_) | (with_reducible refine Ext.drewN ?_ _) | ((with_reducible apply Ext.setCell); (case hp => first | omega | (simp; done) | (simp; omega))) | (with_reducible refine Ext.trans ?_ (by assumption)))), Obj.mono (by have h := hO3.out; (try simp only [Nat.mul_one] at h); exact h) (Nat.le_refl _) (by (first | omega | (simp; done) | (simp; omega)))⟩
      · obtain rfl : k = xs.length := by omega
        rw [fillE_end] at hO
        go_wp2
        go_ret
        exact ⟨_, _, rfl, hO, hE⟩

set_option maxRecDepth 100000 in
set_option maxHeartbeats 4000000 in
theorem szIntS_any (v : Value) (xs : List Int) (left : Int) (w : World) (h : RL 3 1 encInt w v xs) (_hok : okL [slD 3 1 encInt xs]) (h0 : 0 ≤ left) (h1 : left ≤ 1048576) :
    Calls Try.prog 161 #[v, .int .i64 left] w fun e w' => e = .returned (.int .i64 (szR left (szL [slD 3 1 encInt xs]))) ∧ Ext w w' := by
  have hm := RS.bd h
  replace hm : xs.length ≤ 9223372036854775807 := by unfold maxLen at hm; omega
  have hs : szL [slD 3 1 encInt xs] = xs.length := by
    have : szL (xs.flatMap encInt) = 0 := szL_zero (fun x => by simp [encInt, szL]) xs
    simp [slD, szL, this]
  obtain ⟨o1, c1, rfl⟩ := RS.val h
  rw [hs]
  clear h hs
  go_enter Try.func161, Try.ntmps161
  go_wp2
  all_goals
    go_ret
    exact ⟨ret_int (by first | exact szR_no (by omega) | exact szR_yes (by omega)), by (repeat (first | (with_reducible exact Ext.refl _) | (with_reducible assumption) | (with_reducible refine Ext.alloc ?_ _) | (with_reducible refine Ext.drew ?_) | (with_reducible refine Ext.drewN ?_ _) | ((with_reducible apply Ext.setCell); (case hp => first | omega | (simp; done) | (simp; omega))) | (with_reducible refine Ext.trans ?_ (by assumption))))⟩

set_option maxRecDepth 100000 in
set_option maxHeartbeats 4000000 in
theorem markIntS_any (v : Value) (xs : List Int) (k0 : Int) (F : List Nat) (w : World) (h : Ows w [slD 3 1 encInt xs] [v] F) (hn : F.Nodup) (h0 : 0 ≤ k0) (h1 : k0 + cnt (xs.flatMap encInt) ≤ 1099511627776) :
    Calls Try.prog 32 #[v, .int .i64 k0] w fun e w' => e = .returned (.int .i64 (k0 + cnt (xs.flatMap encInt))) ∧ Ows w' [.sl 3 1 xs.length (mk (xs.flatMap encInt) k0)] [v] F ∧ Chg F w w' := by
  have hm := RS.bd h.read
  replace hm : xs.length ≤ 9223372036854775807 := by unfold maxLen at hm; omega
  have HN := Lib.hid hn
  have H1 := Lib.hid h1
  clear hn h1
  rcases Ows.val h with ⟨rfl, hx0⟩ | ⟨g, c, rfl⟩
  · obtain rfl := List.eq_nil_of_length_eq_zero hx0
    clear hx0
    go_enter Try.func32, Try.ntmps32
    go_wp2
    refine wp_loop_rounds 1 ?_
    rw [rounds_succ]
    go_wp2
    go_ret
    exact ⟨by simp [cnt], by simpa [mk, slD] using h, Chg.refl⟩
  · have hO : Ows w [.sl 3 1 xs.length (mid (xs.flatMap encInt) k0 (0 * 1))] [.slice (some ⟨g, 0, none⟩) xs.length c] F := by rw [Nat.zero_mul, mid_zero]; exact h
    clear h
    have hC : Chg F w w := Chg.refl
    have hc0 : Cn (xs.flatMap encInt) k0 (0 * 1) k0 := by rw [Nat.zero_mul]; exact Cn.zero
    go_enter Try.func32, Try.ntmps32
    go_wp2
    go_loopg [1, 5] xs.length (fun gk s i wr => ∃ (k : Nat) (c' : Int), k ≤ xs.length ∧ gk = xs.length - k ∧ i = .int .i64 k ∧ s = .int .i64 c' ∧ Cn (xs.flatMap encInt) k0 (k * 1) c' ∧ Chg F w wr ∧ Ows wr [.sl 3 1 xs.length (mid (xs.flatMap encInt) k0 (k * 1))] [.slice (some ⟨g, 0, none⟩) xs.length c] F)
    case atStart => exact ⟨0, k0, by omega, by omega, rfl, rfl, hc0, hC, hO⟩
    case round =>
      clear hc0 hC hO
      obtain ⟨k, c', hk, hg, rfl, rfl, hc0, hC, hO⟩ := hrel
      have HG := Lib.hid hg; clear hg
      by_cases hlt : k < xs.length
      · obtain ⟨x, hxk⟩ : ∃ x, xs[k]? = some x := ⟨_, List.getElem?_eq_getElem hlt⟩
        have HX := Lib.hid hxk; clear hxk
        have hfl : ∀ j, j < 1 → k * 1 + j < (xs.flatMap encInt).length := fun j hj => by rw [flat_len (enc := encInt) (sz := 1) (fun _ => rfl)]; exact flat_lt hlt hj
        have HFL := Lib.hid hfl; clear hfl
        obtain ⟨b0, b1⟩ := hc0.bd h0 H1.out
        have hgm := hO.gmem HN.out
        have HGM := Lib.hid hgm; clear hgm
        have g0 := Lib.hid (flat_at (enc := encInt) (sz := 1) (j := 0) (fun _ => rfl) HX.out rfl)
        have O0 := Lib.hid hO
        have C0 := Lib.hid hc0; clear hc0
        obtain ⟨v0, x0⟩ := hO.cellAt (o := k * 1 + 0) HN.out (by rw [mid_len]; exact HFL.out 0 (by omega))
        have y0 := hO.frozenAt HN.out (k * 1 + 0)
        simp only [Nat.mul_one, Nat.add_zero] at x0 y0
        clear hO
        have O1 := Lib.hid (O0.out.markI HN.out g0.out C0.out)
        have C1 := Lib.hid (C0.out.one g0.out rfl)
        go_wp2
        go_roundg (xs.length - (k + 1))
        case measure => rw [HG.out]; omega
        case rel => exact ⟨k + 1, _, by omega, rfl, by go_num, rfl, by rw [Nat.add_mul]; exact C1.out, by (repeat (first | (with_reducible assumption) | ((with_reducible apply Chg.set); (case hg => exact HGM.out)))), by have h := O1.out; (try simp only [Nat.mul_one] at h ⊢); (try rw [Nat.add_mul]); exact h⟩
      · obtain rfl : k = xs.length := by omega
        have e1 : xs.length * 1 = (xs.flatMap encInt).length := (flat_len (enc := encInt) (sz := 1) (fun _ => rfl) xs).symm
        have HE := Lib.hid (hc0.last e1)
        rw [e1, mid_end] at hO
        clear e1
        go_wp2
        go_ret
        exact ⟨ret_int HE.out.symm, hO, hC⟩

set_option maxRecDepth 100000 in
set_option maxHeartbeats 4000000 in
theorem heldIntS_any (v : Value) (xs : List Int) (k0 : Int) (w : World) (h : RS w 3 1 xs.length (mk (xs.flatMap encInt) k0) v) (h0 : 0 ≤ k0) (h1 : k0 + cnt (xs.flatMap encInt) ≤ 1099511627776) :
    Calls Try.prog 33 #[v, .int .i64 k0] w fun e w' => e = .returned (.int .i64 (k0 + cnt (xs.flatMap encInt))) ∧ Ext w w' := by
  have hm := RS.bd h
  replace hm : xs.length ≤ 9223372036854775807 := by unfold maxLen at hm; omega
  have H1 := Lib.hid h1
  clear h1
  rcases RS.cases h with ⟨hn0, _, o1, c1, rfl⟩ | ⟨b1, o1, c1, rfl, hp, _, _, hx⟩
  · obtain rfl := List.eq_nil_of_length_eq_zero hn0
    clear h hn0
    go_enter Try.func33, Try.ntmps33
    go_wp2
    refine wp_loop_rounds 1 ?_
    rw [rounds_succ]
    go_wp2
    go_ret
    exact ⟨by simp [cnt], by (repeat (first | (with_reducible exact Ext.refl _) | (with_reducible assumption) | (with_reducible refine Ext.alloc ?_ _) | (with_reducible refine Ext.drew ?_) | (with_reducible refine Ext.drewN ?_ _) | ((with_reducible apply Ext.setCell); (case hp => first | omega | (simp; done) | (simp; omega))) | (with_reducible refine Ext.trans ?_ (by assumption))))⟩
  · clear h hp
    have hc0 : Cn (xs.flatMap encInt) k0 (0 * 1) k0 := by rw [Nat.zero_mul]; exact Cn.zero
    go_enter Try.func33, Try.ntmps33
    go_wp2
    go_loopg [1, 5] xs.length (fun gk s i wr => ∃ (k : Nat) (c' : Int), k ≤ xs.length ∧ gk = xs.length - k ∧ i = .int .i64 k ∧ s = .int .i64 c' ∧ Cn (xs.flatMap encInt) k0 (k * 1) c' ∧ Ext w wr)
    case atStart => exact ⟨0, k0, by omega, by omega, rfl, rfl, hc0, Ext.refl _⟩
    case round =>
      clear hc0
      obtain ⟨k, c', hk, hg, rfl, rfl, hc0, hE⟩ := hrel
      have HG := Lib.hid hg; clear hg
      by_cases hlt : k < xs.length
      · obtain ⟨x, hxk⟩ : ∃ x, xs[k]? = some x := ⟨_, List.getElem?_eq_getElem hlt⟩
        have HX := Lib.hid hxk; clear hxk
        obtain ⟨bd0, bd1⟩ := hc0.bd h0 H1.out
        have i0 : (0 : Int) ≤ (k : Int) := by omega
        have i1 : (k : Int) < (xs.length : Int) := by omega
        have e1 := (RAt.markRow (enc := encInt) (sz := 1) (fun _ => rfl) hx HX.out hc0).ext hE
        have g0 := Lib.hid (flat_at (enc := encInt) (sz := 1) (j := 0) (fun _ => rfl) HX.out rfl)
        have C0 := Lib.hid hc0; clear hc0
        have q0 := e1.int (j := 0) (n := c') (by simp [encInt, mk]); simp only [Nat.mul_one, Nat.add_zero] at q0
        have C1 := Lib.hid (C0.out.one g0.out rfl)
        clear e1
        go_wp2
        go_roundg (xs.length - (k + 1))
        case measure => rw [HG.out]; omega
        case rel => exact ⟨k + 1, _, by omega, rfl, by go_num, rfl, by rw [Nat.add_mul]; exact C1.out, by (repeat (first | (with_reducible exact Ext.refl _) | (with_reducible assumption) | (with_reducible refine Ext.alloc ?_ _) | (with_reducible refine Ext.drew ?_) | (with_reducible refine Ext.drewN ?_ _) | ((with_reducible apply Ext.setCell); (case hp => first | omega | (simp; done) | (simp; omega))) | (with_reducible refine Ext.trans ?_ (by assumption))))⟩
      · obtain rfl : k = xs.length := by omega
        have e1 : xs.length * 1 = (xs.flatMap encInt).length := (flat_len (enc := encInt) (sz := 1) (fun _ => rfl) xs).symm
        have HE := Lib.hid (hc0.last e1)
        clear e1
        go_wp2
        go_ret
        exact ⟨ret_int HE.out.symm, by (repeat (first | (with_reducible exact Ext.refl _) | (with_reducible assumption) | (with_reducible refine Ext.alloc ?_ _) | (with_reducible refine Ext.drew ?_) | (with_reducible refine Ext.drewN ?_ _) | ((with_reducible apply Ext.setCell); (case hp => first | omega | (simp; done) | (simp; omega))) | (with_reducible refine Ext.trans ?_ (by assumption))))⟩

set_option maxRecDepth 100000 in
set_option maxHeartbeats 4000000 in
theorem eqIntSS_any (v1 v2 : Value) (xs : List (List Int)) (w : World) (h1 : RL 51 1 encRow w v1 xs) (h2 : RL 51 1 encRow w v2 xs) :
    Calls Try.prog 124 #[v1, v2] w fun e w' => e = .returned (.bool true) ∧ Ext w w' := by
  rcases RS.cases h1 with ⟨hn, _, o1, c1, rfl⟩ | ⟨b1, o1, c1, rfl, hp, _, hm, hx⟩
  · rcases RS.cases h2 with ⟨_, _, o2, c2, rfl⟩ | ⟨b2, o2, c2, rfl, hp, _⟩
    · clear h1 h2 hn
      go_enter Try.func124, Try.ntmps124
      go_wp2
      refine wp_loop_rounds 1 ?_
      rw [rounds_succ]
      go_wp2
      go_ret
      exact ⟨rfl, by (repeat (first | (with_reducible exact Ext.refl _) | (with_reducible assumption) | (with_reducible refine Ext.alloc ?_ _) | (with_reducible refine Ext.drew ?_) | (with_reducible refine Ext.drewN ?_ _) | ((with_reducible apply Ext.setCell); (case hp => first | omega | (simp; done) | (simp; omega))) | (with_reducible refine Ext.trans ?_ (by assumption))))⟩
    · omega
  · rcases RS.cases h2 with ⟨hn, _⟩ | ⟨b2, o2, c2, rfl, _, _, _, hy⟩
    · omega
    · have hn : xs.length ≤ 9223372036854775807 := by unfold maxLen at hm; omega
      clear h1 h2 hp hm
      go_enter Try.func124, Try.ntmps124
      go_wp2
      go_loopg [5] xs.length (fun g i wr => ∃ k : Nat, k ≤ xs.length ∧ g = xs.length - k ∧ i = .int .i64 k ∧ Ext w wr)
      case atStart => exact ⟨0, by omega, by omega, rfl, Ext.refl _⟩
      case round =>
        obtain ⟨k, hk, hg, rfl, hE⟩ := hrel
        have HG := Lib.hid hg; clear hg
        by_cases hlt : k < xs.length
        · obtain ⟨x, hxk⟩ : ∃ x, xs[k]? = some x := ⟨_, List.getElem?_eq_getElem hlt⟩
          have e1 := (RAt.elem (enc := encRow) (sz := 1) (fun _ => rfl) hx hxk).ext hE
          have e2 := (RAt.elem (enc := encRow) (sz := 1) (fun _ => rfl) hy hxk).ext hE
          clear hxk
          have i0 : (0 : Int) ≤ (k : Int) := by omega
          have i1 : (k : Int) < (xs.length : Int) := by omega
          obtain ⟨s1, t1, q0, qr0⟩ := e1.sl (j := 0) rfl
          simp only [Nat.mul_one, Nat.add_zero] at q0
          obtain ⟨u1, v1, m0, mr0⟩ := e2.sl (j := 0) rfl
          simp only [Nat.mul_one, Nat.add_zero] at m0
          clear e1 e2
          go_wp2_with fail
          go_region_held3 (fun w' => w'.cell? ⟨b1, o1 + k, none⟩ = some (.slice s1 x.length t1) ∧ w'.cell? ⟨b2, o2 + k, none⟩ = some (.slice u1 x.length v1)) ((first | go_keep | ((try dsimp only); (try go_split_ands); (repeat' apply And.intro) <;> exact hb.cellSome (by assumption))))
            ((go_at_call 31; refine (eqIntS_any _ _ x _ (RS.ext qr0 (by (repeat (first | (with_reducible exact Ext.refl _) | (with_reducible assumption) | (with_reducible refine Ext.alloc ?_ _) | (with_reducible refine Ext.drew ?_) | (with_reducible refine Ext.drewN ?_ _) | ((with_reducible apply Ext.setCell); (case hp => first | omega | (simp; done) | (simp; omega))) | (with_reducible refine Ext.trans ?_ (by assumption)))))) (RS.ext mr0 (by (repeat (first | (with_reducible exact Ext.refl _) | (with_reducible assumption) | (with_reducible refine Ext.alloc ?_ _) | (with_reducible refine Ext.drew ?_) | (with_reducible refine Ext.drewN ?_ _) | ((with_reducible apply Ext.setCell); (case hp => first | omega | (simp; done) | (simp; omega))) | (with_reducible refine Ext.trans ?_ (by assumption))))))).mono ?_; rintro e w1 ⟨rfl, hb⟩))
          go_wp2
          go_roundg (xs.length - (k + 1))
          case measure => rw [HG.out]; omega
          case rel => exact ⟨k + 1, by omega, rfl, by go_num, by (repeat (first | (with_reducible exact Ext.refl _) | (with_reducible assumption) | (with_reducible refine Ext.alloc ?_ _) | (with_reducible refine Ext.drew ?_) | (with_reducible refine Ext.drewN ?_ _) | ((with_reducible apply Ext.setCell); (case hp => first | omega | (simp; done) | (simp; omega))) | (with_reducible refine Ext.trans ?_ (by assumption))))⟩
        · go_wp2
          go_ret
          exact ⟨rfl, by (repeat (first | (with_reducible exact Ext.refl _) | (with_reducible assumption) | (with_reducible refine Ext.alloc ?_ _) | (with_reducible refine Ext.drew ?_) | (with_reducible refine Ext.drewN ?_ _) | ((with_reducible apply Ext.setCell); (case hp => first | omega | (simp; done) | (simp; omega))) | (with_reducible refine Ext.trans ?_ (by assumption))))⟩

theorem infoIntSS : (Try.prog.info? 51).map (fun i => (i.zero, i.size, i.bytes)) = some (some (.slice none 0 0), 1, 24) := by kernel_rfl
set_option maxRecDepth 100000 in
set_option maxHeartbeats 4000000 in
theorem toIntSS_any (v : Value) (xs : List (List Int)) (w : World) (h : RL 51 1 encRow w v xs) (hz : szL [slD 51 1 encRow xs] ≤ 1048576) :
    Calls Try.prog 123 #[v] w fun e w' => ∃ (p : Option Addr) (q : Nat), e = .returned (.slice p xs.length q) ∧ Obj w' w.heap.size w'.heap.size [slD 51 1 encRow xs] [.slice p xs.length q] ∧ Ext w w' := by
  obtain ⟨i0, hi, hz0, hz1, hz2⟩ := info_parts infoIntSS
  have hzero : ∀ w, Ows w [.sl 3 1 0 []] #[.slice none 0 0].toList [] := fun w => (ows_zeroS Ows.nil)
  have HZ := Lib.hid hzero; clear hzero
  have hn : xs.length ≤ 1048576 := by simp only [szL, slD] at hz; omega
  rcases RS.cases h with ⟨hn0, _, o1, c1, rfl⟩ | ⟨b1, o1, c1, rfl, hp, _, hm, hx⟩
  · obtain rfl := List.eq_nil_of_length_eq_zero hn0
    clear h hn0 hz hn
    go_enter Try.func123, Try.ntmps123
    go_wp2_with (at_make; refine wpList_make_full _ rfl (.tmp 6) (.tmp 6) 76 rfl w.heap.size 51 i0 _ 1 Try.underlying76 hi hz0 hz1 .i64 .i64 _ _ 0 rfl rfl rfl rfl (by omega) (by omega) (Nat.le_refl _) ?_; intro w1 hown hgrow)
    have hE := Ext.of_grownBy hgrow
    have hO := Lib.hid (Obj.made (n := 0) HZ.out rfl (by decide) hown)
    clear hgrow hown
    refine wp_loop_rounds 1 ?_
    rw [rounds_succ]
    go_wp2
    go_ret
    exact ⟨_, _, rfl, hO.out, hE⟩
  · have HSZ := Lib.hid hz
    clear h hm hz
    go_enter Try.func123, Try.ntmps123
    go_wp2_with (at_make; refine wpList_make_full _ rfl (.tmp 6) (.tmp 6) 76 rfl w.heap.size 51 i0 _ 1 Try.underlying76 hi hz0 hz1 .i64 .i64 _ _ xs.length rfl rfl rfl rfl (by rw [hz2]; omega) (by unfold maxLen; omega) (Nat.le_refl _) ?_; intro w1 hown hgrow)
    have hE := Ext.of_grownBy hgrow
    have hO : Obj w1 w.heap.size w1.heap.size [.sl 51 1 xs.length (fillE encRow [.sl 3 1 0 []] xs 0)] [.slice (some ⟨w.heap.size, 0, none⟩) xs.length xs.length] := by rw [fillE_zero]; exact Obj.made HZ.out rfl (by decide) hown
    clear hgrow hown
    go_loopg [4] xs.length (fun g i wr => ∃ k : Nat, k ≤ xs.length ∧ g = xs.length - k ∧ i = .int .i64 k ∧ Ext w wr ∧ Obj wr w.heap.size wr.heap.size [.sl 51 1 xs.length (fillE encRow [.sl 3 1 0 []] xs k)] [.slice (some ⟨w.heap.size, 0, none⟩) xs.length xs.length])
    case atStart => exact ⟨0, by omega, by omega, rfl, hE, hO⟩
    case round =>
      clear hE hO
      obtain ⟨k, hk, hg, rfl, hE, hO⟩ := hrel
      have HG := Lib.hid hg; clear hg
      by_cases hlt : k < xs.length
      · obtain ⟨x, hxk⟩ : ∃ x, xs[k]? = some x := ⟨_, List.getElem?_eq_getElem hlt⟩
        have e1 := (RAt.elem (enc := encRow) (sz := 1) (fun _ => rfl) hx hxk).ext hE
        have HX := Lib.hid hxk
        have HM := Lib.hid (List.mem_of_getElem? hxk)
        clear hxk
        obtain ⟨s1, t1, q0, qr0⟩ := e1.sl (j := 0) rfl
        simp only [Nat.mul_one, Nat.add_zero] at q0
        have d2 : szL [slD 3 1 encInt x] ≤ 1048576 := by have := szL_elem (enc := encRow) HM.out; have := HSZ.out; simp only [szL, slD, encRow] at *; omega
        have D2 := Lib.hid d2
        clear e1 d2
        go_wp2_with fail
        (refine (toIntS_any _ x _ qr0 D2.out).mono ?_); rintro e w2 ⟨p1, q1, rfl, hR, hb⟩
        have hO2 := hO.ext hb
        have hsz := hb.size
        obtain ⟨F, f1, f2, f3⟩ := hO2
        obtain ⟨v0, x0⟩ := f1.cellAt (o := k * 1 + 0) f2 (by rw [RS.len f1.read]; omega)
        have y0 := f1.frozenAt f2 (k * 1 + 0)
        simp only [Nat.mul_one, Nat.add_zero] at x0 y0
        have hO3 := Lib.hid (Obj.fill (enc := encRow) (z := [.sl 3 1 0 []]) (sz := 1) (hi := w2.heap.size) (fun _ => rfl) rfl ⟨F, f1, f2, f3⟩ HX.out hR (by omega) (by omega))
        clear f1 f2 f3 hR
        go_wp2
        go_roundg (xs.length - (k + 1))
        case measure => rw [HG.out]; omega
        case rel => exact ⟨k + 1, by omega, rfl, by go_num, by (repeat (first | (with_reducible exact Ext.refl _) | (with_reducible assumption) | (with_reducible refine Ext.alloc ?_ _) | (with_reducible refine Ext.drew ?_) | (with_reducible refine Ext.drewN ?_ _) | ((with_reducible apply Ext.setCell); (case hp => first | omega | (simp; done) | (simp; omega))) | (with_reducible refine Ext.trans ?_ (by assumption)))), Obj.mono (by have h := hO3.out; (try simp only [Nat.mul_one] at h); exact h) (Nat.le_refl _) (by (first | omega | (simp; done) | (simp; omega)))⟩
      · obtain rfl : k = xs.length := by omega
        rw [fillE_end] at hO
        go_wp2
        go_ret
        exact ⟨_, _, rfl, hO, hE⟩

set_option maxRecDepth 100000 in
set_option maxHeartbeats 4000000 in
theorem szIntSS_any (v : Value) (xs : List (List Int)) (left : Int) (w : World) (h : RL 51 1 encRow w v xs) (hok : okL [slD 51 1 encRow xs]) (h0 : 0 ≤ left) (h1 : left ≤ 1048576) :
    Calls Try.prog 122 #[v, .int .i64 left] w fun e w' => e = .returned (.int .i64 (szR left (szL [slD 51 1 encRow xs]))) ∧ Ext w w' := by
  have hm := RS.bd h
  replace hm : xs.length ≤ 9223372036854775807 := by unfold maxLen at hm; omega
  have hT : szL [slD 51 1 encRow xs] = xs.length + szL (xs.flatMap encRow) := by simp [slD, szL]
  rw [hT]
  clear hT
  have hokE : ∀ x ∈ xs, okL (encRow x) := fun x hx => by simp only [slD, okL] at hok; exact okL_elem hok.2.1 hx
  have HOK := Lib.hid hokE
  clear hok hokE
  by_cases hl : left < xs.length
  · obtain ⟨o1, c1, rfl⟩ := RS.val h
    have HR := Lib.hid (szR_out (b := szL (xs.flatMap encRow)) hl)
    clear h
    go_enter Try.func122, Try.ntmps122
    go_wp2
    go_ret
    exact ⟨ret_int HR.out, by (repeat (first | (with_reducible exact Ext.refl _) | (with_reducible assumption) | (with_reducible refine Ext.alloc ?_ _) | (with_reducible refine Ext.drew ?_) | (with_reducible refine Ext.drewN ?_ _) | ((with_reducible apply Ext.setCell); (case hp => first | omega | (simp; done) | (simp; omega))) | (with_reducible refine Ext.trans ?_ (by assumption))))⟩
  · rcases RS.cases h with ⟨hn0, _, o1, c1, rfl⟩ | ⟨b1, o1, c1, rfl, hp, _, _, hx⟩
    · obtain rfl := List.eq_nil_of_length_eq_zero hn0
      have HR := Lib.hid (szR_zero h0)
      clear h hn0 hl
      go_enter Try.func122, Try.ntmps122
      go_wp2
      refine wp_loop_rounds 1 ?_
      rw [rounds_succ]
      go_wp2
      go_ret
      exact ⟨ret_int (by simpa [szL] using HR.out), by (repeat (first | (with_reducible exact Ext.refl _) | (with_reducible assumption) | (with_reducible refine Ext.alloc ?_ _) | (with_reducible refine Ext.drew ?_) | (with_reducible refine Ext.drewN ?_ _) | ((with_reducible apply Ext.setCell); (case hp => first | omega | (simp; done) | (simp; omega))) | (with_reducible refine Ext.trans ?_ (by assumption))))⟩
    · clear h hp
      have hl' : (xs.length : Int) ≤ left := by omega
      clear hl
      go_enter Try.func122, Try.ntmps122
      go_wp2
      go_loopg [1, 5] xs.length (fun g s i wr => ∃ (k : Nat) (t : Int), k ≤ xs.length ∧ g = xs.length - k ∧ i = .int .i64 k ∧ s = .int .i64 t ∧ 0 ≤ t ∧ t ≤ 1048576 ∧ Hid (t = left - xs.length - szL ((xs.take k).flatMap encRow)) ∧ Ext w wr)
      case atStart => exact ⟨0, left - xs.length, by omega, by omega, rfl, rfl, by omega, by omega, Lib.hid (by simp [szL]), Ext.refl _⟩
      case round =>
        obtain ⟨k, t, hk, hg, rfl, rfl, ht0, ht1, HT, hE⟩ := hrel
        have HG := Lib.hid hg; clear hg
        by_cases hlt : k < xs.length
        · obtain ⟨x, hxk⟩ : ∃ x, xs[k]? = some x := ⟨_, List.getElem?_eq_getElem hlt⟩
          have e1 := (RAt.elem (enc := encRow) (sz := 1) (fun _ => rfl) hx hxk).ext hE
          have hok := HOK.out x (List.mem_of_getElem? hxk)
          have HS := Lib.hid (szL_next (enc := encRow) hxk)
          clear hxk
          obtain ⟨s1, t1, q0, qr0⟩ := e1.sl (j := 0) rfl
          simp only [Nat.mul_one, Nat.add_zero] at q0
          clear e1
          have OKX := Lib.hid hok; clear hok
          obtain ⟨a, ha⟩ : ∃ a, a = szL [slD 3 1 encInt x] := ⟨_, rfl⟩
          have HA := Lib.hid ha; clear ha
          by_cases hs : t < a
          · have HR := Lib.hid (szR_no hs)
            go_wp2_with fail
            (refine (szIntS_any _ x t _ qr0 OKX.out ht0 ht1).mono ?_); rw [show szL [slD 3 1 encInt x] = a from HA.out.symm, HR.out]; rintro e w1 ⟨rfl, hb⟩
            go_wp2
            go_ret
            exact ⟨ret_int (by have h1 := HT.out; have h2 : szL ((xs.take (k + 1)).flatMap encRow) = szL ((xs.take k).flatMap encRow) + szL [slD 3 1 encInt x] := HS.out; have h3 := HA.out; have h4 := szL_take (enc := encRow) xs (k + 1); exact szR_no (by omega)), by (repeat (first | (with_reducible exact Ext.refl _) | (with_reducible assumption) | (with_reducible refine Ext.alloc ?_ _) | (with_reducible refine Ext.drew ?_) | (with_reducible refine Ext.drewN ?_ _) | ((with_reducible apply Ext.setCell); (case hp => first | omega | (simp; done) | (simp; omega))) | (with_reducible refine Ext.trans ?_ (by assumption))))⟩
          · have HR := Lib.hid (szR_yes hs)
            go_wp2_with fail
            (refine (szIntS_any _ x t _ qr0 OKX.out ht0 ht1).mono ?_); rw [show szL [slD 3 1 encInt x] = a from HA.out.symm, HR.out]; rintro e w1 ⟨rfl, hb⟩
            go_wp2
            go_roundg (xs.length - (k + 1))
            case measure => rw [HG.out]; omega
            case rel => exact ⟨k + 1, _, by omega, rfl, by go_num, rfl, by omega, by omega, Lib.hid (by have h1 := HT.out; have h2 : szL ((xs.take (k + 1)).flatMap encRow) = szL ((xs.take k).flatMap encRow) + szL [slD 3 1 encInt x] := HS.out; have h3 := HA.out; have h4 := szL_take (enc := encRow) xs (k + 1); omega), by (repeat (first | (with_reducible exact Ext.refl _) | (with_reducible assumption) | (with_reducible refine Ext.alloc ?_ _) | (with_reducible refine Ext.drew ?_) | (with_reducible refine Ext.drewN ?_ _) | ((with_reducible apply Ext.setCell); (case hp => first | omega | (simp; done) | (simp; omega))) | (with_reducible refine Ext.trans ?_ (by assumption))))⟩
        · obtain rfl : k = xs.length := by omega
          go_wp2
          go_ret
          exact ⟨ret_int (by have h1 := HT.out; rw [List.take_length] at h1; rw [szR_yes (by omega)]; omega), by (repeat (first | (with_reducible exact Ext.refl _) | (with_reducible assumption) | (with_reducible refine Ext.alloc ?_ _) | (with_reducible refine Ext.drew ?_) | (with_reducible refine Ext.drewN ?_ _) | ((with_reducible apply Ext.setCell); (case hp => first | omega | (simp; done) | (simp; omega))) | (with_reducible refine Ext.trans ?_ (by assumption))))⟩

set_option maxRecDepth 100000 in
set_option maxHeartbeats 4000000 in
theorem markIntSS_any (v : Value) (xs : List (List Int)) (k0 : Int) (F : List Nat) (w : World) (h : Ows w [slD 51 1 encRow xs] [v] F) (hn : F.Nodup) (h0 : 0 ≤ k0) (h1 : k0 + cnt (xs.flatMap encRow) ≤ 1099511627776) :
    Calls Try.prog 125 #[v, .int .i64 k0] w fun e w' => e = .returned (.int .i64 (k0 + cnt (xs.flatMap encRow))) ∧ Ows w' [.sl 51 1 xs.length (mk (xs.flatMap encRow) k0)] [v] F ∧ Chg F w w' := by
  have hm := RS.bd h.read
  replace hm : xs.length ≤ 9223372036854775807 := by unfold maxLen at hm; omega
  have HN := Lib.hid hn
  have H1 := Lib.hid h1
  clear hn h1
  rcases Ows.val h with ⟨rfl, hx0⟩ | ⟨g, c, rfl⟩
  · obtain rfl := List.eq_nil_of_length_eq_zero hx0
    clear hx0
    go_enter Try.func125, Try.ntmps125
    go_wp2
    refine wp_loop_rounds 1 ?_
    rw [rounds_succ]
    go_wp2
    go_ret
    exact ⟨by simp [cnt], by simpa [mk, slD] using h, Chg.refl⟩
  · have hO : Ows w [.sl 51 1 xs.length (mid (xs.flatMap encRow) k0 (0 * 1))] [.slice (some ⟨g, 0, none⟩) xs.length c] F := by rw [Nat.zero_mul, mid_zero]; exact h
    clear h
    have hC : Chg F w w := Chg.refl
    have hc0 : Cn (xs.flatMap encRow) k0 (0 * 1) k0 := by rw [Nat.zero_mul]; exact Cn.zero
    go_enter Try.func125, Try.ntmps125
    go_wp2
    go_loopg [1, 5] xs.length (fun gk s i wr => ∃ (k : Nat) (c' : Int), k ≤ xs.length ∧ gk = xs.length - k ∧ i = .int .i64 k ∧ s = .int .i64 c' ∧ Cn (xs.flatMap encRow) k0 (k * 1) c' ∧ Chg F w wr ∧ Ows wr [.sl 51 1 xs.length (mid (xs.flatMap encRow) k0 (k * 1))] [.slice (some ⟨g, 0, none⟩) xs.length c] F)
    case atStart => exact ⟨0, k0, by omega, by omega, rfl, rfl, hc0, hC, hO⟩
    case round =>
      clear hc0 hC hO
      obtain ⟨k, c', hk, hg, rfl, rfl, hc0, hC, hO⟩ := hrel
      have HG := Lib.hid hg; clear hg
      by_cases hlt : k < xs.length
      · obtain ⟨x, hxk⟩ : ∃ x, xs[k]? = some x := ⟨_, List.getElem?_eq_getElem hlt⟩
        have HX := Lib.hid hxk; clear hxk
        have hfl : ∀ j, j < 1 → k * 1 + j < (xs.flatMap encRow).length := fun j hj => by rw [flat_len (enc := encRow) (sz := 1) (fun _ => rfl)]; exact flat_lt hlt hj
        have HFL := Lib.hid hfl; clear hfl
        obtain ⟨b0, b1⟩ := hc0.bd h0 H1.out
        have hgm := hO.gmem HN.out
        have HGM := Lib.hid hgm; clear hgm
        have g0 := Lib.hid (flat_at (enc := encRow) (sz := 1) (j := 0) (fun _ => rfl) HX.out rfl)
        have O0 := Lib.hid hO
        have C0 := Lib.hid hc0; clear hc0
        clear hO
        obtain ⟨so0, sc0, Fd0, m0, n0, p0, s0, t0⟩ := O0.out.markN HN.out g0.out C0.out
        simp only [Nat.mul_one] at m0
        have T0 := Lib.hid t0; have S0 := Lib.hid s0; have P0 := Lib.hid p0; have N0 := Lib.hid n0; clear t0 s0 p0 n0
        have D0 := Lib.hid (C0.out.sl g0.out)
        have q0 := (D0.out.bd h0 H1.out).2
        go_wp2_with fail
        (refine (markIntS_any _ x _ Fd0 _ (N0.out) P0.out (by omega) q0).mono ?_); rintro e u1 ⟨rfl, hN, hb⟩
        have O1 := Lib.hid (T0.out _ hN hb)
        have C1 := D0
        replace hC := Chg.trans (by (repeat (first | (with_reducible assumption) | ((with_reducible apply Chg.set); (case hg => exact HGM.out))))) (hb.mono S0.out)
        clear hb hN
        skip
        obtain ⟨b0, b1⟩ := C1.out.bd h0 H1.out
        go_wp2
        go_roundg (xs.length - (k + 1))
        case measure => rw [HG.out]; omega
        case rel => exact ⟨k + 1, _, by omega, rfl, by go_num, rfl, by rw [Nat.add_mul]; exact C1.out, by (repeat (first | (with_reducible assumption) | ((with_reducible apply Chg.set); (case hg => exact HGM.out)))), by have h := O1.out; (try simp only [Nat.mul_one] at h ⊢); (try rw [Nat.add_mul]); exact h⟩
      · obtain rfl : k = xs.length := by omega
        have e1 : xs.length * 1 = (xs.flatMap encRow).length := (flat_len (enc := encRow) (sz := 1) (fun _ => rfl) xs).symm
        have HE := Lib.hid (hc0.last e1)
        rw [e1, mid_end] at hO
        clear e1
        go_wp2
        go_ret
        exact ⟨ret_int HE.out.symm, hO, hC⟩

set_option maxRecDepth 100000 in
set_option maxHeartbeats 4000000 in
theorem heldIntSS_any (v : Value) (xs : List (List Int)) (k0 : Int) (w : World) (h : RS w 51 1 xs.length (mk (xs.flatMap encRow) k0) v) (h0 : 0 ≤ k0) (h1 : k0 + cnt (xs.flatMap encRow) ≤ 1099511627776) :
    Calls Try.prog 126 #[v, .int .i64 k0] w fun e w' => e = .returned (.int .i64 (k0 + cnt (xs.flatMap encRow))) ∧ Ext w w' := by
  have hm := RS.bd h
  replace hm : xs.length ≤ 9223372036854775807 := by unfold maxLen at hm; omega
  have H1 := Lib.hid h1
  clear h1
  rcases RS.cases h with ⟨hn0, _, o1, c1, rfl⟩ | ⟨b1, o1, c1, rfl, hp, _, _, hx⟩
  · obtain rfl := List.eq_nil_of_length_eq_zero hn0
    clear h hn0
    go_enter Try.func126, Try.ntmps126
    go_wp2
    refine wp_loop_rounds 1 ?_
    rw [rounds_succ]
    go_wp2
    go_ret
    exact ⟨by simp [cnt], by (repeat (first | (with_reducible exact Ext.refl _) | (with_reducible assumption) | (with_reducible refine Ext.alloc ?_ _) | (with_reducible refine Ext.drew ?_) | (with_reducible refine Ext.drewN ?_ _) | ((with_reducible apply Ext.setCell); (case hp => first | omega | (simp; done) | (simp; omega))) | (with_reducible refine Ext.trans ?_ (by assumption))))⟩
  · clear h hp
    have hc0 : Cn (xs.flatMap encRow) k0 (0 * 1) k0 := by rw [Nat.zero_mul]; exact Cn.zero
    go_enter Try.func126, Try.ntmps126
    go_wp2
    go_loopg [1, 5] xs.length (fun gk s i wr => ∃ (k : Nat) (c' : Int), k ≤ xs.length ∧ gk = xs.length - k ∧ i = .int .i64 k ∧ s = .int .i64 c' ∧ Cn (xs.flatMap encRow) k0 (k * 1) c' ∧ Ext w wr)
    case atStart => exact ⟨0, k0, by omega, by omega, rfl, rfl, hc0, Ext.refl _⟩
    case round =>
      clear hc0
      obtain ⟨k, c', hk, hg, rfl, rfl, hc0, hE⟩ := hrel
      have HG := Lib.hid hg; clear hg
      by_cases hlt : k < xs.length
      · obtain ⟨x, hxk⟩ : ∃ x, xs[k]? = some x := ⟨_, List.getElem?_eq_getElem hlt⟩
        have HX := Lib.hid hxk; clear hxk
        obtain ⟨bd0, bd1⟩ := hc0.bd h0 H1.out
        have i0 : (0 : Int) ≤ (k : Int) := by omega
        have i1 : (k : Int) < (xs.length : Int) := by omega
        have e1 := (RAt.markRow (enc := encRow) (sz := 1) (fun _ => rfl) hx HX.out hc0).ext hE
        have g0 := Lib.hid (flat_at (enc := encRow) (sz := 1) (j := 0) (fun _ => rfl) HX.out rfl)
        have C0 := Lib.hid hc0; clear hc0
        obtain ⟨so0, sc0, q0, r0⟩ := e1.sl (j := 0) (e := 3) (sz := 1) (n := x.length) (es := mk (x.flatMap encInt) (c')) (by first | (simp [encRow, mk, slD]; done) | (simp [encRow, mk, slD, Int.add_assoc]; done)); simp only [Nat.mul_one, Nat.add_zero] at q0
        have C1 := Lib.hid (C0.out.sl g0.out)
        have p0 := (C1.out.bd h0 H1.out).2
        have p00 := (C0.out.bd h0 H1.out).1
        clear e1
        go_wp2_with fail
        (refine (heldIntS_any _ x _ _ (RS.ext r0 (by (repeat (first | (with_reducible exact Ext.refl _) | (with_reducible assumption) | (with_reducible refine Ext.alloc ?_ _) | (with_reducible refine Ext.drew ?_) | (with_reducible refine Ext.drewN ?_ _) | ((with_reducible apply Ext.setCell); (case hp => first | omega | (simp; done) | (simp; omega))) | (with_reducible refine Ext.trans ?_ (by assumption)))))) (by omega) p0).mono ?_); rintro e u1 ⟨rfl, hb⟩
        have Q1 : Ext wr u1 := by (repeat (first | (with_reducible exact Ext.refl _) | (with_reducible assumption) | (with_reducible refine Ext.alloc ?_ _) | (with_reducible refine Ext.drew ?_) | (with_reducible refine Ext.drewN ?_ _) | ((with_reducible apply Ext.setCell); (case hp => first | omega | (simp; done) | (simp; omega))) | (with_reducible refine Ext.trans ?_ (by assumption))))
        clear hb
        go_wp2
        go_roundg (xs.length - (k + 1))
        case measure => rw [HG.out]; omega
        case rel => exact ⟨k + 1, _, by omega, rfl, by go_num, rfl, by rw [Nat.add_mul]; exact C1.out, by (repeat (first | (with_reducible exact Ext.refl _) | (with_reducible assumption) | (with_reducible refine Ext.alloc ?_ _) | (with_reducible refine Ext.drew ?_) | (with_reducible refine Ext.drewN ?_ _) | ((with_reducible apply Ext.setCell); (case hp => first | omega | (simp; done) | (simp; omega))) | (with_reducible refine Ext.trans ?_ (by assumption))))⟩
      · obtain rfl : k = xs.length := by omega
        have e1 : xs.length * 1 = (xs.flatMap encRow).length := (flat_len (enc := encRow) (sz := 1) (fun _ => rfl) xs).symm
        have HE := Lib.hid (hc0.last e1)
        clear e1
        go_wp2
        go_ret
        exact ⟨ret_int HE.out.symm, by (repeat (first | (with_reducible exact Ext.refl _) | (with_reducible assumption) | (with_reducible refine Ext.alloc ?_ _) | (with_reducible refine Ext.drew ?_) | (with_reducible refine Ext.drewN ?_ _) | ((with_reducible apply Ext.setCell); (case hp => first | omega | (simp; done) | (simp; omega))) | (with_reducible refine Ext.trans ?_ (by assumption))))⟩
end Go.Proofs.Ytkbikihbomnghaa
/- Lanes: data, and the laws' helpers. Printed by a program of ours. -/
namespace Go.Proofs.Ytkbikihbomnghaa
set_option linter.unusedSimpArgs false
set_option linter.unusedVariables false
open Go.RowKit

def encLanes (x : GLanes) : List D := [slD 51 1 encRow x.fRows, .int x.fTurn]
theorem encLanes_len (x : GLanes) : (encLanes x).length = 2 := rfl
theorem dec_Lanes : Dec [.sl [.sl [.int .i64]], .int .i64] encLanes := by
  intro n W vs h
  match vs, h with
  | [_, _], ⟨k0, k1, _⟩ =>
    obtain ⟨a0, r0, h0⟩ := dec_sl 51 dec_row (fun _ => rfl) (by decide) k0
    obtain ⟨a1, rfl, h1⟩ := cell_int k1
    exact ⟨⟨a0, a1⟩, (rds_slD.2 ⟨_, _, rfl, r0, (Rds.int _ Rds.nil)⟩), (okL_cons h0 (okL_int h1 okL_nil))⟩
theorem pv_Lanes (x : GLanes) : toPVL (encLanes x) = pLanes x := by
  simp only [encLanes, pLanes, toPVL, toPV, pvs_row]
theorem pvs_Lanes (e : TypeId) (xs : List GLanes) : toPV (slD e 2 encLanes xs) = .sl 2 (xs.map pLanes) := by rw [toPV_slD (enc := encLanes) (sz := 2) (fun _ => rfl)]; simp only [pv_Lanes]
theorem cnt_Lanes (x : GLanes) : cnt (encLanes x) ≤ 64 + 64 * szL (encLanes x) := by
  have h0 := cnt_list cnt_encRow x.fRows
  simp [encLanes, cnt, szL, slD]
  omega

set_option maxRecDepth 100000 in
set_option maxHeartbeats 4000000 in
theorem toLanes_any (x : GLanes) (o1 : Option Addr) (c1 : Nat) (w : World) (h : Rds w (encLanes x) [.slice o1 x.fRows.length c1, .int .i64 x.fTurn]) (hz : szL (encLanes x) ≤ 1048576) :
    Calls Try.prog 62 #[.agg #[.slice o1 x.fRows.length c1, .int .i64 x.fTurn]] w fun e w' => ∃ (p1 : Option Addr) (q1 : Nat), e = .returned (.agg #[.slice p1 x.fRows.length q1, .int .i64 x.fTurn]) ∧ Obj w' w.heap.size w'.heap.size (encLanes x) [.slice p1 x.fRows.length q1, .int .i64 x.fTurn] ∧ Ext w w' := by
  have r0 : RL 51 1 encRow w (.slice o1 x.fRows.length c1) x.fRows := h.cut 0 1
  have z0 : szL [slD 51 1 encRow x.fRows] ≤ 1048576 := Nat.le_trans (szL_cut (encLanes x) 0 1) hz
  have Z0 := Lib.hid z0; clear z0
  clear h hz
  go_enter Try.func62, Try.ntmps62
  go_wp2_with fail
  (refine (toIntSS_any _ x.fRows _ (r0.ext (by (repeat (first | (with_reducible exact Ext.refl _) | (with_reducible assumption) | (with_reducible refine Ext.alloc ?_ _) | (with_reducible refine Ext.drew ?_) | (with_reducible refine Ext.drewN ?_ _) | ((with_reducible apply Ext.setCell); (case hp => first | omega | (simp; done) | (simp; omega))) | (with_reducible refine Ext.trans ?_ (by assumption)))))) Z0.out).mono ?_); rintro e w1 ⟨p1, q1, rfl, O, hb⟩; (obtain ⟨B0, c0, f0, l0⟩ := Box.after (k := w.heap.size) hb (by (repeat (first | (with_reducible assumption) | ((with_reducible apply Box.new); (first | (with_reducible rfl) | (simp; done) | (simp; omega))) | (with_reducible apply Box.alloc) | (with_reducible apply Box.drew) | (with_reducible apply Box.drewN) | (with_reducible apply Box.set) | ((with_reducible apply Box.set_ne); (case hne => first | omega | (simp; done) | (simp; omega))))))); (obtain ⟨B1, c1, f1, l1⟩ := Box.after (k := w.heap.size + 1) hb (by (repeat (first | (with_reducible assumption) | ((with_reducible apply Box.new); (first | (with_reducible rfl) | (simp; done) | (simp; omega))) | (with_reducible apply Box.alloc) | (with_reducible apply Box.drew) | (with_reducible apply Box.drewN) | (with_reducible apply Box.set) | ((with_reducible apply Box.set_ne); (case hne => first | omega | (simp; done) | (simp; omega))))))); (obtain ⟨B2, c2, f2, l2⟩ := Box.after (k := w.heap.size + 2) hb (by (repeat (first | (with_reducible assumption) | ((with_reducible apply Box.new); (first | (with_reducible rfl) | (simp; done) | (simp; omega))) | (with_reducible apply Box.alloc) | (with_reducible apply Box.drew) | (with_reducible apply Box.drewN) | (with_reducible apply Box.set) | ((with_reducible apply Box.set_ne); (case hne => first | omega | (simp; done) | (simp; omega)))))))
  have hz := hb.size; simp at hz
  have A : Obj w1 (w.heap.size + 3) (w.heap.size + 3) [] [] := obj_nil
  replace A : Obj w1 (w.heap.size + 3) w1.heap.size [slD 51 1 encRow x.fRows] [.slice p1 x.fRows.length q1] := Obj.more A O (by (first | omega | (simp; done) | (simp; omega))) (by (first | omega | (simp; done) | (simp; omega))) (by (first | omega | (simp; done) | (simp; omega)))
  have E1 : Ext w w1 := by (repeat (first | (with_reducible exact Ext.refl _) | (with_reducible assumption) | (with_reducible refine Ext.alloc ?_ _) | (with_reducible refine Ext.drew ?_) | (with_reducible refine Ext.drewN ?_ _) | ((with_reducible apply Ext.setCell); (case hp => first | omega | (simp; done) | (simp; omega))) | (with_reducible refine Ext.trans ?_ (by assumption))))
  clear hb O hz
  replace A : Obj w1 (w.heap.size + 3) w1.heap.size [slD 51 1 encRow x.fRows, .int x.fTurn] [.slice p1 x.fRows.length q1, .int .i64 x.fTurn] := Obj.more A (.int obj_nil : Obj _ w1.heap.size w1.heap.size _ _) (Nat.le_refl _) (Nat.le_refl _) (by (first | omega | (simp; done) | (simp; omega)))
  have AS := A.read
  have HA := Lib.hid A; clear A AS
  go_wp2
  exact bodyPost_ret (v := .agg #[.slice p1 x.fRows.length q1, .int .i64 x.fTurn]) (by simp [results, Try.results62, go_sem, c1]) rfl ⟨_, _, rfl, Obj.mono (lo := w.heap.size + 3) (hi := w1.heap.size) (show Obj _ _ _ [slD 51 1 encRow x.fRows, .int x.fTurn] _ from by have A := HA.out; (repeat (first | (with_reducible assumption) | (with_reducible apply Obj.alloc) | (with_reducible apply Obj.drew) | (with_reducible apply Obj.drewN) | ((with_reducible apply Obj.set); (case hk => first | omega | (simp; done) | (simp; omega) | (left; simp; omega) | (right; simp; omega))) | (with_reducible refine Obj.ext ?_ (by assumption))))) (by (first | omega | (simp; done) | (simp; omega))) (by (first | omega | (simp; done) | (simp; omega))), by (repeat (first | (with_reducible exact Ext.refl _) | (with_reducible assumption) | (with_reducible refine Ext.alloc ?_ _) | (with_reducible refine Ext.drew ?_) | (with_reducible refine Ext.drewN ?_ _) | ((with_reducible apply Ext.setCell); (case hp => first | omega | (simp; done) | (simp; omega))) | (with_reducible refine Ext.trans ?_ (by assumption))))⟩

set_option maxRecDepth 100000 in
set_option maxHeartbeats 4000000 in
theorem szLanes_any (x : GLanes) (o1 : Option Addr) (c1 : Nat) (left : Int) (w : World) (h : Rds w (encLanes x) [.slice o1 x.fRows.length c1, .int .i64 x.fTurn]) (hok : okL (encLanes x)) (h0 : 0 ≤ left) (h1 : left ≤ 1048576) :
    Calls Try.prog 60 #[.agg #[.slice o1 x.fRows.length c1, .int .i64 x.fTurn], .int .i64 left] w fun e w' => e = .returned (.int .i64 (szR left (szL (encLanes x)))) ∧ Ext w w' := by
  have r0 : RL 51 1 encRow w (.slice o1 x.fRows.length c1) x.fRows := h.cut 0 1
  have k0 : okL [slD 51 1 encRow x.fRows] := okL_cut (ds := encLanes x) 0 1 hok
  have K0 := Lib.hid k0; clear k0
  have hT : szL (encLanes x) = szL [slD 51 1 encRow x.fRows] := by simp [encLanes, szL, slD]; try omega
  rw [hT]
  clear hT hok h
  obtain ⟨a0, ha0⟩ : ∃ a, a = szL [slD 51 1 encRow x.fRows] := ⟨_, rfl⟩
  rw [← ha0]
  have HA0 := Lib.hid ha0; clear ha0
  by_cases h2 : left < (a0 : Nat)
  · have R0 := Lib.hid (szR_no h2)
    go_enter Try.func60, Try.ntmps60
    go_wp2_with fail
    (refine (szIntSS_any _ x.fRows _ _ (r0.ext (by (repeat (first | (with_reducible exact Ext.refl _) | (with_reducible assumption) | (with_reducible refine Ext.alloc ?_ _) | (with_reducible refine Ext.drew ?_) | (with_reducible refine Ext.drewN ?_ _) | ((with_reducible apply Ext.setCell); (case hp => first | omega | (simp; done) | (simp; omega))) | (with_reducible refine Ext.trans ?_ (by assumption)))))) K0.out (by omega) (by omega)).mono ?_); rw [show szL [slD 51 1 encRow x.fRows] = a0 from HA0.out.symm, R0.out]; rintro e w0 ⟨rfl, hb⟩; (obtain ⟨B0, c0, f0, l0⟩ := Box.after (k := w.heap.size) hb (by (repeat (first | (with_reducible assumption) | ((with_reducible apply Box.new); (first | (with_reducible rfl) | (simp; done) | (simp; omega))) | (with_reducible apply Box.alloc) | (with_reducible apply Box.drew) | (with_reducible apply Box.drewN) | (with_reducible apply Box.set) | ((with_reducible apply Box.set_ne); (case hne => first | omega | (simp; done) | (simp; omega)))))))
    have E0 : Ext w w0 := by (repeat (first | (with_reducible exact Ext.refl _) | (with_reducible assumption) | (with_reducible refine Ext.alloc ?_ _) | (with_reducible refine Ext.drew ?_) | (with_reducible refine Ext.drewN ?_ _) | ((with_reducible apply Ext.setCell); (case hp => first | omega | (simp; done) | (simp; omega))) | (with_reducible refine Ext.trans ?_ (by assumption))))
    clear hb
    go_wp2
    go_ret
    exact ⟨ret_int (szR_no (by omega)), by (repeat (first | (with_reducible exact Ext.refl _) | (with_reducible assumption) | (with_reducible refine Ext.alloc ?_ _) | (with_reducible refine Ext.drew ?_) | (with_reducible refine Ext.drewN ?_ _) | ((with_reducible apply Ext.setCell); (case hp => first | omega | (simp; done) | (simp; omega))) | (with_reducible refine Ext.trans ?_ (by assumption))))⟩
  · have R0 := Lib.hid (szR_yes h2)
    go_enter Try.func60, Try.ntmps60
    go_wp2_with fail
    (refine (szIntSS_any _ x.fRows _ _ (r0.ext (by (repeat (first | (with_reducible exact Ext.refl _) | (with_reducible assumption) | (with_reducible refine Ext.alloc ?_ _) | (with_reducible refine Ext.drew ?_) | (with_reducible refine Ext.drewN ?_ _) | ((with_reducible apply Ext.setCell); (case hp => first | omega | (simp; done) | (simp; omega))) | (with_reducible refine Ext.trans ?_ (by assumption)))))) K0.out (by omega) (by omega)).mono ?_); rw [show szL [slD 51 1 encRow x.fRows] = a0 from HA0.out.symm, R0.out]; rintro e w0 ⟨rfl, hb⟩; (obtain ⟨B0, c0, f0, l0⟩ := Box.after (k := w.heap.size) hb (by (repeat (first | (with_reducible assumption) | ((with_reducible apply Box.new); (first | (with_reducible rfl) | (simp; done) | (simp; omega))) | (with_reducible apply Box.alloc) | (with_reducible apply Box.drew) | (with_reducible apply Box.drewN) | (with_reducible apply Box.set) | ((with_reducible apply Box.set_ne); (case hne => first | omega | (simp; done) | (simp; omega)))))))
    have E0 : Ext w w0 := by (repeat (first | (with_reducible exact Ext.refl _) | (with_reducible assumption) | (with_reducible refine Ext.alloc ?_ _) | (with_reducible refine Ext.drew ?_) | (with_reducible refine Ext.drewN ?_ _) | ((with_reducible apply Ext.setCell); (case hp => first | omega | (simp; done) | (simp; omega))) | (with_reducible refine Ext.trans ?_ (by assumption))))
    clear hb
    go_wp2
    go_ret
    exact ⟨ret_int ((szR_yes (by omega)).trans (by omega)), by (repeat (first | (with_reducible exact Ext.refl _) | (with_reducible assumption) | (with_reducible refine Ext.alloc ?_ _) | (with_reducible refine Ext.drew ?_) | (with_reducible refine Ext.drewN ?_ _) | ((with_reducible apply Ext.setCell); (case hp => first | omega | (simp; done) | (simp; omega))) | (with_reducible refine Ext.trans ?_ (by assumption))))⟩

set_option maxRecDepth 100000 in
set_option maxHeartbeats 4000000 in
theorem eqLanes_any (x : GLanes) (o1 : Option Addr) (c1 : Nat) (p1 : Option Addr) (q1 : Nat) (w : World) (h1 : Rds w (encLanes x) [.slice o1 x.fRows.length c1, .int .i64 x.fTurn]) (h2 : Rds w (encLanes x) [.slice p1 x.fRows.length q1, .int .i64 x.fTurn]) :
    Calls Try.prog 63 #[.agg #[.slice o1 x.fRows.length c1, .int .i64 x.fTurn], .agg #[.slice p1 x.fRows.length q1, .int .i64 x.fTurn]] w fun e w' => e = .returned (.bool true) ∧ Ext w w' := by
  have r0_0 : RL 51 1 encRow w (.slice o1 x.fRows.length c1) x.fRows := h1.cut 0 1
  have r0_1 : RL 51 1 encRow w (.slice p1 x.fRows.length q1) x.fRows := h2.cut 0 1
  clear h1 h2
  go_enter Try.func63, Try.ntmps63
  go_wp2_with fail
  (refine (eqIntSS_any _ _ x.fRows _ (r0_0.ext (by (repeat (first | (with_reducible exact Ext.refl _) | (with_reducible assumption) | (with_reducible refine Ext.alloc ?_ _) | (with_reducible refine Ext.drew ?_) | (with_reducible refine Ext.drewN ?_ _) | ((with_reducible apply Ext.setCell); (case hp => first | omega | (simp; done) | (simp; omega))) | (with_reducible refine Ext.trans ?_ (by assumption)))))) (r0_1.ext (by (repeat (first | (with_reducible exact Ext.refl _) | (with_reducible assumption) | (with_reducible refine Ext.alloc ?_ _) | (with_reducible refine Ext.drew ?_) | (with_reducible refine Ext.drewN ?_ _) | ((with_reducible apply Ext.setCell); (case hp => first | omega | (simp; done) | (simp; omega))) | (with_reducible refine Ext.trans ?_ (by assumption))))))).mono ?_); rintro e w1 ⟨rfl, hb⟩; (obtain ⟨B0, c0, f0, l0⟩ := Box.after (k := w.heap.size) hb (by (repeat (first | (with_reducible assumption) | ((with_reducible apply Box.new); (first | (with_reducible rfl) | (simp; done) | (simp; omega))) | (with_reducible apply Box.alloc) | (with_reducible apply Box.drew) | (with_reducible apply Box.drewN) | (with_reducible apply Box.set) | ((with_reducible apply Box.set_ne); (case hne => first | omega | (simp; done) | (simp; omega))))))); (obtain ⟨B1, c1, f1, l1⟩ := Box.after (k := w.heap.size + 1) hb (by (repeat (first | (with_reducible assumption) | ((with_reducible apply Box.new); (first | (with_reducible rfl) | (simp; done) | (simp; omega))) | (with_reducible apply Box.alloc) | (with_reducible apply Box.drew) | (with_reducible apply Box.drewN) | (with_reducible apply Box.set) | ((with_reducible apply Box.set_ne); (case hne => first | omega | (simp; done) | (simp; omega)))))))
  have E1 : Ext w w1 := by (repeat (first | (with_reducible exact Ext.refl _) | (with_reducible assumption) | (with_reducible refine Ext.alloc ?_ _) | (with_reducible refine Ext.drew ?_) | (with_reducible refine Ext.drewN ?_ _) | ((with_reducible apply Ext.setCell); (case hp => first | omega | (simp; done) | (simp; omega))) | (with_reducible refine Ext.trans ?_ (by assumption))))
  clear hb
  go_wp2
  go_ret
  exact ⟨rfl, by (repeat (first | (with_reducible exact Ext.refl _) | (with_reducible assumption) | (with_reducible refine Ext.alloc ?_ _) | (with_reducible refine Ext.drew ?_) | (with_reducible refine Ext.drewN ?_ _) | ((with_reducible apply Ext.setCell); (case hp => first | omega | (simp; done) | (simp; omega))) | (with_reducible refine Ext.trans ?_ (by assumption))))⟩

set_option maxRecDepth 100000 in
set_option maxHeartbeats 4000000 in
theorem markLanes_any (x : GLanes) (o1 : Option Addr) (c1 : Nat) (k0 : Int) (F : List Nat) (w : World) (h : Ows w (encLanes x) [.slice o1 x.fRows.length c1, .int .i64 x.fTurn] F) (hn : F.Nodup) (h0 : 0 ≤ k0) (h1 : k0 + cntT (encLanes x) ≤ 1099511627776) :
    Calls Try.prog 64 #[.agg #[.slice o1 x.fRows.length c1, .int .i64 x.fTurn], .int .i64 k0] w fun e w' => e = .returned (.int .i64 (k0 + cntT (encLanes x))) ∧ Ows w' (mkT (encLanes x) k0) [.slice o1 x.fRows.length c1, .int .i64 x.fTurn] F ∧ Chg F w w' := by
  have HN := Lib.hid hn
  have H1 := Lib.hid h1
  clear hn h1
  have O0 : Hid (Ows w (midT (encLanes x) k0 0) [.slice o1 x.fRows.length c1, .int .i64 x.fTurn] F) := by rw [midT_zero]; exact Lib.hid h
  have hlow : ∀ k ∈ F, k < w.heap.size := h.mem
  have HLOW := Lib.hid hlow
  clear h hlow
  have C0 : Hid (CnT (encLanes x) k0 0 k0) := Lib.hid CnT.zero
  have hC : Chg F w w := Chg.refl
  go_enter Try.func64, Try.ntmps64
  obtain ⟨Fd0, n0, p0, s0, t0⟩ := O0.out.stepT (o := 0) 1 HN.out (by simp [encLanes]) C0.out
  have N0 := Lib.hid n0; have P0 := Lib.hid p0; have S0 := Lib.hid s0; have T0 := Lib.hid t0; clear n0 p0 s0 t0 O0
  have D0 := Lib.hid (C0.out.step (n := 1))
  have b0 := (C0.out.bd h0 H1.out).1
  have e0 : cntT (((encLanes x).drop 0).take 1) = cnt (x.fRows.flatMap encRow) := by simp [encLanes, cntT, slD]
  rw [e0] at D0
  have q0 := (D0.out.bd h0 H1.out).2
  clear e0 C0
  go_wp2_with fail
  (refine (markIntSS_any _ x.fRows _ Fd0 _ ((show Ows w [slD 51 1 encRow x.fRows] [.slice o1 x.fRows.length c1] Fd0 from N0.out).ext (by (repeat (first | (with_reducible exact Ext.refl _) | (with_reducible assumption) | (with_reducible refine Ext.alloc ?_ _) | (with_reducible refine Ext.drew ?_) | (with_reducible refine Ext.drewN ?_ _) | ((with_reducible apply Ext.setCell); (case hp => first | omega | (simp; done) | (simp; omega))) | (with_reducible refine Ext.trans ?_ (by assumption)))))) P0.out (by omega) q0).mono ?_); rintro e u1 ⟨rfl, hN, hb⟩
  have B1 : Box u1 w.heap.size #[.slice o1 x.fRows.length c1, .int .i64 x.fTurn] := Box.chg (by (repeat (first | (with_reducible assumption) | ((with_reducible apply Box.new); (first | (with_reducible rfl) | (simp; done) | (simp; omega))) | (with_reducible apply Box.alloc) | (with_reducible apply Box.drew) | (with_reducible apply Box.drewN) | (with_reducible apply Box.set) | ((with_reducible apply Box.set_ne); (case hne => first | omega | (simp; done) | (simp; omega)))))) hb (fun h => by have := HLOW.out _ (S0.out _ h); omega)
  obtain ⟨c1_, f1_, l1_⟩ := B1.rules
  have hM : Chg Fd0 w u1 := Chg.trans (Ext.chg (by (repeat (first | (with_reducible exact Ext.refl _) | (with_reducible assumption) | (with_reducible refine Ext.alloc ?_ _) | (with_reducible refine Ext.drew ?_) | (with_reducible refine Ext.drewN ?_ _) | ((with_reducible apply Ext.setCell); (case hp => first | omega | (simp; done) | (simp; omega))) | (with_reducible refine Ext.trans ?_ (by assumption)))))) hb
  have O0 := Lib.hid (T0.out u1 (by simpa [encLanes, mkT, slD] using hN) hM)
  replace hC := hC.trans (hM.mono S0.out)
  have C0 := D0
  clear hb hN hM
  replace O0 : Hid (Ows u1 (midT (encLanes x) k0 2) [.slice o1 x.fRows.length c1, .int .i64 x.fTurn] F) := by have h := O0.out; rw [show 2 = 1 + 1 from rfl, midT_skip (ds := encLanes x) (o := 1) (n := 1) rfl]; exact Lib.hid h
  replace C0 := Lib.hid (C0.out.skip (o := 1) (n := 1) rfl)
  have HE := Lib.hid (C0.out.last rfl)
  have OE := O0.out; rw [midT_end (ds := encLanes x) (o := 2) rfl] at OE
  go_wp2
  go_ret
  exact ⟨ret_int HE.out.symm, OE, hC⟩

set_option maxRecDepth 100000 in
set_option maxHeartbeats 4000000 in
theorem heldLanes_any (x : GLanes) (o1 : Option Addr) (c1 : Nat) (k0 : Int) (w : World) (h : Rds w (mkT (encLanes x) k0) [.slice o1 x.fRows.length c1, .int .i64 x.fTurn]) (h0 : 0 ≤ k0) (h1 : k0 + cntT (encLanes x) ≤ 1099511627776) :
    Calls Try.prog 65 #[.agg #[.slice o1 x.fRows.length c1, .int .i64 x.fTurn], .int .i64 k0] w fun e w' => e = .returned (.int .i64 (k0 + cntT (encLanes x))) ∧ Ext w w' := by
  have H1 := Lib.hid h1
  clear h1
  have C0 : Hid (CnT (encLanes x) k0 0 k0) := Lib.hid CnT.zero
  have r0 := Rds.cutT (o := 0) 1 h (by simp [encLanes]) C0.out
  replace r0 : RS w 51 1 x.fRows.length (mk (x.fRows.flatMap encRow) (k0)) (.slice o1 x.fRows.length c1) := by simpa [RS, encLanes, mkT, slD] using r0
  have b0 := (C0.out.bd h0 H1.out).1
  replace C0 := Lib.hid (C0.out.step (n := 1))
  have e0 : cntT (((encLanes x).drop 0).take 1) = cnt (x.fRows.flatMap encRow) := by simp [encLanes, cntT, slD]
  rw [e0] at C0
  have q0 := (C0.out.bd h0 H1.out).2
  clear e0
  replace C0 := Lib.hid (C0.out.skip (o := 1) (n := 1) rfl)
  clear h
  have HE := Lib.hid (C0.out.last rfl); clear C0
  go_enter Try.func65, Try.ntmps65
  go_wp2_with fail
  (refine (heldIntSS_any _ x.fRows _ _ (RS.ext r0 (by (repeat (first | (with_reducible exact Ext.refl _) | (with_reducible assumption) | (with_reducible refine Ext.alloc ?_ _) | (with_reducible refine Ext.drew ?_) | (with_reducible refine Ext.drewN ?_ _) | ((with_reducible apply Ext.setCell); (case hp => first | omega | (simp; done) | (simp; omega))) | (with_reducible refine Ext.trans ?_ (by assumption)))))) (by omega) q0).mono ?_); rintro e u0 ⟨rfl, hb⟩; (obtain ⟨B0, c0, f0, l0⟩ := Box.after (k := w.heap.size) hb (by (repeat (first | (with_reducible assumption) | ((with_reducible apply Box.new); (first | (with_reducible rfl) | (simp; done) | (simp; omega))) | (with_reducible apply Box.alloc) | (with_reducible apply Box.drew) | (with_reducible apply Box.drewN) | (with_reducible apply Box.set) | ((with_reducible apply Box.set_ne); (case hne => first | omega | (simp; done) | (simp; omega)))))))
  have E0 : Ext w u0 := by (repeat (first | (with_reducible exact Ext.refl _) | (with_reducible assumption) | (with_reducible refine Ext.alloc ?_ _) | (with_reducible refine Ext.drew ?_) | (with_reducible refine Ext.drewN ?_ _) | ((with_reducible apply Ext.setCell); (case hp => first | omega | (simp; done) | (simp; omega))) | (with_reducible refine Ext.trans ?_ (by assumption))))
  clear hb
  go_wp2
  go_ret
  exact ⟨ret_int HE.out.symm, by (repeat (first | (with_reducible exact Ext.refl _) | (with_reducible assumption) | (with_reducible refine Ext.alloc ?_ _) | (with_reducible refine Ext.drew ?_) | (with_reducible refine Ext.drewN ?_ _) | ((with_reducible apply Ext.setCell); (case hp => first | omega | (simp; done) | (simp; omega))) | (with_reducible refine Ext.trans ?_ (by assumption))))⟩
end Go.Proofs.Ytkbikihbomnghaa

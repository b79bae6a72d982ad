/- Helpers of the laws: slices of int, of text, of rows. Printed by a program of ours. -/
import Derived.Test.YtgcelmnmalfpcaaDoorI5
import Derived.Test.YtgcelmnmalfpcaaDoorI1
import Derived.Test.YtgcelmnmalfpcaaDoorRows
import Derived.Test.YtgcelmnmalfpcaaDoorBase
import Derived.Test.YtgcelmnmalfpcaaDoorPT
import Derived.BigGuardPart
import Derived.BigQuiet
import Derived.Deep.QuietTactic
import Derived.Handy
import Derived.StillTailTactics
import Derived.Deep.RegionHeld3
import Derived.OwnWalk
namespace Go.Proofs.YtgcelmnmalfpcaaDoor
open Go.RowKit

def encInt (x : Int) : List D := [.int x]
def encStr (x : ByteArray) : List D := [.str x]
def encBool (x : Bool) : List D := [.bool x]
def encRow (x : List Int) : List D := [slD 3 1 encInt x]
theorem pv_int (x : Int) : toPVL (encInt x) = pInt x := by simp only [encInt, pInt, toPVL, toPV]
theorem pvs_int (e : TypeId) (xs : List Int) : toPV (slD e 1 encInt xs) = .sl 1 (xs.map pInt) := by rw [toPV_slD (enc := encInt) (sz := 1) (fun _ => rfl)]; simp only [pv_int]
theorem pv_str (x : ByteArray) : toPVL (encStr x) = pStr x := by simp only [encStr, pStr, toPVL, toPV]
theorem pvs_str (e : TypeId) (xs : List ByteArray) : toPV (slD e 1 encStr xs) = .sl 1 (xs.map pStr) := by rw [toPV_slD (enc := encStr) (sz := 1) (fun _ => rfl)]; simp only [pv_str]
theorem pv_row (x : List Int) : toPVL (encRow x) = pRow x := by simp only [encRow, pRow, toPVL, toPV_slD (fun x => (rfl : (encInt x).length = 1)), pv_int]
theorem ows_zeroS {w : World} {ds : List D} {vs : List Value} {e : TypeId} {sz : Nat} (h : Ows w ds vs []) : Ows w (.sl e sz 0 [] :: ds) (.slice none 0 0 :: vs) [] := by simpa [Value.ownBlock] using Ows.sl e sz 0 _ (World.ownsRow_nil w 0 e sz) .nil h
theorem cnt_encInt (x : Int) : cnt (encInt x) ≤ 64 + 64 * szL (encInt x) := by simp [encInt, cnt, szL]
theorem cnt_encStr (x : ByteArray) : cnt (encStr x) ≤ 64 + 64 * szL (encStr x) := by simp [encStr, cnt, szL]; omega
theorem cnt_encRow (x : List Int) : cnt (encRow x) ≤ 64 + 64 * szL (encRow x) := by
  have h := cnt_list cnt_encInt x
  simp [encRow, cnt, szL, slD]
  omega
theorem dec_row : Dec [.sl [.int .i64]] encRow := dec_of_sl 3 dec_int (fun _ => rfl) (by decide)

set_option maxRecDepth 100000 in
set_option maxHeartbeats 4000000 in
theorem eqIntS_any (v1 v2 : Value) (xs : List Int) (w : World) (h1 : RL 3 1 encInt w v1 xs) (h2 : RL 3 1 encInt w v2 xs) :
    Calls Tryd.prog 11 #[v1, v2] w fun e w' => e = .returned (.bool true) ∧ Ext w w' := by
  rcases RS.cases h1 with ⟨hn, _, o1, c1, rfl⟩ | ⟨b1, o1, c1, rfl, hp, _, hm, hx⟩
  · rcases RS.cases h2 with ⟨_, _, o2, c2, rfl⟩ | ⟨b2, o2, c2, rfl, hp, _⟩
    · clear h1 h2 hn
      go_enter Tryd.func11, Tryd.ntmps11
      go_wp2
      refine wp_loop_rounds 1 ?_
      rw [rounds_succ]
      go_wp2
      go_ret
      exact ⟨rfl, by (repeat (first | (with_reducible exact Ext.refl _) | (with_reducible assumption) | (with_reducible refine Ext.alloc ?_ _) | (with_reducible refine Ext.drew ?_) | (with_reducible refine Ext.drewN ?_ _) | ((with_reducible apply Ext.setCell); (case hp => first | omega | (simp; done) | (simp; omega))) | (with_reducible refine Ext.trans ?_ (by assumption))))⟩
    · omega
  · rcases RS.cases h2 with ⟨hn, _⟩ | ⟨b2, o2, c2, rfl, _, _, _, hy⟩
    · omega
    · have hn : xs.length ≤ 9223372036854775807 := by unfold maxLen at hm; omega
      clear h1 h2 hp hm
      go_enter Tryd.func11, Tryd.ntmps11
      go_wp2
      go_loopg [5] xs.length (fun g i wr => ∃ k : Nat, k ≤ xs.length ∧ g = xs.length - k ∧ i = .int .i64 k ∧ Ext w wr)
      case atStart => exact ⟨0, by omega, by omega, rfl, Ext.refl _⟩
      case round =>
        obtain ⟨k, hk, hg, rfl, hE⟩ := hrel
        have HG := Lib.hid hg; clear hg
        by_cases hlt : k < xs.length
        · obtain ⟨x, hxk⟩ : ∃ x, xs[k]? = some x := ⟨_, List.getElem?_eq_getElem hlt⟩
          have e1 := (RAt.elem (enc := encInt) (sz := 1) (fun _ => rfl) hx hxk).ext hE
          have e2 := (RAt.elem (enc := encInt) (sz := 1) (fun _ => rfl) hy hxk).ext hE
          clear hxk
          have i0 : (0 : Int) ≤ (k : Int) := by omega
          have i1 : (k : Int) < (xs.length : Int) := by omega
          have q0 : wr.cell? ⟨b1, o1 + k, none⟩ = some (.int .i64 x) := by have h := e1.int (j := 0) rfl; simpa only [Nat.mul_one, Nat.add_zero] using h
          have m0 : wr.cell? ⟨b2, o2 + k, none⟩ = some (.int .i64 x) := by have h := e2.int (j := 0) rfl; simpa only [Nat.mul_one, Nat.add_zero] using h
          clear e1 e2
          go_wp2_with fail
          go_quiet (fail)
          go_wp2
          go_roundg (xs.length - (k + 1))
          case measure => rw [HG.out]; omega
          case rel => exact ⟨k + 1, by omega, rfl, by go_num, by (repeat (first | (with_reducible exact Ext.refl _) | (with_reducible assumption) | (with_reducible refine Ext.alloc ?_ _) | (with_reducible refine Ext.drew ?_) | (with_reducible refine Ext.drewN ?_ _) | ((with_reducible apply Ext.setCell); (case hp => first | omega | (simp; done) | (simp; omega))) | (with_reducible refine Ext.trans ?_ (by assumption))))⟩
        · go_wp2
          go_ret
          exact ⟨rfl, by (repeat (first | (with_reducible exact Ext.refl _) | (with_reducible assumption) | (with_reducible refine Ext.alloc ?_ _) | (with_reducible refine Ext.drew ?_) | (with_reducible refine Ext.drewN ?_ _) | ((with_reducible apply Ext.setCell); (case hp => first | omega | (simp; done) | (simp; omega))) | (with_reducible refine Ext.trans ?_ (by assumption))))⟩

theorem infoIntS : (Tryd.prog.info? 3).map (fun i => (i.zero, i.size, i.bytes)) = some (some (.int .i64 0), 1, 8) := by kernel_rfl
set_option maxRecDepth 100000 in
set_option maxHeartbeats 4000000 in
theorem toIntS_any (v : Value) (xs : List Int) (w : World) (h : RL 3 1 encInt w v xs) (hz : szL [slD 3 1 encInt xs] ≤ 1048576) :
    Calls Tryd.prog 8 #[v] w fun e w' => ∃ (p : Option Addr) (q : Nat), e = .returned (.slice p xs.length q) ∧ Obj w' w.heap.size w'.heap.size [slD 3 1 encInt xs] [.slice p xs.length q] ∧ Ext w w' := by
  obtain ⟨i0, hi, hz0, hz1, hz2⟩ := info_parts infoIntS
  have hzero : ∀ w, Ows w [.int 0] #[.int .i64 0].toList [] := fun w => (Ows.int _ Ows.nil)
  have HZ := Lib.hid hzero; clear hzero
  have hn : xs.length ≤ 1048576 := by simp only [szL, slD] at hz; omega
  rcases RS.cases h with ⟨hn0, _, o1, c1, rfl⟩ | ⟨b1, o1, c1, rfl, hp, _, hm, hx⟩
  · obtain rfl := List.eq_nil_of_length_eq_zero hn0
    clear h hn0 hz hn
    go_enter Tryd.func8, Tryd.ntmps8
    go_wp2_with (at_make; refine wpList_make_full _ rfl (.tmp 6) (.tmp 6) 22 rfl w.heap.size 3 i0 _ 1 Tryd.underlying22 hi hz0 hz1 .i64 .i64 _ _ 0 rfl rfl rfl rfl (by omega) (by omega) (Nat.le_refl _) ?_; intro w1 hown hgrow)
    have hE := Ext.of_grownBy hgrow
    have hO := Lib.hid (Obj.made (n := 0) HZ.out rfl (by decide) hown)
    clear hgrow hown
    refine wp_loop_rounds 1 ?_
    rw [rounds_succ]
    go_wp2
    go_ret
    exact ⟨_, _, rfl, hO.out, hE⟩
  · have HSZ := Lib.hid hz
    clear h hm hz
    go_enter Tryd.func8, Tryd.ntmps8
    go_wp2_with (at_make; refine wpList_make_full _ rfl (.tmp 6) (.tmp 6) 22 rfl w.heap.size 3 i0 _ 1 Tryd.underlying22 hi hz0 hz1 .i64 .i64 _ _ xs.length rfl rfl rfl rfl (by rw [hz2]; omega) (by unfold maxLen; omega) (Nat.le_refl _) ?_; intro w1 hown hgrow)
    have hE := Ext.of_grownBy hgrow
    have hO : Obj w1 w.heap.size w1.heap.size [.sl 3 1 xs.length (fillE encInt [.int 0] xs 0)] [.slice (some ⟨w.heap.size, 0, none⟩) xs.length xs.length] := by rw [fillE_zero]; exact Obj.made HZ.out rfl (by decide) hown
    clear hgrow hown
    go_loopg [4] xs.length (fun g i wr => ∃ k : Nat, k ≤ xs.length ∧ g = xs.length - k ∧ i = .int .i64 k ∧ Ext w wr ∧ Obj wr w.heap.size wr.heap.size [.sl 3 1 xs.length (fillE encInt [.int 0] xs k)] [.slice (some ⟨w.heap.size, 0, none⟩) xs.length xs.length])
    case atStart => exact ⟨0, by omega, by omega, rfl, hE, hO⟩
    case round =>
      clear hE hO
      obtain ⟨k, hk, hg, rfl, hE, hO⟩ := hrel
      have HG := Lib.hid hg; clear hg
      by_cases hlt : k < xs.length
      · obtain ⟨x, hxk⟩ : ∃ x, xs[k]? = some x := ⟨_, List.getElem?_eq_getElem hlt⟩
        have e1 := (RAt.elem (enc := encInt) (sz := 1) (fun _ => rfl) hx hxk).ext hE
        have HX := Lib.hid hxk
        have HM := Lib.hid (List.mem_of_getElem? hxk)
        clear hxk
        have q0 : wr.cell? ⟨b1, o1 + k, none⟩ = some (.int .i64 x) := by have h := e1.int (j := 0) rfl; simpa only [Nat.mul_one, Nat.add_zero] using h
        clear e1
        have hR : Obj wr wr.heap.size wr.heap.size (encInt x) [.int .i64 x] := (Obj.int obj_nil)
        obtain ⟨F, f1, f2, f3⟩ := hO
        obtain ⟨v0, x0⟩ := f1.cellAt (o := k * 1 + 0) f2 (by rw [RS.len f1.read]; omega)
        have y0 := f1.frozenAt f2 (k * 1 + 0)
        simp only [Nat.mul_one, Nat.add_zero] at x0 y0
        have hO3 := Lib.hid (Obj.fill (enc := encInt) (z := [.int 0]) (sz := 1) (hi := wr.heap.size) (fun _ => rfl) rfl ⟨F, f1, f2, f3⟩ HX.out hR (by omega) (by omega))
        clear f1 f2 f3 hR
        go_wp2
        go_roundg (xs.length - (k + 1))
        case measure => rw [HG.out]; omega
        case rel => exact ⟨k + 1, by omega, rfl, by go_num, by (repeat (first | (with_reducible exact Ext.refl _) | (with_reducible assumption) | (with_reducible refine Ext.alloc ?_ _) | (with_reducible refine Ext.drew ?_) | (with_reducible refine Ext.drewN ?_ _) | ((with_reducible apply Ext.setCell); (case hp => first | omega | (simp; done) | (simp; omega))) | (with_reducible refine Ext.trans ?_ (by assumption)))), Obj.mono (by have h := hO3.out; (try simp only [Nat.mul_one] at h); exact h) (Nat.le_refl _) (by (first | omega | (simp; done) | (simp; omega)))⟩
      · obtain rfl : k = xs.length := by omega
        rw [fillE_end] at hO
        go_wp2
        go_ret
        exact ⟨_, _, rfl, hO, hE⟩
end Go.Proofs.YtgcelmnmalfpcaaDoor

/- The walks over slices of int. -/
import Derived.Test.YthnmiimckgphnaaRows
import Derived.Test.YthnmiimckgphnaaOwn
import Derived.Test.YthnmiimckgphnaaBase
import Derived.Deep.LoopGhost
import Derived.BigQuiet
import Derived.Deep.QuietTactic
namespace Go.Proofs.Ythnmiimckgphnaa
open Go.RowKit

def encI (n : Int) : List Value := [.int .i64 n]
theorem encI_len (x : Int) : (encI x).length = 1 := rfl

set_option maxHeartbeats 400000 in
theorem szIntS_any (o : Option Addr) (n c : Nat) (left : Int) (w : World) (hn : n ≤ maxLen) (h0 : 0 ≤ left) (h1 : left ≤ 1048576) :
    Calls Try.prog 70 #[.slice o n c, .int .i64 left] w fun e w' => e = .returned (.int .i64 (szOf left n)) ∧ w = w' := by
  replace hn : n ≤ 9223372036854775807 := by unfold maxLen at hn; omega
  go_enter Try.func70, Try.ntmps70
  go_wp2
  all_goals
    go_ret
    exact ⟨ret_int (by first | exact szOf_no (by omega) | exact szOf_yes (by omega)), rfl⟩

set_option maxHeartbeats 400000 in
theorem eqIntS_non (b1 o1 c1 b2 o2 c2 : Nat) (xs : List Int) (w : World) (hx : SlAt encI 1 w b1 o1 xs) (hy : SlAt encI 1 w b2 o2 xs) (hn : xs.length ≤ maxLen) (hb1 : b1 < w.heap.size) (hb2 : b2 < w.heap.size) :
    Calls Try.prog 72 #[.slice (some ⟨b1, o1, none⟩) xs.length c1, .slice (some ⟨b2, o2, none⟩) xs.length c2] w fun e w' => e = .returned (.bool true) ∧ Ext w w' := by
  replace hn : xs.length ≤ 9223372036854775807 := by unfold maxLen at hn; omega
  go_enter Try.func72, Try.ntmps72
  go_wp2
  go_loopg [5] xs.length (fun g i wr => ∃ k : Nat, k ≤ xs.length ∧ g = xs.length - k ∧ i = .int .i64 k ∧ Ext w wr)
  case atStart => exact ⟨0, by omega, by omega, rfl, Ext.refl _⟩
  case round =>
    obtain ⟨k, hk, hg, rfl, hE⟩ := hrel
    have HG := Lib.hid hg; clear hg
    by_cases hlt : k < xs.length
    · obtain ⟨x, hxk⟩ : ∃ x, xs[k]? = some x := ⟨_, List.getElem?_eq_getElem hlt⟩
      have q1 := (hx.ext hE hb1) k _ hxk
      have q2 := (hy.ext hE hb2) k _ hxk
      have q10 := q1 0 (by omega)
      have q20 := q2 0 (by omega)
      simp [encI] at q10 q20
      clear q1 q2 hxk
      have i0 : (0 : Int) ≤ (k : Int) := by omega
      have i1 : (k : Int) < (xs.length : Int) := by omega
      go_wp2_with fail
      go_quiet (fail)
      go_wp2
      go_roundg (xs.length - (k + 1))
      case measure => rw [HG.out]; omega
      case rel => exact ⟨k + 1, by omega, rfl, by go_num, by (repeat (first | (with_reducible exact Ext.refl _) | (with_reducible assumption) | (with_reducible refine Ext.alloc ?_ _) | (with_reducible refine Ext.drew ?_) | (with_reducible refine Ext.drewN ?_ _) | ((with_reducible apply Ext.setCell); (case hp => first | omega | (simp; done) | (simp; omega))) | (with_reducible refine Ext.trans ?_ (by assumption))))⟩
    · go_wp2
      go_ret
      exact ⟨rfl, by (repeat (first | (with_reducible exact Ext.refl _) | (with_reducible assumption) | (with_reducible refine Ext.alloc ?_ _) | (with_reducible refine Ext.drew ?_) | (with_reducible refine Ext.drewN ?_ _) | ((with_reducible apply Ext.setCell); (case hp => first | omega | (simp; done) | (simp; omega))) | (with_reducible refine Ext.trans ?_ (by assumption))))⟩

theorem eqIntS_any (v1 v2 : Value) (xs : List Int) (w : World) (hx : Sl encI 1 w v1 xs) (hy : Sl encI 1 w v2 xs) :
    Calls Try.prog 72 #[v1, v2] w fun e w' => e = .returned (.bool true) ∧ Ext w w' := by
  rcases hx with ⟨o, c, rfl, rfl⟩ | ⟨b1, o1, c1, rfl, hp, h1, h2, hb1, hx⟩
  · rcases hy with ⟨o', c', rfl, _⟩ | ⟨b2, o2, c2, rfl, hp, _⟩
    · go_enter Try.func72, Try.ntmps72
      go_wp2
      refine wp_loop_rounds 1 ?_
      rw [rounds_succ]
      go_wp2
      go_ret
      exact ⟨rfl, by (repeat (first | (with_reducible exact Ext.refl _) | (with_reducible assumption) | (with_reducible refine Ext.alloc ?_ _) | (with_reducible refine Ext.drew ?_) | (with_reducible refine Ext.drewN ?_ _) | ((with_reducible apply Ext.setCell); (case hp => first | omega | (simp; done) | (simp; omega))) | (with_reducible refine Ext.trans ?_ (by assumption))))⟩
    · simp at hp
  · rcases hy with ⟨o', c', rfl, rfl⟩ | ⟨b2, o2, c2, rfl, _, h3, h4, hb2, hy⟩
    · simp at hp
    · exact eqIntS_non b1 o1 c1 b2 o2 c2 xs w hx hy (by omega) hb1 hb2

theorem infoI : (Try.prog.info? 3).map (fun i => (i.zero, i.size, i.bytes)) = some (some (.int .i64 0), 1, 8) := by kernel_rfl

set_option maxHeartbeats 1000000 in
theorem toIntS_non (b1 o1 c1 : Nat) (xs : List Int) (w : World) (hx : SlAt encI 1 w b1 o1 xs) (hp : 0 < xs.length) (hn : xs.length ≤ 1048576) (hb1 : b1 < w.heap.size) :
    Calls Try.prog 71 #[.slice (some ⟨b1, o1, none⟩) xs.length c1] w fun e w' => ∃ v, e = .returned v ∧ w'.ownsRow w.heap.size 3 1 v xs.length (xs.flatMap encI) ∧ Ext w w' := by
  obtain ⟨i0, hi, hz0, hz1, hz2⟩ := info_parts infoI
  have hn' : xs.length ≤ 9223372036854775807 := by omega
  go_enter Try.func71, Try.ntmps71
  go_wp2_with (at_make; refine wpList_make_full _ rfl (.tmp 6) (.tmp 6) 81 rfl w.heap.size 3 i0 _ 1 Try.underlying81 hi hz0 hz1 .i64 .i64 _ _ xs.length rfl rfl rfl rfl (by rw [hz2]; omega) (by unfold maxLen; omega) (Nat.le_refl _) ?_; intro w1 hown hgrow)
  have hP := Part.start (enc := encI) (xs := xs) hown
  have hE := Ext.of_grownBy hgrow
  clear hown hgrow
  go_loopg [4] xs.length (fun g i wr => ∃ k : Nat, k ≤ xs.length ∧ g = xs.length - k ∧ i = .int .i64 k ∧ Ext w wr ∧ Part encI 1 3 wr w.heap.size xs.length xs.length k xs)
  case atStart => exact ⟨0, by omega, by omega, rfl, hE, hP⟩
  case round =>
    clear hE hP
    obtain ⟨k, hk, hg, rfl, hE, hP⟩ := hrel
    have HG := Lib.hid hg; clear hg
    by_cases hlt : k < xs.length
    · obtain ⟨x, hxk⟩ : ∃ x, xs[k]? = some x := ⟨_, List.getElem?_eq_getElem hlt⟩
      have q1 := (hx.ext hE hb1) k _ hxk
      have q10 := q1 0 (by omega)
      simp [encI] at q10
      have HX := Lib.hid hxk
      clear q1 hxk
      obtain ⟨s0, p0⟩ := hP.cell k (by omega)
      have f0 := hP.frozen k
      go_wp2
      go_roundg (xs.length - (k + 1))
      case measure => rw [HG.out]; omega
      case rel => exact ⟨k + 1, by omega, rfl, by go_num, by (repeat (first | (with_reducible exact Ext.refl _) | (with_reducible assumption) | (with_reducible refine Ext.alloc ?_ _) | (with_reducible refine Ext.drew ?_) | (with_reducible refine Ext.drewN ?_ _) | ((with_reducible apply Ext.setCell); (case hp => first | omega | (simp; done) | (simp; omega))) | (with_reducible refine Ext.trans ?_ (by assumption)))), by have hS := hP.store HX.out hlt rfl; rw [Nat.mul_one] at hS; exact hS⟩
    · obtain rfl : k = xs.length := by omega
      go_wp2
      go_ret
      exact ⟨_, rfl, hP.done (fun _ => rfl) (by omega) rfl (Nat.le_refl _) (by unfold maxLen; omega), hE⟩

theorem toIntS_any (v : Value) (xs : List Int) (w : World) (hx : Sl encI 1 w v xs) (hn : xs.length ≤ 1048576) :
    Calls Try.prog 71 #[v] w fun e w' => ∃ v', e = .returned v' ∧ w'.ownsRow w.heap.size 3 1 v' xs.length (xs.flatMap encI) ∧ Ext w w' := by
  rcases hx with ⟨o, c, rfl, rfl⟩ | ⟨b1, o1, c1, rfl, hp, h1, h2, hb1, hx⟩
  · obtain ⟨i0, hi, hz0, hz1, hz2⟩ := info_parts infoI
    go_enter Try.func71, Try.ntmps71
    go_wp2_with (at_make; refine wpList_make_full _ rfl (.tmp 6) (.tmp 6) 81 rfl w.heap.size 3 i0 _ 1 Try.underlying81 hi hz0 hz1 .i64 .i64 _ _ 0 rfl rfl rfl rfl (by omega) (by omega) (Nat.le_refl _) ?_; intro w1 hown hgrow)
    have hE := Ext.of_grownBy hgrow
    have hO : w1.ownsRow w.heap.size 3 1 (.slice (some ⟨w.heap.size, 0, none⟩) 0 0) 0 [] := by simpa [madeCells] using hown
    clear hgrow hown
    refine wp_loop_rounds 1 ?_
    rw [rounds_succ]
    go_wp2
    go_ret
    exact ⟨_, rfl, hO, hE⟩
  · exact toIntS_non b1 o1 c1 xs w hx hp hn hb1

def marksI (k0 : Int) (n : Nat) : List Int := (List.range n).map fun (i : Nat) => k0 + i
theorem marksI_len (k0 : Int) (n : Nat) : (marksI k0 n).length = n := by simp [marksI]
theorem marksI_get {k0 : Int} {n k : Nat} (h : k < n) : (marksI k0 n)[k]? = some (k0 + k) := by simp [marksI, h]

set_option maxHeartbeats 1000000 in
theorem markIntS_any (v : Value) (n : Nat) (ys : List Value) (k0 : Int) (base : Nat) (w : World) (hown : w.ownsRow base 3 1 v n ys) (h0 : 0 ≤ k0) (h1 : k0 ≤ 1099511627776) (hn : n ≤ 1099511627776) :
    Calls Try.prog 75 #[v, .int .i64 k0] w fun e w' => e = .returned (.int .i64 (k0 + n)) ∧ w'.ownsRow base 3 1 v n ((marksI k0 n).flatMap encI) ∧ w.grownBy w' v.ownBlock := by
  rcases own_value hown with ⟨rfl, rfl, rfl⟩ | ⟨g, c, rfl⟩
  · go_enter Try.func75, Try.ntmps75
    go_wp2
    refine wp_loop_rounds 1 ?_
    rw [rounds_succ]
    go_wp2
    go_ret
    exact ⟨by simp, by simpa [marksI] using hown, grownBy_refl _ _⟩
  · obtain ⟨hP, hb, hc⟩ := Part.again (enc := encI) (xs := marksI k0 n) hown
    have hG := grownBy_refl w (some g)
    clear hown
    go_enter Try.func75, Try.ntmps75
    go_wp2
    go_loopg [1, 5] n (fun gk s i wr => ∃ k : Nat, k ≤ n ∧ gk = n - k ∧ i = .int .i64 k ∧ s = .int .i64 (k0 + k) ∧ w.grownBy wr (some g) ∧ Part encI 1 3 wr g n c k (marksI k0 n))
    case atStart => exact ⟨0, by omega, by omega, rfl, by simp, hG, hP⟩
    case round =>
      clear hP hG
      obtain ⟨k, hk, hg, rfl, rfl, hG, hP⟩ := hrel
      have HG := Lib.hid hg; clear hg
      by_cases hlt : k < n
      · obtain ⟨s0, p0⟩ := hP.cell k (by omega)
        have f0 := hP.frozen k
        go_wp2
        go_roundg (n - (k + 1))
        case measure => rw [HG.out]; omega
        case rel =>
          refine ⟨k + 1, by omega, rfl, by go_num, ?_, ?_, ?_⟩
          · exact congrArg (Value.int .i64) (by omega)
          · exact grownBy_set hG _ _
          · have hS := hP.store (marksI_get (k0 := k0) hlt) hlt rfl
            rw [Nat.mul_one] at hS
            exact hS
      · obtain rfl : k = n := by omega
        go_wp2
        go_ret
        exact ⟨rfl, hP.done (fun _ => rfl) (by omega) (marksI_len _ _) hb hc, hG⟩

set_option maxHeartbeats 1000000 in
theorem heldIntS_any (v : Value) (n : Nat) (k0 : Int) (w : World) (hx : Sl encI 1 w v (marksI k0 n)) (h0 : 0 ≤ k0) (h1 : k0 ≤ 1099511627776) (hn : n ≤ 1099511627776) :
    Calls Try.prog 76 #[v, .int .i64 k0] w fun e w' => e = .returned (.int .i64 (k0 + n)) ∧ w = w' := by
  rcases hx with ⟨o, c, rfl, he⟩ | ⟨b1, o1, c1, rfl, hp, _, _, hb1, hx⟩
  · obtain rfl : n = 0 := by rw [← marksI_len k0 n, he]; rfl
    go_enter Try.func76, Try.ntmps76
    go_wp2
    refine wp_loop_rounds 1 ?_
    rw [rounds_succ]
    go_wp2
    go_ret
    exact ⟨by simp, rfl⟩
  · rw [marksI_len]
    clear hp
    go_enter Try.func76, Try.ntmps76
    go_wp2
    go_loop [1, 5] (fun s i => ∃ k : Nat, k ≤ n ∧ i = .int .i64 k ∧ s = .int .i64 (k0 + k)) (fun _ i => n - (intOf i).toNat)
    case atStart => exact ⟨0, by omega, rfl, by simp⟩
    case round =>
      obtain ⟨k, hk, rfl, rfl⟩ := hrel
      by_cases hlt : k < n
      · have q1 := hx k _ (marksI_get hlt)
        have q10 := q1 0 (by omega)
        simp [encI] at q10
        clear q1
        go_wp2
        go_round
        case rel => exact ⟨k + 1, by omega, by go_num, congrArg (Value.int .i64) (by omega)⟩
        case measure => simp [intOf]; omega
      · obtain rfl : k = n := by omega
        go_wp2
        go_ret
        exact ⟨rfl, rfl⟩
end Go.Proofs.Ythnmiimckgphnaa

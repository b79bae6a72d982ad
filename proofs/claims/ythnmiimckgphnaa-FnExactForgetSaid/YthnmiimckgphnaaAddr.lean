/- The walks of the addresses' functions. -/
import Derived.Test.YthnmiimckgphnaaRows
import Derived.Test.YthnmiimckgphnaaOwn
import Derived.Test.YthnmiimckgphnaaBucket
import Derived.BigGuardPart
import Derived.BigQuiet
import Derived.Deep.QuietTactic
import Derived.Handy
import Derived.StillTailTactics
import Derived.Deep.RegionHeld3
namespace Go.Proofs.Ythnmiimckgphnaa
open Go.RowKit

structure Ad where
  id : Int
  seen : Int
def encA (a : Ad) : List Value := [.int .i64 a.id, .int .i64 a.seen]

set_option maxHeartbeats 400000 in
theorem toAddr_any (i s : Int) (w : World) :
    Calls Try.prog 57 #[.agg #[.int .i64 i, .int .i64 s]] w fun e w' => e = .returned (.agg #[.int .i64 i, .int .i64 s]) ∧ Ext w w' := by
  go_enter Try.func57, Try.ntmps57
  go_wp2
  exact bodyPost_ret (v := .agg #[.int .i64 i, .int .i64 s]) (by simp [results, Try.results57, go_sem]) rfl ⟨rfl, by (repeat (first | (with_reducible exact Ext.refl _) | (with_reducible assumption) | (with_reducible refine Ext.alloc ?_ _) | (with_reducible refine Ext.drew ?_) | (with_reducible refine Ext.drewN ?_ _) | ((with_reducible apply Ext.setCell); (case hp => first | omega | (simp; done) | (simp; omega))) | (with_reducible refine Ext.trans ?_ (by assumption))))⟩

theorem eqAddr_any (i s j t : Int) (w : World) :
    Calls Try.prog 58 #[.agg #[.int .i64 i, .int .i64 s], .agg #[.int .i64 j, .int .i64 t]] w fun e w' => e = .returned (.bool (decide (i = j) && decide (s = t))) ∧ Ext w w' := by
  go_enter Try.func58, Try.ntmps58
  go_wp2
  all_goals
    go_ret
    exact ⟨by simp_all, by (repeat (first | (with_reducible exact Ext.refl _) | (with_reducible assumption) | (with_reducible refine Ext.alloc ?_ _) | (with_reducible refine Ext.drew ?_) | (with_reducible refine Ext.drewN ?_ _) | ((with_reducible apply Ext.setCell); (case hp => first | omega | (simp; done) | (simp; omega))) | (with_reducible refine Ext.trans ?_ (by assumption))))⟩

set_option maxHeartbeats 400000 in
theorem szAddrS_any (o : Option Addr) (n c : Nat) (left : Int) (w : World) (hn : n ≤ maxLen) (h0 : 0 ≤ left) (h1 : left ≤ 1048576) :
    Calls Try.prog 25 #[.slice o n c, .int .i64 left] w fun e w' => e = .returned (.int .i64 (szOf left n)) ∧ w = w' := by
  replace hn : n ≤ 9223372036854775807 := by unfold maxLen at hn; omega
  go_enter Try.func25, Try.ntmps25
  go_wp2
  all_goals
    go_ret
    exact ⟨ret_int (by first | exact szOf_no (by omega) | exact szOf_yes (by omega)), rfl⟩

set_option maxHeartbeats 400000 in
theorem eqAddrS_non (b1 o1 c1 b2 o2 c2 : Nat) (xs : List Ad) (w : World) (hx : SlAt encA 2 w b1 o1 xs) (hy : SlAt encA 2 w b2 o2 xs) (hn : xs.length ≤ maxLen) (hb1 : b1 < w.heap.size) (hb2 : b2 < w.heap.size) :
    Calls Try.prog 29 #[.slice (some ⟨b1, o1, none⟩) xs.length c1, .slice (some ⟨b2, o2, none⟩) xs.length c2] w fun e w' => e = .returned (.bool true) ∧ Ext w w' := by
  replace hn : xs.length ≤ 9223372036854775807 := by unfold maxLen at hn; omega
  go_enter Try.func29, Try.ntmps29
  go_wp2
  go_loopg [5] xs.length (fun g i wr => ∃ k : Nat, k ≤ xs.length ∧ g = xs.length - k ∧ i = .int .i64 k ∧ Ext w wr)
  case atStart => exact ⟨0, by omega, by omega, rfl, Ext.refl _⟩
  case round =>
    obtain ⟨k, hk, hg, rfl, hE⟩ := hrel
    have HG := Lib.hid hg; clear hg
    by_cases hlt : k < xs.length
    · obtain ⟨x, hxk⟩ : ∃ x, xs[k]? = some x := ⟨_, List.getElem?_eq_getElem hlt⟩
      have q1 := (hx.ext hE hb1) k _ hxk
      have q2 := (hy.ext hE hb2) k _ hxk
      have q10 := q1 0 (by omega)
      have q11 := q1 1 (by omega)
      have q20 := q2 0 (by omega)
      have q21 := q2 1 (by omega)
      simp [encA] at q10 q11 q20 q21
      clear q1 q2 hxk
      have i0 : (0 : Int) ≤ (k : Int) := by omega
      have i1 : (k : Int) < (xs.length : Int) := by omega
      go_wp2_with fail
      go_region_held3 (fun w' => w'.cell? ⟨b1, o1 + k * 2, none⟩ = some (.int .i64 x.id) ∧ w'.cell? ⟨b1, o1 + k * 2 + 1, none⟩ = some (.int .i64 x.seen) ∧ w'.cell? ⟨b2, o2 + k * 2, none⟩ = some (.int .i64 x.id) ∧ w'.cell? ⟨b2, o2 + k * 2 + 1, none⟩ = some (.int .i64 x.seen)) ((first | go_keep | ((try dsimp only); (try go_split_ands); (repeat' apply And.intro) <;> exact hb.cellSome (by assumption))))
        ((go_at_call 58; refine (eqAddr_any _ _ _ _ _).mono ?_; rintro e w1 ⟨rfl, hb⟩))
      go_wp2
      go_roundg (xs.length - (k + 1))
      case measure => rw [HG.out]; omega
      case rel => exact ⟨k + 1, by omega, rfl, by go_num, by (repeat (first | (with_reducible exact Ext.refl _) | (with_reducible assumption) | (with_reducible refine Ext.alloc ?_ _) | (with_reducible refine Ext.drew ?_) | (with_reducible refine Ext.drewN ?_ _) | ((with_reducible apply Ext.setCell); (case hp => first | omega | (simp; done) | (simp; omega))) | (with_reducible refine Ext.trans ?_ (by assumption))))⟩
    · go_wp2
      go_ret
      exact ⟨rfl, by (repeat (first | (with_reducible exact Ext.refl _) | (with_reducible assumption) | (with_reducible refine Ext.alloc ?_ _) | (with_reducible refine Ext.drew ?_) | (with_reducible refine Ext.drewN ?_ _) | ((with_reducible apply Ext.setCell); (case hp => first | omega | (simp; done) | (simp; omega))) | (with_reducible refine Ext.trans ?_ (by assumption))))⟩

theorem eqAddrS_any (v1 v2 : Value) (xs : List Ad) (w : World) (hx : Sl encA 2 w v1 xs) (hy : Sl encA 2 w v2 xs) :
    Calls Try.prog 29 #[v1, v2] w fun e w' => e = .returned (.bool true) ∧ Ext w w' := by
  rcases hx with ⟨o, c, rfl, rfl⟩ | ⟨b1, o1, c1, rfl, hp, h1, h2, hb1, hx⟩
  · rcases hy with ⟨o', c', rfl, _⟩ | ⟨b2, o2, c2, rfl, hp, _⟩
    · go_enter Try.func29, Try.ntmps29
      go_wp2
      refine wp_loop_rounds 1 ?_
      rw [rounds_succ]
      go_wp2
      go_ret
      exact ⟨rfl, by (repeat (first | (with_reducible exact Ext.refl _) | (with_reducible assumption) | (with_reducible refine Ext.alloc ?_ _) | (with_reducible refine Ext.drew ?_) | (with_reducible refine Ext.drewN ?_ _) | ((with_reducible apply Ext.setCell); (case hp => first | omega | (simp; done) | (simp; omega))) | (with_reducible refine Ext.trans ?_ (by assumption))))⟩
    · simp at hp
  · rcases hy with ⟨o', c', rfl, rfl⟩ | ⟨b2, o2, c2, rfl, _, h3, h4, hb2, hy⟩
    · simp at hp
    · exact eqAddrS_non b1 o1 c1 b2 o2 c2 xs w hx hy (by omega) hb1 hb2

/-- The row of a slice of addresses. -/
theorem infoAddr : (Try.prog.info? 76).map (fun i => (i.zero, i.size, i.bytes)) = some (some (.agg #[.int .i64 0, .int .i64 0]), 2, 16) := by kernel_rfl

set_option maxHeartbeats 1000000 in
theorem toAddrS_non (b1 o1 c1 : Nat) (xs : List Ad) (w : World) (hx : SlAt encA 2 w b1 o1 xs) (hp : 0 < xs.length) (hn : xs.length ≤ 1048576) (hb1 : b1 < w.heap.size) :
    Calls Try.prog 27 #[.slice (some ⟨b1, o1, none⟩) xs.length c1] w fun e w' => ∃ v, e = .returned v ∧ w'.ownsRow w.heap.size 76 2 v xs.length (xs.flatMap encA) ∧ Ext w w' := by
  obtain ⟨i0, hi, hz0, hz1, hz2⟩ := info_parts infoAddr
  have hn' : xs.length ≤ 9223372036854775807 := by omega
  go_enter Try.func27, Try.ntmps27
  go_wp2_with (at_make; refine wpList_make_full _ rfl (.tmp 6) (.tmp 6) 44 rfl w.heap.size 76 i0 _ 2 Try.underlying44 hi hz0 hz1 .i64 .i64 _ _ xs.length rfl rfl rfl rfl (by rw [hz2]; omega) (by unfold maxLen; omega) (Nat.le_refl _) ?_; intro w1 hown hgrow)
  have hP := Part.start (enc := encA) (xs := xs) hown
  have hE := Ext.of_grownBy hgrow
  clear hown hgrow
  go_loopg [4] xs.length (fun g i wr => ∃ k : Nat, k ≤ xs.length ∧ g = xs.length - k ∧ i = .int .i64 k ∧ Ext w wr ∧ Part encA 2 76 wr w.heap.size xs.length xs.length k xs)
  case atStart => exact ⟨0, by omega, by omega, rfl, hE, hP⟩
  case round =>
    clear hE hP
    obtain ⟨k, hk, hg, rfl, hE, hP⟩ := hrel
    have HG := Lib.hid hg; clear hg
    by_cases hlt : k < xs.length
    · obtain ⟨x, hxk⟩ : ∃ x, xs[k]? = some x := ⟨_, List.getElem?_eq_getElem hlt⟩
      have q1 := (hx.ext hE hb1) k _ hxk
      have q10 := q1 0 (by omega)
      have q11 := q1 1 (by omega)
      simp [encA] at q10 q11
      have HX := Lib.hid hxk
      clear q1 hxk
      go_wp2_with fail
      refine (toAddr_any _ _ _).mono ?_
      rintro e w2 ⟨rfl, hb⟩
      have hP2 := hP.ext hb
      obtain ⟨s0, p0⟩ := hP2.cell (k * 2) (by omega)
      obtain ⟨s1, p1⟩ := hP2.cell (k * 2 + 1) (by omega)
      have f0 := hP2.frozen (k * 2)
      have f1 := hP2.frozen (k * 2 + 1)
      go_wp2
      go_roundg (xs.length - (k + 1))
      case measure => rw [HG.out]; omega
      case rel => exact ⟨k + 1, by omega, rfl, by go_num, by (repeat (first | (with_reducible exact Ext.refl _) | (with_reducible assumption) | (with_reducible refine Ext.alloc ?_ _) | (with_reducible refine Ext.drew ?_) | (with_reducible refine Ext.drewN ?_ _) | ((with_reducible apply Ext.setCell); (case hp => first | omega | (simp; done) | (simp; omega))) | (with_reducible refine Ext.trans ?_ (by assumption)))), hP2.store HX.out hlt rfl⟩
    · obtain rfl : k = xs.length := by omega
      go_wp2
      go_ret
      exact ⟨_, rfl, hP.done (fun _ => rfl) (by omega) rfl (Nat.le_refl _) (by unfold maxLen; omega), hE⟩

theorem toAddrS_any (v : Value) (xs : List Ad) (w : World) (hx : Sl encA 2 w v xs) (hn : xs.length ≤ 1048576) :
    Calls Try.prog 27 #[v] w fun e w' => ∃ v', e = .returned v' ∧ w'.ownsRow w.heap.size 76 2 v' xs.length (xs.flatMap encA) ∧ Ext w w' := by
  rcases hx with ⟨o, c, rfl, rfl⟩ | ⟨b1, o1, c1, rfl, hp, h1, h2, hb1, hx⟩
  · obtain ⟨i0, hi, hz0, hz1, hz2⟩ := info_parts infoAddr
    go_enter Try.func27, Try.ntmps27
    go_wp2_with (at_make; refine wpList_make_full _ rfl (.tmp 6) (.tmp 6) 44 rfl w.heap.size 76 i0 _ 2 Try.underlying44 hi hz0 hz1 .i64 .i64 _ _ 0 rfl rfl rfl rfl (by omega) (by omega) (Nat.le_refl _) ?_; intro w1 hown hgrow)
    have hE := Ext.of_grownBy hgrow
    have hO : w1.ownsRow w.heap.size 76 2 (.slice (some ⟨w.heap.size, 0, none⟩) 0 0) 0 [] := by simpa [madeCells] using hown
    clear hgrow hown
    refine wp_loop_rounds 1 ?_
    rw [rounds_succ]
    go_wp2
    go_ret
    exact ⟨_, rfl, hO, hE⟩
  · exact toAddrS_non b1 o1 c1 xs w hx hp hn hb1

def marksA (k0 : Int) (n : Nat) : List Ad := (List.range n).map fun (i : Nat) => ⟨k0 + 2 * i, k0 + 2 * i + 1⟩
theorem marksA_len (k0 : Int) (n : Nat) : (marksA k0 n).length = n := by simp [marksA]
theorem marksA_get {k0 : Int} {n k : Nat} (h : k < n) : (marksA k0 n)[k]? = some ⟨k0 + 2 * k, k0 + 2 * k + 1⟩ := by simp [marksA, h]

set_option maxHeartbeats 1000000 in
theorem markAddrS_any (v : Value) (n : Nat) (ys : List Value) (k0 : Int) (base : Nat) (w : World) (hown : w.ownsRow base 76 2 v n ys) (h0 : 0 ≤ k0) (h1 : k0 ≤ 1099511627776) (hn : n ≤ 1099511627776) :
    Calls Try.prog 34 #[v, .int .i64 k0] w fun e w' => e = .returned (.int .i64 (k0 + 2 * n)) ∧ w'.ownsRow base 76 2 v n ((marksA k0 n).flatMap encA) ∧ w.grownBy w' v.ownBlock := by
  rcases own_value hown with ⟨rfl, rfl, rfl⟩ | ⟨g, c, rfl⟩
  · go_enter Try.func34, Try.ntmps34
    go_wp2
    refine wp_loop_rounds 1 ?_
    rw [rounds_succ]
    go_wp2
    go_ret
    exact ⟨by simp, by simpa [marksA] using hown, grownBy_refl _ _⟩
  · obtain ⟨hP, hb, hc⟩ := Part.again (enc := encA) (xs := marksA k0 n) hown
    have hG := grownBy_refl w (some g)
    clear hown
    go_enter Try.func34, Try.ntmps34
    go_wp2
    go_loopg [1, 5] n (fun gk s i wr => ∃ k : Nat, k ≤ n ∧ gk = n - k ∧ i = .int .i64 k ∧ s = .int .i64 (k0 + 2 * k) ∧ w.grownBy wr (some g) ∧ Part encA 2 76 wr g n c k (marksA k0 n))
    case atStart => exact ⟨0, by omega, by omega, rfl, by simp, hG, hP⟩
    case round =>
      clear hP hG
      obtain ⟨k, hk, hg, rfl, rfl, hG, hP⟩ := hrel
      have HG := Lib.hid hg; clear hg
      by_cases hlt : k < n
      · obtain ⟨s0, p0⟩ := hP.cell (k * 2) (by omega)
        obtain ⟨s1, p1⟩ := hP.cell (k * 2 + 1) (by omega)
        have f0 := hP.frozen (k * 2)
        have f1 := hP.frozen (k * 2 + 1)
        go_wp2
        go_roundg (n - (k + 1))
        case measure => rw [HG.out]; omega
        case rel =>
          refine ⟨k + 1, by omega, rfl, by go_num, ?_, ?_, ?_⟩
          · exact congrArg (Value.int .i64) (by omega)
          · exact grownBy_set (grownBy_set hG _ _) _ _
          · have hS := hP.store (marksA_get (k0 := k0) hlt) hlt rfl
            exact hS
      · obtain rfl : k = n := by omega
        go_wp2
        go_ret
        exact ⟨rfl, hP.done (fun _ => rfl) (by omega) (marksA_len _ _) hb hc, hG⟩

set_option maxHeartbeats 1000000 in
theorem heldAddrS_any (v : Value) (n : Nat) (k0 : Int) (w : World) (hx : Sl encA 2 w v (marksA k0 n)) (h0 : 0 ≤ k0) (h1 : k0 ≤ 1099511627776) (hn : n ≤ 1099511627776) :
    Calls Try.prog 35 #[v, .int .i64 k0] w fun e w' => e = .returned (.int .i64 (k0 + 2 * n)) ∧ w = w' := by
  rcases hx with ⟨o, c, rfl, he⟩ | ⟨b1, o1, c1, rfl, hp, _, _, hb1, hx⟩
  · obtain rfl : n = 0 := by rw [← marksA_len k0 n, he]; rfl
    go_enter Try.func35, Try.ntmps35
    go_wp2
    refine wp_loop_rounds 1 ?_
    rw [rounds_succ]
    go_wp2
    go_ret
    exact ⟨by simp, rfl⟩
  · rw [marksA_len]
    clear hp
    go_enter Try.func35, Try.ntmps35
    go_wp2
    go_loop [1, 5] (fun s i => ∃ k : Nat, k ≤ n ∧ i = .int .i64 k ∧ s = .int .i64 (k0 + 2 * k)) (fun _ i => n - (intOf i).toNat)
    case atStart => exact ⟨0, by omega, rfl, by simp⟩
    case round =>
      obtain ⟨k, hk, rfl, rfl⟩ := hrel
      by_cases hlt : k < n
      · have q1 := hx k _ (marksA_get hlt)
        have q10 := q1 0 (by omega)
        have q11 := q1 1 (by omega)
        simp [encA] at q10 q11
        clear q1
        go_wp2
        go_round
        case rel => exact ⟨k + 1, by omega, by go_num, congrArg (Value.int .i64) (by omega)⟩
        case measure => simp [intOf]; omega
      · obtain rfl : k = n := by omega
        go_wp2
        go_ret
        exact ⟨rfl, rfl⟩
end Go.Proofs.Ythnmiimckgphnaa

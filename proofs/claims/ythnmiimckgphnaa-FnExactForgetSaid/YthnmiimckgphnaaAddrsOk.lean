/- AddrsOk: both walks. -/
import Derived.Test.YthnmiimckgphnaaAddr
namespace Go.Proofs.Ythnmiimckgphnaa
open Go.RowKit

/-- Is address i good, given the one before? -/
def goodAt (xs : List Ad) (i : Nat) : Bool :=
  match xs[i]? with
  | none => true
  | some a => inB a.id 1 99 && inB a.seen 0 1000000 && (i == 0 || match xs[i - 1]? with | some p => decide (p.id < a.id) | none => true)
def addrsOk (xs : List Ad) : Bool := decide (xs.length ≤ 10) && (List.range xs.length).all (goodAt xs)
theorem good_1 {xs : List Ad} {k : Nat} {x : Ad} (h : xs[k]? = some x) (h1 : inB x.id 1 99 = false) : goodAt xs k = false := by simp [goodAt, h, h1]
theorem good_2 {xs : List Ad} {k : Nat} {x : Ad} (h : xs[k]? = some x) (h2 : inB x.seen 0 1000000 = false) : goodAt xs k = false := by simp [goodAt, h, h2]
theorem good_3 {xs : List Ad} {k : Nat} {x p : Ad} (h : xs[k]? = some x) (hk : 0 < k) (hp : xs[k - 1]? = some p) (h3 : ¬ p.id < x.id) : goodAt xs k = false := by
  have : (k == 0) = false := by simp; omega
  simp [goodAt, h, hp, this]; omega
theorem good_0 {xs : List Ad} {x : Ad} (h : xs[0]? = some x) (h1 : inB x.id 1 99 = true) (h2 : inB x.seen 0 1000000 = true) : goodAt xs 0 = true := by simp [goodAt, h, h1, h2]
theorem good_n {xs : List Ad} {k : Nat} {x p : Ad} (h : xs[k]? = some x) (hp : xs[k - 1]? = some p) (h1 : inB x.id 1 99 = true) (h2 : inB x.seen 0 1000000 = true) (h3 : p.id < x.id) : goodAt xs k = true := by simp [goodAt, h, hp, h1, h2, h3]
theorem addrs_bad {xs : List Ad} {k : Nat} (hk : k < xs.length) (h : goodAt xs k = false) : addrsOk xs = false := by
  simp only [addrsOk, Bool.and_eq_false_iff]
  right
  rw [List.all_eq_false]
  exact ⟨k, List.mem_range.2 hk, by simp [h]⟩
theorem addrs_all {xs : List Ad} (h : ∀ i, i < xs.length → goodAt xs i = true) : addrsOk xs = decide (xs.length ≤ 10) := by
  simp only [addrsOk]
  rw [List.all_eq_true.2 (fun i hi => h i (List.mem_range.1 hi))]
  simp
theorem addrs_long {xs : List Ad} (h : ¬ xs.length ≤ 10) : addrsOk xs = false := by simp [addrsOk, h]

theorem good_next {xs : List Ad} {k : Nat} (h : ∀ i, i < k → goodAt xs i = true) (hk : goodAt xs k = true) : ∀ i, i < k + 1 → goodAt xs i = true := fun i hi => by
  by_cases e : i = k
  · rw [e]; exact hk
  · exact h i (by omega)

set_option maxHeartbeats 4000000 in
theorem addrsOk_non (b1 o1 c1 : Nat) (xs : List Ad) (w : World) (hx : SlAt encA 2 w b1 o1 xs) (hp : 0 < xs.length) (hn : xs.length ≤ 1048576) (hb1 : b1 < w.heap.size) :
    Calls Try.prog 28 #[.slice (some ⟨b1, o1, none⟩) xs.length c1] w fun e w' => e = .returned (.bool (addrsOk xs)) ∧ Ext w w' := by
  go_enter Try.func28, Try.ntmps28
  go_wp2
  go_loopg [7] xs.length (fun g i wr => ∃ k : Nat, k ≤ xs.length ∧ g = xs.length - k ∧ i = .int .i64 k ∧ Ext w wr ∧ Hid (∀ i, i < k → goodAt xs i = true))
  case atStart => exact ⟨0, by omega, by omega, rfl, Ext.refl _, fun i hi => by omega⟩
  case round =>
    obtain ⟨k, hk, hg, rfl, hE, hA⟩ := hrel
    have HG := Lib.hid hg; clear hg
    by_cases hlt : k < xs.length
    · obtain ⟨x, hxk⟩ : ∃ x, xs[k]? = some x := ⟨_, List.getElem?_eq_getElem hlt⟩
      have q1 := (hx.ext hE hb1) k _ hxk
      have q10 := q1 0 (by omega)
      have q11 := q1 1 (by omega)
      simp [encA] at q10 q11
      have HX := Lib.hid hxk
      clear q1 hxk
      have i0 : (0 : Int) ≤ (k : Int) := by omega
      have i1 : (k : Int) < (xs.length : Int) := by omega
      have l1 : b1 < wr.heap.size := Nat.lt_of_lt_of_le hb1 hE.size
      by_cases h1 : inB x.id 1 99 = true
      · by_cases h2 : inB x.seen 0 1000000 = true
        · rcases Nat.eq_zero_or_pos k with rfl | h0
          · have HN := Lib.hid (good_next hA.out (good_0 HX.out h1 h2))
            simp only [Nat.zero_mul, Nat.add_zero] at q10 q11
            go_wp2_with fail
            go_quiet ((first | (go_at_call 52; exact Calls.quiet_of_same (quiet (within_any _ _ _ _))) | (go_at_call 53; exact Calls.quiet_of_same (quiet (isTime_any _ _)))))
            go_wp2
            go_roundg (xs.length - (0 + 1))
            case measure => rw [HG.out]; omega
            case rel => exact ⟨0 + 1, by omega, rfl, rfl, by (repeat (first | (with_reducible exact Ext.refl _) | (with_reducible assumption) | (with_reducible refine Ext.alloc ?_ _) | (with_reducible refine Ext.drew ?_) | (with_reducible refine Ext.drewN ?_ _) | ((with_reducible apply Ext.setCell); (case hp => first | omega | (simp; done) | (simp; omega))) | (with_reducible refine Ext.trans ?_ (by assumption)))), HN.out⟩
          · obtain ⟨p, hpk⟩ : ∃ p, xs[k - 1]? = some p := ⟨_, List.getElem?_eq_getElem (by omega)⟩
            have r1 := (hx.ext hE hb1) (k - 1) _ hpk
            have r10 := r1 0 (by omega)
            simp [encA] at r10
            have HP := Lib.hid hpk
            clear r1 hpk
            have j0 : (0 : Int) < (k : Int) := by omega
            have j1 : (0 : Int) ≤ (k : Int) - 1 := by omega
            have j2 : (k : Int) - 1 < (xs.length : Int) := by omega
            have j3 : ((k : Int) - 1).toNat = k - 1 := by omega
            have j4 : IntKind.i64.wrap ((k : Int) - 1) = (k : Int) - 1 := IntWalk.i64_in _ (by omega)
            by_cases h3 : p.id < x.id
            · have HN := Lib.hid (good_next hA.out (good_n HX.out HP.out h1 h2 h3))
              have g3 : decide (x.id ≤ p.id) = false := by simp; omega
              go_wp2_with fail
              go_quiet ((first | (go_at_call 52; exact Calls.quiet_of_same (quiet (within_any _ _ _ _))) | (go_at_call 53; exact Calls.quiet_of_same (quiet (isTime_any _ _)))))
              go_wp2
              go_roundg (xs.length - (k + 1))
              case measure => rw [HG.out]; omega
              case rel => exact ⟨k + 1, by omega, rfl, by go_num, by (repeat (first | (with_reducible exact Ext.refl _) | (with_reducible assumption) | (with_reducible refine Ext.alloc ?_ _) | (with_reducible refine Ext.drew ?_) | (with_reducible refine Ext.drewN ?_ _) | ((with_reducible apply Ext.setCell); (case hp => first | omega | (simp; done) | (simp; omega))) | (with_reducible refine Ext.trans ?_ (by assumption)))), HN.out⟩
            · have HB := Lib.hid (addrs_bad hlt (good_3 HX.out h0 HP.out h3))
              have g3 : decide (x.id ≤ p.id) = true := by simp; omega
              go_wp2_with fail
              go_quiet ((first | (go_at_call 52; exact Calls.quiet_of_same (quiet (within_any _ _ _ _))) | (go_at_call 53; exact Calls.quiet_of_same (quiet (isTime_any _ _)))))
              go_wp2
              go_ret
              exact ⟨ret_bool HB.out, by (repeat (first | (with_reducible exact Ext.refl _) | (with_reducible assumption) | (with_reducible refine Ext.alloc ?_ _) | (with_reducible refine Ext.drew ?_) | (with_reducible refine Ext.drewN ?_ _) | ((with_reducible apply Ext.setCell); (case hp => first | omega | (simp; done) | (simp; omega))) | (with_reducible refine Ext.trans ?_ (by assumption))))⟩
        · replace h2 : inB x.seen 0 1000000 = false := by simpa using h2
          have HB := Lib.hid (addrs_bad hlt (good_2 HX.out h2))
          go_wp2_with fail
          go_quiet ((first | (go_at_call 52; exact Calls.quiet_of_same (quiet (within_any _ _ _ _))) | (go_at_call 53; exact Calls.quiet_of_same (quiet (isTime_any _ _)))))
          go_wp2
          go_ret
          exact ⟨ret_bool HB.out, by (repeat (first | (with_reducible exact Ext.refl _) | (with_reducible assumption) | (with_reducible refine Ext.alloc ?_ _) | (with_reducible refine Ext.drew ?_) | (with_reducible refine Ext.drewN ?_ _) | ((with_reducible apply Ext.setCell); (case hp => first | omega | (simp; done) | (simp; omega))) | (with_reducible refine Ext.trans ?_ (by assumption))))⟩
      · replace h1 : inB x.id 1 99 = false := by simpa using h1
        have HB := Lib.hid (addrs_bad hlt (good_1 HX.out h1))
        go_wp2_with fail
        go_quiet ((first | (go_at_call 52; exact Calls.quiet_of_same (quiet (within_any _ _ _ _))) | (go_at_call 53; exact Calls.quiet_of_same (quiet (isTime_any _ _)))))
        go_wp2
        go_ret
        exact ⟨ret_bool HB.out, by (repeat (first | (with_reducible exact Ext.refl _) | (with_reducible assumption) | (with_reducible refine Ext.alloc ?_ _) | (with_reducible refine Ext.drew ?_) | (with_reducible refine Ext.drewN ?_ _) | ((with_reducible apply Ext.setCell); (case hp => first | omega | (simp; done) | (simp; omega))) | (with_reducible refine Ext.trans ?_ (by assumption))))⟩
    · obtain rfl : k = xs.length := by omega
      have HE := Lib.hid (addrs_all hA.out)
      go_wp2
      go_ret
      exact ⟨ret_bool (HE.out.trans (by simp; try omega)), by (repeat (first | (with_reducible exact Ext.refl _) | (with_reducible assumption) | (with_reducible refine Ext.alloc ?_ _) | (with_reducible refine Ext.drew ?_) | (with_reducible refine Ext.drewN ?_ _) | ((with_reducible apply Ext.setCell); (case hp => first | omega | (simp; done) | (simp; omega))) | (with_reducible refine Ext.trans ?_ (by assumption))))⟩

set_option maxHeartbeats 4000000 in
theorem sAddrsOk_non (b1 o1 c1 : Nat) (xs : List Ad) (w : World) (hx : SlAt encA 2 w b1 o1 xs) (hp : 0 < xs.length) (hn : xs.length ≤ 10) (hb1 : b1 < w.heap.size) :
    Calls Try.prog 26 #[.slice (some ⟨b1, o1, none⟩) xs.length c1] w fun e w' => e = .returned (.bool (addrsOk xs)) ∧ Ext w w' := by
  go_enter Try.func26, Try.ntmps26
  go_wp2
  go_loopg [3] xs.length (fun g i wr => ∃ k : Nat, k ≤ xs.length ∧ g = xs.length - k ∧ i = .int .i64 k ∧ Ext w wr ∧ Hid (∀ i, i < k → goodAt xs i = true))
  case atStart => exact ⟨0, by omega, by omega, rfl, Ext.refl _, fun i hi => by omega⟩
  case round =>
    obtain ⟨k, hk, hg, rfl, hE, hA⟩ := hrel
    have HG := Lib.hid hg; clear hg
    by_cases hlt : k < xs.length
    · obtain ⟨x, hxk⟩ : ∃ x, xs[k]? = some x := ⟨_, List.getElem?_eq_getElem hlt⟩
      have q1 := (hx.ext hE hb1) k _ hxk
      have q10 := q1 0 (by omega)
      have q11 := q1 1 (by omega)
      simp [encA] at q10 q11
      have HX := Lib.hid hxk
      clear q1 hxk
      have i0 : (0 : Int) ≤ (k : Int) := by omega
      have i1 : (k : Int) < (xs.length : Int) := by omega
      have l1 : b1 < wr.heap.size := Nat.lt_of_lt_of_le hb1 hE.size
      by_cases h1 : inB x.id 1 99 = true
      · by_cases h2 : inB x.seen 0 1000000 = true
        · rcases Nat.eq_zero_or_pos k with rfl | h0
          · have HN := Lib.hid (good_next hA.out (good_0 HX.out h1 h2))
            simp only [Nat.zero_mul, Nat.add_zero] at q10 q11
            go_wp2_with fail
            go_quiet ((first | (go_at_call 50; exact Calls.quiet_of_same (quiet (l1In_any _ _ _ _))) | (go_at_call 51; exact Calls.quiet_of_same (quiet (l10Time_any _ _)))))
            go_wp2
            go_roundg (xs.length - (0 + 1))
            case measure => rw [HG.out]; omega
            case rel => exact ⟨0 + 1, by omega, rfl, rfl, by (repeat (first | (with_reducible exact Ext.refl _) | (with_reducible assumption) | (with_reducible refine Ext.alloc ?_ _) | (with_reducible refine Ext.drew ?_) | (with_reducible refine Ext.drewN ?_ _) | ((with_reducible apply Ext.setCell); (case hp => first | omega | (simp; done) | (simp; omega))) | (with_reducible refine Ext.trans ?_ (by assumption)))), HN.out⟩
          · obtain ⟨p, hpk⟩ : ∃ p, xs[k - 1]? = some p := ⟨_, List.getElem?_eq_getElem (by omega)⟩
            have r1 := (hx.ext hE hb1) (k - 1) _ hpk
            have r10 := r1 0 (by omega)
            simp [encA] at r10
            have HP := Lib.hid hpk
            clear r1 hpk
            have j0 : (0 : Int) < (k : Int) := by omega
            have j1 : (0 : Int) ≤ (k : Int) - 1 := by omega
            have j2 : (k : Int) - 1 < (xs.length : Int) := by omega
            have j3 : ((k : Int) - 1).toNat = k - 1 := by omega
            have j4 : IntKind.i64.wrap ((k : Int) - 1) = (k : Int) - 1 := IntWalk.i64_in _ (by omega)
            by_cases h3 : p.id < x.id
            · have HN := Lib.hid (good_next hA.out (good_n HX.out HP.out h1 h2 h3))
              have g3 : decide (x.id ≤ p.id) = false := by simp; omega
              go_wp2_with fail
              go_quiet ((first | (go_at_call 50; exact Calls.quiet_of_same (quiet (l1In_any _ _ _ _))) | (go_at_call 51; exact Calls.quiet_of_same (quiet (l10Time_any _ _)))))
              go_wp2
              go_roundg (xs.length - (k + 1))
              case measure => rw [HG.out]; omega
              case rel => exact ⟨k + 1, by omega, rfl, by go_num, by (repeat (first | (with_reducible exact Ext.refl _) | (with_reducible assumption) | (with_reducible refine Ext.alloc ?_ _) | (with_reducible refine Ext.drew ?_) | (with_reducible refine Ext.drewN ?_ _) | ((with_reducible apply Ext.setCell); (case hp => first | omega | (simp; done) | (simp; omega))) | (with_reducible refine Ext.trans ?_ (by assumption)))), HN.out⟩
            · have HB := Lib.hid (addrs_bad hlt (good_3 HX.out h0 HP.out h3))
              have g3 : decide (x.id ≤ p.id) = true := by simp; omega
              go_wp2_with fail
              go_quiet ((first | (go_at_call 50; exact Calls.quiet_of_same (quiet (l1In_any _ _ _ _))) | (go_at_call 51; exact Calls.quiet_of_same (quiet (l10Time_any _ _)))))
              go_wp2
              go_ret
              exact ⟨ret_bool HB.out, by (repeat (first | (with_reducible exact Ext.refl _) | (with_reducible assumption) | (with_reducible refine Ext.alloc ?_ _) | (with_reducible refine Ext.drew ?_) | (with_reducible refine Ext.drewN ?_ _) | ((with_reducible apply Ext.setCell); (case hp => first | omega | (simp; done) | (simp; omega))) | (with_reducible refine Ext.trans ?_ (by assumption))))⟩
        · replace h2 : inB x.seen 0 1000000 = false := by simpa using h2
          have HB := Lib.hid (addrs_bad hlt (good_2 HX.out h2))
          go_wp2_with fail
          go_quiet ((first | (go_at_call 50; exact Calls.quiet_of_same (quiet (l1In_any _ _ _ _))) | (go_at_call 51; exact Calls.quiet_of_same (quiet (l10Time_any _ _)))))
          go_wp2
          go_ret
          exact ⟨ret_bool HB.out, by (repeat (first | (with_reducible exact Ext.refl _) | (with_reducible assumption) | (with_reducible refine Ext.alloc ?_ _) | (with_reducible refine Ext.drew ?_) | (with_reducible refine Ext.drewN ?_ _) | ((with_reducible apply Ext.setCell); (case hp => first | omega | (simp; done) | (simp; omega))) | (with_reducible refine Ext.trans ?_ (by assumption))))⟩
      · replace h1 : inB x.id 1 99 = false := by simpa using h1
        have HB := Lib.hid (addrs_bad hlt (good_1 HX.out h1))
        go_wp2_with fail
        go_quiet ((first | (go_at_call 50; exact Calls.quiet_of_same (quiet (l1In_any _ _ _ _))) | (go_at_call 51; exact Calls.quiet_of_same (quiet (l10Time_any _ _)))))
        go_wp2
        go_ret
        exact ⟨ret_bool HB.out, by (repeat (first | (with_reducible exact Ext.refl _) | (with_reducible assumption) | (with_reducible refine Ext.alloc ?_ _) | (with_reducible refine Ext.drew ?_) | (with_reducible refine Ext.drewN ?_ _) | ((with_reducible apply Ext.setCell); (case hp => first | omega | (simp; done) | (simp; omega))) | (with_reducible refine Ext.trans ?_ (by assumption))))⟩
    · obtain rfl : k = xs.length := by omega
      have HE := Lib.hid (addrs_all hA.out)
      go_wp2
      go_ret
      exact ⟨ret_bool (HE.out.trans (by simp; omega)), by (repeat (first | (with_reducible exact Ext.refl _) | (with_reducible assumption) | (with_reducible refine Ext.alloc ?_ _) | (with_reducible refine Ext.drew ?_) | (with_reducible refine Ext.drewN ?_ _) | ((with_reducible apply Ext.setCell); (case hp => first | omega | (simp; done) | (simp; omega))) | (with_reducible refine Ext.trans ?_ (by assumption))))⟩

theorem addrsOk_any (v : Value) (xs : List Ad) (w : World) (hx : Sl encA 2 w v xs) (hn : xs.length ≤ 1048576) :
    Calls Try.prog 28 #[v] w fun e w' => e = .returned (.bool (addrsOk xs)) ∧ Ext w w' := by
  rcases hx with ⟨o, c, rfl, rfl⟩ | ⟨b1, o1, c1, rfl, hp, h1, h2, hb1, hx⟩
  · go_enter Try.func28, Try.ntmps28
    go_wp2
    refine wp_loop_rounds 1 ?_
    rw [rounds_succ]
    go_wp2
    go_ret
    exact ⟨rfl, by (repeat (first | (with_reducible exact Ext.refl _) | (with_reducible assumption) | (with_reducible refine Ext.alloc ?_ _) | (with_reducible refine Ext.drew ?_) | (with_reducible refine Ext.drewN ?_ _) | ((with_reducible apply Ext.setCell); (case hp => first | omega | (simp; done) | (simp; omega))) | (with_reducible refine Ext.trans ?_ (by assumption))))⟩
  · exact addrsOk_non b1 o1 c1 xs w hx hp hn hb1

theorem sAddrsOk_any (v : Value) (xs : List Ad) (w : World) (hx : Sl encA 2 w v xs) (hn : xs.length ≤ 1048576) :
    Calls Try.prog 26 #[v] w fun e w' => e = .returned (.bool (addrsOk xs)) ∧ Ext w w' := by
  rcases hx with ⟨o, c, rfl, rfl⟩ | ⟨b1, o1, c1, rfl, hp, h1, h2, hb1, hx⟩
  · go_enter Try.func26, Try.ntmps26
    go_wp2
    refine wp_loop_rounds 1 ?_
    rw [rounds_succ]
    go_wp2
    go_ret
    exact ⟨rfl, by (repeat (first | (with_reducible exact Ext.refl _) | (with_reducible assumption) | (with_reducible refine Ext.alloc ?_ _) | (with_reducible refine Ext.drew ?_) | (with_reducible refine Ext.drewN ?_ _) | ((with_reducible apply Ext.setCell); (case hp => first | omega | (simp; done) | (simp; omega))) | (with_reducible refine Ext.trans ?_ (by assumption))))⟩
  · by_cases hl : xs.length ≤ 10
    · exact sAddrsOk_non b1 o1 c1 xs w hx hp hl hb1
    · have HL := Lib.hid (addrs_long hl)
      go_enter Try.func26, Try.ntmps26
      go_wp2
      go_ret
      exact ⟨ret_bool HL.out, by (repeat (first | (with_reducible exact Ext.refl _) | (with_reducible assumption) | (with_reducible refine Ext.alloc ?_ _) | (with_reducible refine Ext.drew ?_) | (with_reducible refine Ext.drewN ?_ _) | ((with_reducible apply Ext.setCell); (case hp => first | omega | (simp; done) | (simp; omega))) | (with_reducible refine Ext.trans ?_ (by assumption))))⟩
end Go.Proofs.Ythnmiimckgphnaa

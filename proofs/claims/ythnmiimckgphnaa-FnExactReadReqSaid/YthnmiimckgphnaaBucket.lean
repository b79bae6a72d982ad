/- The walks of the buckets' functions. -/
import Derived.Test.YthnmiimckgphnaaRows
import Derived.Test.YthnmiimckgphnaaPlain
import Derived.WalkKit
import Derived.BigGuardPart
import Derived.Handy
namespace Go.Proofs.Ythnmiimckgphnaa
open Go.RowKit

theorem within_any (x lo hi : Int) (w : World) :
    Calls Try.prog 52 #[.int .i64 x, .int .i64 lo, .int .i64 hi] w fun e w' => e = .returned (.bool (inB x lo hi)) ∧ w = w' := by
  unfold inB
  by_cases h1 : lo ≤ x
  all_goals
    go_enter Try.func52, Try.ntmps52
    go_wp2
    go_ret
    exact ⟨by simp; try omega, rfl⟩

theorem l1In_any (x lo hi : Int) (w : World) :
    Calls Try.prog 50 #[.int .i64 x, .int .i64 lo, .int .i64 hi] w fun e w' => e = .returned (.bool (inB x lo hi)) ∧ w = w' := by
  unfold inB
  by_cases h1 : lo ≤ x
  all_goals
    go_enter Try.func50, Try.ntmps50
    go_wp2
    go_ret
    exact ⟨by simp; try omega, rfl⟩

theorem isTime_any (x : Int) (w : World) :
    Calls Try.prog 53 #[.int .i64 x] w fun e w' => e = .returned (.bool (inB x 0 1000000)) ∧ w = w' := by
  go_enter Try.func53, Try.ntmps53
  go_wp2_with (go_at_call 52; refine (within_any _ _ _ _).mono ?_; rintro e w' ⟨rfl, rfl⟩)
  go_ret
  exact ⟨rfl, rfl⟩

theorem l10Time_any (x : Int) (w : World) :
    Calls Try.prog 51 #[.int .i64 x] w fun e w' => e = .returned (.bool (inB x 0 1000000)) ∧ w = w' := by
  go_enter Try.func51, Try.ntmps51
  go_wp2_with (go_at_call 50; refine (l1In_any _ _ _ _).mono ?_; rintro e w' ⟨rfl, rfl⟩)
  go_ret
  exact ⟨rfl, rfl⟩

def bucketOk (c r l a : Int) : Bool := inB c 1 1000 && inB r 0 100 && inB l 0 c && inB a 0 1000000
theorem bucketOk_iff {c r l a : Int} : bucketOk c r l a = true ↔ (1 ≤ c ∧ c ≤ 1000) ∧ (0 ≤ r ∧ r ≤ 100) ∧ (0 ≤ l ∧ l ≤ c) ∧ 0 ≤ a ∧ a ≤ 1000000 := by simp [bucketOk, inB_iff, and_assoc]

set_option maxHeartbeats 400000 in
theorem bucketOk_any (c r l a : Int) (w : World) :
    Calls Try.prog 16 #[.agg #[.int .i64 c, .int .i64 r, .int .i64 l, .int .i64 a]] w fun e w' => e = .returned (.bool (bucketOk c r l a)) ∧ Ext w w' := by
  unfold bucketOk
  go_enter Try.func16, Try.ntmps16
  go_wp2_with (first | (go_at_call 52; refine (within_any _ _ _ _).mono ?_; rintro e w' ⟨rfl, rfl⟩) | (go_at_call 53; refine (isTime_any _ _).mono ?_; rintro e w' ⟨rfl, rfl⟩))
  all_goals
    go_ret
    exact ⟨by simp [*], by (repeat (first | (with_reducible exact Ext.refl _) | (with_reducible assumption) | (with_reducible refine Ext.alloc ?_ _) | (with_reducible refine Ext.drew ?_) | (with_reducible refine Ext.drewN ?_ _) | ((with_reducible apply Ext.setCell); (case hp => first | omega | (simp; done) | (simp; omega))) | (with_reducible refine Ext.trans ?_ (by assumption))))⟩

set_option maxHeartbeats 400000 in
theorem sBucketOk_any (c r l a : Int) (w : World) :
    Calls Try.prog 14 #[.agg #[.int .i64 c, .int .i64 r, .int .i64 l, .int .i64 a]] w fun e w' => e = .returned (.bool (bucketOk c r l a)) ∧ Ext w w' := by
  unfold bucketOk
  go_enter Try.func14, Try.ntmps14
  go_wp2_with (first | (go_at_call 50; refine (l1In_any _ _ _ _).mono ?_; rintro e w' ⟨rfl, rfl⟩) | (go_at_call 51; refine (l10Time_any _ _).mono ?_; rintro e w' ⟨rfl, rfl⟩))
  all_goals
    go_ret
    exact ⟨by simp [*], by (repeat (first | (with_reducible exact Ext.refl _) | (with_reducible assumption) | (with_reducible refine Ext.alloc ?_ _) | (with_reducible refine Ext.drew ?_) | (with_reducible refine Ext.drewN ?_ _) | ((with_reducible apply Ext.setCell); (case hp => first | omega | (simp; done) | (simp; omega))) | (with_reducible refine Ext.trans ?_ (by assumption))))⟩

/-- What BucketSee answers. -/
def bucketSee (c r l a now : Int) : Int := if bucketOk c r l a && inB now 0 1000000 && decide (a ≤ now) then min c (l + r * (now - a)) else 0

theorem mul_bd {r d : Int} (h1 : 0 ≤ r) (h2 : r ≤ 100) (h3 : 0 ≤ d) (h4 : d ≤ 1000000) : 0 ≤ r * d ∧ r * d ≤ 100000000 :=
  ⟨Int.mul_nonneg h1 h3, Int.le_trans (Int.mul_le_mul h2 h4 h3 (by omega)) (by omega)⟩

theorem see_no1 {c r l a now : Int} (h : bucketOk c r l a = false) : bucketSee c r l a now = 0 := by simp [bucketSee, h]
theorem see_no2 {c r l a now : Int} (h : inB now 0 1000000 = false) : bucketSee c r l a now = 0 := by simp [bucketSee, h]
theorem see_no3 {c r l a now : Int} (h : now < a) : bucketSee c r l a now = 0 := by simp [bucketSee]; omega
theorem see_lo {c r l a now : Int} (h : bucketOk c r l a = true) (h2 : inB now 0 1000000 = true) (h3 : a ≤ now) (h4 : c ≤ l + r * (now - a)) : bucketSee c r l a now = c := by simp [bucketSee, h, h2, h3]; omega
theorem see_hi {c r l a now : Int} (h : bucketOk c r l a = true) (h2 : inB now 0 1000000 = true) (h3 : a ≤ now) (h4 : l + r * (now - a) ≤ c) : bucketSee c r l a now = l + r * (now - a) := by simp [bucketSee, h, h2, h3]; omega
theorem see_hi' {c r l a now : Int} (h : bucketOk c r l a = true) (h2 : inB now 0 1000000 = true) (h3 : a ≤ now) (h4 : l + r * (now - a) < c) : bucketSee c r l a now = l + r * (now - a) := see_hi h h2 h3 (by omega)

set_option maxHeartbeats 1000000 in
theorem bucketSee_any (c r l a now : Int) (w : World) :
    Calls Try.prog 18 #[.agg #[.int .i64 c, .int .i64 r, .int .i64 l, .int .i64 a], .int .i64 now] w fun e w' => e = .returned (.int .i64 (bucketSee c r l a now)) ∧ Ext w w' := by
  by_cases hk : (bucketOk c r l a = true ∧ inB now 0 1000000 = true) ∧ a ≤ now
  · obtain ⟨⟨h1, h2⟩, h3⟩ := hk
    obtain ⟨⟨c1, c2⟩, ⟨r1, r2⟩, ⟨l1, l2⟩, a1, a2⟩ := bucketOk_iff.1 h1
    obtain ⟨n1, n2⟩ := inB_iff.1 h2
    obtain ⟨m1, m2⟩ := mul_bd (d := now - a) r1 r2 (by omega) (by omega)
    go_enter Try.func18, Try.ntmps18
    go_wp2_with (first | (go_at_call 16; refine (bucketOk_any _ _ _ _ _).mono ?_; rintro e w1 ⟨rfl, hb⟩; (obtain ⟨B0, c0, f0, l0⟩ := Box.after (k := w.heap.size) hb (by (repeat (first | (with_reducible assumption) | ((with_reducible apply Box.new); (first | (with_reducible rfl) | (simp; done) | (simp; omega))) | (with_reducible apply Box.alloc) | (with_reducible apply Box.drew) | (with_reducible apply Box.drewN) | (with_reducible apply Box.set) | ((with_reducible apply Box.set_ne); (case hne => first | omega | (simp; done) | (simp; omega)))))))) | (go_at_call 53; refine (isTime_any _ _).mono ?_; rintro e w' ⟨rfl, rfl⟩))
    all_goals
      go_ret
      exact ⟨by first | exact ret_int (see_lo h1 h2 h3 (by omega)) | exact ret_int (see_hi h1 h2 h3 (by omega)), by (repeat (first | (with_reducible exact Ext.refl _) | (with_reducible assumption) | (with_reducible refine Ext.alloc ?_ _) | (with_reducible refine Ext.drew ?_) | (with_reducible refine Ext.drewN ?_ _) | ((with_reducible apply Ext.setCell); (case hp => first | omega | (simp; done) | (simp; omega))) | (with_reducible refine Ext.trans ?_ (by assumption))))⟩
  · go_enter Try.func18, Try.ntmps18
    go_wp2_with (first | (go_at_call 16; refine (bucketOk_any _ _ _ _ _).mono ?_; rintro e w1 ⟨rfl, hb⟩; (obtain ⟨B0, c0, f0, l0⟩ := Box.after (k := w.heap.size) hb (by (repeat (first | (with_reducible assumption) | ((with_reducible apply Box.new); (first | (with_reducible rfl) | (simp; done) | (simp; omega))) | (with_reducible apply Box.alloc) | (with_reducible apply Box.drew) | (with_reducible apply Box.drewN) | (with_reducible apply Box.set) | ((with_reducible apply Box.set_ne); (case hne => first | omega | (simp; done) | (simp; omega)))))))) | (go_at_call 53; refine (isTime_any _ _).mono ?_; rintro e w' ⟨rfl, rfl⟩))
    all_goals first | (exfalso; exact hk ⟨⟨by assumption, by assumption⟩, by assumption⟩) | (go_ret; exact ⟨by first | exact ret_int (see_no1 (by assumption)) | exact ret_int (see_no2 (by assumption)) | exact ret_int (see_no3 (by assumption)), by (repeat (first | (with_reducible exact Ext.refl _) | (with_reducible assumption) | (with_reducible refine Ext.alloc ?_ _) | (with_reducible refine Ext.drew ?_) | (with_reducible refine Ext.drewN ?_ _) | ((with_reducible apply Ext.setCell); (case hp => first | omega | (simp; done) | (simp; omega))) | (with_reducible refine Ext.trans ?_ (by assumption))))⟩)

set_option maxHeartbeats 1000000 in
theorem sBucketSee_any (c r l a now : Int) (w : World) :
    Calls Try.prog 17 #[.agg #[.int .i64 c, .int .i64 r, .int .i64 l, .int .i64 a], .int .i64 now] w fun e w' => e = .returned (.int .i64 (bucketSee c r l a now)) ∧ Ext w w' := by
  by_cases hk : (bucketOk c r l a = true ∧ inB now 0 1000000 = true) ∧ a ≤ now
  · obtain ⟨⟨h1, h2⟩, h3⟩ := hk
    obtain ⟨⟨c1, c2⟩, ⟨r1, r2⟩, ⟨l1, l2⟩, a1, a2⟩ := bucketOk_iff.1 h1
    obtain ⟨n1, n2⟩ := inB_iff.1 h2
    obtain ⟨m1, m2⟩ := mul_bd (d := now - a) r1 r2 (by omega) (by omega)
    go_enter Try.func17, Try.ntmps17
    go_wp2_with (first | (go_at_call 14; refine (sBucketOk_any _ _ _ _ _).mono ?_; rintro e w1 ⟨rfl, hb⟩; (obtain ⟨B0, c0, f0, l0⟩ := Box.after (k := w.heap.size) hb (by (repeat (first | (with_reducible assumption) | ((with_reducible apply Box.new); (first | (with_reducible rfl) | (simp; done) | (simp; omega))) | (with_reducible apply Box.alloc) | (with_reducible apply Box.drew) | (with_reducible apply Box.drewN) | (with_reducible apply Box.set) | ((with_reducible apply Box.set_ne); (case hne => first | omega | (simp; done) | (simp; omega)))))))) | (go_at_call 51; refine (l10Time_any _ _).mono ?_; rintro e w' ⟨rfl, rfl⟩))
    all_goals
      go_ret
      exact ⟨by first | exact ret_int (see_lo h1 h2 h3 (by omega)) | exact ret_int (see_hi h1 h2 h3 (by omega)), by (repeat (first | (with_reducible exact Ext.refl _) | (with_reducible assumption) | (with_reducible refine Ext.alloc ?_ _) | (with_reducible refine Ext.drew ?_) | (with_reducible refine Ext.drewN ?_ _) | ((with_reducible apply Ext.setCell); (case hp => first | omega | (simp; done) | (simp; omega))) | (with_reducible refine Ext.trans ?_ (by assumption))))⟩
  · go_enter Try.func17, Try.ntmps17
    go_wp2_with (first | (go_at_call 14; refine (sBucketOk_any _ _ _ _ _).mono ?_; rintro e w1 ⟨rfl, hb⟩; (obtain ⟨B0, c0, f0, l0⟩ := Box.after (k := w.heap.size) hb (by (repeat (first | (with_reducible assumption) | ((with_reducible apply Box.new); (first | (with_reducible rfl) | (simp; done) | (simp; omega))) | (with_reducible apply Box.alloc) | (with_reducible apply Box.drew) | (with_reducible apply Box.drewN) | (with_reducible apply Box.set) | ((with_reducible apply Box.set_ne); (case hne => first | omega | (simp; done) | (simp; omega)))))))) | (go_at_call 51; refine (l10Time_any _ _).mono ?_; rintro e w' ⟨rfl, rfl⟩))
    all_goals first | (exfalso; exact hk ⟨⟨by assumption, by assumption⟩, by assumption⟩) | (go_ret; exact ⟨by first | exact ret_int (see_no1 (by assumption)) | exact ret_int (see_no2 (by assumption)) | exact ret_int (see_no3 (by assumption)), by (repeat (first | (with_reducible exact Ext.refl _) | (with_reducible assumption) | (with_reducible refine Ext.alloc ?_ _) | (with_reducible refine Ext.drew ?_) | (with_reducible refine Ext.drewN ?_ _) | ((with_reducible apply Ext.setCell); (case hp => first | omega | (simp; done) | (simp; omega))) | (with_reducible refine Ext.trans ?_ (by assumption))))⟩)

/-- A bucket's four numbers. -/
structure Bk where
  c : Int
  r : Int
  l : Int
  a : Int
def bucketTake (c r l a n now : Int) : Bk × Bool :=
  if bucketOk c r l a then if inB n 1 (bucketSee c r l a now) then (⟨c, r, bucketSee c r l a now - n, now⟩, true) else (⟨c, r, l, a⟩, false) else (⟨0, 0, 0, 0⟩, false)
def BkV (t : Bk × Bool) : Value := .tuple #[.agg #[.int .i64 t.1.c, .int .i64 t.1.r, .int .i64 t.1.l, .int .i64 t.1.a], .bool t.2]
theorem take_no1 {c r l a n now : Int} (h : bucketOk c r l a = false) : bucketTake c r l a n now = (⟨0, 0, 0, 0⟩, false) := by simp [bucketTake, h]
theorem take_no2 {c r l a n now : Int} (h : bucketOk c r l a = true) (h2 : inB n 1 (bucketSee c r l a now) = false) : bucketTake c r l a n now = (⟨c, r, l, a⟩, false) := by simp [bucketTake, h, h2]
theorem take_yes {c r l a n now : Int} (h : bucketOk c r l a = true) (h2 : inB n 1 (bucketSee c r l a now) = true) : bucketTake c r l a n now = (⟨c, r, bucketSee c r l a now - n, now⟩, true) := by simp [bucketTake, h, h2]
theorem see_bd {c r l a now : Int} (hc : c ≤ 1000) : bucketSee c r l a now ≤ 1000 := by unfold bucketSee; split <;> omega
theorem see_bdc {c r l a now : Int} (h : bucketOk c r l a = true) : 0 ≤ bucketSee c r l a now ∧ bucketSee c r l a now ≤ c := by
  obtain ⟨⟨c1, c2⟩, ⟨r1, r2⟩, ⟨l1, l2⟩, a1, a2⟩ := bucketOk_iff.1 h
  unfold bucketSee
  split
  · rename_i hh
    simp only [Bool.and_eq_true, decide_eq_true_eq] at hh
    have := (mul_bd (d := now - a) r1 r2 (by omega) (by have := inB_iff.1 hh.1.2; omega)).1
    omega
  · omega

set_option maxHeartbeats 1000000 in
theorem bucketTake_any (c r l a n now : Int) (w : World) :
    Calls Try.prog 21 #[.agg #[.int .i64 c, .int .i64 r, .int .i64 l, .int .i64 a], .int .i64 n, .int .i64 now] w fun e w' => e = .returned (BkV (bucketTake c r l a n now)) ∧ Ext w w' := by
  by_cases hk : bucketOk c r l a = true
  · obtain ⟨s1, s2⟩ := see_bdc (now := now) hk
    have s3 := see_bd (r := r) (l := l) (a := a) (now := now) (bucketOk_iff.1 hk).1.2
    by_cases hn : inB n 1 (bucketSee c r l a now) = true
    · have E : Hid (bucketTake c r l a n now = (⟨c, r, bucketSee c r l a now - n, now⟩, true)) := take_yes hk hn
      obtain ⟨n1, n2⟩ := inB_iff.1 hn
      go_enter Try.func21, Try.ntmps21
      go_wp2_with (first | (go_at_call 16; refine (bucketOk_any _ _ _ _ _).mono ?_; rintro e w1 ⟨rfl, hb⟩; (obtain ⟨B0, c0, f0, l0⟩ := Box.after (k := w.heap.size) hb (by (repeat (first | (with_reducible assumption) | ((with_reducible apply Box.new); (first | (with_reducible rfl) | (simp; done) | (simp; omega))) | (with_reducible apply Box.alloc) | (with_reducible apply Box.drew) | (with_reducible apply Box.drewN) | (with_reducible apply Box.set) | ((with_reducible apply Box.set_ne); (case hne => first | omega | (simp; done) | (simp; omega))))))); (obtain ⟨B1, c1, f1, l1⟩ := Box.after (k := w.heap.size + 1) hb (by (repeat (first | (with_reducible assumption) | ((with_reducible apply Box.new); (first | (with_reducible rfl) | (simp; done) | (simp; omega))) | (with_reducible apply Box.alloc) | (with_reducible apply Box.drew) | (with_reducible apply Box.drewN) | (with_reducible apply Box.set) | ((with_reducible apply Box.set_ne); (case hne => first | omega | (simp; done) | (simp; omega)))))))) | (go_at_call 18; refine (bucketSee_any _ _ _ _ _ _).mono ?_; rintro e w1 ⟨rfl, hb⟩; (obtain ⟨B0, c0, f0, l0⟩ := Box.after (k := w.heap.size) hb (by (repeat (first | (with_reducible assumption) | ((with_reducible apply Box.new); (first | (with_reducible rfl) | (simp; done) | (simp; omega))) | (with_reducible apply Box.alloc) | (with_reducible apply Box.drew) | (with_reducible apply Box.drewN) | (with_reducible apply Box.set) | ((with_reducible apply Box.set_ne); (case hne => first | omega | (simp; done) | (simp; omega))))))); (obtain ⟨B1, c1, f1, l1⟩ := Box.after (k := w.heap.size + 1) hb (by (repeat (first | (with_reducible assumption) | ((with_reducible apply Box.new); (first | (with_reducible rfl) | (simp; done) | (simp; omega))) | (with_reducible apply Box.alloc) | (with_reducible apply Box.drew) | (with_reducible apply Box.drewN) | (with_reducible apply Box.set) | ((with_reducible apply Box.set_ne); (case hne => first | omega | (simp; done) | (simp; omega)))))))) | (go_at_call 52; refine (within_any _ _ _ _).mono ?_; rintro e w' ⟨rfl, rfl⟩))
      exact bodyPost_ret (v := BkV (⟨c, r, bucketSee c r l a now - n, now⟩, true)) (by simp [BkV, results, Try.results21, go_sem, c1]) rfl ⟨by rw [E.out], by (repeat (first | (with_reducible exact Ext.refl _) | (with_reducible assumption) | (with_reducible refine Ext.alloc ?_ _) | (with_reducible refine Ext.drew ?_) | (with_reducible refine Ext.drewN ?_ _) | ((with_reducible apply Ext.setCell); (case hp => first | omega | (simp; done) | (simp; omega))) | (with_reducible refine Ext.trans ?_ (by assumption))))⟩
    · have hn' : inB n 1 (bucketSee c r l a now) = false := by simpa using hn
      have E : Hid (bucketTake c r l a n now = (⟨c, r, l, a⟩, false)) := take_no2 hk hn'
      go_enter Try.func21, Try.ntmps21
      go_wp2_with (first | (go_at_call 16; refine (bucketOk_any _ _ _ _ _).mono ?_; rintro e w1 ⟨rfl, hb⟩; (obtain ⟨B0, c0, f0, l0⟩ := Box.after (k := w.heap.size) hb (by (repeat (first | (with_reducible assumption) | ((with_reducible apply Box.new); (first | (with_reducible rfl) | (simp; done) | (simp; omega))) | (with_reducible apply Box.alloc) | (with_reducible apply Box.drew) | (with_reducible apply Box.drewN) | (with_reducible apply Box.set) | ((with_reducible apply Box.set_ne); (case hne => first | omega | (simp; done) | (simp; omega))))))); (obtain ⟨B1, c1, f1, l1⟩ := Box.after (k := w.heap.size + 1) hb (by (repeat (first | (with_reducible assumption) | ((with_reducible apply Box.new); (first | (with_reducible rfl) | (simp; done) | (simp; omega))) | (with_reducible apply Box.alloc) | (with_reducible apply Box.drew) | (with_reducible apply Box.drewN) | (with_reducible apply Box.set) | ((with_reducible apply Box.set_ne); (case hne => first | omega | (simp; done) | (simp; omega)))))))) | (go_at_call 18; refine (bucketSee_any _ _ _ _ _ _).mono ?_; rintro e w1 ⟨rfl, hb⟩; (obtain ⟨B0, c0, f0, l0⟩ := Box.after (k := w.heap.size) hb (by (repeat (first | (with_reducible assumption) | ((with_reducible apply Box.new); (first | (with_reducible rfl) | (simp; done) | (simp; omega))) | (with_reducible apply Box.alloc) | (with_reducible apply Box.drew) | (with_reducible apply Box.drewN) | (with_reducible apply Box.set) | ((with_reducible apply Box.set_ne); (case hne => first | omega | (simp; done) | (simp; omega))))))); (obtain ⟨B1, c1, f1, l1⟩ := Box.after (k := w.heap.size + 1) hb (by (repeat (first | (with_reducible assumption) | ((with_reducible apply Box.new); (first | (with_reducible rfl) | (simp; done) | (simp; omega))) | (with_reducible apply Box.alloc) | (with_reducible apply Box.drew) | (with_reducible apply Box.drewN) | (with_reducible apply Box.set) | ((with_reducible apply Box.set_ne); (case hne => first | omega | (simp; done) | (simp; omega)))))))) | (go_at_call 52; refine (within_any _ _ _ _).mono ?_; rintro e w' ⟨rfl, rfl⟩))
      exact bodyPost_ret (v := BkV (⟨c, r, l, a⟩, false)) (by simp [BkV, results, Try.results21, go_sem, c1]) rfl ⟨by rw [E.out], by (repeat (first | (with_reducible exact Ext.refl _) | (with_reducible assumption) | (with_reducible refine Ext.alloc ?_ _) | (with_reducible refine Ext.drew ?_) | (with_reducible refine Ext.drewN ?_ _) | ((with_reducible apply Ext.setCell); (case hp => first | omega | (simp; done) | (simp; omega))) | (with_reducible refine Ext.trans ?_ (by assumption))))⟩
  · have hk' : bucketOk c r l a = false := by simpa using hk
    have E : Hid (bucketTake c r l a n now = (⟨0, 0, 0, 0⟩, false)) := take_no1 hk'
    go_enter Try.func21, Try.ntmps21
    go_wp2_with (first | (go_at_call 16; refine (bucketOk_any _ _ _ _ _).mono ?_; rintro e w1 ⟨rfl, hb⟩; (obtain ⟨B0, c0, f0, l0⟩ := Box.after (k := w.heap.size) hb (by (repeat (first | (with_reducible assumption) | ((with_reducible apply Box.new); (first | (with_reducible rfl) | (simp; done) | (simp; omega))) | (with_reducible apply Box.alloc) | (with_reducible apply Box.drew) | (with_reducible apply Box.drewN) | (with_reducible apply Box.set) | ((with_reducible apply Box.set_ne); (case hne => first | omega | (simp; done) | (simp; omega))))))); (obtain ⟨B1, c1, f1, l1⟩ := Box.after (k := w.heap.size + 1) hb (by (repeat (first | (with_reducible assumption) | ((with_reducible apply Box.new); (first | (with_reducible rfl) | (simp; done) | (simp; omega))) | (with_reducible apply Box.alloc) | (with_reducible apply Box.drew) | (with_reducible apply Box.drewN) | (with_reducible apply Box.set) | ((with_reducible apply Box.set_ne); (case hne => first | omega | (simp; done) | (simp; omega)))))))) | (go_at_call 18; refine (bucketSee_any _ _ _ _ _ _).mono ?_; rintro e w1 ⟨rfl, hb⟩; (obtain ⟨B0, c0, f0, l0⟩ := Box.after (k := w.heap.size) hb (by (repeat (first | (with_reducible assumption) | ((with_reducible apply Box.new); (first | (with_reducible rfl) | (simp; done) | (simp; omega))) | (with_reducible apply Box.alloc) | (with_reducible apply Box.drew) | (with_reducible apply Box.drewN) | (with_reducible apply Box.set) | ((with_reducible apply Box.set_ne); (case hne => first | omega | (simp; done) | (simp; omega))))))); (obtain ⟨B1, c1, f1, l1⟩ := Box.after (k := w.heap.size + 1) hb (by (repeat (first | (with_reducible assumption) | ((with_reducible apply Box.new); (first | (with_reducible rfl) | (simp; done) | (simp; omega))) | (with_reducible apply Box.alloc) | (with_reducible apply Box.drew) | (with_reducible apply Box.drewN) | (with_reducible apply Box.set) | ((with_reducible apply Box.set_ne); (case hne => first | omega | (simp; done) | (simp; omega)))))))) | (go_at_call 52; refine (within_any _ _ _ _).mono ?_; rintro e w' ⟨rfl, rfl⟩))
    exact bodyPost_ret (v := BkV (⟨0, 0, 0, 0⟩, false)) (by simp [BkV, results, Try.results21, go_sem, c1]) rfl ⟨by rw [E.out], by (repeat (first | (with_reducible exact Ext.refl _) | (with_reducible assumption) | (with_reducible refine Ext.alloc ?_ _) | (with_reducible refine Ext.drew ?_) | (with_reducible refine Ext.drewN ?_ _) | ((with_reducible apply Ext.setCell); (case hp => first | omega | (simp; done) | (simp; omega))) | (with_reducible refine Ext.trans ?_ (by assumption))))⟩

set_option maxHeartbeats 1000000 in
theorem sBucketTake_any (c r l a n now : Int) (w : World) :
    Calls Try.prog 30 #[.agg #[.int .i64 c, .int .i64 r, .int .i64 l, .int .i64 a], .int .i64 n, .int .i64 now] w fun e w' => e = .returned (BkV (bucketTake c r l a n now)) ∧ Ext w w' := by
  by_cases hk : bucketOk c r l a = true
  · obtain ⟨s1, s2⟩ := see_bdc (now := now) hk
    have s3 := see_bd (r := r) (l := l) (a := a) (now := now) (bucketOk_iff.1 hk).1.2
    by_cases hn : inB n 1 (bucketSee c r l a now) = true
    · have E : Hid (bucketTake c r l a n now = (⟨c, r, bucketSee c r l a now - n, now⟩, true)) := take_yes hk hn
      obtain ⟨n1, n2⟩ := inB_iff.1 hn
      go_enter Try.func30, Try.ntmps30
      go_wp2_with (first | (go_at_call 14; refine (sBucketOk_any _ _ _ _ _).mono ?_; rintro e w1 ⟨rfl, hb⟩; (obtain ⟨B0, c0, f0, l0⟩ := Box.after (k := w.heap.size) hb (by (repeat (first | (with_reducible assumption) | ((with_reducible apply Box.new); (first | (with_reducible rfl) | (simp; done) | (simp; omega))) | (with_reducible apply Box.alloc) | (with_reducible apply Box.drew) | (with_reducible apply Box.drewN) | (with_reducible apply Box.set) | ((with_reducible apply Box.set_ne); (case hne => first | omega | (simp; done) | (simp; omega))))))); (obtain ⟨B1, c1, f1, l1⟩ := Box.after (k := w.heap.size + 1) hb (by (repeat (first | (with_reducible assumption) | ((with_reducible apply Box.new); (first | (with_reducible rfl) | (simp; done) | (simp; omega))) | (with_reducible apply Box.alloc) | (with_reducible apply Box.drew) | (with_reducible apply Box.drewN) | (with_reducible apply Box.set) | ((with_reducible apply Box.set_ne); (case hne => first | omega | (simp; done) | (simp; omega)))))))) | (go_at_call 17; refine (sBucketSee_any _ _ _ _ _ _).mono ?_; rintro e w1 ⟨rfl, hb⟩; (obtain ⟨B0, c0, f0, l0⟩ := Box.after (k := w.heap.size) hb (by (repeat (first | (with_reducible assumption) | ((with_reducible apply Box.new); (first | (with_reducible rfl) | (simp; done) | (simp; omega))) | (with_reducible apply Box.alloc) | (with_reducible apply Box.drew) | (with_reducible apply Box.drewN) | (with_reducible apply Box.set) | ((with_reducible apply Box.set_ne); (case hne => first | omega | (simp; done) | (simp; omega))))))); (obtain ⟨B1, c1, f1, l1⟩ := Box.after (k := w.heap.size + 1) hb (by (repeat (first | (with_reducible assumption) | ((with_reducible apply Box.new); (first | (with_reducible rfl) | (simp; done) | (simp; omega))) | (with_reducible apply Box.alloc) | (with_reducible apply Box.drew) | (with_reducible apply Box.drewN) | (with_reducible apply Box.set) | ((with_reducible apply Box.set_ne); (case hne => first | omega | (simp; done) | (simp; omega)))))))))
      exact bodyPost_ret (v := BkV (⟨c, r, bucketSee c r l a now - n, now⟩, true)) (by simp [BkV, results, Try.results30, go_sem, c1]) rfl ⟨by rw [E.out], by (repeat (first | (with_reducible exact Ext.refl _) | (with_reducible assumption) | (with_reducible refine Ext.alloc ?_ _) | (with_reducible refine Ext.drew ?_) | (with_reducible refine Ext.drewN ?_ _) | ((with_reducible apply Ext.setCell); (case hp => first | omega | (simp; done) | (simp; omega))) | (with_reducible refine Ext.trans ?_ (by assumption))))⟩
    · have hn' : inB n 1 (bucketSee c r l a now) = false := by simpa using hn
      have E : Hid (bucketTake c r l a n now = (⟨c, r, l, a⟩, false)) := take_no2 hk hn'
      have hn2 := inB_false.1 hn'
      by_cases n1 : n < 1
      all_goals
        go_enter Try.func30, Try.ntmps30
        go_wp2_with (first | (go_at_call 14; refine (sBucketOk_any _ _ _ _ _).mono ?_; rintro e w1 ⟨rfl, hb⟩; (obtain ⟨B0, c0, f0, l0⟩ := Box.after (k := w.heap.size) hb (by (repeat (first | (with_reducible assumption) | ((with_reducible apply Box.new); (first | (with_reducible rfl) | (simp; done) | (simp; omega))) | (with_reducible apply Box.alloc) | (with_reducible apply Box.drew) | (with_reducible apply Box.drewN) | (with_reducible apply Box.set) | ((with_reducible apply Box.set_ne); (case hne => first | omega | (simp; done) | (simp; omega))))))); (obtain ⟨B1, c1, f1, l1⟩ := Box.after (k := w.heap.size + 1) hb (by (repeat (first | (with_reducible assumption) | ((with_reducible apply Box.new); (first | (with_reducible rfl) | (simp; done) | (simp; omega))) | (with_reducible apply Box.alloc) | (with_reducible apply Box.drew) | (with_reducible apply Box.drewN) | (with_reducible apply Box.set) | ((with_reducible apply Box.set_ne); (case hne => first | omega | (simp; done) | (simp; omega)))))))) | (go_at_call 17; refine (sBucketSee_any _ _ _ _ _ _).mono ?_; rintro e w1 ⟨rfl, hb⟩; (obtain ⟨B0, c0, f0, l0⟩ := Box.after (k := w.heap.size) hb (by (repeat (first | (with_reducible assumption) | ((with_reducible apply Box.new); (first | (with_reducible rfl) | (simp; done) | (simp; omega))) | (with_reducible apply Box.alloc) | (with_reducible apply Box.drew) | (with_reducible apply Box.drewN) | (with_reducible apply Box.set) | ((with_reducible apply Box.set_ne); (case hne => first | omega | (simp; done) | (simp; omega))))))); (obtain ⟨B1, c1, f1, l1⟩ := Box.after (k := w.heap.size + 1) hb (by (repeat (first | (with_reducible assumption) | ((with_reducible apply Box.new); (first | (with_reducible rfl) | (simp; done) | (simp; omega))) | (with_reducible apply Box.alloc) | (with_reducible apply Box.drew) | (with_reducible apply Box.drewN) | (with_reducible apply Box.set) | ((with_reducible apply Box.set_ne); (case hne => first | omega | (simp; done) | (simp; omega)))))))))
        exact bodyPost_ret (v := BkV (⟨c, r, l, a⟩, false)) (by simp [BkV, results, Try.results30, go_sem, c1]) rfl ⟨by rw [E.out], by (repeat (first | (with_reducible exact Ext.refl _) | (with_reducible assumption) | (with_reducible refine Ext.alloc ?_ _) | (with_reducible refine Ext.drew ?_) | (with_reducible refine Ext.drewN ?_ _) | ((with_reducible apply Ext.setCell); (case hp => first | omega | (simp; done) | (simp; omega))) | (with_reducible refine Ext.trans ?_ (by assumption))))⟩
  · have hk' : bucketOk c r l a = false := by simpa using hk
    have E : Hid (bucketTake c r l a n now = (⟨0, 0, 0, 0⟩, false)) := take_no1 hk'
    go_enter Try.func30, Try.ntmps30
    go_wp2_with (first | (go_at_call 14; refine (sBucketOk_any _ _ _ _ _).mono ?_; rintro e w1 ⟨rfl, hb⟩; (obtain ⟨B0, c0, f0, l0⟩ := Box.after (k := w.heap.size) hb (by (repeat (first | (with_reducible assumption) | ((with_reducible apply Box.new); (first | (with_reducible rfl) | (simp; done) | (simp; omega))) | (with_reducible apply Box.alloc) | (with_reducible apply Box.drew) | (with_reducible apply Box.drewN) | (with_reducible apply Box.set) | ((with_reducible apply Box.set_ne); (case hne => first | omega | (simp; done) | (simp; omega))))))); (obtain ⟨B1, c1, f1, l1⟩ := Box.after (k := w.heap.size + 1) hb (by (repeat (first | (with_reducible assumption) | ((with_reducible apply Box.new); (first | (with_reducible rfl) | (simp; done) | (simp; omega))) | (with_reducible apply Box.alloc) | (with_reducible apply Box.drew) | (with_reducible apply Box.drewN) | (with_reducible apply Box.set) | ((with_reducible apply Box.set_ne); (case hne => first | omega | (simp; done) | (simp; omega)))))))) | (go_at_call 17; refine (sBucketSee_any _ _ _ _ _ _).mono ?_; rintro e w1 ⟨rfl, hb⟩; (obtain ⟨B0, c0, f0, l0⟩ := Box.after (k := w.heap.size) hb (by (repeat (first | (with_reducible assumption) | ((with_reducible apply Box.new); (first | (with_reducible rfl) | (simp; done) | (simp; omega))) | (with_reducible apply Box.alloc) | (with_reducible apply Box.drew) | (with_reducible apply Box.drewN) | (with_reducible apply Box.set) | ((with_reducible apply Box.set_ne); (case hne => first | omega | (simp; done) | (simp; omega))))))); (obtain ⟨B1, c1, f1, l1⟩ := Box.after (k := w.heap.size + 1) hb (by (repeat (first | (with_reducible assumption) | ((with_reducible apply Box.new); (first | (with_reducible rfl) | (simp; done) | (simp; omega))) | (with_reducible apply Box.alloc) | (with_reducible apply Box.drew) | (with_reducible apply Box.drewN) | (with_reducible apply Box.set) | ((with_reducible apply Box.set_ne); (case hne => first | omega | (simp; done) | (simp; omega)))))))))
    exact bodyPost_ret (v := BkV (⟨0, 0, 0, 0⟩, false)) (by simp [BkV, results, Try.results30, go_sem, c1]) rfl ⟨by rw [E.out], by (repeat (first | (with_reducible exact Ext.refl _) | (with_reducible assumption) | (with_reducible refine Ext.alloc ?_ _) | (with_reducible refine Ext.drew ?_) | (with_reducible refine Ext.drewN ?_ _) | ((with_reducible apply Ext.setCell); (case hp => first | omega | (simp; done) | (simp; omega))) | (with_reducible refine Ext.trans ?_ (by assumption))))⟩
end Go.Proofs.Ythnmiimckgphnaa

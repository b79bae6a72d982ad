/- ShowReq: both walks. -/
import Derived.Test.YthnmiimckgphnaaVar
import Derived.Deep.RegionHeld3
import Derived.BigGuardPart
import Derived.Handy
namespace Go.Proofs.Ythnmiimckgphnaa
open Go.RowKit

def reqOk (k f m : Int) : Bool := inB k 1 3 && inB f 0 1000000 && inB m 0 100 && (k == 2 || m == 0) && (k != 3 || f == 0)
def showReq (k f m : Int) : ByteArray := if reqOk k f m then varS k ++ varS f ++ varS m else ⟨#[]⟩
theorem varS_size (n : Int) : (varS n).size ≤ 8 := by
  unfold varS
  split
  · have := varF_len 8 n.toNat
    simpa [varL, ByteArray.size] using this
  · simp [ByteArray.size]
theorem show_no {k f m : Int} (h : reqOk k f m = false) : showReq k f m = ⟨#[]⟩ := by unfold showReq; rw [if_neg (by rw [h]; simp)]
theorem show_yes {k f m : Int} (h : reqOk k f m = true) : showReq k f m = varS k ++ varS f ++ varS m := by unfold showReq; rw [if_pos h]

set_option maxHeartbeats 1000000 in
theorem l23Ok_any (k f m : Int) (w : World) :
    Calls Try.prog 54 #[.agg #[.int .i64 k, .int .i64 f, .int .i64 m]] w fun e w' => e = .returned (.bool (reqOk k f m)) ∧ Ext w w' := by
  go_enter Try.func54, Try.ntmps54
  go_wp2_with (go_at_call 50; refine (l1In_any _ _ _ _).mono ?_; rintro e w' ⟨rfl, rfl⟩)
  all_goals
    go_ret
    exact ⟨ret_bool (by first | (simp [reqOk, *]; done) | (subst_vars; simp_all [reqOk]; done)), by (repeat (first | (with_reducible exact Ext.refl _) | (with_reducible assumption) | (with_reducible refine Ext.alloc ?_ _) | (with_reducible refine Ext.drew ?_) | (with_reducible refine Ext.drewN ?_ _) | ((with_reducible apply Ext.setCell); (case hp => first | omega | (simp; done) | (simp; omega))) | (with_reducible refine Ext.trans ?_ (by assumption))))⟩

set_option maxHeartbeats 1000000 in
theorem sShowReq_any (k f m : Int) (w : World) :
    Calls Try.prog 22 #[.agg #[.int .i64 k, .int .i64 f, .int .i64 m]] w fun e w' => e = .returned (.string (showReq k f m)) ∧ Ext w w' := by
  by_cases h : reqOk k f m = true
  · have HS := Lib.hid (show_yes h)
    have z1 := varS_size k; have z2 := varS_size f; have z3 := varS_size m
    have hsz : ¬ 9223372036854775807 < (varS k).size + (varS f).size := by omega
    have hsz2 : ¬ 9223372036854775807 < (varS k).size + (varS f).size + (varS m).size := by omega
    go_enter Try.func22, Try.ntmps22
    go_wp2_with fail
    (refine (l23Ok_any _ _ _ _).mono ?_); rintro e w1 ⟨rfl, hb⟩; (obtain ⟨B0, c0, f0, l0⟩ := Box.after (k := w.heap.size) hb (by (repeat (first | (with_reducible assumption) | ((with_reducible apply Box.new); (first | (with_reducible rfl) | (simp; done) | (simp; omega))) | (with_reducible apply Box.alloc) | (with_reducible apply Box.drew) | (with_reducible apply Box.drewN) | (with_reducible apply Box.set) | ((with_reducible apply Box.set_ne); (case hne => first | omega | (simp; done) | (simp; omega)))))))
    go_wp2_with fail
    go_region_held3 (fun w' => w'.cell? ⟨w.heap.size, 0, none⟩ = some (.int .i64 k) ∧ w'.cell? ⟨w.heap.size, 1, none⟩ = some (.int .i64 f) ∧ w'.cell? ⟨w.heap.size, 2, none⟩ = some (.int .i64 m)) ((first | go_keep | ((try dsimp only); (try go_split_ands); (repeat' apply And.intro) <;> exact hb.cellSome (by assumption))))
      ((go_at_call 55; refine (sVar_any _ _).mono ?_; rintro e w2 ⟨rfl, hb⟩))
    go_wp2
    go_ret
    exact ⟨ret_str HS.out, by (repeat (first | (with_reducible exact Ext.refl _) | (with_reducible assumption) | (with_reducible refine Ext.alloc ?_ _) | (with_reducible refine Ext.drew ?_) | (with_reducible refine Ext.drewN ?_ _) | ((with_reducible apply Ext.setCell); (case hp => first | omega | (simp; done) | (simp; omega))) | (with_reducible refine Ext.trans ?_ (by assumption))))⟩
  · replace h : reqOk k f m = false := by simpa using h
    have HS := Lib.hid (show_no h)
    go_enter Try.func22, Try.ntmps22
    go_wp2_with fail
    (refine (l23Ok_any _ _ _ _).mono ?_); rintro e w1 ⟨rfl, hb⟩; (obtain ⟨B0, c0, f0, l0⟩ := Box.after (k := w.heap.size) hb (by (repeat (first | (with_reducible assumption) | ((with_reducible apply Box.new); (first | (with_reducible rfl) | (simp; done) | (simp; omega))) | (with_reducible apply Box.alloc) | (with_reducible apply Box.drew) | (with_reducible apply Box.drewN) | (with_reducible apply Box.set) | ((with_reducible apply Box.set_ne); (case hne => first | omega | (simp; done) | (simp; omega)))))))
    go_wp2
    go_ret
    exact ⟨ret_str HS.out, by (repeat (first | (with_reducible exact Ext.refl _) | (with_reducible assumption) | (with_reducible refine Ext.alloc ?_ _) | (with_reducible refine Ext.drew ?_) | (with_reducible refine Ext.drewN ?_ _) | ((with_reducible apply Ext.setCell); (case hp => first | omega | (simp; done) | (simp; omega))) | (with_reducible refine Ext.trans ?_ (by assumption))))⟩

theorem req_1 {f m : Int} : reqOk 1 f m = (inB f 0 1000000 && inB m 0 0) := by
  have : inB m 0 0 = (inB m 0 100 && m == 0) := by simp only [inB]; rw [Bool.eq_iff_iff]; simp; omega
  rw [this]
  simp [reqOk, inB, Bool.and_assoc]
theorem req_2 {f m : Int} : reqOk 2 f m = (inB f 0 1000000 && inB m 0 100) := by simp [reqOk, inB]
theorem req_3 {f m : Int} : reqOk 3 f m = (inB f 0 0 && inB m 0 0) := by
  simp only [reqOk, inB]; rw [Bool.eq_iff_iff]; simp; omega
theorem req_no {k f m : Int} (h1 : k ≠ 1) (h2 : k ≠ 2) (h3 : k ≠ 3) : reqOk k f m = false := by
  have : inB k 1 3 = false := inB_false.2 (by omega)
  simp [reqOk, this]

set_option maxHeartbeats 4000000 in
theorem showReq_any (k f m : Int) (w : World) :
    Calls Try.prog 24 #[.agg #[.int .i64 k, .int .i64 f, .int .i64 m]] w fun e w' => e = .returned (.string (showReq k f m)) ∧ Ext w w' := by
  have z1 := varS_size k; have z2 := varS_size f; have z3 := varS_size m
  have hsz : ¬ 9223372036854775807 < (varS k).size + (varS f).size := by omega
  have hsz2 : ¬ 9223372036854775807 < (varS k).size + (varS f).size + (varS m).size := by omega
  by_cases k1 : k = 1
  · subst k1
    by_cases h : reqOk 1 f m = true
    · have HS := Lib.hid (show_yes h)
      rw [req_1] at h
      simp only [Bool.and_eq_true] at h
      obtain ⟨g1, g2⟩ := h
      go_enter Try.func24, Try.ntmps24
      go_wp2_with (go_at_call 52; refine (within_any _ _ _ _).mono ?_; rintro e w' ⟨rfl, rfl⟩)
      go_region_held3 (fun w' => w'.cell? ⟨w.heap.size, 0, none⟩ = some (.int .i64 1) ∧ w'.cell? ⟨w.heap.size, 1, none⟩ = some (.int .i64 f) ∧ w'.cell? ⟨w.heap.size, 2, none⟩ = some (.int .i64 m)) ((first | go_keep | ((try dsimp only); (try go_split_ands); (repeat' apply And.intro) <;> exact hb.cellSome (by assumption))))
        ((go_at_call 56; refine (var_any _ _).mono ?_; rintro e w2 ⟨rfl, hb⟩))
      go_wp2
      go_ret
      exact ⟨ret_str HS.out, by (repeat (first | (with_reducible exact Ext.refl _) | (with_reducible assumption) | (with_reducible refine Ext.alloc ?_ _) | (with_reducible refine Ext.drew ?_) | (with_reducible refine Ext.drewN ?_ _) | ((with_reducible apply Ext.setCell); (case hp => first | omega | (simp; done) | (simp; omega))) | (with_reducible refine Ext.trans ?_ (by assumption))))⟩
    · replace h : reqOk 1 f m = false := by simpa using h
      have HS := Lib.hid (show_no h)
      rw [req_1] at h
      by_cases g1 : inB f 0 1000000 = true
      · have g2 : inB m 0 0 = false := by simpa [g1] using h
        clear h
        go_enter Try.func24, Try.ntmps24
        go_wp2_with (go_at_call 52; refine (within_any _ _ _ _).mono ?_; rintro e w' ⟨rfl, rfl⟩)
        go_ret
        exact ⟨ret_str HS.out, by (repeat (first | (with_reducible exact Ext.refl _) | (with_reducible assumption) | (with_reducible refine Ext.alloc ?_ _) | (with_reducible refine Ext.drew ?_) | (with_reducible refine Ext.drewN ?_ _) | ((with_reducible apply Ext.setCell); (case hp => first | omega | (simp; done) | (simp; omega))) | (with_reducible refine Ext.trans ?_ (by assumption))))⟩
      · replace g1 : inB f 0 1000000 = false := by simpa using g1
        clear h
        go_enter Try.func24, Try.ntmps24
        go_wp2_with (go_at_call 52; refine (within_any _ _ _ _).mono ?_; rintro e w' ⟨rfl, rfl⟩)
        go_ret
        exact ⟨ret_str HS.out, by (repeat (first | (with_reducible exact Ext.refl _) | (with_reducible assumption) | (with_reducible refine Ext.alloc ?_ _) | (with_reducible refine Ext.drew ?_) | (with_reducible refine Ext.drewN ?_ _) | ((with_reducible apply Ext.setCell); (case hp => first | omega | (simp; done) | (simp; omega))) | (with_reducible refine Ext.trans ?_ (by assumption))))⟩
  by_cases k2 : k = 2
  · subst k2
    by_cases h : reqOk 2 f m = true
    · have HS := Lib.hid (show_yes h)
      rw [req_2] at h
      simp only [Bool.and_eq_true] at h
      obtain ⟨g1, g2⟩ := h
      go_enter Try.func24, Try.ntmps24
      go_wp2_with (go_at_call 52; refine (within_any _ _ _ _).mono ?_; rintro e w' ⟨rfl, rfl⟩)
      go_region_held3 (fun w' => w'.cell? ⟨w.heap.size, 0, none⟩ = some (.int .i64 2) ∧ w'.cell? ⟨w.heap.size, 1, none⟩ = some (.int .i64 f) ∧ w'.cell? ⟨w.heap.size, 2, none⟩ = some (.int .i64 m)) ((first | go_keep | ((try dsimp only); (try go_split_ands); (repeat' apply And.intro) <;> exact hb.cellSome (by assumption))))
        ((go_at_call 56; refine (var_any _ _).mono ?_; rintro e w2 ⟨rfl, hb⟩))
      go_wp2
      go_ret
      exact ⟨ret_str HS.out, by (repeat (first | (with_reducible exact Ext.refl _) | (with_reducible assumption) | (with_reducible refine Ext.alloc ?_ _) | (with_reducible refine Ext.drew ?_) | (with_reducible refine Ext.drewN ?_ _) | ((with_reducible apply Ext.setCell); (case hp => first | omega | (simp; done) | (simp; omega))) | (with_reducible refine Ext.trans ?_ (by assumption))))⟩
    · replace h : reqOk 2 f m = false := by simpa using h
      have HS := Lib.hid (show_no h)
      rw [req_2] at h
      by_cases g1 : inB f 0 1000000 = true
      · have g2 : inB m 0 100 = false := by simpa [g1] using h
        clear h
        go_enter Try.func24, Try.ntmps24
        go_wp2_with (go_at_call 52; refine (within_any _ _ _ _).mono ?_; rintro e w' ⟨rfl, rfl⟩)
        go_ret
        exact ⟨ret_str HS.out, by (repeat (first | (with_reducible exact Ext.refl _) | (with_reducible assumption) | (with_reducible refine Ext.alloc ?_ _) | (with_reducible refine Ext.drew ?_) | (with_reducible refine Ext.drewN ?_ _) | ((with_reducible apply Ext.setCell); (case hp => first | omega | (simp; done) | (simp; omega))) | (with_reducible refine Ext.trans ?_ (by assumption))))⟩
      · replace g1 : inB f 0 1000000 = false := by simpa using g1
        clear h
        go_enter Try.func24, Try.ntmps24
        go_wp2_with (go_at_call 52; refine (within_any _ _ _ _).mono ?_; rintro e w' ⟨rfl, rfl⟩)
        go_ret
        exact ⟨ret_str HS.out, by (repeat (first | (with_reducible exact Ext.refl _) | (with_reducible assumption) | (with_reducible refine Ext.alloc ?_ _) | (with_reducible refine Ext.drew ?_) | (with_reducible refine Ext.drewN ?_ _) | ((with_reducible apply Ext.setCell); (case hp => first | omega | (simp; done) | (simp; omega))) | (with_reducible refine Ext.trans ?_ (by assumption))))⟩
  by_cases k3 : k = 3
  · subst k3
    by_cases h : reqOk 3 f m = true
    · have HS := Lib.hid (show_yes h)
      rw [req_3] at h
      simp only [Bool.and_eq_true] at h
      obtain ⟨g1, g2⟩ := h
      go_enter Try.func24, Try.ntmps24
      go_wp2_with (go_at_call 52; refine (within_any _ _ _ _).mono ?_; rintro e w' ⟨rfl, rfl⟩)
      go_region_held3 (fun w' => w'.cell? ⟨w.heap.size, 0, none⟩ = some (.int .i64 3) ∧ w'.cell? ⟨w.heap.size, 1, none⟩ = some (.int .i64 f) ∧ w'.cell? ⟨w.heap.size, 2, none⟩ = some (.int .i64 m)) ((first | go_keep | ((try dsimp only); (try go_split_ands); (repeat' apply And.intro) <;> exact hb.cellSome (by assumption))))
        ((go_at_call 56; refine (var_any _ _).mono ?_; rintro e w2 ⟨rfl, hb⟩))
      go_wp2
      go_ret
      exact ⟨ret_str HS.out, by (repeat (first | (with_reducible exact Ext.refl _) | (with_reducible assumption) | (with_reducible refine Ext.alloc ?_ _) | (with_reducible refine Ext.drew ?_) | (with_reducible refine Ext.drewN ?_ _) | ((with_reducible apply Ext.setCell); (case hp => first | omega | (simp; done) | (simp; omega))) | (with_reducible refine Ext.trans ?_ (by assumption))))⟩
    · replace h : reqOk 3 f m = false := by simpa using h
      have HS := Lib.hid (show_no h)
      rw [req_3] at h
      by_cases g1 : inB f 0 0 = true
      · have g2 : inB m 0 0 = false := by simpa [g1] using h
        clear h
        go_enter Try.func24, Try.ntmps24
        go_wp2_with (go_at_call 52; refine (within_any _ _ _ _).mono ?_; rintro e w' ⟨rfl, rfl⟩)
        go_ret
        exact ⟨ret_str HS.out, by (repeat (first | (with_reducible exact Ext.refl _) | (with_reducible assumption) | (with_reducible refine Ext.alloc ?_ _) | (with_reducible refine Ext.drew ?_) | (with_reducible refine Ext.drewN ?_ _) | ((with_reducible apply Ext.setCell); (case hp => first | omega | (simp; done) | (simp; omega))) | (with_reducible refine Ext.trans ?_ (by assumption))))⟩
      · replace g1 : inB f 0 0 = false := by simpa using g1
        clear h
        go_enter Try.func24, Try.ntmps24
        go_wp2_with (go_at_call 52; refine (within_any _ _ _ _).mono ?_; rintro e w' ⟨rfl, rfl⟩)
        go_ret
        exact ⟨ret_str HS.out, by (repeat (first | (with_reducible exact Ext.refl _) | (with_reducible assumption) | (with_reducible refine Ext.alloc ?_ _) | (with_reducible refine Ext.drew ?_) | (with_reducible refine Ext.drewN ?_ _) | ((with_reducible apply Ext.setCell); (case hp => first | omega | (simp; done) | (simp; omega))) | (with_reducible refine Ext.trans ?_ (by assumption))))⟩
  have HS := Lib.hid (show_no (req_no (f := f) (m := m) k1 k2 k3))
  have e1 : (k == 1) = false := by simp [k1]
  have e2 : (k == 2) = false := by simp [k2]
  have e3 : (k == 3) = false := by simp [k3]
  clear k1 k2 k3
  go_enter Try.func24, Try.ntmps24
  go_wp2
  go_ret
  exact ⟨ret_str HS.out, by (repeat (first | (with_reducible exact Ext.refl _) | (with_reducible assumption) | (with_reducible refine Ext.alloc ?_ _) | (with_reducible refine Ext.drew ?_) | (with_reducible refine Ext.drewN ?_ _) | ((with_reducible apply Ext.setCell); (case hp => first | omega | (simp; done) | (simp; omega))) | (with_reducible refine Ext.trans ?_ (by assumption))))⟩

theorem toReq_any (k f m : Int) (w : World) :
    Calls Try.prog 23 #[.agg #[.int .i64 k, .int .i64 f, .int .i64 m]] w fun e w' => e = .returned (.agg #[.int .i64 k, .int .i64 f, .int .i64 m]) ∧ Ext w w' := by
  go_enter Try.func23, Try.ntmps23
  go_wp2
  exact bodyPost_ret (v := .agg #[.int .i64 k, .int .i64 f, .int .i64 m]) (by simp [results, Try.results23, go_sem]) rfl ⟨rfl, by (repeat (first | (with_reducible exact Ext.refl _) | (with_reducible assumption) | (with_reducible refine Ext.alloc ?_ _) | (with_reducible refine Ext.drew ?_) | (with_reducible refine Ext.drewN ?_ _) | ((with_reducible apply Ext.setCell); (case hp => first | omega | (simp; done) | (simp; omega))) | (with_reducible refine Ext.trans ?_ (by assumption))))⟩

set_option maxHeartbeats 1000000 in
theorem fnExactShowReq_any (k f m : Int) (w : World) :
    Calls Try.prog 6 #[.agg #[.int .i64 k, .int .i64 f, .int .i64 m]] w fun e w' => e = .returned (.bool true) ∧ Ext w w' := by
  go_enter Try.func6, Try.ntmps6
  go_wp2_with fail
  (refine (toReq_any _ _ _ _).mono ?_); rintro e w1 ⟨rfl, hb⟩; (obtain ⟨B0, c0, f0, l0⟩ := Box.after (k := w.heap.size) hb (by (repeat (first | (with_reducible assumption) | ((with_reducible apply Box.new); (first | (with_reducible rfl) | (simp; done) | (simp; omega))) | (with_reducible apply Box.alloc) | (with_reducible apply Box.drew) | (with_reducible apply Box.drewN) | (with_reducible apply Box.set) | ((with_reducible apply Box.set_ne); (case hne => first | omega | (simp; done) | (simp; omega)))))))
  go_wp2_with fail
  (refine (sShowReq_any _ _ _ _).mono ?_); rintro e w2 ⟨rfl, hb⟩; (obtain ⟨B0, c0, f0, l0⟩ := Box.after (k := w.heap.size) hb (by (repeat (first | (with_reducible assumption) | ((with_reducible apply Box.new); (first | (with_reducible rfl) | (simp; done) | (simp; omega))) | (with_reducible apply Box.alloc) | (with_reducible apply Box.drew) | (with_reducible apply Box.drewN) | (with_reducible apply Box.set) | ((with_reducible apply Box.set_ne); (case hne => first | omega | (simp; done) | (simp; omega)))))))
  go_wp2_with fail
  (refine (toReq_any _ _ _ _).mono ?_); rintro e w3 ⟨rfl, hb⟩; (obtain ⟨B0, c0, f0, l0⟩ := Box.after (k := w.heap.size) hb (by (repeat (first | (with_reducible assumption) | ((with_reducible apply Box.new); (first | (with_reducible rfl) | (simp; done) | (simp; omega))) | (with_reducible apply Box.alloc) | (with_reducible apply Box.drew) | (with_reducible apply Box.drewN) | (with_reducible apply Box.set) | ((with_reducible apply Box.set_ne); (case hne => first | omega | (simp; done) | (simp; omega)))))))
  go_wp2_with fail
  (refine (showReq_any _ _ _ _).mono ?_); rintro e w4 ⟨rfl, hb⟩; (obtain ⟨B0, c0, f0, l0⟩ := Box.after (k := w.heap.size) hb (by (repeat (first | (with_reducible assumption) | ((with_reducible apply Box.new); (first | (with_reducible rfl) | (simp; done) | (simp; omega))) | (with_reducible apply Box.alloc) | (with_reducible apply Box.drew) | (with_reducible apply Box.drewN) | (with_reducible apply Box.set) | ((with_reducible apply Box.set_ne); (case hne => first | omega | (simp; done) | (simp; omega)))))))
  go_wp2
  go_ret
  exact ⟨rfl, by (repeat (first | (with_reducible exact Ext.refl _) | (with_reducible assumption) | (with_reducible refine Ext.alloc ?_ _) | (with_reducible refine Ext.drew ?_) | (with_reducible refine Ext.drewN ?_ _) | ((with_reducible apply Ext.setCell); (case hp => first | omega | (simp; done) | (simp; omega))) | (with_reducible refine Ext.trans ?_ (by assumption))))⟩
end Go.Proofs.Ythnmiimckgphnaa

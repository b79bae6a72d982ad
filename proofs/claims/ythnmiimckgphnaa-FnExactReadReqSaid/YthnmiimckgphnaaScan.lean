/- The scanner's num: its walk. -/
import Derived.Test.YthnmiimckgphnaaReadVarW
namespace Go.Proofs.Ythnmiimckgphnaa
open Go.RowKit

/-- What num leaves: the number, the rest, whether something was bad. -/
def scanNum (s : ByteArray) (bad : Bool) : Int × ByteArray × Bool :=
  if bad || (readVar s.data.toList).2 == 0 then (0, s, true) else ((readVar s.data.toList).1, s.extract (readVar s.data.toList).2 s.size, false)
theorem scan_bad {s : ByteArray} {bad : Bool} (h : bad = true ∨ (readVar s.data.toList).2 = 0) : scanNum s bad = (0, s, true) := by
  unfold scanNum
  rcases h with h | h <;> simp [h]
theorem scan_ok {s : ByteArray} {k : Nat} (h : (readVar s.data.toList).2 = k) (hk : k ≠ 0) : scanNum s false = (((readVar s.data.toList).1 : Int), s.extract k s.size, false) := by
  unfold scanNum
  simp [h, hk]

set_option maxHeartbeats 1000000 in
theorem num_any (s : ByteArray) (bad : Bool) (b : Nat) (w : World) (hs : s.size ≤ maxLen) (hB : Box w b #[.string s, .bool bad]) :
    Calls Try.prog 63 #[.pointer (some ⟨b, 0, none⟩)] w fun e w' => e = .returned (.int .i64 (scanNum s bad).1) ∧ w.grownBy w' (some b) ∧ Box w' b #[.string (scanNum s bad).2.1, .bool (scanNum s bad).2.2] := by
  obtain ⟨v1, v2, v3⟩ := readVar_bd s.data.toList
  rw [bytes_len] at v3
  generalize e1 : readVar s.data.toList = rv at *
  obtain ⟨n, k⟩ := rv
  have E := Lib.hid e1
  clear e1
  simp only at v1 v2 v3
  obtain ⟨cB, fB, lB⟩ := hB.rules
  by_cases hbad : bad = true
  · subst hbad
    have HR := Lib.hid (scan_bad (s := s) (bad := true) (.inl rfl))
    go_enter Try.func63, Try.ntmps63
    go_wp2_with fail
    (refine (readVar_any s _ hs).mono ?_); rw [E.out]; rintro e w1 ⟨rfl, hb⟩; (obtain ⟨B0, c0, f0, l0⟩ := Box.after (k := b) hb (by (repeat (first | (with_reducible assumption) | ((with_reducible apply Box.new); (first | (with_reducible rfl) | (simp; done) | (simp; omega))) | (with_reducible apply Box.alloc) | (with_reducible apply Box.drew) | (with_reducible apply Box.drewN) | (with_reducible apply Box.set) | ((with_reducible apply Box.set_ne); (case hne => first | omega | (simp; done) | (simp; omega)))))))
    go_wp2
    go_ret
    exact ⟨ret_int (by rw [HR.out]), grownBy_set hb.toGrown _ _, by rw [HR.out]; simpa using B0.set (o := 1) (.bool true)⟩
  · obtain rfl : bad = false := by simpa using hbad
    by_cases hk : k = 0
    · subst hk
      have HR := Lib.hid (scan_bad (s := s) (bad := false) (.inr (by rw [E.out])))
      go_enter Try.func63, Try.ntmps63
      go_wp2_with fail
      (refine (readVar_any s _ hs).mono ?_); rw [E.out]; rintro e w1 ⟨rfl, hb⟩; (obtain ⟨B0, c0, f0, l0⟩ := Box.after (k := b) hb (by (repeat (first | (with_reducible assumption) | ((with_reducible apply Box.new); (first | (with_reducible rfl) | (simp; done) | (simp; omega))) | (with_reducible apply Box.alloc) | (with_reducible apply Box.drew) | (with_reducible apply Box.drewN) | (with_reducible apply Box.set) | ((with_reducible apply Box.set_ne); (case hne => first | omega | (simp; done) | (simp; omega)))))))
      go_wp2
      go_ret
      exact ⟨ret_int (by rw [HR.out]), grownBy_set hb.toGrown _ _, by rw [HR.out]; simpa using B0.set (o := 1) (.bool true)⟩
    · have HR : Hid (scanNum s false = ((n : Int), s.extract k s.size, false)) := by
        have := scan_ok (s := s) (k := k) (by rw [E.out]) hk
        rw [E.out] at this
        exact this
      have hk1 : ((k : Int) == 0) = false := by simp; omega
      have hk2 : (k : Int) ≤ (s.size : Int) := by omega
      have hk3 : (0 : Int) ≤ (k : Int) := by omega
      go_enter Try.func63, Try.ntmps63
      go_wp2_with fail
      (refine (readVar_any s _ hs).mono ?_); rw [E.out]; rintro e w1 ⟨rfl, hb⟩; (obtain ⟨B0, c0, f0, l0⟩ := Box.after (k := b) hb (by (repeat (first | (with_reducible assumption) | ((with_reducible apply Box.new); (first | (with_reducible rfl) | (simp; done) | (simp; omega))) | (with_reducible apply Box.alloc) | (with_reducible apply Box.drew) | (with_reducible apply Box.drewN) | (with_reducible apply Box.set) | ((with_reducible apply Box.set_ne); (case hne => first | omega | (simp; done) | (simp; omega)))))))
      go_wp2
      go_ret
      exact ⟨ret_int (by rw [HR.out]), grownBy_set hb.toGrown _ _, by rw [HR.out]; simpa using B0.set (o := 0) (.string (s.extract k s.size))⟩
theorem scan_size {s : ByteArray} {bad : Bool} : (scanNum s bad).2.1.size ≤ s.size := by
  unfold scanNum
  split
  · exact Nat.le_refl _
  · rw [ByteArray.size_extract]; omega
end Go.Proofs.Ythnmiimckgphnaa

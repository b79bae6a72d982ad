/- The bytes that a law draws from. -/
import Derived.Test.YthnmiimckgphnaaVar
import Derived.BigGuardPart
namespace Go.Proofs.Ythnmiimckgphnaa
open Go.RowKit

/-- What 'at' answers. -/
def atV (l : List UInt8) (i : Int) : Int := if i < l.length then ((l.getD i.toNat 0).toNat : Int) else (i * 37 + l.length * 11) % 256
theorem atV_bd (l : List UInt8) (i : Int) : 0 ≤ atV l i ∧ atV l i ≤ 255 := by
  unfold atV
  split
  · have := (l.getD i.toNat 0).toNat_lt
    omega
  · omega
def bigV (l : List UInt8) : Bool := decide (1048576 < l.length)

theorem big_any (o : Option Addr) (n c : Nat) (w : World) (hn : n ≤ maxLen) :
    Calls Try.prog 19 #[.slice o n c] w fun e w' => e = .returned (.bool (decide (1048576 < n))) ∧ w = w' := by
  replace hn : n ≤ 9223372036854775807 := by unfold maxLen at hn; omega
  go_enter Try.func19, Try.ntmps19
  go_wp2
  go_ret
  exact ⟨ret_bool (by rw [Bool.eq_iff_iff]; simp; try omega), rfl⟩

theorem at_any (v : Value) (l : List UInt8) (i : Int) (w : World) (hx : Sl encB 1 w v l) (hn : l.length ≤ 1048576) (h0 : 0 ≤ i) (h1 : i ≤ 1048576) :
    Calls Try.prog 20 #[v, .int .i64 i] w fun e w' => e = .returned (.int .i64 (atV l i)) ∧ w = w' := by
  obtain ⟨i, rfl⟩ := Int.eq_ofNat_of_zero_le h0
  by_cases hlt : i < l.length
  · rcases hx with ⟨o, c, rfl, rfl⟩ | ⟨b1, o1, c1, rfl, hp, _, _, hb1, hx⟩
    · simp at hlt
    · obtain ⟨x, hxk⟩ : ∃ x, l[i]? = some x := ⟨_, List.getElem?_eq_getElem hlt⟩
      have E : Hid (atV l i = (x.toNat : Int)) := by
        unfold Hid atV
        rw [if_pos (by omega)]
        simp [List.getD, hxk]
      have q10 := hx i x hxk 0 (by omega)
      simp [encB] at q10
      have hxb := x.toNat_lt
      have i1 : (i : Int) < (l.length : Int) := by omega
      clear hxk
      go_enter Try.func20, Try.ntmps20
      go_wp2
      go_ret
      exact ⟨ret_int E.out, rfl⟩
  · have E : Hid (atV l i = ((i : Int) * 37 + l.length * 11) % 256) := by
      unfold Hid atV
      rw [if_neg (by omega)]
    have hsz : ∃ o c, v = .slice o l.length c := by
      rcases hx with ⟨o, c, rfl, rfl⟩ | ⟨b1, o1, c1, rfl, _⟩
      · exact ⟨_, _, rfl⟩
      · exact ⟨_, _, rfl⟩
    obtain ⟨o, c, rfl⟩ := hsz
    have i1 : ¬ (i : Int) < (l.length : Int) := by omega
    go_enter Try.func20, Try.ntmps20
    go_wp2
    go_ret
    exact ⟨ret_int E.out, rfl⟩
end Go.Proofs.Ythnmiimckgphnaa

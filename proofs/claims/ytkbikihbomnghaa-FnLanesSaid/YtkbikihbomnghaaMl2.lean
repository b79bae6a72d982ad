/- Rows that wait in turn: how long a row waits, and in which order it is served (plain Lean). -/
import Derived.Test.YtkbikihbomnghaaMl
namespace Go.Proofs.Ytkbikihbomnghaa
set_option linter.unusedSimpArgs false
set_option linter.unusedVariables false
open Go.RowKit

theorem laneR_set_self {l : GLanes} {k : Nat} {r : List Int} {t : Int} (h : k < l.fRows.length) : laneR ⟨l.fRows.set k r, t⟩ k = r := by
  unfold laneR
  rw [List.getD_eq_getElem?_getD, List.getElem?_set_self h]
  rfl
theorem laneR_set_ne {l : GLanes} {k j : Nat} {r : List Int} {t : Int} (h : j ≠ k) : laneR ⟨l.fRows.set j r, t⟩ k = laneR l k := by
  unfold laneR
  rw [List.getD_eq_getElem?_getD, List.getElem?_set_ne h, List.getD_eq_getElem?_getD]
/-- What leaves row k at the next turn. -/
def popd (y : GLanes × Int × Int) (k : Nat) : List Int := if y.2.1 = (k : Int) then [y.2.2] else []
theorem pop_lane {l : GLanes} {i k : Nat} (h : laneK l = some i) : popd (lanesNext l) k ++ laneR (lanesNext l).1 k = laneR l k := by
  obtain ⟨x, r, hr⟩ := laneK_row h
  have hj := (List.getElem?_eq_some_iff.1 hr).1
  rw [next_some h hr]
  unfold popd
  by_cases e : laneAt l i = k
  · subst e
    rw [if_pos rfl, laneR_set_self hj, laneR_get hr]
    rfl
  · rw [if_neg (by simp only; omega), laneR_set_ne e, List.nil_append]
theorem add_mod' {a b n : Nat} : (a % n + b) % n = (a + b) % n := by rw [Nat.add_mod, Nat.mod_mod, ← Nat.add_mod]
theorem wait_bound : ∀ (m : Nat) (l : GLanes) (k d : Nat), total l.fRows = m → lanesOk l = true → k < l.fRows.length → d < l.fRows.length → laneAt l d = k → laneR l k ≠ [] →
    waitN l k ≤ ((laneR l k).length - 1) * l.fRows.length + d + 1 := by
  intro m
  induction m with
  | zero =>
    intro l k d hm ok hk hd hat hne
    obtain ⟨i, hi⟩ := next_found ok hk hne
    have := next_total hi
    omega
  | succ m ih =>
    intro l k d hm ok hk hd hat hne
    obtain ⟨i, hi⟩ := next_found ok hk hne
    have ht := next_total hi
    have okn := lanesOk_next ok
    have hln := next_len l
    obtain ⟨hi1, hi2, hi3⟩ := laneK_spec hi
    have hid : i ≤ d := by
      rcases Nat.lt_or_ge d i with q | q
      · have := hi3 d q
        rw [hat] at this
        exact absurd this hne
      · exact q
    have hp := pop_lane (k := k) hi
    rw [waitN_step ok hk hne]
    obtain ⟨x, r, hr⟩ := laneK_row hi
    have hn := next_some hi hr
    have turn : (lanesNext l).1.fTurn = (((laneAt l i + 1) % l.fRows.length : Nat) : Int) := by rw [hn]
    have at' : ∀ e, laneAt (lanesNext l).1 e = (l.fTurn.toNat + i + 1 + e) % l.fRows.length := fun e => by
      unfold laneAt
      rw [hln, turn, Int.toNat_natCast, add_mod']
      unfold laneAt
      rw [show (l.fTurn.toNat + i) % l.fRows.length + 1 + e = (l.fTurn.toNat + i) % l.fRows.length + (1 + e) by omega, add_mod', show l.fTurn.toNat + i + (1 + e) = l.fTurn.toNat + i + 1 + e by omega]
    by_cases e : laneAt l i = k
    · have hpop : popd (lanesNext l) k = [x] := by rw [hn]; unfold popd; rw [if_pos (by simp only [e])]
      rw [hpop] at hp
      have hlen : (laneR (lanesNext l).1 k).length + 1 = (laneR l k).length := by rw [← hp]; simp
      by_cases h0 : laneR (lanesNext l).1 k = []
      · rw [waitN_empty h0]; omega
      · have h1 := ih (lanesNext l).1 k (l.fRows.length - 1) (by omega) okn (by omega) (by omega) (by
          rw [at', show l.fTurn.toNat + i + 1 + (l.fRows.length - 1) = l.fTurn.toNat + i + l.fRows.length by omega, Nat.add_mod_right]
          exact e) h0
        rw [hln] at h1
        have hpos : 0 < (laneR (lanesNext l).1 k).length := List.length_pos_iff.2 h0
        obtain ⟨c, hc⟩ : ∃ c, (laneR (lanesNext l).1 k).length = c + 1 := ⟨(laneR (lanesNext l).1 k).length - 1, by omega⟩
        rw [hc, Nat.add_sub_cancel] at h1
        rw [show (laneR l k).length - 1 = c + 1 by omega, Nat.add_mul, Nat.one_mul]
        omega
    · have hlt : i < d := by
        rcases Nat.lt_or_ge i d with q | q
        · exact q
        · have : i = d := by omega
          subst this
          exact absurd hat e
      have hpop : popd (lanesNext l) k = [] := by rw [hn]; unfold popd; rw [if_neg (by simp only; omega)]
      rw [hpop, List.nil_append] at hp
      have h1 := ih (lanesNext l).1 k (d - i - 1) (by omega) okn (by omega) (by omega) (by
        rw [at', show l.fTurn.toNat + i + 1 + (d - i - 1) = l.fTurn.toNat + d by omega]
        exact hat) (by rw [hp]; exact hne)
      rw [hp, hln] at h1
      omega
theorem wait_le {l : GLanes} {k : Nat} (ok : lanesOk l = true) (hk : k < l.fRows.length) : waitN l k ≤ (laneR l k).length * l.fRows.length := by
  by_cases hne : laneR l k = []
  · rw [waitN_empty hne]; omega
  · obtain ⟨d, h1, h2⟩ := lane_dist ok hk
    have := wait_bound _ l k d rfl ok hk h1 h2 hne
    have hpos : 0 < (laneR l k).length := List.length_pos_iff.2 hne
    obtain ⟨c, hc⟩ : ∃ c, (laneR l k).length = c + 1 := ⟨(laneR l k).length - 1, by omega⟩
    rw [hc, Nat.add_sub_cancel] at this
    rw [hc, Nat.add_mul, Nat.one_mul]
    omega
theorem wait_ne {l : GLanes} {k : Nat} (h : 0 < waitN l k) : laneR l k ≠ [] := fun e => by rw [waitN_empty e] at h; omega
theorem wait_end {l : GLanes} (ok : lanesOk l = true) {k : Nat} (hk : k < l.fRows.length) (h : waitN l k = 0) : laneR l k = [] := by
  by_cases e : laneR l k = []
  · exact e
  · have := waitN_step ok hk e
    omega
theorem wait_bad {l : GLanes} {lane : Int} (h : lanesOk l = false ∨ lane < 0 ∨ (l.fRows.length : Int) ≤ lane) : lanesWait l lane = 0 := by
  unfold lanesWait
  rw [if_neg]
  intro q
  rw [Bool.and_eq_true, inB_iff] at q
  rcases h with h | h | h
  · rw [h] at q; exact absurd q.1 (by simp)
  · omega
  · omega
theorem wait_good {l : GLanes} {k : Nat} (ok : lanesOk l = true) (hk : k < l.fRows.length) : lanesWait l k = (waitN l k : Int) := by
  unfold lanesWait
  rw [if_pos (by rw [Bool.and_eq_true, inB_iff]; exact ⟨ok, by omega, by omega⟩), Int.toNat_natCast]
end Go.Proofs.Ytkbikihbomnghaa

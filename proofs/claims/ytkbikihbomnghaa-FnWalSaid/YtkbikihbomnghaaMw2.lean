/- A write-ahead log: what is read of it. -/
import Derived.Test.YtkbikihbomnghaaMw
namespace Go.Proofs.Ytkbikihbomnghaa
open Go.RowKit

theorem ex_ex (s : ByteArray) (i j k l : Nat) : (s.extract i j).extract k l = s.extract (i + k) (min (i + l) j) := by
  apply ByteArray.ext
  rw [ByteArray.data_extract, ByteArray.data_extract, ByteArray.data_extract, Array.extract_extract]
theorem ex_self (s : ByteArray) {n : Nat} (h : s.size ≤ n) : s.extract 0 n = s := by
  apply ByteArray.ext
  rw [ByteArray.data_extract]
  exact Array.extract_eq_self_of_le h
theorem ex_app_left (a b : ByteArray) {n : Nat} (h : n ≤ a.size) : (a ++ b).extract 0 n = a.extract 0 n := by
  apply ByteArray.ext
  rw [ByteArray.data_extract, ByteArray.data_extract, ByteArray.data_append]
  apply Array.toList_inj.1
  simp only [Array.toList_extract, Array.toList_append, List.extract, List.drop_zero, Nat.sub_zero]
  rw [List.take_append_of_le_length h]
theorem list_app (a b : ByteArray) : (a ++ b).data.toList = a.data.toList ++ b.data.toList := by rw [ByteArray.data_append, Array.toList_append]
theorem list_ex (a : ByteArray) (i j : Nat) : (a.extract i j).data.toList = (a.data.toList.drop i).take (j - i) := by rw [ByteArray.data_extract, Array.toList_extract]
theorem ba_ext {a b : ByteArray} (h : a.data.toList = b.data.toList) : a = b := ByteArray.ext (Array.toList_inj.1 h)
theorem list_len (a : ByteArray) : a.data.toList.length = a.size := rfl
theorem takeM_none {s : ByteArray} {a : Nat} (h : (readVar (s.data.toList.drop a)).2 = 0) : takeM s a = (⟨#[]⟩, -1) := by unfold takeM; rw [if_pos h]
theorem takeM_far {s : ByteArray} {a : Nat} (h : s.size ≤ a) : takeM s a = (⟨#[]⟩, -1) := takeM_none (by rw [List.drop_eq_nil_of_le (by rw [list_len]; exact h)]; rfl)
theorem takeM_some {s : ByteArray} {a v k : Nat} (h : readVar (s.data.toList.drop a) = (v, k)) (hk : k ≠ 0) (hl : a + k + v ≤ s.size) : takeM s a = (s.extract (a + k) (a + k + v), ((a + k + v : Nat) : Int)) := by
  unfold takeM
  rw [h]
  dsimp only
  rw [if_neg hk, if_neg (by omega)]
theorem takeM_short {s : ByteArray} {a v k : Nat} (h : readVar (s.data.toList.drop a) = (v, k)) (hl : s.size < a + k + v) : takeM s a = (⟨#[]⟩, -1) := by
  unfold takeM
  rw [h]
  dsimp only
  split
  · rfl
  · first | rfl | rw [if_pos hl]
theorem walAt_none {log : ByteArray} {a : Nat} (h : takeM log (a + 4) = (⟨#[]⟩, -1)) : walAt log a = none := by
  unfold walAt
  rw [h]
  rfl
theorem walAt_far {log : ByteArray} {a : Nat} (h : log.size ≤ a + 4) : walAt log a = none := walAt_none (takeM_far h)
/-- What the other program asks of a log that is cut off ahead. -/
def walHd (L : ByteArray) : Option ByteArray :=
  if L.size < 5 then none else
  if (scanText (L.extract 4 L.size) false).2.2 then none else if 60 < (scanText (L.extract 4 L.size) false).1.size then none else
  if L.size < (recB (scanText (L.extract 4 L.size) false).1).size then none else
  if eqB (L.extract 0 (recB (scanText (L.extract 4 L.size) false).1).size) (recB (scanText (L.extract 4 L.size) false).1) then some (scanText (L.extract 4 L.size) false).1 else none
set_option maxHeartbeats 1000000 in
theorem walHd_eq {log : ByteArray} {a : Nat} (ha : a ≤ log.size) : walHd (log.extract a log.size) = (walAt log a).map Prod.fst ∧ ∀ s e, walAt log a = some (s, e) → e = a + (recB s).size ∧ s.size ≤ 60 := by
  have hz : (log.extract a log.size).size = log.size - a := by rw [ByteArray.size_extract]; omega
  unfold walHd
  rw [hz]
  by_cases h5 : log.size - a < 5
  · rw [if_pos h5, walAt_far (by omega)]
    exact ⟨rfl, fun s e h => by simp at h⟩
  rw [if_neg h5]
  have h4 : (log.extract a log.size).extract 4 (log.size - a) = log.extract (a + 4) log.size := by
    rw [ex_ex]; congr 1; omega
  rw [h4]
  have hD := bytes_drop log (a + 4)
  have hz4 : (log.extract (a + 4) log.size).size = log.size - (a + 4) := by rw [ByteArray.size_extract]; omega
  by_cases hk : (readVar (log.data.toList.drop (a + 4))).2 = 0
  · have h1 : scanNum (log.extract (a + 4) log.size) false = (0, log.extract (a + 4) log.size, true) := scan_bad (.inr (by rw [hD]; exact hk))
    have h2 : (scanText (log.extract (a + 4) log.size) false).2.2 = true := by
      unfold scanText; rw [h1]; unfold scanCut; rw [if_pos (by simp)]
    rw [if_pos h2, walAt_none (takeM_none hk)]
    exact ⟨rfl, fun s e h => by simp at h⟩
  have hln := readVar_len hk
  have hk' : (readVar (log.extract (a + 4) log.size).data.toList).2 ≠ 0 := by rw [hD]; exact hk
  have h1 := scan_ok hk'
  rw [hD] at h1
  obtain ⟨b1, b2, b3⟩ := readVar_bd (log.data.toList.drop (a + 4))
  rw [List.length_drop, list_len] at b3
  obtain ⟨v, k, hrv⟩ : ∃ v k, readVar (log.data.toList.drop (a + 4)) = (v, k) := ⟨_, _, rfl⟩
  rw [hrv] at h1 hk hln b1 b2 b3
  dsimp only at h1 hk hln b1 b2 b3
  have hrest : (log.extract (a + 4) log.size).extract k (log.extract (a + 4) log.size).size = log.extract (a + 4 + k) log.size := by
    rw [hz4, ex_ex]; congr 1; omega
  rw [hrest] at h1
  have hzr : (log.extract (a + 4 + k) log.size).size = log.size - (a + 4 + k) := by rw [ByteArray.size_extract]; omega
  by_cases hv : log.size < a + 4 + k + v
  · have h2 : (scanText (log.extract (a + 4) log.size) false).2.2 = true := by
      unfold scanText; rw [h1]; unfold scanCut
      rw [if_pos (by rw [inB_false.2 (by rw [hzr]; omega)]; rfl)]
    rw [if_pos h2, walAt_none (takeM_short hrv hv)]
    exact ⟨rfl, fun s e h => by simp at h⟩
  have hin : inB (v : Int) 0 (log.extract (a + 4 + k) log.size).size = true := inB_iff.2 (by rw [hzr]; omega)
  have hsc : scanText (log.extract (a + 4) log.size) false = (log.extract (a + 4 + k) (a + 4 + k + v), (log.extract (a + 4 + k) log.size).extract v (log.extract (a + 4 + k) log.size).size, false) := by
    unfold scanText; rw [h1]; unfold scanCut; dsimp only
    rw [hin, if_neg (by simp)]
    rw [Int.toNat_natCast, ex_ex, show min (a + 4 + k + v) log.size = a + 4 + k + v by omega]
    rfl
  rw [hsc]
  dsimp only
  rw [if_neg (by simp)]
  have htk := takeM_some hrv hk (show a + 4 + k + v ≤ log.size by omega)
  have hzt : (log.extract (a + 4 + k) (a + 4 + k + v)).size = v := by rw [ByteArray.size_extract]; omega
  have hrec : (recB (log.extract (a + 4 + k) (a + 4 + k + v))).size = 4 + k + v := by
    unfold recB sizedS
    rw [ByteArray.size_append, ByteArray.size_append, fx_size, hzt, hln]
    omega
  have hex : (log.extract a log.size).extract 0 (4 + k + v) = log.extract a (a + 4 + k + v) := by
    rw [ex_ex]; congr 1; omega
  unfold walAt
  rw [htk]
  dsimp only
  rw [if_neg (by omega : ¬ ((a + 4 + k + v : Nat) : Int) < 0), hrec, hex, Int.toNat_natCast]
  rw [hzt]
  by_cases h60 : 60 < v
  · rw [if_pos h60, if_pos h60]
    exact ⟨rfl, fun s e h => by simp at h⟩
  rw [if_neg h60, if_neg h60, if_neg (by omega : ¬ log.size - a < 4 + k + v), eqB_comm]
  cases eqB (recB (log.extract (a + 4 + k) (a + 4 + k + v))) (log.extract a (a + 4 + k + v)) with
  | false => exact ⟨rfl, fun s e h => by simp at h⟩
  | true =>
    refine ⟨rfl, fun s e h => ?_⟩
    simp only [if_true, Option.some.injEq, Prod.mk.injEq] at h
    obtain ⟨rfl, rfl⟩ := h
    rw [hrec, hzt]
    omega
end Go.Proofs.Ytkbikihbomnghaa

/- A write-ahead log: records that stand one behind the other, cut off anywhere. -/
import Derived.Test.YtkbikihbomnghaaMw2
namespace Go.Proofs.Ytkbikihbomnghaa
open Go.RowKit

theorem recB_list {s : ByteArray} (h : s.size < 128) : (recB s).data.toList = (fx (crcM (sizedS s)).toNat 4).data.toList ++ UInt8.ofNat s.size :: s.data.toList := by
  have e : sizedS s = ⟨#[UInt8.ofNat s.size]⟩ ++ s := by unfold sizedS; rw [varS_small h]
  unfold recB
  rw [list_app, e, list_app]
  rfl
theorem drop_app (A B : ByteArray) (n : Nat) : (A ++ B).data.toList.drop (A.size + n) = B.data.toList.drop n := by
  rw [list_app, ← list_len A, List.drop_append, List.drop_eq_nil_of_le (by omega), List.nil_append]
  congr 1
  omega
theorem ex_right (A B : ByteArray) (n m : Nat) : (A ++ B).extract (A.size + n) (A.size + m) = B.extract n m := by
  apply ba_ext
  rw [list_ex, list_ex, drop_app]
  congr 1
  omega
/-- A record that stands whole is read. -/
theorem walAt_rec {A B s : ByteArray} (h : s.size ≤ 60) : walAt (A ++ (recB s ++ B)) A.size = some (s, A.size + (recB s).size) := by
  have hz := recB_size (s := s) (by omega)
  have hL : (A ++ (recB s ++ B)).size = A.size + 5 + s.size + B.size := by rw [ByteArray.size_append, ByteArray.size_append, hz]; omega
  have h4 : (fx (crcM (sizedS s)).toNat 4).data.toList.length = 4 := (list_len _).trans (fx_size _ _)
  have hd : (A ++ (recB s ++ B)).data.toList.drop (A.size + 4) = UInt8.ofNat s.size :: (s.data.toList ++ B.data.toList) := by
    rw [drop_app, list_app, recB_list (by omega), List.append_assoc]
    rw [List.drop_append, List.drop_eq_nil_of_le (by omega), h4]
    simp
  have hb : (UInt8.ofNat s.size).toNat = s.size := by simp; omega
  have hr := readVar_small (b := UInt8.ofNat s.size) (r := s.data.toList ++ B.data.toList) (by omega)
  rw [← hd, hb] at hr
  have ht := takeM_some hr (by omega) (by omega)
  have e1 : (A ++ (recB s ++ B)).extract (A.size + 4 + 1) (A.size + 4 + 1 + s.size) = s := by
    rw [Nat.add_assoc, Nat.add_assoc, ex_right]
    apply ba_ext
    rw [list_ex, list_app, recB_list (by omega), List.append_assoc]
    rw [List.drop_append, List.drop_eq_nil_of_le (by omega), h4]
    simp [list_len]
  have e2 : (A ++ (recB s ++ B)).extract A.size (A.size + 4 + 1 + s.size) = recB s := by
    have := ex_right A (recB s ++ B) 0 (4 + 1 + s.size)
    rw [show A.size + 4 + 1 + s.size = A.size + (4 + 1 + s.size) by omega]
    rw [Nat.add_zero] at this
    rw [this, ex_app_left _ _ (by omega), ex_self _ (by omega)]
  unfold walAt
  rw [ht]
  dsimp only
  rw [if_neg (by omega), e1, if_neg (by omega), Int.toNat_natCast, e2, if_pos (eqB_iff.2 rfl)]
  congr 2
  omega
/-- A record that is cut off is not read. -/
theorem walAt_cut {A s : ByteArray} (h : s.size ≤ 60) {j : Nat} (hj : j < (recB s).size) : walAt (A ++ (recB s).extract 0 j) A.size = none := by
  have hz := recB_size (s := s) (by omega)
  have hL : (A ++ (recB s).extract 0 j).size = A.size + j := by rw [ByteArray.size_append, ByteArray.size_extract]; omega
  by_cases h5 : j ≤ 4
  · exact walAt_far (by omega)
  have h4 : (fx (crcM (sizedS s)).toNat 4).data.toList.length = 4 := (list_len _).trans (fx_size _ _)
  have hd : ∃ r, (A ++ (recB s).extract 0 j).data.toList.drop (A.size + 4) = UInt8.ofNat s.size :: r := by
    rw [drop_app, list_ex, recB_list (by omega), List.drop_zero, Nat.sub_zero, List.drop_take]
    rw [List.drop_append, List.drop_eq_nil_of_le (by omega), h4]
    obtain ⟨m, hm⟩ : ∃ m, j - 4 = m + 1 := ⟨j - 5, by omega⟩
    rw [hm]
    exact ⟨_, by simp; rfl⟩
  obtain ⟨r, hd⟩ := hd
  have hb : (UInt8.ofNat s.size).toNat = s.size := by simp; omega
  have hr := readVar_small (b := UInt8.ofNat s.size) (r := r) (by omega)
  rw [← hd, hb] at hr
  exact walAt_none (takeM_short hr (by omega))
def catR : List ByteArray → ByteArray
  | [] => ⟨#[]⟩
  | s :: r => recB s ++ catR r
theorem app_nil (A : ByteArray) : A ++ ⟨#[]⟩ = A := by apply ba_ext; rw [list_app]; simp
theorem nil_app (A : ByteArray) : (⟨#[]⟩ : ByteArray) ++ A = A := by apply ba_ext; rw [list_app]; simp
theorem catR_app : ∀ (a b : List ByteArray), catR (a ++ b) = catR a ++ catR b
  | [], b => by rw [List.nil_append, catR, nil_app]
  | s :: a, b => by rw [List.cons_append, catR, catR, catR_app a b, ByteArray.append_assoc]
theorem catR_one (s : ByteArray) : catR [s] = recB s := by rw [catR, catR, app_nil]
theorem walGo_cat : ∀ (recs : List ByteArray) (A T : ByteArray) (f : Nat), (∀ s ∈ recs, s.size ≤ 60) → recs.length < f → walAt (A ++ (catR recs ++ T)) (A.size + (catR recs).size) = none → walGo (A ++ (catR recs ++ T)) f A.size = (recs, A.size + (catR recs).size)
  | [], A, T, f + 1, _, _, hn => by
    have e : (catR []).size = 0 := rfl
    rw [e, Nat.add_zero] at hn ⊢
    rw [walGo, hn]
    rfl
  | s :: r, A, T, f + 1, hs, hf, hn => by
    have e : A ++ (catR (s :: r) ++ T) = A ++ (recB s ++ (catR r ++ T)) := by rw [catR, ByteArray.append_assoc]
    have e2 : A ++ (recB s ++ (catR r ++ T)) = (A ++ recB s) ++ (catR r ++ T) := by rw [ByteArray.append_assoc]
    have ez : (A ++ recB s).size = A.size + (recB s).size := by rw [ByteArray.size_append]
    have ez2 : (catR (s :: r)).size = (recB s).size + (catR r).size := by rw [catR, ByteArray.size_append]
    have ih := walGo_cat r (A ++ recB s) T f (fun x hx => hs x (List.mem_cons_of_mem _ hx)) (by simp at hf; omega) (by rw [← e2, ← e, ez, Nat.add_assoc, ← ez2]; exact hn)
    rw [e, walGo, walAt_rec (hs s (List.mem_cons_self ..))]
    dsimp only
    rw [e2, ← ez, ih, ez, ez2]
    congr 1
    omega
theorem catR_len : ∀ (recs : List ByteArray), recs.length ≤ (catR recs).size
  | [] => Nat.zero_le _
  | s :: r => by
    have := catR_len r
    have e : 4 ≤ (recB s).size := by unfold recB; rw [ByteArray.size_append, fx_size]; omega
    rw [catR, ByteArray.size_append, List.length_cons]
    omega
/-- A whole log. -/
theorem walScan_cat {recs : List ByteArray} (hs : ∀ s ∈ recs, s.size ≤ 60) : walScan (catR recs) = (recs, (catR recs).size) := by
  have h := walGo_cat recs ⟨#[]⟩ ⟨#[]⟩ ((catR recs).size + 1) hs (by have := catR_len recs; omega) (walAt_far (by
    rw [nil_app, app_nil]; show (catR recs).size ≤ 0 + _ + 4; omega))
  rw [nil_app, app_nil] at h
  unfold walScan
  have e : (⟨#[]⟩ : ByteArray).size = 0 := rfl
  rw [e, Nat.zero_add] at h
  exact h
/-- A log that is cut off: whole records, and part of one. -/
theorem cat_cut : ∀ (recs : List ByteArray) (k : Nat), k ≤ (catR recs).size → ∃ j, j ≤ recs.length ∧ ∃ T, (catR recs).extract 0 k = catR (recs.take j) ++ T ∧ (T = ⟨#[]⟩ ∨ ∃ s m, s ∈ recs ∧ m < (recB s).size ∧ T = (recB s).extract 0 m)
  | [], k, hk => ⟨0, Nat.le_refl _, ⟨#[]⟩, by
      have e : (catR []).size = 0 := rfl
      rw [e] at hk
      obtain rfl : k = 0 := by omega
      rfl, .inl rfl⟩
  | s :: r, k, hk => by
    have ez2 : (catR (s :: r)).size = (recB s).size + (catR r).size := by rw [catR, ByteArray.size_append]
    by_cases h : k < (recB s).size
    · refine ⟨0, Nat.zero_le _, (recB s).extract 0 k, ?_, .inr ⟨s, k, List.mem_cons_self .., h, rfl⟩⟩
      rw [catR, ex_app_left _ _ (by omega), List.take_zero, catR, nil_app]
    · obtain ⟨j, hj, T, h1, h2⟩ := cat_cut r (k - (recB s).size) (by omega)
      refine ⟨j + 1, by simp; omega, T, ?_, ?_⟩
      · rw [List.take_succ_cons, catR, catR, ByteArray.append_assoc, ← h1]
        apply ba_ext
        rw [list_app, list_ex, list_ex, list_app]
        simp only [List.drop_zero, Nat.sub_zero]
        rw [List.take_append, list_len, List.take_of_length_le (by rw [list_len]; omega)]
      · rcases h2 with h2 | ⟨x, m, hx, hm, h2⟩
        · exact .inl h2
        · exact .inr ⟨x, m, List.mem_cons_of_mem _ hx, hm, h2⟩
theorem walScan_cut {recs : List ByteArray} (hs : ∀ s ∈ recs, s.size ≤ 60) {k : Nat} (hk : k ≤ (catR recs).size) :
    ∃ j, j ≤ recs.length ∧ (catR (recs.take j)).size ≤ k ∧ walScan ((catR recs).extract 0 k) = (recs.take j, (catR (recs.take j)).size) ∧ ((catR recs).extract 0 k).extract 0 (catR (recs.take j)).size = catR (recs.take j) := by
  obtain ⟨j, hj, T, h1, h2⟩ := cat_cut recs k hk
  have hz : ((catR recs).extract 0 k).size = k := by rw [ByteArray.size_extract]; omega
  have hsz : (catR (recs.take j)).size + T.size = k := by rw [← ByteArray.size_append, ← h1, hz]
  refine ⟨j, hj, by omega, ?_, ?_⟩
  · have hn : walAt (⟨#[]⟩ ++ (catR (recs.take j) ++ T)) ((⟨#[]⟩ : ByteArray).size + (catR (recs.take j)).size) = none := by
      have e : (⟨#[]⟩ : ByteArray).size = 0 := rfl
      rw [nil_app, e, Nat.zero_add]
      rcases h2 with rfl | ⟨s, m, hx, hm, rfl⟩
      · exact walAt_far (by rw [app_nil]; omega)
      · exact walAt_cut (hs s hx) hm
    have h := walGo_cat (recs.take j) ⟨#[]⟩ T (k + 1) (fun s h => hs s (List.mem_of_mem_take h)) (by have := catR_len (recs.take j); omega) hn
    have e : (⟨#[]⟩ : ByteArray).size = 0 := rfl
    rw [nil_app, ← h1, e, Nat.zero_add] at h
    unfold walScan
    rw [hz]
    exact h
  · rw [h1, ex_app_left _ _ (Nat.le_refl _), ex_self _ (Nat.le_refl _)]
end Go.Proofs.Ytkbikihbomnghaa

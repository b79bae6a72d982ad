/- l6Vars: its walk. -/
import Derived.Test.YthnmiimckgphnaaReadVarW
namespace Go.Proofs.Ythnmiimckgphnaa
open Go.RowKit

/-- n numbers, one behind the other, from a place on; and where they end. -/
def varsM (l : List UInt8) : Nat → Nat → Option (List Nat × Nat)
  | 0, a => some ([], a)
  | n + 1, a => if (readVar (l.drop a)).2 = 0 then none else (varsM l n (a + (readVar (l.drop a)).2)).map fun r => ((readVar (l.drop a)).1 :: r.1, r.2)
theorem vars_none {l : List UInt8} {n a : Nat} (h : (readVar (l.drop a)).2 = 0) : varsM l (n + 1) a = none := by rw [varsM, if_pos h]
theorem vars_some {l : List UInt8} {n a : Nat} (h : (readVar (l.drop a)).2 ≠ 0) : varsM l (n + 1) a = (varsM l n (a + (readVar (l.drop a)).2)).map fun r => ((readVar (l.drop a)).1 :: r.1, r.2) := by rw [varsM, if_neg h]
def encN (n : Nat) : List Value := [.int .i64 n]
theorem encN_len (x : Nat) : (encN x).length = 1 := rfl
theorem infoI : (Try.prog.info? 3).map (fun i => (i.zero, i.size, i.bytes)) = some (some (.int .i64 0), 1, 8) := by kernel_rfl
theorem bytes_drop (s : ByteArray) (a : Nat) : (s.extract a s.size).data.toList = s.data.toList.drop a := by
  have h : s.data.toList.length = s.size := bytes_len s
  have e : (s.extract a s.size).data = s.data.extract a s.size := ByteArray.data_extract
  rw [e, Array.toList_extract, List.extract, ← h, ← List.length_drop, List.take_length]
/-- What l6Vars answers. -/
def VarsPost (w : World) (r : Option (List Nat × Nat)) (e : Ending) (w' : World) : Prop :=
  ∃ v, Ext w w' ∧ match r with
    | none => e = .returned (.tuple #[v, .int .i64 (-1)])
    | some (xs, a) => e = .returned (.tuple #[v, .int .i64 a]) ∧ w'.ownsRow w.heap.size 3 1 v xs.length (xs.flatMap encN)

theorem vars_post_none {w w' : World} {r : Option (List Nat × Nat)} {v : Value} (h : r = none) (hE : Ext w w') : VarsPost w r (.returned (.tuple #[v, .int .i64 (-1)])) w' := by
  subst h
  exact ⟨v, hE, rfl⟩
theorem vars_post_some {w w' : World} {r : Option (List Nat × Nat)} {v : Value} {xs : List Nat} {a : Nat} (h : r = some (xs, a)) (hE : Ext w w') (hO : w'.ownsRow w.heap.size 3 1 v xs.length (xs.flatMap encN)) : VarsPost w r (.returned (.tuple #[v, .int .i64 a])) w' := by
  subst h
  exact ⟨v, hE, rfl, hO⟩

set_option maxRecDepth 100000 in
set_option maxHeartbeats 4000000 in
theorem l6Vars_any (s : ByteArray) (a0 n : Nat) (w : World) (hs : s.size ≤ maxLen) (ha : a0 ≤ s.size) (hn : n ≤ 1000) :
    Calls Try.prog 62 #[.string s, .int .i64 a0, .int .i64 n] w (VarsPost w (varsM s.data.toList n a0)) := by
  have HS := Lib.hid hs
  replace hs : s.size ≤ 9223372036854775807 := by unfold maxLen at hs; omega
  obtain ⟨i0, hi, hz0, hz1, hz2⟩ := info_parts infoI
  have hE0 : Ext w (w.alloc (.cells #[] 3)) := by (repeat (first | (with_reducible exact Ext.refl _) | (with_reducible assumption) | (with_reducible refine Ext.alloc ?_ _) | (with_reducible refine Ext.drew ?_) | (with_reducible refine Ext.drewN ?_ _) | ((with_reducible apply Ext.setCell); (case hp => first | omega | (simp; done) | (simp; omega))) | (with_reducible refine Ext.trans ?_ (by assumption))))
  have hO0 := World.ownsRow_made (e := 3) (size := 1) (base := w.heap.size) w #[] 0 (Nat.le_refl _) (by omega) rfl
  go_enter Try.func62, Try.ntmps62
  go_wp2
  go_loopg [1, 8, 9] n (fun g at_ v i wr => ∃ (j a : Nat) (xs : List Nat), j ≤ n ∧ g + j = n ∧ a ≤ s.size ∧ xs.length = j ∧ i = .int .i64 j ∧ at_ = .int .i64 a ∧ Ext w wr ∧ wr.ownsRow w.heap.size 3 1 v xs.length (xs.flatMap encN) ∧ Hid (varsM s.data.toList n a0 = (varsM s.data.toList g a).map fun r => (xs ++ r.1, r.2)))
  case atStart => exact ⟨0, a0, [], by omega, by omega, ha, rfl, rfl, rfl, hE0, hO0, by simp [Hid]⟩
  case round =>
    clear hE0 hO0
    obtain ⟨j, a, xs, hj, hg, has, hxl, rfl, rfl, hE, hown, hA⟩ := hrel
    have HG := Lib.hid hg
    have HXL := Lib.hid hxl
    have hle : xs.length ≤ 1000 := by omega
    have hz := hE.size
    clear hg hxl
    by_cases hlt : j < n
    · obtain ⟨f, hf⟩ : ∃ f, gk = f + 1 := ⟨gk - 1, by have := HG.out; omega⟩
      have hA2 := hA.out
      rw [hf] at hA2
      have HF := Lib.hid hf
      clear hf
      obtain ⟨v1, v2, v3⟩ := readVar_bd (s.data.toList.drop a)
      rw [List.length_drop, bytes_len] at v3
      generalize e1 : readVar (s.data.toList.drop a) = rv at *
      obtain ⟨x, k⟩ := rv
      have hex : readVar (s.extract a s.size).data.toList = (x, k) := by rw [bytes_drop]; exact e1
      have HEX := Lib.hid hex
      have E := Lib.hid e1
      clear e1 hex
      simp only at v1 v2 v3
      have hxs : (s.extract a s.size).size ≤ maxLen := by
        have := HS.out
        have h2 : (s.extract a s.size).size ≤ s.size := by rw [ByteArray.size_extract]; omega
        omega
      have HXS := Lib.hid hxs
      clear hxs
      have h0 : (0 : Int) ≤ (a : Int) := by omega
      have h1 : (a : Int) ≤ (s.size : Int) := by omega
      by_cases hk : k = 0
      · subst hk
        have HN : Hid (varsM s.data.toList n a0 = none) := by rw [hA2, vars_none (by rw [E.out])]; rfl
        clear hA2
        go_wp2_with fail
        (refine (sReadVar_any _ _ HXS.out).mono ?_); rw [HEX.out]; rintro e w1 ⟨rfl, hb⟩
        go_wp2
        go_ret2
        exact vars_post_none HN.out (by (repeat (first | (with_reducible exact Ext.refl _) | (with_reducible assumption) | (with_reducible refine Ext.alloc ?_ _) | (with_reducible refine Ext.drew ?_) | (with_reducible refine Ext.drewN ?_ _) | ((with_reducible apply Ext.setCell); (case hp => first | omega | (simp; done) | (simp; omega))) | (with_reducible refine Ext.trans ?_ (by assumption)))))
      · have hk1 : ((k : Int) == 0) = false := by simp; omega
        have HN : Hid (varsM s.data.toList n a0 = (varsM s.data.toList f (a + k)).map fun r => ((xs ++ [x]) ++ r.1, r.2)) := by
          rw [hA2, vars_some (by rw [E.out]; exact hk), E.out, Option.map_map]
          congr 1
          funext r
          simp
        clear hA2
        go_wp2_with fail
        (refine (sReadVar_any _ _ HXS.out).mono ?_); rw [HEX.out]; rintro e w1 ⟨rfl, hb⟩
        have hown1 := own_ext hown hb
        have hE1 := hE.trans hb
        have hz1' := hE1.size
        clear hown hE hb
        go_wp2_with (at_builtin; refine wpList_append_own _ rfl (.tmp 37) (.tmp 39) 81 rfl w.heap.size 3 i0 (.int .i64 0) 1 8 Try.underlying81 hi hz0 hz1 hz2 rfl (by decide) _ _ _ rfl (hown1.alloc _) ⟨w1.heap.size, 0, none⟩ 1 1 [.int .i64 (x : Int)] rfl rfl (news_new (by simp)) (fun u hu => by simp at hu; subst hu; rfl) (by unfold maxLen; omega) (by omega) (by simp; omega) ?_; intro v' w2 hown' hgrow _; have hE2 : Ext w w2 := Ext.of_grown (hE1.alloc _) hgrow (fun b hb => (hown1.lt b hb).1); clear hgrow)
        have hO2 : w2.ownsRow w.heap.size 3 1 v' (xs ++ [x]).length ((xs ++ [x]).flatMap encN) := by
          rw [List.flatMap_append, List.length_append]
          exact hown'
        go_roundg f
        case measure => rw [HF.out]; omega
        case rel => exact ⟨j + 1, a + k, xs ++ [x], by omega, by have := HG.out; have := HF.out; omega, by omega, by have := HXL.out; simp; omega, by go_num, by go_num, hE2, hO2, HN⟩
    · have hj2 : j = n := by omega
      have hN : varsM s.data.toList n a0 = some (xs, a) := by
        have hg0 : gk = 0 := by have := HG.out; omega
        rw [hA.out, hg0]
        simp [varsM]
      have HN := Lib.hid hN
      clear hN
      have hlt' : ¬ (j : Int) < (n : Int) := by omega
      go_wp2
      go_ret2
      exact vars_post_some HN.out hE hown
end Go.Proofs.Ythnmiimckgphnaa

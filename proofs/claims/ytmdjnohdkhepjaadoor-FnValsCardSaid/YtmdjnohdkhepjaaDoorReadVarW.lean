/- ReadVar: both walks. -/
import Derived.Test.YtmdjnohdkhepjaaDoorReadVar
import Derived.Deep.RegionHeld3
import Derived.BigGuardPart
namespace Go.Proofs.YtmdjnohdkhepjaaDoor
set_option linter.unusedSimpArgs false
set_option linter.unusedVariables false
open Go.RowKit

set_option maxRecDepth 100000 in
set_option maxHeartbeats 4000000 in
theorem readVar_any (s : ByteArray) (w : World) (hs : s.size ≤ maxLen) :
    Calls Tryd.prog 76 #[.string s] w fun e w' => e = .returned (.tuple #[.int .i64 (readVar s.data.toList).1, .int .i64 (readVar s.data.toList).2]) ∧ Ext w w' := by
  replace hs : s.size ≤ 9223372036854775807 := by unfold maxLen at hs; omega
  have hsl : s.data.toList.length = s.size := bytes_len s
  have HSL := Lib.hid hsl
  clear hsl
  go_enter Tryd.func76, Tryd.ntmps76
  go_wp2
  go_loopg [4, 5] 7 (fun g n i wr => ∃ k : Nat, k ≤ 7 ∧ g + k = 7 ∧ k ≤ s.size ∧ i = .int .i64 k ∧ n = .int .i64 (val (s.data.toList.take k)) ∧ Ext w wr ∧ Hid (∀ j x, j < k → s.data.toList[j]? = some x → 128 ≤ x.toNat))
  case atStart => exact ⟨0, by omega, by omega, by omega, rfl, rfl, Ext.refl _, fun j x hj => by omega⟩
  case round =>
    obtain ⟨k, hk, hg, hks, rfl, rfl, hE, hA⟩ := hrel
    have HG := Lib.hid hg; clear hg
    by_cases hlt : k < s.size ∧ k < 7
    · obtain ⟨h1, h2⟩ := hlt
      have h1' : (k : Int) < (s.size : Int) := by omega
      have h2' : (k : Int) < 7 := by omega
      have hx : s.data.toList[k]? = some s[k] := bytes_get h1
      have hv := val_lt (s.data.toList.take k)
      rw [List.length_take, HSL.out, Nat.min_eq_left hks] at hv
      have EQ : Hid (bits BinOp.or IntKind.i64 (val (s.data.toList.take k) : Int) (wrap64 (wrap64 (bits BinOp.and IntKind.u8 (s[k].toNat : Int) 127) * 2 ^ (7 * k))) = (val (s.data.toList.take (k + 1)) : Int)) :=
        (or_shift (by omega) s[k].toNat_lt hv).trans (by rw [val_take hx])
      have hvn := val_le (l := s.data.toList.take (k + 1)) (by simp; omega)
      have HX := Lib.hid hx
      clear hv hx
      generalize ev : val (s.data.toList.take (k + 1)) = nv at *
      have EV := Lib.hid ev
      clear ev
      have hw : IntKind.i64.wrap ((k : Int) + 1) = (k : Int) + 1 := IntWalk.i64_in _ (by omega)
      have j0 : (0 : Int) ≤ (k : Int) + 1 := by omega
      have j1 : (k : Int) + 1 ≤ (s.size : Int) := by omega
      have hql : (varS (nv : Int)).toList = varL nv := varS_list hvn
      have hqr := bytes_take s (k + 1)
      have hQ : ((varS (nv : Int)).toList == (s.extract 0 (k + 1)).toList) = decide (varL (val (s.data.toList.take (k + 1))) = s.data.toList.take (k + 1)) := by
        rw [hql, hqr, EV.out]
        rw [Bool.eq_iff_iff]
        simp
      have HQ := Lib.hid hQ
      clear hql hqr hQ
      by_cases hb : s[k].toNat < 128
      · have hb' : (s[k].toNat : Int) < 128 := by omega
        by_cases he : varL (val (s.data.toList.take (k + 1))) = s.data.toList.take (k + 1)
        · have hq : ((varS (nv : Int)).toList == (s.extract 0 (k + 1)).toList) = true := by rw [HQ.out]; simpa using he
          have HR := Lib.hid (readVar_hit h2 HX.out hA.out he)
          clear he
          go_wp2
          rw [EQ.out]
          go_region_held3 (fun _ => True) (trivial)
            ((go_at_call 53; refine (var_any _ _).mono ?_; rintro e w2 ⟨rfl, hb⟩))
          go_wp2
          go_ret2
          exact ⟨by rw [HR.out, EV.out]; rfl, by (repeat (first | (with_reducible exact Ext.refl _) | (with_reducible assumption) | (with_reducible refine Ext.alloc ?_ _) | (with_reducible refine Ext.drew ?_) | (with_reducible refine Ext.drewN ?_ _) | ((with_reducible apply Ext.setCell); (case hp => first | omega | (simp; done) | (simp; omega))) | (with_reducible refine Ext.trans ?_ (by assumption))))⟩
        · have hq : ((varS (nv : Int)).toList == (s.extract 0 (k + 1)).toList) = false := by rw [HQ.out]; simpa using he
          have HR := Lib.hid (readVar_miss h2 HX.out hb hA.out he)
          clear he
          go_wp2
          rw [EQ.out]
          go_region_held3 (fun _ => True) (trivial)
            ((go_at_call 53; refine (var_any _ _).mono ?_; rintro e w2 ⟨rfl, hb⟩))
          go_wp2
          go_ret2
          exact ⟨by rw [HR.out]; rfl, by (repeat (first | (with_reducible exact Ext.refl _) | (with_reducible assumption) | (with_reducible refine Ext.alloc ?_ _) | (with_reducible refine Ext.drew ?_) | (with_reducible refine Ext.drewN ?_ _) | ((with_reducible apply Ext.setCell); (case hp => first | omega | (simp; done) | (simp; omega))) | (with_reducible refine Ext.trans ?_ (by assumption))))⟩
      · have hb' : ¬ (s[k].toNat : Int) < 128 := by omega
        have HN : Hid (∀ j x, j < k + 1 → s.data.toList[j]? = some x → 128 ≤ x.toNat) := fun j x hj hjx => by
          by_cases e : j = k
          · subst e
            have := HX.out
            rw [hjx] at this
            obtain rfl := Option.some.inj this
            omega
          · exact hA.out j x (by omega) hjx
        go_wp2
        go_roundg (gk - 1)
        case measure => have := HG.out; omega
        case rel => exact ⟨k + 1, by omega, by have := HG.out; omega, by omega, by go_num, by rw [EQ.out, EV.out], by (repeat (first | (with_reducible exact Ext.refl _) | (with_reducible assumption) | (with_reducible refine Ext.alloc ?_ _) | (with_reducible refine Ext.drew ?_) | (with_reducible refine Ext.drewN ?_ _) | ((with_reducible apply Ext.setCell); (case hp => first | omega | (simp; done) | (simp; omega))) | (with_reducible refine Ext.trans ?_ (by assumption)))), HN⟩
    · have HR := Lib.hid (readVar_none (j := k) (by rw [HSL.out]; omega) hk (by rw [HSL.out]; exact hks) hA.out)
      by_cases h1 : k < s.size
      · have h7 : ¬ (k : Int) < 7 := by omega
        have h1' : (k : Int) < (s.size : Int) := by omega
        go_wp2
        go_ret2
        exact ⟨by rw [HR.out]; rfl, by (repeat (first | (with_reducible exact Ext.refl _) | (with_reducible assumption) | (with_reducible refine Ext.alloc ?_ _) | (with_reducible refine Ext.drew ?_) | (with_reducible refine Ext.drewN ?_ _) | ((with_reducible apply Ext.setCell); (case hp => first | omega | (simp; done) | (simp; omega))) | (with_reducible refine Ext.trans ?_ (by assumption))))⟩
      · have h1' : ¬ (k : Int) < (s.size : Int) := by omega
        go_wp2
        go_ret2
        exact ⟨by rw [HR.out]; rfl, by (repeat (first | (with_reducible exact Ext.refl _) | (with_reducible assumption) | (with_reducible refine Ext.alloc ?_ _) | (with_reducible refine Ext.drew ?_) | (with_reducible refine Ext.drewN ?_ _) | ((with_reducible apply Ext.setCell); (case hp => first | omega | (simp; done) | (simp; omega))) | (with_reducible refine Ext.trans ?_ (by assumption))))⟩

set_option maxRecDepth 100000 in
set_option maxHeartbeats 4000000 in
theorem sReadVar_any (s : ByteArray) (w : World) (hs : s.size ≤ maxLen) :
    Calls Tryd.prog 79 #[.string s] w fun e w' => e = .returned (.tuple #[.int .i64 (readVar s.data.toList).1, .int .i64 (readVar s.data.toList).2]) ∧ Ext w w' := by
  replace hs : s.size ≤ 9223372036854775807 := by unfold maxLen at hs; omega
  have hsl : s.data.toList.length = s.size := bytes_len s
  have HSL := Lib.hid hsl
  clear hsl
  go_enter Tryd.func79, Tryd.ntmps79
  go_wp2
  go_loopg [4] 7 (fun g i wr => ∃ k : Nat, 1 ≤ k ∧ k ≤ 8 ∧ g + k = 8 ∧ k ≤ s.size + 1 ∧ i = .int .i64 k ∧ Ext w wr ∧ Hid (readVar s.data.toList = rdFrom s.data.toList (8 - k) k))
  case atStart => exact ⟨1, by omega, by omega, by omega, by omega, rfl, Ext.refl _, rfl⟩
  case round =>
    obtain ⟨k, hk1, hk, hg, hks, rfl, hE, hA⟩ := hrel
    obtain ⟨wo, rfl⟩ : ∃ wo : World, wo = wr := ⟨_, rfl⟩
    have HG := Lib.hid hg; clear hg
    by_cases hlt : k ≤ 7 ∧ k ≤ s.size
    · obtain ⟨h2, h1⟩ := hlt
      have h1' : (k : Int) ≤ (s.size : Int) := by omega
      have h2' : (k : Int) ≤ 7 := by omega
      go_wp2
      go_loop [5, 6] (fun n i => ∃ m : Nat, m ≤ k ∧ i = .int .i64 ((m : Int) - 1) ∧ n = .int .i64 (val ((s.data.toList.take k).drop m))) (fun _ i => (intOf i + 1).toNat)
      case atStart => exact ⟨k, by omega, rfl, by rw [List.drop_of_length_le (by simp; omega)]; rfl⟩
      case round =>
        obtain ⟨m, hm, rfl, rfl⟩ := hrel
        by_cases hm0 : m = 0
        · subst hm0
          have hvn := val_le (l := s.data.toList.take k) (by simp; omega)
          have hql : (varS (val (s.data.toList.take k) : Int)).toList = varL (val (s.data.toList.take k)) := varS_list hvn
          have hqr := bytes_take s k
          have hQ : ((varS (val (s.data.toList.take k) : Int)).toList == (s.extract 0 k).toList) = decide (varL (val (s.data.toList.take k)) = s.data.toList.take k) := by
            rw [hql, hqr]
            rw [Bool.eq_iff_iff]
            simp
          have HQ := Lib.hid hQ
          clear hql hqr hQ
          have hA2 : readVar s.data.toList = rdFrom s.data.toList ((7 - k) + 1) k := by rw [hA.out]; congr 1; omega
          have j0 : (0 : Int) ≤ (k : Int) := by omega
          by_cases he : varL (val (s.data.toList.take k)) = s.data.toList.take k
          · have hq : ((varS (val (s.data.toList.take k) : Int)).toList == (s.extract 0 k).toList) = true := by rw [HQ.out]; simpa using he
            have HR := Lib.hid (hA2.trans (rd_hit (by rw [HSL.out]; exact h1) he))
            clear he hA2
            rw [List.drop_zero]
            generalize val (s.data.toList.take k) = nv at *
            go_wp2
            go_region_held3 (fun _ => True) (trivial)
              ((go_at_call 77; refine (sVar_any _ _).mono ?_; rintro e w2 ⟨rfl, hb⟩))
            go_wp2
            go_ret2
            exact ⟨by rw [HR.out]; rfl, by (repeat (first | (with_reducible exact Ext.refl _) | (with_reducible assumption) | (with_reducible refine Ext.alloc ?_ _) | (with_reducible refine Ext.drew ?_) | (with_reducible refine Ext.drewN ?_ _) | ((with_reducible apply Ext.setCell); (case hp => first | omega | (simp; done) | (simp; omega))) | (with_reducible refine Ext.trans ?_ (by assumption))))⟩
          · have hq : ((varS (val (s.data.toList.take k) : Int)).toList == (s.extract 0 k).toList) = false := by rw [HQ.out]; simpa using he
            have HN : Hid (readVar s.data.toList = rdFrom s.data.toList (8 - (k + 1)) (k + 1)) := (hA2.trans (rd_step (by rw [HSL.out]; exact h1) he)).trans (by congr 1; omega)
            clear he hA2
            rw [List.drop_zero]
            generalize val (s.data.toList.take k) = nv at *
            go_wp2
            go_region_held3 (fun _ => True) (trivial)
              ((go_at_call 77; refine (sVar_any _ _).mono ?_; rintro e w2 ⟨rfl, hb⟩))
            go_wp2
            go_roundg (gk - 1)
            case measure => have := HG.out; omega
            case rel => exact ⟨k + 1, by omega, by omega, by have := HG.out; omega, by omega, by go_num, by (repeat (first | (with_reducible exact Ext.refl _) | (with_reducible assumption) | (with_reducible refine Ext.alloc ?_ _) | (with_reducible refine Ext.drew ?_) | (with_reducible refine Ext.drewN ?_ _) | ((with_reducible apply Ext.setCell); (case hp => first | omega | (simp; done) | (simp; omega))) | (with_reducible refine Ext.trans ?_ (by assumption)))), HN⟩
        · have hx : (s.data.toList.take k)[m - 1]? = some (s[m - 1]'(by omega)) := by
            rw [List.getElem?_take, if_pos (by omega)]
            exact bytes_get (by omega)
          have hv := val_drop hx
          rw [show m - 1 + 1 = m by omega] at hv
          have hvl := val_drop_le (l := s.data.toList.take k) (m := m) (by simp; omega)
          have HV := Lib.hid hv
          clear hv hx
          generalize val ((s.data.toList.take k).drop m) = dv at *
          have hb := (s[m - 1]'(by omega)).toNat_lt
          have m0 : (0 : Int) ≤ (m : Int) - 1 := by omega
          have m1 : (m : Int) - 1 < (s.size : Int) := by omega
          have m2 : ((m : Int) - 1).toNat = m - 1 := by omega
          go_wp2
          go_round
          case rel => exact ⟨m - 1, by omega, congrArg (Value.int .i64) (by omega), congrArg (Value.int .i64) (by rw [HV.out]; omega)⟩
          case measure => simp [intOf]; omega
    · have HR : Hid (readVar s.data.toList = (0, 0)) := by
        rw [hA.out]
        by_cases h8 : k = 8
        · subst h8; rfl
        · exact rd_end (by rw [HSL.out]; omega)
      by_cases h7 : k ≤ 7
      · have h7' : (k : Int) ≤ 7 := by omega
        have h1' : ¬ (k : Int) ≤ (s.size : Int) := by omega
        go_wp2
        go_ret2
        exact ⟨by rw [HR.out]; rfl, by (repeat (first | (with_reducible exact Ext.refl _) | (with_reducible assumption) | (with_reducible refine Ext.alloc ?_ _) | (with_reducible refine Ext.drew ?_) | (with_reducible refine Ext.drewN ?_ _) | ((with_reducible apply Ext.setCell); (case hp => first | omega | (simp; done) | (simp; omega))) | (with_reducible refine Ext.trans ?_ (by assumption))))⟩
      · have h7' : ¬ (k : Int) ≤ 7 := by omega
        go_wp2
        go_ret2
        exact ⟨by rw [HR.out]; rfl, by (repeat (first | (with_reducible exact Ext.refl _) | (with_reducible assumption) | (with_reducible refine Ext.alloc ?_ _) | (with_reducible refine Ext.drew ?_) | (with_reducible refine Ext.drewN ?_ _) | ((with_reducible apply Ext.setCell); (case hp => first | omega | (simp; done) | (simp; omega))) | (with_reducible refine Ext.trans ?_ (by assumption))))⟩
end Go.Proofs.YtmdjnohdkhepjaaDoor

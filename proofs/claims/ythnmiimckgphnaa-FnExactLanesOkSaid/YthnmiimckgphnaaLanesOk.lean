/- LanesOk: both walks. -/
import Derived.Test.YthnmiimckgphnaaLanes
namespace Go.Proofs.Ythnmiimckgphnaa
open Go.RowKit

theorem allTake_no {α : Type} {p : α → Bool} {xs : List α} {k : Nat} {x : α} (h : xs[k]? = some x) (hp : p x = false) : xs.all p = false := by
  rw [List.all_eq_false]
  exact ⟨x, List.mem_of_getElem? h, by simp [hp]⟩
theorem allTake_step {α : Type} {p : α → Bool} {xs : List α} {k : Nat} {x : α} (h : xs[k]? = some x) (hp : p x = true) (hk : (xs.take k).all p = true) : (xs.take (k + 1)).all p = true := by
  rw [List.take_add_one, h, List.all_append, hk]
  simp [hp]
theorem allTake_end {α : Type} {p : α → Bool} {xs : List α} (h : (xs.take xs.length).all p = true) : xs.all p = true := by rwa [List.take_length] at h

theorem lanes_no {xss : List (List Int)} {turn : Int} {k : Nat} {xs : List Int} (h : xss[k]? = some xs) (hr : rowOk xs = false) : lanesOk xss turn = false := by
  unfold lanesOk
  rw [allTake_no h hr]
  rfl
theorem row_long {xs : List Int} (h : (6 : Int) < xs.length) : rowOk xs = false := by
  unfold rowOk
  simp
  intro h2
  omega
theorem row_bad {xs : List Int} {k : Nat} {x : Int} (h : xs[k]? = some x) (hb : inB x 0 9999 = false) : rowOk xs = false := by
  unfold rowOk
  rw [allTake_no (p := (inB · 0 9999)) h hb]
  simp
theorem row_good {xs : List Int} (h : ¬ (6 : Int) < xs.length) (ha : (xs.take xs.length).all (inB · 0 9999) = true) : rowOk xs = true := by
  unfold rowOk
  rw [allTake_end ha]
  simp
  omega

set_option maxRecDepth 100000 in
set_option maxHeartbeats 2000000 in
theorem lanesOk_non (b1 o1 c1 : Nat) (us : List Value) (xss : List (List Int)) (turn : Int) (w : World) (hx : SlAt encV 1 w b1 o1 us) (hr : All2 (Sl encI 1 w) us xss) (hp : 0 < us.length) (hn : us.length ≤ 9223372036854775807) (hb1 : b1 < w.heap.size) :
    Calls Try.prog 39 #[lanesV (.slice (some ⟨b1, o1, none⟩) us.length c1) turn] w fun e w' => e = .returned (.bool (lanesOk xss turn)) ∧ Ext w w' := by
  have hlen := hr.length
  have HLEN := Lib.hid hlen
  clear hlen
  unfold lanesV
  go_enter Try.func39, Try.ntmps39
  go_wp2
  go_loopg [10] us.length (fun g i wr => ∃ k : Nat, k ≤ us.length ∧ g = us.length - k ∧ i = .int .i64 k ∧ Ext w wr ∧ Box wr w.heap.size #[.slice (some ⟨b1, o1, none⟩) us.length c1, .int .i64 turn] ∧ Hid ((xss.take k).all rowOk = true))
  case atStart => exact ⟨0, by omega, by omega, rfl, by (repeat (first | (with_reducible exact Ext.refl _) | (with_reducible assumption) | (with_reducible refine Ext.alloc ?_ _) | (with_reducible refine Ext.drew ?_) | (with_reducible refine Ext.drewN ?_ _) | ((with_reducible apply Ext.setCell); (case hp => first | omega | (simp; done) | (simp; omega))) | (with_reducible refine Ext.trans ?_ (by assumption)))), by (repeat (first | (with_reducible assumption) | ((with_reducible apply Box.new); (first | (with_reducible rfl) | (simp; done) | (simp; omega))) | (with_reducible apply Box.alloc) | (with_reducible apply Box.drew) | (with_reducible apply Box.drewN) | (with_reducible apply Box.set) | ((with_reducible apply Box.set_ne); (case hne => first | omega | (simp; done) | (simp; omega))))), by simp [Hid]⟩
  case round =>
    obtain ⟨k, hk, hg, rfl, hE, hB, hA⟩ := hrel
    have HG := Lib.hid hg; clear hg
    obtain ⟨c0, f0, l0⟩ := hB.rules
    by_cases hlt : k < us.length
    · obtain ⟨u, huk⟩ : ∃ u, us[k]? = some u := ⟨_, List.getElem?_eq_getElem hlt⟩
      obtain ⟨xs, hxk, hxs⟩ := All2.get hr huk
      have q1 := (hx.ext hE hb1) k _ huk 0 (by omega)
      simp [encV] at q1
      have hxlen : xs.length ≤ 9223372036854775807 := by have := hxs.len; unfold maxLen at this; omega
      have HX := Lib.hid hxk
      clear hxk huk
      by_cases hlong : (6 : Int) < (xs.length : Int)
      · have HN := Lib.hid (lanes_no (turn := turn) HX.out (row_long hlong))
        rcases hxs with ⟨o, c, rfl, rfl⟩ | ⟨b2, o2, c2, rfl, hp2, _, _, hb2, hx2⟩
        · simp at hlong
        · go_wp2
          go_ret
          exact ⟨ret_bool HN.out, hE⟩
      · have HLONG := Lib.hid hlong
        rcases hxs with ⟨o, c, rfl, rfl⟩ | ⟨b2, o2, c2, rfl, hp2, _, _, hb2, hx2⟩
        · have HA : Hid ((xss.take (k + 1)).all rowOk = true) := allTake_step HX.out (by simp [rowOk]) hA.out
          go_wp2
          refine wp_loop_rounds 1 ?_
          rw [rounds_succ]
          go_wp2
          go_roundg (us.length - (k + 1))
          case measure => rw [HG.out]; omega
          case rel => exact ⟨k + 1, by omega, rfl, by go_num, hE, hB, HA⟩
        · replace hx2 : SlAt encI 1 w b2 o2 xs := hx2
          obtain ⟨wo, rfl⟩ : ∃ wo : World, wo = wr := ⟨_, rfl⟩
          go_wp2
          go_loop [19] (fun i => ∃ j : Nat, j ≤ xs.length ∧ i = .int .i64 j ∧ Hid ((xs.take j).all (inB · 0 9999) = true)) (fun i => xs.length - (intOf i).toNat)
          case atStart => exact ⟨0, by omega, rfl, by simp [Hid]⟩
          case round =>
            obtain ⟨j, hj, rfl, hI⟩ := hrel
            by_cases hjl : j < xs.length
            · obtain ⟨x, hxj⟩ : ∃ x, xs[j]? = some x := ⟨_, List.getElem?_eq_getElem hjl⟩
              have q2 := (hx2.ext hE hb2) j _ hxj 0 (by omega)
              simp [encI] at q2
              by_cases hin : inB x 0 9999 = true
              · have HI : Hid ((xs.take (j + 1)).all (inB · 0 9999) = true) := allTake_step (p := (inB · 0 9999)) hxj hin hI.out
                clear hxj
                go_wp2_with (go_at_call 52; refine (within_any _ _ _ _).mono ?_; rintro e w' ⟨rfl, rfl⟩)
                go_round
                case rel => exact ⟨j + 1, by omega, by go_num, HI⟩
                case measure => simp [intOf]; omega
              · replace hin : inB x 0 9999 = false := by simpa using hin
                have HN := Lib.hid (lanes_no (turn := turn) HX.out (row_bad hxj hin))
                clear hxj
                go_wp2_with (go_at_call 52; refine (within_any _ _ _ _).mono ?_; rintro e w' ⟨rfl, rfl⟩)
                go_ret
                exact ⟨ret_bool HN.out, hE⟩
            · obtain rfl : j = xs.length := by omega
              have HA : Hid ((xss.take (k + 1)).all rowOk = true) := allTake_step HX.out (row_good (by have := HLONG.out; omega) hI.out) hA.out
              go_wp2
              go_roundg (us.length - (k + 1))
              case measure => rw [HG.out]; omega
              case rel => exact ⟨k + 1, by omega, rfl, by go_num, hE, hB, HA⟩
    · obtain rfl : k = us.length := by omega
      have HN : Hid (lanesOk xss turn = (inB us.length 1 5 && inB turn 0 (us.length - 1))) := by
        have h := hA.out
        rw [HLEN.out] at h ⊢
        unfold Hid lanesOk
        rw [allTake_end h]
        rfl
      go_wp2_with (go_at_call 52; refine (within_any _ _ _ _).mono ?_; rintro e w' ⟨rfl, rfl⟩)
      all_goals
        go_ret
        exact ⟨ret_bool (HN.out.trans (by simp [*])), hE⟩
theorem lanes_nil {turn : Int} : lanesOk [] turn = false := by simp [lanesOk, inB]
theorem lanesOk_any (v : Value) (xss : List (List Int)) (turn : Int) (w : World) (h : SlSl encI 1 w v xss) :
    Calls Try.prog 39 #[lanesV v turn] w fun e w' => e = .returned (.bool (lanesOk xss turn)) ∧ Ext w w' := by
  obtain ⟨us, hu, hr⟩ := h
  have hlen := hr.length
  rcases hu with ⟨o, c, rfl, rfl⟩ | ⟨b1, o1, c1, rfl, hp, h1, h2, hb1, hx⟩
  · obtain rfl : xss = [] := List.eq_nil_of_length_eq_zero hlen.symm
    rw [lanes_nil]
    clear hlen hr
    have e1 : inB 0 1 5 = false := by decide
    unfold lanesV
    go_enter Try.func39, Try.ntmps39
    go_wp2
    refine wp_loop_rounds 1 ?_
    rw [rounds_succ]
    go_wp2_with (go_at_call 52; refine (within_any _ _ _ _).mono ?_; rintro e w' ⟨rfl, rfl⟩)
    go_ret
    exact ⟨rfl, by (repeat (first | (with_reducible exact Ext.refl _) | (with_reducible assumption) | (with_reducible refine Ext.alloc ?_ _) | (with_reducible refine Ext.drew ?_) | (with_reducible refine Ext.drewN ?_ _) | ((with_reducible apply Ext.setCell); (case hp => first | omega | (simp; done) | (simp; omega))) | (with_reducible refine Ext.trans ?_ (by assumption))))⟩
  · exact lanesOk_non b1 o1 c1 us xss turn w hx hr hp (by unfold maxLen at h2; omega) hb1

theorem lanes_head {xss : List (List Int)} {turn : Int} (h : ¬ ((1 ≤ xss.length ∧ xss.length ≤ 5) ∧ 0 ≤ turn ∧ turn < xss.length)) : lanesOk xss turn = false := by
  cases e : lanesOk xss turn with
  | false => rfl
  | true =>
    exfalso
    unfold lanesOk at e
    simp only [Bool.and_eq_true, inB_iff] at e
    omega
theorem lanes_full {xss : List (List Int)} {turn : Int} (h : (1 ≤ xss.length ∧ xss.length ≤ 5) ∧ 0 ≤ turn ∧ turn < xss.length) (ha : xss.all rowOk = true) : lanesOk xss turn = true := by
  unfold lanesOk
  simp only [Bool.and_eq_true, inB_iff]
  exact ⟨ha, by omega, by omega⟩

set_option maxRecDepth 100000 in
set_option maxHeartbeats 2000000 in
theorem sLanesOk_non (b1 o1 c1 : Nat) (us : List Value) (xss : List (List Int)) (turn : Int) (w : World) (hx : SlAt encV 1 w b1 o1 us) (hr : All2 (Sl encI 1 w) us xss) (hp : 0 < us.length) (hn : us.length ≤ 9223372036854775807) (hb1 : b1 < w.heap.size) :
    Calls Try.prog 37 #[lanesV (.slice (some ⟨b1, o1, none⟩) us.length c1) turn] w fun e w' => e = .returned (.bool (lanesOk xss turn)) ∧ Ext w w' := by
  have hlen := hr.length
  have HLEN := Lib.hid hlen
  unfold lanesV
  by_cases hh : (1 ≤ xss.length ∧ xss.length ≤ 5) ∧ 0 ≤ turn ∧ turn < xss.length
  · have HH := Lib.hid hh
    rw [← hlen] at hh
    obtain ⟨⟨h1, h2⟩, h3, h4⟩ := hh
    have e1 : inB (us.length : Int) 1 5 = true := by rw [inB_iff]; omega
    have n1 : ¬ turn < 0 := by omega
    clear hlen
    go_enter Try.func37, Try.ntmps37
    go_wp2_with (go_at_call 50; refine (l1In_any _ _ _ _).mono ?_; rintro e w' ⟨rfl, rfl⟩)
    go_loopg [3] us.length (fun g i wr => ∃ k : Nat, k ≤ us.length ∧ g = us.length - k ∧ i = .int .i64 k ∧ Ext w wr ∧ Box wr w.heap.size #[.slice (some ⟨b1, o1, none⟩) us.length c1, .int .i64 turn] ∧ Hid ((xss.take k).all rowOk = true))
    case atStart => exact ⟨0, by omega, by omega, rfl, by (repeat (first | (with_reducible exact Ext.refl _) | (with_reducible assumption) | (with_reducible refine Ext.alloc ?_ _) | (with_reducible refine Ext.drew ?_) | (with_reducible refine Ext.drewN ?_ _) | ((with_reducible apply Ext.setCell); (case hp => first | omega | (simp; done) | (simp; omega))) | (with_reducible refine Ext.trans ?_ (by assumption)))), by (repeat (first | (with_reducible assumption) | ((with_reducible apply Box.new); (first | (with_reducible rfl) | (simp; done) | (simp; omega))) | (with_reducible apply Box.alloc) | (with_reducible apply Box.drew) | (with_reducible apply Box.drewN) | (with_reducible apply Box.set) | ((with_reducible apply Box.set_ne); (case hne => first | omega | (simp; done) | (simp; omega))))), by simp [Hid]⟩
    case round =>
      obtain ⟨k, hk, hg, rfl, hE, hB, hA⟩ := hrel
      have HG := Lib.hid hg; clear hg
      obtain ⟨c0, f0, l0⟩ := hB.rules
      by_cases hlt : k < us.length
      · obtain ⟨u, huk⟩ : ∃ u, us[k]? = some u := ⟨_, List.getElem?_eq_getElem hlt⟩
        obtain ⟨xs, hxk, hxs⟩ := All2.get hr huk
        have q1 := (hx.ext hE hb1) k _ huk 0 (by omega)
        simp [encV] at q1
        have hxlen : xs.length ≤ 9223372036854775807 := by have := hxs.len; unfold maxLen at this; omega
        have HX := Lib.hid hxk
        clear hxk huk
        by_cases hlong : (6 : Int) < (xs.length : Int)
        · have HN := Lib.hid (lanes_no (turn := turn) HX.out (row_long hlong))
          rcases hxs with ⟨o, c, rfl, rfl⟩ | ⟨b2, o2, c2, rfl, hp2, _, _, hb2, hx2⟩
          · simp at hlong
          · go_wp2
            go_ret
            exact ⟨ret_bool HN.out, hE⟩
        · have HLONG := Lib.hid hlong
          rcases hxs with ⟨o, c, rfl, rfl⟩ | ⟨b2, o2, c2, rfl, hp2, _, _, hb2, hx2⟩
          · have HA : Hid ((xss.take (k + 1)).all rowOk = true) := allTake_step HX.out (by simp [rowOk]) hA.out
            go_wp2
            refine wp_loop_rounds 1 ?_
            rw [rounds_succ]
            go_wp2
            go_roundg (us.length - (k + 1))
            case measure => rw [HG.out]; omega
            case rel => exact ⟨k + 1, by omega, rfl, by go_num, hE, hB, HA⟩
          · replace hx2 : SlAt encI 1 w b2 o2 xs := hx2
            obtain ⟨wo, rfl⟩ : ∃ wo : World, wo = wr := ⟨_, rfl⟩
            go_wp2
            go_loop [4] (fun i => ∃ j : Nat, j ≤ xs.length ∧ i = .int .i64 j ∧ Hid ((xs.take j).all (inB · 0 9999) = true)) (fun i => xs.length - (intOf i).toNat)
            case atStart => exact ⟨0, by omega, rfl, by simp [Hid]⟩
            case round =>
              obtain ⟨j, hj, rfl, hI⟩ := hrel
              by_cases hjl : j < xs.length
              · obtain ⟨x, hxj⟩ : ∃ x, xs[j]? = some x := ⟨_, List.getElem?_eq_getElem hjl⟩
                have q2 := (hx2.ext hE hb2) j _ hxj 0 (by omega)
                simp [encI] at q2
                by_cases hin : inB x 0 9999 = true
                · have HI : Hid ((xs.take (j + 1)).all (inB · 0 9999) = true) := allTake_step (p := (inB · 0 9999)) hxj hin hI.out
                  clear hxj
                  go_wp2_with (go_at_call 50; refine (l1In_any _ _ _ _).mono ?_; rintro e w' ⟨rfl, rfl⟩)
                  go_round
                  case rel => exact ⟨j + 1, by omega, by go_num, HI⟩
                  case measure => simp [intOf]; omega
                · replace hin : inB x 0 9999 = false := by simpa using hin
                  have HN := Lib.hid (lanes_no (turn := turn) HX.out (row_bad hxj hin))
                  clear hxj
                  go_wp2_with (go_at_call 50; refine (l1In_any _ _ _ _).mono ?_; rintro e w' ⟨rfl, rfl⟩)
                  go_ret
                  exact ⟨ret_bool HN.out, hE⟩
              · obtain rfl : j = xs.length := by omega
                have HA : Hid ((xss.take (k + 1)).all rowOk = true) := allTake_step HX.out (row_good (by have := HLONG.out; omega) hI.out) hA.out
                go_wp2
                go_roundg (us.length - (k + 1))
                case measure => rw [HG.out]; omega
                case rel => exact ⟨k + 1, by omega, rfl, by go_num, hE, hB, HA⟩
      · obtain rfl : k = us.length := by omega
        have HN : Hid (lanesOk xss turn = true) := by
          have h := hA.out
          rw [HLEN.out] at h
          exact lanes_full HH.out (allTake_end h)
        go_wp2
        go_ret
        exact ⟨ret_bool HN.out, hE⟩
  · have HN := Lib.hid (lanes_head hh)
    rw [← hlen] at hh
    clear hlen
    by_cases e1 : inB (us.length : Int) 1 5 = true
    · have hh2 : ¬ (0 ≤ turn ∧ turn < us.length) := by
        rw [inB_iff] at e1
        omega
      clear hh
      by_cases n1 : turn < 0
      · go_enter Try.func37, Try.ntmps37
        go_wp2_with (go_at_call 50; refine (l1In_any _ _ _ _).mono ?_; rintro e w' ⟨rfl, rfl⟩)
        all_goals first | (exfalso; omega) | (go_ret; exact ⟨ret_bool HN.out, by (repeat (first | (with_reducible exact Ext.refl _) | (with_reducible assumption) | (with_reducible refine Ext.alloc ?_ _) | (with_reducible refine Ext.drew ?_) | (with_reducible refine Ext.drewN ?_ _) | ((with_reducible apply Ext.setCell); (case hp => first | omega | (simp; done) | (simp; omega))) | (with_reducible refine Ext.trans ?_ (by assumption))))⟩)
      · have n2 : ¬ turn < (us.length : Int) := by omega
        clear hh2
        go_enter Try.func37, Try.ntmps37
        go_wp2_with (go_at_call 50; refine (l1In_any _ _ _ _).mono ?_; rintro e w' ⟨rfl, rfl⟩)
        all_goals first | (exfalso; omega) | (go_ret; exact ⟨ret_bool HN.out, by (repeat (first | (with_reducible exact Ext.refl _) | (with_reducible assumption) | (with_reducible refine Ext.alloc ?_ _) | (with_reducible refine Ext.drew ?_) | (with_reducible refine Ext.drewN ?_ _) | ((with_reducible apply Ext.setCell); (case hp => first | omega | (simp; done) | (simp; omega))) | (with_reducible refine Ext.trans ?_ (by assumption))))⟩)
    · replace e1 : inB (us.length : Int) 1 5 = false := by simpa using e1
      clear hh
      go_enter Try.func37, Try.ntmps37
      go_wp2_with (go_at_call 50; refine (l1In_any _ _ _ _).mono ?_; rintro e w' ⟨rfl, rfl⟩)
      all_goals first | (exfalso; omega) | (go_ret; exact ⟨ret_bool HN.out, by (repeat (first | (with_reducible exact Ext.refl _) | (with_reducible assumption) | (with_reducible refine Ext.alloc ?_ _) | (with_reducible refine Ext.drew ?_) | (with_reducible refine Ext.drewN ?_ _) | ((with_reducible apply Ext.setCell); (case hp => first | omega | (simp; done) | (simp; omega))) | (with_reducible refine Ext.trans ?_ (by assumption))))⟩)

theorem sLanesOk_any (v : Value) (xss : List (List Int)) (turn : Int) (w : World) (h : SlSl encI 1 w v xss) :
    Calls Try.prog 37 #[lanesV v turn] w fun e w' => e = .returned (.bool (lanesOk xss turn)) ∧ Ext w w' := by
  obtain ⟨us, hu, hr⟩ := h
  have hlen := hr.length
  rcases hu with ⟨o, c, rfl, rfl⟩ | ⟨b1, o1, c1, rfl, hp, h1, h2, hb1, hx⟩
  · obtain rfl : xss = [] := List.eq_nil_of_length_eq_zero hlen.symm
    rw [lanes_nil]
    clear hlen hr
    have e1 : inB 0 1 5 = false := by decide
    unfold lanesV
    go_enter Try.func37, Try.ntmps37
    go_wp2_with (go_at_call 50; refine (l1In_any _ _ _ _).mono ?_; rintro e w' ⟨rfl, rfl⟩)
    go_ret
    exact ⟨rfl, by (repeat (first | (with_reducible exact Ext.refl _) | (with_reducible assumption) | (with_reducible refine Ext.alloc ?_ _) | (with_reducible refine Ext.drew ?_) | (with_reducible refine Ext.drewN ?_ _) | ((with_reducible apply Ext.setCell); (case hp => first | omega | (simp; done) | (simp; omega))) | (with_reducible refine Ext.trans ?_ (by assumption))))⟩
  · exact sLanesOk_non b1 o1 c1 us xss turn w hx hr hp (by unfold maxLen at h2; omega) hb1
end Go.Proofs.Ythnmiimckgphnaa

/- Forget: both walks. -/
import Derived.Test.YthnmiimckgphnaaAddrsOk
namespace Go.Proofs.Ythnmiimckgphnaa
open Go.RowKit

/-- Who is kept. -/
def keepA (now age : Int) (a : Ad) : Bool := decide (now - age ≤ a.seen)
def forget (xs : List Ad) (now age : Int) : List Ad := if addrsOk xs && inB now 0 1000000 && decide (0 ≤ age) then xs.filter (keepA now age) else []
theorem filter_keep {p : Ad → Bool} {xs : List Ad} {k : Nat} {x : Ad} (h : xs[k]? = some x) (hp : p x = true) : (xs.take (k + 1)).filter p = (xs.take k).filter p ++ [x] := by
  rw [List.take_add_one, h]
  simp [hp]
theorem filter_drop {p : Ad → Bool} {xs : List Ad} {k : Nat} {x : Ad} (h : xs[k]? = some x) (hp : p x = false) : (xs.take (k + 1)).filter p = (xs.take k).filter p := by
  rw [List.take_add_one, h]
  simp [hp]
theorem filter_le {p : Ad → Bool} {xs : List Ad} {k : Nat} (hk : k ≤ xs.length) : ((xs.take k).filter p).length ≤ k := by
  have := List.length_filter_le p (xs.take k)
  simp at this
  omega
theorem addrs_in {xs : List Ad} {k : Nat} {x : Ad} (h : addrsOk xs = true) (hx : xs[k]? = some x) : 0 ≤ x.seen ∧ x.seen ≤ 1000000 := by
  simp only [addrsOk, Bool.and_eq_true, List.all_eq_true] at h
  have hk : k < xs.length := (List.getElem?_eq_some_iff.1 hx).1
  have := h.2 k (List.mem_range.2 hk)
  simp only [goodAt, hx, Bool.and_eq_true] at this
  exact inB_iff.1 this.1.2

set_option maxRecDepth 100000 in
set_option maxHeartbeats 4000000 in
theorem forget_non (b1 o1 c1 : Nat) (xs : List Ad) (now age : Int) (w : World) (hx : SlAt encA 2 w b1 o1 xs) (hp : 0 < xs.length) (hn : xs.length ≤ 1048576) (hb1 : b1 < w.heap.size) (hm : c1 ≤ maxLen) (hc : xs.length ≤ c1)
    (hok : addrsOk xs = true) (hnow : inB now 0 1000000 = true) (hage : 0 ≤ age) (hage2 : age ≤ 9223372036854775807) :
    Calls Try.prog 33 #[.slice (some ⟨b1, o1, none⟩) xs.length c1, .int .i64 now, .int .i64 age] w fun e w' => ∃ v, e = .returned v ∧ w'.ownsRow w.heap.size 76 2 v (xs.filter (keepA now age)).length ((xs.filter (keepA now age)).flatMap encA) ∧ Ext w w' := by
  obtain ⟨i0, hi, hz0, hz1, hz2⟩ := info_parts infoAddr
  have hS : Sl encA 2 w (.slice (some ⟨b1, o1, none⟩) xs.length c1) xs := .inr ⟨b1, o1, c1, rfl, hp, hc, hm, hb1, hx⟩
  have HS := Lib.hid hS
  clear hS hc hm
  obtain ⟨n1, n2⟩ := inB_iff.1 hnow
  have hage3 : ¬ age < 0 := by omega
  go_enter Try.func33, Try.ntmps33
  go_wp2_with fail
  (refine (addrsOk_any _ xs _ HS.out hn).mono ?_); rintro e w1 ⟨rfl, hb⟩
  go_wp2_with (first | (go_at_call 53; refine (isTime_any _ _).mono ?_; rintro e w' ⟨rfl, rfl⟩))
  have hE0 : Ext w (w1.alloc (.cells #[] 76)) := by (repeat (first | (with_reducible exact Ext.refl _) | (with_reducible assumption) | (with_reducible refine Ext.alloc ?_ _) | (with_reducible refine Ext.drew ?_) | (with_reducible refine Ext.drewN ?_ _) | ((with_reducible apply Ext.setCell); (case hp => first | omega | (simp; done) | (simp; omega))) | (with_reducible refine Ext.trans ?_ (by assumption))))
  have hO0 := World.ownsRow_made (e := 76) (size := 2) (base := w.heap.size) w1 #[] 0 hb.size (by omega) rfl
  go_loopg [7, 25] xs.length (fun g v i wr => ∃ k : Nat, k ≤ xs.length ∧ g = xs.length - k ∧ i = .int .i64 k ∧ Ext w wr ∧ wr.ownsRow w.heap.size 76 2 v ((xs.take k).filter (keepA now age)).length (((xs.take k).filter (keepA now age)).flatMap encA))
  case atStart => exact ⟨0, by omega, by omega, rfl, hE0, by simpa using hO0⟩
  case round =>
    clear hE0 hO0
    obtain ⟨k, hk, hg, rfl, hE, hown⟩ := hrel
    have HG := Lib.hid hg; clear hg
    by_cases hlt : k < xs.length
    · obtain ⟨x, hxk⟩ : ∃ x, xs[k]? = some x := ⟨_, List.getElem?_eq_getElem hlt⟩
      have q1 := (hx.ext hE hb1) k _ hxk
      have q10 := q1 0 (by omega)
      have q11 := q1 1 (by omega)
      simp [encA] at q10 q11
      have HX := Lib.hid hxk
      have hz := hE.size
      have hle := filter_le (p := keepA now age) (k := k) hk
      obtain ⟨s1, s2⟩ := addrs_in hok hxk
      clear q1 hxk
      by_cases hkeep : now - age ≤ x.seen
      · have HF := Lib.hid (filter_keep (p := keepA now age) HX.out (by simp [keepA, hkeep]))
        go_wp2_with (at_builtin; refine wpList_append_own _ rfl (.tmp 35) (.tmp 37) 44 rfl w.heap.size 76 i0 (.agg #[.int .i64 0, .int .i64 0]) 2 16 Try.underlying44 hi hz0 hz1 hz2 rfl (by decide) _ _ _ rfl ((hown.alloc _).alloc _) ⟨wr.heap.size + 1, 0, none⟩ 1 1 [.int .i64 x.id, .int .i64 x.seen] rfl rfl (news_new (by simp)) (fun u hu => by simp at hu; rcases hu with rfl | rfl <;> rfl) (by unfold maxLen; omega) (by omega) (by simp; omega) ?_; intro v' w2 hown' hgrow _; have hE2 : Ext w w2 := Ext.of_grown ((hE.alloc _).alloc _) hgrow (fun b hb => (hown.lt b hb).1); have hO2 : w2.ownsRow w.heap.size 76 2 v' ((xs.take (k + 1)).filter (keepA now age)).length (((xs.take (k + 1)).filter (keepA now age)).flatMap encA) := (by rw [HF.out]; simpa [List.flatMap_append, encA] using hown'); clear hown' hgrow)
        go_roundg (xs.length - (k + 1))
        case measure => rw [HG.out]; omega
        case rel => exact ⟨k + 1, by omega, rfl, by go_num, hE2, hO2⟩
      · have HF := Lib.hid (filter_drop (p := keepA now age) HX.out (by simp [keepA]; omega))
        go_wp2
        go_roundg (xs.length - (k + 1))
        case measure => rw [HG.out]; omega
        case rel => exact ⟨k + 1, by omega, rfl, by go_num, by (repeat (first | (with_reducible exact Ext.refl _) | (with_reducible assumption) | (with_reducible refine Ext.alloc ?_ _) | (with_reducible refine Ext.drew ?_) | (with_reducible refine Ext.drewN ?_ _) | ((with_reducible apply Ext.setCell); (case hp => first | omega | (simp; done) | (simp; omega))) | (with_reducible refine Ext.trans ?_ (by assumption)))), by rw [HF.out]; exact hown.alloc _⟩
    · obtain rfl : k = xs.length := by omega
      rw [List.take_length] at hown
      go_wp2
      go_ret
      exact ⟨_, rfl, hown, hE⟩
set_option maxRecDepth 100000 in
set_option maxHeartbeats 4000000 in
theorem sForget_non (b1 o1 c1 : Nat) (xs : List Ad) (now age : Int) (w : World) (hx : SlAt encA 2 w b1 o1 xs) (hp : 0 < xs.length) (hn : xs.length ≤ 1048576) (hb1 : b1 < w.heap.size) (hm : c1 ≤ maxLen) (hc : xs.length ≤ c1)
    (hok : addrsOk xs = true) (hnow : inB now 0 1000000 = true) (hage : 0 ≤ age) (hage2 : age ≤ 9223372036854775807) :
    Calls Try.prog 32 #[.slice (some ⟨b1, o1, none⟩) xs.length c1, .int .i64 now, .int .i64 age] w fun e w' => ∃ v, e = .returned v ∧ w'.ownsRow w.heap.size 76 2 v (xs.filter (keepA now age)).length ((xs.filter (keepA now age)).flatMap encA) ∧ Ext w w' := by
  obtain ⟨i0, hi, hz0, hz1, hz2⟩ := info_parts infoAddr
  have hS : Sl encA 2 w (.slice (some ⟨b1, o1, none⟩) xs.length c1) xs := .inr ⟨b1, o1, c1, rfl, hp, hc, hm, hb1, hx⟩
  have HS := Lib.hid hS
  clear hS hc hm
  obtain ⟨n1, n2⟩ := inB_iff.1 hnow
  have hage3 : ¬ age < 0 := by omega
  go_enter Try.func32, Try.ntmps32
  have hE0 : Ext w (w.alloc (.cells #[] 76)) := by (repeat (first | (with_reducible exact Ext.refl _) | (with_reducible assumption) | (with_reducible refine Ext.alloc ?_ _) | (with_reducible refine Ext.drew ?_) | (with_reducible refine Ext.drewN ?_ _) | ((with_reducible apply Ext.setCell); (case hp => first | omega | (simp; done) | (simp; omega))) | (with_reducible refine Ext.trans ?_ (by assumption))))
  have hO0 := World.ownsRow_made (e := 76) (size := 2) (base := w.heap.size) w #[] 0 (Nat.le_refl _) (by omega) rfl
  go_wp2
  go_loopg [7, 8] xs.length (fun g v i wr => ∃ k : Nat, k ≤ xs.length ∧ g = xs.length - k ∧ i = .int .i64 k ∧ Ext w wr ∧ wr.ownsRow w.heap.size 76 2 v ((xs.take k).filter (keepA now age)).length (((xs.take k).filter (keepA now age)).flatMap encA))
  case atStart => exact ⟨0, by omega, by omega, rfl, hE0, by simpa using hO0⟩
  case round =>
    clear hE0 hO0
    obtain ⟨k, hk, hg, rfl, hE, hown⟩ := hrel
    have HG := Lib.hid hg; clear hg
    by_cases hlt : k < xs.length
    · obtain ⟨x, hxk⟩ : ∃ x, xs[k]? = some x := ⟨_, List.getElem?_eq_getElem hlt⟩
      have hle := filter_le (p := keepA now age) (k := k) hk
      obtain ⟨s1, s2⟩ := addrs_in hok hxk
      have HX := Lib.hid hxk
      clear hxk
      go_wp2_with fail
      (refine (sAddrsOk_any _ xs _ (HS.out.ext hE) hn).mono ?_); rintro e w4 ⟨rfl, hb⟩
      replace hown := own_ext hown hb
      replace hE := hE.trans hb
      clear hb
      have q1 := (hx.ext hE hb1) k _ HX.out
      have q10 := q1 0 (by omega)
      have q11 := q1 1 (by omega)
      simp [encA] at q10 q11
      have hz := hE.size
      clear q1
      by_cases hkeep : now - age ≤ x.seen
      · have HF := Lib.hid (filter_keep (p := keepA now age) HX.out (by simp [keepA, hkeep]))
        go_wp2_with (first | (go_at_call 51; refine (l10Time_any _ _).mono ?_; rintro e w' ⟨rfl, rfl⟩) | (at_builtin; refine wpList_append_own _ rfl (.tmp 37) (.tmp 42) 44 rfl w.heap.size 76 i0 (.agg #[.int .i64 0, .int .i64 0]) 2 16 Try.underlying44 hi hz0 hz1 hz2 rfl (by decide) _ _ _ rfl (hown.alloc _) ⟨w4.heap.size, 0, none⟩ 1 1 [.int .i64 x.id, .int .i64 x.seen] rfl rfl (news_new (by simp)) (fun u hu => by simp at hu; rcases hu with rfl | rfl <;> rfl) (by unfold maxLen; omega) (by omega) (by simp; omega) ?_; intro v' w2 hown' hgrow _; have hE2 : Ext w w2 := Ext.of_grown (hE.alloc _) hgrow (fun b hb => (hown.lt b hb).1); have hO2 : w2.ownsRow w.heap.size 76 2 v' ((xs.take (k + 1)).filter (keepA now age)).length (((xs.take (k + 1)).filter (keepA now age)).flatMap encA) := (by rw [HF.out]; simpa [List.flatMap_append, encA] using hown'); clear hown' hgrow))
        go_roundg (xs.length - (k + 1))
        case measure => rw [HG.out]; omega
        case rel => exact ⟨k + 1, by omega, rfl, by go_num, hE2, hO2⟩
      · have HF := Lib.hid (filter_drop (p := keepA now age) HX.out (by simp [keepA]; omega))
        go_wp2_with (go_at_call 51; refine (l10Time_any _ _).mono ?_; rintro e w' ⟨rfl, rfl⟩)
        go_roundg (xs.length - (k + 1))
        case measure => rw [HG.out]; omega
        case rel => exact ⟨k + 1, by omega, rfl, by go_num, by (repeat (first | (with_reducible exact Ext.refl _) | (with_reducible assumption) | (with_reducible refine Ext.alloc ?_ _) | (with_reducible refine Ext.drew ?_) | (with_reducible refine Ext.drewN ?_ _) | ((with_reducible apply Ext.setCell); (case hp => first | omega | (simp; done) | (simp; omega))) | (with_reducible refine Ext.trans ?_ (by assumption)))), by rw [HF.out]; exact hown⟩
    · obtain rfl : k = xs.length := by omega
      rw [List.take_length] at hown
      go_wp2
      go_ret
      exact ⟨_, rfl, hown, hE⟩
theorem forget_no1 {xs : List Ad} {now age : Int} (h : addrsOk xs = false) : forget xs now age = [] := by simp [forget, h]
theorem forget_no2 {xs : List Ad} {now age : Int} (h : inB now 0 1000000 = false) : forget xs now age = [] := by simp [forget, h]
theorem forget_no3 {xs : List Ad} {now age : Int} (h : age < 0) : forget xs now age = [] := by
  have : decide (0 ≤ age) = false := by simp; omega
  simp [forget, this]
theorem forget_nil {now age : Int} : forget [] now age = [] := by simp [forget]
theorem forget_yes {xs : List Ad} {now age : Int} (h : addrsOk xs = true) (h2 : inB now 0 1000000 = true) (h3 : 0 ≤ age) : forget xs now age = xs.filter (keepA now age) := by simp [forget, h, h2, h3]

/-- Nothing, owned. -/
theorem owns_none (w : World) (base : Nat) (e : TypeId) (size : Nat) : w.ownsRow base e size (.slice none 0 0) 0 [] := World.ownsRow_nil w base e size

set_option maxHeartbeats 1000000 in
theorem forget_any (v : Value) (xs : List Ad) (now age : Int) (w : World) (hx : Sl encA 2 w v xs) (hn : xs.length ≤ 1048576) (hage2 : age ≤ 9223372036854775807) :
    Calls Try.prog 33 #[v, .int .i64 now, .int .i64 age] w fun e w' => ∃ v, e = .returned v ∧ w'.ownsRow w.heap.size 76 2 v (forget xs now age).length ((forget xs now age).flatMap encA) ∧ Ext w w' := by
  by_cases hok : addrsOk xs = true
  · by_cases hnow : inB now 0 1000000 = true
    · by_cases hage : 0 ≤ age
      · rcases hx with ⟨o, c, rfl, rfl⟩ | ⟨b1, o1, c1, rfl, hp, h1, h2, hb1, hx⟩
        · have hO0 := fun (w1 : World) (h : w.heap.size ≤ w1.heap.size) => World.ownsRow_made (e := 76) (size := 2) (base := w.heap.size) w1 #[] 0 h (by omega) rfl
          have HO := Lib.hid hO0
          clear hO0
          have hs : Sl encA 2 w (.slice o 0 c) [] := .inl ⟨o, c, rfl, rfl⟩
          have HS := Lib.hid hs
          clear hs
          have hage3 : ¬ age < 0 := by omega
          go_enter Try.func33, Try.ntmps33
          go_wp2_with fail
          (refine (addrsOk_any _ [] _ HS.out (by simp)).mono ?_); rintro e w1 ⟨rfl, hb⟩
          go_wp2_with (first | (go_at_call 53; refine (isTime_any _ _).mono ?_; rintro e w' ⟨rfl, rfl⟩))
          refine wp_loop_rounds 1 ?_
          rw [rounds_succ]
          go_wp2
          go_ret
          exact ⟨_, rfl, by rw [forget_nil]; exact HO.out w1 hb.size, by (repeat (first | (with_reducible exact Ext.refl _) | (with_reducible assumption) | (with_reducible refine Ext.alloc ?_ _) | (with_reducible refine Ext.drew ?_) | (with_reducible refine Ext.drewN ?_ _) | ((with_reducible apply Ext.setCell); (case hp => first | omega | (simp; done) | (simp; omega))) | (with_reducible refine Ext.trans ?_ (by assumption))))⟩
        · rw [forget_yes hok hnow hage]
          exact forget_non b1 o1 c1 xs now age w hx hp hn hb1 h2 h1 hok hnow hage hage2
      · have hage' : age < 0 := by omega
        have HF := Lib.hid (forget_no3 (xs := xs) (now := now) hage')
        go_enter Try.func33, Try.ntmps33
        go_wp2_with fail
        (refine (addrsOk_any _ xs _ hx hn).mono ?_); rintro e w1 ⟨rfl, hb⟩
        go_wp2_with (first | (go_at_call 53; refine (isTime_any _ _).mono ?_; rintro e w' ⟨rfl, rfl⟩))
        go_ret
        exact ⟨_, rfl, by rw [HF.out]; exact owns_none _ _ _ _, by (repeat (first | (with_reducible exact Ext.refl _) | (with_reducible assumption) | (with_reducible refine Ext.alloc ?_ _) | (with_reducible refine Ext.drew ?_) | (with_reducible refine Ext.drewN ?_ _) | ((with_reducible apply Ext.setCell); (case hp => first | omega | (simp; done) | (simp; omega))) | (with_reducible refine Ext.trans ?_ (by assumption))))⟩
    · replace hnow : inB now 0 1000000 = false := by simpa using hnow
      have HF := Lib.hid (forget_no2 (xs := xs) (age := age) hnow)
      go_enter Try.func33, Try.ntmps33
      go_wp2_with fail
      (refine (addrsOk_any _ xs _ hx hn).mono ?_); rintro e w1 ⟨rfl, hb⟩
      go_wp2_with (first | (go_at_call 53; refine (isTime_any _ _).mono ?_; rintro e w' ⟨rfl, rfl⟩))
      go_ret
      exact ⟨_, rfl, by rw [HF.out]; exact owns_none _ _ _ _, by (repeat (first | (with_reducible exact Ext.refl _) | (with_reducible assumption) | (with_reducible refine Ext.alloc ?_ _) | (with_reducible refine Ext.drew ?_) | (with_reducible refine Ext.drewN ?_ _) | ((with_reducible apply Ext.setCell); (case hp => first | omega | (simp; done) | (simp; omega))) | (with_reducible refine Ext.trans ?_ (by assumption))))⟩
  · replace hok : addrsOk xs = false := by simpa using hok
    have HF := Lib.hid (forget_no1 (now := now) (age := age) hok)
    go_enter Try.func33, Try.ntmps33
    go_wp2_with fail
    (refine (addrsOk_any _ xs _ hx hn).mono ?_); rintro e w1 ⟨rfl, hb⟩
    go_wp2
    go_ret
    exact ⟨_, rfl, by rw [HF.out]; exact owns_none _ _ _ _, by (repeat (first | (with_reducible exact Ext.refl _) | (with_reducible assumption) | (with_reducible refine Ext.alloc ?_ _) | (with_reducible refine Ext.drew ?_) | (with_reducible refine Ext.drewN ?_ _) | ((with_reducible apply Ext.setCell); (case hp => first | omega | (simp; done) | (simp; omega))) | (with_reducible refine Ext.trans ?_ (by assumption))))⟩

set_option maxHeartbeats 1000000 in
theorem sForget_any (v : Value) (xs : List Ad) (now age : Int) (w : World) (hx : Sl encA 2 w v xs) (hn : xs.length ≤ 1048576) (hage2 : age ≤ 9223372036854775807) :
    Calls Try.prog 32 #[v, .int .i64 now, .int .i64 age] w fun e w' => ∃ v, e = .returned v ∧ w'.ownsRow w.heap.size 76 2 v (forget xs now age).length ((forget xs now age).flatMap encA) ∧ Ext w w' := by
  rcases hx with ⟨o, c, rfl, rfl⟩ | ⟨b1, o1, c1, rfl, hp, h1, h2, hb1, hx⟩
  · have hO := World.ownsRow_made (e := 76) (size := 2) (base := w.heap.size) w #[] 0 (Nat.le_refl _) (by omega) rfl
    have HO := Lib.hid hO
    clear hO
    go_enter Try.func32, Try.ntmps32
    go_wp2
    refine wp_loop_rounds 1 ?_
    rw [rounds_succ]
    go_wp2
    go_ret
    exact ⟨_, rfl, by rw [forget_nil]; exact HO.out, by (repeat (first | (with_reducible exact Ext.refl _) | (with_reducible assumption) | (with_reducible refine Ext.alloc ?_ _) | (with_reducible refine Ext.drew ?_) | (with_reducible refine Ext.drewN ?_ _) | ((with_reducible apply Ext.setCell); (case hp => first | omega | (simp; done) | (simp; omega))) | (with_reducible refine Ext.trans ?_ (by assumption))))⟩
  · by_cases hyes : (addrsOk xs = true ∧ inB now 0 1000000 = true) ∧ 0 ≤ age
    · obtain ⟨⟨hok, hnow⟩, hage⟩ := hyes
      rw [forget_yes hok hnow hage]
      exact sForget_non b1 o1 c1 xs now age w hx hp hn hb1 h2 h1 hok hnow hage hage2
    · have hs : Sl encA 2 w (.slice (some ⟨b1, o1, none⟩) xs.length c1) xs := .inr ⟨b1, o1, c1, rfl, hp, h1, h2, hb1, hx⟩
      have HS := Lib.hid hs
      clear hs h1 h2
      have HF : Hid (forget xs now age = []) := by
        by_cases k1 : addrsOk xs = true
        · by_cases k2 : inB now 0 1000000 = true
          · exact forget_no3 (by have : ¬ 0 ≤ age := fun h => hyes ⟨⟨k1, k2⟩, h⟩; omega)
          · exact forget_no2 (by simpa using k2)
        · exact forget_no1 (by simpa using k1)
      have HY := Lib.hid hyes
      clear hyes
      have hO := World.ownsRow_made (e := 76) (size := 2) (base := w.heap.size) w #[] 0 (Nat.le_refl _) (by omega) rfl
      have HO := Lib.hid hO
      clear hO
      have hlen : (0 : Int) < (xs.length : Int) := by omega
      go_enter Try.func32, Try.ntmps32
      go_wp2
      refine wp_loop_rounds 1 ?_
      rw [rounds_succ]
      go_wp2_with fail
      (refine (sAddrsOk_any _ xs _ (HS.out.ext (by (repeat (first | (with_reducible exact Ext.refl _) | (with_reducible assumption) | (with_reducible refine Ext.alloc ?_ _) | (with_reducible refine Ext.drew ?_) | (with_reducible refine Ext.drewN ?_ _) | ((with_reducible apply Ext.setCell); (case hp => first | omega | (simp; done) | (simp; omega))) | (with_reducible refine Ext.trans ?_ (by assumption)))))) hn).mono ?_); rintro e w1 ⟨rfl, hb⟩
      go_wp2_with (first | (go_at_call 51; refine (l10Time_any _ _).mono ?_; rintro e w' ⟨rfl, rfl⟩))
      all_goals first | (exfalso; exact HY.out ⟨⟨by assumption, by assumption⟩, by omega⟩) | (go_ret; exact ⟨_, rfl, by rw [HF.out]; exact own_ext HO.out hb, by (repeat (first | (with_reducible exact Ext.refl _) | (with_reducible assumption) | (with_reducible refine Ext.alloc ?_ _) | (with_reducible refine Ext.drew ?_) | (with_reducible refine Ext.drewN ?_ _) | ((with_reducible apply Ext.setCell); (case hp => first | omega | (simp; done) | (simp; omega))) | (with_reducible refine Ext.trans ?_ (by assumption))))⟩)
end Go.Proofs.Ythnmiimckgphnaa

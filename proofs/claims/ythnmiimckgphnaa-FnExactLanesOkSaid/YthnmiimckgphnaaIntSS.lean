/- The walks over slices of slices of int. -/
import Derived.Test.YthnmiimckgphnaaInts
import Derived.Test.YthnmiimckgphnaaNest
import Derived.Deep.RegionHeld3
namespace Go.Proofs.Ythnmiimckgphnaa
open Go.RowKit

theorem infoIS : (Try.prog.info? 81).map (fun i => (i.zero, i.size, i.bytes)) = some (some (.slice none 0 0), 1, 24) := by kernel_rfl

set_option maxRecDepth 100000 in
set_option maxHeartbeats 2000000 in
theorem toIntSS_non (b1 o1 c1 : Nat) (us : List Value) (xss : List (List Int)) (w : World) (hx : SlAt encV 1 w b1 o1 us) (hr : All2 (Sl encI 1 w) us xss) (hp : 0 < us.length) (hn : us.length ≤ 1048576) (hb1 : b1 < w.heap.size) (hrl : ∀ xs ∈ xss, xs.length ≤ 1048576) :
    Calls Try.prog 60 #[.slice (some ⟨b1, o1, none⟩) us.length c1] w fun e w' => ∃ v, e = .returned v ∧ OwnSS encI 1 81 3 w.heap.size w' v xss ∧ Ext w w' := by
  obtain ⟨i0, hi, hz0, hz1, hz2⟩ := info_parts infoIS
  have hn' : us.length ≤ 9223372036854775807 := by omega
  have hlen := hr.length
  have HLEN := Lib.hid hlen
  clear hlen
  have HRL := Lib.hid hrl
  clear hrl
  go_enter Try.func60, Try.ntmps60
  go_wp2_with (at_make; refine wpList_make_full _ rfl (.tmp 6) (.tmp 6) 53 rfl w.heap.size 81 i0 _ 1 Try.underlying53 hi hz0 hz1 .i64 .i64 _ _ us.length rfl rfl rfl rfl (by rw [hz2]; omega) (by unfold maxLen; omega) (Nat.le_refl _) ?_; intro w1 hown hgrow)
  have hP := Part.start (enc := encV) (xs := ([] : List Value)) hown
  have hE := Ext.of_grownBy hgrow
  clear hown hgrow
  go_loopg [4] us.length (fun g i wr => ∃ (k : Nat) (vs : List Value), k ≤ us.length ∧ g = us.length - k ∧ i = .int .i64 k ∧ Ext w wr ∧ vs.length = k ∧ Part encV 1 81 wr w.heap.size us.length us.length k vs ∧ RowsOwn encI 1 3 (w.heap.size + 1) wr vs (xss.take k) ∧ Hid (vs.Pairwise Apart))
  case atStart => exact ⟨0, [], by omega, by omega, rfl, hE, rfl, hP, trivial, List.Pairwise.nil⟩
  case round =>
    clear hE hP
    obtain ⟨k, vs, hk, hg, rfl, hE, hvl, hP, hR, hPw⟩ := hrel
    have HG := Lib.hid hg; clear hg
    have HVL := Lib.hid hvl; clear hvl
    by_cases hlt : k < us.length
    · obtain ⟨u, huk⟩ : ∃ u, us[k]? = some u := ⟨_, List.getElem?_eq_getElem hlt⟩
      obtain ⟨xs, hxk, hxs⟩ := All2.get hr huk
      have q1 := (hx.ext hE hb1) k _ huk
      have q10 := q1 0 (by omega)
      simp [encV] at q10
      have hxl := HRL.out xs (List.mem_of_getElem? hxk)
      have HX := Lib.hid hxk
      have hlg := hP.lt
      clear q1 huk hxk
      go_wp2_with fail
      refine (toIntS_any u xs wr (hxs.ext hE) hxl).mono ?_
      rintro e w2 ⟨rv, rfl, hO, hb⟩
      obtain ⟨ro, rl, rc, rfl⟩ := own_slice hO
      have hP2 := (hP.ext hb).more (ys := [Value.slice ro rl rc]) (by have := HVL.out; omega)
      have hR2 := (hR.ext hb).snoc (own_base hO (by omega))
      have hPw2 : Hid ((vs ++ [Value.slice ro rl rc]).Pairwise Apart) := pair_snoc hPw.out (fun a ha j h1 h2 => by
        have := hR.lt ha j h1
        have := hO.lt j h2
        omega)
      have hne : ∀ a ∈ vs ++ [Value.slice ro rl rc], a.ownBlock = none ∨ a.ownBlock ≠ some w.heap.size := fun a ha => by
        cases e : a.ownBlock with
        | none => exact .inl rfl
        | some j =>
          have := hR2.lt ha j e
          right
          intro e2
          have := Option.some.inj e2
          omega
      have HNE := Lib.hid hne
      obtain ⟨s0, p0⟩ := hP2.cell k (by omega)
      have f0 := hP2.frozen k
      clear hne hP hR hO
      go_wp2
      go_roundg (us.length - (k + 1))
      case measure => rw [HG.out]; omega
      case rel =>
        refine ⟨k + 1, vs ++ [Value.slice ro rl rc], by omega, rfl, by go_num, by (repeat (first | (with_reducible exact Ext.refl _) | (with_reducible assumption) | (with_reducible refine Ext.alloc ?_ _) | (with_reducible refine Ext.drew ?_) | (with_reducible refine Ext.drewN ?_ _) | ((with_reducible apply Ext.setCell); (case hp => first | omega | (simp; done) | (simp; omega))) | (with_reducible refine Ext.trans ?_ (by assumption)))), by have := HVL.out; simp; omega, ?_, ?_, hPw2⟩
        · have hS := hP2.store (x := Value.slice ro rl rc) (by rw [List.getElem?_append_right (by have := HVL.out; omega), HVL.out]; simp) hlt rfl
          rw [Nat.mul_one] at hS
          exact hS
        · rw [List.take_add_one, HX.out]
          exact hR2.keep (grownBy_set (grownBy_refl _ _) _ _) HNE.out
    · obtain rfl : k = us.length := by omega
      go_wp2
      go_ret
      refine ⟨_, rfl, ⟨vs, ?_, ?_, hPw.out, ?_⟩, hE⟩
      · have hD := hP.done encV_len (by omega) HVL.out (Nat.le_refl _) (by unfold maxLen; omega)
        rw [HVL.out]
        exact hD
      · rw [HLEN.out, List.take_length] at hR
        exact hR.rebase (by omega)
      · intro a ha j h1 h2
        have := hR.lt ha j h2
        have e : w.heap.size = j := Option.some.inj h1
        omega

theorem toIntSS_any (v : Value) (xss : List (List Int)) (w : World) (hx : SlSl encI 1 w v xss) (hn : xss.length ≤ 1048576) (hrl : ∀ xs ∈ xss, xs.length ≤ 1048576) :
    Calls Try.prog 60 #[v] w fun e w' => ∃ v', e = .returned v' ∧ OwnSS encI 1 81 3 w.heap.size w' v' xss ∧ Ext w w' := by
  obtain ⟨us, hu, hr⟩ := hx
  have hlen := hr.length
  rcases hu with ⟨o, c, rfl, rfl⟩ | ⟨b1, o1, c1, rfl, hp, h1, h2, hb1, hx⟩
  · obtain rfl : xss = [] := List.eq_nil_of_length_eq_zero hlen.symm
    obtain ⟨i0, hi, hz0, hz1, hz2⟩ := info_parts infoIS
    clear hlen hr
    go_enter Try.func60, Try.ntmps60
    go_wp2_with (at_make; refine wpList_make_full _ rfl (.tmp 6) (.tmp 6) 53 rfl w.heap.size 81 i0 _ 1 Try.underlying53 hi hz0 hz1 .i64 .i64 _ _ 0 rfl rfl rfl rfl (by omega) (by omega) (Nat.le_refl _) ?_; intro w1 hown hgrow)
    have hE := Ext.of_grownBy hgrow
    have hO : w1.ownsRow w.heap.size 81 1 (.slice (some ⟨w.heap.size, 0, none⟩) 0 0) 0 [] := by simpa [madeCells] using hown
    clear hgrow hown
    refine wp_loop_rounds 1 ?_
    rw [rounds_succ]
    go_wp2
    go_ret
    exact ⟨_, rfl, ⟨[], hO, trivial, List.Pairwise.nil, by simp⟩, hE⟩
  · exact toIntSS_non b1 o1 c1 us xss w hx hr hp (by omega) hb1 hrl

set_option maxRecDepth 100000 in
set_option maxHeartbeats 2000000 in
theorem eqIntSS_any (v1 v2 : Value) (xss : List (List Int)) (w : World) (h1 : SlSl encI 1 w v1 xss) (h2 : SlSl encI 1 w v2 xss) :
    Calls Try.prog 61 #[v1, v2] w fun e w' => e = .returned (.bool true) ∧ Ext w w' := by
  obtain ⟨us, hu, hr⟩ := h1
  obtain ⟨us2, hu2, hr2⟩ := h2
  have hl1 := hr.length
  have hl2 := hr2.length
  rcases hu with ⟨o, c, rfl, rfl⟩ | ⟨b1, o1, c1, rfl, hp, hq1, hq2, hb1, hx⟩
  · rcases hu2 with ⟨o', c', rfl, _⟩ | ⟨b2, o2, c2, rfl, hp, _⟩
    · clear hl1 hl2 hr hr2
      go_enter Try.func61, Try.ntmps61
      go_wp2
      refine wp_loop_rounds 1 ?_
      rw [rounds_succ]
      go_wp2
      go_ret
      exact ⟨rfl, by (repeat (first | (with_reducible exact Ext.refl _) | (with_reducible assumption) | (with_reducible refine Ext.alloc ?_ _) | (with_reducible refine Ext.drew ?_) | (with_reducible refine Ext.drewN ?_ _) | ((with_reducible apply Ext.setCell); (case hp => first | omega | (simp; done) | (simp; omega))) | (with_reducible refine Ext.trans ?_ (by assumption))))⟩
    · simp at hl1; omega
  · rcases hu2 with ⟨o', c', rfl, rfl⟩ | ⟨b2, o2, c2, rfl, _, hq3, hq4, hb2, hy⟩
    · simp at hl2; omega
    · have hn : us.length ≤ 9223372036854775807 := by unfold maxLen at hq2; omega
      rw [show us2.length = us.length by omega]
      have HL1 := Lib.hid hl1
      have HL2 := Lib.hid hl2
      clear hl1 hl2 hq1 hq2 hq3 hq4
      replace hx : SlAt encV 1 w b1 o1 us := hx
      replace hy : SlAt encV 1 w b2 o2 us2 := hy
      go_enter Try.func61, Try.ntmps61
      go_wp2
      go_loopg [5] us.length (fun g i wr => ∃ k : Nat, k ≤ us.length ∧ g = us.length - k ∧ i = .int .i64 k ∧ Ext w wr)
      case atStart => exact ⟨0, by omega, by omega, rfl, Ext.refl _⟩
      case round =>
        obtain ⟨k, hk, hg, rfl, hE⟩ := hrel
        have HG := Lib.hid hg; clear hg
        by_cases hlt : k < us.length
        · obtain ⟨u, huk⟩ : ∃ u, us[k]? = some u := ⟨_, List.getElem?_eq_getElem hlt⟩
          obtain ⟨u2, huk2⟩ : ∃ u, us2[k]? = some u := ⟨_, List.getElem?_eq_getElem (by have := HL1.out; have := HL2.out; omega)⟩
          obtain ⟨xs, hxk, hxs⟩ := All2.get hr huk
          obtain ⟨xs', hxk', hxs'⟩ := All2.get hr2 huk2
          obtain rfl : xs = xs' := by rw [hxk] at hxk'; exact Option.some.inj hxk'
          have q1 := (hx.ext hE hb1) k _ huk 0 (by omega)
          have q2 := (hy.ext hE hb2) k _ huk2 0 (by omega)
          simp [encV] at q1 q2
          clear huk huk2 hxk hxk'
          have i0 : (0 : Int) ≤ (k : Int) := by omega
          have i1 : (k : Int) < (us.length : Int) := by omega
          go_wp2_with fail
          go_region_held3 (fun w' => w'.cell? ⟨b1, o1 + k, none⟩ = some u ∧ w'.cell? ⟨b2, o2 + k, none⟩ = some u2) ((first | go_keep | ((try dsimp only); (try go_split_ands); (repeat' apply And.intro) <;> exact hb.cellSome (by assumption))))
            ((go_at_call 72; refine (eqIntS_any u u2 xs _ (hxs.ext (by (repeat (first | (with_reducible exact Ext.refl _) | (with_reducible assumption) | (with_reducible refine Ext.alloc ?_ _) | (with_reducible refine Ext.drew ?_) | (with_reducible refine Ext.drewN ?_ _) | ((with_reducible apply Ext.setCell); (case hp => first | omega | (simp; done) | (simp; omega))) | (with_reducible refine Ext.trans ?_ (by assumption)))))) (hxs'.ext (by (repeat (first | (with_reducible exact Ext.refl _) | (with_reducible assumption) | (with_reducible refine Ext.alloc ?_ _) | (with_reducible refine Ext.drew ?_) | (with_reducible refine Ext.drewN ?_ _) | ((with_reducible apply Ext.setCell); (case hp => first | omega | (simp; done) | (simp; omega))) | (with_reducible refine Ext.trans ?_ (by assumption))))))).mono ?_; rintro e w1 ⟨rfl, hb⟩))
          go_wp2
          go_roundg (us.length - (k + 1))
          case measure => rw [HG.out]; omega
          case rel => exact ⟨k + 1, by omega, rfl, by go_num, by (repeat (first | (with_reducible exact Ext.refl _) | (with_reducible assumption) | (with_reducible refine Ext.alloc ?_ _) | (with_reducible refine Ext.drew ?_) | (with_reducible refine Ext.drewN ?_ _) | ((with_reducible apply Ext.setCell); (case hp => first | omega | (simp; done) | (simp; omega))) | (with_reducible refine Ext.trans ?_ (by assumption))))⟩
        · go_wp2
          go_ret
          exact ⟨rfl, by (repeat (first | (with_reducible exact Ext.refl _) | (with_reducible assumption) | (with_reducible refine Ext.alloc ?_ _) | (with_reducible refine Ext.drew ?_) | (with_reducible refine Ext.drewN ?_ _) | ((with_reducible apply Ext.setCell); (case hp => first | omega | (simp; done) | (simp; omega))) | (with_reducible refine Ext.trans ?_ (by assumption))))⟩

/-- What szIntSS leaves. -/
def szRows : Int → List (List Int) → Int
  | l, [] => l
  | l, x :: xs => if l < x.length then -1 else szRows (l - x.length) xs
def szSS (l : Int) (xss : List (List Int)) : Int := if l < xss.length then -1 else szRows (l - xss.length) xss
theorem szRows_bd : ∀ (xss : List (List Int)) (l : Int), 0 ≤ l → szRows l xss = -1 ∨ (0 ≤ szRows l xss ∧ ∀ xs ∈ xss, (xs.length : Int) ≤ l)
  | [], l, h => .inr ⟨h, by simp⟩
  | x :: xs, l, h => by
    unfold szRows
    split
    · exact .inl rfl
    · rcases szRows_bd xs (l - x.length) (by omega) with h1 | ⟨h1, h2⟩
      · exact .inl h1
      · refine .inr ⟨h1, fun y hy => ?_⟩
        rcases List.mem_cons.1 hy with rfl | hy
        · omega
        · have := h2 y hy; omega
theorem szSS_bd {xss : List (List Int)} {l : Int} : szSS l xss = -1 ∨ (0 ≤ szSS l xss ∧ (xss.length : Int) ≤ l ∧ ∀ xs ∈ xss, (xs.length : Int) ≤ l) := by
  unfold szSS
  split
  · exact .inl rfl
  · rcases szRows_bd xss (l - xss.length) (by omega) with h1 | ⟨h1, h2⟩
    · exact .inl h1
    · exact .inr ⟨h1, by omega, fun xs hx => by have := h2 xs hx; omega⟩

set_option maxRecDepth 100000 in
set_option maxHeartbeats 2000000 in
theorem szIntSS_any (v : Value) (xss : List (List Int)) (left : Int) (w : World) (h : SlSl encI 1 w v xss) (h0 : 0 ≤ left) (h1 : left ≤ 1048576) :
    Calls Try.prog 59 #[v, .int .i64 left] w fun e w' => e = .returned (.int .i64 (szSS left xss)) ∧ w = w' := by
  have hbd := h.bd
  obtain ⟨us, hu, hr⟩ := h
  have hl1 := hr.length
  have hsl : ∃ o c, v = .slice o us.length c := by
    rcases hu with ⟨o, c, rfl, rfl⟩ | ⟨b1, o1, c1, rfl, _⟩
    · exact ⟨_, _, rfl⟩
    · exact ⟨_, _, rfl⟩
  by_cases hlt : left < us.length
  · obtain ⟨o, c, rfl⟩ := hsl
    have HS : Hid (szSS left xss = -1) := by unfold Hid szSS; rw [if_pos (by omega)]
    replace hbd : us.length ≤ 9223372036854775807 := by unfold maxLen at hbd; omega
    clear hl1
    go_enter Try.func59, Try.ntmps59
    go_wp2
    go_ret
    exact ⟨ret_int HS.out, rfl⟩
  · have HS : Hid (szSS left xss = szRows (left - us.length) xss) := by unfold Hid szSS; rw [if_neg (by omega), hl1]
    rcases hu with ⟨o, c, rfl, rfl⟩ | ⟨b1, o1, c1, rfl, hp, hq1, hq2, hb1, hx⟩
    · obtain rfl : xss = [] := List.eq_nil_of_length_eq_zero hl1.symm
      clear hl1 hr hsl hlt
      go_enter Try.func59, Try.ntmps59
      go_wp2
      refine wp_loop_rounds 1 ?_
      rw [rounds_succ]
      go_wp2
      go_ret
      exact ⟨ret_int (HS.out.trans (by simp [szRows])), rfl⟩
    · have HL1 := Lib.hid hl1
      have hle : (us.length : Int) ≤ left := by omega
      clear hl1 hsl hq1 hq2 hbd
      replace hx : SlAt encV 1 w b1 o1 us := hx
      go_enter Try.func59, Try.ntmps59
      go_wp2
      go_loopg [1, 5] us.length (fun g lv i wr => ∃ (k : Nat) (l : Int), k ≤ us.length ∧ g = us.length - k ∧ i = .int .i64 k ∧ lv = .int .i64 l ∧ 0 ≤ l ∧ l ≤ 1048576 ∧ wr = w ∧ Hid (szSS left xss = szRows l (xss.drop k)))
      case atStart => exact ⟨0, left - us.length, by omega, by omega, rfl, rfl, by omega, by omega, rfl, HS.out⟩
      case round =>
        obtain ⟨k, l, hk, hg, rfl, rfl, l0, l1, rfl, hA⟩ := hrel
        have HG := Lib.hid hg; clear hg
        by_cases hlt2 : k < us.length
        · obtain ⟨u, huk⟩ : ∃ u, us[k]? = some u := ⟨_, List.getElem?_eq_getElem hlt2⟩
          obtain ⟨xs, hxk, hxs⟩ := All2.get hr huk
          have q1 := hx k _ huk 0 (by omega)
          simp [encV] at q1
          have hxlen := hxs.len
          have hus : ∃ o c, u = .slice o xs.length c := by
            rcases hxs with ⟨o, c, rfl, rfl⟩ | ⟨b1, o1, c1, rfl, _⟩
            · exact ⟨_, _, rfl⟩
            · exact ⟨_, _, rfl⟩
          obtain ⟨uo, uc, rfl⟩ := hus
          have hd : xss.drop k = xs :: xss.drop (k + 1) := by
            have hkl : k < xss.length := (List.getElem?_eq_some_iff.1 hxk).1
            rw [List.drop_eq_getElem_cons hkl]
            congr 1
            rw [List.getElem?_eq_getElem hkl] at hxk
            exact Option.some.inj hxk
          have HXL := Lib.hid hxlen
          have hA2 := hA.out
          rw [hd] at hA2
          unfold szRows at hA2
          clear huk hxk hd hxlen
          by_cases hsm : l < xs.length
          · rw [if_pos hsm] at hA2
            have HA := Lib.hid hA2
            have E : szOf l xs.length = -1 := szOf_no hsm
            clear hA2
            go_wp2_with fail
            refine (szIntS_any _ _ _ _ _ HXL.out l0 l1).mono ?_
            rintro e w' ⟨rfl, rfl⟩
            rw [E]
            go_wp2
            go_ret
            exact ⟨ret_int HA.out, rfl⟩
          · rw [if_neg hsm] at hA2
            have HA := Lib.hid hA2
            have E : szOf l xs.length = l - xs.length := szOf_yes hsm
            have hsm' : (xs.length : Int) ≤ l := by omega
            clear hA2
            go_wp2_with fail
            refine (szIntS_any _ _ _ _ _ HXL.out l0 l1).mono ?_
            rintro e w' ⟨rfl, rfl⟩
            rw [E]
            clear E
            go_wp2
            go_roundg (us.length - (k + 1))
            case measure => rw [HG.out]; omega
            case rel => exact ⟨k + 1, l - xs.length, by omega, rfl, by go_num, rfl, by omega, by omega, rfl, HA.out⟩
        · have hke : k = us.length := by omega
          have HE : Hid (szSS left xss = l) := by
            have := hA.out
            rw [hke, HL1.out, List.drop_length] at this
            exact this
          clear hke
          go_wp2
          go_ret
          exact ⟨ret_int HE.out, rfl⟩
end Go.Proofs.Ythnmiimckgphnaa

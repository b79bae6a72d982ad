/- FnBucket: the walk. -/
import Derived.Test.YthnmiimckgphnaaAt
import Derived.Test.YthnmiimckgphnaaBucket
import Derived.Test.YthnmiimckgphnaaReadSl
import Derived.Deep.RegionHeld3
namespace Go.Proofs.Ythnmiimckgphnaa
open Go.RowKit Go.ChangeShapes Go.WideShapes

/-- What holds at the head of each round. -/
def FbInv (c r l0 : Int) (k : Nat) (all now took l a : Int) : Prop :=
  0 ≤ l ∧ l ≤ c ∧ 0 ≤ a ∧ a ≤ now ∧ now ≤ 4 * (k - 3) ∧ 0 ≤ took ∧ took ≤ 6 * (k - 3) ∧ 0 ≤ all ∧ all ≤ 20 + 12 * (k - 3) ∧ (all = l0 + r * now ∧ took + l ≤ l0 + r * a)
theorem fb_start {c r l0 : Int} (h1 : 0 ≤ l0) (h2 : l0 ≤ c) (hc : c ≤ 20 := by omega) : FbInv c r l0 3 l0 0 0 l0 0 :=
  ⟨h1, h2, by omega, by omega, by omega, by omega, by omega, by omega, by omega, by simp, by simp⟩
theorem mul_small {r d : Int} (h1 : 0 ≤ r) (h2 : r ≤ 3) (h3 : 0 ≤ d) (h4 : d ≤ 4) : 0 ≤ r * d ∧ r * d ≤ 12 :=
  ⟨Int.mul_nonneg h1 h3, Int.le_trans (Int.mul_le_mul h2 h4 h3 (by omega)) (by omega)⟩

theorem see_min {c r l a now : Int} (h : bucketOk c r l a = true) (h1 : a ≤ now) (h2 : now ≤ 1000000) : bucketSee c r l a now ≤ l + r * (now - a) := by
  have ha := (bucketOk_iff.1 h).2.2.2.1
  have : inB now 0 1000000 = true := inB_iff.2 ⟨by omega, h2⟩
  simp only [bucketSee, h, this, h1, decide_true, Bool.and_self, if_true]
  exact Int.min_le_right _ _
theorem fb_take {c r l0 : Int} {k : Nat} {all now took l a d n s : Int} (h : FbInv c r l0 k all now took l a) (d0 : 0 ≤ d) (d1 : d ≤ 4) (n0 : 1 ≤ n) (n1 : n ≤ 6) (hn : n ≤ s) (hs : s ≤ c) (hm : s ≤ l + r * (now + d - a)) (hr : 0 ≤ r := by omega) (hr3 : r ≤ 3 := by omega) :
    FbInv c r l0 (k + 1) (all + r * d) (now + d) (took + n) (s - n) (now + d) ∧ took + n ≤ all + r * d := by
  obtain ⟨i1, i2, i3, i4, i5, i6, i7, i8, i9, i10, i11⟩ := h
  have e1 : r * (now + d - a) = r * now + r * d - r * a := by rw [Int.mul_sub, Int.mul_add]
  have e2 : r * (now + d) = r * now + r * d := Int.mul_add _ _ _
  obtain ⟨m1, m2⟩ := mul_small hr hr3 d0 d1
  refine ⟨⟨by omega, by omega, by omega, by omega, by omega, by omega, by omega, by omega, by omega, by omega, by omega⟩, by omega⟩
theorem fb_skip {c r l0 : Int} {k : Nat} {all now took l a d : Int} (h : FbInv c r l0 k all now took l a) (d0 : 0 ≤ d) (d1 : d ≤ 4) (hr : 0 ≤ r) (hr3 : r ≤ 3 := by omega) :
    FbInv c r l0 (k + 1) (all + r * d) (now + d) took l a ∧ took ≤ all + r * d := by
  obtain ⟨i1, i2, i3, i4, i5, i6, i7, i8, i9, i10, i11⟩ := h
  have e2 : r * (now + d) = r * now + r * d := Int.mul_add _ _ _
  obtain ⟨m1, m2⟩ := mul_small hr hr3 d0 d1
  have e3 : r * a ≤ r * now := Int.mul_le_mul_of_nonneg_left i4 hr
  refine ⟨⟨by omega, by omega, by omega, by omega, by omega, by omega, by omega, by omega, by omega, by omega, by omega⟩, by omega⟩

set_option maxRecDepth 100000 in
set_option maxHeartbeats 8000000 in
theorem fnBucket_any (v : Value) (bs : List UInt8) (w : World) (hx : Sl encB 1 w v bs) :
    Calls Try.prog 5 #[v] w fun e w' => e = .returned (.bool true) ∧ Ext w w' := by
  have hsz : ∃ o c, v = .slice o bs.length c := by
    rcases hx with ⟨o, c, rfl, rfl⟩ | ⟨b1, o1, c1, rfl, _⟩
    · exact ⟨_, _, rfl⟩
    · exact ⟨_, _, rfl⟩
  have hm := hx.len
  by_cases hl : 1048576 < bs.length
  · obtain ⟨o, c, rfl⟩ := hsz
    have hd : decide (1048576 < bs.length) = true := by simpa using hl
    go_enter Try.func5, Try.ntmps5
    go_wp2_with fail
    (refine (big_any _ _ _ _ hm).mono ?_); rintro e w' ⟨rfl, rfl⟩
    go_wp2
    go_ret
    exact ⟨rfl, by (repeat (first | (with_reducible exact Ext.refl _) | (with_reducible assumption) | (with_reducible refine Ext.alloc ?_ _) | (with_reducible refine Ext.drew ?_) | (with_reducible refine Ext.drewN ?_ _) | ((with_reducible apply Ext.setCell); (case hp => first | omega | (simp; done) | (simp; omega))) | (with_reducible refine Ext.trans ?_ (by assumption))))⟩
  · have hn : bs.length ≤ 1048576 := by omega
    have hd : decide (1048576 < bs.length) = false := by simpa using hl
    have HV := Lib.hid hsz
    clear hsz
    obtain ⟨a00, a01⟩ := atV_bd bs 0
    obtain ⟨a10, a11⟩ := atV_bd bs 1
    obtain ⟨a20, a21⟩ := atV_bd bs 2
    generalize e0 : atV bs 0 = x0 at *
    generalize e1 : atV bs 1 = x1 at *
    have E0 := Lib.hid e0; have E1 := Lib.hid e1
    clear e0 e1
    go_enter Try.func5, Try.ntmps5
    go_wp2_with fail
    obtain ⟨o, c, rfl⟩ := HV.out
    (refine (big_any _ _ _ _ hm).mono ?_); rintro e w' ⟨rfl, rfl⟩
    go_wp2_with fail
    (refine (at_any _ bs _ _ hx hn (by omega) (by omega)).mono ?_); rintro e w' ⟨rfl, rfl⟩
    rw [E0.out]
    go_wp2_with fail
    (refine (at_any _ bs _ _ hx hn (by omega) (by omega)).mono ?_); rintro e w' ⟨rfl, rfl⟩
    rw [E1.out]
    go_wp2_with fail
    have hw : IntKind.i64.wrap (1 + x0 % 20 + 1) = 1 + x0 % 20 + 1 := IntWalk.i64_in _ (by omega)
    have hz : ¬ (1 + x0 % 20 + 1 = 0) := by omega
    have ht : (atV bs 2).tmod (1 + x0 % 20 + 1) = atV bs 2 % (1 + x0 % 20 + 1) := Int.tmod_eq_emod_of_nonneg a20
    have hq0 : 0 ≤ atV bs 2 % (1 + x0 % 20 + 1) := Int.emod_nonneg _ (by omega)
    have hq1 : atV bs 2 % (1 + x0 % 20 + 1) < 1 + x0 % 20 + 1 := Int.emod_lt_of_pos _ (by omega)
    have hw2 : IntKind.i64.wrap (atV bs 2 % (1 + x0 % 20 + 1)) = atV bs 2 % (1 + x0 % 20 + 1) := IntWalk.i64_in _ (by omega)
    go_region_held3 (fun w' => w'.cell? ⟨w.heap.size, 0, none⟩ = some (.int .i64 (1 + x0 % 20))) ((first | go_keep | ((try dsimp only); (try go_split_ands); (repeat' apply And.intro) <;> exact hb.cellSome (by assumption))))
      ((go_at_call 20; refine (at_any _ bs _ _ (hx.ext (by (repeat (first | (with_reducible exact Ext.refl _) | (with_reducible assumption) | (with_reducible refine Ext.alloc ?_ _) | (with_reducible refine Ext.drew ?_) | (with_reducible refine Ext.drewN ?_ _) | ((with_reducible apply Ext.setCell); (case hp => first | omega | (simp; done) | (simp; omega))) | (with_reducible refine Ext.trans ?_ (by assumption)))))) hn (by omega) (by omega)).mono ?_; rintro e w' ⟨rfl, rfl⟩))
    have r0 : 1 ≤ 1 + x0 % 20 ∧ 1 + x0 % 20 ≤ 20 := by omega
    have r1 : 0 ≤ x1 % 4 ∧ x1 % 4 ≤ 3 := by omega
    have r2 : 0 ≤ atV bs 2 % (1 + x0 % 20 + 1) ∧ atV bs 2 % (1 + x0 % 20 + 1) ≤ 1 + x0 % 20 := by omega
    clear hw hz ht hq0 hq1 hw2
    generalize atV bs 2 % (1 + x0 % 20 + 1) = lz at *
    generalize 1 + x0 % 20 = cc at *
    generalize x1 % 4 = rr at *
    clear a20 a21 a00 a01 a10 a11 E0 E1
    have hB0 : Box ((w.alloc (.cells #[.int .i64 cc, .int .i64 rr, .int .i64 lz, .int .i64 0] 25)).drew) w.heap.size #[.int .i64 cc, .int .i64 rr, .int .i64 lz, .int .i64 0] := Box.new rfl
    have hE0 : Ext w ((w.alloc (.cells #[.int .i64 cc, .int .i64 rr, .int .i64 lz, .int .i64 0] 25)).drew) := by (repeat (first | (with_reducible exact Ext.refl _) | (with_reducible assumption) | (with_reducible refine Ext.alloc ?_ _) | (with_reducible refine Ext.drew ?_) | (with_reducible refine Ext.drewN ?_ _) | ((with_reducible apply Ext.setCell); (case hp => first | omega | (simp; done) | (simp; omega))) | (with_reducible refine Ext.trans ?_ (by assumption))))
    obtain ⟨c1, c2⟩ := r0
    obtain ⟨r1, r2'⟩ := r1
    obtain ⟨l1, l2⟩ := r2
    go_wp2
    go_loopg [4, 5, 6, 7] 37 (fun g al nw tk i wr => ∃ (k : Nat) (all now took l a : Int), 3 ≤ k ∧ g + k = 40 ∧ i = .int .i64 k ∧ al = .int .i64 all ∧ nw = .int .i64 now ∧ tk = .int .i64 took ∧ FbInv cc rr lz k all now took l a ∧ Ext w wr ∧ Box wr w.heap.size #[.int .i64 cc, .int .i64 rr, .int .i64 l, .int .i64 a])
    case atStart => exact ⟨3, lz, 0, 0, lz, 0, by omega, by omega, rfl, rfl, rfl, rfl, fb_start l1 l2, hE0, hB0⟩
    case round =>
      clear hE0 hB0
      obtain ⟨k, all, now, took, l, a, hk3, hg, rfl, rfl, rfl, rfl, hI, hE, hB⟩ := hrel
      have HG := Lib.hid hg; clear hg
      have hk40 : k ≤ 40 := by have := HG.out; omega
      obtain ⟨i1, i2, i3, i4, i5, i6, i7, i8, i9, -⟩ := id hI
      have HI := Lib.hid hI
      clear hI
      by_cases hlt : k < 40
      · have hlt' : (k : Int) < 40 := by omega
        obtain ⟨d0, d1⟩ := atV_bd bs k
        obtain ⟨n0, n1⟩ := atV_bd bs ((k : Int) + 1)
        generalize ed : atV bs k = xd at *
        generalize en : atV bs ((k : Int) + 1) = xn at *
        have ED := Lib.hid ed; have EN := Lib.hid en
        clear ed en
        have hrd := mul_small (d := xd % 5) r1 r2' (by omega) (by omega)
        obtain ⟨m1, m2⟩ := hrd
        have cB := hB.cell; have fB := hB.frozen; have lB := hB.lt
        have hok : bucketOk cc rr l a = true := bucketOk_iff.2 ⟨by omega, by omega, by omega, by omega⟩
        obtain ⟨s1, s2⟩ := see_bdc (now := now + xd % 5) hok
        have s3 := see_min (now := now + xd % 5) hok (by omega) (by omega)
        generalize es : bucketSee cc rr l a (now + xd % 5) = s at *
        have ES := Lib.hid es
        clear es
        by_cases hns : 1 + xn % 6 ≤ s
        · have hn' : inB (1 + xn % 6) 1 (bucketSee cc rr l a (now + xd % 5)) = true := by rw [ES.out]; exact inB_iff.2 ⟨by omega, hns⟩
          have e := take_yes hok hn'
          rw [ES.out] at e
          have E := Lib.hid e
          have K2 : Hid (bucketOk cc rr (s - (1 + xn % 6)) (now + xd % 5) = true) := bucketOk_iff.2 ⟨by omega, by omega, by omega, by omega⟩
          obtain ⟨hN, hT⟩ := fb_take HI.out (d := xd % 5) (n := 1 + xn % 6) (s := s) (by omega) (by omega) (by omega) (by omega) hns s2 s3
          have HN := Lib.hid hN
          clear e hn' hN s3 hok
          go_wp2_with fail
          (refine (at_any _ bs _ _ (hx.ext hE) hn (by omega) (by omega)).mono ?_); rintro e w' ⟨rfl, rfl⟩
          rw [ED.out]
          go_wp2_with fail
          (refine (at_any _ bs _ _ (hx.ext hE) hn (by omega) (by omega)).mono ?_); rintro e w' ⟨rfl, rfl⟩
          rw [EN.out]
          go_wp2_with fail
          (refine (bucketSee_any _ _ _ _ _ _).mono ?_); rw [ES.out]; rintro e w2 ⟨rfl, hb⟩; (obtain ⟨B0, c0, f0, l0⟩ := Box.after (k := w.heap.size) hb (by (repeat (first | (with_reducible assumption) | ((with_reducible apply Box.new); (first | (with_reducible rfl) | (simp; done) | (simp; omega))) | (with_reducible apply Box.alloc) | (with_reducible apply Box.drew) | (with_reducible apply Box.drewN) | (with_reducible apply Box.set) | ((with_reducible apply Box.set_ne); (case hne => first | omega | (simp; done) | (simp; omega)))))))
          go_wp2_with fail
          (refine (bucketTake_any _ _ _ _ _ _ _).mono ?_); rw [E.out]; unfold BkV; rintro e w3 ⟨rfl, hb⟩; (obtain ⟨B0, c0, f0, l0⟩ := Box.after (k := w.heap.size) hb (by (repeat (first | (with_reducible assumption) | ((with_reducible apply Box.new); (first | (with_reducible rfl) | (simp; done) | (simp; omega))) | (with_reducible apply Box.alloc) | (with_reducible apply Box.drew) | (with_reducible apply Box.drewN) | (with_reducible apply Box.set) | ((with_reducible apply Box.set_ne); (case hne => first | omega | (simp; done) | (simp; omega)))))))
          go_wp2_with fail
          (refine (sBucketSee_any _ _ _ _ _ _).mono ?_); rw [ES.out]; rintro e w4 ⟨rfl, hb⟩; (obtain ⟨B0, c0, f0, l0⟩ := Box.after (k := w.heap.size) hb (by (repeat (first | (with_reducible assumption) | ((with_reducible apply Box.new); (first | (with_reducible rfl) | (simp; done) | (simp; omega))) | (with_reducible apply Box.alloc) | (with_reducible apply Box.drew) | (with_reducible apply Box.drewN) | (with_reducible apply Box.set) | ((with_reducible apply Box.set_ne); (case hne => first | omega | (simp; done) | (simp; omega))))))); (obtain ⟨B1, c1, f1, l1⟩ := Box.after (k := w3.heap.size) hb (by (repeat (first | (with_reducible assumption) | ((with_reducible apply Box.new); (first | (with_reducible rfl) | (simp; done) | (simp; omega))) | (with_reducible apply Box.alloc) | (with_reducible apply Box.drew) | (with_reducible apply Box.drewN) | (with_reducible apply Box.set) | ((with_reducible apply Box.set_ne); (case hne => first | omega | (simp; done) | (simp; omega)))))))
          go_wp2_with fail
          (refine (sBucketOk_any _ _ _ _ _).mono ?_); rw [K2.out]; rintro e w5 ⟨rfl, hb⟩; (obtain ⟨B0, c0, f0, l0⟩ := Box.after (k := w.heap.size) hb (by (repeat (first | (with_reducible assumption) | ((with_reducible apply Box.new); (first | (with_reducible rfl) | (simp; done) | (simp; omega))) | (with_reducible apply Box.alloc) | (with_reducible apply Box.drew) | (with_reducible apply Box.drewN) | (with_reducible apply Box.set) | ((with_reducible apply Box.set_ne); (case hne => first | omega | (simp; done) | (simp; omega)))))))
          go_wp2
          go_roundg (gk - 1)
          case measure => have := HG.out; omega
          case rel => exact ⟨k + 1, _, _, _, _, _, by omega, by have := HG.out; omega, by go_num, rfl, rfl, rfl, HN.out, by (repeat (first | (with_reducible exact Ext.refl _) | (with_reducible assumption) | (with_reducible refine Ext.alloc ?_ _) | (with_reducible refine Ext.drew ?_) | (with_reducible refine Ext.drewN ?_ _) | ((with_reducible apply Ext.setCell); (case hp => first | omega | (simp; done) | (simp; omega))) | (with_reducible refine Ext.trans ?_ (by assumption)))), by simpa using B0⟩

        · have hn' : inB (1 + xn % 6) 1 (bucketSee cc rr l a (now + xd % 5)) = false := by rw [ES.out]; exact inB_false.2 (by omega)
          have e := take_no2 hok hn'
          have E := Lib.hid e
          have K2 : Hid (bucketOk cc rr l a = true) := hok
          have hdn : decide (1 + xn % 6 ≤ s) = false := by simpa using hns
          obtain ⟨hN, hT⟩ := fb_skip HI.out (d := xd % 5) (by omega) (by omega) r1
          have HN := Lib.hid hN
          clear e hn' hN s3 hok
          go_wp2_with fail
          (refine (at_any _ bs _ _ (hx.ext hE) hn (by omega) (by omega)).mono ?_); rintro e w' ⟨rfl, rfl⟩
          rw [ED.out]
          go_wp2_with fail
          (refine (at_any _ bs _ _ (hx.ext hE) hn (by omega) (by omega)).mono ?_); rintro e w' ⟨rfl, rfl⟩
          rw [EN.out]
          go_wp2_with fail
          (refine (bucketSee_any _ _ _ _ _ _).mono ?_); rw [ES.out]; rintro e w2 ⟨rfl, hb⟩; (obtain ⟨B0, c0, f0, l0⟩ := Box.after (k := w.heap.size) hb (by (repeat (first | (with_reducible assumption) | ((with_reducible apply Box.new); (first | (with_reducible rfl) | (simp; done) | (simp; omega))) | (with_reducible apply Box.alloc) | (with_reducible apply Box.drew) | (with_reducible apply Box.drewN) | (with_reducible apply Box.set) | ((with_reducible apply Box.set_ne); (case hne => first | omega | (simp; done) | (simp; omega)))))))
          go_wp2_with fail
          (refine (bucketTake_any _ _ _ _ _ _ _).mono ?_); rw [E.out]; unfold BkV; rintro e w3 ⟨rfl, hb⟩; (obtain ⟨B0, c0, f0, l0⟩ := Box.after (k := w.heap.size) hb (by (repeat (first | (with_reducible assumption) | ((with_reducible apply Box.new); (first | (with_reducible rfl) | (simp; done) | (simp; omega))) | (with_reducible apply Box.alloc) | (with_reducible apply Box.drew) | (with_reducible apply Box.drewN) | (with_reducible apply Box.set) | ((with_reducible apply Box.set_ne); (case hne => first | omega | (simp; done) | (simp; omega)))))))
          go_wp2_with fail
          (refine (sBucketSee_any _ _ _ _ _ _).mono ?_); rw [ES.out]; rintro e w4 ⟨rfl, hb⟩; (obtain ⟨B0, c0, f0, l0⟩ := Box.after (k := w.heap.size) hb (by (repeat (first | (with_reducible assumption) | ((with_reducible apply Box.new); (first | (with_reducible rfl) | (simp; done) | (simp; omega))) | (with_reducible apply Box.alloc) | (with_reducible apply Box.drew) | (with_reducible apply Box.drewN) | (with_reducible apply Box.set) | ((with_reducible apply Box.set_ne); (case hne => first | omega | (simp; done) | (simp; omega))))))); (obtain ⟨B1, c1, f1, l1⟩ := Box.after (k := w3.heap.size) hb (by (repeat (first | (with_reducible assumption) | ((with_reducible apply Box.new); (first | (with_reducible rfl) | (simp; done) | (simp; omega))) | (with_reducible apply Box.alloc) | (with_reducible apply Box.drew) | (with_reducible apply Box.drewN) | (with_reducible apply Box.set) | ((with_reducible apply Box.set_ne); (case hne => first | omega | (simp; done) | (simp; omega)))))))
          go_wp2_with fail
          (refine (sBucketOk_any _ _ _ _ _).mono ?_); rw [K2.out]; rintro e w5 ⟨rfl, hb⟩; (obtain ⟨B0, c0, f0, l0⟩ := Box.after (k := w.heap.size) hb (by (repeat (first | (with_reducible assumption) | ((with_reducible apply Box.new); (first | (with_reducible rfl) | (simp; done) | (simp; omega))) | (with_reducible apply Box.alloc) | (with_reducible apply Box.drew) | (with_reducible apply Box.drewN) | (with_reducible apply Box.set) | ((with_reducible apply Box.set_ne); (case hne => first | omega | (simp; done) | (simp; omega)))))))
          go_wp2
          go_roundg (gk - 1)
          case measure => have := HG.out; omega
          case rel => exact ⟨k + 1, _, _, _, _, _, by omega, by have := HG.out; omega, by go_num, rfl, rfl, rfl, HN.out, by (repeat (first | (with_reducible exact Ext.refl _) | (with_reducible assumption) | (with_reducible refine Ext.alloc ?_ _) | (with_reducible refine Ext.drew ?_) | (with_reducible refine Ext.drewN ?_ _) | ((with_reducible apply Ext.setCell); (case hp => first | omega | (simp; done) | (simp; omega))) | (with_reducible refine Ext.trans ?_ (by assumption)))), by simpa using B0⟩

      · obtain rfl : k = 40 := by omega
        go_wp2
        go_ret
        exact ⟨rfl, by (repeat (first | (with_reducible exact Ext.refl _) | (with_reducible assumption) | (with_reducible refine Ext.alloc ?_ _) | (with_reducible refine Ext.drew ?_) | (with_reducible refine Ext.drewN ?_ _) | ((with_reducible apply Ext.setCell); (case hp => first | omega | (simp; done) | (simp; omega))) | (with_reducible refine Ext.trans ?_ (by assumption))))⟩

theorem byte_dec {W : World} {n : Nat} (cs : List Value) (h : All2 (CellN W n) [.int .u8] cs) : ∃ a : UInt8, cs = encB a ∧ True := by
  match cs, h with
  | [_], ⟨k1, _⟩ =>
    obtain ⟨i, rfl, h1⟩ := cell_int k1
    have hb : 0 ≤ i ∧ i ≤ 255 := by
      simp [Lit.wf, IntKind.min, IntKind.max, IntKind.signed, IntKind.bits] at h1
      omega
    obtain ⟨j, rfl⟩ := Int.eq_ofNat_of_zero_le hb.1
    exact ⟨UInt8.ofNat j, by simp only [encB]; rw [byte_of (by omega)], trivial⟩

theorem fnBucket_args {H : Type} {enc : TypeId × Value → H} (W : World) (base : Nat) (args : Array Value) (ds : List (DataW H)) (p : List MemPlace)
    (hval : ∀ (j : Nat) t v, #[30][j]? = some t → args[j]? = some v → Value.okWide Try.prog W .any base t v)
    (hA : DataW.TrodAll enc Try.prog W 0 (fun _ => true) true #[30].toList args.toList ds p) :
    Calls Try.prog 5 args W fun e W' => e = .returned (.bool true) ∧ Ext W W' := by
  obtain ⟨v0, d0, rfl, rfl, h0⟩ := trodAll_one hA
  have hc := read_slice Try.underlying30 (n := 4) (s := .sl [.int .u8]) (by kernel_rfl) (hval 0 _ _ rfl rfl) h0
  obtain ⟨xs, hx, _⟩ := sl_read (by decide) byte_dec hc
  exact fnBucket_any v0 xs W hx
end Go.Proofs.Ythnmiimckgphnaa

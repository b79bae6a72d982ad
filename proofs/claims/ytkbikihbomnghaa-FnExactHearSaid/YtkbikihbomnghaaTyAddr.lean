/- Addr: data, and the laws' helpers. Printed by a program of ours. -/
import Derived.Test.YtkbikihbomnghaaT1
namespace Go.Proofs.Ytkbikihbomnghaa
set_option linter.unusedSimpArgs false
set_option linter.unusedVariables false
open Go.RowKit

def encAddr (x : GAddr) : List D := [.int x.fId, .int x.fSeen]
theorem encAddr_len (x : GAddr) : (encAddr x).length = 2 := rfl
theorem dec_Addr : Dec [.int .i64, .int .i64] encAddr := by
  intro n W vs h
  match vs, h with
  | [_, _], ⟨k0, k1, _⟩ =>
    obtain ⟨a0, rfl, h0⟩ := cell_int k0
    obtain ⟨a1, rfl, h1⟩ := cell_int k1
    exact ⟨⟨a0, a1⟩, (Rds.int _ (Rds.int _ Rds.nil)), (okL_int h0 (okL_int h1 okL_nil))⟩
theorem pv_Addr (x : GAddr) : toPVL (encAddr x) = pAddr x := by
  simp only [encAddr, pAddr, toPVL, toPV]
theorem pvs_Addr (e : TypeId) (xs : List GAddr) : toPV (slD e 2 encAddr xs) = .sl 2 (xs.map pAddr) := by rw [toPV_slD (enc := encAddr) (sz := 2) (fun _ => rfl)]; simp only [pv_Addr]
theorem cnt_Addr (x : GAddr) : cnt (encAddr x) ≤ 64 + 64 * szL (encAddr x) := by
  simp [encAddr, cnt, szL]

set_option maxRecDepth 100000 in
set_option maxHeartbeats 4000000 in
theorem toAddr_any (x : GAddr) (w : World) :
    Calls Try.prog 129 #[.agg #[.int .i64 x.fId, .int .i64 x.fSeen]] w fun e w' => e = .returned (.agg #[.int .i64 x.fId, .int .i64 x.fSeen]) ∧ Ext w w' := by
  go_enter Try.func129, Try.ntmps129
  go_wp2
  exact bodyPost_ret (v := .agg #[.int .i64 x.fId, .int .i64 x.fSeen]) (by simp [results, Try.results129, go_sem]) rfl ⟨rfl, by (repeat (first | (with_reducible exact Ext.refl _) | (with_reducible assumption) | (with_reducible refine Ext.alloc ?_ _) | (with_reducible refine Ext.drew ?_) | (with_reducible refine Ext.drewN ?_ _) | ((with_reducible apply Ext.setCell); (case hp => first | omega | (simp; done) | (simp; omega))) | (with_reducible refine Ext.trans ?_ (by assumption))))⟩

set_option maxRecDepth 100000 in
set_option maxHeartbeats 4000000 in
theorem eqAddr_any (x : GAddr) (w : World) (_h1 : Rds w (encAddr x) [.int .i64 x.fId, .int .i64 x.fSeen]) (_h2 : Rds w (encAddr x) [.int .i64 x.fId, .int .i64 x.fSeen]) :
    Calls Try.prog 134 #[.agg #[.int .i64 x.fId, .int .i64 x.fSeen], .agg #[.int .i64 x.fId, .int .i64 x.fSeen]] w fun e w' => e = .returned (.bool true) ∧ Ext w w' := by
  go_enter Try.func134, Try.ntmps134
  go_wp2
  go_ret
  exact ⟨rfl, by (repeat (first | (with_reducible exact Ext.refl _) | (with_reducible assumption) | (with_reducible refine Ext.alloc ?_ _) | (with_reducible refine Ext.drew ?_) | (with_reducible refine Ext.drewN ?_ _) | ((with_reducible apply Ext.setCell); (case hp => first | omega | (simp; done) | (simp; omega))) | (with_reducible refine Ext.trans ?_ (by assumption))))⟩

theorem infoAddrS : (Try.prog.info? 144).map (fun i => (i.zero, i.size, i.bytes)) = some (some (.agg #[.int .i64 0, .int .i64 0]), 2, 16) := by kernel_rfl
set_option maxRecDepth 100000 in
set_option maxHeartbeats 4000000 in
theorem toAddrS_any (v : Value) (xs : List GAddr) (w : World) (h : RL 144 2 encAddr w v xs) (hz : szL [slD 144 2 encAddr xs] ≤ 1048576) :
    Calls Try.prog 68 #[v] w fun e w' => ∃ (p : Option Addr) (q : Nat), e = .returned (.slice p xs.length q) ∧ Obj w' w.heap.size w'.heap.size [slD 144 2 encAddr xs] [.slice p xs.length q] ∧ Ext w w' := by
  obtain ⟨i0, hi, hz0, hz1, hz2⟩ := info_parts infoAddrS
  have hzero : ∀ w, Ows w [.int 0, .int 0] #[.int .i64 0, .int .i64 0].toList [] := fun w => (Ows.int _ (Ows.int _ Ows.nil))
  have HZ := Lib.hid hzero; clear hzero
  have hn : xs.length ≤ 1048576 := by simp only [szL, slD] at hz; omega
  rcases RS.cases h with ⟨hn0, _, o1, c1, rfl⟩ | ⟨b1, o1, c1, rfl, hp, _, hm, hx⟩
  · obtain rfl := List.eq_nil_of_length_eq_zero hn0
    clear h hn0 hz hn
    go_enter Try.func68, Try.ntmps68
    go_wp2_with (at_make; refine wpList_make_full _ rfl (.tmp 6) (.tmp 6) 97 rfl w.heap.size 144 i0 _ 2 Try.underlying97 hi hz0 hz1 .i64 .i64 _ _ 0 rfl rfl rfl rfl (by omega) (by omega) (Nat.le_refl _) ?_; intro w1 hown hgrow)
    have hE := Ext.of_grownBy hgrow
    have hO := Lib.hid (Obj.made (n := 0) HZ.out rfl (by decide) hown)
    clear hgrow hown
    refine wp_loop_rounds 1 ?_
    rw [rounds_succ]
    go_wp2
    go_ret
    exact ⟨_, _, rfl, hO.out, hE⟩
  · have HSZ := Lib.hid hz
    clear h hm hz
    go_enter Try.func68, Try.ntmps68
    go_wp2_with (at_make; refine wpList_make_full _ rfl (.tmp 6) (.tmp 6) 97 rfl w.heap.size 144 i0 _ 2 Try.underlying97 hi hz0 hz1 .i64 .i64 _ _ xs.length rfl rfl rfl rfl (by rw [hz2]; omega) (by unfold maxLen; omega) (Nat.le_refl _) ?_; intro w1 hown hgrow)
    have hE := Ext.of_grownBy hgrow
    have hO : Obj w1 w.heap.size w1.heap.size [.sl 144 2 xs.length (fillE encAddr [.int 0, .int 0] xs 0)] [.slice (some ⟨w.heap.size, 0, none⟩) xs.length xs.length] := by rw [fillE_zero]; exact Obj.made HZ.out rfl (by decide) hown
    clear hgrow hown
    go_loopg [4] xs.length (fun g i wr => ∃ k : Nat, k ≤ xs.length ∧ g = xs.length - k ∧ i = .int .i64 k ∧ Ext w wr ∧ Obj wr w.heap.size wr.heap.size [.sl 144 2 xs.length (fillE encAddr [.int 0, .int 0] xs k)] [.slice (some ⟨w.heap.size, 0, none⟩) xs.length xs.length])
    case atStart => exact ⟨0, by omega, by omega, rfl, hE, hO⟩
    case round =>
      clear hE hO
      obtain ⟨k, hk, hg, rfl, hE, hO⟩ := hrel
      have HG := Lib.hid hg; clear hg
      by_cases hlt : k < xs.length
      · obtain ⟨x, hxk⟩ : ∃ x, xs[k]? = some x := ⟨_, List.getElem?_eq_getElem hlt⟩
        have e1 := (RAt.elem (enc := encAddr) (sz := 2) (fun _ => rfl) hx hxk).ext hE
        have HX := Lib.hid hxk
        have HM := Lib.hid (List.mem_of_getElem? hxk)
        clear hxk
        have q0 : wr.cell? ⟨b1, o1 + k * 2, none⟩ = some (.int .i64 x.fId) := e1.int (j := 0) rfl
        have q1 : wr.cell? ⟨b1, o1 + k * 2 + 1, none⟩ = some (.int .i64 x.fSeen) := e1.int (j := 1) rfl
        clear e1
        go_wp2_with fail
        (refine (toAddr_any x _).mono ?_); rintro e w2 ⟨rfl, hb⟩
        have hR : Obj w2 w2.heap.size w2.heap.size (encAddr x) [.int .i64 x.fId, .int .i64 x.fSeen] := (Obj.int (Obj.int obj_nil))
        have hO2 := hO.ext hb
        have hsz := hb.size
        obtain ⟨F, f1, f2, f3⟩ := hO2
        obtain ⟨v0, x0⟩ := f1.cellAt (o := k * 2 + 0) f2 (by rw [RS.len f1.read]; omega)
        have y0 := f1.frozenAt f2 (k * 2 + 0)
        obtain ⟨v1, x1⟩ := f1.cellAt (o := k * 2 + 1) f2 (by rw [RS.len f1.read]; omega)
        have y1 := f1.frozenAt f2 (k * 2 + 1)
        simp only [Nat.add_zero] at x0 y0
        have hO3 := Lib.hid (Obj.fill (enc := encAddr) (z := [.int 0, .int 0]) (sz := 2) (hi := w2.heap.size) (fun _ => rfl) rfl ⟨F, f1, f2, f3⟩ HX.out hR (by omega) (by omega))
        clear f1 f2 f3 hR
        go_wp2
        go_roundg (xs.length - (k + 1))
        case measure => rw [HG.out]; omega
        case rel => exact ⟨k + 1, by omega, rfl, by go_num, by (repeat (first | (with_reducible exact Ext.refl _) | (with_reducible assumption) | (with_reducible refine Ext.alloc ?_ _) | (with_reducible refine Ext.drew ?_) | (with_reducible refine Ext.drewN ?_ _) | ((with_reducible apply Ext.setCell); (case hp => first | omega | (simp; done) | (simp; omega))) | (with_reducible refine Ext.trans ?_ (by assumption)))), Obj.mono (by have h := hO3.out; (try simp only [Nat.mul_one] at h); exact h) (Nat.le_refl _) (by (first | omega | (simp; done) | (simp; omega)))⟩
      · obtain rfl : k = xs.length := by omega
        rw [fillE_end] at hO
        go_wp2
        go_ret
        exact ⟨_, _, rfl, hO, hE⟩

set_option maxRecDepth 100000 in
set_option maxHeartbeats 4000000 in
theorem szAddrS_any (v : Value) (xs : List GAddr) (left : Int) (w : World) (h : RL 144 2 encAddr w v xs) (_hok : okL [slD 144 2 encAddr xs]) (h0 : 0 ≤ left) (h1 : left ≤ 1048576) :
    Calls Try.prog 66 #[v, .int .i64 left] w fun e w' => e = .returned (.int .i64 (szR left (szL [slD 144 2 encAddr xs]))) ∧ Ext w w' := by
  have hm := RS.bd h
  replace hm : xs.length ≤ 9223372036854775807 := by unfold maxLen at hm; omega
  have hs : szL [slD 144 2 encAddr xs] = xs.length := by
    have : szL (xs.flatMap encAddr) = 0 := szL_zero (fun x => by simp [encAddr, szL]) xs
    simp [slD, szL, this]
  obtain ⟨o1, c1, rfl⟩ := RS.val h
  rw [hs]
  clear h hs
  go_enter Try.func66, Try.ntmps66
  go_wp2
  all_goals
    go_ret
    exact ⟨ret_int (by first | exact szR_no (by omega) | exact szR_yes (by omega)), by (repeat (first | (with_reducible exact Ext.refl _) | (with_reducible assumption) | (with_reducible refine Ext.alloc ?_ _) | (with_reducible refine Ext.drew ?_) | (with_reducible refine Ext.drewN ?_ _) | ((with_reducible apply Ext.setCell); (case hp => first | omega | (simp; done) | (simp; omega))) | (with_reducible refine Ext.trans ?_ (by assumption))))⟩

set_option maxRecDepth 100000 in
set_option maxHeartbeats 4000000 in
theorem eqAddrS_any (v1 v2 : Value) (xs : List GAddr) (w : World) (h1 : RL 144 2 encAddr w v1 xs) (h2 : RL 144 2 encAddr w v2 xs) :
    Calls Try.prog 70 #[v1, v2] w fun e w' => e = .returned (.bool true) ∧ Ext w w' := by
  rcases RS.cases h1 with ⟨hn, _, o1, c1, rfl⟩ | ⟨b1, o1, c1, rfl, hp, _, hm, hx⟩
  · rcases RS.cases h2 with ⟨_, _, o2, c2, rfl⟩ | ⟨b2, o2, c2, rfl, hp, _⟩
    · clear h1 h2 hn
      go_enter Try.func70, Try.ntmps70
      go_wp2
      refine wp_loop_rounds 1 ?_
      rw [rounds_succ]
      go_wp2
      go_ret
      exact ⟨rfl, by (repeat (first | (with_reducible exact Ext.refl _) | (with_reducible assumption) | (with_reducible refine Ext.alloc ?_ _) | (with_reducible refine Ext.drew ?_) | (with_reducible refine Ext.drewN ?_ _) | ((with_reducible apply Ext.setCell); (case hp => first | omega | (simp; done) | (simp; omega))) | (with_reducible refine Ext.trans ?_ (by assumption))))⟩
    · omega
  · rcases RS.cases h2 with ⟨hn, _⟩ | ⟨b2, o2, c2, rfl, _, _, _, hy⟩
    · omega
    · have hn : xs.length ≤ 9223372036854775807 := by unfold maxLen at hm; omega
      clear h1 h2 hp hm
      go_enter Try.func70, Try.ntmps70
      go_wp2
      go_loopg [5] xs.length (fun g i wr => ∃ k : Nat, k ≤ xs.length ∧ g = xs.length - k ∧ i = .int .i64 k ∧ Ext w wr)
      case atStart => exact ⟨0, by omega, by omega, rfl, Ext.refl _⟩
      case round =>
        obtain ⟨k, hk, hg, rfl, hE⟩ := hrel
        have HG := Lib.hid hg; clear hg
        by_cases hlt : k < xs.length
        · obtain ⟨x, hxk⟩ : ∃ x, xs[k]? = some x := ⟨_, List.getElem?_eq_getElem hlt⟩
          have e1 := (RAt.elem (enc := encAddr) (sz := 2) (fun _ => rfl) hx hxk).ext hE
          have e2 := (RAt.elem (enc := encAddr) (sz := 2) (fun _ => rfl) hy hxk).ext hE
          clear hxk
          have i0 : (0 : Int) ≤ (k : Int) := by omega
          have i1 : (k : Int) < (xs.length : Int) := by omega
          have q0 : wr.cell? ⟨b1, o1 + k * 2, none⟩ = some (.int .i64 x.fId) := e1.int (j := 0) rfl
          have q1 : wr.cell? ⟨b1, o1 + k * 2 + 1, none⟩ = some (.int .i64 x.fSeen) := e1.int (j := 1) rfl
          have m0 : wr.cell? ⟨b2, o2 + k * 2, none⟩ = some (.int .i64 x.fId) := e2.int (j := 0) rfl
          have m1 : wr.cell? ⟨b2, o2 + k * 2 + 1, none⟩ = some (.int .i64 x.fSeen) := e2.int (j := 1) rfl
          have d1 : Rds wr (encAddr x) [.int .i64 x.fId, .int .i64 x.fSeen] := (Rds.int _ (Rds.int _ Rds.nil))
          have d2 : Rds wr (encAddr x) [.int .i64 x.fId, .int .i64 x.fSeen] := (Rds.int _ (Rds.int _ Rds.nil))
          clear e1 e2
          go_wp2_with fail
          go_region_held3 (fun w' => w'.cell? ⟨b1, o1 + k * 2, none⟩ = some (.int .i64 x.fId) ∧ w'.cell? ⟨b1, o1 + k * 2 + 1, none⟩ = some (.int .i64 x.fSeen) ∧ w'.cell? ⟨b2, o2 + k * 2, none⟩ = some (.int .i64 x.fId) ∧ w'.cell? ⟨b2, o2 + k * 2 + 1, none⟩ = some (.int .i64 x.fSeen)) ((first | go_keep | ((try dsimp only); (try go_split_ands); (repeat' apply And.intro) <;> exact hb.cellSome (by assumption))))
            ((go_at_call 134; refine (eqAddr_any x _ (d1.ext (by (repeat (first | (with_reducible exact Ext.refl _) | (with_reducible assumption) | (with_reducible refine Ext.alloc ?_ _) | (with_reducible refine Ext.drew ?_) | (with_reducible refine Ext.drewN ?_ _) | ((with_reducible apply Ext.setCell); (case hp => first | omega | (simp; done) | (simp; omega))) | (with_reducible refine Ext.trans ?_ (by assumption)))))) (d2.ext (by (repeat (first | (with_reducible exact Ext.refl _) | (with_reducible assumption) | (with_reducible refine Ext.alloc ?_ _) | (with_reducible refine Ext.drew ?_) | (with_reducible refine Ext.drewN ?_ _) | ((with_reducible apply Ext.setCell); (case hp => first | omega | (simp; done) | (simp; omega))) | (with_reducible refine Ext.trans ?_ (by assumption))))))).mono ?_; rintro e w1 ⟨rfl, hb⟩))
          go_wp2
          go_roundg (xs.length - (k + 1))
          case measure => rw [HG.out]; omega
          case rel => exact ⟨k + 1, by omega, rfl, by go_num, by (repeat (first | (with_reducible exact Ext.refl _) | (with_reducible assumption) | (with_reducible refine Ext.alloc ?_ _) | (with_reducible refine Ext.drew ?_) | (with_reducible refine Ext.drewN ?_ _) | ((with_reducible apply Ext.setCell); (case hp => first | omega | (simp; done) | (simp; omega))) | (with_reducible refine Ext.trans ?_ (by assumption))))⟩
        · go_wp2
          go_ret
          exact ⟨rfl, by (repeat (first | (with_reducible exact Ext.refl _) | (with_reducible assumption) | (with_reducible refine Ext.alloc ?_ _) | (with_reducible refine Ext.drew ?_) | (with_reducible refine Ext.drewN ?_ _) | ((with_reducible apply Ext.setCell); (case hp => first | omega | (simp; done) | (simp; omega))) | (with_reducible refine Ext.trans ?_ (by assumption))))⟩

set_option maxRecDepth 100000 in
set_option maxHeartbeats 4000000 in
theorem markAddrS_any (v : Value) (xs : List GAddr) (k0 : Int) (F : List Nat) (w : World) (h : Ows w [slD 144 2 encAddr xs] [v] F) (hn : F.Nodup) (h0 : 0 ≤ k0) (h1 : k0 + cnt (xs.flatMap encAddr) ≤ 1099511627776) :
    Calls Try.prog 71 #[v, .int .i64 k0] w fun e w' => e = .returned (.int .i64 (k0 + cnt (xs.flatMap encAddr))) ∧ Ows w' [.sl 144 2 xs.length (mk (xs.flatMap encAddr) k0)] [v] F ∧ Chg F w w' := by
  have hm := RS.bd h.read
  replace hm : xs.length ≤ 9223372036854775807 := by unfold maxLen at hm; omega
  have HN := Lib.hid hn
  have H1 := Lib.hid h1
  clear hn h1
  rcases Ows.val h with ⟨rfl, hx0⟩ | ⟨g, c, rfl⟩
  · obtain rfl := List.eq_nil_of_length_eq_zero hx0
    clear hx0
    go_enter Try.func71, Try.ntmps71
    go_wp2
    refine wp_loop_rounds 1 ?_
    rw [rounds_succ]
    go_wp2
    go_ret
    exact ⟨by simp [cnt], by simpa [mk, slD] using h, Chg.refl⟩
  · have hO : Ows w [.sl 144 2 xs.length (mid (xs.flatMap encAddr) k0 (0 * 2))] [.slice (some ⟨g, 0, none⟩) xs.length c] F := by rw [Nat.zero_mul, mid_zero]; exact h
    clear h
    have hC : Chg F w w := Chg.refl
    have hc0 : Cn (xs.flatMap encAddr) k0 (0 * 2) k0 := by rw [Nat.zero_mul]; exact Cn.zero
    go_enter Try.func71, Try.ntmps71
    go_wp2
    go_loopg [1, 5] xs.length (fun gk s i wr => ∃ (k : Nat) (c' : Int), k ≤ xs.length ∧ gk = xs.length - k ∧ i = .int .i64 k ∧ s = .int .i64 c' ∧ Cn (xs.flatMap encAddr) k0 (k * 2) c' ∧ Chg F w wr ∧ Ows wr [.sl 144 2 xs.length (mid (xs.flatMap encAddr) k0 (k * 2))] [.slice (some ⟨g, 0, none⟩) xs.length c] F)
    case atStart => exact ⟨0, k0, by omega, by omega, rfl, rfl, hc0, hC, hO⟩
    case round =>
      clear hc0 hC hO
      obtain ⟨k, c', hk, hg, rfl, rfl, hc0, hC, hO⟩ := hrel
      have HG := Lib.hid hg; clear hg
      by_cases hlt : k < xs.length
      · obtain ⟨x, hxk⟩ : ∃ x, xs[k]? = some x := ⟨_, List.getElem?_eq_getElem hlt⟩
        have HX := Lib.hid hxk; clear hxk
        have hfl : ∀ j, j < 2 → k * 2 + j < (xs.flatMap encAddr).length := fun j hj => by rw [flat_len (enc := encAddr) (sz := 2) (fun _ => rfl)]; exact flat_lt hlt hj
        have HFL := Lib.hid hfl; clear hfl
        obtain ⟨b0, b1⟩ := hc0.bd h0 H1.out
        have hgm := hO.gmem HN.out
        have HGM := Lib.hid hgm; clear hgm
        have g0 := Lib.hid (flat_at (enc := encAddr) (sz := 2) (j := 0) (fun _ => rfl) HX.out rfl)
        have g1 := Lib.hid (flat_at (enc := encAddr) (sz := 2) (j := 1) (fun _ => rfl) HX.out rfl)
        have O0 := Lib.hid hO
        have C0 := Lib.hid hc0; clear hc0
        obtain ⟨v0, x0⟩ := hO.cellAt (o := k * 2 + 0) HN.out (by rw [mid_len]; exact HFL.out 0 (by omega))
        have y0 := hO.frozenAt HN.out (k * 2 + 0)
        obtain ⟨v1, x1⟩ := hO.cellAt (o := k * 2 + 1) HN.out (by rw [mid_len]; exact HFL.out 1 (by omega))
        have y1 := hO.frozenAt HN.out (k * 2 + 1)
        simp only [Nat.add_zero] at x0 y0
        clear hO
        have O1 := Lib.hid (O0.out.markI HN.out g0.out C0.out)
        have C1 := Lib.hid (C0.out.one g0.out rfl)
        have O2 := Lib.hid (O1.out.markI HN.out g1.out C1.out)
        have C2 := Lib.hid (C1.out.one g1.out rfl)
        go_wp2
        go_roundg (xs.length - (k + 1))
        case measure => rw [HG.out]; omega
        case rel => exact ⟨k + 1, _, by omega, rfl, by go_num, rfl, by rw [Nat.add_mul]; exact C2.out, by (repeat (first | (with_reducible assumption) | ((with_reducible apply Chg.set); (case hg => exact HGM.out)))), by have h := O2.out; (try simp only [Nat.mul_one] at h ⊢); (try rw [Nat.add_mul]); exact h⟩
      · obtain rfl : k = xs.length := by omega
        have e1 : xs.length * 2 = (xs.flatMap encAddr).length := (flat_len (enc := encAddr) (sz := 2) (fun _ => rfl) xs).symm
        have HE := Lib.hid (hc0.last e1)
        rw [e1, mid_end] at hO
        clear e1
        go_wp2
        go_ret
        exact ⟨ret_int HE.out.symm, hO, hC⟩

set_option maxRecDepth 100000 in
set_option maxHeartbeats 4000000 in
theorem heldAddrS_any (v : Value) (xs : List GAddr) (k0 : Int) (w : World) (h : RS w 144 2 xs.length (mk (xs.flatMap encAddr) k0) v) (h0 : 0 ≤ k0) (h1 : k0 + cnt (xs.flatMap encAddr) ≤ 1099511627776) :
    Calls Try.prog 72 #[v, .int .i64 k0] w fun e w' => e = .returned (.int .i64 (k0 + cnt (xs.flatMap encAddr))) ∧ Ext w w' := by
  have hm := RS.bd h
  replace hm : xs.length ≤ 9223372036854775807 := by unfold maxLen at hm; omega
  have H1 := Lib.hid h1
  clear h1
  rcases RS.cases h with ⟨hn0, _, o1, c1, rfl⟩ | ⟨b1, o1, c1, rfl, hp, _, _, hx⟩
  · obtain rfl := List.eq_nil_of_length_eq_zero hn0
    clear h hn0
    go_enter Try.func72, Try.ntmps72
    go_wp2
    refine wp_loop_rounds 1 ?_
    rw [rounds_succ]
    go_wp2
    go_ret
    exact ⟨by simp [cnt], by (repeat (first | (with_reducible exact Ext.refl _) | (with_reducible assumption) | (with_reducible refine Ext.alloc ?_ _) | (with_reducible refine Ext.drew ?_) | (with_reducible refine Ext.drewN ?_ _) | ((with_reducible apply Ext.setCell); (case hp => first | omega | (simp; done) | (simp; omega))) | (with_reducible refine Ext.trans ?_ (by assumption))))⟩
  · clear h hp
    have hc0 : Cn (xs.flatMap encAddr) k0 (0 * 2) k0 := by rw [Nat.zero_mul]; exact Cn.zero
    go_enter Try.func72, Try.ntmps72
    go_wp2
    go_loopg [1, 5] xs.length (fun gk s i wr => ∃ (k : Nat) (c' : Int), k ≤ xs.length ∧ gk = xs.length - k ∧ i = .int .i64 k ∧ s = .int .i64 c' ∧ Cn (xs.flatMap encAddr) k0 (k * 2) c' ∧ Ext w wr)
    case atStart => exact ⟨0, k0, by omega, by omega, rfl, rfl, hc0, Ext.refl _⟩
    case round =>
      clear hc0
      obtain ⟨k, c', hk, hg, rfl, rfl, hc0, hE⟩ := hrel
      have HG := Lib.hid hg; clear hg
      by_cases hlt : k < xs.length
      · obtain ⟨x, hxk⟩ : ∃ x, xs[k]? = some x := ⟨_, List.getElem?_eq_getElem hlt⟩
        have HX := Lib.hid hxk; clear hxk
        obtain ⟨bd0, bd1⟩ := hc0.bd h0 H1.out
        have i0 : (0 : Int) ≤ (k : Int) := by omega
        have i1 : (k : Int) < (xs.length : Int) := by omega
        have e1 := (RAt.markRow (enc := encAddr) (sz := 2) (fun _ => rfl) hx HX.out hc0).ext hE
        have g0 := Lib.hid (flat_at (enc := encAddr) (sz := 2) (j := 0) (fun _ => rfl) HX.out rfl)
        have g1 := Lib.hid (flat_at (enc := encAddr) (sz := 2) (j := 1) (fun _ => rfl) HX.out rfl)
        have C0 := Lib.hid hc0; clear hc0
        have q0 := e1.int (j := 0) (n := c') (by simp [encAddr, mk]); simp only [Nat.add_zero] at q0
        have C1 := Lib.hid (C0.out.one g0.out rfl)
        have q1 := e1.int (j := 1) (n := c' + 1) (by simp [encAddr, mk])
        have C2 := Lib.hid (C1.out.one g1.out rfl)
        clear e1
        go_wp2
        go_roundg (xs.length - (k + 1))
        case measure => rw [HG.out]; omega
        case rel => exact ⟨k + 1, _, by omega, rfl, by go_num, rfl, by rw [Nat.add_mul]; exact C2.out, by (repeat (first | (with_reducible exact Ext.refl _) | (with_reducible assumption) | (with_reducible refine Ext.alloc ?_ _) | (with_reducible refine Ext.drew ?_) | (with_reducible refine Ext.drewN ?_ _) | ((with_reducible apply Ext.setCell); (case hp => first | omega | (simp; done) | (simp; omega))) | (with_reducible refine Ext.trans ?_ (by assumption))))⟩
      · obtain rfl : k = xs.length := by omega
        have e1 : xs.length * 2 = (xs.flatMap encAddr).length := (flat_len (enc := encAddr) (sz := 2) (fun _ => rfl) xs).symm
        have HE := Lib.hid (hc0.last e1)
        clear e1
        go_wp2
        go_ret
        exact ⟨ret_int HE.out.symm, by (repeat (first | (with_reducible exact Ext.refl _) | (with_reducible assumption) | (with_reducible refine Ext.alloc ?_ _) | (with_reducible refine Ext.drew ?_) | (with_reducible refine Ext.drewN ?_ _) | ((with_reducible apply Ext.setCell); (case hp => first | omega | (simp; done) | (simp; omega))) | (with_reducible refine Ext.trans ?_ (by assumption))))⟩
end Go.Proofs.Ytkbikihbomnghaa

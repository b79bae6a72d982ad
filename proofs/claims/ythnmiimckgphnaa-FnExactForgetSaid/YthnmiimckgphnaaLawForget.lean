/- FnExactForget: the walk. -/
import Derived.Test.YthnmiimckgphnaaForget
import Derived.Test.YthnmiimckgphnaaLawAddr
namespace Go.Proofs.Ythnmiimckgphnaa
open Go.RowKit Go.ChangeShapes Go.WideShapes

set_option maxHeartbeats 4000000 in
theorem fnExactForget_any (v : Value) (xs : List Ad) (now age : Int) (w : World) (hx : Sl encA 2 w v xs) (hage2 : age ≤ 9223372036854775807) :
    Calls Try.prog 9 #[v, .int .i64 now, .int .i64 age] w fun e w' => e = .returned (.bool true) ∧ Ext w w' := by
  have hsz : ∃ o c, v = .slice o xs.length c := by
    rcases hx with ⟨o, c, rfl, rfl⟩ | ⟨b1, o1, c1, rfl, _⟩
    · exact ⟨_, _, rfl⟩
    · exact ⟨_, _, rfl⟩
  obtain ⟨o, c, rfl⟩ := hsz
  have hm := hx.len
  by_cases hl : (1048576 : Int) < (xs.length : Int)
  · have hs : szOf 1048576 xs.length = -1 := szOf_no hl
    go_enter Try.func9, Try.ntmps9
    go_wp2_with fail
    (refine (szAddrS_any _ _ _ _ _ hm (by omega) (by omega)).mono ?_); rintro e w' ⟨rfl, rfl⟩
    go_wp2
    go_ret
    exact ⟨rfl, by (repeat (first | (with_reducible exact Ext.refl _) | (with_reducible assumption) | (with_reducible refine Ext.alloc ?_ _) | (with_reducible refine Ext.drew ?_) | (with_reducible refine Ext.drewN ?_ _) | ((with_reducible apply Ext.setCell); (case hp => first | omega | (simp; done) | (simp; omega))) | (with_reducible refine Ext.trans ?_ (by assumption))))⟩
  · have hs : szOf 1048576 xs.length = 1048576 - xs.length := szOf_yes hl
    have hn : xs.length ≤ 1048576 := by omega
    have hl' : (xs.length : Int) ≤ 1048576 := by omega
    have hf : (forget xs now age).length ≤ xs.length := by
      unfold forget
      split
      · exact List.length_filter_le _ _
      · simp
    have hf' : (forget xs now age).length ≤ 1048576 := by omega
    go_enter Try.func9, Try.ntmps9
    go_wp2_with fail
    (refine (szAddrS_any _ _ _ _ _ hm (by omega) (by omega)).mono ?_); rintro e w' ⟨rfl, rfl⟩
    rw [hs]
    clear hs
    go_wp2_with fail
    (refine (toAddrS_any _ xs _ hx hn).mono ?_); rintro e w1 ⟨v1, rfl, o1, b1⟩
    go_wp2_with fail
    (refine (sForget_any _ xs _ _ _ (Sl.of_owns encA_len o1) hn hage2).mono ?_); rintro e w2 ⟨v2, rfl, o2, b2⟩
    have E2 : Ext w w2 := b1.trans b2
    go_wp2_with fail
    (refine (toAddrS_any _ xs _ (hx.ext E2) hn).mono ?_); rintro e w3 ⟨v3, rfl, o3, b3⟩
    have E3 := E2.trans b3
    go_wp2_with fail
    (refine (forget_any _ xs _ _ _ (Sl.of_owns encA_len o3) hn hage2).mono ?_); rintro e w4 ⟨v4, rfl, o4, b4⟩
    have E4 := E3.trans b4
    have a23 := own_apart o2 o3 (Nat.le_refl _)
    have a24 := own_apart o2 o4 b3.size
    have a34 := own_apart' o3 o4 (Nat.le_refl _)
    have A23 := Lib.hid a23; have A24 := Lib.hid a24; have A34 := Lib.hid a34; clear a23 a24 a34
    have p2 := own_ext (own_ext o2 b3) b4
    have p3 := own_ext o3 b4
    have z2 := Lib.hid E2.size
    have z3 := Lib.hid E3.size
    clear o1 o2 o3 b1 b2 b3 b4 E2 E3
    go_wp2_with fail
    (refine (eqAddrS_any _ _ (forget xs now age) _ (Sl.of_owns encA_len o4) (Sl.of_owns encA_len p2)).mono ?_); rintro e w5 ⟨rfl, b5⟩
    have E5 := E4.trans b5
    have q2 := own_ext p2 b5; have q3 := own_ext p3 b5; have q4 := own_ext o4 b5
    clear p2 p3 o4 b5 E4
    go_wp2_with fail
    (refine (toAddrS_any _ xs _ (hx.ext E5) hn).mono ?_); rintro e w6 ⟨v6, rfl, o6, b6⟩
    have E6 := E5.trans b6
    have p2 := own_ext q2 b6; have p3 := own_ext q3 b6; have p4 := own_ext q4 b6
    clear q2 q3 q4 b6 E5
    go_wp2_with fail
    (refine (eqAddrS_any _ _ xs _ (Sl.of_owns encA_len p3) (Sl.of_owns encA_len o6)).mono ?_); rintro e w7 ⟨rfl, b7⟩
    have E7 := E6.trans b7
    have q2 := own_ext p2 b7; have q3 := own_ext p3 b7; have q4 := own_ext p4 b7
    clear p2 p3 p4 o6 b7 E6
    go_wp2_with fail
    (refine (markAddrS_any _ _ _ 1 _ _ q3 (by omega) (by omega) (by omega)).mono ?_); rintro e w8 ⟨rfl, p3, g8⟩
    have E8 : Ext w w8 := Ext.of_grown E7 g8 (fun b hb => Nat.le_trans z2.out (q3.lt b hb).1)
    have p2 := own_keep q2 g8 A23.out; have p4 := own_keep q4 g8 A34.out
    clear q2 q3 q4 g8 E7 p3
    go_wp2_with fail
    (refine (eqAddrS_any _ _ (forget xs now age) _ (Sl.of_owns encA_len p4) (Sl.of_owns encA_len p2)).mono ?_); rintro e w9 ⟨rfl, b9⟩
    have E9 := E8.trans b9
    have q2 := own_ext p2 b9; have q4 := own_ext p4 b9
    clear p2 p4 b9 E8
    go_wp2_with fail
    (refine (markAddrS_any _ _ _ 1 _ _ q4 (by omega) (by omega) (by omega)).mono ?_); rintro e w10 ⟨rfl, p4, g10⟩
    have E10 : Ext w w10 := Ext.of_grown E9 g10 (fun b hb => Nat.le_trans z3.out (q4.lt b hb).1)
    have p2 := own_keep q2 g10 A24.out
    have r4 := marks_read p4
    clear q2 q4 g10 E9 p4
    go_wp2_with fail
    (refine (heldAddrS_any _ _ 1 _ r4 (by omega) (by omega) (by omega)).mono ?_); rintro e w' ⟨rfl, rfl⟩
    go_wp2_with fail
    (refine (toAddrS_any _ xs _ (hx.ext E10) hn).mono ?_); rintro e w11 ⟨v11, rfl, o11, b11⟩
    have E11 := E10.trans b11
    have q2 := own_ext p2 b11; have s4 := r4.ext b11
    clear p2 r4 b11 E10
    go_wp2_with fail
    (refine (forget_any _ xs _ _ _ (Sl.of_owns encA_len o11) hn hage2).mono ?_); rintro e w12 ⟨v12, rfl, o12, b12⟩
    have E12 := E11.trans b12
    have p2 := own_ext q2 b12; have r4 := s4.ext b12
    clear q2 s4 o11 b12 E11
    go_wp2_with fail
    (refine (eqAddrS_any _ _ (forget xs now age) _ (Sl.of_owns encA_len o12) (Sl.of_owns encA_len p2)).mono ?_); rintro e w13 ⟨rfl, b13⟩
    have E13 := E12.trans b13
    have s4 := r4.ext b13
    clear p2 r4 o12 b13 E12
    go_wp2_with fail
    (refine (heldAddrS_any _ _ 1 _ s4 (by omega) (by omega) (by omega)).mono ?_); rintro e w' ⟨rfl, rfl⟩
    go_wp2
    go_ret
    exact ⟨rfl, E13⟩

theorem fnExactForget_args {H : Type} {enc : TypeId × Value → H} (W : World) (base : Nat) (args : Array Value) (ds : List (DataW H)) (p : List MemPlace)
    (hval : ∀ (j : Nat) t v, #[41, 3, 3][j]? = some t → args[j]? = some v → Value.okWide Try.prog W .any base t v)
    (hA : DataW.TrodAll enc Try.prog W 0 (fun _ => true) true #[41, 3, 3].toList args.toList ds p) :
    Calls Try.prog 9 args W fun e W' => e = .returned (.bool true) ∧ Ext W W' := by
  obtain ⟨v0, v1, v2, d0, d1, d2, p0, p1, p2, rfl, rfl, rfl, h0, h1, h2⟩ := trodAll_three hA
  have hc := read_slice Try.underlying41 (n := 4) (s := .sl [.int .i64, .int .i64]) (by kernel_rfl) (hval 0 _ _ rfl rfl) h0
  obtain ⟨xs, hx, _⟩ := sl_read (by decide) addr_dec hc
  obtain ⟨now, rfl, _⟩ := read_int Try.underlying3 (hval 1 _ _ rfl rfl) h1
  obtain ⟨age, rfl, wa⟩ := read_int Try.underlying3 (hval 2 _ _ rfl rfl) h2
  exact fnExactForget_any v0 xs now age W hx (wf_le wa)
end Go.Proofs.Ythnmiimckgphnaa

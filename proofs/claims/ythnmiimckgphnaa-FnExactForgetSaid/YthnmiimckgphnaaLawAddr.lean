/- The laws of the addresses: walks. -/
import Derived.Test.YthnmiimckgphnaaAddrsOk
import Derived.Test.YthnmiimckgphnaaReadSl
namespace Go.Proofs.Ythnmiimckgphnaa
open Go.RowKit Go.ChangeShapes Go.WideShapes

theorem encA_len (x : Ad) : (encA x).length = 2 := rfl
theorem marks_read {w : World} {base e n : Nat} {v : Value} {k : Int} (h : w.ownsRow base e 2 v n ((marksA k n).flatMap encA)) : Sl encA 2 w v (marksA k n) := Sl.of_owns encA_len (by rw [marksA_len]; exact h)
theorem addr_dec {W : World} {n : Nat} (cs : List Value) (h : All2 (CellN W n) [.int .i64, .int .i64] cs) : ∃ a : Ad, cs = encA a ∧ ((Lit.int .i64 a.id).wf = true ∧ (Lit.int .i64 a.seen).wf = true) := by
  match cs, h with
  | [_, _], ⟨k1, k2, _⟩ =>
    obtain ⟨i, rfl, h1⟩ := cell_int k1
    obtain ⟨s, rfl, h2⟩ := cell_int k2
    exact ⟨⟨i, s⟩, rfl, h1, h2⟩

set_option maxHeartbeats 1000000 in
theorem fnExactAddrsOk_any (v : Value) (xs : List Ad) (w : World) (hx : Sl encA 2 w v xs) :
    Calls Try.prog 7 #[v] w fun e w' => e = .returned (.bool true) ∧ Ext w w' := by
  have hsz : ∃ o c, v = .slice o xs.length c := by
    rcases hx with ⟨o, c, rfl, rfl⟩ | ⟨b1, o1, c1, rfl, _⟩
    · exact ⟨_, _, rfl⟩
    · exact ⟨_, _, rfl⟩
  obtain ⟨o, c, rfl⟩ := hsz
  have hm := hx.len
  by_cases hl : (1048576 : Int) < (xs.length : Int)
  · have hs : szOf 1048576 xs.length = -1 := szOf_no hl
    go_enter Try.func7, Try.ntmps7
    go_wp2_with fail
    (refine (szAddrS_any _ _ _ _ _ hm (by omega) (by omega)).mono ?_); rintro e w' ⟨rfl, rfl⟩
    go_wp2
    go_ret
    exact ⟨rfl, by (repeat (first | (with_reducible exact Ext.refl _) | (with_reducible assumption) | (with_reducible refine Ext.alloc ?_ _) | (with_reducible refine Ext.drew ?_) | (with_reducible refine Ext.drewN ?_ _) | ((with_reducible apply Ext.setCell); (case hp => first | omega | (simp; done) | (simp; omega))) | (with_reducible refine Ext.trans ?_ (by assumption))))⟩
  · have hs : szOf 1048576 xs.length = 1048576 - xs.length := szOf_yes hl
    have hn : xs.length ≤ 1048576 := by omega
    have hl' : (xs.length : Int) ≤ 1048576 := by omega
    go_enter Try.func7, Try.ntmps7
    go_wp2_with fail
    (refine (szAddrS_any _ _ _ _ _ hm (by omega) (by omega)).mono ?_); rintro e w' ⟨rfl, rfl⟩
    rw [hs]
    clear hs
    go_wp2_with fail
    (refine (toAddrS_any _ xs _ hx hn).mono ?_); rintro e w1 ⟨v1, rfl, ho1, hb1⟩
    have s1 := Sl.of_owns encA_len ho1
    clear ho1
    go_wp2_with fail
    (refine (sAddrsOk_any _ xs _ s1 hn).mono ?_); rintro e w2 ⟨rfl, hb2⟩
    have x2 := (hx.ext hb1).ext hb2
    go_wp2_with fail
    (refine (toAddrS_any _ xs _ x2 hn).mono ?_); rintro e w3 ⟨v3, rfl, ho3, hb3⟩
    have s3 := Sl.of_owns encA_len ho3
    clear ho3
    go_wp2_with fail
    (refine (addrsOk_any _ xs _ s3 hn).mono ?_); rintro e w4 ⟨rfl, hb4⟩
    have x4 := (x2.ext hb3).ext hb4
    have s4 := s3.ext hb4
    go_wp2_with fail
    (refine (toAddrS_any _ xs _ x4 hn).mono ?_); rintro e w5 ⟨v5, rfl, ho5, hb5⟩
    have s5 := Sl.of_owns encA_len ho5
    have t5 := s4.ext hb5
    clear ho5
    go_wp2_with fail
    (refine (eqAddrS_any _ _ xs _ t5 s5).mono ?_); rintro e w6 ⟨rfl, hb6⟩
    go_wp2
    go_ret
    exact ⟨rfl, by (repeat (first | (with_reducible exact Ext.refl _) | (with_reducible assumption) | (with_reducible refine Ext.alloc ?_ _) | (with_reducible refine Ext.drew ?_) | (with_reducible refine Ext.drewN ?_ _) | ((with_reducible apply Ext.setCell); (case hp => first | omega | (simp; done) | (simp; omega))) | (with_reducible refine Ext.trans ?_ (by assumption))))⟩

theorem fnExactAddrsOk_args {H : Type} {enc : TypeId × Value → H} (W : World) (base : Nat) (args : Array Value) (ds : List (DataW H)) (p : List MemPlace)
    (hval : ∀ (j : Nat) t v, #[41][j]? = some t → args[j]? = some v → Value.okWide Try.prog W .any base t v)
    (hA : DataW.TrodAll enc Try.prog W 0 (fun _ => true) true #[41].toList args.toList ds p) :
    Calls Try.prog 7 args W fun e W' => e = .returned (.bool true) ∧ Ext W W' := by
  obtain ⟨v0, d0, rfl, rfl, h0⟩ := trodAll_one hA
  have hc := read_slice Try.underlying41 (n := 4) (s := .sl [.int .i64, .int .i64]) (by kernel_rfl) (hval 0 _ _ rfl rfl) h0
  obtain ⟨xs, hx, _⟩ := sl_read (by decide) addr_dec hc
  exact fnExactAddrsOk_any v0 xs W hx
end Go.Proofs.Ythnmiimckgphnaa

/- The laws of the lanes: how their arguments read. -/
import Derived.Test.YthnmiimckgphnaaLanesOk
import Derived.Test.YthnmiimckgphnaaReadSl
import Derived.Deep.RegionHeld3
namespace Go.Proofs.Ythnmiimckgphnaa
open Go.RowKit Go.ChangeShapes Go.WideShapes

theorem all2_choose {α β : Type} {R : α → β → Prop} : ∀ (l : List α), (∀ a ∈ l, ∃ b, R a b) → ∃ m, All2 R l m
  | [], _ => ⟨[], trivial⟩
  | a :: l, h => by
    obtain ⟨b, hb⟩ := h a (List.mem_cons_self ..)
    obtain ⟨m, hm⟩ := all2_choose l fun x hx => h x (List.mem_cons_of_mem _ hx)
    exact ⟨b :: m, hb, hm⟩
theorem int_dec {W : World} {n : Nat} (cs : List Value) (h : All2 (CellN W n) [.int .i64] cs) : ∃ x : Int, cs = encI x ∧ (Lit.int .i64 x).wf = true := by
  match cs, h with
  | [_], ⟨k1, _⟩ =>
    obtain ⟨i, rfl, h1⟩ := cell_int k1
    exact ⟨i, rfl, h1⟩
theorem cell_dec {W : World} {n : Nat} {s : Sh} (cs : List Value) (h : All2 (CellN W n) [s] cs) : ∃ x : Value, cs = encV x ∧ CellN W n s x := by
  match cs, h with
  | [x], ⟨k1, _⟩ => exact ⟨x, rfl, k1⟩
theorem ints_read {W : World} {n : Nat} {v : Value} (h : CellN W (n + 2) (.sl [.sl [.int .i64]]) v) : ∃ xss, SlSl encI 1 W v xss := by
  obtain ⟨us, h1, h2⟩ := sl_read (by decide) cell_dec h
  obtain ⟨xss, h3⟩ := all2_choose (R := Sl encI 1 W) us fun u hu => by
    obtain ⟨xs, q1, _⟩ := sl_read (by decide) int_dec (h2 u hu)
    exact ⟨xs, q1⟩
  exact ⟨xss, us, h1, h3⟩
theorem two_cells {W : World} {m : Nat} {a b : Sh} (cs : List Value) (h : All2 (CellN W m) [a, b] cs) : ∃ x y, cs = [x, y] ∧ CellN W m a x ∧ CellN W m b y := by
  match cs, h with
  | [x, y], ⟨k1, k2, _⟩ => exact ⟨x, y, rfl, k1, k2⟩
theorem lanes_read {W : World} {n : Nat} {cs : Array Value} (h : All2 (CellN W (n + 2)) [.sl [.sl [.int .i64]], .int .i64] cs.toList) : ∃ v xss turn, Value.agg cs = lanesV v turn ∧ SlSl encI 1 W v xss ∧ (Lit.int .i64 turn).wf = true := by
  obtain ⟨v, y, e, k1, k2⟩ := two_cells _ h
  obtain ⟨t, rfl, h1⟩ := cell_int k2
  obtain ⟨xss, h2⟩ := ints_read k1
  obtain rfl : cs = #[v, .int .i64 t] := by rw [← Array.toArray_toList (xs := cs), e]
  exact ⟨v, xss, t, rfl, h2, h1⟩

set_option maxHeartbeats 1000000 in
theorem fnExactLanesOk_any (v : Value) (xss : List (List Int)) (turn : Int) (w : World) (hx : SlSl encI 1 w v xss) :
    Calls Try.prog 10 #[lanesV v turn] w fun e w' => e = .returned (.bool true) ∧ Ext w w' := by
  obtain ⟨o, c, rfl⟩ := hx.len
  unfold lanesV
  have hbd := szSS_bd (xss := xss) (l := 1048576)
  generalize e : szSS 1048576 xss = r at *
  have E := Lib.hid e; clear e
  rcases hbd with rfl | ⟨h0, h1, h2⟩
  · go_enter Try.func10, Try.ntmps10
    go_wp2_with fail
    (refine (szLanes_any _ xss turn _ _ (hx.ext (by (repeat (first | (with_reducible exact Ext.refl _) | (with_reducible assumption) | (with_reducible refine Ext.alloc ?_ _) | (with_reducible refine Ext.drew ?_) | (with_reducible refine Ext.drewN ?_ _) | ((with_reducible apply Ext.setCell); (case hp => first | omega | (simp; done) | (simp; omega))) | (with_reducible refine Ext.trans ?_ (by assumption)))))) (by omega) (by omega)).mono ?_); rw [E.out]; rintro e w1 ⟨rfl, hb⟩; (obtain ⟨B0, c0, f0, l0⟩ := Box.after (k := w.heap.size) hb (by (repeat (first | (with_reducible assumption) | ((with_reducible apply Box.new); (first | (with_reducible rfl) | (simp; done) | (simp; omega))) | (with_reducible apply Box.alloc) | (with_reducible apply Box.drew) | (with_reducible apply Box.drewN) | (with_reducible apply Box.set) | ((with_reducible apply Box.set_ne); (case hne => first | omega | (simp; done) | (simp; omega)))))))
    go_wp2
    go_ret
    exact ⟨rfl, by (repeat (first | (with_reducible exact Ext.refl _) | (with_reducible assumption) | (with_reducible refine Ext.alloc ?_ _) | (with_reducible refine Ext.drew ?_) | (with_reducible refine Ext.drewN ?_ _) | ((with_reducible apply Ext.setCell); (case hp => first | omega | (simp; done) | (simp; omega))) | (with_reducible refine Ext.trans ?_ (by assumption))))⟩
  · have hn : xss.length ≤ 1048576 := by omega
    have hrl : ∀ xs ∈ xss, xs.length ≤ 1048576 := fun xs h => by have := h2 xs h; omega
    have HN := Lib.hid hn
    have HRL := Lib.hid hrl
    clear hn hrl h2 h1
    go_enter Try.func10, Try.ntmps10
    go_wp2_with fail
    (refine (szLanes_any _ xss turn _ _ (hx.ext (by (repeat (first | (with_reducible exact Ext.refl _) | (with_reducible assumption) | (with_reducible refine Ext.alloc ?_ _) | (with_reducible refine Ext.drew ?_) | (with_reducible refine Ext.drewN ?_ _) | ((with_reducible apply Ext.setCell); (case hp => first | omega | (simp; done) | (simp; omega))) | (with_reducible refine Ext.trans ?_ (by assumption)))))) (by omega) (by omega)).mono ?_); rw [E.out]; rintro e w1 ⟨rfl, hb⟩; (obtain ⟨B0, c0, f0, l0⟩ := Box.after (k := w.heap.size) hb (by (repeat (first | (with_reducible assumption) | ((with_reducible apply Box.new); (first | (with_reducible rfl) | (simp; done) | (simp; omega))) | (with_reducible apply Box.alloc) | (with_reducible apply Box.drew) | (with_reducible apply Box.drewN) | (with_reducible apply Box.set) | ((with_reducible apply Box.set_ne); (case hne => first | omega | (simp; done) | (simp; omega)))))))
    have hE1 : Ext w w1 := by (repeat (first | (with_reducible exact Ext.refl _) | (with_reducible assumption) | (with_reducible refine Ext.alloc ?_ _) | (with_reducible refine Ext.drew ?_) | (with_reducible refine Ext.drewN ?_ _) | ((with_reducible apply Ext.setCell); (case hp => first | omega | (simp; done) | (simp; omega))) | (with_reducible refine Ext.trans ?_ (by assumption))))
    clear hb
    go_wp2_with fail
    (refine (toLanes_any _ xss turn _ (hx.ext (by (repeat (first | (with_reducible exact Ext.refl _) | (with_reducible assumption) | (with_reducible refine Ext.alloc ?_ _) | (with_reducible refine Ext.drew ?_) | (with_reducible refine Ext.drewN ?_ _) | ((with_reducible apply Ext.setCell); (case hp => first | omega | (simp; done) | (simp; omega))) | (with_reducible refine Ext.trans ?_ (by assumption)))))) HN.out HRL.out).mono ?_); rintro e w2 ⟨v2, rfl, hO2, hb⟩; (obtain ⟨B0, c0, f0, l0⟩ := Box.after (k := w.heap.size) hb (by (repeat (first | (with_reducible assumption) | ((with_reducible apply Box.new); (first | (with_reducible rfl) | (simp; done) | (simp; omega))) | (with_reducible apply Box.alloc) | (with_reducible apply Box.drew) | (with_reducible apply Box.drewN) | (with_reducible apply Box.set) | ((with_reducible apply Box.set_ne); (case hne => first | omega | (simp; done) | (simp; omega)))))))
    have hE2 : Ext w w2 := by (repeat (first | (with_reducible exact Ext.refl _) | (with_reducible assumption) | (with_reducible refine Ext.alloc ?_ _) | (with_reducible refine Ext.drew ?_) | (with_reducible refine Ext.drewN ?_ _) | ((with_reducible apply Ext.setCell); (case hp => first | omega | (simp; done) | (simp; omega))) | (with_reducible refine Ext.trans ?_ (by assumption))))
    have s2 := hO2.read encI_len
    clear hb hO2 hE1
    go_wp2_with fail
    (refine (sLanesOk_any _ xss turn _ s2).mono ?_); rintro e w3 ⟨rfl, hb⟩; (obtain ⟨B0, c0, f0, l0⟩ := Box.after (k := w.heap.size) hb (by (repeat (first | (with_reducible assumption) | ((with_reducible apply Box.new); (first | (with_reducible rfl) | (simp; done) | (simp; omega))) | (with_reducible apply Box.alloc) | (with_reducible apply Box.drew) | (with_reducible apply Box.drewN) | (with_reducible apply Box.set) | ((with_reducible apply Box.set_ne); (case hne => first | omega | (simp; done) | (simp; omega)))))))
    have hE3 : Ext w w3 := by (repeat (first | (with_reducible exact Ext.refl _) | (with_reducible assumption) | (with_reducible refine Ext.alloc ?_ _) | (with_reducible refine Ext.drew ?_) | (with_reducible refine Ext.drewN ?_ _) | ((with_reducible apply Ext.setCell); (case hp => first | omega | (simp; done) | (simp; omega))) | (with_reducible refine Ext.trans ?_ (by assumption))))
    clear hb s2 hE2
    go_wp2_with fail
    (refine (toLanes_any _ xss turn _ (hx.ext (by (repeat (first | (with_reducible exact Ext.refl _) | (with_reducible assumption) | (with_reducible refine Ext.alloc ?_ _) | (with_reducible refine Ext.drew ?_) | (with_reducible refine Ext.drewN ?_ _) | ((with_reducible apply Ext.setCell); (case hp => first | omega | (simp; done) | (simp; omega))) | (with_reducible refine Ext.trans ?_ (by assumption)))))) HN.out HRL.out).mono ?_); rintro e w4 ⟨v4, rfl, hO4, hb⟩; (obtain ⟨B0, c0, f0, l0⟩ := Box.after (k := w.heap.size) hb (by (repeat (first | (with_reducible assumption) | ((with_reducible apply Box.new); (first | (with_reducible rfl) | (simp; done) | (simp; omega))) | (with_reducible apply Box.alloc) | (with_reducible apply Box.drew) | (with_reducible apply Box.drewN) | (with_reducible apply Box.set) | ((with_reducible apply Box.set_ne); (case hne => first | omega | (simp; done) | (simp; omega)))))))
    have hE4 : Ext w w4 := by (repeat (first | (with_reducible exact Ext.refl _) | (with_reducible assumption) | (with_reducible refine Ext.alloc ?_ _) | (with_reducible refine Ext.drew ?_) | (with_reducible refine Ext.drewN ?_ _) | ((with_reducible apply Ext.setCell); (case hp => first | omega | (simp; done) | (simp; omega))) | (with_reducible refine Ext.trans ?_ (by assumption))))
    have s4 := hO4.read encI_len
    obtain ⟨o4, k4, rfl⟩ := s4.len
    clear hb hO4 hE3
    have E4 : (lanesV (.slice o4 xss.length k4) turn) = .agg #[.slice o4 xss.length k4, .int .i64 turn] := rfl
    rw [E4]
    clear E4
    go_wp2_with fail
    (refine (lanesOk_any _ xss turn _ (s4.ext (by (repeat (first | (with_reducible exact Ext.refl _) | (with_reducible assumption) | (with_reducible refine Ext.alloc ?_ _) | (with_reducible refine Ext.drew ?_) | (with_reducible refine Ext.drewN ?_ _) | ((with_reducible apply Ext.setCell); (case hp => first | omega | (simp; done) | (simp; omega))) | (with_reducible refine Ext.trans ?_ (by assumption))))))).mono ?_); rintro e w5 ⟨rfl, hb⟩; (obtain ⟨B0, c0, f0, l0⟩ := Box.after (k := w.heap.size) hb (by (repeat (first | (with_reducible assumption) | ((with_reducible apply Box.new); (first | (with_reducible rfl) | (simp; done) | (simp; omega))) | (with_reducible apply Box.alloc) | (with_reducible apply Box.drew) | (with_reducible apply Box.drewN) | (with_reducible apply Box.set) | ((with_reducible apply Box.set_ne); (case hne => first | omega | (simp; done) | (simp; omega))))))); (obtain ⟨B4, c4, f4, l4⟩ := Box.after (k := w4.heap.size) hb (by (repeat (first | (with_reducible assumption) | ((with_reducible apply Box.new); (first | (with_reducible rfl) | (simp; done) | (simp; omega))) | (with_reducible apply Box.alloc) | (with_reducible apply Box.drew) | (with_reducible apply Box.drewN) | (with_reducible apply Box.set) | ((with_reducible apply Box.set_ne); (case hne => first | omega | (simp; done) | (simp; omega)))))))
    have s5 : SlSl encI 1 w5 (.slice o4 xss.length k4) xss := s4.ext (by (repeat (first | (with_reducible exact Ext.refl _) | (with_reducible assumption) | (with_reducible refine Ext.alloc ?_ _) | (with_reducible refine Ext.drew ?_) | (with_reducible refine Ext.drewN ?_ _) | ((with_reducible apply Ext.setCell); (case hp => first | omega | (simp; done) | (simp; omega))) | (with_reducible refine Ext.trans ?_ (by assumption)))))
    have hE5 : Ext w w5 := by (repeat (first | (with_reducible exact Ext.refl _) | (with_reducible assumption) | (with_reducible refine Ext.alloc ?_ _) | (with_reducible refine Ext.drew ?_) | (with_reducible refine Ext.drewN ?_ _) | ((with_reducible apply Ext.setCell); (case hp => first | omega | (simp; done) | (simp; omega))) | (with_reducible refine Ext.trans ?_ (by assumption))))
    clear hb s4 hE4
    go_wp2_with fail
    go_region_held3 (fun w' => (w'.cell? ⟨w.heap.size, 0, none⟩ = some (.slice o xss.length c) ∧ w'.cell? ⟨w.heap.size, 1, none⟩ = some (.int .i64 turn)) ∧ w'.cell? ⟨w4.heap.size, 0, none⟩ = some (.slice o4 xss.length k4) ∧ w'.cell? ⟨w4.heap.size, 1, none⟩ = some (.int .i64 turn)) ((first | go_keep | ((try dsimp only); (try go_split_ands); (repeat' apply And.intro) <;> exact hb.cellSome (by assumption))))
      (first | (go_at_call 38; refine (toLanes_any _ xss turn _ (hx.ext (by (repeat (first | (with_reducible exact Ext.refl _) | (with_reducible assumption) | (with_reducible refine Ext.alloc ?_ _) | (with_reducible refine Ext.drew ?_) | (with_reducible refine Ext.drewN ?_ _) | ((with_reducible apply Ext.setCell); (case hp => first | omega | (simp; done) | (simp; omega))) | (with_reducible refine Ext.trans ?_ (by assumption)))))) HN.out HRL.out).mono ?_; rintro e w6 ⟨v6, rfl, hO6, hb⟩) | (go_at_call 40; refine (eqLanes_any _ _ xss turn _ (s5.ext (by (repeat (first | (with_reducible exact Ext.refl _) | (with_reducible assumption) | (with_reducible refine Ext.alloc ?_ _) | (with_reducible refine Ext.drew ?_) | (with_reducible refine Ext.drewN ?_ _) | ((with_reducible apply Ext.setCell); (case hp => first | omega | (simp; done) | (simp; omega))) | (with_reducible refine Ext.trans ?_ (by assumption)))))) ((hO6.read encI_len).ext (by (repeat (first | (with_reducible exact Ext.refl _) | (with_reducible assumption) | (with_reducible refine Ext.alloc ?_ _) | (with_reducible refine Ext.drew ?_) | (with_reducible refine Ext.drewN ?_ _) | ((with_reducible apply Ext.setCell); (case hp => first | omega | (simp; done) | (simp; omega))) | (with_reducible refine Ext.trans ?_ (by assumption))))))).mono ?_; rintro e w7 ⟨rfl, hb⟩))
    go_wp2
    go_ret
    exact ⟨rfl, by (repeat (first | (with_reducible exact Ext.refl _) | (with_reducible assumption) | (with_reducible refine Ext.alloc ?_ _) | (with_reducible refine Ext.drew ?_) | (with_reducible refine Ext.drewN ?_ _) | ((with_reducible apply Ext.setCell); (case hp => first | omega | (simp; done) | (simp; omega))) | (with_reducible refine Ext.trans ?_ (by assumption))))⟩

theorem fnExactLanesOk_args {H : Type} {enc : TypeId × Value → H} (W : World) (base : Nat) (args : Array Value) (ds : List (DataW H)) (p : List MemPlace)
    (hval : ∀ (j : Nat) t v, #[55][j]? = some t → args[j]? = some v → Value.okWide Try.prog W .any base t v)
    (hA : DataW.TrodAll enc Try.prog W 0 (fun _ => true) true #[55].toList args.toList ds p) :
    Calls Try.prog 10 args W fun e W' => e = .returned (.bool true) ∧ Ext W W' := by
  obtain ⟨v0, d0, rfl, rfl, h0⟩ := trodAll_one hA
  obtain ⟨cs, rfl, hc⟩ := read_struct Try.underlying55 (n := 6) (ss := [.sl [.sl [.int .i64]], .int .i64]) (by kernel_rfl) (hval 0 _ _ rfl rfl) h0
  obtain ⟨v, xss, turn, e, hx, _⟩ := lanes_read (n := 4) hc
  rw [e]
  exact fnExactLanesOk_any v xss turn W hx
end Go.Proofs.Ythnmiimckgphnaa

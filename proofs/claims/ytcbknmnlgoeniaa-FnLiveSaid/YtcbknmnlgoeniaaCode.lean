/- A law that draws from bytes: from the walk on the pure machine to the law's frame. -/
import Derived.Test.YtcbknmnlgoeniaaI1
import Derived.Test.YtcbknmnlgoeniaaI5
import Derived.Test.YtcbknmnlgoeniaaK1
import Derived.Test.YtcbknmnlgoeniaaPvZ
import Derived.Test.YtcbknmnlgoeniaaK2
import Derived.Test.YtcbknmnlgoeniaaTys
namespace Go.Proofs.Ytcbknmnlgoeniaa
set_option linter.unusedSimpArgs false
set_option linter.unusedVariables false
open Go.RowKit Go.ChangeShapes Go.WideShapes
def cellU8 (x : UInt8) : List Value := [.int .u8 (x.toNat : Nat)]
theorem u8_dec {W : World} {n : Nat} (cs : List Value) (h : All2 (CellN W n) [.int .u8] cs) : ∃ a : UInt8, cs = cellU8 a ∧ True := by
  match cs, h with
  | [_], ⟨k1, _⟩ =>
    obtain ⟨i, rfl, h1⟩ := cell_int k1
    have hb : 0 ≤ i ∧ i ≤ 255 := by
      simp [Lit.wf, IntKind.min, IntKind.max, IntKind.signed, IntKind.bits] at h1
      omega
    obtain ⟨j, rfl⟩ := Int.eq_ofNat_of_zero_le hb.1
    refine ⟨UInt8.ofNat j, ?_, trivial⟩
    have : (UInt8.ofNat j).toNat = j := by rw [UInt8.toNat_ofNat']; omega
    simp [cellU8, this]
theorem sl_code {W : World} {v : Value} {xs : List UInt8} (h : Sl cellU8 1 W v xs) (hm : Home) : VR (memW W) hm (.sl 1 (xs.map pU8)) v := by
  rcases h with ⟨o, cap, rfl, rfl⟩ | ⟨b, off, cap, rfl, h1, h2, h3, h4, h5⟩
  · exact .sl0 1 o cap
  · have := VR.sl (M := memW W) (h := hm) 1 (xs.map pU8) b off cap (fun i _ => .int .u8 ((xs.getD i 0).toNat : Nat)) (by simpa using h1) (by simpa using h2) h3 (fun row hr => by obtain ⟨x, _, rfl⟩ := List.mem_map.1 hr; rfl)
      (fun i j row pv a d => by
        rw [List.getElem?_map, Option.map_eq_some_iff] at a
        obtain ⟨x, a, rfl⟩ := a
        cases j with
        | succ j => simp [pU8] at d
        | zero =>
          refine memW_of ?_ rfl
          rw [h5 i x a 0 (by omega), List.getD_eq_getElem?_getD, a]
          rfl)
      (fun i j row pv a d => by
        rw [List.getElem?_map, Option.map_eq_some_iff] at a
        obtain ⟨x, a, rfl⟩ := a
        cases j with
        | succ j => simp [pU8] at d
        | zero =>
          simp [pU8] at d
          subst d
          rw [List.getD_eq_getElem?_getD, a]
          exact .val _)
    simpa using this
set_option maxRecDepth 100000 in
theorem code_law {f : FuncId} (hp : ∀ code : List UInt8, code.length ≤ 9223372036854775807 → PCalls Try.prog f [.sl 1 (code.map pU8)] [] (RV (.val (.bool true)))) {H : Type} {enc : TypeId × Value → H} (W : World) (base : Nat) (args : Array Value) (ds : List (DataW H)) (p : List MemPlace) (hG : GlobW W)
    (hval : ∀ (j : Nat) t v, #[22][j]? = some t → args[j]? = some v → Value.okWide Try.prog W .any base t v)
    (hA : DataW.TrodAll enc Try.prog W 0 (fun _ => true) true #[22].toList args.toList ds p) :
    Calls Try.prog f args W fun e W' => e = .returned (.bool true) ∧ Ext W W' := by
  obtain ⟨v0, d0, rfl, rfl, h0⟩ := trodAll_one hA
  have hc := read_slice Try.underlying22 (n := 4) (s := .sl [.int .u8]) (by kernel_rfl) (hval 0 _ _ rfl rfl) h0
  obtain ⟨xs, hx, _⟩ := sl_read (by decide) u8_dec hc
  have hl : xs.length ≤ 9223372036854775807 := by have := hx.len; unfold maxLen at this; omega
  refine ((hp xs hl).use (w := W) hG.mem (vs := #[v0]) ⟨rfl, fun i pv v a b => ?_⟩).mono fun e w' ⟨v, M', h', pv, H', e1, e2, e3, _, e5, _⟩ => ?_
  · cases i with
    | zero => simp at a b; subst a; subst b; exact sl_code hx _
    | succ i => simp at a
  · cases e2
    have := vr_val e3
    subst this
    exact ⟨e1, e5⟩
end Go.Proofs.Ytcbknmnlgoeniaa

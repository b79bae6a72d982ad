/- The pure machine: contracts that were proved over the model's worlds. -/
import Derived.Test.YtgcelmnmalfpcaaDoorI4
namespace Go.Proofs.YtgcelmnmalfpcaaDoor
open Go.RowKit

/-- The program's variables, as a world holds them. -/
def GlobW (w : World) : Prop := ∀ (i : Nat) (n : Int), globL[i]? = some n → w.cell? ⟨0, i, none⟩ = some (.int .u32 n)
theorem GlobW.mem {w : World} (h : GlobW w) : Glob (memW w) := fun i n q => memW_of (h i n q) rfl
theorem flats {M : Mem} {h : Home} : ∀ {args : List PV} {us vs : List Value}, args.map flat = us.map some → args.length = vs.length → (∀ (i : Nat) (pv : PV) (v : Value), args[i]? = some pv → vs[i]? = some v → VR M h pv v) → vs = us
  | [], [], [], _, _, _ => rfl
  | [], _ :: _, _, e, _, _ => by simp at e
  | _ :: _, [], _, e, _, _ => by simp at e
  | [], [], _ :: _, _, e, _ => by simp at e
  | _ :: _, _ :: _, [], _, e, _ => by simp at e
  | a :: as, u :: us, v :: vs, e, l, r => by
    simp only [List.map_cons, List.cons.injEq] at e
    rw [flat_vr e.1 (r 0 a v rfl rfl), flats (us := us) (vs := vs) e.2 (by simpa using l) fun i pv v a b => r (i + 1) pv v (by simpa using a) (by simpa using b)]
theorem pcalls_flat {P : Program} {f : FuncId} {args : List PV} {us : List Value} {r : PV} {u : Value} (ha : args.map flat = us.map some) (hr : ∀ M h, VR M h r u) (h : ∀ w, GlobW w → Calls P f us.toArray w fun e w' => e = .returned u ∧ Ext w w') : PCalls P f args [] (RV r) := by
  intro M hh w vs I rv
  have e := flats (M := M) (h := hh) (vs := vs.toList) ha (by simpa using rv.1) fun i pv v a b => rv.2 i pv v a (by simpa using b)
  have e' : vs = us.toArray := by rw [← e]
  subst e'
  exact (h w fun i n q => I.mem _ _ _ (I.glob i n q)).mono fun e w' ⟨h1, h2⟩ => ⟨u, M, hh, r, [], h1, rfl, hr M hh, Step.ext I h2⟩
theorem vr_agg {M : Mem} {h : Home} {us : List Value} : VR M h (.agg (us.map .val)) (.agg us.toArray) :=
  .agg _ _ (by simp) fun i pv v a b => by
    simp only [List.getElem?_map, Option.map_eq_some_iff] at a
    obtain ⟨x, h1, rfl⟩ := a
    rw [List.getElem?_toArray, h1] at b
    cases b
    exact .val _
theorem vr_tup {M : Mem} {h : Home} {us : List Value} : VR M h (.tup (us.map .val)) (.tuple us.toArray) :=
  .tup _ _ (by simp) fun i pv v a b => by
    simp only [List.getElem?_map, Option.map_eq_some_iff] at a
    obtain ⟨x, h1, rfl⟩ := a
    rw [List.getElem?_toArray, h1] at b
    cases b
    exact .val _
end Go.Proofs.YtgcelmnmalfpcaaDoor

/- Several texts, one behind the other. -/
import Derived.Test.YtkbikihbomnghaaI5
import Derived.Test.YtkbikihbomnghaaI4
/- Results that lie in memory of their own, as the laws want them. -/
namespace Go.Proofs.Ytkbikihbomnghaa
set_option linter.unusedSimpArgs false
set_option linter.unusedVariables false
open Go.RowKit
theorem vr_tup2 {M : Mem} {h : Home} {a b : PV} {v : Value} (r : VR M h (.tup [a, b]) v) : ∃ x y, v = .tuple #[x, y] ∧ VR M h a x ∧ VR M h b y := by
  cases r with
  | tup _ vs h1 h2 =>
    obtain ⟨l⟩ := vs
    match l, h1, h2 with
    | [x, y], _, h2 => exact ⟨x, y, rfl, h2 0 a x rfl rfl, h2 1 b y rfl rfl⟩
theorem vr_tup3 {M : Mem} {h : Home} {a b c : PV} {v : Value} (r : VR M h (.tup [a, b, c]) v) : ∃ x y z, v = .tuple #[x, y, z] ∧ VR M h a x ∧ VR M h b y ∧ VR M h c z := by
  cases r with
  | tup _ vs h1 h2 =>
    obtain ⟨l⟩ := vs
    match l, h1, h2 with
    | [x, y, z], _, h2 => exact ⟨x, y, z, rfl, h2 0 a x rfl rfl, h2 1 b y rfl rfl, h2 2 c z rfl rfl⟩
theorem vr_aggL {M : Mem} {h : Home} {fs : List PV} {v : Value} (r : VR M h (.agg fs) v) : ∃ vs : List Value, v = .agg vs.toArray ∧ vs.length = fs.length ∧ ∀ (i : Nat) (pv : PV) (u : Value), fs[i]? = some pv → vs[i]? = some u → VR M h pv u := by
  cases r with
  | agg _ vs h1 h2 =>
    obtain ⟨l⟩ := vs
    exact ⟨l, rfl, h1.symm, fun i pv u a b => h2 i pv u a (by simpa using b)⟩
/-- A struct in memory of its own, and a value. -/
def RO2 (ds : List D) (u : Value) : PV → Hp → Prop := fun r H => ∃ ps B, r = .tup [.agg ps, .val u] ∧ OwD H ps ds B ∧ nodupR B = true
theorem RO2.obj {ds : List D} {u : Value} {pv : PV} {H : Hp} (r : RO2 ds u pv H) {M : Mem} {h : Home} {w : World} (I : Inv M h H w) {lo : Nat} (hlo : ∀ k, Homes h H k → lo ≤ k) {v : Value} (hv : VR M h pv v) :
    ∃ vs : List Value, v = .tuple #[.agg vs.toArray, u] ∧ Obj w lo w.heap.size ds vs := by
  obtain ⟨ps, B, rfl, o, n⟩ := r
  obtain ⟨x, y, rfl, q0, q1⟩ := vr_tup2 hv
  obtain ⟨vs, rfl, l, q⟩ := vr_aggL q0
  have := vr_val q1
  subst this
  exact ⟨vs, rfl, obj_of I o n hlo l q⟩
/-- A struct in memory of its own, and two values. -/
def RO3 (ds : List D) (u x : Value) : PV → Hp → Prop := fun r H => ∃ ps B, r = .tup [.agg ps, .val u, .val x] ∧ OwD H ps ds B ∧ nodupR B = true
theorem RO3.obj {ds : List D} {u x : Value} {pv : PV} {H : Hp} (r : RO3 ds u x pv H) {M : Mem} {h : Home} {w : World} (I : Inv M h H w) {lo : Nat} (hlo : ∀ k, Homes h H k → lo ≤ k) {v : Value} (hv : VR M h pv v) :
    ∃ vs : List Value, v = .tuple #[.agg vs.toArray, u, x] ∧ Obj w lo w.heap.size ds vs := by
  obtain ⟨ps, B, rfl, o, n⟩ := r
  obtain ⟨a, b, c, rfl, q0, q1, q2⟩ := vr_tup3 hv
  obtain ⟨vs, rfl, l, q⟩ := vr_aggL q0
  have := vr_val q1
  subst this
  have := vr_val q2
  subst this
  exact ⟨vs, rfl, obj_of I o n hlo l q⟩
/-- A slice in memory of its own. -/
def RO1 (ds : List D) : PV → Hp → Prop := fun r H => ∃ B, OwD H [r] ds B ∧ nodupR B = true
theorem RO1.obj {ds : List D} {pv : PV} {H : Hp} (r : RO1 ds pv H) {M : Mem} {h : Home} {w : World} (I : Inv M h H w) {lo : Nat} (hlo : ∀ k, Homes h H k → lo ≤ k) {v : Value} (hv : VR M h pv v) : Obj w lo w.heap.size ds [v] := by
  obtain ⟨B, o, n⟩ := r
  refine obj_of I o n hlo (vs := [v]) rfl fun i p u a b => ?_
  cases i with
  | zero => simp at a b; subst a; subst b; exact hv
  | succ i => simp at a
theorem shp_sl {w : World} {e : TypeId} {sz : Nat} {α : Type} {enc : α → List D} {xs : List α} {v : Value} (h : Rds w [slD e sz enc xs] [v]) : ∃ (o : Option Addr) (c : Nat), v = .slice o xs.length c := by
  obtain ⟨u, l, e0, b0, _⟩ := rds_slD.1 h
  obtain ⟨o, c, e1⟩ := RS.val b0
  simp at e0
  exact ⟨o, c, by rw [← e1, e0.1]⟩
theorem owd_row {H : Hp} {ps : List PV} {ds : List D} {B : List Nat} {α : Type} {enc : α → List D} {p : α → List PV} (b : Nat) (e : TypeId) (sz : Nat) (xs : List α) (hz : 0 < sz) (hH : H[b]? = some (some (.row e sz (xs.map p)))) (hp : ∀ x, p x = toPVL (enc x)) (hs : ∀ x, (enc x).all scal = true) (h : OwD H ps ds B) : OwD H (.own b :: ps) (slD e sz enc xs :: ds) (b :: B) := by
  have := OwD.own b e sz hz hH (OwD.rows hp hs xs) h
  simpa [slD] using this
theorem owd_nil {H : Hp} {ps : List PV} {ds : List D} {B : List Nat} {α : Type} {enc : α → List D} (e : TypeId) (sz : Nat) (h : OwD H ps ds B) : OwD H (.val (.slice none 0 0) :: ps) (slD e sz enc [] :: ds) B := by
  have := OwD.nilS e sz h
  simpa [slD] using this
end Go.Proofs.Ytkbikihbomnghaa

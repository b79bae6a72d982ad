/- Structs are compared. -/
import Derived.Test.YtcbknmnlgoeniaaPT
namespace Go.Proofs.Ytcbknmnlgoeniaa
set_option linter.unusedSimpArgs false
set_option linter.unusedVariables false
open Go.RowKit
set_option maxRecDepth 100000
theorem eqS_B {a b : ByteArray} : (a == b) = eqB a b := by
  obtain ⟨a⟩ := a
  obtain ⟨b⟩ := b
  have e : ((⟨a⟩ : ByteArray) == ⟨b⟩) = (a == b) := rfl
  rw [e]
  by_cases h : a = b
  · subst h; rw [eqB_self]; simp
  · rw [eqB_no.2 (by simpa using h)]; simpa using h
theorem eqI_B {a b : Int} : (a == b) = decide (a = b) := by
  by_cases h : a = b
  · subst h; simp
  · simp [h]
theorem sflat_bind {P : Program} {α β : Type} (s : Sem α) (k : α → Sem β) : sflat P (s >>= k) = (sflat P s).bind fun a => sflat P (k a) := by
  show sflat P (Sem.bind s k) = _
  induction s with
  | pure a => rfl
  | program f ih => simp only [Sem.bind, sflat]; exact ih P
  | mark m f ih => simp only [Sem.bind, sflat]; exact ih
  | _ => rfl
theorem sflat_pure {P : Program} {α : Type} (a : α) : sflat P (pure a : Sem α) = some a := rfl
section
variable {P : Program} {t : TypeId}
theorem sf_und {d : TypeDesc} (h : P.underlying t = some d) : sflat P (underlying t) = some d := by
  simp [underlying, program, bind, Sem.bind, sflat, h]
  rfl
theorem sf_part {d : TypeDesc} (h : P.underlying t = some d) (hd : (match d with | .struct _ | .array _ _ => true | _ => false) = false) {cs : Array Value} {off : Nat} : sflat P (part t cs off) = cs[off]? := by
  unfold part isAgg
  simp only [sflat_bind, sf_und h, Option.bind_some]
  split
  · simp at hd
  · simp at hd
  · show sflat P (match cs[off]? with | some v => pure v | none => stuck "part: no such cell") = _
    cases cs[off]? <;> rfl
theorem flat_agg {fs : List PV} : flat (.agg fs) = (flatL fs).map fun vs => .agg vs.toArray := by rw [flat]
theorem flatL_nil : flatL [] = some [] := by rw [flatL]
theorem flatL_val {x : Value} {r : List PV} : flatL (.val x :: r) = (flatL r).map (x :: ·) := by rw [flatL]
attribute [push_cast] flat_agg flatL_nil flatL_val
theorem ite_sm {b c : Bool} : (if b = true then some c else some false) = some (b && c) := by cases b <;> rfl
theorem if_und {n : String} {α : Type} {x y : α} (h : (n == "_") = false) : (if n ≠ "_" then x else y) = x := by
  rw [if_pos (by intro e; subst e; simp at h)]
theorem eqIn_int {k : IntKind} {d : Nat} {a b : Int} (h : P.underlying t = some (.int k)) : sflat P (Op.equalIn (d + 1) t (.int .i64 a) (.int .i64 b)) = some (decide (a = b)) := by
  rw [Op.equalIn, sflat_bind, sf_und h, ← eqI_B]
  rfl
theorem eqIn_str {d : Nat} {a b : ByteArray} (h : P.underlying t = some .string) : sflat P (Op.equalIn (d + 1) t (.string a) (.string b)) = some (eqB a b) := by
  rw [Op.equalIn, sflat_bind, sf_und h, ← eqS_B]
  rfl
theorem eqIn_bool {d : Nat} {a b : Bool} (h : P.underlying t = some .bool) : sflat P (Op.equalIn (d + 1) t (.bool a) (.bool b)) = some (a == b) := by
  rw [Op.equalIn, sflat_bind, sf_und h]
  rfl
theorem sflat_bind' {α β : Type} (s : Sem α) (k : α → Sem β) : sflat P (s.bind k) = (sflat P s).bind fun a => sflat P (k a) := sflat_bind s k
/-- Struct by struct: what the fields' tests say. -/
def sfields (P : Program) (d : Nat) (xs ys : Array Value) : List Field → Option Bool
  | [] => some true
  | f :: r => if f.name ≠ "_" then (sflat P (part f.type xs f.offset)).bind fun x => (sflat P (part f.type ys f.offset)).bind fun y => (sflat P (Op.equalIn d f.type x y)).bind fun b => if b then sfields P d xs ys r else some false else sfields P d xs ys r
theorem sfields_loop (d : Nat) (xs ys : Array Value) (k : Option Bool × Unit → Sem Bool) (k1 : k (some false, ()) = pure false) (k2 : k (none, ()) = pure true) : ∀ l : List Field, sflat P ((forIn l ((none : Option Bool), ()) fun f _ =>
      if f.name ≠ "_" then (part f.type xs f.offset).bind fun x => (part f.type ys f.offset).bind fun y => (Op.equalIn d f.type x y).bind fun b =>
        if (!b) = true then pure (ForInStep.done (some false, ())) else pure (ForInStep.yield (none, ()))
      else pure (ForInStep.yield (none, ()))).bind k) = sfields P d xs ys l
  | [] => by rw [List.forIn_nil]; show sflat P (k (none, ())) = _; rw [k2]; rfl
  | f :: r => by
    have ih := sfields_loop d xs ys k k1 k2 r
    rw [List.forIn_cons, sfields]
    rw [sflat_bind'] at ih ⊢
    rw [sflat_bind]
    split
    · rw [sflat_bind']
      cases sflat P (part f.type xs f.offset) with
      | none => rfl
      | some x =>
        simp only [Option.bind_some]
        rw [sflat_bind']
        cases sflat P (part f.type ys f.offset) with
        | none => rfl
        | some y =>
          simp only [Option.bind_some]
          rw [sflat_bind']
          cases sflat P (Op.equalIn d f.type x y) with
          | none => rfl
          | some b =>
            cases b with
            | true => simp only [Option.bind_some, Bool.not_true, Bool.false_eq_true, if_false, sflat_pure, if_true]; exact ih
            | false => simp only [Option.bind_some, Bool.not_false, if_true, sflat_pure, Bool.false_eq_true, if_false, k1]
    · simp only [sflat_pure, Option.bind_some]
      exact ih
theorem eqIn_struct {fs : Array Field} {d : Nat} {xs ys : Array Value} (h : P.underlying t = some (.struct fs)) (hs : P.stoodInHeld t = false) : sflat P (Op.equalIn (d + 1) t (.agg xs) (.agg ys)) = sfields P d xs ys fs.toList := by
  rw [Op.equalIn, sflat_bind, sf_und h, Option.bind_some]
  simp only [program, bind, Sem.bind, sflat, hs]
  rw [if_neg (by simp), ← Array.forIn_toList]
  exact sfields_loop d xs ys _ rfl rfl fs.toList
theorem sf_eqAgg {x y : Operand} {xs ys : Array Value} {b : Bool} (hg : P.eqGuardType P.depth t = false) (h : sflat P (Op.equalIn (9999 + 1) t (.agg xs) (.agg ys)) = some b) :
    sflat P (do eqGuard .eql t x y (.agg xs) (.agg ys); binOp .eql t (.agg xs) (.agg ys)) = some (.bool b) ∧ sflat P (do eqGuard .neq t x y (.agg xs) (.agg ys); binOp .neq t (.agg xs) (.agg ys)) = some (.bool (!b)) := by
  constructor
  · simp only [eqGuard, sflat_bind, program, sflat, hg, binOp, Op.equal, Op.maxDepth]
    simp [sflat_pure, h, sflat_bind, sflat, pure]
    rw [if_pos hg]
    rfl
  · simp only [eqGuard, sflat_bind, program, sflat, hg, binOp, Op.equal, Op.maxDepth]
    simp [sflat_pure, h, sflat_bind, sflat, pure]
    rw [if_pos hg]
    rfl
end
end Go.Proofs.Ytcbknmnlgoeniaa

/- Several texts, one behind the other. -/
import Derived.Test.YtcbknmnlgoeniaaK1
/- The pure machine: regions that draw their order and hold calls that turn memory of one's own. -/
namespace Go.Proofs.Ytcbknmnlgoeniaa
set_option linter.unusedSimpArgs false
set_option linter.unusedVariables false
open Go.RowKit

def kindC (ops : Array Oper) (tn : List Nat) (i : Nat) : Nat := if tn.contains i then 3 else kindAt ops i
theorem kindC_le {ops : Array Oper} {tn : List Nat} {i : Nat} (h : kindC ops tn i ≤ 2) : tn.contains i = false ∧ kindC ops tn i = kindAt ops i := by
  unfold kindC at h ⊢
  cases hc : tn.contains i with
  | true => rw [hc] at h; simp at h
  | false => exact ⟨rfl, by simp⟩
/-- Whether operations may be taken in this order, whatever order the model draws. -/
def ordC (ops : Array Oper) (tn : List Nat) : List Nat → Array Bool → Bool
  | [], listed => Region.ready .any ops listed == []
  | i :: rest, listed =>
    (Region.ready .any ops listed).contains i &&
    (if kindC ops tn i ≤ 1 then Region.free .any ops listed i && (kindC ops tn i == 0 || (List.range ops.size).all fun j => listed.getD j true || j == i || kindC ops tn j ≤ 2 || waits ops i 6 j)
     else Region.ready .any ops listed == [i]) && ordC ops tn rest (listed.setIfInBounds i true)

def panyC (P : Program) (T : Tys) (md : Bool) (ops : Array Oper) (tn : List Nat) (K : St → Prop) : List Nat → St → Prop
  | [], σ => K σ
  | i :: rest, σ => match ops[i]? with
    | none => False
    | some o => if pwanted ops σ.tm o.guard then
        (if kindC ops tn i ≤ 1 then py P T σ.tm σ.H o.op o.type fun pv => panyC P T md ops tn K rest (σ.put o.dst pv) else pop P T md (tn.contains i) o σ fun pv σ' => panyC P T md ops tn K rest (σ'.put o.dst pv))
      else panyC P T md ops tn K rest (σ.put o.dst (.val undef))

section
variable {P : Program} {ops : Array Oper} {tn : List Nat} {Q : Exit → Act → World → Prop}
/-- Whatever order is drawn, and what leaves all that was there does so. -/
def wpC (P : Program) (ops : Array Oper) (tn : List Nat) (Q : Exit → Act → World → Prop) : Nat → Array Bool → Act → World → Prop
  | 0, listed, a, w => Region.ready .any ops listed = [] ∧ Q .normal a w
  | fuel + 1, listed, a, w =>
    (Region.ready .any ops listed = [] → Q .normal a w) ∧
    ∀ i ∈ Region.ready .any ops listed, wpOp P ops Q i (fun a' w' => (kindC ops tn i ≤ 2 → Ext w w') ∧ wpC P ops tn Q fuel (listed.setIfInBounds i true) a' w') a w
theorem wpAny_of_C : ∀ (fuel : Nat) (listed : Array Bool) (a : Act) (w : World), wpC P ops tn Q fuel listed a w → wpAny P .any ops Q fuel listed a w
  | 0, _, _, _, h => h
  | fuel + 1, _, _, _, h => ⟨h.1, fun i hi => wpOp_mono (fun a' w' h' => wpAny_of_C fuel _ a' w' h'.2) (h.2 i hi)⟩
theorem wpC_first {i : Nat} {oi : Oper} {v : Value} (hi : ops[i]? = some oi) (hsel : ∀ (j : Nat) (o : Oper) cs b, ops[j]? = some o → o.op ≠ .select cs b) (hpan : ∀ c a w, Q (.panic c) a w → False) (b : Bool)
    : ∀ (fuel : Nat) (listed : Array Bool) (a : Act) (w : World),
      (∀ j oj, ops[j]? = some oj → j ≠ i → listed.getD j true = false → ((∀ e ∈ oj.after, Region.binds .any e = true → e.on ≠ i) → oi.apart ops oj = true) ∧ (b = true → waits ops i 6 j = false → kindC ops tn j ≤ 2)) →
      ClosedL ops listed → kindC ops tn i ≤ 2 → i ∈ Region.ready .any ops listed → YieldsIf P ops (fun w' => b = true → Ext w w') oi v a →
      wpC P ops tn Q fuel (listed.setIfInBounds i true) (a.put oi.dst v) w → wpC P ops tn Q (fuel + 1) listed a w := by
  intro fuel
  induction fuel with
  | zero =>
    intro listed a w _ _ _ hr hy H
    refine ⟨fun h => (by rw [h] at hr; cases hr), fun j hj => ?_⟩
    by_cases hji : j = i
    · subst hji; exact hy.wpOp hi (fun _ => Ext.refl w) ⟨fun _ => Ext.refl w, H⟩
    · have := ready_mono hj hji
      rw [H.1] at this
      cases this
  | succ fuel ih =>
    intro listed a w hfree hcl hki hr hy H
    refine ⟨fun h => (by rw [h] at hr; cases hr), fun j hj => ?_⟩
    by_cases hji : j = i
    · subst hji; exact hy.wpOp hi (fun _ => Ext.refl w) ⟨fun _ => Ext.refl w, H⟩
    · have h1 := H.2 j (ready_mono hj hji)
      obtain ⟨hjun, oj, hoj, hall⟩ := mem_ready.1 hj
      have hnot : ∀ e ∈ oj.after, Region.binds .any e = true → e.on ≠ i := fun e he hb heq => by
        have h1 := hall e he hb
        have h0 := (mem_ready.1 hr).1
        rw [heq] at h1
        rcases Nat.lt_or_ge i listed.size with h' | h'
        · simp [h'] at h0 h1; rw [h0] at h1; cases h1
        · simp [Array.getElem?_eq_none h'] at h1
      have hap := hfree j oj hoj hji hjun
      have hnw : waits ops i 6 j = false := by
        cases hq : waits ops i 6 j with
        | false => rfl
        | true => exact (waits_no hcl (mem_ready.1 hr).1 _ _ hq ⟨oj, hoj, hall⟩).elim
      have h2 := wpOp_putIf hoj (hap.1 hnot) (fun cs b => hsel i oi cs b hi) (fun cs b => hsel j oj cs b hoj) (fun c a w q => (hpan _ _ _ q).elim) hy h1
      have hfree' : ∀ k ok, ops[k]? = some ok → k ≠ i → (listed.setIfInBounds j true).getD k true = false →
          ((∀ e ∈ ok.after, Region.binds .any e = true → e.on ≠ i) → oi.apart ops ok = true) ∧ (b = true → waits ops i 6 k = false → kindC ops tn k ≤ 2) := fun k ok hk hki hun => by
        refine hfree k ok hk hki ?_
        by_cases hjk : j = k
        · subst hjk; exact hjun
        · rw [getD_set_ne true hjk] at hun; exact hun
      refine wpOp_mono (fun a' w' h3 => ⟨h3.2.1, ih (listed.setIfInBounds j true) a' w' hfree' (hcl.set hj) hki (ready_mono hr (Ne.symm hji)) (YieldsIf.mono' (P := P) (ops := ops) (o := oi) (a := a') h3.1 fun w'' q hb => (h3.2.1 (hap.2 hb hnw)).trans (q hb)) ?_⟩) h2
      rw [Array.setIfInBounds_comm _ _ hji]
      exact h3.2.2
end

section
variable {P : Program} {T : Tys} {E : Env}
theorem panyC_ok (hT : TysOk P T) (hE : elemsOk P T) {md : Bool} (ops : Array Oper) (tn : List Nat) (hs : Region.noSelect ops = true) {K : St → Prop} {Q : Exit → Act → World → Prop} (hpan : ∀ c a w, Q (.panic c) a w → False) (hq : ∀ σ' a' w', K σ' → Rel E σ' a' w' → Q .normal a' w') :
    ∀ (ord : List Nat) (fuel : Nat) (listed : Array Bool) (σ : St) (a : Act) (w : World), ord.length ≤ fuel → ordC ops tn ord listed = true → ClosedL ops listed → panyC P T md ops tn K ord σ → Rel E σ a w → wpC P ops tn Q fuel listed a w
  | [], fuel, listed, σ, a, w, _, ho, _, hk, r => by
    have hr : Region.ready .any ops listed = [] := by simpa [ordC] using ho
    cases fuel with
    | zero => exact ⟨hr, hq σ a w hk r⟩
    | succ fuel => exact ⟨fun _ => hq σ a w hk r, by rw [hr]; simp⟩
  | i :: rest, 0, _, _, _, _, hl, _, _, _, _ => by simp at hl
  | i :: rest, fuel + 1, listed, σ, a, w, hl, ho, hcl, hk, r => by
    simp only [ordC, Bool.and_eq_true] at ho
    obtain ⟨⟨h1, h2⟩, h3⟩ := ho
    have hi : i ∈ Region.ready .any ops listed := by simpa using h1
    obtain ⟨o, hio⟩ := ready_lt hi
    have hw := r.elim fun M q => q.elim fun h q => wanted_eq q.2.1 ops o
    have hka : kindAt ops i = kindOp o.op := by simp [kindAt, hio]
    simp only [panyC, hio] at hk
    have next := panyC_ok hT hE (md := md) ops tn hs hpan hq rest fuel (listed.setIfInBounds i true)
    have hl' : rest.length ≤ fuel := by simpa using hl
    by_cases hkC : kindC ops tn i ≤ 1
    · obtain ⟨_, hkk⟩ := kindC_le (ops := ops) (tn := tn) (i := i) (by omega)
      have hko : kindC ops tn i = kindOp o.op := hkk.trans hka
      have hkd : kindOp o.op ≤ 1 := by omega
      rw [if_pos hkC, Bool.and_eq_true, hko] at h2
      have hfree := Region.free_spec hio h2.1
      have hside : ∀ j oj, ops[j]? = some oj → j ≠ i → listed.getD j true = false → ((∀ e ∈ oj.after, Region.binds .any e = true → e.on ≠ i) → o.apart ops oj = true) ∧ ((kindOp o.op == 1) = true → waits ops i 6 j = false → kindC ops tn j ≤ 2) := fun j oj hj hji hun => by
        refine ⟨fun hno => hfree j oj hj hji hun hno, fun hk1 hnw => ?_⟩
        have hk1' : kindOp o.op = 1 := by simpa using hk1
        have h22 := h2.2
        simp only [hk1', Bool.or_eq_true, beq_iff_eq, List.all_eq_true, List.mem_range] at h22
        rcases h22 with q | q
        · cases q
        · have hjl : j < ops.size := (Array.getElem?_eq_some_iff.1 hj).1
          rcases q j hjl with ((q | q) | q) | q
          · rw [hun] at q; cases q
          · exact absurd q hji
          · simpa using q
          · rw [hnw] at q; cases q
      have hk2 : kindC ops tn i ≤ 2 := by omega
      by_cases hp : pwanted ops σ.tm o.guard = true
      · rw [if_pos hp, if_pos hkC] at hk
        obtain ⟨M, h, s, t, d⟩ := r
        obtain ⟨pv, v, g1, g2, g3⟩ := py_ok hT hE s.inv t o hk
        refine wpC_first (v := v) hio (noSelect_all hs) hpan (kindOp o.op == 1) fuel listed a w hside hcl hk2 hi (.inl ⟨by rw [hw]; exact hp, fun w' hx => g3 w' fun q => hx (by simpa using q)⟩) ?_
        exact next _ _ w hl' h3 (hcl.set hi) g1 ⟨M, h, by rw [St.put_H]; exact s, t.put g2 o.dst, by rw [Act.put_defers']; exact d⟩
      · rw [if_neg hp] at hk
        refine wpC_first (v := undef) hio (noSelect_all hs) hpan (kindOp o.op == 1) fuel listed a w hside hcl hk2 hi (.inr ⟨by rw [hw]; simpa using hp, rfl⟩) ?_
        exact next _ _ w hl' h3 (hcl.set hi) hk (r.skip o.dst)
    · rw [if_neg hkC] at h2
      have hrd : Region.ready .any ops listed = [i] := by simpa using h2
      refine ⟨(fun h0 => by rw [hrd] at h0; cases h0), fun j hj => ?_⟩
      rw [hrd, List.mem_singleton] at hj
      subst hj
      unfold wpOp
      simp only [hio, hw]
      by_cases hp : pwanted ops σ.tm o.guard = true
      · rw [if_pos hp, if_neg hkC] at hk
        rw [if_pos hp]
        refine .inl (pop_rel hT hE r hk fun pv σ' v w' g1 g2 g3 => ⟨fun hle => ?_, next _ _ w' hl' h3 (hcl.set hi) g1 g3⟩)
        obtain ⟨hnt, hkk⟩ := kindC_le hle
        rw [hkk, hka] at hle
        rw [hkk, hka] at hkC
        refine g2 hnt ?_
        cases hx : extOp o.op with
        | true => rfl
        | false =>
          exfalso
          have : kindOp o.op ≤ 1 ∨ kindOp o.op = 3 := by
            unfold kindOp
            split <;> first | (left; omega) | (rw [hx]; right; rfl)
          omega
      · rw [if_neg hp] at hk
        rw [if_neg hp]
        exact ⟨fun _ => Ext.refl w, next _ _ w hl' h3 (hcl.set hi) hk (r.skip o.dst)⟩
end
theorem PWp.drawC {P : Program} {T : Tys} {Q : Exit → St → Prop} {σ : St} {N : Nat} (ok : Ok P T) (md : Bool) {id : Nat} {ops : Array Oper} (tn ord : List Nat) (ho : (Region.noSelect ops && decide (ord.length ≤ ops.size) && ordC ops tn ord (Array.replicate ops.size false)) = true) (h : panyC P T md ops tn (Q .normal) ord σ) : PWp P N (.region id ops true) Q σ := fun E a w _ r => by
  simp only [Bool.and_eq_true, decide_eq_true_eq] at ho
  refine wp_region_any ok.mix (wpAny_of_C (tn := tn) _ _ _ _ ?_)
  refine panyC_ok ok.ty ok.el (md := md) ops tn ho.1.1 (fun _ _ _ q => q) (fun σ' _ _ h1 h2 => ⟨σ', h1, h2⟩) ord ops.size _ σ a _ ho.1.2 ho.2 (ClosedL.start _ _) h ?_
  obtain ⟨M, hh, s, t, d⟩ := r
  refine ⟨M, hh, s.trans (Step.ext s.inv ?_), t, d⟩
  exact (Ext.refl w).drew
section
variable {P : Program} {T : Tys} {md : Bool} {ops : Array Oper} {tn : List Nat} {K : St → Prop} {σ : St}
theorem panyC_nil (h : K σ) : panyC P T md ops tn K [] σ := h
/-- One operation, taken as in a row of operations. -/
theorem panyC_I {i : Nat} {rest : List Nat} (h : ∃ o, ops.toList[i]? = some o ∧ ∀ K' : St → Prop, (∀ σ, panyC P T md ops tn K rest σ → K' σ) →
    (if kindC ops tn i ≤ 1 then pstepD P T md ops o σ K' else if pwanted ops σ.tm o.guard then pop P T md (tn.contains i) o σ fun pv σ' => K' (σ'.put o.dst pv) else K' (σ.put o.dst (.val undef)))) : panyC P T md ops tn K (i :: rest) σ := by
  obtain ⟨o, hi, h⟩ := h
  rw [Array.getElem?_toList] at hi
  have h := h _ fun _ h => h
  simp only [panyC, hi]
  split
  · rename_i hw
    split
    · rename_i hk
      rw [if_pos hk] at h
      unfold pstepD at h
      rw [if_pos hw] at h
      have hk1 : kindOp o.op ≤ 1 := by
        have := (kindC_le (ops := ops) (tn := tn) (i := i) (by omega)).2
        have h2 : kindAt ops i = kindOp o.op := by simp [kindAt, hi]
        omega
      rw [if_pos hk1] at h
      exact h
    · rename_i hk
      rw [if_neg hk, if_pos hw] at h
      exact h
  · rename_i hw
    split at h
    · unfold pstepD at h
      rw [if_neg hw] at h
      exact h
    · first | exact h | (rw [if_neg hw] at h; exact h)
theorem panyC_w {i : Nat} {o : Oper} {K' : St → Prop} (hk : (decide (kindC ops tn i ≤ 1)) = true) (h : pstepD P T md ops o σ K') : (if kindC ops tn i ≤ 1 then pstepD P T md ops o σ K' else if pwanted ops σ.tm o.guard then pop P T md (tn.contains i) o σ fun pv σ' => K' (σ'.put o.dst pv) else K' (σ.put o.dst (.val undef))) := by
  rw [if_pos (of_decide_eq_true hk)]
  exact h
theorem panyC_s {i : Nat} {dst : Option Tmp} {op : Op} {ty : TypeId} {pos : String} {after : Array Edge} {K' : St → Prop} {cm : Bool} (hk : (decide (kindC ops tn i ≤ 1)) = false) (hc : tn.contains i = cm) (h : popO P T md cm op ty σ fun pv σ' => K' (σ'.put dst pv)) :
    (if kindC ops tn i ≤ 1 then pstepD P T md ops ⟨dst, op, ty, pos, after, none⟩ σ K' else if pwanted ops σ.tm (⟨dst, op, ty, pos, after, none⟩ : Oper).guard then pop P T md (tn.contains i) ⟨dst, op, ty, pos, after, none⟩ σ fun pv σ' => K' (σ'.put (⟨dst, op, ty, pos, after, none⟩ : Oper).dst pv) else K' (σ.put (⟨dst, op, ty, pos, after, none⟩ : Oper).dst (.val undef))) := by
  rw [if_neg (of_decide_eq_false hk)]
  simp only [pwanted, if_true]
  subst hc
  exact h
end
end Go.Proofs.Ytcbknmnlgoeniaa

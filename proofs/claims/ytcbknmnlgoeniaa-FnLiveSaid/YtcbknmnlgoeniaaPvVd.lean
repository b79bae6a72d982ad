/- The pure machine: a call that only reads may look at memory of one's own through boxes that hold rows (a deep view). -/
import Derived.Test.YtcbknmnlgoeniaaI5
import Derived.Test.YtcbknmnlgoeniaaK7
namespace Go.Proofs.Ytcbknmnlgoeniaa
set_option linter.unusedSimpArgs false
set_option linter.unusedVariables false
open Go.RowKit

/-- Memory of one's own as a reader sees it, n steps deep. -/
def vwD : Nat → Hp → PV → PV
  | 0, _, p => p
  | n + 1, H, p => match p with
    | .own b => match H[b]? with | some (some (.row _ sz es)) => .sl sz (es.map fun row => row.map (vwD n H)) | _ => .own b
    | .ptr b o => match H[b]? with | some (some (.box cs)) => .eptr (cs.map (vwD n H)) o | _ => .ptr b o
    | .agg fs => .agg (fs.map (vwD n H))
    | .clo f caps => .clo f (caps.map (vwD n H))
    | p => p
def vdOk : Nat → Hp → PV → Prop
  | 0, _, p => cloA p = true
  | n + 1, H, p => match p with
    | .own b => match H[b]? with | some (some (.row _ _ es)) => ∀ row ∈ es, ∀ q ∈ row, vdOk n H q | _ => False
    | .ptr b _ => match H[b]? with | some (some (.box cs)) => ∀ q ∈ cs, vdOk n H q | _ => False
    | .agg fs => ∀ q ∈ fs, vdOk n H q
    | .clo _ caps => ∀ q ∈ caps, vdOk n H q
    | p => cloA p = true
theorem vwD_ok {M : Mem} {h : Home} {H : Hp} {w : World} (I : Inv M h H w) : ∀ (n : Nat) {pv : PV} {v : Value}, VR M h pv v → vdOk n H pv → VR (memW w) (fun _ => none) (vwD n H pv) v
  | 0, pv, v, r, hk => cloA_ok (r.mono I.memW (.refl _)) hk
  | n + 1, pv, v, r, hk => by
    have ih := fun {pv : PV} {v : Value} => vwD_ok I n (pv := pv) (v := v)
    cases pv with
    | own b =>
      simp only [vdOk] at hk
      split at hk
      · rename_i e sz es hH
        simp only [vwD, hH]
        cases r with
        | own _ o m c hb =>
          obtain ⟨v0, q0, -, us, q1, q2, q3, q4⟩ := I.blk b _ hH
          rw [hb] at q0
          cases q0
          rcases q1.2 with ⟨e1, e2⟩ | ⟨g, cap, cur, e1, e2, e3, e4, e5, e6, e7⟩
          · cases e1
            have : es = [] := List.eq_nil_of_length_eq_zero e2
            subst this
            exact .sl0 _ _ _
          · cases e1
            by_cases hn : es = []
            · subst hn; exact .sl0 _ _ _
            · have hl : 0 < es.length := by cases es with | nil => exact absurd rfl hn | cons => simp
              rw [show es.length = (es.map fun row => row.map (vwD n H)).length by simp]
              refine VR.sl sz _ g 0 c (fun i j => (us[i * sz + j]?).getD undef) (by simpa using hl) (by simpa using e4) e5 (fun row hr => by obtain ⟨r0, h0, rfl⟩ := List.mem_map.1 hr; simpa using q2 r0 h0) (fun i j row pv a d => ?_) (fun i j row pv a d => ?_)
              all_goals
                rw [List.getElem?_map, Option.map_eq_some_iff] at a
                obtain ⟨row0, a, rfl⟩ := a
                rw [List.getElem?_map, Option.map_eq_some_iff] at d
                obtain ⟨pv0, d, rfl⟩ := d
                have hi : i < es.length := (List.getElem?_eq_some_iff.1 a).1
                have hj : j < sz := by have := (List.getElem?_eq_some_iff.1 d).1; rw [q2 row0 (List.mem_of_getElem? a)] at this; exact this
                have hm : (i + 1) * sz ≤ es.length * sz := Nat.mul_le_mul_right _ hi
                rw [Nat.add_mul] at hm
                have hu : i * sz + j < us.length := by rw [q1.1]; omega
                have hu' : us[i * sz + j]? = some us[i * sz + j] := List.getElem?_eq_getElem hu
                rw [hu']
              · have := q1.cells (g := g) rfl (i * sz + j) _ hu'
                rw [addr_add] at this
                rw [Nat.add_assoc]
                exact memW_of this (q3 _ (List.mem_of_getElem? hu'))
              · exact ih (q4 i j row0 pv0 _ a d hu') (hk row0 (List.mem_of_getElem? a) pv0 (List.mem_of_getElem? d))
      · exact hk.elim
    | ptr b o =>
      simp only [vdOk] at hk
      split at hk
      · rename_i cs hH
        simp only [vwD, hH]
        cases r with
        | ptr _ _ k hb =>
          obtain ⟨v0, q0, k', us, t, rfl, q3, q4, q5, q6⟩ := I.blk b _ hH
          rw [hb] at q0
          cases q0
          have key : ∀ (j : Nat) (pv : PV), cs[j]? = some pv → us[j]? = some (us.getD j undef) := fun j pv a => by
            have hj : j < us.size := by rw [q4]; exact (List.getElem?_eq_some_iff.1 a).1
            rw [Array.getD_eq_getD_getElem?, Array.getElem?_eq_getElem hj]
            rfl
          have := VR.eptr (M := Go.Proofs.Ytcbknmnlgoeniaa.memW w) (h := fun _ => none) (cs.map (vwD n H)) o k 0 (fun j => us.getD j undef) (fun j pv a => by
              rw [List.getElem?_map, Option.map_eq_some_iff] at a
              obtain ⟨pv0, a, rfl⟩ := a
              have e := key j pv0 a
              refine memW_of ?_ (q5 _ (Array.mem_of_getElem? e))
              rw [Nat.zero_add, cell_of_row w k j us t (0, 0) q3]
              exact e)
            (fun j pv a => by
              rw [List.getElem?_map, Option.map_eq_some_iff] at a
              obtain ⟨pv0, a, rfl⟩ := a
              exact ih (q6 j pv0 _ a (key j pv0 a)) (hk pv0 (List.mem_of_getElem? a)))
          rw [Nat.zero_add] at this
          exact this
      · exact hk.elim
    | agg fs =>
      simp only [vdOk] at hk
      simp only [vwD]
      cases r with
      | agg _ vs h1 h2 =>
        refine .agg _ _ (by simpa using h1) fun i pv u a d => ?_
        rw [List.getElem?_map, Option.map_eq_some_iff] at a
        obtain ⟨q, a1, rfl⟩ := a
        exact ih (h2 i q u a1 d) (hk q (List.mem_of_getElem? a1))
    | clo f caps =>
      simp only [vdOk] at hk
      simp only [vwD]
      cases r with
      | clo _ _ vs h1 h2 =>
        refine .clo _ _ _ (by simpa using h1) fun i pv u a d => ?_
        rw [List.getElem?_map, Option.map_eq_some_iff] at a
        obtain ⟨q, a1, rfl⟩ := a
        exact ih (h2 i q u a1 d) (hk q (List.mem_of_getElem? a1))
    | _ => exact cloA_ok (r.mono I.memW (.refl _)) hk
/-- A contract over what is only read serves for memory of one's own: it stays as it is. -/
theorem PCalls.viewD {P : Program} {g : FuncId} {args : List PV} {H : Hp} {v : PV} (n : Nat) {args' : List PV} (h1 : PCalls P g args' [] (RV v)) (e : args.map (vwD n H) = args') (hs : scalP v = true) (ha : ∀ p ∈ args, vdOk n H p) : PCalls P g args H (RH v H) := fun M h w vs I rv => by
  subst e
  have rv0 : CR (memW w) (fun _ => none) (args.map (vwD n H)) vs := ⟨by simpa using rv.1, fun i pv v a b => by
    rw [List.getElem?_map, Option.map_eq_some_iff] at a
    obtain ⟨q, a1, rfl⟩ := a
    exact vwD_ok I n (rv.2 i q v a1 b) (ha q (List.mem_of_getElem? a1))⟩
  refine (h1 _ _ w vs (inv_memW w (I.glob.mono I.memW)) rv0).mono fun e w' ⟨v', M', h', r, H', e1, e2, e3, e4⟩ => ?_
  have e2 : r = v := e2
  subst e2
  have hb : Ext w w' := (ChgS.ext ⟨e4.chg.os, e4.chg.tape, e4.chg.output, e4.chg.size, fun k hk hn => e4.chg.block k hk fun ⟨b, B, v, q, _⟩ => by simp at q⟩)
  exact ⟨v', M, h, r, H, e1, ⟨rfl, rfl⟩, scalP_ok e3 hs, Step.ext I hb⟩
theorem rows_vd {α : Type} {p : α → List PV} {n : Nat} {H : Hp} (h : ∀ x, (p x).map (vwD n H) = p x) (l : List α) : ((l.map p).map fun row => row.map (vwD n H)) = l.map p := by
  rw [List.map_map]
  exact List.map_congr_left fun x _ => h x
/-- A row of one's own that a box refers to, under a new number. -/
theorem PWp.mvB {P : Program} {N : Nat} {c : Code} {Q : Exit → St → Prop} {tm : List PV} {H : Hp} (x j b : Nat) {cs : List PV} {B : Blk} (hx : H[x]? = some (some (.box cs))) (hj : cs[j]? = some (.own b)) (hB : H[b]? = some (some B)) (hr : b ≠ x) (h : PWp P N c Q ⟨tm, ((H.set b none) ++ [some B]).set x (some (Blk.box (cs.set j (.own H.length))))⟩) : PWp P N c Q ⟨tm, H⟩ := fun E a w hN r => by
  obtain ⟨M, hh, s, t, d⟩ := r
  have I : Inv M hh H w := s.inv
  have hxl := (List.getElem?_eq_some_iff.1 hx).1
  have hbl := (List.getElem?_eq_some_iff.1 hB).1
  obtain ⟨v, hv, rB⟩ := I.blk b B hB
  have hle : HLe hh (upd hh H.length v) := fun k u q => by
    have := I.len k u q
    unfold upd
    rw [if_neg (by omega)]
    exact q
  have gx : ((H.set b none) ++ [some B])[x]? = some (some (.box cs)) := by
    rw [List.getElem?_append_left (by simpa using hxl), List.getElem?_set_ne hr]
    exact hx
  have old : ∀ {k : Nat} {C : Blk}, (((H.set b none) ++ [some B]).set x (some (Blk.box (cs.set j (.own H.length)))))[k]? = some (some C) → (k = x ∧ C = .box (cs.set j (.own H.length))) ∨ (k = H.length ∧ C = B) ∨ (k ≠ b ∧ k ≠ x ∧ k < H.length ∧ H[k]? = some (some C)) := fun {k C} q => by
    by_cases e1 : x = k
    · subst e1
      rw [List.getElem?_set_self (List.getElem?_eq_some_iff.1 gx).1] at q
      injection q with q
      injection q with q
      exact .inl ⟨rfl, q.symm⟩
    · rw [List.getElem?_set_ne e1] at q
      have hk := (List.getElem?_eq_some_iff.1 q).1
      simp only [List.length_append, List.length_set, List.length_singleton] at hk
      by_cases e2 : k = H.length
      · subst e2
        rw [List.getElem?_append_right (by simp)] at q
        simp only [List.length_set, Nat.sub_self, List.getElem?_cons_zero, Option.some.injEq] at q
        exact .inr (.inl ⟨rfl, q.symm⟩)
      · have hk' : k < H.length := by omega
        rw [List.getElem?_append_left (by simpa using hk')] at q
        by_cases e3 : b = k
        · subst e3
          rw [List.getElem?_set_self hbl] at q
          cases q
        · rw [List.getElem?_set_ne e3] at q
          exact .inr (.inr ⟨fun e => e3 e.symm, fun e => e1 e.symm, hk', q⟩)
  have back : ∀ {k : Nat} {C : Blk} {u : Value}, (((H.set b none) ++ [some B]).set x (some (Blk.box (cs.set j (.own H.length)))))[k]? = some (some C) → upd hh H.length v k = some u → ∃ k' C', H[k']? = some (some C') ∧ hh k' = some u ∧ (k' = b ∧ k = H.length ∨ k' = k ∧ k ≠ b) := fun {k C u} q1 q2 => by
    rcases old q1 with ⟨rfl, rfl⟩ | ⟨rfl, rfl⟩ | ⟨e1, e2, e3, e4⟩
    · refine ⟨k, _, hx, ?_, .inr ⟨rfl, fun e => hr e.symm⟩⟩
      unfold upd at q2
      rwa [if_neg (by omega)] at q2
    · rw [upd_self] at q2
      cases q2
      exact ⟨b, _, hB, hv, .inl ⟨rfl, rfl⟩⟩
    · refine ⟨k, _, e4, ?_, .inr ⟨rfl, e1⟩⟩
      unfold upd at q2
      rwa [if_neg (by omega)] at q2
  have hom : ∀ z, Homes (upd hh H.length v) (((H.set b none) ++ [some B]).set x (some (Blk.box (cs.set j (.own H.length))))) z → Homes hh H z := fun z ⟨k, C, u, q1, q2, q3⟩ => by
    obtain ⟨k', C', g1, g2, -⟩ := back q1 q2
    exact ⟨k', C', u, g1, g2, q3⟩
  have I2 : Inv M (upd hh H.length v) (((H.set b none) ++ [some B]).set x (some (Blk.box (cs.set j (.own H.length))))) w := by
    refine ⟨I.mem, I.one, fun k C q => ?_, fun z hz o => I.sep z (hom z hz) o, fun k k' C C' u u' z g1 g2 g3 g4 g5 g6 => ?_, fun k u q => ?_, I.glob⟩
    · rcases old q with ⟨rfl, rfl⟩ | ⟨rfl, rfl⟩ | ⟨e1, e2, e3, e4⟩
      · obtain ⟨u, q1, g, us, ty, p1, p2, p3, p4, p5⟩ := I.blk k _ hx
        refine ⟨u, hle _ _ q1, g, us, ty, p1, p2, by simpa using p3, p4, fun i pv u' a d => ?_⟩
        by_cases e : j = i
        · subst e
          rw [List.getElem?_set_self (List.getElem?_eq_some_iff.1 hj).1] at a
          cases a
          have r0 := p5 j _ u' hj d
          cases r0 with
          | own _ o n c hb =>
            rw [hv] at hb
            cases hb
            exact .own _ o n c upd_self
        · rw [List.getElem?_set_ne e] at a
          exact (p5 i pv u' a d).mono (.refl _) hle
      · exact ⟨v, upd_self, rB.mono (.refl _) hle fun _ _ => rfl⟩
      · obtain ⟨u, q1, q2⟩ := I.blk k C e4
        exact ⟨u, hle _ _ q1, q2.mono (.refl _) hle fun _ _ => rfl⟩
    · obtain ⟨i, D, a1, a2, a3⟩ := back g1 g3
      obtain ⟨i', D', b1, b2, b3⟩ := back g2 g4
      have := I.inj i i' D D' u u' z a1 b1 a2 b2 g5 g6
      omega
    · unfold upd at q
      simp only [List.length_set, List.length_append, List.length_singleton]
      split at q
      · omega
      · have := I.len k u q; omega
  exact h E a w hN ⟨M, _, s.trans ⟨.refl _, hle, I2, .refl, fun z hz => .inl (hom z hz), fun _ _ _ q => .inl q⟩, ⟨t.size, fun i y u h1 h2 => (t.vr i y u h1 h2).mono (.refl _) hle⟩, d⟩
section
variable {P : Program} {T : Tys} {md : Bool} {ops : Array Oper} {tn : List Nat} {σ : St}
/-- A call that turns memory, under a guard, in a drawn region. -/
theorem panyC_g {i j : Nat} {w : Bool} {dst : Option Tmp} {op : Op} {ty : TypeId} {pos : String} {after : Array Edge} {K' : St → Prop} {cm : Bool} (hk : (decide (kindC ops tn i ≤ 1)) = false) (hc : tn.contains i = cm) (h : ∃ d, (ops.toList[j]?).bind (·.dst) = some d ∧ ∃ b, pbool σ.tm d = some b ∧ (b = w → popO P T md cm op ty σ fun pv σ' => K' (σ'.put dst pv)) ∧ (b = (!w) → K' (σ.put dst (.val undef)))) :
    (if kindC ops tn i ≤ 1 then pstepD P T md ops ⟨dst, op, ty, pos, after, some (j, w)⟩ σ K' else if pwanted ops σ.tm (⟨dst, op, ty, pos, after, some (j, w)⟩ : Oper).guard then pop P T md (tn.contains i) ⟨dst, op, ty, pos, after, some (j, w)⟩ σ fun pv σ' => K' (σ'.put (⟨dst, op, ty, pos, after, some (j, w)⟩ : Oper).dst pv) else K' (σ.put (⟨dst, op, ty, pos, after, some (j, w)⟩ : Oper).dst (.val undef))) := by
  obtain ⟨d, hd, b, hb, h1, h2⟩ := h
  rw [Array.getElem?_toList] at hd
  rw [if_neg (of_decide_eq_false hk)]
  subst hc
  simp only [pwanted_of hd hb]
  cases b <;> cases w <;> first | exact h1 rfl | exact h2 rfl
theorem panyC_g0 {i j : Nat} {w : Bool} {dst : Option Tmp} {op : Op} {ty : TypeId} {pos : String} {after : Array Edge} {K' : St → Prop} (hk : (decide (kindC ops tn i ≤ 1)) = false) (h : ∃ d, (ops.toList[j]?).bind (·.dst) = some d ∧ pbool σ.tm d = none ∧ K' (σ.put dst (.val undef))) :
    (if kindC ops tn i ≤ 1 then pstepD P T md ops ⟨dst, op, ty, pos, after, some (j, w)⟩ σ K' else if pwanted ops σ.tm (⟨dst, op, ty, pos, after, some (j, w)⟩ : Oper).guard then pop P T md (tn.contains i) ⟨dst, op, ty, pos, after, some (j, w)⟩ σ fun pv σ' => K' (σ'.put (⟨dst, op, ty, pos, after, some (j, w)⟩ : Oper).dst pv) else K' (σ.put (⟨dst, op, ty, pos, after, some (j, w)⟩ : Oper).dst (.val undef))) := by
  obtain ⟨d, hd, hb, h2⟩ := h
  rw [Array.getElem?_toList] at hd
  rw [if_neg (of_decide_eq_false hk)]
  simp only [pwanted_no hd hb]
  exact h2
end
theorem pcall_RGo {P : Program} {g : FuncId} {args args0 : List PV} {H0 : Hp} {σ : St} {K : PV → St → Prop} {v : PV} {H' : Hp} (hc : Callable P g) (φ : List Nat) (ha : args = renL φ σ.H.length args0) (hH : blkR φ σ.H.length σ.H φ H0) (hs : H0.all (·.isSome) = true) (hn : nodupR φ = true) (h : PCalls P g args0 H0 (RH v H')) (hk : K (ren φ σ.H.length v) ⟨σ.tm, wback φ σ.H H'⟩) : pcall P true g args σ K :=
  pcall_RG φ hc h ha hH hs hn hk
end Go.Proofs.Ytcbknmnlgoeniaa

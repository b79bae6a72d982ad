/- What the proof leans on, part 3. -/
import Derived.Test.YtcbknmnlgoeniaaQV2
namespace Go.Proofs.Ytcbknmnlgoeniaa
set_option linter.unusedSimpArgs false
set_option linter.unusedVariables false
open Go.RowKit
def vwD : Nat → Hp → PV → PV
  | 0, _, p => p
  | n + 1, H, p => match p with
    | .own b => match H[b]? with | some (some (.row _ sz es)) => .sl sz (es.map fun row => row.map (vwD n H)) | _ => .own b
    | .ptr b o => match H[b]? with | some (some (.box cs)) => .eptr (cs.map (vwD n H)) o | _ => .ptr b o
    | .agg fs => .agg (fs.map (vwD n H))
    | .clo f caps => .clo f (caps.map (vwD n H))
    | p => p
def vdOk : Nat → Hp → PV → Prop
  | 0, _, p => cloA p = true
  | n + 1, H, p => match p with
    | .own b => match H[b]? with | some (some (.row _ _ es)) => ∀ row ∈ es, ∀ q ∈ row, vdOk n H q | _ => False
    | .ptr b _ => match H[b]? with | some (some (.box cs)) => ∀ q ∈ cs, vdOk n H q | _ => False
    | .agg fs => ∀ q ∈ fs, vdOk n H q
    | .clo _ caps => ∀ q ∈ caps, vdOk n H q
    | p => cloA p = true
theorem vwD_ok {M : Mem} {h : Home} {H : Hp} {w : World} (I : Inv M h H w) : ∀ (n : Nat) {pv : PV} {v : Value}, VR M h pv v → vdOk n H pv → VR (memW w) (fun _ => none) (vwD n H pv) v
  | 0, pv, v, r, hk => cloA_ok (r.mono I.memW (.refl _)) hk
  | n + 1, pv, v, r, hk => by
    have ih := fun {pv : PV} {v : Value} => vwD_ok I n (pv := pv) (v := v)
    cases pv with
    | own b =>
      simp only [vdOk] at hk
      split at hk
      · rename_i e sz es hH
        simp only [vwD, hH]
        cases r with
        | own _ o m c hb =>
          obtain ⟨v0, q0, -, us, q1, q2, q3, q4⟩ := I.blk b _ hH
          rw [hb] at q0
          cases q0
          rcases q1.2 with ⟨e1, e2⟩ | ⟨g, cap, cur, e1, e2, e3, e4, e5, e6, e7⟩
          · cases e1
            have : es = [] := List.eq_nil_of_length_eq_zero e2
            subst this
            exact .sl0 _ _ _
          · cases e1
            by_cases hn : es = []
            · subst hn; exact .sl0 _ _ _
            · have hl : 0 < es.length := by cases es with | nil => exact absurd rfl hn | cons => simp
              rw [show es.length = (es.map fun row => row.map (vwD n H)).length by simp]
              refine VR.sl sz _ g 0 c (fun i j => (us[i * sz + j]?).getD undef) (by simpa using hl) (by simpa using e4) e5 (fun row hr => by obtain ⟨r0, h0, rfl⟩ := List.mem_map.1 hr; simpa using q2 r0 h0) (fun i j row pv a d => ?_) (fun i j row pv a d => ?_)
              all_goals
                rw [List.getElem?_map, Option.map_eq_some_iff] at a
                obtain ⟨row0, a, rfl⟩ := a
                rw [List.getElem?_map, Option.map_eq_some_iff] at d
                obtain ⟨pv0, d, rfl⟩ := d
                have hi : i < es.length := (List.getElem?_eq_some_iff.1 a).1
                have hj : j < sz := by have := (List.getElem?_eq_some_iff.1 d).1; rw [q2 row0 (List.mem_of_getElem? a)] at this; exact this
                have hm : (i + 1) * sz ≤ es.length * sz := Nat.mul_le_mul_right _ hi
                rw [Nat.add_mul] at hm
                have hu : i * sz + j < us.length := by rw [q1.1]; omega
                have hu' : us[i * sz + j]? = some us[i * sz + j] := List.getElem?_eq_getElem hu
                rw [hu']
              · have := q1.cells (g := g) rfl (i * sz + j) _ hu'
                rw [addr_add] at this
                rw [Nat.add_assoc]
                exact memW_of this (q3 _ (List.mem_of_getElem? hu'))
              · exact ih (q4 i j row0 pv0 _ a d hu') (hk row0 (List.mem_of_getElem? a) pv0 (List.mem_of_getElem? d))
      · exact hk.elim
    | ptr b o =>
      simp only [vdOk] at hk
      split at hk
      · rename_i cs hH
        simp only [vwD, hH]
        cases r with
        | ptr _ _ k hb =>
          obtain ⟨v0, q0, k', us, t, rfl, q3, q4, q5, q6⟩ := I.blk b _ hH
          rw [hb] at q0
          cases q0
          have key : ∀ (j : Nat) (pv : PV), cs[j]? = some pv → us[j]? = some (us.getD j undef) := fun j pv a => by
            have hj : j < us.size := by rw [q4]; exact (List.getElem?_eq_some_iff.1 a).1
            rw [Array.getD_eq_getD_getElem?, Array.getElem?_eq_getElem hj]
            rfl
          have := VR.eptr (M := Go.Proofs.Ytcbknmnlgoeniaa.memW w) (h := fun _ => none) (cs.map (vwD n H)) o k 0 (fun j => us.getD j undef) (fun j pv a => by
              rw [List.getElem?_map, Option.map_eq_some_iff] at a
              obtain ⟨pv0, a, rfl⟩ := a
              have e := key j pv0 a
              refine memW_of ?_ (q5 _ (Array.mem_of_getElem? e))
              rw [Nat.zero_add, cell_of_row w k j us t (0, 0) q3]
              exact e)
            (fun j pv a => by
              rw [List.getElem?_map, Option.map_eq_some_iff] at a
              obtain ⟨pv0, a, rfl⟩ := a
              exact ih (q6 j pv0 _ a (key j pv0 a)) (hk pv0 (List.mem_of_getElem? a)))
          rw [Nat.zero_add] at this
          exact this
      · exact hk.elim
    | agg fs =>
      simp only [vdOk] at hk
      simp only [vwD]
      cases r with
      | agg _ vs h1 h2 =>
        refine .agg _ _ (by simpa using h1) fun i pv u a d => ?_
        rw [List.getElem?_map, Option.map_eq_some_iff] at a
        obtain ⟨q, a1, rfl⟩ := a
        exact ih (h2 i q u a1 d) (hk q (List.mem_of_getElem? a1))
    | clo f caps =>
      simp only [vdOk] at hk
      simp only [vwD]
      cases r with
      | clo _ _ vs h1 h2 =>
        refine .clo _ _ _ (by simpa using h1) fun i pv u a d => ?_
        rw [List.getElem?_map, Option.map_eq_some_iff] at a
        obtain ⟨q, a1, rfl⟩ := a
        exact ih (h2 i q u a1 d) (hk q (List.mem_of_getElem? a1))
    | _ => exact cloA_ok (r.mono I.memW (.refl _)) hk
theorem PCalls.viewD {P : Program} {g : FuncId} {args : List PV} {H : Hp} {v : PV} (n : Nat) {args' : List PV} (h1 : PCalls P g args' [] (RV v)) (e : args.map (vwD n H) = args') (hs : scalP v = true) (ha : ∀ p ∈ args, vdOk n H p) : PCalls P g args H (RH v H) := fun M h w vs I rv => by
  subst e
  have rv0 : CR (memW w) (fun _ => none) (args.map (vwD n H)) vs := ⟨by simpa using rv.1, fun i pv v a b => by
    rw [List.getElem?_map, Option.map_eq_some_iff] at a
    obtain ⟨q, a1, rfl⟩ := a
    exact vwD_ok I n (rv.2 i q v a1 b) (ha q (List.mem_of_getElem? a1))⟩
  refine (h1 _ _ w vs (inv_memW w (I.glob.mono I.memW)) rv0).mono fun e w' ⟨v', M', h', r, H', e1, e2, e3, e4⟩ => ?_
  have e2 : r = v := e2
  subst e2
  have hb : Ext w w' := (ChgS.ext ⟨e4.chg.os, e4.chg.tape, e4.chg.output, e4.chg.size, fun k hk hn => e4.chg.block k hk fun ⟨b, B, v, q, _⟩ => by simp at q⟩)
  exact ⟨v', M, h, r, H, e1, ⟨rfl, rfl⟩, scalP_ok e3 hs, Step.ext I hb⟩
theorem rows_vd {α : Type} {p : α → List PV} {n : Nat} {H : Hp} (h : ∀ x, (p x).map (vwD n H) = p x) (l : List α) : ((l.map p).map fun row => row.map (vwD n H)) = l.map p := by
  rw [List.map_map]
  exact List.map_congr_left fun x _ => h x
theorem PWp.mvB {P : Program} {N : Nat} {c : Code} {Q : Exit → St → Prop} {tm : List PV} {H : Hp} (x j b : Nat) {cs : List PV} {B : Blk} (hx : H[x]? = some (some (.box cs))) (hj : cs[j]? = some (.own b)) (hB : H[b]? = some (some B)) (hr : b ≠ x) (h : PWp P N c Q ⟨tm, ((H.set b none) ++ [some B]).set x (some (Blk.box (cs.set j (.own H.length))))⟩) : PWp P N c Q ⟨tm, H⟩ := fun E a w hN r => by
  obtain ⟨M, hh, s, t, d⟩ := r
  have I : Inv M hh H w := s.inv
  have hxl := (List.getElem?_eq_some_iff.1 hx).1
  have hbl := (List.getElem?_eq_some_iff.1 hB).1
  obtain ⟨v, hv, rB⟩ := I.blk b B hB
  have hle : HLe hh (upd hh H.length v) := fun k u q => by
    have := I.len k u q
    unfold upd
    rw [if_neg (by omega)]
    exact q
  have gx : ((H.set b none) ++ [some B])[x]? = some (some (.box cs)) := by
    rw [List.getElem?_append_left (by simpa using hxl), List.getElem?_set_ne hr]
    exact hx
  have old : ∀ {k : Nat} {C : Blk}, (((H.set b none) ++ [some B]).set x (some (Blk.box (cs.set j (.own H.length)))))[k]? = some (some C) → (k = x ∧ C = .box (cs.set j (.own H.length))) ∨ (k = H.length ∧ C = B) ∨ (k ≠ b ∧ k ≠ x ∧ k < H.length ∧ H[k]? = some (some C)) := fun {k C} q => by
    by_cases e1 : x = k
    · subst e1
      rw [List.getElem?_set_self (List.getElem?_eq_some_iff.1 gx).1] at q
      injection q with q
      injection q with q
      exact .inl ⟨rfl, q.symm⟩
    · rw [List.getElem?_set_ne e1] at q
      have hk := (List.getElem?_eq_some_iff.1 q).1
      simp only [List.length_append, List.length_set, List.length_singleton] at hk
      by_cases e2 : k = H.length
      · subst e2
        rw [List.getElem?_append_right (by simp)] at q
        simp only [List.length_set, Nat.sub_self, List.getElem?_cons_zero, Option.some.injEq] at q
        exact .inr (.inl ⟨rfl, q.symm⟩)
      · have hk' : k < H.length := by omega
        rw [List.getElem?_append_left (by simpa using hk')] at q
        by_cases e3 : b = k
        · subst e3
          rw [List.getElem?_set_self hbl] at q
          cases q
        · rw [List.getElem?_set_ne e3] at q
          exact .inr (.inr ⟨fun e => e3 e.symm, fun e => e1 e.symm, hk', q⟩)
  have back : ∀ {k : Nat} {C : Blk} {u : Value}, (((H.set b none) ++ [some B]).set x (some (Blk.box (cs.set j (.own H.length)))))[k]? = some (some C) → upd hh H.length v k = some u → ∃ k' C', H[k']? = some (some C') ∧ hh k' = some u ∧ (k' = b ∧ k = H.length ∨ k' = k ∧ k ≠ b) := fun {k C u} q1 q2 => by
    rcases old q1 with ⟨rfl, rfl⟩ | ⟨rfl, rfl⟩ | ⟨e1, e2, e3, e4⟩
    · refine ⟨k, _, hx, ?_, .inr ⟨rfl, fun e => hr e.symm⟩⟩
      unfold upd at q2
      rwa [if_neg (by omega)] at q2
    · rw [upd_self] at q2
      cases q2
      exact ⟨b, _, hB, hv, .inl ⟨rfl, rfl⟩⟩
    · refine ⟨k, _, e4, ?_, .inr ⟨rfl, e1⟩⟩
      unfold upd at q2
      rwa [if_neg (by omega)] at q2
  have hom : ∀ z, Homes (upd hh H.length v) (((H.set b none) ++ [some B]).set x (some (Blk.box (cs.set j (.own H.length))))) z → Homes hh H z := fun z ⟨k, C, u, q1, q2, q3⟩ => by
    obtain ⟨k', C', g1, g2, -⟩ := back q1 q2
    exact ⟨k', C', u, g1, g2, q3⟩
  have I2 : Inv M (upd hh H.length v) (((H.set b none) ++ [some B]).set x (some (Blk.box (cs.set j (.own H.length))))) w := by
    refine ⟨I.mem, I.one, fun k C q => ?_, fun z hz o => I.sep z (hom z hz) o, fun k k' C C' u u' z g1 g2 g3 g4 g5 g6 => ?_, fun k u q => ?_, I.glob⟩
    · rcases old q with ⟨rfl, rfl⟩ | ⟨rfl, rfl⟩ | ⟨e1, e2, e3, e4⟩
      · obtain ⟨u, q1, g, us, ty, p1, p2, p3, p4, p5⟩ := I.blk k _ hx
        refine ⟨u, hle _ _ q1, g, us, ty, p1, p2, by simpa using p3, p4, fun i pv u' a d => ?_⟩
        by_cases e : j = i
        · subst e
          rw [List.getElem?_set_self (List.getElem?_eq_some_iff.1 hj).1] at a
          cases a
          have r0 := p5 j _ u' hj d
          cases r0 with
          | own _ o n c hb =>
            rw [hv] at hb
            cases hb
            exact .own _ o n c upd_self
        · rw [List.getElem?_set_ne e] at a
          exact (p5 i pv u' a d).mono (.refl _) hle
      · exact ⟨v, upd_self, rB.mono (.refl _) hle fun _ _ => rfl⟩
      · obtain ⟨u, q1, q2⟩ := I.blk k C e4
        exact ⟨u, hle _ _ q1, q2.mono (.refl _) hle fun _ _ => rfl⟩
    · obtain ⟨i, D, a1, a2, a3⟩ := back g1 g3
      obtain ⟨i', D', b1, b2, b3⟩ := back g2 g4
      have := I.inj i i' D D' u u' z a1 b1 a2 b2 g5 g6
      omega
    · unfold upd at q
      simp only [List.length_set, List.length_append, List.length_singleton]
      split at q
      · omega
      · have := I.len k u q; omega
  exact h E a w hN ⟨M, _, s.trans ⟨.refl _, hle, I2, .refl, fun z hz => .inl (hom z hz), fun _ _ _ q => .inl q⟩, ⟨t.size, fun i y u h1 h2 => (t.vr i y u h1 h2).mono (.refl _) hle⟩, d⟩
section
variable {P : Program} {T : Tys} {md : Bool} {ops : Array Oper} {tn : List Nat} {σ : St}
theorem panyC_g {i j : Nat} {w : Bool} {dst : Option Tmp} {op : Op} {ty : TypeId} {pos : String} {after : Array Edge} {K' : St → Prop} {cm : Bool} (hk : (decide (kindC ops tn i ≤ 1)) = false) (hc : tn.contains i = cm) (h : ∃ d, (ops.toList[j]?).bind (·.dst) = some d ∧ ∃ b, pbool σ.tm d = some b ∧ (b = w → popO P T md cm op ty σ fun pv σ' => K' (σ'.put dst pv)) ∧ (b = (!w) → K' (σ.put dst (.val undef)))) :
    (if kindC ops tn i ≤ 1 then pstepD P T md ops ⟨dst, op, ty, pos, after, some (j, w)⟩ σ K' else if pwanted ops σ.tm (⟨dst, op, ty, pos, after, some (j, w)⟩ : Oper).guard then pop P T md (tn.contains i) ⟨dst, op, ty, pos, after, some (j, w)⟩ σ fun pv σ' => K' (σ'.put (⟨dst, op, ty, pos, after, some (j, w)⟩ : Oper).dst pv) else K' (σ.put (⟨dst, op, ty, pos, after, some (j, w)⟩ : Oper).dst (.val undef))) := by
  obtain ⟨d, hd, b, hb, h1, h2⟩ := h
  rw [Array.getElem?_toList] at hd
  rw [if_neg (of_decide_eq_false hk)]
  subst hc
  simp only [pwanted_of hd hb]
  cases b <;> cases w <;> first | exact h1 rfl | exact h2 rfl
end
theorem pcall_RGo {P : Program} {g : FuncId} {args args0 : List PV} {H0 : Hp} {σ : St} {K : PV → St → Prop} {v : PV} {H' : Hp} (hc : Callable P g) (φ : List Nat) (ha : args = renL φ σ.H.length args0) (hH : blkR φ σ.H.length σ.H φ H0) (hs : H0.all (·.isSome) = true) (hn : nodupR φ = true) (h : PCalls P g args0 H0 (RH v H')) (hk : K (ren φ σ.H.length v) ⟨σ.tm, wback φ σ.H H'⟩) : pcall P true g args σ K :=
  pcall_RG φ hc h ha hH hs hn hk
theorem pcO {P : Program} {g : FuncId} {args args0 : List PV} {H0 : Hp} {σ : St} {K : PV → St → Prop} {v : PV} {H' : Hp} (hc : Callable P g) (φ : List Nat) (h : PCalls P g args0 H0 (RH v H')) (hk : K (ren φ σ.H.length v) ⟨σ.tm, wback φ σ.H H'⟩) (ha : args = renL φ σ.H.length args0 := by ((try simp (disch := omega) only [push_cast, seval]); (repeat' (first | exact trivial | exact rfl | refine And.intro ?_ ?_ | omega)))) (hH : blkR φ σ.H.length σ.H φ H0 := by ((try simp (disch := omega) only [push_cast, seval]); (repeat' (first | exact trivial | exact rfl | refine And.intro ?_ ?_ | omega)))) (hs : H0.all (·.isSome) = true := by exact rfl) (hn : nodupR φ = true := by exact rfl) : pcall P true g args σ K := pcall_RGo hc φ ha hH hs hn h hk
end Go.Proofs.Ytcbknmnlgoeniaa
namespace Go.Proofs.Ytcbknmnlgoeniaa
set_option linter.unusedSimpArgs false
set_option linter.unusedVariables false
open Go.RowKit
set_option maxRecDepth 100000
theorem eqI_B {a b : Int} : (a == b) = decide (a = b) := by
  by_cases h : a = b
  · subst h; simp
  · simp [h]
theorem sflat_bind {P : Program} {α β : Type} (s : Sem α) (k : α → Sem β) : sflat P (s >>= k) = (sflat P s).bind fun a => sflat P (k a) := by
  show sflat P (Sem.bind s k) = _
  induction s with
  | pure a => rfl
  | program f ih => simp only [Sem.bind, sflat]; exact ih P
  | mark m f ih => simp only [Sem.bind, sflat]; exact ih
  | _ => rfl
theorem sflat_pure {P : Program} {α : Type} (a : α) : sflat P (pure a : Sem α) = some a := rfl
section
variable {P : Program} {t : TypeId}
theorem sf_und {d : TypeDesc} (h : P.underlying t = some d) : sflat P (underlying t) = some d := by
  simp [underlying, program, bind, Sem.bind, sflat, h]
  rfl
theorem sf_part {d : TypeDesc} (h : P.underlying t = some d) (hd : (match d with | .struct _ | .array _ _ => true | _ => false) = false) {cs : Array Value} {off : Nat} : sflat P (part t cs off) = cs[off]? := by
  unfold part isAgg
  simp only [sflat_bind, sf_und h, Option.bind_some]
  split
  · simp at hd
  · simp at hd
  · show sflat P (match cs[off]? with | some v => pure v | none => stuck "part: no such cell") = _
    cases cs[off]? <;> rfl
theorem flat_agg {fs : List PV} : flat (.agg fs) = (flatL fs).map fun vs => .agg vs.toArray := by rw [flat]
theorem flatL_nil : flatL [] = some [] := by rw [flatL]
theorem flatL_val {x : Value} {r : List PV} : flatL (.val x :: r) = (flatL r).map (x :: ·) := by rw [flatL]
attribute [push_cast] flat_agg flatL_nil flatL_val
theorem ite_sm {b c : Bool} : (if b = true then some c else some false) = some (b && c) := by cases b <;> rfl
theorem if_und {n : String} {α : Type} {x y : α} (h : (n == "_") = false) : (if n ≠ "_" then x else y) = x := by
  rw [if_pos (by intro e; subst e; simp at h)]
theorem eqIn_int {k : IntKind} {d : Nat} {a b : Int} (h : P.underlying t = some (.int k)) : sflat P (Op.equalIn (d + 1) t (.int .i64 a) (.int .i64 b)) = some (decide (a = b)) := by
  rw [Op.equalIn, sflat_bind, sf_und h, ← eqI_B]
  rfl
theorem eqIn_bool {d : Nat} {a b : Bool} (h : P.underlying t = some .bool) : sflat P (Op.equalIn (d + 1) t (.bool a) (.bool b)) = some (a == b) := by
  rw [Op.equalIn, sflat_bind, sf_und h]
  rfl
theorem sflat_bind' {α β : Type} (s : Sem α) (k : α → Sem β) : sflat P (s.bind k) = (sflat P s).bind fun a => sflat P (k a) := sflat_bind s k
def sfields (P : Program) (d : Nat) (xs ys : Array Value) : List Field → Option Bool
  | [] => some true
  | f :: r => if f.name ≠ "_" then (sflat P (part f.type xs f.offset)).bind fun x => (sflat P (part f.type ys f.offset)).bind fun y => (sflat P (Op.equalIn d f.type x y)).bind fun b => if b then sfields P d xs ys r else some false else sfields P d xs ys r
theorem sfields_loop (d : Nat) (xs ys : Array Value) (k : Option Bool × Unit → Sem Bool) (k1 : k (some false, ()) = pure false) (k2 : k (none, ()) = pure true) : ∀ l : List Field, sflat P ((forIn l ((none : Option Bool), ()) fun f _ =>
      if f.name ≠ "_" then (part f.type xs f.offset).bind fun x => (part f.type ys f.offset).bind fun y => (Op.equalIn d f.type x y).bind fun b =>
        if (!b) = true then pure (ForInStep.done (some false, ())) else pure (ForInStep.yield (none, ()))
      else pure (ForInStep.yield (none, ()))).bind k) = sfields P d xs ys l
  | [] => by rw [List.forIn_nil]; show sflat P (k (none, ())) = _; rw [k2]; rfl
  | f :: r => by
    have ih := sfields_loop d xs ys k k1 k2 r
    rw [List.forIn_cons, sfields]
    rw [sflat_bind'] at ih ⊢
    rw [sflat_bind]
    split
    · rw [sflat_bind']
      cases sflat P (part f.type xs f.offset) with
      | none => rfl
      | some x =>
        simp only [Option.bind_some]
        rw [sflat_bind']
        cases sflat P (part f.type ys f.offset) with
        | none => rfl
        | some y =>
          simp only [Option.bind_some]
          rw [sflat_bind']
          cases sflat P (Op.equalIn d f.type x y) with
          | none => rfl
          | some b =>
            cases b with
            | true => simp only [Option.bind_some, Bool.not_true, Bool.false_eq_true, if_false, sflat_pure, if_true]; exact ih
            | false => simp only [Option.bind_some, Bool.not_false, if_true, sflat_pure, Bool.false_eq_true, if_false, k1]
    · simp only [sflat_pure, Option.bind_some]
      exact ih
theorem eqIn_struct {fs : Array Field} {d : Nat} {xs ys : Array Value} (h : P.underlying t = some (.struct fs)) (hs : P.stoodInHeld t = false) : sflat P (Op.equalIn (d + 1) t (.agg xs) (.agg ys)) = sfields P d xs ys fs.toList := by
  rw [Op.equalIn, sflat_bind, sf_und h, Option.bind_some]
  simp only [program, bind, Sem.bind, sflat, hs]
  rw [if_neg (by simp), ← Array.forIn_toList]
  exact sfields_loop d xs ys _ rfl rfl fs.toList
theorem sf_eqAgg {x y : Operand} {xs ys : Array Value} {b : Bool} (hg : P.eqGuardType P.depth t = false) (h : sflat P (Op.equalIn (9999 + 1) t (.agg xs) (.agg ys)) = some b) :
    sflat P (do eqGuard .eql t x y (.agg xs) (.agg ys); binOp .eql t (.agg xs) (.agg ys)) = some (.bool b) ∧ sflat P (do eqGuard .neq t x y (.agg xs) (.agg ys); binOp .neq t (.agg xs) (.agg ys)) = some (.bool (!b)) := by
  constructor
  · simp only [eqGuard, sflat_bind, program, sflat, hg, binOp, Op.equal, Op.maxDepth]
    simp [sflat_pure, h, sflat_bind, sflat, pure]
    rw [if_pos hg]
    rfl
  · simp only [eqGuard, sflat_bind, program, sflat, hg, binOp, Op.equal, Op.maxDepth]
    simp [sflat_pure, h, sflat_bind, sflat, pure]
    rw [if_pos hg]
    rfl
end
end Go.Proofs.Ytcbknmnlgoeniaa
namespace Go.Proofs.Ytcbknmnlgoeniaa
set_option linter.unusedSimpArgs false
set_option linter.unusedVariables false
open Go.RowKit
set_option maxRecDepth 100000
theorem eqIn_NMsg {d : Nat} {a0 b0 : Int} {a1 b1 : Int} {a2 b2 : Int} {a3 b3 : Int} {a4 b4 : Int} : sflat Try.prog (Op.equalIn (d + 2) 32 (.agg #[.int .i64 a0, .int .i64 a1, .int .i64 a2, .int .i64 a3, .int .i64 a4]) (.agg #[.int .i64 b0, .int .i64 b1, .int .i64 b2, .int .i64 b3, .int .i64 b4])) = some ((decide (a0 = b0) && (decide (a1 = b1) && (decide (a2 = b2) && (decide (a3 = b3) && decide (a4 = b4)))))) := by
  rw [eqIn_struct Try.underlying32 (by kernel_rfl)]
  simp only [sfields, if_und, sf_part Try.underlying3 rfl, eqIn_int Try.underlying3, List.getElem?_toArray, List.getElem?_cons_zero, List.getElem?_cons_succ, Option.bind_some, ite_sm, Bool.and_true, String.reduceBEq, ne_eq, String.reduceEq, not_false_eq_true, if_true]
theorem sf_eqNMsg {x y : Operand} {a0 b0 : Int} {a1 b1 : Int} {a2 b2 : Int} {a3 b3 : Int} {a4 b4 : Int} : sflat Try.prog (do eqGuard .eql 32 x y (.agg #[.int .i64 a0, .int .i64 a1, .int .i64 a2, .int .i64 a3, .int .i64 a4]) (.agg #[.int .i64 b0, .int .i64 b1, .int .i64 b2, .int .i64 b3, .int .i64 b4]); binOp .eql 32 (.agg #[.int .i64 a0, .int .i64 a1, .int .i64 a2, .int .i64 a3, .int .i64 a4]) (.agg #[.int .i64 b0, .int .i64 b1, .int .i64 b2, .int .i64 b3, .int .i64 b4])) = some (.bool ((decide (a0 = b0) && (decide (a1 = b1) && (decide (a2 = b2) && (decide (a3 = b3) && decide (a4 = b4))))))) := (sf_eqAgg (by kernel_rfl) eqIn_NMsg).1
theorem sf_neNMsg {x y : Operand} {a0 b0 : Int} {a1 b1 : Int} {a2 b2 : Int} {a3 b3 : Int} {a4 b4 : Int} : sflat Try.prog (do eqGuard .neq 32 x y (.agg #[.int .i64 a0, .int .i64 a1, .int .i64 a2, .int .i64 a3, .int .i64 a4]) (.agg #[.int .i64 b0, .int .i64 b1, .int .i64 b2, .int .i64 b3, .int .i64 b4]); binOp .neq 32 (.agg #[.int .i64 a0, .int .i64 a1, .int .i64 a2, .int .i64 a3, .int .i64 a4]) (.agg #[.int .i64 b0, .int .i64 b1, .int .i64 b2, .int .i64 b3, .int .i64 b4])) = some (.bool (!(decide (a0 = b0) && (decide (a1 = b1) && (decide (a2 = b2) && (decide (a3 = b3) && decide (a4 = b4))))))) := (sf_eqAgg (by kernel_rfl) eqIn_NMsg).2
attribute [push_cast] sf_eqNMsg sf_neNMsg
end Go.Proofs.Ytcbknmnlgoeniaa
namespace Go.Proofs.Ytcbknmnlgoeniaa
set_option linter.unusedSimpArgs false
set_option linter.unusedVariables false
open Go.RowKit
def hasI (l : List Int) (x : Int) : Bool := l.any fun y => decide (y = x)
def eqM (a b : GNMsg) : Bool := decide (a.fKind = b.fKind) && (decide (a.fRound = b.fRound) && (decide (a.fVal = b.fVal) && (decide (a.fPol = b.fPol) && decide (a.fFrom = b.fFrom))))
theorem eqM_iff {a b : GNMsg} : eqM a b = true ↔ a = b := by
  obtain ⟨a1, a2, a3, a4, a5⟩ := a
  obtain ⟨b1, b2, b3, b4, b5⟩ := b
  simp [eqM]
def hasM (l : List GNMsg) (m : GNMsg) : Bool := l.any (eqM m)
theorem hasM_iff {l : List GNMsg} {m : GNMsg} : hasM l m = true ↔ m ∈ l := by
  unfold hasM
  rw [List.any_eq_true]
  constructor
  · rintro ⟨x, hx, h⟩; rw [eqM_iff.1 h]; exact hx
  · exact fun h => ⟨m, h, eqM_iff.2 rfl⟩
theorem hasM_no {l : List GNMsg} {m : GNMsg} : hasM l m = false ↔ m ∉ l := by
  rw [← hasM_iff]; simp
def msg0 : GNMsg := ⟨0, 0, 0, 0, 0⟩
def propOf (round : Int) : Int := 1 + round % 4
def msgOk (m : GNMsg) : Bool := inB m.fRound 0 11 && inB m.fFrom 1 4 && (if m.fKind = 1 then decide (m.fFrom = propOf m.fRound) && inB m.fVal 1 20 && inB m.fPol (-1) (m.fRound - 1) else if m.fKind = 2 ∨ m.fKind = 3 then inB m.fVal 0 20 && decide (m.fPol = -1) else false)
structure MOk (m : GNMsg) : Prop where
  rd : 0 ≤ m.fRound ∧ m.fRound ≤ 11
  fr : 1 ≤ m.fFrom ∧ m.fFrom ≤ 4
  kd : m.fKind = 1 ∨ m.fKind = 2 ∨ m.fKind = 3
  p1 : m.fKind = 1 → m.fFrom = propOf m.fRound ∧ (1 ≤ m.fVal ∧ m.fVal ≤ 20) ∧ (-1 ≤ m.fPol ∧ m.fPol ≤ m.fRound - 1)
  p2 : m.fKind ≠ 1 → (0 ≤ m.fVal ∧ m.fVal ≤ 20) ∧ m.fPol = -1
theorem msgOk_iff {m : GNMsg} : msgOk m = true ↔ MOk m := by
  unfold msgOk
  constructor
  · intro h
    rw [Bool.and_eq_true, Bool.and_eq_true, inB_iff, inB_iff] at h
    obtain ⟨⟨h1, h2⟩, h3⟩ := h
    by_cases hk : m.fKind = 1
    · rw [if_pos hk, Bool.and_eq_true, Bool.and_eq_true, inB_iff, inB_iff, decide_eq_true_eq] at h3
      exact ⟨h1, h2, .inl hk, fun _ => ⟨h3.1.1, h3.1.2, h3.2⟩, fun q => absurd hk q⟩
    · rw [if_neg hk] at h3
      by_cases hk2 : m.fKind = 2 ∨ m.fKind = 3
      · rw [if_pos hk2, Bool.and_eq_true, inB_iff, decide_eq_true_eq] at h3
        exact ⟨h1, h2, .inr hk2, fun q => absurd q hk, fun _ => h3⟩
      · rw [if_neg hk2] at h3; cases h3
  · rintro ⟨h1, h2, h3, h4, h5⟩
    rw [Bool.and_eq_true, Bool.and_eq_true, inB_iff, inB_iff]
    refine ⟨⟨h1, h2⟩, ?_⟩
    by_cases hk : m.fKind = 1
    · rw [if_pos hk, Bool.and_eq_true, Bool.and_eq_true, inB_iff, inB_iff, decide_eq_true_eq]
      have := h4 hk
      exact ⟨⟨this.1, this.2.1⟩, this.2.2⟩
    · rw [if_neg hk, if_pos (by omega), Bool.and_eq_true, inB_iff, decide_eq_true_eq]
      exact h5 hk
def msgAt (l : List GNMsg) (k : Nat) : Bool := match l[k]? with | none => true | some m => msgOk m && !hasM (l.take k) m
def msgsOk (l : List GNMsg) : Bool := allN (msgAt l) l.length
theorem msgsOk_iff {l : List GNMsg} : msgsOk l = true ↔ (∀ m ∈ l, msgOk m = true) ∧ l.Nodup := by
  unfold msgsOk
  constructor
  · intro h
    have key : ∀ (k : Nat) m, l[k]? = some m → msgOk m = true ∧ m ∉ l.take k := fun k m hk => by
      have := allN_get h (List.getElem?_eq_some_iff.1 hk).1
      unfold msgAt at this
      rw [hk] at this
      simp only [Bool.and_eq_true, Bool.not_eq_true', hasM_no] at this
      exact this
    refine ⟨fun m hm => ?_, ?_⟩
    · obtain ⟨k, hk⟩ := List.getElem?_of_mem hm
      exact (key k m hk).1
    · rw [List.nodup_iff_pairwise_ne, List.pairwise_iff_getElem]
      intro i j hi hj hij e
      refine (key j _ (List.getElem?_eq_getElem hj)).2 ?_
      rw [← e, List.mem_iff_getElem?]
      exact ⟨i, by rw [List.getElem?_take, if_pos hij, List.getElem?_eq_getElem hi]⟩
  · rintro ⟨h1, h2⟩
    refine allTo_end fun i hi => ?_
    have hg : l[i]? = some l[i] := List.getElem?_eq_getElem hi
    unfold msgAt
    rw [hg]
    simp only [Bool.and_eq_true, Bool.not_eq_true', hasM_no]
    refine ⟨h1 _ (List.getElem_mem hi), fun q => ?_⟩
    obtain ⟨j, hj⟩ := List.mem_iff_getElem?.1 q
    rw [List.getElem?_take] at hj
    split at hj
    · rename_i hji
      have hjl : j < l.length := by omega
      rw [List.nodup_iff_pairwise_ne, List.pairwise_iff_getElem] at h2
      rw [List.getElem?_eq_getElem hjl] at hj
      exact h2 j i hjl hi hji (by simpa using hj)
    · cases hj
def fromF (p : GNMsg → Bool) (fs : List Int) (m : GNMsg) : List Int := if p m && !hasI fs m.fFrom then fs ++ [m.fFrom] else fs
def froms (p : GNMsg → Bool) (l : List GNMsg) : List Int := l.foldl (fromF p) []
theorem hasI_iff {l : List Int} {x : Int} : hasI l x = true ↔ x ∈ l := by unfold hasI; simp
theorem froms_succ {p : GNMsg → Bool} {l : List GNMsg} {k : Nat} {m : GNMsg} (h : l[k]? = some m) : froms p (l.take (k + 1)) = fromF p (froms p (l.take k)) m := by
  unfold froms
  rw [List.take_add_one, h, Option.toList_some, List.foldl_append]
  rfl
theorem fromF_mem {p : GNMsg → Bool} {fs : List Int} {m : GNMsg} {x : Int} : x ∈ fromF p fs m ↔ x ∈ fs ∨ (p m = true ∧ x = m.fFrom) := by
  unfold fromF
  cases hp : p m
  · simp
  · by_cases h : hasI fs m.fFrom = true
    · rw [h]
      simp only [Bool.not_true, Bool.and_false, Bool.false_eq_true, if_false, true_and]
      exact ⟨.inl, fun q => q.elim id fun e => e ▸ hasI_iff.1 h⟩
    · rw [Bool.not_eq_true] at h
      simp [h]
theorem fromF_nodup {p : GNMsg → Bool} {fs : List Int} {m : GNMsg} (h : fs.Nodup) : (fromF p fs m).Nodup := by
  unfold fromF
  split
  · rename_i q
    simp only [Bool.and_eq_true, Bool.not_eq_true'] at q
    have : m.fFrom ∉ fs := fun hm => by rw [hasI_iff.2 hm] at q; cases q.2
    rw [List.nodup_append]
    exact ⟨h, by simp, fun a ha b hb => by simp only [List.mem_singleton] at hb; subst hb; exact fun e => this (e ▸ ha)⟩
  · exact h
theorem froms_len {p : GNMsg → Bool} {l : List GNMsg} : (froms p l).length ≤ l.length := by
  unfold froms
  have key : ∀ (l : List GNMsg) (fs : List Int), (l.foldl (fromF p) fs).length ≤ fs.length + l.length := by
    intro l
    induction l with
    | nil => intro fs; simp
    | cons m r ih =>
      intro fs
      rw [List.foldl_cons, List.length_cons]
      have h1 := ih (fromF p fs m)
      have h2 : (fromF p fs m).length ≤ fs.length + 1 := by unfold fromF; split <;> simp
      omega
  simpa using key l []
theorem foldl_from_mem {p : GNMsg → Bool} {x : Int} : ∀ (l : List GNMsg) (fs : List Int), x ∈ l.foldl (fromF p) fs ↔ x ∈ fs ∨ ∃ m ∈ l, p m = true ∧ m.fFrom = x
  | [], fs => by simp
  | m :: r, fs => by
    rw [List.foldl_cons, foldl_from_mem r, fromF_mem]
    constructor
    · rintro ((h | ⟨h1, rfl⟩) | ⟨u, h1, h2⟩)
      · exact .inl h
      · exact .inr ⟨m, by simp, h1, rfl⟩
      · exact .inr ⟨u, by simp [h1], h2⟩
    · rintro (h | ⟨u, h1, h2, h3⟩)
      · exact .inl (.inl h)
      · rcases List.mem_cons.1 h1 with rfl | h1
        · exact .inl (.inr ⟨h2, h3.symm⟩)
        · exact .inr ⟨u, h1, h2, h3⟩
theorem froms_mem {p : GNMsg → Bool} {l : List GNMsg} {x : Int} : x ∈ froms p l ↔ ∃ m ∈ l, p m = true ∧ m.fFrom = x := by
  unfold froms
  rw [foldl_from_mem]
  simp
theorem froms_nodup {p : GNMsg → Bool} {l : List GNMsg} : (froms p l).Nodup := by
  unfold froms
  have key : ∀ (l : List GNMsg) (fs : List Int), fs.Nodup → (l.foldl (fromF p) fs).Nodup := by
    intro l
    induction l with
    | nil => exact fun fs h => h
    | cons m r ih => exact fun fs h => ih _ (fromF_nodup h)
  exact key l [] List.nodup_nil
def isV (kind round val : Int) (m : GNMsg) : Bool := decide (m.fKind = kind) && (decide (m.fRound = round) && decide (m.fVal = val))
def isR (round : Int) (m : GNMsg) : Bool := decide (m.fRound = round)
def cntM (l : List GNMsg) (kind round val : Int) : Int := ((froms (isV kind round val) l).length : Nat)
def nodeOk (n : GNode) : Bool := inB n.fMe 1 4 && inB n.fRound (-1) 11 && inB n.fStep 1 3 && (inB n.fLockVal 0 20 && inB n.fValidVal 0 20 && inB n.fDecided 0 20) && (inB n.fLockRound (-1) n.fRound && inB n.fValidRound (-1) n.fRound && inB n.fPolka (-1) n.fRound) && (decide (n.fLockVal = 0) == decide (n.fLockRound = -1)) && (decide (n.fValidVal = 0) == decide (n.fValidRound = -1)) && (msgsOk n.fMsgs && decide ((n.fMsgs.length : Int) ≤ 90))
structure NOk (n : GNode) : Prop where
  me : 1 ≤ n.fMe ∧ n.fMe ≤ 4
  rd : -1 ≤ n.fRound ∧ n.fRound ≤ 11
  st : 1 ≤ n.fStep ∧ n.fStep ≤ 3
  lv : 0 ≤ n.fLockVal ∧ n.fLockVal ≤ 20
  vv : 0 ≤ n.fValidVal ∧ n.fValidVal ≤ 20
  de : 0 ≤ n.fDecided ∧ n.fDecided ≤ 20
  lr : -1 ≤ n.fLockRound ∧ n.fLockRound ≤ n.fRound
  vr : -1 ≤ n.fValidRound ∧ n.fValidRound ≤ n.fRound
  po : -1 ≤ n.fPolka ∧ n.fPolka ≤ n.fRound
  l0 : n.fLockVal = 0 ↔ n.fLockRound = -1
  v0 : n.fValidVal = 0 ↔ n.fValidRound = -1
  ms : ∀ m ∈ n.fMsgs, MOk m
  nd : n.fMsgs.Nodup
  ln : n.fMsgs.length ≤ 90
theorem dec_beq {p q : Prop} [Decidable p] [Decidable q] : (decide p == decide q) = true ↔ (p ↔ q) := by
  by_cases hp : p <;> by_cases hq : q <;> simp [hp, hq]
theorem nodeOk_iff {n : GNode} : nodeOk n = true ↔ NOk n := by
  unfold nodeOk
  simp only [Bool.and_eq_true, inB_iff, msgsOk_iff, decide_eq_true_eq, dec_beq, msgOk_iff]
  constructor
  · rintro ⟨⟨⟨⟨⟨⟨⟨h1, h2⟩, h3⟩, ⟨h4, h5⟩, h6⟩, ⟨h7, h8⟩, h9⟩, h10⟩, h11⟩, ⟨h12, h13⟩, h14⟩
    exact ⟨h1, h2, h3, h4, h5, h6, h7, h8, h9, h10, h11, h12, h13, by omega⟩
  · rintro ⟨h1, h2, h3, h4, h5, h6, h7, h8, h9, h10, h11, h12, h13, h14⟩
    exact ⟨⟨⟨⟨⟨⟨⟨h1, h2⟩, h3⟩, ⟨h4, h5⟩, h6⟩, ⟨h7, h8⟩, h9⟩, h10⟩, h11⟩, ⟨h12, h13⟩, by omega⟩
abbrev Acting := GNode × List GNMsg
def sendMsg (a : Acting) (kind val pol : Int) : GNMsg := ⟨kind, a.1.fRound, val, pol, a.1.fMe⟩
def sendM (a : Acting) (m : GNMsg) : Acting := (if hasM a.1.fMsgs m = false ∧ a.1.fMsgs.length < 90 then { a.1 with fMsgs := a.1.fMsgs ++ [m] } else a.1, a.2 ++ [m])
def send (a : Acting) (kind val pol : Int) : Acting := sendM a (sendMsg a kind val pol)
def beginR (a : Acting) (round : Int) : Acting :=
  if propOf round = a.1.fMe then (if a.1.fValidRound = -1 then send ({ a.1 with fRound := round, fStep := 1 }, a.2) 1 (10 + a.1.fMe) (-1) else send ({ a.1 with fRound := round, fStep := 1 }, a.2) 1 a.1.fValidVal a.1.fValidRound) else ({ a.1 with fRound := round, fStep := 1 }, a.2)
def bestF (l : List GNMsg) (b : Option GNMsg) (m : GNMsg) : Option GNMsg :=
  if m.fKind = 1 ∧ 3 ≤ cntM l 3 m.fRound m.fVal then (match b with | none => some m | some x => if m.fRound < x.fRound ∨ (m.fRound = x.fRound ∧ m.fVal < x.fVal) then some m else some x) else b
def bestTo (l : List GNMsg) (k : Nat) : Option GNMsg := (l.take k).foldl (bestF l) none
def best (l : List GNMsg) : Option GNMsg := l.foldl (bestF l) none
def skipTo (l : List GNMsg) (r : Int) : Nat → Option Int
  | 0 => none
  | k + 1 => if 2 ≤ (froms (isR (r + (k + 1))) l).length then some (r + (k + 1)) else skipTo l r k
def isProp (r : Int) (p : GNMsg → Bool) (m : GNMsg) : Bool := decide (m.fKind = 1) && (decide (m.fRound = r) && p m)
def propose (l : List GNMsg) (r : Int) (p : GNMsg → Bool) : Option GNMsg := l.find? (isProp r p)
def stepTo (a : Acting) (s : Int) : Acting := ({ a.1 with fStep := s }, a.2)
def prevote (a : Acting) (val : Int) (yes : Bool) : Acting := stepTo (send a 2 (if yes then val else 0) (-1)) 2
def precommit (a : Acting) (val : Int) : Acting := stepTo (send a 3 val (-1)) 3
def polkaD (a : Acting) (val : Int) : Acting := ({ a.1 with fValidVal := val, fValidRound := a.1.fRound, fPolka := a.1.fRound }, a.2)
def lockD (a : Acting) (val : Int) : Acting := ({ a.1 with fLockVal := val, fLockRound := a.1.fRound }, a.2)
def rule (a : Acting) : Option Acting :=
  if 0 < a.1.fDecided ∨ a.1.fRound = -1 then none
  else match best a.1.fMsgs with
    | some m => some ({ a.1 with fDecided := m.fVal }, a.2)
    | none => match skipTo a.1.fMsgs a.1.fRound (11 - a.1.fRound).toNat with
      | some r => some (beginR a r)
      | none =>
        if a.1.fStep = 1 then
          match propose a.1.fMsgs a.1.fRound (fun m => decide (m.fPol = -1)) with
          | some m => some (prevote a m.fVal (decide (a.1.fLockRound = -1) || decide (a.1.fLockVal = m.fVal)))
          | none => match propose a.1.fMsgs a.1.fRound (fun m => decide (0 ≤ m.fPol) && decide (3 ≤ cntM a.1.fMsgs 2 m.fPol m.fVal)) with
            | some m => some (prevote a m.fVal (decide (a.1.fLockRound ≤ m.fPol) || decide (a.1.fLockVal = m.fVal)))
            | none => none
        else match (if a.1.fPolka = a.1.fRound then none else propose a.1.fMsgs a.1.fRound (fun m => decide (3 ≤ cntM a.1.fMsgs 2 a.1.fRound m.fVal))) with
          | some m => some (polkaD (if a.1.fStep = 2 then precommit (lockD a m.fVal) m.fVal else a) m.fVal)
          | none => if a.1.fStep = 2 ∧ 3 ≤ cntM a.1.fMsgs 2 a.1.fRound 0 then some (precommit a 0) else none
def mu (n : GNode) : Nat := if 0 < n.fDecided then 0 else 1 + ((11 - n.fRound).toNat * 8 + ((3 - n.fStep).toNat * 2 + if n.fPolka = n.fRound then 0 else 1))
def restN : Nat → Acting → Acting
  | 0, a => a
  | k + 1, a => match rule a with | some b => restN k b | none => a
def rest (a : Acting) : Acting := restN 200 a
structure Grow (a b : Acting) : Prop where
  ok : NOk b.1
  me : b.1.fMe = a.1.fMe
  rd : a.1.fRound ≤ b.1.fRound
  lr : a.1.fLockRound ≤ b.1.fLockRound
  de : 0 < a.1.fDecided → b.1.fDecided = a.1.fDecided
  sn : ∃ l, b.2 = a.2 ++ l ∧ ∀ m ∈ l, MOk m ∧ m.fFrom = a.1.fMe
  mg : ∃ l, b.1.fMsgs = a.1.fMsgs ++ l ∧ ∀ m ∈ l, m.fFrom = a.1.fMe → m ∈ b.2
theorem Grow.refl {a : Acting} (h : NOk a.1) : Grow a a := ⟨h, rfl, by omega, by omega, fun _ => rfl, ⟨[], by simp, by simp⟩, ⟨[], by simp, by simp⟩⟩
theorem Grow.trans {a b c : Acting} (h : Grow a b) (g : Grow b c) : Grow a c := by
  obtain ⟨h1, h2, h3, h4, h5, ⟨l, h6, h7⟩, ⟨u, h8, h9⟩⟩ := h
  obtain ⟨g1, g2, g3, g4, g5, ⟨l', g6, g7⟩, ⟨u', g8, g9⟩⟩ := g
  refine ⟨g1, g2.trans h2, by omega, by omega, fun q => (g5 (by rw [h5 q]; exact q)).trans (h5 q), ⟨l ++ l', by rw [g6, h6, List.append_assoc], fun m hm => ?_⟩, ⟨u ++ u', by rw [g8, h8, List.append_assoc], fun m hm hf => ?_⟩⟩
  · rcases List.mem_append.1 hm with q | q
    · exact h7 m q
    · rw [← h2]; exact g7 m q
  · rcases List.mem_append.1 hm with q | q
    · rw [g6]; exact List.mem_append_left _ (h9 m q hf)
    · exact g9 m q (hf.trans h2.symm)
theorem sendM_grow {a : Acting} {m : GNMsg} (h : NOk a.1) (hm : MOk m) (hf : m.fFrom = a.1.fMe) : Grow a (sendM a m) := by
  have hs : ∃ l, (sendM a m).2 = a.2 ++ l ∧ ∀ m ∈ l, MOk m ∧ m.fFrom = a.1.fMe := ⟨[m], rfl, fun x hx => by rw [List.mem_singleton] at hx; subst hx; exact ⟨hm, hf⟩⟩
  by_cases hc : hasM a.1.fMsgs m = false ∧ a.1.fMsgs.length < 90
  · have e : (sendM a m).1 = { a.1 with fMsgs := a.1.fMsgs ++ [m] } := if_pos hc
    obtain ⟨h1, h2, h3, h4, h5, h6, h7, h8, h9, h10, h11, h12, h13, h14⟩ := h
    refine ⟨?_, by rw [e], by rw [e]; exact Int.le_refl _, by rw [e]; exact Int.le_refl _, fun _ => by rw [e], hs, ⟨[m], by rw [e], fun x hx _ => ?_⟩⟩
    · rw [e]
      refine ⟨h1, h2, h3, h4, h5, h6, h7, h8, h9, h10, h11, fun x hx => ?_, ?_, ?_⟩
      · rcases List.mem_append.1 hx with q | q
        · exact h12 x q
        · rw [List.mem_singleton] at q; subst q; exact hm
      · show (a.1.fMsgs ++ [m]).Nodup
        rw [List.nodup_append]
        exact ⟨h13, by simp, fun x hx y hy => by rw [List.mem_singleton] at hy; subst hy; exact fun q => hasM_no.1 hc.1 (q ▸ hx)⟩
      · show (a.1.fMsgs ++ [m]).length ≤ 90
        rw [List.length_append, List.length_singleton]
        omega
    · rw [List.mem_singleton] at hx
      subst hx
      show x ∈ a.2 ++ [x]
      simp
  · have e : (sendM a m).1 = a.1 := if_neg hc
    exact ⟨by rw [e]; exact h, by rw [e], by rw [e]; omega, by rw [e]; omega, fun _ => by rw [e], hs, ⟨[], by rw [e]; simp, by simp⟩⟩
theorem sendM_fields {a : Acting} {m : GNMsg} : (sendM a m).1.fMe = a.1.fMe ∧ (sendM a m).1.fRound = a.1.fRound ∧ (sendM a m).1.fStep = a.1.fStep ∧ (sendM a m).1.fPolka = a.1.fPolka ∧ (sendM a m).1.fDecided = a.1.fDecided := by
  by_cases hc : hasM a.1.fMsgs m = false ∧ a.1.fMsgs.length < 90
  · have e : (sendM a m).1 = { a.1 with fMsgs := a.1.fMsgs ++ [m] } := if_pos hc
    rw [e]; exact ⟨rfl, rfl, rfl, rfl, rfl⟩
  · have e : (sendM a m).1 = a.1 := if_neg hc
    rw [e]; exact ⟨rfl, rfl, rfl, rfl, rfl⟩
theorem stepTo_grow {a : Acting} {s : Int} (h : NOk a.1) (hs : 1 ≤ s ∧ s ≤ 3) : Grow a (stepTo a s) := by
  obtain ⟨h1, h2, h3, h4, h5, h6, h7, h8, h9, h10, h11, h12, h13, h14⟩ := h
  exact ⟨⟨h1, h2, hs, h4, h5, h6, h7, h8, h9, h10, h11, h12, h13, h14⟩, rfl, Int.le_refl _, Int.le_refl _, fun _ => rfl, ⟨[], by simp [stepTo], by simp⟩, ⟨[], by simp [stepTo], by simp⟩⟩
theorem vote_ok {a : Acting} (h : NOk a.1) (hr : a.1.fRound ≠ -1) {k v : Int} (hk : k = 2 ∨ k = 3) (hv : 0 ≤ v ∧ v ≤ 20) : MOk (sendMsg a k v (-1)) := by
  have := h.rd
  have := h.me
  exact ⟨by show 0 ≤ a.1.fRound ∧ a.1.fRound ≤ 11; omega, by show 1 ≤ a.1.fMe ∧ a.1.fMe ≤ 4; omega, .inr hk, fun q => by have q' : k = 1 := q; omega, fun _ => ⟨hv, rfl⟩⟩
theorem prevote_grow {a : Acting} (h : NOk a.1) (hr : a.1.fRound ≠ -1) {v : Int} {yes : Bool} (hv : 0 ≤ v ∧ v ≤ 20) : Grow a (prevote a v yes) := by
  have g := sendM_grow (m := sendMsg a 2 (if yes then v else 0) (-1)) h (vote_ok h hr (.inl rfl) (by split <;> omega)) rfl
  exact g.trans (stepTo_grow g.ok (by omega))
theorem precommit_grow {a : Acting} (h : NOk a.1) (hr : a.1.fRound ≠ -1) {v : Int} (hv : 0 ≤ v ∧ v ≤ 20) : Grow a (precommit a v) := by
  have g := sendM_grow (m := sendMsg a 3 v (-1)) h (vote_ok h hr (.inr rfl) hv) rfl
  exact g.trans (stepTo_grow g.ok (by omega))
theorem lockD_grow {a : Acting} (h : NOk a.1) (hr : a.1.fRound ≠ -1) {v : Int} (hv : 1 ≤ v ∧ v ≤ 20) : Grow a (lockD a v) := by
  obtain ⟨h1, h2, h3, h4, h5, h6, h7, h8, h9, h10, h11, h12, h13, h14⟩ := h
  refine ⟨⟨h1, h2, h3, ?_, h5, h6, ?_, h8, h9, ?_, h11, h12, h13, h14⟩, rfl, Int.le_refl _, ?_, fun _ => rfl, ⟨[], by simp [lockD], by simp⟩, ⟨[], by simp [lockD], by simp⟩⟩
  · show 0 ≤ v ∧ v ≤ 20; omega
  · show -1 ≤ a.1.fRound ∧ a.1.fRound ≤ a.1.fRound; omega
  · show v = 0 ↔ a.1.fRound = -1; omega
  · show a.1.fLockRound ≤ a.1.fRound; omega
theorem polkaD_grow {a : Acting} (h : NOk a.1) (hr : a.1.fRound ≠ -1) {v : Int} (hv : 1 ≤ v ∧ v ≤ 20) : Grow a (polkaD a v) := by
  obtain ⟨h1, h2, h3, h4, h5, h6, h7, h8, h9, h10, h11, h12, h13, h14⟩ := h
  refine ⟨⟨h1, h2, h3, h4, ?_, h6, h7, ?_, ?_, h10, ?_, h12, h13, h14⟩, rfl, Int.le_refl _, Int.le_refl _, fun _ => rfl, ⟨[], by simp [polkaD], by simp⟩, ⟨[], by simp [polkaD], by simp⟩⟩
  · show 0 ≤ v ∧ v ≤ 20; omega
  · show -1 ≤ a.1.fRound ∧ a.1.fRound ≤ a.1.fRound; omega
  · show -1 ≤ a.1.fRound ∧ a.1.fRound ≤ a.1.fRound; omega
  · show v = 0 ↔ a.1.fRound = -1; omega
theorem roundD_grow {a : Acting} (h : NOk a.1) {q : Int} (hq : a.1.fRound < q ∧ q ≤ 11) : Grow a ({ a.1 with fRound := q, fStep := 1 }, a.2) := by
  obtain ⟨h1, h2, h3, h4, h5, h6, h7, h8, h9, h10, h11, h12, h13, h14⟩ := h
  refine ⟨⟨h1, ?_, ?_, h4, h5, h6, ?_, ?_, ?_, h10, h11, h12, h13, h14⟩, rfl, ?_, Int.le_refl _, fun _ => rfl, ⟨[], by simp, by simp⟩, ⟨[], by simp, by simp⟩⟩
  · show -1 ≤ q ∧ q ≤ 11; omega
  · show (1 : Int) ≤ 1 ∧ (1 : Int) ≤ 3; omega
  · show -1 ≤ a.1.fLockRound ∧ a.1.fLockRound ≤ q; omega
  · show -1 ≤ a.1.fValidRound ∧ a.1.fValidRound ≤ q; omega
  · show -1 ≤ a.1.fPolka ∧ a.1.fPolka ≤ q; omega
  · show a.1.fRound ≤ q; omega
theorem beginR_grow {a : Acting} (h : NOk a.1) {q : Int} (hq : a.1.fRound < q ∧ q ≤ 11) : Grow a (beginR a q) := by
  have g := roundD_grow h hq
  have hme := h.me
  have hrd := h.rd
  unfold beginR
  split
  · rename_i hp
    split
    · refine g.trans (sendM_grow g.ok ⟨?_, ?_, .inl rfl, fun _ => ⟨hp.symm, ?_, ?_⟩, fun q => absurd rfl q⟩ rfl)
      · show 0 ≤ q ∧ q ≤ 11; omega
      · exact hme
      · show 1 ≤ 10 + a.1.fMe ∧ 10 + a.1.fMe ≤ 20; omega
      · show (-1 : Int) ≤ -1 ∧ -1 ≤ q - 1; omega
    · rename_i hv
      have := h.vv
      have := h.v0
      have := h.vr
      refine g.trans (sendM_grow g.ok ⟨?_, ?_, .inl rfl, fun _ => ⟨hp.symm, ?_, ?_⟩, fun q => absurd rfl q⟩ rfl)
      · show 0 ≤ q ∧ q ≤ 11; omega
      · exact hme
      · show 1 ≤ a.1.fValidVal ∧ a.1.fValidVal ≤ 20; omega
      · show -1 ≤ a.1.fValidRound ∧ a.1.fValidRound ≤ q - 1; omega
  · exact g
theorem beginR_fields {a : Acting} {q : Int} : (beginR a q).1.fRound = q ∧ (beginR a q).1.fStep = 1 ∧ (beginR a q).1.fPolka = a.1.fPolka ∧ (beginR a q).1.fDecided = a.1.fDecided := by
  unfold beginR
  split
  · split
    · have := sendM_fields (a := ({ a.1 with fRound := q, fStep := 1 }, a.2)) (m := sendMsg ({ a.1 with fRound := q, fStep := 1 }, a.2) 1 (10 + a.1.fMe) (-1))
      exact this.2
    · have := sendM_fields (a := ({ a.1 with fRound := q, fStep := 1 }, a.2)) (m := sendMsg ({ a.1 with fRound := q, fStep := 1 }, a.2) 1 a.1.fValidVal a.1.fValidRound)
      exact this.2
  · exact ⟨rfl, rfl, rfl, rfl⟩
theorem best_some {l : List GNMsg} {m : GNMsg} (h : best l = some m) : m ∈ l ∧ m.fKind = 1 ∧ 3 ≤ cntM l 3 m.fRound m.fVal := by
  have key : ∀ (u : List GNMsg) (b : Option GNMsg), (∀ x, b = some x → x ∈ l ∧ x.fKind = 1 ∧ 3 ≤ cntM l 3 x.fRound x.fVal) → (∀ x ∈ u, x ∈ l) → ∀ x, u.foldl (bestF l) b = some x → x ∈ l ∧ x.fKind = 1 ∧ 3 ≤ cntM l 3 x.fRound x.fVal := by
    intro u
    induction u with
    | nil => exact fun b hb _ x hx => hb x hx
    | cons y r ih =>
      intro b hb hu x hx
      refine ih (bestF l b y) (fun z hz => ?_) (fun z hz => hu z (by simp [hz])) x hx
      unfold bestF at hz
      split at hz
      · rename_i hy
        have hyl := hu y (by simp)
        split at hz
        · cases hz; exact ⟨hyl, hy⟩
        · split at hz
          · cases hz; exact ⟨hyl, hy⟩
          · exact hb z hz
      · exact hb z hz
  exact key l none (fun _ q => by cases q) (fun _ q => q) m h
theorem skipTo_some {l : List GNMsg} {r q : Int} : ∀ {k : Nat}, skipTo l r k = some q → (r < q ∧ q ≤ r + k) ∧ 2 ≤ (froms (isR q) l).length
  | 0, h => by cases h
  | k + 1, h => by
    unfold skipTo at h
    split at h
    · cases h; exact ⟨by omega, by assumption⟩
    · have := skipTo_some h
      exact ⟨by omega, this.2⟩
theorem propose_some {l : List GNMsg} {r : Int} {p : GNMsg → Bool} {m : GNMsg} (h : propose l r p = some m) : m ∈ l ∧ m.fKind = 1 ∧ m.fRound = r ∧ p m = true := by
  unfold propose at h
  have h1 := List.mem_of_find?_eq_some h
  have h2 := List.find?_some h
  simp only [isProp, Bool.and_eq_true, decide_eq_true_eq] at h2
  exact ⟨h1, h2.1, h2.2.1, h2.2.2⟩
theorem mu_le {a b : Acting} (ha : ¬ 0 < a.1.fDecided) (h : 0 < b.1.fDecided ∨ (11 - b.1.fRound).toNat * 8 + ((3 - b.1.fStep).toNat * 2 + if b.1.fPolka = b.1.fRound then 0 else 1) < (11 - a.1.fRound).toNat * 8 + ((3 - a.1.fStep).toNat * 2 + if a.1.fPolka = a.1.fRound then 0 else 1)) : mu b.1 < mu a.1 := by
  unfold mu
  rw [if_neg ha]
  split
  · omega
  · rcases h with h | h
    · omega
    · omega
theorem stepTo_send {a : Acting} {m : GNMsg} {s : Int} : (stepTo (sendM a m) s).1.fRound = a.1.fRound ∧ (stepTo (sendM a m) s).1.fStep = s ∧ (stepTo (sendM a m) s).1.fPolka = a.1.fPolka := ⟨sendM_fields.2.1, rfl, sendM_fields.2.2.2.1⟩
theorem rule_grow {a b : Acting} (h : NOk a.1) (e : rule a = some b) : Grow a b ∧ mu b.1 < mu a.1 := by
  have hst := h.st
  have hrd := h.rd
  unfold rule at e
  split at e
  · cases e
  rename_i hc
  have hr : a.1.fRound ≠ -1 := fun q => hc (.inr q)
  have hd : ¬ 0 < a.1.fDecided := fun q => hc (.inl q)
  split at e
  · rename_i m hb
    obtain ⟨b1, b2, b3⟩ := best_some hb
    have hv := ((h.ms m b1).p1 b2).2.1
    cases e
    refine ⟨?_, mu_le hd (.inl (by show 0 < m.fVal; omega))⟩
    obtain ⟨h1, h2, h3, h4, h5, h6, h7, h8, h9, h10, h11, h12, h13, h14⟩ := h
    refine ⟨⟨h1, h2, h3, h4, h5, ?_, h7, h8, h9, h10, h11, h12, h13, h14⟩, rfl, Int.le_refl _, Int.le_refl _, fun q => absurd q hd, ⟨[], by simp, by simp⟩, ⟨[], by simp, by simp⟩⟩
    show 0 ≤ m.fVal ∧ m.fVal ≤ 20
    omega
  split at e
  · rename_i q hq
    obtain ⟨q1, q2⟩ := skipTo_some hq
    cases e
    have hq' : a.1.fRound < q ∧ q ≤ 11 := by omega
    refine ⟨beginR_grow h hq', mu_le hd (.inr ?_)⟩
    obtain ⟨f1, f2, f3, f4⟩ := beginR_fields (a := a) (q := q)
    rw [f1, f2, f3]
    split <;> split <;> omega
  split at e
  · rename_i hs
    have hpre : ∀ (m : GNMsg) (y : Bool), m ∈ a.1.fMsgs → m.fKind = 1 → Grow a (prevote a m.fVal y) ∧ mu (prevote a m.fVal y).1 < mu a.1 := fun m y hm hk => by
      have hv := ((h.ms m hm).p1 hk).2.1
      refine ⟨prevote_grow h hr (by omega), mu_le hd (.inr ?_)⟩
      obtain ⟨f1, f2, f3⟩ := stepTo_send (a := a) (m := sendMsg a 2 (if y then m.fVal else 0) (-1)) (s := 2)
      unfold prevote send
      rw [f1, f2, f3]
      split <;> omega
    split at e
    · rename_i m hm
      obtain ⟨m1, m2, -⟩ := propose_some hm
      cases e
      exact hpre m _ m1 m2
    · split at e
      · rename_i m hm
        obtain ⟨m1, m2, -⟩ := propose_some hm
        cases e
        exact hpre m _ m1 m2
      · cases e
  · rename_i hs
    split at e
    · rename_i m hm
      have hpl : a.1.fPolka ≠ a.1.fRound := fun q => by rw [if_pos q] at hm; cases hm
      rw [if_neg hpl] at hm
      obtain ⟨m1, m2, -⟩ := propose_some hm
      have hv := ((h.ms m m1).p1 m2).2.1
      cases e
      by_cases h2 : a.1.fStep = 2
      · rw [if_pos h2]
        have g1 := lockD_grow h hr (v := m.fVal) hv
        have g2 := precommit_grow g1.ok (by exact hr) (v := m.fVal) (by omega)
        have f := stepTo_send (a := lockD a m.fVal) (m := sendMsg (lockD a m.fVal) 3 m.fVal (-1)) (s := 3)
        have fr : (precommit (lockD a m.fVal) m.fVal).1.fRound = a.1.fRound := f.1
        have fs : (precommit (lockD a m.fVal) m.fVal).1.fStep = 3 := f.2.1
        refine ⟨(g1.trans g2).trans (polkaD_grow g2.ok (by rw [fr]; exact hr) hv), mu_le hd (.inr ?_)⟩
        have e1 : (polkaD (precommit (lockD a m.fVal) m.fVal) m.fVal).1.fRound = a.1.fRound := fr
        have e2 : (polkaD (precommit (lockD a m.fVal) m.fVal) m.fVal).1.fStep = 3 := fs
        have e3 : (polkaD (precommit (lockD a m.fVal) m.fVal) m.fVal).1.fPolka = a.1.fRound := fr
        rw [e1, e2, e3, if_pos rfl]
        split <;> omega
      · rw [if_neg h2]
        refine ⟨polkaD_grow h hr hv, mu_le hd (.inr ?_)⟩
        have e1 : (polkaD a m.fVal).1.fRound = a.1.fRound := rfl
        have e2 : (polkaD a m.fVal).1.fStep = a.1.fStep := rfl
        have e3 : (polkaD a m.fVal).1.fPolka = a.1.fRound := rfl
        rw [e1, e2, e3, if_pos rfl, if_neg hpl]
        omega
    · split at e
      · rename_i h2
        cases e
        refine ⟨precommit_grow h hr (by omega), mu_le hd (.inr ?_)⟩
        obtain ⟨f1, f2, f3⟩ := stepTo_send (a := a) (m := sendMsg a 3 0 (-1)) (s := 3)
        unfold precommit send
        rw [f1, f2, f3]
        split <;> omega
      · cases e
theorem mu_lt {n : GNode} (h : NOk n) : mu n < 200 := by
  have := h.rd
  have := h.st
  unfold mu
  split
  · omega
  · split <;> omega
theorem restN_spec : ∀ (k : Nat) (a : Acting), NOk a.1 → mu a.1 < k → Grow a (restN k a) ∧ rule (restN k a) = none
  | 0, _, _, h => by omega
  | k + 1, a, h, hk => by
    unfold restN
    split
    · rename_i b e
      obtain ⟨g, m⟩ := rule_grow h e
      have := restN_spec k b g.ok (by omega)
      exact ⟨g.trans this.1, this.2⟩
    · rename_i e
      exact ⟨Grow.refl h, e⟩
theorem rest_spec {a : Acting} (h : NOk a.1) : Grow a (rest a) ∧ rule (rest a) = none := restN_spec 200 a h (mu_lt h)
theorem restN_succ {k : Nat} {a b : Acting} (e : rule a = some b) : restN (k + 1) a = restN k b := by rw [restN, e]
theorem restN_done {k : Nat} {a : Acting} (e : rule a = none) : restN k a = a := by
  cases k with
  | zero => rfl
  | succ k => rw [restN, e]
def nodeNew (me : Int) : GNode := ⟨me, -1, 1, 0, -1, 0, -1, -1, 0, []⟩
def node0 : GNode := ⟨0, 0, 0, 0, 0, 0, 0, 0, 0, []⟩
def nodeStart (n : GNode) : Acting × Bool := if nodeOk n = false then ((node0, []), false) else if n.fRound ≠ -1 then ((n, []), false) else (rest (beginR (n, []) 0), true)
def withMsg (n : GNode) (m : GNMsg) : GNode := { n with fMsgs := n.fMsgs ++ [m] }
def nodeGet (n : GNode) (m : GNMsg) : Acting × Bool := if nodeOk n = false then ((node0, []), false) else if msgOk m = false ∨ hasM n.fMsgs m = true ∨ n.fMsgs.length = 90 then ((n, []), false) else (rest (withMsg n m, []), true)
def timeD (n : GNode) (step : Int) : Acting := if step = 1 then prevote (n, []) 0 true else if step = 2 then precommit (n, []) 0 else beginR (n, []) (n.fRound + 1)
def nodeTime (n : GNode) (step : Int) : Acting × Bool := if nodeOk n = false then ((node0, []), false) else if n.fStep ≠ step ∨ n.fRound = -1 ∨ 0 < n.fDecided ∨ (step = 3 ∧ n.fRound = 11) then ((n, []), false) else (rest (timeD n step), true)
def poolF (l : List GNMsg) (m : GNMsg) : List GNMsg := if hasM l m then l else l ++ [m]
def poolTo (l more : List GNMsg) : List GNMsg := more.foldl poolF l
def actOf (x : GNet) (a : GNetAct) (n : GNode) : Acting × Bool :=
  if a.fKind = 1 then nodeStart n else if a.fKind = 2 then (match x.fPool[a.fB.toNat]? with | some m => nodeGet n m | none => ((n, []), false)) else if a.fKind = 3 then nodeTime n a.fB else ((n, []), false)
def netPut (x : GNet) (k : Nat) (r : Acting) : GNet := ⟨x.fNodes.set k r.1, poolTo x.fPool r.2⟩
def netDo (x : GNet) (a : GNetAct) : GNet × Bool :=
  if a.fKind = 4 then (if msgOk a.fMsg = false ∨ a.fMsg.fFrom ≠ 4 ∨ hasM x.fPool a.fMsg = true ∨ 150 ≤ x.fPool.length then (x, false) else (⟨x.fNodes, x.fPool ++ [a.fMsg]⟩, true))
  else if inB a.fA 1 3 = false ∨ (a.fKind = 2 ∧ inB a.fB 0 (x.fPool.length - 1) = false) then (x, false)
  else match x.fNodes[(a.fA - 1).toNat]? with
    | none => (x, false)
    | some n => if (actOf x a n).2 = false then (x, false) else if 150 < (poolTo x.fPool (actOf x a n).1.2).length then (x, false) else (netPut x (a.fA - 1).toNat (actOf x a n).1, true)
def netNew : GNet := ⟨[nodeNew 1, nodeNew 2, nodeNew 3], []⟩
def playF (s : GNet × Int) (a : GNetAct) : GNet × Int := ((netDo s.1 a).1, if (netDo s.1 a).2 then s.2 + 1 else s.2)
def netPlay (l : List GNetAct) : GNet × Int := l.foldl playF (netNew, 0)
structure NLe (n n' : GNode) : Prop where
  rd : n.fRound ≤ n'.fRound
  lr : n.fLockRound ≤ n'.fLockRound
  de : 0 < n.fDecided → n'.fDecided = n.fDecided
theorem NLe.refl (n : GNode) : NLe n n := ⟨by omega, by omega, fun _ => rfl⟩
theorem NLe.trans {a b c : GNode} (h : NLe a b) (g : NLe b c) : NLe a c := ⟨by have := h.rd; have := g.rd; omega, by have := h.lr; have := g.lr; omega, fun q => (g.de (by rw [h.de q]; exact q)).trans (h.de q)⟩
theorem Grow.nle {a b : Acting} (g : Grow a b) : NLe a.1 b.1 := ⟨g.rd, g.lr, g.de⟩
theorem withMsg_ok {n : GNode} {m : GNMsg} (h : NOk n) (hm : MOk m) (hn : m ∉ n.fMsgs) (hl : n.fMsgs.length ≠ 90) : NOk (withMsg n m) := by
  obtain ⟨h1, h2, h3, h4, h5, h6, h7, h8, h9, h10, h11, h12, h13, h14⟩ := h
  refine ⟨h1, h2, h3, h4, h5, h6, h7, h8, h9, h10, h11, fun x hx => ?_, ?_, ?_⟩
  · rcases List.mem_append.1 hx with q | q
    · exact h12 x q
    · rw [List.mem_singleton] at q; subst q; exact hm
  · show (n.fMsgs ++ [m]).Nodup
    rw [List.nodup_append]
    exact ⟨h13, by simp, fun x hx y hy => by rw [List.mem_singleton] at hy; subst hy; exact fun q => hn (q ▸ hx)⟩
  · show (n.fMsgs ++ [m]).length ≤ 90
    rw [List.length_append, List.length_singleton]
    omega
theorem beginR0_grow {n : GNode} (h : NOk n) (hr : n.fRound = -1) : Grow (n, []) (beginR (n, []) 0) := beginR_grow (a := (n, [])) h ⟨by show n.fRound < 0; omega, by omega⟩
theorem nodeStart_go {n : GNode} (h : (nodeStart n).2 = true) : NOk n ∧ n.fRound = -1 ∧ (nodeStart n).1 = rest (beginR (n, []) 0) := by
  unfold nodeStart at h ⊢
  cases ho : nodeOk n with
  | false => simp [ho] at h
  | true =>
    simp only [ho, Bool.true_eq_false, if_false] at h ⊢
    by_cases hr : n.fRound = -1
    · simp only [hr, ne_eq, not_true_eq_false, if_false]
      exact ⟨nodeOk_iff.1 ho, trivial, trivial⟩
    · simp [hr] at h
theorem nodeGet_go {n : GNode} {m : GNMsg} (h : (nodeGet n m).2 = true) : NOk (withMsg n m) ∧ (nodeGet n m).1 = rest (withMsg n m, []) := by
  unfold nodeGet at h ⊢
  cases ho : nodeOk n with
  | false => simp [ho] at h
  | true =>
    simp only [ho, Bool.true_eq_false, if_false] at h ⊢
    by_cases hc : msgOk m = false ∨ hasM n.fMsgs m = true ∨ n.fMsgs.length = 90
    · simp [if_pos hc] at h
    · simp only [if_neg hc]
      refine ⟨withMsg_ok (nodeOk_iff.1 ho) (msgOk_iff.1 ?_) (fun q => hc (.inr (.inl (hasM_iff.2 q)))) (fun q => hc (.inr (.inr q))), trivial⟩
      cases hm : msgOk m with
      | true => rfl
      | false => exact absurd (.inl hm) hc
theorem timeD_grow {n : GNode} {step : Int} (h : NOk n) (hs : n.fStep = step) (hr : n.fRound ≠ -1) (h3 : ¬ (step = 3 ∧ n.fRound = 11)) : Grow (n, []) (timeD n step) := by
  have := h.st
  have := h.rd
  unfold timeD
  split
  · exact prevote_grow (a := (n, [])) h hr (by omega)
  · split
    · exact precommit_grow (a := (n, [])) h hr (by omega)
    · exact beginR_grow (a := (n, [])) h ⟨by show n.fRound < _; omega, by omega⟩
theorem nodeTime_go {n : GNode} {step : Int} (h : (nodeTime n step).2 = true) : NOk n ∧ Grow (n, []) (timeD n step) ∧ (nodeTime n step).1 = rest (timeD n step) := by
  unfold nodeTime at h ⊢
  cases ho : nodeOk n with
  | false => simp [ho] at h
  | true =>
    simp only [ho, Bool.true_eq_false, if_false] at h ⊢
    by_cases hc : n.fStep ≠ step ∨ n.fRound = -1 ∨ 0 < n.fDecided ∨ (step = 3 ∧ n.fRound = 11)
    · simp [if_pos hc] at h
    · simp only [if_neg hc]
      have ok := nodeOk_iff.1 ho
      exact ⟨ok, timeD_grow ok (Classical.byContradiction fun q => hc (.inl q)) (fun q => hc (.inr (.inl q))) (fun q => hc (.inr (.inr (.inr q)))), trivial⟩
theorem actOf_nle {x : GNet} {a : GNetAct} {n : GNode} (h : (actOf x a n).2 = true) : NLe n (actOf x a n).1.1 := by
  unfold actOf at h ⊢
  split at h
  · rename_i e
    rw [if_pos e]
    obtain ⟨h1, h2, h3⟩ := nodeStart_go h
    rw [h3]
    have g := beginR0_grow h1 h2
    exact (g.trans (rest_spec g.ok).1).nle
  · rename_i e
    rw [if_neg e]
    split at h
    · rename_i e2
      rw [if_pos e2]
      split at h
      · rename_i m hm
        obtain ⟨h1, h2⟩ := nodeGet_go h
        rw [h2]
        have g := (rest_spec (a := (withMsg n m, [])) h1).1.nle
        exact ⟨g.rd, g.lr, g.de⟩
      · cases h
    · rename_i e2
      rw [if_neg e2]
      split at h
      · rename_i e3
        rw [if_pos e3]
        obtain ⟨h1, h2, h3⟩ := nodeTime_go h
        rw [h3]
        exact (h2.trans (rest_spec h2.ok).1).nle
      · cases h
structure NetLe (x y : GNet) : Prop where
  n : ∀ (i : Nat) u, x.fNodes[i]? = some u → ∃ v, y.fNodes[i]? = some v ∧ NLe u v
  p : ∃ l, y.fPool = x.fPool ++ l
theorem NetLe.refl (x : GNet) : NetLe x x := ⟨fun _ u h => ⟨u, h, .refl u⟩, [], by simp⟩
theorem NetLe.trans {x y z : GNet} (h : NetLe x y) (g : NetLe y z) : NetLe x z := by
  obtain ⟨l, hl⟩ := h.p
  obtain ⟨u, hu⟩ := g.p
  refine ⟨fun i a ha => ?_, l ++ u, by rw [hu, hl, List.append_assoc]⟩
  obtain ⟨b, hb, h1⟩ := h.n i a ha
  obtain ⟨c, hc, h2⟩ := g.n i b hb
  exact ⟨c, hc, h1.trans h2⟩
theorem poolTo_pre : ∀ (more l : List GNMsg), ∃ u, poolTo l more = l ++ u
  | [], l => ⟨[], by simp [poolTo]⟩
  | m :: r, l => by
    obtain ⟨u, hu⟩ := poolTo_pre r (poolF l m)
    have e : poolTo l (m :: r) = poolTo (poolF l m) r := rfl
    rw [e, hu]
    unfold poolF
    split
    · exact ⟨u, rfl⟩
    · exact ⟨m :: u, by simp⟩
theorem netDo_le (x : GNet) (a : GNetAct) : NetLe x (netDo x a).1 := by
  unfold netDo
  split
  · split
    · exact .refl x
    · exact ⟨fun _ u h => ⟨u, h, .refl u⟩, [a.fMsg], rfl⟩
  · split
    · exact .refl x
    · split
      · exact .refl x
      · rename_i n hn
        split
        · exact .refl x
        · rename_i ha
          split
          · exact .refl x
          · refine ⟨fun i u hu => ?_, poolTo_pre _ _⟩
            by_cases hi : i = (a.fA - 1).toNat
            · subst hi
              rw [hn] at hu
              cases hu
              have hlt := (List.getElem?_eq_some_iff.1 hn).1
              exact ⟨(actOf x a n).1.1, List.getElem?_set_self hlt, actOf_nle (by simpa using ha)⟩
            · refine ⟨u, ?_, .refl u⟩
              simp only [netPut]
              rw [List.getElem?_set_ne (Ne.symm hi)]
              exact hu
theorem netDo_len (x : GNet) (a : GNetAct) : (netDo x a).1.fNodes.length = x.fNodes.length := by
  unfold netDo
  split
  · split <;> rfl
  · split
    · rfl
    · split
      · rfl
      · split
        · rfl
        · split
          · rfl
          · simp [netPut]
theorem playF_le : ∀ (l : List GNetAct) (s : GNet × Int), NetLe s.1 (l.foldl playF s).1 ∧ (l.foldl playF s).1.fNodes.length = s.1.fNodes.length ∧ (l.foldl playF s).2 ≤ s.2 + l.length
  | [], s => ⟨.refl _, rfl, by simp⟩
  | a :: r, s => by
    obtain ⟨h1, h2, h3⟩ := playF_le r (playF s a)
    rw [List.foldl_cons]
    refine ⟨(netDo_le s.1 a).trans h1, h2.trans (netDo_len s.1 a), ?_⟩
    have : (playF s a).2 ≤ s.2 + 1 := by unfold playF; dsimp only; split <;> omega
    rw [List.length_cons]
    push_cast
    omega
theorem netPlay_len (l : List GNetAct) : (netPlay l).1.fNodes.length = 3 := (playF_le l (netNew, 0)).2.1
theorem netPlay_cnt (l : List GNetAct) : (netPlay l).2 ≤ l.length := by have := (playF_le l (netNew, 0)).2.2; simp only [Int.zero_add] at this; exact this
theorem netPlay_le (l : List GNetAct) (k : Nat) : NetLe (netPlay (l.take k)).1 (netPlay l).1 := by
  have e : netPlay l = (l.drop k).foldl playF (netPlay (l.take k)) := by
    unfold netPlay
    rw [← List.foldl_append, List.take_append_drop]
  rw [e]
  exact (playF_le _ _).1
theorem playF_succ {l : List GNetAct} {k : Nat} {a : GNetAct} (h : l[k]? = some a) : netPlay (l.take (k + 1)) = playF (netPlay (l.take k)) a := by
  unfold netPlay
  rw [List.take_add_one, h, Option.toList_some, List.foldl_append]
  rfl
end Go.Proofs.Ytcbknmnlgoeniaa
namespace Go.Proofs.Ytcbknmnlgoeniaa
set_option linter.unusedSimpArgs false
set_option linter.unusedVariables false
open Go.RowKit
set_option maxRecDepth 100000
theorem any_idx {α : Type} {p : α → Bool} : ∀ (l : List α), l.any p = decide (0 ≤ idx p l)
  | [] => by simp [idx]
  | y :: r => by
    rw [List.any_cons, any_idx r, idx]
    cases h : p y
    · simp only [Bool.false_or, Bool.false_eq_true, if_false]
      split
      · rename_i h0; simp; omega
      · rename_i h0; simp; omega
    · simp
theorem vb_eq0 {P : Program} {t : TypeId} (h : P.underlying t = some .bool) {x y : Operand} {a b : Bool} : sflat P (do eqGuard .eql t x y (.bool a) (.bool b); binOp .eql t (.bool a) (.bool b)) = some (.bool (a == b)) := by
  have e := eqIn_bool (P := P) (t := t) (d := 9999) (a := a) (b := b) h
  simp only [eqGuard, sflat_bind, binOp, Op.equal, Op.maxDepth]
  simp [sflat_pure, e, sflat_bind, sflat, pure]
theorem vb_eq {x y : Operand} {a b : Bool} : sflat Try.prog (do eqGuard .eql 4 x y (.bool a) (.bool b); binOp .eql 4 (.bool a) (.bool b)) = some (.bool (a == b)) := vb_eq0 (by kernel_rfl)
theorem eqM_comm (a b : GNMsg) : eqM a b = eqM b a := by
  rw [Bool.eq_iff_iff, eqM_iff, eqM_iff]; exact eq_comm
theorem iPropOf_p (r : Int) (h : 0 ≤ r ∧ r ≤ 11) : PCalls Try.prog 40 [.val (.int .i64 r)] [] (RV (.val (.int .i64 (propOf r)))) := by
  refine pcalls_ofR okP Try.func40 rfl ?_
  simp only [Try.f40, List.length_cons, List.length_nil, Nat.reduceAdd, Nat.reduceSub, List.replicate_succ, List.replicate_zero, List.cons_append, List.nil_append, List.length_map]
  repeat' (first | with_reducible (first | refine wA ?_ | refine wC ?_) | with_reducible (first | refine wq1 ?_ | refine wq3 ?_ | refine wq9 ?_) | ((with_reducible refine hK _ ?_); clear hK K) | ((with_reducible refine pops_plain fun K hK => ?_); simp (disch := omega) only [push_cast, seval]))
  ((with_reducible show PPostR _ _ _ _ _ _); refine finV ?_; (try simp only [push_cast, seval]))
  rfl
theorem sPropOf_p (r : Int) (h : 0 ≤ r ∧ r ≤ 11) : PCalls Try.prog 72 [.val (.int .i64 r)] [] (RV (.val (.int .i64 (propOf r)))) := by
  refine pcalls_ofR okP Try.func72 rfl ?_
  simp only [Try.f72, List.length_cons, List.length_nil, Nat.reduceAdd, Nat.reduceSub, List.replicate_succ, List.replicate_zero, List.cons_append, List.nil_append, List.length_map]
  repeat' (first | with_reducible (first | refine wA ?_ | refine wC ?_) | with_reducible (first | refine wq1 ?_ | refine wq3 ?_ | refine wq9 ?_) | ((with_reducible refine hK _ ?_); clear hK K) | ((with_reducible refine pops_plain fun K hK => ?_); simp (disch := omega) only [push_cast, seval]))
  ((with_reducible show PPostR _ _ _ _ _ _); refine finV ?_; (try simp only [push_cast, seval]))
  rfl
set_option maxHeartbeats 2000000 in
theorem iMsgOk_p (m : GNMsg) : PCalls Try.prog 28 [.agg (pNMsg m)] [] (RV (.val (.bool (msgOk m)))) := by
  obtain ⟨k, r, v, p, f⟩ := m
  cases h1 : inB r 0 11 with
  | false =>
    have e : msgOk ⟨k, r, v, p, f⟩ = false := by simp [msgOk, h1]
    rw [e]
    refine pcalls_ofR okP Try.func28 rfl ?_
    simp only [Try.f28, List.length_cons, List.length_nil, Nat.reduceAdd, Nat.reduceSub, List.replicate_succ, List.replicate_zero, List.cons_append, List.nil_append, List.length_map]
    repeat' (first | with_reducible (first | refine wA ?_ | refine wC ?_) | with_reducible (first | refine wq1 ?_ | refine wq3 ?_ | refine wq5 ?_ | refine wq9 ?_) | ((with_reducible refine hK _ ?_); clear hK K) | ((with_reducible refine PWp.condI ?_); refine ⟨_, rfl, fun hg => ?_, fun hg => ?_⟩ <;> first | (exact absurd hg (by decide)) | ((try simp only [Bool.not_true, Bool.not_false] at hg); (try simp only [hg]); (try simp only [push_cast] at hg); (try exact absurd trivial hg); (try (exfalso; omega)))) | ((with_reducible refine pops_plain fun K hK => ?_); simp (disch := omega) only [push_cast, seval, h1]) | ((((with_reducible refine pops_guard ?_); refine ⟨_, rfl, fun K hK => ⟨_, rfl, fun hg => ?_, fun hg => ?_⟩⟩)) <;> first | (exact absurd hg (by decide)) | ((try simp only [Bool.not_true, Bool.not_false] at hg); (try simp only [hg]); (try simp only [push_cast] at hg); (try exact absurd trivial hg); (try (exfalso; omega)); (try simp (disch := omega) only [push_cast, seval, h1]))) | ((with_reducible show pcall _ _ _ _ _ _); ((refine pcV (cf Try.func23) (within_p _ _ _) ?_)); (try simp (disch := omega) only [push_cast, seval, h1])))
    all_goals ((with_reducible show PPostR _ _ _ _ _ _); refine finV ?_; (try simp only [push_cast, seval]))
  | true =>
    have hr := inB_iff.1 h1
    refine pcalls_ofR okP Try.func28 rfl ?_
    simp only [Try.f28, List.length_cons, List.length_nil, Nat.reduceAdd, Nat.reduceSub, List.replicate_succ, List.replicate_zero, List.cons_append, List.nil_append, List.length_map]
    repeat' (first | with_reducible (first | refine wA ?_ | refine wB ?_ | refine wC ?_) | with_reducible refine PWp.draw (id := 5) okP true [0, 1, 2, 3, 4, 5, 6, 7, 8, 9, 10, 11, 12, 13, 14, 15, 16, 17, 18, 19] (by kernel_rfl) ?_ | with_reducible (first | refine wq1 ?_ | refine wq2 ?_ | refine wq3 ?_ | refine wq4 ?_ | refine wq5 ?_ | refine wq6 ?_ | refine wq9 ?_ | refine wS ?_) | ((with_reducible refine hK _ ?_); clear hK K) | ((with_reducible refine PWp.condI ?_); refine ⟨_, rfl, fun hg => ?_, fun hg => ?_⟩ <;> first | (exact absurd hg (by decide)) | ((try simp only [Bool.not_true, Bool.not_false] at hg); (try simp only [hg]); (try simp only [push_cast] at hg); (try exact absurd trivial hg); (try (exfalso; omega)))) | ((with_reducible refine pany_I ?_); refine ⟨_, rfl, fun K hK => ?_⟩) | ((with_reducible refine pops_plain fun K hK => ?_); simp (disch := omega) only [push_cast, seval, h1]) | ((first | ((with_reducible refine pD_y ?_ ?_); exact rfl) | ((with_reducible refine pD_x ?_ ?_); exact rfl)); simp (disch := omega) only [push_cast, seval, h1]) | ((first | ((with_reducible refine pops_guard ?_); refine ⟨_, rfl, fun K hK => ⟨_, rfl, fun hg => ?_, fun hg => ?_⟩⟩) | ((first | ((with_reducible refine pD_gy ?_ ?_); exact rfl) | ((with_reducible refine pD_gx ?_ ?_); exact rfl)); refine ⟨_, rfl, _, rfl, fun hg => ?_, fun hg => ?_⟩)) <;> first | (exact absurd hg (by decide)) | ((try simp only [Bool.not_true, Bool.not_false] at hg); (try simp only [hg]); (try simp only [push_cast] at hg); (try exact absurd trivial hg); (try (exfalso; omega)); (try simp (disch := omega) only [push_cast, seval, h1]))) | ((with_reducible show pcall _ _ _ _ _ _); (first | (refine pcV (cf Try.func23) (within_p _ _ _) ?_) | (refine pcV (cf Try.func40) (iPropOf_p _ sd) ?_)); (try simp (disch := omega) only [push_cast, seval, h1])))
    all_goals
      ((with_reducible show PPostR _ _ _ _ _ _); refine finV ?_; (try simp only [push_cast, seval]))
      simp_all [msgOk, inB, eqI_B]
      try (intros; first | omega | (split <;> (try intros) <;> omega))
set_option maxHeartbeats 2000000 in
theorem sMsgOk_p (m : GNMsg) : PCalls Try.prog 57 [.agg (pNMsg m)] [] (RV (.val (.bool (msgOk m)))) := by
  obtain ⟨k, r, v, p, f⟩ := m
  cases h1 : inB r 0 11 with
  | false =>
    have e : msgOk ⟨k, r, v, p, f⟩ = false := by simp [msgOk, h1]
    rw [e]
    refine pcalls_ofR okP Try.func57 rfl ?_
    simp only [Try.f57, List.length_cons, List.length_nil, Nat.reduceAdd, Nat.reduceSub, List.replicate_succ, List.replicate_zero, List.cons_append, List.nil_append, List.length_map]
    repeat' (first | with_reducible (first | refine wA ?_ | refine wC ?_) | with_reducible (first | refine wq1 ?_ | refine wq3 ?_ | refine wq5 ?_ | refine wq9 ?_) | ((with_reducible refine hK _ ?_); clear hK K) | ((with_reducible refine PWp.condI ?_); refine ⟨_, rfl, fun hg => ?_, fun hg => ?_⟩ <;> first | (exact absurd hg (by decide)) | ((try simp only [Bool.not_true, Bool.not_false] at hg); (try simp only [hg]); (try simp only [push_cast] at hg); (try exact absurd trivial hg); (try (exfalso; omega)))) | ((with_reducible refine pops_plain fun K hK => ?_); simp (disch := omega) only [push_cast, seval, h1]) | ((((with_reducible refine pops_guard ?_); refine ⟨_, rfl, fun K hK => ⟨_, rfl, fun hg => ?_, fun hg => ?_⟩⟩)) <;> first | (exact absurd hg (by decide)) | ((try simp only [Bool.not_true, Bool.not_false] at hg); (try simp only [hg]); (try simp only [push_cast] at hg); (try exact absurd trivial hg); (try (exfalso; omega)); (try simp (disch := omega) only [push_cast, seval, h1]))) | ((with_reducible show pcall _ _ _ _ _ _); ((refine pcV (cf Try.func59) (l1In_p _ _ _) ?_)); (try simp (disch := omega) only [push_cast, seval, h1])))
    all_goals ((with_reducible show PPostR _ _ _ _ _ _); refine finV ?_; (try simp only [push_cast, seval]))
  | true =>
    have hr := inB_iff.1 h1
    refine pcalls_ofR okP Try.func57 rfl ?_
    simp only [Try.f57, List.length_cons, List.length_nil, Nat.reduceAdd, Nat.reduceSub, List.replicate_succ, List.replicate_zero, List.cons_append, List.nil_append, List.length_map]
    repeat' (first | with_reducible (first | refine wA ?_ | refine wC ?_) | with_reducible refine PWp.draw (id := 4) okP true [0, 1, 2, 3, 4, 5, 6, 7, 8, 9, 10, 11, 12, 13, 14, 15, 16, 17, 18, 19] (by kernel_rfl) ?_ | with_reducible (first | refine wq1 ?_ | refine wq2 ?_ | refine wq3 ?_ | refine wq5 ?_ | refine wq9 ?_ | refine wS ?_) | ((with_reducible refine hK _ ?_); clear hK K) | ((with_reducible refine PWp.condI ?_); refine ⟨_, rfl, fun hg => ?_, fun hg => ?_⟩ <;> first | (exact absurd hg (by decide)) | ((try simp only [Bool.not_true, Bool.not_false] at hg); (try simp only [hg]); (try simp only [push_cast] at hg); (try exact absurd trivial hg); (try (exfalso; omega)))) | ((with_reducible refine pany_I ?_); refine ⟨_, rfl, fun K hK => ?_⟩) | ((with_reducible refine pops_plain fun K hK => ?_); simp (disch := omega) only [push_cast, seval, h1]) | ((first | ((with_reducible refine pD_y ?_ ?_); exact rfl) | ((with_reducible refine pD_x ?_ ?_); exact rfl)); simp (disch := omega) only [push_cast, seval, h1]) | ((first | ((with_reducible refine pops_guard ?_); refine ⟨_, rfl, fun K hK => ⟨_, rfl, fun hg => ?_, fun hg => ?_⟩⟩) | ((first | ((with_reducible refine pD_gy ?_ ?_); exact rfl) | ((with_reducible refine pD_gx ?_ ?_); exact rfl)); refine ⟨_, rfl, _, rfl, fun hg => ?_, fun hg => ?_⟩)) <;> first | (exact absurd hg (by decide)) | ((try simp only [Bool.not_true, Bool.not_false] at hg); (try simp only [hg]); (try simp only [push_cast] at hg); (try exact absurd trivial hg); (try (exfalso; omega)); (try simp (disch := omega) only [push_cast, seval, h1]))) | ((with_reducible show pcall _ _ _ _ _ _); (first | (refine pcV (cf Try.func59) (l1In_p _ _ _) ?_) | (refine pcV (cf Try.func72) (sPropOf_p _ sd) ?_)); (try simp (disch := omega) only [push_cast, seval, h1])))
    all_goals
      ((with_reducible show PPostR _ _ _ _ _ _); refine finV ?_; (try simp only [push_cast, seval]))
      simp_all [msgOk, inB, eqI_B]
      try (intros; first | omega | (split <;> (try intros) <;> omega))
theorem indexM_p (l : List GNMsg) (x : GNMsg) (hl : l.length ≤ 1099511627776) : PCalls Try.prog 38 [.sl 5 (l.map pNMsg), .agg (pNMsg x)] [] (RV (.val (.int .i64 (idx (eqM x) l)))) := by
  refine pcalls_ofR okP Try.func38 rfl ?_
  simp only [Try.f38, List.length_cons, List.length_nil, Nat.reduceAdd, Nat.reduceSub, List.replicate_succ, List.replicate_zero, List.cons_append, List.nil_append, List.length_map]
  repeat' (first | with_reducible (first | refine wA ?_ | refine wB ?_ | refine wC ?_) | with_reducible (first | refine wq1 ?_ | refine wq3 ?_) | ((with_reducible refine hK _ ?_); clear hK K) | ((with_reducible refine pops_plain fun K hK => ?_); simp (disch := omega) only [push_cast, seval]))
  refine PWp.loopK (α := Nat) (fun k => [(3, .ptr 0 0), (8, .val (.int .i64 (k : Int)))]) [1, 2, 4, 5, 6, 9, 10, 11, 12, 13, 14, 15, 16, 17, 18] (fun k => [some (.box (pNMsg x))]) (fun k => k ≤ l.length ∧ noneTo (eqM x) l k) (fun k => l.length - k) (0) (⟨Nat.zero_le _, noneTo_zero⟩) (by exact fitA [_]) ?_
  intro k ρ hI
  (try dsimp only at hI)
  refine PWp.at (tm' := ?_) (H' := ?_) ?_ ?_ ?_; rotate_left 2; (· ((try simp only [push_cast, seval]); exact rfl)); (· ((try dsimp only); exact rfl))
  obtain ⟨hk, hA⟩ := hI
  by_cases hlt : k < l.length
  · obtain ⟨y, hy⟩ : ∃ y, l[k]? = some y := ⟨_, List.getElem?_eq_getElem hlt⟩
    cases he : eqM x y with
    | true =>
      have hx : idx (eqM x) l = k := idx_some hy he hA
      simp only [eqM] at he
      repeat' (first | with_reducible (first | refine wA ?_ | refine wB ?_ | refine wC ?_) | with_reducible refine PWp.draw (id := 4) okP true [0, 1, 2, 3, 4, 5] (by kernel_rfl) ?_ | with_reducible (first | refine wq1 ?_ | refine wq2 ?_ | refine wq3 ?_ | refine wq5 ?_ | refine wq6 ?_ | refine wq9 ?_ | refine wS ?_) | ((with_reducible refine hK _ ?_); clear hK K) | ((with_reducible refine PWp.condI ?_); refine ⟨_, rfl, fun hg => ?_, fun hg => ?_⟩ <;> first | (exact absurd hg (by decide)) | ((try simp only [Bool.not_true, Bool.not_false] at hg); (try simp only [hg]); (try simp only [push_cast] at hg); (try exact absurd trivial hg); (try (exfalso; omega)))) | ((with_reducible refine pany_I ?_); refine ⟨_, rfl, fun K hK => ?_⟩) | ((with_reducible refine pops_plain fun K hK => ?_); simp (disch := omega) only [push_cast, seval, hy, he]) | ((((with_reducible refine pD_y ?_ ?_); exact rfl)); simp (disch := omega) only [push_cast, seval, hy, he]) | ((with_reducible refine And.intro ?_ ?_); omega))
      ((with_reducible show PPostR _ _ _ _ _ _); refine finV ?_; (try simp only [push_cast, seval]))
      rw [hx]
    | false =>
      have hn := noneTo_succ hA hy he
      simp only [eqM] at he
      repeat' (first | with_reducible (first | refine wA ?_ | refine wB ?_ | refine wC ?_) | with_reducible refine PWp.draw (id := 4) okP true [0, 1, 2, 3, 4, 5] (by kernel_rfl) ?_ | with_reducible (first | refine wq1 ?_ | refine wq2 ?_ | refine wq3 ?_ | refine wq4 ?_ | refine wS ?_) | ((with_reducible refine hK _ ?_); clear hK K) | ((with_reducible refine PWp.condI ?_); refine ⟨_, rfl, fun hg => ?_, fun hg => ?_⟩ <;> first | (exact absurd hg (by decide)) | ((try simp only [Bool.not_true, Bool.not_false] at hg); (try simp only [hg]); (try simp only [push_cast] at hg); (try exact absurd trivial hg); (try (exfalso; omega)))) | ((with_reducible refine pany_I ?_); refine ⟨_, rfl, fun K hK => ?_⟩) | ((with_reducible refine pops_plain fun K hK => ?_); simp (disch := omega) only [push_cast, seval, hy, he]) | ((((with_reducible refine pD_y ?_ ?_); exact rfl)); simp (disch := omega) only [push_cast, seval, hy, he]) | ((with_reducible refine And.intro ?_ ?_); omega))
      (refine ⟨k + 1, by ((try dsimp only); omega), ?_, by exact fitA [_]⟩)
      exact ⟨hlt, hn⟩
  obtain rfl : k = l.length := by omega
  repeat' (first | with_reducible (first | refine wA ?_ | refine wC ?_) | with_reducible (first | refine wq1 ?_ | refine wq3 ?_ | refine wq7 ?_ | refine wq8 ?_ | refine wq9 ?_ | refine wE ?_) | ((with_reducible refine hK _ ?_); clear hK K) | ((with_reducible refine PWp.condI ?_); refine ⟨_, rfl, fun hg => ?_, fun hg => ?_⟩ <;> first | (exact absurd hg (by decide)) | ((try simp only [Bool.not_true, Bool.not_false] at hg); (try simp only [hg]); (try simp only [push_cast] at hg); (try exact absurd trivial hg); (try (exfalso; omega)))) | ((with_reducible refine pops_plain fun K hK => ?_); simp (disch := omega) only [push_cast, seval]))
  ((with_reducible show PPostR _ _ _ _ _ _); refine finV ?_; (try simp only [push_cast, seval]))
  rw [noneTo_end hA]
theorem containsM_p (l : List GNMsg) (x : GNMsg) (hl : l.length ≤ 1099511627776) : PCalls Try.prog 26 [.sl 5 (l.map pNMsg), .agg (pNMsg x)] [] (RV (.val (.bool (hasM l x)))) := by
  rw [show hasM l x = decide (0 ≤ idx (eqM x) l) from any_idx l]
  refine pcalls_ofR okP Try.func26 rfl ?_
  simp only [Try.f26, List.length_cons, List.length_nil, Nat.reduceAdd, Nat.reduceSub, List.replicate_succ, List.replicate_zero, List.cons_append, List.nil_append, List.length_map]
  repeat' (first | with_reducible (first | refine wA ?_ | refine wC ?_) | with_reducible (first | refine wq1 ?_ | refine wq3 ?_ | refine wq9 ?_) | ((with_reducible refine hK _ ?_); clear hK K) | ((with_reducible refine pops_plain fun K hK => ?_); simp (disch := omega) only [push_cast, seval]) | ((with_reducible show pcall _ _ _ _ _ _); ((refine pcV (cf Try.func38) (indexM_p _ ⟨_, _, _, _, _⟩ sd) ?_)); (try simp (disch := omega) only [push_cast, seval])))
  ((with_reducible show PPostR _ _ _ _ _ _); refine finV ?_; (try simp only [push_cast, seval]))
theorem index_p (l : List Int) (x : Int) (hl : l.length ≤ 1099511627776) : PCalls Try.prog 93 [.sl 1 (l.map pInt), .val (.int .i64 x)] [] (RV (.val (.int .i64 (idx (fun y => decide (y = x)) l)))) := by
  refine pcalls_ofR okP Try.func93 rfl ?_
  simp only [Try.f93, List.length_cons, List.length_nil, Nat.reduceAdd, Nat.reduceSub, List.replicate_succ, List.replicate_zero, List.cons_append, List.nil_append, List.length_map]
  repeat' (first | with_reducible (first | refine wA ?_ | refine wB ?_ | refine wC ?_) | with_reducible (first | refine wq1 ?_ | refine wq3 ?_) | ((with_reducible refine hK _ ?_); clear hK K) | ((with_reducible refine pops_plain fun K hK => ?_); simp (disch := omega) only [push_cast, seval]))
  refine PWp.loopK (α := Nat) (fun k => [(8, .val (.int .i64 (k : Int)))]) [2, 3, 4, 5, 6, 9, 10, 11, 12, 13, 14, 15, 16, 17, 18] (fun k => []) (fun k => k ≤ l.length ∧ noneTo (fun y => decide (y = x)) l k) (fun k => l.length - k) (0) (⟨Nat.zero_le _, noneTo_zero⟩) (by exact fitA []) ?_
  intro k ρ hI
  (try dsimp only at hI)
  refine PWp.at (tm' := ?_) (H' := ?_) ?_ ?_ ?_; rotate_left 2; (· ((try simp only [push_cast, seval]); exact rfl)); (· ((try dsimp only); exact rfl))
  obtain ⟨hk, hA⟩ := hI
  by_cases hlt : k < l.length
  · obtain ⟨y, hy⟩ : ∃ y, l[k]? = some y := ⟨_, List.getElem?_eq_getElem hlt⟩
    by_cases he : x = y
    · have hx : idx (fun y => decide (y = x)) l = k := idx_some hy (by simpa using he.symm) hA
      repeat' (first | with_reducible (first | refine wA ?_ | refine wB ?_ | refine wC ?_) | with_reducible (first | refine wq1 ?_ | refine wq3 ?_ | refine wq5 ?_ | refine wq6 ?_ | refine wq9 ?_ | refine wS ?_) | ((with_reducible refine hK _ ?_); clear hK K) | ((with_reducible refine PWp.condI ?_); refine ⟨_, rfl, fun hg => ?_, fun hg => ?_⟩ <;> first | (exact absurd hg (by decide)) | ((try simp only [Bool.not_true, Bool.not_false] at hg); (try simp only [hg]); (try simp only [push_cast] at hg); (try exact absurd trivial hg); (try (exfalso; omega)))) | ((with_reducible refine pops_plain fun K hK => ?_); simp (disch := omega) only [push_cast, seval, hy, pInt]) | ((with_reducible refine And.intro ?_ ?_); omega))
      ((with_reducible show PPostR _ _ _ _ _ _); refine finV ?_; (try simp only [push_cast, seval]))
      rw [hx]
    ·
      repeat' (first | with_reducible (first | refine wA ?_ | refine wB ?_ | refine wC ?_) | with_reducible (first | refine wq1 ?_ | refine wq3 ?_ | refine wq4 ?_ | refine wS ?_) | ((with_reducible refine hK _ ?_); clear hK K) | ((with_reducible refine PWp.condI ?_); refine ⟨_, rfl, fun hg => ?_, fun hg => ?_⟩ <;> first | (exact absurd hg (by decide)) | ((try simp only [Bool.not_true, Bool.not_false] at hg); (try simp only [hg]); (try simp only [push_cast] at hg); (try exact absurd trivial hg); (try (exfalso; omega)))) | ((with_reducible refine pops_plain fun K hK => ?_); simp (disch := omega) only [push_cast, seval, hy, pInt]) | ((with_reducible refine And.intro ?_ ?_); omega))
      (refine ⟨k + 1, by ((try dsimp only); omega), ?_, by exact fitA []⟩)
      exact ⟨hlt, noneTo_succ hA hy (by simpa using fun e => he e.symm)⟩
  obtain rfl : k = l.length := by omega
  repeat' (first | with_reducible (first | refine wA ?_ | refine wC ?_) | with_reducible (first | refine wq1 ?_ | refine wq3 ?_ | refine wq7 ?_ | refine wq8 ?_ | refine wq9 ?_ | refine wE ?_) | ((with_reducible refine hK _ ?_); clear hK K) | ((with_reducible refine PWp.condI ?_); refine ⟨_, rfl, fun hg => ?_, fun hg => ?_⟩ <;> first | (exact absurd hg (by decide)) | ((try simp only [Bool.not_true, Bool.not_false] at hg); (try simp only [hg]); (try simp only [push_cast] at hg); (try exact absurd trivial hg); (try (exfalso; omega)))) | ((with_reducible refine pops_plain fun K hK => ?_); simp (disch := omega) only [push_cast, seval]))
  ((with_reducible show PPostR _ _ _ _ _ _); refine finV ?_; (try simp only [push_cast, seval]))
  rw [noneTo_end hA]
theorem contains_p (l : List Int) (x : Int) (hl : l.length ≤ 1099511627776) : PCalls Try.prog 91 [.sl 1 (l.map pInt), .val (.int .i64 x)] [] (RV (.val (.bool (hasI l x)))) := by
  rw [show hasI l x = decide (0 ≤ idx (fun y => decide (y = x)) l) from any_idx l]
  refine pcalls_ofR okP Try.func91 rfl ?_
  simp only [Try.f91, List.length_cons, List.length_nil, Nat.reduceAdd, Nat.reduceSub, List.replicate_succ, List.replicate_zero, List.cons_append, List.nil_append, List.length_map]
  repeat' (first | with_reducible (first | refine wA ?_ | refine wC ?_) | with_reducible (first | refine wq1 ?_ | refine wq3 ?_ | refine wq9 ?_) | ((with_reducible refine hK _ ?_); clear hK K) | ((with_reducible refine pops_plain fun K hK => ?_); simp (disch := omega) only [push_cast, seval]) | ((with_reducible show pcall _ _ _ _ _ _); ((refine pcV (cf Try.func93) (index_p _ _ sd) ?_)); (try simp (disch := omega) only [push_cast, seval])))
  ((with_reducible show PPostR _ _ _ _ _ _); refine finV ?_; (try simp only [push_cast, seval]))
set_option maxHeartbeats 2000000 in
theorem iAreMsgs_p (l : List GNMsg) (most : Int) (hl : l.length ≤ 1099511627776) : PCalls Try.prog 24 [.sl 5 (l.map pNMsg), .val (.int .i64 most)] [] (RV (.val (.bool (msgsOk l && decide ((l.length : Int) ≤ most))))) := by
  refine pcalls_ofR okP Try.func24 rfl ?_
  simp only [Try.f24, List.length_cons, List.length_nil, Nat.reduceAdd, Nat.reduceSub, List.replicate_succ, List.replicate_zero, List.cons_append, List.nil_append, List.length_map]
  repeat' (first | with_reducible (first | refine wA ?_ | refine wB ?_ | refine wC ?_) | with_reducible (first | refine wq1 ?_ | refine wq3 ?_) | ((with_reducible refine hK _ ?_); clear hK K) | ((with_reducible refine pops_plain fun K hK => ?_); simp (disch := omega) only [push_cast, seval]))
  refine PWp.loopK (α := Nat) (fun k => [(9, .val (.int .i64 (k : Int)))]) [2, 3, 4, 5, 6, 10, 11, 12, 13, 14, 15, 16, 17, 18, 19, 20, 21, 22, 23, 24] (fun k => []) (fun k => k ≤ l.length ∧ allTo (msgAt l) k) (fun k => l.length - k) (0) (⟨Nat.zero_le _, allTo_zero⟩) (by exact fitA []) ?_
  intro k ρ hI
  (try dsimp only at hI)
  refine PWp.at (tm' := ?_) (H' := ?_) ?_ ?_ ?_; rotate_left 2; (· ((try simp only [push_cast, seval]); exact rfl)); (· ((try dsimp only); exact rfl))
  obtain ⟨hk, hA⟩ := hI
  by_cases hlt : k < l.length
  · obtain ⟨x, hx⟩ : ∃ x, l[k]? = some x := ⟨_, List.getElem?_eq_getElem hlt⟩
    have e : msgAt l k = (msgOk x && !hasM (l.take k) x) := by unfold msgAt; rw [hx]
    obtain ⟨x1, x2, x3, x4, x5⟩ := x
    cases h1 : msgOk ⟨x1, x2, x3, x4, x5⟩ with
    | false =>
      rw [show msgsOk l = false from allN_no hlt (by rw [e, h1]; rfl)]
      repeat' (first | with_reducible (first | refine wA ?_ | refine wB ?_ | refine wC ?_) | with_reducible refine PWp.draw (id := 4) okP true [0, 1, 2, 3, 4, 5, 6, 7, 8, 9] (by kernel_rfl) ?_ | with_reducible (first | refine wq1 ?_ | refine wq2 ?_ | refine wq3 ?_ | refine wq5 ?_ | refine wq6 ?_ | refine wq9 ?_ | refine wS ?_) | ((with_reducible refine hK _ ?_); clear hK K) | ((with_reducible refine PWp.condI ?_); refine ⟨_, rfl, fun hg => ?_, fun hg => ?_⟩ <;> first | (exact absurd hg (by decide)) | ((try simp only [Bool.not_true, Bool.not_false] at hg); (try simp only [hg]); (try simp only [push_cast] at hg); (try exact absurd trivial hg); (try (exfalso; omega)))) | ((with_reducible refine pany_I ?_); refine ⟨_, rfl, fun K hK => ?_⟩) | ((with_reducible refine pops_plain fun K hK => ?_); simp (disch := omega) only [push_cast, seval, hx, h1]) | ((first | ((with_reducible refine pD_y ?_ ?_); exact rfl) | ((with_reducible refine pD_x ?_ ?_); exact rfl)); simp (disch := omega) only [push_cast, seval, hx, h1]) | ((((first | ((with_reducible refine pD_gy ?_ ?_); exact rfl) | ((with_reducible refine pD_gx ?_ ?_); exact rfl)); refine ⟨_, rfl, _, rfl, fun hg => ?_, fun hg => ?_⟩)) <;> first | (exact absurd hg (by decide)) | ((try simp only [Bool.not_true, Bool.not_false] at hg); (try simp only [hg]); (try simp only [push_cast] at hg); (try exact absurd trivial hg); (try (exfalso; omega)); (try simp (disch := omega) only [push_cast, seval, hx, h1]))) | ((with_reducible show pcall _ _ _ _ _ _); ((refine pcV (cf Try.func28) (iMsgOk_p ⟨_, _, _, _, _⟩) ?_)); (try simp (disch := omega) only [push_cast, seval, hx, h1])) | ((with_reducible refine And.intro ?_ ?_); omega))
      ((with_reducible show PPostR _ _ _ _ _ _); refine finV ?_; (try simp only [push_cast, seval]))
    | true =>
      have c := containsM_p (l.take (k - 0)) ⟨x1, x2, x3, x4, x5⟩ (by rw [List.length_take]; omega)
      rw [List.map_take] at c
      have e : msgAt l k = (msgOk ⟨x1, x2, x3, x4, x5⟩ && !hasM (l.take (k - 0)) ⟨x1, x2, x3, x4, x5⟩) := e
      cases h2 : hasM (l.take (k - 0)) ⟨x1, x2, x3, x4, x5⟩ with
      | true =>
        rw [show msgsOk l = false from allN_no hlt (by rw [e, h1, h2]; rfl)]
        repeat' (first | with_reducible (first | refine wA ?_ | refine wB ?_ | refine wC ?_) | with_reducible refine PWp.draw (id := 4) okP true [0, 1, 2, 3, 4, 5, 6, 7, 8, 9] (by kernel_rfl) ?_ | with_reducible (first | refine wq1 ?_ | refine wq2 ?_ | refine wq3 ?_ | refine wq5 ?_ | refine wq6 ?_ | refine wq9 ?_ | refine wS ?_) | ((with_reducible refine hK _ ?_); clear hK K) | ((with_reducible refine PWp.condI ?_); refine ⟨_, rfl, fun hg => ?_, fun hg => ?_⟩ <;> first | (exact absurd hg (by decide)) | ((try simp only [Bool.not_true, Bool.not_false] at hg); (try simp only [hg]); (try simp only [push_cast] at hg); (try exact absurd trivial hg); (try (exfalso; omega)))) | ((with_reducible refine pany_I ?_); refine ⟨_, rfl, fun K hK => ?_⟩) | ((with_reducible refine pops_plain fun K hK => ?_); simp (disch := omega) only [push_cast, seval, hx, h1, h2]) | ((first | ((with_reducible refine pD_y ?_ ?_); exact rfl) | ((with_reducible refine pD_x ?_ ?_); exact rfl)); simp (disch := omega) only [push_cast, seval, hx, h1, h2]) | ((((first | ((with_reducible refine pD_gy ?_ ?_); exact rfl) | ((with_reducible refine pD_gx ?_ ?_); exact rfl)); refine ⟨_, rfl, _, rfl, fun hg => ?_, fun hg => ?_⟩)) <;> first | (exact absurd hg (by decide)) | ((try simp only [Bool.not_true, Bool.not_false] at hg); (try simp only [hg]); (try simp only [push_cast] at hg); (try exact absurd trivial hg); (try (exfalso; omega)); (try simp (disch := omega) only [push_cast, seval, hx, h1, h2]))) | ((with_reducible show pcall _ _ _ _ _ _); (first | (refine pcV (cf Try.func26) (c) ?_) | (refine pcV (cf Try.func28) (iMsgOk_p ⟨_, _, _, _, _⟩) ?_)); (try simp (disch := omega) only [push_cast, seval, hx, h1, h2])) | ((with_reducible refine And.intro ?_ ?_); omega))
        ((with_reducible show PPostR _ _ _ _ _ _); refine finV ?_; (try simp only [push_cast, seval]))
      | false =>
        repeat' (first | with_reducible (first | refine wA ?_ | refine wB ?_ | refine wC ?_) | with_reducible refine PWp.draw (id := 4) okP true [0, 1, 2, 3, 4, 5, 6, 7, 8, 9] (by kernel_rfl) ?_ | with_reducible (first | refine wq1 ?_ | refine wq2 ?_ | refine wq3 ?_ | refine wq4 ?_ | refine wS ?_) | ((with_reducible refine hK _ ?_); clear hK K) | ((with_reducible refine PWp.condI ?_); refine ⟨_, rfl, fun hg => ?_, fun hg => ?_⟩ <;> first | (exact absurd hg (by decide)) | ((try simp only [Bool.not_true, Bool.not_false] at hg); (try simp only [hg]); (try simp only [push_cast] at hg); (try exact absurd trivial hg); (try (exfalso; omega)))) | ((with_reducible refine pany_I ?_); refine ⟨_, rfl, fun K hK => ?_⟩) | ((with_reducible refine pops_plain fun K hK => ?_); simp (disch := omega) only [push_cast, seval, hx, h1, h2]) | ((first | ((with_reducible refine pD_y ?_ ?_); exact rfl) | ((with_reducible refine pD_x ?_ ?_); exact rfl)); simp (disch := omega) only [push_cast, seval, hx, h1, h2]) | ((((first | ((with_reducible refine pD_gy ?_ ?_); exact rfl) | ((with_reducible refine pD_gx ?_ ?_); exact rfl)); refine ⟨_, rfl, _, rfl, fun hg => ?_, fun hg => ?_⟩)) <;> first | (exact absurd hg (by decide)) | ((try simp only [Bool.not_true, Bool.not_false] at hg); (try simp only [hg]); (try simp only [push_cast] at hg); (try exact absurd trivial hg); (try (exfalso; omega)); (try simp (disch := omega) only [push_cast, seval, hx, h1, h2]))) | ((with_reducible show pcall _ _ _ _ _ _); (first | (refine pcV (cf Try.func26) (c) ?_) | (refine pcV (cf Try.func28) (iMsgOk_p ⟨_, _, _, _, _⟩) ?_)); (try simp (disch := omega) only [push_cast, seval, hx, h1, h2])) | ((with_reducible refine And.intro ?_ ?_); omega))
        (refine ⟨k + 1, by ((try dsimp only); omega), ?_, by exact fitA []⟩)
        exact ⟨hlt, allTo_succ hA (by rw [e, h1, h2]; rfl)⟩
  obtain rfl : k = l.length := by omega
  rw [show msgsOk l = true from allTo_end hA]
  repeat' (first | with_reducible (first | refine wA ?_ | refine wC ?_) | with_reducible (first | refine wq1 ?_ | refine wq3 ?_ | refine wq7 ?_ | refine wq8 ?_ | refine wq9 ?_ | refine wE ?_) | ((with_reducible refine hK _ ?_); clear hK K) | ((with_reducible refine PWp.condI ?_); refine ⟨_, rfl, fun hg => ?_, fun hg => ?_⟩ <;> first | (exact absurd hg (by decide)) | ((try simp only [Bool.not_true, Bool.not_false] at hg); (try simp only [hg]); (try simp only [push_cast] at hg); (try exact absurd trivial hg); (try (exfalso; omega)))) | ((with_reducible refine pops_plain fun K hK => ?_); simp (disch := omega) only [push_cast, seval]))
  ((with_reducible show PPostR _ _ _ _ _ _); refine finV ?_; (try simp only [push_cast, seval]))
set_option maxHeartbeats 8000000 in
theorem iNodeOk_p (n : GNode) (hl : n.fMsgs.length ≤ 1099511627776) : PCalls Try.prog 25 [.agg (pNode n)] [] (RV (.val (.bool (nodeOk n)))) := by
  obtain ⟨n1, n2, n3, n4, n5, n6, n7, n8, n9, l⟩ := n
  dsimp only at hl
  have bad : ∀ {b1 b2 b3 : Bool}, inB n1 1 4 = b1 → inB n2 (-1) 11 = b2 → inB n3 1 3 = b3 → (b1 && b2 && b3) = false → nodeOk ⟨n1, n2, n3, n4, n5, n6, n7, n8, n9, l⟩ = false := fun e1 e2 e3 h => by
    unfold nodeOk
    dsimp only
    rw [e1, e2, e3, h]
    simp
  cases h1 : inB n1 1 4 with
  | false =>
    rw [bad h1 rfl rfl rfl]
    refine pcalls_ofR okP Try.func25 rfl ?_
    simp only [Try.f25, List.length_cons, List.length_nil, Nat.reduceAdd, Nat.reduceSub, List.replicate_succ, List.replicate_zero, List.cons_append, List.nil_append, List.length_map]
    repeat' (first | with_reducible (first | refine wA ?_ | refine wC ?_) | with_reducible (first | refine wq1 ?_ | refine wq3 ?_ | refine wq5 ?_ | refine wq9 ?_) | ((with_reducible refine hK _ ?_); clear hK K) | ((with_reducible refine PWp.condI ?_); refine ⟨_, rfl, fun hg => ?_, fun hg => ?_⟩ <;> first | (exact absurd hg (by decide)) | ((try simp only [Bool.not_true, Bool.not_false] at hg); (try simp only [hg]); (try simp only [push_cast] at hg); (try exact absurd trivial hg); (try (exfalso; omega)))) | ((with_reducible refine pops_plain fun K hK => ?_); simp (disch := omega) only [push_cast, seval, h1]) | ((with_reducible refine pops_guard ?_); refine ⟨_, rfl, fun K hK => ⟨_, rfl, fun hg => ?_, fun hg => ?_⟩⟩ <;> first | (exact absurd hg (by decide)) | ((try simp only [Bool.not_true, Bool.not_false] at hg); (try simp only [hg]); (try simp only [push_cast] at hg); (try exact absurd trivial hg); (try (exfalso; omega)); (try simp (disch := omega) only [push_cast, seval, h1]))) | ((with_reducible show pcall _ _ _ _ _ _); ((refine pcV (cf Try.func23) (within_p _ _ _) ?_)); (try simp (disch := omega) only [push_cast, seval, h1])))
    ((with_reducible show PPostR _ _ _ _ _ _); refine finV ?_; (try simp only [push_cast, seval]))
  | true =>
  cases h2 : inB n2 (-1) 11 with
  | false =>
    rw [bad h1 h2 rfl rfl]
    refine pcalls_ofR okP Try.func25 rfl ?_
    simp only [Try.f25, List.length_cons, List.length_nil, Nat.reduceAdd, Nat.reduceSub, List.replicate_succ, List.replicate_zero, List.cons_append, List.nil_append, List.length_map]
    repeat' (first | with_reducible (first | refine wA ?_ | refine wC ?_) | with_reducible (first | refine wq1 ?_ | refine wq3 ?_ | refine wq5 ?_ | refine wq9 ?_) | ((with_reducible refine hK _ ?_); clear hK K) | ((with_reducible refine PWp.condI ?_); refine ⟨_, rfl, fun hg => ?_, fun hg => ?_⟩ <;> first | (exact absurd hg (by decide)) | ((try simp only [Bool.not_true, Bool.not_false] at hg); (try simp only [hg]); (try simp only [push_cast] at hg); (try exact absurd trivial hg); (try (exfalso; omega)))) | ((with_reducible refine pops_plain fun K hK => ?_); simp (disch := omega) only [push_cast, seval, h1, h2]) | ((with_reducible refine pops_guard ?_); refine ⟨_, rfl, fun K hK => ⟨_, rfl, fun hg => ?_, fun hg => ?_⟩⟩ <;> first | (exact absurd hg (by decide)) | ((try simp only [Bool.not_true, Bool.not_false] at hg); (try simp only [hg]); (try simp only [push_cast] at hg); (try exact absurd trivial hg); (try (exfalso; omega)); (try simp (disch := omega) only [push_cast, seval, h1, h2]))) | ((with_reducible show pcall _ _ _ _ _ _); ((refine pcV (cf Try.func23) (within_p _ _ _) ?_)); (try simp (disch := omega) only [push_cast, seval, h1, h2])))
    ((with_reducible show PPostR _ _ _ _ _ _); refine finV ?_; (try simp only [push_cast, seval]))
  | true =>
  cases h3 : inB n3 1 3 with
  | false =>
    rw [bad h1 h2 h3 rfl]
    refine pcalls_ofR okP Try.func25 rfl ?_
    simp only [Try.f25, List.length_cons, List.length_nil, Nat.reduceAdd, Nat.reduceSub, List.replicate_succ, List.replicate_zero, List.cons_append, List.nil_append, List.length_map]
    repeat' (first | with_reducible (first | refine wA ?_ | refine wC ?_) | with_reducible (first | refine wq1 ?_ | refine wq3 ?_ | refine wq5 ?_ | refine wq9 ?_) | ((with_reducible refine hK _ ?_); clear hK K) | ((with_reducible refine PWp.condI ?_); refine ⟨_, rfl, fun hg => ?_, fun hg => ?_⟩ <;> first | (exact absurd hg (by decide)) | ((try simp only [Bool.not_true, Bool.not_false] at hg); (try simp only [hg]); (try simp only [push_cast] at hg); (try exact absurd trivial hg); (try (exfalso; omega)))) | ((with_reducible refine pops_plain fun K hK => ?_); simp (disch := omega) only [push_cast, seval, h1, h2, h3]) | ((with_reducible refine pops_guard ?_); refine ⟨_, rfl, fun K hK => ⟨_, rfl, fun hg => ?_, fun hg => ?_⟩⟩ <;> first | (exact absurd hg (by decide)) | ((try simp only [Bool.not_true, Bool.not_false] at hg); (try simp only [hg]); (try simp only [push_cast] at hg); (try exact absurd trivial hg); (try (exfalso; omega)); (try simp (disch := omega) only [push_cast, seval, h1, h2, h3]))) | ((with_reducible show pcall _ _ _ _ _ _); ((refine pcV (cf Try.func23) (within_p _ _ _) ?_)); (try simp (disch := omega) only [push_cast, seval, h1, h2, h3])))
    ((with_reducible show PPostR _ _ _ _ _ _); refine finV ?_; (try simp only [push_cast, seval]))
  | true =>
  clear bad
  have e : nodeOk ⟨n1, n2, n3, n4, n5, n6, n7, n8, n9, l⟩ = ((inB n4 0 20 && inB n6 0 20 && inB n9 0 20) && (inB n5 (-1) n2 && inB n7 (-1) n2 && inB n8 (-1) n2) && (decide (n4 = 0) == decide (n5 = -1)) && (decide (n6 = 0) == decide (n7 = -1)) && (msgsOk l && decide ((l.length : Int) ≤ 90))) := by
    unfold nodeOk
    dsimp only
    rw [h1, h2, h3]
    simp
  rw [e]
  clear e
  refine pcalls_ofR okP Try.func25 rfl ?_
  simp only [Try.f25, List.length_cons, List.length_nil, Nat.reduceAdd, Nat.reduceSub, List.replicate_succ, List.replicate_zero, List.cons_append, List.nil_append, List.length_map]
  repeat' (first | with_reducible (first | refine wA ?_ | refine wB ?_ | refine wC ?_) | with_reducible (first | refine wq1 ?_ | refine wq3 ?_ | refine wS ?_) | ((with_reducible refine hK _ ?_); clear hK K) | ((with_reducible refine PWp.condI ?_); refine ⟨_, rfl, fun hg => ?_, fun hg => ?_⟩ <;> first | (exact absurd hg (by decide)) | ((try simp only [Bool.not_true, Bool.not_false] at hg); (try simp only [hg]); (try simp only [push_cast] at hg); (try exact absurd trivial hg); (try (exfalso; omega)))) | ((with_reducible refine pops_plain fun K hK => popO_row ?_); refine ⟨_, _, _, _, _, rfl, rfl, rfl, rfl, rfl, ?_⟩; simp (disch := omega) only [push_cast, seval, h1, h2, h3]) | ((with_reducible refine pops_plain fun K hK => ?_); simp (disch := omega) only [push_cast, seval, h1, h2, h3]) | ((with_reducible refine pops_guard ?_); refine ⟨_, rfl, fun K hK => ⟨_, rfl, fun hg => ?_, fun hg => ?_⟩⟩ <;> first | (exact absurd hg (by decide)) | ((try simp only [Bool.not_true, Bool.not_false] at hg); (try simp only [hg]); (try simp only [push_cast] at hg); (try exact absurd trivial hg); (try (exfalso; omega)); (try simp (disch := omega) only [push_cast, seval, h1, h2, h3]))) | ((with_reducible show pcall _ _ _ _ _ _); ((refine pcV (cf Try.func23) (within_p _ _ _) ?_)); (try simp (disch := omega) only [push_cast, seval, h1, h2, h3])))
  refine PWp.loopK (α := Nat) (fun k => [(1, .ptr 0 0), (29, .own 1), (31, .val (.int .i64 (k : Int)))]) [0, 2, 3, 4, 5, 7, 8, 9, 10, 11, 12, 13, 14, 15, 16, 17, 18, 19, 20, 21, 22, 23, 24, 25, 26, 27, 28, 32, 33, 34, 35, 36, 37, 38] (fun k => [some (.box (pNode ⟨n1, n2, n3, n4, n5, n6, n7, n8, n9, l⟩)), some (.row 3 1 ([n4, n6, n9].map pInt))]) (fun k => k ≤ 3 ∧ (0 < k → inB n4 0 20 = true) ∧ (1 < k → inB n6 0 20 = true) ∧ (2 < k → inB n9 0 20 = true)) (fun k => 3 - k) (0) (⟨by omega, fun h => by omega, fun h => by omega, fun h => by omega⟩) (by exact fitA [_, _]) ?_
  intro k ρ hI
  (try dsimp only at hI)
  refine PWp.at (tm' := ?_) (H' := ?_) ?_ ?_ ?_; rotate_left 2; (· ((try simp only [push_cast, seval]); exact rfl)); (· ((try dsimp only); exact rfl))
  obtain ⟨hk, e1, e2, e3⟩ := hI
  obtain rfl | rfl | rfl | rfl : k = 0 ∨ k = 1 ∨ k = 2 ∨ k = 3 := by omega
  · cases g1 : inB n4 0 20 with
    | false =>
      repeat' (first | with_reducible (first | refine wA ?_ | refine wB ?_ | refine wC ?_) | with_reducible (first | refine wq1 ?_ | refine wq3 ?_ | refine wq5 ?_ | refine wq6 ?_ | refine wq9 ?_ | refine wS ?_) | ((with_reducible refine hK _ ?_); clear hK K) | ((with_reducible refine PWp.condI ?_); refine ⟨_, rfl, fun hg => ?_, fun hg => ?_⟩ <;> first | (exact absurd hg (by decide)) | ((try simp only [Bool.not_true, Bool.not_false] at hg); (try simp only [hg]); (try simp only [push_cast] at hg); (try exact absurd trivial hg); (try (exfalso; omega)))) | ((with_reducible refine pops_plain fun K hK => ?_); simp (disch := omega) only [push_cast, seval, g1]) | ((with_reducible show pcall _ _ _ _ _ _); ((refine pcV (cf Try.func23) (within_p _ _ _) ?_)); (try simp (disch := omega) only [push_cast, seval, g1])))
      ((with_reducible show PPostR _ _ _ _ _ _); refine finV ?_; (try simp only [push_cast, seval]))
    | true =>
      repeat' (first | with_reducible (first | refine wA ?_ | refine wB ?_ | refine wC ?_) | with_reducible (first | refine wq1 ?_ | refine wq3 ?_ | refine wq4 ?_ | refine wS ?_) | ((with_reducible refine hK _ ?_); clear hK K) | ((with_reducible refine PWp.condI ?_); refine ⟨_, rfl, fun hg => ?_, fun hg => ?_⟩ <;> first | (exact absurd hg (by decide)) | ((try simp only [Bool.not_true, Bool.not_false] at hg); (try simp only [hg]); (try simp only [push_cast] at hg); (try exact absurd trivial hg); (try (exfalso; omega)))) | ((with_reducible refine pops_plain fun K hK => ?_); simp (disch := omega) only [push_cast, seval, g1]) | ((with_reducible show pcall _ _ _ _ _ _); ((refine pcV (cf Try.func23) (within_p _ _ _) ?_)); (try simp (disch := omega) only [push_cast, seval, g1])))
      (refine ⟨1, by ((try dsimp only); omega), ?_, by exact fitA [_, _]⟩)
      exact ⟨by omega, fun _ => by first | exact g1 | trivial, fun h => by omega, fun h => by omega⟩
  · have g1 := e1 (by omega)
    cases g2 : inB n6 0 20 with
    | false =>
      rw [g1]
      repeat' (first | with_reducible (first | refine wA ?_ | refine wB ?_ | refine wC ?_) | with_reducible (first | refine wq1 ?_ | refine wq3 ?_ | refine wq5 ?_ | refine wq6 ?_ | refine wq9 ?_ | refine wS ?_) | ((with_reducible refine hK _ ?_); clear hK K) | ((with_reducible refine PWp.condI ?_); refine ⟨_, rfl, fun hg => ?_, fun hg => ?_⟩ <;> first | (exact absurd hg (by decide)) | ((try simp only [Bool.not_true, Bool.not_false] at hg); (try simp only [hg]); (try simp only [push_cast] at hg); (try exact absurd trivial hg); (try (exfalso; omega)))) | ((with_reducible refine pops_plain fun K hK => ?_); simp (disch := omega) only [push_cast, seval, g2]) | ((with_reducible show pcall _ _ _ _ _ _); ((refine pcV (cf Try.func23) (within_p _ _ _) ?_)); (try simp (disch := omega) only [push_cast, seval, g2])))
      ((with_reducible show PPostR _ _ _ _ _ _); refine finV ?_; (try simp only [push_cast, seval]))
    | true =>
      repeat' (first | with_reducible (first | refine wA ?_ | refine wB ?_ | refine wC ?_) | with_reducible (first | refine wq1 ?_ | refine wq3 ?_ | refine wq4 ?_ | refine wS ?_) | ((with_reducible refine hK _ ?_); clear hK K) | ((with_reducible refine PWp.condI ?_); refine ⟨_, rfl, fun hg => ?_, fun hg => ?_⟩ <;> first | (exact absurd hg (by decide)) | ((try simp only [Bool.not_true, Bool.not_false] at hg); (try simp only [hg]); (try simp only [push_cast] at hg); (try exact absurd trivial hg); (try (exfalso; omega)))) | ((with_reducible refine pops_plain fun K hK => ?_); simp (disch := omega) only [push_cast, seval, g2]) | ((with_reducible show pcall _ _ _ _ _ _); ((refine pcV (cf Try.func23) (within_p _ _ _) ?_)); (try simp (disch := omega) only [push_cast, seval, g2])))
      (refine ⟨2, by ((try dsimp only); omega), ?_, by exact fitA [_, _]⟩)
      exact ⟨by omega, fun _ => by first | exact g1 | trivial, fun _ => by first | exact g2 | trivial, fun h => by omega⟩
  · have g1 := e1 (by omega)
    have g2 := e2 (by omega)
    cases g3 : inB n9 0 20 with
    | false =>
      rw [g1, g2]
      repeat' (first | with_reducible (first | refine wA ?_ | refine wB ?_ | refine wC ?_) | with_reducible (first | refine wq1 ?_ | refine wq3 ?_ | refine wq5 ?_ | refine wq6 ?_ | refine wq9 ?_ | refine wS ?_) | ((with_reducible refine hK _ ?_); clear hK K) | ((with_reducible refine PWp.condI ?_); refine ⟨_, rfl, fun hg => ?_, fun hg => ?_⟩ <;> first | (exact absurd hg (by decide)) | ((try simp only [Bool.not_true, Bool.not_false] at hg); (try simp only [hg]); (try simp only [push_cast] at hg); (try exact absurd trivial hg); (try (exfalso; omega)))) | ((with_reducible refine pops_plain fun K hK => ?_); simp (disch := omega) only [push_cast, seval, g3]) | ((with_reducible show pcall _ _ _ _ _ _); ((refine pcV (cf Try.func23) (within_p _ _ _) ?_)); (try simp (disch := omega) only [push_cast, seval, g3])))
      ((with_reducible show PPostR _ _ _ _ _ _); refine finV ?_; (try simp only [push_cast, seval]))
    | true =>
      repeat' (first | with_reducible (first | refine wA ?_ | refine wB ?_ | refine wC ?_) | with_reducible (first | refine wq1 ?_ | refine wq3 ?_ | refine wq4 ?_ | refine wS ?_) | ((with_reducible refine hK _ ?_); clear hK K) | ((with_reducible refine PWp.condI ?_); refine ⟨_, rfl, fun hg => ?_, fun hg => ?_⟩ <;> first | (exact absurd hg (by decide)) | ((try simp only [Bool.not_true, Bool.not_false] at hg); (try simp only [hg]); (try simp only [push_cast] at hg); (try exact absurd trivial hg); (try (exfalso; omega)))) | ((with_reducible refine pops_plain fun K hK => ?_); simp (disch := omega) only [push_cast, seval, g3]) | ((with_reducible show pcall _ _ _ _ _ _); ((refine pcV (cf Try.func23) (within_p _ _ _) ?_)); (try simp (disch := omega) only [push_cast, seval, g3])))
      (refine ⟨3, by ((try dsimp only); omega), ?_, by exact fitA [_, _]⟩)
      exact ⟨by omega, fun _ => by first | exact g1 | trivial, fun _ => by first | exact g2 | trivial, fun _ => by first | exact g3 | trivial⟩
  rw [e1 (by omega), e2 (by omega), e3 (by omega)]
  clear e1 e2 e3 hk
  repeat' (first | with_reducible (first | refine wA ?_ | refine wB ?_ | refine wC ?_) | with_reducible (first | refine wq1 ?_ | refine wq3 ?_ | refine wq7 ?_ | refine wq8 ?_ | refine wE ?_) | ((with_reducible refine hK _ ?_); clear hK K) | ((with_reducible refine PWp.condI ?_); refine ⟨_, rfl, fun hg => ?_, fun hg => ?_⟩ <;> first | (exact absurd hg (by decide)) | ((try simp only [Bool.not_true, Bool.not_false] at hg); (try simp only [hg]); (try simp only [push_cast] at hg); (try exact absurd trivial hg); (try (exfalso; omega)))) | ((with_reducible refine pops_plain fun K hK => popO_row ?_); refine ⟨_, _, _, _, _, rfl, rfl, rfl, rfl, rfl, ?_⟩; simp (disch := omega) only [push_cast, seval]) | ((with_reducible refine pops_plain fun K hK => ?_); simp (disch := omega) only [push_cast, seval]))
  refine PWp.loopK (α := Nat) (fun k => [(1, .ptr 0 0), (45, .own 1), (47, .val (.int .i64 (k : Int)))]) [0, 2, 3, 4, 5, 6, 7, 8, 9, 10, 11, 12, 13, 14, 15, 16, 17, 18, 19, 20, 21, 22, 23, 24, 25, 26, 27, 28, 29, 30, 31, 32, 33, 34, 35, 36, 37, 38, 39, 40, 41, 42, 43, 44, 48, 49, 50, 51, 52, 53, 54, 55, 56] (fun k => [some (.box (pNode ⟨n1, n2, n3, n4, n5, n6, n7, n8, n9, l⟩)), some (.row 3 1 ([n5, n7, n8].map pInt))]) (fun k => k ≤ 3 ∧ (0 < k → inB n5 (-1) n2 = true) ∧ (1 < k → inB n7 (-1) n2 = true) ∧ (2 < k → inB n8 (-1) n2 = true)) (fun k => 3 - k) (0) (⟨by omega, fun h => by omega, fun h => by omega, fun h => by omega⟩) (by exact fitA [_, _]) ?_
  intro k ρ hI
  (try dsimp only at hI)
  refine PWp.at (tm' := ?_) (H' := ?_) ?_ ?_ ?_; rotate_left 2; (· ((try simp only [push_cast, seval]); exact rfl)); (· ((try dsimp only); exact rfl))
  obtain ⟨hk, e1, e2, e3⟩ := hI
  obtain rfl | rfl | rfl | rfl : k = 0 ∨ k = 1 ∨ k = 2 ∨ k = 3 := by omega
  · cases g1 : inB n5 (-1) n2 with
    | false =>
      repeat' (first | with_reducible (first | refine wA ?_ | refine wB ?_ | refine wC ?_) | with_reducible (first | refine wq1 ?_ | refine wq3 ?_ | refine wq5 ?_ | refine wq6 ?_ | refine wq9 ?_ | refine wS ?_) | ((with_reducible refine hK _ ?_); clear hK K) | ((with_reducible refine PWp.condI ?_); refine ⟨_, rfl, fun hg => ?_, fun hg => ?_⟩ <;> first | (exact absurd hg (by decide)) | ((try simp only [Bool.not_true, Bool.not_false] at hg); (try simp only [hg]); (try simp only [push_cast] at hg); (try exact absurd trivial hg); (try (exfalso; omega)))) | ((with_reducible refine pops_plain fun K hK => ?_); simp (disch := omega) only [push_cast, seval, g1]) | ((with_reducible show pcall _ _ _ _ _ _); ((refine pcV (cf Try.func23) (within_p _ _ _) ?_)); (try simp (disch := omega) only [push_cast, seval, g1])))
      ((with_reducible show PPostR _ _ _ _ _ _); refine finV ?_; (try simp only [push_cast, seval]))
    | true =>
      repeat' (first | with_reducible (first | refine wA ?_ | refine wB ?_ | refine wC ?_) | with_reducible (first | refine wq1 ?_ | refine wq3 ?_ | refine wq4 ?_ | refine wS ?_) | ((with_reducible refine hK _ ?_); clear hK K) | ((with_reducible refine PWp.condI ?_); refine ⟨_, rfl, fun hg => ?_, fun hg => ?_⟩ <;> first | (exact absurd hg (by decide)) | ((try simp only [Bool.not_true, Bool.not_false] at hg); (try simp only [hg]); (try simp only [push_cast] at hg); (try exact absurd trivial hg); (try (exfalso; omega)))) | ((with_reducible refine pops_plain fun K hK => ?_); simp (disch := omega) only [push_cast, seval, g1]) | ((with_reducible show pcall _ _ _ _ _ _); ((refine pcV (cf Try.func23) (within_p _ _ _) ?_)); (try simp (disch := omega) only [push_cast, seval, g1])))
      (refine ⟨1, by ((try dsimp only); omega), ?_, by exact fitA [_, _]⟩)
      exact ⟨by omega, fun _ => by first | exact g1 | trivial, fun h => by omega, fun h => by omega⟩
  · have g1 := e1 (by omega)
    cases g2 : inB n7 (-1) n2 with
    | false =>
      rw [g1]
      repeat' (first | with_reducible (first | refine wA ?_ | refine wB ?_ | refine wC ?_) | with_reducible (first | refine wq1 ?_ | refine wq3 ?_ | refine wq5 ?_ | refine wq6 ?_ | refine wq9 ?_ | refine wS ?_) | ((with_reducible refine hK _ ?_); clear hK K) | ((with_reducible refine PWp.condI ?_); refine ⟨_, rfl, fun hg => ?_, fun hg => ?_⟩ <;> first | (exact absurd hg (by decide)) | ((try simp only [Bool.not_true, Bool.not_false] at hg); (try simp only [hg]); (try simp only [push_cast] at hg); (try exact absurd trivial hg); (try (exfalso; omega)))) | ((with_reducible refine pops_plain fun K hK => ?_); simp (disch := omega) only [push_cast, seval, g2]) | ((with_reducible show pcall _ _ _ _ _ _); ((refine pcV (cf Try.func23) (within_p _ _ _) ?_)); (try simp (disch := omega) only [push_cast, seval, g2])))
      ((with_reducible show PPostR _ _ _ _ _ _); refine finV ?_; (try simp only [push_cast, seval]))
    | true =>
      repeat' (first | with_reducible (first | refine wA ?_ | refine wB ?_ | refine wC ?_) | with_reducible (first | refine wq1 ?_ | refine wq3 ?_ | refine wq4 ?_ | refine wS ?_) | ((with_reducible refine hK _ ?_); clear hK K) | ((with_reducible refine PWp.condI ?_); refine ⟨_, rfl, fun hg => ?_, fun hg => ?_⟩ <;> first | (exact absurd hg (by decide)) | ((try simp only [Bool.not_true, Bool.not_false] at hg); (try simp only [hg]); (try simp only [push_cast] at hg); (try exact absurd trivial hg); (try (exfalso; omega)))) | ((with_reducible refine pops_plain fun K hK => ?_); simp (disch := omega) only [push_cast, seval, g2]) | ((with_reducible show pcall _ _ _ _ _ _); ((refine pcV (cf Try.func23) (within_p _ _ _) ?_)); (try simp (disch := omega) only [push_cast, seval, g2])))
      (refine ⟨2, by ((try dsimp only); omega), ?_, by exact fitA [_, _]⟩)
      exact ⟨by omega, fun _ => by first | exact g1 | trivial, fun _ => by first | exact g2 | trivial, fun h => by omega⟩
  · have g1 := e1 (by omega)
    have g2 := e2 (by omega)
    cases g3 : inB n8 (-1) n2 with
    | false =>
      rw [g1, g2]
      repeat' (first | with_reducible (first | refine wA ?_ | refine wB ?_ | refine wC ?_) | with_reducible (first | refine wq1 ?_ | refine wq3 ?_ | refine wq5 ?_ | refine wq6 ?_ | refine wq9 ?_ | refine wS ?_) | ((with_reducible refine hK _ ?_); clear hK K) | ((with_reducible refine PWp.condI ?_); refine ⟨_, rfl, fun hg => ?_, fun hg => ?_⟩ <;> first | (exact absurd hg (by decide)) | ((try simp only [Bool.not_true, Bool.not_false] at hg); (try simp only [hg]); (try simp only [push_cast] at hg); (try exact absurd trivial hg); (try (exfalso; omega)))) | ((with_reducible refine pops_plain fun K hK => ?_); simp (disch := omega) only [push_cast, seval, g3]) | ((with_reducible show pcall _ _ _ _ _ _); ((refine pcV (cf Try.func23) (within_p _ _ _) ?_)); (try simp (disch := omega) only [push_cast, seval, g3])))
      ((with_reducible show PPostR _ _ _ _ _ _); refine finV ?_; (try simp only [push_cast, seval]))
    | true =>
      repeat' (first | with_reducible (first | refine wA ?_ | refine wB ?_ | refine wC ?_) | with_reducible (first | refine wq1 ?_ | refine wq3 ?_ | refine wq4 ?_ | refine wS ?_) | ((with_reducible refine hK _ ?_); clear hK K) | ((with_reducible refine PWp.condI ?_); refine ⟨_, rfl, fun hg => ?_, fun hg => ?_⟩ <;> first | (exact absurd hg (by decide)) | ((try simp only [Bool.not_true, Bool.not_false] at hg); (try simp only [hg]); (try simp only [push_cast] at hg); (try exact absurd trivial hg); (try (exfalso; omega)))) | ((with_reducible refine pops_plain fun K hK => ?_); simp (disch := omega) only [push_cast, seval, g3]) | ((with_reducible show pcall _ _ _ _ _ _); ((refine pcV (cf Try.func23) (within_p _ _ _) ?_)); (try simp (disch := omega) only [push_cast, seval, g3])))
      (refine ⟨3, by ((try dsimp only); omega), ?_, by exact fitA [_, _]⟩)
      exact ⟨by omega, fun _ => by first | exact g1 | trivial, fun _ => by first | exact g2 | trivial, fun _ => by first | exact g3 | trivial⟩
  rw [e1 (by omega), e2 (by omega), e3 (by omega)]
  clear e1 e2 e3 hk
  generalize he : (decide (n4 = 0) == decide (n5 = -1)) = b1
  generalize he2 : (decide (n6 = 0) == decide (n7 = -1)) = b2
  by_cases c1 : n4 = 0
  all_goals by_cases c2 : n5 = -1
  all_goals by_cases c3 : n6 = 0
  all_goals by_cases c4 : n7 = -1
  all_goals
    simp only [c1, c2, c3, c4, decide_true, decide_false, beq_self_eq_true] at he he2
    repeat' (first | with_reducible (first | refine wA ?_ | refine wC ?_) | with_reducible (first | refine wq1 ?_ | refine wq3 ?_ | refine wq7 ?_ | refine wq8 ?_ | refine wq9 ?_ | refine wE ?_) | ((with_reducible refine hK _ ?_); clear hK K) | ((with_reducible refine PWp.condI ?_); refine ⟨_, rfl, fun hg => ?_, fun hg => ?_⟩ <;> first | (exact absurd hg (by decide)) | ((try simp only [Bool.not_true, Bool.not_false] at hg); (try simp only [hg]); (try simp only [push_cast] at hg); (try exact absurd trivial hg); (try (exfalso; omega)))) | ((with_reducible refine pops_plain fun K hK => ?_); simp (disch := omega) only [push_cast, seval, c1, c2, c3, c4, vb_eq, beq_self_eq_true]) | ((with_reducible refine pops_guard ?_); refine ⟨_, rfl, fun K hK => ⟨_, rfl, fun hg => ?_, fun hg => ?_⟩⟩ <;> first | (exact absurd hg (by decide)) | ((try simp only [Bool.not_true, Bool.not_false] at hg); (try simp only [hg]); (try simp only [push_cast] at hg); (try exact absurd trivial hg); (try (exfalso; omega)); (try simp (disch := omega) only [push_cast, seval, c1, c2, c3, c4, vb_eq, beq_self_eq_true]))) | ((with_reducible show pcall _ _ _ _ _ _); ((refine pcV (cf Try.func24) (iAreMsgs_p _ _ sd) ?_)); (try simp (disch := omega) only [push_cast, seval, c1, c2, c3, c4, vb_eq, beq_self_eq_true])))
    all_goals
      ((with_reducible show PPostR _ _ _ _ _ _); refine finV ?_; (try simp only [push_cast, seval]))
      simp_all [eqI_B]
end Go.Proofs.Ytcbknmnlgoeniaa
namespace Go.Proofs.Ytcbknmnlgoeniaa
set_option linter.unusedSimpArgs false
set_option linter.unusedVariables false
open Go.RowKit
theorem nil_push {M : Mem} {h : Home} {H : Hp} {w : World} (I : Inv M h H w) (e : TypeId) (sz : Nat) : Step M h H w M (upd h H.length (.slice none 0 0)) (H ++ [some (.row e sz [])]) w :=
  Step.push I (Ext.refl w) (B := .row e sz []) (v := .slice none 0 0) ⟨⟨none, 0, 0, rfl⟩, [], ⟨by simp, .inl ⟨rfl, rfl⟩⟩, by simp, by simp, by simp⟩ fun k hk => by cases hk
theorem PWp.nilB {P : Program} {N : Nat} {c : Code} {Q : Exit → St → Prop} {tm : List PV} {H : Hp} (b j : Nat) (e : TypeId) (sz : Nat) {cs : List PV} (hH : H[b]? = some (some (.box cs))) (hj : cs[j]? = some (.val (.slice none 0 0))) (h : PWp P N c Q ⟨tm, (H ++ [some (Blk.row e sz [])]).set b (some (Blk.box (cs.set j (.own H.length))))⟩) : PWp P N c Q ⟨tm, H⟩ := fun E a w hN r => by
  obtain ⟨M, hh, s, t, d⟩ := r
  have st := nil_push s.inv e sz
  have hb : (H ++ [some (Blk.row e sz [])])[b]? = some (some (.box cs)) := by rw [List.getElem?_append_left (List.getElem?_eq_some_iff.1 hH).1]; exact hH
  have I := st.inv
  have old : ∀ {c : Nat} {B : Blk}, ((H ++ [some (Blk.row e sz [])]).set b (some (Blk.box (cs.set j (.own H.length)))))[c]? = some (some B) → ∃ B0, (H ++ [some (Blk.row e sz [])])[c]? = some (some B0) ∧ (B0 = B ∨ c = b ∧ B = .box (cs.set j (.own H.length))) := fun {c B} q => by
    by_cases e1 : b = c
    · subst e1
      rw [List.getElem?_set_self (List.getElem?_eq_some_iff.1 hb).1] at q
      exact ⟨_, hb, .inr ⟨rfl, by injection q with q; injection q with q; exact q.symm⟩⟩
    · rw [List.getElem?_set_ne e1] at q
      exact ⟨B, q, .inl rfl⟩
  have hom : ∀ x, Homes (upd hh H.length (.slice none 0 0)) ((H ++ [some (Blk.row e sz [])]).set b (some (Blk.box (cs.set j (.own H.length))))) x → Homes (upd hh H.length (.slice none 0 0)) (H ++ [some (Blk.row e sz [])]) x := fun x ⟨c, B, v, q1, q2⟩ => by
    obtain ⟨B0, h1, _⟩ := old q1
    exact ⟨c, B0, v, h1, q2⟩
  have I2 : Inv M (upd hh H.length (.slice none 0 0)) ((H ++ [some (Blk.row e sz [])]).set b (some (Blk.box (cs.set j (.own H.length))))) w := by
    refine ⟨I.mem, I.one, fun c B q => ?_, fun x hx o => I.sep x (hom x hx) o, fun c c' B B' v v' x g1 g2 => ?_, fun c v q => by simpa using I.len c v q, I.glob⟩
    · obtain ⟨B0, h1, h2⟩ := old q
      obtain ⟨v, h3, h4⟩ := I.blk c B0 h1
      rcases h2 with rfl | ⟨rfl, rfl⟩
      · exact ⟨v, h3, h4⟩
      · rw [hb] at h1
        cases h1
        obtain ⟨g, us, ty, p1, p2, p3, p4, p5⟩ := h4
        refine ⟨v, h3, g, us, ty, p1, p2, by simpa using p3, p4, fun i pv u a d => ?_⟩
        by_cases q : j = i
        · subst q
          rw [List.getElem?_set_self (List.getElem?_eq_some_iff.1 hj).1] at a
          cases a
          have := vr_val (p5 j _ u hj d)
          subst this
          exact .own _ none 0 0 upd_self
        · rw [List.getElem?_set_ne q] at a
          exact p5 i pv u a d
    · obtain ⟨B0, h1, _⟩ := old g1
      obtain ⟨B1, h2, _⟩ := old g2
      exact I.inj c c' B0 B1 v v' x h1 h2
  exact h E a w hN ⟨M, _, s.trans (st.trans ⟨.refl _, .refl _, I2, .refl, fun x hx => .inl (hom x hx), fun _ _ _ q => .inl q⟩), ⟨t.size, fun i x u h1 h2 => (t.vr i x u h1 h2).mono (.refl _) st.hle⟩, d⟩
end Go.Proofs.Ytcbknmnlgoeniaa
namespace Go.Proofs.Ytcbknmnlgoeniaa
set_option linter.unusedSimpArgs false
set_option linter.unusedVariables false
open Go.RowKit
set_option maxRecDepth 100000
def pNodeX (n : GNode) (x : PV) : List PV := [.val (.int .i64 n.fMe), .val (.int .i64 n.fRound), .val (.int .i64 n.fStep), .val (.int .i64 n.fLockVal), .val (.int .i64 n.fLockRound), .val (.int .i64 n.fValidVal), .val (.int .i64 n.fValidRound), .val (.int .i64 n.fPolka), .val (.int .i64 n.fDecided), x]
def pActX (n : GNode) (x y : PV) : List PV := [.val (.int .i64 n.fMe), .val (.int .i64 n.fRound), .val (.int .i64 n.fStep), .val (.int .i64 n.fLockVal), .val (.int .i64 n.fLockRound), .val (.int .i64 n.fValidVal), .val (.int .i64 n.fValidRound), .val (.int .i64 n.fPolka), .val (.int .i64 n.fDecided), x, y]
def fAct (a : Acting) : List PV := pActX a.1 (.sl 5 (a.1.fMsgs.map pNMsg)) (.sl 5 (a.2.map pNMsg))
def bAct (a : Acting) : Hp := [some (.box (pActX a.1 (.own 1) (.own 2))), some (.row 32 5 (a.1.fMsgs.map pNMsg)), some (.row 32 5 (a.2.map pNMsg))]
attribute [push_cast] pNodeX pActX fAct bAct
theorem pNMsg_vd (n : Nat) (H : Hp) (x : GNMsg) : (pNMsg x).map (vwD n H) = pNMsg x := by cases n <;> rfl
theorem act_vd (a : Acting) (k : Nat) (tl : Hp) : vwD (k + 2) (bAct a ++ tl) (.ptr 0 0) = .eptr (fAct a) 0 := by
  have e1 : vwD (k + 1) (bAct a ++ tl) (.own 1) = .sl 5 (a.1.fMsgs.map pNMsg) := congrArg (PV.sl 5) (rows_vd (pNMsg_vd k _) _)
  have e2 : vwD (k + 1) (bAct a ++ tl) (.own 2) = .sl 5 (a.2.map pNMsg) := congrArg (PV.sl 5) (rows_vd (pNMsg_vd k _) _)
  show PV.eptr ((pActX a.1 (.own 1) (.own 2)).map (vwD (k + 1) (bAct a ++ tl))) 0 = _
  simp only [pActX, List.map_cons, List.map_nil, e1, e2, fAct]
  rfl
theorem rows_vo (k : Nat) (H : Hp) (l : List GNMsg) : ∀ row ∈ l.map pNMsg, ∀ q ∈ row, vdOk k H q := fun row hr q hq => by
  obtain ⟨x, -, rfl⟩ := List.mem_map.1 hr
  simp only [pNMsg, List.mem_cons, List.not_mem_nil, or_false] at hq
  rcases hq with rfl | rfl | rfl | rfl | rfl <;> (cases k <;> exact rfl)
theorem act_vo (a : Acting) (k : Nat) (tl : Hp) : vdOk (k + 2) (bAct a ++ tl) (.ptr 0 0) := by
  have e1 : vdOk (k + 1) (bAct a ++ tl) (.own 1) := rows_vo k _ _
  have e2 : vdOk (k + 1) (bAct a ++ tl) (.own 2) := rows_vo k _ _
  show ∀ q ∈ pActX a.1 (.own 1) (.own 2), vdOk (k + 1) (bAct a ++ tl) q
  intro q hq
  simp only [pActX, List.mem_cons, List.not_mem_nil, or_false] at hq
  rcases hq with rfl | rfl | rfl | rfl | rfl | rfl | rfl | rfl | rfl | rfl | rfl
  all_goals first | exact e1 | exact e2 | exact rfl
set_option maxHeartbeats 2000000 in
theorem iCount_v (a : Acting) (kind round val : Int) (hl : a.1.fMsgs.length ≤ 1000000) : PCalls Try.prog 85 [.eptr (fAct a) 0, .val (.int .i64 kind), .val (.int .i64 round), .val (.int .i64 val)] [] (RV (.val (.int .i64 (cntM a.1.fMsgs kind round val)))) := by
  obtain ⟨⟨n1, n2, n3, n4, n5, n6, n7, n8, n9, l⟩, s⟩ := a
  dsimp only at hl ⊢
  refine pcalls_ofR okP Try.func85 rfl ?_
  simp only [Try.f85, List.length_cons, List.length_nil, Nat.reduceAdd, Nat.reduceSub, List.replicate_succ, List.replicate_zero, List.cons_append, List.nil_append, List.length_map]
  repeat' (first | with_reducible (first | refine wA ?_ | refine wB ?_ | refine wC ?_) | with_reducible (first | refine wq1 ?_ | refine wq3 ?_) | ((with_reducible refine hK _ ?_); clear hK K) | ((with_reducible refine pops_plain fun K hK => popO_row ?_); refine ⟨_, _, _, _, _, rfl, rfl, rfl, rfl, rfl, ?_⟩; simp (disch := omega) only [push_cast, seval]) | ((with_reducible refine pops_plain fun K hK => ?_); simp (disch := omega) only [push_cast, seval]))
  refine PWp.loopK (α := Nat) (fun k => [(9, .own 0), (18, .val (.int .i64 (k : Int)))]) [0, 4, 5, 6, 7, 10, 11, 12, 13, 14, 15, 19, 20, 21, 22, 23, 24, 25, 26, 27, 28, 29, 30, 31, 32, 33, 34, 35, 36, 37, 38, 39, 40, 41, 42, 43, 44, 45, 46, 47, 48, 49, 50] (fun k => [some (.row 3 1 ((froms (isV kind round val) (l.take k)).map pInt))]) (fun k => k ≤ l.length) (fun k => l.length - k) (0) (Nat.zero_le _) (by exact fitA [_]) ?_
  intro k ρ hI
  (try dsimp only at hI)
  refine PWp.at (tm' := ?_) (H' := ?_) ?_ ?_ ?_; rotate_left 2; (· ((try simp only [push_cast, seval]); exact rfl)); (· ((try dsimp only); exact rfl))
  by_cases hlt : k < l.length
  · obtain ⟨x, hx⟩ : ∃ x, l[k]? = some x := ⟨_, List.getElem?_eq_getElem hlt⟩
    have e := froms_succ (p := isV kind round val) hx
    have hz := froms_len (p := isV kind round val) (l := l.take k)
    rw [List.length_take] at hz
    obtain ⟨x1, x2, x3, x4, x5⟩ := x
    simp only [fromF, isV] at e
    by_cases c1 : x1 = kind
    case neg =>
      simp only [c1, decide_false, Bool.false_and, Bool.false_eq_true, if_false] at e
      repeat' (first | with_reducible (first | refine wA ?_ | refine wB ?_ | refine wC ?_) | with_reducible (first | refine wq1 ?_ | refine wq3 ?_ | refine wq4 ?_ | refine wS ?_) | ((with_reducible refine hK _ ?_); clear hK K) | ((with_reducible refine PWp.condI ?_); refine ⟨_, rfl, fun hg => ?_, fun hg => ?_⟩ <;> first | (exact absurd hg (by decide)) | ((try simp only [Bool.not_true, Bool.not_false] at hg); (try simp only [hg]); (try simp only [push_cast] at hg); (try exact absurd trivial hg); (try (exfalso; omega)))) | ((with_reducible refine pops_plain fun K hK => ?_); simp (disch := omega) only [push_cast, seval, hx, c1]) | ((with_reducible refine pops_guard ?_); refine ⟨_, rfl, fun K hK => ⟨_, rfl, fun hg => ?_, fun hg => ?_⟩⟩ <;> first | (exact absurd hg (by decide)) | ((try simp only [Bool.not_true, Bool.not_false] at hg); (try simp only [hg]); (try simp only [push_cast] at hg); (try exact absurd trivial hg); (try (exfalso; omega)); (try simp (disch := omega) only [push_cast, seval, hx, c1]))) | ((with_reducible refine And.intro ?_ ?_); omega))
      (refine ⟨k + 1, by ((try dsimp only); omega), ?_, by (refine ⟨[?_], ?_, ?_, ?_, ?_⟩; rotate_left 1; (· ((first | simp (disch := omega) only [push_cast, seval, e] | simp (disch := omega) only [push_cast, seval] | skip); (repeat' (first | exact trivial | exact rfl | refine And.intro ?_ ?_ | omega)))); (· ((first | simp (disch := omega) only [push_cast, seval, e] | simp (disch := omega) only [push_cast, seval] | skip); (repeat' (first | exact trivial | exact rfl | refine And.intro ?_ ?_ | omega)); (try (repeat' (first | exact trivial | exact rfl | refine And.intro ?_ ?_ | omega))))); (· exact rfl); (· (first | exact trivial | exact ⟨rfl, trivial⟩ | exact ⟨rfl, rfl, trivial⟩ | exact ⟨rfl, rfl, rfl, trivial⟩)))⟩)
      exact hlt
    by_cases c2 : x2 = round
    case neg =>
      simp only [c2, decide_false, Bool.false_and, Bool.and_false, Bool.false_eq_true, if_false] at e
      repeat' (first | with_reducible (first | refine wA ?_ | refine wB ?_ | refine wC ?_) | with_reducible (first | refine wq1 ?_ | refine wq3 ?_ | refine wq4 ?_ | refine wS ?_) | ((with_reducible refine hK _ ?_); clear hK K) | ((with_reducible refine PWp.condI ?_); refine ⟨_, rfl, fun hg => ?_, fun hg => ?_⟩ <;> first | (exact absurd hg (by decide)) | ((try simp only [Bool.not_true, Bool.not_false] at hg); (try simp only [hg]); (try simp only [push_cast] at hg); (try exact absurd trivial hg); (try (exfalso; omega)))) | ((with_reducible refine pops_plain fun K hK => ?_); simp (disch := omega) only [push_cast, seval, hx, c1, c2]) | ((with_reducible refine pops_guard ?_); refine ⟨_, rfl, fun K hK => ⟨_, rfl, fun hg => ?_, fun hg => ?_⟩⟩ <;> first | (exact absurd hg (by decide)) | ((try simp only [Bool.not_true, Bool.not_false] at hg); (try simp only [hg]); (try simp only [push_cast] at hg); (try exact absurd trivial hg); (try (exfalso; omega)); (try simp (disch := omega) only [push_cast, seval, hx, c1, c2]))) | ((with_reducible refine And.intro ?_ ?_); omega))
      (refine ⟨k + 1, by ((try dsimp only); omega), ?_, by (refine ⟨[?_], ?_, ?_, ?_, ?_⟩; rotate_left 1; (· ((first | simp (disch := omega) only [push_cast, seval, e] | simp (disch := omega) only [push_cast, seval] | skip); (repeat' (first | exact trivial | exact rfl | refine And.intro ?_ ?_ | omega)))); (· ((first | simp (disch := omega) only [push_cast, seval, e] | simp (disch := omega) only [push_cast, seval] | skip); (repeat' (first | exact trivial | exact rfl | refine And.intro ?_ ?_ | omega)); (try (repeat' (first | exact trivial | exact rfl | refine And.intro ?_ ?_ | omega))))); (· exact rfl); (· (first | exact trivial | exact ⟨rfl, trivial⟩ | exact ⟨rfl, rfl, trivial⟩ | exact ⟨rfl, rfl, rfl, trivial⟩)))⟩)
      exact hlt
    by_cases c3 : x3 = val
    case neg =>
      simp only [c3, decide_false, Bool.false_and, Bool.and_false, Bool.false_eq_true, if_false] at e
      repeat' (first | with_reducible (first | refine wA ?_ | refine wB ?_ | refine wC ?_) | with_reducible (first | refine wq1 ?_ | refine wq3 ?_ | refine wq4 ?_ | refine wS ?_) | ((with_reducible refine hK _ ?_); clear hK K) | ((with_reducible refine PWp.condI ?_); refine ⟨_, rfl, fun hg => ?_, fun hg => ?_⟩ <;> first | (exact absurd hg (by decide)) | ((try simp only [Bool.not_true, Bool.not_false] at hg); (try simp only [hg]); (try simp only [push_cast] at hg); (try exact absurd trivial hg); (try (exfalso; omega)))) | ((with_reducible refine pops_plain fun K hK => ?_); simp (disch := omega) only [push_cast, seval, hx, c1, c2, c3]) | ((with_reducible refine pops_guard ?_); refine ⟨_, rfl, fun K hK => ⟨_, rfl, fun hg => ?_, fun hg => ?_⟩⟩ <;> first | (exact absurd hg (by decide)) | ((try simp only [Bool.not_true, Bool.not_false] at hg); (try simp only [hg]); (try simp only [push_cast] at hg); (try exact absurd trivial hg); (try (exfalso; omega)); (try simp (disch := omega) only [push_cast, seval, hx, c1, c2, c3]))) | ((with_reducible refine And.intro ?_ ?_); omega))
      (refine ⟨k + 1, by ((try dsimp only); omega), ?_, by (refine ⟨[?_], ?_, ?_, ?_, ?_⟩; rotate_left 1; (· ((first | simp (disch := omega) only [push_cast, seval, e] | simp (disch := omega) only [push_cast, seval] | skip); (repeat' (first | exact trivial | exact rfl | refine And.intro ?_ ?_ | omega)))); (· ((first | simp (disch := omega) only [push_cast, seval, e] | simp (disch := omega) only [push_cast, seval] | skip); (repeat' (first | exact trivial | exact rfl | refine And.intro ?_ ?_ | omega)); (try (repeat' (first | exact trivial | exact rfl | refine And.intro ?_ ?_ | omega))))); (· exact rfl); (· (first | exact trivial | exact ⟨rfl, trivial⟩ | exact ⟨rfl, rfl, trivial⟩ | exact ⟨rfl, rfl, rfl, trivial⟩)))⟩)
      exact hlt
    cases c4 : hasI (froms (isV kind round val) (l.take k)) x5 with
    | true =>
      simp only [c1, c2, c3, c4, decide_true, Bool.true_and, Bool.not_true, Bool.and_false, Bool.false_eq_true, if_false] at e
      repeat' (first | with_reducible (first | refine wA ?_ | refine wB ?_ | refine wC ?_) | with_reducible (first | refine wq1 ?_ | refine wq3 ?_ | refine wq4 ?_ | refine wS ?_) | ((with_reducible refine hK _ ?_); clear hK K) | ((with_reducible refine PWp.condI ?_); refine ⟨_, rfl, fun hg => ?_, fun hg => ?_⟩ <;> first | (exact absurd hg (by decide)) | ((try simp only [Bool.not_true, Bool.not_false] at hg); (try simp only [hg]); (try simp only [push_cast] at hg); (try exact absurd trivial hg); (try (exfalso; omega)))) | ((with_reducible refine pops_plain fun K hK => ?_); simp (disch := omega) only [push_cast, seval, hx, c1, c2, c3, c4]) | ((with_reducible refine pops_guard ?_); refine ⟨_, rfl, fun K hK => ⟨_, rfl, fun hg => ?_, fun hg => ?_⟩⟩ <;> first | (exact absurd hg (by decide)) | ((try simp only [Bool.not_true, Bool.not_false] at hg); (try simp only [hg]); (try simp only [push_cast] at hg); (try exact absurd trivial hg); (try (exfalso; omega)); (try simp (disch := omega) only [push_cast, seval, hx, c1, c2, c3, c4]))) | ((with_reducible show pcall _ _ _ _ _ _); ((refine pcV (cf Try.func91) (contains_p _ _ sd) ?_)); (try simp (disch := omega) only [push_cast, seval, hx, c1, c2, c3, c4])) | ((with_reducible refine And.intro ?_ ?_); omega))
      (refine ⟨k + 1, by ((try dsimp only); omega), ?_, by (refine ⟨[?_], ?_, ?_, ?_, ?_⟩; rotate_left 1; (· ((first | simp (disch := omega) only [push_cast, seval, e] | simp (disch := omega) only [push_cast, seval] | skip); (repeat' (first | exact trivial | exact rfl | refine And.intro ?_ ?_ | omega)))); (· ((first | simp (disch := omega) only [push_cast, seval, e] | simp (disch := omega) only [push_cast, seval] | skip); (repeat' (first | exact trivial | exact rfl | refine And.intro ?_ ?_ | omega)); (try (repeat' (first | exact trivial | exact rfl | refine And.intro ?_ ?_ | omega))))); (· exact rfl); (· (first | exact trivial | exact ⟨rfl, trivial⟩ | exact ⟨rfl, rfl, trivial⟩ | exact ⟨rfl, rfl, rfl, trivial⟩)))⟩)
      exact hlt
    | false =>
      simp only [c1, c2, c3, c4, decide_true, Bool.true_and, Bool.not_false, Bool.and_true, if_true] at e
      repeat' (first | with_reducible (first | refine wA ?_ | refine wB ?_ | refine wC ?_) | with_reducible (first | refine wq1 ?_ | refine wq3 ?_ | refine wq4 ?_ | refine wS ?_) | ((with_reducible refine hK _ ?_); clear hK K) | ((with_reducible refine PWp.condI ?_); refine ⟨_, rfl, fun hg => ?_, fun hg => ?_⟩ <;> first | (exact absurd hg (by decide)) | ((try simp only [Bool.not_true, Bool.not_false] at hg); (try simp only [hg]); (try simp only [push_cast] at hg); (try exact absurd trivial hg); (try (exfalso; omega)))) | ((with_reducible refine pops_plain fun K hK => popO_row ?_); refine ⟨_, _, _, _, _, rfl, rfl, rfl, rfl, rfl, ?_⟩; simp (disch := omega) only [push_cast, seval, hx, c1, c2, c3, c4]) | ((with_reducible refine pops_plain fun K hK => ?_); simp (disch := omega) only [push_cast, seval, hx, c1, c2, c3, c4]) | ((with_reducible refine pops_guard ?_); refine ⟨_, rfl, fun K hK => ⟨_, rfl, fun hg => ?_, fun hg => ?_⟩⟩ <;> first | (exact absurd hg (by decide)) | ((try simp only [Bool.not_true, Bool.not_false] at hg); (try simp only [hg]); (try simp only [push_cast] at hg); (try exact absurd trivial hg); (try (exfalso; omega)); (try simp (disch := omega) only [push_cast, seval, hx, c1, c2, c3, c4]))) | ((with_reducible show pcall _ _ _ _ _ _); ((refine pcV (cf Try.func91) (contains_p _ _ sd) ?_)); (try simp (disch := omega) only [push_cast, seval, hx, c1, c2, c3, c4])) | ((with_reducible refine And.intro ?_ ?_); omega))
      (refine ⟨k + 1, by ((try dsimp only); omega), ?_, by (refine ⟨[?_], ?_, ?_, ?_, ?_⟩; rotate_left 1; (· ((first | simp (disch := omega) only [push_cast, seval, e, List.map_append, List.map_cons, List.map_nil, pInt] | simp (disch := omega) only [push_cast, seval] | skip); (repeat' (first | exact trivial | exact rfl | refine And.intro ?_ ?_ | omega)))); (· ((first | simp (disch := omega) only [push_cast, seval, e, List.map_append, List.map_cons, List.map_nil, pInt] | simp (disch := omega) only [push_cast, seval] | skip); (repeat' (first | exact trivial | exact rfl | refine And.intro ?_ ?_ | omega)); (try (repeat' (first | exact trivial | exact rfl | refine And.intro ?_ ?_ | omega))))); (· exact rfl); (· (first | exact trivial | exact ⟨rfl, trivial⟩ | exact ⟨rfl, rfl, trivial⟩ | exact ⟨rfl, rfl, rfl, trivial⟩)))⟩)
      exact hlt
  obtain rfl : k = l.length := by omega
  rw [List.take_length]
  repeat' (first | with_reducible (first | refine wA ?_ | refine wC ?_) | with_reducible (first | refine wq1 ?_ | refine wq3 ?_ | refine wq7 ?_ | refine wq8 ?_ | refine wq9 ?_ | refine wE ?_) | ((with_reducible refine hK _ ?_); clear hK K) | ((with_reducible refine PWp.condI ?_); refine ⟨_, rfl, fun hg => ?_, fun hg => ?_⟩ <;> first | (exact absurd hg (by decide)) | ((try simp only [Bool.not_true, Bool.not_false] at hg); (try simp only [hg]); (try simp only [push_cast] at hg); (try exact absurd trivial hg); (try (exfalso; omega)))) | ((with_reducible refine pops_plain fun K hK => ?_); simp (disch := omega) only [push_cast, seval]))
  ((with_reducible show PPostR _ _ _ _ _ _); refine finV ?_; (try simp only [push_cast, seval]))
  rfl
theorem iCount_o (a : Acting) (kind round val : Int) (hl : a.1.fMsgs.length ≤ 1000000) : PCalls Try.prog 85 [.ptr 0 0, .val (.int .i64 kind), .val (.int .i64 round), .val (.int .i64 val)] (bAct a) (RH (.val (.int .i64 (cntM a.1.fMsgs kind round val))) (bAct a)) := by
  have e := act_vd a 0 []
  have o := act_vo a 0 []
  rw [List.append_nil] at e o
  refine (iCount_v a kind round val hl).viewD 2 (by rw [List.map_cons, e]; rfl) rfl fun p hp => ?_
  simp only [List.mem_cons, List.not_mem_nil, or_false] at hp
  rcases hp with rfl | rfl | rfl | rfl
  · exact o
  all_goals exact rfl
def optM (o : Option GNMsg) : GNMsg × Bool := match o with | some m => (m, true) | none => (msg0, false)
theorem find_hit {α : Type} {p : α → Bool} {x : α} : ∀ {l : List α} {k : Nat}, l[k]? = some x → p x = true → noneTo p l k → l.find? p = some x
  | [], k, h, _, _ => by simp at h
  | y :: r, 0, h, hx, _ => by
    simp only [List.getElem?_cons_zero, Option.some.injEq] at h
    subst h
    rw [List.find?_cons_of_pos hx]
  | y :: r, k + 1, h, hx, hn => by
    have hy : p y = false := hn 0 y (by omega) rfl
    rw [List.find?_cons_of_neg (by simp [hy])]
    exact find_hit (k := k) (by simpa using h) hx fun i z hi hz => hn (i + 1) z (by omega) (by simpa using hz)
theorem find_end {α : Type} {p : α → Bool} {l : List α} (hn : noneTo p l l.length) : l.find? p = none := by
  rw [List.find?_eq_none]
  intro x hx
  obtain ⟨k, hk⟩ := List.getElem?_of_mem hx
  have := hn k x (List.getElem?_eq_some_iff.1 hk).1 hk
  simp [this]
theorem rule1_v (m : GNMsg) : PCalls Try.prog 83 [.agg (pNMsg m)] [] (RV (.val (.bool (decide (m.fPol = -1))))) := by
  refine pcalls_ofR okP Try.func83 rfl ?_
  simp only [Try.f83, List.length_cons, List.length_nil, Nat.reduceAdd, Nat.reduceSub, List.replicate_succ, List.replicate_zero, List.cons_append, List.nil_append, List.length_map]
  repeat' (first | with_reducible (first | refine wA ?_ | refine wC ?_) | with_reducible (first | refine wq1 ?_ | refine wq3 ?_ | refine wq9 ?_) | ((with_reducible refine hK _ ?_); clear hK K) | ((with_reducible refine pops_plain fun K hK => ?_); simp (disch := omega) only [push_cast, seval]))
  ((with_reducible show PPostR _ _ _ _ _ _); refine finV ?_; (try simp only [push_cast, seval]))
  exact eqI_B
theorem rule2_v (a : Acting) (m : GNMsg) (hl : a.1.fMsgs.length ≤ 1000000) : PCalls Try.prog 84 [.agg (pNMsg m), .eptr [.eptr (fAct a) 0] 0] [] (RV (.val (.bool (decide (0 ≤ m.fPol) && decide (3 ≤ cntM a.1.fMsgs 2 m.fPol m.fVal))))) := by
  have c := iCount_v a 2 m.fPol m.fVal hl
  generalize cntM a.1.fMsgs 2 m.fPol m.fVal = z at c ⊢
  obtain ⟨m1, m2, m3, m4, m5⟩ := m
  refine pcalls_ofR okP Try.func84 rfl ?_
  simp only [Try.f84, List.length_cons, List.length_nil, Nat.reduceAdd, Nat.reduceSub, List.replicate_succ, List.replicate_zero, List.cons_append, List.nil_append, List.length_map]
  repeat' (first | with_reducible (first | refine wA ?_ | refine wC ?_) | with_reducible (first | refine wq1 ?_ | refine wq3 ?_ | refine wq9 ?_) | ((with_reducible refine hK _ ?_); clear hK K) | ((with_reducible refine pops_plain fun K hK => ?_); simp (disch := omega) only [push_cast, seval]) | ((with_reducible refine pops_guard ?_); refine ⟨_, rfl, fun K hK => ⟨_, rfl, fun hg => ?_, fun hg => ?_⟩⟩ <;> first | (exact absurd hg (by decide)) | ((try simp only [Bool.not_true, Bool.not_false] at hg); (try simp only [hg]); (try simp only [push_cast] at hg); (try exact absurd trivial hg); (try (exfalso; omega)); (try simp (disch := omega) only [push_cast, seval]))) | ((with_reducible show pcall _ _ _ _ _ _); ((refine pcV (cf Try.func85) (c) ?_)); (try simp (disch := omega) only [push_cast, seval])))
  all_goals
    ((with_reducible show PPostR _ _ _ _ _ _); refine finV ?_; (try simp only [push_cast, seval]))
    simp_all
    try (intros; omega)
theorem rule3_v (a : Acting) (m : GNMsg) (hl : a.1.fMsgs.length ≤ 1000000) : PCalls Try.prog 86 [.agg (pNMsg m), .eptr [.eptr (fAct a) 0] 0] [] (RV (.val (.bool (decide (3 ≤ cntM a.1.fMsgs 2 a.1.fRound m.fVal))))) := by
  have c := iCount_v a 2 a.1.fRound m.fVal hl
  obtain ⟨⟨n1, n2, n3, n4, n5, n6, n7, n8, n9, l⟩, s⟩ := a
  dsimp only at c ⊢
  generalize cntM l 2 n2 m.fVal = z at c ⊢
  obtain ⟨m1, m2, m3, m4, m5⟩ := m
  refine pcalls_ofR okP Try.func86 rfl ?_
  simp only [Try.f86, List.length_cons, List.length_nil, Nat.reduceAdd, Nat.reduceSub, List.replicate_succ, List.replicate_zero, List.cons_append, List.nil_append, List.length_map]
  repeat' (first | with_reducible (first | refine wA ?_ | refine wC ?_) | with_reducible refine PWp.draw (id := 1) okP true [0, 1, 2, 3, 4, 5, 6, 7, 8, 9] (by kernel_rfl) ?_ | with_reducible (first | refine wq1 ?_ | refine wq2 ?_ | refine wq3 ?_ | refine wq9 ?_) | ((with_reducible refine hK _ ?_); clear hK K) | ((with_reducible refine pany_I ?_); refine ⟨_, rfl, fun K hK => ?_⟩) | ((with_reducible refine pops_plain fun K hK => ?_); simp (disch := omega) only [push_cast, seval]) | ((first | ((with_reducible refine pD_y ?_ ?_); exact rfl) | ((with_reducible refine pD_x ?_ ?_); exact rfl)); simp (disch := omega) only [push_cast, seval]) | ((with_reducible show pcall _ _ _ _ _ _); ((refine pcV (cf Try.func85) (c) ?_)); (try simp (disch := omega) only [push_cast, seval])))
  ((with_reducible show PPostR _ _ _ _ _ _); refine finV ?_; (try simp only [push_cast, seval]))
set_option maxHeartbeats 4000000 in
theorem iProp1_v (a : Acting) (hl : a.1.fMsgs.length ≤ 1000000) : PCalls Try.prog 82 [.eptr (fAct a) 0, .val (.func (.func 83) #[] #[])] [] (RV (.tup [.agg (pNMsg (optM (propose a.1.fMsgs a.1.fRound (fun m => decide (m.fPol = -1)))).1), .val (.bool (optM (propose a.1.fMsgs a.1.fRound (fun m => decide (m.fPol = -1)))).2)])) := by
  have cloC : Callable Try.prog 83 := callable_of Try.func83 rfl rfl
  have h' := fun m => rule1_v m
  obtain ⟨⟨n1, n2, n3, n4, n5, n6, n7, n8, n9, l⟩, s⟩ := a
  dsimp only at hl h' ⊢
  generalize hp : (fun m : GNMsg => decide (m.fPol = -1)) = p
  have h2 : ∀ m, p m = (fun m : GNMsg => decide (m.fPol = -1)) m := fun m => by rw [hp]
  dsimp only at h2
  simp only [← h2] at h'
  refine pcalls_ofR okP Try.func82 rfl ?_
  simp only [Try.f82, List.length_cons, List.length_nil, Nat.reduceAdd, Nat.reduceSub, List.replicate_succ, List.replicate_zero, List.cons_append, List.nil_append, List.length_map]
  repeat' (first | with_reducible (first | refine wA ?_ | refine wB ?_ | refine wC ?_) | with_reducible (first | refine wq1 ?_ | refine wq3 ?_) | ((with_reducible refine hK _ ?_); clear hK K) | ((with_reducible refine pops_plain fun K hK => ?_); simp (disch := omega) only [push_cast, seval]))
  refine PWp.loopK (α := Nat) (fun k => [(4, .ptr 0 0), (14, .val (.int .i64 (k : Int)))]) [2, 3, 5, 6, 7, 8, 9, 10, 11, 15, 16, 17, 18, 19, 20, 21, 22, 23, 24, 25, 26, 27, 28, 29, 30, 31, 32, 33, 34, 35, 36, 37] (fun k => [some (.box (pNMsg msg0))]) (fun k => k ≤ l.length ∧ noneTo (isProp n2 p) l k) (fun k => l.length - k) (0) (⟨Nat.zero_le _, noneTo_zero⟩) (by exact fitA [_]) ?_
  intro k ρ hI
  (try dsimp only at hI)
  refine PWp.at (tm' := ?_) (H' := ?_) ?_ ?_ ?_; rotate_left 2; (· ((try simp only [push_cast, seval]); exact rfl)); (· ((try dsimp only); exact rfl))
  obtain ⟨hk, hA⟩ := hI
  by_cases hlt : k < l.length
  · obtain ⟨x, hx⟩ : ∃ x, l[k]? = some x := ⟨_, List.getElem?_eq_getElem hlt⟩
    obtain ⟨x1, x2, x3, x4, x5⟩ := x
    by_cases c1 : x1 = 1
    case neg =>
      have hn := noneTo_succ hA hx (by simp [isProp, c1])
      repeat' (first | with_reducible (first | refine wA ?_ | refine wB ?_ | refine wC ?_) | with_reducible refine PWp.draw (id := 4) okP true [0, 1, 2, 3, 4, 5, 6, 7, 8, 9, 10, 11, 12, 13, 14, 15, 16, 17] (by kernel_rfl) ?_ | with_reducible (first | refine wq1 ?_ | refine wq2 ?_ | refine wq3 ?_ | refine wq4 ?_ | refine wS ?_) | ((with_reducible refine hK _ ?_); clear hK K) | ((with_reducible refine PWp.condI ?_); refine ⟨_, rfl, fun hg => ?_, fun hg => ?_⟩ <;> first | (exact absurd hg (by decide)) | ((try simp only [Bool.not_true, Bool.not_false] at hg); (try simp only [hg]); (try simp only [push_cast] at hg); (try exact absurd trivial hg); (try (exfalso; omega)))) | ((with_reducible refine pany_I ?_); refine ⟨_, rfl, fun K hK => ?_⟩) | ((with_reducible refine pops_plain fun K hK => ?_); simp (disch := omega) only [push_cast, seval, hx, c1]) | ((((with_reducible refine pD_y ?_ ?_); exact rfl)); simp (disch := omega) only [push_cast, seval, hx, c1]) | ((((first | ((with_reducible refine pD_gy ?_ ?_); exact rfl) | ((with_reducible refine pD_gx ?_ ?_); exact rfl)); refine ⟨_, rfl, _, rfl, fun hg => ?_, fun hg => ?_⟩)) <;> first | (exact absurd hg (by decide)) | ((try simp only [Bool.not_true, Bool.not_false] at hg); (try simp only [hg]); (try simp only [push_cast] at hg); (try exact absurd trivial hg); (try (exfalso; omega)); (try simp (disch := omega) only [push_cast, seval, hx, c1]))) | ((with_reducible refine And.intro ?_ ?_); omega))
      (refine ⟨k + 1, by ((try dsimp only); omega), ?_, by exact fitA [_]⟩)
      exact ⟨hlt, hn⟩
    by_cases c2 : x2 = n2
    case neg =>
      have hn := noneTo_succ hA hx (by simp [isProp, c2])
      repeat' (first | with_reducible (first | refine wA ?_ | refine wB ?_ | refine wC ?_) | with_reducible refine PWp.draw (id := 4) okP true [0, 1, 2, 3, 4, 5, 6, 7, 8, 9, 10, 11, 12, 13, 14, 15, 16, 17] (by kernel_rfl) ?_ | with_reducible (first | refine wq1 ?_ | refine wq2 ?_ | refine wq3 ?_ | refine wq4 ?_ | refine wS ?_) | ((with_reducible refine hK _ ?_); clear hK K) | ((with_reducible refine PWp.condI ?_); refine ⟨_, rfl, fun hg => ?_, fun hg => ?_⟩ <;> first | (exact absurd hg (by decide)) | ((try simp only [Bool.not_true, Bool.not_false] at hg); (try simp only [hg]); (try simp only [push_cast] at hg); (try exact absurd trivial hg); (try (exfalso; omega)))) | ((with_reducible refine pany_I ?_); refine ⟨_, rfl, fun K hK => ?_⟩) | ((with_reducible refine pops_plain fun K hK => ?_); simp (disch := omega) only [push_cast, seval, hx, c1, c2]) | ((((with_reducible refine pD_y ?_ ?_); exact rfl)); simp (disch := omega) only [push_cast, seval, hx, c1, c2]) | ((((first | ((with_reducible refine pD_gy ?_ ?_); exact rfl) | ((with_reducible refine pD_gx ?_ ?_); exact rfl)); refine ⟨_, rfl, _, rfl, fun hg => ?_, fun hg => ?_⟩)) <;> first | (exact absurd hg (by decide)) | ((try simp only [Bool.not_true, Bool.not_false] at hg); (try simp only [hg]); (try simp only [push_cast] at hg); (try exact absurd trivial hg); (try (exfalso; omega)); (try simp (disch := omega) only [push_cast, seval, hx, c1, c2]))) | ((with_reducible refine And.intro ?_ ?_); omega))
      (refine ⟨k + 1, by ((try dsimp only); omega), ?_, by exact fitA [_]⟩)
      exact ⟨hlt, hn⟩
    subst x1
    subst x2
    cases c3 : p ⟨1, n2, x3, x4, x5⟩ with
    | false =>
      have hn := noneTo_succ hA hx (by simp [isProp, c3])
      repeat' (first | with_reducible (first | refine wA ?_ | refine wB ?_ | refine wC ?_) | with_reducible refine PWp.draw (id := 4) okP true [0, 1, 2, 3, 4, 5, 6, 7, 8, 9, 10, 11, 12, 13, 14, 15, 16, 17] (by kernel_rfl) ?_ | with_reducible (first | refine wq1 ?_ | refine wq2 ?_ | refine wq3 ?_ | refine wq4 ?_ | refine wS ?_) | ((with_reducible refine hK _ ?_); clear hK K) | ((with_reducible refine PWp.condI ?_); refine ⟨_, rfl, fun hg => ?_, fun hg => ?_⟩ <;> first | (exact absurd hg (by decide)) | ((try simp only [Bool.not_true, Bool.not_false] at hg); (try simp only [hg]); (try simp only [push_cast] at hg); (try exact absurd trivial hg); (try (exfalso; omega)))) | ((with_reducible refine pany_I ?_); refine ⟨_, rfl, fun K hK => ?_⟩) | ((with_reducible refine pops_plain fun K hK => ?_); simp (disch := omega) only [push_cast, seval, hx, c3]) | ((((with_reducible refine pD_y ?_ ?_); exact rfl)); simp (disch := omega) only [push_cast, seval, hx, c3]) | ((((first | ((with_reducible refine pD_gy ?_ ?_); exact rfl) | ((with_reducible refine pD_gx ?_ ?_); exact rfl)); refine ⟨_, rfl, _, rfl, fun hg => ?_, fun hg => ?_⟩)) <;> first | (exact absurd hg (by decide)) | ((try simp only [Bool.not_true, Bool.not_false] at hg); (try simp only [hg]); (try simp only [push_cast] at hg); (try exact absurd trivial hg); (try (exfalso; omega)); (try simp (disch := omega) only [push_cast, seval, hx, c3]))) | ((with_reducible show pcall _ _ _ _ _ _); ((refine pcV (g := 83) cloC (h' ⟨_, _, _, _, _⟩) ?_)); (try simp (disch := omega) only [push_cast, seval, hx, c3])) | ((with_reducible refine And.intro ?_ ?_); omega))
      (refine ⟨k + 1, by ((try dsimp only); omega), ?_, by exact fitA [_]⟩)
      exact ⟨hlt, hn⟩
    | true =>
      have e : propose l n2 p = some ⟨1, n2, x3, x4, x5⟩ := find_hit hx (by simp [isProp, c3]) hA
      repeat' (first | with_reducible (first | refine wA ?_ | refine wB ?_ | refine wC ?_) | with_reducible refine PWp.draw (id := 4) okP true [0, 1, 2, 3, 4, 5, 6, 7, 8, 9, 10, 11, 12, 13, 14, 15, 16, 17] (by kernel_rfl) ?_ | with_reducible (first | refine wq1 ?_ | refine wq2 ?_ | refine wq3 ?_ | refine wq5 ?_ | refine wq6 ?_ | refine wq9 ?_ | refine wS ?_) | ((with_reducible refine hK _ ?_); clear hK K) | ((with_reducible refine PWp.condI ?_); refine ⟨_, rfl, fun hg => ?_, fun hg => ?_⟩ <;> first | (exact absurd hg (by decide)) | ((try simp only [Bool.not_true, Bool.not_false] at hg); (try simp only [hg]); (try simp only [push_cast] at hg); (try exact absurd trivial hg); (try (exfalso; omega)))) | ((with_reducible refine pany_I ?_); refine ⟨_, rfl, fun K hK => ?_⟩) | ((with_reducible refine pops_plain fun K hK => ?_); simp (disch := omega) only [push_cast, seval, hx, c3]) | ((((with_reducible refine pD_y ?_ ?_); exact rfl)); simp (disch := omega) only [push_cast, seval, hx, c3]) | ((((first | ((with_reducible refine pD_gy ?_ ?_); exact rfl) | ((with_reducible refine pD_gx ?_ ?_); exact rfl)); refine ⟨_, rfl, _, rfl, fun hg => ?_, fun hg => ?_⟩)) <;> first | (exact absurd hg (by decide)) | ((try simp only [Bool.not_true, Bool.not_false] at hg); (try simp only [hg]); (try simp only [push_cast] at hg); (try exact absurd trivial hg); (try (exfalso; omega)); (try simp (disch := omega) only [push_cast, seval, hx, c3]))) | ((with_reducible show pcall _ _ _ _ _ _); ((refine pcV (g := 83) cloC (h' ⟨_, _, _, _, _⟩) ?_)); (try simp (disch := omega) only [push_cast, seval, hx, c3])) | ((with_reducible refine And.intro ?_ ?_); omega))
      ((with_reducible show PPostR _ _ _ _ _ _); refine finV ?_; (try simp only [push_cast, seval]))
      rw [e]
      exact ⟨rfl, rfl, rfl, rfl, rfl, rfl⟩
  obtain rfl : k = l.length := by omega
  have e : propose l n2 p = none := find_end hA
  repeat' (first | with_reducible (first | refine wA ?_ | refine wC ?_) | with_reducible (first | refine wq1 ?_ | refine wq3 ?_ | refine wq7 ?_ | refine wq8 ?_ | refine wq9 ?_ | refine wE ?_) | ((with_reducible refine hK _ ?_); clear hK K) | ((with_reducible refine PWp.condI ?_); refine ⟨_, rfl, fun hg => ?_, fun hg => ?_⟩ <;> first | (exact absurd hg (by decide)) | ((try simp only [Bool.not_true, Bool.not_false] at hg); (try simp only [hg]); (try simp only [push_cast] at hg); (try exact absurd trivial hg); (try (exfalso; omega)))) | ((with_reducible refine pops_plain fun K hK => popO_build ?_); refine ⟨_, rfl, _, rfl, ?_⟩; simp (disch := omega) only [push_cast, seval]) | ((with_reducible refine pops_plain fun K hK => ?_); simp (disch := omega) only [push_cast, seval]))
  ((with_reducible show PPostR _ _ _ _ _ _); refine finV ?_; (try simp only [push_cast, seval]))
  rw [e]
  exact ⟨rfl, rfl, rfl, rfl, rfl, rfl⟩
set_option maxHeartbeats 4000000 in
theorem iProp2_v (a : Acting) (hl : a.1.fMsgs.length ≤ 1000000) : PCalls Try.prog 82 [.eptr (fAct a) 0, .clo 84 [.eptr [.eptr (fAct a) 0] 0]] [] (RV (.tup [.agg (pNMsg (optM (propose a.1.fMsgs a.1.fRound (fun m => decide (0 ≤ m.fPol) && decide (3 ≤ cntM a.1.fMsgs 2 m.fPol m.fVal)))).1), .val (.bool (optM (propose a.1.fMsgs a.1.fRound (fun m => decide (0 ≤ m.fPol) && decide (3 ≤ cntM a.1.fMsgs 2 m.fPol m.fVal)))).2)])) := by
  have cloC : Callable Try.prog 84 := callable_of Try.func84 rfl rfl
  have h' := fun m => rule2_v a m hl
  obtain ⟨⟨n1, n2, n3, n4, n5, n6, n7, n8, n9, l⟩, s⟩ := a
  dsimp only at hl h' ⊢
  generalize hp : (fun m : GNMsg => decide (0 ≤ m.fPol) && decide (3 ≤ cntM l 2 m.fPol m.fVal)) = p
  have h2 : ∀ m, p m = (fun m : GNMsg => decide (0 ≤ m.fPol) && decide (3 ≤ cntM l 2 m.fPol m.fVal)) m := fun m => by rw [hp]
  dsimp only at h2
  simp only [← h2] at h'
  refine pcalls_ofR okP Try.func82 rfl ?_
  simp only [Try.f82, List.length_cons, List.length_nil, Nat.reduceAdd, Nat.reduceSub, List.replicate_succ, List.replicate_zero, List.cons_append, List.nil_append, List.length_map]
  repeat' (first | with_reducible (first | refine wA ?_ | refine wB ?_ | refine wC ?_) | with_reducible (first | refine wq1 ?_ | refine wq3 ?_) | ((with_reducible refine hK _ ?_); clear hK K) | ((with_reducible refine pops_plain fun K hK => ?_); simp (disch := omega) only [push_cast, seval]))
  refine PWp.loopK (α := Nat) (fun k => [(4, .ptr 0 0), (14, .val (.int .i64 (k : Int)))]) [2, 3, 5, 6, 7, 8, 9, 10, 11, 15, 16, 17, 18, 19, 20, 21, 22, 23, 24, 25, 26, 27, 28, 29, 30, 31, 32, 33, 34, 35, 36, 37] (fun k => [some (.box (pNMsg msg0))]) (fun k => k ≤ l.length ∧ noneTo (isProp n2 p) l k) (fun k => l.length - k) (0) (⟨Nat.zero_le _, noneTo_zero⟩) (by exact fitA [_]) ?_
  intro k ρ hI
  (try dsimp only at hI)
  refine PWp.at (tm' := ?_) (H' := ?_) ?_ ?_ ?_; rotate_left 2; (· ((try simp only [push_cast, seval]); exact rfl)); (· ((try dsimp only); exact rfl))
  obtain ⟨hk, hA⟩ := hI
  by_cases hlt : k < l.length
  · obtain ⟨x, hx⟩ : ∃ x, l[k]? = some x := ⟨_, List.getElem?_eq_getElem hlt⟩
    obtain ⟨x1, x2, x3, x4, x5⟩ := x
    by_cases c1 : x1 = 1
    case neg =>
      have hn := noneTo_succ hA hx (by simp [isProp, c1])
      repeat' (first | with_reducible (first | refine wA ?_ | refine wB ?_ | refine wC ?_) | with_reducible refine PWp.draw (id := 4) okP true [0, 1, 2, 3, 4, 5, 6, 7, 8, 9, 10, 11, 12, 13, 14, 15, 16, 17] (by kernel_rfl) ?_ | with_reducible (first | refine wq1 ?_ | refine wq2 ?_ | refine wq3 ?_ | refine wq4 ?_ | refine wS ?_) | ((with_reducible refine hK _ ?_); clear hK K) | ((with_reducible refine PWp.condI ?_); refine ⟨_, rfl, fun hg => ?_, fun hg => ?_⟩ <;> first | (exact absurd hg (by decide)) | ((try simp only [Bool.not_true, Bool.not_false] at hg); (try simp only [hg]); (try simp only [push_cast] at hg); (try exact absurd trivial hg); (try (exfalso; omega)))) | ((with_reducible refine pany_I ?_); refine ⟨_, rfl, fun K hK => ?_⟩) | ((with_reducible refine pops_plain fun K hK => ?_); simp (disch := omega) only [push_cast, seval, hx, c1]) | ((((with_reducible refine pD_y ?_ ?_); exact rfl)); simp (disch := omega) only [push_cast, seval, hx, c1]) | ((((first | ((with_reducible refine pD_gy ?_ ?_); exact rfl) | ((with_reducible refine pD_gx ?_ ?_); exact rfl)); refine ⟨_, rfl, _, rfl, fun hg => ?_, fun hg => ?_⟩)) <;> first | (exact absurd hg (by decide)) | ((try simp only [Bool.not_true, Bool.not_false] at hg); (try simp only [hg]); (try simp only [push_cast] at hg); (try exact absurd trivial hg); (try (exfalso; omega)); (try simp (disch := omega) only [push_cast, seval, hx, c1]))) | ((with_reducible refine And.intro ?_ ?_); omega))
      (refine ⟨k + 1, by ((try dsimp only); omega), ?_, by exact fitA [_]⟩)
      exact ⟨hlt, hn⟩
    by_cases c2 : x2 = n2
    case neg =>
      have hn := noneTo_succ hA hx (by simp [isProp, c2])
      repeat' (first | with_reducible (first | refine wA ?_ | refine wB ?_ | refine wC ?_) | with_reducible refine PWp.draw (id := 4) okP true [0, 1, 2, 3, 4, 5, 6, 7, 8, 9, 10, 11, 12, 13, 14, 15, 16, 17] (by kernel_rfl) ?_ | with_reducible (first | refine wq1 ?_ | refine wq2 ?_ | refine wq3 ?_ | refine wq4 ?_ | refine wS ?_) | ((with_reducible refine hK _ ?_); clear hK K) | ((with_reducible refine PWp.condI ?_); refine ⟨_, rfl, fun hg => ?_, fun hg => ?_⟩ <;> first | (exact absurd hg (by decide)) | ((try simp only [Bool.not_true, Bool.not_false] at hg); (try simp only [hg]); (try simp only [push_cast] at hg); (try exact absurd trivial hg); (try (exfalso; omega)))) | ((with_reducible refine pany_I ?_); refine ⟨_, rfl, fun K hK => ?_⟩) | ((with_reducible refine pops_plain fun K hK => ?_); simp (disch := omega) only [push_cast, seval, hx, c1, c2]) | ((((with_reducible refine pD_y ?_ ?_); exact rfl)); simp (disch := omega) only [push_cast, seval, hx, c1, c2]) | ((((first | ((with_reducible refine pD_gy ?_ ?_); exact rfl) | ((with_reducible refine pD_gx ?_ ?_); exact rfl)); refine ⟨_, rfl, _, rfl, fun hg => ?_, fun hg => ?_⟩)) <;> first | (exact absurd hg (by decide)) | ((try simp only [Bool.not_true, Bool.not_false] at hg); (try simp only [hg]); (try simp only [push_cast] at hg); (try exact absurd trivial hg); (try (exfalso; omega)); (try simp (disch := omega) only [push_cast, seval, hx, c1, c2]))) | ((with_reducible refine And.intro ?_ ?_); omega))
      (refine ⟨k + 1, by ((try dsimp only); omega), ?_, by exact fitA [_]⟩)
      exact ⟨hlt, hn⟩
    subst x1
    subst x2
    cases c3 : p ⟨1, n2, x3, x4, x5⟩ with
    | false =>
      have hn := noneTo_succ hA hx (by simp [isProp, c3])
      repeat' (first | with_reducible (first | refine wA ?_ | refine wB ?_ | refine wC ?_) | with_reducible refine PWp.draw (id := 4) okP true [0, 1, 2, 3, 4, 5, 6, 7, 8, 9, 10, 11, 12, 13, 14, 15, 16, 17] (by kernel_rfl) ?_ | with_reducible (first | refine wq1 ?_ | refine wq2 ?_ | refine wq3 ?_ | refine wq4 ?_ | refine wS ?_) | ((with_reducible refine hK _ ?_); clear hK K) | ((with_reducible refine PWp.condI ?_); refine ⟨_, rfl, fun hg => ?_, fun hg => ?_⟩ <;> first | (exact absurd hg (by decide)) | ((try simp only [Bool.not_true, Bool.not_false] at hg); (try simp only [hg]); (try simp only [push_cast] at hg); (try exact absurd trivial hg); (try (exfalso; omega)))) | ((with_reducible refine pany_I ?_); refine ⟨_, rfl, fun K hK => ?_⟩) | ((with_reducible refine pops_plain fun K hK => ?_); simp (disch := omega) only [push_cast, seval, hx, c3]) | ((((with_reducible refine pD_y ?_ ?_); exact rfl)); simp (disch := omega) only [push_cast, seval, hx, c3]) | ((((first | ((with_reducible refine pD_gy ?_ ?_); exact rfl) | ((with_reducible refine pD_gx ?_ ?_); exact rfl)); refine ⟨_, rfl, _, rfl, fun hg => ?_, fun hg => ?_⟩)) <;> first | (exact absurd hg (by decide)) | ((try simp only [Bool.not_true, Bool.not_false] at hg); (try simp only [hg]); (try simp only [push_cast] at hg); (try exact absurd trivial hg); (try (exfalso; omega)); (try simp (disch := omega) only [push_cast, seval, hx, c3]))) | ((with_reducible show pcall _ _ _ _ _ _); ((refine pcV (g := 84) cloC (h' ⟨_, _, _, _, _⟩) ?_)); (try simp (disch := omega) only [push_cast, seval, hx, c3])) | ((with_reducible refine And.intro ?_ ?_); omega))
      (refine ⟨k + 1, by ((try dsimp only); omega), ?_, by exact fitA [_]⟩)
      exact ⟨hlt, hn⟩
    | true =>
      have e : propose l n2 p = some ⟨1, n2, x3, x4, x5⟩ := find_hit hx (by simp [isProp, c3]) hA
      repeat' (first | with_reducible (first | refine wA ?_ | refine wB ?_ | refine wC ?_) | with_reducible refine PWp.draw (id := 4) okP true [0, 1, 2, 3, 4, 5, 6, 7, 8, 9, 10, 11, 12, 13, 14, 15, 16, 17] (by kernel_rfl) ?_ | with_reducible (first | refine wq1 ?_ | refine wq2 ?_ | refine wq3 ?_ | refine wq5 ?_ | refine wq6 ?_ | refine wq9 ?_ | refine wS ?_) | ((with_reducible refine hK _ ?_); clear hK K) | ((with_reducible refine PWp.condI ?_); refine ⟨_, rfl, fun hg => ?_, fun hg => ?_⟩ <;> first | (exact absurd hg (by decide)) | ((try simp only [Bool.not_true, Bool.not_false] at hg); (try simp only [hg]); (try simp only [push_cast] at hg); (try exact absurd trivial hg); (try (exfalso; omega)))) | ((with_reducible refine pany_I ?_); refine ⟨_, rfl, fun K hK => ?_⟩) | ((with_reducible refine pops_plain fun K hK => ?_); simp (disch := omega) only [push_cast, seval, hx, c3]) | ((((with_reducible refine pD_y ?_ ?_); exact rfl)); simp (disch := omega) only [push_cast, seval, hx, c3]) | ((((first | ((with_reducible refine pD_gy ?_ ?_); exact rfl) | ((with_reducible refine pD_gx ?_ ?_); exact rfl)); refine ⟨_, rfl, _, rfl, fun hg => ?_, fun hg => ?_⟩)) <;> first | (exact absurd hg (by decide)) | ((try simp only [Bool.not_true, Bool.not_false] at hg); (try simp only [hg]); (try simp only [push_cast] at hg); (try exact absurd trivial hg); (try (exfalso; omega)); (try simp (disch := omega) only [push_cast, seval, hx, c3]))) | ((with_reducible show pcall _ _ _ _ _ _); ((refine pcV (g := 84) cloC (h' ⟨_, _, _, _, _⟩) ?_)); (try simp (disch := omega) only [push_cast, seval, hx, c3])) | ((with_reducible refine And.intro ?_ ?_); omega))
      ((with_reducible show PPostR _ _ _ _ _ _); refine finV ?_; (try simp only [push_cast, seval]))
      rw [e]
      exact ⟨rfl, rfl, rfl, rfl, rfl, rfl⟩
  obtain rfl : k = l.length := by omega
  have e : propose l n2 p = none := find_end hA
  repeat' (first | with_reducible (first | refine wA ?_ | refine wC ?_) | with_reducible (first | refine wq1 ?_ | refine wq3 ?_ | refine wq7 ?_ | refine wq8 ?_ | refine wq9 ?_ | refine wE ?_) | ((with_reducible refine hK _ ?_); clear hK K) | ((with_reducible refine PWp.condI ?_); refine ⟨_, rfl, fun hg => ?_, fun hg => ?_⟩ <;> first | (exact absurd hg (by decide)) | ((try simp only [Bool.not_true, Bool.not_false] at hg); (try simp only [hg]); (try simp only [push_cast] at hg); (try exact absurd trivial hg); (try (exfalso; omega)))) | ((with_reducible refine pops_plain fun K hK => popO_build ?_); refine ⟨_, rfl, _, rfl, ?_⟩; simp (disch := omega) only [push_cast, seval]) | ((with_reducible refine pops_plain fun K hK => ?_); simp (disch := omega) only [push_cast, seval]))
  ((with_reducible show PPostR _ _ _ _ _ _); refine finV ?_; (try simp only [push_cast, seval]))
  rw [e]
  exact ⟨rfl, rfl, rfl, rfl, rfl, rfl⟩
set_option maxHeartbeats 4000000 in
theorem iProp3_v (a : Acting) (hl : a.1.fMsgs.length ≤ 1000000) : PCalls Try.prog 82 [.eptr (fAct a) 0, .clo 86 [.eptr [.eptr (fAct a) 0] 0]] [] (RV (.tup [.agg (pNMsg (optM (propose a.1.fMsgs a.1.fRound (fun m => decide (3 ≤ cntM a.1.fMsgs 2 a.1.fRound m.fVal)))).1), .val (.bool (optM (propose a.1.fMsgs a.1.fRound (fun m => decide (3 ≤ cntM a.1.fMsgs 2 a.1.fRound m.fVal)))).2)])) := by
  have cloC : Callable Try.prog 86 := callable_of Try.func86 rfl rfl
  have h' := fun m => rule3_v a m hl
  obtain ⟨⟨n1, n2, n3, n4, n5, n6, n7, n8, n9, l⟩, s⟩ := a
  dsimp only at hl h' ⊢
  generalize hp : (fun m : GNMsg => decide (3 ≤ cntM l 2 n2 m.fVal)) = p
  have h2 : ∀ m, p m = (fun m : GNMsg => decide (3 ≤ cntM l 2 n2 m.fVal)) m := fun m => by rw [hp]
  dsimp only at h2
  simp only [← h2] at h'
  refine pcalls_ofR okP Try.func82 rfl ?_
  simp only [Try.f82, List.length_cons, List.length_nil, Nat.reduceAdd, Nat.reduceSub, List.replicate_succ, List.replicate_zero, List.cons_append, List.nil_append, List.length_map]
  repeat' (first | with_reducible (first | refine wA ?_ | refine wB ?_ | refine wC ?_) | with_reducible (first | refine wq1 ?_ | refine wq3 ?_) | ((with_reducible refine hK _ ?_); clear hK K) | ((with_reducible refine pops_plain fun K hK => ?_); simp (disch := omega) only [push_cast, seval]))
  refine PWp.loopK (α := Nat) (fun k => [(4, .ptr 0 0), (14, .val (.int .i64 (k : Int)))]) [2, 3, 5, 6, 7, 8, 9, 10, 11, 15, 16, 17, 18, 19, 20, 21, 22, 23, 24, 25, 26, 27, 28, 29, 30, 31, 32, 33, 34, 35, 36, 37] (fun k => [some (.box (pNMsg msg0))]) (fun k => k ≤ l.length ∧ noneTo (isProp n2 p) l k) (fun k => l.length - k) (0) (⟨Nat.zero_le _, noneTo_zero⟩) (by exact fitA [_]) ?_
  intro k ρ hI
  (try dsimp only at hI)
  refine PWp.at (tm' := ?_) (H' := ?_) ?_ ?_ ?_; rotate_left 2; (· ((try simp only [push_cast, seval]); exact rfl)); (· ((try dsimp only); exact rfl))
  obtain ⟨hk, hA⟩ := hI
  by_cases hlt : k < l.length
  · obtain ⟨x, hx⟩ : ∃ x, l[k]? = some x := ⟨_, List.getElem?_eq_getElem hlt⟩
    obtain ⟨x1, x2, x3, x4, x5⟩ := x
    by_cases c1 : x1 = 1
    case neg =>
      have hn := noneTo_succ hA hx (by simp [isProp, c1])
      repeat' (first | with_reducible (first | refine wA ?_ | refine wB ?_ | refine wC ?_) | with_reducible refine PWp.draw (id := 4) okP true [0, 1, 2, 3, 4, 5, 6, 7, 8, 9, 10, 11, 12, 13, 14, 15, 16, 17] (by kernel_rfl) ?_ | with_reducible (first | refine wq1 ?_ | refine wq2 ?_ | refine wq3 ?_ | refine wq4 ?_ | refine wS ?_) | ((with_reducible refine hK _ ?_); clear hK K) | ((with_reducible refine PWp.condI ?_); refine ⟨_, rfl, fun hg => ?_, fun hg => ?_⟩ <;> first | (exact absurd hg (by decide)) | ((try simp only [Bool.not_true, Bool.not_false] at hg); (try simp only [hg]); (try simp only [push_cast] at hg); (try exact absurd trivial hg); (try (exfalso; omega)))) | ((with_reducible refine pany_I ?_); refine ⟨_, rfl, fun K hK => ?_⟩) | ((with_reducible refine pops_plain fun K hK => ?_); simp (disch := omega) only [push_cast, seval, hx, c1]) | ((((with_reducible refine pD_y ?_ ?_); exact rfl)); simp (disch := omega) only [push_cast, seval, hx, c1]) | ((((first | ((with_reducible refine pD_gy ?_ ?_); exact rfl) | ((with_reducible refine pD_gx ?_ ?_); exact rfl)); refine ⟨_, rfl, _, rfl, fun hg => ?_, fun hg => ?_⟩)) <;> first | (exact absurd hg (by decide)) | ((try simp only [Bool.not_true, Bool.not_false] at hg); (try simp only [hg]); (try simp only [push_cast] at hg); (try exact absurd trivial hg); (try (exfalso; omega)); (try simp (disch := omega) only [push_cast, seval, hx, c1]))) | ((with_reducible refine And.intro ?_ ?_); omega))
      (refine ⟨k + 1, by ((try dsimp only); omega), ?_, by exact fitA [_]⟩)
      exact ⟨hlt, hn⟩
    by_cases c2 : x2 = n2
    case neg =>
      have hn := noneTo_succ hA hx (by simp [isProp, c2])
      repeat' (first | with_reducible (first | refine wA ?_ | refine wB ?_ | refine wC ?_) | with_reducible refine PWp.draw (id := 4) okP true [0, 1, 2, 3, 4, 5, 6, 7, 8, 9, 10, 11, 12, 13, 14, 15, 16, 17] (by kernel_rfl) ?_ | with_reducible (first | refine wq1 ?_ | refine wq2 ?_ | refine wq3 ?_ | refine wq4 ?_ | refine wS ?_) | ((with_reducible refine hK _ ?_); clear hK K) | ((with_reducible refine PWp.condI ?_); refine ⟨_, rfl, fun hg => ?_, fun hg => ?_⟩ <;> first | (exact absurd hg (by decide)) | ((try simp only [Bool.not_true, Bool.not_false] at hg); (try simp only [hg]); (try simp only [push_cast] at hg); (try exact absurd trivial hg); (try (exfalso; omega)))) | ((with_reducible refine pany_I ?_); refine ⟨_, rfl, fun K hK => ?_⟩) | ((with_reducible refine pops_plain fun K hK => ?_); simp (disch := omega) only [push_cast, seval, hx, c1, c2]) | ((((with_reducible refine pD_y ?_ ?_); exact rfl)); simp (disch := omega) only [push_cast, seval, hx, c1, c2]) | ((((first | ((with_reducible refine pD_gy ?_ ?_); exact rfl) | ((with_reducible refine pD_gx ?_ ?_); exact rfl)); refine ⟨_, rfl, _, rfl, fun hg => ?_, fun hg => ?_⟩)) <;> first | (exact absurd hg (by decide)) | ((try simp only [Bool.not_true, Bool.not_false] at hg); (try simp only [hg]); (try simp only [push_cast] at hg); (try exact absurd trivial hg); (try (exfalso; omega)); (try simp (disch := omega) only [push_cast, seval, hx, c1, c2]))) | ((with_reducible refine And.intro ?_ ?_); omega))
      (refine ⟨k + 1, by ((try dsimp only); omega), ?_, by exact fitA [_]⟩)
      exact ⟨hlt, hn⟩
    subst x1
    subst x2
    cases c3 : p ⟨1, n2, x3, x4, x5⟩ with
    | false =>
      have hn := noneTo_succ hA hx (by simp [isProp, c3])
      repeat' (first | with_reducible (first | refine wA ?_ | refine wB ?_ | refine wC ?_) | with_reducible refine PWp.draw (id := 4) okP true [0, 1, 2, 3, 4, 5, 6, 7, 8, 9, 10, 11, 12, 13, 14, 15, 16, 17] (by kernel_rfl) ?_ | with_reducible (first | refine wq1 ?_ | refine wq2 ?_ | refine wq3 ?_ | refine wq4 ?_ | refine wS ?_) | ((with_reducible refine hK _ ?_); clear hK K) | ((with_reducible refine PWp.condI ?_); refine ⟨_, rfl, fun hg => ?_, fun hg => ?_⟩ <;> first | (exact absurd hg (by decide)) | ((try simp only [Bool.not_true, Bool.not_false] at hg); (try simp only [hg]); (try simp only [push_cast] at hg); (try exact absurd trivial hg); (try (exfalso; omega)))) | ((with_reducible refine pany_I ?_); refine ⟨_, rfl, fun K hK => ?_⟩) | ((with_reducible refine pops_plain fun K hK => ?_); simp (disch := omega) only [push_cast, seval, hx, c3]) | ((((with_reducible refine pD_y ?_ ?_); exact rfl)); simp (disch := omega) only [push_cast, seval, hx, c3]) | ((((first | ((with_reducible refine pD_gy ?_ ?_); exact rfl) | ((with_reducible refine pD_gx ?_ ?_); exact rfl)); refine ⟨_, rfl, _, rfl, fun hg => ?_, fun hg => ?_⟩)) <;> first | (exact absurd hg (by decide)) | ((try simp only [Bool.not_true, Bool.not_false] at hg); (try simp only [hg]); (try simp only [push_cast] at hg); (try exact absurd trivial hg); (try (exfalso; omega)); (try simp (disch := omega) only [push_cast, seval, hx, c3]))) | ((with_reducible show pcall _ _ _ _ _ _); ((refine pcV (g := 86) cloC (h' ⟨_, _, _, _, _⟩) ?_)); (try simp (disch := omega) only [push_cast, seval, hx, c3])) | ((with_reducible refine And.intro ?_ ?_); omega))
      (refine ⟨k + 1, by ((try dsimp only); omega), ?_, by exact fitA [_]⟩)
      exact ⟨hlt, hn⟩
    | true =>
      have e : propose l n2 p = some ⟨1, n2, x3, x4, x5⟩ := find_hit hx (by simp [isProp, c3]) hA
      repeat' (first | with_reducible (first | refine wA ?_ | refine wB ?_ | refine wC ?_) | with_reducible refine PWp.draw (id := 4) okP true [0, 1, 2, 3, 4, 5, 6, 7, 8, 9, 10, 11, 12, 13, 14, 15, 16, 17] (by kernel_rfl) ?_ | with_reducible (first | refine wq1 ?_ | refine wq2 ?_ | refine wq3 ?_ | refine wq5 ?_ | refine wq6 ?_ | refine wq9 ?_ | refine wS ?_) | ((with_reducible refine hK _ ?_); clear hK K) | ((with_reducible refine PWp.condI ?_); refine ⟨_, rfl, fun hg => ?_, fun hg => ?_⟩ <;> first | (exact absurd hg (by decide)) | ((try simp only [Bool.not_true, Bool.not_false] at hg); (try simp only [hg]); (try simp only [push_cast] at hg); (try exact absurd trivial hg); (try (exfalso; omega)))) | ((with_reducible refine pany_I ?_); refine ⟨_, rfl, fun K hK => ?_⟩) | ((with_reducible refine pops_plain fun K hK => ?_); simp (disch := omega) only [push_cast, seval, hx, c3]) | ((((with_reducible refine pD_y ?_ ?_); exact rfl)); simp (disch := omega) only [push_cast, seval, hx, c3]) | ((((first | ((with_reducible refine pD_gy ?_ ?_); exact rfl) | ((with_reducible refine pD_gx ?_ ?_); exact rfl)); refine ⟨_, rfl, _, rfl, fun hg => ?_, fun hg => ?_⟩)) <;> first | (exact absurd hg (by decide)) | ((try simp only [Bool.not_true, Bool.not_false] at hg); (try simp only [hg]); (try simp only [push_cast] at hg); (try exact absurd trivial hg); (try (exfalso; omega)); (try simp (disch := omega) only [push_cast, seval, hx, c3]))) | ((with_reducible show pcall _ _ _ _ _ _); ((refine pcV (g := 86) cloC (h' ⟨_, _, _, _, _⟩) ?_)); (try simp (disch := omega) only [push_cast, seval, hx, c3])) | ((with_reducible refine And.intro ?_ ?_); omega))
      ((with_reducible show PPostR _ _ _ _ _ _); refine finV ?_; (try simp only [push_cast, seval]))
      rw [e]
      exact ⟨rfl, rfl, rfl, rfl, rfl, rfl⟩
  obtain rfl : k = l.length := by omega
  have e : propose l n2 p = none := find_end hA
  repeat' (first | with_reducible (first | refine wA ?_ | refine wC ?_) | with_reducible (first | refine wq1 ?_ | refine wq3 ?_ | refine wq7 ?_ | refine wq8 ?_ | refine wq9 ?_ | refine wE ?_) | ((with_reducible refine hK _ ?_); clear hK K) | ((with_reducible refine PWp.condI ?_); refine ⟨_, rfl, fun hg => ?_, fun hg => ?_⟩ <;> first | (exact absurd hg (by decide)) | ((try simp only [Bool.not_true, Bool.not_false] at hg); (try simp only [hg]); (try simp only [push_cast] at hg); (try exact absurd trivial hg); (try (exfalso; omega)))) | ((with_reducible refine pops_plain fun K hK => popO_build ?_); refine ⟨_, rfl, _, rfl, ?_⟩; simp (disch := omega) only [push_cast, seval]) | ((with_reducible refine pops_plain fun K hK => ?_); simp (disch := omega) only [push_cast, seval]))
  ((with_reducible show PPostR _ _ _ _ _ _); refine finV ?_; (try simp only [push_cast, seval]))
  rw [e]
  exact ⟨rfl, rfl, rfl, rfl, rfl, rfl⟩
end Go.Proofs.Ytcbknmnlgoeniaa
namespace Go.Proofs.Ytcbknmnlgoeniaa
set_option linter.unusedSimpArgs false
set_option linter.unusedVariables false
open Go.RowKit
set_option maxRecDepth 100000
def bActM (a : Acting) : Hp := [some (.box (pActX a.1 (.own 3) (.own 4))), none, none, some (.row 32 5 (a.1.fMsgs.map pNMsg)), some (.row 32 5 (a.2.map pNMsg))]
attribute [push_cast] bActM
set_option maxHeartbeats 2000000 in
theorem iSend_p (a : Acting) (kind val pol : Int) (hl : a.1.fMsgs.length ≤ 1000 ∧ a.2.length ≤ 1000) : PCalls Try.prog 44 [.ptr 0 0, .val (.int .i64 kind), .val (.int .i64 val), .val (.int .i64 pol)] (bAct a) (RH (.tup []) (bActM (send a kind val pol))) := by
  obtain ⟨⟨n1, n2, n3, n4, n5, n6, n7, n8, n9, l⟩, s⟩ := a
  obtain ⟨h1, h2⟩ := hl
  dsimp only at h1 h2
  unfold send sendM sendMsg
  dsimp only
  cases hc : hasM l ⟨kind, n2, val, pol, n1⟩ with
  | true =>
    rw [if_neg (by simp)]
    refine pcalls_ofR okP Try.func44 rfl ?_
    simp only [Try.f44, List.length_cons, List.length_nil, Nat.reduceAdd, Nat.reduceSub, List.replicate_succ, List.replicate_zero, List.cons_append, List.nil_append, List.length_map]
    refine PWp.mvB 0 9 1 rfl rfl rfl (by decide) ?_
    refine PWp.mvB 0 10 2 rfl rfl rfl (by decide) ?_
    repeat' (first | with_reducible refine wA ?_ | with_reducible refine PWp.draw (id := 0) okP true [0, 1, 2, 3, 4, 5, 6, 7, 8, 9, 10, 11, 12, 13, 14, 15] (by kernel_rfl) ?_ | with_reducible refine PWp.draw (id := 1) okP true [0, 1, 2, 3, 4, 5, 6, 7, 8, 9, 10] (by kernel_rfl) ?_ | with_reducible refine PWp.draw (id := 2) okP true [0, 1, 2, 3, 4, 5, 6, 7, 8, 9, 10, 11, 12, 13, 14, 15, 16] (by kernel_rfl) ?_ | with_reducible (first | refine wq2 ?_ | refine wq3 ?_ | refine wS ?_) | ((with_reducible refine hK _ ?_); clear hK K) | ((with_reducible refine PWp.condI ?_); refine ⟨_, rfl, fun hg => ?_, fun hg => ?_⟩ <;> first | (exact absurd hg (by decide)) | ((try simp only [Bool.not_true, Bool.not_false] at hg); (try simp only [hg]); (try simp only [push_cast] at hg); (try exact absurd trivial hg); (try (exfalso; omega)))) | ((with_reducible refine pany_I ?_); refine ⟨_, rfl, fun K hK => ?_⟩) | ((with_reducible refine pD_x ?_ (popO_row ?_)); exact rfl; refine ⟨_, _, _, _, _, rfl, rfl, rfl, rfl, rfl, ?_⟩; simp (disch := omega) only [push_cast, seval, hc]) | ((with_reducible refine pD_y ?_ (py_build ?_)); exact rfl; refine ⟨_, rfl, _, rfl, ?_⟩; simp (disch := omega) only [push_cast, seval, hc]) | ((first | ((with_reducible refine pD_y ?_ ?_); exact rfl) | ((with_reducible refine pD_x ?_ ?_); exact rfl)); simp (disch := omega) only [push_cast, seval, hc]) | ((((first | ((with_reducible refine pD_gy ?_ ?_); exact rfl) | ((with_reducible refine pD_gx ?_ ?_); exact rfl)); refine ⟨_, rfl, _, rfl, fun hg => ?_, fun hg => ?_⟩)) <;> first | (exact absurd hg (by decide)) | ((try simp only [Bool.not_true, Bool.not_false] at hg); (try simp only [hg]); (try simp only [push_cast] at hg); (try exact absurd trivial hg); (try (exfalso; omega)); (try simp (disch := omega) only [push_cast, seval, hc]))) | ((with_reducible show pcall _ _ _ _ _ _); ((refine pcV (cf Try.func26) (containsM_p _ ⟨_, _, _, _, _⟩ sd) ?_)); (try simp (disch := omega) only [push_cast, seval, hc])) | ((with_reducible refine And.intro ?_ ?_); omega))
    ((with_reducible show PPostR _ _ _ _ _ _); exact finH [0, 1, 2, _, _])
  | false =>
    by_cases hn : l.length < 90
    · rw [if_pos ⟨rfl, hn⟩]
      refine pcalls_ofR okP Try.func44 rfl ?_
      simp only [Try.f44, List.length_cons, List.length_nil, Nat.reduceAdd, Nat.reduceSub, List.replicate_succ, List.replicate_zero, List.cons_append, List.nil_append, List.length_map]
      refine PWp.mvB 0 9 1 rfl rfl rfl (by decide) ?_
      refine PWp.mvB 0 10 2 rfl rfl rfl (by decide) ?_
      repeat' (first | with_reducible refine wA ?_ | with_reducible refine PWp.draw (id := 0) okP true [0, 1, 2, 3, 4, 5, 6, 7, 8, 9, 10, 11, 12, 13, 14, 15] (by kernel_rfl) ?_ | with_reducible refine PWp.draw (id := 1) okP true [0, 1, 2, 3, 4, 5, 6, 7, 8, 9, 10] (by kernel_rfl) ?_ | with_reducible refine PWp.draw (id := 2) okP true [0, 1, 2, 3, 4, 5, 6, 7, 8, 9, 10, 11, 12, 13, 14, 15, 16] (by kernel_rfl) ?_ | with_reducible refine PWp.draw (id := 3) okP true [0, 1, 2, 3, 4, 5, 6, 7, 8, 9, 10, 11, 12] (by kernel_rfl) ?_ | with_reducible (first | refine wq2 ?_ | refine wq3 ?_) | ((with_reducible refine hK _ ?_); clear hK K) | ((with_reducible refine PWp.condI ?_); refine ⟨_, rfl, fun hg => ?_, fun hg => ?_⟩ <;> first | (exact absurd hg (by decide)) | ((try simp only [Bool.not_true, Bool.not_false] at hg); (try simp only [hg]); (try simp only [push_cast] at hg); (try exact absurd trivial hg); (try (exfalso; omega)))) | ((with_reducible refine pany_I ?_); refine ⟨_, rfl, fun K hK => ?_⟩) | ((with_reducible refine pD_x ?_ (popO_row ?_)); exact rfl; refine ⟨_, _, _, _, _, rfl, rfl, rfl, rfl, rfl, ?_⟩; simp (disch := omega) only [push_cast, seval, hc, hn]) | ((with_reducible refine pD_y ?_ (py_build ?_)); exact rfl; refine ⟨_, rfl, _, rfl, ?_⟩; simp (disch := omega) only [push_cast, seval, hc, hn]) | ((first | ((with_reducible refine pD_y ?_ ?_); exact rfl) | ((with_reducible refine pD_x ?_ ?_); exact rfl)); simp (disch := omega) only [push_cast, seval, hc, hn]) | ((((first | ((with_reducible refine pD_gy ?_ ?_); exact rfl) | ((with_reducible refine pD_gx ?_ ?_); exact rfl)); refine ⟨_, rfl, _, rfl, fun hg => ?_, fun hg => ?_⟩)) <;> first | (exact absurd hg (by decide)) | ((try simp only [Bool.not_true, Bool.not_false] at hg); (try simp only [hg]); (try simp only [push_cast] at hg); (try exact absurd trivial hg); (try (exfalso; omega)); (try simp (disch := omega) only [push_cast, seval, hc, hn]))) | ((with_reducible show pcall _ _ _ _ _ _); ((refine pcV (cf Try.func26) (containsM_p _ ⟨_, _, _, _, _⟩ sd) ?_)); (try simp (disch := omega) only [push_cast, seval, hc, hn])) | ((with_reducible refine And.intro ?_ ?_); omega))
      ((with_reducible show PPostR _ _ _ _ _ _); exact finH [0, 1, 2, _, _])
    · rw [if_neg (by omega)]
      refine pcalls_ofR okP Try.func44 rfl ?_
      simp only [Try.f44, List.length_cons, List.length_nil, Nat.reduceAdd, Nat.reduceSub, List.replicate_succ, List.replicate_zero, List.cons_append, List.nil_append, List.length_map]
      refine PWp.mvB 0 9 1 rfl rfl rfl (by decide) ?_
      refine PWp.mvB 0 10 2 rfl rfl rfl (by decide) ?_
      repeat' (first | with_reducible refine wA ?_ | with_reducible refine PWp.draw (id := 0) okP true [0, 1, 2, 3, 4, 5, 6, 7, 8, 9, 10, 11, 12, 13, 14, 15] (by kernel_rfl) ?_ | with_reducible refine PWp.draw (id := 1) okP true [0, 1, 2, 3, 4, 5, 6, 7, 8, 9, 10] (by kernel_rfl) ?_ | with_reducible refine PWp.draw (id := 2) okP true [0, 1, 2, 3, 4, 5, 6, 7, 8, 9, 10, 11, 12, 13, 14, 15, 16] (by kernel_rfl) ?_ | with_reducible (first | refine wq2 ?_ | refine wq3 ?_ | refine wS ?_) | ((with_reducible refine hK _ ?_); clear hK K) | ((with_reducible refine PWp.condI ?_); refine ⟨_, rfl, fun hg => ?_, fun hg => ?_⟩ <;> first | (exact absurd hg (by decide)) | ((try simp only [Bool.not_true, Bool.not_false] at hg); (try simp only [hg]); (try simp only [push_cast] at hg); (try exact absurd trivial hg); (try (exfalso; omega)))) | ((with_reducible refine pany_I ?_); refine ⟨_, rfl, fun K hK => ?_⟩) | ((with_reducible refine pD_x ?_ (popO_row ?_)); exact rfl; refine ⟨_, _, _, _, _, rfl, rfl, rfl, rfl, rfl, ?_⟩; simp (disch := omega) only [push_cast, seval, hc, hn]) | ((with_reducible refine pD_y ?_ (py_build ?_)); exact rfl; refine ⟨_, rfl, _, rfl, ?_⟩; simp (disch := omega) only [push_cast, seval, hc, hn]) | ((first | ((with_reducible refine pD_y ?_ ?_); exact rfl) | ((with_reducible refine pD_x ?_ ?_); exact rfl)); simp (disch := omega) only [push_cast, seval, hc, hn]) | ((((first | ((with_reducible refine pD_gy ?_ ?_); exact rfl) | ((with_reducible refine pD_gx ?_ ?_); exact rfl)); refine ⟨_, rfl, _, rfl, fun hg => ?_, fun hg => ?_⟩)) <;> first | (exact absurd hg (by decide)) | ((try simp only [Bool.not_true, Bool.not_false] at hg); (try simp only [hg]); (try simp only [push_cast] at hg); (try exact absurd trivial hg); (try (exfalso; omega)); (try simp (disch := omega) only [push_cast, seval, hc, hn]))) | ((with_reducible show pcall _ _ _ _ _ _); ((refine pcV (cf Try.func26) (containsM_p _ ⟨_, _, _, _, _⟩ sd) ?_)); (try simp (disch := omega) only [push_cast, seval, hc, hn])) | ((with_reducible refine And.intro ?_ ?_); omega))
      ((with_reducible show PPostR _ _ _ _ _ _); exact finH [0, 1, 2, _, _])
set_option maxHeartbeats 2000000 in
theorem iStart_p (a : Acting) (round : Int) (hr : 0 ≤ round ∧ round ≤ 11) (hm : 1 ≤ a.1.fMe ∧ a.1.fMe ≤ 4) (hl : a.1.fMsgs.length ≤ 1000 ∧ a.2.length ≤ 1000) : PCalls Try.prog 41 [.ptr 0 0, .val (.int .i64 round)] (bAct a) (RH (.tup []) (bActM (beginR a round))) := by
  obtain ⟨⟨n1, n2, n3, n4, n5, n6, n7, n8, n9, l⟩, s⟩ := a
  dsimp only at hl hm
  unfold beginR
  dsimp only
  by_cases hp : propOf round = n1
  case neg =>
    rw [if_neg hp]
    refine pcalls_ofR okP Try.func41 rfl ?_
    simp only [Try.f41, List.length_cons, List.length_nil, Nat.reduceAdd, Nat.reduceSub, List.replicate_succ, List.replicate_zero, List.cons_append, List.nil_append, List.length_map]
    refine PWp.mvB 0 9 1 rfl rfl rfl (by decide) ?_
    refine PWp.mvB 0 10 2 rfl rfl rfl (by decide) ?_
    repeat' (first | with_reducible (first | refine wA ?_ | refine wC ?_) | with_reducible refine PWp.draw (id := 3) okP true [0, 2, 3, 4, 5, 1, 6] (by kernel_rfl) ?_ | with_reducible (first | refine wq1 ?_ | refine wq2 ?_ | refine wq3 ?_ | refine wq5 ?_ | refine wq9 ?_) | ((with_reducible refine hK _ ?_); clear hK K) | ((with_reducible refine PWp.condI ?_); refine ⟨_, rfl, fun hg => ?_, fun hg => ?_⟩ <;> first | (exact absurd hg (by decide)) | ((try simp only [Bool.not_true, Bool.not_false] at hg); (try simp only [hg]); (try simp only [push_cast] at hg); (try exact absurd trivial hg); (try (exfalso; omega)))) | ((with_reducible refine pany_I ?_); refine ⟨_, rfl, fun K hK => ?_⟩) | ((with_reducible refine pops_plain fun K hK => ?_); simp (disch := omega) only [push_cast, seval, hp]) | ((first | ((with_reducible refine pD_y ?_ ?_); exact rfl) | ((with_reducible refine pD_x ?_ ?_); exact rfl)); simp (disch := omega) only [push_cast, seval, hp]) | ((with_reducible show pcall _ _ _ _ _ _); ((refine pcV (cf Try.func40) (iPropOf_p _ sd) ?_)); (try simp (disch := omega) only [push_cast, seval, hp])))
    ((with_reducible show PPostR _ _ _ _ _ _); exact finH [0, 1, 2, _, _])
  rw [if_pos hp]
  by_cases hv : n7 = -1
  · rw [if_pos hv]
    have c := iSend_p (⟨n1, round, 1, n4, n5, n6, n7, n8, n9, l⟩, s) 1 (10 + n1) (-1) hl
    generalize send (⟨n1, round, 1, n4, n5, n6, n7, n8, n9, l⟩, s) 1 (10 + n1) (-1) = r at c ⊢
    obtain ⟨⟨r1, r2, r3, r4, r5, r6, r7, r8, r9, rl⟩, rs⟩ := r
    refine pcalls_ofR okP Try.func41 rfl ?_
    simp only [Try.f41, List.length_cons, List.length_nil, Nat.reduceAdd, Nat.reduceSub, List.replicate_succ, List.replicate_zero, List.cons_append, List.nil_append, List.length_map]
    refine PWp.mvB 0 9 1 rfl rfl rfl (by decide) ?_
    refine PWp.mvB 0 10 2 rfl rfl rfl (by decide) ?_
    repeat' (first | with_reducible (first | refine wA ?_ | refine wC ?_) | with_reducible refine PWp.draw (id := 3) okP true [0, 2, 3, 4, 5, 1, 6] (by kernel_rfl) ?_ | with_reducible (first | refine wq1 ?_ | refine wq2 ?_ | refine wq3 ?_ | refine wS ?_) | ((with_reducible refine hK _ ?_); clear hK K) | ((with_reducible refine PWp.condI ?_); refine ⟨_, rfl, fun hg => ?_, fun hg => ?_⟩ <;> first | (exact absurd hg (by decide)) | ((try simp only [Bool.not_true, Bool.not_false] at hg); (try simp only [hg]); (try simp only [push_cast] at hg); (try exact absurd trivial hg); (try (exfalso; omega)))) | ((with_reducible refine pany_I ?_); refine ⟨_, rfl, fun K hK => ?_⟩) | ((with_reducible refine pops_plain fun K hK => ?_); simp (disch := omega) only [push_cast, seval, hp, hv]) | ((first | ((with_reducible refine pD_y ?_ ?_); exact rfl) | ((with_reducible refine pD_x ?_ ?_); exact rfl)); simp (disch := omega) only [push_cast, seval, hp, hv]) | ((with_reducible show pcall _ _ _ _ _ _); (first | (refine pcV (cf Try.func40) (iPropOf_p _ sd) ?_) | (refine pcO (cf Try.func44) [_, _, _] (c) ?_)); (try simp (disch := omega) only [push_cast, seval, hp, hv])))
    ((with_reducible show PPostR _ _ _ _ _ _); exact finH [0, 1, 2, _, _])
  · rw [if_neg hv]
    have c := iSend_p (⟨n1, round, 1, n4, n5, n6, n7, n8, n9, l⟩, s) 1 n6 n7 hl
    generalize send (⟨n1, round, 1, n4, n5, n6, n7, n8, n9, l⟩, s) 1 n6 n7 = r at c ⊢
    obtain ⟨⟨r1, r2, r3, r4, r5, r6, r7, r8, r9, rl⟩, rs⟩ := r
    refine pcalls_ofR okP Try.func41 rfl ?_
    simp only [Try.f41, List.length_cons, List.length_nil, Nat.reduceAdd, Nat.reduceSub, List.replicate_succ, List.replicate_zero, List.cons_append, List.nil_append, List.length_map]
    refine PWp.mvB 0 9 1 rfl rfl rfl (by decide) ?_
    refine PWp.mvB 0 10 2 rfl rfl rfl (by decide) ?_
    repeat' (first | with_reducible (first | refine wA ?_ | refine wC ?_) | with_reducible refine PWp.drawC (id := 6) okP true [9] [0, 1, 2, 3, 4, 5, 6, 7, 8, 9] (by kernel_rfl) ?_ | with_reducible refine PWp.draw (id := 3) okP true [0, 2, 3, 4, 5, 1, 6] (by kernel_rfl) ?_ | with_reducible (first | refine wq1 ?_ | refine wq2 ?_ | refine wq3 ?_ | refine wS ?_) | ((with_reducible refine hK _ ?_); clear hK K) | ((with_reducible refine PWp.condI ?_); refine ⟨_, rfl, fun hg => ?_, fun hg => ?_⟩ <;> first | (exact absurd hg (by decide)) | ((try simp only [Bool.not_true, Bool.not_false] at hg); (try simp only [hg]); (try simp only [push_cast] at hg); (try exact absurd trivial hg); (try (exfalso; omega)))) | with_reducible refine panyC_nil ?_ | ((with_reducible refine panyC_I ?_); refine ⟨_, rfl, fun K hK => ?_⟩) | ((with_reducible refine panyC_w ?_ ?_); exact rfl) | ((with_reducible refine panyC_s (cm := true) ?_ ?_ ?_); exact rfl; exact rfl; simp (disch := omega) only [push_cast, seval, hp, hv]) | ((with_reducible refine pany_I ?_); refine ⟨_, rfl, fun K hK => ?_⟩) | ((with_reducible refine pops_plain fun K hK => ?_); simp (disch := omega) only [push_cast, seval, hp, hv]) | ((first | ((with_reducible refine pD_y ?_ ?_); exact rfl) | ((with_reducible refine pD_x ?_ ?_); exact rfl)); simp (disch := omega) only [push_cast, seval, hp, hv]) | ((with_reducible show pcall _ _ _ _ _ _); (first | (refine pcV (cf Try.func40) (iPropOf_p _ sd) ?_) | (refine pcO (cf Try.func44) [_, _, _] (c) ?_)); (try simp (disch := omega) only [push_cast, seval, hp, hv])))
    ((with_reducible show PPostR _ _ _ _ _ _); exact finH [0, 1, 2, _, _])
set_option maxHeartbeats 2000000 in
theorem iPrevote_p (a : Acting) (val : Int) (yes : Bool) (hl : a.1.fMsgs.length ≤ 1000 ∧ a.2.length ≤ 1000) : PCalls Try.prog 43 [.ptr 0 0, .val (.int .i64 val), .val (.bool yes)] (bAct a) (RH (.tup []) (bActM (prevote a val yes))) := by
  obtain ⟨⟨n1, n2, n3, n4, n5, n6, n7, n8, n9, l⟩, s⟩ := a
  unfold prevote
  cases yes
  all_goals
    simp only [Bool.false_eq_true, if_false, if_true]
  · have c := iSend_p (⟨n1, n2, n3, n4, n5, n6, n7, n8, n9, l⟩, s) 2 0 (-1) hl
    generalize send (⟨n1, n2, n3, n4, n5, n6, n7, n8, n9, l⟩, s) 2 0 (-1) = r at c ⊢
    obtain ⟨⟨r1, r2, r3, r4, r5, r6, r7, r8, r9, rl⟩, rs⟩ := r
    unfold stepTo
    refine pcalls_ofR okP Try.func43 rfl ?_
    simp only [Try.f43, List.length_cons, List.length_nil, Nat.reduceAdd, Nat.reduceSub, List.replicate_succ, List.replicate_zero, List.cons_append, List.nil_append, List.length_map]
    refine PWp.mvB 0 9 1 rfl rfl rfl (by decide) ?_
    refine PWp.mvB 0 10 2 rfl rfl rfl (by decide) ?_
    repeat' (first | with_reducible (first | refine wA ?_ | refine wC ?_) | with_reducible (first | refine wq1 ?_ | refine wq3 ?_) | ((with_reducible refine hK _ ?_); clear hK K) | ((with_reducible refine PWp.condI ?_); refine ⟨_, rfl, fun hg => ?_, fun hg => ?_⟩ <;> first | (exact absurd hg (by decide)) | ((try simp only [Bool.not_true, Bool.not_false] at hg); (try simp only [hg]); (try simp only [push_cast] at hg); (try exact absurd trivial hg); (try (exfalso; omega)))) | ((with_reducible refine pops_plain fun K hK => ?_); simp (disch := omega) only [push_cast, seval]) | ((with_reducible show pcall _ _ _ _ _ _); ((refine pcO (cf Try.func44) [_, _, _] (c) ?_)); (try simp (disch := omega) only [push_cast, seval])))
    ((with_reducible show PPostR _ _ _ _ _ _); exact finH [0, 1, 2, _, _])
  · have c := iSend_p (⟨n1, n2, n3, n4, n5, n6, n7, n8, n9, l⟩, s) 2 val (-1) hl
    generalize send (⟨n1, n2, n3, n4, n5, n6, n7, n8, n9, l⟩, s) 2 val (-1) = r at c ⊢
    obtain ⟨⟨r1, r2, r3, r4, r5, r6, r7, r8, r9, rl⟩, rs⟩ := r
    unfold stepTo
    refine pcalls_ofR okP Try.func43 rfl ?_
    simp only [Try.f43, List.length_cons, List.length_nil, Nat.reduceAdd, Nat.reduceSub, List.replicate_succ, List.replicate_zero, List.cons_append, List.nil_append, List.length_map]
    refine PWp.mvB 0 9 1 rfl rfl rfl (by decide) ?_
    refine PWp.mvB 0 10 2 rfl rfl rfl (by decide) ?_
    repeat' (first | with_reducible (first | refine wA ?_ | refine wC ?_) | with_reducible (first | refine wq1 ?_ | refine wq3 ?_ | refine wS ?_) | ((with_reducible refine hK _ ?_); clear hK K) | ((with_reducible refine PWp.condI ?_); refine ⟨_, rfl, fun hg => ?_, fun hg => ?_⟩ <;> first | (exact absurd hg (by decide)) | ((try simp only [Bool.not_true, Bool.not_false] at hg); (try simp only [hg]); (try simp only [push_cast] at hg); (try exact absurd trivial hg); (try (exfalso; omega)))) | ((with_reducible refine pops_plain fun K hK => ?_); simp (disch := omega) only [push_cast, seval]) | ((with_reducible show pcall _ _ _ _ _ _); ((refine pcO (cf Try.func44) [_, _, _] (c) ?_)); (try simp (disch := omega) only [push_cast, seval])))
    ((with_reducible show PPostR _ _ _ _ _ _); exact finH [0, 1, 2, _, _])
theorem bestTo_succ {l : List GNMsg} {k : Nat} {m : GNMsg} (h : l[k]? = some m) : bestTo l (k + 1) = bestF l (bestTo l k) m := by
  unfold bestTo
  rw [List.take_add_one, h, Option.toList_some, List.foldl_append]
  rfl
theorem bestTo_end (l : List GNMsg) : bestTo l l.length = best l := by unfold bestTo best; rw [List.take_length]
def decideD (a : Acting) : Acting := match best a.1.fMsgs with | some m => ({ a.1 with fDecided := m.fVal }, a.2) | none => a
set_option maxHeartbeats 4000000 in
theorem iDecide_p (a : Acting) (hl : a.1.fMsgs.length ≤ 1000) : PCalls Try.prog 80 [.ptr 0 0] (bAct a) (RH (.val (.bool (best a.1.fMsgs).isSome)) (bAct (decideD a))) := by
  have c := fun r v => iCount_o a 3 r v (by omega)
  obtain ⟨⟨n1, n2, n3, n4, n5, n6, n7, n8, n9, l⟩, s⟩ := a
  dsimp only at hl c ⊢
  unfold decideD
  dsimp only
  refine pcalls_ofR okP Try.func80 rfl ?_
  simp only [Try.f80, List.length_cons, List.length_nil, Nat.reduceAdd, Nat.reduceSub, List.replicate_succ, List.replicate_zero, List.cons_append, List.nil_append, List.length_map]
  repeat' (first | with_reducible (first | refine wA ?_ | refine wB ?_ | refine wC ?_) | with_reducible (first | refine wq1 ?_ | refine wq3 ?_) | ((with_reducible refine hK _ ?_); clear hK K) | ((with_reducible refine pops_plain fun K hK => popO_build ?_); refine ⟨_, rfl, _, rfl, ?_⟩; simp (disch := omega) only [push_cast, seval]) | ((with_reducible refine pops_plain fun K hK => ?_); simp (disch := omega) only [push_cast, seval]))
  refine PWp.loopK (α := Nat) (fun k => [(0, .ptr 0 0), (3, .ptr 3 0), (4, .val (.bool (optM (bestTo l k)).2)), (12, .own 1), (14, .val (.int .i64 (k : Int)))]) [1, 5, 6, 7, 8, 9, 10, 11, 15, 16, 17, 18, 19, 20, 21, 22, 23, 24, 25, 26, 27, 28, 29, 30, 31, 32, 33, 34, 35, 36, 37, 38, 39, 40, 41, 42, 43, 44, 45, 46, 47, 48, 49, 50, 51, 52, 53, 54, 55, 56] (fun k => [some (.box (pActX ⟨n1, n2, n3, n4, n5, n6, n7, n8, n9, l⟩ (.own 1) (.own 2))), some (.row 32 5 (l.map pNMsg)), some (.row 32 5 (s.map pNMsg)), some (.box (pNMsg (optM (bestTo l k)).1))]) (fun k => k ≤ l.length) (fun k => l.length - k) (0) (Nat.zero_le _) (by exact fitA [_, _, _, _]) ?_
  intro k ρ hI
  (try dsimp only at hI)
  refine PWp.at (tm' := ?_) (H' := ?_) ?_ ?_ ?_; rotate_left 2; (· ((try simp only [push_cast, seval]); exact rfl)); (· ((try dsimp only); exact rfl))
  by_cases hlt : k < l.length
  · obtain ⟨x, hx⟩ : ∃ x, l[k]? = some x := ⟨_, List.getElem?_eq_getElem hlt⟩
    have e := bestTo_succ hx
    obtain ⟨x1, x2, x3, x4, x5⟩ := x
    unfold bestF at e
    dsimp only at e
    by_cases c1 : x1 = 1
    case neg =>
      rw [if_neg fun q => c1 q.1] at e
      repeat' (first | with_reducible (first | refine wA ?_ | refine wB ?_ | refine wC ?_) | with_reducible refine PWp.drawC (id := 5) okP true [11] [0, 1, 2, 3, 4, 5, 6, 7, 8, 9, 10, 11, 12, 13] (by kernel_rfl) ?_ | with_reducible (first | refine wq1 ?_ | refine wq3 ?_ | refine wq7 ?_ | refine wq8 ?_ | refine wE ?_ | refine wS ?_) | ((with_reducible refine hK _ ?_); clear hK K) | ((with_reducible refine PWp.condI ?_); refine ⟨_, rfl, fun hg => ?_, fun hg => ?_⟩ <;> first | (exact absurd hg (by decide)) | ((try simp only [Bool.not_true, Bool.not_false] at hg); (try simp only [hg]); (try simp only [push_cast] at hg); (try exact absurd trivial hg); (try (exfalso; omega)))) | with_reducible refine panyC_nil ?_ | ((with_reducible refine panyC_I ?_); refine ⟨_, rfl, fun K hK => ?_⟩) | ((with_reducible refine panyC_w ?_ ?_); exact rfl) | (((with_reducible refine panyC_g (cm := true) ?_ ?_ ?_); exact rfl; exact rfl; refine ⟨_, rfl, _, rfl, fun hg => ?_, fun hg => ?_⟩) <;> first | (exact absurd hg (by decide)) | ((try simp only [Bool.not_true, Bool.not_false] at hg); (try simp only [hg]); (try simp only [push_cast] at hg); (try exact absurd trivial hg); (try (exfalso; omega)); (try simp (disch := omega) only [push_cast, seval, hx, c1]))) | ((with_reducible refine pops_plain fun K hK => ?_); simp (disch := omega) only [push_cast, seval, hx, c1]) | ((((with_reducible refine pD_y ?_ ?_); exact rfl)); simp (disch := omega) only [push_cast, seval, hx, c1]) | ((((first | ((with_reducible refine pD_gy ?_ ?_); exact rfl) | ((with_reducible refine pD_gx ?_ ?_); exact rfl)); refine ⟨_, rfl, _, rfl, fun hg => ?_, fun hg => ?_⟩)) <;> first | (exact absurd hg (by decide)) | ((try simp only [Bool.not_true, Bool.not_false] at hg); (try simp only [hg]); (try simp only [push_cast] at hg); (try exact absurd trivial hg); (try (exfalso; omega)); (try simp (disch := omega) only [push_cast, seval, hx, c1]))) | ((with_reducible refine And.intro ?_ ?_); omega))
      (refine ⟨k + 1, by ((try dsimp only); omega), ?_, by (refine ⟨[?_, ?_, ?_, ?_], ?_, ?_, ?_, ?_⟩; rotate_left 4; (· ((first | simp (disch := omega) only [push_cast, seval, e] | simp (disch := omega) only [push_cast, seval] | skip); (repeat' (first | exact trivial | exact rfl | refine And.intro ?_ ?_ | omega)))); (· ((first | simp (disch := omega) only [push_cast, seval, e] | simp (disch := omega) only [push_cast, seval] | skip); (repeat' (first | exact trivial | exact rfl | refine And.intro ?_ ?_ | omega)); (try (repeat' (first | exact trivial | exact rfl | refine And.intro ?_ ?_ | omega))))); (· exact rfl); (· (first | exact trivial | exact ⟨rfl, trivial⟩ | exact ⟨rfl, rfl, trivial⟩ | exact ⟨rfl, rfl, rfl, trivial⟩)))⟩)
      exact hlt
    by_cases c2 : 3 ≤ cntM l 3 x2 x3
    case neg =>
      rw [if_neg fun q => c2 q.2] at e
      have c3 : cntM l 3 x2 x3 < 3 := by omega
      repeat' (first | with_reducible (first | refine wA ?_ | refine wB ?_ | refine wC ?_) | with_reducible refine PWp.drawC (id := 5) okP true [11] [0, 1, 2, 3, 4, 5, 6, 7, 8, 9, 10, 11, 12, 13] (by kernel_rfl) ?_ | with_reducible (first | refine wq1 ?_ | refine wq3 ?_ | refine wq7 ?_ | refine wq8 ?_ | refine wE ?_ | refine wS ?_) | ((with_reducible refine hK _ ?_); clear hK K) | ((with_reducible refine PWp.condI ?_); refine ⟨_, rfl, fun hg => ?_, fun hg => ?_⟩ <;> first | (exact absurd hg (by decide)) | ((try simp only [Bool.not_true, Bool.not_false] at hg); (try simp only [hg]); (try simp only [push_cast] at hg); (try exact absurd trivial hg); (try (exfalso; omega)))) | with_reducible refine panyC_nil ?_ | ((with_reducible refine panyC_I ?_); refine ⟨_, rfl, fun K hK => ?_⟩) | ((with_reducible refine panyC_w ?_ ?_); exact rfl) | (((with_reducible refine panyC_g (cm := true) ?_ ?_ ?_); exact rfl; exact rfl; refine ⟨_, rfl, _, rfl, fun hg => ?_, fun hg => ?_⟩) <;> first | (exact absurd hg (by decide)) | ((try simp only [Bool.not_true, Bool.not_false] at hg); (try simp only [hg]); (try simp only [push_cast] at hg); (try exact absurd trivial hg); (try (exfalso; omega)); (try simp (disch := omega) only [push_cast, seval, hx, c1, c3]))) | ((with_reducible refine pops_plain fun K hK => ?_); simp (disch := omega) only [push_cast, seval, hx, c1, c3]) | ((((with_reducible refine pD_y ?_ ?_); exact rfl)); simp (disch := omega) only [push_cast, seval, hx, c1, c3]) | ((((first | ((with_reducible refine pD_gy ?_ ?_); exact rfl) | ((with_reducible refine pD_gx ?_ ?_); exact rfl)); refine ⟨_, rfl, _, rfl, fun hg => ?_, fun hg => ?_⟩)) <;> first | (exact absurd hg (by decide)) | ((try simp only [Bool.not_true, Bool.not_false] at hg); (try simp only [hg]); (try simp only [push_cast] at hg); (try exact absurd trivial hg); (try (exfalso; omega)); (try simp (disch := omega) only [push_cast, seval, hx, c1, c3]))) | ((with_reducible show pcall _ _ _ _ _ _); ((refine pcall_RGo (cf Try.func85) [?_, ?_, ?_] ?_ ?_ ?_ ?_ (c ?_ ?_) ?_; rotate_left 3; (· ((try simp (disch := omega) only [push_cast, seval]); (repeat' (first | exact trivial | exact rfl | refine And.intro ?_ ?_ | omega)))); (· ((try (unfold bAct)); (try simp (disch := omega) only [push_cast, seval]); (repeat' (first | exact trivial | exact rfl | refine And.intro ?_ ?_ | omega)))); (· exact rfl); (· exact rfl); rotate_right 1; rotate_left 1; (all_goals (try (first | omega | exact (show _ = _ by assumption)))))); (try simp (disch := omega) only [push_cast, seval, hx, c1, c3])) | ((with_reducible refine And.intro ?_ ?_); omega))
      (refine ⟨k + 1, by ((try dsimp only); omega), ?_, by (refine ⟨[?_, ?_, ?_, ?_], ?_, ?_, ?_, ?_⟩; rotate_left 4; (· ((first | simp (disch := omega) only [push_cast, seval, e] | simp (disch := omega) only [push_cast, seval] | skip); (repeat' (first | exact trivial | exact rfl | refine And.intro ?_ ?_ | omega)))); (· ((first | simp (disch := omega) only [push_cast, seval, e] | simp (disch := omega) only [push_cast, seval] | skip); (repeat' (first | exact trivial | exact rfl | refine And.intro ?_ ?_ | omega)); (try (repeat' (first | exact trivial | exact rfl | refine And.intro ?_ ?_ | omega))))); (· exact rfl); (· (first | exact trivial | exact ⟨rfl, trivial⟩ | exact ⟨rfl, rfl, trivial⟩ | exact ⟨rfl, rfl, rfl, trivial⟩)))⟩)
      exact hlt
    rw [if_pos ⟨c1, c2⟩] at e
    have c3 : ¬ cntM l 3 x2 x3 < 3 := by omega
    generalize bestTo l k = b at e ⊢
    cases b with
    | none =>
      simp only [optM]
      dsimp only at e
      repeat' (first | with_reducible (first | refine wA ?_ | refine wB ?_ | refine wC ?_) | with_reducible refine PWp.drawC (id := 5) okP true [11] [0, 1, 2, 3, 4, 5, 6, 7, 8, 9, 10, 11, 12, 13] (by kernel_rfl) ?_ | with_reducible (first | refine wq1 ?_ | refine wq3 ?_ | refine wq4 ?_ | refine wS ?_) | ((with_reducible refine hK _ ?_); clear hK K) | ((with_reducible refine PWp.condI ?_); refine ⟨_, rfl, fun hg => ?_, fun hg => ?_⟩ <;> first | (exact absurd hg (by decide)) | ((try simp only [Bool.not_true, Bool.not_false] at hg); (try simp only [hg]); (try simp only [push_cast] at hg); (try exact absurd trivial hg); (try (exfalso; omega)))) | ((((with_reducible refine pops_guard0 ?_); refine ⟨_, rfl, fun K hK => ⟨rfl, ?_⟩⟩)); (try simp (disch := omega) only [push_cast, seval, hx, c1, c3])) | with_reducible refine panyC_nil ?_ | ((with_reducible refine panyC_I ?_); refine ⟨_, rfl, fun K hK => ?_⟩) | ((with_reducible refine panyC_w ?_ ?_); exact rfl) | (((with_reducible refine panyC_g (cm := true) ?_ ?_ ?_); exact rfl; exact rfl; refine ⟨_, rfl, _, rfl, fun hg => ?_, fun hg => ?_⟩) <;> first | (exact absurd hg (by decide)) | ((try simp only [Bool.not_true, Bool.not_false] at hg); (try simp only [hg]); (try simp only [push_cast] at hg); (try exact absurd trivial hg); (try (exfalso; omega)); (try simp (disch := omega) only [push_cast, seval, hx, c1, c3]))) | ((with_reducible refine pops_plain fun K hK => ?_); simp (disch := omega) only [push_cast, seval, hx, c1, c3]) | ((((with_reducible refine pD_y ?_ ?_); exact rfl)); simp (disch := omega) only [push_cast, seval, hx, c1, c3]) | ((first | ((with_reducible refine pops_guard ?_); refine ⟨_, rfl, fun K hK => ⟨_, rfl, fun hg => ?_, fun hg => ?_⟩⟩) | ((first | ((with_reducible refine pD_gy ?_ ?_); exact rfl) | ((with_reducible refine pD_gx ?_ ?_); exact rfl)); refine ⟨_, rfl, _, rfl, fun hg => ?_, fun hg => ?_⟩)) <;> first | (exact absurd hg (by decide)) | ((try simp only [Bool.not_true, Bool.not_false] at hg); (try simp only [hg]); (try simp only [push_cast] at hg); (try exact absurd trivial hg); (try (exfalso; omega)); (try simp (disch := omega) only [push_cast, seval, hx, c1, c3]))) | ((with_reducible show pcall _ _ _ _ _ _); ((refine pcall_RGo (cf Try.func85) [?_, ?_, ?_] ?_ ?_ ?_ ?_ (c ?_ ?_) ?_; rotate_left 3; (· ((try simp (disch := omega) only [push_cast, seval]); (repeat' (first | exact trivial | exact rfl | refine And.intro ?_ ?_ | omega)))); (· ((try (unfold bAct)); (try simp (disch := omega) only [push_cast, seval]); (repeat' (first | exact trivial | exact rfl | refine And.intro ?_ ?_ | omega)))); (· exact rfl); (· exact rfl); rotate_right 1; rotate_left 1; (all_goals (try (first | omega | exact (show _ = _ by assumption)))))); (try simp (disch := omega) only [push_cast, seval, hx, c1, c3])) | ((with_reducible refine And.intro ?_ ?_); omega))
      (refine ⟨k + 1, by ((try dsimp only); omega), ?_, by (refine ⟨[?_, ?_, ?_, ?_], ?_, ?_, ?_, ?_⟩; rotate_left 4; (· ((first | simp (disch := omega) only [push_cast, seval, e, optM, pNMsg] | simp (disch := omega) only [push_cast, seval] | skip); (repeat' (first | exact trivial | exact rfl | refine And.intro ?_ ?_ | omega)))); (· ((first | simp (disch := omega) only [push_cast, seval, e, optM, pNMsg] | simp (disch := omega) only [push_cast, seval] | skip); (repeat' (first | exact trivial | exact rfl | refine And.intro ?_ ?_ | omega)); (try (repeat' (first | exact trivial | exact rfl | refine And.intro ?_ ?_ | omega))))); (· exact rfl); (· (first | exact trivial | exact ⟨rfl, trivial⟩ | exact ⟨rfl, rfl, trivial⟩ | exact ⟨rfl, rfl, rfl, trivial⟩)))⟩)
      exact hlt
    | some y =>
      obtain ⟨y1, y2, y3, y4, y5⟩ := y
      simp only [optM]
      dsimp only at e
      by_cases c4 : x2 < y2 ∨ (x2 = y2 ∧ x3 < y3)
      · rw [if_pos c4] at e
        repeat' (first | with_reducible (first | refine wA ?_ | refine wB ?_ | refine wC ?_) | with_reducible refine PWp.drawC (id := 5) okP true [11] [0, 1, 2, 3, 4, 5, 6, 7, 8, 9, 10, 11, 12, 13] (by kernel_rfl) ?_ | with_reducible (first | refine wq1 ?_ | refine wq3 ?_ | refine wq4 ?_ | refine wS ?_) | ((with_reducible refine hK _ ?_); clear hK K) | ((with_reducible refine PWp.condI ?_); refine ⟨_, rfl, fun hg => ?_, fun hg => ?_⟩ <;> first | (exact absurd hg (by decide)) | ((try simp only [Bool.not_true, Bool.not_false] at hg); (try simp only [hg]); (try simp only [push_cast] at hg); (try exact absurd trivial hg); (try (exfalso; omega)))) | ((((with_reducible refine pops_guard0 ?_); refine ⟨_, rfl, fun K hK => ⟨rfl, ?_⟩⟩)); (try simp (disch := omega) only [push_cast, seval, hx, c1, c3])) | with_reducible refine panyC_nil ?_ | ((with_reducible refine panyC_I ?_); refine ⟨_, rfl, fun K hK => ?_⟩) | ((with_reducible refine panyC_w ?_ ?_); exact rfl) | (((with_reducible refine panyC_g (cm := true) ?_ ?_ ?_); exact rfl; exact rfl; refine ⟨_, rfl, _, rfl, fun hg => ?_, fun hg => ?_⟩) <;> first | (exact absurd hg (by decide)) | ((try simp only [Bool.not_true, Bool.not_false] at hg); (try simp only [hg]); (try simp only [push_cast] at hg); (try exact absurd trivial hg); (try (exfalso; omega)); (try simp (disch := omega) only [push_cast, seval, hx, c1, c3]))) | ((with_reducible refine pops_plain fun K hK => ?_); simp (disch := omega) only [push_cast, seval, hx, c1, c3]) | ((((with_reducible refine pD_y ?_ ?_); exact rfl)); simp (disch := omega) only [push_cast, seval, hx, c1, c3]) | ((first | ((with_reducible refine pops_guard ?_); refine ⟨_, rfl, fun K hK => ⟨_, rfl, fun hg => ?_, fun hg => ?_⟩⟩) | ((first | ((with_reducible refine pD_gy ?_ ?_); exact rfl) | ((with_reducible refine pD_gx ?_ ?_); exact rfl)); refine ⟨_, rfl, _, rfl, fun hg => ?_, fun hg => ?_⟩)) <;> first | (exact absurd hg (by decide)) | ((try simp only [Bool.not_true, Bool.not_false] at hg); (try simp only [hg]); (try simp only [push_cast] at hg); (try exact absurd trivial hg); (try (exfalso; omega)); (try simp (disch := omega) only [push_cast, seval, hx, c1, c3]))) | ((with_reducible show pcall _ _ _ _ _ _); ((refine pcall_RGo (cf Try.func85) [?_, ?_, ?_] ?_ ?_ ?_ ?_ (c ?_ ?_) ?_; rotate_left 3; (· ((try simp (disch := omega) only [push_cast, seval]); (repeat' (first | exact trivial | exact rfl | refine And.intro ?_ ?_ | omega)))); (· ((try (unfold bAct)); (try simp (disch := omega) only [push_cast, seval]); (repeat' (first | exact trivial | exact rfl | refine And.intro ?_ ?_ | omega)))); (· exact rfl); (· exact rfl); rotate_right 1; rotate_left 1; (all_goals (try (first | omega | exact (show _ = _ by assumption)))))); (try simp (disch := omega) only [push_cast, seval, hx, c1, c3])) | ((with_reducible refine And.intro ?_ ?_); omega))
        all_goals first
          | (exfalso; omega)
          | ((refine ⟨k + 1, by ((try dsimp only); omega), ?_, by (refine ⟨[?_, ?_, ?_, ?_], ?_, ?_, ?_, ?_⟩; rotate_left 4; (· ((first | simp (disch := omega) only [push_cast, seval, e, optM, pNMsg] | simp (disch := omega) only [push_cast, seval] | skip); (repeat' (first | exact trivial | exact rfl | refine And.intro ?_ ?_ | omega)))); (· ((first | simp (disch := omega) only [push_cast, seval, e, optM, pNMsg] | simp (disch := omega) only [push_cast, seval] | skip); (repeat' (first | exact trivial | exact rfl | refine And.intro ?_ ?_ | omega)); (try (repeat' (first | exact trivial | exact rfl | refine And.intro ?_ ?_ | omega))))); (· exact rfl); (· (first | exact trivial | exact ⟨rfl, trivial⟩ | exact ⟨rfl, rfl, trivial⟩ | exact ⟨rfl, rfl, rfl, trivial⟩)))⟩); exact hlt)
      · rw [if_neg c4] at e
        repeat' (first | with_reducible (first | refine wA ?_ | refine wB ?_ | refine wC ?_) | with_reducible refine PWp.drawC (id := 5) okP true [11] [0, 1, 2, 3, 4, 5, 6, 7, 8, 9, 10, 11, 12, 13] (by kernel_rfl) ?_ | with_reducible (first | refine wq1 ?_ | refine wq3 ?_ | refine wq4 ?_ | refine wS ?_) | ((with_reducible refine hK _ ?_); clear hK K) | ((with_reducible refine PWp.condI ?_); refine ⟨_, rfl, fun hg => ?_, fun hg => ?_⟩ <;> first | (exact absurd hg (by decide)) | ((try simp only [Bool.not_true, Bool.not_false] at hg); (try simp only [hg]); (try simp only [push_cast] at hg); (try exact absurd trivial hg); (try (exfalso; omega)))) | with_reducible refine panyC_nil ?_ | ((with_reducible refine panyC_I ?_); refine ⟨_, rfl, fun K hK => ?_⟩) | ((with_reducible refine panyC_w ?_ ?_); exact rfl) | (((with_reducible refine panyC_g (cm := true) ?_ ?_ ?_); exact rfl; exact rfl; refine ⟨_, rfl, _, rfl, fun hg => ?_, fun hg => ?_⟩) <;> first | (exact absurd hg (by decide)) | ((try simp only [Bool.not_true, Bool.not_false] at hg); (try simp only [hg]); (try simp only [push_cast] at hg); (try exact absurd trivial hg); (try (exfalso; omega)); (try simp (disch := omega) only [push_cast, seval, hx, c1, c3]))) | ((with_reducible refine pops_plain fun K hK => ?_); simp (disch := omega) only [push_cast, seval, hx, c1, c3]) | ((((with_reducible refine pD_y ?_ ?_); exact rfl)); simp (disch := omega) only [push_cast, seval, hx, c1, c3]) | ((first | ((with_reducible refine pops_guard ?_); refine ⟨_, rfl, fun K hK => ⟨_, rfl, fun hg => ?_, fun hg => ?_⟩⟩) | ((first | ((with_reducible refine pD_gy ?_ ?_); exact rfl) | ((with_reducible refine pD_gx ?_ ?_); exact rfl)); refine ⟨_, rfl, _, rfl, fun hg => ?_, fun hg => ?_⟩)) <;> first | (exact absurd hg (by decide)) | ((try simp only [Bool.not_true, Bool.not_false] at hg); (try simp only [hg]); (try simp only [push_cast] at hg); (try exact absurd trivial hg); (try (exfalso; omega)); (try simp (disch := omega) only [push_cast, seval, hx, c1, c3]))) | ((with_reducible show pcall _ _ _ _ _ _); ((refine pcall_RGo (cf Try.func85) [?_, ?_, ?_] ?_ ?_ ?_ ?_ (c ?_ ?_) ?_; rotate_left 3; (· ((try simp (disch := omega) only [push_cast, seval]); (repeat' (first | exact trivial | exact rfl | refine And.intro ?_ ?_ | omega)))); (· ((try (unfold bAct)); (try simp (disch := omega) only [push_cast, seval]); (repeat' (first | exact trivial | exact rfl | refine And.intro ?_ ?_ | omega)))); (· exact rfl); (· exact rfl); rotate_right 1; rotate_left 1; (all_goals (try (first | omega | exact (show _ = _ by assumption)))))); (try simp (disch := omega) only [push_cast, seval, hx, c1, c3])) | ((with_reducible refine And.intro ?_ ?_); omega))
        all_goals first
          | (exfalso; omega)
          | ((refine ⟨k + 1, by ((try dsimp only); omega), ?_, by (refine ⟨[?_, ?_, ?_, ?_], ?_, ?_, ?_, ?_⟩; rotate_left 4; (· ((first | simp (disch := omega) only [push_cast, seval, e, optM, pNMsg] | simp (disch := omega) only [push_cast, seval] | skip); (repeat' (first | exact trivial | exact rfl | refine And.intro ?_ ?_ | omega)))); (· ((first | simp (disch := omega) only [push_cast, seval, e, optM, pNMsg] | simp (disch := omega) only [push_cast, seval] | skip); (repeat' (first | exact trivial | exact rfl | refine And.intro ?_ ?_ | omega)); (try (repeat' (first | exact trivial | exact rfl | refine And.intro ?_ ?_ | omega))))); (· exact rfl); (· (first | exact trivial | exact ⟨rfl, trivial⟩ | exact ⟨rfl, rfl, trivial⟩ | exact ⟨rfl, rfl, rfl, trivial⟩)))⟩); exact hlt)
  obtain rfl : k = l.length := by omega
  rw [bestTo_end]
  cases best l with
  | none =>
    simp only [optM]
    repeat' (first | with_reducible (first | refine wA ?_ | refine wC ?_) | with_reducible (first | refine wq1 ?_ | refine wq3 ?_ | refine wq7 ?_ | refine wq8 ?_ | refine wq9 ?_ | refine wE ?_ | refine wS ?_) | ((with_reducible refine hK _ ?_); clear hK K) | ((with_reducible refine PWp.condI ?_); refine ⟨_, rfl, fun hg => ?_, fun hg => ?_⟩ <;> first | (exact absurd hg (by decide)) | ((try simp only [Bool.not_true, Bool.not_false] at hg); (try simp only [hg]); (try simp only [push_cast] at hg); (try exact absurd trivial hg); (try (exfalso; omega)))) | ((with_reducible refine pops_plain fun K hK => ?_); simp (disch := omega) only [push_cast, seval]))
    ((with_reducible show PPostR _ _ _ _ _ _); exact finH [0, 1, 2])
  | some m =>
    simp only [optM]
    repeat' (first | with_reducible (first | refine wA ?_ | refine wC ?_) | with_reducible (first | refine wq1 ?_ | refine wq3 ?_ | refine wq7 ?_ | refine wq8 ?_ | refine wq9 ?_ | refine wE ?_) | ((with_reducible refine hK _ ?_); clear hK K) | ((with_reducible refine PWp.condI ?_); refine ⟨_, rfl, fun hg => ?_, fun hg => ?_⟩ <;> first | (exact absurd hg (by decide)) | ((try simp only [Bool.not_true, Bool.not_false] at hg); (try simp only [hg]); (try simp only [push_cast] at hg); (try exact absurd trivial hg); (try (exfalso; omega)))) | ((with_reducible refine pops_plain fun K hK => ?_); simp (disch := omega) only [push_cast, seval]))
    ((with_reducible show PPostR _ _ _ _ _ _); exact finH [0, 1, 2])
def skipD (a : Acting) : Acting := match skipTo a.1.fMsgs a.1.fRound (11 - a.1.fRound).toNat with | some r => beginR a r | none => a
set_option maxHeartbeats 4000000 in
theorem iSkip_p (a : Acting) (hr : -1 ≤ a.1.fRound ∧ a.1.fRound ≤ 11) (hm : 1 ≤ a.1.fMe ∧ a.1.fMe ≤ 4) (hl : a.1.fMsgs.length ≤ 1000 ∧ a.2.length ≤ 1000) : PCalls Try.prog 81 [.ptr 0 0] (bAct a) (RH (.val (.bool (skipTo a.1.fMsgs a.1.fRound (11 - a.1.fRound).toNat).isSome)) (bActM (skipD a))) := by
  have c := fun r h => iStart_p a r h hm hl
  unfold skipD
  obtain ⟨⟨n1, n2, n3, n4, n5, n6, n7, n8, n9, l⟩, s⟩ := a
  dsimp only at hl c hr ⊢
  refine pcalls_ofR okP Try.func81 rfl ?_
  simp only [Try.f81, List.length_cons, List.length_nil, Nat.reduceAdd, Nat.reduceSub, List.replicate_succ, List.replicate_zero, List.cons_append, List.nil_append, List.length_map]
  refine PWp.mvB 0 9 1 rfl rfl rfl (by decide) ?_
  refine PWp.mvB 0 10 2 rfl rfl rfl (by decide) ?_
  repeat' (first | with_reducible (first | refine wA ?_ | refine wB ?_ | refine wC ?_) | with_reducible (first | refine wq1 ?_ | refine wq3 ?_) | ((with_reducible refine hK _ ?_); clear hK K) | ((with_reducible refine pops_plain fun K hK => ?_); simp (disch := omega) only [push_cast, seval]))
  refine PWp.loopK (α := Nat) (fun j => [(0, .ptr 0 0), (3, .val (.int .i64 (n2 + j)))]) [1, 2, 4, 5, 6, 7, 8, 9, 10, 11, 12, 13, 14, 15, 16, 17, 18, 19, 20, 21, 22, 23, 24, 25, 26, 27, 28, 29, 30, 31, 32, 33, 34, 35, 36, 37, 38, 39, 40, 41, 42, 43, 44, 45, 46, 47, 48, 49] (fun j => [some (.box (pActX ⟨n1, n2, n3, n4, n5, n6, n7, n8, n9, l⟩ (.own 3) (.own 4))), none, none, some (.row 32 5 (l.map pNMsg)), some (.row 32 5 (s.map pNMsg))]) (fun j => n2 + j ≤ 11 ∧ skipTo l n2 (11 - n2).toNat = skipTo l n2 j) (fun j => j) ((11 - n2).toNat) (⟨by omega, rfl⟩) (by exact fitA [0, 1, 2, _, _]) ?_
  intro j ρ hI
  (try dsimp only at hI)
  refine PWp.at (tm' := ?_) (H' := ?_) ?_ ?_ ?_; rotate_left 2; (· ((try simp only [push_cast, seval]); exact rfl)); (· ((try dsimp only); exact rfl))
  obtain ⟨hj, hA⟩ := hI
  rw [hA]
  cases j with
  | zero =>
    repeat' (first | with_reducible (first | refine wA ?_ | refine wC ?_) | with_reducible (first | refine wq1 ?_ | refine wq3 ?_ | refine wq7 ?_ | refine wq8 ?_ | refine wq9 ?_ | refine wE ?_) | ((with_reducible refine hK _ ?_); clear hK K) | ((with_reducible refine PWp.condI ?_); refine ⟨_, rfl, fun hg => ?_, fun hg => ?_⟩ <;> first | (exact absurd hg (by decide)) | ((try simp only [Bool.not_true, Bool.not_false] at hg); (try simp only [hg]); (try simp only [push_cast] at hg); (try exact absurd trivial hg); (try (exfalso; omega)))) | ((with_reducible refine pops_plain fun K hK => ?_); simp (disch := omega) only [push_cast, seval]))
    simp only [skipTo]
    ((with_reducible show PPostR _ _ _ _ _ _); exact finH [0, 1, 2, _, _])
  | succ i =>
    repeat' (first | with_reducible (first | refine wA ?_ | refine wB ?_ | refine wC ?_) | with_reducible (first | refine wq1 ?_ | refine wq3 ?_ | refine wS ?_) | ((with_reducible refine hK _ ?_); clear hK K) | ((with_reducible refine PWp.condI ?_); refine ⟨_, rfl, fun hg => ?_, fun hg => ?_⟩ <;> first | (exact absurd hg (by decide)) | ((try simp only [Bool.not_true, Bool.not_false] at hg); (try simp only [hg]); (try simp only [push_cast] at hg); (try exact absurd trivial hg); (try (exfalso; omega)))) | ((with_reducible refine pops_plain fun K hK => popO_row ?_); refine ⟨_, _, _, _, _, rfl, rfl, rfl, rfl, rfl, ?_⟩; simp (disch := omega) only [push_cast, seval]) | ((with_reducible refine pops_plain fun K hK => ?_); simp (disch := omega) only [push_cast, seval]))
    refine PWp.loopK (α := Nat) (fun k => [(0, .ptr 0 0), (4, .own 5), (21, .own 3), (23, .val (.int .i64 (k : Int)))]) [1, 5, 6, 16, 24, 25, 26, 27, 28, 29, 30, 31, 32, 33, 34, 35, 36, 37, 38, 39, 40, 41, 42, 43, 49] (fun k => [some (.box (pActX ⟨n1, n2, n3, n4, n5, n6, n7, n8, n9, l⟩ (.own 3) (.own 4))), none, none, some (.row 32 5 (l.map pNMsg)), some (.row 32 5 (s.map pNMsg)), some (.row 3 1 ((froms (isR (n2 + (i + 1))) (l.take k)).map pInt))]) (fun k => k ≤ l.length) (fun k => l.length - k) (0) (Nat.zero_le _) (by exact fitA [0, 1, 2, _, _, _]) ?_
    intro k ρ hI
    (try dsimp only at hI)
    refine PWp.at (tm' := ?_) (H' := ?_) ?_ ?_ ?_; rotate_left 2; (· ((try simp only [push_cast, seval]); exact rfl)); (· ((try dsimp only); exact rfl))
    by_cases hlt : k < l.length
    · obtain ⟨x, hx⟩ : ∃ x, l[k]? = some x := ⟨_, List.getElem?_eq_getElem hlt⟩
      have e := froms_succ (p := isR (n2 + (i + 1))) hx
      have hz := froms_len (p := isR (n2 + (i + 1))) (l := l.take k)
      rw [List.length_take] at hz
      obtain ⟨x1, x2, x3, x4, x5⟩ := x
      simp only [fromF, isR] at e
      by_cases c2 : x2 = n2 + (i + 1)
      case neg =>
        simp only [c2, decide_false, Bool.false_and, Bool.false_eq_true, if_false] at e
        repeat' (first | with_reducible (first | refine wA ?_ | refine wB ?_ | refine wC ?_) | with_reducible (first | refine wq1 ?_ | refine wq3 ?_ | refine wq4 ?_ | refine wS ?_) | ((with_reducible refine hK _ ?_); clear hK K) | ((with_reducible refine PWp.condI ?_); refine ⟨_, rfl, fun hg => ?_, fun hg => ?_⟩ <;> first | (exact absurd hg (by decide)) | ((try simp only [Bool.not_true, Bool.not_false] at hg); (try simp only [hg]); (try simp only [push_cast] at hg); (try exact absurd trivial hg); (try (exfalso; omega)))) | ((with_reducible refine pops_plain fun K hK => ?_); simp (disch := omega) only [push_cast, seval, hx, c2]) | ((with_reducible refine pops_guard ?_); refine ⟨_, rfl, fun K hK => ⟨_, rfl, fun hg => ?_, fun hg => ?_⟩⟩ <;> first | (exact absurd hg (by decide)) | ((try simp only [Bool.not_true, Bool.not_false] at hg); (try simp only [hg]); (try simp only [push_cast] at hg); (try exact absurd trivial hg); (try (exfalso; omega)); (try simp (disch := omega) only [push_cast, seval, hx, c2]))) | ((with_reducible refine And.intro ?_ ?_); omega))
        (refine ⟨k + 1, by ((try dsimp only); omega), ?_, by (refine ⟨[0, 1, 2, ?_, ?_, ?_], ?_, ?_, ?_, ?_⟩; rotate_left 3; (· ((first | simp (disch := omega) only [push_cast, seval, e] | simp (disch := omega) only [push_cast, seval] | skip); (repeat' (first | exact trivial | exact rfl | refine And.intro ?_ ?_ | omega)))); (· ((first | simp (disch := omega) only [push_cast, seval, e] | simp (disch := omega) only [push_cast, seval] | skip); (repeat' (first | exact trivial | exact rfl | refine And.intro ?_ ?_ | omega)); (try (repeat' (first | exact trivial | exact rfl | refine And.intro ?_ ?_ | omega))))); (· exact rfl); (· (first | exact trivial | exact ⟨rfl, trivial⟩ | exact ⟨rfl, rfl, trivial⟩ | exact ⟨rfl, rfl, rfl, trivial⟩)))⟩)
        exact hlt
      cases c4 : hasI (froms (isR (n2 + (i + 1))) (l.take k)) x5 with
      | true =>
        simp only [c2, c4, decide_true, Bool.true_and, Bool.not_true, Bool.and_false, Bool.false_eq_true, if_false] at e
        repeat' (first | with_reducible (first | refine wA ?_ | refine wB ?_ | refine wC ?_) | with_reducible (first | refine wq1 ?_ | refine wq3 ?_ | refine wq4 ?_ | refine wS ?_) | ((with_reducible refine hK _ ?_); clear hK K) | ((with_reducible refine PWp.condI ?_); refine ⟨_, rfl, fun hg => ?_, fun hg => ?_⟩ <;> first | (exact absurd hg (by decide)) | ((try simp only [Bool.not_true, Bool.not_false] at hg); (try simp only [hg]); (try simp only [push_cast] at hg); (try exact absurd trivial hg); (try (exfalso; omega)))) | ((with_reducible refine pops_plain fun K hK => ?_); simp (disch := omega) only [push_cast, seval, hx, c2, c4]) | ((with_reducible refine pops_guard ?_); refine ⟨_, rfl, fun K hK => ⟨_, rfl, fun hg => ?_, fun hg => ?_⟩⟩ <;> first | (exact absurd hg (by decide)) | ((try simp only [Bool.not_true, Bool.not_false] at hg); (try simp only [hg]); (try simp only [push_cast] at hg); (try exact absurd trivial hg); (try (exfalso; omega)); (try simp (disch := omega) only [push_cast, seval, hx, c2, c4]))) | ((with_reducible show pcall _ _ _ _ _ _); ((refine pcV (cf Try.func91) (contains_p _ _ sd) ?_)); (try simp (disch := omega) only [push_cast, seval, hx, c2, c4])) | ((with_reducible refine And.intro ?_ ?_); omega))
        (refine ⟨k + 1, by ((try dsimp only); omega), ?_, by (refine ⟨[0, 1, 2, ?_, ?_, ?_], ?_, ?_, ?_, ?_⟩; rotate_left 3; (· ((first | simp (disch := omega) only [push_cast, seval, e] | simp (disch := omega) only [push_cast, seval] | skip); (repeat' (first | exact trivial | exact rfl | refine And.intro ?_ ?_ | omega)))); (· ((first | simp (disch := omega) only [push_cast, seval, e] | simp (disch := omega) only [push_cast, seval] | skip); (repeat' (first | exact trivial | exact rfl | refine And.intro ?_ ?_ | omega)); (try (repeat' (first | exact trivial | exact rfl | refine And.intro ?_ ?_ | omega))))); (· exact rfl); (· (first | exact trivial | exact ⟨rfl, trivial⟩ | exact ⟨rfl, rfl, trivial⟩ | exact ⟨rfl, rfl, rfl, trivial⟩)))⟩)
        exact hlt
      | false =>
        simp only [c2, c4, decide_true, Bool.true_and, Bool.not_false, Bool.and_true, if_true] at e
        repeat' (first | with_reducible (first | refine wA ?_ | refine wB ?_ | refine wC ?_) | with_reducible (first | refine wq1 ?_ | refine wq3 ?_ | refine wq4 ?_ | refine wS ?_) | ((with_reducible refine hK _ ?_); clear hK K) | ((with_reducible refine PWp.condI ?_); refine ⟨_, rfl, fun hg => ?_, fun hg => ?_⟩ <;> first | (exact absurd hg (by decide)) | ((try simp only [Bool.not_true, Bool.not_false] at hg); (try simp only [hg]); (try simp only [push_cast] at hg); (try exact absurd trivial hg); (try (exfalso; omega)))) | ((with_reducible refine pops_plain fun K hK => popO_row ?_); refine ⟨_, _, _, _, _, rfl, rfl, rfl, rfl, rfl, ?_⟩; simp (disch := omega) only [push_cast, seval, hx, c2, c4]) | ((with_reducible refine pops_plain fun K hK => ?_); simp (disch := omega) only [push_cast, seval, hx, c2, c4]) | ((with_reducible refine pops_guard ?_); refine ⟨_, rfl, fun K hK => ⟨_, rfl, fun hg => ?_, fun hg => ?_⟩⟩ <;> first | (exact absurd hg (by decide)) | ((try simp only [Bool.not_true, Bool.not_false] at hg); (try simp only [hg]); (try simp only [push_cast] at hg); (try exact absurd trivial hg); (try (exfalso; omega)); (try simp (disch := omega) only [push_cast, seval, hx, c2, c4]))) | ((with_reducible show pcall _ _ _ _ _ _); ((refine pcV (cf Try.func91) (contains_p _ _ sd) ?_)); (try simp (disch := omega) only [push_cast, seval, hx, c2, c4])) | ((with_reducible refine And.intro ?_ ?_); omega))
        (refine ⟨k + 1, by ((try dsimp only); omega), ?_, by (refine ⟨[0, 1, 2, ?_, ?_, ?_], ?_, ?_, ?_, ?_⟩; rotate_left 3; (· ((first | simp (disch := omega) only [push_cast, seval, e, List.map_append, List.map_cons, List.map_nil, pInt] | simp (disch := omega) only [push_cast, seval] | skip); (repeat' (first | exact trivial | exact rfl | refine And.intro ?_ ?_ | omega)))); (· ((first | simp (disch := omega) only [push_cast, seval, e, List.map_append, List.map_cons, List.map_nil, pInt] | simp (disch := omega) only [push_cast, seval] | skip); (repeat' (first | exact trivial | exact rfl | refine And.intro ?_ ?_ | omega)); (try (repeat' (first | exact trivial | exact rfl | refine And.intro ?_ ?_ | omega))))); (· exact rfl); (· (first | exact trivial | exact ⟨rfl, trivial⟩ | exact ⟨rfl, rfl, trivial⟩ | exact ⟨rfl, rfl, rfl, trivial⟩)))⟩)
        exact hlt
    obtain rfl : k = l.length := by omega
    rw [List.take_length]
    unfold skipTo
    by_cases h2 : 2 ≤ (froms (isR (n2 + (i + 1))) l).length
    · have c1 := c (n2 + (i + 1)) ⟨by omega, by omega⟩
      rw [if_pos h2]
      dsimp only
      generalize beginR (⟨n1, n2, n3, n4, n5, n6, n7, n8, n9, l⟩, s) (n2 + (i + 1)) = r at c1 ⊢
      obtain ⟨⟨r1, r2, r3, r4, r5, r6, r7, r8, r9, rl⟩, rs⟩ := r
      repeat' (first | with_reducible (first | refine wA ?_ | refine wC ?_) | with_reducible (first | refine wq1 ?_ | refine wq3 ?_ | refine wq5 ?_ | refine wq6 ?_ | refine wq7 ?_ | refine wq8 ?_ | refine wq9 ?_ | refine wE ?_) | ((with_reducible refine hK _ ?_); clear hK K) | ((with_reducible refine PWp.condI ?_); refine ⟨_, rfl, fun hg => ?_, fun hg => ?_⟩ <;> first | (exact absurd hg (by decide)) | ((try simp only [Bool.not_true, Bool.not_false] at hg); (try simp only [hg]); (try simp only [push_cast] at hg); (try exact absurd trivial hg); (try (exfalso; omega)))) | ((with_reducible refine pops_plain fun K hK => ?_); simp (disch := omega) only [push_cast, seval, h2]) | ((with_reducible show pcall _ _ _ _ _ _); ((refine pcO (cf Try.func41) [_, _, _] (c1) ?_)); (try simp (disch := omega) only [push_cast, seval, h2])))
      ((with_reducible show PPostR _ _ _ _ _ _); exact finH [0, 1, 2, _, _])
    · rw [if_neg h2] at *
      repeat' (first | with_reducible (first | refine wA ?_ | refine wC ?_) | with_reducible (first | refine wq1 ?_ | refine wq3 ?_ | refine wq4 ?_ | refine wq7 ?_ | refine wq8 ?_ | refine wE ?_ | refine wS ?_) | ((with_reducible refine hK _ ?_); clear hK K) | ((with_reducible refine PWp.condI ?_); refine ⟨_, rfl, fun hg => ?_, fun hg => ?_⟩ <;> first | (exact absurd hg (by decide)) | ((try simp only [Bool.not_true, Bool.not_false] at hg); (try simp only [hg]); (try simp only [push_cast] at hg); (try exact absurd trivial hg); (try (exfalso; omega)))) | ((with_reducible refine pops_plain fun K hK => ?_); simp (disch := omega) only [push_cast, seval, h2]))
      (refine ⟨i, by ((try dsimp only); omega), ?_, by (refine ⟨[0, 1, 2, ?_, ?_], ?_, ?_, ?_, ?_⟩; rotate_left 2; (· ((first | simp (disch := omega) only [push_cast, seval, e, List.map_append, List.map_cons, List.map_nil, pInt] | simp (disch := omega) only [push_cast, seval] | skip); (repeat' (first | exact trivial | exact rfl | refine And.intro ?_ ?_ | omega)))); (· ((first | simp (disch := omega) only [push_cast, seval, e, List.map_append, List.map_cons, List.map_nil, pInt] | simp (disch := omega) only [push_cast, seval] | skip); (repeat' (first | exact trivial | exact rfl | refine And.intro ?_ ?_ | omega)); (try (repeat' (first | exact trivial | exact rfl | refine And.intro ?_ ?_ | omega))))); (· exact rfl); (· (first | exact trivial | exact ⟨rfl, trivial⟩ | exact ⟨rfl, rfl, trivial⟩ | exact ⟨rfl, rfl, rfl, trivial⟩)))⟩)
      exact ⟨by omega, by cases i <;> rfl⟩
end Go.Proofs.Ytcbknmnlgoeniaa

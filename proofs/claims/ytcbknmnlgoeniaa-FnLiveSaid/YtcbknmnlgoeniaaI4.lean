/- Several texts, one behind the other. -/
import Derived.Test.YtcbknmnlgoeniaaI3
/- The pure machine: how its operations are worked out. -/
namespace Go.Proofs.Ytcbknmnlgoeniaa
open Go.RowKit

section
variable {P : Program} {t : TypeId} {x y : Operand} {k : IntKind} {a b : Int} {s u : ByteArray} {p q : Bool}
theorem sf_add : sflat P (do eqGuard .add t x y (.int k a) (.int k b); binOp .add t (.int k a) (.int k b)) = some (.int k (k.wrap (a + b))) := by cases k <;> rfl
theorem sf_sub : sflat P (do eqGuard .sub t x y (.int k a) (.int k b); binOp .sub t (.int k a) (.int k b)) = some (.int k (k.wrap (a - b))) := by cases k <;> rfl
theorem sf_mul : sflat P (do eqGuard .mul t x y (.int k a) (.int k b); binOp .mul t (.int k a) (.int k b)) = some (.int k (k.wrap (a * b))) := by cases k <;> rfl
theorem sf_lss : sflat P (do eqGuard .lss t x y (.int k a) (.int k b); binOp .lss t (.int k a) (.int k b)) = some (.bool (decide (a < b))) := by cases k <;> rfl
theorem sf_leq : sflat P (do eqGuard .leq t x y (.int k a) (.int k b); binOp .leq t (.int k a) (.int k b)) = some (.bool (decide (a ≤ b))) := by cases k <;> rfl
theorem sf_gtr : sflat P (do eqGuard .gtr t x y (.int k a) (.int k b); binOp .gtr t (.int k a) (.int k b)) = some (.bool (decide (a > b))) := by cases k <;> rfl
theorem sf_geq : sflat P (do eqGuard .geq t x y (.int k a) (.int k b); binOp .geq t (.int k a) (.int k b)) = some (.bool (decide (a ≥ b))) := by cases k <;> rfl
theorem sf_eql : sflat P (do eqGuard .eql t x y (.int k a) (.int k b); binOp .eql t (.int k a) (.int k b)) = some (.bool (a == b)) := by cases k <;> rfl
theorem sf_neq : sflat P (do eqGuard .neq t x y (.int k a) (.int k b); binOp .neq t (.int k a) (.int k b)) = some (.bool (a != b)) := by cases k <;> rfl
theorem sf_and : sflat P (do eqGuard .and t x y (.int k a) (.int k b); binOp .and t (.int k a) (.int k b)) = some (.int k (bits .and k a b)) := by cases k <;> rfl
theorem sf_or : sflat P (do eqGuard .or t x y (.int k a) (.int k b); binOp .or t (.int k a) (.int k b)) = some (.int k (bits .or k a b)) := by cases k <;> rfl
theorem sf_xor : sflat P (do eqGuard .xor t x y (.int k a) (.int k b); binOp .xor t (.int k a) (.int k b)) = some (.int k (bits .xor k a b)) := by cases k <;> rfl
theorem sf_quo (h : b ≠ 0) : sflat P (do eqGuard .quo t x y (.int k a) (.int k b); binOp .quo t (.int k a) (.int k b)) = some (.int k (k.wrap (a.tdiv b))) := by
  have e : (do eqGuard .quo t x y (.int k a) (.int k b); binOp .quo t (.int k a) (.int k b) : Sem Value) = Op.intDiv .quo k a b := by cases k <;> rfl
  rw [e]
  unfold Op.intDiv
  rw [if_neg h]
  rfl
theorem sf_rem (h : b ≠ 0) : sflat P (do eqGuard .rem t x y (.int k a) (.int k b); binOp .rem t (.int k a) (.int k b)) = some (.int k (a.tmod b)) := by
  have e : (do eqGuard .rem t x y (.int k a) (.int k b); binOp .rem t (.int k a) (.int k b) : Sem Value) = Op.intDiv .rem k a b := by cases k <;> rfl
  rw [e]
  unfold Op.intDiv
  rw [if_neg h]
  rfl
theorem sf_shl {k' : IntKind} (h : 0 ≤ b) : sflat P (do eqGuard .shl t x y (.int k a) (.int k' b); binOp .shl t (.int k a) (.int k' b)) = some (.int k (k.wrap (a * 2 ^ (min b.toNat k.bits)))) := by
  have e : (do eqGuard .shl t x y (.int k a) (.int k' b); binOp .shl t (.int k a) (.int k' b) : Sem Value) = Op.shift .shl k a k' b := rfl
  rw [e]
  unfold Op.shift
  rw [if_neg (by omega)]
  rfl
theorem sf_shr {k' : IntKind} (h : 0 ≤ b) : sflat P (do eqGuard .shr t x y (.int k a) (.int k' b); binOp .shr t (.int k a) (.int k' b)) = some (.int k (a.fdiv (2 ^ (min b.toNat k.bits)))) := by
  have e : (do eqGuard .shr t x y (.int k a) (.int k' b); binOp .shr t (.int k a) (.int k' b) : Sem Value) = Op.shift .shr k a k' b := rfl
  rw [e]
  unfold Op.shift
  rw [if_neg (by omega)]
  rfl
theorem sf_cat (h : s.size + u.size ≤ 9223372036854775807) : sflat P (do eqGuard .add t x y (.string s) (.string u); binOp .add t (.string s) (.string u)) = some (.string (s ++ u)) := by
  have e : (do eqGuard .add t x y (.string s) (.string u); binOp .add t (.string s) (.string u) : Sem Value) = Op.stringOp .add s u := rfl
  rw [e]
  unfold Op.stringOp
  have hm : IntKind.i64.max = 9223372036854775807 := rfl
  simp only [hm]
  rw [if_neg (by omega)]
  rfl
theorem toList_beq (s u : ByteArray) : (s.toList == u.toList) = (s.data.toList == u.data.toList) := by
  rw [ByteArray.toList_eq s, ByteArray.toList_eq u]
theorem sf_seq : sflat P (do eqGuard .eql t x y (.string s) (.string u); binOp .eql t (.string s) (.string u)) = some (.bool (s.toList == u.toList)) := rfl
theorem sf_sne : sflat P (do eqGuard .neq t x y (.string s) (.string u); binOp .neq t (.string s) (.string u)) = some (.bool (!(s.toList == u.toList))) := rfl
theorem sf_not : sflat P (Op.unary .not (.bool p)) = some (.bool (!p)) := rfl
theorem sf_neg : sflat P (Op.unary .neg (.int k a)) = some (.int k (k.wrap (0 - a))) := rfl
theorem sf_min {ats : Array TypeId} : sflat P (Builtin.min_ ats t #[.int k a, .int k b]) = some (.int k (if b < a then b else a)) := rfl
theorem sf_max {ats : Array TypeId} : sflat P (Builtin.max_ ats t #[.int k a, .int k b]) = some (.int k (if b > a then b else a)) := rfl
theorem wr64 (h : -9223372036854775808 ≤ a) (h' : a ≤ 9223372036854775807) : IntKind.i64.wrap a = a := by rw [IntKind.wrap_i64]; omega
end
theorem flat_val' {v : Value} : flat (.val v) = some v := rfl
theorem ev_tmp {tm : List PV} {t : Tmp} : ev tm (.tmp t) = tm.getD t (.val undef) := rfl
theorem ev_int {tm : List PV} {k : IntKind} {n : Int} : ev tm (.const (.int k n)) = .val (.int k n) := rfl
theorem ev_bool {tm : List PV} {b : Bool} : ev tm (.const (.bool b)) = .val (.bool b) := rfl
theorem ev_str {tm : List PV} {s : ByteArray} : ev tm (.const (.string s)) = .val (.string s) := rfl
theorem ev_nil {tm : List PV} : ev tm (.const (.slice none 0 0)) = .val (.slice none 0 0) := rfl
theorem ev_agg {tm : List PV} {cs : List Value} : ev tm (.const (.agg cs.toArray)) = .agg (cs.map .val) := rfl
theorem ev_func {tm : List PV} {f : FuncId} : ev tm (.func f) = .val (.func (.func f) #[] #[]) := rfl
theorem cells_val {k : IntKind} {n : Int} : pcellsOf (.val (.int k n)) = [.val (.int k n)] := rfl
theorem cells_bool {b : Bool} : pcellsOf (.val (.bool b)) = [.val (.bool b)] := rfl
theorem cells_str {b : ByteArray} : pcellsOf (.val (.string b)) = [.val (.string b)] := rfl
theorem cells_nil : pcellsOf (.val (.slice none 0 0)) = [.val (.slice none 0 0)] := rfl
theorem cells_agg {fs : List PV} : pcellsOf (.agg fs) = fs := rfl
theorem cells_sl {sz : Nat} {es : List (List PV)} : pcellsOf (.sl sz es) = [.sl sz es] := rfl
theorem cells_own {b : Nat} : pcellsOf (.own b) = [.own b] := rfl
theorem cells_ptr {b o : Nat} : pcellsOf (.ptr b o) = [.ptr b o] := rfl
theorem blk_box {a b : List PV} : (Blk.box a = Blk.box b) = (a = b) := by simp
theorem blk_row {e e' : TypeId} {s s' : Nat} {a b : List (List PV)} : (Blk.row e s a = Blk.row e' s' b) = (e = e' ∧ s = s' ∧ a = b) := by simp
theorem pint_int {k : IntKind} {n : Int} : pint (.val (.int k n)) = some n := rfl
theorem put_some {tm : List PV} {H : Hp} {d : Tmp} {pv : PV} : (⟨tm, H⟩ : St).put (some d) pv = ⟨tm.set d pv, H⟩ := rfl
theorem put_none {σ : St} {pv : PV} : σ.put none pv = σ := rfl
theorem callable_of {P : Program} {g : FuncId} {fn : Func} (h : P.funcs[g]? = some fn) (h1 : (fn.name == "runtime.NumGoroutine") = false) (h2 : fn.body.isNone = false) : Callable P g := ⟨fn, h, h1, h2⟩
/-- A call of a function that makes only its own memory, or none. -/
theorem pcall_A {P : Program} {cm : Bool} {g : FuncId} {args : List PV} {σ : St} {K : PV → St → Prop} {R : PV → Hp → Prop} (hc : Callable P g) (h : PCalls P g args [] R) (ha : args.all cloA = true) (hk : ∀ r H', R r H' → K (ren [] σ.H.length r) ⟨σ.tm, σ.H ++ H'.map (renB [] σ.H.length)⟩) : pcall P cm g args σ K := ⟨hc, .inl ⟨R, h, ha, hk⟩⟩
/-- A call whose result holds no memory. -/
theorem pcall_S {P : Program} {cm : Bool} {g : FuncId} {args : List PV} {σ : St} {K : PV → St → Prop} {R : PV → Hp → Prop} (hc : Callable P g) (h : PCalls P g (args.map (vw σ.H)) [] R) (ha : ∀ p ∈ args, vwOk σ.H p) (hk : ∀ r H', R r H' → scalP r = true ∧ K r σ) : pcall P cm g args σ K := ⟨hc, .inr (.inl ⟨R, h, ha, hk⟩)⟩
/-- A call whose result is known and holds no memory. -/
theorem pcall_V {P : Program} {cm : Bool} {g : FuncId} {args : List PV} {σ : St} {K : PV → St → Prop} {v : PV} (hc : Callable P g) (h : PCalls P g (args.map (vw σ.H)) [] fun r _ => r = v) (hv : scalP v = true) (ha : ∀ p ∈ args, vwOk σ.H p) (hk : K v σ) : pcall P cm g args σ K :=
  pcall_S hc h ha fun r _ e => by subst e; exact ⟨hv, hk⟩
theorem gd_tt : (some true == some true) = true := rfl
theorem gd_ff : (some false == some false) = true := rfl
theorem gd_tf : (some true == some false) = false := rfl
theorem gd_ft : (some false == some true) = false := rfl
theorem gd_T {b : Bool} {A B : Prop} (h1 : b = true → A) (h2 : b = false → B) : if (some b == some true) = true then A else B := by
  cases b <;> first | exact h1 rfl | exact h2 rfl
theorem gd_F {b : Bool} {A B : Prop} (h1 : b = false → A) (h2 : b = true → B) : if (some b == some false) = true then A else B := by
  cases b <;> first | exact h1 rfl | exact h2 rfl
theorem cast_pred (j : Nat) : ((j + 1 : Nat) : Int) - 1 = (j : Int) := by omega
def vwAll (H : Hp) : List PV → Prop
  | [] => True
  | p :: ps => vwOk H p ∧ vwAll H ps
theorem vwAll_mem {H : Hp} : ∀ {l : List PV}, vwAll H l → ∀ p ∈ l, vwOk H p
  | [], _, _, h => by cases h
  | q :: l, hl, p, h => by
    rcases List.mem_cons.1 h with rfl | h
    · exact hl.1
    · exact vwAll_mem hl.2 p h
/-- The same, the arguments looked at one by one. -/
theorem pcall_W {P : Program} {cm : Bool} {g : FuncId} {args : List PV} {σ : St} {K : PV → St → Prop} {v : PV} (hc : Callable P g) (h : PCalls P g (args.map (vw σ.H)) [] fun r _ => r = v) (hv : scalP v = true) (ha : vwAll σ.H args) (hk : K v σ) : pcall P cm g args σ K := pcall_V hc h hv (vwAll_mem ha) hk
/-! ### One step of a walk -/
section
variable {P : Program} {T : Tys} {md : Bool} {ops : Array Oper} {K : St → Prop} {Q : Exit → St → Prop} {σ : St}
theorem PWp.condI {N : Nat} {c : Operand} {x y : Code} (h : ∃ b, ev σ.tm c = .val (.bool b) ∧ (b = true → PWp P N x Q σ) ∧ (b = false → PWp P N y Q σ)) : PWp P N (.cond c x y) Q σ := by
  obtain ⟨b, h1, h2, h3⟩ := h
  exact PWp.cond h1 h2 h3
theorem pops_nil (h : K σ) : pops P T md ops K [] σ := h
def pbool (tm : List PV) (d : Tmp) : Option Bool := match tm[d]? with | some (.val (.bool b)) => some b | _ => none
theorem pwanted_of {tm : List PV} {j : Nat} {w b : Bool} {d : Tmp} (hd : (ops[j]?).bind (·.dst) = some d) (hb : pbool tm d = some b) : pwanted ops tm (some (j, w)) = (b == w) := by
  have : pyielded ops tm j = some b := by unfold pyielded; rw [hd]; exact hb
  simp only [pwanted, this]
  cases b <;> cases w <;> rfl
theorem pops_plain {dst : Option Tmp} {op : Op} {ty : TypeId} {pos : String} {after : Array Edge} {rest : List Oper} (h : ∀ K' : St → Prop, (∀ σ, pops P T md ops K rest σ → K' σ) → popO P T md true op ty σ (fun pv σ' => K' (σ'.put dst pv))) : pops P T md ops K (⟨dst, op, ty, pos, after, none⟩ :: rest) σ := by
  simp only [pops, pwanted, if_true]
  exact h _ fun _ h => h
theorem pops_guard {dst : Option Tmp} {op : Op} {ty : TypeId} {pos : String} {after : Array Edge} {j : Nat} {w : Bool} {rest : List Oper} (h : ∃ d, (ops.toList[j]?).bind (·.dst) = some d ∧ ∀ K' : St → Prop, (∀ σ, pops P T md ops K rest σ → K' σ) → ∃ b, pbool σ.tm d = some b ∧ (b = w → popO P T md true op ty σ (fun pv σ' => K' (σ'.put dst pv))) ∧ (b = (!w) → K' (σ.put dst (.val undef)))) : pops P T md ops K (⟨dst, op, ty, pos, after, some (j, w)⟩ :: rest) σ := by
  obtain ⟨d, hd, h⟩ := h
  rw [Array.getElem?_toList] at hd
  obtain ⟨b, hb, h1, h2⟩ := h _ fun _ h => h
  simp only [pops, pwanted_of hd hb]
  cases b <;> cases w <;> first | exact h1 rfl | exact h2 rfl
theorem pwanted_no {tm : List PV} {j : Nat} {w : Bool} {d : Tmp} (hd : (ops[j]?).bind (·.dst) = some d) (hb : pbool tm d = none) : pwanted ops tm (some (j, w)) = false := by
  have : pyielded ops tm j = none := by unfold pyielded; rw [hd]; exact hb
  simp only [pwanted, this]
  rfl
theorem pops_guard0 {dst : Option Tmp} {op : Op} {ty : TypeId} {pos : String} {after : Array Edge} {j : Nat} {w : Bool} {rest : List Oper} (h : ∃ d, (ops.toList[j]?).bind (·.dst) = some d ∧ ∀ K' : St → Prop, (∀ σ, pops P T md ops K rest σ → K' σ) → pbool σ.tm d = none ∧ K' (σ.put dst (.val undef))) : pops P T md ops K (⟨dst, op, ty, pos, after, some (j, w)⟩ :: rest) σ := by
  obtain ⟨d, hd, h⟩ := h
  rw [Array.getElem?_toList] at hd
  obtain ⟨hb, h2⟩ := h _ fun _ h => h
  simp only [pops, pwanted_no hd hb]
  exact h2
def pstepD (P : Program) (T : Tys) (md : Bool) (ops : Array Oper) (o : Oper) (σ : St) (K' : St → Prop) : Prop :=
  if pwanted ops σ.tm o.guard then (if kindOp o.op ≤ 1 then py P T σ.tm σ.H o.op o.type fun pv => K' (σ.put o.dst pv) else pop P T md false o σ fun pv σ' => K' (σ'.put o.dst pv)) else K' (σ.put o.dst (.val undef))
theorem pany_I {i : Nat} {rest : List Nat} (h : ∃ o, ops.toList[i]? = some o ∧ ∀ K' : St → Prop, (∀ σ, pany P T md ops K rest σ → K' σ) → pstepD P T md ops o σ K') : pany P T md ops K (i :: rest) σ := by
  obtain ⟨o, hi, h⟩ := h
  rw [Array.getElem?_toList] at hi
  simp only [pany, hi]
  exact h _ fun _ h => h
section
variable {dst : Option Tmp} {op : Op} {ty : TypeId} {pos : String} {after : Array Edge} {j : Nat} {w : Bool}
theorem pD_y (hk : (decide (kindOp op ≤ 1)) = true) (h : py P T σ.tm σ.H op ty fun pv => K (σ.put dst pv)) : pstepD P T md ops ⟨dst, op, ty, pos, after, none⟩ σ K := by
  simp only [pstepD, pwanted, if_true, if_pos (of_decide_eq_true hk)]
  exact h
theorem pD_x (hk : (decide (kindOp op ≤ 1)) = false) (h : popO P T md false op ty σ fun pv σ' => K (σ'.put dst pv)) : pstepD P T md ops ⟨dst, op, ty, pos, after, none⟩ σ K := by
  simp only [pstepD, pwanted, if_true, if_neg (of_decide_eq_false hk)]
  exact h
theorem pD_gy (hk : (decide (kindOp op ≤ 1)) = true) (h : ∃ d, (ops.toList[j]?).bind (·.dst) = some d ∧ ∃ b, pbool σ.tm d = some b ∧ (b = w → py P T σ.tm σ.H op ty fun pv => K (σ.put dst pv)) ∧ (b = (!w) → K (σ.put dst (.val undef)))) : pstepD P T md ops ⟨dst, op, ty, pos, after, some (j, w)⟩ σ K := by
  obtain ⟨d, hd, b, hb, h1, h2⟩ := h
  rw [Array.getElem?_toList] at hd
  simp only [pstepD, pwanted_of hd hb, if_pos (of_decide_eq_true hk)]
  cases b <;> cases w <;> first | exact h1 rfl | exact h2 rfl
theorem pD_g0 (h : ∃ d, (ops.toList[j]?).bind (·.dst) = some d ∧ pbool σ.tm d = none ∧ K (σ.put dst (.val undef))) : pstepD P T md ops ⟨dst, op, ty, pos, after, some (j, w)⟩ σ K := by
  obtain ⟨d, hd, hb, h2⟩ := h
  rw [Array.getElem?_toList] at hd
  simp only [pstepD, pwanted_no hd hb]
  exact h2
theorem pD_gx (hk : (decide (kindOp op ≤ 1)) = false) (h : ∃ d, (ops.toList[j]?).bind (·.dst) = some d ∧ ∃ b, pbool σ.tm d = some b ∧ (b = w → popO P T md false op ty σ fun pv σ' => K (σ'.put dst pv)) ∧ (b = (!w) → K (σ.put dst (.val undef)))) : pstepD P T md ops ⟨dst, op, ty, pos, after, some (j, w)⟩ σ K := by
  obtain ⟨d, hd, b, hb, h1, h2⟩ := h
  rw [Array.getElem?_toList] at hd
  simp only [pstepD, pwanted_of hd hb, if_neg (of_decide_eq_false hk)]
  cases b <;> cases w <;> first | exact h1 rfl | exact h2 rfl
end
theorem pany_nil (h : K σ) : pany P T md ops K [] σ := h
theorem pthen_normal (h : K σ) : Exit.pthen K Q .normal σ := h
theorem pthen_ret (h : Q .ret σ) : Exit.pthen K Q .ret σ := h
theorem pthen_exit {id : Nat} (h : Q (.exit id) σ) : Exit.pthen K Q (.exit id) σ := h
theorem pblock_normal {id : Nat} (h : Q .normal σ) : Exit.pblock id Q .normal σ := h
theorem pblock_ret {id : Nat} (h : Q .ret σ) : Exit.pblock id Q .ret σ := h
theorem pblock_here {id : Nat} (h : Q .normal σ) : Exit.pblock id Q (.exit id) σ := by show (if id = id then _ else _); rw [if_pos rfl]; exact h
theorem pblock_there {id id' : Nat} (hn : (id' == id) = false) (h : Q (.exit id') σ) : Exit.pblock id Q (.exit id') σ := by show (if id' = id then _ else _); rw [if_neg (by simpa using hn)]; exact h
end
end Go.Proofs.Ytcbknmnlgoeniaa
/- The pure machine: what is not named is forgotten, and blocks get new numbers. -/
namespace Go.Proofs.Ytcbknmnlgoeniaa
open Go.RowKit

/-- The home of blocks that got new numbers: the new number i is the old number φ[i]. -/
def homeR (φ : List Nat) (h : Home) : Home := fun i => match φ[i]? with | some b => h b | none => none
/-- The blocks that are kept, under their new numbers. -/
def blkR (φ : List Nat) (n : Nat) (H : Hp) : List Nat → Hp → Prop
  | [], [] => True
  | _ :: bs, none :: r => blkR φ n H bs r
  | b :: bs, some B :: r => H[b]? = some (renB φ n (some B)) ∧ blkR φ n H bs r
  | _, _ => False
theorem blkR_len {φ : List Nat} {n : Nat} {H : Hp} : ∀ {bs : List Nat} {H' : Hp}, blkR φ n H bs H' → bs.length = H'.length
  | [], [], _ => rfl
  | _ :: bs, none :: r, h => by simp only [List.length_cons]; rw [blkR_len (bs := bs) (H' := r) h]
  | _ :: bs, some _ :: r, h => by simp only [List.length_cons]; rw [blkR_len (bs := bs) (H' := r) h.2]
  | [], _ :: _, h => h.elim
  | _ :: _, [], h => h.elim
theorem renB_some {φ : List Nat} {n : Nat} {B : Blk} : ∃ B', renB φ n (some B) = some B' := by cases B <;> exact ⟨_, rfl⟩
theorem blkR_get {φ : List Nat} {n : Nat} {H : Hp} : ∀ {bs : List Nat} {H' : Hp}, blkR φ n H bs H' → ∀ (i : Nat) (B : Blk), H'[i]? = some (some B) → ∃ b B', bs[i]? = some b ∧ renB φ n (some B) = some B' ∧ H[b]? = some (some B')
  | [], [], _, i, B, q => by simp at q
  | _ :: _, none :: _, h, 0, B, q => by simp at q
  | _ :: bs, none :: r, h, i + 1, B, q => blkR_get (H := H) (bs := bs) (H' := r) h i B (by simpa using q)
  | b :: _, some C :: _, h, 0, B, q => by
    simp at q
    subst q
    obtain ⟨B', e⟩ := renB_some (φ := φ) (n := n) (B := C)
    exact ⟨b, B', rfl, e, by rw [← e]; exact h.1⟩
  | _ :: bs, some C :: r, h, i + 1, B, q => blkR_get (H := H) (bs := bs) (H' := r) h.2 i B (by simpa using q)
  | [], _ :: _, h, _, _, _ => h.elim
  | _ :: _, [], h, _, _, _ => h.elim
/-- The first numbers stay. -/
def preR (φ : List Nat) : Nat → Prop
  | 0 => True
  | n + 1 => φ[n]? = some n ∧ preR φ n
theorem preR_get {φ : List Nat} : ∀ {n : Nat}, preR φ n → ∀ b, b < n → φ[b]? = some b
  | 0, _, _, h => by omega
  | n + 1, h, b, hb => by
    by_cases e : b = n
    · subst e; exact h.1
    · exact preR_get h.2 b (by omega)
def nodupR : List Nat → Bool
  | [] => true
  | x :: xs => !xs.contains x && nodupR xs
theorem nodupR_ok : ∀ {l : List Nat}, nodupR l = true → l.Nodup
  | [], _ => List.nodup_nil
  | x :: xs, h => by
    simp only [nodupR, Bool.and_eq_true, Bool.not_eq_true', List.contains_eq_mem, decide_eq_false_iff_not] at h
    exact List.nodup_cons.2 ⟨h.1, nodupR_ok h.2⟩
structure Refit (N : Nat) (φ : List Nat) (H' H : Hp) : Prop where
  nd : nodupR φ = true
  pre : preR φ N
  blk : blkR φ H.length H φ H'
theorem homeR_back {M : Mem} {h : Home} {H : Hp} {w : World} (I : Inv M h H w) {φ : List Nat} (i : Nat) (v : Value) (q : h (rn φ H.length i) = some v) : homeR φ h i = some v := by
  by_cases hi : i < φ.length
  · have e1 : φ[i]? = some φ[i] := List.getElem?_eq_getElem hi
    rw [rn_lt e1] at q
    show (match φ[i]? with | some b => h b | none => none) = some v
    rw [e1]
    exact q
  · rw [rn_ge (by omega)] at q
    have := I.len _ _ q
    omega
theorem Refit.homes {N : Nat} {φ : List Nat} {H' H : Hp} (f : Refit N φ H' H) {h : Home} {k : Nat} (q : Homes (homeR φ h) H' k) : Homes h H k := by
  obtain ⟨i, B, v, p1, p2, p3⟩ := q
  obtain ⟨b, B', g1, g2, g3⟩ := blkR_get f.blk i B p1
  simp only [homeR, g1] at p2
  exact ⟨b, B', v, g3, p2, p3⟩
theorem Refit.inv {N : Nat} {φ : List Nat} {H' H : Hp} (f : Refit N φ H' H) {M : Mem} {h : Home} {w : World} (I : Inv M h H w) : Inv M (homeR φ h) H' w := by
  refine ⟨I.mem, I.one, fun i B q => ?_, fun k q o => I.sep k (f.homes q) o, fun i i' B B' v v' k q1 q2 q3 q4 q5 q6 => ?_, fun i v q => ?_, I.glob⟩
  · obtain ⟨b, B', g1, g2, g3⟩ := blkR_get f.blk i B q
    obtain ⟨v, e1, e2⟩ := I.blk _ B' g3
    exact ⟨v, by simp only [homeR, g1]; exact e1, e2.back (homeR_back I) g2⟩
  · obtain ⟨b, C, g1, g2, g3⟩ := blkR_get f.blk i B q1
    obtain ⟨b', C', f1, f2, f3⟩ := blkR_get f.blk i' B' q2
    simp only [homeR, g1] at q3
    simp only [homeR, f1] at q4
    have := I.inj b b' C C' v v' k g3 f3 q3 q4 q5 q6
    subst this
    exact (List.getElem?_inj (List.getElem?_eq_some_iff.1 g1).1 (nodupR_ok f.nd)).1 (by rw [g1, f1])
  · cases e : φ[i]? with
    | none => simp only [homeR, e] at q; cases q
    | some b => rw [← blkR_len f.blk]; exact (List.getElem?_eq_some_iff.1 e).1
theorem Refit.step {N : Nat} {φ : List Nat} {H' H : Hp} (f : Refit N φ H' H) {M0 : Mem} {h0 : Home} {H0 : Hp} {w0 : World} {M : Mem} {h : Home} {w : World} (hN : ∀ b v, h0 b = some v → b < N) (s : Step M0 h0 H0 w0 M h H w) : Step M0 h0 H0 w0 M (homeR φ h) H' w where
  mle := s.mle
  hle b v q := by
    have := preR_get f.pre b (hN b v q)
    show (match φ[b]? with | some b => h b | none => none) = some v
    rw [this]
    exact s.hle b v q
  inv := f.inv s.inv
  chg := s.chg
  sub k q := s.sub k (f.homes q)
  new := s.new
theorem Refit.vr {φ : List Nat} {H : Hp} {M : Mem} {h : Home} {w : World} (I : Inv M h H w) {pv : PV} {v : Value} (r : VR M h (ren φ H.length pv) v) : VR M (homeR φ h) pv v := ren_back (homeR_back I) r pv rfl
/-- A frame of which some slots are known, under the new numbers. -/
def matchR (φ : List Nat) (n : Nat) : List (Option PV) → List PV → Prop
  | [], [] => True
  | some p :: ps, x :: xs => ren φ n p = x ∧ matchR φ n ps xs
  | none :: ps, _ :: xs => matchR φ n ps xs
  | _, _ => False
theorem matchR_inst {φ : List Nat} {H : Hp} {M : Mem} {h : Home} {w : World} (I : Inv M h H w) : ∀ (pat : List (Option PV)) (tm : List PV) (vs : List Value) (k : Nat), matchR φ H.length pat tm → vs.length = tm.length → (∀ (i : Nat) (pv : PV) (v : Value), tm[i]? = some pv → vs[i]? = some v → VR M h pv v) →
    (instP (fun i => vs.getD (i - k) undef) k pat).length = vs.length ∧ ∀ (i : Nat) (pv : PV) (v : Value), (instP (fun i => vs.getD (i - k) undef) k pat)[i]? = some pv → vs[i]? = some v → VR M (homeR φ h) pv v
  | [], [], vs, k, _, hl, _ => by
    have : vs = [] := List.eq_nil_of_length_eq_zero (by simpa using hl)
    subst this
    exact ⟨rfl, by simp⟩
  | some p :: ps, x :: xs, v :: vs, k, hm, hl, hv => by
    obtain ⟨rfl, hm⟩ := hm
    obtain ⟨h1, h2⟩ := matchR_inst I ps xs vs (k + 1) hm (by simpa using hl) fun i pv u a b => hv (i + 1) pv u (by simpa using a) (by simpa using b)
    have e : ∀ k' l, (instP (fun i => (v :: vs).getD (i - k) undef) (k' + (k + 1)) l) = instP (fun i => vs.getD (i - (k + 1)) undef) (k' + (k + 1)) l := fun k' l => by
      induction l generalizing k' with
      | nil => rfl
      | cons q l ih =>
        have ih' := ih (k' + 1)
        rw [show k' + 1 + (k + 1) = k' + (k + 1) + 1 by omega] at ih'
        cases q with
        | none =>
          simp only [instP]
          rw [ih', show k' + (k + 1) - k = (k' + (k + 1) - (k + 1)) + 1 by omega]
          rfl
        | some q => simp only [instP]; rw [ih']
    have e0 := e 0 ps
    rw [Nat.zero_add] at e0
    simp only [instP, e0]
    refine ⟨by rw [List.length_cons, List.length_cons, h1], fun i pv u a b => ?_⟩
    cases i with
    | zero => simp at a b; subst a; subst b; exact Refit.vr I (hv 0 _ _ rfl rfl)
    | succ i => exact h2 i pv u (by simpa using a) (by simpa using b)
  | none :: ps, x :: xs, v :: vs, k, hm, hl, hv => by
    obtain ⟨h1, h2⟩ := matchR_inst I ps xs vs (k + 1) hm (by simpa using hl) fun i pv u a b => hv (i + 1) pv u (by simpa using a) (by simpa using b)
    have e : ∀ k' l, (instP (fun i => (v :: vs).getD (i - k) undef) (k' + (k + 1)) l) = instP (fun i => vs.getD (i - (k + 1)) undef) (k' + (k + 1)) l := fun k' l => by
      induction l generalizing k' with
      | nil => rfl
      | cons q l ih =>
        have ih' := ih (k' + 1)
        rw [show k' + 1 + (k + 1) = k' + (k + 1) + 1 by omega] at ih'
        cases q with
        | none =>
          simp only [instP]
          rw [ih', show k' + (k + 1) - k = (k' + (k + 1) - (k + 1)) + 1 by omega]
          rfl
        | some q => simp only [instP]; rw [ih']
    have e0 := e 0 ps
    rw [Nat.zero_add] at e0
    simp only [instP, e0, Nat.sub_self]
    refine ⟨by rw [List.length_cons, List.length_cons, h1], fun i pv u a b => ?_⟩
    cases i with
    | zero => simp at a b; subst a; subst b; exact .val _
    | succ i => exact h2 i pv u (by simpa using a) (by simpa using b)
  | [], _ :: _, _, _, hm, _, _ => hm.elim
  | some _ :: _, [], _, _, hm, _, _ => hm.elim
  | none :: _, [], _, _, hm, _, _ => hm.elim
  | some _ :: _, _ :: _, [], _, _, hl, _ => by simp at hl
  | none :: _, _ :: _, [], _, _, hl, _ => by simp at hl
/-- A state that a pattern fits, under new numbers. -/
def FitsR (N : Nat) (pat : List (Option PV)) (H : Hp) (σ : St) : Prop := ∃ φ : List Nat, matchR φ σ.H.length pat σ.tm ∧ blkR φ σ.H.length σ.H φ H ∧ nodupR φ = true ∧ preR φ N
theorem FitsR.rel {E : Env} {pat : List (Option PV)} {H : Hp} {σ : St} {a : Act} {w : World} (f : FitsR E.N pat H σ) (r : Rel E σ a w) : ∃ ρ, Rel E ⟨instP ρ 0 pat, H⟩ a w := by
  obtain ⟨φ, f1, f2, f3, f4⟩ := f
  obtain ⟨M, h, s, t, d⟩ := r
  have rf : Refit E.N φ H σ.H := ⟨f3, f4, f2⟩
  obtain ⟨g1, g2⟩ := matchR_inst (φ := φ) s.inv pat σ.tm a.tmps.toList 0 f1 (by simpa using t.size) fun i pv v x y => t.vr i pv v x (by simpa using y)
  exact ⟨_, M, homeR φ h, rf.step E.hN s, ⟨by simpa using g1.symm, fun i pv v x y => g2 i pv v x (by simpa using y)⟩, d⟩
/-- Slots that are named, slots that are forgotten, and all others as they are. -/
def setN (fgt : List Nat) (l : List (Option PV)) : List (Option PV) := fgt.foldl (fun l i => l.set i none) l
def setC (car : List (Nat × PV)) (l : List (Option PV)) : List (Option PV) := car.foldl (fun l x => l.set x.1 (some x.2)) l
def patK (car : List (Nat × PV)) (fgt : List Nat) (tm : List PV) : List (Option PV) := setC car (setN fgt (tm.map some))
theorem patK_eq {car : List (Nat × PV)} {fgt : List Nat} {tm : List PV} : patK car fgt tm = setC car (setN fgt (tm.map some)) := rfl
theorem setN_nil {l : List (Option PV)} : setN [] l = l := rfl
theorem setN_cons {i : Nat} {is : List Nat} {l : List (Option PV)} : setN (i :: is) l = setN is (l.set i none) := rfl
theorem setC_nil {l : List (Option PV)} : setC [] l = l := rfl
theorem setC_cons {i : Nat} {p : PV} {is : List (Nat × PV)} {l : List (Option PV)} : setC ((i, p) :: is) l = setC is (l.set i (some p)) := rfl
theorem instP_nil {ρ : Nat → Value} {i : Nat} : instP ρ i [] = [] := rfl
theorem instP_some {ρ : Nat → Value} {i : Nat} {p : PV} {ps : List (Option PV)} : instP ρ i (some p :: ps) = p :: instP ρ (i + 1) ps := rfl
theorem instP_none {ρ : Nat → Value} {i : Nat} {ps : List (Option PV)} : instP ρ i (none :: ps) = .val (ρ i) :: instP ρ (i + 1) ps := rfl
/-- A loop: at the head of every round some slots are named, some forgotten, all others as they were ahead of it. -/
theorem PWp.loopK {P : Program} {N : Nat} {c : Code} {Q : Exit → St → Prop} {tm : List PV} {H0 : Hp} {α : Type} (car : α → List (Nat × PV)) (fgt : List Nat) (HH : α → Hp) (I : α → Prop) (m : α → Nat) (x : α) (h0 : I x) (f0 : FitsR N (patK (car x) fgt tm) (HH x) ⟨tm, H0⟩)
    (h : ∀ x ρ, I x → PWp P N c (Exit.pthen (fun σ' => ∃ x', m x' < m x ∧ I x' ∧ FitsR N (patK (car x') fgt tm) (HH x') σ') Q) ⟨instP ρ 0 (patK (car x) fgt tm), HH x⟩) : PWp P N (.loop c) Q ⟨tm, H0⟩ := fun E a w hN r => by
  subst hN
  refine wp_loop_ghost (fun g a w => ∃ x, (g = m x ∧ I x) ∧ ∃ ρ, Rel E ⟨instP ρ 0 (patK (car x) fgt tm), HH x⟩ a w) (m x) ⟨x, ⟨rfl, h0⟩, f0.rel r⟩ fun g a w ⟨x', ⟨h1, h1'⟩, ρ, h2⟩ => Code.wp_mono ?_ (h x' ρ h1' E a w rfl h2)
  subst h1
  intro e a' w' q
  cases e with
  | normal => obtain ⟨σ'', ⟨x'', h3, h4, h5⟩, h6⟩ := q; exact ⟨m x'', h3, x'', ⟨rfl, h4⟩, h5.rel h6⟩
  | panic _ => exact q.elim
  | outgrown => exact q.elim
  | exit _ => exact q
  | goto _ => exact q
  | ret => exact q
/-- Some slots are named, some forgotten; the code goes on. -/
theorem PWp.cutK {P : Program} {N : Nat} {c : Code} {Q : Exit → St → Prop} {tm : List PV} {H0 : Hp} (car : List (Nat × PV)) (fgt : List Nat) (H : Hp) (f0 : FitsR N (patK car fgt tm) H ⟨tm, H0⟩) (h : ∀ ρ, PWp P N c Q ⟨instP ρ 0 (patK car fgt tm), H⟩) : PWp P N c Q ⟨tm, H0⟩ := fun E a w hN r => by
  subst hN
  obtain ⟨ρ, r'⟩ := f0.rel r
  exact h ρ E a w rfl r'
/-- What a call yields: a value that is known; and a value with the memory that is its own. -/
def RV (x : PV) : PV → Hp → Prop := fun r _ => r = x
def RH (x : PV) (H : Hp) : PV → Hp → Prop := fun r H' => r = x ∧ H' = H
/-- What a function's code must come to, under new numbers. -/
def PPostR (T : Tys) (N : Nat) (rs : List ResultVar) (R : PV → Hp → Prop) : Exit → St → Prop := fun e σ => (e = .normal ∨ e = .ret) ∧ ∃ pvs, presults T rs σ = some pvs ∧ ∃ φ r H, R r H ∧ ptuple pvs = ren φ σ.H.length r ∧ Refit N φ H σ.H
theorem pcalls_ofR {P : Program} {T : Tys} (ok : Ok P T) {f : FuncId} {fn : Func} {c : Code} (hf : P.funcs[f]? = some fn) (hb : fn.body = some c) {args : List PV} {H : Hp} {R : PV → Hp → Prop}
    (h : PWp P H.length c (PPostR T H.length fn.results.toList R) ⟨args ++ List.replicate (fn.ntmps - args.length) (.val undef), H⟩) : PCalls P f args H R := by
  have h0 : PCalls P f args H (fun pv H' => ∃ φ r H'', R r H'' ∧ pv = ren φ H'.length r ∧ Refit H.length φ H'' H') := pcalls_of ok hf hb (PWp.mono h fun e σ ⟨q1, pvs, q2, φ, r, H', q3, q4, q5⟩ => ⟨q1, pvs, q2, φ, r, H', q3, q4, q5⟩)
  intro M hh w vs I rv
  refine (h0 M hh w vs I rv).mono fun e w' ⟨v, M', h', pv, H', e1, ⟨φ, r, H'', e2, e3, e4⟩, e5, e6⟩ => ?_
  subst e3
  exact ⟨v, M', homeR φ h', r, H'', e1, e2, Refit.vr e6.inv e5, e4.step I.len e6⟩
section
variable {T : Tys} {N : Nat} {σ : St} {X : PV} {H : Hp} {R : PV → Hp → Prop}
theorem ren_val {φ : List Nat} {n : Nat} {v : Value} : ren φ n (.val v) = .val v := rfl
theorem ren_own {φ : List Nat} {n b : Nat} : ren φ n (.own b) = .own (rn φ n b) := rfl
theorem ren_ptr {φ : List Nat} {n b o : Nat} : ren φ n (.ptr b o) = .ptr (rn φ n b) o := rfl
theorem ren_sl {φ : List Nat} {n sz : Nat} {es : List (List PV)} : ren φ n (.sl sz es) = .sl sz es := rfl
theorem ren_agg {φ : List Nat} {n : Nat} {fs : List PV} : ren φ n (.agg fs) = .agg (renL φ n fs) := rfl
theorem ren_tup {φ : List Nat} {n : Nat} {fs : List PV} : ren φ n (.tup fs) = .tup (renL φ n fs) := rfl
theorem renL_nil {φ : List Nat} {n : Nat} : renL φ n [] = [] := rfl
theorem renL_cons {φ : List Nat} {n : Nat} {p : PV} {ps : List PV} : renL φ n (p :: ps) = ren φ n p :: renL φ n ps := rfl
theorem renB_box {φ : List Nat} {n : Nat} {cs : List PV} : renB φ n (some (.box cs)) = some (.box (renL φ n cs)) := rfl
theorem renB_row {φ : List Nat} {n : Nat} {e : TypeId} {sz : Nat} {es : List (List PV)} : renB φ n (some (.row e sz es)) = some (.row e sz (es.map (renL φ n))) := rfl
theorem renB_none {φ : List Nat} {n : Nat} : renB φ n none = none := rfl
theorem rn_nil {n i : Nat} : rn [] n i = n + i := by simp [rn]
theorem rn_zero {b : Nat} {φ : List Nat} {n : Nat} : rn (b :: φ) n 0 = b := by simp [rn]
theorem renL_flat1 {φ : List Nat} {n : Nat} : ∀ {l : List PV}, l.all cloC1 = true → renL φ n l = l
  | [], _ => rfl
  | p :: ps, h => by
    simp only [List.all_cons, Bool.and_eq_true] at h
    rw [renL, renL_flat1 h.2]
    congr 1
    cases p <;> first | rfl | simp [cloC1] at h
/-- The values hold no memory of one's own. -/
theorem renL_flat {φ : List Nat} {n : Nat} : ∀ {l : List PV}, l.all cloC = true → renL φ n l = l
  | [], _ => rfl
  | p :: ps, h => by
    simp only [List.all_cons, Bool.and_eq_true] at h
    rw [renL, renL_flat h.2]
    congr 1
    cases p with
    | clo f caps => rw [ren, renL_flat1 h.1]
    | _ => first | rfl | simp [cloC] at h
theorem rows_flat {φ : List Nat} {n : Nat} {α : Type} {f : α → List PV} (hf : ∀ x, (f x).all cloC = true) (l : List α) : (l.map f).map (renL φ n) = l.map f := by
  rw [List.map_map]
  apply List.map_congr_left
  intro x _
  exact renL_flat (hf x)
/-- The end: a value that is known. -/
theorem pend {e : Exit} {rs : List ResultVar} (he : e = .ret ∨ e = .normal) {pvs : List PV} (h1 : presults T rs σ = some pvs) (φ : List Nat) {r : PV} (h2 : ptuple pvs = ren φ σ.H.length r) {H : Hp} (h3 : Refit N φ H σ.H) (h4 : R r H) : PPostR T N rs R e σ := ⟨he.symm, pvs, h1, φ, r, H, h4, h2, h3⟩
end
section
variable {T : Tys} {σ : St} {X : PV}
theorem scal1_ren {φ : List Nat} {n : Nat} {p : PV} (h : scal1 p = true) : ren φ n p = p := by cases p <;> first | rfl | simp [scal1] at h
theorem scalL_ren {φ : List Nat} {n : Nat} : ∀ {l : List PV}, l.all scal1 = true → renL φ n l = l
  | [], _ => rfl
  | p :: ps, h => by
    simp only [List.all_cons, Bool.and_eq_true] at h
    rw [renL, scalL_ren h.2, scal1_ren h.1]
theorem scalA_ren {φ : List Nat} {n : Nat} {p : PV} (h : scalA p = true) : ren φ n p = p := by
  cases p with
  | agg fs => rw [ren, scalL_ren h]
  | _ => exact scal1_ren h
theorem scalAL_ren {φ : List Nat} {n : Nat} : ∀ {l : List PV}, l.all scalA = true → renL φ n l = l
  | [], _ => rfl
  | p :: ps, h => by
    simp only [List.all_cons, Bool.and_eq_true] at h
    rw [renL, scalAL_ren h.2, scalA_ren h.1]
theorem scalP_ren {φ : List Nat} {n : Nat} {p : PV} (h : scalP p = true) : ren φ n p = p := by
  cases p with
  | tup fs => rw [ren, scalAL_ren h]
  | agg fs => exact scalA_ren h
  | _ => exact scal1_ren h
/-- The end: a value that holds no memory. -/
theorem pendV {e : Exit} {rs : List ResultVar} (he : e = .ret ∨ e = .normal) {pvs : List PV} (h1 : presults T rs σ = some pvs) (hs : scalP X = true) (h2 : ptuple pvs = X) : PPostR T 0 rs (RV X) e σ :=
  pend he h1 [] (by rw [scalP_ren hs]; exact h2) (H := []) ⟨rfl, trivial, trivial⟩ rfl
/-- The end: a value with the memory that is its own. -/
theorem pendH {N : Nat} {H : Hp} {e : Exit} {rs : List ResultVar} (φ : List Nat) (he : e = .ret ∨ e = .normal) {pvs : List PV} (h1 : presults T rs σ = some pvs) (h2 : ptuple pvs = ren φ σ.H.length X) (h3 : blkR φ σ.H.length σ.H φ H) (h4 : nodupR φ = true) (h5 : preR φ N) : PPostR T N rs (RH X H) e σ :=
  pend he h1 φ h2 ⟨h4, h5, h3⟩ ⟨rfl, rfl⟩
section
variable {e : Exit} {N : Nat} {H : Hp} {a b c : Tmp}
theorem pendV0 (he : e = .ret ∨ e = .normal) (h2 : PV.tup [] = X) (hs : scalP X = true) : PPostR T 0 [] (RV X) e σ := pendV he rfl hs h2
theorem pendV1 (he : e = .ret ∨ e = .normal) (h2 : σ.tm.getD a (.val undef) = X) (hs : scalP X = true) : PPostR T 0 [.tmp a] (RV X) e σ := pendV he rfl hs h2
theorem pendV2 (he : e = .ret ∨ e = .normal) (h2 : PV.tup [σ.tm.getD a (.val undef), σ.tm.getD b (.val undef)] = X) (hs : scalP X = true) : PPostR T 0 [.tmp a, .tmp b] (RV X) e σ := pendV he rfl hs h2
theorem pendV3 (he : e = .ret ∨ e = .normal) (h2 : PV.tup [σ.tm.getD a (.val undef), σ.tm.getD b (.val undef), σ.tm.getD c (.val undef)] = X) (hs : scalP X = true) : PPostR T 0 [.tmp a, .tmp b, .tmp c] (RV X) e σ := pendV he rfl hs h2
theorem pendH0 (φ : List Nat) (he : e = .ret ∨ e = .normal) (h2 : PV.tup [] = ren φ σ.H.length X) (h3 : blkR φ σ.H.length σ.H φ H) (h4 : nodupR φ = true) (h5 : preR φ N) : PPostR T N [] (RH X H) e σ := pendH φ he rfl h2 h3 h4 h5
theorem pendH1 (φ : List Nat) (he : e = .ret ∨ e = .normal) (h2 : σ.tm.getD a (.val undef) = ren φ σ.H.length X) (h3 : blkR φ σ.H.length σ.H φ H) (h4 : nodupR φ = true) (h5 : preR φ N) : PPostR T N [.tmp a] (RH X H) e σ := pendH φ he rfl h2 h3 h4 h5
theorem pendH2 (φ : List Nat) (he : e = .ret ∨ e = .normal) (h2 : PV.tup [σ.tm.getD a (.val undef), σ.tm.getD b (.val undef)] = ren φ σ.H.length X) (h3 : blkR φ σ.H.length σ.H φ H) (h4 : nodupR φ = true) (h5 : preR φ N) : PPostR T N [.tmp a, .tmp b] (RH X H) e σ := pendH φ he rfl h2 h3 h4 h5
theorem pendH3 (φ : List Nat) (he : e = .ret ∨ e = .normal) (h2 : PV.tup [σ.tm.getD a (.val undef), σ.tm.getD b (.val undef), σ.tm.getD c (.val undef)] = ren φ σ.H.length X) (h3 : blkR φ σ.H.length σ.H φ H) (h4 : nodupR φ = true) (h5 : preR φ N) : PPostR T N [.tmp a, .tmp b, .tmp c] (RH X H) e σ := pendH φ he rfl h2 h3 h4 h5
end
end
theorem PWp.at {P : Program} {N : Nat} {c : Code} {Q : Exit → St → Prop} {tm tm' : List PV} {H H' : Hp} (h : tm = tm') (hH : H = H') (k : PWp P N c Q ⟨tm', H'⟩) : PWp P N c Q ⟨tm, H⟩ := by subst h; subst hH; exact k
theorem vwOk_clo {H : Hp} {fs : List PV} (h : fs.all cloC = true) : vwOk H (.agg fs) := fun q hq => by
  have := List.all_eq_true.1 h q hq
  cases q <;> first | exact this | simp [cloC] at this
def vwL (H : Hp) : List PV → Prop
  | [] => True
  | p :: ps => vwOk0 H p ∧ vwL H ps
theorem vwL_mem {H : Hp} : ∀ {l : List PV}, vwL H l → ∀ q ∈ l, vwOk0 H q
  | [], _, _, h => by cases h
  | p :: l, hl, q, h => by
    rcases List.mem_cons.1 h with rfl | h
    · exact hl.1
    · exact vwL_mem hl.2 q h
theorem vwOk_ag {H : Hp} {fs : List PV} (h : vwL H fs) : vwOk H (.agg fs) := vwL_mem h
theorem vwOk_cl {H : Hp} {f : FuncId} {fs : List PV} (h : vwL H fs) : vwOk H (.clo f fs) := vwL_mem h
theorem rowsC {α : Type} {f : α → List PV} (h : ∀ x, (f x).all cloC = true) {xs : List α} : ∀ row ∈ xs.map f, row.all cloC = true := fun row hr => by
  obtain ⟨x, _, rfl⟩ := List.mem_map.1 hr
  exact h x
theorem rowsC2 {α : Type} {f : α → List PV} (h : ∀ x, (f x).all cloC = true) {xs ys : List α} : ∀ row ∈ xs.map f ++ ys.map f, row.all cloC = true := fun row hr => by
  rcases List.mem_append.1 hr with q | q
  · exact rowsC h row q
  · exact rowsC h row q
theorem rowsF {α : Type} {f : α → List PV} (h : ∀ x, freL (f x) = true) {xs : List α} : ∀ row ∈ xs.map f, freL row = true := fun row hr => by
  obtain ⟨x, _, rfl⟩ := List.mem_map.1 hr
  exact h x
/-- A call whose result is known and holds no memory of its own: what it looks at, it sees as it stands. -/
theorem pcall_RV {P : Program} {cm : Bool} {g : FuncId} {args : List PV} {σ : St} {K : PV → St → Prop} {v : PV} (hc : Callable P g) (h : PCalls P g (args.map (vw σ.H)) [] (RV v)) (hv : scalP v = true) (ha : vwAll σ.H args) (hk : K v σ) : pcall P cm g args σ K := pcall_W hc h hv ha hk
/-- A call that yields memory of its own. -/
theorem pcall_RH {P : Program} {cm : Bool} {g : FuncId} {args : List PV} {σ : St} {K : PV → St → Prop} {v : PV} {H' : Hp} (hc : Callable P g) (h : PCalls P g (args.map (vw σ.H)) [] (RH v H')) (hv : fre v = true) (hH : freH H') (ha : vwAll σ.H args) (hk : K (ren [] σ.H.length v) ⟨σ.tm, σ.H ++ H'.map (renB [] σ.H.length)⟩) : pcall P cm g args σ K :=
  ⟨hc, .inr (.inr (.inl ⟨_, h, vwAll_mem ha, fun r H'' ⟨e1, e2⟩ => by subst e1; subst e2; exact ⟨hv, hH, hk⟩⟩))⟩
/-- A call to which memory of one's own is handed over. -/
theorem pcall_RG {P : Program} {g : FuncId} {args args0 : List PV} {H0 : Hp} {σ : St} {K : PV → St → Prop} {v : PV} {H' : Hp} (φ : List Nat) (hc : Callable P g) (h : PCalls P g args0 H0 (RH v H')) (ha : args = renL φ σ.H.length args0) (hH : blkR φ σ.H.length σ.H φ H0) (hs : H0.all (·.isSome) = true) (hn : nodupR φ = true) (hk : K (ren φ σ.H.length v) ⟨σ.tm, wback φ σ.H H'⟩) : pcall P true g args σ K :=
  ⟨hc, .inr (.inr (.inr ⟨rfl, φ, H0, args0, _, h, blkR_len hH, nodupR_ok hn, ha, fun i b hb => by
    have hi : i < H0.length := by rw [← blkR_len hH]; exact (List.getElem?_eq_some_iff.1 hb).1
    have hsome := List.all_eq_true.1 hs H0[i] (List.getElem_mem hi)
    obtain ⟨B, hB⟩ := Option.isSome_iff_exists.1 hsome
    have e : H0[i]? = some (some B) := by rw [List.getElem?_eq_getElem hi, hB]
    obtain ⟨b', B', g1, g2, g3⟩ := blkR_get hH i B e
    rw [hb] at g1
    cases g1
    exact ⟨B, B', e, g2, g3⟩, fun r H'' ⟨e1, e2⟩ => by subst e1; subst e2; exact hk⟩))⟩
/-- The blocks that are handed over, as they stand. -/
def blkE (φ : List Nat) (n : Nat) (H : Hp) : List Nat → Hp → Prop
  | [], [] => True
  | b :: bs, B :: r => H[b]? = some B ∧ (∃ B', B = some B') ∧ renB φ n B = B ∧ blkE φ n H bs r
  | _, _ => False
theorem blkE_R {φ : List Nat} {n : Nat} {H : Hp} : ∀ {bs : List Nat} {H0 : Hp}, blkE φ n H bs H0 → blkR φ n H bs H0 ∧ H0.all (·.isSome) = true
  | [], [], _ => ⟨trivial, rfl⟩
  | b :: bs, B :: r, h => by
    obtain ⟨h1, ⟨B', rfl⟩, h3, h4⟩ := h
    obtain ⟨i1, i2⟩ := blkE_R (bs := bs) (H0 := r) h4
    exact ⟨⟨by rw [h3]; exact h1, i1⟩, by simp [i2]⟩
  | [], _ :: _, h => h.elim
  | _ :: _, [], h => h.elim
theorem pcall_RGf {P : Program} {g : FuncId} {args args0 : List PV} {H0 : Hp} {σ : St} {K : PV → St → Prop} {v : PV} {H' : Hp} (hc : Callable P g) (φ : List Nat) (ha : args = renL φ σ.H.length args0) (hH : blkE φ σ.H.length σ.H φ H0) (hn : nodupR φ = true) (h : PCalls P g args0 H0 (RH v H')) (hk : K (ren φ σ.H.length v) ⟨σ.tm, wback φ σ.H H'⟩) : pcall P true g args σ K :=
  pcall_RG φ hc h ha (blkE_R hH).1 (blkE_R hH).2 hn hk
theorem wback_eq {φ : List Nat} {H H' : Hp} : wback φ H H' = wsets (renB φ H.length) φ H' H ++ (H'.drop φ.length).map (renB φ H.length) := rfl
theorem wsets_nil {f : Option Blk → Option Blk} {H H' : Hp} : wsets f [] H' H = H := by cases H' <;> rfl
theorem wsets_cons {f : Option Blk → Option Blk} {b : Nat} {φ : List Nat} {B : Option Blk} {H H' : Hp} : wsets f (b :: φ) (B :: H') H = wsets f φ H' (H.set b (f B)) := rfl
end Go.Proofs.Ytcbknmnlgoeniaa
/- The pure machine: regions of which several orders are looked at. -/
namespace Go.Proofs.Ytcbknmnlgoeniaa
open Go.RowKit

/-- The orders that are looked at: 'step' takes an operation; at 'fork' one of the chain's operations is taken ('alt'). -/
inductive OrdT where
  | done
  | step (i : Nat) (t : OrdT)
  | fork (u : OrdT)
  | alt (i : Nat) (t u : OrdT)
  | stop
def OrdT.heads : OrdT → List Nat
  | .alt i _ u => i :: heads u
  | _ => []
def OrdT.depth : OrdT → Nat
  | .done => 0
  | .step _ t => t.depth + 1
  | .fork u => u.depth
  | .alt _ t u => max (t.depth + 1) u.depth
  | .stop => 0
def OrdT.isTree : OrdT → Bool
  | .alt _ _ _ => false
  | .stop => false
  | _ => true
def OrdT.ok (ops : Array Oper) : OrdT → Array Bool → Bool
  | .done, listed => Region.ready .any ops listed == []
  | .step i t, listed =>
    (Region.ready .any ops listed).contains i &&
    (if kindAt ops i ≤ 1 then Region.free .any ops listed i && (kindAt ops i == 0 || (List.range ops.size).all fun j => listed.getD j true || j == i || kindAt ops j ≤ 2 || waits ops i 6 j)
     else Region.ready .any ops listed == [i]) && t.isTree && t.ok ops (listed.setIfInBounds i true)
  | .fork u, listed => (Region.ready .any ops listed).all (fun j => u.heads.contains j) && !(Region.ready .any ops listed).isEmpty && u.ok ops listed
  | .alt i t u, listed => t.isTree && t.ok ops (listed.setIfInBounds i true) && u.ok ops listed
  | .stop, _ => true
def ptree (P : Program) (T : Tys) (md : Bool) (ops : Array Oper) (K : St → Prop) : OrdT → St → Prop
  | .done, σ => K σ
  | .step i t, σ => match ops[i]? with
    | none => False
    | some o => if pwanted ops σ.tm o.guard then
        (if kindOp o.op ≤ 1 then py P T σ.tm σ.H o.op o.type fun pv => ptree P T md ops K t (σ.put o.dst pv) else pop P T md false o σ fun pv σ' => ptree P T md ops K t (σ'.put o.dst pv))
      else ptree P T md ops K t (σ.put o.dst (.val undef))
  | .fork u, σ => ptree P T md ops K u σ
  | .alt i t u, σ => (match ops[i]? with
    | none => False
    | some o => if pwanted ops σ.tm o.guard then
        (if kindOp o.op ≤ 1 then py P T σ.tm σ.H o.op o.type fun pv => ptree P T md ops K t (σ.put o.dst pv) else pop P T md false o σ fun pv σ' => ptree P T md ops K t (σ'.put o.dst pv))
      else ptree P T md ops K t (σ.put o.dst (.val undef))) ∧ ptree P T md ops K u σ
  | .stop, _ => True
section
variable {P : Program} {T : Tys} {E : Env}
theorem kind_ext {op : Op} (h : kindOp op ≤ 2) (h1 : ¬ kindOp op ≤ 1) : extOp op = true := by
  cases hx : extOp op with
  | true => rfl
  | false =>
    exfalso
    have : kindOp op ≤ 1 ∨ kindOp op = 3 := by
      unfold kindOp
      split <;> first | (left; omega) | (rw [hx]; right; rfl)
    omega
theorem step_ok (hT : TysOk P T) (hE : elemsOk P T) {md : Bool} {ops : Array Oper} {i : Nat} {o : Oper} (hio : ops[i]? = some o) {K' : St → Prop} {Q : Exit → Act → World → Prop} {σ : St} {a : Act} {w : World} (r : Rel E σ a w)
    (hk : if pwanted ops σ.tm o.guard then (if kindOp o.op ≤ 1 then py P T σ.tm σ.H o.op o.type fun pv => K' (σ.put o.dst pv) else pop P T md false o σ fun pv σ' => K' (σ'.put o.dst pv)) else K' (σ.put o.dst (.val undef)))
    {R : Act → World → Prop} (hR : ∀ σ' a' w', K' σ' → Rel E σ' a' w' → R a' w') : wpOp P ops Q i (fun a' w' => (kindAt ops i ≤ 2 → Ext w w') ∧ R a' w') a w := by
  have hw := r.elim fun M q => q.elim fun h q => wanted_eq q.2.1 ops o
  have hka : kindAt ops i = kindOp o.op := by simp [kindAt, hio]
  unfold wpOp
  simp only [hio, hw]
  by_cases hp : pwanted ops σ.tm o.guard = true
  · rw [if_pos hp] at hk
    rw [if_pos hp]
    by_cases hkd : kindOp o.op ≤ 1
    · rw [if_pos hkd] at hk
      obtain ⟨M, h, s, t, d⟩ := r
      obtain ⟨pv, v, g1, g2, g3⟩ := py_ok hT hE s.inv t o hk
      exact .inl (wp_value (g3 w fun _ => Ext.refl w) ⟨fun _ => Ext.refl w, hR _ _ w g1 ⟨M, h, by rw [St.put_H]; exact s, t.put g2 o.dst, by rw [Act.put_defers']; exact d⟩⟩)
    · rw [if_neg hkd] at hk
      refine .inl (pop_rel hT hE r hk fun pv σ' v w' g1 g2 g3 => ⟨fun hle => ?_, hR _ _ w' g1 g3⟩)
      rw [hka] at hle
      exact g2 rfl (kind_ext hle hkd)
  · rw [if_neg hp] at hk
    rw [if_neg hp]
    exact ⟨fun _ => Ext.refl w, hR _ _ w hk (r.skip o.dst)⟩
theorem tree_heads {t : OrdT} (h : t.isTree = true) : t.heads = [] := by cases t <;> first | rfl | simp [OrdT.isTree] at h
theorem tree_stop {t : OrdT} (h : t.isTree = true) : t ≠ .stop := by rintro rfl; simp [OrdT.isTree] at h
theorem ptree_ok (hT : TysOk P T) (hE : elemsOk P T) {md : Bool} (ops : Array Oper) (hs : Region.noSelect ops = true) {K : St → Prop} {Q : Exit → Act → World → Prop} (hpan : ∀ c a w, Q (.panic c) a w → False) (hq : ∀ σ' a' w', K σ' → Rel E σ' a' w' → Q .normal a' w') :
    ∀ (t : OrdT) (listed : Array Bool) (σ : St) (a : Act) (w : World), t.ok ops listed = true → ClosedL ops listed → ptree P T md ops K t σ → Rel E σ a w →
      ((t.heads = [] → t ≠ .stop → ∀ fuel, t.depth ≤ fuel → wpE P ops Q fuel listed a w) ∧ ∀ j ∈ t.heads, j ∈ Region.ready .any ops listed → ∀ fuel, t.depth ≤ fuel + 1 → wpOp P ops Q j (fun a' w' => (kindAt ops j ≤ 2 → Ext w w') ∧ wpE P ops Q fuel (listed.setIfInBounds j true) a' w') a w)
  | .done, listed, σ, a, w, ho, _, hk, r => by
    refine ⟨fun _ _ fuel _ => ?_, fun j hj => by simp [OrdT.heads] at hj⟩
    have hr : Region.ready .any ops listed = [] := by simpa [OrdT.ok] using ho
    cases fuel with
    | zero => exact ⟨hr, hq σ a w hk r⟩
    | succ fuel => exact ⟨fun _ => hq σ a w hk r, by rw [hr]; simp⟩
  | .stop, _, _, _, _, _, _, _, _ => ⟨fun _ h => absurd rfl h, fun j hj => by simp [OrdT.heads] at hj⟩
  | .alt i t u, listed, σ, a, w, ho, hcl, hk, r => by
    simp only [OrdT.ok, Bool.and_eq_true] at ho
    refine ⟨fun h => by simp [OrdT.heads] at h, fun j hj hjr fuel hf => ?_⟩
    have hf1 : t.depth ≤ fuel := by simp only [OrdT.depth] at hf; omega
    have hf2 : u.depth ≤ fuel + 1 := by simp only [OrdT.depth] at hf; omega
    by_cases hji : j = i
    · subst hji
      obtain ⟨o, hio⟩ := ready_lt hjr
      have hk1 := hk.1
      simp only [hio] at hk1
      refine step_ok hT hE hio (K' := ptree P T md ops K t) r hk1 fun σ' a' w' g1 g2 => ?_
      have next := ptree_ok hT hE (md := md) ops hs hpan hq t (listed.setIfInBounds j true) σ' a' w' ho.1.2 (hcl.set hjr) g1 g2
      exact next.1 (tree_heads ho.1.1) (tree_stop ho.1.1) fuel hf1
    · have hj' : j ∈ u.heads := by
        simp only [OrdT.heads, List.mem_cons] at hj
        exact hj.resolve_left hji
      exact (ptree_ok hT hE (md := md) ops hs hpan hq u listed σ a w ho.2 hcl hk.2 r).2 j hj' hjr fuel hf2
  | .fork u, listed, σ, a, w, ho, hcl, hk, r => by
    simp only [OrdT.ok, Bool.and_eq_true, List.all_eq_true, List.contains_eq_mem, decide_eq_true_eq, Bool.not_eq_true', List.isEmpty_eq_false_iff] at ho
    obtain ⟨⟨h1, h2⟩, h3⟩ := ho
    refine ⟨fun _ _ fuel hf => ?_, fun j hj => by simp [OrdT.heads] at hj⟩
    have sub := (ptree_ok hT hE (md := md) ops hs hpan hq u listed σ a w h3 hcl hk r).2
    cases fuel with
    | zero =>
      exfalso
      obtain ⟨j, hj⟩ := List.exists_mem_of_ne_nil _ h2
      have := h1 j hj
      cases u with
      | alt i t u => simp only [OrdT.depth] at hf; omega
      | _ => simp [OrdT.heads] at this
    | succ fuel => exact ⟨fun h0 => absurd h0 h2, fun j hj => sub j (h1 j hj) hj fuel hf⟩
  | .step i t, listed, σ, a, w, ho, hcl, hk, r => by
    refine ⟨fun _ _ fuel hf => ?_, fun j hj => by simp [OrdT.heads] at hj⟩
    cases fuel with
    | zero => simp [OrdT.depth] at hf
    | succ fuel =>
    have hl' : t.depth ≤ fuel := by simp only [OrdT.depth] at hf; omega
    simp only [OrdT.ok, Bool.and_eq_true] at ho
    obtain ⟨⟨⟨h1, h2⟩, ht⟩, h3⟩ := ho
    have hi : i ∈ Region.ready .any ops listed := by simpa using h1
    obtain ⟨o, hio⟩ := ready_lt hi
    have hw := r.elim fun M q => q.elim fun h q => wanted_eq q.2.1 ops o
    have hka : kindAt ops i = kindOp o.op := by simp [kindAt, hio]
    simp only [ptree, hio] at hk
    rw [hka] at h2
    have next := fun (σ' : St) (a' : Act) (w' : World) (g1 : ptree P T md ops K t σ') (g2 : Rel E σ' a' w') => (ptree_ok hT hE (md := md) ops hs hpan hq t (listed.setIfInBounds i true) σ' a' w' h3 (hcl.set hi) g1 g2).1 (tree_heads ht) (tree_stop ht) fuel hl'
    by_cases hkd : kindOp o.op ≤ 1
    · rw [if_pos hkd, Bool.and_eq_true] at h2
      have hfree := Region.free_spec hio h2.1
      have hside : ∀ j oj, ops[j]? = some oj → j ≠ i → listed.getD j true = false → ((∀ e ∈ oj.after, Region.binds .any e = true → e.on ≠ i) → o.apart ops oj = true) ∧ ((kindOp o.op == 1) = true → waits ops i 6 j = false → kindAt ops j ≤ 2) := fun j oj hj hji hun => by
        refine ⟨fun hno => hfree j oj hj hji hun hno, fun hk1 hnw => ?_⟩
        have hk1' : kindOp o.op = 1 := by simpa using hk1
        have h22 := h2.2
        simp only [hk1', Bool.or_eq_true, beq_iff_eq, List.all_eq_true, List.mem_range] at h22
        rcases h22 with q | q
        · cases q
        · have hjl : j < ops.size := (Array.getElem?_eq_some_iff.1 hj).1
          rcases q j hjl with ((q | q) | q) | q
          · rw [hun] at q; cases q
          · exact absurd q hji
          · simpa using q
          · rw [hnw] at q; cases q
      have hk2 : kindAt ops i ≤ 2 := by rw [hka]; omega
      by_cases hp : pwanted ops σ.tm o.guard = true
      · rw [if_pos hp, if_pos hkd] at hk
        obtain ⟨M, h, s, t', d⟩ := r
        obtain ⟨pv, v, g1, g2, g3⟩ := py_ok hT hE s.inv t' o hk
        refine wpE_first (v := v) hio (noSelect_all hs) hpan (kindOp o.op == 1) fuel listed a w hside hcl hk2 hi (.inl ⟨by rw [hw]; exact hp, fun w' hx => g3 w' fun q => hx (by simpa using q)⟩) ?_
        exact next _ _ w g1 ⟨M, h, by rw [St.put_H]; exact s, t'.put g2 o.dst, by rw [Act.put_defers']; exact d⟩
      · rw [if_neg hp] at hk
        refine wpE_first (v := undef) hio (noSelect_all hs) hpan (kindOp o.op == 1) fuel listed a w hside hcl hk2 hi (.inr ⟨by rw [hw]; simpa using hp, rfl⟩) ?_
        exact next _ _ w hk (r.skip o.dst)
    · rw [if_neg hkd] at h2
      have hrd : Region.ready .any ops listed = [i] := by simpa using h2
      refine ⟨(fun h0 => by rw [hrd] at h0; cases h0), fun j hj => ?_⟩
      rw [hrd, List.mem_singleton] at hj
      subst hj
      exact step_ok hT hE hio (K' := ptree P T md ops K t) r hk fun σ' a' w' g1 g2 => next σ' a' w' g1 g2
end
/-- A region that draws its order: the orders that are looked at. -/
theorem PWp.drawT {P : Program} {T : Tys} {Q : Exit → St → Prop} {σ : St} {N : Nat} (ok : Ok P T) (md : Bool) {id : Nat} {ops : Array Oper} (t : OrdT) (ho : (Region.noSelect ops && decide (t.depth ≤ ops.size) && t.isTree && t.ok ops (Array.replicate ops.size false)) = true) (h : ptree P T md ops (Q .normal) t σ) : PWp P N (.region id ops true) Q σ := fun E a w _ r => by
  simp only [Bool.and_eq_true, decide_eq_true_eq] at ho
  refine wp_region_any ok.mix (wpAny_of_E _ _ _ _ ?_)
  refine (ptree_ok ok.ty ok.el (md := md) ops ho.1.1.1 (fun _ _ _ q => q) (fun σ' _ _ h1 h2 => ⟨σ', h1, h2⟩) t _ σ a _ ho.2 (ClosedL.start _ _) h ?_).1 (tree_heads ho.1.2) (tree_stop ho.1.2) ops.size ho.1.1.2
  obtain ⟨M, hh, s, t, d⟩ := r
  refine ⟨M, hh, s.trans (Step.ext s.inv ?_), t, d⟩
  exact (Ext.refl w).drew
section
variable {P : Program} {T : Tys} {md : Bool} {ops : Array Oper} {K : St → Prop} {σ : St}
theorem ptree_done (h : K σ) : ptree P T md ops K .done σ := h
theorem ptree_stop : ptree P T md ops K .stop σ := trivial
theorem ptree_fork {u : OrdT} (h : ptree P T md ops K u σ) : ptree P T md ops K (.fork u) σ := h
theorem ptree_I {i : Nat} {t : OrdT} (h : ∃ o, ops.toList[i]? = some o ∧ ∀ K' : St → Prop, (∀ σ, ptree P T md ops K t σ → K' σ) → pstepD P T md ops o σ K') : ptree P T md ops K (.step i t) σ := by
  obtain ⟨o, hi, h⟩ := h
  rw [Array.getElem?_toList] at hi
  simp only [ptree, hi]
  exact h _ fun _ h => h
theorem ptree_A {i : Nat} {t u : OrdT} (h : ∃ o, ops.toList[i]? = some o ∧ ∀ K' : St → Prop, (∀ σ, ptree P T md ops K t σ → K' σ) → pstepD P T md ops o σ K') (h2 : ptree P T md ops K u σ) : ptree P T md ops K (.alt i t u) σ := by
  obtain ⟨o, hi, h⟩ := h
  rw [Array.getElem?_toList] at hi
  simp only [ptree, hi]
  exact ⟨h _ fun _ h => h, h2⟩
end
end Go.Proofs.Ytcbknmnlgoeniaa

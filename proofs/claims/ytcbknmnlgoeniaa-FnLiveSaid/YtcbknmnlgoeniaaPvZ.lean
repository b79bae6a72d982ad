/- The pure machine: the rules by which its walks reckon. -/
import Derived.Test.YtcbknmnlgoeniaaI4
namespace Go.Proofs.Ytcbknmnlgoeniaa
open Go.RowKit

/-- Two texts are the same. -/
def eqB (s u : ByteArray) : Bool := s.toList == u.toList
theorem eqB_iff {s u : ByteArray} : eqB s u = true ↔ s = u := by
  unfold eqB
  rw [beq_iff_eq, ByteArray.toList_eq s, ByteArray.toList_eq u]
  constructor
  · intro h
    cases s; cases u
    congr
    exact Array.toList_inj.1 h
  · rintro rfl; rfl
theorem eqB_self {s : ByteArray} : eqB s s = true := eqB_iff.2 rfl
theorem eqB_no {s u : ByteArray} : eqB s u = false ↔ s ≠ u := by rw [← Bool.not_eq_true, eqB_iff]
theorem eqB_comm {s u : ByteArray} : eqB s u = eqB u s := by
  cases h : eqB u s with
  | true => rw [eqB_iff] at *; exact h.symm
  | false => rw [eqB_no] at *; exact fun e => h e.symm
theorem sf_seqB {P : Program} {t : TypeId} {x y : Operand} {s u : ByteArray} : sflat P (do eqGuard .eql t x y (.string s) (.string u); binOp .eql t (.string s) (.string u)) = some (.bool (eqB s u)) := rfl
theorem sf_sneB {P : Program} {t : TypeId} {x y : Operand} {s u : ByteArray} : sflat P (do eqGuard .neq t x y (.string s) (.string u); binOp .neq t (.string s) (.string u)) = some (.bool (!(eqB s u))) := rfl
theorem conv_int {P : Program} {s d : TypeId} {k k' : IntKind} {n : Int} (hs : (P.underlying s).isSome = true) (hd : P.underlying d = some (.int k')) : sflat P (convert s d (.int k n)) = some (.int k' (k'.wrap n)) := by
  obtain ⟨ds, h⟩ := Option.isSome_iff_exists.1 hs
  unfold convert
  simp only [underlying, program, bind, Sem.bind, sflat, h, hd, Conv.intToInt, pure]
theorem tmod_nn {a b : Int} (h : 0 ≤ a) : a.tmod b = a % b := Int.tmod_eq_emod_of_nonneg h
theorem tdiv_nn {a b : Int} (h : 0 ≤ a) : a.tdiv b = a / b := Int.tdiv_eq_ediv_of_nonneg h
theorem fdiv_nn {a b : Int} (h : 0 ≤ b) : a.fdiv b = a / b := Int.fdiv_eq_ediv_of_nonneg a h
theorem bits_i64 : IntKind.i64.bits = 64 := rfl
theorem bits_u32 : IntKind.u32.bits = 32 := rfl
theorem bits_u8 : IntKind.u8.bits = 8 := rfl
theorem wrap_u8 {n : Int} : IntKind.u8.wrap n = n % 256 := by simp [IntKind.wrap, IntKind.signed, IntKind.bits]
theorem wrap_u32 {n : Int} : IntKind.u32.wrap n = n % 4294967296 := by simp [IntKind.wrap, IntKind.signed, IntKind.bits]
theorem wrap_u64 {n : Int} : IntKind.u64.wrap n = n % 18446744073709551616 := by simp [IntKind.wrap, IntKind.signed, IntKind.bits]
theorem wraps_64 (n : Int) (h0 : 0 ≤ n) (h1 : n < 2 ^ 62) : IntKind.i64.wrap n = n := IntWalk.i64_in n (by omega)
theorem and_255 {x : Int} (h0 : 0 ≤ x) (h1 : x < 4611686018427387904) : bits .and .i64 x 255 = x % 256 := bits_mask .i64 62 (by decide) wraps_64 8 (by decide) x h0 h1
theorem and_3 {x : Int} (h0 : 0 ≤ x) (h1 : x < 4611686018427387904) : bits .and .i64 x 3 = x % 4 := bits_mask .i64 62 (by decide) wraps_64 2 (by decide) x h0 h1
theorem and_127 {x : Int} (h0 : 0 ≤ x) (h1 : x < 4611686018427387904) : bits .and .i64 x 127 = x % 128 := bits_mask .i64 62 (by decide) wraps_64 7 (by decide) x h0 h1
/-- A byte as an element. -/
def pU8 (b : UInt8) : List PV := [.val (.int .u8 b.toNat)]
theorem bytes_map {l bs : List UInt8} : (l.map pU8 = bytesL bs) = (bs = l) := by
  apply propext
  constructor
  · intro h
    induction l generalizing bs with
    | nil => cases bs with | nil => rfl | cons => simp [bytesL] at h
    | cons x l ih =>
      cases bs with
      | nil => simp [bytesL] at h
      | cons y bs =>
        simp only [bytesL, List.map_cons, List.cons.injEq, pU8, PV.val.injEq, Value.int.injEq, true_and, and_true] at h
        rw [ih h.2]
        congr 1
        exact UInt8.toNat_inj.1 (by omega)
  · rintro rfl; rfl
theorem bytes_rep {k : Nat} {bs : List UInt8} : (List.replicate k [PV.val (.int .u8 0)] = bytesL bs) = (bs = List.replicate k 0) := by
  have : List.replicate k [PV.val (.int .u8 0)] = (List.replicate k (0 : UInt8)).map pU8 := by rw [List.map_replicate]; rfl
  rw [this, bytes_map]
def u8 (x : Int) : UInt8 := UInt8.ofNat (x % 256).toNat
theorem u8_nat (x : Int) : ((u8 x).toNat : Int) = x % 256 := by
  unfold u8
  rw [UInt8.toNat_ofNat']
  omega
theorem u8_mod256 {x : Int} : u8 (x % 256) = u8 x := by unfold u8; rw [Int.emod_emod]
theorem pU8_u8 {x : Int} : pU8 (u8 x) = [PV.val (.int .u8 (x % 256))] := by rw [pU8, u8_nat]
theorem cell_u8 {x : Int} (h : 0 ≤ x) (h' : x < 256) : ([PV.val (.int .u8 x)] : List PV) = pU8 (u8 x) := by rw [pU8_u8, Int.emod_eq_of_lt h h']
theorem bytes_1 {x : Int} {bs : List UInt8} (h : 0 ≤ x) (h' : x < 256) : ([[PV.val (.int .u8 x)]] = bytesL bs) = (bs = [u8 x]) := by
  rw [cell_u8 h h', ← bytes_map]; rfl
theorem bytes_2 {x y : Int} {bs : List UInt8} (h : 0 ≤ x) (h' : x < 256) (k : 0 ≤ y) (k' : y < 256) : ([[PV.val (.int .u8 x)], [PV.val (.int .u8 y)]] = bytesL bs) = (bs = [u8 x, u8 y]) := by
  rw [cell_u8 h h', cell_u8 k k', ← bytes_map]; rfl
theorem bytes_3 {x y z : Int} {bs : List UInt8} (h : 0 ≤ x) (h' : x < 256) (k : 0 ≤ y) (k' : y < 256) (m : 0 ≤ z) (m' : z < 256) : ([[PV.val (.int .u8 x)], [PV.val (.int .u8 y)], [PV.val (.int .u8 z)]] = bytesL bs) = (bs = [u8 x, u8 y, u8 z]) := by
  rw [cell_u8 h h', cell_u8 k k', cell_u8 m m', ← bytes_map]; rfl
theorem bytes_0 {bs : List UInt8} : (([] : List (List PV)) = bytesL bs) = (bs = []) := by
  rw [← bytes_map]; rfl
theorem size_arr {l : List UInt8} : (⟨l.toArray⟩ : ByteArray).size = l.length := by simp [ByteArray.size]
theorem pU8_len (x : UInt8) : (pU8 x).length = 1 := rfl
theorem pU8_clo (x : UInt8) : (pU8 x).all cloC = true := rfl
theorem pU8_ren {φ : List Nat} {n : Nat} (l : List UInt8) : (l.map pU8).map (renL φ n) = l.map pU8 := rows_flat pU8_clo l
theorem pb_none {d : Nat} : pb none d = some d := rfl
theorem pb_int {k : IntKind} {n : Int} {d : Nat} (h : 0 ≤ n) : pb (some (.val (.int k n))) d = some n.toNat := by simp only [pb, pint, if_pos h]
/-- A struct or an array is built. -/
def pbuildCs (i : TI) (parts : List (Nat × PV)) : Option (List PV) := match i.d with
  | .struct fs => if fs.all (fun q => q.2.1 != 0) then pfill ((fs.map fun q => (q.1, q.2.1))[·]?) (pcellsOf (cPV i.zero)) parts else none
  | .array _ _ sz => pfill (fun i => some (i * sz, sz)) (pcellsOf (cPV i.zero)) parts
  | _ => none
theorem pbuild_cs {T : Tys} {t : TypeId} {parts : List (Nat × PV)} {K : PV → Prop} (h : ∃ i, T t = some i ∧ ∃ cs, pbuildCs i parts = some cs ∧ K (.agg cs)) : pbuild T t parts K := by
  obtain ⟨i, hi, cs, h1, h2⟩ := h
  refine ⟨i, cs, hi, ?_, h2⟩
  unfold pbuildCs at h1
  split at h1
  · rename_i fs hd
    split at h1
    · rename_i ha
      rw [hd]
      exact ⟨fun q hq => by simpa using List.all_eq_true.1 ha q hq, h1⟩
    · cases h1
  · rename_i hd
    rw [hd]
    exact h1
  · cases h1
theorem py_build {P : Program} {T : Tys} {tm : List PV} {H : Hp} {t : TypeId} {parts : Array (Nat × Operand)} {ty : TypeId} {K : PV → Prop} (h : ∃ i, T t = some i ∧ ∃ cs, pbuildCs i (pparts tm parts) = some cs ∧ K (.agg cs)) : py P T tm H (.build t parts) ty K := pbuild_cs h
theorem popO_build {P : Program} {T : Tys} {md cm : Bool} {σ : St} {t : TypeId} {parts : Array (Nat × Operand)} {ty : TypeId} {K : PV → St → Prop} (h : ∃ i, T t = some i ∧ ∃ cs, pbuildCs i (pparts σ.tm parts) = some cs ∧ K (.agg cs) σ) : popO P T md cm (.build t parts) ty σ K := pbuild_cs (K := fun r => K r σ) h
/-- A slice literal. -/
def prowOk (sz len : Nat) (parts : List (Nat × PV)) : Bool := parts.length == len && decide (len * sz ≤ 16777216) && decide (len ≤ 16777216) && parts.map (·.1) == List.range len && (prow parts).all (fun row => row.length == sz) && (prow parts).all fun row => row.all oneP
theorem popO_row {P : Program} {T : Tys} {md cm : Bool} {σ : St} {t : TypeId} {len : Nat} {parts : Array (Nat × Operand)} {ty : TypeId} {K : PV → St → Prop}
    (h : ∃ i e sz by' ie, T t = some i ∧ i.d = .slice e sz by' ∧ T e = some ie ∧ ie.size = sz ∧ prowOk sz len (pparts σ.tm parts) = true ∧ K (.own σ.H.length) ⟨σ.tm, σ.H ++ [some (.row e sz (prow (pparts σ.tm parts)))]⟩) : popO P T md cm (.buildSlice t len parts) ty σ K := by
  obtain ⟨i, e, sz, by', ie, h1, h2, h3, h4, h5, h6⟩ := h
  simp only [prowOk, Bool.and_eq_true, beq_iff_eq, decide_eq_true_eq, List.all_eq_true] at h5
  obtain ⟨⟨⟨⟨⟨a1, a2⟩, a3⟩, a4⟩, a5⟩, a6⟩ := h5
  exact ⟨i, e, sz, by', ie, h1, h2, h3, h4, a1, a2, a3, a4, a5, fun row hr => by rw [List.all_eq_true]; exact a6 row hr, h6⟩
theorem bne_f {a b : Int} : ((a != b) = false) = (a = b) := by simp
theorem min_l {a b : Nat} (h : a ≤ b) : min a b = a := Nat.min_eq_left h
theorem toNat_succ {j : Nat} : ((j : Int) + 1).toNat = j + 1 := by omega
theorem toNat_zero : (0 : Int).toNat = 0 := rfl
theorem toNat_one : (1 : Int).toNat = 1 := rfl
theorem rn_out1 {a i n : Nat} : rn [a] n (i + 1) = n + i := by simp [rn]
theorem rn_out2 {a b i n : Nat} : rn [a, b] n (i + 2) = n + i := by rw [rn_ge (by simp)]; simp
theorem rn_out3 {a b c i n : Nat} : rn [a, b, c] n (i + 3) = n + i := by rw [rn_ge (by simp)]; simp
theorem rn_out4 {a b c d i n : Nat} : rn [a, b, c, d] n (i + 4) = n + i := by rw [rn_ge (by simp)]; simp
theorem ev_ptr0 {tm : List PV} : ev tm (.const (.pointer none)) = .val (.pointer none) := rfl
theorem ev_u8 {tm : List PV} {k : IntKind} {n : Int} : ev tm (.const (.int k n)) = .val (.int k n) := rfl
theorem pptr_ptr {b o : Nat} : (pptr (.ptr b o) = true) = True := eq_true rfl
theorem pptr_eptr {cs : List PV} {o : Nat} : (pptr (.eptr cs o) = true) = True := eq_true rfl
theorem pptr_optr {b z i o : Nat} : (pptr (.optr b z i o) = true) = True := eq_true rfl
theorem rn_one {a b : Nat} {φ : List Nat} {n : Nat} : rn (a :: b :: φ) n 1 = b := by simp [rn]
theorem rn_two {a b c : Nat} {φ : List Nat} {n : Nat} : rn (a :: b :: c :: φ) n 2 = c := by simp [rn]
theorem rn_three {a b c d : Nat} {φ : List Nat} {n : Nat} : rn (a :: b :: c :: d :: φ) n 3 = d := by simp [rn]
attribute [push_cast] cPV popO py ev_tmp ev_int ev_bool ev_str ev_nil ev_agg ev_func put_some put_none
attribute [push_cast] if_true if_false Bool.false_eq_true List.set_cons_zero List.set_cons_succ List.getD_cons_zero List.getD_cons_succ List.getElem?_toArray List.getElem?_cons_zero List.getElem?_cons_succ Option.bind_some flat_val'
attribute [push_cast] Option.some.injEq exists_and_left exists_eq_left' exists_eq_left sf_add sf_sub sf_mul sf_lss sf_leq sf_gtr sf_geq sf_eql
attribute [push_cast] sf_neq sf_and sf_or sf_xor sf_quo sf_rem sf_shl sf_shr sf_cat sf_not sf_neg sf_min
attribute [push_cast] sf_max PV.val.injEq PV.own.injEq PV.sl.injEq PV.agg.injEq PV.tup.injEq blk_box blk_row exists_eq_right exists_eq_right' Value.bool.injEq Value.int.injEq
attribute [push_cast] Value.string.injEq wr64 cast_pred List.toList_toArray List.cons.injEq and_true List.map_cons List.map_nil cells_val cells_bool cells_str cells_nil
attribute [push_cast] cells_agg cells_sl cells_own cells_ptr pint_int plen pelems pload pcells shiftP pfieldAddr pindexAddr
attribute [push_cast] pindex pslice pfield pextract pstore true_and List.length_cons List.length_nil Nat.zero_add Nat.add_zero List.all_cons List.all_nil
attribute [push_cast] Bool.and_true Bool.and_self oneP List.cons_append List.nil_append Int.toNat_natCast ne_eq Nat.succ_ne_zero not_false_eq_true Nat.le_refl Nat.zero_le List.drop_zero
attribute [push_cast] List.drop_succ_cons List.take_succ_cons List.take_zero splice patK_eq setN_nil setN_cons setC_nil setC_cons instP_nil instP_some instP_none
attribute [push_cast] ren_val ren_own ren_ptr ren_sl ren_agg ren_tup renL_nil renL_cons renB_box renB_row renB_none rn_nil
attribute [push_cast] rn_zero rn_one rn_two rn_three wback_eq wsets_nil wsets_cons matchR blkR vwAll vwOk vwOk0
attribute [push_cast] vw vw0 cloC freH freB fre freL sf_seqB sf_sneB List.length_map List.getElem?_map Option.map_some
attribute [push_cast] Option.map_none decide_eq_true_eq decide_eq_false_iff_not beq_iff_eq bne_iff_ne beq_eq_false_iff_ne Bool.not_eq_true Bool.not_eq_false Bool.not_eq_eq_eq_not Bool.not_true Bool.not_false Bool.not_not
attribute [push_cast] List.map_append List.length_append List.append_assoc List.append_nil Int.add_sub_cancel List.mem_cons List.not_mem_nil forall_eq_or_imp forall_eq implies_true or_false List.all_append
attribute [push_cast] Option.isSome_some Option.isSome_none decide_true decide_false Bool.true_and Bool.false_and Bool.true_or Bool.false_or Bool.or_true Bool.or_false Bool.and_false
attribute [push_cast] bytes_0 bytes_1 bytes_2 bytes_3 u8_mod256 size_arr ev_ptr0 pptr_ptr pptr_eptr pptr_optr rn_out1 rn_out2 rn_out3 rn_out4 bne_f and_assoc pmake pappend pbuildSlice pslice2 pelemsT pbytes pstring prow pparts St.thaw thaw thaw1 thawB pb_none pb_int TD.slice.injEq TD.int.injEq TD.struct.injEq TD.array.injEq Int.zero_le_ofNat min_l tmod_nn tdiv_nn fdiv_nn bits_i64 bits_u32 bits_u8 wrap_u8 wrap_u32 wrap_u64 and_255 and_3 and_127 bytes_map bytes_rep pU8_ren toNat_succ toNat_zero toNat_one
end Go.Proofs.Ytcbknmnlgoeniaa

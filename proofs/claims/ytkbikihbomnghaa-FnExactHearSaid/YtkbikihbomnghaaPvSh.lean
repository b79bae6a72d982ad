/- Rows of addresses sorted by their numbers. -/
import Derived.Test.YtkbikihbomnghaaPvSg
import Derived.Test.YtkbikihbomnghaaMh
namespace Go.Proofs.Ytkbikihbomnghaa
set_option linter.unusedSimpArgs false
set_option linter.unusedVariables false
open Go.RowKit Go.Sort
set_option maxRecDepth 100000

def byS (xs : List GAddr) : List GAddr := xs.mergeSort fun x y => decide (x.fId ≤ y.fId)
theorem byS_perm (xs : List GAddr) : (byS xs).Perm xs := List.mergeSort_perm xs _
theorem byS_len (xs : List GAddr) : (byS xs).length = xs.length := (byS_perm xs).length_eq
theorem byS_sorted (xs : List GAddr) : (byS xs).Pairwise fun a b => a.fId ≤ b.fId := by
  refine (List.pairwise_mergeSort (le := fun x y : GAddr => decide (x.fId ≤ y.fId)) (fun a b c h1 h2 => ?_) (fun a b => ?_) xs).imp fun h => of_decide_eq_true h
  · rw [decide_eq_true_eq] at *; omega
  · rw [Bool.or_eq_true, decide_eq_true_eq, decide_eq_true_eq]; omega
theorem byS_uniq {xs r : List GAddr} (hn : (xs.map (·.fId)).Nodup) (hp : r.Perm xs) (hs : r.Pairwise fun a b => a.fId ≤ b.fId) : r = byS xs :=
  List.Perm.eq_of_pairwise (le := fun a b : GAddr => a.fId ≤ b.fId) (fun a b ha hb h1 h2 => same_of_id hn (hp.mem_iff.1 ha) ((byS_perm xs).mem_iff.1 hb) (by omega)) hs (byS_sorted xs) (hp.trans (byS_perm xs).symm)
def srtI (zs : List GA) : List GA := zs.mergeSort fun x y => decide (x.1.fId ≤ y.1.fId)
theorem srtI_sorted (zs : List GA) : (srtI zs).Pairwise fun x y => x.1.fId ≤ y.1.fId := by
  refine (List.pairwise_mergeSort (le := fun x y : GA => decide (x.1.fId ≤ y.1.fId)) (fun a b c h1 h2 => ?_) (fun a b => ?_) zs).imp fun h => of_decide_eq_true h
  · rw [decide_eq_true_eq] at *; omega
  · rw [Bool.or_eq_true, decide_eq_true_eq, decide_eq_true_eq]; omega
theorem ga_same {zs : List GA} (hnd : ((zs.map (·.1)).map (·.fId)).Nodup) {a b : GA} (ha : a ∈ zs) (hb : b ∈ zs) (e : a.1.fId = b.1.fId) : a = b :=
  Subtype.ext (same_of_id hnd (List.mem_map_of_mem ha) (List.mem_map_of_mem hb) e)
theorem sortI_u {zs : List GA} (hnd : ((zs.map (·.1)).map (·.fId)).Nodup) {d' : Array GA} (hp : PermIn 0 zs.toArray.size zs.toArray d') (hs : SortedIn (ltOf cfI) 0 zs.toArray.size d') : d' = (srtI zs).toArray := by
  obtain ⟨hsz, _, hperm⟩ := hp
  have e1 : d'.extract 0 zs.toArray.size = d' := by rw [← hsz]; exact Array.extract_size
  rw [e1, Array.extract_size] at hperm
  have key : d'.toList = srtI zs := by
    refine List.Perm.eq_of_pairwise (le := fun a b : GA => a.1.fId ≤ b.1.fId) (fun a b ha hb h1 h2 => ?_) ?_ (srtI_sorted zs) (hperm.trans (List.mergeSort_perm zs _).symm)
    · exact ga_same hnd (by have := hperm.mem_iff.1 ha; simpa using this) ((List.mergeSort_perm zs _).mem_iff.1 hb) (by omega)
    · rw [List.pairwise_iff_getElem]
      intro i j hi hj hij
      have hi' : i < d'.size := by simpa using hi
      have hj' : j < d'.size := by simpa using hj
      have := hs i j (Nat.zero_le _) hij (by omega)
      rw [getElem!_pos d' j hj', getElem!_pos d' i hi', ltI, decide_eq_false_iff_not] at this
      simp only [Array.getElem_toList]
      omega
  rw [← key]
theorem sortI_n (w : World) : Calls Try.prog 132 #[.slice none 0 0, .func (.func 139) #[] #[]] w fun e w' => e = .returned (.tuple #[]) ∧ w' = w :=
  AnyF.slices_SortFunc_none { Try.laysSortFunc with } none 0 _ w
theorem sortI_p (xs : List GAddr) (h : (xs.length ≤ 1099511627776 ∧ ∀ x ∈ xs, aOk x = true) ∧ (xs.map (·.fId)).Nodup) : PCalls Try.prog 132 [.own 0, .val (.func (.func 139) #[] #[])] [some (.row 144 2 (xs.map pAddr))] (RH (.tup []) [some (.row 144 2 ((byS xs).map pAddr))]) := by
  obtain ⟨⟨hl, hx⟩, hnd⟩ := h
  obtain ⟨ys, rfl⟩ : ∃ ys : List GA, xs = ys.map (·.1) := ⟨xs.attach.map fun x => ⟨x.1, aOk_facts (hx x.1 x.2)⟩, by simp⟩
  have e : (srtI ys).map (·.1) = byS (ys.map (·.1)) := by
    refine byS_uniq hnd ((List.mergeSort_perm _ _).map _) ?_
    rw [List.pairwise_map]
    exact srtI_sorted ys
  rw [← e]
  have eg : ∀ args w, (callFunc 139 args).run Try.prog w = .ok (.enter 139 args) w := enters_of Try.func139 (by kernel_rfl) rfl
  refine pcalls_sortF (xs := ys) (ys := srtI ys) (List.length_mergeSort ys) (fun blk cap w hH hb hz => ?_) sortI_n _ (by simpa using hl)
  have hcon := AnyQ.slices_SortFunc Try.laysSortFunc 2 isAggA sizeOfA gV (fun _ => rfl) gV_one cfI swoI 139 #[] blk 0 cap ys.toArray w eg (fun _ _ _ _ x y => byId_c x y _) hH hb (by simpa using hz)
  exact hcon.mono fun e w' ⟨h1, d', n, os, h2, h3, h4⟩ => ⟨h1, n, os, by rw [h4, sortI_u hnd h2 h3]⟩
end Go.Proofs.Ytkbikihbomnghaa

/- Hash-based signatures: models. -/
import Derived.Test.YtmdjnohdkhepjaaDoorS1
import Derived.Test.YtmdjnohdkhepjaaDoorPvZ
namespace Go.Proofs.YtmdjnohdkhepjaaDoor
set_option linter.unusedSimpArgs false
set_option linter.unusedVariables false
open Go.RowKit
set_option maxRecDepth 100000

def b3 (x y z : Nat) : ByteArray := ⟨#[UInt8.ofNat x, UInt8.ofNat y, UInt8.ofNat z]⟩
theorem b3_size (x y z : Nat) : (b3 x y z).size = 3 := rfl
def hLink (c s : Nat) (x : ByteArray) : ByteArray := short (b3 2 c s ++ x)
def hGo (c : Nat) : Nat → Nat → ByteArray → ByteArray
  | _, 0, x => x
  | s, n + 1, x => hGo c (s + 1) n (hLink c s x)
theorem hGo_snoc (c : Nat) : ∀ (n s : Nat) (x : ByteArray), hGo c s (n + 1) x = hLink c (s + n) (hGo c s n x)
  | 0, s, x => rfl
  | n + 1, s, x => by
    show hGo c (s + 1) (n + 1) (hLink c s x) = _
    rw [hGo_snoc c n (s + 1) (hLink c s x), show s + 1 + n = s + (n + 1) by omega]
    rfl
theorem hGo_add (c : Nat) : ∀ (n m s : Nat) (x : ByteArray), hGo c s (n + m) x = hGo c (s + n) m (hGo c s n x)
  | 0, m, s, x => by rw [Nat.zero_add, Nat.add_zero]; rfl
  | n + 1, m, s, x => by
    rw [show n + 1 + m = (n + m) + 1 by omega]
    show hGo c (s + 1) (n + m) (hLink c s x) = hGo c (s + (n + 1)) m (hGo c (s + 1) n (hLink c s x))
    rw [hGo_add c n m (s + 1) (hLink c s x), show s + 1 + n = s + (n + 1) by omega]
theorem hGo_size (c : Nat) : ∀ (n s : Nat) (x : ByteArray), x.size = 8 → (hGo c s n x).size = 8
  | 0, _, _, h => h
  | n + 1, s, x, _ => hGo_size c n (s + 1) _ (short_size _)
def hSecret (seed : ByteArray) (leaf c : Nat) : ByteArray := short (b3 3 leaf c ++ seed)
theorem hSecret_size (seed : ByteArray) (leaf c : Nat) : (hSecret seed leaf c).size = 8 := short_size _
def hPubT (seed : ByteArray) (leaf : Nat) : Nat → ByteArray
  | 0 => ⟨#[]⟩
  | c + 1 => hPubT seed leaf c ++ hGo c 1 3 (hSecret seed leaf c)
theorem hPubT_size (seed : ByteArray) (leaf : Nat) : ∀ c, (hPubT seed leaf c).size = 8 * c
  | 0 => rfl
  | c + 1 => by
    rw [hPubT, ByteArray.size_append, hPubT_size seed leaf c, hGo_size _ _ _ _ (hSecret_size _ _ _)]
    omega
def hPub (seed : ByteArray) (leaf : Nat) : ByteArray := short (hPubT seed leaf 11)
def hPubs (seed : ByteArray) : List ByteArray := [hPub seed 0, hPub seed 1, hPub seed 2, hPub seed 3]
def leafH (d : ByteArray) : ByteArray := sha (⟨#[0]⟩ ++ d)
def nodeH (a b : ByteArray) : ByteArray := sha (⟨#[1]⟩ ++ a ++ b)
def root2 (a b : ByteArray) : ByteArray := nodeH (leafH a) (leafH b)
def root4 (a b c d : ByteArray) : ByteArray := nodeH (root2 a b) (root2 c d)
def hRoot (seed : ByteArray) : ByteArray := root4 (hPub seed 0) (hPub seed 1) (hPub seed 2) (hPub seed 3)
/-! ### Digits -/
def hD (h : ByteArray) (i : Nat) : Nat := (h.data.toList.getD (i / 4) 0).toNat / 2 ^ (6 - 2 * (i % 4)) % 4
def dSum (h : ByteArray) : Nat → Nat
  | 0 => 0
  | n + 1 => dSum h n + hD h n
theorem hD_le (h : ByteArray) (i : Nat) : hD h i ≤ 3 := by unfold hD; omega
theorem dSum_le (h : ByteArray) : ∀ n, dSum h n ≤ 3 * n
  | 0 => Nat.le_refl _
  | n + 1 => by
    have := dSum_le h n
    have := hD_le h n
    rw [dSum]
    omega
def digs (h : ByteArray) : Nat → List Int
  | 0 => []
  | n + 1 => digs h n ++ [(hD h n : Int)]
theorem digs_len (h : ByteArray) : ∀ n, (digs h n).length = n
  | 0 => rfl
  | n + 1 => by rw [digs, List.length_append, digs_len h n]; rfl
theorem digs_mem (h : ByteArray) : ∀ n, ∀ d ∈ digs h n, 0 ≤ d ∧ d ≤ 3
  | 0, d, hd => by cases hd
  | n + 1, d, hd => by
    rcases List.mem_append.1 hd with q | q
    · exact digs_mem h n d q
    · obtain rfl := List.mem_singleton.1 q
      have := hD_le h n
      omega
def digits (msg : ByteArray) : List Int := digs (sha msg) 8 ++ [((24 - dSum (sha msg) 8 : Nat) : Int) / 16, ((24 - dSum (sha msg) 8 : Nat) : Int) % 16 / 4, ((24 - dSum (sha msg) 8 : Nat) : Int) % 4]
theorem digits_len (msg : ByteArray) : (digits msg).length = 11 := by unfold digits; rw [List.length_append, digs_len]; rfl
theorem digits_mem (msg : ByteArray) : ∀ d ∈ digits msg, 0 ≤ d ∧ d ≤ 3 := fun d hd => by
  unfold digits at hd
  rcases List.mem_append.1 hd with q | q
  · exact digs_mem _ _ d q
  · simp only [List.mem_cons, List.not_mem_nil, or_false] at q
    omega
def dg (msg : ByteArray) (c : Nat) : Nat := ((digits msg).getD c 0).toNat
theorem dg_get {msg : ByteArray} {c : Nat} (hc : c < 11) : (digits msg)[c]? = some (dg msg c : Int) := by
  have hl : c < (digits msg).length := by rw [digits_len]; exact hc
  have hm := digits_mem msg (digits msg)[c] (List.getElem_mem hl)
  unfold dg
  rw [List.getElem?_eq_getElem hl, List.getD_eq_getElem?_getD, List.getElem?_eq_getElem hl]
  simp only [Option.getD_some]
  congr 1
  omega
theorem dg_le {msg : ByteArray} {c : Nat} (hc : c < 11) : dg msg c ≤ 3 := by
  have := digits_mem msg _ (List.mem_of_getElem? (dg_get (msg := msg) hc))
  omega
/-! ### Signatures -/
def hSigT (seed : ByteArray) (leaf : Nat) (msg : ByteArray) : Nat → ByteArray
  | 0 => ⟨#[]⟩
  | c + 1 => hSigT seed leaf msg c ++ hGo c 1 (dg msg c) (hSecret seed leaf c)
theorem hSigT_size (seed : ByteArray) (leaf : Nat) (msg : ByteArray) : ∀ c, (hSigT seed leaf msg c).size = 8 * c
  | 0 => rfl
  | c + 1 => by
    rw [hSigT, ByteArray.size_append, hSigT_size seed leaf msg c, hGo_size _ _ _ _ (hSecret_size _ _ _)]
    omega
def hPath (seed : ByteArray) (leaf : Nat) : List ByteArray :=
  match leaf with
  | 0 => [leafH (hPub seed 1), root2 (hPub seed 2) (hPub seed 3)]
  | 1 => [leafH (hPub seed 0), root2 (hPub seed 2) (hPub seed 3)]
  | 2 => [leafH (hPub seed 3), root2 (hPub seed 0) (hPub seed 1)]
  | _ => [leafH (hPub seed 2), root2 (hPub seed 0) (hPub seed 1)]
def b1 (x : Nat) : ByteArray := ⟨#[UInt8.ofNat x]⟩
def hSign (seed : ByteArray) (leaf : Nat) (msg : ByteArray) : ByteArray := hSigT seed leaf msg 11 ++ b1 leaf ++ (hPath seed leaf).getD 0 ⟨#[]⟩ ++ (hPath seed leaf).getD 1 ⟨#[]⟩
/-! ### Checks -/
def hTopT (msg sig : ByteArray) : Nat → ByteArray
  | 0 => ⟨#[]⟩
  | c + 1 => hTopT msg sig c ++ hGo c (dg msg c + 1) (3 - dg msg c) (sig.extract (8 * c) (8 * c + 8))
/-- The root that a path of two leads to. -/
def up4 (leaf : ByteArray) (i : Nat) (p q : ByteArray) : ByteArray :=
  match i with
  | 0 => nodeH (nodeH leaf p) q
  | 1 => nodeH (nodeH p leaf) q
  | 2 => nodeH q (nodeH leaf p)
  | _ => nodeH q (nodeH p leaf)
def sigLeaf (sig : ByteArray) : Nat := (sig.data.toList.getD 88 0).toNat
def hTop (msg sig : ByteArray) : ByteArray := up4 (leafH (short (hTopT msg sig 11))) (sigLeaf sig) (sig.extract 89 121) (sig.extract 121 sig.size)
def hCheck (root msg sig : ByteArray) : Bool := decide (sig.size = 153) && decide (sigLeaf sig < 4) && eqB (hTop msg sig) root
/-! ### What is signed is right -/
theorem ext_app_left {a b : ByteArray} {i j : Nat} (h : j ≤ a.size) : (a ++ b).extract i j = a.extract i j := by
  rw [ByteArray.extract_append]
  have e : b.extract (i - a.size) (j - a.size) = ByteArray.empty := by
    rw [show j - a.size = 0 by omega]
    apply ByteArray.ext
    simp
  rw [e, ByteArray.append_empty]
theorem hSigT_at (seed : ByteArray) (leaf : Nat) (msg : ByteArray) (c : Nat) : ∀ n, c < n → (hSigT seed leaf msg n).extract (8 * c) (8 * c + 8) = hGo c 1 (dg msg c) (hSecret seed leaf c)
  | 0, h => by omega
  | n + 1, h => by
    rw [hSigT]
    by_cases e : c = n
    · subst e
      have hs := hSigT_size seed leaf msg c
      have h8 := hGo_size c (dg msg c) 1 (hSecret seed leaf c) (hSecret_size _ _ _)
      rw [ByteArray.extract_append, hs, Nat.sub_self, show 8 * c + 8 - 8 * c = 8 by omega]
      have e1 : (hSigT seed leaf msg c).extract (8 * c) (8 * c + 8) = ByteArray.empty := by
        apply ByteArray.ext
        simp [ByteArray.data_extract]
        rw [hs]
        omega
      rw [e1]
      have e2 : (hGo c 1 (dg msg c) (hSecret seed leaf c)).extract 0 8 = hGo c 1 (dg msg c) (hSecret seed leaf c) := by
        conv => lhs; rw [← h8]
        exact ByteArray.extract_zero_size
      rw [e2, ByteArray.empty_append]
    · rw [ext_app_left (by rw [hSigT_size]; omega)]
      exact hSigT_at seed leaf msg c n (by omega)
theorem ext_app_right {a b : ByteArray} {i j : Nat} (h : a.size ≤ i) : (a ++ b).extract i j = b.extract (i - a.size) (j - a.size) := by
  rw [ByteArray.extract_append]
  have e : a.extract i j = ByteArray.empty := by
    apply ByteArray.ext
    simp [ByteArray.data_extract]
    omega
  rw [e, ByteArray.empty_append]
theorem ext_all {a : ByteArray} {n : Nat} (h : a.size = n) : a.extract 0 n = a := by subst h; exact ByteArray.extract_zero_size
theorem b1_size (x : Nat) : (b1 x).size = 1 := rfl
theorem hPath_size (seed : ByteArray) (leaf : Nat) : ((hPath seed leaf).getD 0 ⟨#[]⟩).size = 32 ∧ ((hPath seed leaf).getD 1 ⟨#[]⟩).size = 32 := by
  unfold hPath
  split <;> exact ⟨sha_size _, sha_size _⟩
theorem hSign_size (seed : ByteArray) (leaf : Nat) (msg : ByteArray) : (hSign seed leaf msg).size = 153 := by
  unfold hSign
  rw [ByteArray.size_append, ByteArray.size_append, ByteArray.size_append, hSigT_size, (hPath_size seed leaf).1, (hPath_size seed leaf).2]
  rfl
theorem hSign_leaf {seed : ByteArray} {leaf : Nat} (hl : leaf < 4) (msg : ByteArray) : sigLeaf (hSign seed leaf msg) = leaf := by
  unfold sigLeaf hSign
  have h88 := hSigT_size seed leaf msg 11
  have hlen : (hSigT seed leaf msg 11).data.toList.length = 88 := by rw [Array.length_toList]; exact h88
  have e : (hSigT seed leaf msg 11 ++ b1 leaf ++ (hPath seed leaf).getD 0 ⟨#[]⟩ ++ (hPath seed leaf).getD 1 ⟨#[]⟩).data.toList = (hSigT seed leaf msg 11).data.toList ++ (UInt8.ofNat leaf :: (((hPath seed leaf).getD 0 ⟨#[]⟩).data.toList ++ ((hPath seed leaf).getD 1 ⟨#[]⟩).data.toList)) := by
    simp [ByteArray.data_append, b1]
  rw [e, List.getD_eq_getElem?_getD, List.getElem?_append_right (by omega), hlen]
  simp
  omega
theorem hSign_chunk (seed : ByteArray) (leaf : Nat) (msg : ByteArray) {c : Nat} (hc : c < 11) : (hSign seed leaf msg).extract (8 * c) (8 * c + 8) = hGo c 1 (dg msg c) (hSecret seed leaf c) := by
  unfold hSign
  have h88 := hSigT_size seed leaf msg 11
  rw [ext_app_left (by rw [ByteArray.size_append, ByteArray.size_append]; omega), ext_app_left (by rw [ByteArray.size_append]; omega), ext_app_left (by omega)]
  exact hSigT_at seed leaf msg c 11 hc
theorem hSign_p0 (seed : ByteArray) (leaf : Nat) (msg : ByteArray) : (hSign seed leaf msg).extract 89 121 = (hPath seed leaf).getD 0 ⟨#[]⟩ := by
  unfold hSign
  have h88 := hSigT_size seed leaf msg 11
  have hp := (hPath_size seed leaf).1
  have h89 : (hSigT seed leaf msg 11 ++ b1 leaf).size = 89 := by rw [ByteArray.size_append, h88]; rfl
  rw [ext_app_left (by rw [ByteArray.size_append, h89, hp]; omega), ext_app_right (by rw [h89]; omega), h89]
  exact ext_all hp
theorem hSign_p1 (seed : ByteArray) (leaf : Nat) (msg : ByteArray) : (hSign seed leaf msg).extract 121 (hSign seed leaf msg).size = (hPath seed leaf).getD 1 ⟨#[]⟩ := by
  rw [hSign_size]
  unfold hSign
  have h88 := hSigT_size seed leaf msg 11
  have hp := hPath_size seed leaf
  have h121 : (hSigT seed leaf msg 11 ++ b1 leaf ++ (hPath seed leaf).getD 0 ⟨#[]⟩).size = 121 := by rw [ByteArray.size_append, ByteArray.size_append, h88, hp.1]; rfl
  rw [ext_app_right (by rw [h121]; omega), h121]
  exact ext_all hp.2
theorem hTopT_sign {seed : ByteArray} {leaf : Nat} (msg : ByteArray) : ∀ c, c ≤ 11 → hTopT msg (hSign seed leaf msg) c = hPubT seed leaf c
  | 0, _ => by rw [hTopT, hPubT]
  | c + 1, hc => by
    have hd := dg_le (msg := msg) (c := c) (by omega)
    have e := hGo_add c (dg msg c) (3 - dg msg c) 1 (hSecret seed leaf c)
    rw [show dg msg c + (3 - dg msg c) = 3 by omega, Nat.add_comm 1 (dg msg c)] at e
    rw [hTopT, hPubT, hTopT_sign msg c (by omega), hSign_chunk seed leaf msg (by omega), e]
theorem up4_path {seed x : ByteArray} {leaf : Nat} (hl : leaf < 4) (hx : x = hPub seed leaf) : up4 (leafH x) leaf ((hPath seed leaf).getD 0 ⟨#[]⟩) ((hPath seed leaf).getD 1 ⟨#[]⟩) = hRoot seed := by
  subst hx
  have h : leaf = 0 ∨ leaf = 1 ∨ leaf = 2 ∨ leaf = 3 := by omega
  unfold hRoot
  rcases h with rfl | rfl | rfl | rfl
  all_goals
    unfold hPath up4
    simp only [List.getD_cons_zero, List.getD_cons_succ, root4, root2]
theorem hTop_sign {seed : ByteArray} {leaf : Nat} (hl : leaf < 4) (msg : ByteArray) : hTop msg (hSign seed leaf msg) = hRoot seed := by
  unfold hTop
  rw [hTopT_sign msg 11 (Nat.le_refl _), hSign_leaf hl, hSign_p0, hSign_p1]
  exact up4_path hl (by unfold hPub; exact Eq.refl _)
theorem hCheck_sign {seed : ByteArray} {leaf : Nat} (hl : leaf < 4) (msg root : ByteArray) : hCheck root msg (hSign seed leaf msg) = eqB (hRoot seed) root := by
  unfold hCheck
  rw [hSign_size, hSign_leaf hl, hTop_sign hl, decide_eq_true rfl, decide_eq_true hl]
  rfl
end Go.Proofs.YtmdjnohdkhepjaaDoor

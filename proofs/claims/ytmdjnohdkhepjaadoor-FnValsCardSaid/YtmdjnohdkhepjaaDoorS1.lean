/- Several texts, one behind the other. -/
import Derived.WalkKit
import Derived.Lib.Hide
import Derived.Laws.BitsLemmas
import Derived.IntWalk
import Derived.Test.YtmdjnohdkhepjaaDoorChecked
import Derived.Test.YtmdjnohdkhepjaaDoorI1
import Derived.BigQuiet
import Derived.Deep.RegionHeld3
import Derived.Laws.Closers25b
import Derived.Deep.QuietTactic
/- Words of 32 bits. -/
namespace Go.Proofs.YtmdjnohdkhepjaaDoor
set_option linter.unusedSimpArgs false
set_option linter.unusedVariables false
open Go.RowKit

abbrev W32 := BitVec 32
/-- A word as a number. -/
def u (x : W32) : Int := (x.toNat : Int)
theorem u_bd (x : W32) : 0 ≤ u x ∧ u x < 4294967296 := by unfold u; have := x.isLt; omega
theorem u_ofInt (x : W32) : BitVec.ofInt 32 (u x) = x := by unfold u; simp
theorem wrap_u32' (n : Int) (h0 : 0 ≤ n) (h1 : n < 4294967296) : IntKind.u32.wrap n = n := by
  simp [IntKind.wrap, IntKind.signed, IntKind.bits]
  omega
theorem wrap_u32_ofInt (n : Int) : IntKind.u32.wrap n = u (BitVec.ofInt 32 n) := by
  unfold u
  simp [IntKind.wrap, IntKind.signed, IntKind.bits, BitVec.toNat_ofInt]
  omega
theorem xor_u (x y : W32) : bits .xor .u32 (u x) (u y) = u (x ^^^ y) := by
  unfold bits
  have h := u_bd (x ^^^ y)
  have e1 : BitVec.ofInt IntKind.u32.bits (u x) = x := u_ofInt x
  have e2 : BitVec.ofInt IntKind.u32.bits (u y) = y := u_ofInt y
  rw [e1, e2]
  exact wrap_u32' _ h.1 h.2
theorem and_u (x y : W32) : bits .and .u32 (u x) (u y) = u (x &&& y) := by
  unfold bits
  have h := u_bd (x &&& y)
  have e1 : BitVec.ofInt IntKind.u32.bits (u x) = x := u_ofInt x
  have e2 : BitVec.ofInt IntKind.u32.bits (u y) = y := u_ofInt y
  rw [e1, e2]
  exact wrap_u32' _ h.1 h.2
theorem or_u (x y : W32) : bits .or .u32 (u x) (u y) = u (x ||| y) := by
  unfold bits
  have h := u_bd (x ||| y)
  have e1 : BitVec.ofInt IntKind.u32.bits (u x) = x := u_ofInt x
  have e2 : BitVec.ofInt IntKind.u32.bits (u y) = y := u_ofInt y
  rw [e1, e2]
  exact wrap_u32' _ h.1 h.2
theorem ofInt_add (a b : Int) : BitVec.ofInt 32 (a + b) = BitVec.ofInt 32 a + BitVec.ofInt 32 b := by simp [BitVec.ofInt_add]
theorem add_u (x y : W32) : IntKind.u32.wrap (u x + u y) = u (x + y) := by rw [wrap_u32_ofInt, ofInt_add, u_ofInt, u_ofInt]
theorem shr_u (x : W32) (n : Nat) : u x / 2 ^ n = u (x >>> n) := by
  unfold u
  rw [BitVec.toNat_ushiftRight, Nat.shiftRight_eq_div_pow]
  simp
theorem shl_u (x : W32) (n : Nat) : IntKind.u32.wrap (u x * 2 ^ n) = u (x <<< n) := by
  rw [wrap_u32_ofInt]
  congr 1
  unfold u
  apply BitVec.eq_of_toNat_eq
  rw [BitVec.toNat_shiftLeft, Nat.shiftLeft_eq]
  have e : ((x.toNat : Int) * 2 ^ n) = ((x.toNat * 2 ^ n : Nat) : Int) := by simp
  rw [e]
  generalize x.toNat * 2 ^ n = m
  simp only [BitVec.toNat_ofInt]
  omega
def rotr (x : W32) (n : Nat) : W32 := (x >>> n) ||| (x <<< (32 - n))
/-- What is left of a number of 32 bits. -/
def wd (n : Int) : W32 := BitVec.ofInt 32 n
theorem low_and (n : Int) (h0 : -9223372036854775808 ≤ n) (h1 : n ≤ 9223372036854775807) : bits .and .i64 n 4294967295 = u (wd n) := by
  unfold bits wd u
  have e : (BitVec.ofInt IntKind.i64.bits n &&& BitVec.ofInt IntKind.i64.bits 4294967295).toNat = (BitVec.ofInt 32 n).toNat := by
    rw [BitVec.toNat_and]
    simp only [IntKind.bits, BitVec.toNat_ofInt]
    have e2 : ((4294967295 : Int) % ((2 ^ 64 : Nat) : Int)).toNat = 2 ^ 32 - 1 := by decide
    rw [e2, Nat.and_two_pow_sub_one_eq_mod]
    omega
  simp only [e]
  have := (BitVec.ofInt 32 n).isLt
  exact IntWalk.i64_in _ (by omega)
theorem wd_u (x : W32) : wd (u x) = x := u_ofInt x
theorem wd_add (a b : Int) : wd (a + b) = wd a + wd b := ofInt_add a b
theorem wd_not (x : W32) : wd (-(u x) - 1) = ~~~x := by
  unfold wd u
  apply BitVec.eq_of_toNat_eq
  rw [BitVec.toNat_not, BitVec.toNat_ofInt]
  have := x.isLt
  omega
theorem bits_i64_nat (op : BinOp) (x y : W32) (z : W32) (h : (match op with | .and => x &&& y | .or => x ||| y | .xor => x ^^^ y | _ => z) = z) (hop : op = .and ∨ op = .or ∨ op = .xor) : bits op .i64 (u x) (u y) = u z := by
  have hz := z.isLt
  have hx := x.isLt
  have hy := y.isLt
  have e1 : (BitVec.ofInt IntKind.i64.bits (u x)).toNat = x.toNat := by unfold u; simp only [IntKind.bits, BitVec.toNat_ofInt]; omega
  have e2 : (BitVec.ofInt IntKind.i64.bits (u y)).toNat = y.toNat := by unfold u; simp only [IntKind.bits, BitVec.toNat_ofInt]; omega
  rcases hop with rfl | rfl | rfl
  all_goals
    simp only at h
    subst h
    unfold bits
    simp only [BitVec.toNat_and, BitVec.toNat_or, BitVec.toNat_xor, e1, e2]
    unfold u
    simp only [BitVec.toNat_and, BitVec.toNat_or, BitVec.toNat_xor] at hz ⊢
    exact IntWalk.i64_in _ (by omega)
theorem xor_i (x y : W32) : bits .xor .i64 (u x) (u y) = u (x ^^^ y) := bits_i64_nat .xor x y _ rfl (by simp)
theorem and_i (x y : W32) : bits .and .i64 (u x) (u y) = u (x &&& y) := bits_i64_nat .and x y _ rfl (by simp)
theorem rot_i (x : W32) (n : Nat) (h0 : 1 ≤ n) (h1 : n ≤ 31) : wd (bits .or .i64 (u x / 2 ^ n) (u x * 2 ^ (32 - n))) = rotr x n := by
  have hx := x.isLt
  have hp : 2 ^ (32 - n) ≤ 2 ^ 31 := Nat.pow_le_pow_right (by omega) (by omega)
  have a1 : x.toNat / 2 ^ n < 2 ^ 63 := Nat.lt_of_le_of_lt (Nat.div_le_self _ _) (by omega)
  have a2 : x.toNat * 2 ^ (32 - n) < 2 ^ 63 := by
    have : x.toNat * 2 ^ (32 - n) ≤ (2 ^ 32 - 1) * 2 ^ 31 := Nat.mul_le_mul (by omega) hp
    omega
  have q := (bits_nat .i64 63 (by decide) (fun n h0 h1 => IntWalk.i64_in n (by omega)) (x.toNat / 2 ^ n) (x.toNat * 2 ^ (32 - n)) a1 a2).2
  have e1 : (u x / 2 ^ n) = ((x.toNat / 2 ^ n : Nat) : Int) := by unfold u; simp
  have e2 : (u x * 2 ^ (32 - n)) = ((x.toNat * 2 ^ (32 - n) : Nat) : Int) := by unfold u; simp
  rw [e1, e2, q]
  unfold wd rotr
  apply BitVec.eq_of_toNat_eq
  simp only [BitVec.toNat_ofInt, BitVec.toNat_or, BitVec.toNat_ushiftRight, BitVec.toNat_shiftLeft, Nat.shiftRight_eq_div_pow, Nat.shiftLeft_eq]
  have e3 : (((x.toNat / 2 ^ n ||| x.toNat * 2 ^ (32 - n) : Nat) : Int) % ((2 ^ 32 : Nat) : Int)).toNat = (x.toNat / 2 ^ n ||| x.toNat * 2 ^ (32 - n)) % 2 ^ 32 := by omega
  rw [e3, Nat.or_mod_two_pow]
  congr 1
  exact Nat.mod_eq_of_lt (Nat.lt_of_le_of_lt (Nat.div_le_self _ _) (by omega))
end Go.Proofs.YtmdjnohdkhepjaaDoor
/- The small walks of the hash. -/
namespace Go.Proofs.YtmdjnohdkhepjaaDoor
set_option linter.unusedSimpArgs false
set_option linter.unusedVariables false
open Go.RowKit

theorem cnt_rot (m : Nat) (h0 : 1 ≤ m) (h1 : m ≤ 31) : bits .and .u64 (IntKind.u64.wrap (-(m : Int))) 31 = ((32 - m : Nat) : Int) := by
  have : ∀ m : Fin 32, 1 ≤ m.val → bits .and .u64 (IntKind.u64.wrap (-(m.val : Int))) 31 = ((32 - m.val : Nat) : Int) := by decide +kernel
  exact this ⟨m, by omega⟩ h0

theorem rot_u (x : W32) (m : Nat) (h0 : 1 ≤ m) (h1 : m ≤ 31) : u (rotr x m) = bits .or .u32 (u x * 2 ^ (32 - m) % 4294967296) (u x / 2 ^ (32 - (32 - m))) := by
  have e1 : u x * 2 ^ (32 - m) % 4294967296 = u (x <<< (32 - m)) := by
    rw [← shl_u]
    simp [IntKind.wrap, IntKind.signed, IntKind.bits]
  rw [e1, show 32 - (32 - m) = m by omega, shr_u, or_u, BitVec.or_comm]
  rfl
theorem shl_64 (x : W32) (m : Nat) (h0 : 1 ≤ m) (h1 : m ≤ 31) : wrap64 (u x * 2 ^ (32 - m)) = u x * 2 ^ (32 - m) := by
  have hx := x.isLt
  have hp : 2 ^ (32 - m) ≤ 2 ^ 31 := Nat.pow_le_pow_right (by omega) (by omega)
  have h2 : x.toNat * 2 ^ (32 - m) ≤ (2 ^ 32 - 1) * 2 ^ 31 := Nat.mul_le_mul (by omega) hp
  have e2 : (u x * 2 ^ (32 - m)) = ((x.toNat * 2 ^ (32 - m) : Nat) : Int) := by unfold u; simp
  rw [e2]
  exact IntWalk.wrap64_in _ ⟨by omega, by omega⟩

theorem rot_any (x : W32) (m : Nat) (w : World) (h0 : 1 ≤ m) (h1 : m ≤ 31) :
    Calls Tryd.prog 101 #[.int .u32 (u x), .int .i64 (-(m : Int))] w fun e w' => e = .returned (.int .u32 (u (rotr x m))) ∧ w = w' := by
  have hc := cnt_rot m h0 h1
  have ub := u_bd x
  have HR := Lib.hid (rot_u x m h0 h1)
  go_enter Tryd.func101, Tryd.ntmps101
  go_wp2
  go_ret
  exact ⟨ret_int HR.out, rfl⟩

theorem l3Word_any (n : Int) (w : World) (h0 : -9223372036854775808 ≤ n) (h1 : n ≤ 9223372036854775807) :
    Calls Tryd.prog 103 #[.int .i64 n] w fun e w' => e = .returned (.int .i64 (u (wd n))) ∧ w = w' := by
  have h := low_and n h0 h1
  go_enter Tryd.func103, Tryd.ntmps103
  go_wp2
  go_ret
  exact ⟨rfl, rfl⟩

theorem l3Right_any (x : W32) (m : Nat) (w : World) (h0 : 1 ≤ m) (h1 : m ≤ 31) :
    Calls Tryd.prog 102 #[.int .i64 (u x), .int .u64 (m : Int)] w fun e w' => e = .returned (.int .i64 (u (rotr x m))) ∧ w = w' := by
  have ub := u_bd x
  have hw := shl_64 x m h0 h1
  have HR := Lib.hid (rot_i x m h0 h1)
  go_enter Tryd.func102, Tryd.ntmps102
  go_wp2_with fail
  (refine (l3Word_any _ _ (bits_within .or .i64 _ _).1 (bits_within .or .i64 _ _).2).mono ?_); rw [HR.out]; rintro e w' ⟨rfl, rfl⟩
  go_wp2
  go_ret
  exact ⟨rfl, rfl⟩

def be4 (a b c d : Nat) : W32 := BitVec.ofNat 32 (a * 16777216 + b * 65536 + c * 256 + d)
theorem u_be4 {a b c d : Nat} (ha : a < 256) (hb : b < 256) (hc : c < 256) (hd : d < 256) : u (be4 a b c d) = (a * 16777216 + b * 65536 + c * 256 + d : Nat) := by
  unfold u be4
  rw [BitVec.toNat_ofNat]
  omega
theorem be4_u32 {a b c d : Nat} (ha : a < 256) (hb : b < 256) (hc : c < 256) (hd : d < 256) :
    bits .or .u32 (bits .or .u32 (bits .or .u32 ((a : Int) % 4294967296 * 16777216 % 4294967296) ((b : Int) % 4294967296 * 65536 % 4294967296)) ((c : Int) % 4294967296 * 256 % 4294967296)) ((d : Int) % 4294967296) = u (be4 a b c d) := by
  have hw : ∀ n : Int, 0 ≤ n → n < 2 ^ 32 → IntKind.u32.wrap n = n := fun n h0 h1 => wrap_u32' n h0 (by omega)
  rw [bits_join .u32 32 (by decide) hw 24 _ ((b : Int) % 4294967296 * 65536 % 4294967296) (by omega) (by omega) (by omega) (by omega) (by omega) (by omega)]
  rw [bits_join .u32 32 (by decide) hw 16 _ ((c : Int) % 4294967296 * 256 % 4294967296) (by omega) (by omega) (by omega) (by omega) (by omega) (by omega)]
  rw [bits_join .u32 32 (by decide) hw 8 _ ((d : Int) % 4294967296) (by omega) (by omega) (by omega) (by omega) (by omega) (by omega)]
  rw [u_be4 ha hb hc hd]
  omega
theorem be4_i64 {a b c d : Nat} (ha : a < 256) (hb : b < 256) (hc : c < 256) (hd : d < 256) :
    bits .or .i64 (bits .or .i64 (bits .or .i64 ((a : Int) * 16777216) ((b : Int) * 65536)) ((c : Int) * 256)) (d : Int) = u (be4 a b c d) := by
  have hw : ∀ n : Int, 0 ≤ n → n < 2 ^ 62 → IntKind.i64.wrap n = n := fun n h0 h1 => IntWalk.i64_in n (by omega)
  rw [bits_join .i64 62 (by decide) hw 24 _ ((b : Int) * 65536) (by omega) (by omega) (by omega) (by omega) (by omega) (by omega)]
  rw [bits_join .i64 62 (by decide) hw 16 _ ((c : Int) * 256) (by omega) (by omega) (by omega) (by omega) (by omega) (by omega)]
  rw [bits_join .i64 62 (by decide) hw 8 _ ((d : Int)) (by omega) (by omega) (by omega) (by omega) (by omega) (by omega)]
  rw [u_be4 ha hb hc hd]
  omega
/-- The word at a place of a text. -/
def wordAt (s : ByteArray) (i : Nat) : W32 := be4 (s.data.getD i 0).toNat (s.data.getD (i + 1) 0).toNat (s.data.getD (i + 2) 0).toNat (s.data.getD (i + 3) 0).toNat
theorem byte_getD {s : ByteArray} {i : Nat} (h : i < s.size) : s.data.getD i 0 = s[i] := by
  have h' : i < s.data.size := h
  rw [Array.getD_eq_getD_getElem?, Array.getElem?_eq_getElem h']
  rfl
theorem word_any (s : ByteArray) (w : World) (h : 4 ≤ s.size) :
    Calls Tryd.prog 100 #[.string s] w fun e w' => ∃ n, e = .returned (.int .u32 (u (wordAt s 0))) ∧ w' = w.drewN n := by
  have i0' : 0 < s.size := by omega
  have i0 : (0 : Int) < (s.size : Int) := by omega
  have i1 : (1 : Int) < (s.size : Int) := by omega
  have i2 : (2 : Int) < (s.size : Int) := by omega
  have i3 : (3 : Int) < (s.size : Int) := by omega
  have HR : Hid (u (wordAt s 0) = _) := Lib.hid (show u (wordAt s 0) = bits .or .u32 (bits .or .u32 (bits .or .u32 (((s[0]'(by omega)).toNat : Int) % 4294967296 * 16777216 % 4294967296) (((s[1]'(by omega)).toNat : Int) % 4294967296 * 65536 % 4294967296)) (((s[2]'(by omega)).toNat : Int) % 4294967296 * 256 % 4294967296)) (((s[3]'(by omega)).toNat : Int) % 4294967296) from by
    unfold wordAt
    rw [byte_getD (by omega), byte_getD (by omega), byte_getD (by omega), byte_getD (by omega)]
    exact (be4_u32 (UInt8.toNat_lt _) (UInt8.toNat_lt _) (UInt8.toNat_lt _) (UInt8.toNat_lt _)).symm)
  go_enter Tryd.func100, Tryd.ntmps100
  go_wp2
  go_quiet (fail)
  go_wp2
  go_ret
  exact ⟨_, ret_int HR.out, rfl⟩
end Go.Proofs.YtmdjnohdkhepjaaDoor
/- The hash, as plain functions. -/
namespace Go.Proofs.YtmdjnohdkhepjaaDoor
set_option linter.unusedSimpArgs false
set_option linter.unusedVariables false
open Go.RowKit

def sg0 (x : W32) : W32 := rotr x 7 ^^^ rotr x 18 ^^^ (x >>> 3)
def sg1 (x : W32) : W32 := rotr x 17 ^^^ rotr x 19 ^^^ (x >>> 10)
/-- The first n words of the schedule of the block of a text at a place. -/
def wl (s : ByteArray) (at' : Nat) : Nat → List W32
  | 0 => []
  | n + 1 => wl s at' n ++ [if n < 16 then wordAt s (at' + 4 * n) else (wl s at' n).getD (n - 16) 0 + sg0 ((wl s at' n).getD (n - 15) 0) + (wl s at' n).getD (n - 7) 0 + sg1 ((wl s at' n).getD (n - 2) 0)]
theorem wl_len (s : ByteArray) (a n : Nat) : (wl s a n).length = n := by
  induction n with
  | zero => rfl
  | succ n ih => simp [wl, ih]
/-- A whole row of 64: the words so far, zeros behind them. -/
def wrow (s : ByteArray) (a n : Nat) : List W32 := wl s a n ++ List.replicate (64 - n) 0
theorem wrow_len (s : ByteArray) (a n : Nat) (h : n ≤ 64) : (wrow s a n).length = 64 := by simp [wrow, wl_len]; omega
theorem wrow_set (s : ByteArray) (a n : Nat) (h : n < 64) : (wrow s a n).set n ((wl s a (n + 1)).getD n 0) = wrow s a (n + 1) := by
  have e : 64 - n = (64 - (n + 1)) + 1 := by omega
  have g : (wl s a (n + 1)).getD n 0 = (if n < 16 then wordAt s (a + 4 * n) else (wl s a n).getD (n - 16) 0 + sg0 ((wl s a n).getD (n - 15) 0) + (wl s a n).getD (n - 7) 0 + sg1 ((wl s a n).getD (n - 2) 0)) := by
    rw [wl, List.getD_eq_getElem?_getD, List.getElem?_append_right (by rw [wl_len]; omega), wl_len]
    simp
  rw [g]
  unfold wrow
  rw [e, List.replicate_succ, List.set_append, if_neg (by rw [wl_len]; omega), wl_len, Nat.sub_self, List.set_cons_zero]
  simp [wl]
theorem wrow_get (s : ByteArray) (a n i : Nat) (h : i < n) : (wrow s a n)[i]? = some ((wl s a n).getD i 0) := by
  unfold wrow
  rw [List.getElem?_append_left (by rw [wl_len]; exact h), List.getD_eq_getElem?_getD, List.getElem?_eq_getElem (by rw [wl_len]; exact h)]
  rfl
structure HSt where
  a : W32
  b : W32
  c : W32
  d : W32
  e : W32
  f : W32
  g : W32
  h : W32
def rndT (v : HSt) (k w : W32) : W32 := v.h + (rotr v.e 6 ^^^ rotr v.e 11 ^^^ rotr v.e 25) + ((v.e &&& v.f) ^^^ (~~~v.e &&& v.g)) + k + w
def rnd (v : HSt) (k w : W32) : HSt :=
  ⟨rndT v k w + (rotr v.a 2 ^^^ rotr v.a 13 ^^^ rotr v.a 22) + ((v.a &&& v.b) ^^^ (v.a &&& v.c) ^^^ (v.b &&& v.c)), v.a, v.b, v.c, v.d + rndT v k w, v.e, v.f, v.g⟩
def shaK : List W32 := [0x428a2f98, 0x71374491, 0xb5c0fbcf, 0xe9b5dba5, 0x3956c25b, 0x59f111f1, 0x923f82a4, 0xab1c5ed5,
  0xd807aa98, 0x12835b01, 0x243185be, 0x550c7dc3, 0x72be5d74, 0x80deb1fe, 0x9bdc06a7, 0xc19bf174,
  0xe49b69c1, 0xefbe4786, 0x0fc19dc6, 0x240ca1cc, 0x2de92c6f, 0x4a7484aa, 0x5cb0a9dc, 0x76f988da,
  0x983e5152, 0xa831c66d, 0xb00327c8, 0xbf597fc7, 0xc6e00bf3, 0xd5a79147, 0x06ca6351, 0x14292967,
  0x27b70a85, 0x2e1b2138, 0x4d2c6dfc, 0x53380d13, 0x650a7354, 0x766a0abb, 0x81c2c92e, 0x92722c85,
  0xa2bfe8a1, 0xa81a664b, 0xc24b8b70, 0xc76c51a3, 0xd192e819, 0xd6990624, 0xf40e3585, 0x106aa070,
  0x19a4c116, 0x1e376c08, 0x2748774c, 0x34b0bcb5, 0x391c0cb3, 0x4ed8aa4a, 0x5b9cca4f, 0x682e6ff3,
  0x748f82ee, 0x78a5636f, 0x84c87814, 0x8cc70208, 0x90befffa, 0xa4506ceb, 0xbef9a3f7, 0xc67178f2]
def rnds (v : HSt) (ws : List W32) : Nat → HSt
  | 0 => v
  | n + 1 => rnd (rnds v ws n) (shaK.getD n 0) (ws.getD n 0)
def addS (x y : HSt) : HSt := ⟨x.a + y.a, x.b + y.b, x.c + y.c, x.d + y.d, x.e + y.e, x.f + y.f, x.g + y.g, x.h + y.h⟩
/-- The state behind the block of a text at a place. -/
def blk (v : HSt) (s : ByteArray) (a : Nat) : HSt := addS v (rnds v (wl s a 64) 64)

/-- Words in a row of cells. -/
def vW (x : W32) : Value := .int .u32 (u x)
def arrW (l : List W32) : Array Value := (l.map vW).toArray
theorem arrW_get {l : List W32} {i : Nat} {x : W32} (h : l[i]? = some x) : (arrW l)[i]? = some (.int .u32 (u x)) := by simp [arrW, h, vW]
theorem arrW_set {l : List W32} {i : Nat} {x : W32} : (arrW l).setIfInBounds i (.int .u32 (u x)) = arrW (l.set i x) := by simp [arrW, List.map_set, vW]
theorem arrW_zero : arrW (List.replicate 64 0) = Array.replicate 64 (.int .u32 0) := by unfold arrW; rw [List.map_replicate]; rfl
/-- The eight cells of a state. -/
def cellsS (v : HSt) : Array Value := #[.int .u32 (u v.a), .int .u32 (u v.b), .int .u32 (u v.c), .int .u32 (u v.d), .int .u32 (u v.e), .int .u32 (u v.f), .int .u32 (u v.g), .int .u32 (u v.h)]
def listS (v : HSt) : List W32 := [v.a, v.b, v.c, v.d, v.e, v.f, v.g, v.h]
theorem fold_add (x y : W32) : (u x + u y) % 4294967296 = u (x + y) := by
  rw [← add_u]
  simp [IntKind.wrap, IntKind.signed, IntKind.bits]
theorem fold_shr3 (x : W32) : u x / (8 : Int) = u (x >>> (3 : Nat)) := shr_u x 3
theorem fold_shr10 (x : W32) : u x / (1024 : Int) = u (x >>> (10 : Nat)) := shr_u x 10
theorem sched_eq (a16 a15 a7 a2 : W32) : (u a16 + bits BinOp.xor IntKind.u32 (u (rotr a15 7 ^^^ rotr a15 18)) (u a15 / 8) + u a7 + bits BinOp.xor IntKind.u32 (u (rotr a2 17 ^^^ rotr a2 19)) (u a2 / 1024)) % 4294967296 = u (a16 + sg0 a15 + a7 + sg1 a2) := by
  rw [fold_shr3, fold_shr10, xor_u, xor_u]
  rw [← fold_add, ← fold_add, ← fold_add]
  unfold sg0 sg1
  omega
theorem wrow_64 (s : ByteArray) (a : Nat) : wrow s a 64 = wl s a 64 := by simp [wrow]
theorem not_u (x : W32) : bits .xor .u32 IntKind.u32.max (u x) = u (~~~x) := by
  unfold bits
  have h := u_bd (~~~x)
  have e1 : BitVec.ofInt IntKind.u32.bits IntKind.u32.max = BitVec.allOnes 32 := (by decide : BitVec.ofInt 32 4294967295 = BitVec.allOnes 32)
  have e2 : BitVec.ofInt IntKind.u32.bits (u x) = x := u_ofInt x
  rw [e1, e2]
  have e3 : (BitVec.allOnes 32 ^^^ x) = ~~~x := by ext i hi; rw [BitVec.getElem_xor, BitVec.getElem_allOnes, BitVec.getElem_not]; cases x[i] <;> rfl
  show IntKind.u32.wrap ((BitVec.allOnes 32 ^^^ x).toNat : Int) = _
  rw [e3]
  exact wrap_u32' _ h.1 h.2
theorem rnd_a (st : HSt) (kk ww : W32) : (u st.h + bits BinOp.xor IntKind.u32 (bits BinOp.xor IntKind.u32 (u (rotr st.e 6)) (u (rotr st.e 11))) (u (rotr st.e 25)) + bits BinOp.xor IntKind.u32 (bits BinOp.and IntKind.u32 (u st.e) (u st.f)) (bits BinOp.and IntKind.u32 (bits BinOp.xor IntKind.u32 IntKind.u32.max (u st.e)) (u st.g)) + u kk + u ww + bits BinOp.xor IntKind.u32 (bits BinOp.xor IntKind.u32 (u (rotr st.a 2)) (u (rotr st.a 13))) (u (rotr st.a 22)) + bits BinOp.xor IntKind.u32 (bits BinOp.xor IntKind.u32 (bits BinOp.and IntKind.u32 (u st.a) (u st.b)) (bits BinOp.and IntKind.u32 (u st.a) (u st.c))) (bits BinOp.and IntKind.u32 (u st.b) (u st.c))) % 4294967296 = u (rnd st kk ww).a := by
  simp only [not_u, xor_u, and_u]
  unfold rnd rndT
  simp only [← fold_add]
  omega
theorem rnd_e (st : HSt) (kk ww : W32) : (u st.d + (u st.h + bits BinOp.xor IntKind.u32 (bits BinOp.xor IntKind.u32 (u (rotr st.e 6)) (u (rotr st.e 11))) (u (rotr st.e 25)) + bits BinOp.xor IntKind.u32 (bits BinOp.and IntKind.u32 (u st.e) (u st.f)) (bits BinOp.and IntKind.u32 (bits BinOp.xor IntKind.u32 IntKind.u32.max (u st.e)) (u st.g)) + u kk + u ww)) % 4294967296 = u (rnd st kk ww).e := by
  simp only [not_u, xor_u, and_u]
  unfold rnd rndT
  simp only [← fold_add]
  omega
theorem cells_set8 (v : HSt) (x0 x1 x2 x3 x4 x5 x6 x7 : Value) : ((((((((cellsS v).setIfInBounds 0 x0).setIfInBounds 1 x1).setIfInBounds 2 x2).setIfInBounds 3 x3).setIfInBounds 4 x4).setIfInBounds 5 x5).setIfInBounds 6 x6).setIfInBounds 7 x7 = #[x0, x1, x2, x3, x4, x5, x6, x7] := by simp [cellsS]
theorem box8 {w : World} {b : Nat} {st : HSt} {kk ww : W32} {x0 x4 : Int} (h : Box w b (cellsS st)) (h0 : x0 = u (rnd st kk ww).a) (h4 : x4 = u (rnd st kk ww).e) :
    Box ((((((((w.setCell ⟨b, 0, none⟩ (.int .u32 x0)).setCell ⟨b, 1, none⟩ (.int .u32 (u st.a))).setCell ⟨b, 2, none⟩ (.int .u32 (u st.b))).setCell ⟨b, 3, none⟩ (.int .u32 (u st.c))).setCell ⟨b, 4, none⟩ (.int .u32 x4)).setCell ⟨b, 5, none⟩ (.int .u32 (u st.e))).setCell ⟨b, 6, none⟩ (.int .u32 (u st.f))).setCell ⟨b, 7, none⟩ (.int .u32 (u st.g))) b (cellsS (rnd st kk ww)) := by
  subst h0
  subst h4
  have q := (((((((h.set (o := 0) (.int .u32 (u (rnd st kk ww).a))).set (o := 1) (.int .u32 (u st.a))).set (o := 2) (.int .u32 (u st.b))).set (o := 3) (.int .u32 (u st.c))).set (o := 4) (.int .u32 (u (rnd st kk ww).e))).set (o := 5) (.int .u32 (u st.e))).set (o := 6) (.int .u32 (u st.f))).set (o := 7) (.int .u32 (u st.g))
  rw [cells_set8] at q
  exact q
def addL (v r : HSt) (k : Nat) : List W32 := (List.zipWith (· + ·) (listS v) (listS r)).take k ++ (listS v).drop k
theorem addL_step (v r : HSt) : ∀ k, k < 8 → (addL v r k)[k]? = some ((listS v).getD k 0) ∧ (listS r)[k]? = some ((listS r).getD k 0) ∧ (addL v r k).set k ((listS v).getD k 0 + (listS r).getD k 0) = addL v r (k + 1)
  | 0, _ => ⟨rfl, rfl, rfl⟩
  | 1, _ => ⟨rfl, rfl, rfl⟩
  | 2, _ => ⟨rfl, rfl, rfl⟩
  | 3, _ => ⟨rfl, rfl, rfl⟩
  | 4, _ => ⟨rfl, rfl, rfl⟩
  | 5, _ => ⟨rfl, rfl, rfl⟩
  | 6, _ => ⟨rfl, rfl, rfl⟩
  | 7, _ => ⟨rfl, rfl, rfl⟩
  | k + 8, h => by omega
theorem addL_end (v r : HSt) : arrW (addL v r 8) = cellsS (addS v r) := rfl
theorem addL_start (v r : HSt) : arrW (addL v r 0) = cellsS v := rfl
theorem arrW_listS (v : HSt) : arrW (listS v) = cellsS v := rfl
/-- The table's cells. -/
def ShaTab (w : World) : Prop := ∀ i, i < 64 → w.cell? ⟨0, i, none⟩ = some (.int .u32 (u (shaK.getD i 0)))
theorem ShaTab.pos {w : World} (h : ShaTab w) : 0 < w.heap.size := World.block_lt_of_cell? w ⟨0, 0, none⟩ (h 0 (by omega))
theorem ShaTab.ext {w w' : World} (h : ShaTab w) (hb : Ext w w') : ShaTab w' := fun i hi => (hb.cells.1 0 i h.pos).trans (h i hi)
theorem wordAt_cut (s : ByteArray) (k : Nat) (h : k + 4 ≤ s.size) : wordAt (s.extract k s.size) 0 = wordAt s k := by
  have hs : (s.extract k s.size).data = s.data.extract k s.size := by simp [ByteArray.extract, ByteArray.copySlice]; rw [show k + (s.size - k) = s.size by omega]
  have g : ∀ j, j < 4 → (s.extract k s.size).data.getD j 0 = s.data.getD (k + j) 0 := fun j hj => by
    have h1 : s.data.size = s.size := rfl
    rw [hs, Array.getD_eq_getD_getElem?, Array.getD_eq_getD_getElem?, Array.getElem?_extract]
    rw [if_pos (by omega)]
  unfold wordAt
  rw [show (0 : Nat) + 1 = 1 from rfl, show (0 : Nat) + 2 = 2 from rfl, show (0 : Nat) + 3 = 3 from rfl, g 0 (by omega), g 1 (by omega), g 2 (by omega), g 3 (by omega)]
  rfl
end Go.Proofs.YtmdjnohdkhepjaaDoor
/- A number's bytes, as a plain function. -/
namespace Go.Proofs.YtmdjnohdkhepjaaDoor
set_option linter.unusedSimpArgs false
set_option linter.unusedVariables false
open Go.RowKit

/-- A number's bytes, the highest first. -/
def fxL (n w : Nat) : List UInt8 := (List.range w).map fun p => UInt8.ofNat (n / 256 ^ (w - 1 - p))
/-- The row when the last j bytes stand. -/
def fxR (n w j : Nat) : List UInt8 := (List.range w).map fun p => if w ≤ p + j then UInt8.ofNat (n / 256 ^ (w - 1 - p)) else 0
theorem fxR_zero (n w : Nat) : fxR n w 0 = List.replicate w 0 := by
  apply List.ext_getElem
  · simp [fxR]
  · intro i h1 h2
    simp [fxR] at h1 ⊢
    omega
theorem fxR_end (n w : Nat) : fxR n w w = fxL n w := by
  apply List.ext_getElem
  · simp [fxR, fxL]
  · intro i h1 h2
    simp [fxR, fxL]
theorem fxR_set (n w j : Nat) (h : j < w) : (fxR n w j).set (w - 1 - j) (UInt8.ofNat (n / 256 ^ j)) = fxR n w (j + 1) := by
  apply List.ext_getElem
  · simp [fxR]
  · intro i h1 h2
    simp [fxR] at h1 h2
    rw [List.getElem_set]
    by_cases e : w - 1 - j = i
    · subst e
      rw [if_pos rfl]
      simp [fxR]
      rw [if_pos (by omega)]
      congr 2
      congr 1
      omega
    · rw [if_neg e]
      simp [fxR]
      by_cases c : w ≤ i + j
      · rw [if_pos c, if_pos (by omega)]
      · rw [if_neg c, if_neg (by omega)]
end Go.Proofs.YtmdjnohdkhepjaaDoor
/- The hash of a text, as a plain function. -/
namespace Go.Proofs.YtmdjnohdkhepjaaDoor
set_option linter.unusedSimpArgs false
set_option linter.unusedVariables false
open Go.RowKit

def fx (n w : Nat) : ByteArray := ⟨(fxL n w).toArray⟩
theorem fx_size (n w : Nat) : (fx n w).size = w := by simp [fx, fxL, ByteArray.size]
def zerosB (n : Nat) : ByteArray := ⟨(List.replicate n 0).toArray⟩
theorem zerosB_size (n : Nat) : (zerosB n).size = n := by simp [zerosB, ByteArray.size]
def padN (n : Nat) : Nat := (64 - (n + 9) % 64) % 64
def padT (s : ByteArray) : ByteArray := s ++ ⟨#[128]⟩ ++ zerosB (padN s.size + 1) ++ fx (8 * s.size) 7
theorem padT_size (s : ByteArray) : (padT s).size = s.size + 9 + padN s.size := by
  have h1 : (⟨#[128]⟩ : ByteArray).size = 1 := rfl
  unfold padT
  rw [ByteArray.size_append, ByteArray.size_append, ByteArray.size_append, zerosB_size, fx_size, h1]
  omega
theorem padT_mod (s : ByteArray) : (padT s).size % 64 = 0 := by rw [padT_size]; unfold padN; omega
/-- The state behind n blocks from a place on. -/
def shaGo (p : ByteArray) : Nat → HSt → Nat → HSt
  | 0, v, _ => v
  | n + 1, v, at' => shaGo p n (blk v (p.extract at' (at' + 64)) 0) (at' + 64)
def sha0 : HSt := ⟨0x6a09e667, 0xbb67ae85, 0x3c6ef372, 0xa54ff53a, 0x510e527f, 0x9b05688c, 0x1f83d9ab, 0x5be0cd19⟩
def outGo : List W32 → ByteArray → ByteArray
  | [], o => o
  | x :: r, o => outGo r (o ++ fx x.toNat 4)
def outS (v : HSt) : ByteArray := outGo (listS v) ByteArray.empty
theorem outGo_size : ∀ (l : List W32) (o : ByteArray), (outGo l o).size = o.size + 4 * l.length
  | [], o => by simp [outGo]
  | x :: r, o => by rw [outGo, outGo_size r, ByteArray.size_append, fx_size]; simp; omega
def sha (s : ByteArray) : ByteArray := outS (shaGo (padT s) ((padT s).size / 64) sha0 0)
theorem sha_size (s : ByteArray) : (sha s).size = 32 := by
  unfold sha outS
  rw [outGo_size]
  rfl
def short (s : ByteArray) : ByteArray := (sha s).extract 0 8
theorem short_size (s : ByteArray) : (short s).size = 8 := by
  unfold short
  rw [ByteArray.size_extract, sha_size]
  rfl
end Go.Proofs.YtmdjnohdkhepjaaDoor

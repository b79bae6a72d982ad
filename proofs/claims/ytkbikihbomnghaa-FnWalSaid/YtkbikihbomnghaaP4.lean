/- Walks on the pure machine: impl.Sha. -/
import Derived.Test.YtkbikihbomnghaaP3
import Derived.Test.YtkbikihbomnghaaPvE
namespace Go.Proofs.Ytkbikihbomnghaa
open Go.RowKit
set_option maxRecDepth 100000

/-- The cells of a state on the pure machine. -/
def pHS (v : HSt) : List PV := [.val (.int .u32 (u v.a)), .val (.int .u32 (u v.b)), .val (.int .u32 (u v.c)), .val (.int .u32 (u v.d)), .val (.int .u32 (u v.e)), .val (.int .u32 (u v.f)), .val (.int .u32 (u v.g)), .val (.int .u32 (u v.h))]
theorem pHS_len (v : HSt) : (pHS v).length = 8 := rfl
theorem u_nat (x : W32) : u x = ((x.toNat : Nat) : Int) := rfl
theorem listS_get (v : HSt) : ∀ k, k < 8 → (pHS v)[k]? = some (.val (.int .u32 (u ((listS v).getD k 0)))) ∧ (listS v).drop k = (listS v).getD k 0 :: (listS v).drop (k + 1)
  | 0, _ => ⟨rfl, rfl⟩
  | 1, _ => ⟨rfl, rfl⟩
  | 2, _ => ⟨rfl, rfl⟩
  | 3, _ => ⟨rfl, rfl⟩
  | 4, _ => ⟨rfl, rfl⟩
  | 5, _ => ⟨rfl, rfl⟩
  | 6, _ => ⟨rfl, rfl⟩
  | 7, _ => ⟨rfl, rfl⟩
  | k + 8, h => by omega
theorem take_pHS (v : HSt) : (pHS v).take 8 = pHS v := rfl
theorem drop_pHS (v : HSt) : (pHS v).drop 8 = [] := rfl
theorem one_pHS (v : HSt) : (pHS v).all oneP = true := rfl
theorem clo_pHS (v : HSt) : (pHS v).all cloC = true := rfl
theorem ren_pHS {φ : List Nat} {n : Nat} (v : HSt) : renL φ n (pHS v) = pHS v := renL_flat (clo_pHS v)
end Go.Proofs.Ytkbikihbomnghaa

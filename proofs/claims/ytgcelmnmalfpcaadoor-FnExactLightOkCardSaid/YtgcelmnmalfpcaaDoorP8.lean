/- Walks on the pure machine: spec.Fixed. -/
import Derived.Test.YtgcelmnmalfpcaaDoorP6
import Derived.Test.YtgcelmnmalfpcaaDoorP7
namespace Go.Proofs.YtgcelmnmalfpcaaDoor
open Go.RowKit
set_option maxRecDepth 100000

theorem fx_step {n w i : Nat} (h : i < w) (o : List UInt8) (e : (fxL n w).drop (w - i) = o) : (fxL n w).drop (w - (i + 1)) = UInt8.ofNat (n / 256 ^ i) :: o := by
  have hl : (fxL n w).length = w := fxL_len
  have hg := fxL_get (n := n) (w := w) (i := w - (i + 1)) (by omega)
  rw [List.drop_eq_getElem_cons (by omega), show w - (i + 1) + 1 = w - i by omega, e]
  congr 1
  rw [List.getElem?_eq_getElem (by omega)] at hg
  rw [Option.some.inj hg]
  congr 3
  omega
end Go.Proofs.YtgcelmnmalfpcaaDoor

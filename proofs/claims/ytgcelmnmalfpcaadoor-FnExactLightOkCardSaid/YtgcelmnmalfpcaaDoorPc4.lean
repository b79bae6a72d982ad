/- Walks on the pure machine: headers are verified. -/
import Derived.Test.YtgcelmnmalfpcaaDoorPc3
import Derived.Test.YtgcelmnmalfpcaaDoorMc2
namespace Go.Proofs.YtgcelmnmalfpcaaDoor
open Go.RowKit
set_option maxRecDepth 100000

theorem verified_bad {t : GTrust} {a : GAnchor} {h : GHeader} {next : List GVal} {c : GCommit} {now : Int} (hb : (trustOk t && anchorOk a && headerOk h && isTime now) = false) : verified t a h next c now = 1 := by
  unfold verified; rw [if_pos hb]
theorem verified_ok {t : GTrust} {a : GAnchor} {h : GHeader} {next : List GVal} {c : GCommit} {now : Int} (h1 : trustOk t = true) (h2 : anchorOk a = true) (h3 : headerOk h = true) (h4 : isTime now = true) : verified t a h next c now =
  (if a.fHead.fTime + t.fPeriod < now then 2
  else if now + t.fSlack < h.fTime then 3
  else if h.fHeight ≠ a.fHead.fHeight + 1 then 4
  else if h.fTime ≤ a.fHead.fTime then 5
  else if eqB h.fLast (headId a.fHead) = false then 6
  else if eqB h.fVals a.fHead.fNext = false then 7
  else if eqB h.fNext (valsHash next) = false then 8
  else if commitOk a.fNext h c = false then 9
  else 0) := by
  unfold verified; rw [if_neg (by simp [h1, h2, h3, h4])]
end Go.Proofs.YtgcelmnmalfpcaaDoor

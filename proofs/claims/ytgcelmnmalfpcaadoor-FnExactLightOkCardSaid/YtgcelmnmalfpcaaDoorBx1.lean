/- What the laws ask of the client's tests, in the model's worlds. -/
import Derived.Test.YtgcelmnmalfpcaaDoorPc8
import Derived.Test.YtgcelmnmalfpcaaDoorTyLight
namespace Go.Proofs.YtgcelmnmalfpcaaDoor
open Go.RowKit
theorem GlobW.ext {w w' : World} (h : GlobW w) (e : Ext w w') : GlobW w' := fun i n q => e.cellSome (h i n q)
abbrev mLightOk := lightOk
theorem sLightOk_any (x0 : GLight) (o1 o2 o3 : Option Addr) (c1 c2 c3 : Nat) (w : World) (h0 : Rds w (encLight x0) [.int .i64 x0.fTrust.fPeriod, .int .i64 x0.fTrust.fSlack, .int .i64 x0.fState, .int .i64 x0.fAnchor.fHead.fHeight, .int .i64 x0.fAnchor.fHead.fTime, .string x0.fAnchor.fHead.fLast, .string x0.fAnchor.fHead.fVals, .string x0.fAnchor.fHead.fNext, .string x0.fAnchor.fHead.fData, .slice o1 x0.fAnchor.fNext.length c1, .slice o2 x0.fStore.fHeads.length c2, .int .i64 x0.fStore.fSynced, .slice o3 x0.fPeers.fPeers.length c3, .int .i64 x0.fPeers.fTurn, .int .i64 x0.fNow]) (z0 : szL (encLight x0) ≤ 1048576) (k0 : okL (encLight x0)) (hG : GlobW w) :
    Calls Tryd.prog 14 #[.agg #[.int .i64 x0.fTrust.fPeriod, .int .i64 x0.fTrust.fSlack, .int .i64 x0.fState, .int .i64 x0.fAnchor.fHead.fHeight, .int .i64 x0.fAnchor.fHead.fTime, .string x0.fAnchor.fHead.fLast, .string x0.fAnchor.fHead.fVals, .string x0.fAnchor.fHead.fNext, .string x0.fAnchor.fHead.fData, .slice o1 x0.fAnchor.fNext.length c1, .slice o2 x0.fStore.fHeads.length c2, .int .i64 x0.fStore.fSynced, .slice o3 x0.fPeers.fPeers.length c3, .int .i64 x0.fPeers.fTurn, .int .i64 x0.fNow]] w fun e w' => e = .returned (.bool (mLightOk x0)) ∧ Ext w w' := by
  have zz0 := z0; simp only [encLight, slD, szL] at zz0
  have hp := sLightOk_p x0 (by omega) (by omega) (by omega)
  refine (hp.use (w := w) hG.mem (vs := #[.agg #[.int .i64 x0.fTrust.fPeriod, .int .i64 x0.fTrust.fSlack, .int .i64 x0.fState, .int .i64 x0.fAnchor.fHead.fHeight, .int .i64 x0.fAnchor.fHead.fTime, .string x0.fAnchor.fHead.fLast, .string x0.fAnchor.fHead.fVals, .string x0.fAnchor.fHead.fNext, .string x0.fAnchor.fHead.fData, .slice o1 x0.fAnchor.fNext.length c1, .slice o2 x0.fStore.fHeads.length c2, .int .i64 x0.fStore.fSynced, .slice o3 x0.fPeers.fPeers.length c3, .int .i64 x0.fPeers.fTurn, .int .i64 x0.fNow]]) ⟨rfl, fun i pv v a b => ?_⟩).mono fun e w' ⟨v, M', h', pv, H', e1, e2, e3, _, e5, _⟩ => ?_
  · match i with
    | 0 => simp at a b; subst a; subst b; rw [← pv_Light]; exact Rds.agg h0 _
    | i + 1 => simp at a
  · cases e2; have q := vr_val e3; subst q; exact ⟨e1, e5⟩
theorem iLightOk_any (x0 : GLight) (o1 o2 o3 : Option Addr) (c1 c2 c3 : Nat) (w : World) (h0 : Rds w (encLight x0) [.int .i64 x0.fTrust.fPeriod, .int .i64 x0.fTrust.fSlack, .int .i64 x0.fState, .int .i64 x0.fAnchor.fHead.fHeight, .int .i64 x0.fAnchor.fHead.fTime, .string x0.fAnchor.fHead.fLast, .string x0.fAnchor.fHead.fVals, .string x0.fAnchor.fHead.fNext, .string x0.fAnchor.fHead.fData, .slice o1 x0.fAnchor.fNext.length c1, .slice o2 x0.fStore.fHeads.length c2, .int .i64 x0.fStore.fSynced, .slice o3 x0.fPeers.fPeers.length c3, .int .i64 x0.fPeers.fTurn, .int .i64 x0.fNow]) (z0 : szL (encLight x0) ≤ 1048576) (k0 : okL (encLight x0)) (hG : GlobW w) :
    Calls Tryd.prog 16 #[.agg #[.int .i64 x0.fTrust.fPeriod, .int .i64 x0.fTrust.fSlack, .int .i64 x0.fState, .int .i64 x0.fAnchor.fHead.fHeight, .int .i64 x0.fAnchor.fHead.fTime, .string x0.fAnchor.fHead.fLast, .string x0.fAnchor.fHead.fVals, .string x0.fAnchor.fHead.fNext, .string x0.fAnchor.fHead.fData, .slice o1 x0.fAnchor.fNext.length c1, .slice o2 x0.fStore.fHeads.length c2, .int .i64 x0.fStore.fSynced, .slice o3 x0.fPeers.fPeers.length c3, .int .i64 x0.fPeers.fTurn, .int .i64 x0.fNow]] w fun e w' => e = .returned (.bool (mLightOk x0)) ∧ Ext w w' := by
  have zz0 := z0; simp only [encLight, slD, szL] at zz0
  have hp := iLightOk_p x0 (by omega) (by omega) (by omega)
  refine (hp.use (w := w) hG.mem (vs := #[.agg #[.int .i64 x0.fTrust.fPeriod, .int .i64 x0.fTrust.fSlack, .int .i64 x0.fState, .int .i64 x0.fAnchor.fHead.fHeight, .int .i64 x0.fAnchor.fHead.fTime, .string x0.fAnchor.fHead.fLast, .string x0.fAnchor.fHead.fVals, .string x0.fAnchor.fHead.fNext, .string x0.fAnchor.fHead.fData, .slice o1 x0.fAnchor.fNext.length c1, .slice o2 x0.fStore.fHeads.length c2, .int .i64 x0.fStore.fSynced, .slice o3 x0.fPeers.fPeers.length c3, .int .i64 x0.fPeers.fTurn, .int .i64 x0.fNow]]) ⟨rfl, fun i pv v a b => ?_⟩).mono fun e w' ⟨v, M', h', pv, H', e1, e2, e3, _, e5, _⟩ => ?_
  · match i with
    | 0 => simp at a b; subst a; subst b; rw [← pv_Light]; exact Rds.agg h0 _
    | i + 1 => simp at a
  · cases e2; have q := vr_val e3; subst q; exact ⟨e1, e5⟩
end Go.Proofs.YtgcelmnmalfpcaaDoor

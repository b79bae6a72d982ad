/- Trust: data, and the laws' helpers. Printed by a program of ours. -/
import Derived.Test.YtgcelmnmalfpcaaDoorTyPrim
namespace Go.Proofs.YtgcelmnmalfpcaaDoor
open Go.RowKit

def encTrust (x : GTrust) : List D := [.int x.fPeriod, .int x.fSlack]
theorem encTrust_len (x : GTrust) : (encTrust x).length = 2 := rfl
theorem dec_Trust : Dec [.int .i64, .int .i64] encTrust := by
  intro n W vs h
  match vs, h with
  | [_, _], ⟨k0, k1, _⟩ =>
    obtain ⟨a0, rfl, h0⟩ := cell_int k0
    obtain ⟨a1, rfl, h1⟩ := cell_int k1
    exact ⟨⟨a0, a1⟩, (Rds.int _ (Rds.int _ Rds.nil)), (okL_int h0 (okL_int h1 okL_nil))⟩
theorem pv_Trust (x : GTrust) : toPVL (encTrust x) = pTrust x := by
  simp only [encTrust, pTrust, toPVL, toPV]
theorem pvs_Trust (e : TypeId) (xs : List GTrust) : toPV (slD e 2 encTrust xs) = .sl 2 (xs.map pTrust) := by rw [toPV_slD (enc := encTrust) (sz := 2) (fun _ => rfl)]; simp only [pv_Trust]
theorem cnt_Trust (x : GTrust) : cnt (encTrust x) ≤ 64 + 64 * szL (encTrust x) := by
  simp [encTrust, cnt, szL]

set_option maxRecDepth 100000 in
set_option maxHeartbeats 4000000 in
theorem toTrust_any (x : GTrust) (w : World) :
    Calls Tryd.prog 40 #[.agg #[.int .i64 x.fPeriod, .int .i64 x.fSlack]] w fun e w' => e = .returned (.agg #[.int .i64 x.fPeriod, .int .i64 x.fSlack]) ∧ Ext w w' := by
  go_enter Tryd.func40, Tryd.ntmps40
  go_wp2
  exact bodyPost_ret (v := .agg #[.int .i64 x.fPeriod, .int .i64 x.fSlack]) (by simp [results, Tryd.results40, go_sem]) rfl ⟨rfl, by (repeat (first | (with_reducible exact Ext.refl _) | (with_reducible assumption) | (with_reducible refine Ext.alloc ?_ _) | (with_reducible refine Ext.drew ?_) | (with_reducible refine Ext.drewN ?_ _) | ((with_reducible apply Ext.setCell); (case hp => first | omega | (simp; done) | (simp; omega))) | (with_reducible refine Ext.trans ?_ (by assumption))))⟩

set_option maxRecDepth 100000 in
set_option maxHeartbeats 4000000 in
theorem eqTrust_any (x : GTrust) (w : World) (_h1 : Rds w (encTrust x) [.int .i64 x.fPeriod, .int .i64 x.fSlack]) (_h2 : Rds w (encTrust x) [.int .i64 x.fPeriod, .int .i64 x.fSlack]) :
    Calls Tryd.prog 50 #[.agg #[.int .i64 x.fPeriod, .int .i64 x.fSlack], .agg #[.int .i64 x.fPeriod, .int .i64 x.fSlack]] w fun e w' => e = .returned (.bool true) ∧ Ext w w' := by
  go_enter Tryd.func50, Tryd.ntmps50
  go_wp2
  go_ret
  exact ⟨rfl, by (repeat (first | (with_reducible exact Ext.refl _) | (with_reducible assumption) | (with_reducible refine Ext.alloc ?_ _) | (with_reducible refine Ext.drew ?_) | (with_reducible refine Ext.drewN ?_ _) | ((with_reducible apply Ext.setCell); (case hp => first | omega | (simp; done) | (simp; omega))) | (with_reducible refine Ext.trans ?_ (by assumption))))⟩
end Go.Proofs.YtgcelmnmalfpcaaDoor

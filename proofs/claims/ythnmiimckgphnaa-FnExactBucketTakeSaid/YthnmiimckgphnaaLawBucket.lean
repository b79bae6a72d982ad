/- The exact laws of the buckets. -/
import Derived.Test.YthnmiimckgphnaaBucket
import Derived.Test.YthnmiimckgphnaaRead
import Derived.JoinedOf
import Derived.Handed
namespace Go.Proofs.Ythnmiimckgphnaa
open Go.RowKit Go.ChangeShapes Go.WideShapes

theorem toBucket_any (c r l a : Int) (w : World) :
    Calls Try.prog 15 #[.agg #[.int .i64 c, .int .i64 r, .int .i64 l, .int .i64 a]] w fun e w' => e = .returned (.agg #[.int .i64 c, .int .i64 r, .int .i64 l, .int .i64 a]) ∧ Ext w w' := by
  go_enter Try.func15, Try.ntmps15
  go_wp2
  exact bodyPost_ret (v := .agg #[.int .i64 c, .int .i64 r, .int .i64 l, .int .i64 a]) (by simp [results, Try.results15, go_sem]) rfl ⟨rfl, by (repeat (first | (with_reducible exact Ext.refl _) | (with_reducible assumption) | (with_reducible refine Ext.alloc ?_ _) | (with_reducible refine Ext.drew ?_) | ((with_reducible apply Ext.setCell); (case hp => first | omega | (simp; done) | (simp; omega))) | (with_reducible refine Ext.trans ?_ (by assumption))))⟩

theorem fnExactBucketOk_any (c r l a : Int) (w : World) :
    Calls Try.prog 3 #[.agg #[.int .i64 c, .int .i64 r, .int .i64 l, .int .i64 a]] w fun e w' => e = .returned (.bool true) ∧ Ext w w' := by
  go_enter Try.func3, Try.ntmps3
  go_wp2_with (first | (go_at_call 15; refine (toBucket_any _ _ _ _ _).mono ?_; rintro e w1 ⟨rfl, hb⟩; (obtain ⟨B0, c0, f0, l0⟩ := Box.after (k := w.heap.size) hb (by (repeat (first | (with_reducible assumption) | ((with_reducible apply Box.new); (first | (with_reducible rfl) | (simp; done) | (simp; omega))) | (with_reducible apply Box.alloc) | (with_reducible apply Box.drew) | (with_reducible apply Box.set) | ((with_reducible apply Box.set_ne); (case hne => first | omega | (simp; done) | (simp; omega)))))))) | (go_at_call 16; refine (bucketOk_any _ _ _ _ _).mono ?_; rintro e w1 ⟨rfl, hb⟩; (obtain ⟨B0, c0, f0, l0⟩ := Box.after (k := w.heap.size) hb (by (repeat (first | (with_reducible assumption) | ((with_reducible apply Box.new); (first | (with_reducible rfl) | (simp; done) | (simp; omega))) | (with_reducible apply Box.alloc) | (with_reducible apply Box.drew) | (with_reducible apply Box.set) | ((with_reducible apply Box.set_ne); (case hne => first | omega | (simp; done) | (simp; omega)))))))) | (go_at_call 14; refine (sBucketOk_any _ _ _ _ _).mono ?_; rintro e w1 ⟨rfl, hb⟩; (obtain ⟨B0, c0, f0, l0⟩ := Box.after (k := w.heap.size) hb (by (repeat (first | (with_reducible assumption) | ((with_reducible apply Box.new); (first | (with_reducible rfl) | (simp; done) | (simp; omega))) | (with_reducible apply Box.alloc) | (with_reducible apply Box.drew) | (with_reducible apply Box.set) | ((with_reducible apply Box.set_ne); (case hne => first | omega | (simp; done) | (simp; omega)))))))))
  go_ret
  exact ⟨rfl, by (repeat (first | (with_reducible exact Ext.refl _) | (with_reducible assumption) | (with_reducible refine Ext.alloc ?_ _) | (with_reducible refine Ext.drew ?_) | ((with_reducible apply Ext.setCell); (case hp => first | omega | (simp; done) | (simp; omega))) | (with_reducible refine Ext.trans ?_ (by assumption))))⟩

theorem bucket_read {W : World} {n : Nat} {cs : Array Value} (h : All2 (CellN W n) [.int .i64, .int .i64, .int .i64, .int .i64] cs.toList) : ∃ c r l a : Int, cs = #[.int .i64 c, .int .i64 r, .int .i64 l, .int .i64 a] ∧ (Lit.int .i64 c).wf = true ∧ (Lit.int .i64 r).wf = true ∧ (Lit.int .i64 l).wf = true ∧ (Lit.int .i64 a).wf = true := by
  obtain ⟨s⟩ := cs
  match s, h with
  | [_, _, _, _], ⟨k1, k2, k3, k4, _⟩ =>
    obtain ⟨c, rfl, h1⟩ := cell_int k1
    obtain ⟨r, rfl, h2⟩ := cell_int k2
    obtain ⟨l, rfl, h3⟩ := cell_int k3
    obtain ⟨a, rfl, h4⟩ := cell_int k4
    exact ⟨c, r, l, a, rfl, h1, h2, h3, h4⟩

theorem fnExactBucketOk_args {H : Type} {enc : TypeId × Value → H} (W : World) (base : Nat) (args : Array Value) (ds : List (DataW H)) (p : List MemPlace)
    (hval : ∀ (j : Nat) t v, #[23][j]? = some t → args[j]? = some v → Value.okWide Try.prog W .any base t v)
    (hA : DataW.TrodAll enc Try.prog W 0 (fun _ => true) true #[23].toList args.toList ds p) :
    Calls Try.prog 3 args W fun e W' => e = .returned (.bool true) ∧ Ext W W' := by
  obtain ⟨v0, d0, rfl, rfl, h0⟩ := trodAll_one hA
  obtain ⟨cs, rfl, hc⟩ := read_struct Try.underlying23 (n := 3) (ss := [.int .i64, .int .i64, .int .i64, .int .i64]) (by kernel_rfl) (hval 0 _ _ rfl rfl) h0
  obtain ⟨c, r, l, a, rfl, _⟩ := bucket_read hc
  exact fnExactBucketOk_any c r l a W


theorem fnExactBucketSee_any (c r l a n : Int) (w : World) :
    Calls Try.prog 4 #[.agg #[.int .i64 c, .int .i64 r, .int .i64 l, .int .i64 a], .int .i64 n] w fun e w' => e = .returned (.bool true) ∧ Ext w w' := by
  go_enter Try.func4, Try.ntmps4
  go_wp2_with (first | (go_at_call 15; refine (toBucket_any _ _ _ _ _).mono ?_; rintro e w1 ⟨rfl, hb⟩; (obtain ⟨B0, c0, f0, l0⟩ := Box.after (k := w.heap.size) hb (by (repeat (first | (with_reducible assumption) | ((with_reducible apply Box.new); (first | (with_reducible rfl) | (simp; done) | (simp; omega))) | (with_reducible apply Box.alloc) | (with_reducible apply Box.drew) | (with_reducible apply Box.set) | ((with_reducible apply Box.set_ne); (case hne => first | omega | (simp; done) | (simp; omega)))))))) | (go_at_call 18; refine (bucketSee_any _ _ _ _ _ _).mono ?_; rintro e w1 ⟨rfl, hb⟩; (obtain ⟨B0, c0, f0, l0⟩ := Box.after (k := w.heap.size) hb (by (repeat (first | (with_reducible assumption) | ((with_reducible apply Box.new); (first | (with_reducible rfl) | (simp; done) | (simp; omega))) | (with_reducible apply Box.alloc) | (with_reducible apply Box.drew) | (with_reducible apply Box.set) | ((with_reducible apply Box.set_ne); (case hne => first | omega | (simp; done) | (simp; omega)))))))) | (go_at_call 17; refine (sBucketSee_any _ _ _ _ _ _).mono ?_; rintro e w1 ⟨rfl, hb⟩; (obtain ⟨B0, c0, f0, l0⟩ := Box.after (k := w.heap.size) hb (by (repeat (first | (with_reducible assumption) | ((with_reducible apply Box.new); (first | (with_reducible rfl) | (simp; done) | (simp; omega))) | (with_reducible apply Box.alloc) | (with_reducible apply Box.drew) | (with_reducible apply Box.set) | ((with_reducible apply Box.set_ne); (case hne => first | omega | (simp; done) | (simp; omega)))))))))
  go_ret
  exact ⟨rfl, by (repeat (first | (with_reducible exact Ext.refl _) | (with_reducible assumption) | (with_reducible refine Ext.alloc ?_ _) | (with_reducible refine Ext.drew ?_) | ((with_reducible apply Ext.setCell); (case hp => first | omega | (simp; done) | (simp; omega))) | (with_reducible refine Ext.trans ?_ (by assumption))))⟩

theorem fnExactBucketSee_args {H : Type} {enc : TypeId × Value → H} (W : World) (base : Nat) (args : Array Value) (ds : List (DataW H)) (p : List MemPlace)
    (hval : ∀ (j : Nat) t v, #[23, 3][j]? = some t → args[j]? = some v → Value.okWide Try.prog W .any base t v)
    (hA : DataW.TrodAll enc Try.prog W 0 (fun _ => true) true #[23, 3].toList args.toList ds p) :
    Calls Try.prog 4 args W fun e W' => e = .returned (.bool true) ∧ Ext W W' := by
  obtain ⟨v0, v1, d0, d1, p0, p1, rfl, rfl, rfl, h0, h1⟩ := trodAll_two hA
  obtain ⟨cs, rfl, hc⟩ := read_struct Try.underlying23 (n := 3) (ss := [.int .i64, .int .i64, .int .i64, .int .i64]) (by kernel_rfl) (hval 0 _ _ rfl rfl) h0
  obtain ⟨c, r, l, a, rfl, _⟩ := bucket_read hc
  obtain ⟨n, rfl, _⟩ := read_int Try.underlying3 (hval 1 _ _ rfl rfl) h1
  exact fnExactBucketSee_any c r l a n W


theorem eqBucket_any (c r l a : Int) (w : World) :
    Calls Try.prog 31 #[.agg #[.int .i64 c, .int .i64 r, .int .i64 l, .int .i64 a], .agg #[.int .i64 c, .int .i64 r, .int .i64 l, .int .i64 a]] w fun e w' => e = .returned (.bool true) ∧ Ext w w' := by
  go_enter Try.func31, Try.ntmps31
  go_wp2
  go_ret
  exact ⟨rfl, by (repeat (first | (with_reducible exact Ext.refl _) | (with_reducible assumption) | (with_reducible refine Ext.alloc ?_ _) | (with_reducible refine Ext.drew ?_) | ((with_reducible apply Ext.setCell); (case hp => first | omega | (simp; done) | (simp; omega))) | (with_reducible refine Ext.trans ?_ (by assumption))))⟩

set_option maxHeartbeats 1000000 in
theorem fnExactBucketTake_any (c r l a n m : Int) (w : World) :
    Calls Try.prog 8 #[.agg #[.int .i64 c, .int .i64 r, .int .i64 l, .int .i64 a], .int .i64 n, .int .i64 m] w fun e w' => e = .returned (.bool true) ∧ Ext w w' := by
  go_enter Try.func8, Try.ntmps8
  go_wp2_with fail
  (refine (toBucket_any _ _ _ _ _).mono ?_); rintro e w1 ⟨rfl, hb⟩; (obtain ⟨B0, c0, f0, l0⟩ := Box.after (k := w.heap.size) hb (by (repeat (first | (with_reducible assumption) | ((with_reducible apply Box.new); (first | (with_reducible rfl) | (simp; done) | (simp; omega))) | (with_reducible apply Box.alloc) | (with_reducible apply Box.drew) | (with_reducible apply Box.set) | ((with_reducible apply Box.set_ne); (case hne => first | omega | (simp; done) | (simp; omega)))))))
  go_wp2_with fail
  (refine (sBucketTake_any _ _ _ _ _ _ _).mono ?_); unfold BkV; rintro e w2 ⟨rfl, hb⟩; (obtain ⟨B0, c0, f0, l0⟩ := Box.after (k := w.heap.size) hb (by (repeat (first | (with_reducible assumption) | ((with_reducible apply Box.new); (first | (with_reducible rfl) | (simp; done) | (simp; omega))) | (with_reducible apply Box.alloc) | (with_reducible apply Box.drew) | (with_reducible apply Box.set) | ((with_reducible apply Box.set_ne); (case hne => first | omega | (simp; done) | (simp; omega)))))))
  go_wp2_with fail
  (refine (toBucket_any _ _ _ _ _).mono ?_); rintro e w3 ⟨rfl, hb⟩; (obtain ⟨B0, c0, f0, l0⟩ := Box.after (k := w.heap.size) hb (by (repeat (first | (with_reducible assumption) | ((with_reducible apply Box.new); (first | (with_reducible rfl) | (simp; done) | (simp; omega))) | (with_reducible apply Box.alloc) | (with_reducible apply Box.drew) | (with_reducible apply Box.set) | ((with_reducible apply Box.set_ne); (case hne => first | omega | (simp; done) | (simp; omega))))))); (obtain ⟨B1, c1, f1, l1⟩ := Box.after (k := w2.heap.size) hb (by (repeat (first | (with_reducible assumption) | ((with_reducible apply Box.new); (first | (with_reducible rfl) | (simp; done) | (simp; omega))) | (with_reducible apply Box.alloc) | (with_reducible apply Box.drew) | (with_reducible apply Box.set) | ((with_reducible apply Box.set_ne); (case hne => first | omega | (simp; done) | (simp; omega)))))))
  go_wp2_with fail
  (refine (bucketTake_any _ _ _ _ _ _ _).mono ?_); unfold BkV; rintro e w4 ⟨rfl, hb⟩; (obtain ⟨B0, c0, f0, l0⟩ := Box.after (k := w.heap.size) hb (by (repeat (first | (with_reducible assumption) | ((with_reducible apply Box.new); (first | (with_reducible rfl) | (simp; done) | (simp; omega))) | (with_reducible apply Box.alloc) | (with_reducible apply Box.drew) | (with_reducible apply Box.set) | ((with_reducible apply Box.set_ne); (case hne => first | omega | (simp; done) | (simp; omega))))))); (obtain ⟨B1, c1, f1, l1⟩ := Box.after (k := w2.heap.size) hb (by (repeat (first | (with_reducible assumption) | ((with_reducible apply Box.new); (first | (with_reducible rfl) | (simp; done) | (simp; omega))) | (with_reducible apply Box.alloc) | (with_reducible apply Box.drew) | (with_reducible apply Box.set) | ((with_reducible apply Box.set_ne); (case hne => first | omega | (simp; done) | (simp; omega)))))))
  go_wp2_with fail
  (refine (eqBucket_any _ _ _ _ _).mono ?_); rintro e w5 ⟨rfl, hb⟩; (obtain ⟨B0, c0, f0, l0⟩ := Box.after (k := w.heap.size) hb (by (repeat (first | (with_reducible assumption) | ((with_reducible apply Box.new); (first | (with_reducible rfl) | (simp; done) | (simp; omega))) | (with_reducible apply Box.alloc) | (with_reducible apply Box.drew) | (with_reducible apply Box.set) | ((with_reducible apply Box.set_ne); (case hne => first | omega | (simp; done) | (simp; omega))))))); (obtain ⟨B1, c1, f1, l1⟩ := Box.after (k := w2.heap.size) hb (by (repeat (first | (with_reducible assumption) | ((with_reducible apply Box.new); (first | (with_reducible rfl) | (simp; done) | (simp; omega))) | (with_reducible apply Box.alloc) | (with_reducible apply Box.drew) | (with_reducible apply Box.set) | ((with_reducible apply Box.set_ne); (case hne => first | omega | (simp; done) | (simp; omega)))))))
  go_wp2
  go_ret
  exact ⟨rfl, by (repeat (first | (with_reducible exact Ext.refl _) | (with_reducible assumption) | (with_reducible refine Ext.alloc ?_ _) | (with_reducible refine Ext.drew ?_) | ((with_reducible apply Ext.setCell); (case hp => first | omega | (simp; done) | (simp; omega))) | (with_reducible refine Ext.trans ?_ (by assumption))))⟩

theorem fnExactBucketTake_args {H : Type} {enc : TypeId × Value → H} (W : World) (base : Nat) (args : Array Value) (ds : List (DataW H)) (p : List MemPlace)
    (hval : ∀ (j : Nat) t v, #[23, 3, 3][j]? = some t → args[j]? = some v → Value.okWide Try.prog W .any base t v)
    (hA : DataW.TrodAll enc Try.prog W 0 (fun _ => true) true #[23, 3, 3].toList args.toList ds p) :
    Calls Try.prog 8 args W fun e W' => e = .returned (.bool true) ∧ Ext W W' := by
  obtain ⟨v0, v1, v2, d0, d1, d2, p0, p1, p2, rfl, rfl, rfl, h0, h1, h2⟩ := trodAll_three hA
  obtain ⟨cs, rfl, hc⟩ := read_struct Try.underlying23 (n := 3) (ss := [.int .i64, .int .i64, .int .i64, .int .i64]) (by kernel_rfl) (hval 0 _ _ rfl rfl) h0
  obtain ⟨c, r, l, a, rfl, _⟩ := bucket_read hc
  obtain ⟨n, rfl, _⟩ := read_int Try.underlying3 (hval 1 _ _ rfl rfl) h1
  obtain ⟨m, rfl, _⟩ := read_int Try.underlying3 (hval 2 _ _ rfl rfl) h2
  exact fnExactBucketTake_any c r l a n m W

end Go.Proofs.Ythnmiimckgphnaa

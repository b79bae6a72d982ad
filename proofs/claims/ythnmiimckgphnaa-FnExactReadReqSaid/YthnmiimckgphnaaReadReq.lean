/- ReadReq: both walks. -/
import Derived.Test.YthnmiimckgphnaaVars
import Derived.Test.YthnmiimckgphnaaScan
import Derived.Test.YthnmiimckgphnaaReq
namespace Go.Proofs.Ythnmiimckgphnaa
open Go.RowKit

/-- What ReadReq answers: three numbers, and whether they stood there. -/
def readReq (s : ByteArray) : (Int × Int × Int) × Bool :=
  match varsM s.data.toList 3 0 with
  | some ([a, b, c], _) => if showReq a b c = s then ((a, b, c), true) else ((0, 0, 0), false)
  | _ => ((0, 0, 0), false)
def ReqV (t : (Int × Int × Int) × Bool) : Value := .tuple #[.agg #[.int .i64 t.1.1, .int .i64 t.1.2.1, .int .i64 t.1.2.2], .bool t.2]
theorem vars_len {l : List UInt8} : ∀ {n a : Nat} {xs : List Nat} {e : Nat}, varsM l n a = some (xs, e) → xs.length = n
  | 0, a, xs, e, h => by simp [varsM] at h; obtain ⟨rfl, rfl⟩ := h; rfl
  | n + 1, a, xs, e, h => by
    by_cases hk : (readVar (l.drop a)).2 = 0
    · rw [vars_none hk] at h; cases h
    · rw [vars_some hk] at h
      obtain ⟨⟨ys, e'⟩, h1, h2⟩ := Option.map_eq_some_iff.1 h
      simp only [Prod.mk.injEq] at h2
      obtain ⟨rfl, rfl⟩ := h2
      simp [vars_len h1]
theorem three {xs : List Nat} (h : xs.length = 3) : ∃ a b c, xs = [a, b, c] := by
  match xs, h with
  | [a, b, c], _ => exact ⟨a, b, c, rfl⟩
theorem bytes_eq (a b : ByteArray) : (a.toList == b.toList) = decide (a = b) := by
  rw [ByteArray.toList_eq, ByteArray.toList_eq, Bool.eq_iff_iff]
  simp only [beq_iff_eq, decide_eq_true_eq]
  constructor
  · intro h
    obtain ⟨⟨x⟩⟩ := a
    obtain ⟨⟨y⟩⟩ := b
    simp at h
    rw [h]
  · rintro rfl; rfl

set_option maxRecDepth 100000 in
set_option maxHeartbeats 4000000 in
theorem sReadReq_any (s : ByteArray) (w : World) (hs : s.size ≤ maxLen) :
    Calls Try.prog 41 #[.string s] w fun e w' => e = .returned (ReqV (readReq s)) ∧ Ext w w' := by
  cases hv : varsM s.data.toList 3 0 with
  | none =>
    have HR : Hid (readReq s = ((0, 0, 0), false)) := by unfold Hid readReq; rw [hv]
    have HV := Lib.hid hv
    clear hv
    go_enter Try.func41, Try.ntmps41
    go_wp2_with fail
    (refine (l6Vars_any s 0 3 _ hs (by omega) (by omega)).mono ?_); rintro e w1 hP
    rw [HV.out] at hP
    obtain ⟨v, hb, rfl⟩ := hP
    (obtain ⟨B0, c0, f0, l0⟩ := Box.after (k := w.heap.size) hb (by (repeat (first | (with_reducible assumption) | ((with_reducible apply Box.new); (first | (with_reducible rfl) | (simp; done) | (simp; omega))) | (with_reducible apply Box.alloc) | (with_reducible apply Box.drew) | (with_reducible apply Box.drewN) | (with_reducible apply Box.set) | ((with_reducible apply Box.set_ne); (case hne => first | omega | (simp; done) | (simp; omega)))))))
    go_wp2
    exact bodyPost_ret (v := ReqV ((0, 0, 0), false)) (by simp [ReqV, results, Try.results41, go_sem, c0]) rfl ⟨by rw [HR.out], by (repeat (first | (with_reducible exact Ext.refl _) | (with_reducible assumption) | (with_reducible refine Ext.alloc ?_ _) | (with_reducible refine Ext.drew ?_) | (with_reducible refine Ext.drewN ?_ _) | ((with_reducible apply Ext.setCell); (case hp => first | omega | (simp; done) | (simp; omega))) | (with_reducible refine Ext.trans ?_ (by assumption))))⟩
  | some r =>
    obtain ⟨xs, e⟩ := r
    obtain ⟨a, b, c, rfl⟩ := three (vars_len hv)
    have HV := Lib.hid hv
    by_cases heq : showReq a b c = s
    · have hq : ((showReq a b c).toList == s.toList) = true := by rw [bytes_eq]; simpa using heq
      have HR : Hid (readReq s = (((a : Int), (b : Int), (c : Int)), true)) := by unfold Hid readReq; rw [hv]; simp only [heq, if_true]
      clear hv heq
      go_enter Try.func41, Try.ntmps41
      go_wp2_with fail
      (refine (l6Vars_any s 0 3 _ hs (by omega) (by omega)).mono ?_); rintro e w1 hP
      rw [HV.out] at hP
      obtain ⟨v, hb, rfl, hO⟩ := hP
      rcases own_value hO with ⟨_, hlen, _⟩ | ⟨g, cap, rfl⟩
      · simp at hlen
      · have k0 := hO.cellAt 0 (by simp)
        have k1 := hO.cellAt 1 (by simp)
        have k2 := hO.cellAt 2 (by simp)
        have hge := (hO.lt g rfl).1
        simp [encN] at k0 k1 k2
        (obtain ⟨B0, c0, f0, l0⟩ := Box.after (k := w.heap.size) hb (by (repeat (first | (with_reducible assumption) | ((with_reducible apply Box.new); (first | (with_reducible rfl) | (simp; done) | (simp; omega))) | (with_reducible apply Box.alloc) | (with_reducible apply Box.drew) | (with_reducible apply Box.drewN) | (with_reducible apply Box.set) | ((with_reducible apply Box.set_ne); (case hne => first | omega | (simp; done) | (simp; omega)))))))
        have HO := Lib.hid hO
        clear hO
        go_wp2
        go_region_held3 (fun w' => w'.cell? ⟨g, 0, none⟩ = some (.int .i64 a) ∧ w'.cell? ⟨g, 1, none⟩ = some (.int .i64 b) ∧ w'.cell? ⟨g, 2, none⟩ = some (.int .i64 c)) ((first | go_keep | ((try dsimp only); (try go_split_ands); (repeat' apply And.intro) <;> exact hb.cellSome (by assumption))))
          (fail)
        go_wp2_with fail
        (refine (sShowReq_any _ _ _ _).mono ?_); rintro e w2 ⟨rfl, hb⟩; (obtain ⟨B0, c0, f0, l0⟩ := Box.after (k := w.heap.size) hb (by (repeat (first | (with_reducible assumption) | ((with_reducible apply Box.new); (first | (with_reducible rfl) | (simp; done) | (simp; omega))) | (with_reducible apply Box.alloc) | (with_reducible apply Box.drew) | (with_reducible apply Box.drewN) | (with_reducible apply Box.set) | ((with_reducible apply Box.set_ne); (case hne => first | omega | (simp; done) | (simp; omega))))))); (obtain ⟨B1, c1, f1, l1⟩ := Box.after (k := w1.heap.size) hb (by (repeat (first | (with_reducible assumption) | ((with_reducible apply Box.new); (first | (with_reducible rfl) | (simp; done) | (simp; omega))) | (with_reducible apply Box.alloc) | (with_reducible apply Box.drew) | (with_reducible apply Box.drewN) | (with_reducible apply Box.set) | ((with_reducible apply Box.set_ne); (case hne => first | omega | (simp; done) | (simp; omega)))))))
        go_wp2
        exact bodyPost_ret (v := ReqV ((a, b, c), true)) (by simp [ReqV, results, Try.results41, go_sem, c0]) rfl ⟨by rw [HR.out], by (repeat (first | (with_reducible exact Ext.refl _) | (with_reducible assumption) | (with_reducible refine Ext.alloc ?_ _) | (with_reducible refine Ext.drew ?_) | (with_reducible refine Ext.drewN ?_ _) | ((with_reducible apply Ext.setCell); (case hp => first | omega | (simp; done) | (simp; omega))) | (with_reducible refine Ext.trans ?_ (by assumption))))⟩
    · have hq : ((showReq a b c).toList == s.toList) = false := by rw [bytes_eq]; simpa using heq
      have HR : Hid (readReq s = ((0, 0, 0), false)) := by unfold Hid readReq; rw [hv]; simp only [heq, if_false]
      clear hv heq
      go_enter Try.func41, Try.ntmps41
      go_wp2_with fail
      (refine (l6Vars_any s 0 3 _ hs (by omega) (by omega)).mono ?_); rintro e w1 hP
      rw [HV.out] at hP
      obtain ⟨v, hb, rfl, hO⟩ := hP
      rcases own_value hO with ⟨_, hlen, _⟩ | ⟨g, cap, rfl⟩
      · simp at hlen
      · have k0 := hO.cellAt 0 (by simp)
        have k1 := hO.cellAt 1 (by simp)
        have k2 := hO.cellAt 2 (by simp)
        have hge := (hO.lt g rfl).1
        simp [encN] at k0 k1 k2
        (obtain ⟨B0, c0, f0, l0⟩ := Box.after (k := w.heap.size) hb (by (repeat (first | (with_reducible assumption) | ((with_reducible apply Box.new); (first | (with_reducible rfl) | (simp; done) | (simp; omega))) | (with_reducible apply Box.alloc) | (with_reducible apply Box.drew) | (with_reducible apply Box.drewN) | (with_reducible apply Box.set) | ((with_reducible apply Box.set_ne); (case hne => first | omega | (simp; done) | (simp; omega)))))))
        have HO := Lib.hid hO
        clear hO
        go_wp2
        go_region_held3 (fun w' => w'.cell? ⟨g, 0, none⟩ = some (.int .i64 a) ∧ w'.cell? ⟨g, 1, none⟩ = some (.int .i64 b) ∧ w'.cell? ⟨g, 2, none⟩ = some (.int .i64 c)) ((first | go_keep | ((try dsimp only); (try go_split_ands); (repeat' apply And.intro) <;> exact hb.cellSome (by assumption))))
          (fail)
        go_wp2_with fail
        (refine (sShowReq_any _ _ _ _).mono ?_); rintro e w2 ⟨rfl, hb⟩; (obtain ⟨B0, c0, f0, l0⟩ := Box.after (k := w.heap.size) hb (by (repeat (first | (with_reducible assumption) | ((with_reducible apply Box.new); (first | (with_reducible rfl) | (simp; done) | (simp; omega))) | (with_reducible apply Box.alloc) | (with_reducible apply Box.drew) | (with_reducible apply Box.drewN) | (with_reducible apply Box.set) | ((with_reducible apply Box.set_ne); (case hne => first | omega | (simp; done) | (simp; omega))))))); (obtain ⟨B1, c1, f1, l1⟩ := Box.after (k := w1.heap.size) hb (by (repeat (first | (with_reducible assumption) | ((with_reducible apply Box.new); (first | (with_reducible rfl) | (simp; done) | (simp; omega))) | (with_reducible apply Box.alloc) | (with_reducible apply Box.drew) | (with_reducible apply Box.drewN) | (with_reducible apply Box.set) | ((with_reducible apply Box.set_ne); (case hne => first | omega | (simp; done) | (simp; omega)))))))
        go_wp2
        exact bodyPost_ret (v := ReqV ((0, 0, 0), false)) (by simp [ReqV, results, Try.results41, go_sem, c0]) rfl ⟨by rw [HR.out], by (repeat (first | (with_reducible exact Ext.refl _) | (with_reducible assumption) | (with_reducible refine Ext.alloc ?_ _) | (with_reducible refine Ext.drew ?_) | (with_reducible refine Ext.drewN ?_ _) | ((with_reducible apply Ext.setCell); (case hp => first | omega | (simp; done) | (simp; omega))) | (with_reducible refine Ext.trans ?_ (by assumption))))⟩
theorem scan_true (s : ByteArray) : scanNum s true = (0, s, true) := scan_bad (.inl rfl)
theorem scan_three (s : ByteArray) :
    ((scanNum (scanNum (scanNum s false).2.1 (scanNum s false).2.2).2.1 (scanNum (scanNum s false).2.1 (scanNum s false).2.2).2.2).2.2 = true ∧ varsM s.data.toList 3 0 = none) ∨
    ∃ a b c e : Nat, (scanNum s false).1 = a ∧ (scanNum (scanNum s false).2.1 (scanNum s false).2.2).1 = b ∧
      (scanNum (scanNum (scanNum s false).2.1 (scanNum s false).2.2).2.1 (scanNum (scanNum s false).2.1 (scanNum s false).2.2).2.2).1 = c ∧
      (scanNum (scanNum (scanNum s false).2.1 (scanNum s false).2.2).2.1 (scanNum (scanNum s false).2.1 (scanNum s false).2.2).2.2).2.2 = false ∧
      varsM s.data.toList 3 0 = some ([a, b, c], e) ∧ s.size ≠ 0 := by
  by_cases h1 : (readVar s.data.toList).2 = 0
  · left
    rw [scan_bad (.inr h1)]
    simp only [scan_true]
    exact ⟨trivial, vars_none h1⟩
  · have hsz : s.size ≠ 0 := by
      have := (readVar_bd s.data.toList).2.2
      rw [bytes_len] at this
      omega
    have e1 := scan_ok (s := s) rfl h1
    have v1 := vars_some (l := s.data.toList) (n := 2) (a := 0) h1
    have d1 := bytes_drop s (readVar s.data.toList).2
    rw [e1]
    simp only [List.drop_zero, Nat.zero_add] at v1
    generalize (readVar s.data.toList).2 = k1 at *
    by_cases h2 : (readVar (s.data.toList.drop k1)).2 = 0
    · left
      rw [scan_bad (s := s.extract k1 s.size) (.inr (by rw [d1]; exact h2))]
      simp only [scan_true]
      exact ⟨trivial, by rw [v1, vars_none h2]; rfl⟩
    · have e2 := scan_ok (s := s.extract k1 s.size) rfl (by rw [d1]; exact h2)
      have v2 := vars_some (l := s.data.toList) (n := 1) (a := k1) h2
      rw [d1] at e2
      have d2 := bytes_drop (s.extract k1 s.size) (readVar (s.data.toList.drop k1)).2
      rw [d1, List.drop_drop] at d2
      simp only [e2]
      generalize (readVar (s.data.toList.drop k1)).2 = k2 at *
      by_cases h3 : (readVar (s.data.toList.drop (k1 + k2))).2 = 0
      · left
        rw [scan_bad (.inr (by rw [d2]; exact h3))]
        exact ⟨rfl, by rw [v1, v2, vars_none h3]; rfl⟩
      · right
        have e3 := scan_ok (s := (s.extract k1 s.size).extract k2 (s.extract k1 s.size).size) rfl (by rw [d2]; exact h3)
        rw [d2] at e3
        rw [e3]
        exact ⟨_, _, _, _, rfl, rfl, rfl, rfl, by rw [v1, v2, vars_some h3]; rfl, hsz⟩

set_option maxRecDepth 100000 in
set_option maxHeartbeats 4000000 in
theorem readReq_any (s : ByteArray) (w : World) (hs : s.size ≤ maxLen) :
    Calls Try.prog 42 #[.string s] w fun e w' => e = .returned (ReqV (readReq s)) ∧ Ext w w' := by
  have h3 := scan_three s
  have z1 := scan_size (s := s) (bad := false)
  have z2 := scan_size (s := (scanNum s false).2.1) (bad := (scanNum s false).2.2)
  generalize e1 : scanNum s false = t1 at *
  obtain ⟨n1, s1, b1⟩ := t1
  simp only at h3 z1 z2
  generalize e2 : scanNum s1 b1 = t2 at *
  obtain ⟨n2, s2, b2⟩ := t2
  simp only at h3 z2
  generalize e3 : scanNum s2 b2 = t3 at *
  obtain ⟨n3, s3, b3⟩ := t3
  simp only at h3
  have E1 := Lib.hid e1; have E2 := Lib.hid e2; have E3 := Lib.hid e3
  have H3 := Lib.hid h3
  have hs1 : s1.size ≤ maxLen := by omega
  have hs2 : s2.size ≤ maxLen := by omega
  clear e1 e2 e3 h3 z1 z2
  go_enter Try.func42, Try.ntmps42
  go_wp2_with fail
  (refine (num_any s false (w.heap.size + 1) _ hs (by (repeat (first | (with_reducible assumption) | ((with_reducible apply Box.new); (first | (with_reducible rfl) | (simp; done) | (simp; omega))) | (with_reducible apply Box.alloc) | (with_reducible apply Box.drew) | (with_reducible apply Box.drewN) | (with_reducible apply Box.set) | ((with_reducible apply Box.set_ne); (case hne => first | omega | (simp; done) | (simp; omega))))))).mono ?_); rw [E1.out]; rintro e w1 ⟨rfl, hg, hB⟩; (obtain ⟨B0, c0, f0, l0⟩ := Box.afterG (k := w.heap.size) hg (by (repeat (first | (with_reducible assumption) | ((with_reducible apply Box.new); (first | (with_reducible rfl) | (simp; done) | (simp; omega))) | (with_reducible apply Box.alloc) | (with_reducible apply Box.drew) | (with_reducible apply Box.drewN) | (with_reducible apply Box.set) | ((with_reducible apply Box.set_ne); (case hne => first | omega | (simp; done) | (simp; omega)))))) (by omega))
  have hE1 : Ext w w1 := Ext.of_grown (by (repeat (first | (with_reducible exact Ext.refl _) | (with_reducible assumption) | (with_reducible refine Ext.alloc ?_ _) | (with_reducible refine Ext.drew ?_) | (with_reducible refine Ext.drewN ?_ _) | ((with_reducible apply Ext.setCell); (case hp => first | omega | (simp; done) | (simp; omega))) | (with_reducible refine Ext.trans ?_ (by assumption))))) hg (fun b hb => by simp at hb; omega)
  clear hg
  obtain ⟨c1, f1, l1⟩ := hB.rules
  go_wp2_with fail
  (refine (num_any s1 b1 (w.heap.size + 1) _ hs1 (by (repeat (first | (with_reducible assumption) | ((with_reducible apply Box.new); (first | (with_reducible rfl) | (simp; done) | (simp; omega))) | (with_reducible apply Box.alloc) | (with_reducible apply Box.drew) | (with_reducible apply Box.drewN) | (with_reducible apply Box.set) | ((with_reducible apply Box.set_ne); (case hne => first | omega | (simp; done) | (simp; omega))))))).mono ?_); rw [E2.out]; rintro e w2 ⟨rfl, hg, hB⟩; (obtain ⟨B0, c0, f0, l0⟩ := Box.afterG (k := w.heap.size) hg (by (repeat (first | (with_reducible assumption) | ((with_reducible apply Box.new); (first | (with_reducible rfl) | (simp; done) | (simp; omega))) | (with_reducible apply Box.alloc) | (with_reducible apply Box.drew) | (with_reducible apply Box.drewN) | (with_reducible apply Box.set) | ((with_reducible apply Box.set_ne); (case hne => first | omega | (simp; done) | (simp; omega)))))) (by omega)); (obtain ⟨B2, c2, f2, l2⟩ := Box.afterG (k := w1.heap.size) hg (by (repeat (first | (with_reducible assumption) | ((with_reducible apply Box.new); (first | (with_reducible rfl) | (simp; done) | (simp; omega))) | (with_reducible apply Box.alloc) | (with_reducible apply Box.drew) | (with_reducible apply Box.drewN) | (with_reducible apply Box.set) | ((with_reducible apply Box.set_ne); (case hne => first | omega | (simp; done) | (simp; omega)))))) (by omega))
  have hE2 : Ext w w2 := Ext.of_grown (by (repeat (first | (with_reducible exact Ext.refl _) | (with_reducible assumption) | (with_reducible refine Ext.alloc ?_ _) | (with_reducible refine Ext.drew ?_) | (with_reducible refine Ext.drewN ?_ _) | ((with_reducible apply Ext.setCell); (case hp => first | omega | (simp; done) | (simp; omega))) | (with_reducible refine Ext.trans ?_ (by assumption))))) hg (fun b hb => by simp at hb; omega)
  clear hg
  obtain ⟨c1, f1, l1⟩ := hB.rules
  go_wp2_with fail
  (refine (num_any s2 b2 (w.heap.size + 1) _ hs2 (by (repeat (first | (with_reducible assumption) | ((with_reducible apply Box.new); (first | (with_reducible rfl) | (simp; done) | (simp; omega))) | (with_reducible apply Box.alloc) | (with_reducible apply Box.drew) | (with_reducible apply Box.drewN) | (with_reducible apply Box.set) | ((with_reducible apply Box.set_ne); (case hne => first | omega | (simp; done) | (simp; omega))))))).mono ?_); rw [E3.out]; rintro e w3 ⟨rfl, hg, hB⟩; (obtain ⟨B0, c0, f0, l0⟩ := Box.afterG (k := w.heap.size) hg (by (repeat (first | (with_reducible assumption) | ((with_reducible apply Box.new); (first | (with_reducible rfl) | (simp; done) | (simp; omega))) | (with_reducible apply Box.alloc) | (with_reducible apply Box.drew) | (with_reducible apply Box.drewN) | (with_reducible apply Box.set) | ((with_reducible apply Box.set_ne); (case hne => first | omega | (simp; done) | (simp; omega)))))) (by omega)); (obtain ⟨B2, c2, f2, l2⟩ := Box.afterG (k := w1.heap.size) hg (by (repeat (first | (with_reducible assumption) | ((with_reducible apply Box.new); (first | (with_reducible rfl) | (simp; done) | (simp; omega))) | (with_reducible apply Box.alloc) | (with_reducible apply Box.drew) | (with_reducible apply Box.drewN) | (with_reducible apply Box.set) | ((with_reducible apply Box.set_ne); (case hne => first | omega | (simp; done) | (simp; omega)))))) (by omega))
  have hE3 : Ext w w3 := Ext.of_grown (by (repeat (first | (with_reducible exact Ext.refl _) | (with_reducible assumption) | (with_reducible refine Ext.alloc ?_ _) | (with_reducible refine Ext.drew ?_) | (with_reducible refine Ext.drewN ?_ _) | ((with_reducible apply Ext.setCell); (case hp => first | omega | (simp; done) | (simp; omega))) | (with_reducible refine Ext.trans ?_ (by assumption))))) hg (fun b hb => by simp at hb; omega)
  have B2' : Box w3 w1.heap.size #[.int .i64 n1, .int .i64 n2, .int .i64 0] := by simpa using B2
  clear hg B2 c2 f2 l2
  obtain ⟨c1, f1, l1⟩ := hB.rules
  obtain ⟨c2, f2, l2⟩ := B2'.rules
  clear hE1 hE2
  rcases H3.out with ⟨rfl, hv⟩ | ⟨a, b, c, e, rfl, rfl, rfl, rfl, hv, hne⟩
  · have HR : Hid (readReq s = ((0, 0, 0), false)) := by unfold Hid readReq; rw [hv]
    clear hv
    go_wp2
    exact bodyPost_ret (v := ReqV ((0, 0, 0), false)) (by simp [ReqV, results, Try.results42, go_sem, c0]) rfl ⟨by rw [HR.out], by (repeat (first | (with_reducible exact Ext.refl _) | (with_reducible assumption) | (with_reducible refine Ext.alloc ?_ _) | (with_reducible refine Ext.drew ?_) | (with_reducible refine Ext.drewN ?_ _) | ((with_reducible apply Ext.setCell); (case hp => first | omega | (simp; done) | (simp; omega))) | (with_reducible refine Ext.trans ?_ (by assumption))))⟩
  · have hs0 : s.toList = [] ↔ False := by
      rw [ByteArray.toList_eq]
      constructor
      · intro h
        have := bytes_len s
        rw [h] at this
        exact hne this.symm
      · exact False.elim
    have hs0b : s.toList.isEmpty = false := by
      cases h : s.toList with
      | nil => exact (hs0.1 h).elim
      | cons _ _ => rfl
    have hs0a : ¬ (s.toList = []) := fun h => hs0.1 h
    clear hs0
    by_cases heq : showReq a b c = s
    · have hq : ((showReq a b c).toList == s.toList) = true := by rw [bytes_eq]; simpa using heq
      have HR : Hid (readReq s = (((a : Int), (b : Int), (c : Int)), true)) := by unfold Hid readReq; rw [hv]; simp only [heq, if_true]
      clear hv heq
      go_wp2_with fail
      (refine (showReq_any _ _ _ _).mono ?_); rintro e w4 ⟨rfl, hb⟩; (obtain ⟨B0, c0, f0, l0⟩ := Box.after (k := w.heap.size) hb (by (repeat (first | (with_reducible assumption) | ((with_reducible apply Box.new); (first | (with_reducible rfl) | (simp; done) | (simp; omega))) | (with_reducible apply Box.alloc) | (with_reducible apply Box.drew) | (with_reducible apply Box.drewN) | (with_reducible apply Box.set) | ((with_reducible apply Box.set_ne); (case hne => first | omega | (simp; done) | (simp; omega))))))); (obtain ⟨B2, c2, f2, l2⟩ := Box.after (k := w1.heap.size) hb (by (repeat (first | (with_reducible assumption) | ((with_reducible apply Box.new); (first | (with_reducible rfl) | (simp; done) | (simp; omega))) | (with_reducible apply Box.alloc) | (with_reducible apply Box.drew) | (with_reducible apply Box.drewN) | (with_reducible apply Box.set) | ((with_reducible apply Box.set_ne); (case hne => first | omega | (simp; done) | (simp; omega)))))))
      go_wp2
      exact bodyPost_ret (v := ReqV ((a, b, c), true)) (by simp [ReqV, results, Try.results42, go_sem, c0]) rfl ⟨by rw [HR.out], by (repeat (first | (with_reducible exact Ext.refl _) | (with_reducible assumption) | (with_reducible refine Ext.alloc ?_ _) | (with_reducible refine Ext.drew ?_) | (with_reducible refine Ext.drewN ?_ _) | ((with_reducible apply Ext.setCell); (case hp => first | omega | (simp; done) | (simp; omega))) | (with_reducible refine Ext.trans ?_ (by assumption))))⟩
    · have hq : ((showReq a b c).toList == s.toList) = false := by rw [bytes_eq]; simpa using heq
      have HR : Hid (readReq s = ((0, 0, 0), false)) := by unfold Hid readReq; rw [hv]; simp only [heq, if_false]
      clear hv heq
      go_wp2_with fail
      (refine (showReq_any _ _ _ _).mono ?_); rintro e w4 ⟨rfl, hb⟩; (obtain ⟨B0, c0, f0, l0⟩ := Box.after (k := w.heap.size) hb (by (repeat (first | (with_reducible assumption) | ((with_reducible apply Box.new); (first | (with_reducible rfl) | (simp; done) | (simp; omega))) | (with_reducible apply Box.alloc) | (with_reducible apply Box.drew) | (with_reducible apply Box.drewN) | (with_reducible apply Box.set) | ((with_reducible apply Box.set_ne); (case hne => first | omega | (simp; done) | (simp; omega))))))); (obtain ⟨B2, c2, f2, l2⟩ := Box.after (k := w1.heap.size) hb (by (repeat (first | (with_reducible assumption) | ((with_reducible apply Box.new); (first | (with_reducible rfl) | (simp; done) | (simp; omega))) | (with_reducible apply Box.alloc) | (with_reducible apply Box.drew) | (with_reducible apply Box.drewN) | (with_reducible apply Box.set) | ((with_reducible apply Box.set_ne); (case hne => first | omega | (simp; done) | (simp; omega)))))))
      go_wp2
      exact bodyPost_ret (v := ReqV ((0, 0, 0), false)) (by simp [ReqV, results, Try.results42, go_sem, c0]) rfl ⟨by rw [HR.out], by (repeat (first | (with_reducible exact Ext.refl _) | (with_reducible assumption) | (with_reducible refine Ext.alloc ?_ _) | (with_reducible refine Ext.drew ?_) | (with_reducible refine Ext.drewN ?_ _) | ((with_reducible apply Ext.setCell); (case hp => first | omega | (simp; done) | (simp; omega))) | (with_reducible refine Ext.trans ?_ (by assumption))))⟩

theorem eqReq_any (a b c : Int) (w : World) :
    Calls Try.prog 43 #[.agg #[.int .i64 a, .int .i64 b, .int .i64 c], .agg #[.int .i64 a, .int .i64 b, .int .i64 c]] w fun e w' => e = .returned (.bool true) ∧ Ext w w' := by
  go_enter Try.func43, Try.ntmps43
  go_wp2
  go_ret
  exact ⟨rfl, by (repeat (first | (with_reducible exact Ext.refl _) | (with_reducible assumption) | (with_reducible refine Ext.alloc ?_ _) | (with_reducible refine Ext.drew ?_) | (with_reducible refine Ext.drewN ?_ _) | ((with_reducible apply Ext.setCell); (case hp => first | omega | (simp; done) | (simp; omega))) | (with_reducible refine Ext.trans ?_ (by assumption))))⟩

set_option maxHeartbeats 1000000 in
theorem fnExactReadReq_any (s : ByteArray) (w : World) (hs : s.size ≤ maxLen) :
    Calls Try.prog 11 #[.string s] w fun e w' => e = .returned (.bool true) ∧ Ext w w' := by
  have HS := Lib.hid hs
  clear hs
  generalize hr : readReq s = r
  have HR := Lib.hid hr
  clear hr
  obtain ⟨⟨a, b, c⟩, ok⟩ := r
  by_cases h : (1048576 : Int) < (s.size : Int)
  · go_enter Try.func11, Try.ntmps11
    go_wp2
    go_ret
    exact ⟨rfl, by (repeat (first | (with_reducible exact Ext.refl _) | (with_reducible assumption) | (with_reducible refine Ext.alloc ?_ _) | (with_reducible refine Ext.drew ?_) | (with_reducible refine Ext.drewN ?_ _) | ((with_reducible apply Ext.setCell); (case hp => first | omega | (simp; done) | (simp; omega))) | (with_reducible refine Ext.trans ?_ (by assumption))))⟩
  · go_enter Try.func11, Try.ntmps11
    go_wp2_with fail
    (refine (sReadReq_any s _ HS.out).mono ?_); rw [HR.out]; unfold ReqV; rintro e w1 ⟨rfl, hb⟩
    go_wp2_with fail
    (refine (readReq_any s _ HS.out).mono ?_); rw [HR.out]; unfold ReqV; rintro e w2 ⟨rfl, hb⟩; (obtain ⟨B0, c0, f0, l0⟩ := Box.after (k := w1.heap.size) hb (by (repeat (first | (with_reducible assumption) | ((with_reducible apply Box.new); (first | (with_reducible rfl) | (simp; done) | (simp; omega))) | (with_reducible apply Box.alloc) | (with_reducible apply Box.drew) | (with_reducible apply Box.drewN) | (with_reducible apply Box.set) | ((with_reducible apply Box.set_ne); (case hne => first | omega | (simp; done) | (simp; omega)))))))
    go_wp2_with fail
    (refine (eqReq_any a b c _).mono ?_); rintro e w3 ⟨rfl, hb⟩; (obtain ⟨B0, c0, f0, l0⟩ := Box.after (k := w1.heap.size) hb (by (repeat (first | (with_reducible assumption) | ((with_reducible apply Box.new); (first | (with_reducible rfl) | (simp; done) | (simp; omega))) | (with_reducible apply Box.alloc) | (with_reducible apply Box.drew) | (with_reducible apply Box.drewN) | (with_reducible apply Box.set) | ((with_reducible apply Box.set_ne); (case hne => first | omega | (simp; done) | (simp; omega)))))))
    go_wp2
    go_ret
    exact ⟨rfl, by (repeat (first | (with_reducible exact Ext.refl _) | (with_reducible assumption) | (with_reducible refine Ext.alloc ?_ _) | (with_reducible refine Ext.drew ?_) | (with_reducible refine Ext.drewN ?_ _) | ((with_reducible apply Ext.setCell); (case hp => first | omega | (simp; done) | (simp; omega))) | (with_reducible refine Ext.trans ?_ (by assumption))))⟩
end Go.Proofs.Ythnmiimckgphnaa

/- The pure machine: memory of one's own whose number of blocks is not known beforehand (a row of rows). -/
import Derived.Test.YtcbknmnlgoeniaaK1
namespace Go.Proofs.Ytcbknmnlgoeniaa
set_option linter.unusedSimpArgs false
set_option linter.unusedVariables false
open Go.RowKit

/-- A slice that is nil, in a slot, taken for an empty row of one's own. -/
theorem nil_push {M : Mem} {h : Home} {H : Hp} {w : World} (I : Inv M h H w) (e : TypeId) (sz : Nat) : Step M h H w M (upd h H.length (.slice none 0 0)) (H ++ [some (.row e sz [])]) w :=
  Step.push I (Ext.refl w) (B := .row e sz []) (v := .slice none 0 0) ⟨⟨none, 0, 0, rfl⟩, [], ⟨by simp, .inl ⟨rfl, rfl⟩⟩, by simp, by simp, by simp⟩ fun k hk => by cases hk
theorem PWp.nilT {P : Program} {N : Nat} {c : Code} {Q : Exit → St → Prop} {tm : List PV} {H : Hp} (i : Nat) (e : TypeId) (sz : Nat) (hp : tm[i]? = some (.val (.slice none 0 0))) (h : PWp P N c Q ⟨tm.set i (.own H.length), H ++ [some (.row e sz [])]⟩) : PWp P N c Q ⟨tm, H⟩ := fun E a w hN r => by
  obtain ⟨M, hh, s, t, d⟩ := r
  have st := nil_push s.inv e sz
  refine h E a w hN ⟨M, _, s.trans st, ⟨by simpa using t.size, fun j x u h1 h2 => ?_⟩, d⟩
  by_cases q : i = j
  · subst q
    have hi := (List.getElem?_eq_some_iff.1 hp).1
    rw [List.getElem?_set_self hi] at h1
    cases h1
    have := vr_val (t.vr i _ u hp h2)
    subst this
    exact .own _ none 0 0 upd_self
  · rw [List.getElem?_set_ne q] at h1
    exact (t.vr j x u h1 h2).mono (.refl _) st.hle
/-- The same in a box. -/
theorem PWp.nilB {P : Program} {N : Nat} {c : Code} {Q : Exit → St → Prop} {tm : List PV} {H : Hp} (b j : Nat) (e : TypeId) (sz : Nat) {cs : List PV} (hH : H[b]? = some (some (.box cs))) (hj : cs[j]? = some (.val (.slice none 0 0))) (h : PWp P N c Q ⟨tm, (H ++ [some (Blk.row e sz [])]).set b (some (Blk.box (cs.set j (.own H.length))))⟩) : PWp P N c Q ⟨tm, H⟩ := fun E a w hN r => by
  obtain ⟨M, hh, s, t, d⟩ := r
  have st := nil_push s.inv e sz
  have hb : (H ++ [some (Blk.row e sz [])])[b]? = some (some (.box cs)) := by rw [List.getElem?_append_left (List.getElem?_eq_some_iff.1 hH).1]; exact hH
  have I := st.inv
  have old : ∀ {c : Nat} {B : Blk}, ((H ++ [some (Blk.row e sz [])]).set b (some (Blk.box (cs.set j (.own H.length)))))[c]? = some (some B) → ∃ B0, (H ++ [some (Blk.row e sz [])])[c]? = some (some B0) ∧ (B0 = B ∨ c = b ∧ B = .box (cs.set j (.own H.length))) := fun {c B} q => by
    by_cases e1 : b = c
    · subst e1
      rw [List.getElem?_set_self (List.getElem?_eq_some_iff.1 hb).1] at q
      exact ⟨_, hb, .inr ⟨rfl, by injection q with q; injection q with q; exact q.symm⟩⟩
    · rw [List.getElem?_set_ne e1] at q
      exact ⟨B, q, .inl rfl⟩
  have hom : ∀ x, Homes (upd hh H.length (.slice none 0 0)) ((H ++ [some (Blk.row e sz [])]).set b (some (Blk.box (cs.set j (.own H.length))))) x → Homes (upd hh H.length (.slice none 0 0)) (H ++ [some (Blk.row e sz [])]) x := fun x ⟨c, B, v, q1, q2⟩ => by
    obtain ⟨B0, h1, _⟩ := old q1
    exact ⟨c, B0, v, h1, q2⟩
  have I2 : Inv M (upd hh H.length (.slice none 0 0)) ((H ++ [some (Blk.row e sz [])]).set b (some (Blk.box (cs.set j (.own H.length))))) w := by
    refine ⟨I.mem, I.one, fun c B q => ?_, fun x hx o => I.sep x (hom x hx) o, fun c c' B B' v v' x g1 g2 => ?_, fun c v q => by simpa using I.len c v q, I.glob⟩
    · obtain ⟨B0, h1, h2⟩ := old q
      obtain ⟨v, h3, h4⟩ := I.blk c B0 h1
      rcases h2 with rfl | ⟨rfl, rfl⟩
      · exact ⟨v, h3, h4⟩
      · rw [hb] at h1
        cases h1
        obtain ⟨g, us, ty, p1, p2, p3, p4, p5⟩ := h4
        refine ⟨v, h3, g, us, ty, p1, p2, by simpa using p3, p4, fun i pv u a d => ?_⟩
        by_cases q : j = i
        · subst q
          rw [List.getElem?_set_self (List.getElem?_eq_some_iff.1 hj).1] at a
          cases a
          have := vr_val (p5 j _ u hj d)
          subst this
          exact .own _ none 0 0 upd_self
        · rw [List.getElem?_set_ne q] at a
          exact p5 i pv u a d
    · obtain ⟨B0, h1, _⟩ := old g1
      obtain ⟨B1, h2, _⟩ := old g2
      exact I.inj c c' B0 B1 v v' x h1 h2
  exact h E a w hN ⟨M, _, s.trans (st.trans ⟨.refl _, .refl _, I2, .refl, fun x hx => .inl (hom x hx), fun _ _ _ q => .inl q⟩), ⟨t.size, fun i x u h1 h2 => (t.vr i x u h1 h2).mono (.refl _) st.hle⟩, d⟩
/-! ### Numbers of blocks, however many -/
theorem nodupR_of : ∀ {l : List Nat}, l.Nodup → nodupR l = true
  | [], _ => rfl
  | x :: xs, h => by
    have h := List.nodup_cons.1 h
    simp only [nodupR, nodupR_of h.2, Bool.and_true, Bool.not_eq_true', List.contains_eq_mem, decide_eq_false_iff_not]
    exact h.1
theorem blkR_app {φ : List Nat} {n : Nat} {H : Hp} : ∀ {bs bs' : List Nat} {A B : Hp}, blkR φ n H bs A → blkR φ n H bs' B → blkR φ n H (bs ++ bs') (A ++ B)
  | [], _, [], _, _, k => k
  | _ :: bs, _, none :: A, _, h, k => blkR_app (bs := bs) (A := A) h k
  | _ :: bs, _, some _ :: A, _, h, k => ⟨h.1, blkR_app (bs := bs) (A := A) h.2 k⟩
  | [], _, _ :: _, _, h, _ => h.elim
  | _ :: _, _, [], _, h, _ => h.elim
theorem blkR_all {φ : List Nat} {n : Nat} {H : Hp} : ∀ {bs : List Nat} {A : Hp}, bs.length = A.length → (∀ (i b : Nat) (B : Blk), bs[i]? = some b → A[i]? = some (some B) → H[b]? = some (renB φ n (some B))) → blkR φ n H bs A
  | [], [], _, _ => trivial
  | b :: bs, none :: A, hl, h => blkR_all (bs := bs) (A := A) (by simpa using hl) fun i b B p q => h (i + 1) b B (by simpa using p) (by simpa using q)
  | b :: bs, some B :: A, hl, h => ⟨h 0 b B rfl rfl, blkR_all (bs := bs) (A := A) (by simpa using hl) fun i b B p q => h (i + 1) b B (by simpa using p) (by simpa using q)⟩
  | [], _ :: _, hl, _ => by simp at hl
  | _ :: _, [], hl, _ => by simp at hl
theorem app_at {α : Type} {L r : List α} {k j : Nat} (h : L.length = k) : (L ++ r)[k + j]? = r[j]? := by rw [List.getElem?_append_right (by omega), h, Nat.add_sub_cancel_left]
theorem app_at0 {α : Type} {L r : List α} {k : Nat} (h : L.length = k) : (L ++ r)[k]? = r[0]? := by rw [List.getElem?_append_right (by omega), h, Nat.sub_self]
/-- References to blocks of one's own, one behind the other. -/
def ownL (a n : Nat) : List (List PV) := (List.range' a n).map fun j => [PV.own j]
theorem ownL_len {a n : Nat} : (ownL a n).length = n := by simp [ownL]
theorem ownL_get {a n j : Nat} (h : j < n) : (ownL a n)[j]? = some [.own (a + j)] := by
  unfold ownL
  rw [List.getElem?_map, List.getElem?_range' (by omega)]
  simp
theorem ownL_succ {a n : Nat} : ownL a (n + 1) = ownL a n ++ [[.own (a + n)]] := by
  unfold ownL
  rw [List.range'_concat]
  simp
theorem ownL_zero {a : Nat} : ownL a 0 = [] := rfl
theorem ownL_ren {φ : List Nat} {N a n : Nat} {xs : List (List PV)} (hl : xs.length = n) (h : ∀ j, j < n → xs[j]? = some [.own (rn φ N (a + j))]) : (ownL a n).map (renL φ N) = xs := by
  apply List.ext_getElem?
  intro j
  by_cases hj : j < n
  · rw [List.getElem?_map, ownL_get hj, h j hj]
    rfl
  · rw [List.getElem?_eq_none (by rw [List.length_map, ownL_len]; omega), List.getElem?_eq_none (by omega)]
theorem rn_at {φ : List Nat} {N i b : Nat} (h : φ[i]? = some b) : rn φ N i = b := rn_lt h
/-! ### What is one's own, in rows of rows too, becomes memory that nobody writes -/
def frz (H : Hp) : Nat → PV → PV
  | 0, p => p
  | d + 1, .own b => match H[b]? with
    | some (some (.row _ sz es)) => .sl sz (es.map fun row => row.map (frz H d))
    | _ => .own b
  | d + 1, .agg fs => .agg (fs.map (frz H d))
  | d + 1, .tup fs => .tup (fs.map (frz H d))
  | _ + 1, p => p
def frzOk (H : Hp) : Nat → PV → Prop
  | 0, p => cloC p = true
  | d + 1, .own b => match H[b]? with
    | some (some (.row _ _ es)) => ∀ row ∈ es, ∀ p ∈ row, frzOk H d p
    | _ => False
  | d + 1, .agg fs => ∀ p ∈ fs, frzOk H d p
  | d + 1, .tup fs => ∀ p ∈ fs, frzOk H d p
  | _ + 1, p => cloC p = true
theorem frz_ok {M M2 : Mem} {h : Home} {H : Hp} {w : World} (I : Inv M h H w) (hM : MLe M M2) (hC : ∀ k o v, Homes h H k → w.cell? ⟨k, o, none⟩ = some v → v.oneCell' = true → M2 k o = some v) :
    ∀ (d : Nat) (pv : PV) (v : Value), VR M h pv v → frzOk H d pv → ∀ hm : Home, VR M2 hm (frz H d pv) v
  | 0, pv, v, r, hk, hm => cloC_ok (r.mono hM (.refl _)) hk
  | d + 1, .own b, v, r, hk, hm => by
    simp only [frzOk] at hk
    split at hk
    · rename_i e sz es hH
      simp only [frz, hH]
      cases r with
      | own _ o n c hb =>
        obtain ⟨v0, q0, -, us, q1, q2, q3, q4⟩ := I.blk b _ hH
        rw [hb] at q0
        cases q0
        rcases q1.2 with ⟨e1, e2⟩ | ⟨g, cap, cur, e1, e2, e3, e4, e5, e6, e7⟩
        · cases e1
          have : es = [] := List.eq_nil_of_length_eq_zero e2
          subst this
          exact .sl0 _ _ _
        · cases e1
          by_cases hn : es = []
          · subst hn; exact .sl0 _ _ _
          · have hl : 0 < es.length := by cases es with | nil => exact absurd rfl hn | cons => simp
            have hhome : Homes h H g := ⟨b, _, _, hH, hb, rfl⟩
            have len' : (es.map fun row => row.map (frz H d)).length = es.length := by simp
            have := VR.sl (M := M2) (h := hm) sz (es.map fun row => row.map (frz H d)) g 0 c (fun i j => (us[i * sz + j]?).getD undef) (by rw [len']; exact hl) (by rw [len']; exact e4) e5 (fun row hr => by
                obtain ⟨r0, hr0, rfl⟩ := List.mem_map.1 hr
                simpa using q2 r0 hr0) (fun i j row pv a d' => ?_) (fun i j row pv a d' => ?_)
            · rw [len'] at this; exact this
            all_goals
              rw [List.getElem?_map, Option.map_eq_some_iff] at a
              obtain ⟨row0, a, rfl⟩ := a
              rw [List.getElem?_map, Option.map_eq_some_iff] at d'
              obtain ⟨p0, d', rfl⟩ := d'
              have hi : i < es.length := (List.getElem?_eq_some_iff.1 a).1
              have hj : j < sz := by have := (List.getElem?_eq_some_iff.1 d').1; rw [q2 row0 (List.mem_of_getElem? a)] at this; exact this
              have hm : (i + 1) * sz ≤ es.length * sz := Nat.mul_le_mul_right _ hi
              rw [Nat.add_mul] at hm
              have hu : i * sz + j < us.length := by rw [q1.1]; omega
              have hu' : us[i * sz + j]? = some us[i * sz + j] := List.getElem?_eq_getElem hu
              rw [hu']
            · have := q1.cells (g := g) rfl (i * sz + j) _ hu'
              rw [addr_add] at this
              rw [Nat.add_assoc]
              exact hC _ _ _ hhome this (q3 _ (List.mem_of_getElem? hu'))
            · exact frz_ok I hM hC d p0 _ (q4 i j row0 p0 _ a d' hu') (hk row0 (List.mem_of_getElem? a) p0 (List.mem_of_getElem? d')) _
    · exact hk.elim
  | d + 1, .agg fs, v, r, hk, hm => by
    cases r with
    | agg _ vs h1 h2 =>
      simp only [frz]
      refine .agg _ _ (by simpa using h1) fun i pv u a b => ?_
      rw [List.getElem?_map, Option.map_eq_some_iff] at a
      obtain ⟨q, a1, rfl⟩ := a
      exact frz_ok I hM hC d q u (h2 i q u a1 b) (hk q (List.mem_of_getElem? a1)) hm
  | d + 1, .tup fs, v, r, hk, hm => by
    cases r with
    | tup _ vs h1 h2 =>
      simp only [frz]
      refine .tup _ _ (by simpa using h1) fun i pv u a b => ?_
      rw [List.getElem?_map, Option.map_eq_some_iff] at a
      obtain ⟨q, a1, rfl⟩ := a
      exact frz_ok I hM hC d q u (h2 i q u a1 b) (hk q (List.mem_of_getElem? a1)) hm
  | d + 1, .val x, v, r, hk, hm => cloC_ok (r.mono hM (.refl _)) hk
  | d + 1, .sl sz es, v, r, hk, hm => cloC_ok (r.mono hM (.refl _)) hk
  | d + 1, .ptr b o, v, r, hk, hm => cloC_ok (r.mono hM (.refl _)) hk
  | d + 1, .eptr cs o, v, r, hk, hm => cloC_ok (r.mono hM (.refl _)) hk
  | d + 1, .optr b sz i o, v, r, hk, hm => cloC_ok (r.mono hM (.refl _)) hk
  | d + 1, .clo f caps, v, r, hk, hm => cloC_ok (r.mono hM (.refl _)) hk
/-- A contract, all of what is yielded frozen. -/
theorem PCalls.freeze {P : Program} {f : FuncId} {args : List PV} {R R' : PV → Hp → Prop} (c : PCalls P f args [] R) (d : Nat) (hR : ∀ r H, R r H → frzOk H d r ∧ R' (frz H d r) []) : PCalls P f args [] R' := by
  intro M hh w vs I rv
  refine (c M hh w vs I rv).mono fun e w' ⟨v, M', h', pv, H', a, b, r, s⟩ => ?_
  obtain ⟨g1, g2⟩ := hR pv H' b
  have none : ∀ k, ¬ Homes hh [] k := fun k ⟨b, B, v, q, _⟩ => by simp at q
  have hb : Ext w w' := ChgS.ext ⟨s.chg.os, s.chg.tape, s.chg.output, s.chg.size, fun k hk hn => s.chg.block k hk (none k)⟩
  let M2 : Mem := fun k o => if w.heap.size ≤ k then memW w' k o else M k o
  have lo : ∀ {k o : Nat}, k < w.heap.size → M2 k o = M k o := fun {k o} q => by show (if w.heap.size ≤ k then _ else _) = _; rw [if_neg (by omega)]
  have up : ∀ {k o : Nat}, w.heap.size ≤ k → M2 k o = memW w' k o := fun {k o} q => by show (if w.heap.size ≤ k then _ else _) = _; rw [if_pos q]
  have m1 : MLe M M2 := fun k o v q => by rw [lo (I.mem_lt q)]; exact q
  have m2 : MLe M' M2 := fun k o u q => by
    rcases s.new k o u q with x | x | x
    · exact m1 k o u x
    · exact absurd x (none k)
    · rw [up x]; exact memW_of (s.inv.mem k o u q) (s.inv.one k o u q)
  have i2 : Inv M2 hh [] w' := by
    refine ⟨fun k o u q => ?_, fun k o u q => ?_, fun b B q => by simp at q, fun k q => absurd q (none k), fun b b' B B' v v' k q => by simp at q, I.len, I.glob.mono m1⟩
    · by_cases hk : w.heap.size ≤ k
      · rw [up hk] at q; exact (memW_cell q).1
      · rw [lo (by omega)] at q; exact ext_cell hb (I.mem k o u q)
    · by_cases hk : w.heap.size ≤ k
      · rw [up hk] at q; exact (memW_cell q).2
      · rw [lo (by omega)] at q; exact I.one k o u q
  refine ⟨v, M2, hh, frz H' d pv, [], a, g2, ?_, ⟨m1, .refl _, i2, s.chg, fun k q => absurd q (none k), fun k o u q => ?_⟩⟩
  · refine frz_ok s.inv m2 (fun k o u q1 q2 q3 => ?_) d pv v r g1 hh
    rw [up ((s.sub k q1).resolve_left (none k))]
    exact memW_of q2 q3
  · by_cases hk : w.heap.size ≤ k
    · exact .inr (.inr hk)
    · rw [lo (by omega)] at q; exact .inl q
end Go.Proofs.Ytcbknmnlgoeniaa

/- Data of any depth: 'append' to a slice of one's own. -/
import Derived.Test.YtbenfbmoagfboaaDeepMark
namespace Go.Proofs.Ytbenfbmoagfboaa
open Go.RowKit

/-- 'append', and where its result lies: in the row that was there, or in a new one. -/
theorem run_append_at {P : Program} {w : World} (t ty e : TypeId) (i : TypeInfo) (z : Value) (size bytes : Nat) (ht : P.underlying t = some (.slice e)) (hi : P.info? e = some i) (hz : i.zero = some z)
    (hsize : i.size = size) (hby : i.bytes = bytes) (hzs : z.cells.size = size) (hsz : 0 < size) (v : Value) (n : Nat) (xs : List Value) (hown : w.ownsRow 0 e size v n xs)
    (a : Addr) (m c : Nat) (news : List Value) (hl : news.length = m * size) (hnews : ∀ j u, news[j]? = some u → w.cell? (a.add j) = some u) (h1 : ∀ u ∈ news, u.oneCell' = true)
    (h63 : n + m ≤ maxLen) (hbytes : (n + m) * bytes ≤ 140737488355328) :
    ∃ v' w', (Builtin.append_ #[t, t] ty #[v, .slice (some a) m c]).run P w = .ok v' w' ∧ w'.ownsRow 0 e size v' (n + m) (xs ++ news) ∧ w.grownBy w' v.ownBlock ∧
      (v' = .slice none 0 0 ↔ v = .slice none 0 0 ∧ m = 0) ∧ ∀ k, v'.ownBlock = some k → v.ownBlock = some k ∨ w.heap.size ≤ k := by
  obtain ⟨v', w', hr, h2, h3, h4⟩ := run_append_own (P := P) (w := w) 0 t ty e i z size bytes ht hi hz hsize hby hzs hsz v n xs hown a m c news hl hnews h1 h63 hbytes (Nat.zero_le _)
  refine ⟨v', w', hr, h2, h3, h4, fun k hk => ?_⟩
  subst hsize
  subst hby
  have hmax : n + m ≤ 9223372036854775807 := by simp only [maxLen] at h63; omega
  rcases hown.2 with ⟨rfl, rfl⟩ | ⟨g, cap, cur, rfl, _, hg, _, _, hcs, _⟩
  · right
    by_cases hm : m = 0
    · rw [h4.2 ⟨rfl, hm⟩] at hk
      simp [Value.ownBlock] at hk
    · have hb : m * i.bytes ≤ 140737488355328 := by simpa using hbytes
      have q := run_append_nil (P := P) w t ty e i z ht hi hz a m c news hl hnews (by omega) (by omega) (by omega)
      rw [hr] at q
      cases q
      simp [Value.ownBlock] at hk
      omega
  · by_cases hroom : n + m ≤ cap
    · left
      have q := run_append_room (P := P) w t ty e i ht hi g n cap cur hg a m c news hl hnews h1 hroom (by rw [hl, hcs, ← Nat.add_mul]; exact Nat.mul_le_mul_right _ hroom)
      rw [hr] at q
      cases q
      exact hk
    · right
      have q := run_append_grow (P := P) w t ty e i z ht hi hz ⟨g, 0, none⟩ n cap xs hown.1 (hown.cells (g := g) rfl) a m c news hl hnews (by omega) (by omega) (growslice_fits (by omega) hbytes)
      rw [hr] at q
      cases q
      simp [Value.ownBlock] at hk
      omega

theorem Obj.appended {w w' : World} {lo mid mid' hi : Nat} {e : TypeId} {sz n m : Nat} {es row : List D} {v v' : Value} {us news : List Value} {Fe : List Nat} (hO : Ows w es us Fe) (hn : (v.ownBlock.toList ++ Fe).Nodup) (hF : ∀ k ∈ v.ownBlock.toList ++ Fe, lo ≤ k ∧ k < mid) (hR : Obj w mid' hi row news) (hm : mid ≤ mid') (hlo : lo ≤ mid') (hhw : hi ≤ w.heap.size) (hmw : mid ≤ w.heap.size) (hlw : lo ≤ w.heap.size)
    (h2 : w'.ownsRow 0 e sz v' (n + m) (us ++ news)) (h3 : w.grownBy w' v.ownBlock) (h5 : ∀ k, v'.ownBlock = some k → v.ownBlock = some k ∨ w.heap.size ≤ k) :
    Obj w' lo w'.heap.size [.sl e sz (n + m) (es ++ row)] [v'] ∧ ChgI lo mid w w' := by
  obtain ⟨H, r1, r2, r3⟩ := hR
  have hc := Chg.of_grown h3
  rw [List.nodup_append] at hn
  have a1 : ∀ k ∈ Fe, k ∉ v.ownBlock.toList := fun k hk hv => hn.2.2 k hv k hk rfl
  have a2 : ∀ k ∈ H, k ∉ v.ownBlock.toList := fun k hk hv => by have := r3 k hk; have := hF k (by simp only [List.mem_append]; exact .inl hv); omega
  have b1 := (hO.keep hc a1).append (r1.keep hc a2)
  have hz : w.heap.size ≤ w'.heap.size := h3.size
  have a3 : ∀ k, v'.ownBlock = some k → k ∉ Fe ∧ k ∉ H ∧ lo ≤ k := fun k hk => by
    rcases h5 k hk with h | h
    · have q := hF k (by simp [h])
      exact ⟨fun hh => hn.2.2 k (by simp [h]) k hh rfl, fun hh => by have := r3 k hh; omega, q.1⟩
    · exact ⟨fun hh => by have := hO.mem k hh; omega, fun hh => by have := r1.mem k hh; omega, by omega⟩
  refine ⟨⟨v'.ownBlock.toList ++ ((Fe ++ H) ++ []), .sl e sz (n + m) v' h2 b1 .nil, ?_, fun k hk => ?_⟩, ⟨_, hc, fun k hk => hF k (by simp only [List.mem_append]; exact .inl hk)⟩⟩
  · rw [List.append_nil]
    refine List.nodup_append.2 ⟨by cases v'.ownBlock <;> simp, List.nodup_append.2 ⟨hn.2.1, r2, fun a ha b hb => ?_⟩, fun a ha b hb => ?_⟩
    · have := hF a (by simp [ha]); have := r3 b hb; omega
    · have q := a3 a (by simpa using ha)
      rintro rfl
      rcases List.mem_append.1 hb with hb | hb
      · exact q.1 hb
      · exact q.2.1 hb
  · simp only [List.append_nil, List.mem_append, Option.mem_toList] at hk
    rcases hk with hk | hk | hk
    · exact ⟨(a3 k hk).2.2, (h2.lt k hk).2⟩
    · have := hF k (by simp [hk]); omega
    · have := r3 k hk; omega

theorem wpList_append_obj {P : Program} {w : World} {ops : Array Oper} {rest : List Oper} {o : Oper} {a : Act} {Q : Exit → Act → World → Prop} (hgd : o.guard = none) (s x : Operand) (t : TypeId)
    (ho : o.op = .call { callee := .builtin .append, args := #[s, x], argTypes := #[t, t] })
    (lo mid : Nat) (e : TypeId) (i : TypeInfo) (z : Value) (size bytes : Nat) (ht : P.underlying t = some (.slice e)) (hi : P.info? e = some i) (hz : i.zero = some z)
    (hsize : i.size = size) (hby : i.bytes = bytes) (hzs : z.cells.size = size) (hsz : 0 < size)
    (v : Value) (n : Nat) (es : List D) (hs : a.eval s = v) (hO : Obj w lo mid [.sl e size n es] [v])
    (ad : Addr) (m c : Nat) (row : List D) (news : List Value) (hx : a.eval x = .slice (some ad) m c) (mid' hi' : Nat) (hR : Obj w mid' hi' row news) (hl : row.length = m * size) (hnews : ∀ j u, news[j]? = some u → w.cell? (ad.add j) = some u)
    (hm : mid ≤ mid') (hlo : lo ≤ mid') (hhw : hi' ≤ w.heap.size) (hmw : mid ≤ w.heap.size) (hlw : lo ≤ w.heap.size)
    (h63 : n + m ≤ maxLen) (hbytes : (n + m) * bytes ≤ 140737488355328)
    (h : ∀ v' w', Obj w' lo w'.heap.size [.sl e size (n + m) (es ++ row)] [v'] → ChgI lo mid w w' → w.heap.size ≤ w'.heap.size → (v' = .slice none 0 0 ↔ v = .slice none 0 0 ∧ m = 0) → wpList P ops Q rest (a.put o.dst v') w') : wpList P ops Q (o :: rest) a w := by
  obtain ⟨F, f1, f2, f3⟩ := hO
  cases f1 with
  | @sl _ _ _ us F0 G _ _ _ _ k1 k2 k3 =>
    obtain ⟨_, rfl⟩ := ows_nil.1 k3
    simp only [List.append_nil] at f2 f3
    have h1 : ∀ u ∈ news, u.oneCell' = true := hR.elim fun _ q => q.1.oneCell
    have hl' : news.length = m * size := by rw [← hR.read.len, hl]
    obtain ⟨v', w', hr, h2, h3, h4, h5⟩ := run_append_at (P := P) t o.type e i z size bytes ht hi hz hsize hby hzs hsz v n us k1 ad m c news hl' hnews h1 h63 hbytes
    obtain ⟨q1, q2⟩ := Obj.appended k2 f2 f3 hR hm hlo hhw hmw hlw h2 h3 h5
    refine wpList_plain hgd fun K hK => ?_
    unfold Oper.wp execOp
    simp only [ho, resolve, invoke, builtin, Sem.run_bind, Sem.run_pure, Result.andThen_ok, List.map_toArray, List.map_cons, List.map_nil, hs, hx, hr]
    exact hK _ _ (h v' w' q1 q2 h3.size h4)
end Go.Proofs.Ytbenfbmoagfboaa

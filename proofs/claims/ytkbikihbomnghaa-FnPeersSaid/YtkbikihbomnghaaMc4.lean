/- Plain laws: clients stay in order; offers one after the other. -/
import Derived.Test.YtkbikihbomnghaaK3
namespace Go.Proofs.Ytkbikihbomnghaa

theorem idx_modify {α : Type} {p : α → Bool} {f : α → α} (h : ∀ x, p (f x) = p x) : ∀ (l : List α) (k : Nat), idx p (l.modify k f) = idx p l
  | [], k => by cases k <;> rfl
  | x :: xs, 0 => by simp only [List.modify_zero_cons]; unfold idx; rw [h]
  | x :: xs, k + 1 => by
    simp only [List.modify_succ_cons]
    have := idx_modify h xs k
    unfold idx
    rw [this]
theorem tableOk_set {t : GTable} {id : Int} {f : GPeer → GPeer} (ok : tableOk t = true) (hi : ∀ p, (f p).fId = p.fId) (hu : ∀ p, 0 ≤ p.fUntil ∧ p.fUntil ≤ 1000320 → 0 ≤ p.fBans ∧ p.fBans ≤ 20 → (0 ≤ (f p).fUntil ∧ (f p).fUntil ≤ 1000320) ∧ (0 ≤ (f p).fBans ∧ (f p).fBans ≤ 20)) : tableOk (peerSet t id f) = true := by
  obtain ⟨h1, h2, h3⟩ := tableOk_iff.1 ok
  refine tableOk_iff.2 ⟨fun k p hp => ?_, by unfold peerSet; dsimp only; rw [List.length_modify]; exact h2, h3⟩
  have e : ∀ x, peerIdx (peerSet t id f).fPeers x = peerIdx t.fPeers x := fun x => by
    unfold peerSet peerIdx
    exact idx_modify (fun q => by rw [hi]) _ _
  rw [e]
  unfold peerSet at hp
  dsimp only at hp
  rw [List.getElem?_modify] at hp
  cases hx : t.fPeers[k]? with
  | none => rw [hx] at hp; simp at hp
  | some x =>
    rw [hx] at hp
    obtain ⟨a1, a2, a3, a4⟩ := h1 k x hx
    simp only [Option.map_eq_map, Option.map_some, Option.some.injEq] at hp
    by_cases q : (peerIdx t.fPeers id).toNat = k
    · rw [if_pos q] at hp
      subst hp
      obtain ⟨b1, b2⟩ := hu x a2 a3
      rw [hi]
      exact ⟨a1, b1, b2, a4⟩
    · rw [if_neg q] at hp
      subst hp
      exact ⟨a1, a2, a3, a4⟩
theorem peerGood_ok {t : GTable} (ok : tableOk t = true) (id : Int) : tableOk (peerGood t id).1 = true := by
  unfold peerGood
  split
  · exact ok
  · exact tableOk_set ok (fun _ => rfl) fun p h _ => ⟨h, by dsimp only; omega⟩
theorem peerLie_ok {t : GTable} (ok : tableOk t = true) (id now : Int) : tableOk (peerLie t id now).1 = true := by
  unfold peerLie
  split
  · exact ok
  · rename_i h
    rw [not_or] at h
    have hn : 0 ≤ now ∧ now ≤ 1000000 := inB_iff.1 (show isTime now = true by simpa using h.2)
    refine tableOk_set ok (fun _ => rfl) fun p h1 h2 => ?_
    have : lieN p.fBans.toNat ≤ 320 := by unfold lieN; omega
    unfold lied
    dsimp only
    omega
theorem lightTick_ok {c : GLight} (ok : lightOk c = true) (n : Int) : lightOk (lightTick c n).1 = true := by
  unfold lightTick
  split
  · rename_i h
    rw [Bool.and_eq_true] at h
    have f := lightOk_iff.1 ok
    exact lightOk_iff.2 ⟨f.t, f.a, f.s, f.p, by have := f.st; dsimp only; split <;> omega, h.2, f.h⟩
  · exact ok
theorem storePut_ok {s : GStore} {a h : GHeader} (ok : storeOk s = true) (hl : lastHead s.fHeads = some a) (hh : headerOk h = true) (hk : linkOk a h = true) : storeOk (storePut s h) = true ∧ lastHead (storePut s h).fHeads = some h := by
  obtain ⟨h1, h2, h3, h4⟩ := storeOk_iff.1 ok
  have key : ∀ l : List GHeader, storeOk ⟨l, l.length⟩ = true → storeOk ⟨l, l.length⟩ = true := fun _ h => h
  have last : ∀ l : List GHeader, lastHead (l ++ [h]) = some h := fun l => by unfold lastHead; simp
  have full : ∀ (l : List GHeader) (sy : Int), storeOk ⟨l ++ [h], sy⟩ = true → storeOk ⟨l ++ [h], ((l ++ [h]).length : Int)⟩ = true := fun l sy q => by
    obtain ⟨q1, q2, q3, q4⟩ := storeOk_iff.1 q
    exact storeOk_iff.2 ⟨q1, q2, by dsimp only; omega, by dsimp only; omega⟩
  by_cases h20 : s.fHeads.length = 20
  · have e : storePut s h = ⟨s.fHeads.drop 10 ++ [h], ((s.fHeads.drop 10 ++ [h]).length : Int)⟩ := by unfold storePut; rw [if_pos h20]
    rw [e]
    exact ⟨full _ _ (store_snoc (store_drop ok h20) (by rw [List.length_drop]; omega) (last_drop h20 hl) hh hk), last _⟩
  · have e : storePut s h = ⟨s.fHeads ++ [h], ((s.fHeads ++ [h]).length : Int)⟩ := by unfold storePut; rw [if_neg h20]
    rw [e]
    exact ⟨full _ s.fSynced (store_snoc ok (by omega) hl hh hk), last _⟩
theorem lightFeed_ok {c : GLight} (ok : lightOk c = true) (peer : Int) (b : GBlock) : lightOk (lightFeed c peer b).1 = true := by
  have f := lightOk_iff.1 ok
  unfold lightFeed
  split
  · exact ok
  · split
    · rename_i hv
      have vf := verified_zero hv
      have va := verified_anchor hv
      obtain ⟨s1, s2⟩ := storePut_ok f.s f.h vf.hd vf.link
      exact lightOk_iff.2 ⟨f.t, va, s1, peerGood_ok f.p _, f.st, f.n, s2⟩
    · split
      · exact lightOk_iff.2 ⟨f.t, f.a, f.s, peerLie_ok f.p _ _, f.st, f.n, f.h⟩
      · exact ok
/-! ### Offers -/
def tickO (x : GLight) (o : GOffer) : GLight := if o.fWait = 0 then x else (lightTick x o.fWait).1
def syncF (s : GLight × List Int) (o : GOffer) : GLight × List Int := ((lightFeed (tickO s.1 o) o.fPeer o.fBlock).1, s.2 ++ [(lightFeed (tickO s.1 o) o.fPeer o.fBlock).2])
def syncTo (c : GLight) (l : List GOffer) (k : Nat) : GLight × List Int := (l.take k).foldl syncF (c, [])
theorem syncTo_zero {c : GLight} {l : List GOffer} : syncTo c l 0 = (c, []) := rfl
theorem syncTo_succ {c : GLight} {l : List GOffer} {k : Nat} {o : GOffer} (h : l[k]? = some o) : syncTo c l (k + 1) = syncF (syncTo c l k) o := by
  unfold syncTo
  rw [List.take_add_one, h]
  simp [List.foldl_append]
theorem tickO_ok {c : GLight} (ok : lightOk c = true) (o : GOffer) : lightOk (tickO c o) = true := by
  unfold tickO
  split
  · exact ok
  · exact lightTick_ok ok _
theorem syncTo_ok {c : GLight} (ok : lightOk c = true) (l : List GOffer) : ∀ k, lightOk (syncTo c l k).1 = true ∧ (syncTo c l k).2.length ≤ k
  | 0 => ⟨ok, Nat.le_refl _⟩
  | k + 1 => by
    obtain ⟨h1, h2⟩ := syncTo_ok ok l k
    cases h : l[k]? with
    | none =>
      have e : syncTo c l (k + 1) = syncTo c l k := by
        unfold syncTo
        rw [List.take_add_one, h]
        simp
      rw [e]
      exact ⟨h1, by omega⟩
    | some o =>
      rw [syncTo_succ h]
      unfold syncF
      refine ⟨lightFeed_ok (tickO_ok h1 o) _ _, ?_⟩
      simp only [List.length_append, List.length_cons, List.length_nil]
      omega
end Go.Proofs.Ytkbikihbomnghaa

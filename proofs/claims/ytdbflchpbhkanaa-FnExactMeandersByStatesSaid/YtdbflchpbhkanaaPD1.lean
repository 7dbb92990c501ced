/- Ways to states, by keys: put together in whatever order it is the same. No condition. -/
import Derived.Test.YtdbflchpbhkanaaAL56
namespace Go.Proofs.Ytdbflchpbhkanaa.AL
open Go Go.RowKit
set_option linter.unusedVariables false
set_option linter.unusedSimpArgs false
abbrev St3 := List Int × List Int × Int
abbrev Tr := ByteArray × St3 × Int
def wOf (k : ByteArray) : List Tr → Int
  | [] => 0
  | e :: r => if k = e.1 then e.2.2 else wOf k r
def putM (k : ByteArray) (s : St3) (w : Int) : List Tr → List Tr
  | [] => [(k, s, w)]
  | e :: r => if k = e.1 then (e.1, s, w) :: r else e :: putM k s w r
def addM (M : List Tr) (c : Tr) : List Tr := putM c.1 c.2.1 (iadd .i64 (wOf c.1 M) c.2.2) M
def lookM (M : List Tr) (k : ByteArray) : Option (St3 × Int) := match M with
  | [] => none
  | e :: r => if k = e.1 then some e.2 else lookM r k
theorem iadd_iadd (a b c : Int) : iadd .i64 (iadd .i64 a b) c = iadd .i64 a (b + c) := by
  have key : ∀ x : Int, ∃ k : Int, IntKind.wrap .i64 x = x - 18446744073709551616 * k ∧ -9223372036854775808 ≤ IntKind.wrap .i64 x ∧ IntKind.wrap .i64 x < 9223372036854775808 := fun x => by
    have e : IntKind.wrap .i64 x = if x % 18446744073709551616 ≥ 9223372036854775808 then x % 18446744073709551616 - 18446744073709551616 else x % 18446744073709551616 := by
      simp [IntKind.wrap, IntKind.bits, IntKind.signed]
    rw [e]
    by_cases hc : x % 18446744073709551616 ≥ 9223372036854775808
    · rw [if_pos hc]; exact ⟨x / 18446744073709551616 + 1, by omega, by omega, by omega⟩
    · rw [if_neg hc]; exact ⟨x / 18446744073709551616, by omega, by omega, by omega⟩
  unfold iadd
  rw [wrF_eq, wrF_eq, wrF_eq]
  obtain ⟨k1, h1, h2, h3⟩ := key (a + b)
  obtain ⟨k2, h4, h5, h6⟩ := key (IntKind.wrap .i64 (a + b) + c)
  obtain ⟨k3, h7, h8, h9⟩ := key (a + (b + c))
  omega
theorem wOf_look (k : ByteArray) : ∀ M : List Tr, wOf k M = ((lookM M k).map (·.2)).getD 0
  | [] => rfl
  | e :: r => by
    unfold wOf lookM
    split
    · rfl
    · exact wOf_look k r
theorem look_put (k : ByteArray) (s : St3) (w : Int) (q : ByteArray) : ∀ M : List Tr, lookM (putM k s w M) q = if q = k then some (s, w) else lookM M q
  | [] => by simp [putM, lookM]
  | e :: r => by
    unfold putM
    by_cases h : k = e.1
    · rw [if_pos h]
      simp only [lookM]
      rw [← h]
      by_cases hq : q = k <;> simp [hq]
    · rw [if_neg h]
      simp only [lookM]
      by_cases hq : q = e.1
      · rw [if_pos hq, if_pos hq, if_neg (fun e' => h (e'.symm.trans hq))]
      · rw [if_neg hq, if_neg hq]
        exact look_put k s w q r
theorem look_add (M : List Tr) (c : Tr) (q : ByteArray) : lookM (addM M c) q = if q = c.1 then some (c.2.1, iadd .i64 (((lookM M c.1).map (·.2)).getD 0) c.2.2) else lookM M q := by
  unfold addM
  rw [look_put, wOf_look]
def ConsK (L : List Tr) : Prop := ∀ a ∈ L, ∀ b ∈ L, a.1 = b.1 → a.2.1 = b.2.1
instance (L : List Tr) : Decidable (ConsK L) := by unfold ConsK; infer_instance
theorem ConsK.perm {L L' : List Tr} (h : ConsK L) (p : L.Perm L') : ConsK L' := fun a ha b hb => h a (p.mem_iff.2 ha) b (p.mem_iff.2 hb)
theorem fold_look : ∀ {L L' : List Tr}, L.Perm L' → ConsK L → ∀ M M' : List Tr, (∀ k, lookM M k = lookM M' k) → ∀ k, lookM (L.foldl addM M) k = lookM (L'.foldl addM M') k := by
  intro L L' p
  induction p with
  | nil => intro _ M M' h k; exact h k
  | cons x p ih =>
    intro hc M M' h k
    refine ih (fun a ha b hb => hc a (.tail _ ha) b (.tail _ hb)) _ _ (fun q => ?_) k
    rw [look_add, look_add, h, h]
  | swap x y l =>
    intro hc M M' h k
    have e : ∀ q, lookM (addM (addM M y) x) q = lookM (addM (addM M' x) y) q := fun q => by
      simp only [look_add, h]
      by_cases hxy : x.1 = y.1
      · have hs := hc x (.tail _ (.head _)) y (.head _) hxy
        have h1 : ∀ a : Int, iadd .i64 (iadd .i64 a y.2.2) x.2.2 = iadd .i64 (iadd .i64 a x.2.2) y.2.2 := fun a => by rw [iadd_iadd, iadd_iadd, Int.add_comm]
        by_cases hq : q = x.1
        · have hq' : q = y.1 := hq.trans hxy
          rw [if_pos hq, if_pos hq', if_pos hxy, if_pos hxy.symm]
          simp only [Option.map_some, Option.getD_some, hs, h1, hxy]
        · have hq' : q ≠ y.1 := fun e => hq (e.trans hxy.symm)
          rw [if_neg hq, if_neg hq', if_neg hq', if_neg hq]
      · have hyx : y.1 ≠ x.1 := fun e => hxy e.symm
        by_cases hq : q = x.1
        · have hq' : q ≠ y.1 := fun e => hxy (hq.symm.trans e)
          rw [if_pos hq, if_neg hq', if_pos hq, if_neg hxy]
        · by_cases hq' : q = y.1
          · rw [if_neg hq, if_pos hq', if_pos hq', if_neg hyx]
          · rw [if_neg hq, if_neg hq', if_neg hq', if_neg hq]
    have key : ∀ (l : List Tr) (N N' : List Tr), (∀ q, lookM N q = lookM N' q) → lookM (l.foldl addM N) k = lookM (l.foldl addM N') k := by
      intro l
      induction l with
      | nil => intro N N' h; exact h k
      | cons z l ih =>
        intro N N' h
        exact ih _ _ fun q => by rw [look_add, look_add, h, h]
    exact key l _ _ e
  | trans p q ih1 ih2 =>
    intro hc M M' h k
    exact (ih1 hc M M (fun _ => rfl) k).trans (ih2 (hc.perm p) M M' h k)
theorem putM_keys (k : ByteArray) (s : St3) (w : Int) : ∀ {M : List Tr}, (M.map (·.1)).Nodup → ((putM k s w M).map (·.1)).Nodup ∧ ∀ q, q ∈ (putM k s w M).map (·.1) → q = k ∨ q ∈ M.map (·.1)
  | [], _ => by simp [putM]
  | e :: r, h => by
    simp only [List.map_cons, List.nodup_cons] at h
    unfold putM
    split
    · rename_i hk
      exact ⟨by simpa using h, fun q hq => .inr (by simpa using hq)⟩
    · rename_i hk
      obtain ⟨h1, h2⟩ := putM_keys k s w h.2
      refine ⟨?_, fun q hq => ?_⟩
      · simp only [List.map_cons, List.nodup_cons]
        refine ⟨fun hm => ?_, h1⟩
        rcases h2 _ hm with e | hm
        · exact hk e.symm
        · exact h.1 hm
      · simp only [List.map_cons, List.mem_cons] at hq ⊢
        rcases hq with hq | hq
        · exact .inr (.inl hq)
        · rcases h2 q hq with hq | hq
          · exact .inl hq
          · exact .inr (.inr hq)
theorem fold_keys : ∀ (L : List Tr) {M : List Tr}, (M.map (·.1)).Nodup → ((L.foldl addM M).map (·.1)).Nodup
  | [], _, h => h
  | c :: L, _, h => fold_keys L (putM_keys _ _ _ h).1
theorem look_mem : ∀ {M : List Tr}, (M.map (·.1)).Nodup → ∀ k x, lookM M k = some x ↔ (k, x) ∈ M
  | [], _, k, x => by simp [lookM]
  | e :: r, h, k, x => by
    simp only [List.map_cons, List.nodup_cons] at h
    unfold lookM
    by_cases hk : k = e.1
    · rw [if_pos hk]
      constructor
      · intro hx
        cases hx
        rw [hk]
        exact .head _
      · intro hm
        rcases List.mem_cons.1 hm with hm | hm
        · rw [← hm]
        · exact absurd (List.mem_map.2 ⟨_, hm, hk⟩) h.1
    · rw [if_neg hk, look_mem h.2 k x]
      constructor
      · exact fun hm => .tail _ hm
      · intro hm
        rcases List.mem_cons.1 hm with hm | hm
        · exact absurd (by rw [← hm]) hk
        · exact hm
theorem perm_of_look {M M' : List Tr} (h : (M.map (·.1)).Nodup) (h' : (M'.map (·.1)).Nodup) (e : ∀ k, lookM M k = lookM M' k) : M.Perm M' := by
  have nd : ∀ {M : List Tr}, (M.map (·.1)).Nodup → M.Nodup := fun h => (List.pairwise_map.1 h).imp fun h e => h (by rw [e])
  rw [List.perm_ext_iff_of_nodup (nd h) (nd h')]
  rintro ⟨k, x⟩
  rw [← look_mem h, ← look_mem h', e]
theorem fold_perm {L L' : List Tr} (p : L.Perm L') (hc : ConsK L) : (L.foldl addM []).Perm (L'.foldl addM []) :=
  perm_of_look (fold_keys L (by simp)) (fold_keys L' (by simp)) fun k => fold_look p hc [] [] (fun _ => rfl) k
theorem flatMap_perm {α β : Type} (f : α → List β) {l l' : List α} (p : l.Perm l') : (l.flatMap f).Perm (l'.flatMap f) := by
  rw [List.flatMap_def, List.flatMap_def]
  exact (p.map f).flatten
theorem seen_perm {n : Nat} {seen : List Nat} (h1 : seen.Nodup) (h2 : ∀ s ∈ seen, s < n) (h3 : ∀ s, s < n → s ∈ seen) : seen.Perm (List.range n) := by
  rw [List.perm_ext_iff_of_nodup h1 List.nodup_range]
  intro a
  rw [List.mem_range]
  exact ⟨h2 a, h3 a⟩
def atM {α β : Type} (f : α → List β) (M : List α) (s : Nat) : List β := ((M[s]?).map f).getD []
theorem range_flatMap {α β : Type} (f : α → List β) : ∀ (N : List α), (List.range N.length).flatMap (atM f N) = N.flatMap f
  | [] => rfl
  | x :: N => by
    rw [List.length_cons, List.range_succ_eq_map, List.flatMap_cons, List.flatMap_map, List.flatMap_cons, ← range_flatMap f N]
    rfl
end Go.Proofs.Ytdbflchpbhkanaa.AL

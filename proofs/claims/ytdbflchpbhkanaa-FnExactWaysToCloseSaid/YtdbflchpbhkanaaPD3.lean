/- Words in which each letter stands twice: they cancel if nothing crosses. No condition. -/
import Derived.Test.YtdbflchpbhkanaaPD2
namespace Go.Proofs.Ytdbflchpbhkanaa.AL
open Go
set_option linter.unusedVariables false
set_option linter.unusedSimpArgs false
def Crs (w : List Int) : Prop := ∃ a b, a ≠ b ∧ [a, b, a, b].Sublist w
theorem sub_split {a : Int} {l : List Int} : ∀ {w : List Int}, (a :: l).Sublist w → ∃ P Q, w = P ++ a :: Q ∧ l.Sublist Q
  | [], h => by cases h
  | z :: w, h => by
    cases h with
    | cons _ h =>
      obtain ⟨P, Q, e, hs⟩ := sub_split h
      exact ⟨z :: P, Q, by rw [e]; rfl, hs⟩
    | cons_cons _ h => exact ⟨[], w, rfl, h⟩
theorem sub_mk {a : Int} {l P Q : List Int} (h : l.Sublist Q) : (a :: l).Sublist (P ++ a :: Q) := (h.cons_cons a).trans (List.sublist_append_right P (a :: Q))
theorem sub_one {a : Int} {Q : List Int} (h : a ∈ Q) : [a].Sublist Q := List.singleton_sublist.2 h
theorem skip_sub {x : Int} {Q l : List Int} : ∀ {A : List Int}, x ∉ A → (x :: l).Sublist (A ++ x :: Q) → l.Sublist Q
  | [], _, h => by
    cases h with
    | cons _ h => exact (List.sublist_cons_self x l).trans h
    | cons_cons _ h => exact h
  | z :: A, hA, h => by
    cases h with
    | cons _ h => exact skip_sub (fun e => hA (.tail _ e)) h
    | cons_cons _ h => exact absurd (.head _) hA
theorem no_mid {x b : Int} {A B : List Int} (hx : x ∉ A ++ B) (hb : b ≠ x) : ¬ [x, b, x].Sublist (A ++ x :: x :: B) := fun h => by
  have hA : x ∉ A := fun e => hx (by simp [e])
  have hB : x ∉ B := fun e => hx (by simp [e])
  have h4 := skip_sub hA h
  cases h4 with
  | cons _ h4 => exact hB (h4.subset (by simp))
  | cons_cons _ h4 => exact hb rfl
theorem crs_del {A B : List Int} {x : Int} (hx : x ∉ A ++ B) (h : Crs (A ++ x :: x :: B)) : Crs (A ++ B) := by
  obtain ⟨a, b, hab, hs⟩ := h
  by_cases ha : a = x
  · subst ha
    exact absurd (((List.Sublist.refl [a, b, a]).append (List.nil_sublist [b])).trans hs) (no_mid hx hab.symm)
  · by_cases hb : b = x
    · subst hb
      exact absurd ((List.sublist_cons_self a [b, a, b]).trans hs) (no_mid hx ha)
    · refine ⟨a, b, hab, ?_⟩
      have h1 := hs.filter (fun z => decide (z ≠ x))
      have h2 : ([a, b, a, b] : List Int).filter (fun z => decide (z ≠ x)) = [a, b, a, b] := by simp [ha, hb]
      have h3 : (A ++ x :: x :: B).filter (fun z => decide (z ≠ x)) = A ++ B := by
        have hA : ∀ z ∈ A, z ≠ x := fun z hz e => hx (by simp [← e, hz])
        have hB : ∀ z ∈ B, z ≠ x := fun z hz e => hx (by simp [← e, hz])
        rw [List.filter_append, List.filter_cons_of_neg (by simp), List.filter_cons_of_neg (by simp), List.filter_eq_self.2 (by simpa using hA), List.filter_eq_self.2 (by simpa using hB)]
      rw [h2, h3] at h1
      exact h1
theorem act_nocrs : ∀ (n : Nat) {w : List Int}, w.length ≤ n → Two w → act [] w = [] → ¬ Crs w := by
  intro n
  induction n with
  | zero =>
    intro w hw ht h hc
    have : w = [] := List.eq_nil_of_length_eq_zero (by omega)
    subst this
    obtain ⟨a, b, _, hs⟩ := hc
    cases hs
  | succ n ih =>
    intro w hw ht h hc
    rcases act_split h with rfl | ⟨A, x, B, rfl⟩
    · obtain ⟨a, b, _, hs⟩ := hc
      cases hs
    · rw [act_pair Rd.nil] at h
      exact ih (by simp at hw ⊢; omega) ht.del.1 h (crs_del ht.del.2 hc)
theorem nocrs_act : ∀ (n : Nat) {w : List Int}, w.length ≤ n → Two w → ¬ Crs w → act [] w = [] := by
  intro n
  induction n with
  | zero =>
    intro w hw ht h
    have : w = [] := List.eq_nil_of_length_eq_zero (by omega)
    subst this
    rfl
  | succ n ih =>
    intro w hw ht h
    cases w with
    | nil => rfl
    | cons a r =>
      have hca := ht a (by simp)
      have har : a ∈ r := List.count_pos_iff.1 (by rw [List.count_cons] at hca; simp at hca; omega)
      obtain ⟨M, B, rfl⟩ := List.append_of_mem har
      have hc : ∀ z, (a :: (M ++ a :: B)).count z = M.count z + B.count z + if a = z then 2 else 0 := fun z => by
        simp only [List.count_append, List.count_cons]
        by_cases e : a = z <;> simp [e] <;> omega
      rw [hc, if_pos rfl] at hca
      have haM : a ∉ M := List.count_eq_zero.1 (by omega)
      have haB : a ∉ B := List.count_eq_zero.1 (by omega)
      have hMB : ∀ z ∈ M, z ∉ B := fun z hz hz2 => h ⟨a, z, fun e => haM (e ▸ hz), by
        obtain ⟨P, Q, rfl⟩ := List.append_of_mem hz
        have := sub_mk (P := P) (sub_mk (P := Q) (a := a) (sub_one hz2)) (a := z)
        have := this.cons_cons a
        simpa using this⟩
      have hM : Two M := fun z hz => by
        have h1 := ht z (by simp [hz])
        rw [hc, if_neg (fun e : a = z => haM (e ▸ hz)), List.count_eq_zero.2 (hMB z hz)] at h1
        omega
      have hB : Two B := fun z hz => by
        have h1 := ht z (by simp [hz])
        rw [hc, if_neg (fun e : a = z => haB (e ▸ hz)), List.count_eq_zero.2 (fun h => hMB z h hz)] at h1
        omega
      have sM : M.Sublist (a :: (M ++ a :: B)) := (List.sublist_append_left M (a :: B)).trans (List.sublist_cons_self _ _)
      have sB : B.Sublist (a :: (M ++ a :: B)) := ((List.sublist_cons_self a B).trans (List.sublist_append_right M (a :: B))).trans (List.sublist_cons_self _ _)
      simp only [List.length_cons, List.length_append] at hw
      have aM := ih (by omega) hM (fun ⟨x, y, e, s⟩ => h ⟨x, y, e, s.trans sM⟩)
      have aB := ih (by omega) hB (fun ⟨x, y, e, s⟩ => h ⟨x, y, e, s.trans sB⟩)
      rw [act_cons, act_app, act_cons]
      show act (rs (act [a] M) a) B = []
      rw [act_id M.length (Nat.le_refl _) aM (st := [a]) trivial]
      simpa [rs] using aB
theorem nc_crs {w : List Int} (h : Two w) : NCw w ↔ ¬ Crs w := ⟨fun g => act_nocrs _ (Nat.le_refl _) h g.2, fun g => ⟨h, nocrs_act _ (Nat.le_refl _) h g⟩⟩
def crA (pre : List Int) (x : Int) (r : List Int) : Bool := if x ∈ r then (r.takeWhile (fun z => z != x)).any fun p => decide (p ∈ pre) || decide (p ∈ r.drop ((r.takeWhile (fun z => z != x)).length + 1)) else false
def crX (pre : List Int) : List Int → Bool
  | [] => false
  | x :: r => crA pre x r || crX (pre ++ [x]) r
theorem tw_eq {x : Int} {t : List Int} : ∀ {m : List Int}, x ∉ m → (m ++ x :: t).takeWhile (fun z => z != x) = m
  | [], _ => by simp
  | z :: m, h => by
    have hz : z ≠ x := fun e => h (e ▸ .head _)
    rw [List.cons_append, List.takeWhile_cons, if_pos (by simp [hz]), tw_eq (fun e => h (.tail _ e))]
theorem first_split {x : Int} : ∀ {r : List Int}, x ∈ r → ∃ m t, r = m ++ x :: t ∧ x ∉ m
  | z :: r, h => by
    by_cases e : z = x
    · exact ⟨[], r, by rw [e]; rfl, by simp⟩
    · obtain ⟨m, t, e1, e2⟩ := first_split (r := r) (by rcases List.mem_cons.1 h with h | h; exact absurd h.symm e; exact h)
      exact ⟨z :: m, t, by rw [e1]; rfl, fun h => by rcases List.mem_cons.1 h with h | h; exact e h.symm; exact e2 h⟩
theorem crX_at {s : List Int} {x : Int} {r : List Int} : ∀ {pre : List Int}, crA (pre ++ s) x r = true → crX pre (s ++ x :: r) = true := by
  induction s with
  | nil => intro pre h; rw [List.append_nil] at h; simp [crX, h]
  | cons z s ih =>
    intro pre h
    have : crX (pre ++ [z]) (s ++ x :: r) = true := ih (by simpa using h)
    simp [crX, this]
theorem crX_crs : ∀ (rest pre : List Int), crX pre rest = true → Crs (pre ++ rest)
  | [], pre, h => by cases h
  | x :: r, pre, h => by
    rw [crX, Bool.or_eq_true] at h
    rcases h with h | h
    · unfold crA at h
      split at h
      · rename_i hx
        obtain ⟨m, t, rfl, hm⟩ := first_split hx
        rw [tw_eq hm, List.any_eq_true] at h
        obtain ⟨p, hp, hq⟩ := h
        have hpx : p ≠ x := fun e => hm (e ▸ hp)
        have hd : (m ++ x :: t).drop (m.length + 1) = t := by
          rw [show m ++ x :: t = (m ++ [x]) ++ t by simp, List.drop_left' (by simp)]
        rw [hd] at hq
        obtain ⟨M1, M2, rfl⟩ := List.append_of_mem hp
        rw [Bool.or_eq_true, decide_eq_true_iff, decide_eq_true_iff] at hq
        rcases hq with hq | hq
        · obtain ⟨P1, P2, rfl⟩ := List.append_of_mem hq
          refine ⟨p, x, hpx, ?_⟩
          have h1 : [x].Sublist (M2 ++ x :: t) := sub_one (by simp)
          have := sub_mk (P := P1) (a := p) (sub_mk (P := P2) (a := x) (sub_mk (P := M1) (a := p) h1))
          simpa using this
        · refine ⟨x, p, fun e => hpx e.symm, ?_⟩
          have := sub_mk (P := pre) (a := x) (sub_mk (P := M1) (a := p) (sub_mk (P := M2) (a := x) (sub_one hq)))
          simpa using this
      · cases h
    · have := crX_crs r (pre ++ [x]) h
      simpa using this
theorem crs_crX {w : List Int} (h : Two w) (hc : Crs w) : crX [] w = true := by
  obtain ⟨a, b, hab, hs⟩ := hc
  obtain ⟨P0, Q, rfl, h1⟩ := sub_split hs
  obtain ⟨P1, R, rfl, h2⟩ := sub_split h1
  obtain ⟨P2, T, rfl, h3⟩ := sub_split h2
  have hbT : b ∈ T := List.singleton_sublist.1 h3
  refine crX_at ?_
  have hca := h a (by simp)
  have ha : a ∉ P1 ++ b :: P2 := by
    simp only [List.count_append, List.count_cons, beq_self_eq_true, if_true] at hca
    refine List.count_eq_zero.1 ?_
    simp only [List.count_append, List.count_cons]
    omega
  have e : P1 ++ b :: (P2 ++ a :: T) = (P1 ++ b :: P2) ++ a :: T := by simp
  unfold crA
  rw [if_pos (by simp), e, tw_eq ha, List.any_eq_true]
  refine ⟨b, by simp, ?_⟩
  have hd : ((P1 ++ b :: P2) ++ a :: T).drop ((P1 ++ b :: P2).length + 1) = T := by
    rw [show (P1 ++ b :: P2) ++ a :: T = ((P1 ++ b :: P2) ++ [a]) ++ T by simp, List.drop_left' (by simp; omega)]
  rw [hd]
  simp [hbT]
theorem crX_nc {w : List Int} (h : Two w) : crX [] w = !decide (NCw w) := by
  by_cases hn : NCw w
  · simp only [hn, decide_true, Bool.not_true]
    rw [← Bool.not_eq_true]
    exact fun hc => (nc_crs h).1 hn (crX_crs w [] hc)
  · simp only [hn, decide_false, Bool.not_false]
    exact crs_crX h (Classical.byContradiction fun hc => hn ((nc_crs h).2 hc))
end Go.Proofs.Ytdbflchpbhkanaa.AL

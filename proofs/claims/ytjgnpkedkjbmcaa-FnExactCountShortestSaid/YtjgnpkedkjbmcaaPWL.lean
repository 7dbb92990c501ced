/- How many shortest ways there are: the program's and the reference's are one; the law CountShortest. No condition. -/
import Derived.Test.YtjgnpkedkjbmcaaPWK
import Derived.Test.YtjgnpkedkjbmcaaPA5
import Derived.KernelRfl
namespace Go.Proofs.Ytjgnpkedkjbmcaa.AL
open Go Go.Proofs.Ytjgnpkedkjbmcaa.Arch
set_option linter.unusedVariables false
set_option linter.unusedSimpArgs false
set_option maxRecDepth 100000
def okLen (n : Nat) : Prop := n = 0 ∨ n = 2 ∨ n = 4 ∨ n = 6 ∨ n = 8 ∨ n = 10
theorem lens5 (Q : Nat → Nat → Bool) (h : [0, 2, 4, 6, 8].all (fun n => (List.range (vS n).length).all (Q n)) = true) (h1 : (List.range' 0 14).all (Q 10) = true) (h2 : (List.range' 14 14).all (Q 10) = true) (h3 : (List.range' 28 14).all (Q 10) = true) {n i : Nat} (hn : okLen n) (hi : i < (vS n).length) : Q n i = true := by
  have small : n ∈ [0, 2, 4, 6, 8] → Q n i = true := fun hm => List.all_eq_true.1 (List.all_eq_true.1 h n hm) i (List.mem_range.2 hi)
  rcases hn with e | e | e | e | e | e
  · exact small (by rw [e]; simp)
  · exact small (by rw [e]; simp)
  · exact small (by rw [e]; simp)
  · exact small (by rw [e]; simp)
  · exact small (by rw [e]; simp)
  · subst e
    have hi : i < 42 := hi
    rcases (by omega : i < 14 ∨ (14 ≤ i ∧ i < 28) ∨ 28 ≤ i) with c | c | c
    · exact List.all_eq_true.1 h1 i (List.mem_range'.2 ⟨i, by omega, by omega⟩)
    · exact List.all_eq_true.1 h2 i (List.mem_range'.2 ⟨i - 14, by omega, by omega⟩)
    · exact List.all_eq_true.1 h3 i (List.mem_range'.2 ⟨i - 28, by omega, by omega⟩)
section
variable {n i j fu : Nat}
theorem at_A (m : Nat) (hn : okLen n) (hi : i < (vS n).length) (hj : j < (vS n).length) : F_impl_distance (m + 1000) (sI n i) (sI n j) = some ((dI n i j : Nat) : Int) :=
  eq_of_beq (List.all_eq_true.1 (lens5 (fun n i => kA (m + 1000) n i) (kA_s m) (kA_1 m) (kA_2 m) (kA_3 m) hn hi) j (List.mem_range.2 hj))
theorem at_B (m : Nat) (hn : okLen n) (hi : i < (vS n).length) (hj : j < (vS n).length) : F_spec_exDistance (m + 1000) (sI n i) (sI n j) = some ((dI n i j : Nat) : Int) :=
  eq_of_beq (List.all_eq_true.1 (lens5 (fun n i => kB (m + 1000) n i) (kB_s m) (kB_1 m) (kB_2 m) (kB_3 m) hn hi) j (List.mem_range.2 hj))
theorem at_C (m : Nat) (hn : okLen n) (hi : i < (vS n).length) : F_impl_rankOf (m + 1000) (sI n i) = some (i : Int) ∧ F_impl_neighbours (m + 1000) (sI n i) = some ((nbI n i).map (sI n)) := by
  have h := lens5 (fun n i => kC (m + 1000) n i) (kC_s m) (kC_1 m) (kC_2 m) (kC_3 m) hn hi
  simp only [kC, Bool.and_eq_true] at h
  exact ⟨eq_of_beq h.1, eq_of_beq h.2⟩
theorem at_E (m : Nat) (hn : okLen n) (hi : i < (vS n).length) : ∃ pr l, F_spec_exPairs (m + 1000) (sI n i) = some pr ∧ exS (m + 1000) (sI n i) pr = some (l.map (sI n)) ∧ pr.length ≤ 15 ∧ (∀ k ∈ l, k < (vS n).length) ∧
    ∀ j, j < (vS n).length → dI n i j ≠ 0 → wayI n i j = sumW n j (fun k => Nat.blt (dI n k j) (dI n i j)) l := by
  have h := lens5 (fun n i => kE (m + 1000) n i) (kE_s m) (kE_1 m) (kE_2 m) (kE_3 m) hn hi
  simp only [kE] at h
  split at h
  · rename_i pr e1
    split at h
    · rename_i l e2
      simp only [Bool.and_eq_true, List.all_eq_true, Bool.or_eq_true, beq_iff_eq, Nat.ble_eq, Nat.blt_eq] at h
      obtain ⟨⟨h1, h2⟩, h3, h4⟩ := h
      exact ⟨pr, l.map (vS n).idxOf, e1, by rw [← h1]; exact e2, h2, h3, fun j hj hd => (h4 j (List.mem_range.2 hj)).resolve_left hd⟩
    · cases h
  · cases h
theorem at_T (hn : okLen n) (hi : i < (vS n).length) : (∀ k ∈ nbI n i, k < (vS n).length) ∧ (nbI n i).length ≤ 15 ∧ (sI n i).length = n ∧ (vS n).idxOf (sI n i) = i ∧
    ∀ j, j < (vS n).length → (dI n i j = 0 → wayI n i j = 1) ∧ (dI n i j ≠ 0 → wayI n i j = sumW n j (fun k => dI n k j + 1 == dI n i j) (nbI n i)) := by
  have h0 : n ∈ [0, 2, 4, 6, 8, 10] := by
    rcases hn with e | e | e | e | e | e <;> rw [e] <;> simp
  have h := List.all_eq_true.1 (List.all_eq_true.1 kT_s n h0) i (List.mem_range.2 hi)
  simp only [kT, Bool.and_eq_true, List.all_eq_true, beq_iff_eq, Nat.ble_eq, Nat.blt_eq] at h
  obtain ⟨⟨h1, h2, h3, h4⟩, h5⟩ := h
  refine ⟨h1, h2, h3, h4, fun j hj => ?_⟩
  have h6 := h5 j (List.mem_range.2 hj)
  by_cases hd : dI n i j = 0
  · rw [if_pos hd] at h6
    exact ⟨fun _ => by simpa using h6, fun h => absurd hd h⟩
  · rw [if_neg hd] at h6
    exact ⟨fun h => absurd h hd, fun _ => by simpa using h6⟩
theorem way_lt : wayI n i j < 1024 := Nat.mod_lt _ (by omega)
theorem waysL_eq {f : Nat} {rec : List Int → Option Int} {b : List Int} {D : Nat} (hD : D ≠ 0) (hD2 : D < 8) : ∀ (l : List Nat) (c : Nat), (∀ k ∈ l, F_impl_distance f (sI n k) b = some ((dI n k j : Nat) : Int)) → (∀ k ∈ l, dI n k j + 1 = D → rec (sI n k) = some ((wayI n k j : Nat) : Int)) → c + 1024 * l.length ≤ 100000 →
    waysL f rec b (D : Int) (l.map (sI n)) (c : Int) = some (((c + sumW n j (fun k => dI n k j + 1 == D) l : Nat) : Nat) : Int)
  | [], c, _, _, _ => by simp [waysL, sumW]
  | k :: l, c, h1, h2, hc => by
    have hw := way_lt (n := n) (i := k) (j := j)
    simp only [List.length_cons] at hc
    rw [List.map_cons]
    unfold waysL
    rw [h1 k (by simp), bd_of, isub_id (by omega) (by omega)]
    by_cases e : dI n k j + 1 = D
    · rw [ieq_t (by omega), cond_true, h2 k (by simp) e, bd_of, iadd_id (by omega) (by omega), show ((c : Int) + ((wayI n k j : Nat) : Int)) = ((c + wayI n k j : Nat) : Int) by omega,
        waysL_eq hD hD2 l (c + wayI n k j) (fun x hx => h1 x (by simp [hx])) (fun x hx => h2 x (by simp [hx])) (by omega)]
      have : sumW n j (fun k => dI n k j + 1 == D) (k :: l) = wayI n k j + sumW n j (fun k => dI n k j + 1 == D) l := by
        rw [sumW, if_pos (by simpa using e)]
      rw [this]
      simp only [Option.some.injEq]
      omega
    · rw [ieq_f (by omega), cond_false, waysL_eq hD hD2 l c (fun x hx => h1 x (by simp [hx])) (fun x hx => h2 x (by simp [hx])) (by omega)]
      have : sumW n j (fun k => dI n k j + 1 == D) (k :: l) = sumW n j (fun k => dI n k j + 1 == D) l := by
        rw [sumW, if_neg (by simpa using e)]
      rw [this]
theorem d_lt : dI n i j < 8 := Nat.mod_lt _ (by omega)
theorem impl_ways (hn : okLen n) (hj : j < (vS n).length) : ∀ (D f i : Nat), i < (vS n).length → dI n i j < D → D + 1001 < f → F_impl_countWays (valOf (sI n j)) f (sI n i) (sI n j) = some ((wayI n i j : Nat) : Int) := by
  intro D
  induction D with
  | zero => intro f i hi hd; omega
  | succ D ih =>
    intro f i hi hd hf
    obtain ⟨m, rfl⟩ : ∃ m, f = (m + 1000) + 1 := ⟨f - 1001, by omega⟩
    obtain ⟨t1, t2, t3, t4, t5⟩ := at_T hn hi
    obtain ⟨u1, u2, u3, u4, u5⟩ := at_T hn hj
    obtain ⟨t6, t7⟩ := t5 j hj
    obtain ⟨c1, c2⟩ := at_C m hn hi
    unfold F_impl_countWays
    rw [at_A m hn hi hj, bd_of]
    by_cases h0 : dI n i j = 0
    · rw [ieq_t (by omega), cond_true, t6 h0]
      rfl
    · rw [ieq_f (by omega), cond_false, c1, bd_of, c2, bd_of]
      have key := waysL_eq (f := m + 1000) (rec := fun x => F_impl_countWays (valOf (sI n j)) (m + 1000) x (sI n j)) (b := sI n j) (n := n) (j := j) h0 d_lt (nbI n i) 0 (fun k hk => at_A m hn (t1 k hk) hj) (fun k hk e => ih (m + 1000) k (t1 k hk) (by omega) (by omega)) (by omega)
      rw [Int.natCast_zero, Nat.zero_add] at key
      rw [key, bd_of, ← t7 h0]
      have hv : ((wayI n i j : Nat) : Int) = valOf (sI n j) (i : Int) := by
        unfold valOf
        rw [u3, u4, Int.toNat_natCast]
      rw [gd_t ⟨by simp; omega, hv⟩]
theorem exCount_L {f : Nat} {p b : List Int} {self : List Int → List Int → Option Int} {D : Nat} {P : List (List Int)} (hP : P.length ≤ 15) : ∀ (rest pre : List (List Int)) (l : List Nat) (k m c : Nat), pre ++ rest = P → pre.length = k → rest.length < m → exS f p rest = some (l.map (sI n)) →
    (∀ k ∈ l, F_spec_exDistance f (sI n k) b = some ((dI n k j : Nat) : Int)) → (∀ k ∈ l, dI n k j < D → self (sI n k) b = some ((wayI n k j : Nat) : Int)) → c + 1024 * rest.length ≤ 100000 →
    ∃ z, F_spec_exCount_L1 f self p b (D : Int) P (P.length : Int) m (c : Int) (k : Int) = some ((((c + sumW n j (fun k => Nat.blt (dI n k j) D) l : Nat) : Nat) : Int), z) := by
  intro rest
  induction rest with
  | nil =>
    intro pre l k m c hp hk hm he h1 h2 hc
    cases m with
    | zero => simp at hm
    | succ m =>
      have hkl : k = P.length := by rw [← hp, ← hk]; simp
      have hl : l = [] := by
        simp only [exS, Option.some.injEq] at he
        cases l with
        | nil => rfl
        | cons x l => simp at he
      subst hl
      simp only [F_spec_exCount_L1]
      rw [ilt_f (by omega), cond_false]
      exact ⟨_, by simp [sumW]; rfl⟩
  | cons r rest ih =>
    intro pre l k m c hp hk hm he h1 h2 hc
    cases m with
    | zero => simp at hm
    | succ m =>
      have hlen : k < P.length := by rw [← hp, ← hk]; simp
      have hg : gat [] P (k : Int) = r := by rw [← hp]; subst hk; simp [gat_eq]
      simp only [List.length_cons] at hm hc
      obtain ⟨a, a', x, rfl, e1, lx, e2, e3⟩ : ∃ a a' x, r = [a, a'] ∧ F_spec_exAt f p a a' = some x ∧ ∃ lx, exS f p rest = some lx ∧ l.map (sI n) = x :: lx := by
        unfold exS at he
        split at he
        · rename_i h; cases h
        · rename_i a a' r' h
          cases h
          split at he
          · rename_i x lx e1 e2
            exact ⟨a, a', x, rfl, e1, lx, e2, (Option.some.inj he).symm⟩
          · cases he
        · cases he
      cases l with
      | nil => simp at e3
      | cons y l =>
        simp only [List.map_cons, List.cons.injEq] at e3
        obtain ⟨rfl, rfl⟩ := e3
        have hw := way_lt (n := n) (i := y) (j := j)
        have two0 : inL [a, a'] (0 : Int) := ⟨by omega, by simp⟩
        have two1 : inL [a, a'] (1 : Int) := ⟨by omega, by simp⟩
        have go := fun c' hc' => ih (pre ++ [[a, a']]) l (k + 1) m c' (by rw [← hp]; simp) (by simp [hk]) (by omega) e2 (fun z hz => h1 z (by simp [hz])) (fun z hz => h2 z (by simp [hz])) hc'
        simp only [F_spec_exCount_L1]
        rw [ilt_t (by omega), cond_true, gd_t (inL_nat hlen), hg, gd_t two0, gd_t two1, show gat (0 : Int) [a, a'] 0 = a from rfl, show gat (0 : Int) [a, a'] 1 = a' from rfl, e1, bd_of, h1 y (by simp), bd_of]
        rw [iadd_id (a := (k : Int)) (by omega) (by omega), show ((k : Int) + 1) = ((k + 1 : Nat) : Int) by omega]
        by_cases e : dI n y j < D
        · rw [ilt_t (by omega), cond_true, h2 y (by simp) e, bd_of, iadd_id (by omega) (by omega), show ((c : Int) + ((wayI n y j : Nat) : Int)) = ((c + wayI n y j : Nat) : Int) by omega]
          obtain ⟨z, hz⟩ := go (c + wayI n y j) (by omega)
          refine ⟨z, ?_⟩
          rw [hz]
          have : sumW n j (fun k => Nat.blt (dI n k j) D) (y :: l) = wayI n y j + sumW n j (fun k => Nat.blt (dI n k j) D) l := by
            rw [sumW, if_pos (by simpa using e)]
          rw [this, Nat.add_assoc]
        · rw [ilt_f (by omega), cond_false]
          obtain ⟨z, hz⟩ := go c (by omega)
          refine ⟨z, ?_⟩
          rw [hz]
          have : sumW n j (fun k => Nat.blt (dI n k j) D) (y :: l) = sumW n j (fun k => Nat.blt (dI n k j) D) l := by
            rw [sumW, if_neg (by simpa using e)]
          rw [this]
theorem spec_ways (hn : okLen n) (hj : j < (vS n).length) : ∀ (D f i : Nat), i < (vS n).length → dI n i j < D → D + 1001 < f → F_spec_exCount f (sI n i) (sI n j) = some ((wayI n i j : Nat) : Int) := by
  intro D
  induction D with
  | zero => intro f i hi hd; omega
  | succ D ih =>
    intro f i hi hd hf
    obtain ⟨m, rfl⟩ : ∃ m, f = (m + 1000) + 1 := ⟨f - 1001, by omega⟩
    obtain ⟨t1, t2, t3, t4, t5⟩ := at_T hn hi
    obtain ⟨t6, t7⟩ := t5 j hj
    obtain ⟨pr, l, e1, e2, e3, e4, e5⟩ := at_E m hn hi
    unfold F_spec_exCount
    rw [at_B m hn hi hj, bd_of]
    by_cases h0 : dI n i j = 0
    · rw [ieq_t (by omega), cond_true, t6 h0]
      rfl
    · rw [ieq_f (by omega), cond_false, e1, bd_of]
      obtain ⟨z, hz⟩ := exCount_L (n := n) (j := j) (f := m + 1000) (p := sI n i) (b := sI n j) (self := F_spec_exCount (m + 1000)) (D := dI n i j) e3 pr [] l 0 (m + 1000) 0 rfl rfl (by omega) e2 (fun k hk => at_B m hn (e4 k hk) hj) (fun k hk e => ih (m + 1000) k (e4 k hk) (by omega) (by omega)) (by omega)
      rw [Int.natCast_zero, Nat.zero_add] at hz
      simp only [llen]
      rw [hz, bd_of, ← e5 j hj h0]
end
def inV (p : List Int) : Bool := (vS p.length).contains p
theorem inV_0 : [0, 2, 4, 6, 8, 10].all (fun n => (sysN n).all inV) = true := by kernel_rfl
theorem in_vS {p : List Int} (hp : sysB p = true) (hl : p.length ≤ 10) : okLen p.length ∧ ∃ i, i < (vS p.length).length ∧ sI p.length i = p := by
  have l := sys_lens hp
  have ok : okLen p.length := by
    unfold okLen
    omega
  refine ⟨ok, ?_⟩
  have h0 : p.length ∈ [0, 2, 4, 6, 8, 10] := by
    rcases ok with e | e | e | e | e | e <;> rw [e] <;> simp
  have h := sys_at (List.all_eq_true.1 inV_0 p.length h0) hp rfl
  unfold inV at h
  rw [List.contains_iff_mem] at h
  obtain ⟨i, hi, e⟩ := List.mem_iff_getElem.1 h
  exact ⟨i, hi, by unfold sI; simp [hi, e]⟩
theorem few_eq {p q : List Int} (h1 : p.length ≤ 1048576) (h2 : q.length ≤ 1048576) : F_spec_exFew 2000000 p q = some (((sysB p && sysB q) && decide (p.length = q.length)) && decide (p.length ≤ 10)) ∧ F_impl_isExchanged 2000000 p q = some (((sysB p && sysB q) && decide (p.length = q.length)) && decide (p.length ≤ 10)) := by
  unfold F_spec_exFew F_impl_isExchanged F_spec_exPair
  rw [mePair_eq (by omega) (by omega) (by omega) (by omega), IsPair_eq (by omega) (by omega) (by omega) (by omega), bd_of, bd_of]
  cases ((sysB p && sysB q) && decide (p.length = q.length))
  · exact ⟨rfl, rfl⟩
  · by_cases h : p.length ≤ 10
    · rw [ile_t (by simp only [llen]; omega), decide_eq_true h]
      exact ⟨rfl, rfl⟩
    · rw [ile_f (by simp only [llen]; omega), decide_eq_false h]
      exact ⟨rfl, rfl⟩
theorem short_eq {p q : List Int} (h1 : p.length ≤ 1048576) (h2 : q.length ≤ 1048576) : ∃ S : Int × Bool, F_spec_CountShortest 2000000 p q = some S ∧ F_impl_CountShortest 2000000 p q = some S := by
  obtain ⟨e1, e2⟩ := few_eq h1 h2
  unfold F_spec_CountShortest F_impl_CountShortest
  rw [e1, e2, bd_of, bd_of]
  cases h : (((sysB p && sysB q) && decide (p.length = q.length)) && decide (p.length ≤ 10))
  · exact ⟨_, rfl, rfl⟩
  · simp only [Bool.and_eq_true, decide_eq_true_eq] at h
    obtain ⟨⟨⟨hp, hq⟩, hl⟩, h10⟩ := h
    obtain ⟨ok, i, hi, ei⟩ := in_vS hp h10
    obtain ⟨_, j, hj, ej⟩ := in_vS hq (by omega)
    rw [← hl] at hj ej
    have a1 := impl_ways ok hj 8 2000000 i hi d_lt (by omega)
    have a2 := spec_ways ok hj 8 2000000 i hi d_lt (by omega)
    rw [ei, ej] at a1 a2
    simp only [bnot, Bool.not_true, cond_false]
    rw [a1, a2]
    exact ⟨_, rfl, rfl⟩
theorem law_CountShortest {a b : List Int} (ha : a.length ≤ 9223372036854775807) (hb : b.length ≤ 9223372036854775807) : F_laws_FnExactCountShortest 2000000 a b = some true := by
  unfold F_laws_FnExactCountShortest
  by_cases h1 : a.length ≤ 1048576
  · rw [ilt_f (by simp only [llen]; omega), cond_false]
    by_cases h2 : b.length ≤ 1048576
    · rw [ilt_f (by simp only [llen]; omega), cond_false]
      have t1 := toIntS_eq (fu := 2000000) (xs := a) (by omega) (by omega)
      have t2 := toIntS_eq (fu := 2000000) (xs := b) (by omega) (by omega)
      have q1 := eqIntS_eq (fu := 2000000) (xs := a) (by omega) (by omega)
      have q2 := eqIntS_eq (fu := 2000000) (xs := b) (by omega) (by omega)
      obtain ⟨S, e1, e2⟩ := short_eq h1 h2
      simp [t1, t2, q1, q2, e1, e2, bnot, bne', ine_eq]
    · rw [ilt_t (by simp only [llen]; omega), cond_true]
  · rw [ilt_t (by simp only [llen]; omega), cond_true]
end Go.Proofs.Ytjgnpkedkjbmcaa.AL

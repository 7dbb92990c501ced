/- Ways of a pair, and its colours: plain mathematics. No condition. -/
import Derived.Test.YtbckijeffiofdaaQArch
namespace Go.Proofs.Ytbckijeffiofdaa.AL
open Go.Proofs.Ytbckijeffiofdaa.Arch
set_option linter.unusedVariables false
set_option linter.unusedSimpArgs false

theorem pigeon : ∀ (n : Nat) (f : Nat → Nat), (∀ j, j ≤ n → f j < n) → ∃ j k, j < k ∧ k ≤ n ∧ f j = f k
  | 0, f, h => by have := h 0 (Nat.le_refl _); omega
  | n + 1, f, h => by
    by_cases h1 : ∃ j, j ≤ n ∧ f j = f (n + 1)
    · obtain ⟨j, hj, e⟩ := h1
      exact ⟨j, n + 1, by omega, by omega, e⟩
    · have h2 : ∀ j, j ≤ n → f j ≠ f (n + 1) := fun j hj e => h1 ⟨j, hj, e⟩
      have hl := h (n + 1) (by omega)
      obtain ⟨j, k, hjk, hk, e⟩ := pigeon n (fun j => if f j = n then f (n + 1) else f j) (fun j hj => by
        have a := h j (by omega)
        have b := h2 j hj
        split <;> omega)
      refine ⟨j, k, hjk, by omega, ?_⟩
      have bj := h2 j (by omega)
      have bk := h2 k hk
      split at e <;> split at e <;> omega
structure Two (p q : List Int) : Prop where
  sp : ArcS p
  sq : ArcS q
  len : q.length = p.length
def step (p q : List Int) (i : Int) : Int := gt q (gt p i)
def iter (p q : List Int) : Nat → Int → Int
  | 0, i => i
  | k + 1, i => step p q (iter p q k i)
section
variable {p q : List Int} {i : Int}
theorem Two.in1 (h : Two p q) (h0 : 0 ≤ i) (h1 : i < p.length) : 0 ≤ gt p i ∧ gt p i < p.length ∧ 0 ≤ step p q i ∧ step p q i < p.length := by
  have a := h.sp.lo i h0 h1
  have b := h.sp.hi i h0 h1
  have l := h.len
  have c := h.sq.lo (gt p i) a (by omega)
  have d := h.sq.hi (gt p i) a (by omega)
  exact ⟨a, b, c, by unfold step; omega⟩
theorem Two.inj (h : Two p q) {j : Int} (h0 : 0 ≤ i) (h1 : i < p.length) (k0 : 0 ≤ j) (k1 : j < p.length) (e : step p q i = step p q j) : i = j := by
  have l := h.len
  have a := h.in1 h0 h1
  have b := h.in1 k0 k1
  unfold step at e
  have e2 := congrArg (gt q) e
  rw [h.sq.inv _ a.1 (by omega), h.sq.inv _ b.1 (by omega)] at e2
  have e3 := congrArg (gt p) e2
  rwa [h.sp.inv _ h0 h1, h.sp.inv _ k0 k1] at e3
theorem Two.iter_in (h : Two p q) (h0 : 0 ≤ i) (h1 : i < p.length) : ∀ k, 0 ≤ iter p q k i ∧ iter p q k i < p.length
  | 0 => ⟨h0, h1⟩
  | k + 1 => by
    obtain ⟨a, b⟩ := h.iter_in h0 h1 k
    exact ⟨(h.in1 a b).2.2.1, (h.in1 a b).2.2.2⟩
theorem Two.back (h : Two p q) (h0 : 0 ≤ i) (h1 : i < p.length) : ∀ (j d : Nat), iter p q j i = iter p q (j + d) i → iter p q d i = i
  | 0, d, e => by rw [Nat.zero_add] at e; exact e.symm
  | j + 1, d, e => by
    have a := h.iter_in h0 h1 j
    have b := h.iter_in h0 h1 (j + d)
    rw [show j + 1 + d = (j + d) + 1 by omega] at e
    exact h.back h0 h1 j d (h.inj a.1 a.2 b.1 b.2 e)
theorem Two.returns (h : Two p q) (h0 : 0 ≤ i) (h1 : i < p.length) : ∃ m, 0 < m ∧ m ≤ p.length ∧ iter p q m i = i := by
  obtain ⟨j, k, hjk, hk, e⟩ := pigeon p.length (fun j => (iter p q j i).toNat) (fun j _ => by have := h.iter_in h0 h1 j; omega)
  have a := h.iter_in h0 h1 j
  have b := h.iter_in h0 h1 k
  refine ⟨k - j, by omega, by omega, h.back h0 h1 j (k - j) ?_⟩
  rw [show j + (k - j) = k by omega]
  omega
def per (p q : List Int) (i : Int) : Nat := (((List.range p.length).find? fun k => decide (iter p q (k + 1) i = i)).getD 0) + 1
theorem Two.per_spec (h : Two p q) (h0 : 0 ≤ i) (h1 : i < p.length) : 0 < per p q i ∧ per p q i ≤ p.length ∧ iter p q (per p q i) i = i ∧ ∀ k, 0 < k → k < per p q i → iter p q k i ≠ i := by
  obtain ⟨m, m0, m1, m2⟩ := h.returns h0 h1
  unfold per
  cases hf : (List.range p.length).find? fun k => decide (iter p q (k + 1) i = i) with
  | none =>
    rw [List.find?_eq_none] at hf
    exact absurd (by simpa [show m - 1 + 1 = m by omega] using m2) (hf (m - 1) (List.mem_range.2 (by omega)))
  | some x =>
    rw [List.find?_range_eq_some] at hf
    obtain ⟨a, b, c⟩ := hf
    refine ⟨by simp, by simp at b ⊢; omega, by simpa using a, fun k k0 k1 => ?_⟩
    simp at k1
    have := c (k - 1) (by omega)
    rw [show k - 1 + 1 = k by omega] at this
    simpa using this
def wayTo (p q : List Int) (i : Int) (k : Nat) : List Int := (List.range k).flatMap fun j => [iter p q j i, gt p (iter p q j i)]
theorem wayTo_succ {k : Nat} : wayTo p q i (k + 1) = wayTo p q i k ++ [iter p q k i, gt p (iter p q k i)] := by
  unfold wayTo
  rw [List.range_succ, List.flatMap_append]
  simp
theorem wayTo_len {k : Nat} : (wayTo p q i k).length = 2 * k := by
  induction k with
  | zero => rfl
  | succ k ih => rw [wayTo_succ]; simp [ih]; omega
def wayL (p q : List Int) (i : Int) : List Int := wayTo p q i (per p q i)
theorem Two.way_in (h : Two p q) (h0 : 0 ≤ i) (h1 : i < p.length) {k : Nat} : ∀ x ∈ wayTo p q i k, 0 ≤ x ∧ x < p.length := by
  intro x hx
  obtain ⟨j, _, hj⟩ := List.mem_flatMap.1 hx
  have a := h.iter_in h0 h1 j
  have b := h.in1 a.1 a.2
  rcases List.mem_cons.1 hj with rfl | hj
  · exact a
  · rcases List.mem_cons.1 hj with rfl | hj
    · exact ⟨b.1, b.2.1⟩
    · cases hj
end
end Go.Proofs.Ytbckijeffiofdaa.AL

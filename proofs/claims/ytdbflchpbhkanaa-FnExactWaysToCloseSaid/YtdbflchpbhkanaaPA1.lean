/- Plain laws of the laws' own functions: what they answer. No condition. -/
import Derived.Test.YtdbflchpbhkanaaG1
import Derived.Test.YtdbflchpbhkanaaG2
import Derived.Test.YtdbflchpbhkanaaG3
import Derived.Test.YtdbflchpbhkanaaG4
import Derived.Test.YtdbflchpbhkanaaG5
import Derived.Test.YtdbflchpbhkanaaG6
import Derived.Test.YtdbflchpbhkanaaG7
import Derived.Test.YtdbflchpbhkanaaG8
namespace Go.Proofs.Ytdbflchpbhkanaa.AL
open Go
set_option linter.unusedVariables false
set_option linter.unusedSimpArgs false

theorem iadd_id {a b : Int} (h0 : -9223372036854775808 ≤ a + b) (h1 : a + b ≤ 9223372036854775807) : iadd .i64 a b = a + b := (wrF_eq _ _).trans (wrap_id h0 h1)
theorem isub_id {a b : Int} (h0 : -9223372036854775808 ≤ a - b) (h1 : a - b ≤ 9223372036854775807) : isub .i64 a b = a - b := (wrF_eq _ _).trans (wrap_id h0 h1)
theorem ilt_t {a b : Int} (h : a < b) : ilt a b = true := by simp [ilt_eq, h]
theorem ilt_f {a b : Int} (h : ¬ a < b) : ilt a b = false := by simp [ilt_eq]; omega
theorem ile_t {a b : Int} (h : a ≤ b) : ile a b = true := by simp [ile_eq, h]
theorem ile_f {a b : Int} (h : ¬ a ≤ b) : ile a b = false := by simp [ile_eq]; omega
theorem ieq_t {a b : Int} (h : a = b) : ieq a b = true := by simp [ieq_eq, h]
theorem ieq_f {a b : Int} (h : a ≠ b) : ieq a b = false := by simp [ieq_eq, h]
theorem ine_t {a b : Int} (h : a ≠ b) : ine a b = true := by simp [ine_eq, h]
theorem ine_f {a b : Int} (h : a = b) : ine a b = false := by simp [ine_eq, h]
theorem gd_t {α : Type} {c : Prop} {inst : Decidable c} {k : Option α} (h : c) : @gd α c inst k = k := if_pos h
theorem subL_mk {α : Type} {xs : List α} {a b : Int} (h0 : 0 ≤ a) (h1 : a ≤ b) (h2 : b ≤ xs.length) : subL xs a b := ⟨h0, h1, h2⟩
theorem gat_nat {α : Type} {d : α} {xs : List α} {k : Nat} (h : k < xs.length) : gat d xs (k : Int) = xs[k] := by simp [gat_eq, List.getD_eq_getElem?_getD, h]
theorem inL_nat {α : Type} {xs : List α} {k : Nat} (h : k < xs.length) : inL xs (k : Int) := ⟨by omega, by omega⟩
theorem lset_nat {α : Type} {xs : List α} {k : Nat} {x : α} : lset xs (k : Int) x = xs.set k x := rfl
theorem take_succ_eq {α : Type} {xs ys : List α} {k : Nat} (h : xs.take k = ys.take k) (hx : k < xs.length) (hy : k < ys.length) (he : xs[k] = ys[k]) : xs.take (k + 1) = ys.take (k + 1) := by
  rw [List.take_succ_eq_append_getElem hx, List.take_succ_eq_append_getElem hy, h, he]

theorem toIntS_L {fu : Nat} {xs : List Int} (hx : xs.length ≤ 4294967296) : ∀ (d k n : Nat) (ys : List Int), k + d = xs.length → d < n → ys.length = xs.length → ys.take k = xs.take k → F_laws_toIntS_L1 fu xs n ys (k : Int) = some (xs, (xs.length : Int)) := by
  intro d
  induction d with
  | zero =>
    intro k n ys hk hn hl ht
    cases n with
    | zero => omega
    | succ n =>
      have : k = xs.length := by omega
      subst this
      rw [List.take_of_length_le (by omega), List.take_of_length_le (Nat.le_refl _)] at ht
      subst ht
      simp only [F_laws_toIntS_L1, llen]
      rw [ilt_f (by omega), cond_false]
  | succ d ih =>
    intro k n ys hk hn hl ht
    cases n with
    | zero => omega
    | succ n =>
      simp only [F_laws_toIntS_L1, llen]
      rw [ilt_t (by omega), cond_true, gd_true (inL_nat (by omega)), gd_true (inL_nat (by omega)), iadd_id (by omega) (by omega), gat_nat (by omega), lset_nat]
      refine ih (k + 1) n _ (by omega) (by omega) (by simp [hl]) (take_succ_eq ?_ (by simp; omega) (by omega) (by simp))
      rw [List.take_set_of_le (Nat.le_refl k), ht]
theorem toIntS_eq {fu : Nat} {xs : List Int} (hx : xs.length ≤ 4294967296) (hf : xs.length < fu) : F_laws_toIntS fu xs = some xs := by
  unfold F_laws_toIntS
  rw [gd_true (by unfold llen; omega)]
  have := toIntS_L (fu := fu) hx xs.length 0 fu (lrep (llen xs) 0) (by omega) hf (by simp [lrep, llen]) (by simp)
  rw [Int.natCast_zero] at this
  rw [this]
  rfl
theorem eqIntS_L {fu : Nat} {xs : List Int} (hx : xs.length ≤ 4294967296) : ∀ (d k n : Nat), k + d = xs.length → d < n → F_laws_eqIntS_L1 fu xs xs n (k : Int) = some (.brk (xs.length : Int)) := by
  intro d
  induction d with
  | zero =>
    intro k n hk hn
    cases n with
    | zero => omega
    | succ n =>
      simp only [F_laws_eqIntS_L1, llen]
      rw [ilt_f (by omega), cond_false]
      congr 2
      omega
  | succ d ih =>
    intro k n hk hn
    cases n with
    | zero => omega
    | succ n =>
      simp only [F_laws_eqIntS_L1, llen]
      rw [ilt_t (by omega), cond_true, gd_true (inL_nat (by omega)), gd_true (inL_nat (by omega)), ine_f rfl, cond_false, iadd_id (by omega) (by omega)]
      exact ih (k + 1) n (by omega) (by omega)
theorem eqIntS_eq {fu : Nat} {xs : List Int} (hx : xs.length ≤ 4294967296) (hf : xs.length < fu) : F_laws_eqIntS fu xs xs = some true := by
  have := eqIntS_L (fu := fu) hx xs.length 0 fu (by omega) hf
  rw [Int.natCast_zero] at this
  simp [F_laws_eqIntS, ine_f, this, lr]
theorem szIntS_eq {fu : Nat} {xs : List Int} {n : Int} (h0 : 0 ≤ n) (h1 : n ≤ 1048576) (hx : xs.length ≤ 9223372036854775807) : F_laws_szIntS fu xs n = some (if (xs.length : Int) ≤ n then n - (xs.length : Int) else -1) := by
  simp only [F_laws_szIntS, llen, isub_id (a := n) (b := (xs.length : Int)) (by omega) (by omega)]
  by_cases h : (xs.length : Int) ≤ n
  · rw [ilt_f (by omega), cond_false, if_pos h]
  · rw [ilt_t (by omega), cond_true, if_neg h]
end Go.Proofs.Ytdbflchpbhkanaa.AL

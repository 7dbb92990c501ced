/- Plain laws of the laws' own functions: what they answer. No condition. -/
import Derived.Test.YtdbflchpbhkanaaG1
import Derived.Test.YtdbflchpbhkanaaG2
import Derived.Test.YtdbflchpbhkanaaG3
import Derived.Test.YtdbflchpbhkanaaG4
import Derived.Test.YtdbflchpbhkanaaG5
import Derived.Test.YtdbflchpbhkanaaG6
import Derived.Test.YtdbflchpbhkanaaG7
import Derived.Test.YtdbflchpbhkanaaG8
namespace Go.Proofs.Ytdbflchpbhkanaa.AL
open Go
set_option linter.unusedVariables false
set_option linter.unusedSimpArgs false

theorem iadd_id {a b : Int} (h0 : -9223372036854775808 ≤ a + b) (h1 : a + b ≤ 9223372036854775807) : iadd .i64 a b = a + b := (wrF_eq _ _).trans (wrap_id h0 h1)
theorem isub_id {a b : Int} (h0 : -9223372036854775808 ≤ a - b) (h1 : a - b ≤ 9223372036854775807) : isub .i64 a b = a - b := (wrF_eq _ _).trans (wrap_id h0 h1)
theorem ilt_t {a b : Int} (h : a < b) : ilt a b = true := by simp [ilt_eq, h]
theorem ilt_f {a b : Int} (h : ¬ a < b) : ilt a b = false := by simp [ilt_eq]; omega
theorem ile_t {a b : Int} (h : a ≤ b) : ile a b = true := by simp [ile_eq, h]
theorem ile_f {a b : Int} (h : ¬ a ≤ b) : ile a b = false := by simp [ile_eq]; omega
theorem ieq_t {a b : Int} (h : a = b) : ieq a b = true := by simp [ieq_eq, h]
theorem ieq_f {a b : Int} (h : a ≠ b) : ieq a b = false := by simp [ieq_eq, h]
theorem ine_t {a b : Int} (h : a ≠ b) : ine a b = true := by simp [ine_eq, h]
theorem ine_f {a b : Int} (h : a = b) : ine a b = false := by simp [ine_eq, h]
theorem gd_t {α : Type} {c : Prop} {inst : Decidable c} {k : Option α} (h : c) : @gd α c inst k = k := if_pos h
theorem subL_mk {α : Type} {xs : List α} {a b : Int} (h0 : 0 ≤ a) (h1 : a ≤ b) (h2 : b ≤ xs.length) : subL xs a b := ⟨h0, h1, h2⟩
theorem gat_nat {α : Type} {d : α} {xs : List α} {k : Nat} (h : k < xs.length) : gat d xs (k : Int) = xs[k] := by simp [gat_eq, List.getD_eq_getElem?_getD, h]
theorem inL_nat {α : Type} {xs : List α} {k : Nat} (h : k < xs.length) : inL xs (k : Int) := ⟨by omega, by omega⟩
theorem lset_nat {α : Type} {xs : List α} {k : Nat} {x : α} : lset xs (k : Int) x = xs.set k x := rfl
theorem take_succ_eq {α : Type} {xs ys : List α} {k : Nat} (h : xs.take k = ys.take k) (hx : k < xs.length) (hy : k < ys.length) (he : xs[k] = ys[k]) : xs.take (k + 1) = ys.take (k + 1) := by
  rw [List.take_succ_eq_append_getElem hx, List.take_succ_eq_append_getElem hy, h, he]

theorem eqIntS_L {fu : Nat} {xs : List Int} (hx : xs.length ≤ 4294967296) : ∀ (d k n : Nat), k + d = xs.length → d < n → F_laws_eqIntS_L1 fu xs xs n (k : Int) = some (.brk (xs.length : Int)) := by
  intro d
  induction d with
  | zero =>
    intro k n hk hn
    cases n with
    | zero => omega
    | succ n =>
      simp only [F_laws_eqIntS_L1, llen]
      rw [ilt_f (by omega), cond_false]
      congr 2
      omega
  | succ d ih =>
    intro k n hk hn
    cases n with
    | zero => omega
    | succ n =>
      simp only [F_laws_eqIntS_L1, llen]
      rw [ilt_t (by omega), cond_true, gd_true (inL_nat (by omega)), gd_true (inL_nat (by omega)), ine_f rfl, cond_false, iadd_id (by omega) (by omega)]
      exact ih (k + 1) n (by omega) (by omega)
theorem eqIntS_eq {fu : Nat} {xs : List Int} (hx : xs.length ≤ 4294967296) (hf : xs.length < fu) : F_laws_eqIntS fu xs xs = some true := by
  have := eqIntS_L (fu := fu) hx xs.length 0 fu (by omega) hf
  rw [Int.natCast_zero] at this
  simp [F_laws_eqIntS, ine_f, this, lr]
def marks (k : Int) (n : Nat) : List Int := (List.range n).map fun i : Nat => k + (i : Int)
theorem marks_len {k : Int} {n : Nat} : (marks k n).length = n := by simp [marks]
theorem marks_get {k : Int} {n i : Nat} (h : i < (marks k n).length) : (marks k n)[i] = k + (i : Int) := by simp [marks]
theorem markIntS_L {fu : Nat} {m : Int} (h0 : 0 ≤ m) : ∀ (d k n : Nat) (xs : List Int), k + d = xs.length → d < n → xs.take k = marks m k → m + (xs.length : Int) ≤ 4294967296 → F_laws_markIntS_L1 fu n xs (m + (k : Int)) (k : Int) = some (marks m xs.length, m + (xs.length : Int), (xs.length : Int)) := by
  intro d
  induction d with
  | zero =>
    intro k n xs hk hn ht hm
    cases n with
    | zero => omega
    | succ n =>
      have : k = xs.length := by omega
      subst this
      rw [List.take_of_length_le (Nat.le_refl _)] at ht
      simp only [F_laws_markIntS_L1, llen]
      rw [ilt_f (by omega), cond_false, ← ht]
  | succ d ih =>
    intro k n xs hk hn ht hm
    cases n with
    | zero => omega
    | succ n =>
      simp only [F_laws_markIntS_L1, llen]
      rw [ilt_t (by omega), cond_true, gd_true (inL_nat (by omega)), iadd_id (by omega) (by omega), iadd_id (by omega) (by omega), lset_nat]
      have := ih (k + 1) n (xs.set k (m + (k : Int))) (by simp; omega) (by omega) (by
        have hk' : k < (xs.set k (m + (k : Int))).length := by simp; omega
        rw [List.take_succ_eq_append_getElem hk', List.take_set_of_le (Nat.le_refl k), ht, List.getElem_set_self]
        simp [marks, List.range_succ]) (by simpa using hm)
      rw [List.length_set] at this
      rw [← this]
      congr 1
      omega
theorem markIntS_eq {fu : Nat} {xs : List Int} {m : Int} (h0 : 0 ≤ m) (hm : m + (xs.length : Int) ≤ 4294967296) (hf : xs.length < fu) : F_laws_markIntS fu xs m = some (m + (xs.length : Int), marks m xs.length) := by
  have := markIntS_L (fu := fu) h0 xs.length 0 fu xs (by omega) hf (by simp [marks]) hm
  rw [Int.natCast_zero, Int.add_zero] at this
  simp [F_laws_markIntS, this]
theorem heldIntS_L {fu : Nat} {m : Int} {len : Nat} (h0 : 0 ≤ m) (hm : m + (len : Int) ≤ 4294967296) : ∀ (d k n : Nat), k + d = len → d < n → F_laws_heldIntS_L1 fu (marks m len) n (m + (k : Int)) (k : Int) = some (.brk (m + (len : Int), (len : Int))) := by
  intro d
  induction d with
  | zero =>
    intro k n hk hn
    cases n with
    | zero => omega
    | succ n =>
      have : k = len := by omega
      subst this
      simp only [F_laws_heldIntS_L1, llen, marks_len]
      rw [ilt_f (by omega), cond_false]
  | succ d ih =>
    intro k n hk hn
    cases n with
    | zero => omega
    | succ n =>
      simp only [F_laws_heldIntS_L1, llen, marks_len]
      rw [ilt_t (by omega), cond_true, gd_true (inL_nat (by rw [marks_len]; omega)), gat_nat (by rw [marks_len]; omega), marks_get, ine_f rfl, cond_false, iadd_id (by omega) (by omega), iadd_id (by omega) (by omega)]
      rw [← ih (k + 1) n (by omega) (by omega)]
      congr 1
      omega
theorem heldIntS_eq {fu : Nat} {m : Int} {len : Nat} (h0 : 0 ≤ m) (hm : m + (len : Int) ≤ 4294967296) (hf : len < fu) : F_laws_heldIntS fu (marks m len) m = some (m + (len : Int)) := by
  have := heldIntS_L (fu := fu) h0 hm len 0 fu (by omega) hf
  rw [Int.natCast_zero, Int.add_zero] at this
  simp [F_laws_heldIntS, this, lr]
end Go.Proofs.Ytdbflchpbhkanaa.AL

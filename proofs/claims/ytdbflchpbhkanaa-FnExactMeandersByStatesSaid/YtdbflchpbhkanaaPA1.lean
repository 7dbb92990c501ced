/- Plain laws of the laws' own functions: what they answer. No condition. -/
import Derived.Test.YtdbflchpbhkanaaG1
import Derived.Test.YtdbflchpbhkanaaG2
import Derived.Test.YtdbflchpbhkanaaG3
import Derived.Test.YtdbflchpbhkanaaG4
import Derived.Test.YtdbflchpbhkanaaG5
import Derived.Test.YtdbflchpbhkanaaG6
import Derived.Test.YtdbflchpbhkanaaG7
import Derived.Test.YtdbflchpbhkanaaG8
namespace Go.Proofs.Ytdbflchpbhkanaa.AL
open Go
set_option linter.unusedVariables false
set_option linter.unusedSimpArgs false

theorem iadd_id {a b : Int} (h0 : -9223372036854775808 ≤ a + b) (h1 : a + b ≤ 9223372036854775807) : iadd .i64 a b = a + b := (wrF_eq _ _).trans (wrap_id h0 h1)
theorem isub_id {a b : Int} (h0 : -9223372036854775808 ≤ a - b) (h1 : a - b ≤ 9223372036854775807) : isub .i64 a b = a - b := (wrF_eq _ _).trans (wrap_id h0 h1)
theorem ilt_t {a b : Int} (h : a < b) : ilt a b = true := by simp [ilt_eq, h]
theorem ilt_f {a b : Int} (h : ¬ a < b) : ilt a b = false := by simp [ilt_eq]; omega
theorem ile_t {a b : Int} (h : a ≤ b) : ile a b = true := by simp [ile_eq, h]
theorem ile_f {a b : Int} (h : ¬ a ≤ b) : ile a b = false := by simp [ile_eq]; omega
theorem ieq_t {a b : Int} (h : a = b) : ieq a b = true := by simp [ieq_eq, h]
theorem ieq_f {a b : Int} (h : a ≠ b) : ieq a b = false := by simp [ieq_eq, h]
theorem ine_t {a b : Int} (h : a ≠ b) : ine a b = true := by simp [ine_eq, h]
theorem ine_f {a b : Int} (h : a = b) : ine a b = false := by simp [ine_eq, h]
theorem gd_t {α : Type} {c : Prop} {inst : Decidable c} {k : Option α} (h : c) : @gd α c inst k = k := if_pos h
theorem subL_mk {α : Type} {xs : List α} {a b : Int} (h0 : 0 ≤ a) (h1 : a ≤ b) (h2 : b ≤ xs.length) : subL xs a b := ⟨h0, h1, h2⟩
theorem gat_nat {α : Type} {d : α} {xs : List α} {k : Nat} (h : k < xs.length) : gat d xs (k : Int) = xs[k] := by simp [gat_eq, List.getD_eq_getElem?_getD, h]
theorem inL_nat {α : Type} {xs : List α} {k : Nat} (h : k < xs.length) : inL xs (k : Int) := ⟨by omega, by omega⟩
theorem lset_nat {α : Type} {xs : List α} {k : Nat} {x : α} : lset xs (k : Int) x = xs.set k x := rfl
theorem take_succ_eq {α : Type} {xs ys : List α} {k : Nat} (h : xs.take k = ys.take k) (hx : k < xs.length) (hy : k < ys.length) (he : xs[k] = ys[k]) : xs.take (k + 1) = ys.take (k + 1) := by
  rw [List.take_succ_eq_append_getElem hx, List.take_succ_eq_append_getElem hy, h, he]

end Go.Proofs.Ytdbflchpbhkanaa.AL

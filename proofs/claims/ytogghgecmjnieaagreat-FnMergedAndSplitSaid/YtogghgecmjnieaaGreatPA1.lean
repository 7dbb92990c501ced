/- Plain laws of the laws' own functions: what they answer. No condition. -/
import Derived.Test.YtogghgecmjnieaaGreatG1
import Derived.Test.YtogghgecmjnieaaGreatG2
import Derived.Test.YtogghgecmjnieaaGreatG3
import Derived.Test.YtogghgecmjnieaaGreatG4
import Derived.Test.YtogghgecmjnieaaGreatG5
import Derived.Test.YtogghgecmjnieaaGreatG6
import Derived.Test.YtogghgecmjnieaaGreatG7
import Derived.Test.YtogghgecmjnieaaGreatG8
import Derived.Test.YtogghgecmjnieaaGreatG9
import Derived.Test.YtogghgecmjnieaaGreatG10
import Derived.Test.YtogghgecmjnieaaGreatG11
import Derived.Test.YtogghgecmjnieaaGreatG12
import Derived.Test.YtogghgecmjnieaaGreatG13
import Derived.Test.YtogghgecmjnieaaGreatG14
import Derived.Test.YtogghgecmjnieaaGreatG15
namespace Go.Proofs.YtogghgecmjnieaaGreat.AL
open Go
set_option linter.unusedVariables false
set_option linter.unusedSimpArgs false
theorem iadd_id {a b : Int} (h0 : -9223372036854775808 ≤ a + b) (h1 : a + b ≤ 9223372036854775807) : iadd .i64 a b = a + b := (wrF_eq _ _).trans (wrap_id h0 h1)
theorem isub_id {a b : Int} (h0 : -9223372036854775808 ≤ a - b) (h1 : a - b ≤ 9223372036854775807) : isub .i64 a b = a - b := (wrF_eq _ _).trans (wrap_id h0 h1)
theorem ilt_t {a b : Int} (h : a < b) : ilt a b = true := by simp [ilt_eq, h]
theorem ilt_f {a b : Int} (h : ¬ a < b) : ilt a b = false := by simp [ilt_eq]; omega
theorem ile_t {a b : Int} (h : a ≤ b) : ile a b = true := by simp [ile_eq, h]
theorem ile_f {a b : Int} (h : ¬ a ≤ b) : ile a b = false := by simp [ile_eq]; omega
theorem ieq_t {a b : Int} (h : a = b) : ieq a b = true := by simp [ieq_eq, h]
theorem ieq_f {a b : Int} (h : a ≠ b) : ieq a b = false := by simp [ieq_eq, h]
theorem ine_t {a b : Int} (h : a ≠ b) : ine a b = true := by simp [ine_eq, h]
theorem ine_f {a b : Int} (h : a = b) : ine a b = false := by simp [ine_eq, h]
theorem gd_t {α : Type} {c : Prop} {inst : Decidable c} {k : Option α} (h : c) : @gd α c inst k = k := if_pos h
theorem inL_mk {α : Type} {xs : List α} {i : Int} (h0 : 0 ≤ i) (h1 : i < xs.length) : inL xs i := ⟨h0, h1⟩
theorem subL_mk {α : Type} {xs : List α} {a b : Int} (h0 : 0 ≤ a) (h1 : a ≤ b) (h2 : b ≤ xs.length) : subL xs a b := ⟨h0, h1, h2⟩
theorem gat_nat {α : Type} {d : α} {xs : List α} {k : Nat} (h : k < xs.length) : gat d xs (k : Int) = xs[k] := by simp [gat_eq, List.getD_eq_getElem?_getD, h]
theorem inL_nat {α : Type} {xs : List α} {k : Nat} (h : k < xs.length) : inL xs (k : Int) := ⟨by omega, by omega⟩
end Go.Proofs.YtogghgecmjnieaaGreat.AL

/- The order of strings; a string put into a sorted list. No condition. -/
import Derived.Test.YtbckijeffiofdaaPC6
namespace Go.Proofs.Ytbckijeffiofdaa.AL
open Go
set_option linter.unusedVariables false
set_option linter.unusedSimpArgs false
theorem bl_tri : ∀ a b : List UInt8, Op.bytesLess a b = true ∨ a = b ∨ Op.bytesLess b a = true
  | [], [] => .inr (.inl rfl)
  | [], _ :: _ => .inl rfl
  | _ :: _, [] => .inr (.inr rfl)
  | x :: a, y :: b => by
    simp only [Op.bytesLess, Bool.or_eq_true, decide_eq_true_eq, Bool.and_eq_true, beq_iff_eq, List.cons.injEq]
    by_cases h1 : x < y
    · exact .inl (.inl h1)
    · by_cases h2 : y < x
      · exact .inr (.inr (.inl h2))
      · have e : x = y := UInt8.le_antisymm (UInt8.not_lt.1 h2) (UInt8.not_lt.1 h1)
        subst e
        rcases bl_tri a b with h | h | h
        · exact .inl (.inr ⟨rfl, h⟩)
        · exact .inr (.inl ⟨rfl, h⟩)
        · exact .inr (.inr (.inr ⟨rfl, h⟩))
theorem bl_trans : ∀ a b c : List UInt8, Op.bytesLess a b = true → Op.bytesLess b c = true → Op.bytesLess a c = true
  | [], _, [], h1, h2 => by
    rename_i b
    cases b <;> simp [Op.bytesLess] at h1 h2
  | [], _, _ :: _, _, _ => rfl
  | _ :: _, [], _, h1, _ => by simp [Op.bytesLess] at h1
  | _ :: _, _ :: _, [], _, h2 => by simp [Op.bytesLess] at h2
  | x :: a, y :: b, z :: c, h1, h2 => by
    simp only [Op.bytesLess, Bool.or_eq_true, decide_eq_true_eq, Bool.and_eq_true, beq_iff_eq] at h1 h2 ⊢
    rcases h1 with h1 | ⟨rfl, h1⟩
    · rcases h2 with h2 | ⟨rfl, h2⟩
      · exact .inl (UInt8.lt_trans h1 h2)
      · exact .inl h1
    · rcases h2 with h2 | ⟨rfl, h2⟩
      · exact .inl h2
      · exact .inr ⟨rfl, bl_trans a b c h1 h2⟩
theorem bl_irr : ∀ a : List UInt8, Op.bytesLess a a = false
  | [] => rfl
  | x :: a => by simp [Op.bytesLess, bl_irr a]
theorem slt_not (a b : ByteArray) : slt' a b = !sle' b a := by
  unfold slt' sle'
  rcases bl_tri a.toList b.toList with h | h | h
  · have h2 : Op.bytesLess b.toList a.toList = false := by
      cases hz : Op.bytesLess b.toList a.toList
      · rfl
      · have := bl_trans _ _ _ h hz
        rw [bl_irr] at this
        cases this
    have h3 : b.toList ≠ a.toList := fun e => by
      rw [e, bl_irr] at h
      cases h
    simp [h, h2, h3]
  · rw [h, bl_irr]
    simp
  · have h2 : Op.bytesLess a.toList b.toList = false := by
      cases hz : Op.bytesLess a.toList b.toList
      · rfl
      · have := bl_trans _ _ _ h hz
        rw [bl_irr] at this
        cases this
    simp [h, h2]
theorem sle_trans {a b c : ByteArray} (h1 : sle' a b = true) (h2 : sle' b c = true) : sle' a c = true := by
  unfold sle' at *
  simp only [Bool.or_eq_true, beq_iff_eq] at *
  rcases h1 with h1 | h1
  · rcases h2 with h2 | h2
    · exact .inl (bl_trans _ _ _ h1 h2)
    · rw [← h2]; exact .inl h1
  · rw [h1]; exact h2
theorem sle_of_lt {a b : ByteArray} (h : slt' a b = true) : sle' a b = true := by
  unfold sle' slt' at *
  simp [h]
def insS (x : ByteArray) : List ByteArray → List ByteArray
  | [] => [x]
  | y :: r => if sle' y x then y :: insS x r else x :: y :: r
theorem insS_len {x : ByteArray} : ∀ l, (insS x l).length = l.length + 1
  | [] => rfl
  | y :: r => by
    unfold insS
    split
    · simp [insS_len r]
    · rfl
end Go.Proofs.Ytbckijeffiofdaa.AL

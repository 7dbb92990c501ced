/- The law PieceTexts holds. No condition. -/
import Derived.Test.YtbckijeffiofdaaPT7
namespace Go.Proofs.Ytbckijeffiofdaa.AL
open Go
set_option linter.unusedVariables false
set_option linter.unusedSimpArgs false
set_option maxRecDepth 100000
section
theorem eqT_L {X : List ByteArray} (hX : X.length ≤ 100) : ∀ (d k n : Nat), k + d = X.length → d < n → F_laws_eqStringS_L1 2000000 X X n (k : Int) = some (.brk (X.length : Int)) := by
  intro d
  induction d with
  | zero =>
    intro k n hk hn
    cases n with
    | zero => omega
    | succ n =>
      have : k = X.length := by omega
      subst this
      simp only [F_laws_eqStringS_L1, llen]
      rw [ilt_f (by omega), cond_false]
  | succ d ih =>
    intro k n hk hn
    cases n with
    | zero => omega
    | succ n =>
      have hk' : k < X.length := by omega
      have hne : ∀ y : ByteArray, sne' y y = false := fun y => by simp [sne']
      simp only [F_laws_eqStringS_L1, llen]
      rw [ilt_t (by omega), cond_true, gd_t (inL_nat hk'), gd_t (inL_nat hk'), hne, cond_false, iadd_id (by omega) (by omega), show ((k : Int) + 1) = ((k + 1 : Nat) : Int) by omega]
      exact ih (k + 1) n (by omega) (by omega)
theorem eqT_eq {X : List ByteArray} (hX : X.length ≤ 100) : F_laws_eqStringS 2000000 X X = some true := by
  have := eqT_L hX X.length 0 2000000 (by omega) (by omega)
  rw [Int.natCast_zero] at this
  unfold F_laws_eqStringS
  rw [ine_f rfl, cond_false, this, bd_of]
  rfl
theorem markT_eq {X : List ByteArray} (hX : X.length ≤ 6) : F_laws_markStringS 2000000 X 1 = some (1 + (X.length : Int), marksT 1 X.length) := by
  have := markT_L X [] 0 2000000 1 rfl (by omega) (by omega) (by omega) (by omega)
  rw [Int.natCast_zero] at this
  unfold F_laws_markStringS
  rw [show F_laws_markStringS_L1 2000000 2000000 X 1 0 = _ from this, bd_of]
  rfl
theorem heldT_eq {d : Nat} (hX : d ≤ 6) : F_laws_heldStringS 2000000 (marksT 1 d) 1 = some (1 + (d : Int)) := by
  have := heldT_L d [] 0 2000000 1 rfl (by omega) (by omega) (by omega) (by omega)
  rw [Int.natCast_zero] at this
  unfold F_laws_heldStringS
  rw [show F_laws_heldStringS_L1 2000000 (marksT 1 d) 2000000 1 0 = _ from this, bd_of]
  rfl
theorem law_PieceTexts {a b : List Int} (ha : a.length ≤ 9223372036854775807) (hb : b.length ≤ 9223372036854775807) : F_laws_FnExactPieceTexts 2000000 a b = some true := by
  unfold F_laws_FnExactPieceTexts
  rw [szMeander_eq (by omega) (by omega) ha hb, bd_of]
  by_cases h1 : (a.length : Int) + (b.length : Int) ≤ 1048576
  · rw [if_pos h1, ilt_f (by omega), cond_false]
    have t1 := toMeander_eq (fu := 2000000) (a := a) (b := b) (by omega) (by omega) (by omega)
    have q1 := eqMeander_eq (fu := 2000000) (a := a) (b := b) (by omega) (by omega) (by omega)
    obtain ⟨S, e1, e2, l1⟩ := pieceTexts_eq (p := a) (q := b) (by omega) (by omega)
    have m0 := markMeander_eq (fu := 2000000) (a := a) (b := b) (m := 1) (by omega) (by omega) (by omega) (by omega) (by omega)
    have m1 := markT_eq (X := S.1) l1
    have h3 := heldT_eq (d := S.1.length) l1
    have q2 := eqT_eq (X := S.1) (by omega)
    have n1 : ilt (1 + (a.length : Int) + (b.length : Int)) 0 = false := ilt_f (by omega)
    have n2 : ilt (1 + (S.1.length : Int)) 0 = false := ilt_f (by omega)
    simp [t1, q1, q2, m0, m1, h3, e1, e2, n1, n2, bnot, bne', ine_eq]
  · rw [if_neg h1, ilt_t (by omega), cond_true]
end
end Go.Proofs.Ytbckijeffiofdaa.AL

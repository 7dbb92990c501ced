/- The reference puts a text into its list as insS does. No condition. -/
import Derived.Test.YtbckijeffiofdaaPT4
namespace Go.Proofs.Ytbckijeffiofdaa.AL
open Go
set_option linter.unusedVariables false
set_option linter.unusedSimpArgs false
section
variable {fu : Nat} {s : ByteArray}
theorem insS_split : ∀ l : List ByteArray, insS s l = l.takeWhile (fun y => sle' y s) ++ s :: l.dropWhile (fun y => sle' y s)
  | [] => rfl
  | y :: r => by
    simp only [insS, List.takeWhile_cons, List.dropWhile_cons]
    by_cases h : sle' y s = true
    · rw [if_pos h, if_pos h, if_pos h, insS_split r]; rfl
    · rw [if_neg h, if_neg h, if_neg h]; rfl
theorem put_L2 {L : List ByteArray} {R : List (List Int × List Int)} {a b : Int} (hL : L.length ≤ 1000) : ∀ (rest pre : List ByteArray) (k n : Nat), pre ++ rest = L → pre.length = k → rest.length < n →
    F_spec_PieceTexts_L2 fu L s R a b n (k : Int) = some (((k + (rest.takeWhile (fun y => sle' y s)).length : Nat) : Int)) := by
  intro rest
  induction rest with
  | nil =>
    intro pre k n hp hk hn
    cases n with
    | zero => simp at hn
    | succ n =>
      have : k = L.length := by rw [← hp, ← hk]; simp
      subst this
      simp only [F_spec_PieceTexts_L2, llen]
      rw [ilt_f (by omega), cond_false]
      rfl
  | cons y rest ih =>
    intro pre k n hp hk hn
    cases n with
    | zero => simp at hn
    | succ n =>
      have hlen : k < L.length := by rw [← hp, ← hk]; simp
      have hg : gat (ByteArray.mk #[]) L (k : Int) = y := by rw [← hp]; exact gatS hk
      simp only [F_spec_PieceTexts_L2, llen]
      rw [ilt_t (by omega), cond_true, gd_t (inL_nat hlen), hg, List.takeWhile_cons]
      cases h : sle' y s
      · rw [cond_false]
        simp
      · rw [cond_true, iadd_id (by omega) (by omega), show ((k : Int) + 1) = ((k + 1 : Nat) : Int) by omega, ih (pre ++ [y]) (k + 1) n (by rw [← hp]; simp) (by simp [hk]) (by simp at hn; omega)]
        simp
        omega
theorem put_eq {L : List ByteArray} {R : List (List Int × List Int)} {a b : Int} (hL : L.length ≤ 1000) (hf : 2000 < fu) : ∃ k : Int, F_spec_PieceTexts_L2 fu L s R a b fu 0 = some k ∧ subL L 0 k ∧ subL L k (llen L) ∧ lapp (lapp (lapp (@List.nil ByteArray) (lsub L 0 k)) [s]) (lsub L k (llen L)) = insS s L := by
  have h := put_L2 (fu := fu) (s := s) (R := R) (a := a) (b := b) hL L [] 0 fu rfl rfl (by omega)
  rw [Int.natCast_zero, Nat.zero_add] at h
  obtain ⟨A, B, hA, hB, e⟩ : ∃ A B, L.takeWhile (fun y => sle' y s) = A ∧ L.dropWhile (fun y => sle' y s) = B ∧ A ++ B = L := ⟨_, _, rfl, rfl, List.takeWhile_append_dropWhile⟩
  rw [hA] at h
  have hle : A.length ≤ L.length := by rw [← e]; simp
  refine ⟨_, h, subL_mk (by omega) (by omega) (by omega), subL_mk (by omega) (by simp only [llen]; omega) (by simp [llen]), ?_⟩
  rw [insS_split, hA, hB, ← e]
  simp [lapp, lsub, llen]
  rw [show ((A.length : Int) + (B.length : Int)).toNat - A.length = B.length by omega, List.take_length]
end
end Go.Proofs.Ytbckijeffiofdaa.AL

/- What the draws answer: numbers in range, lists that are short. No condition. -/
import Derived.Test.YtigpmjebldgekaaPA1
import Derived.Test.YtigpmjebldgekaaG1
import Derived.Test.YtigpmjebldgekaaG2
import Derived.Test.YtigpmjebldgekaaG3
import Derived.Test.YtigpmjebldgekaaG4
import Derived.Test.YtigpmjebldgekaaG5
import Derived.Test.YtigpmjebldgekaaG6
import Derived.KernelRfl
namespace Go.Proofs.Ytigpmjebldgekaa.AL
open Go
set_option linter.unusedVariables false
set_option linter.unusedSimpArgs false
set_option maxRecDepth 100000
def Bytes (x : List Int) : Prop := ∀ n ∈ x, (Lit.int .u8 n).wf = true
theorem Bytes.at {x : List Int} (w : Bytes x) {k : Int} (h : inL x k) : 0 ≤ gat 0 x k ∧ gat 0 x k ≤ 255 := by
  have hk : k.toNat < x.length := by unfold inL at h; omega
  have e : gat 0 x k = x[k.toNat] := by rw [gat_eq, List.getD_eq_getElem?_getD, List.getElem?_eq_getElem hk]; rfl
  rw [e]
  have h := w _ (List.getElem_mem hk)
  have h : (decide ((0 : Int) ≤ x[k.toNat]) && decide (x[k.toNat] ≤ 255)) = true := h
  simpa only [Bool.and_eq_true, decide_eq_true_eq] using h
theorem iwr_id2 {a : Int} (h0 : -9223372036854775808 ≤ a) (h1 : a ≤ 9223372036854775807) : iwr .i64 a = a := (wrF_eq _ _).trans (wrap_id h0 h1)
theorem iand_255 {a : Int} : 0 ≤ iand .u64 a 255 ∧ iand .u64 a 255 ≤ 255 := by
  have h : (BitVec.ofInt 64 a &&& BitVec.ofInt 64 255).toNat ≤ 255 := by
    rw [BitVec.toNat_and, show (BitVec.ofInt 64 255).toNat = 255 from rfl]
    exact Nat.and_le_right
  have e : iand .u64 a 255 = (((BitVec.ofInt 64 a &&& BitVec.ofInt 64 255).toNat : Nat) : Int) := by
    have key : ∀ t : Nat, t ≤ 255 → IntKind.u64.wrap (t : Int) = (t : Int) := fun t ht => by
      simp only [IntKind.wrap, IntKind.bits, IntKind.signed, Bool.false_and, Bool.false_eq_true, if_false]
      omega
    exact key _ h
  rw [e]
  omega
section
variable {fu : Nat} {x : List Int} {at' seed : Int}
theorem next_ok (w : Bytes x) (h0 : 0 ≤ at') (h1 : at' ≤ 1152921504606846976) : ∃ b s, F_spec_l1Cur_next fu x at' seed = some (b, at' + 1, s) ∧ 0 ≤ b ∧ b ≤ 255 := by
  unfold F_spec_l1Cur_next
  rw [iadd_id (a := at') (by omega) (by omega)]
  by_cases h : at' < llen x
  · have hi : inL x at' := ⟨h0, h⟩
    obtain ⟨g0, g1⟩ := w.at hi
    rw [ilt_t h, cond_true, gd_t hi, iwr_id2 (by omega) (by omega), bd_of, ile_t (by omega), cond_true]
    exact ⟨_, _, rfl, g0, g1⟩
  · rw [ilt_f h, cond_false, bd_of, ile_f (by omega), cond_false]
    obtain ⟨g0, g1⟩ := iand_255 (a := ishr .u64 (iadd .u64 (iadd .u64 (imul .u64 seed 6364136223846793005) (iwr .u64 0)) 1442695040888963407) 40)
    rw [iwr_id2 (by omega) (by omega)]
    exact ⟨_, _, rfl, g0, g1⟩
theorem irem_ok {a n : Int} (h0 : 0 ≤ a) (hn : 0 < n) : 0 ≤ irem a n ∧ irem a n < n := by
  unfold irem
  rw [Int.tmod_eq_emod_of_nonneg h0]
  exact ⟨Int.emod_nonneg _ (by omega), Int.emod_lt_of_pos _ hn⟩
theorem pick_ok {n : Int} (w : Bytes x) (h0 : 0 ≤ at') (h1 : at' ≤ 1152921504606846970) : ∃ b a s, F_spec_l1Cur_pick fu x at' seed n = some (b, a, s) ∧ at' ≤ a ∧ a ≤ at' + 2 ∧ 0 ≤ b ∧ (b < n ∨ b = 0) := by
  unfold F_spec_l1Cur_pick
  by_cases h : n ≤ 1
  · rw [ile_t h, cond_true]
    exact ⟨_, _, _, rfl, by omega, by omega, by omega, .inr rfl⟩
  · rw [ile_f h, cond_false]
    obtain ⟨b, s, e, g0, g1⟩ := next_ok (fu := fu) (seed := seed) w h0 (by omega)
    rw [e, bd_of]
    by_cases h2 : 200 < n
    · rw [ilt_t h2, cond_true]
      obtain ⟨c, t, e2, k0, k1⟩ := next_ok (fu := fu) (seed := s) (at' := at' + 1) w (by omega) (by omega)
      rw [e2, bd_of, gd_t (by omega)]
      have hm : iadd .i64 (imul .i64 b 256) c = b * 256 + c := by
        rw [show imul .i64 b 256 = b * 256 from (wrF_eq _ _).trans (wrap_id (by omega) (by omega)), iadd_id (by omega) (by omega)]
      obtain ⟨r0, r1⟩ := irem_ok (a := b * 256 + c) (n := n) (by omega) (by omega)
      simp only [hm]
      exact ⟨_, _, _, rfl, by omega, by omega, r0, .inl r1⟩
    · rw [ilt_f h2, cond_false, gd_t (by omega)]
      obtain ⟨r0, r1⟩ := irem_ok (a := b) (n := n) (by omega) (by omega)
      exact ⟨_, _, _, rfl, by simp only; omega, by simp only; omega, r0, .inl r1⟩
theorem among_ok {l : List Int} (w : Bytes x) (h0 : 0 ≤ at') (h1 : at' ≤ 1152921504606846970) (hl : l ≠ []) : ∃ b a s, F_spec_l1Cur_among fu x at' seed l = some (b, a, s) ∧ at' ≤ a ∧ a ≤ at' + 2 ∧ b ∈ l := by
  obtain ⟨b, a, s, e, g0, g1, g2, g3⟩ := pick_ok (fu := fu) (seed := seed) (n := llen l) w h0 h1
  have hp := List.length_pos_iff.2 hl
  have hb : inL l b := by
    refine ⟨g2, ?_⟩
    rcases g3 with g3 | g3
    · exact g3
    · omega
  unfold F_spec_l1Cur_among
  rw [e, bd_of, gd_t hb]
  have hk : b.toNat < l.length := by unfold inL at hb; omega
  refine ⟨_, _, _, rfl, g0, g1, ?_⟩
  rw [gat_eq, List.getD_eq_getElem?_getD, List.getElem?_eq_getElem hk]
  exact List.getElem_mem hk
end
end Go.Proofs.Ytigpmjebldgekaa.AL

/- What the draws answer: numbers in range, lists that are short. No condition. -/
import Derived.Test.YtogghgecmjnieaaGreatPA4
import Derived.Test.YtogghgecmjnieaaGreatG1
import Derived.Test.YtogghgecmjnieaaGreatG2
import Derived.Test.YtogghgecmjnieaaGreatG3
import Derived.Test.YtogghgecmjnieaaGreatG4
import Derived.Test.YtogghgecmjnieaaGreatG5
import Derived.Test.YtogghgecmjnieaaGreatG6
import Derived.Test.YtogghgecmjnieaaGreatG7
import Derived.Test.YtogghgecmjnieaaGreatG8
import Derived.Test.YtogghgecmjnieaaGreatG9
import Derived.Test.YtogghgecmjnieaaGreatG10
import Derived.Test.YtogghgecmjnieaaGreatG11
import Derived.Test.YtogghgecmjnieaaGreatG12
import Derived.Test.YtogghgecmjnieaaGreatG13
import Derived.Test.YtogghgecmjnieaaGreatG14
import Derived.Test.YtogghgecmjnieaaGreatG15
import Derived.KernelRfl
namespace Go.Proofs.YtogghgecmjnieaaGreat.AL
open Go Go.Proofs.YtogghgecmjnieaaGreat.Arch
set_option linter.unusedVariables false
set_option linter.unusedSimpArgs false
set_option maxRecDepth 100000
def Bytes (x : List Int) : Prop := ∀ n ∈ x, (Lit.int .u8 n).wf = true
theorem Bytes.at {x : List Int} (w : Bytes x) {k : Int} (h : inL x k) : 0 ≤ gat 0 x k ∧ gat 0 x k ≤ 255 := by
 have hk : k.toNat < x.length := by unfold inL at h; omega
 have e : gat 0 x k = x[k.toNat] := by rw [gat_eq, List.getD_eq_getElem?_getD, List.getElem?_eq_getElem hk]; rfl
 rw [e]
 have h := w _ (List.getElem_mem hk)
 have h : (decide ((0 : Int) ≤ x[k.toNat]) && decide (x[k.toNat] ≤ 255)) = true := h
 simpa only [Bool.and_eq_true, decide_eq_true_eq] using h
theorem iwr_id2 {a : Int} (h0 : -9223372036854775808 ≤ a) (h1 : a ≤ 9223372036854775807) : iwr .i64 a = a := (wrF_eq _ _).trans (wrap_id h0 h1)
theorem iand_255 {a : Int} : 0 ≤ iand .u64 a 255 ∧ iand .u64 a 255 ≤ 255 := by
 have h : (BitVec.ofInt 64 a &&& BitVec.ofInt 64 255).toNat ≤ 255 := by
  rw [BitVec.toNat_and, show (BitVec.ofInt 64 255).toNat = 255 from rfl]
  exact Nat.and_le_right
 have e : iand .u64 a 255 = (((BitVec.ofInt 64 a &&& BitVec.ofInt 64 255).toNat : Nat) : Int) := by
  have key : ∀ t : Nat, t ≤ 255 → IntKind.u64.wrap (t : Int) = (t : Int) := fun t ht => by
   simp only [IntKind.wrap, IntKind.bits, IntKind.signed, Bool.false_and, Bool.false_eq_true, if_false]
   omega
  exact key _ h
 rw [e]
 omega
section
variable {fu : Nat} {x : List Int} {at' seed : Int}
theorem next_ok (w : Bytes x) (h0 : 0 ≤ at') (h1 : at' ≤ 1152921504606846976) : ∃ b s, F_spec_l1Cur_next fu x at' seed = some (b, at' + 1, s) ∧ 0 ≤ b ∧ b ≤ 255 := by
 unfold F_spec_l1Cur_next
 rw [iadd_id (a := at') (by omega) (by omega)]
 by_cases h : at' < llen x
 ·have hi : inL x at' := ⟨h0, h⟩
  obtain ⟨g0, g1⟩ := w.at hi
  rw [ilt_t h, cond_true, gd_t hi, iwr_id2 (by omega) (by omega), bd_of, ile_t (by omega), cond_true]
  exact ⟨_, _, rfl, g0, g1⟩
 ·rw [ilt_f h, cond_false, bd_of, ile_f (by omega), cond_false]
  obtain ⟨g0, g1⟩ := iand_255 (a := ishr .u64 (iadd .u64 (iadd .u64 (imul .u64 seed 6364136223846793005) (iwr .u64 0)) 1442695040888963407) 40)
  rw [iwr_id2 (by omega) (by omega)]
  exact ⟨_, _, rfl, g0, g1⟩
theorem irem_ok {a n : Int} (h0 : 0 ≤ a) (hn : 0 < n) : 0 ≤ irem a n ∧ irem a n < n := by
 unfold irem
 rw [Int.tmod_eq_emod_of_nonneg h0]
 exact ⟨Int.emod_nonneg _ (by omega), Int.emod_lt_of_pos _ hn⟩
theorem pick_ok {n : Int} (w : Bytes x) (h0 : 0 ≤ at') (h1 : at' ≤ 1152921504606846970) : ∃ b a s, F_spec_l1Cur_pick fu x at' seed n = some (b, a, s) ∧ at' ≤ a ∧ a ≤ at' + 2 ∧ 0 ≤ b ∧ (b < n ∨ b = 0) := by
 unfold F_spec_l1Cur_pick
 by_cases h : n ≤ 1
 ·rw [ile_t h, cond_true]
  exact ⟨_, _, _, rfl, by omega, by omega, by omega, .inr rfl⟩
 ·rw [ile_f h, cond_false]
  obtain ⟨b, s, e, g0, g1⟩ := next_ok (fu := fu) (seed := seed) w h0 (by omega)
  rw [e, bd_of]
  by_cases h2 : 200 < n
  ·rw [ilt_t h2, cond_true]
   obtain ⟨c, t, e2, k0, k1⟩ := next_ok (fu := fu) (seed := s) (at' := at' + 1) w (by omega) (by omega)
   rw [e2, bd_of, gd_t (by omega)]
   have hm : iadd .i64 (imul .i64 b 256) c = b * 256 + c := by
    rw [show imul .i64 b 256 = b * 256 from (wrF_eq _ _).trans (wrap_id (by omega) (by omega)), iadd_id (by omega) (by omega)]
   obtain ⟨r0, r1⟩ := irem_ok (a := b * 256 + c) (n := n) (by omega) (by omega)
   simp only [hm]
   exact ⟨_, _, _, rfl, by omega, by omega, r0, .inl r1⟩
  ·rw [ilt_f h2, cond_false, gd_t (by omega)]
   obtain ⟨r0, r1⟩ := irem_ok (a := b) (n := n) (by omega) (by omega)
   exact ⟨_, _, _, rfl, by simp only; omega, by simp only; omega, r0, .inl r1⟩
theorem one_ok {n : Int} (w : Bytes x) (h0 : 0 ≤ at') (h1 : at' ≤ 1152921504606846970) : ∃ b a s, F_spec_l1Cur_one fu x at' seed n = some (b, a, s) ∧ at' ≤ a ∧ a ≤ at' + 2 := by
 obtain ⟨b, a, s, e, g0, g1, _⟩ := pick_ok (fu := fu) (seed := seed) (n := n) w h0 h1
 unfold F_spec_l1Cur_one
 rw [e, bd_of]
 exact ⟨_, _, _, rfl, g0, g1⟩
theorem sure_L {n : Int} (hn : n ≤ 6) (w : Bytes x) : ∀ (d k m : Nat) (at' s : Int) (t : ByteArray) (a b : Int), (k : Int) + d = 2 * n → d < m → t.size = k → 0 ≤ at' → at' + 2 * d ≤ 1152921504606846970 →
  ∃ (at1 s1 : Int) (t1 : ByteArray) (a1 b1 c1 : Int), F_spec_l1Cur_sure_L1 fu x n m at' s t a b (k : Int) = some (at1, s1, t1, a1, b1, c1) ∧ at' ≤ at1 ∧ at1 ≤ at' + 2 * d ∧ (t1.size : Int) = 2 * n := by
 intro d
 induction d with
 | zero =>
  intro k m at' s t a b hk hm ht h0 h1
  cases m with
  | zero => omega
  | succ m =>
   simp only [F_spec_l1Cur_sure_L1]
   rw [show imul .i64 2 n = 2 * n from (wrF_eq _ _).trans (wrap_id (by omega) (by omega)), ilt_f (by omega), cond_false]
   exact ⟨_, _, _, _, _, _, rfl, by omega, by omega, by omega⟩
 | succ d ih =>
  intro k m at' s t a b hk hm ht h0 h1
  cases m with
  | zero => omega
  | succ m =>
   simp only [F_spec_l1Cur_sure_L1]
   rw [show imul .i64 2 n = 2 * n from (wrF_eq _ _).trans (wrap_id (by omega) (by omega)), ilt_t (by omega), cond_true]
   obtain ⟨at2, s2, v, e, g0, g1⟩ : ∃ at2 s2 v, (bif (ilt 0 b) then (bif (ieq a 0) then some (at', s, true) else bd (F_spec_l1Cur_one fu x at' s 2) fun r1 => some (r1.2.1, r1.2.2, r1.1)) else some (at', s, false)) = some (at2, s2, v) ∧ at' ≤ at2 ∧ at2 ≤ at' + 2 := by
    cases ilt 0 b
    ·exact ⟨_, _, _, rfl, by omega, by omega⟩
    ·cases ieq a 0
     ·obtain ⟨q, a2, s2, e, g0, g1⟩ := one_ok (fu := fu) (seed := s) (n := 2) w h0 (by omega)
      rw [e]
      exact ⟨_, _, _, rfl, g0, g1⟩
     ·exact ⟨_, _, _, rfl, by omega, by omega⟩
   rw [e, bd_of]
   simp only
   have sz (c : UInt8) : (sapp t (ByteArray.mk #[c])).size = k + 1 := by
    unfold sapp
    rw [ByteArray.size_append, ht]
    rfl
   have hi : iadd .i64 (k : Int) 1 = ((k + 1 : Nat) : Int) := by rw [iadd_id (by omega) (by omega)]; omega
   rw [hi]
   cases v
   ·rw [cond_false, gd_t (by rw [ht]; show k + 1 ≤ _; omega)]
    obtain ⟨a1, b1, c1, d1, e1, f1, p1, p2, p3, p4⟩ := ih (k + 1) m at2 s2 (sapp t (ByteArray.mk #[41])) (isub .i64 a 1) b (by omega) (by omega) (sz 41) (by omega) (by omega)
    exact ⟨_, _, _, _, _, _, p1, by omega, by omega, p4⟩
   ·rw [cond_true, gd_t (by rw [ht]; show k + 1 ≤ _; omega)]
    obtain ⟨a1, b1, c1, d1, e1, f1, p1, p2, p3, p4⟩ := ih (k + 1) m at2 s2 (sapp t (ByteArray.mk #[40])) (iadd .i64 a 1) (isub .i64 b 1) (by omega) (by omega) (sz 40) (by omega) (by omega)
    exact ⟨_, _, _, _, _, _, p1, by omega, by omega, p4⟩
theorem parse_L {t : ByteArray} (ht : t.size ≤ 12) : ∀ (d k m : Nat) (l0 l1 : List Int), k + d = t.size → d < m → l0.length = t.size → (∀ v ∈ l1, 0 ≤ v ∧ v < (k : Int)) → l1.length ≤ k →
  ∃ r, F_spec_ahParse_L1 fu t m l0 l1 (k : Int) = some r ∧ (∀ p, r = .ret p → p.1.length ≤ 12) ∧ ∀ p, r = .brk p → p.1.length ≤ 12 := by
 intro d
 induction d with
 | zero =>
  intro k m l0 l1 hk hm hl hv hn
  cases m with
  | zero => omega
  | succ m =>
   simp only [F_spec_ahParse_L1]
   rw [ilt_f (by show ¬ (k : Int) < (t.size : Int); omega), cond_false]
   exact ⟨_, rfl, fun p h => (by cases h), fun p h => (by cases h; show l0.length ≤ 12; omega)⟩
 | succ d ih =>
  intro k m l0 l1 hk hm hl hv hn
  cases m with
  | zero => omega
  | succ m =>
   have hin : inS t (k : Int) := ⟨by omega, by omega⟩
   have hi : iadd .i64 (k : Int) 1 = ((k + 1 : Nat) : Int) := by rw [iadd_id (by omega) (by omega)]; omega
   simp only [F_spec_ahParse_L1]
   rw [ilt_t (by show (k : Int) < (t.size : Int); omega), cond_true, gd_t hin, hi]
   cases ieq (sat t (k : Int)) 40
   ·rw [cond_false, gd_t hin]
    cases ieq (sat t (k : Int)) 41
    ·rw [cond_false, bd_of, cond_false]
     exact ⟨_, rfl, fun p h => (by cases h; simp), fun p h => (by cases h)⟩
    ·rw [cond_true, bd_of]
     by_cases h : 0 < l1.length
     ·have hs : isub .i64 (llen l1) 1 = ((l1.length - 1 : Nat) : Int) := by rw [isub_id (by simp only [llen]; omega) (by simp only [llen]; omega)]; simp only [llen]; omega
      rw [ilt_t (by simp only [llen]; omega), cond_true, hs]
      have htop := hv _ (List.getElem_mem (show l1.length - 1 < l1.length by omega))
      have hg : gat 0 l1 ((l1.length - 1 : Nat) : Int) = l1[l1.length - 1] := gat_nat (by omega)
      rw [gd_t (inL_nat (by omega)), gd_t (subL_mk (by omega) (by omega) (by omega)), hg, gd_t (inL_mk htop.1 (by omega)), gd_t (inL_mk (by omega) (by simp only [lset, List.length_set]; omega))]
      refine ih (k + 1) m _ _ (by omega) (by omega) (by simp only [lset, List.length_set]; exact hl) (fun v hv' => ?_) (by simp [lsub]; omega)
      have := hv v (List.mem_of_mem_drop (List.mem_of_mem_take hv'))
      omega
     ·rw [ilt_f (by simp only [llen]; omega), cond_false]
      exact ⟨_, rfl, fun p h => (by cases h; simp), fun p h => (by cases h)⟩
   ·rw [cond_true, gd_t (by simp; omega)]
    refine ih (k + 1) m _ _ (by omega) (by omega) hl (fun v hv' => ?_) (by simp [lapp]; omega)
    rcases List.mem_append.1 hv' with hv' | hv'
    ·have := hv v hv'
     omega
    ·simp at hv'
     omega
theorem parse_ok {t : ByteArray} (ht : t.size ≤ 12) (hf : 100 < fu) : ∃ p b, F_spec_ahParse fu t = some (p, b) ∧ p.length ≤ 12 := by
 unfold F_spec_ahParse
 rw [ilt_f (by show ¬ (12 : Int) < (t.size : Int); omega), cond_false, gd_t (by show (0 : Int) ≤ (t.size : Int) ∧ (t.size : Int) ≤ 4294967296; omega)]
 obtain ⟨r, e, r1, r2⟩ := parse_L (fu := fu) ht t.size 0 fu (lrep (slen t) (0 : Int)) [] (by omega) (by omega) (by simp [lrep, slen]) (fun v hv => by cases hv) (by simp)
 rw [Int.natCast_zero] at e
 rw [e, bd_of]
 cases r with
 | ret p => exact ⟨p.1, p.2, rfl, r1 p rfl⟩
 | brk p =>
  simp only [lr]
  cases ilt 0 (llen p.2.1)
  ·exact ⟨_, _, rfl, r2 p rfl⟩
  ·exact ⟨_, _, rfl, by simp⟩
theorem sure_ok {n : Int} (hn0 : 0 ≤ n) (hn : n ≤ 6) (w : Bytes x) (h0 : 0 ≤ at') (h1 : at' ≤ 1152921504606846900) (hf : 100 < fu) : ∃ p a s, F_spec_l1Cur_sure fu x at' seed n = some (p, a, s) ∧ at' ≤ a ∧ a ≤ at' + 24 ∧ p.length ≤ 12 := by
 unfold F_spec_l1Cur_sure
 obtain ⟨a1, s1, t1, b1, c1, d1, e, g0, g1, g2⟩ := sure_L (fu := fu) hn w (2 * n).toNat 0 fu at' seed (ByteArray.mk #[]) 0 n (by omega) (by omega) rfl h0 (by omega)
 rw [Int.natCast_zero] at e
 rw [e, bd_of]
 obtain ⟨p, b, e2, hp⟩ := parse_ok (fu := fu) (t := t1) (by omega) hf
 simp only
 rw [e2, bd_of]
 exact ⟨_, _, _, rfl, g0, by omega, hp⟩
theorem flat_L {n : Int} (hn : n ≤ 100) : ∀ (d k m : Nat) (l : List Int), (k : Int) + d = n → d < m → l.length = 2 * k → ∃ r j, F_spec_ahFlat_L1 fu n m l (k : Int) = some (r, j) ∧ (r.length : Int) = 2 * n := by
 intro d
 induction d with
 | zero =>
  intro k m l hk hm hl
  cases m with
  | zero => omega
  | succ m =>
   simp only [F_spec_ahFlat_L1]
   rw [ilt_f (by omega), cond_false]
   exact ⟨_, _, rfl, by omega⟩
 | succ d ih =>
  intro k m l hk hm hl
  cases m with
  | zero => omega
  | succ m =>
   simp only [F_spec_ahFlat_L1]
   rw [ilt_t (by omega), cond_true, gd_t (by simp; omega), iadd_id (a := (k : Int)) (by omega) (by omega), show (k : Int) + 1 = ((k + 1 : Nat) : Int) by omega]
   exact ih (k + 1) m _ (by omega) (by omega) (by simp [lapp]; omega)
theorem flat_ok {n : Int} (h0 : 0 ≤ n) (hn : n ≤ 100) (hf : 1000 < fu) : ∃ r, F_spec_ahFlat fu n = some r ∧ (r.length : Int) = 2 * n := by
 unfold F_spec_ahFlat
 obtain ⟨r, j, e, h⟩ := flat_L (fu := fu) hn n.toNat 0 fu [] (by omega) (by omega) rfl
 rw [Int.natCast_zero] at e
 rw [e]
 exact ⟨r, rfl, h⟩
theorem rainbow_L : ∀ (d m : Nat) (l : List Int), d < m → l.length + d ≤ 1000 → ∃ r j, F_spec_ahRainbow_L1 fu m l ((d : Int) - 1) = some (r, j) ∧ r.length = l.length + d := by
 intro d
 induction d with
 | zero =>
  intro m l hm hl
  cases m with
  | zero => omega
  | succ m =>
   simp only [F_spec_ahRainbow_L1]
   rw [ile_f (by omega), cond_false]
   exact ⟨_, _, rfl, rfl⟩
 | succ d ih =>
  intro m l hm hl
  cases m with
  | zero => omega
  | succ m =>
   simp only [F_spec_ahRainbow_L1]
   rw [ile_t (by omega), cond_true, gd_t (by simp; omega), isub_id (by omega) (by omega), show ((d + 1 : Nat) : Int) - 1 - 1 = (d : Int) - 1 by omega]
   obtain ⟨r, j, e, h⟩ := ih m (lapp l [((d + 1 : Nat) : Int) - 1]) (by omega) (by simp [lapp]; omega)
   exact ⟨r, j, e, by rw [h]; simp [lapp]; omega⟩
theorem rainbow_ok {n : Int} (h0 : 0 ≤ n) (hn : n ≤ 100) (hf : 1000 < fu) : ∃ r, F_spec_ahRainbow fu n = some r ∧ (r.length : Int) = 2 * n := by
 unfold F_spec_ahRainbow
 rw [show imul .i64 2 n = 2 * n from (wrF_eq _ _).trans (wrap_id (by omega) (by omega)), isub_id (by omega) (by omega)]
 obtain ⟨r, j, e, h⟩ := rainbow_L (fu := fu) (2 * n).toNat fu [] (by omega) (by simp; omega)
 rw [show (((2 * n).toNat : Nat) : Int) - 1 = 2 * n - 1 by omega] at e
 rw [e]
 exact ⟨r, rfl, by simp at h; omega⟩
theorem system_ok {n : Int} (hn0 : 0 ≤ n) (hn : n ≤ 6) (w : Bytes x) (h0 : 0 ≤ at') (h1 : at' ≤ 1152921504606846800) (hf : 1000 < fu) : ∃ p a s, F_spec_l1Cur_system fu x at' seed n = some (p, a, s) ∧ at' ≤ a ∧ a ≤ at' + 40 ∧ p.length ≤ 14 := by
 unfold F_spec_l1Cur_system
 rw [iadd_id (by omega) (by omega)]
 obtain ⟨b, a1, s1, e1, g0, g1, g2, g3⟩ := pick_ok (fu := fu) (seed := seed) (n := n + 1) w h0 (by omega)
 rw [e1, bd_of]
 simp only
 obtain ⟨p, a2, s2, e2, k0, k1, k2⟩ := sure_ok (fu := fu) (seed := s1) (n := b) (at' := a1) (by omega) (by omega) w (by omega) (by omega) (by omega)
 rw [e2, bd_of]
 simp only
 obtain ⟨c, a3, s3, e3, q0, q1, q2, q3⟩ := pick_ok (fu := fu) (seed := s2) (n := 16) (at' := a2) w (by omega) (by omega)
 rw [e3, bd_of]
 simp only
 cases ieq c 0
 case true =>
  rw [cond_true]
  by_cases hl : 0 < p.length
  ·rw [ilt_t (by simp only [llen]; omega), cond_true]
   obtain ⟨i, a4, s4, e4, u0, u1, u2, u3⟩ := pick_ok (fu := fu) (seed := s3) (n := llen p) (at' := a3) w (by omega) (by omega)
   rw [e4, bd_of]
   simp only
   obtain ⟨j, a5, s5, e5, v0, v1, v2, v3⟩ := pick_ok (fu := fu) (seed := s4) (n := iadd .i64 (llen p) 2) (at' := a4) w (by omega) (by omega)
   rw [e5, bd_of]
   simp only
   rw [gd_t (inL_mk u2 (by have u4 : i < (p.length : Int) ∨ i = 0 := u3; omega))]
   exact ⟨_, _, _, rfl, by omega, by omega, by simp only [lset, List.length_set]; omega⟩
  ·rw [ilt_f (by simp only [llen]; omega), cond_false]
   exact ⟨_, _, _, rfl, by omega, by omega, by omega⟩
 rw [cond_false]
 cases ieq c 1
 case true =>
  rw [cond_true, gd_t (by simp; omega)]
  exact ⟨_, _, _, rfl, by show at' ≤ a3; omega, by show a3 ≤ at' + 40; omega, by show (p ++ [_]).length ≤ 14; rw [List.length_append]; show p.length + 1 ≤ 14; omega⟩
 rw [cond_false]
 cases ieq c 2
 case true =>
  rw [cond_true]
  obtain ⟨i, a4, s4, e4, u0, u1, u2, u3⟩ := pick_ok (fu := fu) (seed := s3) (n := 2) (at' := a3) w (by omega) (by omega)
  rw [e4, bd_of, iadd_id (by omega) (by omega)]
  obtain ⟨r, e5, hr⟩ := flat_ok (fu := fu) (n := 6 + i) (by omega) (by omega) hf
  rw [e5, bd_of]
  exact ⟨_, _, _, rfl, by show at' ≤ a4; omega, by show a4 ≤ at' + 40; omega, by show r.length ≤ 14; omega⟩
 rw [cond_false]
 cases ieq c 3
 case true =>
  rw [cond_true]
  obtain ⟨i, a4, s4, e4, u0, u1, u2, u3⟩ := pick_ok (fu := fu) (seed := s3) (n := 7) (at' := a3) w (by omega) (by omega)
  rw [e4, bd_of]
  simp only
  obtain ⟨r, e5, hr⟩ := rainbow_ok (fu := fu) (n := i) (by omega) (by omega) hf
  rw [e5, bd_of]
  exact ⟨_, _, _, rfl, by omega, by omega, by omega⟩
 rw [cond_false]
 exact ⟨_, _, _, rfl, by omega, by omega, by omega⟩
end
end Go.Proofs.YtogghgecmjnieaaGreat.AL

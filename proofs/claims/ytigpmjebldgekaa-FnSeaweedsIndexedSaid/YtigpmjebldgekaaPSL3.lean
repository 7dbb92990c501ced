/- Groups of points by the reference's bits. No condition. -/
import Derived.Test.YtigpmjebldgekaaPSL2
namespace Go.Proofs.Ytigpmjebldgekaa.AL
open Go
set_option linter.unusedVariables false
set_option linter.unusedSimpArgs false
theorem pow60 {m N : Nat} (hm : m < 2 ^ N) (hN : N ≤ 60) : m < 1152921504606846976 := Nat.lt_of_lt_of_le hm (Nat.le_trans (Nat.pow_le_pow_right (by omega) hN) (by decide))
theorem ishl_pow {j : Nat} (h : j < 60) : ishl .i64 1 (j : Int) = ((2 ^ j : Nat) : Int) := by
  have h2 : 2 ^ j < 1152921504606846976 := Nat.lt_of_lt_of_le (Nat.pow_lt_pow_right (by omega) h) (by decide)
  unfold ishl
  have hb : min (j : Int).toNat (IntKind.i64).bits = j := by
    have : (IntKind.i64).bits = 64 := rfl
    rw [this]; omega
  rw [hb, Int.one_mul]
  have e : ((2 : Int) ^ j) = ((2 ^ j : Nat) : Int) := by simp
  rw [e]
  generalize (2 ^ j : Nat) = q at h2 ⊢
  exact wrap_id (by omega) (by omega)
theorem ishr_bit {m j : Nat} (h : j < 60) : ieq (irem (ishr .i64 (m : Int) (j : Int)) 2) 1 = m.testBit j := by
  unfold ishr
  have hb : min (j : Int).toNat (IntKind.i64).bits = j := by
    have : (IntKind.i64).bits = 64 := rfl
    rw [this]; omega
  rw [hb]
  have e : ((m : Int).fdiv (2 ^ j)) = ((m / 2 ^ j : Nat) : Int) := by
    rw [show ((2 : Int) ^ j) = ((2 ^ j : Nat) : Int) by simp, Int.ofNat_fdiv]
  have e2 : irem ((m / 2 ^ j : Nat) : Int) 2 = ((m / 2 ^ j % 2 : Nat) : Int) := by
    unfold irem
    rw [Int.ofNat_tmod]
    rfl
  rw [e, e2, ieq_eq, Nat.testBit_eq_decide_div_mod_eq]
  by_cases h1 : m / 2 ^ j % 2 = 1
  · rw [h1]; rfl
  · have : m / 2 ^ j % 2 = 0 := by omega
    rw [this]; rfl
theorem ior_nat {a b : Nat} (ha : a < 1152921504606846976) (hb : b < 1152921504606846976) : ior .i64 (a : Int) (b : Int) = ((a ||| b : Nat) : Int) := by
  unfold ior
  have h1 : a ||| b < 2 ^ 60 := Nat.or_lt_two_pow (by simpa using ha) (by simpa using hb)
  have h2 : (BitVec.ofInt (IntKind.i64).bits (a : Int) ||| BitVec.ofInt (IntKind.i64).bits (b : Int)).toNat = a ||| b := by
    rw [BitVec.toNat_or]
    have e1 : (BitVec.ofInt (IntKind.i64).bits (a : Int)).toNat = a := by
      show (BitVec.ofInt 64 (a : Int)).toNat = a
      rw [BitVec.ofInt_natCast, BitVec.toNat_ofNat]
      exact Nat.mod_eq_of_lt (by omega)
    have e2 : (BitVec.ofInt (IntKind.i64).bits (b : Int)).toNat = b := by
      show (BitVec.ofInt 64 (b : Int)).toNat = b
      rw [BitVec.ofInt_natCast, BitVec.toNat_ofNat]
      exact Nat.mod_eq_of_lt (by omega)
    rw [e1, e2]
  rw [h2]
  simp at h1
  exact wrap_id (by omega) (by omega)
section
variable {fu N : Nat} {t b : Nat → Nat} {i : Nat}
theorem bitStep_lt {m j : Nat} (ht : ∀ i, i < N → t i < N) (hb : ∀ i, i < N → b i < N) (hm : m < 2 ^ N) (hj : j < N) : Grp.bitStep t b m j < 2 ^ N := by
  unfold Grp.bitStep
  split
  · exact Nat.or_lt_two_pow hm (Nat.or_lt_two_pow (Nat.pow_lt_pow_right (by omega) (ht j hj)) (Nat.pow_lt_pow_right (by omega) (hb j hj)))
  · exact hm
theorem bitPass_lt (ht : ∀ i, i < N → t i < N) (hb : ∀ i, i < N → b i < N) : ∀ {l : List Nat} {m : Nat}, (∀ j ∈ l, j < N) → m < 2 ^ N → Grp.bitPass t b m l < 2 ^ N
  | [], m, _, h => h
  | j :: l, m, hl, h => bitPass_lt ht hb (l := l) (fun k hk => hl k (by simp [hk])) (bitStep_lt ht hb h (hl j (by simp)))
theorem tog_L3 (ht : ∀ i, i < N → t i < N) (hb : ∀ i, i < N → b i < N) (hN : N ≤ 50) {c0 : Bool} {c3 : List (List Int)} {c4 c5 c7 : Int} : ∀ (d j n m : Nat), j + d = N → d < n → m < 2 ^ N →
    F_spec_swTogether_L3 fu c0 (row N t) (row N b) c3 c4 c5 (N : Int) c7 n (m : Int) (j : Int) = some (((Grp.bitPass t b m (List.range' j d) : Nat) : Int), (N : Int)) := by
  intro d
  induction d with
  | zero =>
    intro j n m hj hn hm
    cases n with
    | zero => omega
    | succ n =>
      simp only [F_spec_swTogether_L3]
      rw [ilt_f (by omega), cond_false]
      have : j = N := by omega
      subst this
      rfl
  | succ d ih =>
    intro j n m hj hn hm
    cases n with
    | zero => omega
    | succ n =>
      have hjN : j < N := by omega
      have h1 := ht j hjN
      have h2 := hb j hjN
      have hs := bitStep_lt (t := t) (b := b) ht hb hm hjN
      simp only [F_spec_swTogether_L3]
      rw [ilt_t (by omega), cond_true, gd_t (by omega), ishr_bit (by omega), iadd_id (by omega) (by omega), show ((j : Int) + 1) = ((j + 1 : Nat) : Int) by omega, List.range'_succ]
      have := ih (j + 1) n (Grp.bitStep t b m j) (by omega) (by omega) hs
      have e : Grp.bitPass t b m (j :: List.range' (j + 1) d) = Grp.bitPass t b (Grp.bitStep t b m j) (List.range' (j + 1) d) := rfl
      rw [e, ← this]
      unfold Grp.bitStep
      cases hbit : m.testBit j
      · rw [cond_false]
        simp
      · rw [cond_true, gd_t (inL_row hjN), gat_row hjN, gd_t (by omega), gd_t (inL_row hjN), gat_row hjN, gd_t (by omega), ishl_pow (by omega), ishl_pow (by omega),
          ior_nat (pow60 (Nat.pow_lt_pow_right (by omega) h1) (by omega)) (pow60 (Nat.pow_lt_pow_right (by omega) h2) (by omega)),
          ior_nat (pow60 hm (by omega)) (pow60 (N := N) (Nat.or_lt_two_pow (Nat.pow_lt_pow_right (by omega) h1) (Nat.pow_lt_pow_right (by omega) h2)) (by omega))]
        simp
theorem tog_L2 (ht : ∀ i, i < N → t i < N) (hb : ∀ i, i < N → b i < N) (hN : N ≤ 50) (hf : 100000 < fu) {c0 : Bool} {c3 : List (List Int)} {c4 c7 : Int} : ∀ (d k n m : Nat), k + d = N → d < n → m < 2 ^ N →
    F_spec_swTogether_L2 fu c0 (row N t) (row N b) c3 c4 (N : Int) c7 n (m : Int) (k : Int) = some (((Grp.bitRuns N t b d m : Nat) : Int), (N : Int)) ∧ Grp.bitRuns N t b d m < 2 ^ N := by
  intro d
  induction d with
  | zero =>
    intro k n m hk hn hm
    cases n with
    | zero => omega
    | succ n =>
      simp only [F_spec_swTogether_L2, llen_row]
      rw [ilt_f (by omega), cond_false]
      have : k = N := by omega
      subst this
      exact ⟨rfl, hm⟩
  | succ d ih =>
    intro k n m hk hn hm
    cases n with
    | zero => omega
    | succ n =>
      simp only [F_spec_swTogether_L2, llen_row]
      have h3 := tog_L3 (fu := fu) (c0 := c0) (c3 := c3) (c4 := c4) (c5 := (k : Int)) (c7 := c7) ht hb hN N 0 fu m (by omega) (by omega) hm
      rw [Int.natCast_zero] at h3
      rw [ilt_t (by omega), cond_true, h3, bd_of, iadd_id (by omega) (by omega), show ((k : Int) + 1) = ((k + 1 : Nat) : Int) by omega, ← List.range_eq_range']
      exact ih (k + 1) n _ (by omega) (by omega) (bitPass_lt ht hb (by simp) hm)
theorem tog_L4 (ht : ∀ i, i < N → t i < N) (hb : ∀ i, i < N → b i < N) (hN : N ≤ 50) {m : Nat} {c0 : Bool} {c3 : List (List Int)} {c4 c7 : Int} : ∀ (d j n : Nat) (l : List Int) (e : Bool), j + d = N → d < n → l.length + d ≤ 1000 →
    F_spec_swTogether_L4 fu c0 (row N t) (row N b) c3 c4 (m : Int) (N : Int) c7 n l e (j : Int) = some (l ++ nats ((List.range' j d).filter fun k => m.testBit k), (e || ((List.range' j d).filter fun k => m.testBit k).any (Grp.tip t b)), (N : Int)) := by
  intro d
  induction d with
  | zero =>
    intro j n l e hj hn hl
    cases n with
    | zero => omega
    | succ n =>
      simp only [F_spec_swTogether_L4]
      rw [ilt_f (by omega), cond_false]
      have : j = N := by omega
      subst this
      simp [nats]
  | succ d ih =>
    intro j n l e hj hn hl
    cases n with
    | zero => omega
    | succ n =>
      have hjN : j < N := by omega
      simp only [F_spec_swTogether_L4]
      rw [ilt_t (by omega), cond_true, gd_t (by omega), ishr_bit (by omega), iadd_id (by omega) (by omega), show ((j : Int) + 1) = ((j + 1 : Nat) : Int) by omega, List.range'_succ]
      cases hbit : m.testBit j
      · rw [cond_false, ih (j + 1) n l e (by omega) (by omega) (by omega), List.filter_cons_of_neg (by simp [hbit])]
      · rw [cond_true, gd_t (by simp; omega), List.filter_cons_of_pos (by simp [hbit]), List.any_cons, gd_t (inL_row hjN), gat_row hjN, ieq_nat, gd_t (inL_row hjN), gat_row hjN, ieq_nat]
        have key : ∀ e', F_spec_swTogether_L4 fu c0 (row N t) (row N b) c3 c4 (m : Int) (N : Int) c7 n (lapp l [(j : Int)]) e' ((j + 1 : Nat) : Int) = _ := fun e' => ih (j + 1) n (lapp l [(j : Int)]) e' (by omega) (by omega) (by simp [lapp]; omega)
        rw [key, key]
        unfold Grp.tip
        simp only [lapp, List.append_assoc, List.singleton_append, nats_cons]
        cases e <;> cases (t j == j) <;> cases (b j == j) <;> simp
theorem tog_L1 (ht : Grp.Inv N t) (hb : Grp.Inv N b) (hN : N ≤ 50) (hf : 100000 < fu) {p : Bool} : ∀ (d i n s : Nat), i + d = N → d < n → s < 2 ^ N →
    (∀ j, j < N → (s.testBit j = true ↔ Grp.Old t b i j)) →
    ∃ s' : Int, F_spec_swTogether_L1 fu p (row N t) (row N b) (N : Int) n (Grp.told N t b p i) (s : Int) (i : Int) = some (Grp.told N t b p N, s', (N : Int)) := by
  intro d
  induction d with
  | zero =>
    intro i n s hi hn hl hs
    cases n with
    | zero => omega
    | succ n =>
      refine ⟨s, ?_⟩
      simp only [F_spec_swTogether_L1]
      have : i = N := by omega
      subst this
      rw [ilt_f (by omega), cond_false]
  | succ d ih =>
    intro i n s hi hn hl hs
    cases n with
    | zero => omega
    | succ n =>
      have hiN : i < N := by omega
      have l1 := Grp.told_len (n := N) (t := t) (b := b) (p := p) i
      simp only [F_spec_swTogether_L1]
      rw [ilt_t (by omega), cond_true, gd_t (by omega), ishr_bit (by omega), iadd_id (by omega) (by omega), show ((i : Int) + 1) = ((i + 1 : Nat) : Int) by omega]
      cases hv : s.testBit i with
      | true =>
        have ho := (hs i hiN).1 hv
        rw [cond_true, ← told_old (p := p) ho]
        exact ih (i + 1) n s (by omega) (by omega) hl fun j hj => by rw [hs j hj, Grp.Old.succ_of_old (n := N) ho]
      | false =>
        have ho : ¬ Grp.Old t b i i := fun h => by
          have := (hs i hiN).2 h
          rw [hv] at this; cases this
        have hr := Grp.bitRuns_reach ht hb hiN
        obtain ⟨e2, hlt⟩ := tog_L2 (fu := fu) (c0 := p) (c3 := Grp.told N t b p i) (c4 := (s : Int)) (c7 := (i : Int)) ht.lt hb.lt hN hf N 0 fu (2 ^ i) (by omega) (by omega) (Nat.pow_lt_pow_right (by omega) hiN)
        rw [Int.natCast_zero] at e2
        rw [cond_false, gd_t (by omega), ishl_pow (by omega), e2, bd_of]
        simp only
        have h60 := pow60 hlt (by omega)
        have hs60 := pow60 hl (by omega)
        rw [ior_nat hs60 h60]
        have e4 := tog_L4 (fu := fu) (m := Grp.bitRuns N t b N (2 ^ i)) (c0 := p) (c3 := Grp.told N t b p i) (c4 := ((s ||| Grp.bitRuns N t b N (2 ^ i) : Nat) : Int)) (c7 := (i : Int)) ht.lt hb.lt hN N 0 fu [] false (by omega) (by omega) (by simp; omega)
        rw [Int.natCast_zero] at e4
        have hcls : ((List.range' 0 N).filter fun k => (Grp.bitRuns N t b N (2 ^ i)).testBit k) = Grp.cls N t b i := by
          rw [← List.range_eq_range']
          unfold Grp.cls
          refine List.filter_congr fun k hk => ?_
          rw [Bool.eq_iff_iff, hr k]
          simp
        rw [hcls] at e4
        rw [e4, bd_of]
        simp only [List.nil_append, Bool.false_or]
        have hs' : ∀ j, j < N → ((s ||| Grp.bitRuns N t b N (2 ^ i)).testBit j = true ↔ Grp.Old t b (i + 1) j) := fun j hj => by
          rw [Nat.testBit_or, Bool.or_eq_true, hs j hj, hr j, Grp.Old.succ]
        have := ih (i + 1) n (s ||| Grp.bitRuns N t b N (2 ^ i)) (by omega) (by omega) (Nat.or_lt_two_pow hl hlt) hs'
        by_cases hp : (Grp.cls N t b i).any (Grp.tip t b) = p
        · rw [told_yes ho hp] at this
          rw [show beq' ((Grp.cls N t b i).any (Grp.tip t b)) p = true by rw [hp]; simp [beq'], cond_true, gd_t (by omega)]
          exact this
        · rw [told_no ho hp] at this
          rw [show beq' ((Grp.cls N t b i).any (Grp.tip t b)) p = false by simp [beq', hp], cond_false]
          exact this
theorem together_eq {ps qs : List Nat} {p : Bool} (hf : 100000 < fu) (h1 : ps.length ≤ 1000) (h2 : qs.length ≤ 1000) (h3 : ps.sum ≤ 50) (h4 : qs.sum = ps.sum) :
    F_spec_swTogether fu (nats ps) (nats qs) p = some (Grp.told ps.sum (Grp.arcF ps) (Grp.arcF qs) p ps.sum) := by
  unfold F_spec_swTogether
  rw [arcsS_eq (by omega) h1 (by omega), arcsS_eq (by omega) h2 (by omega), bd_of, bd_of, llen_row]
  have hq := Grp.arcF_inv qs
  rw [h4] at hq ⊢
  obtain ⟨s, e⟩ := tog_L1 (fu := fu) (p := p) (Grp.arcF_inv ps) hq h3 hf ps.sum 0 fu 0 (by omega) (by omega) (Nat.two_pow_pos _) fun j hj => by
    simp only [Nat.zero_testBit, Bool.false_eq_true, false_iff]
    exact Grp.Old.zero
  rw [Int.natCast_zero] at e
  have e3 : F_spec_swTogether_L1 fu p (row ps.sum (Grp.arcF ps)) (row ps.sum (Grp.arcF qs)) (ps.sum : Int) fu (@List.nil (List Int)) 0 0 = _ := e
  rw [e3, bd_of]
end
end Go.Proofs.Ytigpmjebldgekaa.AL

/- Lists of pairs compared and marked; the laws IsSimple, PiecesOf and PiecesBack hold. No condition. -/
import Derived.Test.YtbckijeffiofdaaPC3
namespace Go.Proofs.Ytbckijeffiofdaa.AL
open Go Go.Proofs.Ytbckijeffiofdaa.Arch
set_option linter.unusedVariables false
set_option linter.unusedSimpArgs false
set_option maxRecDepth 100000
section
variable {fu : Nat}
def marksPP (m : Int) : List PL → List PL
  | [] => []
  | x :: xs => (marks m x.1.length, marks (m + (x.1.length : Int)) x.2.length) :: marksPP (m + (x.1.length : Int) + (x.2.length : Int)) xs
def cellsP (rs : List PL) : Nat := (rs.map fun x => x.1.length + x.2.length).sum
theorem marksPP_len : ∀ {rs : List PL} {m : Int}, (marksPP m rs).length = rs.length
  | [], _ => rfl
  | r :: rs, m => by simp [marksPP, marksPP_len (rs := rs)]
theorem gatP {pre rest : List PL} {r : PL} {k : Nat} (h : pre.length = k) : gat pnil (pre ++ r :: rest) (k : Int) = r := by
  subst h
  simp [gat_eq]
theorem lsetP {pre rest : List PL} {r r' : PL} {k : Nat} (h : pre.length = k) : lset (pre ++ r :: rest) (k : Int) r' = pre ++ r' :: rest := by
  subst h
  simp [lset]
theorem cellsP_cons {r : PL} {rs : List PL} : cellsP (r :: rs) = r.1.length + r.2.length + cellsP rs := by simp [cellsP]
theorem markP_L (hf : 1048576 < fu) : ∀ (rest pre : List PL) (k n : Nat) (m : Int), pre.length = k → rest.length < n → pre.length + rest.length ≤ 1048576 → 0 ≤ m → m + (cellsP rest : Int) ≤ 16777216 → (∀ r ∈ rest, Small r) →
    F_laws_markMeanderS_L1 fu n (pre ++ rest) m (k : Int) = some (pre ++ marksPP m rest, m + (cellsP rest : Int), ((pre.length + rest.length : Nat) : Int)) := by
  intro rest
  induction rest with
  | nil =>
    intro pre k n m hk hn hl h0 h1 hr
    cases n with
    | zero => simp at hn
    | succ n =>
      simp only [F_laws_markMeanderS_L1]
      rw [ilt_f (by simp [llen]; omega), cond_false]
      simp [marksPP, cellsP, hk]
  | cons r rest ih =>
    intro pre k n m hk hn hl h0 h1 hr
    cases n with
    | zero => simp at hn
    | succ n =>
      simp at hl hn
      have hc := cellsP_cons (r := r) (rs := rest)
      obtain ⟨ha, hb⟩ := hr r (by simp)
      have hin : ∀ y : PL, inL (pre ++ y :: rest) (k : Int) := fun y => inL_nat (by simp; omega)
      simp only [F_laws_markMeanderS_L1]
      rw [ilt_t (by simp [llen]; omega), cond_true, gd_t (hin r), gatP hk, markIntS_eq h0 (by omega) (by omega), bd_of]
      simp only [lsetP hk, gatP hk]
      rw [gd_t (hin _), markIntS_eq (by omega) (by omega) (by omega), bd_of, iadd_id (by omega) (by omega), show ((k : Int) + 1) = ((k + 1 : Nat) : Int) by omega]
      have := ih (pre ++ [(marks m r.1.length, marks (m + (r.1.length : Int)) r.2.length)]) (k + 1) n (m + (r.1.length : Int) + (r.2.length : Int)) (by simp [hk]) (by omega) (by simp; omega) (by omega) (by omega) (fun x hx => hr x (by simp [hx]))
      simp only [List.append_assoc, List.singleton_append] at this
      rw [this, hc]
      simp [marksPP]
      omega
theorem markP_eq {rs : List PL} {m : Int} (hf : 1048576 < fu) (hl : rs.length ≤ 1048576) (h0 : 0 ≤ m) (h1 : m + (cellsP rs : Int) ≤ 16777216) (hr : ∀ r ∈ rs, Small r) :
    F_laws_markMeanderS fu rs m = some (m + (cellsP rs : Int), marksPP m rs) := by
  have := markP_L (fu := fu) hf rs [] 0 fu m rfl (by omega) (by simpa using hl) h0 h1 hr
  rw [Int.natCast_zero] at this
  simp only [List.nil_append] at this
  unfold F_laws_markMeanderS
  rw [this, bd_of]
theorem heldP_L (hf : 1048576 < fu) : ∀ (rest pre : List PL) (k n : Nat) (m : Int), pre.length = k → rest.length < n → pre.length + rest.length ≤ 1048576 → 0 ≤ m → m + (cellsP rest : Int) ≤ 16777216 → (∀ r ∈ rest, Small r) →
    F_laws_heldMeanderS_L1 fu (pre ++ marksPP m rest) n m (k : Int) = some (.brk (m + (cellsP rest : Int), ((pre.length + rest.length : Nat) : Int))) := by
  intro rest
  induction rest with
  | nil =>
    intro pre k n m hk hn hl h0 h1 hr
    cases n with
    | zero => simp at hn
    | succ n =>
      simp only [F_laws_heldMeanderS_L1]
      rw [ilt_f (by simp [llen, marksPP]; omega), cond_false]
      simp [marksPP, cellsP, hk]
  | cons r rest ih =>
    intro pre k n m hk hn hl h0 h1 hr
    cases n with
    | zero => simp at hn
    | succ n =>
      simp at hl hn
      have hc := cellsP_cons (r := r) (rs := rest)
      obtain ⟨ha, hb⟩ := hr r (by simp)
      rw [show marksPP m (r :: rest) = (marks m r.1.length, marks (m + (r.1.length : Int)) r.2.length) :: marksPP (m + (r.1.length : Int) + (r.2.length : Int)) rest from rfl]
      simp only [F_laws_heldMeanderS_L1]
      have hin : inL (pre ++ (marks m r.1.length, marks (m + (r.1.length : Int)) r.2.length) :: marksPP (m + (r.1.length : Int) + (r.2.length : Int)) rest) (k : Int) := inL_nat (by simp; omega)
      simp only [gd_t hin, gatP hk]
      rw [ilt_t (by simp [llen, marksPP_len]; omega), cond_true, heldIntS_eq h0 (by omega) (by omega), bd_of, ilt_f (by omega), cond_false, heldIntS_eq (by omega) (by omega) (by omega), bd_of, ilt_f (by omega), cond_false, iadd_id (by omega) (by omega), show ((k : Int) + 1) = ((k + 1 : Nat) : Int) by omega]
      have := ih (pre ++ [(marks m r.1.length, marks (m + (r.1.length : Int)) r.2.length)]) (k + 1) n (m + (r.1.length : Int) + (r.2.length : Int)) (by simp [hk]) (by omega) (by simp; omega) (by omega) (by omega) (fun x hx => hr x (by simp [hx]))
      simp only [List.append_assoc, List.singleton_append] at this
      rw [this, hc]
      simp
      omega
theorem heldP_eq {rs : List PL} {m : Int} (hf : 1048576 < fu) (hl : rs.length ≤ 1048576) (h0 : 0 ≤ m) (h1 : m + (cellsP rs : Int) ≤ 16777216) (hr : ∀ r ∈ rs, Small r) :
    F_laws_heldMeanderS fu (marksPP m rs) m = some (m + (cellsP rs : Int)) := by
  have := heldP_L (fu := fu) hf rs [] 0 fu m rfl (by omega) (by simpa using hl) h0 h1 hr
  rw [Int.natCast_zero] at this
  simp only [List.nil_append] at this
  unfold F_laws_heldMeanderS
  rw [this, bd_of]
  rfl
theorem eqP_L {rs : List PL} (hf : 1048576 < fu) (hl : rs.length ≤ 1048576) (hr : ∀ r ∈ rs, Small r) : ∀ (d k n : Nat), k + d = rs.length → d < n →
    F_laws_eqMeanderS_L1 fu rs rs n (k : Int) = some (.brk (rs.length : Int)) := by
  intro d
  induction d with
  | zero =>
    intro k n hk hn
    cases n with
    | zero => omega
    | succ n =>
      simp only [F_laws_eqMeanderS_L1, llen]
      rw [ilt_f (by omega), cond_false]
      congr 2
      omega
  | succ d ih =>
    intro k n hk hn
    cases n with
    | zero => omega
    | succ n =>
      have hk' : k < rs.length := by omega
      obtain ⟨ha, hb⟩ := hr _ (List.getElem_mem hk')
      simp only [F_laws_eqMeanderS_L1, llen]
      rw [ilt_t (by omega), cond_true, gd_t (inL_nat hk'), gd_t (inL_nat hk'), gat_nat hk', eqMeander_eq (by omega) (by omega) hf, bd_of, show bnot true = false from rfl, cond_false, iadd_id (by omega) (by omega)]
      exact ih (k + 1) n (by omega) (by omega)
theorem eqP_eq {rs : List PL} (hf : 1048576 < fu) (hl : rs.length ≤ 1048576) (hr : ∀ r ∈ rs, Small r) : F_laws_eqMeanderS fu rs rs = some true := by
  have := eqP_L (fu := fu) hf hl hr rs.length 0 fu (by omega) (by omega)
  rw [Int.natCast_zero] at this
  unfold F_laws_eqMeanderS
  rw [ine_f rfl, cond_false, this, bd_of]
  rfl
theorem cellsP_le : ∀ {rs : List PL}, (∀ r ∈ rs, Small r) → cellsP rs ≤ 200 * rs.length
  | [], _ => by simp [cellsP]
  | r :: rs, h => by
    obtain ⟨ha, hb⟩ := h r (by simp)
    have h2 := cellsP_le (rs := rs) fun x hx => h x (by simp [hx])
    rw [cellsP_cons, List.length_cons]
    omega
/-! The functions -/
variable {p q : List Int}
theorem cut_eq (hp : p.length ≤ 1048576) (hq : q.length ≤ 1048576) (hf : 1048576 < fu) :
    F_impl_isCut fu p q = some ((sysB p && sysB q) && decide (p.length = q.length) && decide (0 < p.length)) ∧
    (bd (F_spec_mePair fu p q) fun r1 => bif (bnot r1) then some true else some (ieq (llen p) 0)) = some (!((sysB p && sysB q) && decide (p.length = q.length) && decide (0 < p.length))) := by
  constructor
  · unfold F_impl_isCut
    rw [IsPair_eq (by omega) (by omega) (by omega) (by omega), bd_of]
    cases ((sysB p && sysB q) && decide (p.length = q.length))
    · rfl
    · rw [cond_true, ilt_eq]
      simp only [Bool.true_and, llen, Option.some.injEq]
      by_cases h : 0 < p.length <;> simp [h]
  · rw [mePair_eq (by omega) (by omega) (by omega) (by omega), bd_of]
    cases ((sysB p && sysB q) && decide (p.length = q.length))
    · rfl
    · rw [show bnot true = false from rfl, cond_false, ieq_eq]
      simp only [llen, Bool.true_and, Option.some.injEq]
      rw [show ((p.length : Int) == 0) = decide (p.length = 0) by rw [Bool.eq_iff_iff]; simp]
      by_cases h : p.length = 0
      · rw [h]; rfl
      · have h2 : 0 < p.length := by omega
        rw [decide_eq_false h, decide_eq_true h2]; rfl
theorem cut_of (h : ((sysB p && sysB q) && decide (p.length = q.length) && decide (0 < p.length)) = true) : p.length = q.length ∧ p.length ≤ 12 ∧ Joint p ∧ Joint q := by
  simp only [Bool.and_eq_true, decide_eq_true_eq, sysB] at h
  obtain ⟨⟨⟨⟨h1, h2⟩, h3, h4⟩, h5⟩, h6⟩ := h
  exact ⟨h5, h1, sys_joint ((arcB_iff p).1 h2), sys_joint ((arcB_iff q).1 h4)⟩
theorem simple_eq (hp : p.length ≤ 1048576) (hq : q.length ≤ 1048576) (hf : 1048576 < fu) : ∃ S, F_spec_IsSimple fu p q = some S ∧ F_impl_IsSimple fu p q = some S := by
  obtain ⟨e1, e2⟩ := cut_eq (fu := fu) hp hq hf
  unfold F_spec_IsSimple F_impl_IsSimple
  rw [e1, e2, bd_of, bd_of]
  cases h : ((sysB p && sysB q) && decide (p.length = q.length) && decide (0 < p.length))
  · exact ⟨_, rfl, rfl⟩
  · obtain ⟨h1, h2, h3, h4⟩ := cut_of h
    obtain ⟨R, r1, r2, r3, r4⟩ := pieces_eq (fu := fu) (b := false) h1 (by omega) (by omega) h3 h4
    unfold F_spec_siSimple F_impl_Meander_isSimple
    rw [r1, r2]
    exact ⟨_, rfl, rfl⟩
theorem piecesOf_eq (hp : p.length ≤ 1048576) (hq : q.length ≤ 1048576) (hf : 1048576 < fu) : ∃ S : List PL × Bool, F_spec_PiecesOf fu p q = some S ∧ F_impl_PiecesOf fu p q = some S ∧ S.1.length ≤ 1000 ∧ ∀ x ∈ S.1, Small x := by
  obtain ⟨e1, e2⟩ := cut_eq (fu := fu) hp hq hf
  unfold F_spec_PiecesOf F_impl_PiecesOf
  rw [e1, e2, bd_of, bd_of]
  cases h : ((sysB p && sysB q) && decide (p.length = q.length) && decide (0 < p.length))
  · exact ⟨_, rfl, rfl, by simp, by simp⟩
  · obtain ⟨h1, h2, h3, h4⟩ := cut_of h
    obtain ⟨R, r1, r2, r3, r4⟩ := pieces_eq (fu := fu) (b := false) h1 (by omega) (by omega) h3 h4
    rw [r1, r2]
    exact ⟨_, rfl, rfl, r3, r4⟩
theorem piecesBack_eq (hp : p.length ≤ 1048576) (hq : q.length ≤ 1048576) (hf : 1048576 < fu) : ∃ S : List PL × Bool, F_spec_PiecesBack fu p q = some S ∧ F_impl_PiecesBack fu p q = some S ∧ S.1.length ≤ 1000 ∧ ∀ x ∈ S.1, Small x := by
  obtain ⟨e1, e2⟩ := cut_eq (fu := fu) hp hq hf
  unfold F_spec_PiecesBack F_impl_PiecesBack
  rw [e1, e2, bd_of, bd_of]
  cases h : ((sysB p && sysB q) && decide (p.length = q.length) && decide (0 < p.length))
  · exact ⟨_, rfl, rfl, by simp, by simp⟩
  · obtain ⟨h1, h2, h3, h4⟩ := cut_of h
    obtain ⟨R, r1, r2, r3, r4⟩ := pieces_eq (fu := fu) (b := true) h1 (by omega) (by omega) h3 h4
    rw [r1, r2]
    exact ⟨_, rfl, rfl, r3, r4⟩
end
theorem law_IsSimple {a b : List Int} (ha : a.length ≤ 9223372036854775807) (hb : b.length ≤ 9223372036854775807) : F_laws_FnExactIsSimple 2000000 a b = some true := by
  unfold F_laws_FnExactIsSimple
  rw [szMeander_eq (by omega) (by omega) ha hb, bd_of]
  by_cases h1 : (a.length : Int) + (b.length : Int) ≤ 1048576
  · rw [if_pos h1, ilt_f (by omega), cond_false]
    have t1 := toMeander_eq (fu := 2000000) (a := a) (b := b) (by omega) (by omega) (by omega)
    have q1 := eqMeander_eq (fu := 2000000) (a := a) (b := b) (by omega) (by omega) (by omega)
    obtain ⟨S, e1, e2⟩ := simple_eq (fu := 2000000) (p := a) (q := b) (by omega) (by omega) (by omega)
    simp [t1, q1, e1, e2, bnot, bne', ine_eq]
  · rw [if_neg h1, ilt_t (by omega), cond_true]
theorem law_PiecesOf {a b : List Int} (ha : a.length ≤ 9223372036854775807) (hb : b.length ≤ 9223372036854775807) : F_laws_FnExactPiecesOf 2000000 a b = some true := by
  unfold F_laws_FnExactPiecesOf
  rw [szMeander_eq (by omega) (by omega) ha hb, bd_of]
  by_cases h1 : (a.length : Int) + (b.length : Int) ≤ 1048576
  · rw [if_pos h1, ilt_f (by omega), cond_false]
    have t1 := toMeander_eq (fu := 2000000) (a := a) (b := b) (by omega) (by omega) (by omega)
    have q1 := eqMeander_eq (fu := 2000000) (a := a) (b := b) (by omega) (by omega) (by omega)
    obtain ⟨S, e1, e2, l1, l2⟩ := piecesOf_eq (fu := 2000000) (p := a) (q := b) (by omega) (by omega) (by omega)
    have hc := cellsP_le l2
    have m0 := markMeander_eq (fu := 2000000) (a := a) (b := b) (m := 1) (by omega) (by omega) (by omega) (by omega) (by omega)
    have m1 := markP_eq (fu := 2000000) (rs := S.1) (m := 1) (by omega) (by omega) (by omega) (by omega) l2
    have h3 := heldP_eq (fu := 2000000) (rs := S.1) (m := 1) (by omega) (by omega) (by omega) (by omega) l2
    have q2 := eqP_eq (fu := 2000000) (rs := S.1) (by omega) (by omega) l2
    have n1 : ilt (1 + (a.length : Int) + (b.length : Int)) 0 = false := ilt_f (by omega)
    have n2 : ilt (1 + (cellsP S.1 : Int)) 0 = false := ilt_f (by omega)
    simp [t1, q1, q2, m0, m1, h3, e1, e2, n1, n2, bnot, bne', ine_eq]
  · rw [if_neg h1, ilt_t (by omega), cond_true]
theorem law_PiecesBack {a b : List Int} (ha : a.length ≤ 9223372036854775807) (hb : b.length ≤ 9223372036854775807) : F_laws_FnExactPiecesBack 2000000 a b = some true := by
  unfold F_laws_FnExactPiecesBack
  rw [szMeander_eq (by omega) (by omega) ha hb, bd_of]
  by_cases h1 : (a.length : Int) + (b.length : Int) ≤ 1048576
  · rw [if_pos h1, ilt_f (by omega), cond_false]
    have t1 := toMeander_eq (fu := 2000000) (a := a) (b := b) (by omega) (by omega) (by omega)
    have q1 := eqMeander_eq (fu := 2000000) (a := a) (b := b) (by omega) (by omega) (by omega)
    obtain ⟨S, e1, e2, l1, l2⟩ := piecesBack_eq (fu := 2000000) (p := a) (q := b) (by omega) (by omega) (by omega)
    have hc := cellsP_le l2
    have m0 := markMeander_eq (fu := 2000000) (a := a) (b := b) (m := 1) (by omega) (by omega) (by omega) (by omega) (by omega)
    have m1 := markP_eq (fu := 2000000) (rs := S.1) (m := 1) (by omega) (by omega) (by omega) (by omega) l2
    have h3 := heldP_eq (fu := 2000000) (rs := S.1) (m := 1) (by omega) (by omega) (by omega) (by omega) l2
    have q2 := eqP_eq (fu := 2000000) (rs := S.1) (by omega) (by omega) l2
    have n1 : ilt (1 + (a.length : Int) + (b.length : Int)) 0 = false := ilt_f (by omega)
    have n2 : ilt (1 + (cellsP S.1 : Int)) 0 = false := ilt_f (by omega)
    simp [t1, q1, q2, m0, m1, h3, e1, e2, n1, n2, bnot, bne', ine_eq]
  · rw [if_neg h1, ilt_t (by omega), cond_true]
end Go.Proofs.Ytbckijeffiofdaa.AL

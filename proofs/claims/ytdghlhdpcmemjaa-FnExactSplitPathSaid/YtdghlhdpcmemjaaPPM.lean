/- Lists of pairs compared and marked. No condition. -/
import Derived.Test.YtdghlhdpcmemjaaPA2
namespace Go.Proofs.Ytdghlhdpcmemjaa.AL
open Go
set_option linter.unusedVariables false
set_option linter.unusedSimpArgs false
set_option maxRecDepth 100000
def Small (x : PL) : Prop := x.1.length ≤ 100 ∧ x.2.length ≤ 100
section
variable {fu : Nat}
def marksPP (m : Int) : List PL → List PL
  | [] => []
  | x :: xs => (marks m x.1.length, marks (m + (x.1.length : Int)) x.2.length) :: marksPP (m + (x.1.length : Int) + (x.2.length : Int)) xs
def cellsP (rs : List PL) : Nat := (rs.map fun x => x.1.length + x.2.length).sum
theorem marksPP_len : ∀ {rs : List PL} {m : Int}, (marksPP m rs).length = rs.length
  | [], _ => rfl
  | r :: rs, m => by simp [marksPP, marksPP_len (rs := rs)]
theorem gatP {pre rest : List PL} {r : PL} {k : Nat} (h : pre.length = k) : gat pnil (pre ++ r :: rest) (k : Int) = r := by
  subst h
  simp [gat_eq]
theorem lsetP {pre rest : List PL} {r r' : PL} {k : Nat} (h : pre.length = k) : lset (pre ++ r :: rest) (k : Int) r' = pre ++ r' :: rest := by
  subst h
  simp [lset]
theorem cellsP_cons {r : PL} {rs : List PL} : cellsP (r :: rs) = r.1.length + r.2.length + cellsP rs := by simp [cellsP]
theorem markP_L (hf : 1048576 < fu) : ∀ (rest pre : List PL) (k n : Nat) (m : Int), pre.length = k → rest.length < n → pre.length + rest.length ≤ 1048576 → 0 ≤ m → m + (cellsP rest : Int) ≤ 16777216 → (∀ r ∈ rest, Small r) →
    F_laws_markMeanderS_L1 fu n (pre ++ rest) m (k : Int) = some (pre ++ marksPP m rest, m + (cellsP rest : Int), ((pre.length + rest.length : Nat) : Int)) := by
  intro rest
  induction rest with
  | nil =>
    intro pre k n m hk hn hl h0 h1 hr
    cases n with
    | zero => simp at hn
    | succ n =>
      simp only [F_laws_markMeanderS_L1]
      rw [ilt_f (by simp [llen]; omega), cond_false]
      simp [marksPP, cellsP, hk]
  | cons r rest ih =>
    intro pre k n m hk hn hl h0 h1 hr
    cases n with
    | zero => simp at hn
    | succ n =>
      simp at hl hn
      have hc := cellsP_cons (r := r) (rs := rest)
      obtain ⟨ha, hb⟩ := hr r (by simp)
      have hin : ∀ y : PL, inL (pre ++ y :: rest) (k : Int) := fun y => inL_nat (by simp; omega)
      simp only [F_laws_markMeanderS_L1]
      rw [ilt_t (by simp [llen]; omega), cond_true, gd_t (hin r), gatP hk, markIntS_eq h0 (by omega) (by omega), bd_of]
      simp only [lsetP hk, gatP hk]
      rw [gd_t (hin _), markIntS_eq (by omega) (by omega) (by omega), bd_of, iadd_id (by omega) (by omega), show ((k : Int) + 1) = ((k + 1 : Nat) : Int) by omega]
      have := ih (pre ++ [(marks m r.1.length, marks (m + (r.1.length : Int)) r.2.length)]) (k + 1) n (m + (r.1.length : Int) + (r.2.length : Int)) (by simp [hk]) (by omega) (by simp; omega) (by omega) (by omega) (fun x hx => hr x (by simp [hx]))
      simp only [List.append_assoc, List.singleton_append] at this
      rw [this, hc]
      simp [marksPP]
      omega
theorem markP_eq {rs : List PL} {m : Int} (hf : 1048576 < fu) (hl : rs.length ≤ 1048576) (h0 : 0 ≤ m) (h1 : m + (cellsP rs : Int) ≤ 16777216) (hr : ∀ r ∈ rs, Small r) :
    F_laws_markMeanderS fu rs m = some (m + (cellsP rs : Int), marksPP m rs) := by
  have := markP_L (fu := fu) hf rs [] 0 fu m rfl (by omega) (by simpa using hl) h0 h1 hr
  rw [Int.natCast_zero] at this
  simp only [List.nil_append] at this
  unfold F_laws_markMeanderS
  rw [this, bd_of]
theorem heldP_L (hf : 1048576 < fu) : ∀ (rest pre : List PL) (k n : Nat) (m : Int), pre.length = k → rest.length < n → pre.length + rest.length ≤ 1048576 → 0 ≤ m → m + (cellsP rest : Int) ≤ 16777216 → (∀ r ∈ rest, Small r) →
    F_laws_heldMeanderS_L1 fu (pre ++ marksPP m rest) n m (k : Int) = some (.brk (m + (cellsP rest : Int), ((pre.length + rest.length : Nat) : Int))) := by
  intro rest
  induction rest with
  | nil =>
    intro pre k n m hk hn hl h0 h1 hr
    cases n with
    | zero => simp at hn
    | succ n =>
      simp only [F_laws_heldMeanderS_L1]
      rw [ilt_f (by simp [llen, marksPP]; omega), cond_false]
      simp [marksPP, cellsP, hk]
  | cons r rest ih =>
    intro pre k n m hk hn hl h0 h1 hr
    cases n with
    | zero => simp at hn
    | succ n =>
      simp at hl hn
      have hc := cellsP_cons (r := r) (rs := rest)
      obtain ⟨ha, hb⟩ := hr r (by simp)
      rw [show marksPP m (r :: rest) = (marks m r.1.length, marks (m + (r.1.length : Int)) r.2.length) :: marksPP (m + (r.1.length : Int) + (r.2.length : Int)) rest from rfl]
      simp only [F_laws_heldMeanderS_L1]
      have hin : inL (pre ++ (marks m r.1.length, marks (m + (r.1.length : Int)) r.2.length) :: marksPP (m + (r.1.length : Int) + (r.2.length : Int)) rest) (k : Int) := inL_nat (by simp; omega)
      simp only [gd_t hin, gatP hk]
      rw [ilt_t (by simp [llen, marksPP_len]; omega), cond_true, heldIntS_eq h0 (by omega) (by omega), bd_of, ilt_f (by omega), cond_false, heldIntS_eq (by omega) (by omega) (by omega), bd_of, ilt_f (by omega), cond_false, iadd_id (by omega) (by omega), show ((k : Int) + 1) = ((k + 1 : Nat) : Int) by omega]
      have := ih (pre ++ [(marks m r.1.length, marks (m + (r.1.length : Int)) r.2.length)]) (k + 1) n (m + (r.1.length : Int) + (r.2.length : Int)) (by simp [hk]) (by omega) (by simp; omega) (by omega) (by omega) (fun x hx => hr x (by simp [hx]))
      simp only [List.append_assoc, List.singleton_append] at this
      rw [this, hc]
      simp
      omega
theorem heldP_eq {rs : List PL} {m : Int} (hf : 1048576 < fu) (hl : rs.length ≤ 1048576) (h0 : 0 ≤ m) (h1 : m + (cellsP rs : Int) ≤ 16777216) (hr : ∀ r ∈ rs, Small r) :
    F_laws_heldMeanderS fu (marksPP m rs) m = some (m + (cellsP rs : Int)) := by
  have := heldP_L (fu := fu) hf rs [] 0 fu m rfl (by omega) (by simpa using hl) h0 h1 hr
  rw [Int.natCast_zero] at this
  simp only [List.nil_append] at this
  unfold F_laws_heldMeanderS
  rw [this, bd_of]
  rfl
theorem eqP_L {rs : List PL} (hf : 1048576 < fu) (hl : rs.length ≤ 1048576) (hr : ∀ r ∈ rs, Small r) : ∀ (d k n : Nat), k + d = rs.length → d < n →
    F_laws_eqMeanderS_L1 fu rs rs n (k : Int) = some (.brk (rs.length : Int)) := by
  intro d
  induction d with
  | zero =>
    intro k n hk hn
    cases n with
    | zero => omega
    | succ n =>
      simp only [F_laws_eqMeanderS_L1, llen]
      rw [ilt_f (by omega), cond_false]
      congr 2
      omega
  | succ d ih =>
    intro k n hk hn
    cases n with
    | zero => omega
    | succ n =>
      have hk' : k < rs.length := by omega
      obtain ⟨ha, hb⟩ := hr _ (List.getElem_mem hk')
      simp only [F_laws_eqMeanderS_L1, llen]
      rw [ilt_t (by omega), cond_true, gd_t (inL_nat hk'), gd_t (inL_nat hk'), gat_nat hk', eqMeander_eq (by omega) (by omega) hf, bd_of, show bnot true = false from rfl, cond_false, iadd_id (by omega) (by omega)]
      exact ih (k + 1) n (by omega) (by omega)
theorem eqP_eq {rs : List PL} (hf : 1048576 < fu) (hl : rs.length ≤ 1048576) (hr : ∀ r ∈ rs, Small r) : F_laws_eqMeanderS fu rs rs = some true := by
  have := eqP_L (fu := fu) hf hl hr rs.length 0 fu (by omega) (by omega)
  rw [Int.natCast_zero] at this
  unfold F_laws_eqMeanderS
  rw [ine_f rfl, cond_false, this, bd_of]
  rfl
theorem cellsP_le : ∀ {rs : List PL}, (∀ r ∈ rs, Small r) → cellsP rs ≤ 200 * rs.length
  | [], _ => by simp [cellsP]
  | r :: rs, h => by
    obtain ⟨ha, hb⟩ := h r (by simp)
    have h2 := cellsP_le (rs := rs) fun x hx => h x (by simp [hx])
    rw [cellsP_cons, List.length_cons]
    omega
end
end Go.Proofs.Ytdghlhdpcmemjaa.AL

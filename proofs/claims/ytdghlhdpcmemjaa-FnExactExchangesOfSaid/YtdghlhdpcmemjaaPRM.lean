/- Rows of rows marked, held and compared. No condition. -/
import Derived.Test.YtdghlhdpcmemjaaPA1
namespace Go.Proofs.Ytdghlhdpcmemjaa.AL
open Go
set_option linter.unusedVariables false
set_option linter.unusedSimpArgs false
section
variable {fu : Nat}
def marksSS (m : Int) : List (List Int) → List (List Int)
  | [] => []
  | r :: rs => marks m r.length :: marksSS (m + (r.length : Int)) rs
def cellsN (rs : List (List Int)) : Nat := (rs.map List.length).sum
theorem marksSS_len : ∀ {rs : List (List Int)} {m : Int}, (marksSS m rs).length = rs.length
  | [], _ => rfl
  | r :: rs, m => by simp [marksSS, marksSS_len (rs := rs)]
theorem gat_at {pre rest : List (List Int)} {r : List Int} {k : Nat} (h : pre.length = k) : gat [] (pre ++ r :: rest) (k : Int) = r := by
  subst h
  simp [gat_eq]
theorem lset_at {pre rest : List (List Int)} {r r' : List Int} {k : Nat} (h : pre.length = k) : lset (pre ++ r :: rest) (k : Int) r' = pre ++ r' :: rest := by
  subst h
  simp [lset]
theorem markSS_L (hf : 1048576 < fu) : ∀ (rest pre : List (List Int)) (k n : Nat) (m : Int), pre.length = k → rest.length < n → pre.length + rest.length ≤ 1048576 → 0 ≤ m → m + (cellsN rest : Int) ≤ 16777216 → (∀ r ∈ rest, r.length ≤ 1048576) →
    F_laws_markIntSS_L1 fu n (pre ++ rest) m (k : Int) = some (pre ++ marksSS m rest, m + (cellsN rest : Int), ((pre.length + rest.length : Nat) : Int)) := by
  intro rest
  induction rest with
  | nil =>
    intro pre k n m hk hn hl h0 h1 hr
    cases n with
    | zero => simp at hn
    | succ n =>
      simp only [F_laws_markIntSS_L1]
      rw [ilt_f (by simp [llen]; omega), cond_false]
      simp [marksSS, cellsN, hk]
  | cons r rest ih =>
    intro pre k n m hk hn hl h0 h1 hr
    cases n with
    | zero => simp at hn
    | succ n =>
      simp at hl hn
      have hc : cellsN (r :: rest) = r.length + cellsN rest := by simp [cellsN]
      have hrl := hr r (by simp)
      simp only [F_laws_markIntSS_L1]
      rw [ilt_t (by simp [llen]; omega), cond_true, gd_t (inL_nat (by simp; omega)), gat_at hk, markIntS_eq h0 (by omega) (by omega), bd_of, lset_at hk, iadd_id (by omega) (by omega), show ((k : Int) + 1) = ((k + 1 : Nat) : Int) by omega]
      have := ih (pre ++ [marks m r.length]) (k + 1) n (m + (r.length : Int)) (by simp [hk]) (by omega) (by simp; omega) (by omega) (by omega) (fun x hx => hr x (by simp [hx]))
      simp only [List.append_assoc, List.singleton_append] at this
      rw [this, hc]
      simp [marksSS]
      omega
theorem markSS_eq {rs : List (List Int)} {m : Int} (hf : 1048576 < fu) (hl : rs.length ≤ 1048576) (h0 : 0 ≤ m) (h1 : m + (cellsN rs : Int) ≤ 16777216) (hr : ∀ r ∈ rs, r.length ≤ 1048576) :
    F_laws_markIntSS fu rs m = some (m + (cellsN rs : Int), marksSS m rs) := by
  have := markSS_L (fu := fu) hf rs [] 0 fu m rfl (by omega) (by simpa using hl) h0 h1 hr
  rw [Int.natCast_zero] at this
  simp only [List.nil_append] at this
  unfold F_laws_markIntSS
  rw [this, bd_of]
theorem heldSS_L (hf : 1048576 < fu) : ∀ (rest pre : List (List Int)) (k n : Nat) (m : Int), pre.length = k → rest.length < n → pre.length + rest.length ≤ 1048576 → 0 ≤ m → m + (cellsN rest : Int) ≤ 16777216 → (∀ r ∈ rest, r.length ≤ 1048576) →
    F_laws_heldIntSS_L1 fu (pre ++ marksSS m rest) n m (k : Int) = some (.brk (m + (cellsN rest : Int), ((pre.length + rest.length : Nat) : Int))) := by
  intro rest
  induction rest with
  | nil =>
    intro pre k n m hk hn hl h0 h1 hr
    cases n with
    | zero => simp at hn
    | succ n =>
      simp only [F_laws_heldIntSS_L1]
      rw [ilt_f (by simp [llen, marksSS]; omega), cond_false]
      simp [marksSS, cellsN, hk]
  | cons r rest ih =>
    intro pre k n m hk hn hl h0 h1 hr
    cases n with
    | zero => simp at hn
    | succ n =>
      simp at hl hn
      have hc : cellsN (r :: rest) = r.length + cellsN rest := by simp [cellsN]
      have hrl := hr r (by simp)
      rw [show marksSS m (r :: rest) = marks m r.length :: marksSS (m + (r.length : Int)) rest from rfl]
      simp only [F_laws_heldIntSS_L1]
      rw [ilt_t (by simp [llen, marksSS_len]; omega), cond_true, gd_t (inL_nat (by simp; omega)), gat_at hk, heldIntS_eq h0 (by omega) (by omega), bd_of, ilt_f (by omega), cond_false, iadd_id (by omega) (by omega), show ((k : Int) + 1) = ((k + 1 : Nat) : Int) by omega]
      have := ih (pre ++ [marks m r.length]) (k + 1) n (m + (r.length : Int)) (by simp [hk]) (by omega) (by simp; omega) (by omega) (by omega) (fun x hx => hr x (by simp [hx]))
      simp only [List.append_assoc, List.singleton_append] at this
      rw [this, hc]
      simp
      omega
theorem heldSS_eq {rs : List (List Int)} {m : Int} (hf : 1048576 < fu) (hl : rs.length ≤ 1048576) (h0 : 0 ≤ m) (h1 : m + (cellsN rs : Int) ≤ 16777216) (hr : ∀ r ∈ rs, r.length ≤ 1048576) :
    F_laws_heldIntSS fu (marksSS m rs) m = some (m + (cellsN rs : Int)) := by
  have := heldSS_L (fu := fu) hf rs [] 0 fu m rfl (by omega) (by simpa using hl) h0 h1 hr
  rw [Int.natCast_zero] at this
  simp only [List.nil_append] at this
  unfold F_laws_heldIntSS
  rw [this, bd_of]
  rfl
theorem eqSS_L {rs : List (List Int)} (hf : 1048576 < fu) (hl : rs.length ≤ 1048576) (hr : ∀ r ∈ rs, r.length ≤ 1048576) : ∀ (d k n : Nat), k + d = rs.length → d < n →
    F_laws_eqIntSS_L1 fu rs rs n (k : Int) = some (.brk (rs.length : Int)) := by
  intro d
  induction d with
  | zero =>
    intro k n hk hn
    cases n with
    | zero => omega
    | succ n =>
      simp only [F_laws_eqIntSS_L1, llen]
      rw [ilt_f (by omega), cond_false]
      congr 2
      omega
  | succ d ih =>
    intro k n hk hn
    cases n with
    | zero => omega
    | succ n =>
      have hk' : k < rs.length := by omega
      have := hr _ (List.getElem_mem hk')
      simp only [F_laws_eqIntSS_L1, llen]
      rw [ilt_t (by omega), cond_true, gd_t (inL_nat hk'), gd_t (inL_nat hk'), gat_nat hk', eqIntS_eq (by omega) (by omega), bd_of, show bnot true = false from rfl, cond_false, iadd_id (by omega) (by omega)]
      exact ih (k + 1) n (by omega) (by omega)
theorem eqSS_eq {rs : List (List Int)} (hf : 1048576 < fu) (hl : rs.length ≤ 1048576) (hr : ∀ r ∈ rs, r.length ≤ 1048576) : F_laws_eqIntSS fu rs rs = some true := by
  have := eqSS_L (fu := fu) hf hl hr rs.length 0 fu (by omega) (by omega)
  rw [Int.natCast_zero] at this
  unfold F_laws_eqIntSS
  rw [ine_f rfl, cond_false, this, bd_of]
  rfl
theorem cellsN_le {c : Nat} : ∀ {rs : List (List Int)}, (∀ r ∈ rs, r.length ≤ c) → cellsN rs ≤ c * rs.length
  | [], _ => by simp [cellsN]
  | r :: rs, h => by
    have h1 := h r (by simp)
    have h2 := cellsN_le (rs := rs) fun x hx => h x (by simp [hx])
    have hc : cellsN (r :: rs) = r.length + cellsN rs := by simp [cellsN]
    rw [hc, List.length_cons, Nat.mul_add, Nat.mul_one]
    omega
end
end Go.Proofs.Ytdghlhdpcmemjaa.AL

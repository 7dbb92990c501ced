/- All pairs of systems of so many arches: the program's and the reference's are one; the law CountByPieces holds. No condition. -/
import Derived.Test.YtbckijeffiofdaaPC4
import Derived.KernelRfl
namespace Go.Proofs.Ytbckijeffiofdaa.AL
open Go Go.Proofs.Ytbckijeffiofdaa.Arch
set_option linter.unusedVariables false
set_option linter.unusedSimpArgs false
set_option maxRecDepth 100000
section
variable {fu : Nat}
theorem clone_eq {x : List Int} (h : x.length ≤ 100000) : F_slices_Clone_Sint fu x = some x := by
  unfold F_slices_Clone_Sint
  rw [gd_t (by simp; omega)]
  simp [lapp]
theorem own_eq {x : List Int} (h : x.length ≤ 100000) : F_spec_l1Own fu x = some x := by
  unfold F_spec_l1Own
  rw [gd_t (by simp; omega)]
  simp [lapp]
theorem gat_natL {L : List (List Int)} {k : Nat} (h : k < L.length) : gat [] L (k : Int) = L[k] := gat_nat h
theorem pairsI_L2 {L : List (List Int)} {p : List Int} {a b c : Int} {s : List (List Int)} (hL : L.length ≤ 1000) (hp : p.length ≤ 1000) : ∀ (d k n : Nat) (l : List PL), k + d = L.length → d < n → l.length + d ≤ 10000000 →
    F_impl_pairs_L2 fu a p s b c L (L.length : Int) n l (k : Int) = some (l ++ (L.drop k).map (fun q => (p, q)), (L.length : Int)) := by
  intro d
  induction d with
  | zero =>
    intro k n l hk hn hl
    cases n with
    | zero => omega
    | succ n =>
      simp only [F_impl_pairs_L2]
      rw [ilt_f (by omega), cond_false, List.drop_of_length_le (by omega)]
      simp; omega
  | succ d ih =>
    intro k n l hk hn hl
    cases n with
    | zero => omega
    | succ n =>
      have hk' : k < L.length := by omega
      simp only [F_impl_pairs_L2]
      rw [ilt_t (by omega), cond_true, gd_t (inL_nat hk'), gd_t (by omega), clone_eq (by omega), bd_of, gd_t (by omega), gat_natL hk', iadd_id (by omega) (by omega), show ((k : Int) + 1) = ((k + 1 : Nat) : Int) by omega,
        ih (k + 1) n _ (by omega) (by omega) (by simp [lapp]; omega), List.drop_eq_getElem_cons hk', List.map_cons]
      simp only [lapp, List.append_assoc, List.singleton_append]
def pairsOf (L : List (List Int)) : List PL := L.flatMap fun p => L.map fun q => (p, q)
theorem pairsI_L1 {L : List (List Int)} {a : Int} (hs : F_impl_systems fu a = some L) (hf : 2000 < fu) (hL : L.length ≤ 1000) (hp : ∀ p ∈ L, p.length ≤ 1000) : ∀ (d k n : Nat) (l : List PL), k + d = L.length → d < n → l.length + d * 1000 ≤ 10000000 →
    F_impl_pairs_L1 fu a L (L.length : Int) n l (k : Int) = some (l ++ (L.drop k).flatMap (fun p => L.map fun q => (p, q)), (L.length : Int)) := by
  intro d
  induction d with
  | zero =>
    intro k n l hk hn hl
    cases n with
    | zero => omega
    | succ n =>
      simp only [F_impl_pairs_L1]
      rw [ilt_f (by omega), cond_false, List.drop_of_length_le (by omega)]
      simp; omega
  | succ d ih =>
    intro k n l hk hn hl
    cases n with
    | zero => omega
    | succ n =>
      have hk' : k < L.length := by omega
      have h2 := pairsI_L2 (fu := fu) (L := L) (p := L[k]) (a := a) (b := (L.length : Int)) (c := (k : Int)) (s := L) hL (hp _ (List.getElem_mem hk')) L.length 0 fu l (by omega) (by omega) (by omega)
      rw [Int.natCast_zero] at h2
      simp only [F_impl_pairs_L1]
      rw [ilt_t (by omega), cond_true, gd_t (inL_nat hk'), gd_t (by omega), hs, bd_of, gat_natL hk']
      simp only [llen]
      rw [h2, bd_of, iadd_id (by omega) (by omega), show ((k : Int) + 1) = ((k + 1 : Nat) : Int) by omega,
        ih (k + 1) n _ (by omega) (by omega) (by simp; omega), List.drop_eq_getElem_cons hk', List.flatMap_cons]
      simp
theorem pairsI_eq {L : List (List Int)} {a : Int} (hs : F_impl_systems fu a = some L) (hf : 2000 < fu) (hL : L.length ≤ 1000) (hp : ∀ p ∈ L, p.length ≤ 1000) : F_impl_pairs fu a = some (pairsOf L) := by
  have := pairsI_L1 hs hf hL hp L.length 0 fu [] (by omega) (by omega) (by simp; omega)
  rw [Int.natCast_zero] at this
  unfold F_impl_pairs
  rw [hs, bd_of]
  simp only [llen]
  have e : F_impl_pairs_L1 fu a L (L.length : Int) fu (@List.nil (List Int × List Int)) 0 = _ := this
  rw [e, bd_of]
  simp [pairsOf]
theorem pairsS_L2 {L : List (List Int)} {p : List Int} {c : Int} (hL : L.length ≤ 1000) (hp : p.length ≤ 1000) (hq : ∀ q ∈ L, q.length ≤ 1000) : ∀ (d k n : Nat) (l : List PL), k + d = L.length → d < n → l.length + d ≤ 10000000 →
    F_spec_siPairs_L2 fu L p (L.length : Int) c n l (k : Int) = some (l ++ (L.drop k).map (fun q => (p, q)), (L.length : Int)) := by
  intro d
  induction d with
  | zero =>
    intro k n l hk hn hl
    cases n with
    | zero => omega
    | succ n =>
      simp only [F_spec_siPairs_L2]
      rw [ilt_f (by omega), cond_false, List.drop_of_length_le (by omega)]
      simp; omega
  | succ d ih =>
    intro k n l hk hn hl
    cases n with
    | zero => omega
    | succ n =>
      have hk' : k < L.length := by omega
      have := hq _ (List.getElem_mem hk')
      simp only [F_spec_siPairs_L2]
      rw [ilt_t (by omega), cond_true, gd_t (inL_nat hk'), own_eq (by omega), bd_of, gat_natL hk', own_eq (by omega), bd_of, gd_t (by omega), iadd_id (by omega) (by omega), show ((k : Int) + 1) = ((k + 1 : Nat) : Int) by omega,
        ih (k + 1) n _ (by omega) (by omega) (by simp [lapp]; omega), List.drop_eq_getElem_cons hk', List.map_cons]
      simp only [lapp, List.append_assoc, List.singleton_append]
theorem pairsS_L1 {L : List (List Int)} (hf : 2000 < fu) (hL : L.length ≤ 1000) (hp : ∀ p ∈ L, p.length ≤ 1000) : ∀ (d k n : Nat) (l : List PL), k + d = L.length → d < n → l.length + d * 1000 ≤ 10000000 →
    F_spec_siPairs_L1 fu L (L.length : Int) n l (k : Int) = some (l ++ (L.drop k).flatMap (fun p => L.map fun q => (p, q)), (L.length : Int)) := by
  intro d
  induction d with
  | zero =>
    intro k n l hk hn hl
    cases n with
    | zero => omega
    | succ n =>
      simp only [F_spec_siPairs_L1]
      rw [ilt_f (by omega), cond_false, List.drop_of_length_le (by omega)]
      simp; omega
  | succ d ih =>
    intro k n l hk hn hl
    cases n with
    | zero => omega
    | succ n =>
      have hk' : k < L.length := by omega
      have h2 := pairsS_L2 (fu := fu) (L := L) (p := L[k]) (c := (k : Int)) hL (hp _ (List.getElem_mem hk')) hp L.length 0 fu l (by omega) (by omega) (by omega)
      rw [Int.natCast_zero] at h2
      simp only [F_spec_siPairs_L1]
      rw [ilt_t (by omega), cond_true, gd_t (inL_nat hk'), gat_natL hk', h2, bd_of, iadd_id (by omega) (by omega), show ((k : Int) + 1) = ((k + 1 : Nat) : Int) by omega,
        ih (k + 1) n _ (by omega) (by omega) (by simp; omega), List.drop_eq_getElem_cons hk', List.flatMap_cons]
      simp
theorem pairsS_eq {L : List (List Int)} {a : Int} (hs : F_spec_ahAll fu a 0 = some L) (hf : 2000 < fu) (hL : L.length ≤ 1000) (hp : ∀ p ∈ L, p.length ≤ 1000) : F_spec_siPairs fu a = some (pairsOf L) := by
  have := pairsS_L1 (fu := fu) hf hL hp L.length 0 fu [] (by omega) (by omega) (by simp; omega)
  rw [Int.natCast_zero] at this
  unfold F_spec_siPairs
  rw [hs, bd_of]
  simp only [llen]
  have e : F_spec_siPairs_L1 fu L (L.length : Int) fu (@List.nil (List Int × List Int)) 0 = _ := this
  rw [e, bd_of]
  simp [pairsOf]
def listsB (n : Int) : Bool := match F_impl_systems 2000000 n, F_spec_ahAll 2000000 n 0 with
  | some a, some b => (a == b) && (decide (a.length ≤ 42) && a.all fun p => sysB p && decide ((p.length : Int) = 2 * n))
  | _, _ => false
theorem lists1 : listsB 1 = true := by kernel_rfl
theorem lists2 : listsB 2 = true := by kernel_rfl
theorem lists3 : listsB 3 = true := by kernel_rfl
theorem lists4 : listsB 4 = true := by kernel_rfl
theorem lists_of {n : Int} (h : listsB n = true) : ∃ L, F_impl_systems 2000000 n = some L ∧ F_spec_ahAll 2000000 n 0 = some L ∧ L.length ≤ 42 ∧ ∀ p ∈ L, sysB p = true ∧ (p.length : Int) = 2 * n := by
  unfold listsB at h
  split at h
  · rename_i a b e1 e2
    simp only [Bool.and_eq_true, decide_eq_true_eq, List.all_eq_true, beq_iff_eq] at h
    obtain ⟨rfl, h2, h3⟩ := h
    exact ⟨a, e1, e2, h2, h3⟩
  · cases h
theorem pairs_at {n : Int} (h : listsB n = true) (hn : n ≤ 6) : ∃ X : List PL, F_impl_pairs 2000000 n = some X ∧ F_spec_siPairs 2000000 n = some X ∧ X.length ≤ 1764 ∧ ∀ x ∈ X, Joint x.1 ∧ Joint x.2 ∧ x.1.length = x.2.length ∧ (x.1.length : Int) = 2 * n := by
  obtain ⟨L, e1, e2, h2, h3⟩ := lists_of h
  have hp : ∀ p ∈ L, p.length ≤ 1000 := fun p hp => by have := (h3 p hp).2; omega
  have hjoint : ∀ p ∈ L, Joint p := fun p hp => by
    have := (h3 p hp).1
    simp only [sysB, Bool.and_eq_true] at this
    exact sys_joint ((arcB_iff p).1 this.2)
  refine ⟨pairsOf L, pairsI_eq e1 (by omega) (by omega) hp, pairsS_eq e2 (by omega) (by omega) hp, ?_, fun x hx => ?_⟩
  · have : (pairsOf L).length = L.length * L.length := by
      unfold pairsOf
      rw [List.length_flatMap]
      simp only [List.length_map]
      rw [List.map_const', List.sum_replicate_nat]
    rw [this]
    exact Nat.mul_le_mul h2 h2
  · unfold pairsOf at hx
    obtain ⟨p, hpL, hx⟩ := List.mem_flatMap.1 hx
    obtain ⟨q, hqL, rfl⟩ := List.mem_map.1 hx
    have a1 := (h3 p hpL).2
    have a2 := (h3 q hqL).2
    exact ⟨hjoint p hpL, hjoint q hqL, by simp only; omega, a1⟩
end
end Go.Proofs.Ytbckijeffiofdaa.AL

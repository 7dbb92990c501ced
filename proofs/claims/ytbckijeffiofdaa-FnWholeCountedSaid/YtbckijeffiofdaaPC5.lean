/- All pairs of systems of so many arches: the program's and the reference's are one; the law CountByPieces holds. No condition. -/
import Derived.Test.YtbckijeffiofdaaPC4
import Derived.KernelRfl
namespace Go.Proofs.Ytbckijeffiofdaa.AL
open Go Go.Proofs.Ytbckijeffiofdaa.Arch
set_option linter.unusedVariables false
set_option linter.unusedSimpArgs false
set_option maxRecDepth 100000
section
variable {fu : Nat}
theorem clone_eq {x : List Int} (h : x.length ≤ 100000) : F_slices_Clone_Sint fu x = some x := by
  unfold F_slices_Clone_Sint
  rw [gd_t (by simp; omega)]
  simp [lapp]
theorem own_eq {x : List Int} (h : x.length ≤ 100000) : F_spec_l1Own fu x = some x := by
  unfold F_spec_l1Own
  rw [gd_t (by simp; omega)]
  simp [lapp]
theorem gat_natL {L : List (List Int)} {k : Nat} (h : k < L.length) : gat [] L (k : Int) = L[k] := gat_nat h
theorem pairsI_L2 {L : List (List Int)} {p : List Int} {a b c : Int} {s : List (List Int)} (hL : L.length ≤ 1000) (hp : p.length ≤ 1000) : ∀ (d k n : Nat) (l : List PL), k + d = L.length → d < n → l.length + d ≤ 10000000 →
    F_impl_pairs_L2 fu a p s b c L (L.length : Int) n l (k : Int) = some (l ++ (L.drop k).map (fun q => (p, q)), (L.length : Int)) := by
  intro d
  induction d with
  | zero =>
    intro k n l hk hn hl
    cases n with
    | zero => omega
    | succ n =>
      simp only [F_impl_pairs_L2]
      rw [ilt_f (by omega), cond_false, List.drop_of_length_le (by omega)]
      simp; omega
  | succ d ih =>
    intro k n l hk hn hl
    cases n with
    | zero => omega
    | succ n =>
      have hk' : k < L.length := by omega
      simp only [F_impl_pairs_L2]
      rw [ilt_t (by omega), cond_true, gd_t (inL_nat hk'), gd_t (by omega), clone_eq (by omega), bd_of, gd_t (by omega), gat_natL hk', iadd_id (by omega) (by omega), show ((k : Int) + 1) = ((k + 1 : Nat) : Int) by omega,
        ih (k + 1) n _ (by omega) (by omega) (by simp [lapp]; omega), List.drop_eq_getElem_cons hk', List.map_cons]
      simp only [lapp, List.append_assoc, List.singleton_append]
def pairsOf (L : List (List Int)) : List PL := L.flatMap fun p => L.map fun q => (p, q)
theorem pairsI_L1 {L : List (List Int)} {a : Int} (hs : F_impl_systems fu a = some L) (hf : 2000 < fu) (hL : L.length ≤ 1000) (hp : ∀ p ∈ L, p.length ≤ 1000) : ∀ (d k n : Nat) (l : List PL), k + d = L.length → d < n → l.length + d * 1000 ≤ 10000000 →
    F_impl_pairs_L1 fu a L (L.length : Int) n l (k : Int) = some (l ++ (L.drop k).flatMap (fun p => L.map fun q => (p, q)), (L.length : Int)) := by
  intro d
  induction d with
  | zero =>
    intro k n l hk hn hl
    cases n with
    | zero => omega
    | succ n =>
      simp only [F_impl_pairs_L1]
      rw [ilt_f (by omega), cond_false, List.drop_of_length_le (by omega)]
      simp; omega
  | succ d ih =>
    intro k n l hk hn hl
    cases n with
    | zero => omega
    | succ n =>
      have hk' : k < L.length := by omega
      have h2 := pairsI_L2 (fu := fu) (L := L) (p := L[k]) (a := a) (b := (L.length : Int)) (c := (k : Int)) (s := L) hL (hp _ (List.getElem_mem hk')) L.length 0 fu l (by omega) (by omega) (by omega)
      rw [Int.natCast_zero] at h2
      simp only [F_impl_pairs_L1]
      rw [ilt_t (by omega), cond_true, gd_t (inL_nat hk'), gd_t (by omega), hs, bd_of, gat_natL hk']
      simp only [llen]
      rw [h2, bd_of, iadd_id (by omega) (by omega), show ((k : Int) + 1) = ((k + 1 : Nat) : Int) by omega,
        ih (k + 1) n _ (by omega) (by omega) (by simp; omega), List.drop_eq_getElem_cons hk', List.flatMap_cons]
      simp
theorem pairsI_eq {L : List (List Int)} {a : Int} (hs : F_impl_systems fu a = some L) (hf : 2000 < fu) (hL : L.length ≤ 1000) (hp : ∀ p ∈ L, p.length ≤ 1000) : F_impl_pairs fu a = some (pairsOf L) := by
  have := pairsI_L1 hs hf hL hp L.length 0 fu [] (by omega) (by omega) (by simp; omega)
  rw [Int.natCast_zero] at this
  unfold F_impl_pairs
  rw [hs, bd_of]
  simp only [llen]
  have e : F_impl_pairs_L1 fu a L (L.length : Int) fu (@List.nil (List Int × List Int)) 0 = _ := this
  rw [e, bd_of]
  simp [pairsOf]
theorem pairsS_L2 {L : List (List Int)} {p : List Int} {c : Int} (hL : L.length ≤ 1000) (hp : p.length ≤ 1000) (hq : ∀ q ∈ L, q.length ≤ 1000) : ∀ (d k n : Nat) (l : List PL), k + d = L.length → d < n → l.length + d ≤ 10000000 →
    F_spec_siPairs_L2 fu L p (L.length : Int) c n l (k : Int) = some (l ++ (L.drop k).map (fun q => (p, q)), (L.length : Int)) := by
  intro d
  induction d with
  | zero =>
    intro k n l hk hn hl
    cases n with
    | zero => omega
    | succ n =>
      simp only [F_spec_siPairs_L2]
      rw [ilt_f (by omega), cond_false, List.drop_of_length_le (by omega)]
      simp; omega
  | succ d ih =>
    intro k n l hk hn hl
    cases n with
    | zero => omega
    | succ n =>
      have hk' : k < L.length := by omega
      have := hq _ (List.getElem_mem hk')
      simp only [F_spec_siPairs_L2]
      rw [ilt_t (by omega), cond_true, gd_t (inL_nat hk'), own_eq (by omega), bd_of, gat_natL hk', own_eq (by omega), bd_of, gd_t (by omega), iadd_id (by omega) (by omega), show ((k : Int) + 1) = ((k + 1 : Nat) : Int) by omega,
        ih (k + 1) n _ (by omega) (by omega) (by simp [lapp]; omega), List.drop_eq_getElem_cons hk', List.map_cons]
      simp only [lapp, List.append_assoc, List.singleton_append]
theorem pairsS_L1 {L : List (List Int)} (hf : 2000 < fu) (hL : L.length ≤ 1000) (hp : ∀ p ∈ L, p.length ≤ 1000) : ∀ (d k n : Nat) (l : List PL), k + d = L.length → d < n → l.length + d * 1000 ≤ 10000000 →
    F_spec_siPairs_L1 fu L (L.length : Int) n l (k : Int) = some (l ++ (L.drop k).flatMap (fun p => L.map fun q => (p, q)), (L.length : Int)) := by
  intro d
  induction d with
  | zero =>
    intro k n l hk hn hl
    cases n with
    | zero => omega
    | succ n =>
      simp only [F_spec_siPairs_L1]
      rw [ilt_f (by omega), cond_false, List.drop_of_length_le (by omega)]
      simp; omega
  | succ d ih =>
    intro k n l hk hn hl
    cases n with
    | zero => omega
    | succ n =>
      have hk' : k < L.length := by omega
      have h2 := pairsS_L2 (fu := fu) (L := L) (p := L[k]) (c := (k : Int)) hL (hp _ (List.getElem_mem hk')) hp L.length 0 fu l (by omega) (by omega) (by omega)
      rw [Int.natCast_zero] at h2
      simp only [F_spec_siPairs_L1]
      rw [ilt_t (by omega), cond_true, gd_t (inL_nat hk'), gat_natL hk', h2, bd_of, iadd_id (by omega) (by omega), show ((k : Int) + 1) = ((k + 1 : Nat) : Int) by omega,
        ih (k + 1) n _ (by omega) (by omega) (by simp; omega), List.drop_eq_getElem_cons hk', List.flatMap_cons]
      simp
theorem pairsS_eq {L : List (List Int)} {a : Int} (hs : F_spec_ahAll fu a 0 = some L) (hf : 2000 < fu) (hL : L.length ≤ 1000) (hp : ∀ p ∈ L, p.length ≤ 1000) : F_spec_siPairs fu a = some (pairsOf L) := by
  have := pairsS_L1 (fu := fu) hf hL hp L.length 0 fu [] (by omega) (by omega) (by simp; omega)
  rw [Int.natCast_zero] at this
  unfold F_spec_siPairs
  rw [hs, bd_of]
  simp only [llen]
  have e : F_spec_siPairs_L1 fu L (L.length : Int) fu (@List.nil (List Int × List Int)) 0 = _ := this
  rw [e, bd_of]
  simp [pairsOf]
def listsB (n : Int) : Bool := match F_impl_systems 2000000 n, F_spec_ahAll 2000000 n 0 with
  | some a, some b => (a == b) && (decide (a.length ≤ 42) && a.all fun p => sysB p && decide ((p.length : Int) = 2 * n))
  | _, _ => false
theorem lists1 : listsB 1 = true := by kernel_rfl
theorem lists2 : listsB 2 = true := by kernel_rfl
theorem lists3 : listsB 3 = true := by kernel_rfl
theorem lists4 : listsB 4 = true := by kernel_rfl
theorem lists_of {n : Int} (h : listsB n = true) : ∃ L, F_impl_systems 2000000 n = some L ∧ F_spec_ahAll 2000000 n 0 = some L ∧ L.length ≤ 42 ∧ ∀ p ∈ L, sysB p = true ∧ (p.length : Int) = 2 * n := by
  unfold listsB at h
  split at h
  · rename_i a b e1 e2
    simp only [Bool.and_eq_true, decide_eq_true_eq, List.all_eq_true, beq_iff_eq] at h
    obtain ⟨rfl, h2, h3⟩ := h
    exact ⟨a, e1, e2, h2, h3⟩
  · cases h
theorem pairs_at {n : Int} (h : listsB n = true) (hn : n ≤ 6) : ∃ X : List PL, F_impl_pairs 2000000 n = some X ∧ F_spec_siPairs 2000000 n = some X ∧ X.length ≤ 1764 ∧ ∀ x ∈ X, Joint x.1 ∧ Joint x.2 ∧ x.1.length = x.2.length ∧ (x.1.length : Int) = 2 * n := by
  obtain ⟨L, e1, e2, h2, h3⟩ := lists_of h
  have hp : ∀ p ∈ L, p.length ≤ 1000 := fun p hp => by have := (h3 p hp).2; omega
  have hjoint : ∀ p ∈ L, Joint p := fun p hp => by
    have := (h3 p hp).1
    simp only [sysB, Bool.and_eq_true] at this
    exact sys_joint ((arcB_iff p).1 this.2)
  refine ⟨pairsOf L, pairsI_eq e1 (by omega) (by omega) hp, pairsS_eq e2 (by omega) (by omega) hp, ?_, fun x hx => ?_⟩
  · have : (pairsOf L).length = L.length * L.length := by
      unfold pairsOf
      rw [List.length_flatMap]
      simp only [List.length_map]
      rw [List.map_const', List.sum_replicate_nat]
    rw [this]
    exact Nat.mul_le_mul h2 h2
  · unfold pairsOf at hx
    obtain ⟨p, hpL, hx⟩ := List.mem_flatMap.1 hx
    obtain ⟨q, hqL, rfl⟩ := List.mem_map.1 hx
    have a1 := (h3 p hpL).2
    have a2 := (h3 q hqL).2
    exact ⟨hjoint p hpL, hjoint q hqL, by simp only; omega, a1⟩
theorem cbp_L {X : List PL} {n : Int} (hn0 : 1 ≤ n) (hn : n ≤ 6) (hX : X.length ≤ 2000) (hx : ∀ x ∈ X, Joint x.1 ∧ Joint x.2 ∧ x.1.length = x.2.length ∧ (x.1.length : Int) = 2 * n) (hf : 100000 < fu) : ∀ (d k m : Nat) (l : List Int), k + d = X.length → d < m → (l.length : Int) = n + 1 →
    ∃ l' : List Int, (l'.length : Int) = n + 1 ∧ F_spec_CountByPieces_L1 fu X (X.length : Int) m l (k : Int) = some (l', (X.length : Int)) ∧ F_impl_CountByPieces_L1 fu X (X.length : Int) m l (k : Int) = some (l', (X.length : Int)) := by
  intro d
  induction d with
  | zero =>
    intro k m l hk hm hl
    cases m with
    | zero => omega
    | succ m =>
      refine ⟨l, hl, ?_⟩
      simp only [F_spec_CountByPieces_L1, F_impl_CountByPieces_L1]
      have : k = X.length := by omega
      subst this
      rw [ilt_f (by omega), cond_false, cond_false]
      exact ⟨rfl, rfl⟩
  | succ d ih =>
    intro k m l hk hm hl
    cases m with
    | zero => omega
    | succ m =>
      have hk' : k < X.length := by omega
      obtain ⟨j1, j2, j3, j4⟩ := hx _ (List.getElem_mem hk')
      obtain ⟨R, r1, r2, r3, r4, r5⟩ := pieces_eq (fu := fu) (b := false) j3 (by omega) hf j1 j2
      have r6 := r5 (by omega)
      have hin : inL l (llen R) := inL_mk (by simp only [llen]; omega) (by simp only [llen]; omega)
      simp only [F_spec_CountByPieces_L1, F_impl_CountByPieces_L1]
      rw [ilt_t (by omega), cond_true, cond_true, gd_t (inL_nat hk'), gd_t (inL_nat hk'), gat_nat hk', r1, r2, bd_of, bd_of, gd_t hin, gd_t hin, gd_t hin, gd_t hin, iadd_id (a := (k : Int)) (by omega) (by omega)]
      exact ih (k + 1) m _ (by omega) (by omega) (by simpa [lset] using hl)
theorem cbp_eq {n : Int} : ∃ S : List Int × Bool, F_spec_CountByPieces 2000000 n = some S ∧ F_impl_CountByPieces 2000000 n = some S ∧ S.1.length ≤ 20 := by
  unfold F_spec_CountByPieces F_impl_CountByPieces
  rw [l1In_eq, in_eq, bd_of, bd_of]
  cases h : (decide (1 ≤ n) && decide (n ≤ 4))
  · exact ⟨_, rfl, rfl, by simp⟩
  · simp only [Bool.and_eq_true, decide_eq_true_eq] at h
    have hb : listsB n = true := by
      rcases (by omega : n = 1 ∨ n = 2 ∨ n = 3 ∨ n = 4) with rfl | rfl | rfl | rfl
      · exact lists1
      · exact lists2
      · exact lists3
      · exact lists4
    obtain ⟨X, e1, e2, h1, h2⟩ := pairs_at hb (by omega)
    rw [show bnot true = false from rfl, cond_false, cond_false, iadd_id (by omega) (by omega), gd_t (by omega), gd_t (by omega), e1, e2, bd_of, bd_of]
    obtain ⟨l1, g1, g2, g3⟩ := cbp_L (fu := 2000000) (n := n) h.1 (by omega) (by omega) h2 (by omega) X.length 0 2000000 (lrep (n + 1) (0 : Int)) (by omega) (by omega) (by simp [lrep]; omega)
    rw [Int.natCast_zero] at g2 g3
    simp only [llen]
    rw [g2, g3, bd_of]
    exact ⟨_, rfl, rfl, by simp only; omega⟩
end
end Go.Proofs.Ytbckijeffiofdaa.AL

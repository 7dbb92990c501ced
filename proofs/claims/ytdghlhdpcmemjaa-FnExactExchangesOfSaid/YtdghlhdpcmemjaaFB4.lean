/- Systems: the two checks. No condition. -/
import Derived.Test.YtdghlhdpcmemjaaFB2
import Derived.Test.YtdghlhdpcmemjaaQArch
namespace Go.Proofs.Ytdghlhdpcmemjaa.AL
open Go Go.Proofs.Ytdghlhdpcmemjaa.Arch
attribute [local simp] aBin' aBin aBinI aUn aNil flatV
set_option linter.unusedVariables false
set_option linter.unusedSimpArgs false

theorem gt_nat {p : List Int} {k : Nat} (h : k < p.length) : p[k] = gt p k := by
  unfold gt
  rw [List.getD_eq_getElem?_getD, Int.toNat_natCast, List.getElem?_eq_getElem h]; rfl
theorem idxN {H : AH} {v : Value} {p : List Int} (hv : Sl H v (ints p)) {k : Nat} (h : k < p.length) : aIndexAddr Try.prog H 22 v (.int .i64 (k : Int)) = some (elP v k) := hv.idx elem22 size3 (by simpa using h)
theorem loadN {H : AH} {v : Value} {p : List Int} (hv : Sl H v (ints p)) {k : Nat} (h : k < p.length) : aLoad Try.prog H 3 (elP v k) = some (.int .i64 (gt p k)) := by
  rw [hv.load size3 agg3 (ints_get h), gt_nat h]
theorem idxI {H : AH} {v : Value} {p : List Int} (hv : Sl H v (ints p)) {j : Int} (h0 : 0 ≤ j) (h : j < p.length) : aIndexAddr Try.prog H 22 v (.int .i64 j) = some (elP v j.toNat) := by
  have := idxN hv (k := j.toNat) (by omega)
  rwa [Int.toNat_of_nonneg h0] at this
theorem loadI {H : AH} {v : Value} {p : List Int} (hv : Sl H v (ints p)) {j : Int} (h0 : 0 ≤ j) (h : j < p.length) : aLoad Try.prog H 3 (elP v j.toNat) = some (.int .i64 (gt p j)) := by
  have := loadN hv (k := j.toNat) (by omega)
  rwa [Int.toNat_of_nonneg h0] at this

theorem l1In (H : AH) (a b c : Int) : ACall Try.prog 111 [.int .i64 a, .int .i64 b, .int .i64 c] H (.bool (decide (b ≤ a) && decide (a ≤ c))) H := by
  refine ACall.plain (nt := 15) (rs := [.tmp 6]) (vs := [_]) Try.func111 rfl rfl rfl rfl (by simp [PlainL]) fun wf => ?_
  repeat refine AWp.seq ?_
  refine AWp.region' fun K hK => ?_
  simp []
  apply hK
  clear hK K
  simp only [andThen]
  by_cases h : b ≤ a
  · repeat refine AWp.seq ?_
    refine AWp.region' fun K hK => ?_
    simp [h]
    apply hK
    clear hK K
    simp only [andThen]
    refine AWp.ret ?_
    exact ⟨.inr rfl, ⟨[], by simp⟩, by simp [h]⟩
  · repeat refine AWp.seq ?_
    refine AWp.region' fun K hK => ?_
    simp [h]
    apply hK
    clear hK K
    simp only [andThen]
    refine AWp.ret ?_
    exact ⟨.inr rfl, ⟨[], by simp⟩, by simp [h]⟩
theorem in_ (H : AH) (a b c : Int) : ACall Try.prog 112 [.int .i64 a, .int .i64 b, .int .i64 c] H (.bool (decide (b ≤ a) && decide (a ≤ c))) H := by
  refine ACall.plain (nt := 15) (rs := [.tmp 6]) (vs := [_]) Try.func112 rfl rfl rfl rfl (by simp [PlainL]) fun wf => ?_
  repeat refine AWp.seq ?_
  refine AWp.region' fun K hK => ?_
  simp []
  apply hK
  clear hK K
  simp only [andThen]
  by_cases h : b ≤ a
  · repeat refine AWp.seq ?_
    refine AWp.region' fun K hK => ?_
    simp [h]
    apply hK
    clear hK K
    simp only [andThen]
    refine AWp.ret ?_
    exact ⟨.inr rfl, ⟨[], by simp⟩, by simp [h]⟩
  · repeat refine AWp.seq ?_
    refine AWp.region' fun K hK => ?_
    simp [h]
    apply hK
    clear hK K
    simp only [andThen]
    refine AWp.ret ?_
    exact ⟨.inr rfl, ⟨[], by simp⟩, by simp [h]⟩

theorem l1All (H : AH) (v : Value) (p : List Int) (a b : Int) (hv : Sl H v (ints p)) (hx : p.length ≤ 4294967296) :
    ACall Try.prog 86 [v, .int .i64 a, .int .i64 b] H (.bool (p.all fun x => decide (a ≤ x) && decide (x ≤ b))) H := by
  refine ACall.plain (nt := 21) (rs := [.tmp 6]) (vs := [_]) Try.func86 rfl rfl rfl rfl (by simp [PlainL]) fun wf => ?_
  have l1 := hv.len (P := Try.prog) elem22
  repeat refine AWp.seq ?_
  refine AWp.region' fun K hK => ?_
  simp []
  apply hK
  clear hK K
  simp only [andThen]
  repeat refine AWp.seq ?_
  refine AWp.region' fun K hK => ?_
  simp [l1]
  apply hK
  clear hK K
  simp only [andThen]
  repeat refine AWp.seq ?_
  refine AWp.block ?_
  refine AWp.loop (fun j env G => G = H ∧ ∃ (k : Nat), j = p.length - k ∧ k ≤ p.length ∧ (∀ i : Nat, i < k → a ≤ gt p i ∧ gt p i ≤ b) ∧ env 1 = some (.int .i64 a) ∧ env 2 = some (.int .i64 b) ∧ env 9 = some v ∧ env 10 = some (.int .i64 p.length) ∧ env 11 = some (.int .i64 k)) (p.length) ⟨rfl, 0, by simp, by omega, fun i hi => by omega, rfl, rfl, rfl, by simp, rfl⟩ ?_
  rintro j env G ⟨rfl, k, rfl, hk, hall, e1, e2, e9, e10, e11⟩
  repeat refine AWp.seq ?_
  refine AWp.region' fun K hK => ?_
  simp [e10, e11]
  apply hK
  clear hK K
  simp only [andThen]
  by_cases hlt : k < p.length
  · repeat refine AWp.seq ?_
    refine AWp.ct (by simp [hlt]) ?_
    refine AWp.skip ?_
    simp only [andThen]
    repeat refine AWp.seq ?_
    refine AWp.block ?_
    repeat refine AWp.seq ?_
    refine AWp.region' fun K hK => ?_
    simp [e9, e11, idxN hv hlt, loadN hv hlt]
    apply hK
    clear hK K
    simp only [andThen]
    repeat refine AWp.seq ?_
    refine AWp.region' fun K hK => ?_
    simp [e1, e2]
    refine CallK.det (l1In _ _ _ _) ?_
    simp
    apply hK
    clear hK K
    simp only [andThen]
    by_cases c : a ≤ gt p k ∧ gt p k ≤ b
    · repeat refine AWp.seq ?_
      refine AWp.cf (by simp [c]) ?_
      refine AWp.skip ?_
      simp only [andThen]
      repeat refine AWp.seq ?_
      refine AWp.region' fun K hK => ?_
      simp [e11, wrap_succ (show k ≤ 4294967296 by omega)]
      apply hK
      clear hK K
      simp only [andThen]
      refine ⟨p.length - (k + 1), by omega, trivial, k + 1, rfl, by omega, fun i hi => ?_, by simp [e1], by simp [e2], by simp [e9], by simp [e10], by simp⟩
      by_cases hik : i = k
      · subst hik; exact c
      · exact hall i (by omega)
    · repeat refine AWp.seq ?_
      refine AWp.ct (by simp; omega) ?_
      repeat refine AWp.seq ?_
      refine AWp.region' fun K hK => ?_
      simp []
      apply hK
      clear hK K
      simp only [andThen]
      refine AWp.ret ?_
      have hne : (p.all fun x => decide (a ≤ x) && decide (x ≤ b)) = false := by
        rw [Bool.eq_false_iff]
        intro h
        have := List.all_eq_true.1 h p[k] (List.getElem_mem hlt)
        rw [gt_nat hlt] at this
        exact c (by simpa using this)
      exact ⟨.inr rfl, ⟨[], by simp⟩, by simp [hne]⟩
  · repeat refine AWp.seq ?_
    refine AWp.cf (by simp [hlt]) ?_
    refine AWp.exit ?_
    simp only [andThen]
    simp
    repeat refine AWp.seq ?_
    refine AWp.region' fun K hK => ?_
    simp []
    apply hK
    clear hK K
    simp only [andThen]
    refine AWp.ret ?_
    have hkk : k = p.length := by omega
    subst hkk
    have ht : (p.all fun x => decide (a ≤ x) && decide (x ≤ b)) = true := by
      rw [List.all_eq_true]
      intro x hx
      obtain ⟨j, hj, rfl⟩ := List.getElem_of_mem hx
      rw [gt_nat hj]
      simpa using hall j hj
    exact ⟨.inr rfl, ⟨[], by simp⟩, by simp [ht]⟩
end Go.Proofs.Ytdghlhdpcmemjaa.AL

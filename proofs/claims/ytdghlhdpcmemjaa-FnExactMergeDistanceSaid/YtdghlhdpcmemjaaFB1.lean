/- The laws' own lists: copies, comparisons, marks. No condition. -/
import Derived.Test.YtdghlhdpcmemjaaAL16
import Derived.Test.YtdghlhdpcmemjaaProg
import Derived.KernelRfl
namespace Go.Proofs.Ytdghlhdpcmemjaa.AL
open Go
set_option linter.unusedVariables false
set_option linter.unusedSimpArgs false

theorem size3 : sizeT Try.prog 3 = some 1 := by kernel_rfl
theorem agg3 : aggT Try.prog 3 = some false := by kernel_rfl
theorem elem22 : elemT Try.prog 22 = some 3 := by kernel_rfl
theorem einfo3 : einfo Try.prog 3 = some ⟨1, 8, .int .i64 0⟩ := by kernel_rfl
theorem size22 : sizeT Try.prog 22 = some 1 := by kernel_rfl
theorem agg22 : aggT Try.prog 22 = some false := by kernel_rfl
theorem elem23 : elemT Try.prog 23 = some 22 := by kernel_rfl
theorem einfo22 : einfo Try.prog 22 = some ⟨1, 24, .slice none 0 0⟩ := by kernel_rfl
theorem mixed : Try.prog.follows .mixedOrders = true := by kernel_rfl

theorem take_eq_succ {α : Type} {xs ys : List α} {k : Nat} (h : xs.take k = ys.take k) (hx : k < xs.length) (hy : k < ys.length) (he : xs[k] = ys[k]) : xs.take (k + 1) = ys.take (k + 1) := by
  rw [List.take_succ_eq_append_getElem hx, List.take_succ_eq_append_getElem hy, h, he]
theorem wrap_succ {k : Nat} (h : k ≤ 4294967296) : IntKind.i64.wrap ((k : Int) + 1) = ((k + 1 : Nat) : Int) := by rw [wrap_id (by omega) (by omega)]; rfl

theorem eqIntS (H : AH) (v w : Value) (xs ys : List Int) (hv : Sl H v (ints xs)) (hw : Sl H w (ints ys)) (hx : xs.length ≤ 4294967296) (hy : ys.length ≤ 4294967296) :
    ACall Try.prog 19 [v, w] H (.bool (decide (xs = ys))) H := by
  refine ACall.plain (nt := 26) (rs := [.tmp 4]) (vs := [_]) Try.func19 rfl rfl rfl rfl (by simp [PlainL]) fun wf => ?_
  have l1 := hv.len (P := Try.prog) elem22
  have l2 := hw.len (P := Try.prog) elem22
  repeat refine AWp.seq ?_
  refine AWp.region' fun K hK => ?_
  simp []
  apply hK
  clear hK K
  simp only [andThen]
  repeat refine AWp.seq ?_
  refine AWp.region' fun K hK => ?_
  simp [l1, l2]
  apply hK
  clear hK K
  simp only [andThen]
  by_cases hl : xs.length = ys.length
  · repeat refine AWp.seq ?_
    refine AWp.cf (by simp [hl]) ?_
    refine AWp.skip ?_
    simp only [andThen]
    repeat refine AWp.seq ?_
    refine AWp.region' fun K hK => ?_
    simp []
    apply hK
    clear hK K
    simp only [andThen]
    repeat refine AWp.seq ?_
    refine AWp.block ?_
    refine AWp.loop (fun n env G => G = H ∧ ∃ k : Nat, n = xs.length - k ∧ k ≤ xs.length ∧ xs.take k = ys.take k ∧ env 0 = some v ∧ env 1 = some w ∧ env 5 = some (.int .i64 k)) (xs.length) ⟨rfl, 0, by simp, by omega, rfl, rfl, rfl, rfl⟩ ?_
    rintro n env G ⟨rfl, k, rfl, hk, htk, e0, e1, e5⟩
    repeat refine AWp.seq ?_
    refine AWp.region' fun K hK => ?_
    simp [l1, e0, e5]
    apply hK
    clear hK K
    simp only [andThen]
    by_cases hlt : k < xs.length
    · repeat refine AWp.seq ?_
      refine AWp.ct (by simp [hlt]) ?_
      refine AWp.skip ?_
      simp only [andThen]
      have hlt2 : k < ys.length := by omega
      have i1 := hv.idx (P := Try.prog) elem22 size3 (kk := .i64) (k := k) (by simpa using hlt)
      have d1 := hv.load (P := Try.prog) size3 agg3 (ints_get hlt)
      have i2 := hw.idx (P := Try.prog) elem22 size3 (kk := .i64) (k := k) (by simpa using hlt2)
      have d2 := hw.load (P := Try.prog) size3 agg3 (ints_get hlt2)
      repeat refine AWp.seq ?_
      refine AWp.block ?_
      repeat refine AWp.seq ?_
      refine AWp.drawn' (B := [0, 0, 3, 7, 0, 0, 48, 112, 255]) 9 mixed (by kernel_rfl) (by decide) fun K hK => ?_
      simp [e0, e1, e5, i1, d1, i2, d2]
      apply hK
      clear hK K
      simp only [andThen]
      by_cases he : xs[k] = ys[k]
      · repeat refine AWp.seq ?_
        refine AWp.cf (by simp [he]) ?_
        refine AWp.skip ?_
        simp only [andThen]
        repeat refine AWp.seq ?_
        refine AWp.region' fun K hK => ?_
        simp [e5, wrap_succ (show k ≤ 4294967296 by omega)]
        apply hK
        clear hK K
        simp only [andThen]
        refine ⟨xs.length - (k + 1), by omega, trivial, k + 1, rfl, by omega, take_eq_succ htk hlt hlt2 he, by simp [e0], by simp [e1], by simp⟩
      · repeat refine AWp.seq ?_
        refine AWp.ct (by simp [he]) ?_
        repeat refine AWp.seq ?_
        refine AWp.region' fun K hK => ?_
        simp []
        apply hK
        clear hK K
        simp only [andThen]
        refine AWp.ret ?_
        have hne : xs ≠ ys := fun e => he (by subst e; rfl)
        exact ⟨.inr rfl, ⟨[], by simp⟩, by simp [hne]⟩
    · repeat refine AWp.seq ?_
      refine AWp.cf (by simp [hlt]) ?_
      refine AWp.exit ?_
      simp only [andThen]
      have hkk : k = xs.length := by omega
      subst hkk
      simp
      repeat refine AWp.seq ?_
      refine AWp.region' fun K hK => ?_
      simp []
      apply hK
      clear hK K
      simp only [andThen]
      refine AWp.ret ?_
      have hxy : xs = ys := by
        rw [List.take_of_length_le (Nat.le_refl _), List.take_of_length_le (by omega)] at htk
        exact htk
      exact ⟨.inr rfl, ⟨[], by simp⟩, by simp [hxy]⟩
  · repeat refine AWp.seq ?_
    refine AWp.ct (by simp; omega) ?_
    repeat refine AWp.seq ?_
    refine AWp.region' fun K hK => ?_
    simp []
    apply hK
    clear hK K
    simp only [andThen]
    refine AWp.ret ?_
    have hne : xs ≠ ys := fun e => hl (by rw [e])
    exact ⟨.inr rfl, ⟨[], by simp⟩, by simp [hne]⟩

theorem eqIntSS (H : AH) (v w : Value) (F E : List (List Int)) (hv : SlSl H v (F.map ints)) (hw : SlSl H w (E.map ints)) (hx : F.length ≤ 4294967296) (hy : E.length ≤ 4294967296) (hxs : ∀ r ∈ F, r.length ≤ 4294967296) (hys : ∀ r ∈ E, r.length ≤ 4294967296) :
    ACall Try.prog 18 [v, w] H (.bool (decide (F = E))) H := by
  obtain ⟨C, hC, lC, rC⟩ := hv
  obtain ⟨D, hD, lD, rD⟩ := hw
  simp at lC lD
  refine ACall.plain (nt := 27) (rs := [.tmp 4]) (vs := [_]) Try.func18 rfl rfl rfl rfl (by simp [PlainL]) fun wf => ?_
  have l1 := hC.len (P := Try.prog) elem23
  have l2 := hD.len (P := Try.prog) elem23
  rw [lC] at l1
  rw [lD] at l2
  repeat refine AWp.seq ?_
  refine AWp.region' fun K hK => ?_
  simp []
  apply hK
  clear hK K
  simp only [andThen]
  repeat refine AWp.seq ?_
  refine AWp.region' fun K hK => ?_
  simp [l1, l2]
  apply hK
  clear hK K
  simp only [andThen]
  by_cases hl : F.length = E.length
  · repeat refine AWp.seq ?_
    refine AWp.cf (by simp [hl]) ?_
    refine AWp.skip ?_
    simp only [andThen]
    repeat refine AWp.seq ?_
    refine AWp.region' fun K hK => ?_
    simp []
    apply hK
    clear hK K
    simp only [andThen]
    repeat refine AWp.seq ?_
    refine AWp.block ?_
    refine AWp.loop (fun n env G => G = H ∧ ∃ k : Nat, n = F.length - k ∧ k ≤ F.length ∧ F.take k = E.take k ∧ env 0 = some v ∧ env 1 = some w ∧ env 5 = some (.int .i64 k)) (F.length) ⟨rfl, 0, by simp, by omega, rfl, rfl, rfl, rfl⟩ ?_
    rintro n env G ⟨rfl, k, rfl, hk, htk, e0, e1, e5⟩
    repeat refine AWp.seq ?_
    refine AWp.region' fun K hK => ?_
    simp [l1, e0, e5]
    apply hK
    clear hK K
    simp only [andThen]
    by_cases hlt : k < F.length
    · repeat refine AWp.seq ?_
      refine AWp.ct (by simp [hlt]) ?_
      refine AWp.skip ?_
      simp only [andThen]
      have hlt2 : k < E.length := by omega
      have c1 : C[k]? = some C[k] := List.getElem?_eq_getElem (by omega)
      have c2 : D[k]? = some D[k] := List.getElem?_eq_getElem (by omega)
      have i1 := hC.idx (P := Try.prog) elem23 size22 (kk := .i64) (k := k) (by omega)
      have d1 := hC.load (P := Try.prog) size22 agg22 c1
      have i2 := hD.idx (P := Try.prog) elem23 size22 (kk := .i64) (k := k) (by omega)
      have d2 := hD.load (P := Try.prog) size22 agg22 c2
      have q1 := rC k _ (ints F[k]) c1 (by simp [hlt])
      have q2 := rD k _ (ints E[k]) c2 (by simp [hlt2])
      have hc := eqIntS _ C[k] D[k] F[k] E[k] q1 q2 (hxs _ (List.getElem_mem _)) (hys _ (List.getElem_mem _))
      repeat refine AWp.seq ?_
      refine AWp.block ?_
      repeat refine AWp.seq ?_
      refine AWp.drawn' (B := [0, 0, 3, 7, 0, 0, 48, 112, 255, 511]) 10 mixed (by kernel_rfl) (by decide) fun K hK => ?_
      simp [e0, e1, e5, i1, d1, i2, d2, q1.tup, q2.tup]
      refine CallD.of hc ?_
      simp
      apply hK
      clear hK K
      simp only [andThen]
      by_cases he : F[k] = E[k]
      · repeat refine AWp.seq ?_
        refine AWp.cf (by simp [he]) ?_
        refine AWp.skip ?_
        simp only [andThen]
        repeat refine AWp.seq ?_
        refine AWp.region' fun K hK => ?_
        simp [e5, wrap_succ (show k ≤ 4294967296 by omega)]
        apply hK
        clear hK K
        simp only [andThen]
        refine ⟨F.length - (k + 1), by omega, trivial, k + 1, rfl, by omega, take_eq_succ htk hlt hlt2 he, by simp [e0], by simp [e1], by simp⟩
      · repeat refine AWp.seq ?_
        refine AWp.ct (by simp [he]) ?_
        repeat refine AWp.seq ?_
        refine AWp.region' fun K hK => ?_
        simp []
        apply hK
        clear hK K
        simp only [andThen]
        refine AWp.ret ?_
        have hne : F ≠ E := fun e => he (by subst e; rfl)
        exact ⟨.inr rfl, ⟨[], by simp⟩, by simp [hne]⟩
    · repeat refine AWp.seq ?_
      refine AWp.cf (by simp [hlt]) ?_
      refine AWp.exit ?_
      simp only [andThen]
      have hkk : k = F.length := by omega
      subst hkk
      simp
      repeat refine AWp.seq ?_
      refine AWp.region' fun K hK => ?_
      simp []
      apply hK
      clear hK K
      simp only [andThen]
      refine AWp.ret ?_
      have hxy : F = E := by
        rw [List.take_of_length_le (Nat.le_refl _), List.take_of_length_le (by omega)] at htk
        exact htk
      exact ⟨.inr rfl, ⟨[], by simp⟩, by simp [hxy]⟩
  · repeat refine AWp.seq ?_
    refine AWp.ct (by simp; omega) ?_
    repeat refine AWp.seq ?_
    refine AWp.region' fun K hK => ?_
    simp []
    apply hK
    clear hK K
    simp only [andThen]
    refine AWp.ret ?_
    have hne : F ≠ E := fun e => hl (by rw [e])
    exact ⟨.inr rfl, ⟨[], by simp⟩, by simp [hne]⟩

end Go.Proofs.Ytdghlhdpcmemjaa.AL

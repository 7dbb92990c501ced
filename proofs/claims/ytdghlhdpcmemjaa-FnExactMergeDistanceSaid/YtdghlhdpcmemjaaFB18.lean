/- Pairs handed in and copied; the law of the merge distance. No condition. -/
import Derived.Test.YtdghlhdpcmemjaaFB16
import Derived.Test.YtdghlhdpcmemjaaAL19
namespace Go.Proofs.Ytdghlhdpcmemjaa.AL
open Go Go.Proofs.Ytdghlhdpcmemjaa.Arch
set_option linter.unusedVariables false
set_option linter.unusedSimpArgs false
set_option maxRecDepth 4096

theorem fa35_0 : faT Try.prog 35 0 = some 0 := by kernel_rfl
theorem fa35_1 : faT Try.prog 35 1 = some 1 := by kernel_rfl
theorem size35 : sizeT Try.prog 35 = some 2 := by kernel_rfl
theorem agg35 : aggT Try.prog 35 = some true := by kernel_rfl
section
variable {G H : AH} {i n : Nat} {a b : Value}
theorem Mbox.f0L (h : Mbox G i a b) : aFieldAddr Try.prog G 35 (ptrAt i 0 0) 0 = some (ptrAt i 0 0) := by
  obtain ⟨o, h1, h2, h3⟩ := h.ex
  exact fa_of (o := o) fa35_0 (by simp [alive, h1, h2])
theorem Mbox.f1L (h : Mbox G i a b) : aFieldAddr Try.prog G 35 (ptrAt i 0 0) 1 = some (ptrAt i 1 0) := by
  obtain ⟨o, h1, h2, h3⟩ := h.ex
  exact fa_of (o := o) fa35_1 (by simp [alive, h1, h2])
theorem Mbox.lL (h : Mbox G i a b) : aLoad Try.prog G 35 (ptrAt i 0 0) = some (.agg #[a, b]) := by
  obtain ⟨o, h1, h2, h3⟩ := h.ex
  simp [aLoad, ptrAt, alive, h1, h2, h3, size35, agg35]
end
theorem szIntS (H : AH) (v : Value) (xs : List Int) (n : Int) (hv : Sl H v (ints xs)) (hx : xs.length ≤ 9223372036854775807) (h0 : 0 ≤ n) (h1 : n ≤ 1048576) :
    ACall Try.prog 61 [v, .int .i64 n] H (.int .i64 (if (xs.length : Int) ≤ n then n - xs.length else -1)) H := by
  refine ACall.plain (nt := 12) (rs := [.tmp 4]) (vs := [_]) Try.func61 rfl rfl rfl rfl (by simp [PlainL]) fun wf => ?_
  have l1 := hv.len (P := Try.prog) elem22
  rw [ints_len] at l1
  have hw : IntKind.i64.wrap (n - (xs.length : Int)) = n - xs.length := wrap_id (by omega) (by omega)
  repeat refine AWp.seq ?_
  refine AWp.region' fun K hK => ?_
  simp []
  apply hK
  clear hK K
  simp only [andThen]
  repeat refine AWp.seq ?_
  refine AWp.region' fun K hK => ?_
  simp [l1, hw]
  apply hK
  clear hK K
  simp only [andThen]
  repeat refine AWp.seq ?_
  refine AWp.region' fun K hK => ?_
  simp []
  apply hK
  clear hK K
  simp only [andThen]
  by_cases c : (xs.length : Int) ≤ n
  · repeat refine AWp.seq ?_
    refine AWp.cf (by simp; omega) ?_
    refine AWp.skip ?_
    simp only [andThen]
    repeat refine AWp.seq ?_
    refine AWp.region' fun K hK => ?_
    simp []
    apply hK
    clear hK K
    simp only [andThen]
    refine AWp.ret ?_
    exact ⟨.inr rfl, ⟨[], by simp⟩, by simp [c]⟩
  · repeat refine AWp.seq ?_
    refine AWp.ct (by simp; omega) ?_
    repeat refine AWp.seq ?_
    refine AWp.region' fun K hK => ?_
    simp []
    apply hK
    clear hK K
    simp only [andThen]
    refine AWp.ret ?_
    exact ⟨.inr rfl, ⟨[], by simp⟩, by simp [c]⟩
theorem szMeander (H : AH) (a b : Value) (xs ys : List Int) (n : Int) (ha : Sl H a (ints xs)) (hb : Sl H b (ints ys)) (hx : xs.length ≤ 9223372036854775807) (hy : ys.length ≤ 9223372036854775807) (h0 : 0 ≤ n) (h1 : n ≤ 1048576) :
    ACall Try.prog 25 [.agg #[a, b], .int .i64 n] H (.int .i64 (if (xs.length : Int) + ys.length ≤ n then n - xs.length - ys.length else -1)) H := by
  refine ACall.plain (nt := 18) (rs := [.tmp 4]) (vs := [_]) Try.func25 rfl rfl rfl rfl (by simp [PlainL]) fun wf => ?_
  repeat refine AWp.seq ?_
  refine AWp.region' fun K hK => ?_
  simp [Value.cells, aNew]
  apply hK
  clear hK K
  simp only [andThen]
  have mb := Mbox.new (H := H) (a := a) (b := b) (e := 35)
  have ag : Agree H.length H (H ++ [⟨[a, b], 35, 1, 0, false⟩]) := Agree.app _ _
  generalize H ++ [⟨[a, b], 35, 1, 0, false⟩] = G at *
  have ha' := ha.agree ag
  have hb' := hb.agree ag
  repeat refine AWp.seq ?_
  refine AWp.region' fun K hK => ?_
  simp [mb.f0L, mb.l0, ha.tup]
  refine CallK.det (szIntS G a xs n ha' hx h0 h1) ?_
  by_cases c : (xs.length : Int) ≤ n
  · rw [if_pos c]
    try simp
    apply hK
    clear hK K
    simp only [andThen]
    repeat refine AWp.seq ?_
    refine AWp.region' fun K hK => ?_
    simp []
    apply hK
    clear hK K
    simp only [andThen]
    repeat refine AWp.seq ?_
    refine AWp.cf (by simp; omega) ?_
    refine AWp.skip ?_
    simp only [andThen]
    repeat refine AWp.seq ?_
    refine AWp.region' fun K hK => ?_
    simp [mb.f1L, mb.l1, hb.tup]
    refine CallK.det (szIntS G b ys _ hb' hy (by omega) (by omega)) ?_
    by_cases c2 : (ys.length : Int) ≤ n - xs.length
    · rw [if_pos c2]
      try simp
      apply hK
      clear hK K
      simp only [andThen]
      repeat refine AWp.seq ?_
      refine AWp.region' fun K hK => ?_
      simp []
      apply hK
      clear hK K
      simp only [andThen]
      repeat refine AWp.seq ?_
      refine AWp.cf (by simp; omega) ?_
      refine AWp.skip ?_
      simp only [andThen]
      repeat refine AWp.seq ?_
      refine AWp.region' fun K hK => ?_
      simp []
      apply hK
      clear hK K
      simp only [andThen]
      refine AWp.ret ?_
      exact ⟨.inr rfl, ag.to_pre.imp fun L h => h.symm, by simp; omega⟩
    · rw [if_neg c2]
      try simp
      apply hK
      clear hK K
      simp only [andThen]
      repeat refine AWp.seq ?_
      refine AWp.region' fun K hK => ?_
      simp []
      apply hK
      clear hK K
      simp only [andThen]
      repeat refine AWp.seq ?_
      refine AWp.ct (by simp) ?_
      repeat refine AWp.seq ?_
      refine AWp.region' fun K hK => ?_
      simp []
      apply hK
      clear hK K
      simp only [andThen]
      refine AWp.ret ?_
      exact ⟨.inr rfl, ag.to_pre.imp fun L h => h.symm, by simp; omega⟩
  · rw [if_neg c]
    try simp
    apply hK
    clear hK K
    simp only [andThen]
    repeat refine AWp.seq ?_
    refine AWp.region' fun K hK => ?_
    simp []
    apply hK
    clear hK K
    simp only [andThen]
    repeat refine AWp.seq ?_
    refine AWp.ct (by simp) ?_
    repeat refine AWp.seq ?_
    refine AWp.region' fun K hK => ?_
    simp []
    apply hK
    clear hK K
    simp only [andThen]
    refine AWp.ret ?_
    exact ⟨.inr rfl, ag.to_pre.imp fun L h => h.symm, by simp; omega⟩
end Go.Proofs.Ytdghlhdpcmemjaa.AL

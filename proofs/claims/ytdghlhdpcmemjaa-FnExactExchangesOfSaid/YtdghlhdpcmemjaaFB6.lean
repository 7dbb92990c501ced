/- Systems: the reference's check. No condition. -/
import Derived.Test.YtdghlhdpcmemjaaFB5
namespace Go.Proofs.Ytdghlhdpcmemjaa.AL
open Go Go.Proofs.Ytdghlhdpcmemjaa.Arch
attribute [local simp] aBin' aBin aBinI aUn aNil flatV
set_option linter.unusedVariables false
set_option linter.unusedSimpArgs false

theorem ok_succ {p : List Int} {d : Nat} {i : Int} {O : List Int} : okFrom p (d + 1) i O = if gt p i > i ∧ gt p (gt p i) = i then okFrom p d (i + 1) (i :: O)
    else if gt p i < i then
      match O with
      | [] => false
      | j :: O' => if j = gt p i then okFrom p d (i + 1) O' else false
    else false := rfl
set_option maxRecDepth 4096
theorem ahGood (H : AH) (v : Value) (p : List Int) (hv : Sl H v (ints p)) (hx : p.length ≤ 4294967296) : ACall Try.prog 53 [v] H (.bool (sysB p)) H := by
  refine ACall.plain (nt := 65) (rs := [.tmp 2]) (vs := [_]) Try.func53 rfl rfl rfl rfl (by simp [PlainL]) fun wf => ?_
  have l1 := hv.len (P := Try.prog) elem22
  rw [ints_len] at l1
  have hw1 : IntKind.i64.wrap ((p.length : Int) - 1) = (p.length : Int) - 1 := wrap_id (by omega) (by omega)
  have hm : (p.length : Int).tmod 2 = ((p.length % 2 : Nat) : Int) := by rw [Int.tmod_eq_emod_of_nonneg (by omega)]; omega
  have hm2 : IntKind.i64.wrap ((p.length % 2 : Nat) : Int) = ((p.length % 2 : Nat) : Int) := wrap_id (by omega) (by omega)
  repeat refine AWp.seq ?_
  refine AWp.region' fun K hK => ?_
  simp []
  apply hK
  clear hK K
  simp only [andThen]
  by_cases par : p.length % 2 = 1
  · rw [par] at hm hm2
    repeat refine AWp.seq ?_
    refine AWp.region' fun K hK => ?_
    simp [l1, hm, hm2]
    apply hK
    clear hK K
    simp only [andThen]
    repeat refine AWp.seq ?_
    refine AWp.ct (by simp) ?_
    repeat refine AWp.seq ?_
    refine AWp.region' fun K hK => ?_
    simp []
    apply hK
    clear hK K
    simp only [andThen]
    refine AWp.ret ?_
    exact ⟨.inr rfl, ⟨[], by simp⟩, by simp [sysB, arcB, par]⟩
  have par0 : p.length % 2 = 0 := by omega
  rw [par0] at hm hm2
  by_cases big : p.length ≤ 12
  · have big' : ¬ (12 < (p.length : Int)) := by omega
    repeat refine AWp.seq ?_
    refine AWp.region' fun K hK => ?_
    simp [l1, hm, hm2, big', hw1, hv.tup]
    refine CallK.det (l1All _ v p _ _ hv (by omega)) ?_
    simp
    apply hK
    clear hK K
    simp only [andThen]
    have e : (p.all fun x => decide (0 ≤ x) && decide (x ≤ (p.length : Int) - 1)) = (p.all fun x => decide (0 ≤ x) && decide (x < (p.length : Int))) := by
      congr 1
      funext x
      congr 1
      rw [decide_eq_decide]
      omega
    rw [e]
    by_cases hall : (p.all fun x => decide (0 ≤ x) && decide (x < (p.length : Int))) = true
    · rw [hall]
      have hr := range_of_all hall
      have hfin : sysB p = okFrom p p.length 0 [] := by simp only [sysB, arcB, big, par0, hall]; simp
      rw [hfin]
      repeat refine AWp.seq ?_
      refine AWp.cf (by simp) ?_
      refine AWp.skip ?_
      simp only [andThen]
      repeat refine AWp.seq ?_
      refine AWp.region' fun K hK => ?_
      simp []
      apply hK
      clear hK K
      simp only [andThen]
      repeat refine AWp.seq ?_
      refine AWp.region' fun K hK => ?_
      simp [l1]
      apply hK
      clear hK K
      simp only [andThen]
      repeat refine AWp.seq ?_
      refine AWp.block ?_
      refine AWp.loop (fun j env G => ∃ (k : Nat) (O : List Int) (u : Value), j = p.length - k ∧ k ≤ p.length ∧ O.length ≤ k ∧ okFrom p p.length 0 [] = okFrom p (p.length - k) k O ∧ Sl G u (ints O) ∧ Agree H.length H G ∧ env 0 = some v ∧ env 3 = some u ∧ env 23 = some v ∧ env 24 = some (.int .i64 p.length) ∧ env 25 = some (.int .i64 k)) (p.length) ⟨0, [], .slice none 0 0, by simp, by omega, by simp, by simp, Sl.nil, .refl _ _, by simp, by simp, by simp, by simp, by simp⟩ ?_
      rintro j env G ⟨k, O, u, rfl, hk, hO, hok, hu, ha, e0, e3, e23, e24, e25⟩
      have hv' := hv.agree ha
      have l3 := hu.len (P := Try.prog) elem22
      rw [ints_len] at l3
      repeat refine AWp.seq ?_
      refine AWp.region' fun K hK => ?_
      simp [e24, e25]
      apply hK
      clear hK K
      simp only [andThen]
      by_cases hlt : k < p.length
      · repeat refine AWp.seq ?_
        refine AWp.ct (by simp [hlt]) ?_
        refine AWp.skip ?_
        simp only [andThen]
        have hri := hr k (by omega) (by omega)
        have hd : p.length - k = (p.length - (k + 1)) + 1 := by omega
        rw [hd, ok_succ] at hok
        repeat refine AWp.seq ?_
        refine AWp.block ?_
        repeat refine AWp.seq ?_
        refine AWp.region' fun K hK => ?_
        simp [e23, e25, idxN hv' hlt, loadN hv' hlt]
        apply hK
        clear hK K
        simp only [andThen]
        repeat refine AWp.seq ?_
        refine AWp.block ?_
        by_cases c : gt p k > k
        · by_cases c2 : gt p (gt p k) = k
          · rw [if_pos ⟨c, c2⟩] at hok
            repeat refine AWp.seq ?_
            refine AWp.region' fun K hK => ?_
            simp [c, c2, e0, idxI hv' hri.1 hri.2, loadI hv' hri.1 hri.2]
            apply hK
            clear hK K
            simp only [andThen]
            repeat refine AWp.seq ?_
            refine AWp.ct (by simp) ?_
            obtain ⟨v', G', h1, h2, h3⟩ := hu.cons (P := Try.prog) (t := 22) (t2 := 22) (x := .int .i64 k) elem22 elem22 einfo3 rfl (by simp; omega)
            have hb := aBuild_one (P := Try.prog) (H := G) (t := 22) (x := .int .i64 (k : Int)) elem22 einfo3 rfl rfl rfl
            repeat refine AWp.seq ?_
            refine AWp.region' fun K hK => ?_
            simp [hb, e3, h1]
            apply hK
            clear hK K
            simp only [andThen]
            repeat refine AWp.seq ?_
            refine AWp.region' fun K hK => ?_
            simp [e25, wrap_succ (show k ≤ 4294967296 by omega)]
            apply hK
            clear hK K
            simp only [andThen]
            exact ⟨p.length - (k + 1), by omega, k + 1, (k : Int) :: O, v', rfl, by omega, by simp; omega, by simpa using hok, by simpa [ints] using h2, ha.trans h3 (by have := ha.to_pre.length_le; omega), by simp [e0], by simp, by simp [e23], by simp [e24], by simp⟩
          · rw [if_neg (fun q => c2 q.2), if_neg (by omega)] at hok
            have b2 : (gt p (gt p k) == (k : Int)) = false := by simpa using c2
            have c3 : ¬ gt p k < k := by omega
            rw [hok]
            repeat refine AWp.seq ?_
            refine AWp.region' fun K hK => ?_
            simp [c, b2, e0, idxI hv' hri.1 hri.2, loadI hv' hri.1 hri.2]
            apply hK
            clear hK K
            simp only [andThen]
            repeat refine AWp.seq ?_
            refine AWp.cf (by simp) ?_
            repeat refine AWp.seq ?_
            refine AWp.region' fun K hK => ?_
            simp [c3]
            apply hK
            clear hK K
            simp only [andThen]
            repeat refine AWp.seq ?_
            refine AWp.cf (by simp) ?_
            repeat refine AWp.seq ?_
            refine AWp.region' fun K hK => ?_
            simp []
            apply hK
            clear hK K
            simp only [andThen]
            refine AWp.ret ?_
            exact ⟨.inr rfl, ha.to_pre.imp fun L h => h.symm, by simp⟩
        · rw [if_neg (fun q => c q.1)] at hok
          repeat refine AWp.seq ?_
          refine AWp.region' fun K hK => ?_
          simp [c]
          apply hK
          clear hK K
          simp only [andThen]
          repeat refine AWp.seq ?_
          refine AWp.cf (by simp) ?_
          by_cases c3 : gt p k < k
          · rw [if_pos c3] at hok
            cases O with
            | nil =>
              rw [hok]
              repeat refine AWp.seq ?_
              refine AWp.region' fun K hK => ?_
              simp [c3, e3, l3]
              apply hK
              clear hK K
              simp only [andThen]
              repeat refine AWp.seq ?_
              refine AWp.cf (by simp) ?_
              repeat refine AWp.seq ?_
              refine AWp.region' fun K hK => ?_
              simp []
              apply hK
              clear hK K
              simp only [andThen]
              refine AWp.ret ?_
              exact ⟨.inr rfl, ha.to_pre.imp fun L h => h.symm, by simp⟩
            | cons j O' =>
              have i0 := idxN hu (k := 0) (by simp)
              have d0 := loadN hu (k := 0) (by simp)
              have g0 : gt (j :: O') (0 : Nat) = j := by simp [gt]
              rw [g0] at d0
              simp at i0
              replace hok : okFrom p p.length 0 [] = (if j = gt p k then okFrom p (p.length - (k + 1)) ((k : Int) + 1) O' else false) := hok
              have hpos : (0 : Int) < ((j :: O').length : Int) := by rw [List.length_cons]; omega
              by_cases c4 : j = gt p k
              · subst c4
                rw [if_pos rfl] at hok
                repeat refine AWp.seq ?_
                refine AWp.region' fun K hK => ?_
                simp [c3, e3, l3, i0, d0, hpos]
                apply hK
                clear hK K
                simp only [andThen]
                repeat refine AWp.seq ?_
                refine AWp.ct (by simp) ?_
                obtain ⟨u', h1, h2⟩ := Sl.tail (P := Try.prog) (t := 22) (x := .int .i64 (gt p k)) (cs := ints O') (by simpa [ints] using hu) elem22 size3
                repeat refine AWp.seq ?_
                refine AWp.region' fun K hK => ?_
                simp [e3, h1]
                apply hK
                clear hK K
                simp only [andThen]
                repeat refine AWp.seq ?_
                refine AWp.region' fun K hK => ?_
                simp [e25, wrap_succ (show k ≤ 4294967296 by omega)]
                apply hK
                clear hK K
                simp only [andThen]
                exact ⟨p.length - (k + 1), by omega, k + 1, O', u', rfl, by omega, by simp at hO; omega, by simpa using hok, h2, ha, by simp [e0], by simp, by simp [e23], by simp [e24], by simp⟩
              · rw [if_neg c4] at hok
                rw [hok]
                have b4 : (j == gt p k) = false := by simpa using c4
                repeat refine AWp.seq ?_
                refine AWp.region' fun K hK => ?_
                simp [c3, e3, l3, i0, d0, hpos, b4]
                apply hK
                clear hK K
                simp only [andThen]
                repeat refine AWp.seq ?_
                refine AWp.cf (by simp) ?_
                repeat refine AWp.seq ?_
                refine AWp.region' fun K hK => ?_
                simp []
                apply hK
                clear hK K
                simp only [andThen]
                refine AWp.ret ?_
                exact ⟨.inr rfl, ha.to_pre.imp fun L h => h.symm, by simp⟩
          · rw [if_neg c3] at hok
            rw [hok]
            repeat refine AWp.seq ?_
            refine AWp.region' fun K hK => ?_
            simp [c3]
            apply hK
            clear hK K
            simp only [andThen]
            repeat refine AWp.seq ?_
            refine AWp.cf (by simp) ?_
            repeat refine AWp.seq ?_
            refine AWp.region' fun K hK => ?_
            simp []
            apply hK
            clear hK K
            simp only [andThen]
            refine AWp.ret ?_
            exact ⟨.inr rfl, ha.to_pre.imp fun L h => h.symm, by simp⟩
      · repeat refine AWp.seq ?_
        refine AWp.cf (by simp [hlt]) ?_
        refine AWp.exit ?_
        simp only [andThen]
        simp
        repeat refine AWp.seq ?_
        refine AWp.region' fun K hK => ?_
        simp []
        apply hK
        clear hK K
        simp only [andThen]
        refine AWp.ret ?_
        have hkk : k = p.length := by omega
        subst hkk
        rw [hok]
        exact ⟨.inr rfl, ha.to_pre.imp fun L h => h.symm, by simp [okFrom]⟩
    · rw [Bool.eq_false_iff.mpr hall]
      repeat refine AWp.seq ?_
      refine AWp.ct (by simp) ?_
      repeat refine AWp.seq ?_
      refine AWp.region' fun K hK => ?_
      simp []
      apply hK
      clear hK K
      simp only [andThen]
      refine AWp.ret ?_
      exact ⟨.inr rfl, ⟨[], by simp⟩, by simp only [sysB, arcB, Bool.eq_false_iff.mpr hall]; simp⟩
  · have big' : (12 < (p.length : Int)) := by omega
    repeat refine AWp.seq ?_
    refine AWp.region' fun K hK => ?_
    simp [l1, hm, hm2, big']
    apply hK
    clear hK K
    simp only [andThen]
    repeat refine AWp.seq ?_
    refine AWp.ct (by simp) ?_
    repeat refine AWp.seq ?_
    refine AWp.region' fun K hK => ?_
    simp []
    apply hK
    clear hK K
    simp only [andThen]
    refine AWp.ret ?_
    exact ⟨.inr rfl, ⟨[], by simp⟩, by simp [sysB, big]⟩
end Go.Proofs.Ytdghlhdpcmemjaa.AL

/- The faces of a system: the reference's. No condition. -/
import Derived.Test.YtdghlhdpcmemjaaFB7
namespace Go.Proofs.Ytdghlhdpcmemjaa.AL
open Go Go.Proofs.Ytdghlhdpcmemjaa.Arch
set_option linter.unusedVariables false
set_option linter.unusedSimpArgs false
set_option maxRecDepth 4096

theorem exFaces (H : AH) (v : Value) (p : List Int) (hv : Sl H v (ints p)) (s : ArcS p) (hx : p.length ≤ 12) :
    ACallP Try.prog 54 [v] H (fun u G => RowsO G H.length 22 3 u ((facesTo p p.length).map ints) ∧ Agree H.length H G) := by
  refine ACallP.of_body (nt := 57) (rs := [.tmp 2]) Try.func54 rfl rfl rfl rfl fun wf _ => ?_
  repeat refine AWp.seq ?_
  refine AWp.region' fun K hK => ?_
  simp []
  apply hK
  clear hK K
  simp only [andThen]
  repeat refine AWp.seq ?_
  refine AWp.region' fun K hK => ?_
  simp []
  apply hK
  clear hK K
  simp only [andThen]
  repeat refine AWp.seq ?_
  refine AWp.region' fun K hK => ?_
  simp []
  apply hK
  clear hK K
  simp only [andThen]
  repeat refine AWp.seq ?_
  refine AWp.block ?_
  refine AWp.loop (fun j env G => ∃ (i : Int) (L : List Int) (u : Value), L ++ hops p j i p.length = hops p p.length 0 p.length ∧ L.length + j ≤ p.length ∧ (p.length - i).toNat ≤ j ∧ Shut p i p.length ∧ Own G H.length 3 u (ints L) ∧ Agree H.length H G ∧ env 0 = some v ∧ env 3 = some u ∧ env 4 = some (.int .i64 i)) (p.length) ⟨0, [], .slice none 0 0, by simp, by simp, by omega, Shut.all s, Own.nil, .refl _ _, by simp, by simp, by simp⟩ ?_
  rintro j env G ⟨i, L, u, hL, hLj, hj, hsh, hf, ha, e0, e3, e4⟩
  have hlen := ha.to_pre.length_le
  have l1 := (hv.agree ha).len (P := Try.prog) elem22
  rw [ints_len] at l1
  repeat refine AWp.seq ?_
  refine AWp.region' fun K hK => ?_
  simp [e0, e4, l1]
  apply hK
  clear hK K
  simp only [andThen]
  by_cases hlt : i < (p.length : Int)
  · repeat refine AWp.seq ?_
    refine AWp.ct (by simp [hlt]) ?_
    refine AWp.skip ?_
    simp only [andThen]
    obtain ⟨t1, t2⟩ := hsh.step s hlt
    have tlo := hsh.lo
    have thi := t2.hi
    have tst := hsh.stay i (Int.le_refl _) hlt
    obtain ⟨v', G', h1, h2, h3, h4, h5⟩ := hf.push1 (P := Try.prog) (t := 22) (t2 := 22) (x := .int .i64 i) hlen elem22 elem22 einfo3 rfl (by simp; omega)
    have hb := aBuild_one (P := Try.prog) (H := G) (t := 22) (x := .int .i64 i) elem22 einfo3 rfl rfl rfl
    have ha' : Agree H.length H G' := fun q hq => by
      rw [h4 q (by omega) (fun e => by have := (hf.id_lt e).2.1; omega), ha q hq]
    have hv' := hv.agree ha'
    have hwi : IntKind.i64.wrap (gt p i + 1) = gt p i + 1 := wrap_id (by omega) (by omega)
    repeat refine AWp.seq ?_
    refine AWp.block ?_
    repeat refine AWp.seq ?_
    refine AWp.region' fun K hK => ?_
    simp [e3, e4, hb, h1]
    apply hK
    clear hK K
    simp only [andThen]
    repeat refine AWp.seq ?_
    refine AWp.region' fun K hK => ?_
    simp [e0, e4, idxI hv' (show 0 ≤ i by omega) (by omega), loadI hv' (show 0 ≤ i by omega) (by omega), hwi]
    apply hK
    clear hK K
    simp only [andThen]
    obtain ⟨j', rfl⟩ : ∃ j', j = j' + 1 := ⟨j - 1, by omega⟩
    refine ⟨j', by omega, gt p i + 1, L ++ [i], v', ?_, by simp; omega, by omega, t2, .inr (by simpa [ints] using h2), ha', by simp [e0], by simp, by simp⟩
    rw [← hL]
    simp [hops, hlt]
  · repeat refine AWp.seq ?_
    refine AWp.cf (by simp [hlt]) ?_
    refine AWp.exit ?_
    simp only [andThen]
    simp
    rw [hops_end hlt, List.append_nil] at hL
    subst hL
    have hb0 := aBuild_one (P := Try.prog) (H := G) (t := 23) (x := u) elem23 einfo22 rfl hf.sl.tup hf.sl.one
    have hr0 := RowsO.lit (eo := 22) (ei := 3) (by decide) hlen hf
    have ha0 : Agree H.length H (G ++ [⟨[u], 22, 1, 0, false⟩]) := ha.trans (Agree.app _ _) hlen
    repeat refine AWp.seq ?_
    refine AWp.region' fun K hK => ?_
    simp [e3, hb0]
    apply hK
    clear hK K
    simp only [andThen]
    generalize G ++ [⟨[u], 22, 1, 0, false⟩] = G0 at *
    have l1 := (hv.agree ha0).len (P := Try.prog) elem22
    rw [ints_len] at l1
    repeat refine AWp.seq ?_
    refine AWp.region' fun K hK => ?_
    simp [e0, l1]
    apply hK
    clear hK K
    simp only [andThen]
    repeat refine AWp.seq ?_
    refine AWp.block ?_
    refine AWp.loop (fun j env G => ∃ (k : Nat) (u : Value), j = p.length - k ∧ k ≤ p.length ∧ RowsO G H.length 22 3 u ((facesTo p k).map ints) ∧ Agree H.length H G ∧ env 0 = some v ∧ env 5 = some u ∧ env 25 = some v ∧ env 26 = some (.int .i64 p.length) ∧ env 27 = some (.int .i64 k)) (p.length) ⟨0, _, by simp, by omega, by rw [facesTo_zero]; exact hr0, ha0, by simp [e0], by simp, by simp, by simp, by simp⟩ ?_
    rintro j env G ⟨k, u, rfl, hk, hr, ha, e0, e5, e25, e26, e27⟩
    have hv' := hv.agree ha
    have hlen := ha.to_pre.length_le
    repeat refine AWp.seq ?_
    refine AWp.region' fun K hK => ?_
    simp [e26, e27]
    apply hK
    clear hK K
    simp only [andThen]
    by_cases hlt : k < p.length
    · repeat refine AWp.seq ?_
      refine AWp.ct (by simp [hlt]) ?_
      refine AWp.skip ?_
      simp only [andThen]
      have hh := s.hi k (by omega) (by omega)
      have hne := s.ne k (by omega) (by omega)
      repeat refine AWp.seq ?_
      refine AWp.block ?_
      repeat refine AWp.seq ?_
      refine AWp.region' fun K hK => ?_
      simp [e25, e27, idxN hv' hlt, loadN hv' hlt]
      apply hK
      clear hK K
      simp only [andThen]
      repeat refine AWp.seq ?_
      refine AWp.region' fun K hK => ?_
      simp []
      apply hK
      clear hK K
      simp only [andThen]
      by_cases c : (k : Int) < gt p k
      · repeat refine AWp.seq ?_
        refine AWp.cf (by simp; omega) ?_
        refine AWp.skip ?_
        simp only [andThen]
        have hb1 := aBuild_one (P := Try.prog) (H := G) (t := 22) (x := .int .i64 (k : Int)) elem22 einfo3 rfl rfl rfl
        have hsh := Shut.under s (i := (k : Int)) (by omega) (by omega)
        repeat refine AWp.seq ?_
        refine AWp.region' fun K hK => ?_
        simp [hb1]
        apply hK
        clear hK K
        simp only [andThen]
        repeat refine AWp.seq ?_
        refine AWp.region' fun K hK => ?_
        simp [wrap_succ (show k ≤ 4294967296 by omega)]
        apply hK
        clear hK K
        simp only [andThen]
        have hlf := hops_len (p := p) (gt p k - ((k + 1 : Nat) : Int)).toNat ((k + 1 : Nat) : Int) (gt p k)
        repeat refine AWp.seq ?_
        refine AWp.block ?_
        refine AWp.loop (fun j env G' => ∃ (i : Int) (L : List Int) (w : Value), L ++ hops p j i (gt p k) = faceAt p k ∧ L.length + j ≤ 1 + (gt p k - ((k + 1 : Nat) : Int)).toNat ∧ (gt p k - i).toNat ≤ j ∧ Shut p i (gt p k) ∧ Fresh G' G.length 3 w (ints L) ∧ Agree G.length G G' ∧ env 0 = some v ∧ env 5 = some u ∧ env 7 = some (.int .i64 (gt p k)) ∧ env 8 = some w ∧ env 9 = some (.int .i64 i) ∧ env 25 = some v ∧ env 26 = some (.int .i64 p.length) ∧ env 27 = some (.int .i64 k)) ((gt p k - ((k + 1 : Nat) : Int)).toNat) ⟨((k + 1 : Nat) : Int), [(k : Int)], _, by simp [faceAt], by simp, by omega, by simpa using hsh, by simpa [ints] using lit_fresh, Agree.app _ _, by simp [e0], by simp [e5], by simp, by simp, by simp, by simp [e25], by simp [e26], by simp [e27]⟩ ?_
        rintro j env G' ⟨i, L, w, hL, hLj, hj, hsh, hf, hag, e0, e5, e7, e8, e9, e25, e26, e27⟩
        have hlen2 := hag.to_pre.length_le
        repeat refine AWp.seq ?_
        refine AWp.region' fun K hK => ?_
        simp [e7, e9]
        apply hK
        clear hK K
        simp only [andThen]
        by_cases hlt : i < gt p k
        · repeat refine AWp.seq ?_
          refine AWp.ct (by simp [hlt]) ?_
          refine AWp.skip ?_
          simp only [andThen]
          obtain ⟨t1, t2⟩ := hsh.step s hlt
          have tlo := hsh.lo
          have thi := t2.hi
          have tst := hsh.stay i (Int.le_refl _) hlt
          obtain ⟨v', G2, h1, h2, h3, h4, h5⟩ := (Own.of hf).push1 (P := Try.prog) (t := 22) (t2 := 22) (x := .int .i64 i) hlen2 elem22 elem22 einfo3 rfl (by simp; omega)
          have hb := aBuild_one (P := Try.prog) (H := G') (t := 22) (x := .int .i64 i) elem22 einfo3 rfl rfl rfl
          have ha' : Agree G.length G G2 := fun q hq => by
            rw [h4 q (by omega) (fun e => by have := ((Own.of hf).id_lt e).2.1; omega), hag q hq]
          have hv2 := hv'.agree ha'
          have hwi : IntKind.i64.wrap (gt p i + 1) = gt p i + 1 := wrap_id (by omega) (by omega)
          repeat refine AWp.seq ?_
          refine AWp.block ?_
          repeat refine AWp.seq ?_
          refine AWp.region' fun K hK => ?_
          simp [e8, e9, hb, h1]
          apply hK
          clear hK K
          simp only [andThen]
          repeat refine AWp.seq ?_
          refine AWp.region' fun K hK => ?_
          simp [e0, e9, idxI hv2 (show 0 ≤ i by omega) (by omega), loadI hv2 (show 0 ≤ i by omega) (by omega), hwi]
          apply hK
          clear hK K
          simp only [andThen]
          obtain ⟨j', rfl⟩ : ∃ j', j = j' + 1 := ⟨j - 1, by omega⟩
          refine ⟨j', by omega, gt p i + 1, L ++ [i], v', ?_, by simp; omega, by omega, t2, by simpa [ints] using h2, ha', by simp [e0], by simp [e5], by simp [e7], by simp, by simp, by simp [e25], by simp [e26], by simp [e27]⟩
          rw [← hL]
          simp [hops, hlt]
        · repeat refine AWp.seq ?_
          refine AWp.cf (by simp [hlt]) ?_
          refine AWp.exit ?_
          simp only [andThen]
          simp
          rw [hops_end hlt, List.append_nil] at hL
          subst hL
          have hb2 := aBuild_one (P := Try.prog) (H := G') (t := 23) (x := w) elem23 einfo22 rfl hf.sl.tup hf.sl.one
          obtain ⟨v3, G3, q1, q2, q3, q4⟩ := hr.push (P := Try.prog) (t := 23) (t2 := 23) (by decide) hlen hag hlen2 (Own.of hf) elem23 elem23 einfo22 rfl (by have := facesTo_len (p := p) (k := k); simp; omega)
          repeat refine AWp.seq ?_
          refine AWp.region' fun K hK => ?_
          simp [e5, e8, hb2, q1]
          apply hK
          clear hK K
          simp only [andThen]
          repeat refine AWp.seq ?_
          refine AWp.region' fun K hK => ?_
          simp [e27, wrap_succ (show k ≤ 4294967296 by omega)]
          apply hK
          clear hK K
          simp only [andThen]
          refine ⟨p.length - (k + 1), by omega, k + 1, rfl, by omega, v3, ?_, fun i hi => ?_, by simp [e0], by simp, by simp [e25], by simp [e26], by simp⟩
          · rw [facesTo_yes c, List.map_append]
            simpa using q2
          · rw [q4 i hi, hag i (by omega), ha i hi]
      · repeat refine AWp.seq ?_
        refine AWp.ct (by simp; omega) ?_
        refine AWp.exit ?_
        simp only [andThen]
        simp
        repeat refine AWp.seq ?_
        refine AWp.region' fun K hK => ?_
        simp [e27, wrap_succ (show k ≤ 4294967296 by omega)]
        apply hK
        clear hK K
        simp only [andThen]
        exact ⟨p.length - (k + 1), by omega, k + 1, rfl, by omega, u, by rw [facesTo_no c]; exact hr, ha, by simp [e0], by simp [e5], by simp [e25], by simp [e26], by simp⟩
    · repeat refine AWp.seq ?_
      refine AWp.cf (by simp [hlt]) ?_
      refine AWp.exit ?_
      simp only [andThen]
      simp
      repeat refine AWp.seq ?_
      refine AWp.region' fun K hK => ?_
      simp [e5]
      apply hK
      clear hK K
      simp only [andThen]
      refine AWp.ret ?_
      have hkk : k = p.length := by omega
      subst hkk
      exact ⟨.inr rfl, [u], by simp [hr.sl.tup], hr, ha⟩
end Go.Proofs.Ytdghlhdpcmemjaa.AL

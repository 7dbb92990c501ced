/- The walks of functions, each with its Lean function: laws.FnExactIsSimple, spec.PiecesBack, impl.PiecesBack, laws.eqMeanderS, laws.markIntS, laws.markMeander, laws.markMeanderS, laws.heldIntS, laws.heldMeanderS, laws.FnExactPiecesBack. No condition. -/
import Derived.Test.YtbckijeffiofdaaG1
import Derived.Test.YtbckijeffiofdaaG2
import Derived.Test.YtbckijeffiofdaaG3
import Derived.Test.YtbckijeffiofdaaG4
import Derived.Test.YtbckijeffiofdaaAL34
import Derived.Test.YtbckijeffiofdaaProg
import Derived.KernelRfl
namespace Go.Proofs.Ytbckijeffiofdaa.AL
open Go Go.RowKit
set_option linter.unusedVariables false
set_option linter.unusedSimpArgs false
set_option maxRecDepth 4096
theorem ag_24 : aggT Try.prog 24 = some true := by kernel_rfl
theorem sz_24 : sizeT Try.prog 24 = some 2 := by kernel_rfl
theorem un_4 : Try.prog.underlying 4 = some .bool := by kernel_rfl
/-! loop.example/g01126/laws.FnExactIsSimple -/
def F_laws_FnExactIsSimple (fu : Nat) (x0_0 : List Int) (x0_1 : List Int) : Option (Bool) :=
  bd (F_laws_szMeander fu x0_0 x0_1 1048576) fun r1 =>
  bif (ilt r1 0) then
    some true
  else
    bd (F_laws_toMeander fu x0_0 x0_1) fun r2 =>
    bd (F_spec_IsSimple fu r2.1 r2.2) fun r3 =>
    bd (F_laws_toMeander fu x0_0 x0_1) fun r4 =>
    bd (F_impl_IsSimple fu r4.1 r4.2) fun r5 =>
    bd (
      bif (bne' r5.1 r3.1) then
        some true
      else
        some (bne' r5.2 r3.2)) fun s60 =>
    bif s60 then
      some false
    else
      bd (F_laws_toMeander fu x0_0 x0_1) fun r6 =>
      bd (F_laws_eqMeander fu r4.1 r4.2 r6.1 r6.2) fun r7 =>
      bif (bnot r7) then
        some false
      else
        some true
theorem F_laws_FnExactIsSimple_w {fu : Nat} {H : AH} {v0_0 : Value} {v0_1 : Value} {x0_0 : List Int} {x0_1 : List Int} {r : (Bool)} (hx0_0 : Sl H v0_0 (ints x0_0)) (hx0_1 : Sl H v0_1 (ints x0_1)) (hF : F_laws_FnExactIsSimple fu x0_0 x0_1 = some r) :
    ACallT Try.prog 10 [(Value.agg #[v0_0, v0_1])] H (fun u G => AgB (Fr H) H G ∧ u = (Value.bool r) ∧ Sep G (Fr H) []) := by
  refine ACallT.of_body (nt := 40) (rs := [.tmp 2]) Try.func10 rfl rfl rfl rfl ?_
  have A0 : AgB (Fr H) H H := .refl _ _
  have S0 : Sep H (Fr H) [] := .nil
  have hB := Fr.up H
  unfold F_laws_FnExactIsSimple at hF
  refine DWp.seq ?_
  obtain ⟨G2, p4, q5, q6, a7, S1⟩ := S0.boxT (hB.le A0.1) 24 [v0_0, v0_1]
  have A3 := A0.ext (hB.le A0.1) a7
  replace S1 : Sep G2 (Fr H) [AL.box p4 [v0_0, v0_1]] := S1
  refine DWp.region fun K hK => ?_
  simp [-aBin', -aBin, -aBinI, -aUn, -aNil, -flatV, n_fn, b_add, b_sub, b_mul, b_lt, b_le, b_gt, b_ge, b_eq, b_ne, u_not, q5, q6, a7.to_pre, cells_agg]
  apply hK
  clear hK K
  simp only [andThen, leaves]
  refine DWp.seq ?_
  refine DWp.region fun K hK => ?_
  simp [-aBin', -aBin, -aBinI, -aUn, -aNil, -flatV, n_fn, b_add, b_sub, b_mul, b_lt, b_le, b_gt, b_ge, b_eq, b_ne, u_not]
  apply hK
  clear hK K
  simp only [andThen, leaves]
  refine DWp.seq ?_
  have q8 := S1.loadAgg (P := Try.prog) (k := 0) rfl sz_24 ag_24 rfl
  obtain ⟨r1, hc9, hF⟩ := bd_some hF
  refine DWp.region fun K hK => ?_
  simp [-aBin', -aBin, -aBinI, -aUn, -aNil, -flatV, n_fn, b_add, b_sub, b_mul, b_lt, b_le, b_gt, b_ge, b_eq, b_ne, u_not, q8, ((hx0_0.agree A3.agree).tup), ((hx0_1.agree A3.agree).tup)]
  refine CallD.t (F_laws_szMeander_w (fu := fu) (hx0_0.agree A3.agree) (hx0_1.agree A3.agree) hc9) ?_
  rintro _ G11 ⟨a14, rfl, S15⟩
  have A13 := A3.ext (hB.le A3.1) a14.agree
  have S12 : Sep G11 (Fr H) [AL.box p4 [v0_0, v0_1]] := S1.app a14.agree S15 (fun _ h => h) (hB.le A3.1)
  simp [-aBin', -aBin, -aBinI, -aUn, -aNil, -flatV, n_fn, b_add, b_sub, b_mul, b_lt, b_le, b_gt, b_ge, b_eq, b_ne, u_not, q8, a14.pre]
  apply hK
  clear hK K
  simp only [andThen, leaves]
  refine DWp.seq ?_
  refine DWp.seq ?_
  refine DWp.region fun K hK => ?_
  simp [-aBin', -aBin, -aBinI, -aUn, -aNil, -flatV, n_fn, b_add, b_sub, b_mul, b_lt, b_le, b_gt, b_ge, b_eq, b_ne, u_not]
  apply hK
  clear hK K
  simp only [andThen, leaves]
  refine DWp.cond' (t := (ilt r1 0)) (by simp []) (fun hb16 => ?_) (fun hb16 => ?_)
  · replace hF := cd_t hb16 hF
    refine DWp.seq ?_
    refine DWp.region fun K hK => ?_
    simp [-aBin', -aBin, -aBinI, -aUn, -aNil, -flatV, n_fn, b_add, b_sub, b_mul, b_lt, b_le, b_gt, b_ge, b_eq, b_ne, u_not]
    apply hK
    clear hK K
    simp only [andThen, leaves]
    refine DWp.ret ?_
    simp only [andThen, leaves]
    obtain rfl := Option.some.inj hF
    exact ⟨by simp, [(Value.bool true)], by simp [], A13, rfl, S12.pick [] (by decide) rfl⟩
  · replace hF := cd_f hb16 hF
    refine DWp.skip ?_
    simp only [andThen, leaves]
    refine DWp.seq ?_
    have q17 := S12.loadAgg (P := Try.prog) (k := 0) rfl sz_24 ag_24 rfl
    obtain ⟨r2, hc18, hF⟩ := bd_some hF
    refine DWp.region fun K hK => ?_
    simp [-aBin', -aBin, -aBinI, -aUn, -aNil, -flatV, n_fn, b_add, b_sub, b_mul, b_lt, b_le, b_gt, b_ge, b_eq, b_ne, u_not, q17, ((hx0_0.agree A13.agree).tup), ((hx0_1.agree A13.agree).tup)]
    refine CallD.t (F_laws_toMeander_w (fu := fu) (hx0_0.agree A13.agree) (hx0_1.agree A13.agree) hc18) ?_
    rintro _ G20 ⟨a23, c19_u0, c19_u1, rfl, S24⟩
    have A22 := A13.ext (hB.le A13.1) a23.agree
    have S21 : Sep G20 (Fr H) [AL.box p4 [v0_0, v0_1], flat c19_u0 3 (ints r2.1), flat c19_u1 3 (ints r2.2)] := S12.app a23.agree S24 (fun _ h => h) (hB.le A13.1)
    obtain ⟨r3, hc25, hF⟩ := bd_some hF
    simp [-aBin', -aBin, -aBinI, -aUn, -aNil, -flatV, n_fn, b_add, b_sub, b_mul, b_lt, b_le, b_gt, b_ge, b_eq, b_ne, u_not, q17, a23.pre, ((S21.sl (k := 1) rfl).tup), ((S21.sl (k := 2) rfl).tup)]
    refine CallD.t (F_spec_IsSimple_w (fu := fu) (S21.sl (k := 1) rfl) (S21.sl (k := 2) rfl) hc25) ?_
    rintro _ G27 ⟨a30, rfl, S31⟩
    have A29 := A22.ext (hB.le A22.1) a30.agree
    have S28 : Sep G27 (Fr H) [AL.box p4 [v0_0, v0_1], flat c19_u0 3 (ints r2.1), flat c19_u1 3 (ints r2.2)] := S21.app a30.agree S31 (fun _ h => h) (hB.le A22.1)
    simp [-aBin', -aBin, -aBinI, -aUn, -aNil, -flatV, n_fn, b_add, b_sub, b_mul, b_lt, b_le, b_gt, b_ge, b_eq, b_ne, u_not, q17, a23.pre, a30.pre]
    apply hK
    clear hK K
    simp only [andThen, leaves]
    refine DWp.seq ?_
    have q32 := S28.loadAgg (P := Try.prog) (k := 0) rfl sz_24 ag_24 rfl
    obtain ⟨r4, hc33, hF⟩ := bd_some hF
    refine DWp.region fun K hK => ?_
    simp [-aBin', -aBin, -aBinI, -aUn, -aNil, -flatV, n_fn, b_add, b_sub, b_mul, b_lt, b_le, b_gt, b_ge, b_eq, b_ne, u_not, q32, ((hx0_0.agree A29.agree).tup), ((hx0_1.agree A29.agree).tup)]
    refine CallD.t (F_laws_toMeander_w (fu := fu) (hx0_0.agree A29.agree) (hx0_1.agree A29.agree) hc33) ?_
    rintro _ G35 ⟨a38, c34_u0, c34_u1, rfl, S39⟩
    have A37 := A29.ext (hB.le A29.1) a38.agree
    have S36 : Sep G35 (Fr H) [AL.box p4 [v0_0, v0_1], flat c19_u0 3 (ints r2.1), flat c19_u1 3 (ints r2.2), flat c34_u0 3 (ints r4.1), flat c34_u1 3 (ints r4.2)] := S28.app a38.agree S39 (fun _ h => h) (hB.le A29.1)
    obtain ⟨G41, p43, q44, q46, a45, S40⟩ := S36.allocT (P := Try.prog) (hB.le A37.1) ze_28 rfl
    have A42 := A37.ext (hB.le A37.1) a45
    replace S40 : Sep G41 (Fr H) [AL.box p4 [v0_0, v0_1], flat c19_u0 3 (ints r2.1), flat c19_u1 3 (ints r2.2), flat c34_u0 3 (ints r4.1), flat c34_u1 3 (ints r4.2), AL.box p43 [(Value.slice none 0 0), (Value.slice none 0 0)]] := S40
    obtain ⟨G47, q48, S49, a51⟩ := S40.putAgg (P := Try.prog) (k := 5) (xs := [c34_u0, c34_u1]) rfl (hB.le A42.1) sz_28 rfl rfl
    have A50 := A42.trans a51
    replace S49 : Sep G47 (Fr H) [AL.box p4 [v0_0, v0_1], flat c19_u0 3 (ints r2.1), flat c19_u1 3 (ints r2.2), flat c34_u0 3 (ints r4.1), flat c34_u1 3 (ints r4.2), AL.box p43 [c34_u0, c34_u1]] := S49
    simp [-aBin', -aBin, -aBinI, -aUn, -aNil, -flatV, n_fn, b_add, b_sub, b_mul, b_lt, b_le, b_gt, b_ge, b_eq, b_ne, u_not, q32, a38.pre, q44, q46, a45.to_pre, q48]
    apply hK
    clear hK K
    simp only [andThen, leaves]
    refine DWp.seq ?_
    have q52 := S49.loadAgg (P := Try.prog) (k := 5) rfl sz_28 ag_28 rfl
    obtain ⟨r5, hc53, hF⟩ := bd_some hF
    refine DWp.region fun K hK => ?_
    simp [-aBin', -aBin, -aBinI, -aUn, -aNil, -flatV, n_fn, b_add, b_sub, b_mul, b_lt, b_le, b_gt, b_ge, b_eq, b_ne, u_not, q52, ((S49.sl (k := 3) rfl).tup), ((S49.sl (k := 4) rfl).tup)]
    refine CallD.t (F_impl_IsSimple_w (fu := fu) (S49.sl (k := 3) rfl) (S49.sl (k := 4) rfl) hc53) ?_
    rintro _ G55 ⟨a58, rfl, S59⟩
    have A57 := A50.ext (hB.le A50.1) a58.agree
    have S56 : Sep G55 (Fr H) [AL.box p4 [v0_0, v0_1], flat c19_u0 3 (ints r2.1), flat c19_u1 3 (ints r2.2), flat c34_u0 3 (ints r4.1), flat c34_u1 3 (ints r4.2), AL.box p43 [c34_u0, c34_u1]] := S49.app a58.agree S59 (fun _ h => h) (hB.le A50.1)
    simp [-aBin', -aBin, -aBinI, -aUn, -aNil, -flatV, n_fn, b_add, b_sub, b_mul, b_lt, b_le, b_gt, b_ge, b_eq, b_ne, u_not, q52, a58.pre]
    apply hK
    clear hK K
    simp only [andThen, leaves]
    refine DWp.seq ?_
    obtain ⟨s60, hL61, hF⟩ := bd_some hF
    refine DWp.seq (DWp.join (fun env G => Sep G (Fr H) [AL.box p4 [v0_0, v0_1], AL.box p43 [c34_u0, c34_u1], flat c34_u0 3 (ints r4.1), flat c34_u1 3 (ints r4.2)] ∧ AgB (Fr H) H G ∧ env 1 = some p4 ∧ env 6 = some p43 ∧ env 34 = some (Value.bool s60)) ?_ ?_)
    ·
      rcases Bool.eq_false_or_eq_true (bne' r5.1 r3.1) with hb63 | hb63
      · replace hL61 := cd_t hb63 hL61
        refine DWp.region fun K hK => ?_
        simp [-aBin', -aBin, -aBinI, -aUn, -aNil, -flatV, n_fn, b_add, b_sub, b_mul, b_lt, b_le, b_gt, b_ge, b_eq, b_ne, u_not, hb63, b_bne un_4]
        apply hK
        clear hK K
        simp only [andThen, leaves]
        have S64 := S56.pick [0, 5, 3, 4] (by decide) rfl
        obtain rfl := Option.some.inj hL61
        exact ⟨S64, A57, by simp [], by simp [], by simp []⟩
      · replace hL61 := cd_f hb63 hL61
        refine DWp.region fun K hK => ?_
        simp [-aBin', -aBin, -aBinI, -aUn, -aNil, -flatV, n_fn, b_add, b_sub, b_mul, b_lt, b_le, b_gt, b_ge, b_eq, b_ne, u_not, hb63, b_bne un_4]
        apply hK
        clear hK K
        simp only [andThen, leaves]
        have S65 := S56.pick [0, 5, 3, 4] (by decide) rfl
        obtain rfl := Option.some.inj hL61
        exact ⟨S65, A57, by simp [], by simp [], by simp []⟩
    · rintro env Gj66 ⟨Sj66, Aj66, ej66_1, ej66_6, ej66_34⟩
      refine DWp.cond' (t := s60) (by simp [ej66_1, ej66_6, ej66_34]) (fun hb67 => ?_) (fun hb67 => ?_)
      · replace hF := cd_t hb67 hF
        refine DWp.seq ?_
        refine DWp.region fun K hK => ?_
        simp [-aBin', -aBin, -aBinI, -aUn, -aNil, -flatV, n_fn, b_add, b_sub, b_mul, b_lt, b_le, b_gt, b_ge, b_eq, b_ne, u_not, ej66_1, ej66_6, ej66_34]
        apply hK
        clear hK K
        simp only [andThen, leaves]
        refine DWp.ret ?_
        simp only [andThen, leaves]
        obtain rfl := Option.some.inj hF
        exact ⟨by simp, [(Value.bool false)], by simp [ej66_1, ej66_6, ej66_34], Aj66, rfl, Sj66.pick [] (by decide) rfl⟩
      · replace hF := cd_f hb67 hF
        refine DWp.skip ?_
        simp only [andThen, leaves]
        refine DWp.seq ?_
        refine DWp.seq ?_
        have q68 := Sj66.loadAgg (P := Try.prog) (k := 1) rfl sz_28 ag_28 rfl
        have q69 := Sj66.loadAgg (P := Try.prog) (k := 0) rfl sz_24 ag_24 rfl
        obtain ⟨r6, hc70, hF⟩ := bd_some hF
        refine DWp.drawn (B := [0, 0, 2, 7, 15]) 5 mixed (by kernel_rfl) (by decide) fun K hK => ?_
        simp [-aBin', -aBin, -aBinI, -aUn, -aNil, -flatV, n_fn, b_add, b_sub, b_mul, b_lt, b_le, b_gt, b_ge, b_eq, b_ne, u_not, ej66_1, ej66_6, ej66_34, q68, q69, ((hx0_0.agree Aj66.agree).tup), ((hx0_1.agree Aj66.agree).tup)]
        refine CallD.t (F_laws_toMeander_w (fu := fu) (hx0_0.agree Aj66.agree) (hx0_1.agree Aj66.agree) hc70) ?_
        rintro _ G72 ⟨a75, c71_u0, c71_u1, rfl, S76⟩
        have A74 := Aj66.ext (hB.le Aj66.1) a75.agree
        have S73 : Sep G72 (Fr H) [AL.box p4 [v0_0, v0_1], AL.box p43 [c34_u0, c34_u1], flat c34_u0 3 (ints r4.1), flat c34_u1 3 (ints r4.2), flat c71_u0 3 (ints r6.1), flat c71_u1 3 (ints r6.2)] := Sj66.app a75.agree S76 (fun _ h => h) (hB.le Aj66.1)
        obtain ⟨r7, hc77, hF⟩ := bd_some hF
        simp [-aBin', -aBin, -aBinI, -aUn, -aNil, -flatV, n_fn, b_add, b_sub, b_mul, b_lt, b_le, b_gt, b_ge, b_eq, b_ne, u_not, ej66_1, ej66_6, ej66_34, q68, q69, a75.pre, ((S73.sl (k := 2) rfl).tup), ((S73.sl (k := 3) rfl).tup), ((S73.sl (k := 4) rfl).tup), ((S73.sl (k := 5) rfl).tup)]
        refine CallD.t (F_laws_eqMeander_w (fu := fu) (S73.sl (k := 2) rfl) (S73.sl (k := 3) rfl) (S73.sl (k := 4) rfl) (S73.sl (k := 5) rfl) hc77) ?_
        rintro _ G79 ⟨a82, rfl, S83⟩
        have A81 := A74.ext (hB.le A74.1) a82.agree
        have S80 : Sep G79 (Fr H) [AL.box p4 [v0_0, v0_1], AL.box p43 [c34_u0, c34_u1], flat c34_u0 3 (ints r4.1), flat c34_u1 3 (ints r4.2), flat c71_u0 3 (ints r6.1), flat c71_u1 3 (ints r6.2)] := S73.app a82.agree S83 (fun _ h => h) (hB.le A74.1)
        simp [-aBin', -aBin, -aBinI, -aUn, -aNil, -flatV, n_fn, b_add, b_sub, b_mul, b_lt, b_le, b_gt, b_ge, b_eq, b_ne, u_not, ej66_1, ej66_6, ej66_34, q68, q69, a75.pre, a82.pre]
        apply hK
        clear hK K
        simp only [andThen, leaves]
        refine DWp.cond' (t := (bnot r7)) (by simp [ej66_1, ej66_6, ej66_34]) (fun hb84 => ?_) (fun hb84 => ?_)
        · replace hF := cd_t hb84 hF
          refine DWp.seq ?_
          refine DWp.region fun K hK => ?_
          simp [-aBin', -aBin, -aBinI, -aUn, -aNil, -flatV, n_fn, b_add, b_sub, b_mul, b_lt, b_le, b_gt, b_ge, b_eq, b_ne, u_not, ej66_1, ej66_6, ej66_34]
          apply hK
          clear hK K
          simp only [andThen, leaves]
          refine DWp.ret ?_
          simp only [andThen, leaves]
          obtain rfl := Option.some.inj hF
          exact ⟨by simp, [(Value.bool false)], by simp [ej66_1, ej66_6, ej66_34], A81, rfl, S80.pick [] (by decide) rfl⟩
        · replace hF := cd_f hb84 hF
          refine DWp.skip ?_
          simp only [andThen, leaves]
          refine DWp.seq ?_
          refine DWp.region fun K hK => ?_
          simp [-aBin', -aBin, -aBinI, -aUn, -aNil, -flatV, n_fn, b_add, b_sub, b_mul, b_lt, b_le, b_gt, b_ge, b_eq, b_ne, u_not, ej66_1, ej66_6, ej66_34]
          apply hK
          clear hK K
          simp only [andThen, leaves]
          refine DWp.ret ?_
          obtain rfl := Option.some.inj hF
          exact ⟨by simp, [(Value.bool true)], by simp [ej66_1, ej66_6, ej66_34], A81, rfl, S80.pick [] (by decide) rfl⟩
/-! loop.example/g01126/spec.PiecesBack -/
def F_spec_PiecesBack (fu : Nat) (x0_0 : List Int) (x0_1 : List Int) : Option (List (List Int × List Int) × Bool) :=
  bd (
    bd (F_spec_mePair fu x0_0 x0_1) fun r1 =>
    bif (bnot r1) then
      some true
    else
      some (ieq (llen x0_0) 0)) fun s8 =>
  bif s8 then
    some ([], false)
  else
    bd (F_spec_siPieces fu x0_0 x0_1 true) fun r2 =>
    some (r2, true)
theorem F_spec_PiecesBack_w {fu : Nat} {H : AH} {v0_0 : Value} {v0_1 : Value} {x0_0 : List Int} {x0_1 : List Int} {r : (List (List Int × List Int) × Bool)} (hx0_0 : Sl H v0_0 (ints x0_0)) (hx0_1 : Sl H v0_1 (ints x0_1)) (hF : F_spec_PiecesBack fu x0_0 x0_1 = some r) :
    ACallT Try.prog 45 [(Value.agg #[v0_0, v0_1])] H (fun u G => AgB (Fr H) H G ∧ ∃ u0 : Value, ∃ C0 : List Value, u = (Value.tuple #[u0, (Value.bool r.2)]) ∧ Sep G (Fr H) [rowsP u0 28 3 C0 r.1]) := by
  refine ACallT.of_body (nt := 15) (rs := [.tmp 2, .tmp 3]) Try.func45 rfl rfl rfl rfl ?_
  have A0 : AgB (Fr H) H H := .refl _ _
  have S0 : Sep H (Fr H) [] := .nil
  have hB := Fr.up H
  unfold F_spec_PiecesBack at hF
  refine DWp.seq ?_
  obtain ⟨G2, p4, q5, q6, a7, S1⟩ := S0.boxT (hB.le A0.1) 28 [v0_0, v0_1]
  have A3 := A0.ext (hB.le A0.1) a7
  replace S1 : Sep G2 (Fr H) [AL.box p4 [v0_0, v0_1]] := S1
  refine DWp.region fun K hK => ?_
  simp [-aBin', -aBin, -aBinI, -aUn, -aNil, -flatV, n_fn, b_add, b_sub, b_mul, b_lt, b_le, b_gt, b_ge, b_eq, b_ne, u_not, q5, q6, a7.to_pre, cells_agg]
  apply hK
  clear hK K
  simp only [andThen, leaves]
  refine DWp.seq ?_
  obtain ⟨s8, hL9, hF⟩ := bd_some hF
  refine DWp.seq (DWp.join (fun env G => Sep G (Fr H) [AL.box p4 [v0_0, v0_1]] ∧ AgB (Fr H) H G ∧ env 1 = some p4 ∧ env 12 = some (Value.bool s8)) ?_ ?_)
  ·
    have q11 := S1.loadAgg (P := Try.prog) (k := 0) rfl sz_28 ag_28 rfl
    obtain ⟨r1, hc12, hL9⟩ := bd_some hL9
    refine DWp.region fun K hK => ?_
    simp [-aBin', -aBin, -aBinI, -aUn, -aNil, -flatV, n_fn, b_add, b_sub, b_mul, b_lt, b_le, b_gt, b_ge, b_eq, b_ne, u_not, q11, ((hx0_0.agree A3.agree).tup), ((hx0_1.agree A3.agree).tup)]
    refine CallD.t (F_spec_mePair_w (fu := fu) (hx0_0.agree A3.agree) (hx0_1.agree A3.agree) hc12) ?_
    rintro _ G14 ⟨a17, rfl, S18⟩
    have A16 := A3.ext (hB.le A3.1) a17.agree
    have S15 : Sep G14 (Fr H) [AL.box p4 [v0_0, v0_1]] := S1.app a17.agree S18 (fun _ h => h) (hB.le A3.1)
    rcases Bool.eq_false_or_eq_true (bnot r1) with hb19 | hb19
    · replace hL9 := cd_t hb19 hL9
      simp [-aBin', -aBin, -aBinI, -aUn, -aNil, -flatV, n_fn, b_add, b_sub, b_mul, b_lt, b_le, b_gt, b_ge, b_eq, b_ne, u_not, hb19, q11, a17.pre]
      apply hK
      clear hK K
      simp only [andThen, leaves]
      have S20 := S15.pick [0] (by decide) rfl
      obtain rfl := Option.some.inj hL9
      exact ⟨S20, A16, by simp [], by simp []⟩
    · replace hL9 := cd_f hb19 hL9
      have q21 := S15.fieldT (P := Try.prog) (k := 0) rfl fa_28_0
      have q22 := S15.loadF (P := Try.prog) (k := 0) rfl sz_22 ag_22 (off := 0) rfl
      have q23 := lenG (P := Try.prog) (hx0_0.agree A16.agree) el_22
      simp [-aBin', -aBin, -aBinI, -aUn, -aNil, -flatV, n_fn, b_add, b_sub, b_mul, b_lt, b_le, b_gt, b_ge, b_eq, b_ne, u_not, hb19, q11, a17.pre, q21, q22, q23]
      apply hK
      clear hK K
      simp only [andThen, leaves]
      have S24 := S15.pick [0] (by decide) rfl
      obtain rfl := Option.some.inj hL9
      exact ⟨S24, A16, by simp [], by simp []⟩
  · rintro env Gj25 ⟨Sj25, Aj25, ej25_1, ej25_12⟩
    refine DWp.cond' (t := s8) (by simp [ej25_1, ej25_12]) (fun hb26 => ?_) (fun hb26 => ?_)
    · replace hF := cd_t hb26 hF
      refine DWp.seq ?_
      refine DWp.region fun K hK => ?_
      simp [-aBin', -aBin, -aBinI, -aUn, -aNil, -flatV, n_fn, b_add, b_sub, b_mul, b_lt, b_le, b_gt, b_ge, b_eq, b_ne, u_not, ej25_1, ej25_12]
      apply hK
      clear hK K
      simp only [andThen, leaves]
      refine DWp.ret ?_
      simp only [andThen, leaves]
      have S27 := Sj25.rpNil (hB.le Aj25.1) 28 3
      obtain rfl := Option.some.inj hF
      exact ⟨by simp, [(Value.slice none 0 0), (Value.bool false)], by simp [ej25_1, ej25_12], Aj25, nilV, [], rfl, S27.pick [1] (by decide) rfl⟩
    · replace hF := cd_f hb26 hF
      refine DWp.skip ?_
      simp only [andThen, leaves]
      refine DWp.seq ?_
      have q28 := Sj25.loadAgg (P := Try.prog) (k := 0) rfl sz_28 ag_28 rfl
      obtain ⟨r2, hc29, hF⟩ := bd_some hF
      refine DWp.region fun K hK => ?_
      simp [-aBin', -aBin, -aBinI, -aUn, -aNil, -flatV, n_fn, b_add, b_sub, b_mul, b_lt, b_le, b_gt, b_ge, b_eq, b_ne, u_not, ej25_1, ej25_12, q28, ((hx0_0.agree Aj25.agree).tup), ((hx0_1.agree Aj25.agree).tup)]
      refine CallD.t (F_spec_siPieces_w (fu := fu) (hx0_0.agree Aj25.agree) (hx0_1.agree Aj25.agree) hc29) ?_
      rintro c30_u0 G31 ⟨a34, _, c30_C0, rfl, S35⟩
      have A33 := Aj25.ext (hB.le Aj25.1) a34.agree
      have S32 : Sep G31 (Fr H) [AL.box p4 [v0_0, v0_1], rowsP c30_u0 28 3 c30_C0 r2] := Sj25.app a34.agree S35 (fun _ h => h) (hB.le Aj25.1)
      simp [-aBin', -aBin, -aBinI, -aUn, -aNil, -flatV, n_fn, b_add, b_sub, b_mul, b_lt, b_le, b_gt, b_ge, b_eq, b_ne, u_not, ej25_1, ej25_12, q28, a34.pre]
      apply hK
      clear hK K
      simp only [andThen, leaves]
      refine DWp.ret ?_
      obtain rfl := Option.some.inj hF
      exact ⟨by simp, [c30_u0, (Value.bool true)], by simp [ej25_1, ej25_12, ((S32.rdP (k := 1) rfl).tup)], A33, c30_u0, c30_C0, rfl, S32.pick [1] (by decide) rfl⟩
/-! loop.example/g01126/impl.PiecesBack -/
def F_impl_PiecesBack (fu : Nat) (x0_0 : List Int) (x0_1 : List Int) : Option (List (List Int × List Int) × Bool) :=
  bd (F_impl_isCut fu x0_0 x0_1) fun r1 =>
  bif (bnot r1) then
    some ([], false)
  else
    bd (F_impl_Meander_pieces fu x0_0 x0_1 true) fun r2 =>
    some (r2, true)
theorem F_impl_PiecesBack_w {fu : Nat} {H : AH} {v0_0 : Value} {v0_1 : Value} {x0_0 : List Int} {x0_1 : List Int} {r : (List (List Int × List Int) × Bool)} (hx0_0 : Sl H v0_0 (ints x0_0)) (hx0_1 : Sl H v0_1 (ints x0_1)) (hF : F_impl_PiecesBack fu x0_0 x0_1 = some r) :
    ACallT Try.prog 46 [(Value.agg #[v0_0, v0_1])] H (fun u G => AgB (Fr H) H G ∧ ∃ u0 : Value, ∃ C0 : List Value, u = (Value.tuple #[u0, (Value.bool r.2)]) ∧ Sep G (Fr H) [rowsP u0 28 3 C0 r.1]) := by
  refine ACallT.of_body (nt := 9) (rs := [.tmp 2, .tmp 3]) Try.func46 rfl rfl rfl rfl ?_
  have A0 : AgB (Fr H) H H := .refl _ _
  have S0 : Sep H (Fr H) [] := .nil
  have hB := Fr.up H
  unfold F_impl_PiecesBack at hF
  refine DWp.seq ?_
  obtain ⟨G2, p4, q5, q6, a7, S1⟩ := S0.boxT (hB.le A0.1) 28 [v0_0, v0_1]
  have A3 := A0.ext (hB.le A0.1) a7
  replace S1 : Sep G2 (Fr H) [AL.box p4 [v0_0, v0_1]] := S1
  refine DWp.region fun K hK => ?_
  simp [-aBin', -aBin, -aBinI, -aUn, -aNil, -flatV, n_fn, b_add, b_sub, b_mul, b_lt, b_le, b_gt, b_ge, b_eq, b_ne, u_not, q5, q6, a7.to_pre, cells_agg]
  apply hK
  clear hK K
  simp only [andThen, leaves]
  refine DWp.seq ?_
  refine DWp.seq ?_
  have q8 := S1.loadAgg (P := Try.prog) (k := 0) rfl sz_28 ag_28 rfl
  obtain ⟨r1, hc9, hF⟩ := bd_some hF
  refine DWp.region fun K hK => ?_
  simp [-aBin', -aBin, -aBinI, -aUn, -aNil, -flatV, n_fn, b_add, b_sub, b_mul, b_lt, b_le, b_gt, b_ge, b_eq, b_ne, u_not, q8, ((hx0_0.agree A3.agree).tup), ((hx0_1.agree A3.agree).tup)]
  refine CallD.t (F_impl_isCut_w (fu := fu) (hx0_0.agree A3.agree) (hx0_1.agree A3.agree) hc9) ?_
  rintro _ G11 ⟨a14, rfl, S15⟩
  have A13 := A3.ext (hB.le A3.1) a14.agree
  have S12 : Sep G11 (Fr H) [AL.box p4 [v0_0, v0_1]] := S1.app a14.agree S15 (fun _ h => h) (hB.le A3.1)
  simp [-aBin', -aBin, -aBinI, -aUn, -aNil, -flatV, n_fn, b_add, b_sub, b_mul, b_lt, b_le, b_gt, b_ge, b_eq, b_ne, u_not, q8, a14.pre]
  apply hK
  clear hK K
  simp only [andThen, leaves]
  refine DWp.cond' (t := (bnot r1)) (by simp []) (fun hb16 => ?_) (fun hb16 => ?_)
  · replace hF := cd_t hb16 hF
    refine DWp.seq ?_
    refine DWp.region fun K hK => ?_
    simp [-aBin', -aBin, -aBinI, -aUn, -aNil, -flatV, n_fn, b_add, b_sub, b_mul, b_lt, b_le, b_gt, b_ge, b_eq, b_ne, u_not]
    apply hK
    clear hK K
    simp only [andThen, leaves]
    refine DWp.ret ?_
    simp only [andThen, leaves]
    have S17 := S12.rpNil (hB.le A13.1) 28 3
    obtain rfl := Option.some.inj hF
    exact ⟨by simp, [(Value.slice none 0 0), (Value.bool false)], by simp [], A13, nilV, [], rfl, S17.pick [1] (by decide) rfl⟩
  · replace hF := cd_f hb16 hF
    refine DWp.skip ?_
    simp only [andThen, leaves]
    refine DWp.seq ?_
    have q18 := S12.loadAgg (P := Try.prog) (k := 0) rfl sz_28 ag_28 rfl
    obtain ⟨r2, hc19, hF⟩ := bd_some hF
    refine DWp.region fun K hK => ?_
    simp [-aBin', -aBin, -aBinI, -aUn, -aNil, -flatV, n_fn, b_add, b_sub, b_mul, b_lt, b_le, b_gt, b_ge, b_eq, b_ne, u_not, q18, ((hx0_0.agree A13.agree).tup), ((hx0_1.agree A13.agree).tup)]
    refine CallD.t (F_impl_Meander_pieces_w (fu := fu) (hx0_0.agree A13.agree) (hx0_1.agree A13.agree) hc19) ?_
    rintro c20_u0 G21 ⟨a24, _, c20_C0, rfl, S25⟩
    have A23 := A13.ext (hB.le A13.1) a24.agree
    have S22 : Sep G21 (Fr H) [AL.box p4 [v0_0, v0_1], rowsP c20_u0 28 3 c20_C0 r2] := S12.app a24.agree S25 (fun _ h => h) (hB.le A13.1)
    simp [-aBin', -aBin, -aBinI, -aUn, -aNil, -flatV, n_fn, b_add, b_sub, b_mul, b_lt, b_le, b_gt, b_ge, b_eq, b_ne, u_not, q18, a24.pre]
    apply hK
    clear hK K
    simp only [andThen, leaves]
    refine DWp.ret ?_
    obtain rfl := Option.some.inj hF
    exact ⟨by simp, [c20_u0, (Value.bool true)], by simp [((S22.rdP (k := 1) rfl).tup)], A23, c20_u0, c20_C0, rfl, S22.pick [1] (by decide) rfl⟩
/-! loop.example/g01126/laws.eqMeanderS -/
def F_laws_eqMeanderS_L1 (fu : Nat) (k1_0 : List (List Int × List Int)) (k1_1 : List (List Int × List Int)) : Nat → Int → Option (LR (Bool) (Int))
  | 0, _ => none
  | n + 1, y1_5 =>
    bif (ilt y1_5 (llen k1_0)) then
      gd (inL k1_0 y1_5) (
      gd (inL k1_1 y1_5) (
      bd (F_laws_eqMeander fu ((gat pnil k1_0 y1_5).1) ((gat pnil k1_0 y1_5).2) ((gat pnil k1_1 y1_5).1) ((gat pnil k1_1 y1_5).2)) fun r1 =>
      bif (bnot r1) then
        some (.ret false)
      else
        F_laws_eqMeanderS_L1 fu k1_0 k1_1 n (iadd .i64 y1_5 1)))
    else
      some (.brk y1_5)
def F_laws_eqMeanderS (fu : Nat) (x0 : List (List Int × List Int)) (x1 : List (List Int × List Int)) : Option (Bool) :=
  bif (ine (llen x0) (llen x1)) then
    some false
  else
    bd (F_laws_eqMeanderS_L1 fu x0 x1 fu 0) fun s1 =>
    lr s1 fun s1 =>
    some true
theorem F_laws_eqMeanderS_w {fu : Nat} {H : AH} {v0 : Value} {v1 : Value} {x0 : List (List Int × List Int)} {x1 : List (List Int × List Int)} {r : (Bool)} (hx0 : ∃ C, RdP H v0 C x0) (hx1 : ∃ C, RdP H v1 C x1) (hF : F_laws_eqMeanderS fu x0 x1 = some r) :
    ACallT Try.prog 47 [v0, v1] H (fun u G => AgB (Fr H) H G ∧ u = (Value.bool r) ∧ Sep G (Fr H) []) := by
  refine ACallT.of_body (nt := 27) (rs := [.tmp 4]) Try.func47 rfl rfl rfl rfl ?_
  have A0 : AgB (Fr H) H H := .refl _ _
  have S0 : Sep H (Fr H) [] := .nil
  have hB := Fr.up H
  unfold F_laws_eqMeanderS at hF
  obtain ⟨C0, hC0⟩ := hx0
  obtain ⟨C1, hC1⟩ := hx1
  refine DWp.seq ?_
  refine DWp.region fun K hK => ?_
  simp [-aBin', -aBin, -aBinI, -aUn, -aNil, -flatV, n_fn, b_add, b_sub, b_mul, b_lt, b_le, b_gt, b_ge, b_eq, b_ne, u_not]
  apply hK
  clear hK K
  simp only [andThen, leaves]
  refine DWp.seq ?_
  refine DWp.seq ?_
  have q1 := (hC0.agree A0.agree).lenG (P := Try.prog) el_46
  have q2 := (hC1.agree A0.agree).lenG (P := Try.prog) el_46
  refine DWp.region fun K hK => ?_
  simp [-aBin', -aBin, -aBinI, -aUn, -aNil, -flatV, n_fn, b_add, b_sub, b_mul, b_lt, b_le, b_gt, b_ge, b_eq, b_ne, u_not, q1, q2]
  apply hK
  clear hK K
  simp only [andThen, leaves]
  refine DWp.cond' (t := (ine (llen x0) (llen x1))) (by simp []) (fun hb3 => ?_) (fun hb3 => ?_)
  · replace hF := cd_t hb3 hF
    refine DWp.seq ?_
    refine DWp.region fun K hK => ?_
    simp [-aBin', -aBin, -aBinI, -aUn, -aNil, -flatV, n_fn, b_add, b_sub, b_mul, b_lt, b_le, b_gt, b_ge, b_eq, b_ne, u_not]
    apply hK
    clear hK K
    simp only [andThen, leaves]
    refine DWp.ret ?_
    simp only [andThen, leaves]
    obtain rfl := Option.some.inj hF
    exact ⟨by simp, [(Value.bool false)], by simp [], A0, rfl, S0.pick [] (by decide) rfl⟩
  · replace hF := cd_f hb3 hF
    refine DWp.skip ?_
    simp only [andThen, leaves]
    refine DWp.seq ?_
    refine DWp.seq ?_
    refine DWp.region fun K hK => ?_
    simp [-aBin', -aBin, -aBinI, -aUn, -aNil, -flatV, n_fn, b_add, b_sub, b_mul, b_lt, b_le, b_gt, b_ge, b_eq, b_ne, u_not]
    apply hK
    clear hK K
    simp only [andThen, leaves]
    refine DWp.block ?_
    obtain ⟨s4, hL5, hF⟩ := bd_some hF
    have S6 := S0.pick [] (by decide) rfl
    refine DWp.loop (fun n env G => ∃ y1_5 : Int, F_laws_eqMeanderS_L1 fu x0 x1 n y1_5 = some s4 ∧ Sep G (Fr H) [] ∧ AgB (Fr H) H G ∧ env 0 = some v0 ∧ env 1 = some v1 ∧ env 5 = some (Value.int .i64 y1_5)) fu ⟨0, hL5, S6, A0, by simp [], by simp [], by simp []⟩ ?_
    rintro n1 env1 G1_ ⟨y1_5, hL5, S1_, A1_, e1_0, e1_1, e1_5⟩
    cases n1 with
    | zero => cases hL5
    | succ n1 =>
      simp only [F_laws_eqMeanderS_L1] at hL5
      refine DWp.seq ?_
      refine DWp.seq ?_
      have q7 := (hC0.agree A1_.agree).lenG (P := Try.prog) el_46
      refine DWp.region fun K hK => ?_
      simp [-aBin', -aBin, -aBinI, -aUn, -aNil, -flatV, n_fn, b_add, b_sub, b_mul, b_lt, b_le, b_gt, b_ge, b_eq, b_ne, u_not, e1_0, e1_1, e1_5, q7]
      apply hK
      clear hK K
      simp only [andThen, leaves]
      refine DWp.cond' (t := (ilt y1_5 (llen x0))) (by simp [e1_0, e1_1, e1_5]) (fun hb8 => ?_) (fun hb8 => ?_)
      · replace hL5 := cd_t hb8 hL5
        refine DWp.skip ?_
        simp only [andThen, leaves]
        refine DWp.seq ?_
        refine DWp.block ?_
        refine DWp.seq ?_
        obtain ⟨g9, hL5⟩ := gd_some hL5
        have q10 := (hC0.agree A1_.agree).idxG (P := Try.prog) (kk := .i64) el_46 sz_28 g9
        have q11 := (hC0.agree A1_.agree).loadG (P := Try.prog) sz_28 ag_28 g9
        obtain ⟨g12, hL5⟩ := gd_some hL5
        have q13 := (hC1.agree A1_.agree).idxG (P := Try.prog) (kk := .i64) el_46 sz_28 g12
        have q14 := (hC1.agree A1_.agree).loadG (P := Try.prog) sz_28 ag_28 g12
        obtain ⟨r1, hc15, hL5⟩ := bd_some hL5
        refine DWp.drawn (B := [0, 0, 3, 7, 0, 0, 48, 112, 255, 511]) 10 mixed (by kernel_rfl) (by decide) fun K hK => ?_
        simp [-aBin', -aBin, -aBinI, -aUn, -aNil, -flatV, n_fn, b_add, b_sub, b_mul, b_lt, b_le, b_gt, b_ge, b_eq, b_ne, u_not, e1_0, e1_1, e1_5, q10, q11, q13, q14, (((hC0.agree A1_.agree).row0 g9).tup), (((hC0.agree A1_.agree).row1 g9).tup), (((hC1.agree A1_.agree).row0 g12).tup), (((hC1.agree A1_.agree).row1 g12).tup)]
        refine CallD.t (F_laws_eqMeander_w (fu := fu) ((hC0.agree A1_.agree).row0 g9) ((hC0.agree A1_.agree).row1 g9) ((hC1.agree A1_.agree).row0 g12) ((hC1.agree A1_.agree).row1 g12) hc15) ?_
        rintro _ G17 ⟨a20, rfl, S21⟩
        have A19 := A1_.ext (hB.le A1_.1) a20.agree
        have S18 : Sep G17 (Fr H) [] := S1_.app a20.agree S21 (fun _ h => h) (hB.le A1_.1)
        simp [-aBin', -aBin, -aBinI, -aUn, -aNil, -flatV, n_fn, b_add, b_sub, b_mul, b_lt, b_le, b_gt, b_ge, b_eq, b_ne, u_not, e1_0, e1_1, e1_5, q10, q11, q13, q14, a20.pre]
        apply hK
        clear hK K
        simp only [andThen, leaves]
        refine DWp.cond' (t := (bnot r1)) (by simp [e1_0, e1_1, e1_5]) (fun hb22 => ?_) (fun hb22 => ?_)
        · replace hL5 := cd_t hb22 hL5
          refine DWp.seq ?_
          refine DWp.region fun K hK => ?_
          simp [-aBin', -aBin, -aBinI, -aUn, -aNil, -flatV, n_fn, b_add, b_sub, b_mul, b_lt, b_le, b_gt, b_ge, b_eq, b_ne, u_not, e1_0, e1_1, e1_5]
          apply hK
          clear hK K
          simp only [andThen, leaves]
          refine DWp.ret ?_
          simp only [andThen, leaves]
          obtain rfl := Option.some.inj hL5
          simp only [lr] at hF
          obtain rfl := Option.some.inj hF
          exact ⟨by simp, [(Value.bool false)], by simp [e1_0, e1_1, e1_5], A19, rfl, S18.pick [] (by decide) rfl⟩
        · replace hL5 := cd_f hb22 hL5
          refine DWp.skip ?_
          simp only [andThen, leaves]
          refine DWp.region fun K hK => ?_
          simp [-aBin', -aBin, -aBinI, -aUn, -aNil, -flatV, n_fn, b_add, b_sub, b_mul, b_lt, b_le, b_gt, b_ge, b_eq, b_ne, u_not, e1_0, e1_1, e1_5]
          apply hK
          clear hK K
          simp only [andThen, leaves]
          have S23 := S18.pick [] (by decide) rfl
          exact ⟨n1, Nat.lt_succ_self _, (iadd .i64 y1_5 1), hL5, S23, A19, by simp [e1_0, e1_1, e1_5], by simp [e1_0, e1_1, e1_5], by simp [e1_0, e1_1, e1_5]⟩
      · replace hL5 := cd_f hb8 hL5
        refine DWp.exit ?_
        simp only [andThen, leaves, if_true, if_false, reduceIte, Nat.reduceEqDiff]
        obtain rfl := Option.some.inj hL5
        simp only [lr] at hF
        refine DWp.seq ?_
        refine DWp.region fun K hK => ?_
        simp [-aBin', -aBin, -aBinI, -aUn, -aNil, -flatV, n_fn, b_add, b_sub, b_mul, b_lt, b_le, b_gt, b_ge, b_eq, b_ne, u_not, e1_0, e1_1, e1_5]
        apply hK
        clear hK K
        simp only [andThen, leaves]
        refine DWp.ret ?_
        obtain rfl := Option.some.inj hF
        exact ⟨by simp, [(Value.bool true)], by simp [e1_0, e1_1, e1_5], A1_, rfl, S1_.pick [] (by decide) rfl⟩
/-! loop.example/g01126/laws.markIntS -/
def F_laws_markIntS_L1 (fu : Nat)  : Nat → List Int → Int → Int → Option (List Int × Int × Int)
  | 0, _, _, _ => none
  | n + 1, l1_0, y1_1, y1_5 =>
    bif (ilt y1_5 (llen l1_0)) then
      gd (inL l1_0 y1_5) (
      F_laws_markIntS_L1 fu n (lset l1_0 y1_5 y1_1) (iadd .i64 y1_1 1) (iadd .i64 y1_5 1))
    else
      some (l1_0, y1_1, y1_5)
def F_laws_markIntS (fu : Nat) (x0 : List Int) (x1 : Int) : Option (Int × List Int) :=
  bd (F_laws_markIntS_L1 fu fu x0 x1 0) fun s1 =>
  some (s1.2.1, s1.1)
theorem F_laws_markIntS_w {fu : Nat} {H : AH} {B : Nat → Prop} {v0 : Value} {x0 : List Int} {x1 : Int} {r : (Int × List Int)} (hB : Up B H.length) (S0 : Sep H B [flat v0 3 (ints x0)]) (hF : F_laws_markIntS fu x0 x1 = some r) :
    ACallT Try.prog 61 [v0, (Value.int .i64 x1)] H (fun u G => AgB B H G ∧ u = (Value.int .i64 r.1) ∧ Sep G B [flat v0 3 (ints r.2)]) := by
  refine ACallT.of_body (nt := 19) (rs := [.tmp 4]) Try.func61 rfl rfl rfl rfl ?_
  have A0 : AgB B H H := .refl _ _
  unfold F_laws_markIntS at hF
  refine DWp.seq ?_
  refine DWp.region fun K hK => ?_
  simp [-aBin', -aBin, -aBinI, -aUn, -aNil, -flatV, n_fn, b_add, b_sub, b_mul, b_lt, b_le, b_gt, b_ge, b_eq, b_ne, u_not]
  apply hK
  clear hK K
  simp only [andThen, leaves]
  refine DWp.seq ?_
  refine DWp.seq ?_
  refine DWp.region fun K hK => ?_
  simp [-aBin', -aBin, -aBinI, -aUn, -aNil, -flatV, n_fn, b_add, b_sub, b_mul, b_lt, b_le, b_gt, b_ge, b_eq, b_ne, u_not]
  apply hK
  clear hK K
  simp only [andThen, leaves]
  refine DWp.block ?_
  obtain ⟨s1, hL2, hF⟩ := bd_some hF
  have S3 := S0.pick [0] (by decide) rfl
  refine DWp.loop (fun n env G => ∃ l1_0 : List Int, ∃ y1_1 : Int, ∃ y1_5 : Int, F_laws_markIntS_L1 fu n l1_0 y1_1 y1_5 = some s1 ∧ Sep G B [flat v0 3 (ints l1_0)] ∧ AgB B H G ∧ env 0 = some v0 ∧ env 1 = some (Value.int .i64 y1_1) ∧ env 5 = some (Value.int .i64 y1_5)) fu ⟨x0, x1, 0, hL2, S3, A0, by simp [], by simp [], by simp []⟩ ?_
  rintro n1 env1 G1_ ⟨l1_0, y1_1, y1_5, hL2, S1_, A1_, e1_0, e1_1, e1_5⟩
  cases n1 with
  | zero => cases hL2
  | succ n1 =>
    simp only [F_laws_markIntS_L1] at hL2
    refine DWp.seq ?_
    refine DWp.seq ?_
    have q4 := lenG (P := Try.prog) (S1_.sl (k := 0) rfl) el_22
    refine DWp.region fun K hK => ?_
    simp [-aBin', -aBin, -aBinI, -aUn, -aNil, -flatV, n_fn, b_add, b_sub, b_mul, b_lt, b_le, b_gt, b_ge, b_eq, b_ne, u_not, e1_0, e1_1, e1_5, q4]
    apply hK
    clear hK K
    simp only [andThen, leaves]
    refine DWp.cond' (t := (ilt y1_5 (llen l1_0))) (by simp [e1_0, e1_1, e1_5]) (fun hb5 => ?_) (fun hb5 => ?_)
    · replace hL2 := cd_t hb5 hL2
      refine DWp.skip ?_
      simp only [andThen, leaves]
      refine DWp.seq ?_
      refine DWp.block ?_
      refine DWp.seq ?_
      obtain ⟨g6, hL2⟩ := gd_some hL2
      have q7 := idxG (P := Try.prog) (kk := .i64) (S1_.sl (k := 0) rfl) el_22 sz_3 g6
      obtain ⟨G8, q9, S10, a12⟩ := S1_.storeG (f := (Value.int .i64)) (P := Try.prog) (k := 0) (x := y1_1) rfl (hB.le A1_.1) sz_3 g6 rfl rfl
      have A11 := A1_.trans a12
      replace S10 : Sep G8 B [flat v0 3 (ints (lset l1_0 y1_5 y1_1))] := S10
      refine DWp.region fun K hK => ?_
      simp [-aBin', -aBin, -aBinI, -aUn, -aNil, -flatV, n_fn, b_add, b_sub, b_mul, b_lt, b_le, b_gt, b_ge, b_eq, b_ne, u_not, e1_0, e1_1, e1_5, q7, q9]
      apply hK
      clear hK K
      simp only [andThen, leaves]
      refine DWp.region fun K hK => ?_
      simp [-aBin', -aBin, -aBinI, -aUn, -aNil, -flatV, n_fn, b_add, b_sub, b_mul, b_lt, b_le, b_gt, b_ge, b_eq, b_ne, u_not, e1_0, e1_1, e1_5]
      apply hK
      clear hK K
      simp only [andThen, leaves]
      refine DWp.region fun K hK => ?_
      simp [-aBin', -aBin, -aBinI, -aUn, -aNil, -flatV, n_fn, b_add, b_sub, b_mul, b_lt, b_le, b_gt, b_ge, b_eq, b_ne, u_not, e1_0, e1_1, e1_5]
      apply hK
      clear hK K
      simp only [andThen, leaves]
      have S13 := S10.pick [0] (by decide) rfl
      exact ⟨n1, Nat.lt_succ_self _, (lset l1_0 y1_5 y1_1), (iadd .i64 y1_1 1), (iadd .i64 y1_5 1), hL2, S13, A11, by simp [e1_0, e1_1, e1_5], by simp [e1_0, e1_1, e1_5], by simp [e1_0, e1_1, e1_5]⟩
    · replace hL2 := cd_f hb5 hL2
      refine DWp.exit ?_
      simp only [andThen, leaves, if_true, if_false, reduceIte, Nat.reduceEqDiff]
      obtain rfl := Option.some.inj hL2
      try dsimp only at hF
      refine DWp.seq ?_
      refine DWp.region fun K hK => ?_
      simp [-aBin', -aBin, -aBinI, -aUn, -aNil, -flatV, n_fn, b_add, b_sub, b_mul, b_lt, b_le, b_gt, b_ge, b_eq, b_ne, u_not, e1_0, e1_1, e1_5]
      apply hK
      clear hK K
      simp only [andThen, leaves]
      refine DWp.ret ?_
      obtain rfl := Option.some.inj hF
      exact ⟨by simp, [(Value.int .i64 y1_1)], by simp [e1_0, e1_1, e1_5], A1_, rfl, S1_.pick [0] (by decide) rfl⟩
/-! loop.example/g01126/laws.markMeander -/
def F_laws_markMeander (fu : Nat) (x0_0 : List Int) (x0_1 : List Int) (x1 : Int) : Option (Int × List Int × List Int) :=
  bd (F_laws_markIntS fu x0_0 x1) fun r1 =>
  bd (F_laws_markIntS fu x0_1 r1.1) fun r2 =>
  some (r2.1, r1.2, r2.2)
theorem F_laws_markMeander_w {fu : Nat} {H : AH} {B : Nat → Prop} {v0_0 : Value} {v0_1 : Value} {x0_0 : List Int} {x0_1 : List Int} {x1 : Int} {r : (Int × List Int × List Int)} (hB : Up B H.length) (S0 : Sep H B [flat v0_0 3 (ints x0_0), flat v0_1 3 (ints x0_1)]) (hF : F_laws_markMeander fu x0_0 x0_1 x1 = some r) :
    ACallT Try.prog 33 [(Value.agg #[v0_0, v0_1]), (Value.int .i64 x1)] H (fun u G => AgB B H G ∧ u = (Value.int .i64 r.1) ∧ Sep G B [flat v0_0 3 (ints r.2.1), flat v0_1 3 (ints r.2.2)]) := by
  refine ACallT.of_body (nt := 14) (rs := [.tmp 4]) Try.func33 rfl rfl rfl rfl ?_
  have A0 : AgB B H H := .refl _ _
  unfold F_laws_markMeander at hF
  refine DWp.seq ?_
  obtain ⟨G2, p4, q5, q6, a7, S1⟩ := S0.boxT (hB.le A0.1) 28 [v0_0, v0_1]
  have A3 := A0.ext (hB.le A0.1) a7
  replace S1 : Sep G2 B [flat v0_0 3 (ints x0_0), flat v0_1 3 (ints x0_1), AL.box p4 [v0_0, v0_1]] := S1
  refine DWp.region fun K hK => ?_
  simp [-aBin', -aBin, -aBinI, -aUn, -aNil, -flatV, n_fn, b_add, b_sub, b_mul, b_lt, b_le, b_gt, b_ge, b_eq, b_ne, u_not, q5, q6, a7.to_pre, cells_agg]
  apply hK
  clear hK K
  simp only [andThen, leaves]
  refine DWp.seq ?_
  have q8 := S1.fieldT (P := Try.prog) (k := 2) rfl fa_28_0
  have q9 := S1.loadF (P := Try.prog) (k := 2) rfl sz_22 ag_22 (off := 0) rfl
  obtain ⟨r1, hc10, hF⟩ := bd_some hF
  refine DWp.region fun K hK => ?_
  simp [-aBin', -aBin, -aBinI, -aUn, -aNil, -flatV, n_fn, b_add, b_sub, b_mul, b_lt, b_le, b_gt, b_ge, b_eq, b_ne, u_not, q8, q9, ((S1.sl (k := 0) rfl).tup)]
  have S11 : Sep G2 B ([flat v0_0 3 (ints x0_0)] ++ [flat v0_1 3 (ints x0_1), AL.box p4 [v0_0, v0_1]]) := S1.pick [0, 1, 2] (by decide) rfl
  obtain ⟨B17, S12, U13, M14, R15, C16⟩ := S11.frame (hB.le A3.1)
  refine CallD.t (F_laws_markIntS_w (fu := fu) U13 S12 hc10) ?_
  rintro _ G19 ⟨a22, rfl, S23⟩
  have A21 := A3.trans (a22.mono M14)
  have S20 : Sep G19 B [flat v0_0 3 (ints r1.2), flat v0_1 3 (ints x0_1), AL.box p4 [v0_0, v0_1]] := C16 _ _ a22 S23
  simp [-aBin', -aBin, -aBinI, -aUn, -aNil, -flatV, n_fn, b_add, b_sub, b_mul, b_lt, b_le, b_gt, b_ge, b_eq, b_ne, u_not, q8, q9]
  apply hK
  clear hK K
  simp only [andThen, leaves]
  refine DWp.seq ?_
  have q24 := S20.fieldT (P := Try.prog) (k := 2) rfl fa_28_1
  have q25 := S20.loadF (P := Try.prog) (k := 2) rfl sz_22 ag_22 (off := 1) rfl
  obtain ⟨r2, hc26, hF⟩ := bd_some hF
  refine DWp.region fun K hK => ?_
  simp [-aBin', -aBin, -aBinI, -aUn, -aNil, -flatV, n_fn, b_add, b_sub, b_mul, b_lt, b_le, b_gt, b_ge, b_eq, b_ne, u_not, q24, q25, ((S20.sl (k := 1) rfl).tup)]
  have S27 : Sep G19 B ([flat v0_1 3 (ints x0_1)] ++ [flat v0_0 3 (ints r1.2), AL.box p4 [v0_0, v0_1]]) := S20.pick [1, 0, 2] (by decide) rfl
  obtain ⟨B33, S28, U29, M30, R31, C32⟩ := S27.frame (hB.le A21.1)
  refine CallD.t (F_laws_markIntS_w (fu := fu) U29 S28 hc26) ?_
  rintro _ G35 ⟨a38, rfl, S39⟩
  have A37 := A21.trans (a38.mono M30)
  have S36 : Sep G35 B [flat v0_1 3 (ints r2.2), flat v0_0 3 (ints r1.2), AL.box p4 [v0_0, v0_1]] := C32 _ _ a38 S39
  simp [-aBin', -aBin, -aBinI, -aUn, -aNil, -flatV, n_fn, b_add, b_sub, b_mul, b_lt, b_le, b_gt, b_ge, b_eq, b_ne, u_not, q24, q25]
  apply hK
  clear hK K
  simp only [andThen, leaves]
  refine DWp.seq ?_
  refine DWp.region fun K hK => ?_
  simp [-aBin', -aBin, -aBinI, -aUn, -aNil, -flatV, n_fn, b_add, b_sub, b_mul, b_lt, b_le, b_gt, b_ge, b_eq, b_ne, u_not]
  apply hK
  clear hK K
  simp only [andThen, leaves]
  refine DWp.ret ?_
  obtain rfl := Option.some.inj hF
  exact ⟨by simp, [(Value.int .i64 r2.1)], by simp [], A37, rfl, S36.pick [1, 0] (by decide) rfl⟩
/-! loop.example/g01126/laws.markMeanderS -/
def F_laws_markMeanderS_L1 (fu : Nat)  : Nat → List (List Int × List Int) → Int → Int → Option (List (List Int × List Int) × Int × Int)
  | 0, _, _, _ => none
  | n + 1, l1_0, y1_1, y1_5 =>
    bif (ilt y1_5 (llen l1_0)) then
      gd (inL l1_0 y1_5) (
      bd (F_laws_markIntS fu ((gat pnil l1_0 y1_5).1) y1_1) fun r1 =>
      gd (inL (lset l1_0 y1_5 (r1.2, (gat pnil l1_0 y1_5).2)) y1_5) (
      bd (F_laws_markIntS fu ((gat pnil (lset l1_0 y1_5 (r1.2, (gat pnil l1_0 y1_5).2)) y1_5).2) r1.1) fun r2 =>
      F_laws_markMeanderS_L1 fu n (lset (lset l1_0 y1_5 (r1.2, (gat pnil l1_0 y1_5).2)) y1_5 ((gat pnil (lset l1_0 y1_5 (r1.2, (gat pnil l1_0 y1_5).2)) y1_5).1, r2.2)) r2.1 (iadd .i64 y1_5 1)))
    else
      some (l1_0, y1_1, y1_5)
def F_laws_markMeanderS (fu : Nat) (x0 : List (List Int × List Int)) (x1 : Int) : Option (Int × List (List Int × List Int)) :=
  bd (F_laws_markMeanderS_L1 fu fu x0 x1 0) fun s1 =>
  some (s1.2.1, s1.1)
theorem F_laws_markMeanderS_w {fu : Nat} {H : AH} {B : Nat → Prop} {v0 : Value} {C0 : List Value} {x0 : List (List Int × List Int)} {x1 : Int} {r : (Int × List (List Int × List Int))} (hB : Up B H.length) (S0 : Sep H B [rowsP v0 28 3 C0 x0]) (hF : F_laws_markMeanderS fu x0 x1 = some r) :
    ACallT Try.prog 48 [v0, (Value.int .i64 x1)] H (fun u G => AgB B H G ∧ u = (Value.int .i64 r.1) ∧ Sep G B [rowsP v0 28 3 C0 r.2]) := by
  refine ACallT.of_body (nt := 27) (rs := [.tmp 4]) Try.func48 rfl rfl rfl rfl ?_
  have A0 : AgB B H H := .refl _ _
  unfold F_laws_markMeanderS at hF
  refine DWp.seq ?_
  refine DWp.region fun K hK => ?_
  simp [-aBin', -aBin, -aBinI, -aUn, -aNil, -flatV, n_fn, b_add, b_sub, b_mul, b_lt, b_le, b_gt, b_ge, b_eq, b_ne, u_not]
  apply hK
  clear hK K
  simp only [andThen, leaves]
  refine DWp.seq ?_
  refine DWp.seq ?_
  refine DWp.region fun K hK => ?_
  simp [-aBin', -aBin, -aBinI, -aUn, -aNil, -flatV, n_fn, b_add, b_sub, b_mul, b_lt, b_le, b_gt, b_ge, b_eq, b_ne, u_not]
  apply hK
  clear hK K
  simp only [andThen, leaves]
  refine DWp.block ?_
  obtain ⟨s1, hL2, hF⟩ := bd_some hF
  have S3 := S0.pick [0] (by decide) rfl
  refine DWp.loop (fun n env G => ∃ l1_0 : List (List Int × List Int), ∃ y1_1 : Int, ∃ y1_5 : Int, F_laws_markMeanderS_L1 fu n l1_0 y1_1 y1_5 = some s1 ∧ Sep G B [rowsP v0 28 3 C0 l1_0] ∧ AgB B H G ∧ env 0 = some v0 ∧ env 1 = some (Value.int .i64 y1_1) ∧ env 5 = some (Value.int .i64 y1_5)) fu ⟨x0, x1, 0, hL2, S3, A0, by simp [], by simp [], by simp []⟩ ?_
  rintro n1 env1 G1_ ⟨l1_0, y1_1, y1_5, hL2, S1_, A1_, e1_0, e1_1, e1_5⟩
  cases n1 with
  | zero => cases hL2
  | succ n1 =>
    simp only [F_laws_markMeanderS_L1] at hL2
    refine DWp.seq ?_
    refine DWp.seq ?_
    have q4 := (S1_.rdP (k := 0) rfl).lenG (P := Try.prog) el_46
    refine DWp.region fun K hK => ?_
    simp [-aBin', -aBin, -aBinI, -aUn, -aNil, -flatV, n_fn, b_add, b_sub, b_mul, b_lt, b_le, b_gt, b_ge, b_eq, b_ne, u_not, e1_0, e1_1, e1_5, q4]
    apply hK
    clear hK K
    simp only [andThen, leaves]
    refine DWp.cond' (t := (ilt y1_5 (llen l1_0))) (by simp [e1_0, e1_1, e1_5]) (fun hb5 => ?_) (fun hb5 => ?_)
    · replace hL2 := cd_t hb5 hL2
      refine DWp.skip ?_
      simp only [andThen, leaves]
      refine DWp.seq ?_
      refine DWp.block ?_
      refine DWp.seq ?_
      obtain ⟨g6, hL2⟩ := gd_some hL2
      have q7 := (S1_.rdP (k := 0) rfl).idxG (P := Try.prog) (kk := .i64) el_46 sz_28 g6
      have q8 := (S1_.rdP (k := 0) rfl).fldG0 (P := Try.prog) fa_28_0 g6
      have q9 := (S1_.rdP (k := 0) rfl).cellG0 (P := Try.prog) sz_22 ag_22 g6
      have S10 : Sep G1_ B [rowsPX v0 28 3 C0 l1_0 ((y1_5).toNat * 2 + 0), flat (pc C0 y1_5 0) 3 (ints (gat pnil l1_0 y1_5).1)] := S1_.rowOutP0 (k := 0) rfl g6
      obtain ⟨r1, hc11, hL2⟩ := bd_some hL2
      refine DWp.region fun K hK => ?_
      simp [-aBin', -aBin, -aBinI, -aUn, -aNil, -flatV, n_fn, b_add, b_sub, b_mul, b_lt, b_le, b_gt, b_ge, b_eq, b_ne, u_not, e1_0, e1_1, e1_5, q7, q8, q9, (((S1_.rdP (k := 0) rfl).row0 g6).tup)]
      have S12 : Sep G1_ B ([flat (pc C0 y1_5 0) 3 (ints (gat pnil l1_0 y1_5).1)] ++ [rowsPX v0 28 3 C0 l1_0 ((y1_5).toNat * 2 + 0)]) := S10.pick [1, 0] (by decide) rfl
      obtain ⟨B18, S13, U14, M15, R16, C17⟩ := S12.frame (hB.le A1_.1)
      refine CallD.t (F_laws_markIntS_w (fu := fu) U14 S13 hc11) ?_
      rintro _ G20 ⟨a23, rfl, S24⟩
      have A22 := A1_.trans (a23.mono M15)
      have S21 : Sep G20 B [flat (pc C0 y1_5 0) 3 (ints r1.2), rowsPX v0 28 3 C0 l1_0 ((y1_5).toNat * 2 + 0)] := C17 _ _ a23 S24
      have S25 : Sep G20 B [emp, rowsP v0 28 3 C0 (lset l1_0 y1_5 (r1.2, (gat pnil l1_0 y1_5).2))] := S21.rowInP0 (j := 1) (k := 0) (by decide) rfl rfl g6
      simp [-aBin', -aBin, -aBinI, -aUn, -aNil, -flatV, n_fn, b_add, b_sub, b_mul, b_lt, b_le, b_gt, b_ge, b_eq, b_ne, u_not, e1_0, e1_1, e1_5, q7, q8, q9]
      apply hK
      clear hK K
      simp only [andThen, leaves]
      obtain ⟨g26, hL2⟩ := gd_some hL2
      have q27 := (S25.rdP (k := 1) rfl).idxG (P := Try.prog) (kk := .i64) el_46 sz_28 g26
      have q28 := (S25.rdP (k := 1) rfl).fldG1 (P := Try.prog) fa_28_1 g26
      have q29 := (S25.rdP (k := 1) rfl).cellG1 (P := Try.prog) sz_22 ag_22 g26
      have S30 : Sep G20 B [emp, rowsPX v0 28 3 C0 (lset l1_0 y1_5 (r1.2, (gat pnil l1_0 y1_5).2)) ((y1_5).toNat * 2 + 1), flat (pc C0 y1_5 1) 3 (ints (gat pnil (lset l1_0 y1_5 (r1.2, (gat pnil l1_0 y1_5).2)) y1_5).2)] := S25.rowOutP1 (k := 1) rfl g26
      obtain ⟨r2, hc31, hL2⟩ := bd_some hL2
      refine DWp.region fun K hK => ?_
      simp [-aBin', -aBin, -aBinI, -aUn, -aNil, -flatV, n_fn, b_add, b_sub, b_mul, b_lt, b_le, b_gt, b_ge, b_eq, b_ne, u_not, e1_0, e1_1, e1_5, q27, q28, q29, (((S25.rdP (k := 1) rfl).row1 g26).tup)]
      have S32 : Sep G20 B ([flat (pc C0 y1_5 1) 3 (ints (gat pnil (lset l1_0 y1_5 (r1.2, (gat pnil l1_0 y1_5).2)) y1_5).2)] ++ [rowsPX v0 28 3 C0 (lset l1_0 y1_5 (r1.2, (gat pnil l1_0 y1_5).2)) ((y1_5).toNat * 2 + 1)]) := S30.pick [2, 1] (by decide) rfl
      obtain ⟨B38, S33, U34, M35, R36, C37⟩ := S32.frame (hB.le A22.1)
      refine CallD.t (F_laws_markIntS_w (fu := fu) U34 S33 hc31) ?_
      rintro _ G40 ⟨a43, rfl, S44⟩
      have A42 := A22.trans (a43.mono M35)
      have S41 : Sep G40 B [flat (pc C0 y1_5 1) 3 (ints r2.2), rowsPX v0 28 3 C0 (lset l1_0 y1_5 (r1.2, (gat pnil l1_0 y1_5).2)) ((y1_5).toNat * 2 + 1)] := C37 _ _ a43 S44
      have S45 : Sep G40 B [emp, rowsP v0 28 3 C0 (lset (lset l1_0 y1_5 (r1.2, (gat pnil l1_0 y1_5).2)) y1_5 ((gat pnil (lset l1_0 y1_5 (r1.2, (gat pnil l1_0 y1_5).2)) y1_5).1, r2.2))] := S41.rowInP1 (j := 1) (k := 0) (by decide) rfl rfl g26
      simp [-aBin', -aBin, -aBinI, -aUn, -aNil, -flatV, n_fn, b_add, b_sub, b_mul, b_lt, b_le, b_gt, b_ge, b_eq, b_ne, u_not, e1_0, e1_1, e1_5, q27, q28, q29]
      apply hK
      clear hK K
      simp only [andThen, leaves]
      refine DWp.region fun K hK => ?_
      simp [-aBin', -aBin, -aBinI, -aUn, -aNil, -flatV, n_fn, b_add, b_sub, b_mul, b_lt, b_le, b_gt, b_ge, b_eq, b_ne, u_not, e1_0, e1_1, e1_5]
      apply hK
      clear hK K
      simp only [andThen, leaves]
      have S46 := S45.pick [1] (by decide) rfl
      exact ⟨n1, Nat.lt_succ_self _, (lset (lset l1_0 y1_5 (r1.2, (gat pnil l1_0 y1_5).2)) y1_5 ((gat pnil (lset l1_0 y1_5 (r1.2, (gat pnil l1_0 y1_5).2)) y1_5).1, r2.2)), r2.1, (iadd .i64 y1_5 1), hL2, S46, A42, by simp [e1_0, e1_1, e1_5], by simp [e1_0, e1_1, e1_5], by simp [e1_0, e1_1, e1_5]⟩
    · replace hL2 := cd_f hb5 hL2
      refine DWp.exit ?_
      simp only [andThen, leaves, if_true, if_false, reduceIte, Nat.reduceEqDiff]
      obtain rfl := Option.some.inj hL2
      try dsimp only at hF
      refine DWp.seq ?_
      refine DWp.region fun K hK => ?_
      simp [-aBin', -aBin, -aBinI, -aUn, -aNil, -flatV, n_fn, b_add, b_sub, b_mul, b_lt, b_le, b_gt, b_ge, b_eq, b_ne, u_not, e1_0, e1_1, e1_5]
      apply hK
      clear hK K
      simp only [andThen, leaves]
      refine DWp.ret ?_
      obtain rfl := Option.some.inj hF
      exact ⟨by simp, [(Value.int .i64 y1_1)], by simp [e1_0, e1_1, e1_5], A1_, rfl, S1_.pick [0] (by decide) rfl⟩
/-! loop.example/g01126/laws.heldIntS -/
def F_laws_heldIntS_L1 (fu : Nat) (k1_0 : List Int) : Nat → Int → Int → Option (LR (Int) (Int × Int))
  | 0, _, _ => none
  | n + 1, y1_1, y1_5 =>
    bif (ilt y1_5 (llen k1_0)) then
      gd (inL k1_0 y1_5) (
      bif (ine (gat 0 k1_0 y1_5) y1_1) then
        some (.ret (-1))
      else
        F_laws_heldIntS_L1 fu k1_0 n (iadd .i64 y1_1 1) (iadd .i64 y1_5 1))
    else
      some (.brk (y1_1, y1_5))
def F_laws_heldIntS (fu : Nat) (x0 : List Int) (x1 : Int) : Option (Int) :=
  bd (F_laws_heldIntS_L1 fu x0 fu x1 0) fun s1 =>
  lr s1 fun s1 =>
  some s1.1
theorem F_laws_heldIntS_w {fu : Nat} {H : AH} {v0 : Value} {x0 : List Int} {x1 : Int} {r : (Int)} (hx0 : Sl H v0 (ints x0)) (hF : F_laws_heldIntS fu x0 x1 = some r) :
    ACallT Try.prog 62 [v0, (Value.int .i64 x1)] H (fun u G => AgB (Fr H) H G ∧ u = (Value.int .i64 r) ∧ Sep G (Fr H) []) := by
  refine ACallT.of_body (nt := 21) (rs := [.tmp 4]) Try.func62 rfl rfl rfl rfl ?_
  have A0 : AgB (Fr H) H H := .refl _ _
  have S0 : Sep H (Fr H) [] := .nil
  have hB := Fr.up H
  unfold F_laws_heldIntS at hF
  refine DWp.seq ?_
  refine DWp.region fun K hK => ?_
  simp [-aBin', -aBin, -aBinI, -aUn, -aNil, -flatV, n_fn, b_add, b_sub, b_mul, b_lt, b_le, b_gt, b_ge, b_eq, b_ne, u_not]
  apply hK
  clear hK K
  simp only [andThen, leaves]
  refine DWp.seq ?_
  refine DWp.seq ?_
  refine DWp.region fun K hK => ?_
  simp [-aBin', -aBin, -aBinI, -aUn, -aNil, -flatV, n_fn, b_add, b_sub, b_mul, b_lt, b_le, b_gt, b_ge, b_eq, b_ne, u_not]
  apply hK
  clear hK K
  simp only [andThen, leaves]
  refine DWp.block ?_
  obtain ⟨s1, hL2, hF⟩ := bd_some hF
  have S3 := S0.pick [] (by decide) rfl
  refine DWp.loop (fun n env G => ∃ y1_1 : Int, ∃ y1_5 : Int, F_laws_heldIntS_L1 fu x0 n y1_1 y1_5 = some s1 ∧ Sep G (Fr H) [] ∧ AgB (Fr H) H G ∧ env 0 = some v0 ∧ env 1 = some (Value.int .i64 y1_1) ∧ env 5 = some (Value.int .i64 y1_5)) fu ⟨x1, 0, hL2, S3, A0, by simp [], by simp [], by simp []⟩ ?_
  rintro n1 env1 G1_ ⟨y1_1, y1_5, hL2, S1_, A1_, e1_0, e1_1, e1_5⟩
  cases n1 with
  | zero => cases hL2
  | succ n1 =>
    simp only [F_laws_heldIntS_L1] at hL2
    refine DWp.seq ?_
    refine DWp.seq ?_
    have q4 := lenG (P := Try.prog) (hx0.agree A1_.agree) el_22
    refine DWp.region fun K hK => ?_
    simp [-aBin', -aBin, -aBinI, -aUn, -aNil, -flatV, n_fn, b_add, b_sub, b_mul, b_lt, b_le, b_gt, b_ge, b_eq, b_ne, u_not, e1_0, e1_1, e1_5, q4]
    apply hK
    clear hK K
    simp only [andThen, leaves]
    refine DWp.cond' (t := (ilt y1_5 (llen x0))) (by simp [e1_0, e1_1, e1_5]) (fun hb5 => ?_) (fun hb5 => ?_)
    · replace hL2 := cd_t hb5 hL2
      refine DWp.skip ?_
      simp only [andThen, leaves]
      refine DWp.seq ?_
      refine DWp.block ?_
      refine DWp.seq ?_
      refine DWp.seq ?_
      obtain ⟨g6, hL2⟩ := gd_some hL2
      have q7 := idxG (P := Try.prog) (kk := .i64) (hx0.agree A1_.agree) el_22 sz_3 g6
      have q8 := loadG (P := Try.prog) (hx0.agree A1_.agree) sz_3 ag_3 g6 0
      refine DWp.region fun K hK => ?_
      simp [-aBin', -aBin, -aBinI, -aUn, -aNil, -flatV, n_fn, b_add, b_sub, b_mul, b_lt, b_le, b_gt, b_ge, b_eq, b_ne, u_not, e1_0, e1_1, e1_5, q7, q8]
      apply hK
      clear hK K
      simp only [andThen, leaves]
      refine DWp.cond' (t := (ine (gat 0 x0 y1_5) y1_1)) (by simp [e1_0, e1_1, e1_5]) (fun hb9 => ?_) (fun hb9 => ?_)
      · replace hL2 := cd_t hb9 hL2
        refine DWp.seq ?_
        refine DWp.region fun K hK => ?_
        simp [-aBin', -aBin, -aBinI, -aUn, -aNil, -flatV, n_fn, b_add, b_sub, b_mul, b_lt, b_le, b_gt, b_ge, b_eq, b_ne, u_not, e1_0, e1_1, e1_5]
        apply hK
        clear hK K
        simp only [andThen, leaves]
        refine DWp.ret ?_
        simp only [andThen, leaves]
        obtain rfl := Option.some.inj hL2
        simp only [lr] at hF
        obtain rfl := Option.some.inj hF
        exact ⟨by simp, [(Value.int .i64 (-1))], by simp [e1_0, e1_1, e1_5], A1_, rfl, S1_.pick [] (by decide) rfl⟩
      · replace hL2 := cd_f hb9 hL2
        refine DWp.skip ?_
        simp only [andThen, leaves]
        refine DWp.region fun K hK => ?_
        simp [-aBin', -aBin, -aBinI, -aUn, -aNil, -flatV, n_fn, b_add, b_sub, b_mul, b_lt, b_le, b_gt, b_ge, b_eq, b_ne, u_not, e1_0, e1_1, e1_5]
        apply hK
        clear hK K
        simp only [andThen, leaves]
        refine DWp.region fun K hK => ?_
        simp [-aBin', -aBin, -aBinI, -aUn, -aNil, -flatV, n_fn, b_add, b_sub, b_mul, b_lt, b_le, b_gt, b_ge, b_eq, b_ne, u_not, e1_0, e1_1, e1_5]
        apply hK
        clear hK K
        simp only [andThen, leaves]
        have S10 := S1_.pick [] (by decide) rfl
        exact ⟨n1, Nat.lt_succ_self _, (iadd .i64 y1_1 1), (iadd .i64 y1_5 1), hL2, S10, A1_, by simp [e1_0, e1_1, e1_5], by simp [e1_0, e1_1, e1_5], by simp [e1_0, e1_1, e1_5]⟩
    · replace hL2 := cd_f hb5 hL2
      refine DWp.exit ?_
      simp only [andThen, leaves, if_true, if_false, reduceIte, Nat.reduceEqDiff]
      obtain rfl := Option.some.inj hL2
      simp only [lr] at hF
      refine DWp.seq ?_
      refine DWp.region fun K hK => ?_
      simp [-aBin', -aBin, -aBinI, -aUn, -aNil, -flatV, n_fn, b_add, b_sub, b_mul, b_lt, b_le, b_gt, b_ge, b_eq, b_ne, u_not, e1_0, e1_1, e1_5]
      apply hK
      clear hK K
      simp only [andThen, leaves]
      refine DWp.ret ?_
      obtain rfl := Option.some.inj hF
      exact ⟨by simp, [(Value.int .i64 y1_1)], by simp [e1_0, e1_1, e1_5], A1_, rfl, S1_.pick [] (by decide) rfl⟩
/-! loop.example/g01126/laws.heldMeanderS -/
def F_laws_heldMeanderS_L1 (fu : Nat) (k1_0 : List (List Int × List Int)) : Nat → Int → Int → Option (LR (Int) (Int × Int))
  | 0, _, _ => none
  | n + 1, y1_1, y1_5 =>
    bif (ilt y1_5 (llen k1_0)) then
      gd (inL k1_0 y1_5) (
      bd (F_laws_heldIntS fu ((gat pnil k1_0 y1_5).1) y1_1) fun r1 =>
      bif (ilt r1 0) then
        some (.ret (-1))
      else
        gd (inL k1_0 y1_5) (
        bd (F_laws_heldIntS fu ((gat pnil k1_0 y1_5).2) r1) fun r2 =>
        bif (ilt r2 0) then
          some (.ret (-1))
        else
          F_laws_heldMeanderS_L1 fu k1_0 n r2 (iadd .i64 y1_5 1)))
    else
      some (.brk (y1_1, y1_5))
def F_laws_heldMeanderS (fu : Nat) (x0 : List (List Int × List Int)) (x1 : Int) : Option (Int) :=
  bd (F_laws_heldMeanderS_L1 fu x0 fu x1 0) fun s1 =>
  lr s1 fun s1 =>
  some s1.1
theorem F_laws_heldMeanderS_w {fu : Nat} {H : AH} {v0 : Value} {x0 : List (List Int × List Int)} {x1 : Int} {r : (Int)} (hx0 : ∃ C, RdP H v0 C x0) (hF : F_laws_heldMeanderS fu x0 x1 = some r) :
    ACallT Try.prog 49 [v0, (Value.int .i64 x1)] H (fun u G => AgB (Fr H) H G ∧ u = (Value.int .i64 r) ∧ Sep G (Fr H) []) := by
  refine ACallT.of_body (nt := 31) (rs := [.tmp 4]) Try.func49 rfl rfl rfl rfl ?_
  have A0 : AgB (Fr H) H H := .refl _ _
  have S0 : Sep H (Fr H) [] := .nil
  have hB := Fr.up H
  unfold F_laws_heldMeanderS at hF
  obtain ⟨C0, hC0⟩ := hx0
  refine DWp.seq ?_
  refine DWp.region fun K hK => ?_
  simp [-aBin', -aBin, -aBinI, -aUn, -aNil, -flatV, n_fn, b_add, b_sub, b_mul, b_lt, b_le, b_gt, b_ge, b_eq, b_ne, u_not]
  apply hK
  clear hK K
  simp only [andThen, leaves]
  refine DWp.seq ?_
  refine DWp.seq ?_
  refine DWp.region fun K hK => ?_
  simp [-aBin', -aBin, -aBinI, -aUn, -aNil, -flatV, n_fn, b_add, b_sub, b_mul, b_lt, b_le, b_gt, b_ge, b_eq, b_ne, u_not]
  apply hK
  clear hK K
  simp only [andThen, leaves]
  refine DWp.block ?_
  obtain ⟨s1, hL2, hF⟩ := bd_some hF
  have S3 := S0.pick [] (by decide) rfl
  refine DWp.loop (fun n env G => ∃ y1_1 : Int, ∃ y1_5 : Int, F_laws_heldMeanderS_L1 fu x0 n y1_1 y1_5 = some s1 ∧ Sep G (Fr H) [] ∧ AgB (Fr H) H G ∧ env 0 = some v0 ∧ env 1 = some (Value.int .i64 y1_1) ∧ env 5 = some (Value.int .i64 y1_5)) fu ⟨x1, 0, hL2, S3, A0, by simp [], by simp [], by simp []⟩ ?_
  rintro n1 env1 G1_ ⟨y1_1, y1_5, hL2, S1_, A1_, e1_0, e1_1, e1_5⟩
  cases n1 with
  | zero => cases hL2
  | succ n1 =>
    simp only [F_laws_heldMeanderS_L1] at hL2
    refine DWp.seq ?_
    refine DWp.seq ?_
    have q4 := (hC0.agree A1_.agree).lenG (P := Try.prog) el_46
    refine DWp.region fun K hK => ?_
    simp [-aBin', -aBin, -aBinI, -aUn, -aNil, -flatV, n_fn, b_add, b_sub, b_mul, b_lt, b_le, b_gt, b_ge, b_eq, b_ne, u_not, e1_0, e1_1, e1_5, q4]
    apply hK
    clear hK K
    simp only [andThen, leaves]
    refine DWp.cond' (t := (ilt y1_5 (llen x0))) (by simp [e1_0, e1_1, e1_5]) (fun hb5 => ?_) (fun hb5 => ?_)
    · replace hL2 := cd_t hb5 hL2
      refine DWp.skip ?_
      simp only [andThen, leaves]
      refine DWp.seq ?_
      refine DWp.block ?_
      refine DWp.seq ?_
      obtain ⟨g6, hL2⟩ := gd_some hL2
      have q7 := (hC0.agree A1_.agree).idxG (P := Try.prog) (kk := .i64) el_46 sz_28 g6
      have q8 := (hC0.agree A1_.agree).fldG0 (P := Try.prog) fa_28_0 g6
      have q9 := (hC0.agree A1_.agree).cellG0 (P := Try.prog) sz_22 ag_22 g6
      obtain ⟨r1, hc10, hL2⟩ := bd_some hL2
      refine DWp.region fun K hK => ?_
      simp [-aBin', -aBin, -aBinI, -aUn, -aNil, -flatV, n_fn, b_add, b_sub, b_mul, b_lt, b_le, b_gt, b_ge, b_eq, b_ne, u_not, e1_0, e1_1, e1_5, q7, q8, q9, (((hC0.agree A1_.agree).row0 g6).tup)]
      refine CallD.t (F_laws_heldIntS_w (fu := fu) ((hC0.agree A1_.agree).row0 g6) hc10) ?_
      rintro _ G12 ⟨a15, rfl, S16⟩
      have A14 := A1_.ext (hB.le A1_.1) a15.agree
      have S13 : Sep G12 (Fr H) [] := S1_.app a15.agree S16 (fun _ h => h) (hB.le A1_.1)
      simp [-aBin', -aBin, -aBinI, -aUn, -aNil, -flatV, n_fn, b_add, b_sub, b_mul, b_lt, b_le, b_gt, b_ge, b_eq, b_ne, u_not, e1_0, e1_1, e1_5, q7, q8, q9, a15.pre]
      apply hK
      clear hK K
      simp only [andThen, leaves]
      refine DWp.seq ?_
      refine DWp.seq ?_
      refine DWp.region fun K hK => ?_
      simp [-aBin', -aBin, -aBinI, -aUn, -aNil, -flatV, n_fn, b_add, b_sub, b_mul, b_lt, b_le, b_gt, b_ge, b_eq, b_ne, u_not, e1_0, e1_1, e1_5]
      apply hK
      clear hK K
      simp only [andThen, leaves]
      refine DWp.cond' (t := (ilt r1 0)) (by simp [e1_0, e1_1, e1_5]) (fun hb17 => ?_) (fun hb17 => ?_)
      · replace hL2 := cd_t hb17 hL2
        refine DWp.seq ?_
        refine DWp.region fun K hK => ?_
        simp [-aBin', -aBin, -aBinI, -aUn, -aNil, -flatV, n_fn, b_add, b_sub, b_mul, b_lt, b_le, b_gt, b_ge, b_eq, b_ne, u_not, e1_0, e1_1, e1_5]
        apply hK
        clear hK K
        simp only [andThen, leaves]
        refine DWp.ret ?_
        simp only [andThen, leaves]
        obtain rfl := Option.some.inj hL2
        simp only [lr] at hF
        obtain rfl := Option.some.inj hF
        exact ⟨by simp, [(Value.int .i64 (-1))], by simp [e1_0, e1_1, e1_5], A14, rfl, S13.pick [] (by decide) rfl⟩
      · replace hL2 := cd_f hb17 hL2
        refine DWp.skip ?_
        simp only [andThen, leaves]
        refine DWp.seq ?_
        obtain ⟨g18, hL2⟩ := gd_some hL2
        have q19 := (hC0.agree A14.agree).idxG (P := Try.prog) (kk := .i64) el_46 sz_28 g18
        have q20 := (hC0.agree A14.agree).fldG1 (P := Try.prog) fa_28_1 g18
        have q21 := (hC0.agree A14.agree).cellG1 (P := Try.prog) sz_22 ag_22 g18
        obtain ⟨r2, hc22, hL2⟩ := bd_some hL2
        refine DWp.region fun K hK => ?_
        simp [-aBin', -aBin, -aBinI, -aUn, -aNil, -flatV, n_fn, b_add, b_sub, b_mul, b_lt, b_le, b_gt, b_ge, b_eq, b_ne, u_not, e1_0, e1_1, e1_5, q19, q20, q21, (((hC0.agree A14.agree).row1 g18).tup)]
        refine CallD.t (F_laws_heldIntS_w (fu := fu) ((hC0.agree A14.agree).row1 g18) hc22) ?_
        rintro _ G24 ⟨a27, rfl, S28⟩
        have A26 := A14.ext (hB.le A14.1) a27.agree
        have S25 : Sep G24 (Fr H) [] := S13.app a27.agree S28 (fun _ h => h) (hB.le A14.1)
        simp [-aBin', -aBin, -aBinI, -aUn, -aNil, -flatV, n_fn, b_add, b_sub, b_mul, b_lt, b_le, b_gt, b_ge, b_eq, b_ne, u_not, e1_0, e1_1, e1_5, q19, q20, q21, a27.pre]
        apply hK
        clear hK K
        simp only [andThen, leaves]
        refine DWp.seq ?_
        refine DWp.region fun K hK => ?_
        simp [-aBin', -aBin, -aBinI, -aUn, -aNil, -flatV, n_fn, b_add, b_sub, b_mul, b_lt, b_le, b_gt, b_ge, b_eq, b_ne, u_not, e1_0, e1_1, e1_5]
        apply hK
        clear hK K
        simp only [andThen, leaves]
        refine DWp.cond' (t := (ilt r2 0)) (by simp [e1_0, e1_1, e1_5]) (fun hb29 => ?_) (fun hb29 => ?_)
        · replace hL2 := cd_t hb29 hL2
          refine DWp.seq ?_
          refine DWp.region fun K hK => ?_
          simp [-aBin', -aBin, -aBinI, -aUn, -aNil, -flatV, n_fn, b_add, b_sub, b_mul, b_lt, b_le, b_gt, b_ge, b_eq, b_ne, u_not, e1_0, e1_1, e1_5]
          apply hK
          clear hK K
          simp only [andThen, leaves]
          refine DWp.ret ?_
          simp only [andThen, leaves]
          obtain rfl := Option.some.inj hL2
          simp only [lr] at hF
          obtain rfl := Option.some.inj hF
          exact ⟨by simp, [(Value.int .i64 (-1))], by simp [e1_0, e1_1, e1_5], A26, rfl, S25.pick [] (by decide) rfl⟩
        · replace hL2 := cd_f hb29 hL2
          refine DWp.skip ?_
          simp only [andThen, leaves]
          refine DWp.region fun K hK => ?_
          simp [-aBin', -aBin, -aBinI, -aUn, -aNil, -flatV, n_fn, b_add, b_sub, b_mul, b_lt, b_le, b_gt, b_ge, b_eq, b_ne, u_not, e1_0, e1_1, e1_5]
          apply hK
          clear hK K
          simp only [andThen, leaves]
          have S30 := S25.pick [] (by decide) rfl
          exact ⟨n1, Nat.lt_succ_self _, r2, (iadd .i64 y1_5 1), hL2, S30, A26, by simp [e1_0, e1_1, e1_5], by simp [e1_0, e1_1, e1_5], by simp [e1_0, e1_1, e1_5]⟩
    · replace hL2 := cd_f hb5 hL2
      refine DWp.exit ?_
      simp only [andThen, leaves, if_true, if_false, reduceIte, Nat.reduceEqDiff]
      obtain rfl := Option.some.inj hL2
      simp only [lr] at hF
      refine DWp.seq ?_
      refine DWp.region fun K hK => ?_
      simp [-aBin', -aBin, -aBinI, -aUn, -aNil, -flatV, n_fn, b_add, b_sub, b_mul, b_lt, b_le, b_gt, b_ge, b_eq, b_ne, u_not, e1_0, e1_1, e1_5]
      apply hK
      clear hK K
      simp only [andThen, leaves]
      refine DWp.ret ?_
      obtain rfl := Option.some.inj hF
      exact ⟨by simp, [(Value.int .i64 y1_1)], by simp [e1_0, e1_1, e1_5], A1_, rfl, S1_.pick [] (by decide) rfl⟩
/-! loop.example/g01126/laws.FnExactPiecesBack -/
def F_laws_FnExactPiecesBack (fu : Nat) (x0_0 : List Int) (x0_1 : List Int) : Option (Bool) :=
  bd (F_laws_szMeander fu x0_0 x0_1 1048576) fun r1 =>
  bif (ilt r1 0) then
    some true
  else
    bd (F_laws_toMeander fu x0_0 x0_1) fun r2 =>
    bd (F_spec_PiecesBack fu r2.1 r2.2) fun r3 =>
    bd (F_laws_toMeander fu x0_0 x0_1) fun r4 =>
    bd (F_impl_PiecesBack fu r4.1 r4.2) fun r5 =>
    bd (
      bd (F_laws_eqMeanderS fu r5.1 r3.1) fun r6 =>
      bif (bnot r6) then
        some true
      else
        some (bne' r5.2 r3.2)) fun s60 =>
    bif s60 then
      some false
    else
      bd (F_laws_toMeander fu x0_0 x0_1) fun r7 =>
      bd (F_laws_eqMeander fu r4.1 r4.2 r7.1 r7.2) fun r8 =>
      bif (bnot r8) then
        some false
      else
        bd (F_laws_markMeander fu r4.1 r4.2 1) fun r9 =>
        bd (
          bif (ilt r9.1 0) then
            some true
          else
            bd (F_laws_eqMeanderS fu r5.1 r3.1) fun r10 =>
            bif (bnot r10) then
              some true
            else
              some (bne' r5.2 r3.2)) fun s107 =>
        bif s107 then
          some false
        else
          bd (F_laws_markMeanderS fu r5.1 1) fun r11 =>
          bd (F_laws_heldMeanderS fu r11.2 1) fun r12 =>
          bif (ilt r12 0) then
            some false
          else
            bif (ine r12 r11.1) then
              some false
            else
              bd (F_laws_toMeander fu x0_0 x0_1) fun r13 =>
              bd (F_impl_PiecesBack fu r13.1 r13.2) fun r14 =>
              bd (
                bd (F_laws_eqMeanderS fu r14.1 r3.1) fun r15 =>
                bif (bnot r15) then
                  some true
                else
                  some (bne' r14.2 r3.2)) fun s162 =>
              bif s162 then
                some false
              else
                bd (F_laws_heldMeanderS fu r11.2 1) fun r16 =>
                bif (ilt r16 0) then
                  some false
                else
                  bif (ine r16 r11.1) then
                    some false
                  else
                    some true
theorem F_laws_FnExactPiecesBack_w {fu : Nat} {H : AH} {v0_0 : Value} {v0_1 : Value} {x0_0 : List Int} {x0_1 : List Int} {r : (Bool)} (hx0_0 : Sl H v0_0 (ints x0_0)) (hx0_1 : Sl H v0_1 (ints x0_1)) (hF : F_laws_FnExactPiecesBack fu x0_0 x0_1 = some r) :
    ACallT Try.prog 11 [(Value.agg #[v0_0, v0_1])] H (fun u G => AgB (Fr H) H G ∧ u = (Value.bool r) ∧ Sep G (Fr H) []) := by
  refine ACallT.of_body (nt := 96) (rs := [.tmp 2]) Try.func11 rfl rfl rfl rfl ?_
  have A0 : AgB (Fr H) H H := .refl _ _
  have S0 : Sep H (Fr H) [] := .nil
  have hB := Fr.up H
  unfold F_laws_FnExactPiecesBack at hF
  refine DWp.seq ?_
  obtain ⟨G2, p4, q5, q6, a7, S1⟩ := S0.boxT (hB.le A0.1) 24 [v0_0, v0_1]
  have A3 := A0.ext (hB.le A0.1) a7
  replace S1 : Sep G2 (Fr H) [AL.box p4 [v0_0, v0_1]] := S1
  refine DWp.region fun K hK => ?_
  simp [-aBin', -aBin, -aBinI, -aUn, -aNil, -flatV, n_fn, b_add, b_sub, b_mul, b_lt, b_le, b_gt, b_ge, b_eq, b_ne, u_not, q5, q6, a7.to_pre, cells_agg]
  apply hK
  clear hK K
  simp only [andThen, leaves]
  refine DWp.seq ?_
  refine DWp.region fun K hK => ?_
  simp [-aBin', -aBin, -aBinI, -aUn, -aNil, -flatV, n_fn, b_add, b_sub, b_mul, b_lt, b_le, b_gt, b_ge, b_eq, b_ne, u_not]
  apply hK
  clear hK K
  simp only [andThen, leaves]
  refine DWp.seq ?_
  have q8 := S1.loadAgg (P := Try.prog) (k := 0) rfl sz_24 ag_24 rfl
  obtain ⟨r1, hc9, hF⟩ := bd_some hF
  refine DWp.region fun K hK => ?_
  simp [-aBin', -aBin, -aBinI, -aUn, -aNil, -flatV, n_fn, b_add, b_sub, b_mul, b_lt, b_le, b_gt, b_ge, b_eq, b_ne, u_not, q8, ((hx0_0.agree A3.agree).tup), ((hx0_1.agree A3.agree).tup)]
  refine CallD.t (F_laws_szMeander_w (fu := fu) (hx0_0.agree A3.agree) (hx0_1.agree A3.agree) hc9) ?_
  rintro _ G11 ⟨a14, rfl, S15⟩
  have A13 := A3.ext (hB.le A3.1) a14.agree
  have S12 : Sep G11 (Fr H) [AL.box p4 [v0_0, v0_1]] := S1.app a14.agree S15 (fun _ h => h) (hB.le A3.1)
  simp [-aBin', -aBin, -aBinI, -aUn, -aNil, -flatV, n_fn, b_add, b_sub, b_mul, b_lt, b_le, b_gt, b_ge, b_eq, b_ne, u_not, q8, a14.pre]
  apply hK
  clear hK K
  simp only [andThen, leaves]
  refine DWp.seq ?_
  refine DWp.seq ?_
  refine DWp.region fun K hK => ?_
  simp [-aBin', -aBin, -aBinI, -aUn, -aNil, -flatV, n_fn, b_add, b_sub, b_mul, b_lt, b_le, b_gt, b_ge, b_eq, b_ne, u_not]
  apply hK
  clear hK K
  simp only [andThen, leaves]
  refine DWp.cond' (t := (ilt r1 0)) (by simp []) (fun hb16 => ?_) (fun hb16 => ?_)
  · replace hF := cd_t hb16 hF
    refine DWp.seq ?_
    refine DWp.region fun K hK => ?_
    simp [-aBin', -aBin, -aBinI, -aUn, -aNil, -flatV, n_fn, b_add, b_sub, b_mul, b_lt, b_le, b_gt, b_ge, b_eq, b_ne, u_not]
    apply hK
    clear hK K
    simp only [andThen, leaves]
    refine DWp.ret ?_
    simp only [andThen, leaves]
    obtain rfl := Option.some.inj hF
    exact ⟨by simp, [(Value.bool true)], by simp [], A13, rfl, S12.pick [] (by decide) rfl⟩
  · replace hF := cd_f hb16 hF
    refine DWp.skip ?_
    simp only [andThen, leaves]
    refine DWp.seq ?_
    have q17 := S12.loadAgg (P := Try.prog) (k := 0) rfl sz_24 ag_24 rfl
    obtain ⟨r2, hc18, hF⟩ := bd_some hF
    refine DWp.region fun K hK => ?_
    simp [-aBin', -aBin, -aBinI, -aUn, -aNil, -flatV, n_fn, b_add, b_sub, b_mul, b_lt, b_le, b_gt, b_ge, b_eq, b_ne, u_not, q17, ((hx0_0.agree A13.agree).tup), ((hx0_1.agree A13.agree).tup)]
    refine CallD.t (F_laws_toMeander_w (fu := fu) (hx0_0.agree A13.agree) (hx0_1.agree A13.agree) hc18) ?_
    rintro _ G20 ⟨a23, c19_u0, c19_u1, rfl, S24⟩
    have A22 := A13.ext (hB.le A13.1) a23.agree
    have S21 : Sep G20 (Fr H) [AL.box p4 [v0_0, v0_1], flat c19_u0 3 (ints r2.1), flat c19_u1 3 (ints r2.2)] := S12.app a23.agree S24 (fun _ h => h) (hB.le A13.1)
    obtain ⟨r3, hc25, hF⟩ := bd_some hF
    simp [-aBin', -aBin, -aBinI, -aUn, -aNil, -flatV, n_fn, b_add, b_sub, b_mul, b_lt, b_le, b_gt, b_ge, b_eq, b_ne, u_not, q17, a23.pre, ((S21.sl (k := 1) rfl).tup), ((S21.sl (k := 2) rfl).tup)]
    refine CallD.t (F_spec_PiecesBack_w (fu := fu) (S21.sl (k := 1) rfl) (S21.sl (k := 2) rfl) hc25) ?_
    rintro _ G27 ⟨a30, c26_u0, c26_C0, rfl, S31⟩
    have A29 := A22.ext (hB.le A22.1) a30.agree
    have S28 : Sep G27 (Fr H) [AL.box p4 [v0_0, v0_1], flat c19_u0 3 (ints r2.1), flat c19_u1 3 (ints r2.2), rowsP c26_u0 28 3 c26_C0 r3.1] := S21.app a30.agree S31 (fun _ h => h) (hB.le A22.1)
    simp [-aBin', -aBin, -aBinI, -aUn, -aNil, -flatV, n_fn, b_add, b_sub, b_mul, b_lt, b_le, b_gt, b_ge, b_eq, b_ne, u_not, q17, a23.pre, a30.pre]
    apply hK
    clear hK K
    simp only [andThen, leaves]
    refine DWp.seq ?_
    have q32 := S28.loadAgg (P := Try.prog) (k := 0) rfl sz_24 ag_24 rfl
    obtain ⟨r4, hc33, hF⟩ := bd_some hF
    refine DWp.region fun K hK => ?_
    simp [-aBin', -aBin, -aBinI, -aUn, -aNil, -flatV, n_fn, b_add, b_sub, b_mul, b_lt, b_le, b_gt, b_ge, b_eq, b_ne, u_not, q32, ((hx0_0.agree A29.agree).tup), ((hx0_1.agree A29.agree).tup)]
    refine CallD.t (F_laws_toMeander_w (fu := fu) (hx0_0.agree A29.agree) (hx0_1.agree A29.agree) hc33) ?_
    rintro _ G35 ⟨a38, c34_u0, c34_u1, rfl, S39⟩
    have A37 := A29.ext (hB.le A29.1) a38.agree
    have S36 : Sep G35 (Fr H) [AL.box p4 [v0_0, v0_1], flat c19_u0 3 (ints r2.1), flat c19_u1 3 (ints r2.2), rowsP c26_u0 28 3 c26_C0 r3.1, flat c34_u0 3 (ints r4.1), flat c34_u1 3 (ints r4.2)] := S28.app a38.agree S39 (fun _ h => h) (hB.le A29.1)
    obtain ⟨G41, p43, q44, q46, a45, S40⟩ := S36.allocT (P := Try.prog) (hB.le A37.1) ze_28 rfl
    have A42 := A37.ext (hB.le A37.1) a45
    replace S40 : Sep G41 (Fr H) [AL.box p4 [v0_0, v0_1], flat c19_u0 3 (ints r2.1), flat c19_u1 3 (ints r2.2), rowsP c26_u0 28 3 c26_C0 r3.1, flat c34_u0 3 (ints r4.1), flat c34_u1 3 (ints r4.2), AL.box p43 [(Value.slice none 0 0), (Value.slice none 0 0)]] := S40
    obtain ⟨G47, q48, S49, a51⟩ := S40.putAgg (P := Try.prog) (k := 6) (xs := [c34_u0, c34_u1]) rfl (hB.le A42.1) sz_28 rfl rfl
    have A50 := A42.trans a51
    replace S49 : Sep G47 (Fr H) [AL.box p4 [v0_0, v0_1], flat c19_u0 3 (ints r2.1), flat c19_u1 3 (ints r2.2), rowsP c26_u0 28 3 c26_C0 r3.1, flat c34_u0 3 (ints r4.1), flat c34_u1 3 (ints r4.2), AL.box p43 [c34_u0, c34_u1]] := S49
    simp [-aBin', -aBin, -aBinI, -aUn, -aNil, -flatV, n_fn, b_add, b_sub, b_mul, b_lt, b_le, b_gt, b_ge, b_eq, b_ne, u_not, q32, a38.pre, q44, q46, a45.to_pre, q48]
    apply hK
    clear hK K
    simp only [andThen, leaves]
    refine DWp.seq ?_
    have q52 := S49.loadAgg (P := Try.prog) (k := 6) rfl sz_28 ag_28 rfl
    obtain ⟨r5, hc53, hF⟩ := bd_some hF
    refine DWp.region fun K hK => ?_
    simp [-aBin', -aBin, -aBinI, -aUn, -aNil, -flatV, n_fn, b_add, b_sub, b_mul, b_lt, b_le, b_gt, b_ge, b_eq, b_ne, u_not, q52, ((S49.sl (k := 4) rfl).tup), ((S49.sl (k := 5) rfl).tup)]
    refine CallD.t (F_impl_PiecesBack_w (fu := fu) (S49.sl (k := 4) rfl) (S49.sl (k := 5) rfl) hc53) ?_
    rintro _ G55 ⟨a58, c54_u0, c54_C0, rfl, S59⟩
    have A57 := A50.ext (hB.le A50.1) a58.agree
    have S56 : Sep G55 (Fr H) [AL.box p4 [v0_0, v0_1], flat c19_u0 3 (ints r2.1), flat c19_u1 3 (ints r2.2), rowsP c26_u0 28 3 c26_C0 r3.1, flat c34_u0 3 (ints r4.1), flat c34_u1 3 (ints r4.2), AL.box p43 [c34_u0, c34_u1], rowsP c54_u0 28 3 c54_C0 r5.1] := S49.app a58.agree S59 (fun _ h => h) (hB.le A50.1)
    simp [-aBin', -aBin, -aBinI, -aUn, -aNil, -flatV, n_fn, b_add, b_sub, b_mul, b_lt, b_le, b_gt, b_ge, b_eq, b_ne, u_not, q52, a58.pre]
    apply hK
    clear hK K
    simp only [andThen, leaves]
    refine DWp.seq ?_
    obtain ⟨s60, hL61, hF⟩ := bd_some hF
    refine DWp.seq (DWp.join (fun env G => Sep G (Fr H) [AL.box p4 [v0_0, v0_1], rowsP c26_u0 28 3 c26_C0 r3.1, AL.box p43 [c34_u0, c34_u1], flat c34_u0 3 (ints r4.1), flat c34_u1 3 (ints r4.2), rowsP c54_u0 28 3 c54_C0 r5.1] ∧ AgB (Fr H) H G ∧ env 1 = some p4 ∧ env 4 = some c26_u0 ∧ env 5 = some (Value.bool r3.2) ∧ env 6 = some p43 ∧ env 7 = some c54_u0 ∧ env 8 = some (Value.bool r5.2) ∧ env 40 = some (Value.bool s60)) ?_ ?_)
    ·
      obtain ⟨r6, hc63, hL61⟩ := bd_some hL61
      refine DWp.region fun K hK => ?_
      simp [-aBin', -aBin, -aBinI, -aUn, -aNil, -flatV, n_fn, b_add, b_sub, b_mul, b_lt, b_le, b_gt, b_ge, b_eq, b_ne, u_not, ((S56.rdP (k := 7) rfl).tup), ((S56.rdP (k := 3) rfl).tup)]
      refine CallD.t (F_laws_eqMeanderS_w (fu := fu) ⟨_, (S56.rdP (k := 7) rfl)⟩ ⟨_, (S56.rdP (k := 3) rfl)⟩ hc63) ?_
      rintro _ G65 ⟨a68, rfl, S69⟩
      have A67 := A57.ext (hB.le A57.1) a68.agree
      have S66 : Sep G65 (Fr H) [AL.box p4 [v0_0, v0_1], flat c19_u0 3 (ints r2.1), flat c19_u1 3 (ints r2.2), rowsP c26_u0 28 3 c26_C0 r3.1, flat c34_u0 3 (ints r4.1), flat c34_u1 3 (ints r4.2), AL.box p43 [c34_u0, c34_u1], rowsP c54_u0 28 3 c54_C0 r5.1] := S56.app a68.agree S69 (fun _ h => h) (hB.le A57.1)
      rcases Bool.eq_false_or_eq_true (bnot r6) with hb70 | hb70
      · replace hL61 := cd_t hb70 hL61
        simp [-aBin', -aBin, -aBinI, -aUn, -aNil, -flatV, n_fn, b_add, b_sub, b_mul, b_lt, b_le, b_gt, b_ge, b_eq, b_ne, u_not, hb70, a68.pre]
        apply hK
        clear hK K
        simp only [andThen, leaves]
        have S71 := S66.pick [0, 3, 6, 4, 5, 7] (by decide) rfl
        obtain rfl := Option.some.inj hL61
        exact ⟨S71, A67, by simp [], by simp [], by simp [], by simp [], by simp [], by simp [], by simp []⟩
      · replace hL61 := cd_f hb70 hL61
        simp [-aBin', -aBin, -aBinI, -aUn, -aNil, -flatV, n_fn, b_add, b_sub, b_mul, b_lt, b_le, b_gt, b_ge, b_eq, b_ne, u_not, hb70, a68.pre, b_bne un_4]
        apply hK
        clear hK K
        simp only [andThen, leaves]
        have S72 := S66.pick [0, 3, 6, 4, 5, 7] (by decide) rfl
        obtain rfl := Option.some.inj hL61
        exact ⟨S72, A67, by simp [], by simp [], by simp [], by simp [], by simp [], by simp [], by simp []⟩
    · rintro env Gj73 ⟨Sj73, Aj73, ej73_1, ej73_4, ej73_5, ej73_6, ej73_7, ej73_8, ej73_40⟩
      refine DWp.cond' (t := s60) (by simp [ej73_1, ej73_4, ej73_5, ej73_6, ej73_7, ej73_8, ej73_40]) (fun hb74 => ?_) (fun hb74 => ?_)
      · replace hF := cd_t hb74 hF
        refine DWp.seq ?_
        refine DWp.region fun K hK => ?_
        simp [-aBin', -aBin, -aBinI, -aUn, -aNil, -flatV, n_fn, b_add, b_sub, b_mul, b_lt, b_le, b_gt, b_ge, b_eq, b_ne, u_not, ej73_1, ej73_4, ej73_5, ej73_6, ej73_7, ej73_8, ej73_40]
        apply hK
        clear hK K
        simp only [andThen, leaves]
        refine DWp.ret ?_
        simp only [andThen, leaves]
        obtain rfl := Option.some.inj hF
        exact ⟨by simp, [(Value.bool false)], by simp [ej73_1, ej73_4, ej73_5, ej73_6, ej73_7, ej73_8, ej73_40], Aj73, rfl, Sj73.pick [] (by decide) rfl⟩
      · replace hF := cd_f hb74 hF
        refine DWp.skip ?_
        simp only [andThen, leaves]
        refine DWp.seq ?_
        refine DWp.seq ?_
        have q75 := Sj73.loadAgg (P := Try.prog) (k := 2) rfl sz_28 ag_28 rfl
        have q76 := Sj73.loadAgg (P := Try.prog) (k := 0) rfl sz_24 ag_24 rfl
        obtain ⟨r7, hc77, hF⟩ := bd_some hF
        refine DWp.drawn (B := [0, 0, 2, 7, 15]) 5 mixed (by kernel_rfl) (by decide) fun K hK => ?_
        simp [-aBin', -aBin, -aBinI, -aUn, -aNil, -flatV, n_fn, b_add, b_sub, b_mul, b_lt, b_le, b_gt, b_ge, b_eq, b_ne, u_not, ej73_1, ej73_4, ej73_5, ej73_6, ej73_7, ej73_8, ej73_40, q75, q76, ((hx0_0.agree Aj73.agree).tup), ((hx0_1.agree Aj73.agree).tup)]
        refine CallD.t (F_laws_toMeander_w (fu := fu) (hx0_0.agree Aj73.agree) (hx0_1.agree Aj73.agree) hc77) ?_
        rintro _ G79 ⟨a82, c78_u0, c78_u1, rfl, S83⟩
        have A81 := Aj73.ext (hB.le Aj73.1) a82.agree
        have S80 : Sep G79 (Fr H) [AL.box p4 [v0_0, v0_1], rowsP c26_u0 28 3 c26_C0 r3.1, AL.box p43 [c34_u0, c34_u1], flat c34_u0 3 (ints r4.1), flat c34_u1 3 (ints r4.2), rowsP c54_u0 28 3 c54_C0 r5.1, flat c78_u0 3 (ints r7.1), flat c78_u1 3 (ints r7.2)] := Sj73.app a82.agree S83 (fun _ h => h) (hB.le Aj73.1)
        obtain ⟨r8, hc84, hF⟩ := bd_some hF
        simp [-aBin', -aBin, -aBinI, -aUn, -aNil, -flatV, n_fn, b_add, b_sub, b_mul, b_lt, b_le, b_gt, b_ge, b_eq, b_ne, u_not, ej73_1, ej73_4, ej73_5, ej73_6, ej73_7, ej73_8, ej73_40, q75, q76, a82.pre, ((S80.sl (k := 3) rfl).tup), ((S80.sl (k := 4) rfl).tup), ((S80.sl (k := 6) rfl).tup), ((S80.sl (k := 7) rfl).tup)]
        refine CallD.t (F_laws_eqMeander_w (fu := fu) (S80.sl (k := 3) rfl) (S80.sl (k := 4) rfl) (S80.sl (k := 6) rfl) (S80.sl (k := 7) rfl) hc84) ?_
        rintro _ G86 ⟨a89, rfl, S90⟩
        have A88 := A81.ext (hB.le A81.1) a89.agree
        have S87 : Sep G86 (Fr H) [AL.box p4 [v0_0, v0_1], rowsP c26_u0 28 3 c26_C0 r3.1, AL.box p43 [c34_u0, c34_u1], flat c34_u0 3 (ints r4.1), flat c34_u1 3 (ints r4.2), rowsP c54_u0 28 3 c54_C0 r5.1, flat c78_u0 3 (ints r7.1), flat c78_u1 3 (ints r7.2)] := S80.app a89.agree S90 (fun _ h => h) (hB.le A81.1)
        simp [-aBin', -aBin, -aBinI, -aUn, -aNil, -flatV, n_fn, b_add, b_sub, b_mul, b_lt, b_le, b_gt, b_ge, b_eq, b_ne, u_not, ej73_1, ej73_4, ej73_5, ej73_6, ej73_7, ej73_8, ej73_40, q75, q76, a82.pre, a89.pre]
        apply hK
        clear hK K
        simp only [andThen, leaves]
        refine DWp.cond' (t := (bnot r8)) (by simp [ej73_1, ej73_4, ej73_5, ej73_6, ej73_7, ej73_8, ej73_40]) (fun hb91 => ?_) (fun hb91 => ?_)
        · replace hF := cd_t hb91 hF
          refine DWp.seq ?_
          refine DWp.region fun K hK => ?_
          simp [-aBin', -aBin, -aBinI, -aUn, -aNil, -flatV, n_fn, b_add, b_sub, b_mul, b_lt, b_le, b_gt, b_ge, b_eq, b_ne, u_not, ej73_1, ej73_4, ej73_5, ej73_6, ej73_7, ej73_8, ej73_40]
          apply hK
          clear hK K
          simp only [andThen, leaves]
          refine DWp.ret ?_
          simp only [andThen, leaves]
          obtain rfl := Option.some.inj hF
          exact ⟨by simp, [(Value.bool false)], by simp [ej73_1, ej73_4, ej73_5, ej73_6, ej73_7, ej73_8, ej73_40], A88, rfl, S87.pick [] (by decide) rfl⟩
        · replace hF := cd_f hb91 hF
          refine DWp.skip ?_
          simp only [andThen, leaves]
          refine DWp.seq ?_
          refine DWp.region fun K hK => ?_
          simp [-aBin', -aBin, -aBinI, -aUn, -aNil, -flatV, n_fn, b_add, b_sub, b_mul, b_lt, b_le, b_gt, b_ge, b_eq, b_ne, u_not, ej73_1, ej73_4, ej73_5, ej73_6, ej73_7, ej73_8, ej73_40]
          apply hK
          clear hK K
          simp only [andThen, leaves]
          refine DWp.seq ?_
          have q92 := S87.loadAgg (P := Try.prog) (k := 2) rfl sz_28 ag_28 rfl
          obtain ⟨r9, hc93, hF⟩ := bd_some hF
          refine DWp.region fun K hK => ?_
          simp [-aBin', -aBin, -aBinI, -aUn, -aNil, -flatV, n_fn, b_add, b_sub, b_mul, b_lt, b_le, b_gt, b_ge, b_eq, b_ne, u_not, ej73_1, ej73_4, ej73_5, ej73_6, ej73_7, ej73_8, ej73_40, q92, ((S87.sl (k := 3) rfl).tup), ((S87.sl (k := 4) rfl).tup)]
          have S94 : Sep G86 (Fr H) ([flat c34_u0 3 (ints r4.1), flat c34_u1 3 (ints r4.2)] ++ [AL.box p4 [v0_0, v0_1], rowsP c26_u0 28 3 c26_C0 r3.1, AL.box p43 [c34_u0, c34_u1], rowsP c54_u0 28 3 c54_C0 r5.1, flat c78_u0 3 (ints r7.1), flat c78_u1 3 (ints r7.2)]) := S87.pick [3, 4, 0, 1, 2, 5, 6, 7] (by decide) rfl
          obtain ⟨B100, S95, U96, M97, R98, C99⟩ := S94.frame (hB.le A88.1)
          refine CallD.t (F_laws_markMeander_w (fu := fu) U96 S95 hc93) ?_
          rintro _ G102 ⟨a105, rfl, S106⟩
          have A104 := A88.trans (a105.mono M97)
          have S103 : Sep G102 (Fr H) [flat c34_u0 3 (ints r9.2.1), flat c34_u1 3 (ints r9.2.2), AL.box p4 [v0_0, v0_1], rowsP c26_u0 28 3 c26_C0 r3.1, AL.box p43 [c34_u0, c34_u1], rowsP c54_u0 28 3 c54_C0 r5.1, flat c78_u0 3 (ints r7.1), flat c78_u1 3 (ints r7.2)] := C99 _ _ a105 S106
          simp [-aBin', -aBin, -aBinI, -aUn, -aNil, -flatV, n_fn, b_add, b_sub, b_mul, b_lt, b_le, b_gt, b_ge, b_eq, b_ne, u_not, ej73_1, ej73_4, ej73_5, ej73_6, ej73_7, ej73_8, ej73_40, q92]
          apply hK
          clear hK K
          simp only [andThen, leaves]
          refine DWp.seq ?_
          obtain ⟨s107, hL108, hF⟩ := bd_some hF
          refine DWp.seq (DWp.join (fun env G => Sep G (Fr H) [AL.box p4 [v0_0, v0_1], rowsP c26_u0 28 3 c26_C0 r3.1, rowsP c54_u0 28 3 c54_C0 r5.1] ∧ AgB (Fr H) H G ∧ env 1 = some p4 ∧ env 4 = some c26_u0 ∧ env 5 = some (Value.bool r3.2) ∧ env 7 = some c54_u0 ∧ env 61 = some (Value.bool s107)) ?_ ?_)
          ·
            rcases Bool.eq_false_or_eq_true (ilt r9.1 0) with hb110 | hb110
            · replace hL108 := cd_t hb110 hL108
              refine DWp.region fun K hK => ?_
              simp [-aBin', -aBin, -aBinI, -aUn, -aNil, -flatV, n_fn, b_add, b_sub, b_mul, b_lt, b_le, b_gt, b_ge, b_eq, b_ne, u_not, ej73_1, ej73_4, ej73_5, ej73_6, ej73_7, ej73_8, ej73_40, hb110]
              apply hK
              clear hK K
              simp only [andThen, leaves]
              have S111 := S103.pick [2, 3, 5] (by decide) rfl
              obtain rfl := Option.some.inj hL108
              exact ⟨S111, A104, by simp [ej73_1, ej73_4, ej73_5, ej73_6, ej73_7, ej73_8, ej73_40], by simp [ej73_1, ej73_4, ej73_5, ej73_6, ej73_7, ej73_8, ej73_40], by simp [ej73_1, ej73_4, ej73_5, ej73_6, ej73_7, ej73_8, ej73_40], by simp [ej73_1, ej73_4, ej73_5, ej73_6, ej73_7, ej73_8, ej73_40], by simp [ej73_1, ej73_4, ej73_5, ej73_6, ej73_7, ej73_8, ej73_40]⟩
            · replace hL108 := cd_f hb110 hL108
              obtain ⟨r10, hc112, hL108⟩ := bd_some hL108
              refine DWp.region fun K hK => ?_
              simp [-aBin', -aBin, -aBinI, -aUn, -aNil, -flatV, n_fn, b_add, b_sub, b_mul, b_lt, b_le, b_gt, b_ge, b_eq, b_ne, u_not, ej73_1, ej73_4, ej73_5, ej73_6, ej73_7, ej73_8, ej73_40, hb110, ((S103.rdP (k := 5) rfl).tup), ((S103.rdP (k := 3) rfl).tup)]
              refine CallD.t (F_laws_eqMeanderS_w (fu := fu) ⟨_, (S103.rdP (k := 5) rfl)⟩ ⟨_, (S103.rdP (k := 3) rfl)⟩ hc112) ?_
              rintro _ G114 ⟨a117, rfl, S118⟩
              have A116 := A104.ext (hB.le A104.1) a117.agree
              have S115 : Sep G114 (Fr H) [flat c34_u0 3 (ints r9.2.1), flat c34_u1 3 (ints r9.2.2), AL.box p4 [v0_0, v0_1], rowsP c26_u0 28 3 c26_C0 r3.1, AL.box p43 [c34_u0, c34_u1], rowsP c54_u0 28 3 c54_C0 r5.1, flat c78_u0 3 (ints r7.1), flat c78_u1 3 (ints r7.2)] := S103.app a117.agree S118 (fun _ h => h) (hB.le A104.1)
              rcases Bool.eq_false_or_eq_true (bnot r10) with hb119 | hb119
              · replace hL108 := cd_t hb119 hL108
                simp [-aBin', -aBin, -aBinI, -aUn, -aNil, -flatV, n_fn, b_add, b_sub, b_mul, b_lt, b_le, b_gt, b_ge, b_eq, b_ne, u_not, ej73_1, ej73_4, ej73_5, ej73_6, ej73_7, ej73_8, ej73_40, hb110, hb119, a117.pre]
                apply hK
                clear hK K
                simp only [andThen, leaves]
                have S120 := S115.pick [2, 3, 5] (by decide) rfl
                obtain rfl := Option.some.inj hL108
                exact ⟨S120, A116, by simp [ej73_1, ej73_4, ej73_5, ej73_6, ej73_7, ej73_8, ej73_40], by simp [ej73_1, ej73_4, ej73_5, ej73_6, ej73_7, ej73_8, ej73_40], by simp [ej73_1, ej73_4, ej73_5, ej73_6, ej73_7, ej73_8, ej73_40], by simp [ej73_1, ej73_4, ej73_5, ej73_6, ej73_7, ej73_8, ej73_40], by simp [ej73_1, ej73_4, ej73_5, ej73_6, ej73_7, ej73_8, ej73_40]⟩
              · replace hL108 := cd_f hb119 hL108
                simp [-aBin', -aBin, -aBinI, -aUn, -aNil, -flatV, n_fn, b_add, b_sub, b_mul, b_lt, b_le, b_gt, b_ge, b_eq, b_ne, u_not, ej73_1, ej73_4, ej73_5, ej73_6, ej73_7, ej73_8, ej73_40, hb110, hb119, a117.pre, b_bne un_4]
                apply hK
                clear hK K
                simp only [andThen, leaves]
                have S121 := S115.pick [2, 3, 5] (by decide) rfl
                obtain rfl := Option.some.inj hL108
                exact ⟨S121, A116, by simp [ej73_1, ej73_4, ej73_5, ej73_6, ej73_7, ej73_8, ej73_40], by simp [ej73_1, ej73_4, ej73_5, ej73_6, ej73_7, ej73_8, ej73_40], by simp [ej73_1, ej73_4, ej73_5, ej73_6, ej73_7, ej73_8, ej73_40], by simp [ej73_1, ej73_4, ej73_5, ej73_6, ej73_7, ej73_8, ej73_40], by simp [ej73_1, ej73_4, ej73_5, ej73_6, ej73_7, ej73_8, ej73_40]⟩
          · rintro env Gj122 ⟨Sj122, Aj122, ej122_1, ej122_4, ej122_5, ej122_7, ej122_61⟩
            refine DWp.cond' (t := s107) (by simp [ej122_1, ej122_4, ej122_5, ej122_7, ej122_61]) (fun hb123 => ?_) (fun hb123 => ?_)
            · replace hF := cd_t hb123 hF
              refine DWp.seq ?_
              refine DWp.region fun K hK => ?_
              simp [-aBin', -aBin, -aBinI, -aUn, -aNil, -flatV, n_fn, b_add, b_sub, b_mul, b_lt, b_le, b_gt, b_ge, b_eq, b_ne, u_not, ej122_1, ej122_4, ej122_5, ej122_7, ej122_61]
              apply hK
              clear hK K
              simp only [andThen, leaves]
              refine DWp.ret ?_
              simp only [andThen, leaves]
              obtain rfl := Option.some.inj hF
              exact ⟨by simp, [(Value.bool false)], by simp [ej122_1, ej122_4, ej122_5, ej122_7, ej122_61], Aj122, rfl, Sj122.pick [] (by decide) rfl⟩
            · replace hF := cd_f hb123 hF
              refine DWp.skip ?_
              simp only [andThen, leaves]
              refine DWp.seq ?_
              refine DWp.region fun K hK => ?_
              simp [-aBin', -aBin, -aBinI, -aUn, -aNil, -flatV, n_fn, b_add, b_sub, b_mul, b_lt, b_le, b_gt, b_ge, b_eq, b_ne, u_not, ej122_1, ej122_4, ej122_5, ej122_7, ej122_61]
              apply hK
              clear hK K
              simp only [andThen, leaves]
              refine DWp.seq ?_
              obtain ⟨r11, hc124, hF⟩ := bd_some hF
              refine DWp.region fun K hK => ?_
              simp [-aBin', -aBin, -aBinI, -aUn, -aNil, -flatV, n_fn, b_add, b_sub, b_mul, b_lt, b_le, b_gt, b_ge, b_eq, b_ne, u_not, ej122_1, ej122_4, ej122_5, ej122_7, ej122_61, ((Sj122.rdP (k := 2) rfl).tup)]
              have S125 : Sep Gj122 (Fr H) ([rowsP c54_u0 28 3 c54_C0 r5.1] ++ [AL.box p4 [v0_0, v0_1], rowsP c26_u0 28 3 c26_C0 r3.1]) := Sj122.pick [2, 0, 1] (by decide) rfl
              obtain ⟨B131, S126, U127, M128, R129, C130⟩ := S125.frame (hB.le Aj122.1)
              refine CallD.t (F_laws_markMeanderS_w (fu := fu) U127 S126 hc124) ?_
              rintro _ G133 ⟨a136, rfl, S137⟩
              have A135 := Aj122.trans (a136.mono M128)
              have S134 : Sep G133 (Fr H) [rowsP c54_u0 28 3 c54_C0 r11.2, AL.box p4 [v0_0, v0_1], rowsP c26_u0 28 3 c26_C0 r3.1] := C130 _ _ a136 S137
              simp [-aBin', -aBin, -aBinI, -aUn, -aNil, -flatV, n_fn, b_add, b_sub, b_mul, b_lt, b_le, b_gt, b_ge, b_eq, b_ne, u_not, ej122_1, ej122_4, ej122_5, ej122_7, ej122_61]
              apply hK
              clear hK K
              simp only [andThen, leaves]
              refine DWp.seq ?_
              refine DWp.region fun K hK => ?_
              simp [-aBin', -aBin, -aBinI, -aUn, -aNil, -flatV, n_fn, b_add, b_sub, b_mul, b_lt, b_le, b_gt, b_ge, b_eq, b_ne, u_not, ej122_1, ej122_4, ej122_5, ej122_7, ej122_61]
              apply hK
              clear hK K
              simp only [andThen, leaves]
              refine DWp.seq ?_
              obtain ⟨r12, hc138, hF⟩ := bd_some hF
              refine DWp.region fun K hK => ?_
              simp [-aBin', -aBin, -aBinI, -aUn, -aNil, -flatV, n_fn, b_add, b_sub, b_mul, b_lt, b_le, b_gt, b_ge, b_eq, b_ne, u_not, ej122_1, ej122_4, ej122_5, ej122_7, ej122_61, ((S134.rdP (k := 0) rfl).tup)]
              refine CallD.t (F_laws_heldMeanderS_w (fu := fu) ⟨_, (S134.rdP (k := 0) rfl)⟩ hc138) ?_
              rintro _ G140 ⟨a143, rfl, S144⟩
              have A142 := A135.ext (hB.le A135.1) a143.agree
              have S141 : Sep G140 (Fr H) [rowsP c54_u0 28 3 c54_C0 r11.2, AL.box p4 [v0_0, v0_1], rowsP c26_u0 28 3 c26_C0 r3.1] := S134.app a143.agree S144 (fun _ h => h) (hB.le A135.1)
              simp [-aBin', -aBin, -aBinI, -aUn, -aNil, -flatV, n_fn, b_add, b_sub, b_mul, b_lt, b_le, b_gt, b_ge, b_eq, b_ne, u_not, ej122_1, ej122_4, ej122_5, ej122_7, ej122_61, a143.pre]
              apply hK
              clear hK K
              simp only [andThen, leaves]
              refine DWp.seq ?_
              refine DWp.seq ?_
              refine DWp.region fun K hK => ?_
              simp [-aBin', -aBin, -aBinI, -aUn, -aNil, -flatV, n_fn, b_add, b_sub, b_mul, b_lt, b_le, b_gt, b_ge, b_eq, b_ne, u_not, ej122_1, ej122_4, ej122_5, ej122_7, ej122_61]
              apply hK
              clear hK K
              simp only [andThen, leaves]
              refine DWp.cond' (t := (ilt r12 0)) (by simp [ej122_1, ej122_4, ej122_5, ej122_7, ej122_61]) (fun hb145 => ?_) (fun hb145 => ?_)
              · replace hF := cd_t hb145 hF
                refine DWp.seq ?_
                refine DWp.region fun K hK => ?_
                simp [-aBin', -aBin, -aBinI, -aUn, -aNil, -flatV, n_fn, b_add, b_sub, b_mul, b_lt, b_le, b_gt, b_ge, b_eq, b_ne, u_not, ej122_1, ej122_4, ej122_5, ej122_7, ej122_61]
                apply hK
                clear hK K
                simp only [andThen, leaves]
                refine DWp.ret ?_
                simp only [andThen, leaves]
                obtain rfl := Option.some.inj hF
                exact ⟨by simp, [(Value.bool false)], by simp [ej122_1, ej122_4, ej122_5, ej122_7, ej122_61], A142, rfl, S141.pick [] (by decide) rfl⟩
              · replace hF := cd_f hb145 hF
                refine DWp.skip ?_
                simp only [andThen, leaves]
                refine DWp.seq ?_
                refine DWp.seq ?_
                refine DWp.region fun K hK => ?_
                simp [-aBin', -aBin, -aBinI, -aUn, -aNil, -flatV, n_fn, b_add, b_sub, b_mul, b_lt, b_le, b_gt, b_ge, b_eq, b_ne, u_not, ej122_1, ej122_4, ej122_5, ej122_7, ej122_61]
                apply hK
                clear hK K
                simp only [andThen, leaves]
                refine DWp.cond' (t := (ine r12 r11.1)) (by simp [ej122_1, ej122_4, ej122_5, ej122_7, ej122_61]) (fun hb146 => ?_) (fun hb146 => ?_)
                · replace hF := cd_t hb146 hF
                  refine DWp.seq ?_
                  refine DWp.region fun K hK => ?_
                  simp [-aBin', -aBin, -aBinI, -aUn, -aNil, -flatV, n_fn, b_add, b_sub, b_mul, b_lt, b_le, b_gt, b_ge, b_eq, b_ne, u_not, ej122_1, ej122_4, ej122_5, ej122_7, ej122_61]
                  apply hK
                  clear hK K
                  simp only [andThen, leaves]
                  refine DWp.ret ?_
                  simp only [andThen, leaves]
                  obtain rfl := Option.some.inj hF
                  exact ⟨by simp, [(Value.bool false)], by simp [ej122_1, ej122_4, ej122_5, ej122_7, ej122_61], A142, rfl, S141.pick [] (by decide) rfl⟩
                · replace hF := cd_f hb146 hF
                  refine DWp.skip ?_
                  simp only [andThen, leaves]
                  refine DWp.seq ?_
                  have q147 := S141.loadAgg (P := Try.prog) (k := 1) rfl sz_24 ag_24 rfl
                  obtain ⟨r13, hc148, hF⟩ := bd_some hF
                  refine DWp.region fun K hK => ?_
                  simp [-aBin', -aBin, -aBinI, -aUn, -aNil, -flatV, n_fn, b_add, b_sub, b_mul, b_lt, b_le, b_gt, b_ge, b_eq, b_ne, u_not, ej122_1, ej122_4, ej122_5, ej122_7, ej122_61, q147, ((hx0_0.agree A142.agree).tup), ((hx0_1.agree A142.agree).tup)]
                  refine CallD.t (F_laws_toMeander_w (fu := fu) (hx0_0.agree A142.agree) (hx0_1.agree A142.agree) hc148) ?_
                  rintro _ G150 ⟨a153, c149_u0, c149_u1, rfl, S154⟩
                  have A152 := A142.ext (hB.le A142.1) a153.agree
                  have S151 : Sep G150 (Fr H) [rowsP c54_u0 28 3 c54_C0 r11.2, AL.box p4 [v0_0, v0_1], rowsP c26_u0 28 3 c26_C0 r3.1, flat c149_u0 3 (ints r13.1), flat c149_u1 3 (ints r13.2)] := S141.app a153.agree S154 (fun _ h => h) (hB.le A142.1)
                  obtain ⟨r14, hc155, hF⟩ := bd_some hF
                  simp [-aBin', -aBin, -aBinI, -aUn, -aNil, -flatV, n_fn, b_add, b_sub, b_mul, b_lt, b_le, b_gt, b_ge, b_eq, b_ne, u_not, ej122_1, ej122_4, ej122_5, ej122_7, ej122_61, q147, a153.pre, ((S151.sl (k := 3) rfl).tup), ((S151.sl (k := 4) rfl).tup)]
                  refine CallD.t (F_impl_PiecesBack_w (fu := fu) (S151.sl (k := 3) rfl) (S151.sl (k := 4) rfl) hc155) ?_
                  rintro _ G157 ⟨a160, c156_u0, c156_C0, rfl, S161⟩
                  have A159 := A152.ext (hB.le A152.1) a160.agree
                  have S158 : Sep G157 (Fr H) [rowsP c54_u0 28 3 c54_C0 r11.2, AL.box p4 [v0_0, v0_1], rowsP c26_u0 28 3 c26_C0 r3.1, flat c149_u0 3 (ints r13.1), flat c149_u1 3 (ints r13.2), rowsP c156_u0 28 3 c156_C0 r14.1] := S151.app a160.agree S161 (fun _ h => h) (hB.le A152.1)
                  simp [-aBin', -aBin, -aBinI, -aUn, -aNil, -flatV, n_fn, b_add, b_sub, b_mul, b_lt, b_le, b_gt, b_ge, b_eq, b_ne, u_not, ej122_1, ej122_4, ej122_5, ej122_7, ej122_61, q147, a153.pre, a160.pre]
                  apply hK
                  clear hK K
                  simp only [andThen, leaves]
                  refine DWp.seq ?_
                  obtain ⟨s162, hL163, hF⟩ := bd_some hF
                  refine DWp.seq (DWp.join (fun env G => Sep G (Fr H) [rowsP c54_u0 28 3 c54_C0 r11.2] ∧ AgB (Fr H) H G ∧ env 7 = some c54_u0 ∧ env 10 = some (Value.int .i64 r11.1) ∧ env 87 = some (Value.bool s162)) ?_ ?_)
                  ·
                    obtain ⟨r15, hc165, hL163⟩ := bd_some hL163
                    refine DWp.region fun K hK => ?_
                    simp [-aBin', -aBin, -aBinI, -aUn, -aNil, -flatV, n_fn, b_add, b_sub, b_mul, b_lt, b_le, b_gt, b_ge, b_eq, b_ne, u_not, ej122_1, ej122_4, ej122_5, ej122_7, ej122_61, ((S158.rdP (k := 5) rfl).tup), ((S158.rdP (k := 2) rfl).tup)]
                    refine CallD.t (F_laws_eqMeanderS_w (fu := fu) ⟨_, (S158.rdP (k := 5) rfl)⟩ ⟨_, (S158.rdP (k := 2) rfl)⟩ hc165) ?_
                    rintro _ G167 ⟨a170, rfl, S171⟩
                    have A169 := A159.ext (hB.le A159.1) a170.agree
                    have S168 : Sep G167 (Fr H) [rowsP c54_u0 28 3 c54_C0 r11.2, AL.box p4 [v0_0, v0_1], rowsP c26_u0 28 3 c26_C0 r3.1, flat c149_u0 3 (ints r13.1), flat c149_u1 3 (ints r13.2), rowsP c156_u0 28 3 c156_C0 r14.1] := S158.app a170.agree S171 (fun _ h => h) (hB.le A159.1)
                    rcases Bool.eq_false_or_eq_true (bnot r15) with hb172 | hb172
                    · replace hL163 := cd_t hb172 hL163
                      simp [-aBin', -aBin, -aBinI, -aUn, -aNil, -flatV, n_fn, b_add, b_sub, b_mul, b_lt, b_le, b_gt, b_ge, b_eq, b_ne, u_not, ej122_1, ej122_4, ej122_5, ej122_7, ej122_61, hb172, a170.pre]
                      apply hK
                      clear hK K
                      simp only [andThen, leaves]
                      have S173 := S168.pick [0] (by decide) rfl
                      obtain rfl := Option.some.inj hL163
                      exact ⟨S173, A169, by simp [ej122_1, ej122_4, ej122_5, ej122_7, ej122_61], by simp [ej122_1, ej122_4, ej122_5, ej122_7, ej122_61], by simp [ej122_1, ej122_4, ej122_5, ej122_7, ej122_61]⟩
                    · replace hL163 := cd_f hb172 hL163
                      simp [-aBin', -aBin, -aBinI, -aUn, -aNil, -flatV, n_fn, b_add, b_sub, b_mul, b_lt, b_le, b_gt, b_ge, b_eq, b_ne, u_not, ej122_1, ej122_4, ej122_5, ej122_7, ej122_61, hb172, a170.pre, b_bne un_4]
                      apply hK
                      clear hK K
                      simp only [andThen, leaves]
                      have S174 := S168.pick [0] (by decide) rfl
                      obtain rfl := Option.some.inj hL163
                      exact ⟨S174, A169, by simp [ej122_1, ej122_4, ej122_5, ej122_7, ej122_61], by simp [ej122_1, ej122_4, ej122_5, ej122_7, ej122_61], by simp [ej122_1, ej122_4, ej122_5, ej122_7, ej122_61]⟩
                  · rintro env Gj175 ⟨Sj175, Aj175, ej175_7, ej175_10, ej175_87⟩
                    refine DWp.cond' (t := s162) (by simp [ej175_7, ej175_10, ej175_87]) (fun hb176 => ?_) (fun hb176 => ?_)
                    · replace hF := cd_t hb176 hF
                      refine DWp.seq ?_
                      refine DWp.region fun K hK => ?_
                      simp [-aBin', -aBin, -aBinI, -aUn, -aNil, -flatV, n_fn, b_add, b_sub, b_mul, b_lt, b_le, b_gt, b_ge, b_eq, b_ne, u_not, ej175_7, ej175_10, ej175_87]
                      apply hK
                      clear hK K
                      simp only [andThen, leaves]
                      refine DWp.ret ?_
                      simp only [andThen, leaves]
                      obtain rfl := Option.some.inj hF
                      exact ⟨by simp, [(Value.bool false)], by simp [ej175_7, ej175_10, ej175_87], Aj175, rfl, Sj175.pick [] (by decide) rfl⟩
                    · replace hF := cd_f hb176 hF
                      refine DWp.skip ?_
                      simp only [andThen, leaves]
                      refine DWp.seq ?_
                      refine DWp.region fun K hK => ?_
                      simp [-aBin', -aBin, -aBinI, -aUn, -aNil, -flatV, n_fn, b_add, b_sub, b_mul, b_lt, b_le, b_gt, b_ge, b_eq, b_ne, u_not, ej175_7, ej175_10, ej175_87]
                      apply hK
                      clear hK K
                      simp only [andThen, leaves]
                      refine DWp.seq ?_
                      obtain ⟨r16, hc177, hF⟩ := bd_some hF
                      refine DWp.region fun K hK => ?_
                      simp [-aBin', -aBin, -aBinI, -aUn, -aNil, -flatV, n_fn, b_add, b_sub, b_mul, b_lt, b_le, b_gt, b_ge, b_eq, b_ne, u_not, ej175_7, ej175_10, ej175_87, ((Sj175.rdP (k := 0) rfl).tup)]
                      refine CallD.t (F_laws_heldMeanderS_w (fu := fu) ⟨_, (Sj175.rdP (k := 0) rfl)⟩ hc177) ?_
                      rintro _ G179 ⟨a182, rfl, S183⟩
                      have A181 := Aj175.ext (hB.le Aj175.1) a182.agree
                      have S180 : Sep G179 (Fr H) [rowsP c54_u0 28 3 c54_C0 r11.2] := Sj175.app a182.agree S183 (fun _ h => h) (hB.le Aj175.1)
                      simp [-aBin', -aBin, -aBinI, -aUn, -aNil, -flatV, n_fn, b_add, b_sub, b_mul, b_lt, b_le, b_gt, b_ge, b_eq, b_ne, u_not, ej175_7, ej175_10, ej175_87, a182.pre]
                      apply hK
                      clear hK K
                      simp only [andThen, leaves]
                      refine DWp.seq ?_
                      refine DWp.seq ?_
                      refine DWp.region fun K hK => ?_
                      simp [-aBin', -aBin, -aBinI, -aUn, -aNil, -flatV, n_fn, b_add, b_sub, b_mul, b_lt, b_le, b_gt, b_ge, b_eq, b_ne, u_not, ej175_7, ej175_10, ej175_87]
                      apply hK
                      clear hK K
                      simp only [andThen, leaves]
                      refine DWp.cond' (t := (ilt r16 0)) (by simp [ej175_7, ej175_10, ej175_87]) (fun hb184 => ?_) (fun hb184 => ?_)
                      · replace hF := cd_t hb184 hF
                        refine DWp.seq ?_
                        refine DWp.region fun K hK => ?_
                        simp [-aBin', -aBin, -aBinI, -aUn, -aNil, -flatV, n_fn, b_add, b_sub, b_mul, b_lt, b_le, b_gt, b_ge, b_eq, b_ne, u_not, ej175_7, ej175_10, ej175_87]
                        apply hK
                        clear hK K
                        simp only [andThen, leaves]
                        refine DWp.ret ?_
                        simp only [andThen, leaves]
                        obtain rfl := Option.some.inj hF
                        exact ⟨by simp, [(Value.bool false)], by simp [ej175_7, ej175_10, ej175_87], A181, rfl, S180.pick [] (by decide) rfl⟩
                      · replace hF := cd_f hb184 hF
                        refine DWp.skip ?_
                        simp only [andThen, leaves]
                        refine DWp.seq ?_
                        refine DWp.seq ?_
                        refine DWp.region fun K hK => ?_
                        simp [-aBin', -aBin, -aBinI, -aUn, -aNil, -flatV, n_fn, b_add, b_sub, b_mul, b_lt, b_le, b_gt, b_ge, b_eq, b_ne, u_not, ej175_7, ej175_10, ej175_87]
                        apply hK
                        clear hK K
                        simp only [andThen, leaves]
                        refine DWp.cond' (t := (ine r16 r11.1)) (by simp [ej175_7, ej175_10, ej175_87]) (fun hb185 => ?_) (fun hb185 => ?_)
                        · replace hF := cd_t hb185 hF
                          refine DWp.seq ?_
                          refine DWp.region fun K hK => ?_
                          simp [-aBin', -aBin, -aBinI, -aUn, -aNil, -flatV, n_fn, b_add, b_sub, b_mul, b_lt, b_le, b_gt, b_ge, b_eq, b_ne, u_not, ej175_7, ej175_10, ej175_87]
                          apply hK
                          clear hK K
                          simp only [andThen, leaves]
                          refine DWp.ret ?_
                          simp only [andThen, leaves]
                          obtain rfl := Option.some.inj hF
                          exact ⟨by simp, [(Value.bool false)], by simp [ej175_7, ej175_10, ej175_87], A181, rfl, S180.pick [] (by decide) rfl⟩
                        · replace hF := cd_f hb185 hF
                          refine DWp.skip ?_
                          simp only [andThen, leaves]
                          refine DWp.seq ?_
                          refine DWp.region fun K hK => ?_
                          simp [-aBin', -aBin, -aBinI, -aUn, -aNil, -flatV, n_fn, b_add, b_sub, b_mul, b_lt, b_le, b_gt, b_ge, b_eq, b_ne, u_not, ej175_7, ej175_10, ej175_87]
                          apply hK
                          clear hK K
                          simp only [andThen, leaves]
                          refine DWp.ret ?_
                          obtain rfl := Option.some.inj hF
                          exact ⟨by simp, [(Value.bool true)], by simp [ej175_7, ej175_10, ej175_87], A181, rfl, S180.pick [] (by decide) rfl⟩
end Go.Proofs.Ytbckijeffiofdaa.AL

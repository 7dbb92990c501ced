/- The walks of functions, each with its Lean function: laws.eqSeaweed, laws.FnExactCountBoth, spec.IndexOf, impl.IndexOf, laws.FnExactIndexOf, spec.CyclesOf, impl.CyclesOf, laws.eqIntSS, laws.markSeaweed, laws.markIntSS. No condition. -/
import Derived.Test.YtfccbmpfnonjiaaG1
import Derived.Test.YtfccbmpfnonjiaaG2
import Derived.Test.YtfccbmpfnonjiaaG3
import Derived.Test.YtfccbmpfnonjiaaG4
import Derived.Test.YtfccbmpfnonjiaaGSort
import Derived.Test.YtfccbmpfnonjiaaAL31
import Derived.Test.YtfccbmpfnonjiaaProg
import Derived.KernelRfl
namespace Go.Proofs.Ytfccbmpfnonjiaa.AL
open Go Go.RowKit
set_option linter.unusedVariables false
set_option linter.unusedSimpArgs false
set_option maxRecDepth 4096
theorem ag_24 : aggT Try.prog 24 = some true := by kernel_rfl
theorem sz_24 : sizeT Try.prog 24 = some 2 := by kernel_rfl
/-! loop.example/g01126/laws.eqSeaweed -/
def F_laws_eqSeaweed (fu : Nat) (x0_0 : List Int) (x0_1 : List Int) (x1_0 : List Int) (x1_1 : List Int) : Option (Bool) :=
  bd (F_laws_eqIntS fu x0_0 x1_0) fun r1 =>
  bif (bnot r1) then
    some false
  else
    bd (F_laws_eqIntS fu x0_1 x1_1) fun r2 =>
    bif (bnot r2) then
      some false
    else
      some true
theorem F_laws_eqSeaweed_w {fu : Nat} {H : AH} {v0_0 : Value} {v0_1 : Value} {v1_0 : Value} {v1_1 : Value} {x0_0 : List Int} {x0_1 : List Int} {x1_0 : List Int} {x1_1 : List Int} {r : (Bool)} (hx0_0 : Sl H v0_0 (ints x0_0)) (hx0_1 : Sl H v0_1 (ints x0_1)) (hx1_0 : Sl H v1_0 (ints x1_0)) (hx1_1 : Sl H v1_1 (ints x1_1)) (hF : F_laws_eqSeaweed fu x0_0 x0_1 x1_0 x1_1 = some r) :
    ACallT Try.prog 16 [(Value.agg #[v0_0, v0_1]), (Value.agg #[v1_0, v1_1])] H (fun u G => AgB (Fr H) H G ∧ u = (Value.bool r) ∧ Sep G (Fr H) []) := by
  refine ACallT.of_body (nt := 17) (rs := [.tmp 4]) Try.func16 rfl rfl rfl rfl ?_
  have A0 : AgB (Fr H) H H := .refl _ _
  have S0 : Sep H (Fr H) [] := .nil
  have hB := Fr.up H
  unfold F_laws_eqSeaweed at hF
  refine DWp.seq ?_
  obtain ⟨G2, p4, q5, q6, a7, S1⟩ := S0.boxT (hB.le A0.1) 26 [v0_0, v0_1]
  have A3 := A0.ext (hB.le A0.1) a7
  replace S1 : Sep G2 (Fr H) [AL.box p4 [v0_0, v0_1]] := S1
  obtain ⟨G9, p11, q12, q13, a14, S8⟩ := S1.boxT (hB.le A3.1) 26 [v1_0, v1_1]
  have A10 := A3.ext (hB.le A3.1) a14
  replace S8 : Sep G9 (Fr H) [AL.box p4 [v0_0, v0_1], AL.box p11 [v1_0, v1_1]] := S8
  refine DWp.region fun K hK => ?_
  simp [-aBin', -aBin, -aBinI, -aUn, -aNil, -flatV, n_fn, b_add, b_sub, b_mul, b_lt, b_le, b_gt, b_ge, b_eq, b_ne, u_not, q5, q6, a7.to_pre, cells_agg, q12, q13, a14.to_pre]
  apply hK
  clear hK K
  simp only [andThen, leaves]
  refine DWp.seq ?_
  refine DWp.seq ?_
  have q15 := S8.fieldT (P := Try.prog) (k := 0) rfl fa_26_0
  have q16 := S8.loadF (P := Try.prog) (k := 0) rfl sz_22 ag_22 (off := 0) rfl
  have q17 := S8.fieldT (P := Try.prog) (k := 1) rfl fa_26_0
  have q18 := S8.loadF (P := Try.prog) (k := 1) rfl sz_22 ag_22 (off := 0) rfl
  obtain ⟨r1, hc19, hF⟩ := bd_some hF
  refine DWp.region fun K hK => ?_
  simp [-aBin', -aBin, -aBinI, -aUn, -aNil, -flatV, n_fn, b_add, b_sub, b_mul, b_lt, b_le, b_gt, b_ge, b_eq, b_ne, u_not, q15, q16, q17, q18, ((hx0_0.agree A10.agree).tup), ((hx1_0.agree A10.agree).tup)]
  refine CallD.t (F_laws_eqIntS_w (fu := fu) (hx0_0.agree A10.agree) (hx1_0.agree A10.agree) hc19) ?_
  rintro _ G21 ⟨a24, rfl, S25⟩
  have A23 := A10.ext (hB.le A10.1) a24.agree
  have S22 : Sep G21 (Fr H) [AL.box p4 [v0_0, v0_1], AL.box p11 [v1_0, v1_1]] := S8.app a24.agree S25 (fun _ h => h) (hB.le A10.1)
  simp [-aBin', -aBin, -aBinI, -aUn, -aNil, -flatV, n_fn, b_add, b_sub, b_mul, b_lt, b_le, b_gt, b_ge, b_eq, b_ne, u_not, q15, q16, q17, q18, a24.pre]
  apply hK
  clear hK K
  simp only [andThen, leaves]
  refine DWp.cond' (t := (bnot r1)) (by simp []) (fun hb26 => ?_) (fun hb26 => ?_)
  · replace hF := cd_t hb26 hF
    refine DWp.seq ?_
    refine DWp.region fun K hK => ?_
    simp [-aBin', -aBin, -aBinI, -aUn, -aNil, -flatV, n_fn, b_add, b_sub, b_mul, b_lt, b_le, b_gt, b_ge, b_eq, b_ne, u_not]
    apply hK
    clear hK K
    simp only [andThen, leaves]
    refine DWp.ret ?_
    simp only [andThen, leaves]
    obtain rfl := Option.some.inj hF
    exact ⟨by simp, [(Value.bool false)], by simp [], A23, rfl, S22.pick [] (by decide) rfl⟩
  · replace hF := cd_f hb26 hF
    refine DWp.skip ?_
    simp only [andThen, leaves]
    refine DWp.seq ?_
    refine DWp.seq ?_
    have q27 := S22.fieldT (P := Try.prog) (k := 0) rfl fa_26_1
    have q28 := S22.loadF (P := Try.prog) (k := 0) rfl sz_22 ag_22 (off := 1) rfl
    have q29 := S22.fieldT (P := Try.prog) (k := 1) rfl fa_26_1
    have q30 := S22.loadF (P := Try.prog) (k := 1) rfl sz_22 ag_22 (off := 1) rfl
    obtain ⟨r2, hc31, hF⟩ := bd_some hF
    refine DWp.region fun K hK => ?_
    simp [-aBin', -aBin, -aBinI, -aUn, -aNil, -flatV, n_fn, b_add, b_sub, b_mul, b_lt, b_le, b_gt, b_ge, b_eq, b_ne, u_not, q27, q28, q29, q30, ((hx0_1.agree A23.agree).tup), ((hx1_1.agree A23.agree).tup)]
    refine CallD.t (F_laws_eqIntS_w (fu := fu) (hx0_1.agree A23.agree) (hx1_1.agree A23.agree) hc31) ?_
    rintro _ G33 ⟨a36, rfl, S37⟩
    have A35 := A23.ext (hB.le A23.1) a36.agree
    have S34 : Sep G33 (Fr H) [AL.box p4 [v0_0, v0_1], AL.box p11 [v1_0, v1_1]] := S22.app a36.agree S37 (fun _ h => h) (hB.le A23.1)
    simp [-aBin', -aBin, -aBinI, -aUn, -aNil, -flatV, n_fn, b_add, b_sub, b_mul, b_lt, b_le, b_gt, b_ge, b_eq, b_ne, u_not, q27, q28, q29, q30, a36.pre]
    apply hK
    clear hK K
    simp only [andThen, leaves]
    refine DWp.cond' (t := (bnot r2)) (by simp []) (fun hb38 => ?_) (fun hb38 => ?_)
    · replace hF := cd_t hb38 hF
      refine DWp.seq ?_
      refine DWp.region fun K hK => ?_
      simp [-aBin', -aBin, -aBinI, -aUn, -aNil, -flatV, n_fn, b_add, b_sub, b_mul, b_lt, b_le, b_gt, b_ge, b_eq, b_ne, u_not]
      apply hK
      clear hK K
      simp only [andThen, leaves]
      refine DWp.ret ?_
      simp only [andThen, leaves]
      obtain rfl := Option.some.inj hF
      exact ⟨by simp, [(Value.bool false)], by simp [], A35, rfl, S34.pick [] (by decide) rfl⟩
    · replace hF := cd_f hb38 hF
      refine DWp.skip ?_
      simp only [andThen, leaves]
      refine DWp.seq ?_
      refine DWp.region fun K hK => ?_
      simp [-aBin', -aBin, -aBinI, -aUn, -aNil, -flatV, n_fn, b_add, b_sub, b_mul, b_lt, b_le, b_gt, b_ge, b_eq, b_ne, u_not]
      apply hK
      clear hK K
      simp only [andThen, leaves]
      refine DWp.ret ?_
      obtain rfl := Option.some.inj hF
      exact ⟨by simp, [(Value.bool true)], by simp [], A35, rfl, S34.pick [] (by decide) rfl⟩
/-! loop.example/g01126/laws.FnExactCountBoth -/
def F_laws_FnExactCountBoth (fu : Nat) (x0_0 : List Int) (x0_1 : List Int) : Option (Bool) :=
  bd (F_laws_szSeaweed fu x0_0 x0_1 1048576) fun r1 =>
  bif (ilt r1 0) then
    some true
  else
    bd (F_laws_toSeaweed fu x0_0 x0_1) fun r2 =>
    bd (F_spec_CountBoth fu r2.1 r2.2) fun r3 =>
    bd (F_laws_toSeaweed fu x0_0 x0_1) fun r4 =>
    bd (F_impl_CountBoth fu r4.1 r4.2) fun r5 =>
    bd (
      bif (ine r5.1 r3.1) then
        some true
      else
        bif (ine r5.2.1 r3.2.1) then
          some true
        else
          some (bne' r5.2.2 r3.2.2)) fun s60 =>
    bif s60 then
      some false
    else
      bd (F_laws_toSeaweed fu x0_0 x0_1) fun r6 =>
      bd (F_laws_eqSeaweed fu r4.1 r4.2 r6.1 r6.2) fun r7 =>
      bif (bnot r7) then
        some false
      else
        some true
theorem F_laws_FnExactCountBoth_w {fu : Nat} {H : AH} {v0_0 : Value} {v0_1 : Value} {x0_0 : List Int} {x0_1 : List Int} {r : (Bool)} (hx0_0 : Sl H v0_0 (ints x0_0)) (hx0_1 : Sl H v0_1 (ints x0_1)) (hF : F_laws_FnExactCountBoth fu x0_0 x0_1 = some r) :
    ACallT Try.prog 7 [(Value.agg #[v0_0, v0_1])] H (fun u G => AgB (Fr H) H G ∧ u = (Value.bool r) ∧ Sep G (Fr H) []) := by
  refine ACallT.of_body (nt := 49) (rs := [.tmp 2]) Try.func7 rfl rfl rfl rfl ?_
  have A0 : AgB (Fr H) H H := .refl _ _
  have S0 : Sep H (Fr H) [] := .nil
  have hB := Fr.up H
  unfold F_laws_FnExactCountBoth at hF
  refine DWp.seq ?_
  obtain ⟨G2, p4, q5, q6, a7, S1⟩ := S0.boxT (hB.le A0.1) 24 [v0_0, v0_1]
  have A3 := A0.ext (hB.le A0.1) a7
  replace S1 : Sep G2 (Fr H) [AL.box p4 [v0_0, v0_1]] := S1
  refine DWp.region fun K hK => ?_
  simp [-aBin', -aBin, -aBinI, -aUn, -aNil, -flatV, n_fn, b_add, b_sub, b_mul, b_lt, b_le, b_gt, b_ge, b_eq, b_ne, u_not, q5, q6, a7.to_pre, cells_agg]
  apply hK
  clear hK K
  simp only [andThen, leaves]
  refine DWp.seq ?_
  refine DWp.region fun K hK => ?_
  simp [-aBin', -aBin, -aBinI, -aUn, -aNil, -flatV, n_fn, b_add, b_sub, b_mul, b_lt, b_le, b_gt, b_ge, b_eq, b_ne, u_not]
  apply hK
  clear hK K
  simp only [andThen, leaves]
  refine DWp.seq ?_
  have q8 := S1.loadAgg (P := Try.prog) (k := 0) rfl sz_24 ag_24 rfl
  obtain ⟨r1, hc9, hF⟩ := bd_some hF
  refine DWp.region fun K hK => ?_
  simp [-aBin', -aBin, -aBinI, -aUn, -aNil, -flatV, n_fn, b_add, b_sub, b_mul, b_lt, b_le, b_gt, b_ge, b_eq, b_ne, u_not, q8, ((hx0_0.agree A3.agree).tup), ((hx0_1.agree A3.agree).tup)]
  refine CallD.t (F_laws_szSeaweed_w (fu := fu) (hx0_0.agree A3.agree) (hx0_1.agree A3.agree) hc9) ?_
  rintro _ G11 ⟨a14, rfl, S15⟩
  have A13 := A3.ext (hB.le A3.1) a14.agree
  have S12 : Sep G11 (Fr H) [AL.box p4 [v0_0, v0_1]] := S1.app a14.agree S15 (fun _ h => h) (hB.le A3.1)
  simp [-aBin', -aBin, -aBinI, -aUn, -aNil, -flatV, n_fn, b_add, b_sub, b_mul, b_lt, b_le, b_gt, b_ge, b_eq, b_ne, u_not, q8, a14.pre]
  apply hK
  clear hK K
  simp only [andThen, leaves]
  refine DWp.seq ?_
  refine DWp.seq ?_
  refine DWp.region fun K hK => ?_
  simp [-aBin', -aBin, -aBinI, -aUn, -aNil, -flatV, n_fn, b_add, b_sub, b_mul, b_lt, b_le, b_gt, b_ge, b_eq, b_ne, u_not]
  apply hK
  clear hK K
  simp only [andThen, leaves]
  refine DWp.cond' (t := (ilt r1 0)) (by simp []) (fun hb16 => ?_) (fun hb16 => ?_)
  · replace hF := cd_t hb16 hF
    refine DWp.seq ?_
    refine DWp.region fun K hK => ?_
    simp [-aBin', -aBin, -aBinI, -aUn, -aNil, -flatV, n_fn, b_add, b_sub, b_mul, b_lt, b_le, b_gt, b_ge, b_eq, b_ne, u_not]
    apply hK
    clear hK K
    simp only [andThen, leaves]
    refine DWp.ret ?_
    simp only [andThen, leaves]
    obtain rfl := Option.some.inj hF
    exact ⟨by simp, [(Value.bool true)], by simp [], A13, rfl, S12.pick [] (by decide) rfl⟩
  · replace hF := cd_f hb16 hF
    refine DWp.skip ?_
    simp only [andThen, leaves]
    refine DWp.seq ?_
    have q17 := S12.loadAgg (P := Try.prog) (k := 0) rfl sz_24 ag_24 rfl
    obtain ⟨r2, hc18, hF⟩ := bd_some hF
    refine DWp.region fun K hK => ?_
    simp [-aBin', -aBin, -aBinI, -aUn, -aNil, -flatV, n_fn, b_add, b_sub, b_mul, b_lt, b_le, b_gt, b_ge, b_eq, b_ne, u_not, q17, ((hx0_0.agree A13.agree).tup), ((hx0_1.agree A13.agree).tup)]
    refine CallD.t (F_laws_toSeaweed_w (fu := fu) (hx0_0.agree A13.agree) (hx0_1.agree A13.agree) hc18) ?_
    rintro _ G20 ⟨a23, c19_u0, c19_u1, rfl, S24⟩
    have A22 := A13.ext (hB.le A13.1) a23.agree
    have S21 : Sep G20 (Fr H) [AL.box p4 [v0_0, v0_1], flat c19_u0 3 (ints r2.1), flat c19_u1 3 (ints r2.2)] := S12.app a23.agree S24 (fun _ h => h) (hB.le A13.1)
    obtain ⟨r3, hc25, hF⟩ := bd_some hF
    simp [-aBin', -aBin, -aBinI, -aUn, -aNil, -flatV, n_fn, b_add, b_sub, b_mul, b_lt, b_le, b_gt, b_ge, b_eq, b_ne, u_not, q17, a23.pre, ((S21.sl (k := 1) rfl).tup), ((S21.sl (k := 2) rfl).tup)]
    refine CallD.t (F_spec_CountBoth_w (fu := fu) (S21.sl (k := 1) rfl) (S21.sl (k := 2) rfl) hc25) ?_
    rintro _ G27 ⟨a30, rfl, S31⟩
    have A29 := A22.ext (hB.le A22.1) a30.agree
    have S28 : Sep G27 (Fr H) [AL.box p4 [v0_0, v0_1], flat c19_u0 3 (ints r2.1), flat c19_u1 3 (ints r2.2)] := S21.app a30.agree S31 (fun _ h => h) (hB.le A22.1)
    simp [-aBin', -aBin, -aBinI, -aUn, -aNil, -flatV, n_fn, b_add, b_sub, b_mul, b_lt, b_le, b_gt, b_ge, b_eq, b_ne, u_not, q17, a23.pre, a30.pre]
    apply hK
    clear hK K
    simp only [andThen, leaves]
    refine DWp.seq ?_
    have q32 := S28.loadAgg (P := Try.prog) (k := 0) rfl sz_24 ag_24 rfl
    obtain ⟨r4, hc33, hF⟩ := bd_some hF
    refine DWp.region fun K hK => ?_
    simp [-aBin', -aBin, -aBinI, -aUn, -aNil, -flatV, n_fn, b_add, b_sub, b_mul, b_lt, b_le, b_gt, b_ge, b_eq, b_ne, u_not, q32, ((hx0_0.agree A29.agree).tup), ((hx0_1.agree A29.agree).tup)]
    refine CallD.t (F_laws_toSeaweed_w (fu := fu) (hx0_0.agree A29.agree) (hx0_1.agree A29.agree) hc33) ?_
    rintro _ G35 ⟨a38, c34_u0, c34_u1, rfl, S39⟩
    have A37 := A29.ext (hB.le A29.1) a38.agree
    have S36 : Sep G35 (Fr H) [AL.box p4 [v0_0, v0_1], flat c19_u0 3 (ints r2.1), flat c19_u1 3 (ints r2.2), flat c34_u0 3 (ints r4.1), flat c34_u1 3 (ints r4.2)] := S28.app a38.agree S39 (fun _ h => h) (hB.le A29.1)
    obtain ⟨G41, p43, q44, q46, a45, S40⟩ := S36.allocT (P := Try.prog) (hB.le A37.1) ze_26 rfl
    have A42 := A37.ext (hB.le A37.1) a45
    replace S40 : Sep G41 (Fr H) [AL.box p4 [v0_0, v0_1], flat c19_u0 3 (ints r2.1), flat c19_u1 3 (ints r2.2), flat c34_u0 3 (ints r4.1), flat c34_u1 3 (ints r4.2), AL.box p43 [(Value.slice none 0 0), (Value.slice none 0 0)]] := S40
    obtain ⟨G47, q48, S49, a51⟩ := S40.putAgg (P := Try.prog) (k := 5) (xs := [c34_u0, c34_u1]) rfl (hB.le A42.1) sz_26 rfl rfl
    have A50 := A42.trans a51
    replace S49 : Sep G47 (Fr H) [AL.box p4 [v0_0, v0_1], flat c19_u0 3 (ints r2.1), flat c19_u1 3 (ints r2.2), flat c34_u0 3 (ints r4.1), flat c34_u1 3 (ints r4.2), AL.box p43 [c34_u0, c34_u1]] := S49
    simp [-aBin', -aBin, -aBinI, -aUn, -aNil, -flatV, n_fn, b_add, b_sub, b_mul, b_lt, b_le, b_gt, b_ge, b_eq, b_ne, u_not, q32, a38.pre, q44, q46, a45.to_pre, q48]
    apply hK
    clear hK K
    simp only [andThen, leaves]
    refine DWp.seq ?_
    have q52 := S49.loadAgg (P := Try.prog) (k := 5) rfl sz_26 ag_26 rfl
    obtain ⟨r5, hc53, hF⟩ := bd_some hF
    refine DWp.region fun K hK => ?_
    simp [-aBin', -aBin, -aBinI, -aUn, -aNil, -flatV, n_fn, b_add, b_sub, b_mul, b_lt, b_le, b_gt, b_ge, b_eq, b_ne, u_not, q52, ((S49.sl (k := 3) rfl).tup), ((S49.sl (k := 4) rfl).tup)]
    refine CallD.t (F_impl_CountBoth_w (fu := fu) (S49.sl (k := 3) rfl) (S49.sl (k := 4) rfl) hc53) ?_
    rintro _ G55 ⟨a58, rfl, S59⟩
    have A57 := A50.ext (hB.le A50.1) a58.agree
    have S56 : Sep G55 (Fr H) [AL.box p4 [v0_0, v0_1], flat c19_u0 3 (ints r2.1), flat c19_u1 3 (ints r2.2), flat c34_u0 3 (ints r4.1), flat c34_u1 3 (ints r4.2), AL.box p43 [c34_u0, c34_u1]] := S49.app a58.agree S59 (fun _ h => h) (hB.le A50.1)
    simp [-aBin', -aBin, -aBinI, -aUn, -aNil, -flatV, n_fn, b_add, b_sub, b_mul, b_lt, b_le, b_gt, b_ge, b_eq, b_ne, u_not, q52, a58.pre]
    apply hK
    clear hK K
    simp only [andThen, leaves]
    refine DWp.seq ?_
    obtain ⟨s60, hL61, hF⟩ := bd_some hF
    refine DWp.seq (DWp.join (fun env G => Sep G (Fr H) [AL.box p4 [v0_0, v0_1], AL.box p43 [c34_u0, c34_u1], flat c34_u0 3 (ints r4.1), flat c34_u1 3 (ints r4.2)] ∧ AgB (Fr H) H G ∧ env 1 = some p4 ∧ env 7 = some p43 ∧ env 43 = some (Value.bool s60)) ?_ ?_)
    ·
      rcases Bool.eq_false_or_eq_true (ine r5.1 r3.1) with hb63 | hb63
      · replace hL61 := cd_t hb63 hL61
        refine DWp.region fun K hK => ?_
        simp [-aBin', -aBin, -aBinI, -aUn, -aNil, -flatV, n_fn, b_add, b_sub, b_mul, b_lt, b_le, b_gt, b_ge, b_eq, b_ne, u_not, hb63]
        apply hK
        clear hK K
        simp only [andThen, leaves]
        have S64 := S56.pick [0, 5, 3, 4] (by decide) rfl
        obtain rfl := Option.some.inj hL61
        exact ⟨S64, A57, by simp [], by simp [], by simp []⟩
      · replace hL61 := cd_f hb63 hL61
        rcases Bool.eq_false_or_eq_true (ine r5.2.1 r3.2.1) with hb65 | hb65
        · replace hL61 := cd_t hb65 hL61
          refine DWp.region fun K hK => ?_
          simp [-aBin', -aBin, -aBinI, -aUn, -aNil, -flatV, n_fn, b_add, b_sub, b_mul, b_lt, b_le, b_gt, b_ge, b_eq, b_ne, u_not, hb63, hb65]
          apply hK
          clear hK K
          simp only [andThen, leaves]
          have S66 := S56.pick [0, 5, 3, 4] (by decide) rfl
          obtain rfl := Option.some.inj hL61
          exact ⟨S66, A57, by simp [], by simp [], by simp []⟩
        · replace hL61 := cd_f hb65 hL61
          refine DWp.region fun K hK => ?_
          simp [-aBin', -aBin, -aBinI, -aUn, -aNil, -flatV, n_fn, b_add, b_sub, b_mul, b_lt, b_le, b_gt, b_ge, b_eq, b_ne, u_not, hb63, hb65, b_bne un_4]
          apply hK
          clear hK K
          simp only [andThen, leaves]
          have S67 := S56.pick [0, 5, 3, 4] (by decide) rfl
          obtain rfl := Option.some.inj hL61
          exact ⟨S67, A57, by simp [], by simp [], by simp []⟩
    · rintro env Gj68 ⟨Sj68, Aj68, ej68_1, ej68_7, ej68_43⟩
      refine DWp.cond' (t := s60) (by simp [ej68_1, ej68_7, ej68_43]) (fun hb69 => ?_) (fun hb69 => ?_)
      · replace hF := cd_t hb69 hF
        refine DWp.seq ?_
        refine DWp.region fun K hK => ?_
        simp [-aBin', -aBin, -aBinI, -aUn, -aNil, -flatV, n_fn, b_add, b_sub, b_mul, b_lt, b_le, b_gt, b_ge, b_eq, b_ne, u_not, ej68_1, ej68_7, ej68_43]
        apply hK
        clear hK K
        simp only [andThen, leaves]
        refine DWp.ret ?_
        simp only [andThen, leaves]
        obtain rfl := Option.some.inj hF
        exact ⟨by simp, [(Value.bool false)], by simp [ej68_1, ej68_7, ej68_43], Aj68, rfl, Sj68.pick [] (by decide) rfl⟩
      · replace hF := cd_f hb69 hF
        refine DWp.skip ?_
        simp only [andThen, leaves]
        refine DWp.seq ?_
        refine DWp.seq ?_
        have q70 := Sj68.loadAgg (P := Try.prog) (k := 1) rfl sz_26 ag_26 rfl
        have q71 := Sj68.loadAgg (P := Try.prog) (k := 0) rfl sz_24 ag_24 rfl
        obtain ⟨r6, hc72, hF⟩ := bd_some hF
        refine DWp.drawn (B := [0, 0, 2, 7, 15]) 5 mixed (by kernel_rfl) (by decide) fun K hK => ?_
        simp [-aBin', -aBin, -aBinI, -aUn, -aNil, -flatV, n_fn, b_add, b_sub, b_mul, b_lt, b_le, b_gt, b_ge, b_eq, b_ne, u_not, ej68_1, ej68_7, ej68_43, q70, q71, ((hx0_0.agree Aj68.agree).tup), ((hx0_1.agree Aj68.agree).tup)]
        refine CallD.t (F_laws_toSeaweed_w (fu := fu) (hx0_0.agree Aj68.agree) (hx0_1.agree Aj68.agree) hc72) ?_
        rintro _ G74 ⟨a77, c73_u0, c73_u1, rfl, S78⟩
        have A76 := Aj68.ext (hB.le Aj68.1) a77.agree
        have S75 : Sep G74 (Fr H) [AL.box p4 [v0_0, v0_1], AL.box p43 [c34_u0, c34_u1], flat c34_u0 3 (ints r4.1), flat c34_u1 3 (ints r4.2), flat c73_u0 3 (ints r6.1), flat c73_u1 3 (ints r6.2)] := Sj68.app a77.agree S78 (fun _ h => h) (hB.le Aj68.1)
        obtain ⟨r7, hc79, hF⟩ := bd_some hF
        simp [-aBin', -aBin, -aBinI, -aUn, -aNil, -flatV, n_fn, b_add, b_sub, b_mul, b_lt, b_le, b_gt, b_ge, b_eq, b_ne, u_not, ej68_1, ej68_7, ej68_43, q70, q71, a77.pre, ((S75.sl (k := 2) rfl).tup), ((S75.sl (k := 3) rfl).tup), ((S75.sl (k := 4) rfl).tup), ((S75.sl (k := 5) rfl).tup)]
        refine CallD.t (F_laws_eqSeaweed_w (fu := fu) (S75.sl (k := 2) rfl) (S75.sl (k := 3) rfl) (S75.sl (k := 4) rfl) (S75.sl (k := 5) rfl) hc79) ?_
        rintro _ G81 ⟨a84, rfl, S85⟩
        have A83 := A76.ext (hB.le A76.1) a84.agree
        have S82 : Sep G81 (Fr H) [AL.box p4 [v0_0, v0_1], AL.box p43 [c34_u0, c34_u1], flat c34_u0 3 (ints r4.1), flat c34_u1 3 (ints r4.2), flat c73_u0 3 (ints r6.1), flat c73_u1 3 (ints r6.2)] := S75.app a84.agree S85 (fun _ h => h) (hB.le A76.1)
        simp [-aBin', -aBin, -aBinI, -aUn, -aNil, -flatV, n_fn, b_add, b_sub, b_mul, b_lt, b_le, b_gt, b_ge, b_eq, b_ne, u_not, ej68_1, ej68_7, ej68_43, q70, q71, a77.pre, a84.pre]
        apply hK
        clear hK K
        simp only [andThen, leaves]
        refine DWp.cond' (t := (bnot r7)) (by simp [ej68_1, ej68_7, ej68_43]) (fun hb86 => ?_) (fun hb86 => ?_)
        · replace hF := cd_t hb86 hF
          refine DWp.seq ?_
          refine DWp.region fun K hK => ?_
          simp [-aBin', -aBin, -aBinI, -aUn, -aNil, -flatV, n_fn, b_add, b_sub, b_mul, b_lt, b_le, b_gt, b_ge, b_eq, b_ne, u_not, ej68_1, ej68_7, ej68_43]
          apply hK
          clear hK K
          simp only [andThen, leaves]
          refine DWp.ret ?_
          simp only [andThen, leaves]
          obtain rfl := Option.some.inj hF
          exact ⟨by simp, [(Value.bool false)], by simp [ej68_1, ej68_7, ej68_43], A83, rfl, S82.pick [] (by decide) rfl⟩
        · replace hF := cd_f hb86 hF
          refine DWp.skip ?_
          simp only [andThen, leaves]
          refine DWp.seq ?_
          refine DWp.region fun K hK => ?_
          simp [-aBin', -aBin, -aBinI, -aUn, -aNil, -flatV, n_fn, b_add, b_sub, b_mul, b_lt, b_le, b_gt, b_ge, b_eq, b_ne, u_not, ej68_1, ej68_7, ej68_43]
          apply hK
          clear hK K
          simp only [andThen, leaves]
          refine DWp.ret ?_
          obtain rfl := Option.some.inj hF
          exact ⟨by simp, [(Value.bool true)], by simp [ej68_1, ej68_7, ej68_43], A83, rfl, S82.pick [] (by decide) rfl⟩
/-! loop.example/g01126/spec.IndexOf -/
def F_spec_IndexOf (fu : Nat) (x0_0 : List Int) (x0_1 : List Int) : Option (Int × Bool) :=
  bd (F_spec_swGood fu x0_0 x0_1) fun r1 =>
  bif (bnot r1) then
    some (0, false)
  else
    bd (F_spec_swIndex fu x0_0 x0_1) fun r2 =>
    some (r2, true)
theorem F_spec_IndexOf_w {fu : Nat} {H : AH} {v0_0 : Value} {v0_1 : Value} {x0_0 : List Int} {x0_1 : List Int} {r : (Int × Bool)} (hx0_0 : Sl H v0_0 (ints x0_0)) (hx0_1 : Sl H v0_1 (ints x0_1)) (hF : F_spec_IndexOf fu x0_0 x0_1 = some r) :
    ACallT Try.prog 30 [(Value.agg #[v0_0, v0_1])] H (fun u G => AgB (Fr H) H G ∧ u = (Value.tuple #[(Value.int .i64 r.1), (Value.bool r.2)]) ∧ Sep G (Fr H) []) := by
  refine ACallT.of_body (nt := 9) (rs := [.tmp 2, .tmp 3]) Try.func30 rfl rfl rfl rfl ?_
  have A0 : AgB (Fr H) H H := .refl _ _
  have S0 : Sep H (Fr H) [] := .nil
  have hB := Fr.up H
  unfold F_spec_IndexOf at hF
  refine DWp.seq ?_
  obtain ⟨G2, p4, q5, q6, a7, S1⟩ := S0.boxT (hB.le A0.1) 26 [v0_0, v0_1]
  have A3 := A0.ext (hB.le A0.1) a7
  replace S1 : Sep G2 (Fr H) [AL.box p4 [v0_0, v0_1]] := S1
  refine DWp.region fun K hK => ?_
  simp [-aBin', -aBin, -aBinI, -aUn, -aNil, -flatV, n_fn, b_add, b_sub, b_mul, b_lt, b_le, b_gt, b_ge, b_eq, b_ne, u_not, q5, q6, a7.to_pre, cells_agg]
  apply hK
  clear hK K
  simp only [andThen, leaves]
  refine DWp.seq ?_
  refine DWp.seq ?_
  have q8 := S1.loadAgg (P := Try.prog) (k := 0) rfl sz_26 ag_26 rfl
  obtain ⟨r1, hc9, hF⟩ := bd_some hF
  refine DWp.region fun K hK => ?_
  simp [-aBin', -aBin, -aBinI, -aUn, -aNil, -flatV, n_fn, b_add, b_sub, b_mul, b_lt, b_le, b_gt, b_ge, b_eq, b_ne, u_not, q8, ((hx0_0.agree A3.agree).tup), ((hx0_1.agree A3.agree).tup)]
  refine CallD.t (F_spec_swGood_w (fu := fu) (hx0_0.agree A3.agree) (hx0_1.agree A3.agree) hc9) ?_
  rintro _ G11 ⟨a14, rfl, S15⟩
  have A13 := A3.ext (hB.le A3.1) a14.agree
  have S12 : Sep G11 (Fr H) [AL.box p4 [v0_0, v0_1]] := S1.app a14.agree S15 (fun _ h => h) (hB.le A3.1)
  simp [-aBin', -aBin, -aBinI, -aUn, -aNil, -flatV, n_fn, b_add, b_sub, b_mul, b_lt, b_le, b_gt, b_ge, b_eq, b_ne, u_not, q8, a14.pre]
  apply hK
  clear hK K
  simp only [andThen, leaves]
  refine DWp.cond' (t := (bnot r1)) (by simp []) (fun hb16 => ?_) (fun hb16 => ?_)
  · replace hF := cd_t hb16 hF
    refine DWp.seq ?_
    refine DWp.region fun K hK => ?_
    simp [-aBin', -aBin, -aBinI, -aUn, -aNil, -flatV, n_fn, b_add, b_sub, b_mul, b_lt, b_le, b_gt, b_ge, b_eq, b_ne, u_not]
    apply hK
    clear hK K
    simp only [andThen, leaves]
    refine DWp.ret ?_
    simp only [andThen, leaves]
    obtain rfl := Option.some.inj hF
    exact ⟨by simp, [(Value.int .i64 0), (Value.bool false)], by simp [], A13, rfl, S12.pick [] (by decide) rfl⟩
  · replace hF := cd_f hb16 hF
    refine DWp.skip ?_
    simp only [andThen, leaves]
    refine DWp.seq ?_
    have q17 := S12.loadAgg (P := Try.prog) (k := 0) rfl sz_26 ag_26 rfl
    obtain ⟨r2, hc18, hF⟩ := bd_some hF
    refine DWp.region fun K hK => ?_
    simp [-aBin', -aBin, -aBinI, -aUn, -aNil, -flatV, n_fn, b_add, b_sub, b_mul, b_lt, b_le, b_gt, b_ge, b_eq, b_ne, u_not, q17, ((hx0_0.agree A13.agree).tup), ((hx0_1.agree A13.agree).tup)]
    refine CallD.t (F_spec_swIndex_w (fu := fu) (hx0_0.agree A13.agree) (hx0_1.agree A13.agree) hc18) ?_
    rintro _ G20 ⟨a23, rfl, S24⟩
    have A22 := A13.ext (hB.le A13.1) a23.agree
    have S21 : Sep G20 (Fr H) [AL.box p4 [v0_0, v0_1]] := S12.app a23.agree S24 (fun _ h => h) (hB.le A13.1)
    simp [-aBin', -aBin, -aBinI, -aUn, -aNil, -flatV, n_fn, b_add, b_sub, b_mul, b_lt, b_le, b_gt, b_ge, b_eq, b_ne, u_not, q17, a23.pre]
    apply hK
    clear hK K
    simp only [andThen, leaves]
    refine DWp.ret ?_
    obtain rfl := Option.some.inj hF
    exact ⟨by simp, [(Value.int .i64 r2), (Value.bool true)], by simp [], A22, rfl, S21.pick [] (by decide) rfl⟩
/-! loop.example/g01126/impl.IndexOf -/
def F_impl_IndexOf (fu : Nat) (x0_0 : List Int) (x0_1 : List Int) : Option (Int × Bool) :=
  bd (F_impl_IsSeaweed fu x0_0 x0_1) fun r1 =>
  bif (bnot r1) then
    some (0, false)
  else
    bd (F_impl_Seaweed_index fu x0_0 x0_1) fun r2 =>
    some (r2, true)
theorem F_impl_IndexOf_w {fu : Nat} {H : AH} {v0_0 : Value} {v0_1 : Value} {x0_0 : List Int} {x0_1 : List Int} {r : (Int × Bool)} (hx0_0 : Sl H v0_0 (ints x0_0)) (hx0_1 : Sl H v0_1 (ints x0_1)) (hF : F_impl_IndexOf fu x0_0 x0_1 = some r) :
    ACallT Try.prog 31 [(Value.agg #[v0_0, v0_1])] H (fun u G => AgB (Fr H) H G ∧ u = (Value.tuple #[(Value.int .i64 r.1), (Value.bool r.2)]) ∧ Sep G (Fr H) []) := by
  refine ACallT.of_body (nt := 9) (rs := [.tmp 2, .tmp 3]) Try.func31 rfl rfl rfl rfl ?_
  have A0 : AgB (Fr H) H H := .refl _ _
  have S0 : Sep H (Fr H) [] := .nil
  have hB := Fr.up H
  unfold F_impl_IndexOf at hF
  refine DWp.seq ?_
  obtain ⟨G2, p4, q5, q6, a7, S1⟩ := S0.boxT (hB.le A0.1) 26 [v0_0, v0_1]
  have A3 := A0.ext (hB.le A0.1) a7
  replace S1 : Sep G2 (Fr H) [AL.box p4 [v0_0, v0_1]] := S1
  refine DWp.region fun K hK => ?_
  simp [-aBin', -aBin, -aBinI, -aUn, -aNil, -flatV, n_fn, b_add, b_sub, b_mul, b_lt, b_le, b_gt, b_ge, b_eq, b_ne, u_not, q5, q6, a7.to_pre, cells_agg]
  apply hK
  clear hK K
  simp only [andThen, leaves]
  refine DWp.seq ?_
  refine DWp.seq ?_
  have q8 := S1.loadAgg (P := Try.prog) (k := 0) rfl sz_26 ag_26 rfl
  obtain ⟨r1, hc9, hF⟩ := bd_some hF
  refine DWp.region fun K hK => ?_
  simp [-aBin', -aBin, -aBinI, -aUn, -aNil, -flatV, n_fn, b_add, b_sub, b_mul, b_lt, b_le, b_gt, b_ge, b_eq, b_ne, u_not, q8, ((hx0_0.agree A3.agree).tup), ((hx0_1.agree A3.agree).tup)]
  refine CallD.t (F_impl_IsSeaweed_w (fu := fu) (hx0_0.agree A3.agree) (hx0_1.agree A3.agree) hc9) ?_
  rintro _ G11 ⟨a14, rfl, S15⟩
  have A13 := A3.ext (hB.le A3.1) a14.agree
  have S12 : Sep G11 (Fr H) [AL.box p4 [v0_0, v0_1]] := S1.app a14.agree S15 (fun _ h => h) (hB.le A3.1)
  simp [-aBin', -aBin, -aBinI, -aUn, -aNil, -flatV, n_fn, b_add, b_sub, b_mul, b_lt, b_le, b_gt, b_ge, b_eq, b_ne, u_not, q8, a14.pre]
  apply hK
  clear hK K
  simp only [andThen, leaves]
  refine DWp.cond' (t := (bnot r1)) (by simp []) (fun hb16 => ?_) (fun hb16 => ?_)
  · replace hF := cd_t hb16 hF
    refine DWp.seq ?_
    refine DWp.region fun K hK => ?_
    simp [-aBin', -aBin, -aBinI, -aUn, -aNil, -flatV, n_fn, b_add, b_sub, b_mul, b_lt, b_le, b_gt, b_ge, b_eq, b_ne, u_not]
    apply hK
    clear hK K
    simp only [andThen, leaves]
    refine DWp.ret ?_
    simp only [andThen, leaves]
    obtain rfl := Option.some.inj hF
    exact ⟨by simp, [(Value.int .i64 0), (Value.bool false)], by simp [], A13, rfl, S12.pick [] (by decide) rfl⟩
  · replace hF := cd_f hb16 hF
    refine DWp.skip ?_
    simp only [andThen, leaves]
    refine DWp.seq ?_
    have q17 := S12.loadAgg (P := Try.prog) (k := 0) rfl sz_26 ag_26 rfl
    obtain ⟨r2, hc18, hF⟩ := bd_some hF
    refine DWp.region fun K hK => ?_
    simp [-aBin', -aBin, -aBinI, -aUn, -aNil, -flatV, n_fn, b_add, b_sub, b_mul, b_lt, b_le, b_gt, b_ge, b_eq, b_ne, u_not, q17, ((hx0_0.agree A13.agree).tup), ((hx0_1.agree A13.agree).tup)]
    refine CallD.t (F_impl_Seaweed_index_w (fu := fu) (hx0_0.agree A13.agree) (hx0_1.agree A13.agree) hc18) ?_
    rintro _ G20 ⟨a23, rfl, S24⟩
    have A22 := A13.ext (hB.le A13.1) a23.agree
    have S21 : Sep G20 (Fr H) [AL.box p4 [v0_0, v0_1]] := S12.app a23.agree S24 (fun _ h => h) (hB.le A13.1)
    simp [-aBin', -aBin, -aBinI, -aUn, -aNil, -flatV, n_fn, b_add, b_sub, b_mul, b_lt, b_le, b_gt, b_ge, b_eq, b_ne, u_not, q17, a23.pre]
    apply hK
    clear hK K
    simp only [andThen, leaves]
    refine DWp.ret ?_
    obtain rfl := Option.some.inj hF
    exact ⟨by simp, [(Value.int .i64 r2), (Value.bool true)], by simp [], A22, rfl, S21.pick [] (by decide) rfl⟩
/-! loop.example/g01126/laws.FnExactIndexOf -/
def F_laws_FnExactIndexOf (fu : Nat) (x0_0 : List Int) (x0_1 : List Int) : Option (Bool) :=
  bd (F_laws_szSeaweed fu x0_0 x0_1 1048576) fun r1 =>
  bif (ilt r1 0) then
    some true
  else
    bd (F_laws_toSeaweed fu x0_0 x0_1) fun r2 =>
    bd (F_spec_IndexOf fu r2.1 r2.2) fun r3 =>
    bd (F_laws_toSeaweed fu x0_0 x0_1) fun r4 =>
    bd (F_impl_IndexOf fu r4.1 r4.2) fun r5 =>
    bd (
      bif (ine r5.1 r3.1) then
        some true
      else
        some (bne' r5.2 r3.2)) fun s60 =>
    bif s60 then
      some false
    else
      bd (F_laws_toSeaweed fu x0_0 x0_1) fun r6 =>
      bd (F_laws_eqSeaweed fu r4.1 r4.2 r6.1 r6.2) fun r7 =>
      bif (bnot r7) then
        some false
      else
        some true
theorem F_laws_FnExactIndexOf_w {fu : Nat} {H : AH} {v0_0 : Value} {v0_1 : Value} {x0_0 : List Int} {x0_1 : List Int} {r : (Bool)} (hx0_0 : Sl H v0_0 (ints x0_0)) (hx0_1 : Sl H v0_1 (ints x0_1)) (hF : F_laws_FnExactIndexOf fu x0_0 x0_1 = some r) :
    ACallT Try.prog 8 [(Value.agg #[v0_0, v0_1])] H (fun u G => AgB (Fr H) H G ∧ u = (Value.bool r) ∧ Sep G (Fr H) []) := by
  refine ACallT.of_body (nt := 40) (rs := [.tmp 2]) Try.func8 rfl rfl rfl rfl ?_
  have A0 : AgB (Fr H) H H := .refl _ _
  have S0 : Sep H (Fr H) [] := .nil
  have hB := Fr.up H
  unfold F_laws_FnExactIndexOf at hF
  refine DWp.seq ?_
  obtain ⟨G2, p4, q5, q6, a7, S1⟩ := S0.boxT (hB.le A0.1) 24 [v0_0, v0_1]
  have A3 := A0.ext (hB.le A0.1) a7
  replace S1 : Sep G2 (Fr H) [AL.box p4 [v0_0, v0_1]] := S1
  refine DWp.region fun K hK => ?_
  simp [-aBin', -aBin, -aBinI, -aUn, -aNil, -flatV, n_fn, b_add, b_sub, b_mul, b_lt, b_le, b_gt, b_ge, b_eq, b_ne, u_not, q5, q6, a7.to_pre, cells_agg]
  apply hK
  clear hK K
  simp only [andThen, leaves]
  refine DWp.seq ?_
  refine DWp.region fun K hK => ?_
  simp [-aBin', -aBin, -aBinI, -aUn, -aNil, -flatV, n_fn, b_add, b_sub, b_mul, b_lt, b_le, b_gt, b_ge, b_eq, b_ne, u_not]
  apply hK
  clear hK K
  simp only [andThen, leaves]
  refine DWp.seq ?_
  have q8 := S1.loadAgg (P := Try.prog) (k := 0) rfl sz_24 ag_24 rfl
  obtain ⟨r1, hc9, hF⟩ := bd_some hF
  refine DWp.region fun K hK => ?_
  simp [-aBin', -aBin, -aBinI, -aUn, -aNil, -flatV, n_fn, b_add, b_sub, b_mul, b_lt, b_le, b_gt, b_ge, b_eq, b_ne, u_not, q8, ((hx0_0.agree A3.agree).tup), ((hx0_1.agree A3.agree).tup)]
  refine CallD.t (F_laws_szSeaweed_w (fu := fu) (hx0_0.agree A3.agree) (hx0_1.agree A3.agree) hc9) ?_
  rintro _ G11 ⟨a14, rfl, S15⟩
  have A13 := A3.ext (hB.le A3.1) a14.agree
  have S12 : Sep G11 (Fr H) [AL.box p4 [v0_0, v0_1]] := S1.app a14.agree S15 (fun _ h => h) (hB.le A3.1)
  simp [-aBin', -aBin, -aBinI, -aUn, -aNil, -flatV, n_fn, b_add, b_sub, b_mul, b_lt, b_le, b_gt, b_ge, b_eq, b_ne, u_not, q8, a14.pre]
  apply hK
  clear hK K
  simp only [andThen, leaves]
  refine DWp.seq ?_
  refine DWp.seq ?_
  refine DWp.region fun K hK => ?_
  simp [-aBin', -aBin, -aBinI, -aUn, -aNil, -flatV, n_fn, b_add, b_sub, b_mul, b_lt, b_le, b_gt, b_ge, b_eq, b_ne, u_not]
  apply hK
  clear hK K
  simp only [andThen, leaves]
  refine DWp.cond' (t := (ilt r1 0)) (by simp []) (fun hb16 => ?_) (fun hb16 => ?_)
  · replace hF := cd_t hb16 hF
    refine DWp.seq ?_
    refine DWp.region fun K hK => ?_
    simp [-aBin', -aBin, -aBinI, -aUn, -aNil, -flatV, n_fn, b_add, b_sub, b_mul, b_lt, b_le, b_gt, b_ge, b_eq, b_ne, u_not]
    apply hK
    clear hK K
    simp only [andThen, leaves]
    refine DWp.ret ?_
    simp only [andThen, leaves]
    obtain rfl := Option.some.inj hF
    exact ⟨by simp, [(Value.bool true)], by simp [], A13, rfl, S12.pick [] (by decide) rfl⟩
  · replace hF := cd_f hb16 hF
    refine DWp.skip ?_
    simp only [andThen, leaves]
    refine DWp.seq ?_
    have q17 := S12.loadAgg (P := Try.prog) (k := 0) rfl sz_24 ag_24 rfl
    obtain ⟨r2, hc18, hF⟩ := bd_some hF
    refine DWp.region fun K hK => ?_
    simp [-aBin', -aBin, -aBinI, -aUn, -aNil, -flatV, n_fn, b_add, b_sub, b_mul, b_lt, b_le, b_gt, b_ge, b_eq, b_ne, u_not, q17, ((hx0_0.agree A13.agree).tup), ((hx0_1.agree A13.agree).tup)]
    refine CallD.t (F_laws_toSeaweed_w (fu := fu) (hx0_0.agree A13.agree) (hx0_1.agree A13.agree) hc18) ?_
    rintro _ G20 ⟨a23, c19_u0, c19_u1, rfl, S24⟩
    have A22 := A13.ext (hB.le A13.1) a23.agree
    have S21 : Sep G20 (Fr H) [AL.box p4 [v0_0, v0_1], flat c19_u0 3 (ints r2.1), flat c19_u1 3 (ints r2.2)] := S12.app a23.agree S24 (fun _ h => h) (hB.le A13.1)
    obtain ⟨r3, hc25, hF⟩ := bd_some hF
    simp [-aBin', -aBin, -aBinI, -aUn, -aNil, -flatV, n_fn, b_add, b_sub, b_mul, b_lt, b_le, b_gt, b_ge, b_eq, b_ne, u_not, q17, a23.pre, ((S21.sl (k := 1) rfl).tup), ((S21.sl (k := 2) rfl).tup)]
    refine CallD.t (F_spec_IndexOf_w (fu := fu) (S21.sl (k := 1) rfl) (S21.sl (k := 2) rfl) hc25) ?_
    rintro _ G27 ⟨a30, rfl, S31⟩
    have A29 := A22.ext (hB.le A22.1) a30.agree
    have S28 : Sep G27 (Fr H) [AL.box p4 [v0_0, v0_1], flat c19_u0 3 (ints r2.1), flat c19_u1 3 (ints r2.2)] := S21.app a30.agree S31 (fun _ h => h) (hB.le A22.1)
    simp [-aBin', -aBin, -aBinI, -aUn, -aNil, -flatV, n_fn, b_add, b_sub, b_mul, b_lt, b_le, b_gt, b_ge, b_eq, b_ne, u_not, q17, a23.pre, a30.pre]
    apply hK
    clear hK K
    simp only [andThen, leaves]
    refine DWp.seq ?_
    have q32 := S28.loadAgg (P := Try.prog) (k := 0) rfl sz_24 ag_24 rfl
    obtain ⟨r4, hc33, hF⟩ := bd_some hF
    refine DWp.region fun K hK => ?_
    simp [-aBin', -aBin, -aBinI, -aUn, -aNil, -flatV, n_fn, b_add, b_sub, b_mul, b_lt, b_le, b_gt, b_ge, b_eq, b_ne, u_not, q32, ((hx0_0.agree A29.agree).tup), ((hx0_1.agree A29.agree).tup)]
    refine CallD.t (F_laws_toSeaweed_w (fu := fu) (hx0_0.agree A29.agree) (hx0_1.agree A29.agree) hc33) ?_
    rintro _ G35 ⟨a38, c34_u0, c34_u1, rfl, S39⟩
    have A37 := A29.ext (hB.le A29.1) a38.agree
    have S36 : Sep G35 (Fr H) [AL.box p4 [v0_0, v0_1], flat c19_u0 3 (ints r2.1), flat c19_u1 3 (ints r2.2), flat c34_u0 3 (ints r4.1), flat c34_u1 3 (ints r4.2)] := S28.app a38.agree S39 (fun _ h => h) (hB.le A29.1)
    obtain ⟨G41, p43, q44, q46, a45, S40⟩ := S36.allocT (P := Try.prog) (hB.le A37.1) ze_26 rfl
    have A42 := A37.ext (hB.le A37.1) a45
    replace S40 : Sep G41 (Fr H) [AL.box p4 [v0_0, v0_1], flat c19_u0 3 (ints r2.1), flat c19_u1 3 (ints r2.2), flat c34_u0 3 (ints r4.1), flat c34_u1 3 (ints r4.2), AL.box p43 [(Value.slice none 0 0), (Value.slice none 0 0)]] := S40
    obtain ⟨G47, q48, S49, a51⟩ := S40.putAgg (P := Try.prog) (k := 5) (xs := [c34_u0, c34_u1]) rfl (hB.le A42.1) sz_26 rfl rfl
    have A50 := A42.trans a51
    replace S49 : Sep G47 (Fr H) [AL.box p4 [v0_0, v0_1], flat c19_u0 3 (ints r2.1), flat c19_u1 3 (ints r2.2), flat c34_u0 3 (ints r4.1), flat c34_u1 3 (ints r4.2), AL.box p43 [c34_u0, c34_u1]] := S49
    simp [-aBin', -aBin, -aBinI, -aUn, -aNil, -flatV, n_fn, b_add, b_sub, b_mul, b_lt, b_le, b_gt, b_ge, b_eq, b_ne, u_not, q32, a38.pre, q44, q46, a45.to_pre, q48]
    apply hK
    clear hK K
    simp only [andThen, leaves]
    refine DWp.seq ?_
    have q52 := S49.loadAgg (P := Try.prog) (k := 5) rfl sz_26 ag_26 rfl
    obtain ⟨r5, hc53, hF⟩ := bd_some hF
    refine DWp.region fun K hK => ?_
    simp [-aBin', -aBin, -aBinI, -aUn, -aNil, -flatV, n_fn, b_add, b_sub, b_mul, b_lt, b_le, b_gt, b_ge, b_eq, b_ne, u_not, q52, ((S49.sl (k := 3) rfl).tup), ((S49.sl (k := 4) rfl).tup)]
    refine CallD.t (F_impl_IndexOf_w (fu := fu) (S49.sl (k := 3) rfl) (S49.sl (k := 4) rfl) hc53) ?_
    rintro _ G55 ⟨a58, rfl, S59⟩
    have A57 := A50.ext (hB.le A50.1) a58.agree
    have S56 : Sep G55 (Fr H) [AL.box p4 [v0_0, v0_1], flat c19_u0 3 (ints r2.1), flat c19_u1 3 (ints r2.2), flat c34_u0 3 (ints r4.1), flat c34_u1 3 (ints r4.2), AL.box p43 [c34_u0, c34_u1]] := S49.app a58.agree S59 (fun _ h => h) (hB.le A50.1)
    simp [-aBin', -aBin, -aBinI, -aUn, -aNil, -flatV, n_fn, b_add, b_sub, b_mul, b_lt, b_le, b_gt, b_ge, b_eq, b_ne, u_not, q52, a58.pre]
    apply hK
    clear hK K
    simp only [andThen, leaves]
    refine DWp.seq ?_
    obtain ⟨s60, hL61, hF⟩ := bd_some hF
    refine DWp.seq (DWp.join (fun env G => Sep G (Fr H) [AL.box p4 [v0_0, v0_1], AL.box p43 [c34_u0, c34_u1], flat c34_u0 3 (ints r4.1), flat c34_u1 3 (ints r4.2)] ∧ AgB (Fr H) H G ∧ env 1 = some p4 ∧ env 6 = some p43 ∧ env 34 = some (Value.bool s60)) ?_ ?_)
    ·
      rcases Bool.eq_false_or_eq_true (ine r5.1 r3.1) with hb63 | hb63
      · replace hL61 := cd_t hb63 hL61
        refine DWp.region fun K hK => ?_
        simp [-aBin', -aBin, -aBinI, -aUn, -aNil, -flatV, n_fn, b_add, b_sub, b_mul, b_lt, b_le, b_gt, b_ge, b_eq, b_ne, u_not, hb63]
        apply hK
        clear hK K
        simp only [andThen, leaves]
        have S64 := S56.pick [0, 5, 3, 4] (by decide) rfl
        obtain rfl := Option.some.inj hL61
        exact ⟨S64, A57, by simp [], by simp [], by simp []⟩
      · replace hL61 := cd_f hb63 hL61
        refine DWp.region fun K hK => ?_
        simp [-aBin', -aBin, -aBinI, -aUn, -aNil, -flatV, n_fn, b_add, b_sub, b_mul, b_lt, b_le, b_gt, b_ge, b_eq, b_ne, u_not, hb63, b_bne un_4]
        apply hK
        clear hK K
        simp only [andThen, leaves]
        have S65 := S56.pick [0, 5, 3, 4] (by decide) rfl
        obtain rfl := Option.some.inj hL61
        exact ⟨S65, A57, by simp [], by simp [], by simp []⟩
    · rintro env Gj66 ⟨Sj66, Aj66, ej66_1, ej66_6, ej66_34⟩
      refine DWp.cond' (t := s60) (by simp [ej66_1, ej66_6, ej66_34]) (fun hb67 => ?_) (fun hb67 => ?_)
      · replace hF := cd_t hb67 hF
        refine DWp.seq ?_
        refine DWp.region fun K hK => ?_
        simp [-aBin', -aBin, -aBinI, -aUn, -aNil, -flatV, n_fn, b_add, b_sub, b_mul, b_lt, b_le, b_gt, b_ge, b_eq, b_ne, u_not, ej66_1, ej66_6, ej66_34]
        apply hK
        clear hK K
        simp only [andThen, leaves]
        refine DWp.ret ?_
        simp only [andThen, leaves]
        obtain rfl := Option.some.inj hF
        exact ⟨by simp, [(Value.bool false)], by simp [ej66_1, ej66_6, ej66_34], Aj66, rfl, Sj66.pick [] (by decide) rfl⟩
      · replace hF := cd_f hb67 hF
        refine DWp.skip ?_
        simp only [andThen, leaves]
        refine DWp.seq ?_
        refine DWp.seq ?_
        have q68 := Sj66.loadAgg (P := Try.prog) (k := 1) rfl sz_26 ag_26 rfl
        have q69 := Sj66.loadAgg (P := Try.prog) (k := 0) rfl sz_24 ag_24 rfl
        obtain ⟨r6, hc70, hF⟩ := bd_some hF
        refine DWp.drawn (B := [0, 0, 2, 7, 15]) 5 mixed (by kernel_rfl) (by decide) fun K hK => ?_
        simp [-aBin', -aBin, -aBinI, -aUn, -aNil, -flatV, n_fn, b_add, b_sub, b_mul, b_lt, b_le, b_gt, b_ge, b_eq, b_ne, u_not, ej66_1, ej66_6, ej66_34, q68, q69, ((hx0_0.agree Aj66.agree).tup), ((hx0_1.agree Aj66.agree).tup)]
        refine CallD.t (F_laws_toSeaweed_w (fu := fu) (hx0_0.agree Aj66.agree) (hx0_1.agree Aj66.agree) hc70) ?_
        rintro _ G72 ⟨a75, c71_u0, c71_u1, rfl, S76⟩
        have A74 := Aj66.ext (hB.le Aj66.1) a75.agree
        have S73 : Sep G72 (Fr H) [AL.box p4 [v0_0, v0_1], AL.box p43 [c34_u0, c34_u1], flat c34_u0 3 (ints r4.1), flat c34_u1 3 (ints r4.2), flat c71_u0 3 (ints r6.1), flat c71_u1 3 (ints r6.2)] := Sj66.app a75.agree S76 (fun _ h => h) (hB.le Aj66.1)
        obtain ⟨r7, hc77, hF⟩ := bd_some hF
        simp [-aBin', -aBin, -aBinI, -aUn, -aNil, -flatV, n_fn, b_add, b_sub, b_mul, b_lt, b_le, b_gt, b_ge, b_eq, b_ne, u_not, ej66_1, ej66_6, ej66_34, q68, q69, a75.pre, ((S73.sl (k := 2) rfl).tup), ((S73.sl (k := 3) rfl).tup), ((S73.sl (k := 4) rfl).tup), ((S73.sl (k := 5) rfl).tup)]
        refine CallD.t (F_laws_eqSeaweed_w (fu := fu) (S73.sl (k := 2) rfl) (S73.sl (k := 3) rfl) (S73.sl (k := 4) rfl) (S73.sl (k := 5) rfl) hc77) ?_
        rintro _ G79 ⟨a82, rfl, S83⟩
        have A81 := A74.ext (hB.le A74.1) a82.agree
        have S80 : Sep G79 (Fr H) [AL.box p4 [v0_0, v0_1], AL.box p43 [c34_u0, c34_u1], flat c34_u0 3 (ints r4.1), flat c34_u1 3 (ints r4.2), flat c71_u0 3 (ints r6.1), flat c71_u1 3 (ints r6.2)] := S73.app a82.agree S83 (fun _ h => h) (hB.le A74.1)
        simp [-aBin', -aBin, -aBinI, -aUn, -aNil, -flatV, n_fn, b_add, b_sub, b_mul, b_lt, b_le, b_gt, b_ge, b_eq, b_ne, u_not, ej66_1, ej66_6, ej66_34, q68, q69, a75.pre, a82.pre]
        apply hK
        clear hK K
        simp only [andThen, leaves]
        refine DWp.cond' (t := (bnot r7)) (by simp [ej66_1, ej66_6, ej66_34]) (fun hb84 => ?_) (fun hb84 => ?_)
        · replace hF := cd_t hb84 hF
          refine DWp.seq ?_
          refine DWp.region fun K hK => ?_
          simp [-aBin', -aBin, -aBinI, -aUn, -aNil, -flatV, n_fn, b_add, b_sub, b_mul, b_lt, b_le, b_gt, b_ge, b_eq, b_ne, u_not, ej66_1, ej66_6, ej66_34]
          apply hK
          clear hK K
          simp only [andThen, leaves]
          refine DWp.ret ?_
          simp only [andThen, leaves]
          obtain rfl := Option.some.inj hF
          exact ⟨by simp, [(Value.bool false)], by simp [ej66_1, ej66_6, ej66_34], A81, rfl, S80.pick [] (by decide) rfl⟩
        · replace hF := cd_f hb84 hF
          refine DWp.skip ?_
          simp only [andThen, leaves]
          refine DWp.seq ?_
          refine DWp.region fun K hK => ?_
          simp [-aBin', -aBin, -aBinI, -aUn, -aNil, -flatV, n_fn, b_add, b_sub, b_mul, b_lt, b_le, b_gt, b_ge, b_eq, b_ne, u_not, ej66_1, ej66_6, ej66_34]
          apply hK
          clear hK K
          simp only [andThen, leaves]
          refine DWp.ret ?_
          obtain rfl := Option.some.inj hF
          exact ⟨by simp, [(Value.bool true)], by simp [ej66_1, ej66_6, ej66_34], A81, rfl, S80.pick [] (by decide) rfl⟩
/-! loop.example/g01126/spec.CyclesOf -/
def F_spec_CyclesOf (fu : Nat) (x0_0 : List Int) (x0_1 : List Int) : Option (List (List Int) × Bool) :=
  bd (F_spec_swGood fu x0_0 x0_1) fun r1 =>
  bif (bnot r1) then
    some ([], false)
  else
    bd (F_spec_swTogether fu x0_0 x0_1 false) fun r2 =>
    some (r2, true)
theorem F_spec_CyclesOf_w {fu : Nat} {H : AH} {v0_0 : Value} {v0_1 : Value} {x0_0 : List Int} {x0_1 : List Int} {r : (List (List Int) × Bool)} (hx0_0 : Sl H v0_0 (ints x0_0)) (hx0_1 : Sl H v0_1 (ints x0_1)) (hF : F_spec_CyclesOf fu x0_0 x0_1 = some r) :
    ACallT Try.prog 32 [(Value.agg #[v0_0, v0_1])] H (fun u G => AgB (Fr H) H G ∧ ∃ u0 : Value, ∃ C0 : List Value, u = (Value.tuple #[u0, (Value.bool r.2)]) ∧ Sep G (Fr H) [rowsC u0 22 3 C0 (List.map ints r.1)]) := by
  refine ACallT.of_body (nt := 9) (rs := [.tmp 2, .tmp 3]) Try.func32 rfl rfl rfl rfl ?_
  have A0 : AgB (Fr H) H H := .refl _ _
  have S0 : Sep H (Fr H) [] := .nil
  have hB := Fr.up H
  unfold F_spec_CyclesOf at hF
  refine DWp.seq ?_
  obtain ⟨G2, p4, q5, q6, a7, S1⟩ := S0.boxT (hB.le A0.1) 26 [v0_0, v0_1]
  have A3 := A0.ext (hB.le A0.1) a7
  replace S1 : Sep G2 (Fr H) [AL.box p4 [v0_0, v0_1]] := S1
  refine DWp.region fun K hK => ?_
  simp [-aBin', -aBin, -aBinI, -aUn, -aNil, -flatV, n_fn, b_add, b_sub, b_mul, b_lt, b_le, b_gt, b_ge, b_eq, b_ne, u_not, q5, q6, a7.to_pre, cells_agg]
  apply hK
  clear hK K
  simp only [andThen, leaves]
  refine DWp.seq ?_
  refine DWp.seq ?_
  have q8 := S1.loadAgg (P := Try.prog) (k := 0) rfl sz_26 ag_26 rfl
  obtain ⟨r1, hc9, hF⟩ := bd_some hF
  refine DWp.region fun K hK => ?_
  simp [-aBin', -aBin, -aBinI, -aUn, -aNil, -flatV, n_fn, b_add, b_sub, b_mul, b_lt, b_le, b_gt, b_ge, b_eq, b_ne, u_not, q8, ((hx0_0.agree A3.agree).tup), ((hx0_1.agree A3.agree).tup)]
  refine CallD.t (F_spec_swGood_w (fu := fu) (hx0_0.agree A3.agree) (hx0_1.agree A3.agree) hc9) ?_
  rintro _ G11 ⟨a14, rfl, S15⟩
  have A13 := A3.ext (hB.le A3.1) a14.agree
  have S12 : Sep G11 (Fr H) [AL.box p4 [v0_0, v0_1]] := S1.app a14.agree S15 (fun _ h => h) (hB.le A3.1)
  simp [-aBin', -aBin, -aBinI, -aUn, -aNil, -flatV, n_fn, b_add, b_sub, b_mul, b_lt, b_le, b_gt, b_ge, b_eq, b_ne, u_not, q8, a14.pre]
  apply hK
  clear hK K
  simp only [andThen, leaves]
  refine DWp.cond' (t := (bnot r1)) (by simp []) (fun hb16 => ?_) (fun hb16 => ?_)
  · replace hF := cd_t hb16 hF
    refine DWp.seq ?_
    refine DWp.region fun K hK => ?_
    simp [-aBin', -aBin, -aBinI, -aUn, -aNil, -flatV, n_fn, b_add, b_sub, b_mul, b_lt, b_le, b_gt, b_ge, b_eq, b_ne, u_not]
    apply hK
    clear hK K
    simp only [andThen, leaves]
    refine DWp.ret ?_
    simp only [andThen, leaves]
    have S17 := S12.rowsNil (hB.le A13.1) 22 3
    obtain rfl := Option.some.inj hF
    exact ⟨by simp, [(Value.slice none 0 0), (Value.bool false)], by simp [], A13, nilV, [], rfl, S17.pick [1] (by decide) rfl⟩
  · replace hF := cd_f hb16 hF
    refine DWp.skip ?_
    simp only [andThen, leaves]
    refine DWp.seq ?_
    have q18 := S12.loadAgg (P := Try.prog) (k := 0) rfl sz_26 ag_26 rfl
    obtain ⟨r2, hc19, hF⟩ := bd_some hF
    refine DWp.region fun K hK => ?_
    simp [-aBin', -aBin, -aBinI, -aUn, -aNil, -flatV, n_fn, b_add, b_sub, b_mul, b_lt, b_le, b_gt, b_ge, b_eq, b_ne, u_not, q18, ((hx0_0.agree A13.agree).tup), ((hx0_1.agree A13.agree).tup)]
    refine CallD.t (F_spec_swTogether_w (fu := fu) (hx0_0.agree A13.agree) (hx0_1.agree A13.agree) hc19) ?_
    rintro c20_u0 G21 ⟨a24, _, c20_C0, rfl, S25⟩
    have A23 := A13.ext (hB.le A13.1) a24.agree
    have S22 : Sep G21 (Fr H) [AL.box p4 [v0_0, v0_1], rowsC c20_u0 22 3 c20_C0 (List.map ints r2)] := S12.app a24.agree S25 (fun _ h => h) (hB.le A13.1)
    simp [-aBin', -aBin, -aBinI, -aUn, -aNil, -flatV, n_fn, b_add, b_sub, b_mul, b_lt, b_le, b_gt, b_ge, b_eq, b_ne, u_not, q18, a24.pre]
    apply hK
    clear hK K
    simp only [andThen, leaves]
    refine DWp.ret ?_
    obtain rfl := Option.some.inj hF
    exact ⟨by simp, [c20_u0, (Value.bool true)], by simp [((S22.rd (k := 1) rfl).tup)], A23, c20_u0, c20_C0, rfl, S22.pick [1] (by decide) rfl⟩
/-! loop.example/g01126/impl.CyclesOf -/
def F_impl_CyclesOf (fu : Nat) (x0_0 : List Int) (x0_1 : List Int) : Option (List (List Int) × Bool) :=
  bd (F_impl_IsSeaweed fu x0_0 x0_1) fun r1 =>
  bif (bnot r1) then
    some ([], false)
  else
    bd (F_impl_Seaweed_groups fu x0_0 x0_1) fun r2 =>
    some (r2.2, true)
theorem F_impl_CyclesOf_w {fu : Nat} {H : AH} {v0_0 : Value} {v0_1 : Value} {x0_0 : List Int} {x0_1 : List Int} {r : (List (List Int) × Bool)} (hx0_0 : Sl H v0_0 (ints x0_0)) (hx0_1 : Sl H v0_1 (ints x0_1)) (hF : F_impl_CyclesOf fu x0_0 x0_1 = some r) :
    ACallT Try.prog 33 [(Value.agg #[v0_0, v0_1])] H (fun u G => AgB (Fr H) H G ∧ ∃ u0 : Value, ∃ C0 : List Value, u = (Value.tuple #[u0, (Value.bool r.2)]) ∧ Sep G (Fr H) [rowsC u0 22 3 C0 (List.map ints r.1)]) := by
  refine ACallT.of_body (nt := 15) (rs := [.tmp 2, .tmp 3]) Try.func33 rfl rfl rfl rfl ?_
  have A0 : AgB (Fr H) H H := .refl _ _
  have S0 : Sep H (Fr H) [] := .nil
  have hB := Fr.up H
  unfold F_impl_CyclesOf at hF
  refine DWp.seq ?_
  obtain ⟨G2, p4, q5, q6, a7, S1⟩ := S0.boxT (hB.le A0.1) 26 [v0_0, v0_1]
  have A3 := A0.ext (hB.le A0.1) a7
  replace S1 : Sep G2 (Fr H) [AL.box p4 [v0_0, v0_1]] := S1
  refine DWp.region fun K hK => ?_
  simp [-aBin', -aBin, -aBinI, -aUn, -aNil, -flatV, n_fn, b_add, b_sub, b_mul, b_lt, b_le, b_gt, b_ge, b_eq, b_ne, u_not, q5, q6, a7.to_pre, cells_agg]
  apply hK
  clear hK K
  simp only [andThen, leaves]
  refine DWp.seq ?_
  refine DWp.seq ?_
  have q8 := S1.loadAgg (P := Try.prog) (k := 0) rfl sz_26 ag_26 rfl
  obtain ⟨r1, hc9, hF⟩ := bd_some hF
  refine DWp.region fun K hK => ?_
  simp [-aBin', -aBin, -aBinI, -aUn, -aNil, -flatV, n_fn, b_add, b_sub, b_mul, b_lt, b_le, b_gt, b_ge, b_eq, b_ne, u_not, q8, ((hx0_0.agree A3.agree).tup), ((hx0_1.agree A3.agree).tup)]
  refine CallD.t (F_impl_IsSeaweed_w (fu := fu) (hx0_0.agree A3.agree) (hx0_1.agree A3.agree) hc9) ?_
  rintro _ G11 ⟨a14, rfl, S15⟩
  have A13 := A3.ext (hB.le A3.1) a14.agree
  have S12 : Sep G11 (Fr H) [AL.box p4 [v0_0, v0_1]] := S1.app a14.agree S15 (fun _ h => h) (hB.le A3.1)
  simp [-aBin', -aBin, -aBinI, -aUn, -aNil, -flatV, n_fn, b_add, b_sub, b_mul, b_lt, b_le, b_gt, b_ge, b_eq, b_ne, u_not, q8, a14.pre]
  apply hK
  clear hK K
  simp only [andThen, leaves]
  refine DWp.cond' (t := (bnot r1)) (by simp []) (fun hb16 => ?_) (fun hb16 => ?_)
  · replace hF := cd_t hb16 hF
    refine DWp.seq ?_
    refine DWp.region fun K hK => ?_
    simp [-aBin', -aBin, -aBinI, -aUn, -aNil, -flatV, n_fn, b_add, b_sub, b_mul, b_lt, b_le, b_gt, b_ge, b_eq, b_ne, u_not]
    apply hK
    clear hK K
    simp only [andThen, leaves]
    refine DWp.ret ?_
    simp only [andThen, leaves]
    have S17 := S12.rowsNil (hB.le A13.1) 22 3
    obtain rfl := Option.some.inj hF
    exact ⟨by simp, [(Value.slice none 0 0), (Value.bool false)], by simp [], A13, nilV, [], rfl, S17.pick [1] (by decide) rfl⟩
  · replace hF := cd_f hb16 hF
    refine DWp.skip ?_
    simp only [andThen, leaves]
    refine DWp.seq ?_
    have q18 := S12.loadAgg (P := Try.prog) (k := 0) rfl sz_26 ag_26 rfl
    obtain ⟨r2, hc19, hF⟩ := bd_some hF
    refine DWp.region fun K hK => ?_
    simp [-aBin', -aBin, -aBinI, -aUn, -aNil, -flatV, n_fn, b_add, b_sub, b_mul, b_lt, b_le, b_gt, b_ge, b_eq, b_ne, u_not, q18, ((hx0_0.agree A13.agree).tup), ((hx0_1.agree A13.agree).tup)]
    refine CallD.t (F_impl_Seaweed_groups_w (fu := fu) (hx0_0.agree A13.agree) (hx0_1.agree A13.agree) hc19) ?_
    rintro _ G21 ⟨a24, c20_u0, c20_C0, c20_u2, c20_C2, rfl, S25⟩
    have A23 := A13.ext (hB.le A13.1) a24.agree
    have S22 : Sep G21 (Fr H) [AL.box p4 [v0_0, v0_1], rowsC c20_u0 22 3 c20_C0 (List.map ints r2.1), rowsC c20_u2 22 3 c20_C2 (List.map ints r2.2)] := S12.app a24.agree S25 (fun _ h => h) (hB.le A13.1)
    simp [-aBin', -aBin, -aBinI, -aUn, -aNil, -flatV, n_fn, b_add, b_sub, b_mul, b_lt, b_le, b_gt, b_ge, b_eq, b_ne, u_not, q18, a24.pre]
    apply hK
    clear hK K
    simp only [andThen, leaves]
    refine DWp.seq ?_
    refine DWp.region fun K hK => ?_
    simp [-aBin', -aBin, -aBinI, -aUn, -aNil, -flatV, n_fn, b_add, b_sub, b_mul, b_lt, b_le, b_gt, b_ge, b_eq, b_ne, u_not]
    apply hK
    clear hK K
    simp only [andThen, leaves]
    refine DWp.ret ?_
    obtain rfl := Option.some.inj hF
    exact ⟨by simp, [c20_u2, (Value.bool true)], by simp [((S22.rd (k := 2) rfl).tup)], A23, c20_u2, c20_C2, rfl, S22.pick [2] (by decide) rfl⟩
/-! loop.example/g01126/laws.eqIntSS -/
def F_laws_eqIntSS_L1 (fu : Nat) (k1_0 : List (List Int)) (k1_1 : List (List Int)) : Nat → Int → Option (LR (Bool) (Int))
  | 0, _ => none
  | n + 1, y1_5 =>
    bif (ilt y1_5 (llen k1_0)) then
      gd (inL k1_0 y1_5) (
      gd (inL k1_1 y1_5) (
      bd (F_laws_eqIntS fu (gat [] k1_0 y1_5) (gat [] k1_1 y1_5)) fun r1 =>
      bif (bnot r1) then
        some (.ret false)
      else
        F_laws_eqIntSS_L1 fu k1_0 k1_1 n (iadd .i64 y1_5 1)))
    else
      some (.brk y1_5)
def F_laws_eqIntSS (fu : Nat) (x0 : List (List Int)) (x1 : List (List Int)) : Option (Bool) :=
  bif (ine (llen x0) (llen x1)) then
    some false
  else
    bd (F_laws_eqIntSS_L1 fu x0 x1 fu 0) fun s1 =>
    lr s1 fun s1 =>
    some true
theorem F_laws_eqIntSS_w {fu : Nat} {H : AH} {v0 : Value} {v1 : Value} {x0 : List (List Int)} {x1 : List (List Int)} {r : (Bool)} (hx0 : SlSl H v0 (List.map ints x0)) (hx1 : SlSl H v1 (List.map ints x1)) (hF : F_laws_eqIntSS fu x0 x1 = some r) :
    ACallT Try.prog 34 [v0, v1] H (fun u G => AgB (Fr H) H G ∧ u = (Value.bool r) ∧ Sep G (Fr H) []) := by
  refine ACallT.of_body (nt := 27) (rs := [.tmp 4]) Try.func34 rfl rfl rfl rfl ?_
  have A0 : AgB (Fr H) H H := .refl _ _
  have S0 : Sep H (Fr H) [] := .nil
  have hB := Fr.up H
  unfold F_laws_eqIntSS at hF
  obtain ⟨C0, hC0⟩ := hx0.rd
  obtain ⟨C1, hC1⟩ := hx1.rd
  refine DWp.seq ?_
  refine DWp.region fun K hK => ?_
  simp [-aBin', -aBin, -aBinI, -aUn, -aNil, -flatV, n_fn, b_add, b_sub, b_mul, b_lt, b_le, b_gt, b_ge, b_eq, b_ne, u_not]
  apply hK
  clear hK K
  simp only [andThen, leaves]
  refine DWp.seq ?_
  refine DWp.seq ?_
  have q1 := (hC0.agree A0.agree).lenG (P := Try.prog) el_46
  have q2 := (hC1.agree A0.agree).lenG (P := Try.prog) el_46
  refine DWp.region fun K hK => ?_
  simp [-aBin', -aBin, -aBinI, -aUn, -aNil, -flatV, n_fn, b_add, b_sub, b_mul, b_lt, b_le, b_gt, b_ge, b_eq, b_ne, u_not, q1, q2]
  apply hK
  clear hK K
  simp only [andThen, leaves]
  refine DWp.cond' (t := (ine (llen x0) (llen x1))) (by simp []) (fun hb3 => ?_) (fun hb3 => ?_)
  · replace hF := cd_t hb3 hF
    refine DWp.seq ?_
    refine DWp.region fun K hK => ?_
    simp [-aBin', -aBin, -aBinI, -aUn, -aNil, -flatV, n_fn, b_add, b_sub, b_mul, b_lt, b_le, b_gt, b_ge, b_eq, b_ne, u_not]
    apply hK
    clear hK K
    simp only [andThen, leaves]
    refine DWp.ret ?_
    simp only [andThen, leaves]
    obtain rfl := Option.some.inj hF
    exact ⟨by simp, [(Value.bool false)], by simp [], A0, rfl, S0.pick [] (by decide) rfl⟩
  · replace hF := cd_f hb3 hF
    refine DWp.skip ?_
    simp only [andThen, leaves]
    refine DWp.seq ?_
    refine DWp.seq ?_
    refine DWp.region fun K hK => ?_
    simp [-aBin', -aBin, -aBinI, -aUn, -aNil, -flatV, n_fn, b_add, b_sub, b_mul, b_lt, b_le, b_gt, b_ge, b_eq, b_ne, u_not]
    apply hK
    clear hK K
    simp only [andThen, leaves]
    refine DWp.block ?_
    obtain ⟨s4, hL5, hF⟩ := bd_some hF
    have S6 := S0.pick [] (by decide) rfl
    refine DWp.loop (fun n env G => ∃ y1_5 : Int, F_laws_eqIntSS_L1 fu x0 x1 n y1_5 = some s4 ∧ Sep G (Fr H) [] ∧ AgB (Fr H) H G ∧ env 0 = some v0 ∧ env 1 = some v1 ∧ env 5 = some (Value.int .i64 y1_5)) fu ⟨0, hL5, S6, A0, by simp [], by simp [], by simp []⟩ ?_
    rintro n1 env1 G1_ ⟨y1_5, hL5, S1_, A1_, e1_0, e1_1, e1_5⟩
    cases n1 with
    | zero => cases hL5
    | succ n1 =>
      simp only [F_laws_eqIntSS_L1] at hL5
      refine DWp.seq ?_
      refine DWp.seq ?_
      have q7 := (hC0.agree A1_.agree).lenG (P := Try.prog) el_46
      refine DWp.region fun K hK => ?_
      simp [-aBin', -aBin, -aBinI, -aUn, -aNil, -flatV, n_fn, b_add, b_sub, b_mul, b_lt, b_le, b_gt, b_ge, b_eq, b_ne, u_not, e1_0, e1_1, e1_5, q7]
      apply hK
      clear hK K
      simp only [andThen, leaves]
      refine DWp.cond' (t := (ilt y1_5 (llen x0))) (by simp [e1_0, e1_1, e1_5]) (fun hb8 => ?_) (fun hb8 => ?_)
      · replace hL5 := cd_t hb8 hL5
        refine DWp.skip ?_
        simp only [andThen, leaves]
        refine DWp.seq ?_
        refine DWp.block ?_
        refine DWp.seq ?_
        obtain ⟨g9, hL5⟩ := gd_some hL5
        have q10 := (hC0.agree A1_.agree).idxG (P := Try.prog) (kk := .i64) el_46 sz_22 g9
        have q11 := (hC0.agree A1_.agree).loadG (P := Try.prog) sz_22 ag_22 g9
        obtain ⟨g12, hL5⟩ := gd_some hL5
        have q13 := (hC1.agree A1_.agree).idxG (P := Try.prog) (kk := .i64) el_46 sz_22 g12
        have q14 := (hC1.agree A1_.agree).loadG (P := Try.prog) sz_22 ag_22 g12
        obtain ⟨r1, hc15, hL5⟩ := bd_some hL5
        refine DWp.drawn (B := [0, 0, 3, 7, 0, 0, 48, 112, 255, 511]) 10 mixed (by kernel_rfl) (by decide) fun K hK => ?_
        simp [-aBin', -aBin, -aBinI, -aUn, -aNil, -flatV, n_fn, b_add, b_sub, b_mul, b_lt, b_le, b_gt, b_ge, b_eq, b_ne, u_not, e1_0, e1_1, e1_5, q10, q11, q13, q14, (((hC0.agree A1_.agree).rowAt [] g9).tup), (((hC1.agree A1_.agree).rowAt [] g12).tup)]
        refine CallD.t (F_laws_eqIntS_w (fu := fu) ((hC0.agree A1_.agree).rowAt [] g9) ((hC1.agree A1_.agree).rowAt [] g12) hc15) ?_
        rintro _ G17 ⟨a20, rfl, S21⟩
        have A19 := A1_.ext (hB.le A1_.1) a20.agree
        have S18 : Sep G17 (Fr H) [] := S1_.app a20.agree S21 (fun _ h => h) (hB.le A1_.1)
        simp [-aBin', -aBin, -aBinI, -aUn, -aNil, -flatV, n_fn, b_add, b_sub, b_mul, b_lt, b_le, b_gt, b_ge, b_eq, b_ne, u_not, e1_0, e1_1, e1_5, q10, q11, q13, q14, a20.pre]
        apply hK
        clear hK K
        simp only [andThen, leaves]
        refine DWp.cond' (t := (bnot r1)) (by simp [e1_0, e1_1, e1_5]) (fun hb22 => ?_) (fun hb22 => ?_)
        · replace hL5 := cd_t hb22 hL5
          refine DWp.seq ?_
          refine DWp.region fun K hK => ?_
          simp [-aBin', -aBin, -aBinI, -aUn, -aNil, -flatV, n_fn, b_add, b_sub, b_mul, b_lt, b_le, b_gt, b_ge, b_eq, b_ne, u_not, e1_0, e1_1, e1_5]
          apply hK
          clear hK K
          simp only [andThen, leaves]
          refine DWp.ret ?_
          simp only [andThen, leaves]
          obtain rfl := Option.some.inj hL5
          simp only [lr] at hF
          obtain rfl := Option.some.inj hF
          exact ⟨by simp, [(Value.bool false)], by simp [e1_0, e1_1, e1_5], A19, rfl, S18.pick [] (by decide) rfl⟩
        · replace hL5 := cd_f hb22 hL5
          refine DWp.skip ?_
          simp only [andThen, leaves]
          refine DWp.region fun K hK => ?_
          simp [-aBin', -aBin, -aBinI, -aUn, -aNil, -flatV, n_fn, b_add, b_sub, b_mul, b_lt, b_le, b_gt, b_ge, b_eq, b_ne, u_not, e1_0, e1_1, e1_5]
          apply hK
          clear hK K
          simp only [andThen, leaves]
          have S23 := S18.pick [] (by decide) rfl
          exact ⟨n1, Nat.lt_succ_self _, (iadd .i64 y1_5 1), hL5, S23, A19, by simp [e1_0, e1_1, e1_5], by simp [e1_0, e1_1, e1_5], by simp [e1_0, e1_1, e1_5]⟩
      · replace hL5 := cd_f hb8 hL5
        refine DWp.exit ?_
        simp only [andThen, leaves, if_true, if_false, reduceIte, Nat.reduceEqDiff]
        obtain rfl := Option.some.inj hL5
        simp only [lr] at hF
        refine DWp.seq ?_
        refine DWp.region fun K hK => ?_
        simp [-aBin', -aBin, -aBinI, -aUn, -aNil, -flatV, n_fn, b_add, b_sub, b_mul, b_lt, b_le, b_gt, b_ge, b_eq, b_ne, u_not, e1_0, e1_1, e1_5]
        apply hK
        clear hK K
        simp only [andThen, leaves]
        refine DWp.ret ?_
        obtain rfl := Option.some.inj hF
        exact ⟨by simp, [(Value.bool true)], by simp [e1_0, e1_1, e1_5], A1_, rfl, S1_.pick [] (by decide) rfl⟩
/-! loop.example/g01126/laws.markSeaweed -/
def F_laws_markSeaweed (fu : Nat) (x0_0 : List Int) (x0_1 : List Int) (x1 : Int) : Option (Int × List Int × List Int) :=
  bd (F_laws_markIntS fu x0_0 x1) fun r1 =>
  bd (F_laws_markIntS fu x0_1 r1.1) fun r2 =>
  some (r2.1, r1.2, r2.2)
theorem F_laws_markSeaweed_w {fu : Nat} {H : AH} {B : Nat → Prop} {v0_0 : Value} {v0_1 : Value} {x0_0 : List Int} {x0_1 : List Int} {x1 : Int} {r : (Int × List Int × List Int)} (hB : Up B H.length) (S0 : Sep H B [flat v0_0 3 (ints x0_0), flat v0_1 3 (ints x0_1)]) (hF : F_laws_markSeaweed fu x0_0 x0_1 x1 = some r) :
    ACallT Try.prog 17 [(Value.agg #[v0_0, v0_1]), (Value.int .i64 x1)] H (fun u G => AgB B H G ∧ u = (Value.int .i64 r.1) ∧ Sep G B [flat v0_0 3 (ints r.2.1), flat v0_1 3 (ints r.2.2)]) := by
  refine ACallT.of_body (nt := 14) (rs := [.tmp 4]) Try.func17 rfl rfl rfl rfl ?_
  have A0 : AgB B H H := .refl _ _
  unfold F_laws_markSeaweed at hF
  refine DWp.seq ?_
  obtain ⟨G2, p4, q5, q6, a7, S1⟩ := S0.boxT (hB.le A0.1) 26 [v0_0, v0_1]
  have A3 := A0.ext (hB.le A0.1) a7
  replace S1 : Sep G2 B [flat v0_0 3 (ints x0_0), flat v0_1 3 (ints x0_1), AL.box p4 [v0_0, v0_1]] := S1
  refine DWp.region fun K hK => ?_
  simp [-aBin', -aBin, -aBinI, -aUn, -aNil, -flatV, n_fn, b_add, b_sub, b_mul, b_lt, b_le, b_gt, b_ge, b_eq, b_ne, u_not, q5, q6, a7.to_pre, cells_agg]
  apply hK
  clear hK K
  simp only [andThen, leaves]
  refine DWp.seq ?_
  have q8 := S1.fieldT (P := Try.prog) (k := 2) rfl fa_26_0
  have q9 := S1.loadF (P := Try.prog) (k := 2) rfl sz_22 ag_22 (off := 0) rfl
  obtain ⟨r1, hc10, hF⟩ := bd_some hF
  refine DWp.region fun K hK => ?_
  simp [-aBin', -aBin, -aBinI, -aUn, -aNil, -flatV, n_fn, b_add, b_sub, b_mul, b_lt, b_le, b_gt, b_ge, b_eq, b_ne, u_not, q8, q9, ((S1.sl (k := 0) rfl).tup)]
  have S11 : Sep G2 B ([flat v0_0 3 (ints x0_0)] ++ [flat v0_1 3 (ints x0_1), AL.box p4 [v0_0, v0_1]]) := S1.pick [0, 1, 2] (by decide) rfl
  obtain ⟨B17, S12, U13, M14, R15, C16⟩ := S11.frame (hB.le A3.1)
  refine CallD.t (F_laws_markIntS_w (fu := fu) U13 S12 hc10) ?_
  rintro _ G19 ⟨a22, rfl, S23⟩
  have A21 := A3.trans (a22.mono M14)
  have S20 : Sep G19 B [flat v0_0 3 (ints r1.2), flat v0_1 3 (ints x0_1), AL.box p4 [v0_0, v0_1]] := C16 _ _ a22 S23
  simp [-aBin', -aBin, -aBinI, -aUn, -aNil, -flatV, n_fn, b_add, b_sub, b_mul, b_lt, b_le, b_gt, b_ge, b_eq, b_ne, u_not, q8, q9]
  apply hK
  clear hK K
  simp only [andThen, leaves]
  refine DWp.seq ?_
  have q24 := S20.fieldT (P := Try.prog) (k := 2) rfl fa_26_1
  have q25 := S20.loadF (P := Try.prog) (k := 2) rfl sz_22 ag_22 (off := 1) rfl
  obtain ⟨r2, hc26, hF⟩ := bd_some hF
  refine DWp.region fun K hK => ?_
  simp [-aBin', -aBin, -aBinI, -aUn, -aNil, -flatV, n_fn, b_add, b_sub, b_mul, b_lt, b_le, b_gt, b_ge, b_eq, b_ne, u_not, q24, q25, ((S20.sl (k := 1) rfl).tup)]
  have S27 : Sep G19 B ([flat v0_1 3 (ints x0_1)] ++ [flat v0_0 3 (ints r1.2), AL.box p4 [v0_0, v0_1]]) := S20.pick [1, 0, 2] (by decide) rfl
  obtain ⟨B33, S28, U29, M30, R31, C32⟩ := S27.frame (hB.le A21.1)
  refine CallD.t (F_laws_markIntS_w (fu := fu) U29 S28 hc26) ?_
  rintro _ G35 ⟨a38, rfl, S39⟩
  have A37 := A21.trans (a38.mono M30)
  have S36 : Sep G35 B [flat v0_1 3 (ints r2.2), flat v0_0 3 (ints r1.2), AL.box p4 [v0_0, v0_1]] := C32 _ _ a38 S39
  simp [-aBin', -aBin, -aBinI, -aUn, -aNil, -flatV, n_fn, b_add, b_sub, b_mul, b_lt, b_le, b_gt, b_ge, b_eq, b_ne, u_not, q24, q25]
  apply hK
  clear hK K
  simp only [andThen, leaves]
  refine DWp.seq ?_
  refine DWp.region fun K hK => ?_
  simp [-aBin', -aBin, -aBinI, -aUn, -aNil, -flatV, n_fn, b_add, b_sub, b_mul, b_lt, b_le, b_gt, b_ge, b_eq, b_ne, u_not]
  apply hK
  clear hK K
  simp only [andThen, leaves]
  refine DWp.ret ?_
  obtain rfl := Option.some.inj hF
  exact ⟨by simp, [(Value.int .i64 r2.1)], by simp [], A37, rfl, S36.pick [1, 0] (by decide) rfl⟩
/-! loop.example/g01126/laws.markIntSS -/
def F_laws_markIntSS_L1 (fu : Nat)  : Nat → List (List Int) → Int → Int → Option (List (List Int) × Int × Int)
  | 0, _, _, _ => none
  | n + 1, l1_0, y1_1, y1_5 =>
    bif (ilt y1_5 (llen l1_0)) then
      gd (inL l1_0 y1_5) (
      bd (F_laws_markIntS fu (gat [] l1_0 y1_5) y1_1) fun r1 =>
      F_laws_markIntSS_L1 fu n (lset l1_0 y1_5 r1.2) r1.1 (iadd .i64 y1_5 1))
    else
      some (l1_0, y1_1, y1_5)
def F_laws_markIntSS (fu : Nat) (x0 : List (List Int)) (x1 : Int) : Option (Int × List (List Int)) :=
  bd (F_laws_markIntSS_L1 fu fu x0 x1 0) fun s1 =>
  some (s1.2.1, s1.1)
theorem F_laws_markIntSS_w {fu : Nat} {H : AH} {B : Nat → Prop} {v0 : Value} {C0 : List Value} {x0 : List (List Int)} {x1 : Int} {r : (Int × List (List Int))} (hB : Up B H.length) (S0 : Sep H B [rowsC v0 22 3 C0 (List.map ints x0)]) (hF : F_laws_markIntSS fu x0 x1 = some r) :
    ACallT Try.prog 35 [v0, (Value.int .i64 x1)] H (fun u G => AgB B H G ∧ u = (Value.int .i64 r.1) ∧ Sep G B [rowsC v0 22 3 C0 (List.map ints r.2)]) := by
  refine ACallT.of_body (nt := 19) (rs := [.tmp 4]) Try.func35 rfl rfl rfl rfl ?_
  have A0 : AgB B H H := .refl _ _
  unfold F_laws_markIntSS at hF
  refine DWp.seq ?_
  refine DWp.region fun K hK => ?_
  simp [-aBin', -aBin, -aBinI, -aUn, -aNil, -flatV, n_fn, b_add, b_sub, b_mul, b_lt, b_le, b_gt, b_ge, b_eq, b_ne, u_not]
  apply hK
  clear hK K
  simp only [andThen, leaves]
  refine DWp.seq ?_
  refine DWp.seq ?_
  refine DWp.region fun K hK => ?_
  simp [-aBin', -aBin, -aBinI, -aUn, -aNil, -flatV, n_fn, b_add, b_sub, b_mul, b_lt, b_le, b_gt, b_ge, b_eq, b_ne, u_not]
  apply hK
  clear hK K
  simp only [andThen, leaves]
  refine DWp.block ?_
  obtain ⟨s1, hL2, hF⟩ := bd_some hF
  have S3 := S0.pick [0] (by decide) rfl
  refine DWp.loop (fun n env G => ∃ l1_0 : List (List Int), ∃ y1_1 : Int, ∃ y1_5 : Int, F_laws_markIntSS_L1 fu n l1_0 y1_1 y1_5 = some s1 ∧ Sep G B [rowsC v0 22 3 C0 (List.map ints l1_0)] ∧ AgB B H G ∧ env 0 = some v0 ∧ env 1 = some (Value.int .i64 y1_1) ∧ env 5 = some (Value.int .i64 y1_5)) fu ⟨x0, x1, 0, hL2, S3, A0, by simp [], by simp [], by simp []⟩ ?_
  rintro n1 env1 G1_ ⟨l1_0, y1_1, y1_5, hL2, S1_, A1_, e1_0, e1_1, e1_5⟩
  cases n1 with
  | zero => cases hL2
  | succ n1 =>
    simp only [F_laws_markIntSS_L1] at hL2
    refine DWp.seq ?_
    refine DWp.seq ?_
    have q4 := (S1_.rd (k := 0) rfl).lenG (P := Try.prog) el_46
    refine DWp.region fun K hK => ?_
    simp [-aBin', -aBin, -aBinI, -aUn, -aNil, -flatV, n_fn, b_add, b_sub, b_mul, b_lt, b_le, b_gt, b_ge, b_eq, b_ne, u_not, e1_0, e1_1, e1_5, q4]
    apply hK
    clear hK K
    simp only [andThen, leaves]
    refine DWp.cond' (t := (ilt y1_5 (llen l1_0))) (by simp [e1_0, e1_1, e1_5]) (fun hb5 => ?_) (fun hb5 => ?_)
    · replace hL2 := cd_t hb5 hL2
      refine DWp.skip ?_
      simp only [andThen, leaves]
      refine DWp.seq ?_
      refine DWp.block ?_
      obtain ⟨g6, hL2⟩ := gd_some hL2
      have q7 := (S1_.rd (k := 0) rfl).idxG (P := Try.prog) (kk := .i64) el_46 sz_22 g6
      have q8 := (S1_.rd (k := 0) rfl).loadG (P := Try.prog) sz_22 ag_22 g6
      have S9 : Sep G1_ B [rowsX v0 22 3 C0 (List.map ints l1_0) (y1_5).toNat, flat (gat nilV C0 y1_5) 3 (ints (gat [] l1_0 y1_5))] := S1_.rowOut (fr := ints) (k := 0) rfl [] g6
      obtain ⟨r1, hc10, hL2⟩ := bd_some hL2
      refine DWp.region fun K hK => ?_
      simp [-aBin', -aBin, -aBinI, -aUn, -aNil, -flatV, n_fn, b_add, b_sub, b_mul, b_lt, b_le, b_gt, b_ge, b_eq, b_ne, u_not, e1_0, e1_1, e1_5, q7, q8, (((S1_.rd (k := 0) rfl).rowAt [] g6).tup)]
      have S11 : Sep G1_ B ([flat (gat nilV C0 y1_5) 3 (ints (gat [] l1_0 y1_5))] ++ [rowsX v0 22 3 C0 (List.map ints l1_0) (y1_5).toNat]) := S9.pick [1, 0] (by decide) rfl
      obtain ⟨B17, S12, U13, M14, R15, C16⟩ := S11.frame (hB.le A1_.1)
      refine CallD.t (F_laws_markIntS_w (fu := fu) U13 S12 hc10) ?_
      rintro _ G19 ⟨a22, rfl, S23⟩
      have A21 := A1_.trans (a22.mono M14)
      have S20 : Sep G19 B [flat (gat nilV C0 y1_5) 3 (ints r1.2), rowsX v0 22 3 C0 (List.map ints l1_0) (y1_5).toNat] := C16 _ _ a22 S23
      have S24 : Sep G19 B [emp, rowsC v0 22 3 C0 (List.map ints (lset l1_0 y1_5 r1.2))] := S20.rowIn (fr := ints) (j := 1) (k := 0) (by decide) rfl rfl g6
      simp [-aBin', -aBin, -aBinI, -aUn, -aNil, -flatV, n_fn, b_add, b_sub, b_mul, b_lt, b_le, b_gt, b_ge, b_eq, b_ne, u_not, e1_0, e1_1, e1_5, q7, q8]
      apply hK
      clear hK K
      simp only [andThen, leaves]
      refine DWp.region fun K hK => ?_
      simp [-aBin', -aBin, -aBinI, -aUn, -aNil, -flatV, n_fn, b_add, b_sub, b_mul, b_lt, b_le, b_gt, b_ge, b_eq, b_ne, u_not, e1_0, e1_1, e1_5]
      apply hK
      clear hK K
      simp only [andThen, leaves]
      have S25 := S24.pick [1] (by decide) rfl
      exact ⟨n1, Nat.lt_succ_self _, (lset l1_0 y1_5 r1.2), r1.1, (iadd .i64 y1_5 1), hL2, S25, A21, by simp [e1_0, e1_1, e1_5], by simp [e1_0, e1_1, e1_5], by simp [e1_0, e1_1, e1_5]⟩
    · replace hL2 := cd_f hb5 hL2
      refine DWp.exit ?_
      simp only [andThen, leaves, if_true, if_false, reduceIte, Nat.reduceEqDiff]
      obtain rfl := Option.some.inj hL2
      try dsimp only at hF
      refine DWp.seq ?_
      refine DWp.region fun K hK => ?_
      simp [-aBin', -aBin, -aBinI, -aUn, -aNil, -flatV, n_fn, b_add, b_sub, b_mul, b_lt, b_le, b_gt, b_ge, b_eq, b_ne, u_not, e1_0, e1_1, e1_5]
      apply hK
      clear hK K
      simp only [andThen, leaves]
      refine DWp.ret ?_
      obtain rfl := Option.some.inj hF
      exact ⟨by simp, [(Value.int .i64 y1_1)], by simp [e1_0, e1_1, e1_5], A1_, rfl, S1_.pick [0] (by decide) rfl⟩
end Go.Proofs.Ytfccbmpfnonjiaa.AL

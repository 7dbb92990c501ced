/- The walks of functions, each with its Lean function: laws.FnExactWindStep. No condition. -/
import Derived.Test.YtfccbmpfnonjiaaG1
import Derived.Test.YtfccbmpfnonjiaaG2
import Derived.Test.YtfccbmpfnonjiaaG3
import Derived.Test.YtfccbmpfnonjiaaG4
import Derived.Test.YtfccbmpfnonjiaaG5
import Derived.Test.YtfccbmpfnonjiaaG6
import Derived.Test.YtfccbmpfnonjiaaG7
import Derived.Test.YtfccbmpfnonjiaaGSort
import Derived.Test.YtfccbmpfnonjiaaAL34
import Derived.Test.YtfccbmpfnonjiaaProg
import Derived.KernelRfl
namespace Go.Proofs.Ytfccbmpfnonjiaa.AL
open Go Go.RowKit
set_option linter.unusedVariables false
set_option linter.unusedSimpArgs false
set_option maxRecDepth 4096

/-! loop.example/g01126/laws.FnExactWindStep -/
def F_laws_FnExactWindStep (fu : Nat) (x0_0 : List Int) (x0_1 : List Int) : Option (Bool) :=
  bd (F_laws_szSeaweed fu x0_0 x0_1 1048576) fun r1 =>
  bif (ilt r1 0) then
    some true
  else
    bd (F_laws_toSeaweed fu x0_0 x0_1) fun r2 =>
    bd (F_spec_WindStep fu r2.1 r2.2) fun r3 =>
    bd (F_laws_toSeaweed fu x0_0 x0_1) fun r4 =>
    bd (F_impl_WindStep fu r4.1 r4.2) fun r5 =>
    bd (
      bd (F_laws_eqSeaweed fu r5.1.1 r5.1.2 r3.1.1 r3.1.2) fun r6 =>
      bif (bnot r6) then
        some true
      else
        bif (sne' r5.2.1 r3.2.1) then
          some true
        else
          some (bne' r5.2.2 r3.2.2)) fun s84 =>
    bif s84 then
      some false
    else
      bd (F_laws_toSeaweed fu x0_0 x0_1) fun r7 =>
      bd (F_laws_eqSeaweed fu r4.1 r4.2 r7.1 r7.2) fun r8 =>
      bif (bnot r8) then
        some false
      else
        bd (F_laws_markSeaweed fu r4.1 r4.2 1) fun r9 =>
        bd (
          bif (ilt r9.1 0) then
            some true
          else
            bd (F_laws_eqSeaweed fu r5.1.1 r5.1.2 r3.1.1 r3.1.2) fun r10 =>
            bif (bnot r10) then
              some true
            else
              bif (sne' r5.2.1 r3.2.1) then
                some true
              else
                some (bne' r5.2.2 r3.2.2)) fun s135 =>
        bif s135 then
          some false
        else
          bd (F_laws_markSeaweed fu r5.1.1 r5.1.2 1) fun r11 =>
          bd (F_laws_heldSeaweed fu r11.2.1 r11.2.2 1) fun r12 =>
          bif (ilt r12 0) then
            some false
          else
            bif (ine r12 r11.1) then
              some false
            else
              bd (F_laws_toSeaweed fu x0_0 x0_1) fun r13 =>
              bd (F_impl_WindStep fu r13.1 r13.2) fun r14 =>
              bd (
                bd (F_laws_eqSeaweed fu r14.1.1 r14.1.2 r3.1.1 r3.1.2) fun r15 =>
                bif (bnot r15) then
                  some true
                else
                  bif (sne' r14.2.1 r3.2.1) then
                    some true
                  else
                    some (bne' r14.2.2 r3.2.2)) fun s208 =>
              bif s208 then
                some false
              else
                bd (F_laws_heldSeaweed fu r11.2.1 r11.2.2 1) fun r16 =>
                bif (ilt r16 0) then
                  some false
                else
                  bif (ine r16 r11.1) then
                    some false
                  else
                    some true
theorem F_laws_FnExactWindStep_w {fu : Nat} {H : AH} {v0_0 : Value} {v0_1 : Value} {x0_0 : List Int} {x0_1 : List Int} {r : (Bool)} (hx0_0 : Sl H v0_0 (ints x0_0)) (hx0_1 : Sl H v0_1 (ints x0_1)) (hF : F_laws_FnExactWindStep fu x0_0 x0_1 = some r) :
    ACallT Try.prog 3 [(Value.agg #[v0_0, v0_1])] H (fun u G => AgB (Fr H) H G ∧ u = (Value.bool r) ∧ Sep G (Fr H) []) := by
  refine ACallT.of_body (nt := 117) (rs := [.tmp 2]) Try.func3 rfl rfl rfl rfl ?_
  have A0 : AgB (Fr H) H H := .refl _ _
  have S0 : Sep H (Fr H) [] := .nil
  have hB := Fr.up H
  unfold F_laws_FnExactWindStep at hF
  refine DWp.seq ?_
  obtain ⟨G2, p4, q5, q6, a7, S1⟩ := S0.boxT (hB.le A0.1) 24 [v0_0, v0_1]
  have A3 := A0.ext (hB.le A0.1) a7
  replace S1 : Sep G2 (Fr H) [AL.box p4 [v0_0, v0_1]] := S1
  refine DWp.region fun K hK => ?_
  simp [-aBin', -aBin, -aBinI, -aUn, -aNil, -flatV, n_fn, b_add, b_sub, b_mul, b_lt, b_le, b_gt, b_ge, b_eq, b_ne, u_not, q5, q6, a7.to_pre, cells_agg]
  apply hK
  clear hK K
  simp only [andThen, leaves]
  refine DWp.seq ?_
  refine DWp.region fun K hK => ?_
  simp [-aBin', -aBin, -aBinI, -aUn, -aNil, -flatV, n_fn, b_add, b_sub, b_mul, b_lt, b_le, b_gt, b_ge, b_eq, b_ne, u_not]
  apply hK
  clear hK K
  simp only [andThen, leaves]
  refine DWp.seq ?_
  have q8 := S1.loadAgg (P := Try.prog) (k := 0) rfl sz_24 ag_24 rfl
  obtain ⟨r1, hc9, hF⟩ := bd_some hF
  refine DWp.region fun K hK => ?_
  simp [-aBin', -aBin, -aBinI, -aUn, -aNil, -flatV, n_fn, b_add, b_sub, b_mul, b_lt, b_le, b_gt, b_ge, b_eq, b_ne, u_not, q8, ((hx0_0.agree A3.agree).tup), ((hx0_1.agree A3.agree).tup)]
  refine CallD.t (F_laws_szSeaweed_w (fu := fu) (hx0_0.agree A3.agree) (hx0_1.agree A3.agree) hc9) ?_
  rintro _ G11 ⟨a14, rfl, S15⟩
  have A13 := A3.ext (hB.le A3.1) a14.agree
  have S12 : Sep G11 (Fr H) [AL.box p4 [v0_0, v0_1]] := S1.app a14.agree S15 (fun _ h => h) (hB.le A3.1)
  simp [-aBin', -aBin, -aBinI, -aUn, -aNil, -flatV, n_fn, b_add, b_sub, b_mul, b_lt, b_le, b_gt, b_ge, b_eq, b_ne, u_not, q8, a14.pre]
  apply hK
  clear hK K
  simp only [andThen, leaves]
  refine DWp.seq ?_
  refine DWp.seq ?_
  refine DWp.region fun K hK => ?_
  simp [-aBin', -aBin, -aBinI, -aUn, -aNil, -flatV, n_fn, b_add, b_sub, b_mul, b_lt, b_le, b_gt, b_ge, b_eq, b_ne, u_not]
  apply hK
  clear hK K
  simp only [andThen, leaves]
  refine DWp.cond' (t := (ilt r1 0)) (by simp []) (fun hb16 => ?_) (fun hb16 => ?_)
  · replace hF := cd_t hb16 hF
    refine DWp.seq ?_
    refine DWp.region fun K hK => ?_
    simp [-aBin', -aBin, -aBinI, -aUn, -aNil, -flatV, n_fn, b_add, b_sub, b_mul, b_lt, b_le, b_gt, b_ge, b_eq, b_ne, u_not]
    apply hK
    clear hK K
    simp only [andThen, leaves]
    refine DWp.ret ?_
    simp only [andThen, leaves]
    obtain rfl := Option.some.inj hF
    exact ⟨by simp, [(Value.bool true)], by simp [], A13, rfl, S12.pick [] (by decide) rfl⟩
  · replace hF := cd_f hb16 hF
    refine DWp.skip ?_
    simp only [andThen, leaves]
    refine DWp.seq ?_
    have q17 := S12.loadAgg (P := Try.prog) (k := 0) rfl sz_24 ag_24 rfl
    obtain ⟨r2, hc18, hF⟩ := bd_some hF
    refine DWp.region fun K hK => ?_
    simp [-aBin', -aBin, -aBinI, -aUn, -aNil, -flatV, n_fn, b_add, b_sub, b_mul, b_lt, b_le, b_gt, b_ge, b_eq, b_ne, u_not, q17, ((hx0_0.agree A13.agree).tup), ((hx0_1.agree A13.agree).tup)]
    refine CallD.t (F_laws_toSeaweed_w (fu := fu) (hx0_0.agree A13.agree) (hx0_1.agree A13.agree) hc18) ?_
    rintro _ G20 ⟨a23, c19_u0, c19_u1, rfl, S24⟩
    have A22 := A13.ext (hB.le A13.1) a23.agree
    have S21 : Sep G20 (Fr H) [AL.box p4 [v0_0, v0_1], flat c19_u0 3 (ints r2.1), flat c19_u1 3 (ints r2.2)] := S12.app a23.agree S24 (fun _ h => h) (hB.le A13.1)
    obtain ⟨r3, hc25, hF⟩ := bd_some hF
    simp [-aBin', -aBin, -aBinI, -aUn, -aNil, -flatV, n_fn, b_add, b_sub, b_mul, b_lt, b_le, b_gt, b_ge, b_eq, b_ne, u_not, q17, a23.pre, ((S21.sl (k := 1) rfl).tup), ((S21.sl (k := 2) rfl).tup)]
    refine CallD.t (F_spec_WindStep_w (fu := fu) (S21.sl (k := 1) rfl) (S21.sl (k := 2) rfl) hc25) ?_
    rintro _ G27 ⟨a30, c26_u0, c26_u1, rfl, S31⟩
    have A29 := A22.ext (hB.le A22.1) a30.agree
    have S28 : Sep G27 (Fr H) [AL.box p4 [v0_0, v0_1], flat c19_u0 3 (ints r2.1), flat c19_u1 3 (ints r2.2), flat c26_u0 3 (ints r3.1.1), flat c26_u1 3 (ints r3.1.2)] := S21.app a30.agree S31 (fun _ h => h) (hB.le A22.1)
    obtain ⟨G33, p35, q36, q38, a37, S32⟩ := S28.allocT (P := Try.prog) (hB.le A29.1) ze_26 rfl
    have A34 := A29.ext (hB.le A29.1) a37
    replace S32 : Sep G33 (Fr H) [AL.box p4 [v0_0, v0_1], flat c19_u0 3 (ints r2.1), flat c19_u1 3 (ints r2.2), flat c26_u0 3 (ints r3.1.1), flat c26_u1 3 (ints r3.1.2), AL.box p35 [(Value.slice none 0 0), (Value.slice none 0 0)]] := S32
    obtain ⟨G39, q40, S41, a43⟩ := S32.putAgg (P := Try.prog) (k := 5) (xs := [c26_u0, c26_u1]) rfl (hB.le A34.1) sz_26 rfl rfl
    have A42 := A34.trans a43
    replace S41 : Sep G39 (Fr H) [AL.box p4 [v0_0, v0_1], flat c19_u0 3 (ints r2.1), flat c19_u1 3 (ints r2.2), flat c26_u0 3 (ints r3.1.1), flat c26_u1 3 (ints r3.1.2), AL.box p35 [c26_u0, c26_u1]] := S41
    simp [-aBin', -aBin, -aBinI, -aUn, -aNil, -flatV, n_fn, b_add, b_sub, b_mul, b_lt, b_le, b_gt, b_ge, b_eq, b_ne, u_not, q17, a23.pre, a30.pre, q36, q38, a37.to_pre, q40]
    apply hK
    clear hK K
    simp only [andThen, leaves]
    refine DWp.seq ?_
    have q44 := S41.loadAgg (P := Try.prog) (k := 0) rfl sz_24 ag_24 rfl
    obtain ⟨r4, hc45, hF⟩ := bd_some hF
    refine DWp.region fun K hK => ?_
    simp [-aBin', -aBin, -aBinI, -aUn, -aNil, -flatV, n_fn, b_add, b_sub, b_mul, b_lt, b_le, b_gt, b_ge, b_eq, b_ne, u_not, q44, ((hx0_0.agree A42.agree).tup), ((hx0_1.agree A42.agree).tup)]
    refine CallD.t (F_laws_toSeaweed_w (fu := fu) (hx0_0.agree A42.agree) (hx0_1.agree A42.agree) hc45) ?_
    rintro _ G47 ⟨a50, c46_u0, c46_u1, rfl, S51⟩
    have A49 := A42.ext (hB.le A42.1) a50.agree
    have S48 : Sep G47 (Fr H) [AL.box p4 [v0_0, v0_1], flat c19_u0 3 (ints r2.1), flat c19_u1 3 (ints r2.2), flat c26_u0 3 (ints r3.1.1), flat c26_u1 3 (ints r3.1.2), AL.box p35 [c26_u0, c26_u1], flat c46_u0 3 (ints r4.1), flat c46_u1 3 (ints r4.2)] := S41.app a50.agree S51 (fun _ h => h) (hB.le A42.1)
    obtain ⟨G53, p55, q56, q58, a57, S52⟩ := S48.allocT (P := Try.prog) (hB.le A49.1) ze_26 rfl
    have A54 := A49.ext (hB.le A49.1) a57
    replace S52 : Sep G53 (Fr H) [AL.box p4 [v0_0, v0_1], flat c19_u0 3 (ints r2.1), flat c19_u1 3 (ints r2.2), flat c26_u0 3 (ints r3.1.1), flat c26_u1 3 (ints r3.1.2), AL.box p35 [c26_u0, c26_u1], flat c46_u0 3 (ints r4.1), flat c46_u1 3 (ints r4.2), AL.box p55 [(Value.slice none 0 0), (Value.slice none 0 0)]] := S52
    obtain ⟨G59, q60, S61, a63⟩ := S52.putAgg (P := Try.prog) (k := 8) (xs := [c46_u0, c46_u1]) rfl (hB.le A54.1) sz_26 rfl rfl
    have A62 := A54.trans a63
    replace S61 : Sep G59 (Fr H) [AL.box p4 [v0_0, v0_1], flat c19_u0 3 (ints r2.1), flat c19_u1 3 (ints r2.2), flat c26_u0 3 (ints r3.1.1), flat c26_u1 3 (ints r3.1.2), AL.box p35 [c26_u0, c26_u1], flat c46_u0 3 (ints r4.1), flat c46_u1 3 (ints r4.2), AL.box p55 [c46_u0, c46_u1]] := S61
    simp [-aBin', -aBin, -aBinI, -aUn, -aNil, -flatV, n_fn, b_add, b_sub, b_mul, b_lt, b_le, b_gt, b_ge, b_eq, b_ne, u_not, q44, a50.pre, q56, q58, a57.to_pre, q60]
    apply hK
    clear hK K
    simp only [andThen, leaves]
    refine DWp.seq ?_
    have q64 := S61.loadAgg (P := Try.prog) (k := 8) rfl sz_26 ag_26 rfl
    obtain ⟨r5, hc65, hF⟩ := bd_some hF
    refine DWp.region fun K hK => ?_
    simp [-aBin', -aBin, -aBinI, -aUn, -aNil, -flatV, n_fn, b_add, b_sub, b_mul, b_lt, b_le, b_gt, b_ge, b_eq, b_ne, u_not, q64, ((S61.sl (k := 6) rfl).tup), ((S61.sl (k := 7) rfl).tup)]
    refine CallD.t (F_impl_WindStep_w (fu := fu) (S61.sl (k := 6) rfl) (S61.sl (k := 7) rfl) hc65) ?_
    rintro _ G67 ⟨a70, c66_u0, c66_u1, rfl, S71⟩
    have A69 := A62.ext (hB.le A62.1) a70.agree
    have S68 : Sep G67 (Fr H) [AL.box p4 [v0_0, v0_1], flat c19_u0 3 (ints r2.1), flat c19_u1 3 (ints r2.2), flat c26_u0 3 (ints r3.1.1), flat c26_u1 3 (ints r3.1.2), AL.box p35 [c26_u0, c26_u1], flat c46_u0 3 (ints r4.1), flat c46_u1 3 (ints r4.2), AL.box p55 [c46_u0, c46_u1], flat c66_u0 3 (ints r5.1.1), flat c66_u1 3 (ints r5.1.2)] := S61.app a70.agree S71 (fun _ h => h) (hB.le A62.1)
    obtain ⟨G73, p75, q76, q78, a77, S72⟩ := S68.allocT (P := Try.prog) (hB.le A69.1) ze_26 rfl
    have A74 := A69.ext (hB.le A69.1) a77
    replace S72 : Sep G73 (Fr H) [AL.box p4 [v0_0, v0_1], flat c19_u0 3 (ints r2.1), flat c19_u1 3 (ints r2.2), flat c26_u0 3 (ints r3.1.1), flat c26_u1 3 (ints r3.1.2), AL.box p35 [c26_u0, c26_u1], flat c46_u0 3 (ints r4.1), flat c46_u1 3 (ints r4.2), AL.box p55 [c46_u0, c46_u1], flat c66_u0 3 (ints r5.1.1), flat c66_u1 3 (ints r5.1.2), AL.box p75 [(Value.slice none 0 0), (Value.slice none 0 0)]] := S72
    obtain ⟨G79, q80, S81, a83⟩ := S72.putAgg (P := Try.prog) (k := 11) (xs := [c66_u0, c66_u1]) rfl (hB.le A74.1) sz_26 rfl rfl
    have A82 := A74.trans a83
    replace S81 : Sep G79 (Fr H) [AL.box p4 [v0_0, v0_1], flat c19_u0 3 (ints r2.1), flat c19_u1 3 (ints r2.2), flat c26_u0 3 (ints r3.1.1), flat c26_u1 3 (ints r3.1.2), AL.box p35 [c26_u0, c26_u1], flat c46_u0 3 (ints r4.1), flat c46_u1 3 (ints r4.2), AL.box p55 [c46_u0, c46_u1], flat c66_u0 3 (ints r5.1.1), flat c66_u1 3 (ints r5.1.2), AL.box p75 [c66_u0, c66_u1]] := S81
    simp [-aBin', -aBin, -aBinI, -aUn, -aNil, -flatV, n_fn, b_add, b_sub, b_mul, b_lt, b_le, b_gt, b_ge, b_eq, b_ne, u_not, q64, a70.pre, q76, q78, a77.to_pre, q80]
    apply hK
    clear hK K
    simp only [andThen, leaves]
    refine DWp.seq ?_
    obtain ⟨s84, hL85, hF⟩ := bd_some hF
    refine DWp.seq (DWp.join (fun env G => Sep G (Fr H) [AL.box p4 [v0_0, v0_1], AL.box p35 [c26_u0, c26_u1], flat c26_u0 3 (ints r3.1.1), flat c26_u1 3 (ints r3.1.2), AL.box p55 [c46_u0, c46_u1], flat c46_u0 3 (ints r4.1), flat c46_u1 3 (ints r4.2), AL.box p75 [c66_u0, c66_u1], flat c66_u0 3 (ints r5.1.1), flat c66_u1 3 (ints r5.1.2)] ∧ AgB (Fr H) H G ∧ env 1 = some p4 ∧ env 4 = some p35 ∧ env 5 = some (Value.string r3.2.1) ∧ env 6 = some (Value.bool r3.2.2) ∧ env 7 = some p55 ∧ env 8 = some p75 ∧ env 9 = some (Value.string r5.2.1) ∧ env 10 = some (Value.bool r5.2.2) ∧ env 50 = some (Value.bool s84)) ?_ ?_)
    ·
      have q87 := S81.loadAgg (P := Try.prog) (k := 11) rfl sz_26 ag_26 rfl
      have q88 := S81.loadAgg (P := Try.prog) (k := 5) rfl sz_26 ag_26 rfl
      obtain ⟨r6, hc89, hL85⟩ := bd_some hL85
      refine DWp.region fun K hK => ?_
      simp [-aBin', -aBin, -aBinI, -aUn, -aNil, -flatV, n_fn, b_add, b_sub, b_mul, b_lt, b_le, b_gt, b_ge, b_eq, b_ne, u_not, q87, q88, ((S81.sl (k := 9) rfl).tup), ((S81.sl (k := 10) rfl).tup), ((S81.sl (k := 3) rfl).tup), ((S81.sl (k := 4) rfl).tup)]
      refine CallD.t (F_laws_eqSeaweed_w (fu := fu) (S81.sl (k := 9) rfl) (S81.sl (k := 10) rfl) (S81.sl (k := 3) rfl) (S81.sl (k := 4) rfl) hc89) ?_
      rintro _ G91 ⟨a94, rfl, S95⟩
      have A93 := A82.ext (hB.le A82.1) a94.agree
      have S92 : Sep G91 (Fr H) [AL.box p4 [v0_0, v0_1], flat c19_u0 3 (ints r2.1), flat c19_u1 3 (ints r2.2), flat c26_u0 3 (ints r3.1.1), flat c26_u1 3 (ints r3.1.2), AL.box p35 [c26_u0, c26_u1], flat c46_u0 3 (ints r4.1), flat c46_u1 3 (ints r4.2), AL.box p55 [c46_u0, c46_u1], flat c66_u0 3 (ints r5.1.1), flat c66_u1 3 (ints r5.1.2), AL.box p75 [c66_u0, c66_u1]] := S81.app a94.agree S95 (fun _ h => h) (hB.le A82.1)
      rcases Bool.eq_false_or_eq_true (bnot r6) with hb96 | hb96
      · replace hL85 := cd_t hb96 hL85
        simp [-aBin', -aBin, -aBinI, -aUn, -aNil, -flatV, n_fn, b_add, b_sub, b_mul, b_lt, b_le, b_gt, b_ge, b_eq, b_ne, u_not, hb96, q87, q88, a94.pre]
        apply hK
        clear hK K
        simp only [andThen, leaves]
        have S97 := S92.pick [0, 5, 3, 4, 8, 6, 7, 11, 9, 10] (by decide) rfl
        obtain rfl := Option.some.inj hL85
        exact ⟨S97, A93, by simp [], by simp [], by simp [], by simp [], by simp [], by simp [], by simp [], by simp [], by simp []⟩
      · replace hL85 := cd_f hb96 hL85
        rcases Bool.eq_false_or_eq_true (sne' r5.2.1 r3.2.1) with hb98 | hb98
        · replace hL85 := cd_t hb98 hL85
          simp [-aBin', -aBin, -aBinI, -aUn, -aNil, -flatV, n_fn, b_add, b_sub, b_mul, b_lt, b_le, b_gt, b_ge, b_eq, b_ne, u_not, hb96, hb98, q87, q88, a94.pre, s_ne]
          apply hK
          clear hK K
          simp only [andThen, leaves]
          have S99 := S92.pick [0, 5, 3, 4, 8, 6, 7, 11, 9, 10] (by decide) rfl
          obtain rfl := Option.some.inj hL85
          exact ⟨S99, A93, by simp [], by simp [], by simp [], by simp [], by simp [], by simp [], by simp [], by simp [], by simp []⟩
        · replace hL85 := cd_f hb98 hL85
          simp [-aBin', -aBin, -aBinI, -aUn, -aNil, -flatV, n_fn, b_add, b_sub, b_mul, b_lt, b_le, b_gt, b_ge, b_eq, b_ne, u_not, hb96, hb98, q87, q88, a94.pre, s_ne, b_bne un_4]
          apply hK
          clear hK K
          simp only [andThen, leaves]
          have S100 := S92.pick [0, 5, 3, 4, 8, 6, 7, 11, 9, 10] (by decide) rfl
          obtain rfl := Option.some.inj hL85
          exact ⟨S100, A93, by simp [], by simp [], by simp [], by simp [], by simp [], by simp [], by simp [], by simp [], by simp []⟩
    · rintro env Gj101 ⟨Sj101, Aj101, ej101_1, ej101_4, ej101_5, ej101_6, ej101_7, ej101_8, ej101_9, ej101_10, ej101_50⟩
      refine DWp.cond' (t := s84) (by simp [ej101_1, ej101_4, ej101_5, ej101_6, ej101_7, ej101_8, ej101_9, ej101_10, ej101_50]) (fun hb102 => ?_) (fun hb102 => ?_)
      · replace hF := cd_t hb102 hF
        refine DWp.seq ?_
        refine DWp.region fun K hK => ?_
        simp [-aBin', -aBin, -aBinI, -aUn, -aNil, -flatV, n_fn, b_add, b_sub, b_mul, b_lt, b_le, b_gt, b_ge, b_eq, b_ne, u_not, ej101_1, ej101_4, ej101_5, ej101_6, ej101_7, ej101_8, ej101_9, ej101_10, ej101_50]
        apply hK
        clear hK K
        simp only [andThen, leaves]
        refine DWp.ret ?_
        simp only [andThen, leaves]
        obtain rfl := Option.some.inj hF
        exact ⟨by simp, [(Value.bool false)], by simp [ej101_1, ej101_4, ej101_5, ej101_6, ej101_7, ej101_8, ej101_9, ej101_10, ej101_50], Aj101, rfl, Sj101.pick [] (by decide) rfl⟩
      · replace hF := cd_f hb102 hF
        refine DWp.skip ?_
        simp only [andThen, leaves]
        refine DWp.seq ?_
        refine DWp.seq ?_
        have q103 := Sj101.loadAgg (P := Try.prog) (k := 4) rfl sz_26 ag_26 rfl
        have q104 := Sj101.loadAgg (P := Try.prog) (k := 0) rfl sz_24 ag_24 rfl
        obtain ⟨r7, hc105, hF⟩ := bd_some hF
        refine DWp.drawn (B := [0, 0, 2, 7, 15]) 5 mixed (by kernel_rfl) (by decide) fun K hK => ?_
        simp [-aBin', -aBin, -aBinI, -aUn, -aNil, -flatV, n_fn, b_add, b_sub, b_mul, b_lt, b_le, b_gt, b_ge, b_eq, b_ne, u_not, ej101_1, ej101_4, ej101_5, ej101_6, ej101_7, ej101_8, ej101_9, ej101_10, ej101_50, q103, q104, ((hx0_0.agree Aj101.agree).tup), ((hx0_1.agree Aj101.agree).tup)]
        refine CallD.t (F_laws_toSeaweed_w (fu := fu) (hx0_0.agree Aj101.agree) (hx0_1.agree Aj101.agree) hc105) ?_
        rintro _ G107 ⟨a110, c106_u0, c106_u1, rfl, S111⟩
        have A109 := Aj101.ext (hB.le Aj101.1) a110.agree
        have S108 : Sep G107 (Fr H) [AL.box p4 [v0_0, v0_1], AL.box p35 [c26_u0, c26_u1], flat c26_u0 3 (ints r3.1.1), flat c26_u1 3 (ints r3.1.2), AL.box p55 [c46_u0, c46_u1], flat c46_u0 3 (ints r4.1), flat c46_u1 3 (ints r4.2), AL.box p75 [c66_u0, c66_u1], flat c66_u0 3 (ints r5.1.1), flat c66_u1 3 (ints r5.1.2), flat c106_u0 3 (ints r7.1), flat c106_u1 3 (ints r7.2)] := Sj101.app a110.agree S111 (fun _ h => h) (hB.le Aj101.1)
        obtain ⟨r8, hc112, hF⟩ := bd_some hF
        simp [-aBin', -aBin, -aBinI, -aUn, -aNil, -flatV, n_fn, b_add, b_sub, b_mul, b_lt, b_le, b_gt, b_ge, b_eq, b_ne, u_not, ej101_1, ej101_4, ej101_5, ej101_6, ej101_7, ej101_8, ej101_9, ej101_10, ej101_50, q103, q104, a110.pre, ((S108.sl (k := 5) rfl).tup), ((S108.sl (k := 6) rfl).tup), ((S108.sl (k := 10) rfl).tup), ((S108.sl (k := 11) rfl).tup)]
        refine CallD.t (F_laws_eqSeaweed_w (fu := fu) (S108.sl (k := 5) rfl) (S108.sl (k := 6) rfl) (S108.sl (k := 10) rfl) (S108.sl (k := 11) rfl) hc112) ?_
        rintro _ G114 ⟨a117, rfl, S118⟩
        have A116 := A109.ext (hB.le A109.1) a117.agree
        have S115 : Sep G114 (Fr H) [AL.box p4 [v0_0, v0_1], AL.box p35 [c26_u0, c26_u1], flat c26_u0 3 (ints r3.1.1), flat c26_u1 3 (ints r3.1.2), AL.box p55 [c46_u0, c46_u1], flat c46_u0 3 (ints r4.1), flat c46_u1 3 (ints r4.2), AL.box p75 [c66_u0, c66_u1], flat c66_u0 3 (ints r5.1.1), flat c66_u1 3 (ints r5.1.2), flat c106_u0 3 (ints r7.1), flat c106_u1 3 (ints r7.2)] := S108.app a117.agree S118 (fun _ h => h) (hB.le A109.1)
        simp [-aBin', -aBin, -aBinI, -aUn, -aNil, -flatV, n_fn, b_add, b_sub, b_mul, b_lt, b_le, b_gt, b_ge, b_eq, b_ne, u_not, ej101_1, ej101_4, ej101_5, ej101_6, ej101_7, ej101_8, ej101_9, ej101_10, ej101_50, q103, q104, a110.pre, a117.pre]
        apply hK
        clear hK K
        simp only [andThen, leaves]
        refine DWp.cond' (t := (bnot r8)) (by simp [ej101_1, ej101_4, ej101_5, ej101_6, ej101_7, ej101_8, ej101_9, ej101_10, ej101_50]) (fun hb119 => ?_) (fun hb119 => ?_)
        · replace hF := cd_t hb119 hF
          refine DWp.seq ?_
          refine DWp.region fun K hK => ?_
          simp [-aBin', -aBin, -aBinI, -aUn, -aNil, -flatV, n_fn, b_add, b_sub, b_mul, b_lt, b_le, b_gt, b_ge, b_eq, b_ne, u_not, ej101_1, ej101_4, ej101_5, ej101_6, ej101_7, ej101_8, ej101_9, ej101_10, ej101_50]
          apply hK
          clear hK K
          simp only [andThen, leaves]
          refine DWp.ret ?_
          simp only [andThen, leaves]
          obtain rfl := Option.some.inj hF
          exact ⟨by simp, [(Value.bool false)], by simp [ej101_1, ej101_4, ej101_5, ej101_6, ej101_7, ej101_8, ej101_9, ej101_10, ej101_50], A116, rfl, S115.pick [] (by decide) rfl⟩
        · replace hF := cd_f hb119 hF
          refine DWp.skip ?_
          simp only [andThen, leaves]
          refine DWp.seq ?_
          refine DWp.region fun K hK => ?_
          simp [-aBin', -aBin, -aBinI, -aUn, -aNil, -flatV, n_fn, b_add, b_sub, b_mul, b_lt, b_le, b_gt, b_ge, b_eq, b_ne, u_not, ej101_1, ej101_4, ej101_5, ej101_6, ej101_7, ej101_8, ej101_9, ej101_10, ej101_50]
          apply hK
          clear hK K
          simp only [andThen, leaves]
          refine DWp.seq ?_
          have q120 := S115.loadAgg (P := Try.prog) (k := 4) rfl sz_26 ag_26 rfl
          obtain ⟨r9, hc121, hF⟩ := bd_some hF
          refine DWp.region fun K hK => ?_
          simp [-aBin', -aBin, -aBinI, -aUn, -aNil, -flatV, n_fn, b_add, b_sub, b_mul, b_lt, b_le, b_gt, b_ge, b_eq, b_ne, u_not, ej101_1, ej101_4, ej101_5, ej101_6, ej101_7, ej101_8, ej101_9, ej101_10, ej101_50, q120, ((S115.sl (k := 5) rfl).tup), ((S115.sl (k := 6) rfl).tup)]
          have S122 : Sep G114 (Fr H) ([flat c46_u0 3 (ints r4.1), flat c46_u1 3 (ints r4.2)] ++ [AL.box p4 [v0_0, v0_1], AL.box p35 [c26_u0, c26_u1], flat c26_u0 3 (ints r3.1.1), flat c26_u1 3 (ints r3.1.2), AL.box p55 [c46_u0, c46_u1], AL.box p75 [c66_u0, c66_u1], flat c66_u0 3 (ints r5.1.1), flat c66_u1 3 (ints r5.1.2), flat c106_u0 3 (ints r7.1), flat c106_u1 3 (ints r7.2)]) := S115.pick [5, 6, 0, 1, 2, 3, 4, 7, 8, 9, 10, 11] (by decide) rfl
          obtain ⟨B128, S123, U124, M125, R126, C127⟩ := S122.frame (hB.le A116.1)
          refine CallD.t (F_laws_markSeaweed_w (fu := fu) U124 S123 hc121) ?_
          rintro _ G130 ⟨a133, rfl, S134⟩
          have A132 := A116.trans (a133.mono M125)
          have S131 : Sep G130 (Fr H) [flat c46_u0 3 (ints r9.2.1), flat c46_u1 3 (ints r9.2.2), AL.box p4 [v0_0, v0_1], AL.box p35 [c26_u0, c26_u1], flat c26_u0 3 (ints r3.1.1), flat c26_u1 3 (ints r3.1.2), AL.box p55 [c46_u0, c46_u1], AL.box p75 [c66_u0, c66_u1], flat c66_u0 3 (ints r5.1.1), flat c66_u1 3 (ints r5.1.2), flat c106_u0 3 (ints r7.1), flat c106_u1 3 (ints r7.2)] := C127 _ _ a133 S134
          simp [-aBin', -aBin, -aBinI, -aUn, -aNil, -flatV, n_fn, b_add, b_sub, b_mul, b_lt, b_le, b_gt, b_ge, b_eq, b_ne, u_not, ej101_1, ej101_4, ej101_5, ej101_6, ej101_7, ej101_8, ej101_9, ej101_10, ej101_50, q120]
          apply hK
          clear hK K
          simp only [andThen, leaves]
          refine DWp.seq ?_
          obtain ⟨s135, hL136, hF⟩ := bd_some hF
          refine DWp.seq (DWp.join (fun env G => Sep G (Fr H) [AL.box p4 [v0_0, v0_1], AL.box p35 [c26_u0, c26_u1], flat c26_u0 3 (ints r3.1.1), flat c26_u1 3 (ints r3.1.2), AL.box p75 [c66_u0, c66_u1], flat c66_u0 3 (ints r5.1.1), flat c66_u1 3 (ints r5.1.2)] ∧ AgB (Fr H) H G ∧ env 1 = some p4 ∧ env 4 = some p35 ∧ env 5 = some (Value.string r3.2.1) ∧ env 6 = some (Value.bool r3.2.2) ∧ env 8 = some p75 ∧ env 76 = some (Value.bool s135)) ?_ ?_)
          ·
            rcases Bool.eq_false_or_eq_true (ilt r9.1 0) with hb138 | hb138
            · replace hL136 := cd_t hb138 hL136
              refine DWp.region fun K hK => ?_
              simp [-aBin', -aBin, -aBinI, -aUn, -aNil, -flatV, n_fn, b_add, b_sub, b_mul, b_lt, b_le, b_gt, b_ge, b_eq, b_ne, u_not, ej101_1, ej101_4, ej101_5, ej101_6, ej101_7, ej101_8, ej101_9, ej101_10, ej101_50, hb138]
              apply hK
              clear hK K
              simp only [andThen, leaves]
              have S139 := S131.pick [2, 3, 4, 5, 7, 8, 9] (by decide) rfl
              obtain rfl := Option.some.inj hL136
              exact ⟨S139, A132, by simp [ej101_1, ej101_4, ej101_5, ej101_6, ej101_7, ej101_8, ej101_9, ej101_10, ej101_50], by simp [ej101_1, ej101_4, ej101_5, ej101_6, ej101_7, ej101_8, ej101_9, ej101_10, ej101_50], by simp [ej101_1, ej101_4, ej101_5, ej101_6, ej101_7, ej101_8, ej101_9, ej101_10, ej101_50], by simp [ej101_1, ej101_4, ej101_5, ej101_6, ej101_7, ej101_8, ej101_9, ej101_10, ej101_50], by simp [ej101_1, ej101_4, ej101_5, ej101_6, ej101_7, ej101_8, ej101_9, ej101_10, ej101_50], by simp [ej101_1, ej101_4, ej101_5, ej101_6, ej101_7, ej101_8, ej101_9, ej101_10, ej101_50]⟩
            · replace hL136 := cd_f hb138 hL136
              have q140 := S131.loadAgg (P := Try.prog) (k := 7) rfl sz_26 ag_26 rfl
              have q141 := S131.loadAgg (P := Try.prog) (k := 3) rfl sz_26 ag_26 rfl
              obtain ⟨r10, hc142, hL136⟩ := bd_some hL136
              refine DWp.region fun K hK => ?_
              simp [-aBin', -aBin, -aBinI, -aUn, -aNil, -flatV, n_fn, b_add, b_sub, b_mul, b_lt, b_le, b_gt, b_ge, b_eq, b_ne, u_not, ej101_1, ej101_4, ej101_5, ej101_6, ej101_7, ej101_8, ej101_9, ej101_10, ej101_50, hb138, q140, q141, ((S131.sl (k := 8) rfl).tup), ((S131.sl (k := 9) rfl).tup), ((S131.sl (k := 4) rfl).tup), ((S131.sl (k := 5) rfl).tup)]
              refine CallD.t (F_laws_eqSeaweed_w (fu := fu) (S131.sl (k := 8) rfl) (S131.sl (k := 9) rfl) (S131.sl (k := 4) rfl) (S131.sl (k := 5) rfl) hc142) ?_
              rintro _ G144 ⟨a147, rfl, S148⟩
              have A146 := A132.ext (hB.le A132.1) a147.agree
              have S145 : Sep G144 (Fr H) [flat c46_u0 3 (ints r9.2.1), flat c46_u1 3 (ints r9.2.2), AL.box p4 [v0_0, v0_1], AL.box p35 [c26_u0, c26_u1], flat c26_u0 3 (ints r3.1.1), flat c26_u1 3 (ints r3.1.2), AL.box p55 [c46_u0, c46_u1], AL.box p75 [c66_u0, c66_u1], flat c66_u0 3 (ints r5.1.1), flat c66_u1 3 (ints r5.1.2), flat c106_u0 3 (ints r7.1), flat c106_u1 3 (ints r7.2)] := S131.app a147.agree S148 (fun _ h => h) (hB.le A132.1)
              rcases Bool.eq_false_or_eq_true (bnot r10) with hb149 | hb149
              · replace hL136 := cd_t hb149 hL136
                simp [-aBin', -aBin, -aBinI, -aUn, -aNil, -flatV, n_fn, b_add, b_sub, b_mul, b_lt, b_le, b_gt, b_ge, b_eq, b_ne, u_not, ej101_1, ej101_4, ej101_5, ej101_6, ej101_7, ej101_8, ej101_9, ej101_10, ej101_50, hb138, hb149, q140, q141, a147.pre]
                apply hK
                clear hK K
                simp only [andThen, leaves]
                have S150 := S145.pick [2, 3, 4, 5, 7, 8, 9] (by decide) rfl
                obtain rfl := Option.some.inj hL136
                exact ⟨S150, A146, by simp [ej101_1, ej101_4, ej101_5, ej101_6, ej101_7, ej101_8, ej101_9, ej101_10, ej101_50], by simp [ej101_1, ej101_4, ej101_5, ej101_6, ej101_7, ej101_8, ej101_9, ej101_10, ej101_50], by simp [ej101_1, ej101_4, ej101_5, ej101_6, ej101_7, ej101_8, ej101_9, ej101_10, ej101_50], by simp [ej101_1, ej101_4, ej101_5, ej101_6, ej101_7, ej101_8, ej101_9, ej101_10, ej101_50], by simp [ej101_1, ej101_4, ej101_5, ej101_6, ej101_7, ej101_8, ej101_9, ej101_10, ej101_50], by simp [ej101_1, ej101_4, ej101_5, ej101_6, ej101_7, ej101_8, ej101_9, ej101_10, ej101_50]⟩
              · replace hL136 := cd_f hb149 hL136
                rcases Bool.eq_false_or_eq_true (sne' r5.2.1 r3.2.1) with hb151 | hb151
                · replace hL136 := cd_t hb151 hL136
                  simp [-aBin', -aBin, -aBinI, -aUn, -aNil, -flatV, n_fn, b_add, b_sub, b_mul, b_lt, b_le, b_gt, b_ge, b_eq, b_ne, u_not, ej101_1, ej101_4, ej101_5, ej101_6, ej101_7, ej101_8, ej101_9, ej101_10, ej101_50, hb138, hb149, hb151, q140, q141, a147.pre, s_ne]
                  apply hK
                  clear hK K
                  simp only [andThen, leaves]
                  have S152 := S145.pick [2, 3, 4, 5, 7, 8, 9] (by decide) rfl
                  obtain rfl := Option.some.inj hL136
                  exact ⟨S152, A146, by simp [ej101_1, ej101_4, ej101_5, ej101_6, ej101_7, ej101_8, ej101_9, ej101_10, ej101_50], by simp [ej101_1, ej101_4, ej101_5, ej101_6, ej101_7, ej101_8, ej101_9, ej101_10, ej101_50], by simp [ej101_1, ej101_4, ej101_5, ej101_6, ej101_7, ej101_8, ej101_9, ej101_10, ej101_50], by simp [ej101_1, ej101_4, ej101_5, ej101_6, ej101_7, ej101_8, ej101_9, ej101_10, ej101_50], by simp [ej101_1, ej101_4, ej101_5, ej101_6, ej101_7, ej101_8, ej101_9, ej101_10, ej101_50], by simp [ej101_1, ej101_4, ej101_5, ej101_6, ej101_7, ej101_8, ej101_9, ej101_10, ej101_50]⟩
                · replace hL136 := cd_f hb151 hL136
                  simp [-aBin', -aBin, -aBinI, -aUn, -aNil, -flatV, n_fn, b_add, b_sub, b_mul, b_lt, b_le, b_gt, b_ge, b_eq, b_ne, u_not, ej101_1, ej101_4, ej101_5, ej101_6, ej101_7, ej101_8, ej101_9, ej101_10, ej101_50, hb138, hb149, hb151, q140, q141, a147.pre, s_ne, b_bne un_4]
                  apply hK
                  clear hK K
                  simp only [andThen, leaves]
                  have S153 := S145.pick [2, 3, 4, 5, 7, 8, 9] (by decide) rfl
                  obtain rfl := Option.some.inj hL136
                  exact ⟨S153, A146, by simp [ej101_1, ej101_4, ej101_5, ej101_6, ej101_7, ej101_8, ej101_9, ej101_10, ej101_50], by simp [ej101_1, ej101_4, ej101_5, ej101_6, ej101_7, ej101_8, ej101_9, ej101_10, ej101_50], by simp [ej101_1, ej101_4, ej101_5, ej101_6, ej101_7, ej101_8, ej101_9, ej101_10, ej101_50], by simp [ej101_1, ej101_4, ej101_5, ej101_6, ej101_7, ej101_8, ej101_9, ej101_10, ej101_50], by simp [ej101_1, ej101_4, ej101_5, ej101_6, ej101_7, ej101_8, ej101_9, ej101_10, ej101_50], by simp [ej101_1, ej101_4, ej101_5, ej101_6, ej101_7, ej101_8, ej101_9, ej101_10, ej101_50]⟩
          · rintro env Gj154 ⟨Sj154, Aj154, ej154_1, ej154_4, ej154_5, ej154_6, ej154_8, ej154_76⟩
            refine DWp.cond' (t := s135) (by simp [ej154_1, ej154_4, ej154_5, ej154_6, ej154_8, ej154_76]) (fun hb155 => ?_) (fun hb155 => ?_)
            · replace hF := cd_t hb155 hF
              refine DWp.seq ?_
              refine DWp.region fun K hK => ?_
              simp [-aBin', -aBin, -aBinI, -aUn, -aNil, -flatV, n_fn, b_add, b_sub, b_mul, b_lt, b_le, b_gt, b_ge, b_eq, b_ne, u_not, ej154_1, ej154_4, ej154_5, ej154_6, ej154_8, ej154_76]
              apply hK
              clear hK K
              simp only [andThen, leaves]
              refine DWp.ret ?_
              simp only [andThen, leaves]
              obtain rfl := Option.some.inj hF
              exact ⟨by simp, [(Value.bool false)], by simp [ej154_1, ej154_4, ej154_5, ej154_6, ej154_8, ej154_76], Aj154, rfl, Sj154.pick [] (by decide) rfl⟩
            · replace hF := cd_f hb155 hF
              refine DWp.skip ?_
              simp only [andThen, leaves]
              refine DWp.seq ?_
              refine DWp.region fun K hK => ?_
              simp [-aBin', -aBin, -aBinI, -aUn, -aNil, -flatV, n_fn, b_add, b_sub, b_mul, b_lt, b_le, b_gt, b_ge, b_eq, b_ne, u_not, ej154_1, ej154_4, ej154_5, ej154_6, ej154_8, ej154_76]
              apply hK
              clear hK K
              simp only [andThen, leaves]
              refine DWp.seq ?_
              have q156 := Sj154.loadAgg (P := Try.prog) (k := 4) rfl sz_26 ag_26 rfl
              obtain ⟨r11, hc157, hF⟩ := bd_some hF
              refine DWp.region fun K hK => ?_
              simp [-aBin', -aBin, -aBinI, -aUn, -aNil, -flatV, n_fn, b_add, b_sub, b_mul, b_lt, b_le, b_gt, b_ge, b_eq, b_ne, u_not, ej154_1, ej154_4, ej154_5, ej154_6, ej154_8, ej154_76, q156, ((Sj154.sl (k := 5) rfl).tup), ((Sj154.sl (k := 6) rfl).tup)]
              have S158 : Sep Gj154 (Fr H) ([flat c66_u0 3 (ints r5.1.1), flat c66_u1 3 (ints r5.1.2)] ++ [AL.box p4 [v0_0, v0_1], AL.box p35 [c26_u0, c26_u1], flat c26_u0 3 (ints r3.1.1), flat c26_u1 3 (ints r3.1.2), AL.box p75 [c66_u0, c66_u1]]) := Sj154.pick [5, 6, 0, 1, 2, 3, 4] (by decide) rfl
              obtain ⟨B164, S159, U160, M161, R162, C163⟩ := S158.frame (hB.le Aj154.1)
              refine CallD.t (F_laws_markSeaweed_w (fu := fu) U160 S159 hc157) ?_
              rintro _ G166 ⟨a169, rfl, S170⟩
              have A168 := Aj154.trans (a169.mono M161)
              have S167 : Sep G166 (Fr H) [flat c66_u0 3 (ints r11.2.1), flat c66_u1 3 (ints r11.2.2), AL.box p4 [v0_0, v0_1], AL.box p35 [c26_u0, c26_u1], flat c26_u0 3 (ints r3.1.1), flat c26_u1 3 (ints r3.1.2), AL.box p75 [c66_u0, c66_u1]] := C163 _ _ a169 S170
              simp [-aBin', -aBin, -aBinI, -aUn, -aNil, -flatV, n_fn, b_add, b_sub, b_mul, b_lt, b_le, b_gt, b_ge, b_eq, b_ne, u_not, ej154_1, ej154_4, ej154_5, ej154_6, ej154_8, ej154_76, q156]
              apply hK
              clear hK K
              simp only [andThen, leaves]
              refine DWp.seq ?_
              refine DWp.region fun K hK => ?_
              simp [-aBin', -aBin, -aBinI, -aUn, -aNil, -flatV, n_fn, b_add, b_sub, b_mul, b_lt, b_le, b_gt, b_ge, b_eq, b_ne, u_not, ej154_1, ej154_4, ej154_5, ej154_6, ej154_8, ej154_76]
              apply hK
              clear hK K
              simp only [andThen, leaves]
              refine DWp.seq ?_
              have q171 := S167.loadAgg (P := Try.prog) (k := 6) rfl sz_26 ag_26 rfl
              obtain ⟨r12, hc172, hF⟩ := bd_some hF
              refine DWp.region fun K hK => ?_
              simp [-aBin', -aBin, -aBinI, -aUn, -aNil, -flatV, n_fn, b_add, b_sub, b_mul, b_lt, b_le, b_gt, b_ge, b_eq, b_ne, u_not, ej154_1, ej154_4, ej154_5, ej154_6, ej154_8, ej154_76, q171, ((S167.sl (k := 0) rfl).tup), ((S167.sl (k := 1) rfl).tup)]
              refine CallD.t (F_laws_heldSeaweed_w (fu := fu) (S167.sl (k := 0) rfl) (S167.sl (k := 1) rfl) hc172) ?_
              rintro _ G174 ⟨a177, rfl, S178⟩
              have A176 := A168.ext (hB.le A168.1) a177.agree
              have S175 : Sep G174 (Fr H) [flat c66_u0 3 (ints r11.2.1), flat c66_u1 3 (ints r11.2.2), AL.box p4 [v0_0, v0_1], AL.box p35 [c26_u0, c26_u1], flat c26_u0 3 (ints r3.1.1), flat c26_u1 3 (ints r3.1.2), AL.box p75 [c66_u0, c66_u1]] := S167.app a177.agree S178 (fun _ h => h) (hB.le A168.1)
              simp [-aBin', -aBin, -aBinI, -aUn, -aNil, -flatV, n_fn, b_add, b_sub, b_mul, b_lt, b_le, b_gt, b_ge, b_eq, b_ne, u_not, ej154_1, ej154_4, ej154_5, ej154_6, ej154_8, ej154_76, q171, a177.pre]
              apply hK
              clear hK K
              simp only [andThen, leaves]
              refine DWp.seq ?_
              refine DWp.seq ?_
              refine DWp.region fun K hK => ?_
              simp [-aBin', -aBin, -aBinI, -aUn, -aNil, -flatV, n_fn, b_add, b_sub, b_mul, b_lt, b_le, b_gt, b_ge, b_eq, b_ne, u_not, ej154_1, ej154_4, ej154_5, ej154_6, ej154_8, ej154_76]
              apply hK
              clear hK K
              simp only [andThen, leaves]
              refine DWp.cond' (t := (ilt r12 0)) (by simp [ej154_1, ej154_4, ej154_5, ej154_6, ej154_8, ej154_76]) (fun hb179 => ?_) (fun hb179 => ?_)
              · replace hF := cd_t hb179 hF
                refine DWp.seq ?_
                refine DWp.region fun K hK => ?_
                simp [-aBin', -aBin, -aBinI, -aUn, -aNil, -flatV, n_fn, b_add, b_sub, b_mul, b_lt, b_le, b_gt, b_ge, b_eq, b_ne, u_not, ej154_1, ej154_4, ej154_5, ej154_6, ej154_8, ej154_76]
                apply hK
                clear hK K
                simp only [andThen, leaves]
                refine DWp.ret ?_
                simp only [andThen, leaves]
                obtain rfl := Option.some.inj hF
                exact ⟨by simp, [(Value.bool false)], by simp [ej154_1, ej154_4, ej154_5, ej154_6, ej154_8, ej154_76], A176, rfl, S175.pick [] (by decide) rfl⟩
              · replace hF := cd_f hb179 hF
                refine DWp.skip ?_
                simp only [andThen, leaves]
                refine DWp.seq ?_
                refine DWp.seq ?_
                refine DWp.region fun K hK => ?_
                simp [-aBin', -aBin, -aBinI, -aUn, -aNil, -flatV, n_fn, b_add, b_sub, b_mul, b_lt, b_le, b_gt, b_ge, b_eq, b_ne, u_not, ej154_1, ej154_4, ej154_5, ej154_6, ej154_8, ej154_76]
                apply hK
                clear hK K
                simp only [andThen, leaves]
                refine DWp.cond' (t := (ine r12 r11.1)) (by simp [ej154_1, ej154_4, ej154_5, ej154_6, ej154_8, ej154_76]) (fun hb180 => ?_) (fun hb180 => ?_)
                · replace hF := cd_t hb180 hF
                  refine DWp.seq ?_
                  refine DWp.region fun K hK => ?_
                  simp [-aBin', -aBin, -aBinI, -aUn, -aNil, -flatV, n_fn, b_add, b_sub, b_mul, b_lt, b_le, b_gt, b_ge, b_eq, b_ne, u_not, ej154_1, ej154_4, ej154_5, ej154_6, ej154_8, ej154_76]
                  apply hK
                  clear hK K
                  simp only [andThen, leaves]
                  refine DWp.ret ?_
                  simp only [andThen, leaves]
                  obtain rfl := Option.some.inj hF
                  exact ⟨by simp, [(Value.bool false)], by simp [ej154_1, ej154_4, ej154_5, ej154_6, ej154_8, ej154_76], A176, rfl, S175.pick [] (by decide) rfl⟩
                · replace hF := cd_f hb180 hF
                  refine DWp.skip ?_
                  simp only [andThen, leaves]
                  refine DWp.seq ?_
                  have q181 := S175.loadAgg (P := Try.prog) (k := 2) rfl sz_24 ag_24 rfl
                  obtain ⟨r13, hc182, hF⟩ := bd_some hF
                  refine DWp.region fun K hK => ?_
                  simp [-aBin', -aBin, -aBinI, -aUn, -aNil, -flatV, n_fn, b_add, b_sub, b_mul, b_lt, b_le, b_gt, b_ge, b_eq, b_ne, u_not, ej154_1, ej154_4, ej154_5, ej154_6, ej154_8, ej154_76, q181, ((hx0_0.agree A176.agree).tup), ((hx0_1.agree A176.agree).tup)]
                  refine CallD.t (F_laws_toSeaweed_w (fu := fu) (hx0_0.agree A176.agree) (hx0_1.agree A176.agree) hc182) ?_
                  rintro _ G184 ⟨a187, c183_u0, c183_u1, rfl, S188⟩
                  have A186 := A176.ext (hB.le A176.1) a187.agree
                  have S185 : Sep G184 (Fr H) [flat c66_u0 3 (ints r11.2.1), flat c66_u1 3 (ints r11.2.2), AL.box p4 [v0_0, v0_1], AL.box p35 [c26_u0, c26_u1], flat c26_u0 3 (ints r3.1.1), flat c26_u1 3 (ints r3.1.2), AL.box p75 [c66_u0, c66_u1], flat c183_u0 3 (ints r13.1), flat c183_u1 3 (ints r13.2)] := S175.app a187.agree S188 (fun _ h => h) (hB.le A176.1)
                  obtain ⟨r14, hc189, hF⟩ := bd_some hF
                  simp [-aBin', -aBin, -aBinI, -aUn, -aNil, -flatV, n_fn, b_add, b_sub, b_mul, b_lt, b_le, b_gt, b_ge, b_eq, b_ne, u_not, ej154_1, ej154_4, ej154_5, ej154_6, ej154_8, ej154_76, q181, a187.pre, ((S185.sl (k := 7) rfl).tup), ((S185.sl (k := 8) rfl).tup)]
                  refine CallD.t (F_impl_WindStep_w (fu := fu) (S185.sl (k := 7) rfl) (S185.sl (k := 8) rfl) hc189) ?_
                  rintro _ G191 ⟨a194, c190_u0, c190_u1, rfl, S195⟩
                  have A193 := A186.ext (hB.le A186.1) a194.agree
                  have S192 : Sep G191 (Fr H) [flat c66_u0 3 (ints r11.2.1), flat c66_u1 3 (ints r11.2.2), AL.box p4 [v0_0, v0_1], AL.box p35 [c26_u0, c26_u1], flat c26_u0 3 (ints r3.1.1), flat c26_u1 3 (ints r3.1.2), AL.box p75 [c66_u0, c66_u1], flat c183_u0 3 (ints r13.1), flat c183_u1 3 (ints r13.2), flat c190_u0 3 (ints r14.1.1), flat c190_u1 3 (ints r14.1.2)] := S185.app a194.agree S195 (fun _ h => h) (hB.le A186.1)
                  obtain ⟨G197, p199, q200, q202, a201, S196⟩ := S192.allocT (P := Try.prog) (hB.le A193.1) ze_26 rfl
                  have A198 := A193.ext (hB.le A193.1) a201
                  replace S196 : Sep G197 (Fr H) [flat c66_u0 3 (ints r11.2.1), flat c66_u1 3 (ints r11.2.2), AL.box p4 [v0_0, v0_1], AL.box p35 [c26_u0, c26_u1], flat c26_u0 3 (ints r3.1.1), flat c26_u1 3 (ints r3.1.2), AL.box p75 [c66_u0, c66_u1], flat c183_u0 3 (ints r13.1), flat c183_u1 3 (ints r13.2), flat c190_u0 3 (ints r14.1.1), flat c190_u1 3 (ints r14.1.2), AL.box p199 [(Value.slice none 0 0), (Value.slice none 0 0)]] := S196
                  obtain ⟨G203, q204, S205, a207⟩ := S196.putAgg (P := Try.prog) (k := 11) (xs := [c190_u0, c190_u1]) rfl (hB.le A198.1) sz_26 rfl rfl
                  have A206 := A198.trans a207
                  replace S205 : Sep G203 (Fr H) [flat c66_u0 3 (ints r11.2.1), flat c66_u1 3 (ints r11.2.2), AL.box p4 [v0_0, v0_1], AL.box p35 [c26_u0, c26_u1], flat c26_u0 3 (ints r3.1.1), flat c26_u1 3 (ints r3.1.2), AL.box p75 [c66_u0, c66_u1], flat c183_u0 3 (ints r13.1), flat c183_u1 3 (ints r13.2), flat c190_u0 3 (ints r14.1.1), flat c190_u1 3 (ints r14.1.2), AL.box p199 [c190_u0, c190_u1]] := S205
                  simp [-aBin', -aBin, -aBinI, -aUn, -aNil, -flatV, n_fn, b_add, b_sub, b_mul, b_lt, b_le, b_gt, b_ge, b_eq, b_ne, u_not, ej154_1, ej154_4, ej154_5, ej154_6, ej154_8, ej154_76, q181, a187.pre, a194.pre, q200, q202, a201.to_pre, q204]
                  apply hK
                  clear hK K
                  simp only [andThen, leaves]
                  refine DWp.seq ?_
                  obtain ⟨s208, hL209, hF⟩ := bd_some hF
                  refine DWp.seq (DWp.join (fun env G => Sep G (Fr H) [AL.box p75 [c66_u0, c66_u1], flat c66_u0 3 (ints r11.2.1), flat c66_u1 3 (ints r11.2.2)] ∧ AgB (Fr H) H G ∧ env 8 = some p75 ∧ env 12 = some (Value.int .i64 r11.1) ∧ env 108 = some (Value.bool s208)) ?_ ?_)
                  ·
                    have q211 := S205.loadAgg (P := Try.prog) (k := 11) rfl sz_26 ag_26 rfl
                    have q212 := S205.loadAgg (P := Try.prog) (k := 3) rfl sz_26 ag_26 rfl
                    obtain ⟨r15, hc213, hL209⟩ := bd_some hL209
                    refine DWp.region fun K hK => ?_
                    simp [-aBin', -aBin, -aBinI, -aUn, -aNil, -flatV, n_fn, b_add, b_sub, b_mul, b_lt, b_le, b_gt, b_ge, b_eq, b_ne, u_not, ej154_1, ej154_4, ej154_5, ej154_6, ej154_8, ej154_76, q211, q212, ((S205.sl (k := 9) rfl).tup), ((S205.sl (k := 10) rfl).tup), ((S205.sl (k := 4) rfl).tup), ((S205.sl (k := 5) rfl).tup)]
                    refine CallD.t (F_laws_eqSeaweed_w (fu := fu) (S205.sl (k := 9) rfl) (S205.sl (k := 10) rfl) (S205.sl (k := 4) rfl) (S205.sl (k := 5) rfl) hc213) ?_
                    rintro _ G215 ⟨a218, rfl, S219⟩
                    have A217 := A206.ext (hB.le A206.1) a218.agree
                    have S216 : Sep G215 (Fr H) [flat c66_u0 3 (ints r11.2.1), flat c66_u1 3 (ints r11.2.2), AL.box p4 [v0_0, v0_1], AL.box p35 [c26_u0, c26_u1], flat c26_u0 3 (ints r3.1.1), flat c26_u1 3 (ints r3.1.2), AL.box p75 [c66_u0, c66_u1], flat c183_u0 3 (ints r13.1), flat c183_u1 3 (ints r13.2), flat c190_u0 3 (ints r14.1.1), flat c190_u1 3 (ints r14.1.2), AL.box p199 [c190_u0, c190_u1]] := S205.app a218.agree S219 (fun _ h => h) (hB.le A206.1)
                    rcases Bool.eq_false_or_eq_true (bnot r15) with hb220 | hb220
                    · replace hL209 := cd_t hb220 hL209
                      simp [-aBin', -aBin, -aBinI, -aUn, -aNil, -flatV, n_fn, b_add, b_sub, b_mul, b_lt, b_le, b_gt, b_ge, b_eq, b_ne, u_not, ej154_1, ej154_4, ej154_5, ej154_6, ej154_8, ej154_76, hb220, q211, q212, a218.pre]
                      apply hK
                      clear hK K
                      simp only [andThen, leaves]
                      have S221 := S216.pick [6, 0, 1] (by decide) rfl
                      obtain rfl := Option.some.inj hL209
                      exact ⟨S221, A217, by simp [ej154_1, ej154_4, ej154_5, ej154_6, ej154_8, ej154_76], by simp [ej154_1, ej154_4, ej154_5, ej154_6, ej154_8, ej154_76], by simp [ej154_1, ej154_4, ej154_5, ej154_6, ej154_8, ej154_76]⟩
                    · replace hL209 := cd_f hb220 hL209
                      rcases Bool.eq_false_or_eq_true (sne' r14.2.1 r3.2.1) with hb222 | hb222
                      · replace hL209 := cd_t hb222 hL209
                        simp [-aBin', -aBin, -aBinI, -aUn, -aNil, -flatV, n_fn, b_add, b_sub, b_mul, b_lt, b_le, b_gt, b_ge, b_eq, b_ne, u_not, ej154_1, ej154_4, ej154_5, ej154_6, ej154_8, ej154_76, hb220, hb222, q211, q212, a218.pre, s_ne]
                        apply hK
                        clear hK K
                        simp only [andThen, leaves]
                        have S223 := S216.pick [6, 0, 1] (by decide) rfl
                        obtain rfl := Option.some.inj hL209
                        exact ⟨S223, A217, by simp [ej154_1, ej154_4, ej154_5, ej154_6, ej154_8, ej154_76], by simp [ej154_1, ej154_4, ej154_5, ej154_6, ej154_8, ej154_76], by simp [ej154_1, ej154_4, ej154_5, ej154_6, ej154_8, ej154_76]⟩
                      · replace hL209 := cd_f hb222 hL209
                        simp [-aBin', -aBin, -aBinI, -aUn, -aNil, -flatV, n_fn, b_add, b_sub, b_mul, b_lt, b_le, b_gt, b_ge, b_eq, b_ne, u_not, ej154_1, ej154_4, ej154_5, ej154_6, ej154_8, ej154_76, hb220, hb222, q211, q212, a218.pre, s_ne, b_bne un_4]
                        apply hK
                        clear hK K
                        simp only [andThen, leaves]
                        have S224 := S216.pick [6, 0, 1] (by decide) rfl
                        obtain rfl := Option.some.inj hL209
                        exact ⟨S224, A217, by simp [ej154_1, ej154_4, ej154_5, ej154_6, ej154_8, ej154_76], by simp [ej154_1, ej154_4, ej154_5, ej154_6, ej154_8, ej154_76], by simp [ej154_1, ej154_4, ej154_5, ej154_6, ej154_8, ej154_76]⟩
                  · rintro env Gj225 ⟨Sj225, Aj225, ej225_8, ej225_12, ej225_108⟩
                    refine DWp.cond' (t := s208) (by simp [ej225_8, ej225_12, ej225_108]) (fun hb226 => ?_) (fun hb226 => ?_)
                    · replace hF := cd_t hb226 hF
                      refine DWp.seq ?_
                      refine DWp.region fun K hK => ?_
                      simp [-aBin', -aBin, -aBinI, -aUn, -aNil, -flatV, n_fn, b_add, b_sub, b_mul, b_lt, b_le, b_gt, b_ge, b_eq, b_ne, u_not, ej225_8, ej225_12, ej225_108]
                      apply hK
                      clear hK K
                      simp only [andThen, leaves]
                      refine DWp.ret ?_
                      simp only [andThen, leaves]
                      obtain rfl := Option.some.inj hF
                      exact ⟨by simp, [(Value.bool false)], by simp [ej225_8, ej225_12, ej225_108], Aj225, rfl, Sj225.pick [] (by decide) rfl⟩
                    · replace hF := cd_f hb226 hF
                      refine DWp.skip ?_
                      simp only [andThen, leaves]
                      refine DWp.seq ?_
                      refine DWp.region fun K hK => ?_
                      simp [-aBin', -aBin, -aBinI, -aUn, -aNil, -flatV, n_fn, b_add, b_sub, b_mul, b_lt, b_le, b_gt, b_ge, b_eq, b_ne, u_not, ej225_8, ej225_12, ej225_108]
                      apply hK
                      clear hK K
                      simp only [andThen, leaves]
                      refine DWp.seq ?_
                      have q227 := Sj225.loadAgg (P := Try.prog) (k := 0) rfl sz_26 ag_26 rfl
                      obtain ⟨r16, hc228, hF⟩ := bd_some hF
                      refine DWp.region fun K hK => ?_
                      simp [-aBin', -aBin, -aBinI, -aUn, -aNil, -flatV, n_fn, b_add, b_sub, b_mul, b_lt, b_le, b_gt, b_ge, b_eq, b_ne, u_not, ej225_8, ej225_12, ej225_108, q227, ((Sj225.sl (k := 1) rfl).tup), ((Sj225.sl (k := 2) rfl).tup)]
                      refine CallD.t (F_laws_heldSeaweed_w (fu := fu) (Sj225.sl (k := 1) rfl) (Sj225.sl (k := 2) rfl) hc228) ?_
                      rintro _ G230 ⟨a233, rfl, S234⟩
                      have A232 := Aj225.ext (hB.le Aj225.1) a233.agree
                      have S231 : Sep G230 (Fr H) [AL.box p75 [c66_u0, c66_u1], flat c66_u0 3 (ints r11.2.1), flat c66_u1 3 (ints r11.2.2)] := Sj225.app a233.agree S234 (fun _ h => h) (hB.le Aj225.1)
                      simp [-aBin', -aBin, -aBinI, -aUn, -aNil, -flatV, n_fn, b_add, b_sub, b_mul, b_lt, b_le, b_gt, b_ge, b_eq, b_ne, u_not, ej225_8, ej225_12, ej225_108, q227, a233.pre]
                      apply hK
                      clear hK K
                      simp only [andThen, leaves]
                      refine DWp.seq ?_
                      refine DWp.seq ?_
                      refine DWp.region fun K hK => ?_
                      simp [-aBin', -aBin, -aBinI, -aUn, -aNil, -flatV, n_fn, b_add, b_sub, b_mul, b_lt, b_le, b_gt, b_ge, b_eq, b_ne, u_not, ej225_8, ej225_12, ej225_108]
                      apply hK
                      clear hK K
                      simp only [andThen, leaves]
                      refine DWp.cond' (t := (ilt r16 0)) (by simp [ej225_8, ej225_12, ej225_108]) (fun hb235 => ?_) (fun hb235 => ?_)
                      · replace hF := cd_t hb235 hF
                        refine DWp.seq ?_
                        refine DWp.region fun K hK => ?_
                        simp [-aBin', -aBin, -aBinI, -aUn, -aNil, -flatV, n_fn, b_add, b_sub, b_mul, b_lt, b_le, b_gt, b_ge, b_eq, b_ne, u_not, ej225_8, ej225_12, ej225_108]
                        apply hK
                        clear hK K
                        simp only [andThen, leaves]
                        refine DWp.ret ?_
                        simp only [andThen, leaves]
                        obtain rfl := Option.some.inj hF
                        exact ⟨by simp, [(Value.bool false)], by simp [ej225_8, ej225_12, ej225_108], A232, rfl, S231.pick [] (by decide) rfl⟩
                      · replace hF := cd_f hb235 hF
                        refine DWp.skip ?_
                        simp only [andThen, leaves]
                        refine DWp.seq ?_
                        refine DWp.seq ?_
                        refine DWp.region fun K hK => ?_
                        simp [-aBin', -aBin, -aBinI, -aUn, -aNil, -flatV, n_fn, b_add, b_sub, b_mul, b_lt, b_le, b_gt, b_ge, b_eq, b_ne, u_not, ej225_8, ej225_12, ej225_108]
                        apply hK
                        clear hK K
                        simp only [andThen, leaves]
                        refine DWp.cond' (t := (ine r16 r11.1)) (by simp [ej225_8, ej225_12, ej225_108]) (fun hb236 => ?_) (fun hb236 => ?_)
                        · replace hF := cd_t hb236 hF
                          refine DWp.seq ?_
                          refine DWp.region fun K hK => ?_
                          simp [-aBin', -aBin, -aBinI, -aUn, -aNil, -flatV, n_fn, b_add, b_sub, b_mul, b_lt, b_le, b_gt, b_ge, b_eq, b_ne, u_not, ej225_8, ej225_12, ej225_108]
                          apply hK
                          clear hK K
                          simp only [andThen, leaves]
                          refine DWp.ret ?_
                          simp only [andThen, leaves]
                          obtain rfl := Option.some.inj hF
                          exact ⟨by simp, [(Value.bool false)], by simp [ej225_8, ej225_12, ej225_108], A232, rfl, S231.pick [] (by decide) rfl⟩
                        · replace hF := cd_f hb236 hF
                          refine DWp.skip ?_
                          simp only [andThen, leaves]
                          refine DWp.seq ?_
                          refine DWp.region fun K hK => ?_
                          simp [-aBin', -aBin, -aBinI, -aUn, -aNil, -flatV, n_fn, b_add, b_sub, b_mul, b_lt, b_le, b_gt, b_ge, b_eq, b_ne, u_not, ej225_8, ej225_12, ej225_108]
                          apply hK
                          clear hK K
                          simp only [andThen, leaves]
                          refine DWp.ret ?_
                          obtain rfl := Option.some.inj hF
                          exact ⟨by simp, [(Value.bool true)], by simp [ej225_8, ej225_12, ej225_108], A232, rfl, S231.pick [] (by decide) rfl⟩
end Go.Proofs.Ytfccbmpfnonjiaa.AL

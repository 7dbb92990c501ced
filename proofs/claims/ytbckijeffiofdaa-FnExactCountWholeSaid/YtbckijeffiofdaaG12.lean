/- The walks of functions, each with its Lean function: laws.FnExactAllWhole, spec.CountWhole, impl.CountWhole, laws.FnExactCountWhole. No condition. -/
import Derived.Test.YtbckijeffiofdaaG1
import Derived.Test.YtbckijeffiofdaaG10
import Derived.Test.YtbckijeffiofdaaG11
import Derived.Test.YtbckijeffiofdaaG2
import Derived.Test.YtbckijeffiofdaaG3
import Derived.Test.YtbckijeffiofdaaG4
import Derived.Test.YtbckijeffiofdaaG5
import Derived.Test.YtbckijeffiofdaaG6
import Derived.Test.YtbckijeffiofdaaG7
import Derived.Test.YtbckijeffiofdaaG8
import Derived.Test.YtbckijeffiofdaaG9
import Derived.Test.YtbckijeffiofdaaALD
import Derived.Test.YtbckijeffiofdaaProg
import Derived.KernelRfl
namespace Go.Proofs.Ytbckijeffiofdaa.AL
open Go Go.RowKit
set_option linter.unusedVariables false
set_option linter.unusedSimpArgs false
set_option maxRecDepth 4096

def F_laws_FnExactAllWhole (fu : Nat) (x0 : Int) : Option (Bool) :=
  bd (F_spec_AllWhole fu x0) fun r1 =>
  bd (F_impl_AllWhole fu x0) fun r2 =>
  bd (
    bd (F_laws_eqMeanderS fu r2.1 r1.1) fun r3 =>
    bif (bnot r3) then
      some true
    else
      some (bne' r2.2 r1.2)) fun s15 =>
  bif s15 then
    some false
  else
    bd (F_laws_markMeanderS fu r2.1 1) fun r4 =>
    bd (F_laws_heldMeanderS fu r4.2 1) fun r5 =>
    bif (ilt r5 0) then
      some false
    else
      bif (ine r5 r4.1) then
        some false
      else
        bd (F_impl_AllWhole fu x0) fun r6 =>
        bd (
          bd (F_laws_eqMeanderS fu r6.1 r1.1) fun r7 =>
          bif (bnot r7) then
            some true
          else
            some (bne' r6.2 r1.2)) fun s60 =>
        bif s60 then
          some false
        else
          bd (F_laws_heldMeanderS fu r4.2 1) fun r8 =>
          bif (ilt r8 0) then
            some false
          else
            bif (ine r8 r4.1) then
              some false
            else
              some true
theorem F_laws_FnExactAllWhole_w {fu : Nat} {H : AH}  {x0 : Int} {r : (Bool)}  (hF : F_laws_FnExactAllWhole fu x0 = some r) :
    ACallT Try.prog 14 [(Value.int .i64 x0)] H (fun u G => AgB (Fr H) H G ∧ u = (Value.bool r) ∧ Sep G (Fr H) []) := by
  refine ACallT.of_body (nt := 63) (rs := [.tmp 2]) Try.func14 rfl rfl rfl rfl ?_
  have A0 : AgB (Fr H) H H := .refl _ _
  have S0 : Sep H (Fr H) [] := .nil
  have hB := Fr.up H
  unfold F_laws_FnExactAllWhole at hF
  refine DWp.seq ?_
  refine DWp.region fun K hK => ?_
  simp [-aBin', -aBin, -aBinI, -aUn, -aNil, -flatV, n_fn, b_add, b_sub, b_mul, b_lt, b_le, b_gt, b_ge, b_eq, b_ne, u_not]
  apply hK
  clear hK K
  simp only [andThen, leaves]
  refine DWp.seq ?_
  obtain ⟨r1, hc1, hF⟩ := bd_some hF
  refine DWp.region fun K hK => ?_
  simp [-aBin', -aBin, -aBinI, -aUn, -aNil, -flatV, n_fn, b_add, b_sub, b_mul, b_lt, b_le, b_gt, b_ge, b_eq, b_ne, u_not]
  refine CallD.t (F_spec_AllWhole_w (fu := fu)  hc1) ?_
  rintro _ G3 ⟨a6, c2_u0, c2_C0, rfl, S7⟩
  have A5 := A0.ext (hB.le A0.1) a6.agree
  have S4 : Sep G3 (Fr H) [rowsP c2_u0 28 3 c2_C0 r1.1] := S0.app a6.agree S7 (fun _ h => h) (hB.le A0.1)
  simp [-aBin', -aBin, -aBinI, -aUn, -aNil, -flatV, n_fn, b_add, b_sub, b_mul, b_lt, b_le, b_gt, b_ge, b_eq, b_ne, u_not, a6.pre]
  apply hK
  clear hK K
  simp only [andThen, leaves]
  refine DWp.seq ?_
  obtain ⟨r2, hc8, hF⟩ := bd_some hF
  refine DWp.region fun K hK => ?_
  simp [-aBin', -aBin, -aBinI, -aUn, -aNil, -flatV, n_fn, b_add, b_sub, b_mul, b_lt, b_le, b_gt, b_ge, b_eq, b_ne, u_not]
  refine CallD.t (F_impl_AllWhole_w (fu := fu)  hc8) ?_
  rintro _ G10 ⟨a13, c9_u0, c9_C0, rfl, S14⟩
  have A12 := A5.ext (hB.le A5.1) a13.agree
  have S11 : Sep G10 (Fr H) [rowsP c2_u0 28 3 c2_C0 r1.1, rowsP c9_u0 28 3 c9_C0 r2.1] := S4.app a13.agree S14 (fun _ h => h) (hB.le A5.1)
  simp [-aBin', -aBin, -aBinI, -aUn, -aNil, -flatV, n_fn, b_add, b_sub, b_mul, b_lt, b_le, b_gt, b_ge, b_eq, b_ne, u_not, a13.pre]
  apply hK
  clear hK K
  simp only [andThen, leaves]
  refine DWp.seq ?_
  obtain ⟨s15, hL16, hF⟩ := bd_some hF
  refine DWp.seq (DWp.join (fun env G => Sep G (Fr H) [rowsP c2_u0 28 3 c2_C0 r1.1, rowsP c9_u0 28 3 c9_C0 r2.1] ∧ AgB (Fr H) H G ∧ env 0 = some (Value.int .i64 x0) ∧ env 3 = some c2_u0 ∧ env 4 = some (Value.bool r1.2) ∧ env 5 = some c9_u0 ∧ env 29 = some (Value.bool s15)) ?_ ?_)
  ·
    obtain ⟨r3, hc18, hL16⟩ := bd_some hL16
    refine DWp.region fun K hK => ?_
    simp [-aBin', -aBin, -aBinI, -aUn, -aNil, -flatV, n_fn, b_add, b_sub, b_mul, b_lt, b_le, b_gt, b_ge, b_eq, b_ne, u_not, ((S11.rdP (k := 1) rfl).tup), ((S11.rdP (k := 0) rfl).tup)]
    refine CallD.t (F_laws_eqMeanderS_w (fu := fu) ⟨_, (S11.rdP (k := 1) rfl)⟩ ⟨_, (S11.rdP (k := 0) rfl)⟩ hc18) ?_
    rintro _ G20 ⟨a23, rfl, S24⟩
    have A22 := A12.ext (hB.le A12.1) a23.agree
    have S21 : Sep G20 (Fr H) [rowsP c2_u0 28 3 c2_C0 r1.1, rowsP c9_u0 28 3 c9_C0 r2.1] := S11.app a23.agree S24 (fun _ h => h) (hB.le A12.1)
    rcases Bool.eq_false_or_eq_true (bnot r3) with hb25 | hb25
    · replace hL16 := cd_t hb25 hL16
      simp [-aBin', -aBin, -aBinI, -aUn, -aNil, -flatV, n_fn, b_add, b_sub, b_mul, b_lt, b_le, b_gt, b_ge, b_eq, b_ne, u_not, hb25, a23.pre]
      apply hK
      clear hK K
      simp only [andThen, leaves]
      have S26 := S21.pick [0, 1] (by decide) rfl
      obtain rfl := Option.some.inj hL16
      exact ⟨S26, A22, by simp [], by simp [], by simp [], by simp [], by simp []⟩
    · replace hL16 := cd_f hb25 hL16
      simp [-aBin', -aBin, -aBinI, -aUn, -aNil, -flatV, n_fn, b_add, b_sub, b_mul, b_lt, b_le, b_gt, b_ge, b_eq, b_ne, u_not, hb25, a23.pre, b_bne un_4]
      apply hK
      clear hK K
      simp only [andThen, leaves]
      have S27 := S21.pick [0, 1] (by decide) rfl
      obtain rfl := Option.some.inj hL16
      exact ⟨S27, A22, by simp [], by simp [], by simp [], by simp [], by simp []⟩
  · rintro env Gj28 ⟨Sj28, Aj28, ej28_0, ej28_3, ej28_4, ej28_5, ej28_29⟩
    refine DWp.cond' (t := s15) (by simp [ej28_0, ej28_3, ej28_4, ej28_5, ej28_29]) (fun hb29 => ?_) (fun hb29 => ?_)
    · replace hF := cd_t hb29 hF
      refine DWp.seq ?_
      refine DWp.region fun K hK => ?_
      simp [-aBin', -aBin, -aBinI, -aUn, -aNil, -flatV, n_fn, b_add, b_sub, b_mul, b_lt, b_le, b_gt, b_ge, b_eq, b_ne, u_not, ej28_0, ej28_3, ej28_4, ej28_5, ej28_29]
      apply hK
      clear hK K
      simp only [andThen, leaves]
      refine DWp.ret ?_
      simp only [andThen, leaves]
      obtain rfl := Option.some.inj hF
      exact ⟨by simp, [(Value.bool false)], by simp [ej28_0, ej28_3, ej28_4, ej28_5, ej28_29], Aj28, rfl, Sj28.pick [] (by decide) rfl⟩
    · replace hF := cd_f hb29 hF
      refine DWp.skip ?_
      simp only [andThen, leaves]
      refine DWp.seq ?_
      refine DWp.region fun K hK => ?_
      simp [-aBin', -aBin, -aBinI, -aUn, -aNil, -flatV, n_fn, b_add, b_sub, b_mul, b_lt, b_le, b_gt, b_ge, b_eq, b_ne, u_not, ej28_0, ej28_3, ej28_4, ej28_5, ej28_29]
      apply hK
      clear hK K
      simp only [andThen, leaves]
      refine DWp.seq ?_
      obtain ⟨r4, hc30, hF⟩ := bd_some hF
      refine DWp.region fun K hK => ?_
      simp [-aBin', -aBin, -aBinI, -aUn, -aNil, -flatV, n_fn, b_add, b_sub, b_mul, b_lt, b_le, b_gt, b_ge, b_eq, b_ne, u_not, ej28_0, ej28_3, ej28_4, ej28_5, ej28_29, ((Sj28.rdP (k := 1) rfl).tup)]
      have S31 : Sep Gj28 (Fr H) ([rowsP c9_u0 28 3 c9_C0 r2.1] ++ [rowsP c2_u0 28 3 c2_C0 r1.1]) := Sj28.pick [1, 0] (by decide) rfl
      obtain ⟨B37, S32, U33, M34, R35, C36⟩ := S31.frame (hB.le Aj28.1)
      refine CallD.t (F_laws_markMeanderS_w (fu := fu) U33 S32 hc30) ?_
      rintro _ G39 ⟨a42, c38_Cz0, rfl, S43⟩
      have A41 := Aj28.trans (a42.mono M34)
      have S40 : Sep G39 (Fr H) [rowsP c9_u0 28 3 c38_Cz0 r4.2, rowsP c2_u0 28 3 c2_C0 r1.1] := C36 _ _ a42 S43
      simp [-aBin', -aBin, -aBinI, -aUn, -aNil, -flatV, n_fn, b_add, b_sub, b_mul, b_lt, b_le, b_gt, b_ge, b_eq, b_ne, u_not, ej28_0, ej28_3, ej28_4, ej28_5, ej28_29]
      apply hK
      clear hK K
      simp only [andThen, leaves]
      refine DWp.seq ?_
      refine DWp.region fun K hK => ?_
      simp [-aBin', -aBin, -aBinI, -aUn, -aNil, -flatV, n_fn, b_add, b_sub, b_mul, b_lt, b_le, b_gt, b_ge, b_eq, b_ne, u_not, ej28_0, ej28_3, ej28_4, ej28_5, ej28_29]
      apply hK
      clear hK K
      simp only [andThen, leaves]
      refine DWp.seq ?_
      obtain ⟨r5, hc44, hF⟩ := bd_some hF
      refine DWp.region fun K hK => ?_
      simp [-aBin', -aBin, -aBinI, -aUn, -aNil, -flatV, n_fn, b_add, b_sub, b_mul, b_lt, b_le, b_gt, b_ge, b_eq, b_ne, u_not, ej28_0, ej28_3, ej28_4, ej28_5, ej28_29, ((S40.rdP (k := 0) rfl).tup)]
      refine CallD.t (F_laws_heldMeanderS_w (fu := fu) ⟨_, (S40.rdP (k := 0) rfl)⟩ hc44) ?_
      rintro _ G46 ⟨a49, rfl, S50⟩
      have A48 := A41.ext (hB.le A41.1) a49.agree
      have S47 : Sep G46 (Fr H) [rowsP c9_u0 28 3 c38_Cz0 r4.2, rowsP c2_u0 28 3 c2_C0 r1.1] := S40.app a49.agree S50 (fun _ h => h) (hB.le A41.1)
      simp [-aBin', -aBin, -aBinI, -aUn, -aNil, -flatV, n_fn, b_add, b_sub, b_mul, b_lt, b_le, b_gt, b_ge, b_eq, b_ne, u_not, ej28_0, ej28_3, ej28_4, ej28_5, ej28_29, a49.pre]
      apply hK
      clear hK K
      simp only [andThen, leaves]
      refine DWp.seq ?_
      refine DWp.seq ?_
      refine DWp.region fun K hK => ?_
      simp [-aBin', -aBin, -aBinI, -aUn, -aNil, -flatV, n_fn, b_add, b_sub, b_mul, b_lt, b_le, b_gt, b_ge, b_eq, b_ne, u_not, ej28_0, ej28_3, ej28_4, ej28_5, ej28_29]
      apply hK
      clear hK K
      simp only [andThen, leaves]
      refine DWp.cond' (t := (ilt r5 0)) (by simp [ej28_0, ej28_3, ej28_4, ej28_5, ej28_29]) (fun hb51 => ?_) (fun hb51 => ?_)
      · replace hF := cd_t hb51 hF
        refine DWp.seq ?_
        refine DWp.region fun K hK => ?_
        simp [-aBin', -aBin, -aBinI, -aUn, -aNil, -flatV, n_fn, b_add, b_sub, b_mul, b_lt, b_le, b_gt, b_ge, b_eq, b_ne, u_not, ej28_0, ej28_3, ej28_4, ej28_5, ej28_29]
        apply hK
        clear hK K
        simp only [andThen, leaves]
        refine DWp.ret ?_
        simp only [andThen, leaves]
        obtain rfl := Option.some.inj hF
        exact ⟨by simp, [(Value.bool false)], by simp [ej28_0, ej28_3, ej28_4, ej28_5, ej28_29], A48, rfl, S47.pick [] (by decide) rfl⟩
      · replace hF := cd_f hb51 hF
        refine DWp.skip ?_
        simp only [andThen, leaves]
        refine DWp.seq ?_
        refine DWp.seq ?_
        refine DWp.region fun K hK => ?_
        simp [-aBin', -aBin, -aBinI, -aUn, -aNil, -flatV, n_fn, b_add, b_sub, b_mul, b_lt, b_le, b_gt, b_ge, b_eq, b_ne, u_not, ej28_0, ej28_3, ej28_4, ej28_5, ej28_29]
        apply hK
        clear hK K
        simp only [andThen, leaves]
        refine DWp.cond' (t := (ine r5 r4.1)) (by simp [ej28_0, ej28_3, ej28_4, ej28_5, ej28_29]) (fun hb52 => ?_) (fun hb52 => ?_)
        · replace hF := cd_t hb52 hF
          refine DWp.seq ?_
          refine DWp.region fun K hK => ?_
          simp [-aBin', -aBin, -aBinI, -aUn, -aNil, -flatV, n_fn, b_add, b_sub, b_mul, b_lt, b_le, b_gt, b_ge, b_eq, b_ne, u_not, ej28_0, ej28_3, ej28_4, ej28_5, ej28_29]
          apply hK
          clear hK K
          simp only [andThen, leaves]
          refine DWp.ret ?_
          simp only [andThen, leaves]
          obtain rfl := Option.some.inj hF
          exact ⟨by simp, [(Value.bool false)], by simp [ej28_0, ej28_3, ej28_4, ej28_5, ej28_29], A48, rfl, S47.pick [] (by decide) rfl⟩
        · replace hF := cd_f hb52 hF
          refine DWp.skip ?_
          simp only [andThen, leaves]
          refine DWp.seq ?_
          obtain ⟨r6, hc53, hF⟩ := bd_some hF
          refine DWp.region fun K hK => ?_
          simp [-aBin', -aBin, -aBinI, -aUn, -aNil, -flatV, n_fn, b_add, b_sub, b_mul, b_lt, b_le, b_gt, b_ge, b_eq, b_ne, u_not, ej28_0, ej28_3, ej28_4, ej28_5, ej28_29]
          refine CallD.t (F_impl_AllWhole_w (fu := fu)  hc53) ?_
          rintro _ G55 ⟨a58, c54_u0, c54_C0, rfl, S59⟩
          have A57 := A48.ext (hB.le A48.1) a58.agree
          have S56 : Sep G55 (Fr H) [rowsP c9_u0 28 3 c38_Cz0 r4.2, rowsP c2_u0 28 3 c2_C0 r1.1, rowsP c54_u0 28 3 c54_C0 r6.1] := S47.app a58.agree S59 (fun _ h => h) (hB.le A48.1)
          simp [-aBin', -aBin, -aBinI, -aUn, -aNil, -flatV, n_fn, b_add, b_sub, b_mul, b_lt, b_le, b_gt, b_ge, b_eq, b_ne, u_not, ej28_0, ej28_3, ej28_4, ej28_5, ej28_29, a58.pre]
          apply hK
          clear hK K
          simp only [andThen, leaves]
          refine DWp.seq ?_
          obtain ⟨s60, hL61, hF⟩ := bd_some hF
          refine DWp.seq (DWp.join (fun env G => Sep G (Fr H) [rowsP c9_u0 28 3 c38_Cz0 r4.2] ∧ AgB (Fr H) H G ∧ env 5 = some c9_u0 ∧ env 7 = some (Value.int .i64 r4.1) ∧ env 54 = some (Value.bool s60)) ?_ ?_)
          ·
            obtain ⟨r7, hc63, hL61⟩ := bd_some hL61
            refine DWp.region fun K hK => ?_
            simp [-aBin', -aBin, -aBinI, -aUn, -aNil, -flatV, n_fn, b_add, b_sub, b_mul, b_lt, b_le, b_gt, b_ge, b_eq, b_ne, u_not, ej28_0, ej28_3, ej28_4, ej28_5, ej28_29, ((S56.rdP (k := 2) rfl).tup), ((S56.rdP (k := 1) rfl).tup)]
            refine CallD.t (F_laws_eqMeanderS_w (fu := fu) ⟨_, (S56.rdP (k := 2) rfl)⟩ ⟨_, (S56.rdP (k := 1) rfl)⟩ hc63) ?_
            rintro _ G65 ⟨a68, rfl, S69⟩
            have A67 := A57.ext (hB.le A57.1) a68.agree
            have S66 : Sep G65 (Fr H) [rowsP c9_u0 28 3 c38_Cz0 r4.2, rowsP c2_u0 28 3 c2_C0 r1.1, rowsP c54_u0 28 3 c54_C0 r6.1] := S56.app a68.agree S69 (fun _ h => h) (hB.le A57.1)
            rcases Bool.eq_false_or_eq_true (bnot r7) with hb70 | hb70
            · replace hL61 := cd_t hb70 hL61
              simp [-aBin', -aBin, -aBinI, -aUn, -aNil, -flatV, n_fn, b_add, b_sub, b_mul, b_lt, b_le, b_gt, b_ge, b_eq, b_ne, u_not, ej28_0, ej28_3, ej28_4, ej28_5, ej28_29, hb70, a68.pre]
              apply hK
              clear hK K
              simp only [andThen, leaves]
              have S71 := S66.pick [0] (by decide) rfl
              obtain rfl := Option.some.inj hL61
              exact ⟨S71, A67, by simp [ej28_0, ej28_3, ej28_4, ej28_5, ej28_29], by simp [ej28_0, ej28_3, ej28_4, ej28_5, ej28_29], by simp [ej28_0, ej28_3, ej28_4, ej28_5, ej28_29]⟩
            · replace hL61 := cd_f hb70 hL61
              simp [-aBin', -aBin, -aBinI, -aUn, -aNil, -flatV, n_fn, b_add, b_sub, b_mul, b_lt, b_le, b_gt, b_ge, b_eq, b_ne, u_not, ej28_0, ej28_3, ej28_4, ej28_5, ej28_29, hb70, a68.pre, b_bne un_4]
              apply hK
              clear hK K
              simp only [andThen, leaves]
              have S72 := S66.pick [0] (by decide) rfl
              obtain rfl := Option.some.inj hL61
              exact ⟨S72, A67, by simp [ej28_0, ej28_3, ej28_4, ej28_5, ej28_29], by simp [ej28_0, ej28_3, ej28_4, ej28_5, ej28_29], by simp [ej28_0, ej28_3, ej28_4, ej28_5, ej28_29]⟩
          · rintro env Gj73 ⟨Sj73, Aj73, ej73_5, ej73_7, ej73_54⟩
            refine DWp.cond' (t := s60) (by simp [ej73_5, ej73_7, ej73_54]) (fun hb74 => ?_) (fun hb74 => ?_)
            · replace hF := cd_t hb74 hF
              refine DWp.seq ?_
              refine DWp.region fun K hK => ?_
              simp [-aBin', -aBin, -aBinI, -aUn, -aNil, -flatV, n_fn, b_add, b_sub, b_mul, b_lt, b_le, b_gt, b_ge, b_eq, b_ne, u_not, ej73_5, ej73_7, ej73_54]
              apply hK
              clear hK K
              simp only [andThen, leaves]
              refine DWp.ret ?_
              simp only [andThen, leaves]
              obtain rfl := Option.some.inj hF
              exact ⟨by simp, [(Value.bool false)], by simp [ej73_5, ej73_7, ej73_54], Aj73, rfl, Sj73.pick [] (by decide) rfl⟩
            · replace hF := cd_f hb74 hF
              refine DWp.skip ?_
              simp only [andThen, leaves]
              refine DWp.seq ?_
              refine DWp.region fun K hK => ?_
              simp [-aBin', -aBin, -aBinI, -aUn, -aNil, -flatV, n_fn, b_add, b_sub, b_mul, b_lt, b_le, b_gt, b_ge, b_eq, b_ne, u_not, ej73_5, ej73_7, ej73_54]
              apply hK
              clear hK K
              simp only [andThen, leaves]
              refine DWp.seq ?_
              obtain ⟨r8, hc75, hF⟩ := bd_some hF
              refine DWp.region fun K hK => ?_
              simp [-aBin', -aBin, -aBinI, -aUn, -aNil, -flatV, n_fn, b_add, b_sub, b_mul, b_lt, b_le, b_gt, b_ge, b_eq, b_ne, u_not, ej73_5, ej73_7, ej73_54, ((Sj73.rdP (k := 0) rfl).tup)]
              refine CallD.t (F_laws_heldMeanderS_w (fu := fu) ⟨_, (Sj73.rdP (k := 0) rfl)⟩ hc75) ?_
              rintro _ G77 ⟨a80, rfl, S81⟩
              have A79 := Aj73.ext (hB.le Aj73.1) a80.agree
              have S78 : Sep G77 (Fr H) [rowsP c9_u0 28 3 c38_Cz0 r4.2] := Sj73.app a80.agree S81 (fun _ h => h) (hB.le Aj73.1)
              simp [-aBin', -aBin, -aBinI, -aUn, -aNil, -flatV, n_fn, b_add, b_sub, b_mul, b_lt, b_le, b_gt, b_ge, b_eq, b_ne, u_not, ej73_5, ej73_7, ej73_54, a80.pre]
              apply hK
              clear hK K
              simp only [andThen, leaves]
              refine DWp.seq ?_
              refine DWp.seq ?_
              refine DWp.region fun K hK => ?_
              simp [-aBin', -aBin, -aBinI, -aUn, -aNil, -flatV, n_fn, b_add, b_sub, b_mul, b_lt, b_le, b_gt, b_ge, b_eq, b_ne, u_not, ej73_5, ej73_7, ej73_54]
              apply hK
              clear hK K
              simp only [andThen, leaves]
              refine DWp.cond' (t := (ilt r8 0)) (by simp [ej73_5, ej73_7, ej73_54]) (fun hb82 => ?_) (fun hb82 => ?_)
              · replace hF := cd_t hb82 hF
                refine DWp.seq ?_
                refine DWp.region fun K hK => ?_
                simp [-aBin', -aBin, -aBinI, -aUn, -aNil, -flatV, n_fn, b_add, b_sub, b_mul, b_lt, b_le, b_gt, b_ge, b_eq, b_ne, u_not, ej73_5, ej73_7, ej73_54]
                apply hK
                clear hK K
                simp only [andThen, leaves]
                refine DWp.ret ?_
                simp only [andThen, leaves]
                obtain rfl := Option.some.inj hF
                exact ⟨by simp, [(Value.bool false)], by simp [ej73_5, ej73_7, ej73_54], A79, rfl, S78.pick [] (by decide) rfl⟩
              · replace hF := cd_f hb82 hF
                refine DWp.skip ?_
                simp only [andThen, leaves]
                refine DWp.seq ?_
                refine DWp.seq ?_
                refine DWp.region fun K hK => ?_
                simp [-aBin', -aBin, -aBinI, -aUn, -aNil, -flatV, n_fn, b_add, b_sub, b_mul, b_lt, b_le, b_gt, b_ge, b_eq, b_ne, u_not, ej73_5, ej73_7, ej73_54]
                apply hK
                clear hK K
                simp only [andThen, leaves]
                refine DWp.cond' (t := (ine r8 r4.1)) (by simp [ej73_5, ej73_7, ej73_54]) (fun hb83 => ?_) (fun hb83 => ?_)
                · replace hF := cd_t hb83 hF
                  refine DWp.seq ?_
                  refine DWp.region fun K hK => ?_
                  simp [-aBin', -aBin, -aBinI, -aUn, -aNil, -flatV, n_fn, b_add, b_sub, b_mul, b_lt, b_le, b_gt, b_ge, b_eq, b_ne, u_not, ej73_5, ej73_7, ej73_54]
                  apply hK
                  clear hK K
                  simp only [andThen, leaves]
                  refine DWp.ret ?_
                  simp only [andThen, leaves]
                  obtain rfl := Option.some.inj hF
                  exact ⟨by simp, [(Value.bool false)], by simp [ej73_5, ej73_7, ej73_54], A79, rfl, S78.pick [] (by decide) rfl⟩
                · replace hF := cd_f hb83 hF
                  refine DWp.skip ?_
                  simp only [andThen, leaves]
                  refine DWp.seq ?_
                  refine DWp.region fun K hK => ?_
                  simp [-aBin', -aBin, -aBinI, -aUn, -aNil, -flatV, n_fn, b_add, b_sub, b_mul, b_lt, b_le, b_gt, b_ge, b_eq, b_ne, u_not, ej73_5, ej73_7, ej73_54]
                  apply hK
                  clear hK K
                  simp only [andThen, leaves]
                  refine DWp.ret ?_
                  obtain rfl := Option.some.inj hF
                  exact ⟨by simp, [(Value.bool true)], by simp [ej73_5, ej73_7, ej73_54], A79, rfl, S78.pick [] (by decide) rfl⟩
def F_spec_CountWhole_L1 (fu : Nat) (k1_0 : List (List Int × List Int)) (k1_1 : Int) : Nat → Int → Int → Option (Int × Int)
  | 0, _, _ => none
  | n + 1, y1_4, y1_13 =>
    bif (ilt y1_13 k1_1) then
      gd (inL k1_0 y1_13) (
      bd (F_spec_siWhole fu ((gat pnil k1_0 y1_13).1) ((gat pnil k1_0 y1_13).2)) fun r3 =>
      bif r3 then
        F_spec_CountWhole_L1 fu k1_0 k1_1 n (iadd .i64 y1_4 1) (iadd .i64 y1_13 1)
      else
        F_spec_CountWhole_L1 fu k1_0 k1_1 n y1_4 (iadd .i64 y1_13 1))
    else
      some (y1_4, y1_13)
def F_spec_CountWhole (fu : Nat) (x0 : Int) : Option (Int × Bool) :=
  bd (F_spec_l1In fu x0 1 5) fun r1 =>
  bif (bnot r1) then
    some (0, false)
  else
    bd (F_spec_siPairs fu x0) fun r2 =>
    bd (F_spec_CountWhole_L1 fu r2 (llen r2) fu 0 0) fun s1 =>
    some (s1.1, true)
theorem F_spec_CountWhole_w {fu : Nat} {H : AH}  {x0 : Int} {r : (Int × Bool)}  (hF : F_spec_CountWhole fu x0 = some r) :
    ACallT Try.prog 52 [(Value.int .i64 x0)] H (fun u G => AgB (Fr H) H G ∧ u = (Value.tuple #[(Value.int .i64 r.1), (Value.bool r.2)]) ∧ Sep G (Fr H) []) := by
  refine ACallT.of_body (nt := 23) (rs := [.tmp 2, .tmp 3]) Try.func52 rfl rfl rfl rfl ?_
  have A0 : AgB (Fr H) H H := .refl _ _
  have S0 : Sep H (Fr H) [] := .nil
  have hB := Fr.up H
  unfold F_spec_CountWhole at hF
  refine DWp.seq ?_
  refine DWp.region fun K hK => ?_
  simp [-aBin', -aBin, -aBinI, -aUn, -aNil, -flatV, n_fn, b_add, b_sub, b_mul, b_lt, b_le, b_gt, b_ge, b_eq, b_ne, u_not]
  apply hK
  clear hK K
  simp only [andThen, leaves]
  refine DWp.seq ?_
  refine DWp.seq ?_
  obtain ⟨r1, hc1, hF⟩ := bd_some hF
  refine DWp.region fun K hK => ?_
  simp [-aBin', -aBin, -aBinI, -aUn, -aNil, -flatV, n_fn, b_add, b_sub, b_mul, b_lt, b_le, b_gt, b_ge, b_eq, b_ne, u_not]
  refine CallD.t (F_spec_l1In_w (fu := fu)  hc1) ?_
  rintro _ G3 ⟨a6, rfl, S7⟩
  have A5 := A0.ext (hB.le A0.1) a6.agree
  have S4 : Sep G3 (Fr H) [] := S0.app a6.agree S7 (fun _ h => h) (hB.le A0.1)
  simp [-aBin', -aBin, -aBinI, -aUn, -aNil, -flatV, n_fn, b_add, b_sub, b_mul, b_lt, b_le, b_gt, b_ge, b_eq, b_ne, u_not, a6.pre]
  apply hK
  clear hK K
  simp only [andThen, leaves]
  refine DWp.cond' (t := (bnot r1)) (by simp []) (fun hb8 => ?_) (fun hb8 => ?_)
  · replace hF := cd_t hb8 hF
    refine DWp.seq ?_
    refine DWp.region fun K hK => ?_
    simp [-aBin', -aBin, -aBinI, -aUn, -aNil, -flatV, n_fn, b_add, b_sub, b_mul, b_lt, b_le, b_gt, b_ge, b_eq, b_ne, u_not]
    apply hK
    clear hK K
    simp only [andThen, leaves]
    refine DWp.ret ?_
    simp only [andThen, leaves]
    obtain rfl := Option.some.inj hF
    exact ⟨by simp, [(Value.int .i64 0), (Value.bool false)], by simp [], A5, rfl, S4.pick [] (by decide) rfl⟩
  · replace hF := cd_f hb8 hF
    refine DWp.skip ?_
    simp only [andThen, leaves]
    refine DWp.seq ?_
    refine DWp.region fun K hK => ?_
    simp [-aBin', -aBin, -aBinI, -aUn, -aNil, -flatV, n_fn, b_add, b_sub, b_mul, b_lt, b_le, b_gt, b_ge, b_eq, b_ne, u_not]
    apply hK
    clear hK K
    simp only [andThen, leaves]
    refine DWp.seq ?_
    refine DWp.seq ?_
    obtain ⟨r2, hc9, hF⟩ := bd_some hF
    refine DWp.region fun K hK => ?_
    simp [-aBin', -aBin, -aBinI, -aUn, -aNil, -flatV, n_fn, b_add, b_sub, b_mul, b_lt, b_le, b_gt, b_ge, b_eq, b_ne, u_not]
    refine CallD.t (F_spec_siPairs_w (fu := fu)  hc9) ?_
    rintro c10_u0 G11 ⟨a14, _, c10_C0, rfl, S15⟩
    have A13 := A5.ext (hB.le A5.1) a14.agree
    have S12 : Sep G11 (Fr H) [rowsP c10_u0 28 3 c10_C0 r2] := S4.app a14.agree S15 (fun _ h => h) (hB.le A5.1)
    have q16 := (S12.rdP (k := 0) rfl).lenG (P := Try.prog) el_46
    simp [-aBin', -aBin, -aBinI, -aUn, -aNil, -flatV, n_fn, b_add, b_sub, b_mul, b_lt, b_le, b_gt, b_ge, b_eq, b_ne, u_not, a14.pre, q16]
    apply hK
    clear hK K
    simp only [andThen, leaves]
    refine DWp.block ?_
    obtain ⟨s17, hL18, hF⟩ := bd_some hF
    have S19 := S12.pick [0] (by decide) rfl
    refine DWp.loop (fun n env G => ∃ y1_4 : Int, ∃ y1_13 : Int, F_spec_CountWhole_L1 fu r2 (llen r2) n y1_4 y1_13 = some s17 ∧ Sep G (Fr H) [rowsP c10_u0 28 3 c10_C0 r2] ∧ AgB (Fr H) H G ∧ env 4 = some (Value.int .i64 y1_4) ∧ env 11 = some c10_u0 ∧ env 12 = some (Value.int .i64 (llen r2)) ∧ env 13 = some (Value.int .i64 y1_13)) fu ⟨0, 0, hL18, S19, A13, by simp [], by simp [], by simp [], by simp []⟩ ?_
    rintro n1 env1 G1_ ⟨y1_4, y1_13, hL18, S1_, A1_, e1_4, e1_11, e1_12, e1_13⟩
    cases n1 with
    | zero => cases hL18
    | succ n1 =>
      simp only [F_spec_CountWhole_L1] at hL18
      refine DWp.seq ?_
      refine DWp.region fun K hK => ?_
      simp [-aBin', -aBin, -aBinI, -aUn, -aNil, -flatV, n_fn, b_add, b_sub, b_mul, b_lt, b_le, b_gt, b_ge, b_eq, b_ne, u_not, e1_4, e1_11, e1_12, e1_13]
      apply hK
      clear hK K
      simp only [andThen, leaves]
      refine DWp.seq ?_
      refine DWp.cond' (t := (ilt y1_13 (llen r2))) (by simp [e1_4, e1_11, e1_12, e1_13]) (fun hb20 => ?_) (fun hb20 => ?_)
      · replace hL18 := cd_t hb20 hL18
        refine DWp.skip ?_
        simp only [andThen, leaves]
        refine DWp.seq ?_
        refine DWp.block ?_
        refine DWp.seq ?_
        obtain ⟨g21, hL18⟩ := gd_some hL18
        have q22 := (S1_.rdP (k := 0) rfl).idxG (P := Try.prog) (kk := .i64) el_46 sz_28 g21
        have q23 := (S1_.rdP (k := 0) rfl).loadG (P := Try.prog) sz_28 ag_28 g21
        obtain ⟨G25, p27, q28, q30, a29, S24⟩ := S1_.allocT (P := Try.prog) (hB.le A1_.1) ze_28 rfl
        have A26 := A1_.ext (hB.le A1_.1) a29
        replace S24 : Sep G25 (Fr H) [rowsP c10_u0 28 3 c10_C0 r2, AL.box p27 [(Value.slice none 0 0), (Value.slice none 0 0)]] := S24
        obtain ⟨G31, q32, S33, a35⟩ := S24.putAgg (P := Try.prog) (k := 1) (xs := [(pc c10_C0 y1_13 0), (pc c10_C0 y1_13 1)]) rfl (hB.le A26.1) sz_28 rfl rfl
        have A34 := A26.trans a35
        replace S33 : Sep G31 (Fr H) [rowsP c10_u0 28 3 c10_C0 r2, AL.box p27 [(pc c10_C0 y1_13 0), (pc c10_C0 y1_13 1)]] := S33
        refine DWp.region fun K hK => ?_
        simp [-aBin', -aBin, -aBinI, -aUn, -aNil, -flatV, n_fn, b_add, b_sub, b_mul, b_lt, b_le, b_gt, b_ge, b_eq, b_ne, u_not, e1_4, e1_11, e1_12, e1_13, q22, q23, q28, q30, a29.to_pre, q32]
        apply hK
        clear hK K
        simp only [andThen, leaves]
        refine DWp.seq ?_
        have q36 := S33.loadAgg (P := Try.prog) (k := 1) rfl sz_28 ag_28 rfl
        obtain ⟨r3, hc37, hL18⟩ := bd_some hL18
        refine DWp.region fun K hK => ?_
        simp [-aBin', -aBin, -aBinI, -aUn, -aNil, -flatV, n_fn, b_add, b_sub, b_mul, b_lt, b_le, b_gt, b_ge, b_eq, b_ne, u_not, e1_4, e1_11, e1_12, e1_13, q36, (((S33.rdP (k := 0) rfl).row0 g21).tup), (((S33.rdP (k := 0) rfl).row1 g21).tup)]
        refine CallD.t (F_spec_siWhole_w (fu := fu) ((S33.rdP (k := 0) rfl).row0 g21) ((S33.rdP (k := 0) rfl).row1 g21) hc37) ?_
        rintro _ G39 ⟨a42, rfl, S43⟩
        have A41 := A34.ext (hB.le A34.1) a42.agree
        have S40 : Sep G39 (Fr H) [rowsP c10_u0 28 3 c10_C0 r2, AL.box p27 [(pc c10_C0 y1_13 0), (pc c10_C0 y1_13 1)]] := S33.app a42.agree S43 (fun _ h => h) (hB.le A34.1)
        simp [-aBin', -aBin, -aBinI, -aUn, -aNil, -flatV, n_fn, b_add, b_sub, b_mul, b_lt, b_le, b_gt, b_ge, b_eq, b_ne, u_not, e1_4, e1_11, e1_12, e1_13, q36, a42.pre]
        apply hK
        clear hK K
        simp only [andThen, leaves]
        refine DWp.cond' (t := r3) (by simp [e1_4, e1_11, e1_12, e1_13]) (fun hb44 => ?_) (fun hb44 => ?_)
        · replace hL18 := cd_t hb44 hL18
          refine DWp.region fun K hK => ?_
          simp [-aBin', -aBin, -aBinI, -aUn, -aNil, -flatV, n_fn, b_add, b_sub, b_mul, b_lt, b_le, b_gt, b_ge, b_eq, b_ne, u_not, e1_4, e1_11, e1_12, e1_13]
          apply hK
          clear hK K
          simp only [andThen, leaves]
          refine DWp.region fun K hK => ?_
          simp [-aBin', -aBin, -aBinI, -aUn, -aNil, -flatV, n_fn, b_add, b_sub, b_mul, b_lt, b_le, b_gt, b_ge, b_eq, b_ne, u_not, e1_4, e1_11, e1_12, e1_13]
          apply hK
          clear hK K
          simp only [andThen, leaves]
          have S45 := S40.pick [0] (by decide) rfl
          exact ⟨n1, Nat.lt_succ_self _, (iadd .i64 y1_4 1), (iadd .i64 y1_13 1), hL18, S45, A41, by simp [e1_4, e1_11, e1_12, e1_13], by simp [e1_4, e1_11, e1_12, e1_13], by simp [e1_4, e1_11, e1_12, e1_13], by simp [e1_4, e1_11, e1_12, e1_13]⟩
        · replace hL18 := cd_f hb44 hL18
          refine DWp.skip ?_
          simp only [andThen, leaves]
          refine DWp.region fun K hK => ?_
          simp [-aBin', -aBin, -aBinI, -aUn, -aNil, -flatV, n_fn, b_add, b_sub, b_mul, b_lt, b_le, b_gt, b_ge, b_eq, b_ne, u_not, e1_4, e1_11, e1_12, e1_13]
          apply hK
          clear hK K
          simp only [andThen, leaves]
          have S46 := S40.pick [0] (by decide) rfl
          exact ⟨n1, Nat.lt_succ_self _, y1_4, (iadd .i64 y1_13 1), hL18, S46, A41, by simp [e1_4, e1_11, e1_12, e1_13], by simp [e1_4, e1_11, e1_12, e1_13], by simp [e1_4, e1_11, e1_12, e1_13], by simp [e1_4, e1_11, e1_12, e1_13]⟩
      · replace hL18 := cd_f hb20 hL18
        refine DWp.exit ?_
        simp only [andThen, leaves, if_true, if_false, reduceIte, Nat.reduceEqDiff]
        obtain rfl := Option.some.inj hL18
        try dsimp only at hF
        refine DWp.seq ?_
        refine DWp.region fun K hK => ?_
        simp [-aBin', -aBin, -aBinI, -aUn, -aNil, -flatV, n_fn, b_add, b_sub, b_mul, b_lt, b_le, b_gt, b_ge, b_eq, b_ne, u_not, e1_4, e1_11, e1_12, e1_13]
        apply hK
        clear hK K
        simp only [andThen, leaves]
        refine DWp.ret ?_
        obtain rfl := Option.some.inj hF
        exact ⟨by simp, [(Value.int .i64 y1_4), (Value.bool true)], by simp [e1_4, e1_11, e1_12, e1_13], A1_, rfl, S1_.pick [] (by decide) rfl⟩
def F_impl_CountWhole (fu : Nat) (x0 : Int) : Option (Int × Bool) :=
  bd (F_impl_in fu x0 1 5) fun r1 =>
  bif (bnot r1) then
    some (0, false)
  else
    bd (F_impl_wholes fu x0) fun r2 =>
    some ((llen r2), true)
theorem F_impl_CountWhole_w {fu : Nat} {H : AH}  {x0 : Int} {r : (Int × Bool)}  (hF : F_impl_CountWhole fu x0 = some r) :
    ACallT Try.prog 53 [(Value.int .i64 x0)] H (fun u G => AgB (Fr H) H G ∧ u = (Value.tuple #[(Value.int .i64 r.1), (Value.bool r.2)]) ∧ Sep G (Fr H) []) := by
  refine ACallT.of_body (nt := 10) (rs := [.tmp 2, .tmp 3]) Try.func53 rfl rfl rfl rfl ?_
  have A0 : AgB (Fr H) H H := .refl _ _
  have S0 : Sep H (Fr H) [] := .nil
  have hB := Fr.up H
  unfold F_impl_CountWhole at hF
  refine DWp.seq ?_
  refine DWp.region fun K hK => ?_
  simp [-aBin', -aBin, -aBinI, -aUn, -aNil, -flatV, n_fn, b_add, b_sub, b_mul, b_lt, b_le, b_gt, b_ge, b_eq, b_ne, u_not]
  apply hK
  clear hK K
  simp only [andThen, leaves]
  refine DWp.seq ?_
  refine DWp.seq ?_
  obtain ⟨r1, hc1, hF⟩ := bd_some hF
  refine DWp.region fun K hK => ?_
  simp [-aBin', -aBin, -aBinI, -aUn, -aNil, -flatV, n_fn, b_add, b_sub, b_mul, b_lt, b_le, b_gt, b_ge, b_eq, b_ne, u_not]
  refine CallD.t (F_impl_in_w (fu := fu)  hc1) ?_
  rintro _ G3 ⟨a6, rfl, S7⟩
  have A5 := A0.ext (hB.le A0.1) a6.agree
  have S4 : Sep G3 (Fr H) [] := S0.app a6.agree S7 (fun _ h => h) (hB.le A0.1)
  simp [-aBin', -aBin, -aBinI, -aUn, -aNil, -flatV, n_fn, b_add, b_sub, b_mul, b_lt, b_le, b_gt, b_ge, b_eq, b_ne, u_not, a6.pre]
  apply hK
  clear hK K
  simp only [andThen, leaves]
  refine DWp.cond' (t := (bnot r1)) (by simp []) (fun hb8 => ?_) (fun hb8 => ?_)
  · replace hF := cd_t hb8 hF
    refine DWp.seq ?_
    refine DWp.region fun K hK => ?_
    simp [-aBin', -aBin, -aBinI, -aUn, -aNil, -flatV, n_fn, b_add, b_sub, b_mul, b_lt, b_le, b_gt, b_ge, b_eq, b_ne, u_not]
    apply hK
    clear hK K
    simp only [andThen, leaves]
    refine DWp.ret ?_
    simp only [andThen, leaves]
    obtain rfl := Option.some.inj hF
    exact ⟨by simp, [(Value.int .i64 0), (Value.bool false)], by simp [], A5, rfl, S4.pick [] (by decide) rfl⟩
  · replace hF := cd_f hb8 hF
    refine DWp.skip ?_
    simp only [andThen, leaves]
    refine DWp.seq ?_
    obtain ⟨r2, hc9, hF⟩ := bd_some hF
    refine DWp.region fun K hK => ?_
    simp [-aBin', -aBin, -aBinI, -aUn, -aNil, -flatV, n_fn, b_add, b_sub, b_mul, b_lt, b_le, b_gt, b_ge, b_eq, b_ne, u_not]
    refine CallD.t (F_impl_wholes_w (fu := fu)  hc9) ?_
    rintro c10_u0 G11 ⟨a14, _, c10_C0, rfl, S15⟩
    have A13 := A5.ext (hB.le A5.1) a14.agree
    have S12 : Sep G11 (Fr H) [rowsP c10_u0 28 3 c10_C0 r2] := S4.app a14.agree S15 (fun _ h => h) (hB.le A5.1)
    have q16 := (S12.rdP (k := 0) rfl).lenG (P := Try.prog) el_46
    simp [-aBin', -aBin, -aBinI, -aUn, -aNil, -flatV, n_fn, b_add, b_sub, b_mul, b_lt, b_le, b_gt, b_ge, b_eq, b_ne, u_not, a14.pre, q16]
    apply hK
    clear hK K
    simp only [andThen, leaves]
    refine DWp.ret ?_
    obtain rfl := Option.some.inj hF
    exact ⟨by simp, [(Value.int .i64 (llen r2)), (Value.bool true)], by simp [], A13, rfl, S12.pick [] (by decide) rfl⟩
def F_laws_FnExactCountWhole (fu : Nat) (x0 : Int) : Option (Bool) :=
  bd (F_spec_CountWhole fu x0) fun r1 =>
  bd (F_impl_CountWhole fu x0) fun r2 =>
  bd (
    bif (ine r2.1 r1.1) then
      some true
    else
      some (bne' r2.2 r1.2)) fun s15 =>
  bif s15 then
    some false
  else
    some true
theorem F_laws_FnExactCountWhole_w {fu : Nat} {H : AH}  {x0 : Int} {r : (Bool)}  (hF : F_laws_FnExactCountWhole fu x0 = some r) :
    ACallT Try.prog 13 [(Value.int .i64 x0)] H (fun u G => AgB (Fr H) H G ∧ u = (Value.bool r) ∧ Sep G (Fr H) []) := by
  refine ACallT.of_body (nt := 25) (rs := [.tmp 2]) Try.func13 rfl rfl rfl rfl ?_
  have A0 : AgB (Fr H) H H := .refl _ _
  have S0 : Sep H (Fr H) [] := .nil
  have hB := Fr.up H
  unfold F_laws_FnExactCountWhole at hF
  refine DWp.seq ?_
  refine DWp.region fun K hK => ?_
  simp [-aBin', -aBin, -aBinI, -aUn, -aNil, -flatV, n_fn, b_add, b_sub, b_mul, b_lt, b_le, b_gt, b_ge, b_eq, b_ne, u_not]
  apply hK
  clear hK K
  simp only [andThen, leaves]
  refine DWp.seq ?_
  obtain ⟨r1, hc1, hF⟩ := bd_some hF
  refine DWp.region fun K hK => ?_
  simp [-aBin', -aBin, -aBinI, -aUn, -aNil, -flatV, n_fn, b_add, b_sub, b_mul, b_lt, b_le, b_gt, b_ge, b_eq, b_ne, u_not]
  refine CallD.t (F_spec_CountWhole_w (fu := fu)  hc1) ?_
  rintro _ G3 ⟨a6, rfl, S7⟩
  have A5 := A0.ext (hB.le A0.1) a6.agree
  have S4 : Sep G3 (Fr H) [] := S0.app a6.agree S7 (fun _ h => h) (hB.le A0.1)
  simp [-aBin', -aBin, -aBinI, -aUn, -aNil, -flatV, n_fn, b_add, b_sub, b_mul, b_lt, b_le, b_gt, b_ge, b_eq, b_ne, u_not, a6.pre]
  apply hK
  clear hK K
  simp only [andThen, leaves]
  refine DWp.seq ?_
  obtain ⟨r2, hc8, hF⟩ := bd_some hF
  refine DWp.region fun K hK => ?_
  simp [-aBin', -aBin, -aBinI, -aUn, -aNil, -flatV, n_fn, b_add, b_sub, b_mul, b_lt, b_le, b_gt, b_ge, b_eq, b_ne, u_not]
  refine CallD.t (F_impl_CountWhole_w (fu := fu)  hc8) ?_
  rintro _ G10 ⟨a13, rfl, S14⟩
  have A12 := A5.ext (hB.le A5.1) a13.agree
  have S11 : Sep G10 (Fr H) [] := S4.app a13.agree S14 (fun _ h => h) (hB.le A5.1)
  simp [-aBin', -aBin, -aBinI, -aUn, -aNil, -flatV, n_fn, b_add, b_sub, b_mul, b_lt, b_le, b_gt, b_ge, b_eq, b_ne, u_not, a13.pre]
  apply hK
  clear hK K
  simp only [andThen, leaves]
  refine DWp.seq ?_
  obtain ⟨s15, hL16, hF⟩ := bd_some hF
  refine DWp.seq (DWp.join (fun env G => Sep G (Fr H) [] ∧ AgB (Fr H) H G ∧ env 24 = some (Value.bool s15)) ?_ ?_)
  ·
    rcases Bool.eq_false_or_eq_true (ine r2.1 r1.1) with hb18 | hb18
    · replace hL16 := cd_t hb18 hL16
      refine DWp.region fun K hK => ?_
      simp [-aBin', -aBin, -aBinI, -aUn, -aNil, -flatV, n_fn, b_add, b_sub, b_mul, b_lt, b_le, b_gt, b_ge, b_eq, b_ne, u_not, hb18]
      apply hK
      clear hK K
      simp only [andThen, leaves]
      have S19 := S11.pick [] (by decide) rfl
      obtain rfl := Option.some.inj hL16
      exact ⟨S19, A12, by simp []⟩
    · replace hL16 := cd_f hb18 hL16
      refine DWp.region fun K hK => ?_
      simp [-aBin', -aBin, -aBinI, -aUn, -aNil, -flatV, n_fn, b_add, b_sub, b_mul, b_lt, b_le, b_gt, b_ge, b_eq, b_ne, u_not, hb18, b_bne un_4]
      apply hK
      clear hK K
      simp only [andThen, leaves]
      have S20 := S11.pick [] (by decide) rfl
      obtain rfl := Option.some.inj hL16
      exact ⟨S20, A12, by simp []⟩
  · rintro env Gj21 ⟨Sj21, Aj21, ej21_24⟩
    refine DWp.cond' (t := s15) (by simp [ej21_24]) (fun hb22 => ?_) (fun hb22 => ?_)
    · replace hF := cd_t hb22 hF
      refine DWp.seq ?_
      refine DWp.region fun K hK => ?_
      simp [-aBin', -aBin, -aBinI, -aUn, -aNil, -flatV, n_fn, b_add, b_sub, b_mul, b_lt, b_le, b_gt, b_ge, b_eq, b_ne, u_not, ej21_24]
      apply hK
      clear hK K
      simp only [andThen, leaves]
      refine DWp.ret ?_
      simp only [andThen, leaves]
      obtain rfl := Option.some.inj hF
      exact ⟨by simp, [(Value.bool false)], by simp [ej21_24], Aj21, rfl, Sj21.pick [] (by decide) rfl⟩
    · replace hF := cd_f hb22 hF
      refine DWp.skip ?_
      simp only [andThen, leaves]
      refine DWp.seq ?_
      refine DWp.region fun K hK => ?_
      simp [-aBin', -aBin, -aBinI, -aUn, -aNil, -flatV, n_fn, b_add, b_sub, b_mul, b_lt, b_le, b_gt, b_ge, b_eq, b_ne, u_not, ej21_24]
      apply hK
      clear hK K
      simp only [andThen, leaves]
      refine DWp.ret ?_
      obtain rfl := Option.some.inj hF
      exact ⟨by simp, [(Value.bool true)], by simp [ej21_24], Aj21, rfl, Sj21.pick [] (by decide) rfl⟩
end Go.Proofs.Ytbckijeffiofdaa.AL

/- The walks of functions, each with its Lean function: laws.FnExactCountByStates. No condition. -/
import Derived.Test.YtdbflchpbhkanaaG1
import Derived.Test.YtdbflchpbhkanaaG2
import Derived.Test.YtdbflchpbhkanaaG3
import Derived.Test.YtdbflchpbhkanaaG4
import Derived.Test.YtdbflchpbhkanaaG5
import Derived.Test.YtdbflchpbhkanaaG6
import Derived.Test.YtdbflchpbhkanaaG7
import Derived.Test.YtdbflchpbhkanaaGK1
import Derived.Test.YtdbflchpbhkanaaGK10
import Derived.Test.YtdbflchpbhkanaaGK2
import Derived.Test.YtdbflchpbhkanaaGK4
import Derived.Test.YtdbflchpbhkanaaGK7
import Derived.Test.YtdbflchpbhkanaaGK8
import Derived.Test.YtdbflchpbhkanaaGK9
import Derived.Test.YtdbflchpbhkanaaALD
import Derived.Test.YtdbflchpbhkanaaProg
import Derived.KernelRfl
namespace Go.Proofs.Ytdbflchpbhkanaa.AL
open Go Go.RowKit
set_option linter.unusedVariables false
set_option linter.unusedSimpArgs false
set_option maxRecDepth 4096
attribute [local simp] n_fn b_add b_sub b_mul b_lt b_le b_gt b_ge b_eq b_ne u_not

def F_laws_FnExactCountByStates (fu : Nat) (x0 : Int) : Option (Bool) :=
  bd (F_spec_CountByStates fu x0) fun r1 =>
  bd (F_impl_CountByStates fu x0) fun r2 =>
  bd (
    bd (F_laws_eqIntS fu r2.1 r1.1) fun r3 =>
    bif (bnot r3) then
      some true
    else
      some (bne' r2.2 r1.2)) fun s15 =>
  bif s15 then
    some false
  else
    bd (F_laws_markIntS fu r2.1 1) fun r4 =>
    bd (F_laws_heldIntS fu r4.2 1) fun r5 =>
    bif (ilt r5 0) then
      some false
    else
      bif (ine r5 r4.1) then
        some false
      else
        bd (F_impl_CountByStates fu x0) fun r6 =>
        bd (
          bd (F_laws_eqIntS fu r6.1 r1.1) fun r7 =>
          bif (bnot r7) then
            some true
          else
            some (bne' r6.2 r1.2)) fun s60 =>
        bif s60 then
          some false
        else
          bd (F_laws_heldIntS fu r4.2 1) fun r8 =>
          bif (ilt r8 0) then
            some false
          else
            bif (ine r8 r4.1) then
              some false
            else
              some true
theorem F_laws_FnExactCountByStates_w {fu : Nat} {H : AH}  {x0 : Int} {r : (Bool)}  (hF : F_laws_FnExactCountByStates fu x0 = some r) :
    ACallT Try.prog 4 [(Value.int .i64 x0)] H (fun u G => AgB (Fr H) H G ∧ u = (Value.bool r) ∧ Sep G (Fr H) []) := by
 refine ACallT.of_body (nt := 63) (rs := [.tmp 2]) Try.func4 rfl rfl rfl rfl ?_;have A0 : AgB (Fr H) H H := .refl _ _;have S0 : Sep H (Fr H) [] := .nil;have hB := Fr.up H;unfold F_laws_FnExactCountByStates at hF;refine .sr fun K hK => ?_;simp [];apply hK;clear hK K;obtain ⟨r1, hc1, hF⟩ := bd_some hF;refine .sr fun K hK => ?_;simp [];refine CallD.t (F_spec_CountByStates_w (fu := fu)  hc1) ?_;rintro _ G3 ⟨a6, c2_u0, rfl, S7⟩;have A5 := A0.ext (hB.le A0.1) a6.agree;have S4 : Sep G3 (Fr H) [flat c2_u0 3 (ints r1.1)] := S0.app a6.agree S7 (fun _ h => h) (hB.le A0.1);simp [a6.pre];apply hK;clear hK K;obtain ⟨r2, hc8, hF⟩ := bd_some hF;refine .sr fun K hK => ?_;simp [];refine CallD.t (F_impl_CountByStates_w (fu := fu)  hc8) ?_;rintro _ G10 ⟨a13, c9_u0, rfl, S14⟩;have A12 := A5.ext (hB.le A5.1) a13.agree;have S11 : Sep G10 (Fr H) [flat c2_u0 3 (ints r1.1), flat c9_u0 3 (ints r2.1)] := S4.app a13.agree S14 (fun _ h => h) (hB.le A5.1);simp [a13.pre];apply hK;clear hK K;refine .seq ?_;obtain ⟨s15, hL16, hF⟩ := bd_some hF;refine DWp.seq (DWp.join (fun env G => Sep G (Fr H) [flat c2_u0 3 (ints r1.1), flat c9_u0 3 (ints r2.1)] ∧ AgB (Fr H) H G ∧ env 0 = some (Value.int .i64 x0) ∧ env 3 = some c2_u0 ∧ env 4 = some (Value.bool r1.2) ∧ env 5 = some c9_u0 ∧ env 29 = some (Value.bool s15)) ?_ ?_)
 ·
  obtain ⟨r3, hc18, hL16⟩ := bd_some hL16;refine .region fun K hK => ?_;simp [((S11.sl (k := 1) rfl).tup), ((S11.sl (k := 0) rfl).tup)];refine CallD.t (F_laws_eqIntS_w (fu := fu) (S11.sl (k := 1) rfl) (S11.sl (k := 0) rfl) hc18) ?_;rintro _ G20 ⟨a23, rfl, S24⟩;have A22 := A12.ext (hB.le A12.1) a23.agree;have S21 : Sep G20 (Fr H) [flat c2_u0 3 (ints r1.1), flat c9_u0 3 (ints r2.1)] := S11.app a23.agree S24 (fun _ h => h) (hB.le A12.1);rcases Bool.eq_false_or_eq_true (bnot r3) with hb25 | hb25
  ·replace hL16 := cd_t hb25 hL16;simp [hb25, a23.pre];apply hK;clear hK K;simp only [andThen, leaves];have S26 := S21.pick [0, 1] (by decide) rfl;obtain rfl := Option.some.inj hL16;exact ⟨S26, A22, by simp []⟩
  ·replace hL16 := cd_f hb25 hL16;simp [hb25, a23.pre, b_bne un_4];apply hK;clear hK K;simp only [andThen, leaves];have S27 := S21.pick [0, 1] (by decide) rfl;obtain rfl := Option.some.inj hL16;exact ⟨S27, A22, by simp []⟩
 ·rintro env Gj28 ⟨Sj28, Aj28, ej28_⟩;refine DWp.cond' (t := s15) (by simp [ej28_]) (fun hb29 => ?_) (fun hb29 => ?_)
  ·replace hF := cd_t hb29 hF;refine .sr fun K hK => ?_;simp [ej28_];apply hK;clear hK K;refine DWp.ret ?_;simp only [andThen, leaves];obtain rfl := Option.some.inj hF;exact ⟨by simp, [(Value.bool false)], by simp [ej28_], Aj28, rfl, Sj28.pick [] (by decide) rfl⟩
  ·replace hF := cd_f hb29 hF;refine DWp.skip ?_;simp only [andThen, leaves];refine .sr fun K hK => ?_;simp [ej28_];apply hK;clear hK K;obtain ⟨r4, hc30, hF⟩ := bd_some hF;refine .sr fun K hK => ?_;simp [ej28_, ((Sj28.sl (k := 1) rfl).tup)];have S31 : Sep Gj28 (Fr H) ([flat c9_u0 3 (ints r2.1)] ++ [flat c2_u0 3 (ints r1.1)]) := Sj28.pick [1, 0] (by decide) rfl;obtain ⟨B37, S32, U33, M34, R35, C36⟩ := S31.frame (hB.le Aj28.1);refine CallD.t (F_laws_markIntS_w (fu := fu) U33 S32 hc30) ?_;rintro _ G39 ⟨a42, rfl, S43⟩;have A41 := Aj28.trans (a42.mono M34);have S40 : Sep G39 (Fr H) [flat c9_u0 3 (ints r4.2), flat c2_u0 3 (ints r1.1)] := C36 _ _ a42 S43;simp [ej28_];apply hK;clear hK K;refine .sr fun K hK => ?_;simp [ej28_];apply hK;clear hK K;obtain ⟨r5, hc44, hF⟩ := bd_some hF;refine .sr fun K hK => ?_;simp [ej28_, ((S40.sl (k := 0) rfl).tup)];refine CallD.t (F_laws_heldIntS_w (fu := fu) (S40.sl (k := 0) rfl) hc44) ?_;rintro _ G46 ⟨a49, rfl, S50⟩;have A48 := A41.ext (hB.le A41.1) a49.agree;have S47 : Sep G46 (Fr H) [flat c9_u0 3 (ints r4.2), flat c2_u0 3 (ints r1.1)] := S40.app a49.agree S50 (fun _ h => h) (hB.le A41.1);simp [ej28_, a49.pre];apply hK;clear hK K;refine .seq ?_;refine .sr fun K hK => ?_;simp [ej28_];apply hK;clear hK K;refine DWp.cond' (t := (ilt r5 0)) (by simp [ej28_]) (fun hb51 => ?_) (fun hb51 => ?_)
   ·replace hF := cd_t hb51 hF;refine .sr fun K hK => ?_;simp [ej28_];apply hK;clear hK K;refine DWp.ret ?_;simp only [andThen, leaves];obtain rfl := Option.some.inj hF;exact ⟨by simp, [(Value.bool false)], by simp [ej28_], A48, rfl, S47.pick [] (by decide) rfl⟩
   ·replace hF := cd_f hb51 hF;refine DWp.skip ?_;simp only [andThen, leaves];refine .seq ?_;refine .sr fun K hK => ?_;simp [ej28_];apply hK;clear hK K;refine DWp.cond' (t := (ine r5 r4.1)) (by simp [ej28_]) (fun hb52 => ?_) (fun hb52 => ?_)
    ·replace hF := cd_t hb52 hF;refine .sr fun K hK => ?_;simp [ej28_];apply hK;clear hK K;refine DWp.ret ?_;simp only [andThen, leaves];obtain rfl := Option.some.inj hF;exact ⟨by simp, [(Value.bool false)], by simp [ej28_], A48, rfl, S47.pick [] (by decide) rfl⟩
    ·replace hF := cd_f hb52 hF;refine DWp.skip ?_;simp only [andThen, leaves];obtain ⟨r6, hc53, hF⟩ := bd_some hF;refine .sr fun K hK => ?_;simp [ej28_];refine CallD.t (F_impl_CountByStates_w (fu := fu)  hc53) ?_;rintro _ G55 ⟨a58, c54_u0, rfl, S59⟩;have A57 := A48.ext (hB.le A48.1) a58.agree;have S56 : Sep G55 (Fr H) [flat c9_u0 3 (ints r4.2), flat c2_u0 3 (ints r1.1), flat c54_u0 3 (ints r6.1)] := S47.app a58.agree S59 (fun _ h => h) (hB.le A48.1);simp [ej28_, a58.pre];apply hK;clear hK K;refine .seq ?_;obtain ⟨s60, hL61, hF⟩ := bd_some hF;refine DWp.seq (DWp.join (fun env G => Sep G (Fr H) [flat c9_u0 3 (ints r4.2)] ∧ AgB (Fr H) H G ∧ env 5 = some c9_u0 ∧ env 7 = some (Value.int .i64 r4.1) ∧ env 54 = some (Value.bool s60)) ?_ ?_)
     ·
      obtain ⟨r7, hc63, hL61⟩ := bd_some hL61;refine .region fun K hK => ?_;simp [ej28_, ((S56.sl (k := 2) rfl).tup), ((S56.sl (k := 1) rfl).tup)];refine CallD.t (F_laws_eqIntS_w (fu := fu) (S56.sl (k := 2) rfl) (S56.sl (k := 1) rfl) hc63) ?_;rintro _ G65 ⟨a68, rfl, S69⟩;have A67 := A57.ext (hB.le A57.1) a68.agree;have S66 : Sep G65 (Fr H) [flat c9_u0 3 (ints r4.2), flat c2_u0 3 (ints r1.1), flat c54_u0 3 (ints r6.1)] := S56.app a68.agree S69 (fun _ h => h) (hB.le A57.1);rcases Bool.eq_false_or_eq_true (bnot r7) with hb70 | hb70
      ·replace hL61 := cd_t hb70 hL61;simp [ej28_, hb70, a68.pre];apply hK;clear hK K;simp only [andThen, leaves];have S71 := S66.pick [0] (by decide) rfl;obtain rfl := Option.some.inj hL61;exact ⟨S71, A67, by simp [ej28_]⟩
      ·replace hL61 := cd_f hb70 hL61;simp [ej28_, hb70, a68.pre, b_bne un_4];apply hK;clear hK K;simp only [andThen, leaves];have S72 := S66.pick [0] (by decide) rfl;obtain rfl := Option.some.inj hL61;exact ⟨S72, A67, by simp [ej28_]⟩
     ·rintro env Gj73 ⟨Sj73, Aj73, ej73_⟩;refine DWp.cond' (t := s60) (by simp [ej73_]) (fun hb74 => ?_) (fun hb74 => ?_)
      ·replace hF := cd_t hb74 hF;refine .sr fun K hK => ?_;simp [ej73_];apply hK;clear hK K;refine DWp.ret ?_;simp only [andThen, leaves];obtain rfl := Option.some.inj hF;exact ⟨by simp, [(Value.bool false)], by simp [ej73_], Aj73, rfl, Sj73.pick [] (by decide) rfl⟩
      ·replace hF := cd_f hb74 hF;refine DWp.skip ?_;simp only [andThen, leaves];refine .sr fun K hK => ?_;simp [ej73_];apply hK;clear hK K;obtain ⟨r8, hc75, hF⟩ := bd_some hF;refine .sr fun K hK => ?_;simp [ej73_, ((Sj73.sl (k := 0) rfl).tup)];refine CallD.t (F_laws_heldIntS_w (fu := fu) (Sj73.sl (k := 0) rfl) hc75) ?_;rintro _ G77 ⟨a80, rfl, S81⟩;have A79 := Aj73.ext (hB.le Aj73.1) a80.agree;have S78 : Sep G77 (Fr H) [flat c9_u0 3 (ints r4.2)] := Sj73.app a80.agree S81 (fun _ h => h) (hB.le Aj73.1);simp [ej73_, a80.pre];apply hK;clear hK K;refine .seq ?_;refine .sr fun K hK => ?_;simp [ej73_];apply hK;clear hK K;refine DWp.cond' (t := (ilt r8 0)) (by simp [ej73_]) (fun hb82 => ?_) (fun hb82 => ?_)
       ·replace hF := cd_t hb82 hF;refine .sr fun K hK => ?_;simp [ej73_];apply hK;clear hK K;refine DWp.ret ?_;simp only [andThen, leaves];obtain rfl := Option.some.inj hF;exact ⟨by simp, [(Value.bool false)], by simp [ej73_], A79, rfl, S78.pick [] (by decide) rfl⟩
       ·replace hF := cd_f hb82 hF;refine DWp.skip ?_;simp only [andThen, leaves];refine .seq ?_;refine .sr fun K hK => ?_;simp [ej73_];apply hK;clear hK K;refine DWp.cond' (t := (ine r8 r4.1)) (by simp [ej73_]) (fun hb83 => ?_) (fun hb83 => ?_)
        ·replace hF := cd_t hb83 hF;refine .sr fun K hK => ?_;simp [ej73_];apply hK;clear hK K;refine DWp.ret ?_;simp only [andThen, leaves];obtain rfl := Option.some.inj hF;exact ⟨by simp, [(Value.bool false)], by simp [ej73_], A79, rfl, S78.pick [] (by decide) rfl⟩
        ·replace hF := cd_f hb83 hF;refine DWp.skip ?_;simp only [andThen, leaves];refine .sr fun K hK => ?_;simp [ej73_];apply hK;clear hK K;refine DWp.ret ?_;obtain rfl := Option.some.inj hF;exact ⟨by simp, [(Value.bool true)], by simp [ej73_], A79, rfl, S78.pick [] (by decide) rfl⟩
end Go.Proofs.Ytdbflchpbhkanaa.AL

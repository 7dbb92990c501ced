/- The walks of functions, each with its Lean function: impl.StartState, impl.MeandersByStates, spec.CountByStates, impl.WaysToClose, laws.FnExactMeandersByStates, laws.FnExactWaysToClose. No condition. -/
import Derived.Test.YtdbflchpbhkanaaG1
import Derived.Test.YtdbflchpbhkanaaG2
import Derived.Test.YtdbflchpbhkanaaG3
import Derived.Test.YtdbflchpbhkanaaG4
import Derived.Test.YtdbflchpbhkanaaG5
import Derived.Test.YtdbflchpbhkanaaG6
import Derived.Test.YtdbflchpbhkanaaGK1
import Derived.Test.YtdbflchpbhkanaaGK2
import Derived.Test.YtdbflchpbhkanaaGK4
import Derived.Test.YtdbflchpbhkanaaGK7
import Derived.Test.YtdbflchpbhkanaaGK8
import Derived.Test.YtdbflchpbhkanaaGK9
import Derived.Test.YtdbflchpbhkanaaALD
import Derived.Test.YtdbflchpbhkanaaProg
import Derived.KernelRfl
namespace Go.Proofs.Ytdbflchpbhkanaa.AL
open Go Go.RowKit
set_option linter.unusedVariables false
set_option linter.unusedSimpArgs false
set_option maxRecDepth 4096
attribute [local simp] n_fn b_add b_sub b_mul b_lt b_le b_gt b_ge b_eq b_ne u_not
theorem un_4 : Try.prog.underlying 4 = some .bool := by kernel_rfl
def F_impl_StartState (fu : Nat)  : Option ((List Int × List Int × Int)) :=
  some ([], [], 0)
theorem F_impl_StartState_w {fu : Nat} {H : AH}   {r : ((List Int × List Int × Int))}  (hF : F_impl_StartState fu  = some r) :
    ACallT Try.prog 23 [] H (fun u G => AgB (Fr H) H G ∧ ∃ u0 : Value, ∃ u1 : Value, u = (Value.agg #[u0, u1, (Value.int .i64 r.2.2)]) ∧ Sep G (Fr H) [flat u0 3 (ints r.1), flat u1 3 (ints r.2.1)]) := by
 refine ACallT.of_body (nt := 2) (rs := [.cell 0 34]) Try.func23 rfl rfl rfl rfl ?_;have A0 : AgB (Fr H) H H := .refl _ _;have S0 : Sep H (Fr H) [] := .nil;have hB := Fr.up H;unfold F_impl_StartState at hF;obtain ⟨G2, p4, q5, q7, a6, S1⟩ := S0.allocT (P := Try.prog) (hB.le A0.1) ze_34 rfl;have A3 := A0.ext (hB.le A0.1) a6;replace S1 : Sep G2 (Fr H) [AL.box p4 [(Value.slice none 0 0), (Value.slice none 0 0), (Value.int .i64 0)]] := S1;refine .sr fun K hK => ?_;simp [q5, q7, a6.to_pre];apply hK;clear hK K;obtain ⟨G8, q9, S10, a12⟩ := S1.putAgg (P := Try.prog) (k := 0) (xs := [(Value.slice none 0 0), (Value.slice none 0 0), (Value.int .i64 0)]) rfl (hB.le A3.1) sz_34 rfl rfl;have A11 := A3.trans a12;replace S10 : Sep G8 (Fr H) [AL.box p4 [(Value.slice none 0 0), (Value.slice none 0 0), (Value.int .i64 0)]] := S10;refine .sr fun K hK => ?_;simp [build0 (cs := [(Value.slice none 0 0), (Value.slice none 0 0), (Value.int .i64 0)]) pl_34 rfl rfl, q9];apply hK;clear hK K;refine DWp.ret ?_;have q13 := S10.loadAgg (P := Try.prog) (k := 0) rfl sz_34 ag_34 rfl;have S14 := S10.nilItem (hB.le A11.1) 3;have S15 := S14.nilItem (hB.le A11.1) 3;obtain rfl := Option.some.inj hF;exact ⟨by simp, [(Value.agg #[(Value.slice none 0 0), (Value.slice none 0 0), (Value.int .i64 0)])], by simp [q13], A11, (Value.slice none 0 0), (Value.slice none 0 0), rfl, S15.pick [1, 2] (by decide) rfl⟩
def F_impl_MeandersByStates (fu : Nat) (x0 : Int) : Option (Int × Bool) :=
  bd (F_impl_in fu x0 1 6) fun r1 =>
  bif (bnot r1) then
    some (0, false)
  else
    bd (F_impl_StartState fu ) fun r2 =>
    bd (F_impl_closings fu r2.1 r2.2.1 r2.2.2 (imul .i64 2 x0)) fun r3 =>
    gd (inL r3 1) (
    some ((gat 0 r3 1), true))
theorem F_impl_MeandersByStates_w {fu : Nat} {H : AH}  {x0 : Int} {r : (Int × Bool)}  (hF : F_impl_MeandersByStates fu x0 = some r) :
    ACallT Try.prog 7 [(Value.int .i64 x0)] H (fun u G => AgB (Fr H) H G ∧ u = (Value.tuple #[(Value.int .i64 r.1), (Value.bool r.2)]) ∧ Sep G (Fr H) []) := by
 refine ACallT.of_body (nt := 13) (rs := [.tmp 2, .tmp 3]) Try.func7 rfl rfl rfl rfl ?_;have A0 : AgB (Fr H) H H := .refl _ _;have S0 : Sep H (Fr H) [] := .nil;have hB := Fr.up H;unfold F_impl_MeandersByStates at hF;refine .sr fun K hK => ?_;simp [];apply hK;clear hK K;refine .seq ?_;obtain ⟨r1, hc1, hF⟩ := bd_some hF;refine .sr fun K hK => ?_;simp [];refine CallD.t (F_impl_in_w (fu := fu)  hc1) ?_;rintro _ G3 ⟨a6, rfl, S7⟩;have A5 := A0.ext (hB.le A0.1) a6.agree;have S4 : Sep G3 (Fr H) [] := S0.app a6.agree S7 (fun _ h => h) (hB.le A0.1);simp [a6.pre];apply hK;clear hK K;refine DWp.cond' (t := (bnot r1)) (by simp []) (fun hb8 => ?_) (fun hb8 => ?_)
 ·replace hF := cd_t hb8 hF;refine .sr fun K hK => ?_;simp [];apply hK;clear hK K;refine DWp.ret ?_;simp only [andThen, leaves];obtain rfl := Option.some.inj hF;exact ⟨by simp, [(Value.int .i64 0), (Value.bool false)], by simp [], A5, rfl, S4.pick [] (by decide) rfl⟩
 ·replace hF := cd_f hb8 hF;refine DWp.skip ?_;simp only [andThen, leaves];obtain ⟨r2, hc9, hF⟩ := bd_some hF;refine .sr fun K hK => ?_;simp [];refine CallD.t (F_impl_StartState_w (fu := fu)  hc9) ?_;rintro _ G11 ⟨a14, c10_u0, c10_u1, rfl, S15⟩;have A13 := A5.ext (hB.le A5.1) a14.agree;have S12 : Sep G11 (Fr H) [flat c10_u0 3 (ints r2.1), flat c10_u1 3 (ints r2.2.1)] := S4.app a14.agree S15 (fun _ h => h) (hB.le A5.1);obtain ⟨r3, hc16, hF⟩ := bd_some hF;simp [a14.pre, ((S12.sl (k := 0) rfl).tup), ((S12.sl (k := 1) rfl).tup)];refine CallD.t (F_impl_closings_w (fu := fu) (S12.sl (k := 0) rfl) (S12.sl (k := 1) rfl) hc16) ?_;rintro c17_u0 G18 ⟨a21, _, rfl, S22⟩;have A20 := A13.ext (hB.le A13.1) a21.agree;have S19 : Sep G18 (Fr H) [flat c10_u0 3 (ints r2.1), flat c10_u1 3 (ints r2.2.1), flat c17_u0 3 (ints r3)] := S12.app a21.agree S22 (fun _ h => h) (hB.le A13.1);obtain ⟨g23, hF⟩ := gd_some hF;have q24 := idxG (P := Try.prog) (kk := .i64) (S19.sl (k := 2) rfl) el_25 sz_3 g23;replace q24 : aIndexAddr Try.prog G18 25 c17_u0 (Value.int .i64 1) = some (elP c17_u0 1) := q24;have q25 := loadG (P := Try.prog) (S19.sl (k := 2) rfl) sz_3 ag_3 g23 0;replace q25 : aLoad Try.prog G18 3 (elP c17_u0 1) = some (Value.int .i64 (gat 0 r3 1)) := q25;simp [a14.pre, a21.pre, q24, q25];apply hK;clear hK K;refine DWp.ret ?_;obtain rfl := Option.some.inj hF;exact ⟨by simp, [(Value.int .i64 (gat 0 r3 1)), (Value.bool true)], by simp [], A20, rfl, S19.pick [] (by decide) rfl⟩
def F_laws_FnExactMeandersByStates (fu : Nat) (x0 : Int) : Option (Bool) :=
  bd (F_spec_MeandersByStates fu x0) fun r1 =>
  bd (F_impl_MeandersByStates fu x0) fun r2 =>
  bd (
    bif (ine r2.1 r1.1) then
      some true
    else
      some (bne' r2.2 r1.2)) fun s15 =>
  bif s15 then
    some false
  else
    some true
theorem F_laws_FnExactMeandersByStates_w {fu : Nat} {H : AH}  {x0 : Int} {r : (Bool)}  (hF : F_laws_FnExactMeandersByStates fu x0 = some r) :
    ACallT Try.prog 3 [(Value.int .i64 x0)] H (fun u G => AgB (Fr H) H G ∧ u = (Value.bool r) ∧ Sep G (Fr H) []) := by
 refine ACallT.of_body (nt := 25) (rs := [.tmp 2]) Try.func3 rfl rfl rfl rfl ?_;have A0 : AgB (Fr H) H H := .refl _ _;have S0 : Sep H (Fr H) [] := .nil;have hB := Fr.up H;unfold F_laws_FnExactMeandersByStates at hF;refine .sr fun K hK => ?_;simp [];apply hK;clear hK K;obtain ⟨r1, hc1, hF⟩ := bd_some hF;refine .sr fun K hK => ?_;simp [];refine CallD.t (F_spec_MeandersByStates_w (fu := fu)  hc1) ?_;rintro _ G3 ⟨a6, rfl, S7⟩;have A5 := A0.ext (hB.le A0.1) a6.agree;have S4 : Sep G3 (Fr H) [] := S0.app a6.agree S7 (fun _ h => h) (hB.le A0.1);simp [a6.pre];apply hK;clear hK K;obtain ⟨r2, hc8, hF⟩ := bd_some hF;refine .sr fun K hK => ?_;simp [];refine CallD.t (F_impl_MeandersByStates_w (fu := fu)  hc8) ?_;rintro _ G10 ⟨a13, rfl, S14⟩;have A12 := A5.ext (hB.le A5.1) a13.agree;have S11 : Sep G10 (Fr H) [] := S4.app a13.agree S14 (fun _ h => h) (hB.le A5.1);simp [a13.pre];apply hK;clear hK K;refine .seq ?_;obtain ⟨s15, hL16, hF⟩ := bd_some hF;refine DWp.seq (DWp.join (fun env G => Sep G (Fr H) [] ∧ AgB (Fr H) H G ∧ env 24 = some (Value.bool s15)) ?_ ?_)
 ·
  rcases Bool.eq_false_or_eq_true (ine r2.1 r1.1) with hb18 | hb18
  ·replace hL16 := cd_t hb18 hL16;refine .region fun K hK => ?_;simp [hb18];apply hK;clear hK K;simp only [andThen, leaves];have S19 := S11.pick [] (by decide) rfl;obtain rfl := Option.some.inj hL16;exact ⟨S19, A12, by simp []⟩
  ·replace hL16 := cd_f hb18 hL16;refine .region fun K hK => ?_;simp [hb18, b_bne un_4];apply hK;clear hK K;simp only [andThen, leaves];have S20 := S11.pick [] (by decide) rfl;obtain rfl := Option.some.inj hL16;exact ⟨S20, A12, by simp []⟩
 ·rintro env Gj21 ⟨Sj21, Aj21, ej21_⟩;refine DWp.cond' (t := s15) (by simp [ej21_]) (fun hb22 => ?_) (fun hb22 => ?_)
  ·replace hF := cd_t hb22 hF;refine .sr fun K hK => ?_;simp [ej21_];apply hK;clear hK K;refine DWp.ret ?_;simp only [andThen, leaves];obtain rfl := Option.some.inj hF;exact ⟨by simp, [(Value.bool false)], by simp [ej21_], Aj21, rfl, Sj21.pick [] (by decide) rfl⟩
  ·replace hF := cd_f hb22 hF;refine DWp.skip ?_;simp only [andThen, leaves];refine .sr fun K hK => ?_;simp [ej21_];apply hK;clear hK K;refine DWp.ret ?_;obtain rfl := Option.some.inj hF;exact ⟨by simp, [(Value.bool true)], by simp [ej21_], Aj21, rfl, Sj21.pick [] (by decide) rfl⟩
end Go.Proofs.Ytdbflchpbhkanaa.AL

/- The walks of functions, each with its Lean function: impl.StartState, impl.MeandersByStates, spec.CountByStates, impl.WaysToClose, laws.FnExactMeandersByStates, laws.FnExactWaysToClose. No condition. -/
import Derived.Test.YtdbflchpbhkanaaG1
import Derived.Test.YtdbflchpbhkanaaG2
import Derived.Test.YtdbflchpbhkanaaG3
import Derived.Test.YtdbflchpbhkanaaG4
import Derived.Test.YtdbflchpbhkanaaG5
import Derived.Test.YtdbflchpbhkanaaG6
import Derived.Test.YtdbflchpbhkanaaGK1
import Derived.Test.YtdbflchpbhkanaaGK2
import Derived.Test.YtdbflchpbhkanaaGK4
import Derived.Test.YtdbflchpbhkanaaGK7
import Derived.Test.YtdbflchpbhkanaaGK8
import Derived.Test.YtdbflchpbhkanaaGK9
import Derived.Test.YtdbflchpbhkanaaALD
import Derived.Test.YtdbflchpbhkanaaProg
import Derived.KernelRfl
namespace Go.Proofs.Ytdbflchpbhkanaa.AL
open Go Go.RowKit
set_option linter.unusedVariables false
set_option linter.unusedSimpArgs false
set_option maxRecDepth 4096
attribute [local simp] n_fn b_add b_sub b_mul b_lt b_le b_gt b_ge b_eq b_ne u_not
theorem un_4 : Try.prog.underlying 4 = some .bool := by kernel_rfl
def F_impl_StartState (fu : Nat)  : Option ((List Int × List Int × Int)) :=
  some ([], [], 0)
theorem F_impl_StartState_w {fu : Nat} {H : AH}   {r : ((List Int × List Int × Int))}  (hF : F_impl_StartState fu  = some r) :
    ACallT Try.prog 23 [] H (fun u G => AgB (Fr H) H G ∧ ∃ u0 : Value, ∃ u1 : Value, u = (Value.agg #[u0, u1, (Value.int .i64 r.2.2)]) ∧ Sep G (Fr H) [flat u0 3 (ints r.1), flat u1 3 (ints r.2.1)]) := by
 refine ACallT.of_body (nt := 2) (rs := [.cell 0 34]) Try.func23 rfl rfl rfl rfl ?_;have A0 : AgB (Fr H) H H := .refl _ _;have S0 : Sep H (Fr H) [] := .nil;have hB := Fr.up H;unfold F_impl_StartState at hF;obtain ⟨G2, p4, q5, q7, a6, S1⟩ := S0.allocT (P := Try.prog) (hB.le A0.1) ze_34 rfl;have A3 := A0.ext (hB.le A0.1) a6;replace S1 : Sep G2 (Fr H) [AL.box p4 [(Value.slice none 0 0), (Value.slice none 0 0), (Value.int .i64 0)]] := S1;refine .sr fun K hK => ?_;simp [q5, q7, a6.to_pre];apply hK;clear hK K;obtain ⟨G8, q9, S10, a12⟩ := S1.putAgg (P := Try.prog) (k := 0) (xs := [(Value.slice none 0 0), (Value.slice none 0 0), (Value.int .i64 0)]) rfl (hB.le A3.1) sz_34 rfl rfl;have A11 := A3.trans a12;replace S10 : Sep G8 (Fr H) [AL.box p4 [(Value.slice none 0 0), (Value.slice none 0 0), (Value.int .i64 0)]] := S10;refine .sr fun K hK => ?_;simp [build0 (cs := [(Value.slice none 0 0), (Value.slice none 0 0), (Value.int .i64 0)]) pl_34 rfl rfl, q9];apply hK;clear hK K;refine DWp.ret ?_;have q13 := S10.loadAgg (P := Try.prog) (k := 0) rfl sz_34 ag_34 rfl;have S14 := S10.nilItem (hB.le A11.1) 3;have S15 := S14.nilItem (hB.le A11.1) 3;obtain rfl := Option.some.inj hF;exact ⟨by simp, [(Value.agg #[(Value.slice none 0 0), (Value.slice none 0 0), (Value.int .i64 0)])], by simp [q13], A11, (Value.slice none 0 0), (Value.slice none 0 0), rfl, S15.pick [1, 2] (by decide) rfl⟩
def F_spec_CountByStates (fu : Nat) (x0 : Int) : Option (List Int × Bool) :=
  bd (F_spec_l1In fu x0 0 6) fun r1 =>
  bif (bnot r1) then
    some ([], false)
  else
    bd (F_spec_stBy fu x0) fun r2 =>
    some (r2, true)
theorem F_spec_CountByStates_w {fu : Nat} {H : AH}  {x0 : Int} {r : (List Int × Bool)}  (hF : F_spec_CountByStates fu x0 = some r) :
    ACallT Try.prog 8 [(Value.int .i64 x0)] H (fun u G => AgB (Fr H) H G ∧ ∃ u0 : Value, u = (Value.tuple #[u0, (Value.bool r.2)]) ∧ Sep G (Fr H) [flat u0 3 (ints r.1)]) := by
 refine ACallT.of_body (nt := 9) (rs := [.tmp 2, .tmp 3]) Try.func8 rfl rfl rfl rfl ?_;have A0 : AgB (Fr H) H H := .refl _ _;have S0 : Sep H (Fr H) [] := .nil;have hB := Fr.up H;unfold F_spec_CountByStates at hF;refine .sr fun K hK => ?_;simp [];apply hK;clear hK K;refine .seq ?_;obtain ⟨r1, hc1, hF⟩ := bd_some hF;refine .sr fun K hK => ?_;simp [];refine CallD.t (F_spec_l1In_w (fu := fu)  hc1) ?_;rintro _ G3 ⟨a6, rfl, S7⟩;have A5 := A0.ext (hB.le A0.1) a6.agree;have S4 : Sep G3 (Fr H) [] := S0.app a6.agree S7 (fun _ h => h) (hB.le A0.1);simp [a6.pre];apply hK;clear hK K;refine DWp.cond' (t := (bnot r1)) (by simp []) (fun hb8 => ?_) (fun hb8 => ?_)
 ·replace hF := cd_t hb8 hF;refine .sr fun K hK => ?_;simp [];apply hK;clear hK K;refine DWp.ret ?_;simp only [andThen, leaves];have S9 := S4.nilItem (hB.le A5.1) 3;obtain rfl := Option.some.inj hF;exact ⟨by simp, [(Value.slice none 0 0), (Value.bool false)], by simp [], A5, (Value.slice none 0 0), rfl, S9.pick [0] (by decide) rfl⟩
 ·replace hF := cd_f hb8 hF;refine DWp.skip ?_;simp only [andThen, leaves];obtain ⟨r2, hc10, hF⟩ := bd_some hF;refine .sr fun K hK => ?_;simp [];refine CallD.t (F_spec_stBy_w (fu := fu)  hc10) ?_;rintro c11_u0 G12 ⟨a15, _, rfl, S16⟩;have A14 := A5.ext (hB.le A5.1) a15.agree;have S13 : Sep G12 (Fr H) [flat c11_u0 3 (ints r2)] := S4.app a15.agree S16 (fun _ h => h) (hB.le A5.1);simp [a15.pre];apply hK;clear hK K;refine DWp.ret ?_;obtain rfl := Option.some.inj hF;exact ⟨by simp, [c11_u0, (Value.bool true)], by simp [((S13.sl (k := 0) rfl).tup)], A14, c11_u0, rfl, S13.pick [0] (by decide) rfl⟩
end Go.Proofs.Ytdbflchpbhkanaa.AL

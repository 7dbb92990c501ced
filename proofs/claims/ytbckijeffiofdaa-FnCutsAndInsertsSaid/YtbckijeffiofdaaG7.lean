/- The walks of functions, each with its Lean function: impl.Meander).outside$1, impl.Meander).outside, impl.Meander).pieces, impl.CountByPieces, impl.Meander).isSimple, impl.CountSimple$1, impl.CountSimple, impl.isArches, impl.CountSystems, laws.ySum. No condition. -/
import Derived.Test.YtbckijeffiofdaaG1
import Derived.Test.YtbckijeffiofdaaG2
import Derived.Test.YtbckijeffiofdaaG3
import Derived.Test.YtbckijeffiofdaaG4
import Derived.Test.YtbckijeffiofdaaG5
import Derived.Test.YtbckijeffiofdaaG6
import Derived.Test.YtbckijeffiofdaaALD
import Derived.Test.YtbckijeffiofdaaProg
import Derived.KernelRfl
namespace Go.Proofs.Ytbckijeffiofdaa.AL
open Go Go.RowKit
set_option linter.unusedVariables false
set_option linter.unusedSimpArgs false
set_option maxRecDepth 4096
attribute [local simp] n_fn b_add b_sub b_mul b_lt b_le b_gt b_ge b_eq b_ne u_not

def F_impl_Meander_outside_1 (fu : Nat) (x0 : Int) (x1 : Int) (x2 : Int) : Option (Bool) :=
  bd (F_impl_in fu x0 x1 x2) fun r1 =>
  some (bnot r1)
theorem F_impl_Meander_outside_1_w {fu : Nat} {H : AH} {p1 : Value} {p2 : Value} {x0 : Int} {x1 : Int} {x2 : Int} {r : (Bool)} (hp1 : Bx H p1 [(Value.int .i64 x1)]) (hp2 : Bx H p2 [(Value.int .i64 x2)]) (hF : F_impl_Meander_outside_1 fu x0 x1 x2 = some r) :
    ACallT Try.prog 139 [(Value.int .i64 x0), p1, p2] H (fun u G => AgB (Fr H) H G ∧ u = (Value.bool r) ∧ Sep G (Fr H) []) := by
 refine ACallT.of_body (nt := 10) (rs := [.tmp 4]) Try.func139 rfl rfl rfl rfl ?_;have A0 : AgB (Fr H) H H := .refl _ _;have S0 : Sep H (Fr H) [] := .nil;have hB := Fr.up H;unfold F_impl_Meander_outside_1 at hF;refine .sr fun K hK => ?_;simp [];apply hK;clear hK K;have q1 := (hp1.agree A0.agree).load0 (P := Try.prog) sz_3 ag_3;have q2 := (hp2.agree A0.agree).load0 (P := Try.prog) sz_3 ag_3;obtain ⟨r1, hc3, hF⟩ := bd_some hF;refine .sr fun K hK => ?_;simp [q1, q2];refine CallD.t (F_impl_in_w (fu := fu)  hc3) ?_;rintro _ G5 ⟨a8, rfl, S9⟩;have A7 := A0.ext (hB.le A0.1) a8.agree;have S6 : Sep G5 (Fr H) [] := S0.app a8.agree S9 (fun _ h => h) (hB.le A0.1);simp [q1, q2, a8.pre];apply hK;clear hK K;refine DWp.ret ?_;obtain rfl := Option.some.inj hF;exact ⟨by simp, [(Value.bool (bnot r1))], by simp [], A7, rfl, S6.pick [] (by decide) rfl⟩
def F_impl_Meander_outside (fu : Nat) (x0_0 : List Int) (x0_1 : List Int) (x1 : Int) (x2 : Int) : Option ((List Int × List Int)) :=
  bd (F_impl_Meander_kept fu x0_0 x0_1 (fun y0 => F_impl_Meander_outside_1 fu y0 x1 x2)) fun r1 =>
  some (r1.1, r1.2)
theorem F_impl_Meander_outside_w {fu : Nat} {H : AH} {v0_0 : Value} {v0_1 : Value} {x0_0 : List Int} {x0_1 : List Int} {x1 : Int} {x2 : Int} {r : ((List Int × List Int))} (hx0_0 : Sl H v0_0 (ints x0_0)) (hx0_1 : Sl H v0_1 (ints x0_1)) (hF : F_impl_Meander_outside fu x0_0 x0_1 x1 x2 = some r) :
    ACallT Try.prog 105 [(Value.agg #[v0_0, v0_1]), (Value.int .i64 x1), (Value.int .i64 x2)] H (fun u G => AgB (Fr H) H G ∧ ∃ u0 : Value, ∃ u1 : Value, u = (Value.agg #[u0, u1]) ∧ Sep G (Fr H) [flat u0 3 (ints r.1), flat u1 3 (ints r.2)]) := by
 refine ACallT.of_body (nt := 10) (rs := [.cell 6 28]) Try.func105 rfl rfl rfl rfl ?_;have A0 : AgB (Fr H) H H := .refl _ _;have S0 : Sep H (Fr H) [] := .nil;have hB := Fr.up H;unfold F_impl_Meander_outside at hF;obtain ⟨G2, p4, q5, q6, a7, S1⟩ := S0.boxT (hB.le A0.1) 28 [v0_0, v0_1];have A3 := A0.ext (hB.le A0.1) a7;replace S1 : Sep G2 (Fr H) [AL.box p4 [v0_0, v0_1]] := S1;obtain ⟨G9, p11, q12, q13, a14, S8⟩ := S1.boxT (hB.le A3.1) 3 [(Value.int .i64 x1)];have A10 := A3.ext (hB.le A3.1) a14;replace S8 : Sep G9 (Fr H) [AL.box p4 [v0_0, v0_1], AL.box p11 [(Value.int .i64 x1)]] := S8;obtain ⟨G16, p18, q19, q20, a21, S15⟩ := S8.boxT (hB.le A10.1) 3 [(Value.int .i64 x2)];have A17 := A10.ext (hB.le A10.1) a21;replace S15 : Sep G16 (Fr H) [AL.box p4 [v0_0, v0_1], AL.box p11 [(Value.int .i64 x1)], AL.box p18 [(Value.int .i64 x2)]] := S15;obtain ⟨G23, p25, q26, q28, a27, S22⟩ := S15.allocT (P := Try.prog) (hB.le A17.1) ze_28 rfl;have A24 := A17.ext (hB.le A17.1) a27;replace S22 : Sep G23 (Fr H) [AL.box p4 [v0_0, v0_1], AL.box p11 [(Value.int .i64 x1)], AL.box p18 [(Value.int .i64 x2)], AL.box p25 [(Value.slice none 0 0), (Value.slice none 0 0)]] := S22;refine .sr fun K hK => ?_;simp [q5, q6, a7.to_pre, cells_agg, q12, q13, a14.to_pre, cells_int, q19, q20, a21.to_pre, q26, q28, a27.to_pre];apply hK;clear hK K;have q29 := S22.loadAgg (P := Try.prog) (k := 0) rfl sz_28 ag_28 rfl;have hz29_0 := (S22.bxT (k := 1) rfl);have hz29_1 := (S22.bxT (k := 2) rfl);obtain ⟨r1, hc31, hF⟩ := bd_some hF;refine .sr fun K hK => ?_;simp [q29, (S22.flatT (k := 1) rfl), (S22.flatT (k := 2) rfl), ((hx0_0.agree A24.agree).tup), ((hx0_1.agree A24.agree).tup), (S22.ptup (k := 1) rfl), (S22.ptup (k := 2) rfl)]
 refine CallD.t (F_impl_Meander_kept_w (fu := fu) (hx0_0.agree A24.agree) (hx0_1.agree A24.agree) (fun G_ a_ y0 q_ hq_ => F_impl_Meander_outside_1_w (fu := fu) (hz29_0.agree a_.agree) (hz29_1.agree a_.agree) hq_) hc31) ?_;rintro _ G33 ⟨a36, c32_u0, c32_u1, rfl, S37⟩;have A35 := A24.ext (hB.le A24.1) a36.agree;have S34 : Sep G33 (Fr H) [AL.box p4 [v0_0, v0_1], AL.box p11 [(Value.int .i64 x1)], AL.box p18 [(Value.int .i64 x2)], AL.box p25 [(Value.slice none 0 0), (Value.slice none 0 0)], flat c32_u0 3 (ints r1.1), flat c32_u1 3 (ints r1.2)] := S22.app a36.agree S37 (fun _ h => h) (hB.le A24.1);obtain ⟨G38, q39, S40, a42⟩ := S34.putAgg (P := Try.prog) (k := 3) (xs := [c32_u0, c32_u1]) rfl (hB.le A35.1) sz_28 rfl rfl;have A41 := A35.trans a42;replace S40 : Sep G38 (Fr H) [AL.box p4 [v0_0, v0_1], AL.box p11 [(Value.int .i64 x1)], AL.box p18 [(Value.int .i64 x2)], AL.box p25 [c32_u0, c32_u1], flat c32_u0 3 (ints r1.1), flat c32_u1 3 (ints r1.2)] := S40;simp [q29, (S22.flatT (k := 1) rfl), (S22.flatT (k := 2) rfl), a36.pre, q39];apply hK;clear hK K;refine DWp.ret ?_;have q43 := S40.loadAgg (P := Try.prog) (k := 3) rfl sz_28 ag_28 rfl;obtain rfl := Option.some.inj hF;exact ⟨by simp, [(Value.agg #[c32_u0, c32_u1])], by simp [q43, ((S40.sl (k := 4) rfl).tup), ((S40.sl (k := 5) rfl).tup)], A41, c32_u0, c32_u1, rfl, S40.pick [4, 5] (by decide) rfl⟩
end Go.Proofs.Ytbckijeffiofdaa.AL

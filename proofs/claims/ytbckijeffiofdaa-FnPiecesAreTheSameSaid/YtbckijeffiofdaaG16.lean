/- The walks of functions, each with its Lean function: spec.DrawInsertPair, spec.InsertPair, spec.DrawClosedStretches, impl.ClosedStretches, spec.ClosedStretches, impl.ShortestClosed, spec.ShortestClosed, spec.IsWhole, laws.yRows, laws.FnCutsAndInserts. No condition. -/
import Derived.Test.YtbckijeffiofdaaG1
import Derived.Test.YtbckijeffiofdaaG10
import Derived.Test.YtbckijeffiofdaaG11
import Derived.Test.YtbckijeffiofdaaG12
import Derived.Test.YtbckijeffiofdaaG13
import Derived.Test.YtbckijeffiofdaaG14
import Derived.Test.YtbckijeffiofdaaG15
import Derived.Test.YtbckijeffiofdaaG2
import Derived.Test.YtbckijeffiofdaaG3
import Derived.Test.YtbckijeffiofdaaG4
import Derived.Test.YtbckijeffiofdaaG5
import Derived.Test.YtbckijeffiofdaaG6
import Derived.Test.YtbckijeffiofdaaG7
import Derived.Test.YtbckijeffiofdaaG8
import Derived.Test.YtbckijeffiofdaaG9
import Derived.Test.YtbckijeffiofdaaALD
import Derived.Test.YtbckijeffiofdaaProg
import Derived.KernelRfl
namespace Go.Proofs.Ytbckijeffiofdaa.AL
open Go Go.RowKit
set_option linter.unusedVariables false
set_option linter.unusedSimpArgs false
set_option maxRecDepth 4096
attribute [local simp] n_fn b_add b_sub b_mul b_lt b_le b_gt b_ge b_eq b_ne u_not

def F_spec_DrawClosedStretches (fu : Nat) (x0 : List Int) : Option ((List Int × List Int)) :=
  bd (F_spec_l1Cur_patched fu x0 0 0) fun r1 =>
  some (r1.1.1, r1.1.2)
theorem F_spec_DrawClosedStretches_w {fu : Nat} {H : AH} {v0 : Value} {x0 : List Int} {r : ((List Int × List Int))} (hx0 : Sl H v0 (u8s x0)) (hF : F_spec_DrawClosedStretches fu x0 = some r) :
    ACallT Try.prog 73 [v0] H (fun u G => AgB (Fr H) H G ∧ ∃ u0 : Value, ∃ u1 : Value, u = (Value.agg #[u0, u1]) ∧ Sep G (Fr H) [flat u0 3 (ints r.1), flat u1 3 (ints r.2)]) := by
 refine ACallT.of_body (nt := 9) (rs := [.cell 2 28]) Try.func73 rfl rfl rfl rfl ?_;have A0 : AgB (Fr H) H H := .refl _ _;have S0 : Sep H (Fr H) [] := .nil;have hB := Fr.up H;unfold F_spec_DrawClosedStretches at hF;obtain ⟨G2, p4, q5, q7, a6, S1⟩ := S0.allocT (P := Try.prog) (hB.le A0.1) ze_28 rfl;have A3 := A0.ext (hB.le A0.1) a6;replace S1 : Sep G2 (Fr H) [AL.box p4 [(Value.slice none 0 0), (Value.slice none 0 0)]] := S1;refine .sr fun K hK => ?_;simp [q5, q7, a6.to_pre];apply hK;clear hK K;obtain ⟨G9, p11, q12, q13, a14, S8⟩ := S1.boxT (hB.le A3.1) 101 [v0, (Value.int .i64 0), (Value.int .u64 0)];have A10 := A3.ext (hB.le A3.1) a14;replace S8 : Sep G9 (Fr H) [AL.box p4 [(Value.slice none 0 0), (Value.slice none 0 0)], AL.box p11 [v0, (Value.int .i64 0), (Value.int .u64 0)]] := S8;refine .sr fun K hK => ?_;simp [bv_101 ((hx0.agree A3.agree).tup) ((hx0.agree A3.agree).one), q12, q13, a14.to_pre, cells_agg];apply hK;clear hK K;obtain ⟨r1, hc15, hF⟩ := bd_some hF;refine .sr fun K hK => ?_;simp [(S8.ptup (k := 1) rfl)];have S16 : Sep G9 (Fr H) ([AL.box p11 [v0, (Value.int .i64 0), (Value.int .u64 0)]] ++ [AL.box p4 [(Value.slice none 0 0), (Value.slice none 0 0)]]) := S8.pick [1, 0] (by decide) rfl;obtain ⟨B22, S17, U18, M19, R20, C21⟩ := S16.frame (hB.le A10.1);refine CallD.t (F_spec_l1Cur_patched_w (fu := fu) U18 S17 (hx0.agree A10.agree) (fun i_ hi_ hb_ => Nat.not_le.2 (hx0.id_lt hi_) (M19 i_ hb_)) hc15) ?_;rintro _ G24 ⟨a27, c23_u0, c23_u1, rfl, S28⟩;have A26 := A10.trans (a27.mono M19);have S25 : Sep G24 (Fr H) [flat c23_u0 3 (ints r1.1.1), flat c23_u1 3 (ints r1.1.2), AL.box p11 [v0, (Value.int .i64 r1.2.1), (Value.int .u64 r1.2.2)], AL.box p4 [(Value.slice none 0 0), (Value.slice none 0 0)]] := C21 _ _ a27 S28
 obtain ⟨G29, q30, S31, a33⟩ := S25.putAgg (P := Try.prog) (k := 3) (xs := [c23_u0, c23_u1]) rfl (hB.le A26.1) sz_28 rfl rfl;have A32 := A26.trans a33;replace S31 : Sep G29 (Fr H) [flat c23_u0 3 (ints r1.1.1), flat c23_u1 3 (ints r1.1.2), AL.box p11 [v0, (Value.int .i64 r1.2.1), (Value.int .u64 r1.2.2)], AL.box p4 [c23_u0, c23_u1]] := S31;simp [q30];apply hK;clear hK K;refine DWp.ret ?_;have q34 := S31.loadAgg (P := Try.prog) (k := 3) rfl sz_28 ag_28 rfl;obtain rfl := Option.some.inj hF;exact ⟨by simp, [(Value.agg #[c23_u0, c23_u1])], by simp [q34, ((S31.sl (k := 0) rfl).tup), ((S31.sl (k := 1) rfl).tup)], A32, c23_u0, c23_u1, rfl, S31.pick [0, 1] (by decide) rfl⟩
end Go.Proofs.Ytbckijeffiofdaa.AL

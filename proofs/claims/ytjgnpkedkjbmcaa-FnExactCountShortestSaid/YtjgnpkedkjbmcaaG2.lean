/- The walks of functions, each with its Lean function: impl.Meander).curves, impl.Meander).components, impl.distance, impl.covered, slices.Clone[[]int,int], impl.joined, bits.Len32, bits.Len64, bits.Len, slices.insertionSortCmpFunc[[]int]. No condition. -/
import Derived.Test.YtjgnpkedkjbmcaaG1
import Derived.Test.YtjgnpkedkjbmcaaALD
import Derived.Test.YtjgnpkedkjbmcaaProg
import Derived.KernelRfl
namespace Go.Proofs.Ytjgnpkedkjbmcaa.AL
open Go Go.RowKit
set_option linter.unusedVariables false
set_option linter.unusedSimpArgs false
set_option maxRecDepth 4096
attribute [local simp] n_fn b_add b_sub b_mul b_lt b_le b_gt b_ge b_eq b_ne u_not
theorem ag_35 : aggT Try.prog 35 = some true := by kernel_rfl
theorem el_30 : elemT Try.prog 30 = some 22 := by kernel_rfl
theorem sz_35 : sizeT Try.prog 35 = some 2 := by kernel_rfl
theorem un_5 : Try.prog.underlying 5 = some (.int .u8) := by kernel_rfl
theorem un_9 : Try.prog.underlying 9 = some .string := by kernel_rfl
theorem us_22 : Try.prog.underlying 22 = some (.slice 3) := by kernel_rfl
def F_impl_Meander_curves_L2 (fu : Nat) (k2_0 : List Int) (k2_1 : List Int) (k2_2 : Int) (k2_3 : Int) (k2_4 : Int) (k2_5 : List Int) (k2_6 : Int) : Nat → List Int → Int → Option (List Int × Int)
  | 0, _, _ => none
  | n + 1, l2_1, y2_28 =>
    bif (ilt y2_28 k2_6) then
      gd (inL k2_5 y2_28) (
      gd (inL l2_1 (gat 0 k2_5 y2_28)) (
      F_impl_Meander_curves_L2 fu k2_0 k2_1 k2_2 k2_3 k2_4 k2_5 k2_6 n (lset l2_1 (gat 0 k2_5 y2_28) k2_2) (iadd .i64 y2_28 1)))
    else
      some (l2_1, y2_28)
def F_impl_Meander_curves_L1 (fu : Nat) (k1_0 : List Int) (k1_1 : List Int) (k1_2 : Int) : Nat → List Int → Int → Int → Option (List Int × Int × Int)
  | 0, _, _, _ => none
  | n + 1, l1_1, y1_5, y1_16 =>
    bif (ilt y1_16 k1_2) then
      gd (inL l1_1 y1_16) (
      bif (ile 0 (gat 0 l1_1 y1_16)) then
        F_impl_Meander_curves_L1 fu k1_0 k1_1 k1_2 n l1_1 y1_5 (iadd .i64 y1_16 1)
      else
        bd (F_impl_Meander_way fu k1_0 k1_1 y1_16) fun r2 =>
        bd (F_impl_Meander_curves_L2 fu k1_0 k1_1 y1_5 k1_2 y1_16 r2 (llen r2) fu l1_1 0) fun s2 =>
        F_impl_Meander_curves_L1 fu k1_0 k1_1 k1_2 n s2.1 (iadd .i64 y1_5 1) (iadd .i64 y1_16 1))
    else
      some (l1_1, y1_5, y1_16)
def F_impl_Meander_curves (fu : Nat) (x0_0 : List Int) (x0_1 : List Int) : Option (List Int × Int) :=
  bd (F_slices_Repeat_Sint fu [(-1)] (llen x0_0)) fun r1 =>
  bd (F_impl_Meander_curves_L1 fu x0_0 x0_1 (llen r1) fu r1 0 0) fun s1 =>
  some (s1.1, s1.2.1)
theorem F_impl_Meander_curves_w {fu : Nat} {H : AH} {v0_0 : Value} {v0_1 : Value} {x0_0 : List Int} {x0_1 : List Int} {r : (List Int × Int)} (hx0_0 : Sl H v0_0 (ints x0_0)) (hx0_1 : Sl H v0_1 (ints x0_1)) (hF : F_impl_Meander_curves fu x0_0 x0_1 = some r) :
    ACallT Try.prog 36 [(Value.agg #[v0_0, v0_1])] H (fun u G => AgB (Fr H) H G ∧ ∃ u0 : Value, u = (Value.tuple #[u0, (Value.int .i64 r.2)]) ∧ Sep G (Fr H) [flat u0 3 (ints r.1)]) := by
 refine ACallT.of_body (nt := 42) (rs := [.tmp 2, .tmp 3]) Try.func36 rfl rfl rfl rfl ?_;have A0 : AgB (Fr H) H H := .refl _ _;have S0 : Sep H (Fr H) [] := .nil;have hB := Fr.up H;unfold F_impl_Meander_curves at hF;obtain ⟨G2, p4, q5, q6, a7, S1⟩ := S0.boxT (hB.le A0.1) 35 [v0_0, v0_1];have A3 := A0.ext (hB.le A0.1) a7;replace S1 : Sep G2 (Fr H) [AL.box p4 [v0_0, v0_1]] := S1;refine .sr fun K hK => ?_;simp [q5, q6, a7.to_pre, cells_agg];apply hK;clear hK K;obtain ⟨v8, G9, q10, S11, a13, _, _⟩ := S1.lit1 (P := Try.prog) (t := 22) (hB.le A3.1) el_22 ei_3 rfl (Value.int .i64 (-1)) rfl rfl;have A12 := A3.ext (hB.le A3.1) a13;replace S11 : Sep G9 (Fr H) [AL.box p4 [v0_0, v0_1], flat1 v8 3 (ints [(-1)])] := S11;have q15 := S11.fieldT (P := Try.prog) (k := 0) rfl fa_35_0;have q16 := S11.loadF (P := Try.prog) (k := 0) rfl sz_22 ag_22 (off := 0) rfl;have q17 := lenG (P := Try.prog) (hx0_0.agree A12.agree) el_22;obtain ⟨r1, hc18, hF⟩ := bd_some hF;refine .sr fun K hK => ?_;simp [q10, a13.to_pre, q15, q16, q17, ((S11.sl1 (k := 1) rfl).tup)];refine CallD.t (F_slices_Repeat_Sint_w (fu := fu) (S11.sl1 (k := 1) rfl) hc18) ?_;rintro c19_u0 G20 ⟨a23, _, rfl, S24⟩;have A22 := A12.ext (hB.le A12.1) a23.agree;have S21 : Sep G20 (Fr H) [AL.box p4 [v0_0, v0_1], flat1 v8 3 (ints [(-1)]), flat c19_u0 3 (ints r1)] := S11.app a23.agree S24 (fun _ h => h) (hB.le A12.1);simp [q10, a13.to_pre, q15, q16, q17, a23.pre];apply hK;clear hK K;refine .seq ?_;have q25 := lenG (P := Try.prog) (S21.sl (k := 2) rfl) el_22;refine .sr fun K hK => ?_;simp [q25];apply hK;clear hK K;refine .block ?_;obtain ⟨s26, hL27, hF⟩ := bd_some hF;have S28 := S21.pick [0, 2] (by decide) rfl
 refine DWp.loop (fun n env G => ∃ l1_1 : List Int, ∃ y1_5 : Int, ∃ y1_16 : Int, F_impl_Meander_curves_L1 fu x0_0 x0_1 (llen r1) n l1_1 y1_5 y1_16 = some s26 ∧ Sep G (Fr H) [AL.box p4 [v0_0, v0_1], flat c19_u0 3 (ints l1_1)] ∧ AgB (Fr H) H G ∧ env 1 = some p4 ∧ env 4 = some c19_u0 ∧ env 5 = some (Value.int .i64 y1_5) ∧ env 15 = some (Value.int .i64 (llen r1)) ∧ env 16 = some (Value.int .i64 y1_16)) fu ⟨r1, 0, 0, hL27, S28, A22, by simp []⟩ ?_;rintro n1 env1 G1_ ⟨l1_1, y1_5, y1_16, hL27, S1_, A1_, e1_⟩;cases n1 with
 | zero => cases hL27
 | succ n1 =>
  simp only [F_impl_Meander_curves_L1] at hL27;refine .sr fun K hK => ?_;simp [e1_];apply hK;clear hK K;refine .seq ?_;refine DWp.cond' (t := (ilt y1_16 (llen r1))) (by simp [e1_]) (fun hb29 => ?_) (fun hb29 => ?_)
  ·replace hL27 := cd_t hb29 hL27;refine DWp.skip ?_;simp only [andThen, leaves];refine .seq ?_;refine .block ?_;refine .sr fun K hK => ?_;simp [e1_];apply hK;clear hK K;refine .seq ?_;obtain ⟨g30, hL27⟩ := gd_some hL27;have q31 := idxG (P := Try.prog) (kk := .i64) (S1_.sl (k := 1) rfl) el_22 sz_3 g30;have q32 := loadG (P := Try.prog) (S1_.sl (k := 1) rfl) sz_3 ag_3 g30 0;refine .sr fun K hK => ?_;simp [e1_, q31, q32];apply hK;clear hK K;refine DWp.cond' (t := (ile 0 (gat 0 l1_1 y1_16))) (by simp [e1_]) (fun hb33 => ?_) (fun hb33 => ?_)
   ·replace hL27 := cd_t hb33 hL27;refine DWp.exit ?_;simp only [andThen, leaves, if_true, if_false, reduceIte, Nat.reduceEqDiff];refine .region fun K hK => ?_;simp [e1_];apply hK;clear hK K;simp only [andThen, leaves];have S34 := S1_.pick [0, 1] (by decide) rfl;exact ⟨n1, Nat.lt_succ_self _, l1_1, y1_5, (iadd .i64 y1_16 1), hL27, S34, A1_, by simp [e1_]⟩
   ·replace hL27 := cd_f hb33 hL27;refine DWp.skip ?_;simp only [andThen, leaves];refine .seq ?_;have q35 := S1_.loadAgg (P := Try.prog) (k := 0) rfl sz_35 ag_35 rfl;obtain ⟨r2, hc36, hL27⟩ := bd_some hL27;refine .sr fun K hK => ?_;simp [e1_, q35, ((hx0_0.agree A1_.agree).tup), ((hx0_1.agree A1_.agree).tup)];refine CallD.t (F_impl_Meander_way_w (fu := fu) (hx0_0.agree A1_.agree) (hx0_1.agree A1_.agree) hc36) ?_;rintro c37_u0 G38 ⟨a41, _, rfl, S42⟩;have A40 := A1_.ext (hB.le A1_.1) a41.agree;have S39 : Sep G38 (Fr H) [AL.box p4 [v0_0, v0_1], flat c19_u0 3 (ints l1_1), flat c37_u0 3 (ints r2)] := S1_.app a41.agree S42 (fun _ h => h) (hB.le A1_.1);have q43 := lenG (P := Try.prog) (S39.sl (k := 2) rfl) el_22;simp [e1_, q35, a41.pre, q43];apply hK;clear hK K;refine .block ?_;obtain ⟨s44, hL45, hL27⟩ := bd_some hL27;have S46 := S39.pick [0, 1, 2] (by decide) rfl;refine DWp.loop (fun n env G => ∃ l2_1 : List Int, ∃ y2_28 : Int, F_impl_Meander_curves_L2 fu x0_0 x0_1 y1_5 (llen r1) y1_16 r2 (llen r2) n l2_1 y2_28 = some s44 ∧ Sep G (Fr H) [AL.box p4 [v0_0, v0_1], flat c19_u0 3 (ints l2_1), flat c37_u0 3 (ints r2)] ∧ AgB (Fr H) H G ∧ env 1 = some p4 ∧ env 4 = some c19_u0 ∧ env 5 = some (Value.int .i64 y1_5) ∧ env 15 = some (Value.int .i64 (llen r1)) ∧ env 16 = some (Value.int .i64 y1_16) ∧ env 26 = some c37_u0 ∧ env 27 = some (Value.int .i64 (llen r2)) ∧ env 28 = some (Value.int .i64 y2_28)) fu ⟨l1_1, 0, hL45, S46, A40, by simp [e1_]⟩ ?_;rintro n2 env2 G2_ ⟨l2_1, y2_28, hL45, S2_, A2_, e2_⟩;cases n2 with
    | zero => cases hL45
    | succ n2 =>
     simp only [F_impl_Meander_curves_L2] at hL45;refine .sr fun K hK => ?_;simp [e2_];apply hK;clear hK K;refine .seq ?_;refine DWp.cond' (t := (ilt y2_28 (llen r2))) (by simp [e2_]) (fun hb47 => ?_) (fun hb47 => ?_)
     ·replace hL45 := cd_t hb47 hL45;refine DWp.skip ?_;simp only [andThen, leaves];refine .seq ?_;refine .block ?_;obtain ⟨g48, hL45⟩ := gd_some hL45;have q49 := idxG (P := Try.prog) (kk := .i64) (S2_.sl (k := 2) rfl) el_22 sz_3 g48;have q50 := loadG (P := Try.prog) (S2_.sl (k := 2) rfl) sz_3 ag_3 g48 0;refine .sr fun K hK => ?_;simp [e2_, q49, q50];apply hK;clear hK K;obtain ⟨g51, hL45⟩ := gd_some hL45;have q52 := idxG (P := Try.prog) (kk := .i64) (S2_.sl (k := 1) rfl) el_22 sz_3 g51;obtain ⟨G53, q54, S55, a57⟩ := S2_.storeG (f := (Value.int .i64)) (P := Try.prog) (k := 1) (x := y1_5) rfl (hB.le A2_.1) sz_3 g51 rfl rfl;have A56 := A2_.trans a57;replace S55 : Sep G53 (Fr H) [AL.box p4 [v0_0, v0_1], flat c19_u0 3 (ints (lset l2_1 (gat 0 r2 y2_28) y1_5)), flat c37_u0 3 (ints r2)] := S55;refine .region fun K hK => ?_;simp [e2_, q52, q54];apply hK;clear hK K;simp only [andThen, leaves];refine .region fun K hK => ?_;simp [e2_];apply hK;clear hK K;simp only [andThen, leaves];have S58 := S55.pick [0, 1, 2] (by decide) rfl;exact ⟨n2, Nat.lt_succ_self _, (lset l2_1 (gat 0 r2 y2_28) y1_5), (iadd .i64 y2_28 1), hL45, S58, A56, by simp [e2_]⟩
     ·replace hL45 := cd_f hb47 hL45;refine DWp.exit ?_;simp only [andThen, leaves, if_true, if_false, reduceIte, Nat.reduceEqDiff];obtain rfl := Option.some.inj hL45;try dsimp only at hL27
      refine .region fun K hK => ?_;simp [e2_];apply hK;clear hK K;simp only [andThen, leaves];refine .region fun K hK => ?_;simp [e2_];apply hK;clear hK K;simp only [andThen, leaves];have S59 := S2_.pick [0, 1] (by decide) rfl;exact ⟨n1, Nat.lt_succ_self _, l2_1, (iadd .i64 y1_5 1), (iadd .i64 y1_16 1), hL27, S59, A2_, by simp [e2_]⟩
  ·replace hL27 := cd_f hb29 hL27;refine DWp.exit ?_;simp only [andThen, leaves, if_true, if_false, reduceIte, Nat.reduceEqDiff];obtain rfl := Option.some.inj hL27;try dsimp only at hF
   refine .sr fun K hK => ?_;simp [e1_];apply hK;clear hK K;refine DWp.ret ?_;obtain rfl := Option.some.inj hF;exact ⟨by simp, [c19_u0, (Value.int .i64 y1_5)], by simp [e1_, ((S1_.sl (k := 1) rfl).tup)], A1_, c19_u0, rfl, S1_.pick [1] (by decide) rfl⟩
def F_impl_Meander_components (fu : Nat) (x0_0 : List Int) (x0_1 : List Int) : Option (Int) :=
  bd (F_impl_Meander_curves fu x0_0 x0_1) fun r1 =>
  some r1.2
theorem F_impl_Meander_components_w {fu : Nat} {H : AH} {v0_0 : Value} {v0_1 : Value} {x0_0 : List Int} {x0_1 : List Int} {r : (Int)} (hx0_0 : Sl H v0_0 (ints x0_0)) (hx0_1 : Sl H v0_1 (ints x0_1)) (hF : F_impl_Meander_components fu x0_0 x0_1 = some r) :
    ACallT Try.prog 25 [(Value.agg #[v0_0, v0_1])] H (fun u G => AgB (Fr H) H G ∧ u = (Value.int .i64 r) ∧ Sep G (Fr H) []) := by
 refine ACallT.of_body (nt := 11) (rs := [.tmp 2]) Try.func25 rfl rfl rfl rfl ?_;have A0 : AgB (Fr H) H H := .refl _ _;have S0 : Sep H (Fr H) [] := .nil;have hB := Fr.up H;unfold F_impl_Meander_components at hF;obtain ⟨G2, p4, q5, q6, a7, S1⟩ := S0.boxT (hB.le A0.1) 35 [v0_0, v0_1];have A3 := A0.ext (hB.le A0.1) a7;replace S1 : Sep G2 (Fr H) [AL.box p4 [v0_0, v0_1]] := S1;refine .sr fun K hK => ?_;simp [q5, q6, a7.to_pre, cells_agg];apply hK;clear hK K;have q8 := S1.loadAgg (P := Try.prog) (k := 0) rfl sz_35 ag_35 rfl;obtain ⟨r1, hc9, hF⟩ := bd_some hF;refine .sr fun K hK => ?_;simp [q8, ((hx0_0.agree A3.agree).tup), ((hx0_1.agree A3.agree).tup)];refine CallD.t (F_impl_Meander_curves_w (fu := fu) (hx0_0.agree A3.agree) (hx0_1.agree A3.agree) hc9) ?_;rintro _ G11 ⟨a14, c10_u0, rfl, S15⟩;have A13 := A3.ext (hB.le A3.1) a14.agree;have S12 : Sep G11 (Fr H) [AL.box p4 [v0_0, v0_1], flat c10_u0 3 (ints r1.1)] := S1.app a14.agree S15 (fun _ h => h) (hB.le A3.1);simp [q8, a14.pre];apply hK;clear hK K;refine .sr fun K hK => ?_;simp [];apply hK;clear hK K;refine DWp.ret ?_;obtain rfl := Option.some.inj hF;exact ⟨by simp, [(Value.int .i64 r1.2)], by simp [], A13, rfl, S12.pick [] (by decide) rfl⟩
def F_impl_distance (fu : Nat) (x0 : List Int) (x1 : List Int) : Option (Int) :=
  bd (F_impl_Meander_components fu x0 x1) fun r1 =>
  some (isub .i64 (iquo .i64 (llen x0) 2) r1)
theorem F_impl_distance_w {fu : Nat} {H : AH} {v0 : Value} {v1 : Value} {x0 : List Int} {x1 : List Int} {r : (Int)} (hx0 : Sl H v0 (ints x0)) (hx1 : Sl H v1 (ints x1)) (hF : F_impl_distance fu x0 x1 = some r) :
    ACallT Try.prog 17 [v0, v1] H (fun u G => AgB (Fr H) H G ∧ u = (Value.int .i64 r) ∧ Sep G (Fr H) []) := by
 refine ACallT.of_body (nt := 13) (rs := [.tmp 4]) Try.func17 rfl rfl rfl rfl ?_;have A0 : AgB (Fr H) H H := .refl _ _;have S0 : Sep H (Fr H) [] := .nil;have hB := Fr.up H;unfold F_impl_distance at hF;refine .sr fun K hK => ?_;simp [];apply hK;clear hK K;have q1 := lenG (P := Try.prog) (hx0.agree A0.agree) el_22;have g2 : (2 : Int) ≠ 0 := by decide
 obtain ⟨r1, hc3, hF⟩ := bd_some hF;refine .sr fun K hK => ?_;simp [q1, b_quo g2, bu_35 ((hx0.agree A0.agree).tup) ((hx0.agree A0.agree).one) ((hx1.agree A0.agree).tup) ((hx1.agree A0.agree).one), ((hx0.agree A0.agree).tup), ((hx1.agree A0.agree).tup)];refine CallD.t (F_impl_Meander_components_w (fu := fu) (hx0.agree A0.agree) (hx1.agree A0.agree) hc3) ?_;rintro _ G5 ⟨a8, rfl, S9⟩;have A7 := A0.ext (hB.le A0.1) a8.agree;have S6 : Sep G5 (Fr H) [] := S0.app a8.agree S9 (fun _ h => h) (hB.le A0.1);simp [q1, b_quo g2, bu_35 ((hx0.agree A0.agree).tup) ((hx0.agree A0.agree).one) ((hx1.agree A0.agree).tup) ((hx1.agree A0.agree).one), a8.pre];apply hK;clear hK K;refine DWp.ret ?_;obtain rfl := Option.some.inj hF;exact ⟨by simp, [(Value.int .i64 (isub .i64 (iquo .i64 (llen x0) 2) r1))], by simp [], A7, rfl, S6.pick [] (by decide) rfl⟩
def F_impl_covered_L1 (fu : Nat) (k1_0 : List Int) (k1_1 : Int) : Nat → List Int → Int → Option (List Int × Int)
  | 0, _, _ => none
  | n + 1, l1_0, y1_12 =>
    bif (ilt y1_12 k1_1) then
      gd (inL k1_0 y1_12) (
      gd (l1_0.length + [(iadd .i64 (gat 0 k1_0 y1_12) 1)].length ≤ 4294967296) (
      F_impl_covered_L1 fu k1_0 k1_1 n (lapp l1_0 [(iadd .i64 (gat 0 k1_0 y1_12) 1)]) (iadd .i64 y1_12 1)))
    else
      some (l1_0, y1_12)
def F_impl_covered (fu : Nat) (x0 : List Int) : Option (List Int) :=
  bd (F_impl_covered_L1 fu x0 (llen x0) fu [(iadd .i64 (llen x0) 1)] 0) fun s1 =>
  gd (s1.1.length + [0].length ≤ 4294967296) (
  some (lapp s1.1 [0]))
theorem F_impl_covered_w {fu : Nat} {H : AH} {v0 : Value} {x0 : List Int} {r : (List Int)} (hx0 : Sl H v0 (ints x0)) (hF : F_impl_covered fu x0 = some r) :
    ACallT Try.prog 38 [v0] H (fun u G => AgB (Fr H) H G ∧ ∃ u0 : Value, u = u0 ∧ Sep G (Fr H) [flat u0 3 (ints r)]) := by
 refine ACallT.of_body (nt := 25) (rs := [.tmp 2]) Try.func38 rfl rfl rfl rfl ?_;have A0 : AgB (Fr H) H H := .refl _ _;have S0 : Sep H (Fr H) [] := .nil;have hB := Fr.up H;unfold F_impl_covered at hF;refine .sr fun K hK => ?_;simp [];apply hK;clear hK K;have q1 := lenG (P := Try.prog) (hx0.agree A0.agree) el_22;obtain ⟨v2, G3, q4, S5, a7, _, _⟩ := S0.lit1 (P := Try.prog) (t := 22) (hB.le A0.1) el_22 ei_3 rfl (Value.int .i64 (iadd .i64 (llen x0) 1)) rfl rfl;have A6 := A0.ext (hB.le A0.1) a7;replace S5 : Sep G3 (Fr H) [flat1 v2 3 (ints [(iadd .i64 (llen x0) 1)])] := S5;refine .sr fun K hK => ?_;simp [q1, q4, a7.to_pre];apply hK;clear hK K;refine .seq ?_;have q9 := lenG (P := Try.prog) (hx0.agree A6.agree) el_22;refine .sr fun K hK => ?_;simp [q9];apply hK;clear hK K;refine .block ?_;obtain ⟨s10, hL11, hF⟩ := bd_some hF;have S12 := S5.pick [0] (by decide) rfl;have S13 := S12.weak (k := 0) rfl;refine DWp.loop (fun n env G => ∃ l1_0 : List Int, ∃ y1_12 : Int, ∃ w1_0 : Value, F_impl_covered_L1 fu x0 (llen x0) n l1_0 y1_12 = some s10 ∧ Sep G (Fr H) [flat w1_0 3 (ints l1_0)] ∧ AgB (Fr H) H G ∧ env 3 = some w1_0 ∧ env 10 = some v0 ∧ env 11 = some (Value.int .i64 (llen x0)) ∧ env 12 = some (Value.int .i64 y1_12)) fu ⟨[(iadd .i64 (llen x0) 1)], 0, v2, hL11, S13, A6, by simp []⟩ ?_;rintro n1 env1 G1_ ⟨l1_0, y1_12, w1_0, hL11, S1_, A1_, e1_⟩;cases n1 with
 | zero => cases hL11
 | succ n1 =>
  simp only [F_impl_covered_L1] at hL11;refine .sr fun K hK => ?_;simp [e1_];apply hK;clear hK K;refine .seq ?_;refine DWp.cond' (t := (ilt y1_12 (llen x0))) (by simp [e1_]) (fun hb14 => ?_) (fun hb14 => ?_)
  ·replace hL11 := cd_t hb14 hL11;refine DWp.skip ?_;simp only [andThen, leaves];refine .seq ?_;refine .block ?_;obtain ⟨g15, hL11⟩ := gd_some hL11;have q16 := idxG (P := Try.prog) (kk := .i64) (hx0.agree A1_.agree) el_22 sz_3 g15;have q17 := loadG (P := Try.prog) (hx0.agree A1_.agree) sz_3 ag_3 g15 0;refine .sr fun K hK => ?_;simp [e1_, q16, q17];apply hK;clear hK K;obtain ⟨v18, G19, q20, S21, a23, _, _⟩ := S1_.lit1 (P := Try.prog) (t := 22) (hB.le A1_.1) el_22 ei_3 rfl (Value.int .i64 (iadd .i64 (gat 0 x0 y1_12) 1)) rfl rfl;have A22 := A1_.ext (hB.le A1_.1) a23;replace S21 : Sep G19 (Fr H) [flat w1_0 3 (ints l1_0), flat1 v18 3 (ints [(iadd .i64 (gat 0 x0 y1_12) 1)])] := S21;obtain ⟨g25, hL11⟩ := gd_some hL11;obtain ⟨v31, G26, q27, S28, a30, _, _⟩ := S21.appendG (f := (Value.int .i64)) (xs := l1_0) (ys := [(iadd .i64 (gat 0 x0 y1_12) 1)]) (P := Try.prog) (t := 22) (t2 := 22) (k := 0) rfl (hB.le A22.1) el_22 el_22 ei_3 rfl (S21.sl1 (k := 1) rfl) g25;have A29 := A22.trans a30;replace S28 : Sep G26 (Fr H) [flat v31 3 (ints (lapp l1_0 [(iadd .i64 (gat 0 x0 y1_12) 1)])), flat1 v18 3 (ints [(iadd .i64 (gat 0 x0 y1_12) 1)])] := S28;refine .region fun K hK => ?_;simp [e1_, q20, a23.to_pre, q27];apply hK;clear hK K;simp only [andThen, leaves];refine .region fun K hK => ?_;simp [e1_];apply hK;clear hK K;simp only [andThen, leaves];have S32 := S28.pick [0] (by decide) rfl;exact ⟨n1, Nat.lt_succ_self _, (lapp l1_0 [(iadd .i64 (gat 0 x0 y1_12) 1)]), (iadd .i64 y1_12 1), v31, hL11, S32, A29, by simp [e1_]⟩
  ·replace hL11 := cd_f hb14 hL11;refine DWp.exit ?_;simp only [andThen, leaves, if_true, if_false, reduceIte, Nat.reduceEqDiff];obtain rfl := Option.some.inj hL11;try dsimp only at hF
   obtain ⟨v33, G34, q35, S36, a38, _, _⟩ := S1_.lit1 (P := Try.prog) (t := 22) (hB.le A1_.1) el_22 ei_3 rfl (Value.int .i64 0) rfl rfl;have A37 := A1_.ext (hB.le A1_.1) a38;replace S36 : Sep G34 (Fr H) [flat w1_0 3 (ints l1_0), flat1 v33 3 (ints [0])] := S36;obtain ⟨g40, hF⟩ := gd_some hF;obtain ⟨v46, G41, q42, S43, a45, _, _⟩ := S36.appendG (f := (Value.int .i64)) (xs := l1_0) (ys := [0]) (P := Try.prog) (t := 22) (t2 := 22) (k := 0) rfl (hB.le A37.1) el_22 el_22 ei_3 rfl (S36.sl1 (k := 1) rfl) g40;have A44 := A37.trans a45;replace S43 : Sep G41 (Fr H) [flat v46 3 (ints (lapp l1_0 [0])), flat1 v33 3 (ints [0])] := S43;refine .sr fun K hK => ?_;simp [e1_, q35, a38.to_pre, q42];apply hK;clear hK K;refine DWp.ret ?_;obtain rfl := Option.some.inj hF;exact ⟨by simp, [v46], by simp [e1_, ((S43.sl (k := 0) rfl).tup)], A44, v46, rfl, S43.pick [0] (by decide) rfl⟩
def F_slices_Clone_Sint (fu : Nat) (x0 : List Int) : Option (List Int) :=
  gd ((@List.nil Int).length + x0.length ≤ 4294967296) (
  some (lapp (@List.nil Int) x0))
theorem F_slices_Clone_Sint_w {fu : Nat} {H : AH} {v0 : Value} {x0 : List Int} {r : (List Int)} (hx0 : Sl H v0 (ints x0)) (hF : F_slices_Clone_Sint fu x0 = some r) :
    ACallT Try.prog 43 [v0] H (fun u G => AgB (Fr H) H G ∧ ∃ u0 : Value, u = u0 ∧ Sep G (Fr H) [flat u0 3 (ints r)]) := by
 refine ACallT.of_body (nt := 8) (rs := [.tmp 2]) Try.func43 rfl rfl rfl rfl ?_;have A0 : AgB (Fr H) H H := .refl _ _;have S0 : Sep H (Fr H) [] := .nil;have hB := Fr.up H;by_cases hn0 : v0 = .slice none 0 0
 ·
  subst hn0;have hx1 : x0 = [] := by
   rcases hx0 with ⟨_, h_⟩ | ⟨_, _, _, _, _, h_, _⟩
   ·cases x0 with
    | nil => rfl
    | cons a_ b_ => cases h_
   ·cases h_
  subst hx1;have hF2 : (some [] : Option (List Int)) = some r := by
   rw [← hF];unfold F_slices_Clone_Sint;rw [gd_true (by simp)];rfl
  refine .sr fun K hK => ?_;simp [];apply hK;clear hK K;refine .seq ?_;refine .sr fun K hK => ?_;simp [nil_tt us_22];apply hK;clear hK K;refine DWp.ct (by simp [bnot]) ?_;refine .sr fun K hK => ?_;simp [];apply hK;clear hK K;refine DWp.ret ?_;simp only [andThen, leaves];have S1 := S0.nilItem (hB.le A0.1) 3;obtain rfl := Option.some.inj hF2;exact ⟨by simp, [(Value.slice none 0 0)], by simp [], A0, (Value.slice none 0 0), rfl, S1.pick [0] (by decide) rfl⟩
 ·unfold F_slices_Clone_Sint at hF;refine .sr fun K hK => ?_;simp [];apply hK;clear hK K;refine .seq ?_;refine .sr fun K hK => ?_;simp [nil_ff us_22 (hx0.agree A0.agree) hn0];apply hK;clear hK K;refine DWp.cf (by simp [bnot]) ?_;refine DWp.skip ?_;simp only [andThen, leaves];obtain ⟨v1, G2, q3, S4, a6, _, _⟩ := S0.lit0 (P := Try.prog) (t := 22) (hB.le A0.1) el_22 ei_3 rfl;have A5 := A0.ext (hB.le A0.1) a6;replace S4 : Sep G2 (Fr H) [flat1 v1 3 (ints (@List.nil Int))] := S4;obtain ⟨g8, hF⟩ := gd_some hF;obtain ⟨v14, G9, q10, S11, a13, _, _⟩ := S4.append1 (f := (Value.int .i64)) (xs := (@List.nil Int)) (ys := x0) (P := Try.prog) (t := 22) (t2 := 22) (k := 0) rfl (hB.le A5.1) el_22 el_22 ei_3 rfl (hx0.agree A5.agree) g8;have A12 := A5.trans a13;replace S11 : Sep G9 (Fr H) [flat v14 3 (ints (lapp (@List.nil Int) x0))] := S11;refine .sr fun K hK => ?_;simp [q3, a6.to_pre, q10];apply hK;clear hK K;refine DWp.ret ?_;obtain rfl := Option.some.inj hF;exact ⟨by simp, [v14], by simp [((S11.sl (k := 0) rfl).tup)], A12, v14, rfl, S11.pick [0] (by decide) rfl⟩
def F_impl_joined_L1 (fu : Nat) (k1_0 : List Int) (k1_1 : List Int) (k1_2 : Int) : Nat → List Int → Int → Option (List Int × Int)
  | 0, _, _ => none
  | n + 1, l1_0, y1_12 =>
    bif (ilt y1_12 k1_2) then
      gd (inL k1_1 y1_12) (
      gd (l1_0.length + [(iadd .i64 (gat 0 k1_1 y1_12) (llen k1_0))].length ≤ 4294967296) (
      F_impl_joined_L1 fu k1_0 k1_1 k1_2 n (lapp l1_0 [(iadd .i64 (gat 0 k1_1 y1_12) (llen k1_0))]) (iadd .i64 y1_12 1)))
    else
      some (l1_0, y1_12)
def F_impl_joined (fu : Nat) (x0 : List Int) (x1 : List Int) : Option (List Int) :=
  bd (F_slices_Clone_Sint fu x0) fun r1 =>
  bd (F_impl_joined_L1 fu x0 x1 (llen x1) fu r1 0) fun s1 =>
  some s1.1
theorem F_impl_joined_w {fu : Nat} {H : AH} {v0 : Value} {v1 : Value} {x0 : List Int} {x1 : List Int} {r : (List Int)} (hx0 : Sl H v0 (ints x0)) (hx1 : Sl H v1 (ints x1)) (hF : F_impl_joined fu x0 x1 = some r) :
    ACallT Try.prog 37 [v0, v1] H (fun u G => AgB (Fr H) H G ∧ ∃ u0 : Value, u = u0 ∧ Sep G (Fr H) [flat u0 3 (ints r)]) := by
 refine ACallT.of_body (nt := 25) (rs := [.tmp 4]) Try.func37 rfl rfl rfl rfl ?_;have A0 : AgB (Fr H) H H := .refl _ _;have S0 : Sep H (Fr H) [] := .nil;have hB := Fr.up H;unfold F_impl_joined at hF;refine .sr fun K hK => ?_;simp [];apply hK;clear hK K;obtain ⟨r1, hc1, hF⟩ := bd_some hF;refine .sr fun K hK => ?_;simp [((hx0.agree A0.agree).tup)];refine CallD.t (F_slices_Clone_Sint_w (fu := fu) (hx0.agree A0.agree) hc1) ?_;rintro c2_u0 G3 ⟨a6, _, rfl, S7⟩;have A5 := A0.ext (hB.le A0.1) a6.agree;have S4 : Sep G3 (Fr H) [flat c2_u0 3 (ints r1)] := S0.app a6.agree S7 (fun _ h => h) (hB.le A0.1);simp [a6.pre];apply hK;clear hK K;refine .seq ?_;have q8 := lenG (P := Try.prog) (hx1.agree A5.agree) el_22;refine .sr fun K hK => ?_;simp [q8];apply hK;clear hK K;refine .block ?_;obtain ⟨s9, hL10, hF⟩ := bd_some hF;have S11 := S4.pick [0] (by decide) rfl;refine DWp.loop (fun n env G => ∃ l1_0 : List Int, ∃ y1_12 : Int, ∃ w1_0 : Value, F_impl_joined_L1 fu x0 x1 (llen x1) n l1_0 y1_12 = some s9 ∧ Sep G (Fr H) [flat w1_0 3 (ints l1_0)] ∧ AgB (Fr H) H G ∧ env 0 = some v0 ∧ env 5 = some w1_0 ∧ env 10 = some v1 ∧ env 11 = some (Value.int .i64 (llen x1)) ∧ env 12 = some (Value.int .i64 y1_12)) fu ⟨r1, 0, c2_u0, hL10, S11, A5, by simp []⟩ ?_;rintro n1 env1 G1_ ⟨l1_0, y1_12, w1_0, hL10, S1_, A1_, e1_⟩;cases n1 with
 | zero => cases hL10
 | succ n1 =>
  simp only [F_impl_joined_L1] at hL10;refine .sr fun K hK => ?_;simp [e1_];apply hK;clear hK K;refine .seq ?_;refine DWp.cond' (t := (ilt y1_12 (llen x1))) (by simp [e1_]) (fun hb12 => ?_) (fun hb12 => ?_)
  ·replace hL10 := cd_t hb12 hL10;refine DWp.skip ?_;simp only [andThen, leaves];refine .seq ?_;refine .block ?_;obtain ⟨g13, hL10⟩ := gd_some hL10;have q14 := idxG (P := Try.prog) (kk := .i64) (hx1.agree A1_.agree) el_22 sz_3 g13;have q15 := loadG (P := Try.prog) (hx1.agree A1_.agree) sz_3 ag_3 g13 0;refine .sr fun K hK => ?_;simp [e1_, q14, q15];apply hK;clear hK K;have q16 := lenG (P := Try.prog) (hx0.agree A1_.agree) el_22;obtain ⟨v17, G18, q19, S20, a22, _, _⟩ := S1_.lit1 (P := Try.prog) (t := 22) (hB.le A1_.1) el_22 ei_3 rfl (Value.int .i64 (iadd .i64 (gat 0 x1 y1_12) (llen x0))) rfl rfl;have A21 := A1_.ext (hB.le A1_.1) a22;replace S20 : Sep G18 (Fr H) [flat w1_0 3 (ints l1_0), flat1 v17 3 (ints [(iadd .i64 (gat 0 x1 y1_12) (llen x0))])] := S20;obtain ⟨g24, hL10⟩ := gd_some hL10;obtain ⟨v30, G25, q26, S27, a29, _, _⟩ := S20.appendG (f := (Value.int .i64)) (xs := l1_0) (ys := [(iadd .i64 (gat 0 x1 y1_12) (llen x0))]) (P := Try.prog) (t := 22) (t2 := 22) (k := 0) rfl (hB.le A21.1) el_22 el_22 ei_3 rfl (S20.sl1 (k := 1) rfl) g24;have A28 := A21.trans a29;replace S27 : Sep G25 (Fr H) [flat v30 3 (ints (lapp l1_0 [(iadd .i64 (gat 0 x1 y1_12) (llen x0))])), flat1 v17 3 (ints [(iadd .i64 (gat 0 x1 y1_12) (llen x0))])] := S27;refine .region fun K hK => ?_;simp [e1_, q16, q19, a22.to_pre, q26];apply hK;clear hK K;simp only [andThen, leaves];refine .region fun K hK => ?_;simp [e1_];apply hK;clear hK K;simp only [andThen, leaves];have S31 := S27.pick [0] (by decide) rfl;exact ⟨n1, Nat.lt_succ_self _, (lapp l1_0 [(iadd .i64 (gat 0 x1 y1_12) (llen x0))]), (iadd .i64 y1_12 1), v30, hL10, S31, A28, by simp [e1_]⟩
  ·replace hL10 := cd_f hb12 hL10;refine DWp.exit ?_;simp only [andThen, leaves, if_true, if_false, reduceIte, Nat.reduceEqDiff];obtain rfl := Option.some.inj hL10;try dsimp only at hF
   refine .sr fun K hK => ?_;simp [e1_];apply hK;clear hK K;refine DWp.ret ?_;obtain rfl := Option.some.inj hF;exact ⟨by simp, [w1_0], by simp [e1_, ((S1_.sl (k := 0) rfl).tup)], A1_, w1_0, rfl, S1_.pick [0] (by decide) rfl⟩
def F_math_bits_Len64 (fu : Nat) (x0 : Int) : Option (Int) :=
  bd (
    bif (ile 4294967296 x0) then
      some ((ishr .u64 x0 32), 32)
    else
      some (x0, 0)) fun s1 =>
  bd (
    bif (ile 65536 s1.1) then
      some ((ishr .u64 s1.1 16), (iadd .i64 s1.2 16))
    else
      some (s1.1, s1.2)) fun s9 =>
  bif (ile 256 s9.1) then
    gd (inS (ByteArray.mk #[0, 1, 2, 2, 3, 3, 3, 3, 4, 4, 4, 4, 4, 4, 4, 4, 5, 5, 5, 5, 5, 5, 5, 5, 5, 5, 5, 5, 5, 5, 5, 5, 6, 6, 6, 6, 6, 6, 6, 6, 6, 6, 6, 6, 6, 6, 6, 6, 6, 6, 6, 6, 6, 6, 6, 6, 6, 6, 6, 6, 6, 6, 6, 6, 7, 7, 7, 7, 7, 7, 7, 7, 7, 7, 7, 7, 7, 7, 7, 7, 7, 7, 7, 7, 7, 7, 7, 7, 7, 7, 7, 7, 7, 7, 7, 7, 7, 7, 7, 7, 7, 7, 7, 7, 7, 7, 7, 7, 7, 7, 7, 7, 7, 7, 7, 7, 7, 7, 7, 7, 7, 7, 7, 7, 7, 7, 7, 7, 8, 8, 8, 8, 8, 8, 8, 8, 8, 8, 8, 8, 8, 8, 8, 8, 8, 8, 8, 8, 8, 8, 8, 8, 8, 8, 8, 8, 8, 8, 8, 8, 8, 8, 8, 8, 8, 8, 8, 8, 8, 8, 8, 8, 8, 8, 8, 8, 8, 8, 8, 8, 8, 8, 8, 8, 8, 8, 8, 8, 8, 8, 8, 8, 8, 8, 8, 8, 8, 8, 8, 8, 8, 8, 8, 8, 8, 8, 8, 8, 8, 8, 8, 8, 8, 8, 8, 8, 8, 8, 8, 8, 8, 8, 8, 8, 8, 8, 8, 8, 8, 8, 8, 8, 8, 8, 8, 8, 8, 8, 8, 8, 8, 8, 8, 8, 8, 8, 8, 8, 8, 8, 8, 8, 8, 8, 8, 8]) (iwr .u8 (ishr .u64 s9.1 8))) (
    some (iadd .i64 (iadd .i64 s9.2 8) (iwr .i64 (sat (ByteArray.mk #[0, 1, 2, 2, 3, 3, 3, 3, 4, 4, 4, 4, 4, 4, 4, 4, 5, 5, 5, 5, 5, 5, 5, 5, 5, 5, 5, 5, 5, 5, 5, 5, 6, 6, 6, 6, 6, 6, 6, 6, 6, 6, 6, 6, 6, 6, 6, 6, 6, 6, 6, 6, 6, 6, 6, 6, 6, 6, 6, 6, 6, 6, 6, 6, 7, 7, 7, 7, 7, 7, 7, 7, 7, 7, 7, 7, 7, 7, 7, 7, 7, 7, 7, 7, 7, 7, 7, 7, 7, 7, 7, 7, 7, 7, 7, 7, 7, 7, 7, 7, 7, 7, 7, 7, 7, 7, 7, 7, 7, 7, 7, 7, 7, 7, 7, 7, 7, 7, 7, 7, 7, 7, 7, 7, 7, 7, 7, 7, 8, 8, 8, 8, 8, 8, 8, 8, 8, 8, 8, 8, 8, 8, 8, 8, 8, 8, 8, 8, 8, 8, 8, 8, 8, 8, 8, 8, 8, 8, 8, 8, 8, 8, 8, 8, 8, 8, 8, 8, 8, 8, 8, 8, 8, 8, 8, 8, 8, 8, 8, 8, 8, 8, 8, 8, 8, 8, 8, 8, 8, 8, 8, 8, 8, 8, 8, 8, 8, 8, 8, 8, 8, 8, 8, 8, 8, 8, 8, 8, 8, 8, 8, 8, 8, 8, 8, 8, 8, 8, 8, 8, 8, 8, 8, 8, 8, 8, 8, 8, 8, 8, 8, 8, 8, 8, 8, 8, 8, 8, 8, 8, 8, 8, 8, 8, 8, 8, 8, 8, 8, 8, 8, 8, 8, 8, 8, 8]) (iwr .u8 (ishr .u64 s9.1 8))))))
  else
    gd (inS (ByteArray.mk #[0, 1, 2, 2, 3, 3, 3, 3, 4, 4, 4, 4, 4, 4, 4, 4, 5, 5, 5, 5, 5, 5, 5, 5, 5, 5, 5, 5, 5, 5, 5, 5, 6, 6, 6, 6, 6, 6, 6, 6, 6, 6, 6, 6, 6, 6, 6, 6, 6, 6, 6, 6, 6, 6, 6, 6, 6, 6, 6, 6, 6, 6, 6, 6, 7, 7, 7, 7, 7, 7, 7, 7, 7, 7, 7, 7, 7, 7, 7, 7, 7, 7, 7, 7, 7, 7, 7, 7, 7, 7, 7, 7, 7, 7, 7, 7, 7, 7, 7, 7, 7, 7, 7, 7, 7, 7, 7, 7, 7, 7, 7, 7, 7, 7, 7, 7, 7, 7, 7, 7, 7, 7, 7, 7, 7, 7, 7, 7, 8, 8, 8, 8, 8, 8, 8, 8, 8, 8, 8, 8, 8, 8, 8, 8, 8, 8, 8, 8, 8, 8, 8, 8, 8, 8, 8, 8, 8, 8, 8, 8, 8, 8, 8, 8, 8, 8, 8, 8, 8, 8, 8, 8, 8, 8, 8, 8, 8, 8, 8, 8, 8, 8, 8, 8, 8, 8, 8, 8, 8, 8, 8, 8, 8, 8, 8, 8, 8, 8, 8, 8, 8, 8, 8, 8, 8, 8, 8, 8, 8, 8, 8, 8, 8, 8, 8, 8, 8, 8, 8, 8, 8, 8, 8, 8, 8, 8, 8, 8, 8, 8, 8, 8, 8, 8, 8, 8, 8, 8, 8, 8, 8, 8, 8, 8, 8, 8, 8, 8, 8, 8, 8, 8, 8, 8, 8, 8]) (iwr .u8 s9.1)) (
    some (iadd .i64 s9.2 (iwr .i64 (sat (ByteArray.mk #[0, 1, 2, 2, 3, 3, 3, 3, 4, 4, 4, 4, 4, 4, 4, 4, 5, 5, 5, 5, 5, 5, 5, 5, 5, 5, 5, 5, 5, 5, 5, 5, 6, 6, 6, 6, 6, 6, 6, 6, 6, 6, 6, 6, 6, 6, 6, 6, 6, 6, 6, 6, 6, 6, 6, 6, 6, 6, 6, 6, 6, 6, 6, 6, 7, 7, 7, 7, 7, 7, 7, 7, 7, 7, 7, 7, 7, 7, 7, 7, 7, 7, 7, 7, 7, 7, 7, 7, 7, 7, 7, 7, 7, 7, 7, 7, 7, 7, 7, 7, 7, 7, 7, 7, 7, 7, 7, 7, 7, 7, 7, 7, 7, 7, 7, 7, 7, 7, 7, 7, 7, 7, 7, 7, 7, 7, 7, 7, 8, 8, 8, 8, 8, 8, 8, 8, 8, 8, 8, 8, 8, 8, 8, 8, 8, 8, 8, 8, 8, 8, 8, 8, 8, 8, 8, 8, 8, 8, 8, 8, 8, 8, 8, 8, 8, 8, 8, 8, 8, 8, 8, 8, 8, 8, 8, 8, 8, 8, 8, 8, 8, 8, 8, 8, 8, 8, 8, 8, 8, 8, 8, 8, 8, 8, 8, 8, 8, 8, 8, 8, 8, 8, 8, 8, 8, 8, 8, 8, 8, 8, 8, 8, 8, 8, 8, 8, 8, 8, 8, 8, 8, 8, 8, 8, 8, 8, 8, 8, 8, 8, 8, 8, 8, 8, 8, 8, 8, 8, 8, 8, 8, 8, 8, 8, 8, 8, 8, 8, 8, 8, 8, 8, 8, 8, 8, 8]) (iwr .u8 s9.1)))))
theorem F_math_bits_Len64_w {fu : Nat} {H : AH}  {x0 : Int} {r : (Int)}  (hF : F_math_bits_Len64 fu x0 = some r) :
    ACallT Try.prog 64 [(Value.int .u64 x0)] H (fun u G => AgB (Fr H) H G ∧ u = (Value.int .i64 r) ∧ Sep G (Fr H) []) := by
 refine ACallT.of_body (nt := 25) (rs := [.tmp 2]) Try.func64 rfl rfl rfl rfl ?_;have A0 : AgB (Fr H) H H := .refl _ _;have S0 : Sep H (Fr H) [] := .nil;have hB := Fr.up H;unfold F_math_bits_Len64 at hF;refine .sr fun K hK => ?_;simp [];apply hK;clear hK K;obtain ⟨s1, hL2, hF⟩ := bd_some hF;refine DWp.seq (DWp.join (fun env G => Sep G (Fr H) [] ∧ AgB (Fr H) H G ∧ env 0 = some (Value.int .u64 s1.1) ∧ env 2 = some (Value.int .i64 s1.2)) ?_ ?_)
 ·
  refine .sr fun K hK => ?_;simp [];apply hK;clear hK K;refine DWp.cond' (t := (ile 4294967296 x0)) (by simp []) (fun hb4 => ?_) (fun hb4 => ?_)
  ·replace hL2 := cd_t hb4 hL2;have g5 : ¬ ((32 : Int) < 0) := by decide
   refine .sr fun K hK => ?_;simp [b_shr g5];apply hK;clear hK K;refine .region fun K hK => ?_;simp [];apply hK;clear hK K;simp only [andThen, leaves];have S6 := S0.pick [] (by decide) rfl;obtain rfl := Option.some.inj hL2;exact ⟨S6, A0, by simp []⟩
  ·replace hL2 := cd_f hb4 hL2;refine DWp.skip ?_;simp only [andThen, leaves];have S7 := S0.pick [] (by decide) rfl;obtain rfl := Option.some.inj hL2;exact ⟨S7, A0, by simp []⟩
 ·rintro env Gj8 ⟨Sj8, Aj8, ej8_⟩;obtain ⟨s9, hL10, hF⟩ := bd_some hF;refine DWp.seq (DWp.join (fun env G => Sep G (Fr H) [] ∧ AgB (Fr H) H G ∧ env 0 = some (Value.int .u64 s9.1) ∧ env 2 = some (Value.int .i64 s9.2)) ?_ ?_)
  ·
   refine .sr fun K hK => ?_;simp [ej8_];apply hK;clear hK K;refine DWp.cond' (t := (ile 65536 s1.1)) (by simp [ej8_]) (fun hb12 => ?_) (fun hb12 => ?_)
   ·replace hL10 := cd_t hb12 hL10;have g13 : ¬ ((16 : Int) < 0) := by decide
    refine .sr fun K hK => ?_;simp [ej8_, b_shr g13];apply hK;clear hK K;refine .region fun K hK => ?_;simp [ej8_];apply hK;clear hK K;simp only [andThen, leaves];have S14 := Sj8.pick [] (by decide) rfl;obtain rfl := Option.some.inj hL10;exact ⟨S14, Aj8, by simp [ej8_]⟩
   ·replace hL10 := cd_f hb12 hL10;refine DWp.skip ?_;simp only [andThen, leaves];have S15 := Sj8.pick [] (by decide) rfl;obtain rfl := Option.some.inj hL10;exact ⟨S15, Aj8, by simp [ej8_]⟩
  ·rintro env Gj16 ⟨Sj16, Aj16, ej16_⟩;refine .seq ?_;refine .sr fun K hK => ?_;simp [ej16_];apply hK;clear hK K;refine DWp.cond' (t := (ile 256 s9.1)) (by simp [ej16_]) (fun hb17 => ?_) (fun hb17 => ?_)
   ·replace hF := cd_t hb17 hF;have g18 : ¬ ((8 : Int) < 0) := by decide
    refine .sr fun K hK => ?_;simp [ej16_, b_shr g18];apply hK;clear hK K;refine .region fun K hK => ?_;simp [ej16_];apply hK;clear hK K;simp only [andThen, leaves];obtain ⟨g19, hF⟩ := gd_some hF;have q20 := strIdx (P := Try.prog) (kk := .u8) un_9 g19;refine .sr fun K hK => ?_;simp [ej16_, c_int un_74 un_5, q20, c_int un_5 un_3];apply hK;clear hK K;refine DWp.ret ?_;obtain rfl := Option.some.inj hF;exact ⟨by simp, [(Value.int .i64 (iadd .i64 (iadd .i64 s9.2 8) (iwr .i64 (sat (ByteArray.mk #[0, 1, 2, 2, 3, 3, 3, 3, 4, 4, 4, 4, 4, 4, 4, 4, 5, 5, 5, 5, 5, 5, 5, 5, 5, 5, 5, 5, 5, 5, 5, 5, 6, 6, 6, 6, 6, 6, 6, 6, 6, 6, 6, 6, 6, 6, 6, 6, 6, 6, 6, 6, 6, 6, 6, 6, 6, 6, 6, 6, 6, 6, 6, 6, 7, 7, 7, 7, 7, 7, 7, 7, 7, 7, 7, 7, 7, 7, 7, 7, 7, 7, 7, 7, 7, 7, 7, 7, 7, 7, 7, 7, 7, 7, 7, 7, 7, 7, 7, 7, 7, 7, 7, 7, 7, 7, 7, 7, 7, 7, 7, 7, 7, 7, 7, 7, 7, 7, 7, 7, 7, 7, 7, 7, 7, 7, 7, 7, 8, 8, 8, 8, 8, 8, 8, 8, 8, 8, 8, 8, 8, 8, 8, 8, 8, 8, 8, 8, 8, 8, 8, 8, 8, 8, 8, 8, 8, 8, 8, 8, 8, 8, 8, 8, 8, 8, 8, 8, 8, 8, 8, 8, 8, 8, 8, 8, 8, 8, 8, 8, 8, 8, 8, 8, 8, 8, 8, 8, 8, 8, 8, 8, 8, 8, 8, 8, 8, 8, 8, 8, 8, 8, 8, 8, 8, 8, 8, 8, 8, 8, 8, 8, 8, 8, 8, 8, 8, 8, 8, 8, 8, 8, 8, 8, 8, 8, 8, 8, 8, 8, 8, 8, 8, 8, 8, 8, 8, 8, 8, 8, 8, 8, 8, 8, 8, 8, 8, 8, 8, 8, 8, 8, 8, 8, 8, 8]) (iwr .u8 (ishr .u64 s9.1 8))))))], by simp [ej16_], Aj16, rfl, Sj16.pick [] (by decide) rfl⟩
   ·replace hF := cd_f hb17 hF;refine DWp.skip ?_;simp only [andThen, leaves];obtain ⟨g21, hF⟩ := gd_some hF;have q22 := strIdx (P := Try.prog) (kk := .u8) un_9 g21;refine .sr fun K hK => ?_;simp [ej16_, c_int un_74 un_5, q22, c_int un_5 un_3];apply hK;clear hK K;refine DWp.ret ?_;obtain rfl := Option.some.inj hF;exact ⟨by simp, [(Value.int .i64 (iadd .i64 s9.2 (iwr .i64 (sat (ByteArray.mk #[0, 1, 2, 2, 3, 3, 3, 3, 4, 4, 4, 4, 4, 4, 4, 4, 5, 5, 5, 5, 5, 5, 5, 5, 5, 5, 5, 5, 5, 5, 5, 5, 6, 6, 6, 6, 6, 6, 6, 6, 6, 6, 6, 6, 6, 6, 6, 6, 6, 6, 6, 6, 6, 6, 6, 6, 6, 6, 6, 6, 6, 6, 6, 6, 7, 7, 7, 7, 7, 7, 7, 7, 7, 7, 7, 7, 7, 7, 7, 7, 7, 7, 7, 7, 7, 7, 7, 7, 7, 7, 7, 7, 7, 7, 7, 7, 7, 7, 7, 7, 7, 7, 7, 7, 7, 7, 7, 7, 7, 7, 7, 7, 7, 7, 7, 7, 7, 7, 7, 7, 7, 7, 7, 7, 7, 7, 7, 7, 8, 8, 8, 8, 8, 8, 8, 8, 8, 8, 8, 8, 8, 8, 8, 8, 8, 8, 8, 8, 8, 8, 8, 8, 8, 8, 8, 8, 8, 8, 8, 8, 8, 8, 8, 8, 8, 8, 8, 8, 8, 8, 8, 8, 8, 8, 8, 8, 8, 8, 8, 8, 8, 8, 8, 8, 8, 8, 8, 8, 8, 8, 8, 8, 8, 8, 8, 8, 8, 8, 8, 8, 8, 8, 8, 8, 8, 8, 8, 8, 8, 8, 8, 8, 8, 8, 8, 8, 8, 8, 8, 8, 8, 8, 8, 8, 8, 8, 8, 8, 8, 8, 8, 8, 8, 8, 8, 8, 8, 8, 8, 8, 8, 8, 8, 8, 8, 8, 8, 8, 8, 8, 8, 8, 8, 8, 8, 8]) (iwr .u8 s9.1)))))], by simp [ej16_], Aj16, rfl, Sj16.pick [] (by decide) rfl⟩
def F_math_bits_Len (fu : Nat) (x0 : Int) : Option (Int) :=
  bd (F_math_bits_Len64 fu x0) fun r1 =>
  some r1
theorem F_math_bits_Len_w {fu : Nat} {H : AH}  {x0 : Int} {r : (Int)}  (hF : F_math_bits_Len fu x0 = some r) :
    ACallT Try.prog 46 [(Value.int .u64 x0)] H (fun u G => AgB (Fr H) H G ∧ u = (Value.int .i64 r) ∧ Sep G (Fr H) []) := by
 refine ACallT.of_body (nt := 8) (rs := [.tmp 2]) Try.func46 rfl rfl rfl rfl ?_;have A0 : AgB (Fr H) H H := .refl _ _;have S0 : Sep H (Fr H) [] := .nil;have hB := Fr.up H;unfold F_math_bits_Len at hF;refine .sr fun K hK => ?_;simp [];apply hK;clear hK K;refine .seq ?_;refine DWp.cf (by simp [bnot]) ?_;refine DWp.skip ?_;simp only [andThen, leaves];obtain ⟨r1, hc1, hF⟩ := bd_some hF;refine .sr fun K hK => ?_;simp [];refine CallD.t (F_math_bits_Len64_w (fu := fu)  hc1) ?_;rintro _ G3 ⟨a6, rfl, S7⟩;have A5 := A0.ext (hB.le A0.1) a6.agree;have S4 : Sep G3 (Fr H) [] := S0.app a6.agree S7 (fun _ h => h) (hB.le A0.1);simp [a6.pre];apply hK;clear hK K;refine DWp.ret ?_;obtain rfl := Option.some.inj hF;exact ⟨by simp, [(Value.int .i64 r1)], by simp [], A5, rfl, S4.pick [] (by decide) rfl⟩
def F_slices_insertionSortCmpFunc_Sint_L2 (fu : Nat) (k2_0 : Int) (k2_1 : Int) (k2_2 : ((List Int) → (List Int) → Option (Int))) (k2_3 : Int) : Nat → List (List Int) → Int → Option (List (List Int) × Int)
  | 0, _, _ => none
  | n + 1, l2_0, y2_9 =>
    bd (
      bif (ilt k2_0 y2_9) then
        gd (inL l2_0 y2_9) (
        gd (inL l2_0 (isub .i64 y2_9 1)) (
        bd (k2_2 (gat [] l2_0 y2_9) (gat [] l2_0 (isub .i64 y2_9 1))) fun r1 =>
        some (ilt r1 0)))
      else
        some false) fun s8 =>
    bif s8 then
      gd (inL l2_0 (isub .i64 y2_9 1)) (
      gd (inL l2_0 y2_9) (
      gd (inL l2_0 y2_9) (
      gd (inL l2_0 (isub .i64 y2_9 1)) (
      F_slices_insertionSortCmpFunc_Sint_L2 fu k2_0 k2_1 k2_2 k2_3 n (lset (lset l2_0 y2_9 (gat [] l2_0 (isub .i64 y2_9 1))) (isub .i64 y2_9 1) (gat [] l2_0 y2_9)) (isub .i64 y2_9 1)))))
    else
      some (l2_0, y2_9)
def F_slices_insertionSortCmpFunc_Sint_L1 (fu : Nat) (k1_0 : Int) (k1_1 : Int) (k1_2 : ((List Int) → (List Int) → Option (Int))) : Nat → List (List Int) → Int → Option (List (List Int) × Int)
  | 0, _, _ => none
  | n + 1, l1_0, y1_8 =>
    bif (ilt y1_8 k1_1) then
      bd (F_slices_insertionSortCmpFunc_Sint_L2 fu k1_0 k1_1 k1_2 y1_8 fu l1_0 y1_8) fun s2 =>
      F_slices_insertionSortCmpFunc_Sint_L1 fu k1_0 k1_1 k1_2 n s2.1 (iadd .i64 y1_8 1)
    else
      some (l1_0, y1_8)
def F_slices_insertionSortCmpFunc_Sint (fu : Nat) (x0 : List (List Int)) (x1 : Int) (x2 : Int) (x3 : (List Int) → (List Int) → Option (Int)) : Option (List (List Int)) :=
  bd (F_slices_insertionSortCmpFunc_Sint_L1 fu x1 x2 x3 fu x0 (iadd .i64 x1 1)) fun s1 =>
  some s1.1
theorem F_slices_insertionSortCmpFunc_Sint_w {fu : Nat} {H : AH} {B : Nat → Prop} {v0 : Value} {C0 : List Value} {f3 : FuncId} {c3 : List Value} {x0 : List (List Int)} {x1 : Int} {x2 : Int} {x3 : (List Int) → (List Int) → Option (Int)} {r : (List (List Int))} (hB : Up B H.length) (S0 : Sep H B [rowsC v0 22 3 C0 (List.map ints x0)]) (hx3 : ∀ (G : AH), AgB B H G → ∀ (v0 : Value) (v1 : Value) (y0 : List Int) (y1 : List Int) (q : (Int)), Sl G v0 (ints y0) → Sl G v1 (ints y1) → x3 y0 y1 = some q → ACallT Try.prog f3 ([v0, v1] ++ c3) G (fun u G' => AgB (Fr G) G G' ∧ u = (Value.int .i64 q) ∧ Sep G' (Fr G) [])) (hF : F_slices_insertionSortCmpFunc_Sint fu x0 x1 x2 x3 = some r) :
    ACallT Try.prog 55 [v0, (Value.int .i64 x1), (Value.int .i64 x2), (Value.func (.func f3) #[] c3.toArray)] H (fun u G => AgB B H G ∧ ∃ Cz0 : List Value, u = (Value.tuple #[]) ∧ Sep G B [rowsC v0 22 3 Cz0 (List.map ints r)]) := by
 refine ACallT.of_body (nt := 53) (rs := []) Try.func55 rfl rfl rfl rfl ?_;have A0 : AgB B H H := .refl _ _;unfold F_slices_insertionSortCmpFunc_Sint at hF;refine .sr fun K hK => ?_;simp [];apply hK;clear hK K;refine .block ?_;obtain ⟨s1, hL2, hF⟩ := bd_some hF;have S3 := S0.pick [0] (by decide) rfl;refine DWp.loop (fun n env G => ∃ l1_0 : List (List Int), ∃ y1_8 : Int, ∃ D1_0 : List Value, F_slices_insertionSortCmpFunc_Sint_L1 fu x1 x2 x3 n l1_0 y1_8 = some s1 ∧ Sep G B [rowsC v0 22 3 D1_0 (List.map ints l1_0)] ∧ AgB B H G ∧ env 0 = some v0 ∧ env 1 = some (Value.int .i64 x1) ∧ env 2 = some (Value.int .i64 x2) ∧ env 3 = some (Value.func (.func f3) #[] c3.toArray) ∧ env 8 = some (Value.int .i64 y1_8)) fu ⟨x0, (iadd .i64 x1 1), C0, hL2, S3, A0, by simp []⟩ ?_;rintro n1 env1 G1_ ⟨l1_0, y1_8, D1_0, hL2, S1_, A1_, e1_⟩;cases n1 with
 | zero => cases hL2
 | succ n1 =>
  simp only [F_slices_insertionSortCmpFunc_Sint_L1] at hL2;refine .seq ?_;refine .sr fun K hK => ?_;simp [e1_];apply hK;clear hK K;refine DWp.cond' (t := (ilt y1_8 x2)) (by simp [e1_]) (fun hb4 => ?_) (fun hb4 => ?_)
  ·replace hL2 := cd_t hb4 hL2;refine DWp.skip ?_;simp only [andThen, leaves];refine .seq ?_;refine .block ?_;refine .sr fun K hK => ?_;simp [e1_];apply hK;clear hK K;refine .block ?_;obtain ⟨s5, hL6, hL2⟩ := bd_some hL2;have S7 := S1_.pick [0] (by decide) rfl;refine DWp.loop (fun n env G => ∃ l2_0 : List (List Int), ∃ y2_9 : Int, ∃ D2_0 : List Value, F_slices_insertionSortCmpFunc_Sint_L2 fu x1 x2 x3 y1_8 n l2_0 y2_9 = some s5 ∧ Sep G B [rowsC v0 22 3 D2_0 (List.map ints l2_0)] ∧ AgB B H G ∧ env 0 = some v0 ∧ env 1 = some (Value.int .i64 x1) ∧ env 2 = some (Value.int .i64 x2) ∧ env 3 = some (Value.func (.func f3) #[] c3.toArray) ∧ env 8 = some (Value.int .i64 y1_8) ∧ env 9 = some (Value.int .i64 y2_9)) fu ⟨l1_0, y1_8, D1_0, hL6, S7, A1_, by simp [e1_]⟩ ?_;rintro n2 env2 G2_ ⟨l2_0, y2_9, D2_0, hL6, S2_, A2_, e2_⟩;cases n2 with
   | zero => cases hL6
   | succ n2 =>
    simp only [F_slices_insertionSortCmpFunc_Sint_L2] at hL6;refine .seq ?_;obtain ⟨s8, hL9, hL6⟩ := bd_some hL6;refine DWp.seq (DWp.join (fun env G => Sep G B [rowsC v0 22 3 D2_0 (List.map ints l2_0)] ∧ AgB B H G ∧ env 0 = some v0 ∧ env 1 = some (Value.int .i64 x1) ∧ env 2 = some (Value.int .i64 x2) ∧ env 3 = some (Value.func (.func f3) #[] c3.toArray) ∧ env 8 = some (Value.int .i64 y1_8) ∧ env 9 = some (Value.int .i64 y2_9) ∧ env 34 = some (Value.bool s8)) ?_ ?_)
    ·
     rcases Bool.eq_false_or_eq_true (ilt x1 y2_9) with hb11 | hb11
     ·replace hL9 := cd_t hb11 hL9;obtain ⟨g12, hL9⟩ := gd_some hL9;have q13 := (S2_.rd (k := 0) rfl).idxG (P := Try.prog) (kk := .i64) el_30 sz_22 g12;have q14 := (S2_.rd (k := 0) rfl).loadG (P := Try.prog) sz_22 ag_22 g12;obtain ⟨g15, hL9⟩ := gd_some hL9;have q16 := (S2_.rd (k := 0) rfl).idxG (P := Try.prog) (kk := .i64) el_30 sz_22 g15;have q17 := (S2_.rd (k := 0) rfl).loadG (P := Try.prog) sz_22 ag_22 g15;obtain ⟨r1, hc18, hL9⟩ := bd_some hL9;refine .drawn (B := [0, 0, 3, 7, 15, 15, 15, 111, 239, 15, 15, 1039, 3599, 7695, 16383, 32767, 65535]) 17 mixed (by kernel_rfl) (by decide) fun K hK => ?_;simp [e2_, hb11, q13, q14, q16, q17, (((S2_.rd (k := 0) rfl).rowAt [] g12).tup), (((S2_.rd (k := 0) rfl).rowAt [] g15).tup)];refine CallD.t (hx3 _ A2_ (gat nilV D2_0 y2_9) (gat nilV D2_0 (isub .i64 y2_9 1)) (gat [] l2_0 y2_9) (gat [] l2_0 (isub .i64 y2_9 1)) _ ((S2_.rd (k := 0) rfl).rowAt [] g12) ((S2_.rd (k := 0) rfl).rowAt [] g15) hc18) ?_;rintro _ G19 ⟨a22, rfl, S23⟩;have A21 := A2_.ext (hB.le A2_.1) a22.agree;have S20 : Sep G19 B [rowsC v0 22 3 D2_0 (List.map ints l2_0)] := S2_.agree a22.agree;simp [e2_, hb11, q13, q14, q16, q17, a22.pre];apply hK;clear hK K;simp only [andThen, leaves];have S24 := S20.pick [0] (by decide) rfl;obtain rfl := Option.some.inj hL9;exact ⟨S24, A21, by simp [e2_]⟩
     ·replace hL9 := cd_f hb11 hL9;refine .drawn (B := [0, 0, 3, 7, 15, 15, 15, 111, 239, 15, 15, 1039, 3599, 7695, 16383, 32767, 65535]) 17 mixed (by kernel_rfl) (by decide) fun K hK => ?_;simp [e2_, hb11];apply hK;clear hK K;simp only [andThen, leaves];have S25 := S2_.pick [0] (by decide) rfl;obtain rfl := Option.some.inj hL9;exact ⟨S25, A2_, by simp [e2_]⟩
    ·rintro env Gj26 ⟨Sj26, Aj26, ej26_⟩;refine DWp.cond' (t := s8) (by simp [ej26_]) (fun hb27 => ?_) (fun hb27 => ?_)
     ·replace hL6 := cd_t hb27 hL6;refine DWp.skip ?_;simp only [andThen, leaves];refine .seq ?_;refine .block ?_;obtain ⟨g28, hL6⟩ := gd_some hL6;have q29 := (Sj26.rd (k := 0) rfl).idxG (P := Try.prog) (kk := .i64) el_30 sz_22 g28;have q30 := (Sj26.rd (k := 0) rfl).loadG (P := Try.prog) sz_22 ag_22 g28;obtain ⟨g31, hL6⟩ := gd_some hL6;have q32 := (Sj26.rd (k := 0) rfl).idxG (P := Try.prog) (kk := .i64) el_30 sz_22 g31;have q33 := (Sj26.rd (k := 0) rfl).loadG (P := Try.prog) sz_22 ag_22 g31;obtain ⟨g34, hL6⟩ := gd_some hL6;have q35 := (Sj26.rd (k := 0) rfl).idxG (P := Try.prog) (kk := .i64) el_30 sz_22 g34;obtain ⟨G41, q42, S43, a45⟩ := Sj26.swap1 (fr := ints) (P := Try.prog) (k := 0) [] rfl (hB.le Aj26.1) sz_22 g34 g28;have A44 := Aj26.trans a45;replace S43 : Sep G41 B [rowsS v0 22 3 (lset D2_0 y2_9 (gat nilV D2_0 (isub .i64 y2_9 1))) D2_0 (List.map ints l2_0)] := S43;obtain ⟨g46, hL6⟩ := gd_some hL6;have q47 := S43.idxS (P := Try.prog) (ki := .i64) (kk := 0) rfl el_30 sz_22 g46;obtain ⟨G53, q54, S55, a57⟩ := S43.swap2 (fr := ints) (P := Try.prog) (k := 0) [] rfl (hB.le A44.1) sz_22 g34 g28;have A56 := A44.trans a57;replace S55 : Sep G53 B [rowsC v0 22 3 (lset (lset D2_0 y2_9 (gat nilV D2_0 (isub .i64 y2_9 1))) (isub .i64 y2_9 1) (gat nilV D2_0 y2_9)) (List.map ints (lset (lset l2_0 y2_9 (gat [] l2_0 (isub .i64 y2_9 1))) (isub .i64 y2_9 1) (gat [] l2_0 y2_9)))] := S55;refine .drawn (B := [0, 0, 0, 0, 8, 0, 0, 64, 224, 480, 0, 0, 3072, 7168, 16355, 32739, 65535, 131071]) 15 mixed (by kernel_rfl) (by decide) fun K hK => ?_;simp [ej26_, q29, q30, q32, q33, q35, (((Sj26.rd (k := 0) rfl).rowAt [] g28).tup), q42, q47, q54];apply hK;clear hK K;simp only [andThen, leaves];refine .region fun K hK => ?_;simp [ej26_];apply hK;clear hK K;simp only [andThen, leaves]
      have S58 := S55.pick [0] (by decide) rfl;exact ⟨n2, Nat.lt_succ_self _, (lset (lset l2_0 y2_9 (gat [] l2_0 (isub .i64 y2_9 1))) (isub .i64 y2_9 1) (gat [] l2_0 y2_9)), (isub .i64 y2_9 1), (lset (lset D2_0 y2_9 (gat nilV D2_0 (isub .i64 y2_9 1))) (isub .i64 y2_9 1) (gat nilV D2_0 y2_9)), hL6, S58, A56, by simp [ej26_]⟩
     ·replace hL6 := cd_f hb27 hL6;refine DWp.exit ?_;simp only [andThen, leaves, if_true, if_false, reduceIte, Nat.reduceEqDiff];obtain rfl := Option.some.inj hL6;try dsimp only at hL2
      refine .region fun K hK => ?_;simp [ej26_];apply hK;clear hK K;simp only [andThen, leaves];have S59 := Sj26.pick [0] (by decide) rfl;exact ⟨n1, Nat.lt_succ_self _, l2_0, (iadd .i64 y1_8 1), D2_0, hL2, S59, Aj26, by simp [ej26_]⟩
  ·replace hL2 := cd_f hb4 hL2;refine DWp.exit ?_;simp only [andThen, leaves, if_true, if_false, reduceIte, Nat.reduceEqDiff];obtain rfl := Option.some.inj hL2;try dsimp only at hF
   obtain rfl := Option.some.inj hF;exact ⟨by simp, [], by simp [e1_], A1_, D1_0, rfl, S1_.pick [0] (by decide) rfl⟩
end Go.Proofs.Ytjgnpkedkjbmcaa.AL

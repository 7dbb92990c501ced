/- The walks of functions, each with its Lean function: slices.Compare[[]int,int], impl.systems, impl.pairs, impl.Meander], impl.Meander], impl.Meander).isClosed, impl.Meander).stretches, impl.Meander).isWhole, impl.wholes$1, impl.wholes. No condition. -/
import Derived.Test.YtbckijeffiofdaaG1
import Derived.Test.YtbckijeffiofdaaG2
import Derived.Test.YtbckijeffiofdaaG3
import Derived.Test.YtbckijeffiofdaaALD
import Derived.Test.YtbckijeffiofdaaProg
import Derived.KernelRfl
namespace Go.Proofs.Ytbckijeffiofdaa.AL
open Go Go.RowKit
set_option linter.unusedVariables false
set_option linter.unusedSimpArgs false
set_option maxRecDepth 4096
attribute [local simp] n_fn b_add b_sub b_mul b_lt b_le b_gt b_ge b_eq b_ne u_not
theorem ag_28 : aggT Try.prog 28 = some true := by kernel_rfl
theorem ei_22 : einfo Try.prog 22 = some ⟨1, 24, .slice none 0 0⟩ := by kernel_rfl
theorem ei_28 : einfo Try.prog 28 = some ⟨2, 48, .agg #[.slice none 0 0, .slice none 0 0]⟩ := by kernel_rfl
theorem el_46 : elemT Try.prog 46 = some 28 := by kernel_rfl
theorem fa_28_0 : fldT Try.prog 28 0 = some 0 := by kernel_rfl
theorem fa_28_1 : fldT Try.prog 28 1 = some 1 := by kernel_rfl
theorem pl_28 : placeT Try.prog 28 = some (.agg #[.slice none 0 0, .slice none 0 0], fun i => [(0, 1), (1, 1)].toArray[i]?) := by kernel_rfl
theorem sz_28 : sizeT Try.prog 28 = some 2 := by kernel_rfl
theorem ze_28 : zeroT Try.prog 28 = some (.agg #[.slice none 0 0, .slice none 0 0]) := by kernel_rfl
theorem bu_28 {a0 a1 : Value} (t0 : isTup a0 = false) (c0 : a0.cells = #[a0]) (t1 : isTup a1 = false) (c1 : a1.cells = #[a1]) : aBuild Try.prog 28 [(0, a0), (1, a1)] = some (.agg #[a0, a1]) := buildT2 pl_28 rfl rfl t0 c0 t1 c1
def F_impl_Meander_isClosed_L1 (fu : Nat) (k1_0 : Int) (k1_1 : Int) (k1_2 : List Int) (k1_3 : List Int) : Nat → Int → Option (LR (Bool) (Int))
  | 0, _ => none
  | n + 1, y1_7 =>
    bif (ile y1_7 k1_1) then
      bd (
        gd (inL k1_2 y1_7) (
        bd (F_impl_in fu (gat 0 k1_2 y1_7) k1_0 k1_1) fun r1 =>
        bif (bnot r1) then
          some true
        else
          gd (inL k1_3 y1_7) (
          bd (F_impl_in fu (gat 0 k1_3 y1_7) k1_0 k1_1) fun r2 =>
          some (bnot r2)))) fun s12 =>
      bif s12 then
        some (.ret false)
      else
        F_impl_Meander_isClosed_L1 fu k1_0 k1_1 k1_2 k1_3 n (iadd .i64 y1_7 1)
    else
      some (.brk y1_7)
def F_impl_Meander_isClosed (fu : Nat) (x0_0 : List Int) (x0_1 : List Int) (x1 : Int) (x2 : Int) : Option (Bool) :=
  bd (F_impl_Meander_isClosed_L1 fu x1 x2 x0_0 x0_1 fu x1) fun s1 =>
  lr s1 fun s1 =>
  some true
theorem F_impl_Meander_isClosed_w {fu : Nat} {H : AH} {v0_0 : Value} {v0_1 : Value} {x0_0 : List Int} {x0_1 : List Int} {x1 : Int} {x2 : Int} {r : (Bool)} (hx0_0 : Sl H v0_0 (ints x0_0)) (hx0_1 : Sl H v0_1 (ints x0_1)) (hF : F_impl_Meander_isClosed fu x0_0 x0_1 x1 x2 = some r) :
    ACallT Try.prog 93 [(Value.agg #[v0_0, v0_1]), (Value.int .i64 x1), (Value.int .i64 x2)] H (fun u G => AgB (Fr H) H G ∧ u = (Value.bool r) ∧ Sep G (Fr H) []) := by
 refine ACallT.of_body (nt := 34) (rs := [.tmp 6]) Try.func93 rfl rfl rfl rfl ?_;have A0 : AgB (Fr H) H H := .refl _ _;have S0 : Sep H (Fr H) [] := .nil;have hB := Fr.up H;unfold F_impl_Meander_isClosed at hF;obtain ⟨G2, p4, q5, q6, a7, S1⟩ := S0.boxT (hB.le A0.1) 28 [v0_0, v0_1];have A3 := A0.ext (hB.le A0.1) a7;replace S1 : Sep G2 (Fr H) [AL.box p4 [v0_0, v0_1]] := S1;refine .sr fun K hK => ?_;simp [q5, q6, a7.to_pre, cells_agg];apply hK;clear hK K;refine .seq ?_;refine .sr fun K hK => ?_;simp [];apply hK;clear hK K;refine .block ?_;obtain ⟨s8, hL9, hF⟩ := bd_some hF;have S10 := S1.pick [0] (by decide) rfl;refine DWp.loop (fun n env G => ∃ y1_7 : Int, F_impl_Meander_isClosed_L1 fu x1 x2 x0_0 x0_1 n y1_7 = some s8 ∧ Sep G (Fr H) [AL.box p4 [v0_0, v0_1]] ∧ AgB (Fr H) H G ∧ env 1 = some (Value.int .i64 x1) ∧ env 2 = some (Value.int .i64 x2) ∧ env 3 = some p4 ∧ env 7 = some (Value.int .i64 y1_7)) fu ⟨x1, hL9, S10, A3, by simp []⟩ ?_;rintro n1 env1 G1_ ⟨y1_7, hL9, S1_, A1_, e1_1, e1_2, e1_3, e1_7⟩;cases n1 with
 | zero => cases hL9
 | succ n1 =>
  simp only [F_impl_Meander_isClosed_L1] at hL9;refine .seq ?_;refine .sr fun K hK => ?_;simp [e1_1, e1_2, e1_3, e1_7];apply hK;clear hK K;refine DWp.cond' (t := (ile y1_7 x2)) (by simp [e1_1, e1_2, e1_3, e1_7]) (fun hb11 => ?_) (fun hb11 => ?_)
  ·replace hL9 := cd_t hb11 hL9;refine DWp.skip ?_;simp only [andThen, leaves];refine .seq ?_;refine .block ?_;obtain ⟨s12, hL13, hL9⟩ := bd_some hL9;refine DWp.seq (DWp.join (fun env G => Sep G (Fr H) [AL.box p4 [v0_0, v0_1]] ∧ AgB (Fr H) H G ∧ env 1 = some (Value.int .i64 x1) ∧ env 2 = some (Value.int .i64 x2) ∧ env 3 = some p4 ∧ env 7 = some (Value.int .i64 y1_7) ∧ env 33 = some (Value.bool s12)) ?_ ?_)
   ·
    have q15 := S1_.fieldT (P := Try.prog) (k := 0) rfl fa_28_0;have q16 := S1_.loadF (P := Try.prog) (k := 0) rfl sz_22 ag_22 (off := 0) rfl;obtain ⟨g17, hL13⟩ := gd_some hL13;have q18 := idxG (P := Try.prog) (kk := .i64) (hx0_0.agree A1_.agree) el_22 sz_3 g17;have q19 := loadG (P := Try.prog) (hx0_0.agree A1_.agree) sz_3 ag_3 g17 0;obtain ⟨r1, hc20, hL13⟩ := bd_some hL13;refine .region fun K hK => ?_;simp [e1_1, e1_2, e1_3, e1_7, q15, q16, q18, q19];refine CallD.t (F_impl_in_w (fu := fu)  hc20) ?_;rintro _ G22 ⟨a25, rfl, S26⟩;have A24 := A1_.ext (hB.le A1_.1) a25.agree;have S23 : Sep G22 (Fr H) [AL.box p4 [v0_0, v0_1]] := S1_.app a25.agree S26 (fun _ h => h) (hB.le A1_.1);rcases Bool.eq_false_or_eq_true (bnot r1) with hb27 | hb27
    ·replace hL13 := cd_t hb27 hL13;simp [e1_1, e1_2, e1_3, e1_7, hb27, q15, q16, q18, q19, a25.pre];apply hK;clear hK K;simp only [andThen, leaves];have S28 := S23.pick [0] (by decide) rfl;obtain rfl := Option.some.inj hL13;exact ⟨S28, A24, by simp [e1_1, e1_2, e1_3, e1_7]⟩
    ·replace hL13 := cd_f hb27 hL13;have q29 := S23.fieldT (P := Try.prog) (k := 0) rfl fa_28_1;have q30 := S23.loadF (P := Try.prog) (k := 0) rfl sz_22 ag_22 (off := 1) rfl;obtain ⟨g31, hL13⟩ := gd_some hL13;have q32 := idxG (P := Try.prog) (kk := .i64) (hx0_1.agree A24.agree) el_22 sz_3 g31;have q33 := loadG (P := Try.prog) (hx0_1.agree A24.agree) sz_3 ag_3 g31 0;obtain ⟨r2, hc34, hL13⟩ := bd_some hL13;simp [e1_1, e1_2, e1_3, e1_7, hb27, q15, q16, q18, q19, a25.pre, q29, q30, q32, q33];refine CallD.t (F_impl_in_w (fu := fu)  hc34) ?_;rintro _ G36 ⟨a39, rfl, S40⟩;have A38 := A24.ext (hB.le A24.1) a39.agree;have S37 : Sep G36 (Fr H) [AL.box p4 [v0_0, v0_1]] := S23.app a39.agree S40 (fun _ h => h) (hB.le A24.1);simp [e1_1, e1_2, e1_3, e1_7, hb27, q15, q16, q18, q19, a25.pre, q29, q30, q32, q33, a39.pre];apply hK;clear hK K;simp only [andThen, leaves];have S41 := S37.pick [0] (by decide) rfl;obtain rfl := Option.some.inj hL13;exact ⟨S41, A38, by simp [e1_1, e1_2, e1_3, e1_7]⟩
   ·rintro env Gj42 ⟨Sj42, Aj42, ej42_1, ej42_2, ej42_3, ej42_7, ej42_33⟩;refine DWp.cond' (t := s12) (by simp [ej42_1, ej42_2, ej42_3, ej42_7, ej42_33]) (fun hb43 => ?_) (fun hb43 => ?_)
    ·replace hL9 := cd_t hb43 hL9;refine .sr fun K hK => ?_;simp [ej42_1, ej42_2, ej42_3, ej42_7, ej42_33];apply hK;clear hK K;refine DWp.ret ?_;simp only [andThen, leaves];obtain rfl := Option.some.inj hL9;simp only [lr] at hF;obtain rfl := Option.some.inj hF;exact ⟨by simp, [(Value.bool false)], by simp [ej42_1, ej42_2, ej42_3, ej42_7, ej42_33], Aj42, rfl, Sj42.pick [] (by decide) rfl⟩
    ·replace hL9 := cd_f hb43 hL9;refine DWp.skip ?_;simp only [andThen, leaves];refine .region fun K hK => ?_;simp [ej42_1, ej42_2, ej42_3, ej42_7, ej42_33];apply hK;clear hK K;simp only [andThen, leaves];have S44 := Sj42.pick [0] (by decide) rfl;exact ⟨n1, Nat.lt_succ_self _, (iadd .i64 y1_7 1), hL9, S44, Aj42, by simp [ej42_1, ej42_2, ej42_3, ej42_7, ej42_33]⟩
  ·replace hL9 := cd_f hb11 hL9;refine DWp.exit ?_;simp only [andThen, leaves, if_true, if_false, reduceIte, Nat.reduceEqDiff];obtain rfl := Option.some.inj hL9;simp only [lr] at hF;refine .sr fun K hK => ?_;simp [e1_1, e1_2, e1_3, e1_7];apply hK;clear hK K;refine DWp.ret ?_;obtain rfl := Option.some.inj hF;exact ⟨by simp, [(Value.bool true)], by simp [e1_1, e1_2, e1_3, e1_7], A1_, rfl, S1_.pick [] (by decide) rfl⟩
def F_impl_Meander_stretches_L2 (fu : Nat) (k2_0 : List Int) (k2_1 : List Int) (k2_2 : Int) (k2_3 : Int) : Nat → List (List Int) → Int → Option (List (List Int) × Int)
  | 0, _, _ => none
  | n + 1, l2_1, y2_5 =>
    bif (ilt y2_5 (llen k2_0)) then
      bd (
        bif (ilt (iadd .i64 (isub .i64 y2_5 k2_2) 1) (llen k2_0)) then
          bd (F_impl_Meander_isClosed fu k2_0 k2_1 k2_2 y2_5) fun r1 =>
          some r1
        else
          some false) fun s29 =>
      bif s29 then
        gd (l2_1.length + 1 ≤ 4294967296) (
        F_impl_Meander_stretches_L2 fu k2_0 k2_1 k2_2 k2_3 n (lapp l2_1 [[k2_2, y2_5]]) (iadd .i64 y2_5 1))
      else
        F_impl_Meander_stretches_L2 fu k2_0 k2_1 k2_2 k2_3 n l2_1 (iadd .i64 y2_5 1)
    else
      some (l2_1, y2_5)
def F_impl_Meander_stretches_L1 (fu : Nat) (k1_0 : List Int) (k1_1 : List Int) (k1_2 : Int) : Nat → List (List Int) → Int → Option (List (List Int) × Int)
  | 0, _, _ => none
  | n + 1, l1_1, y1_10 =>
    bif (ilt y1_10 k1_2) then
      bd (F_impl_Meander_stretches_L2 fu k1_0 k1_1 y1_10 k1_2 fu l1_1 (iadd .i64 y1_10 1)) fun s2 =>
      F_impl_Meander_stretches_L1 fu k1_0 k1_1 k1_2 n s2.1 (iadd .i64 y1_10 1)
    else
      some (l1_1, y1_10)
def F_impl_Meander_stretches (fu : Nat) (x0_0 : List Int) (x0_1 : List Int) : Option (List (List Int)) :=
  bd (F_impl_Meander_stretches_L1 fu x0_0 x0_1 (llen x0_0) fu [] 0) fun s1 =>
  some s1.1
theorem F_impl_Meander_stretches_w {fu : Nat} {H : AH} {v0_0 : Value} {v0_1 : Value} {x0_0 : List Int} {x0_1 : List Int} {r : (List (List Int))} (hx0_0 : Sl H v0_0 (ints x0_0)) (hx0_1 : Sl H v0_1 (ints x0_1)) (hF : F_impl_Meander_stretches fu x0_0 x0_1 = some r) :
    ACallT Try.prog 101 [(Value.agg #[v0_0, v0_1])] H (fun u G => AgB (Fr H) H G ∧ ∃ u0 : Value, ∃ C0 : List Value, u = u0 ∧ Sep G (Fr H) [rowsC u0 22 3 C0 (List.map ints r)]) := by
 refine ACallT.of_body (nt := 44) (rs := [.tmp 2]) Try.func101 rfl rfl rfl rfl ?_;have A0 : AgB (Fr H) H H := .refl _ _;have S0 : Sep H (Fr H) [] := .nil;have hB := Fr.up H;unfold F_impl_Meander_stretches at hF;obtain ⟨G2, p4, q5, q6, a7, S1⟩ := S0.boxT (hB.le A0.1) 28 [v0_0, v0_1];have A3 := A0.ext (hB.le A0.1) a7;replace S1 : Sep G2 (Fr H) [AL.box p4 [v0_0, v0_1]] := S1;refine .sr fun K hK => ?_;simp [q5, q6, a7.to_pre, cells_agg];apply hK;clear hK K;obtain ⟨v8, G9, q10, S11, a13, _, _⟩ := S1.lit0 (P := Try.prog) (t := 36) (hB.le A3.1) el_36 ei_22 rfl;have A12 := A3.ext (hB.le A3.1) a13;replace S11 : Sep G9 (Fr H) [AL.box p4 [v0_0, v0_1], flat1 v8 22 []] := S11;have S14 : Sep G9 (Fr H) [AL.box p4 [v0_0, v0_1], rowsC v8 22 3 [] (List.map ints [])] := S11.rowsOf0 (k := 1) rfl 3;refine .sr fun K hK => ?_;simp [q10, a13.to_pre];apply hK;clear hK K;refine .seq ?_;have q15 := S14.fieldT (P := Try.prog) (k := 0) rfl fa_28_0;have q16 := S14.loadF (P := Try.prog) (k := 0) rfl sz_22 ag_22 (off := 0) rfl;have q17 := lenG (P := Try.prog) (hx0_0.agree A12.agree) el_22;refine .sr fun K hK => ?_;simp [q15, q16, q17];apply hK;clear hK K;refine .block ?_;obtain ⟨s18, hL19, hF⟩ := bd_some hF;have S20 := S14.pick [0, 1] (by decide) rfl;refine DWp.loop (fun n env G => ∃ l1_1 : List (List Int), ∃ y1_10 : Int, ∃ w1_1 : Value, ∃ D1_1 : List Value, F_impl_Meander_stretches_L1 fu x0_0 x0_1 (llen x0_0) n l1_1 y1_10 = some s18 ∧ Sep G (Fr H) [AL.box p4 [v0_0, v0_1], rowsC w1_1 22 3 D1_1 (List.map ints l1_1)] ∧ AgB (Fr H) H G ∧ env 1 = some p4 ∧ env 3 = some w1_1 ∧ env 9 = some (Value.int .i64 (llen x0_0)) ∧ env 10 = some (Value.int .i64 y1_10)) fu ⟨[], 0, v8, [], hL19, S20, A12, by simp []⟩ ?_;rintro n1 env1 G1_ ⟨l1_1, y1_10, w1_1, D1_1, hL19, S1_, A1_, e1_1, e1_3, e1_9, e1_10⟩;cases n1 with
 | zero => cases hL19
 | succ n1 =>
  simp only [F_impl_Meander_stretches_L1] at hL19;refine .sr fun K hK => ?_;simp [e1_1, e1_3, e1_9, e1_10];apply hK;clear hK K;refine .seq ?_;refine DWp.cond' (t := (ilt y1_10 (llen x0_0))) (by simp [e1_1, e1_3, e1_9, e1_10]) (fun hb21 => ?_) (fun hb21 => ?_)
  ·replace hL19 := cd_t hb21 hL19;refine DWp.skip ?_;simp only [andThen, leaves];refine .seq ?_;refine .block ?_;refine .sr fun K hK => ?_;simp [e1_1, e1_3, e1_9, e1_10];apply hK;clear hK K;refine .sr fun K hK => ?_;simp [e1_1, e1_3, e1_9, e1_10];apply hK;clear hK K;refine .block ?_;obtain ⟨s22, hL23, hL19⟩ := bd_some hL19;have S24 := S1_.pick [0, 1] (by decide) rfl;refine DWp.loop (fun n env G => ∃ l2_1 : List (List Int), ∃ y2_5 : Int, ∃ w2_1 : Value, ∃ D2_1 : List Value, F_impl_Meander_stretches_L2 fu x0_0 x0_1 y1_10 (llen x0_0) n l2_1 y2_5 = some s22 ∧ Sep G (Fr H) [AL.box p4 [v0_0, v0_1], rowsC w2_1 22 3 D2_1 (List.map ints l2_1)] ∧ AgB (Fr H) H G ∧ env 1 = some p4 ∧ env 3 = some w2_1 ∧ env 4 = some (Value.int .i64 y1_10) ∧ env 5 = some (Value.int .i64 y2_5) ∧ env 9 = some (Value.int .i64 (llen x0_0)) ∧ env 10 = some (Value.int .i64 y1_10)) fu ⟨l1_1, (iadd .i64 y1_10 1), w1_1, D1_1, hL23, S24, A1_, by simp [e1_1, e1_3, e1_9, e1_10]⟩ ?_;rintro n2 env2 G2_ ⟨l2_1, y2_5, w2_1, D2_1, hL23, S2_, A2_, e2_1, e2_3, e2_4, e2_5, e2_9, e2_10⟩;cases n2 with
   | zero => cases hL23
   | succ n2 =>
    simp only [F_impl_Meander_stretches_L2] at hL23;refine .seq ?_;have q25 := S2_.fieldT (P := Try.prog) (k := 0) rfl fa_28_0;have q26 := S2_.loadF (P := Try.prog) (k := 0) rfl sz_22 ag_22 (off := 0) rfl;have q27 := lenG (P := Try.prog) (hx0_0.agree A2_.agree) el_22;refine .sr fun K hK => ?_;simp [e2_1, e2_3, e2_4, e2_5, e2_9, e2_10, q25, q26, q27];apply hK;clear hK K;refine DWp.cond' (t := (ilt y2_5 (llen x0_0))) (by simp [e2_1, e2_3, e2_4, e2_5, e2_9, e2_10]) (fun hb28 => ?_) (fun hb28 => ?_)
    ·replace hL23 := cd_t hb28 hL23;refine DWp.skip ?_;simp only [andThen, leaves];refine .seq ?_;refine .block ?_;obtain ⟨s29, hL30, hL23⟩ := bd_some hL23;refine DWp.seq (DWp.join (fun env G => Sep G (Fr H) [AL.box p4 [v0_0, v0_1], rowsC w2_1 22 3 D2_1 (List.map ints l2_1)] ∧ AgB (Fr H) H G ∧ env 1 = some p4 ∧ env 3 = some w2_1 ∧ env 4 = some (Value.int .i64 y1_10) ∧ env 5 = some (Value.int .i64 y2_5) ∧ env 9 = some (Value.int .i64 (llen x0_0)) ∧ env 10 = some (Value.int .i64 y1_10) ∧ env 35 = some (Value.bool s29)) ?_ ?_)
     ·
      have q32 := S2_.fieldT (P := Try.prog) (k := 0) rfl fa_28_0;have q33 := S2_.loadF (P := Try.prog) (k := 0) rfl sz_22 ag_22 (off := 0) rfl;have q34 := lenG (P := Try.prog) (hx0_0.agree A2_.agree) el_22;rcases Bool.eq_false_or_eq_true (ilt (iadd .i64 (isub .i64 y2_5 y1_10) 1) (llen x0_0)) with hb35 | hb35
      ·replace hL30 := cd_t hb35 hL30;have q36 := S2_.loadAgg (P := Try.prog) (k := 0) rfl sz_28 ag_28 rfl;obtain ⟨r1, hc37, hL30⟩ := bd_some hL30;refine .region fun K hK => ?_;simp [e2_1, e2_3, e2_4, e2_5, e2_9, e2_10, hb35, q32, q33, q34, q36, ((hx0_0.agree A2_.agree).tup), ((hx0_1.agree A2_.agree).tup)];refine CallD.t (F_impl_Meander_isClosed_w (fu := fu) (hx0_0.agree A2_.agree) (hx0_1.agree A2_.agree) hc37) ?_;rintro _ G39 ⟨a42, rfl, S43⟩;have A41 := A2_.ext (hB.le A2_.1) a42.agree;have S40 : Sep G39 (Fr H) [AL.box p4 [v0_0, v0_1], rowsC w2_1 22 3 D2_1 (List.map ints l2_1)] := S2_.app a42.agree S43 (fun _ h => h) (hB.le A2_.1);simp [e2_1, e2_3, e2_4, e2_5, e2_9, e2_10, hb35, q32, q33, q34, q36, a42.pre];apply hK;clear hK K;simp only [andThen, leaves];have S44 := S40.pick [0, 1] (by decide) rfl;obtain rfl := Option.some.inj hL30;exact ⟨S44, A41, by simp [e2_1, e2_3, e2_4, e2_5, e2_9, e2_10]⟩
      ·replace hL30 := cd_f hb35 hL30;refine .region fun K hK => ?_;simp [e2_1, e2_3, e2_4, e2_5, e2_9, e2_10, hb35, q32, q33, q34];apply hK;clear hK K;simp only [andThen, leaves];have S45 := S2_.pick [0, 1] (by decide) rfl;obtain rfl := Option.some.inj hL30;exact ⟨S45, A2_, by simp [e2_1, e2_3, e2_4, e2_5, e2_9, e2_10]⟩
     ·rintro env Gj46 ⟨Sj46, Aj46, ej46_1, ej46_3, ej46_4, ej46_5, ej46_9, ej46_10, ej46_35⟩;refine DWp.cond' (t := s29) (by simp [ej46_1, ej46_3, ej46_4, ej46_5, ej46_9, ej46_10, ej46_35]) (fun hb47 => ?_) (fun hb47 => ?_)
      ·replace hL23 := cd_t hb47 hL23;obtain ⟨v48, G49, q50, S51, a53, _, _⟩ := Sj46.lit2 (P := Try.prog) (t := 22) (hB.le Aj46.1) el_22 ei_3 rfl (Value.int .i64 y1_10) (Value.int .i64 y2_5) rfl rfl rfl rfl;have A52 := Aj46.ext (hB.le Aj46.1) a53;replace S51 : Sep G49 (Fr H) [AL.box p4 [v0_0, v0_1], rowsC w2_1 22 3 D2_1 (List.map ints l2_1), flat1 v48 3 (ints [y1_10, y2_5])] := S51;obtain ⟨v55, G56, q57, S58, a60, _, _⟩ := S51.lit1 (P := Try.prog) (t := 36) (hB.le A52.1) el_36 ei_22 rfl v48 ((S51.sl1 (k := 2) rfl).tup) ((S51.sl1 (k := 2) rfl).one);have A59 := A52.ext (hB.le A52.1) a60;replace S58 : Sep G56 (Fr H) [AL.box p4 [v0_0, v0_1], rowsC w2_1 22 3 D2_1 (List.map ints l2_1), flat1 v48 3 (ints [y1_10, y2_5]), flat1 v55 22 [v48]] := S58;have S61 := S58.weak (k := 2) rfl;obtain ⟨g62, hL23⟩ := gd_some hL23;obtain ⟨v68, G63, q64, S65, a67, q64t, _⟩ := S61.pushRow (u := w2_1) (fr := ints) (X := l2_1) (y := [y1_10, y2_5]) (P := Try.prog) (t := 36) (t2 := 36) (j := 1) (k := 2) (by decide) rfl rfl (hB.le A59.1) el_36 el_36 ei_22 rfl (S61.sl1 (k := 3) rfl) g62;have A66 := A59.trans a67;replace S65 : Sep G63 (Fr H) [AL.box p4 [v0_0, v0_1], rowsC v68 22 3 (D2_1 ++ [v48]) (List.map ints (lapp l2_1 [[y1_10, y2_5]])), emp, flat1 v55 22 [v48]] := S65;have q69 := S65.lastV (fr := ints) (k := 1) rfl;try simp only [List.cons_append, List.nil_append] at q69
       refine .region fun K hK => ?_;simp [ej46_1, ej46_3, ej46_4, ej46_5, ej46_9, ej46_10, ej46_35, q69, q50, a53.to_pre, q57, a60.to_pre, ((S51.sl1 (k := 2) rfl).tup), q64, q64t];apply hK;clear hK K;simp only [andThen, leaves];refine .region fun K hK => ?_;simp [ej46_1, ej46_3, ej46_4, ej46_5, ej46_9, ej46_10, ej46_35, q69];apply hK;clear hK K;simp only [andThen, leaves];have S70 := S65.pick [0, 1] (by decide) rfl;exact ⟨n2, Nat.lt_succ_self _, (lapp l2_1 [[y1_10, y2_5]]), (iadd .i64 y2_5 1), v68, (D2_1 ++ [v48]), hL23, S70, A66, by simp [ej46_1, ej46_3, ej46_4, ej46_5, ej46_9, ej46_10, ej46_35, q69]⟩
      ·replace hL23 := cd_f hb47 hL23;refine DWp.skip ?_;simp only [andThen, leaves];refine .region fun K hK => ?_;simp [ej46_1, ej46_3, ej46_4, ej46_5, ej46_9, ej46_10, ej46_35];apply hK;clear hK K;simp only [andThen, leaves];have S71 := Sj46.pick [0, 1] (by decide) rfl;exact ⟨n2, Nat.lt_succ_self _, l2_1, (iadd .i64 y2_5 1), w2_1, D2_1, hL23, S71, Aj46, by simp [ej46_1, ej46_3, ej46_4, ej46_5, ej46_9, ej46_10, ej46_35]⟩
    ·replace hL23 := cd_f hb28 hL23;refine DWp.exit ?_;simp only [andThen, leaves, if_true, if_false, reduceIte, Nat.reduceEqDiff];obtain rfl := Option.some.inj hL23;try dsimp only at hL19
     refine .region fun K hK => ?_;simp [e2_1, e2_3, e2_4, e2_5, e2_9, e2_10];apply hK;clear hK K;simp only [andThen, leaves];have S72 := S2_.pick [0, 1] (by decide) rfl;exact ⟨n1, Nat.lt_succ_self _, l2_1, (iadd .i64 y1_10 1), w2_1, D2_1, hL19, S72, A2_, by simp [e2_1, e2_3, e2_4, e2_5, e2_9, e2_10]⟩
  ·replace hL19 := cd_f hb21 hL19;refine DWp.exit ?_;simp only [andThen, leaves, if_true, if_false, reduceIte, Nat.reduceEqDiff];obtain rfl := Option.some.inj hL19;try dsimp only at hF
   refine .sr fun K hK => ?_;simp [e1_1, e1_3, e1_9, e1_10];apply hK;clear hK K;refine DWp.ret ?_;obtain rfl := Option.some.inj hF;exact ⟨by simp, [w1_1], by simp [e1_1, e1_3, e1_9, e1_10, ((S1_.rd (k := 1) rfl).tup)], A1_, w1_1, D1_1, rfl, S1_.pick [1] (by decide) rfl⟩
def F_impl_Meander_isWhole (fu : Nat) (x0_0 : List Int) (x0_1 : List Int) : Option (Bool) :=
  bif (ilt 0 (llen x0_0)) then
    bd (F_impl_Meander_stretches fu x0_0 x0_1) fun r1 =>
    some (ieq (llen r1) 0)
  else
    some false
theorem F_impl_Meander_isWhole_w {fu : Nat} {H : AH} {v0_0 : Value} {v0_1 : Value} {x0_0 : List Int} {x0_1 : List Int} {r : (Bool)} (hx0_0 : Sl H v0_0 (ints x0_0)) (hx0_1 : Sl H v0_1 (ints x0_1)) (hF : F_impl_Meander_isWhole fu x0_0 x0_1 = some r) :
    ACallT Try.prog 97 [(Value.agg #[v0_0, v0_1])] H (fun u G => AgB (Fr H) H G ∧ u = (Value.bool r) ∧ Sep G (Fr H) []) := by
 refine ACallT.of_body (nt := 13) (rs := [.tmp 2]) Try.func97 rfl rfl rfl rfl ?_;have A0 : AgB (Fr H) H H := .refl _ _;have S0 : Sep H (Fr H) [] := .nil;have hB := Fr.up H;unfold F_impl_Meander_isWhole at hF;obtain ⟨G2, p4, q5, q6, a7, S1⟩ := S0.boxT (hB.le A0.1) 28 [v0_0, v0_1];have A3 := A0.ext (hB.le A0.1) a7;replace S1 : Sep G2 (Fr H) [AL.box p4 [v0_0, v0_1]] := S1;refine .sr fun K hK => ?_;simp [q5, q6, a7.to_pre, cells_agg];apply hK;clear hK K;have q8 := S1.fieldT (P := Try.prog) (k := 0) rfl fa_28_0;have q9 := S1.loadF (P := Try.prog) (k := 0) rfl sz_22 ag_22 (off := 0) rfl;have q10 := lenG (P := Try.prog) (hx0_0.agree A3.agree) el_22;rcases Bool.eq_false_or_eq_true (ilt 0 (llen x0_0)) with hb11 | hb11
 ·replace hF := cd_t hb11 hF;have q12 := S1.loadAgg (P := Try.prog) (k := 0) rfl sz_28 ag_28 rfl;obtain ⟨r1, hc13, hF⟩ := bd_some hF;refine .sr fun K hK => ?_;simp [hb11, q8, q9, q10, q12, ((hx0_0.agree A3.agree).tup), ((hx0_1.agree A3.agree).tup)];refine CallD.t (F_impl_Meander_stretches_w (fu := fu) (hx0_0.agree A3.agree) (hx0_1.agree A3.agree) hc13) ?_;rintro c14_u0 G15 ⟨a18, _, c14_C0, rfl, S19⟩;have A17 := A3.ext (hB.le A3.1) a18.agree;have S16 : Sep G15 (Fr H) [AL.box p4 [v0_0, v0_1], rowsC c14_u0 22 3 c14_C0 (List.map ints r1)] := S1.app a18.agree S19 (fun _ h => h) (hB.le A3.1);have q20 := (S16.rd (k := 1) rfl).lenG (P := Try.prog) el_36;simp [hb11, q8, q9, q10, q12, a18.pre, q20];apply hK;clear hK K;refine DWp.ret ?_;obtain rfl := Option.some.inj hF;exact ⟨by simp, [(Value.bool (ieq (llen r1) 0))], by simp [], A17, rfl, S16.pick [] (by decide) rfl⟩
 ·replace hF := cd_f hb11 hF;refine .sr fun K hK => ?_;simp [hb11, q8, q9, q10];apply hK;clear hK K;refine DWp.ret ?_;obtain rfl := Option.some.inj hF;exact ⟨by simp, [(Value.bool false)], by simp [], A3, rfl, S1.pick [] (by decide) rfl⟩
end Go.Proofs.Ytbckijeffiofdaa.AL

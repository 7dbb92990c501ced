/- The walks of functions, each with its Lean function: spec.l1In, spec.l1All, spec.swSum, spec.swParts, spec.swGood, spec.swArcs, spec.swTogether, spec.swIndex, spec.IndexOf, slices.Clone[[]int,int]. No condition. -/
import Derived.Test.YtigpmjebldgekaaG1
import Derived.Test.YtigpmjebldgekaaG2
import Derived.Test.YtigpmjebldgekaaGSort
import Derived.Test.YtigpmjebldgekaaALD
import Derived.Test.YtigpmjebldgekaaProg
import Derived.KernelRfl
namespace Go.Proofs.Ytigpmjebldgekaa.AL
open Go Go.RowKit
set_option linter.unusedVariables false
set_option linter.unusedSimpArgs false
set_option maxRecDepth 4096
attribute [local simp] n_fn b_add b_sub b_mul b_lt b_le b_gt b_ge b_eq b_ne u_not
theorem un_4 : Try.prog.underlying 4 = some .bool := by kernel_rfl
theorem us_24 : Try.prog.underlying 24 = some (.slice 3) := by kernel_rfl
def F_spec_l1In (fu : Nat) (x0 : Int) (x1 : Int) (x2 : Int) : Option (Bool) :=
  bif (ile x1 x0) then
    some (ile x0 x2)
  else
    some false
theorem F_spec_l1In_w {fu : Nat} {H : AH}  {x0 : Int} {x1 : Int} {x2 : Int} {r : (Bool)}  (hF : F_spec_l1In fu x0 x1 x2 = some r) :
    ACallT Try.prog 58 [(Value.int .i64 x0), (Value.int .i64 x1), (Value.int .i64 x2)] H (fun u G => AgB (Fr H) H G ∧ u = (Value.bool r) ∧ Sep G (Fr H) []) := by
 refine ACallT.of_body (nt := 15) (rs := [.tmp 6]) Try.func58 rfl rfl rfl rfl ?_;have A0 : AgB (Fr H) H H := .refl _ _;have S0 : Sep H (Fr H) [] := .nil;have hB := Fr.up H;unfold F_spec_l1In at hF;refine .sr fun K hK => ?_;simp [];apply hK;clear hK K;rcases Bool.eq_false_or_eq_true (ile x1 x0) with hb1 | hb1
 ·replace hF := cd_t hb1 hF;refine .sr fun K hK => ?_;simp [hb1];apply hK;clear hK K;refine DWp.ret ?_;obtain rfl := Option.some.inj hF;exact ⟨by simp, [(Value.bool (ile x0 x2))], by simp [], A0, rfl, S0.pick [] (by decide) rfl⟩
 ·replace hF := cd_f hb1 hF;refine .sr fun K hK => ?_;simp [hb1];apply hK;clear hK K;refine DWp.ret ?_;obtain rfl := Option.some.inj hF;exact ⟨by simp, [(Value.bool false)], by simp [], A0, rfl, S0.pick [] (by decide) rfl⟩
def F_spec_l1All_L1 (fu : Nat) (k1_0 : Int) (k1_1 : Int) (k1_2 : List Int) (k1_3 : Int) : Nat → Int → Option (LR (Bool) (Int))
  | 0, _ => none
  | n + 1, y1_11 =>
    bif (ilt y1_11 k1_3) then
      gd (inL k1_2 y1_11) (
      bd (F_spec_l1In fu (gat 0 k1_2 y1_11) k1_0 k1_1) fun r1 =>
      bif (bnot r1) then
        some (.ret false)
      else
        F_spec_l1All_L1 fu k1_0 k1_1 k1_2 k1_3 n (iadd .i64 y1_11 1))
    else
      some (.brk y1_11)
def F_spec_l1All (fu : Nat) (x0 : List Int) (x1 : Int) (x2 : Int) : Option (Bool) :=
  bd (F_spec_l1All_L1 fu x1 x2 x0 (llen x0) fu 0) fun s1 =>
  lr s1 fun s1 =>
  some true
theorem F_spec_l1All_w {fu : Nat} {H : AH} {v0 : Value} {x0 : List Int} {x1 : Int} {x2 : Int} {r : (Bool)} (hx0 : Sl H v0 (ints x0)) (hF : F_spec_l1All fu x0 x1 x2 = some r) :
    ACallT Try.prog 48 [v0, (Value.int .i64 x1), (Value.int .i64 x2)] H (fun u G => AgB (Fr H) H G ∧ u = (Value.bool r) ∧ Sep G (Fr H) []) := by
 refine ACallT.of_body (nt := 21) (rs := [.tmp 6]) Try.func48 rfl rfl rfl rfl ?_;have A0 : AgB (Fr H) H H := .refl _ _;have S0 : Sep H (Fr H) [] := .nil;have hB := Fr.up H;unfold F_spec_l1All at hF;refine .sr fun K hK => ?_;simp [];apply hK;clear hK K;refine .seq ?_;have q1 := lenG (P := Try.prog) (hx0.agree A0.agree) el_24;refine .sr fun K hK => ?_;simp [q1];apply hK;clear hK K;refine .block ?_;obtain ⟨s2, hL3, hF⟩ := bd_some hF;have S4 := S0.pick [] (by decide) rfl;refine DWp.loop (fun n env G => ∃ y1_11 : Int, F_spec_l1All_L1 fu x1 x2 x0 (llen x0) n y1_11 = some s2 ∧ Sep G (Fr H) [] ∧ AgB (Fr H) H G ∧ env 1 = some (Value.int .i64 x1) ∧ env 2 = some (Value.int .i64 x2) ∧ env 9 = some v0 ∧ env 10 = some (Value.int .i64 (llen x0)) ∧ env 11 = some (Value.int .i64 y1_11)) fu ⟨0, hL3, S4, A0, by simp []⟩ ?_;rintro n1 env1 G1_ ⟨y1_11, hL3, S1_, A1_, e1_1, e1_2, e1_9, e1_10, e1_11⟩;cases n1 with
 | zero => cases hL3
 | succ n1 =>
  simp only [F_spec_l1All_L1] at hL3;refine .sr fun K hK => ?_;simp [e1_1, e1_2, e1_9, e1_10, e1_11];apply hK;clear hK K;refine .seq ?_;refine DWp.cond' (t := (ilt y1_11 (llen x0))) (by simp [e1_1, e1_2, e1_9, e1_10, e1_11]) (fun hb5 => ?_) (fun hb5 => ?_)
  ·replace hL3 := cd_t hb5 hL3;refine DWp.skip ?_;simp only [andThen, leaves];refine .seq ?_;refine .block ?_;obtain ⟨g6, hL3⟩ := gd_some hL3;have q7 := idxG (P := Try.prog) (kk := .i64) (hx0.agree A1_.agree) el_24 sz_3 g6;have q8 := loadG (P := Try.prog) (hx0.agree A1_.agree) sz_3 ag_3 g6 0;refine .sr fun K hK => ?_;simp [e1_1, e1_2, e1_9, e1_10, e1_11, q7, q8];apply hK;clear hK K;obtain ⟨r1, hc9, hL3⟩ := bd_some hL3;refine .sr fun K hK => ?_;simp [e1_1, e1_2, e1_9, e1_10, e1_11];refine CallD.t (F_spec_l1In_w (fu := fu)  hc9) ?_;rintro _ G11 ⟨a14, rfl, S15⟩;have A13 := A1_.ext (hB.le A1_.1) a14.agree;have S12 : Sep G11 (Fr H) [] := S1_.app a14.agree S15 (fun _ h => h) (hB.le A1_.1);simp [e1_1, e1_2, e1_9, e1_10, e1_11, a14.pre];apply hK;clear hK K;refine DWp.cond' (t := (bnot r1)) (by simp [e1_1, e1_2, e1_9, e1_10, e1_11]) (fun hb16 => ?_) (fun hb16 => ?_)
   ·replace hL3 := cd_t hb16 hL3;refine .sr fun K hK => ?_;simp [e1_1, e1_2, e1_9, e1_10, e1_11];apply hK;clear hK K;refine DWp.ret ?_;simp only [andThen, leaves];obtain rfl := Option.some.inj hL3;simp only [lr] at hF;obtain rfl := Option.some.inj hF;exact ⟨by simp, [(Value.bool false)], by simp [e1_1, e1_2, e1_9, e1_10, e1_11], A13, rfl, S12.pick [] (by decide) rfl⟩
   ·replace hL3 := cd_f hb16 hL3;refine DWp.skip ?_;simp only [andThen, leaves];refine .region fun K hK => ?_;simp [e1_1, e1_2, e1_9, e1_10, e1_11];apply hK;clear hK K;simp only [andThen, leaves];have S17 := S12.pick [] (by decide) rfl;exact ⟨n1, Nat.lt_succ_self _, (iadd .i64 y1_11 1), hL3, S17, A13, by simp [e1_1, e1_2, e1_9, e1_10, e1_11]⟩
  ·replace hL3 := cd_f hb5 hL3;refine DWp.exit ?_;simp only [andThen, leaves, if_true, if_false, reduceIte, Nat.reduceEqDiff];obtain rfl := Option.some.inj hL3;simp only [lr] at hF;refine .sr fun K hK => ?_;simp [e1_1, e1_2, e1_9, e1_10, e1_11];apply hK;clear hK K;refine DWp.ret ?_;obtain rfl := Option.some.inj hF;exact ⟨by simp, [(Value.bool true)], by simp [e1_1, e1_2, e1_9, e1_10, e1_11], A1_, rfl, S1_.pick [] (by decide) rfl⟩
def F_spec_swSum_L1 (fu : Nat) (k1_0 : List Int) (k1_1 : Int) : Nat → Int → Int → Option (Int × Int)
  | 0, _, _ => none
  | n + 1, y1_3, y1_8 =>
    bif (ilt y1_8 k1_1) then
      gd (inL k1_0 y1_8) (
      F_spec_swSum_L1 fu k1_0 k1_1 n (iadd .i64 y1_3 (gat 0 k1_0 y1_8)) (iadd .i64 y1_8 1))
    else
      some (y1_3, y1_8)
def F_spec_swSum (fu : Nat) (x0 : List Int) : Option (Int) :=
  bd (F_spec_swSum_L1 fu x0 (llen x0) fu 0 0) fun s1 =>
  some s1.1
theorem F_spec_swSum_w {fu : Nat} {H : AH} {v0 : Value} {x0 : List Int} {r : (Int)} (hx0 : Sl H v0 (ints x0)) (hF : F_spec_swSum fu x0 = some r) :
    ACallT Try.prog 41 [v0] H (fun u G => AgB (Fr H) H G ∧ u = (Value.int .i64 r) ∧ Sep G (Fr H) []) := by
 refine ACallT.of_body (nt := 17) (rs := [.tmp 2]) Try.func41 rfl rfl rfl rfl ?_;have A0 : AgB (Fr H) H H := .refl _ _;have S0 : Sep H (Fr H) [] := .nil;have hB := Fr.up H;unfold F_spec_swSum at hF;refine .sr fun K hK => ?_;simp [];apply hK;clear hK K;refine .sr fun K hK => ?_;simp [];apply hK;clear hK K;refine .seq ?_;have q1 := lenG (P := Try.prog) (hx0.agree A0.agree) el_24;refine .sr fun K hK => ?_;simp [q1];apply hK;clear hK K;refine .block ?_;obtain ⟨s2, hL3, hF⟩ := bd_some hF;have S4 := S0.pick [] (by decide) rfl;refine DWp.loop (fun n env G => ∃ y1_3 : Int, ∃ y1_8 : Int, F_spec_swSum_L1 fu x0 (llen x0) n y1_3 y1_8 = some s2 ∧ Sep G (Fr H) [] ∧ AgB (Fr H) H G ∧ env 3 = some (Value.int .i64 y1_3) ∧ env 6 = some v0 ∧ env 7 = some (Value.int .i64 (llen x0)) ∧ env 8 = some (Value.int .i64 y1_8)) fu ⟨0, 0, hL3, S4, A0, by simp []⟩ ?_;rintro n1 env1 G1_ ⟨y1_3, y1_8, hL3, S1_, A1_, e1_3, e1_6, e1_7, e1_8⟩;cases n1 with
 | zero => cases hL3
 | succ n1 =>
  simp only [F_spec_swSum_L1] at hL3;refine .sr fun K hK => ?_;simp [e1_3, e1_6, e1_7, e1_8];apply hK;clear hK K;refine .seq ?_;refine DWp.cond' (t := (ilt y1_8 (llen x0))) (by simp [e1_3, e1_6, e1_7, e1_8]) (fun hb5 => ?_) (fun hb5 => ?_)
  ·replace hL3 := cd_t hb5 hL3;refine DWp.skip ?_;simp only [andThen, leaves];refine .seq ?_;refine .block ?_;obtain ⟨g6, hL3⟩ := gd_some hL3;have q7 := idxG (P := Try.prog) (kk := .i64) (hx0.agree A1_.agree) el_24 sz_3 g6;have q8 := loadG (P := Try.prog) (hx0.agree A1_.agree) sz_3 ag_3 g6 0;refine .sr fun K hK => ?_;simp [e1_3, e1_6, e1_7, e1_8, q7, q8];apply hK;clear hK K;refine .region fun K hK => ?_;simp [e1_3, e1_6, e1_7, e1_8];apply hK;clear hK K;simp only [andThen, leaves];refine .region fun K hK => ?_;simp [e1_3, e1_6, e1_7, e1_8];apply hK;clear hK K;simp only [andThen, leaves];have S9 := S1_.pick [] (by decide) rfl;exact ⟨n1, Nat.lt_succ_self _, (iadd .i64 y1_3 (gat 0 x0 y1_8)), (iadd .i64 y1_8 1), hL3, S9, A1_, by simp [e1_3, e1_6, e1_7, e1_8]⟩
  ·replace hL3 := cd_f hb5 hL3;refine DWp.exit ?_;simp only [andThen, leaves, if_true, if_false, reduceIte, Nat.reduceEqDiff];obtain rfl := Option.some.inj hL3;try dsimp only at hF
   refine .sr fun K hK => ?_;simp [e1_3, e1_6, e1_7, e1_8];apply hK;clear hK K;refine DWp.ret ?_;obtain rfl := Option.some.inj hF;exact ⟨by simp, [(Value.int .i64 y1_3)], by simp [e1_3, e1_6, e1_7, e1_8], A1_, rfl, S1_.pick [] (by decide) rfl⟩
def F_spec_swParts (fu : Nat) (x0 : List Int) : Option (Bool) :=
  bd (
    bif (ilt 20 (llen x0)) then
      some true
    else
      bd (F_spec_l1All fu x0 1 20) fun r1 =>
      some (bnot r1)) fun s1 =>
  bif s1 then
    some false
  else
    bd (F_spec_swSum fu x0) fun r2 =>
    some (ile r2 20)
theorem F_spec_swParts_w {fu : Nat} {H : AH} {v0 : Value} {x0 : List Int} {r : (Bool)} (hx0 : Sl H v0 (ints x0)) (hF : F_spec_swParts fu x0 = some r) :
    ACallT Try.prog 37 [v0] H (fun u G => AgB (Fr H) H G ∧ u = (Value.bool r) ∧ Sep G (Fr H) []) := by
 refine ACallT.of_body (nt := 14) (rs := [.tmp 2]) Try.func37 rfl rfl rfl rfl ?_;have A0 : AgB (Fr H) H H := .refl _ _;have S0 : Sep H (Fr H) [] := .nil;have hB := Fr.up H;unfold F_spec_swParts at hF;refine .sr fun K hK => ?_;simp [];apply hK;clear hK K;refine .seq ?_;obtain ⟨s1, hL2, hF⟩ := bd_some hF;refine DWp.seq (DWp.join (fun env G => Sep G (Fr H) [] ∧ AgB (Fr H) H G ∧ env 0 = some v0 ∧ env 10 = some (Value.bool s1)) ?_ ?_)
 ·
  have q4 := lenG (P := Try.prog) (hx0.agree A0.agree) el_24;rcases Bool.eq_false_or_eq_true (ilt 20 (llen x0)) with hb5 | hb5
  ·replace hL2 := cd_t hb5 hL2;refine .region fun K hK => ?_;simp [hb5, q4];apply hK;clear hK K;simp only [andThen, leaves];have S6 := S0.pick [] (by decide) rfl;obtain rfl := Option.some.inj hL2;exact ⟨S6, A0, by simp []⟩
  ·replace hL2 := cd_f hb5 hL2;obtain ⟨r1, hc7, hL2⟩ := bd_some hL2;refine .region fun K hK => ?_;simp [hb5, q4, ((hx0.agree A0.agree).tup)];refine CallD.t (F_spec_l1All_w (fu := fu) (hx0.agree A0.agree) hc7) ?_;rintro _ G9 ⟨a12, rfl, S13⟩;have A11 := A0.ext (hB.le A0.1) a12.agree;have S10 : Sep G9 (Fr H) [] := S0.app a12.agree S13 (fun _ h => h) (hB.le A0.1);simp [hb5, q4, a12.pre];apply hK;clear hK K;simp only [andThen, leaves];have S14 := S10.pick [] (by decide) rfl;obtain rfl := Option.some.inj hL2;exact ⟨S14, A11, by simp []⟩
 ·rintro env Gj15 ⟨Sj15, Aj15, ej15_0, ej15_10⟩;refine DWp.cond' (t := s1) (by simp [ej15_0, ej15_10]) (fun hb16 => ?_) (fun hb16 => ?_)
  ·replace hF := cd_t hb16 hF;refine .sr fun K hK => ?_;simp [ej15_0, ej15_10];apply hK;clear hK K;refine DWp.ret ?_;simp only [andThen, leaves];obtain rfl := Option.some.inj hF;exact ⟨by simp, [(Value.bool false)], by simp [ej15_0, ej15_10], Aj15, rfl, Sj15.pick [] (by decide) rfl⟩
  ·replace hF := cd_f hb16 hF;refine DWp.skip ?_;simp only [andThen, leaves];obtain ⟨r2, hc17, hF⟩ := bd_some hF;refine .sr fun K hK => ?_;simp [ej15_0, ej15_10, ((hx0.agree Aj15.agree).tup)];refine CallD.t (F_spec_swSum_w (fu := fu) (hx0.agree Aj15.agree) hc17) ?_;rintro _ G19 ⟨a22, rfl, S23⟩;have A21 := Aj15.ext (hB.le Aj15.1) a22.agree;have S20 : Sep G19 (Fr H) [] := Sj15.app a22.agree S23 (fun _ h => h) (hB.le Aj15.1);simp [ej15_0, ej15_10, a22.pre];apply hK;clear hK K;refine DWp.ret ?_;obtain rfl := Option.some.inj hF;exact ⟨by simp, [(Value.bool (ile r2 20))], by simp [ej15_0, ej15_10], A21, rfl, S20.pick [] (by decide) rfl⟩
def F_spec_swGood (fu : Nat) (x0_0 : List Int) (x0_1 : List Int) : Option (Bool) :=
  bd (F_spec_swParts fu x0_0) fun r1 =>
  bif r1 then
    bd (F_spec_swParts fu x0_1) fun r2 =>
    bif r2 then
      bd (F_spec_swSum fu x0_0) fun r3 =>
      bd (F_spec_swSum fu x0_1) fun r4 =>
      some (ieq r3 r4)
    else
      some false
  else
    some false
theorem F_spec_swGood_w {fu : Nat} {H : AH} {v0_0 : Value} {v0_1 : Value} {x0_0 : List Int} {x0_1 : List Int} {r : (Bool)} (hx0_0 : Sl H v0_0 (ints x0_0)) (hx0_1 : Sl H v0_1 (ints x0_1)) (hF : F_spec_swGood fu x0_0 x0_1 = some r) :
    ACallT Try.prog 27 [(Value.agg #[v0_0, v0_1])] H (fun u G => AgB (Fr H) H G ∧ u = (Value.bool r) ∧ Sep G (Fr H) []) := by
 refine ACallT.of_body (nt := 20) (rs := [.tmp 2]) Try.func27 rfl rfl rfl rfl ?_;have A0 : AgB (Fr H) H H := .refl _ _;have S0 : Sep H (Fr H) [] := .nil;have hB := Fr.up H;unfold F_spec_swGood at hF;obtain ⟨G2, p4, q5, q6, a7, S1⟩ := S0.boxT (hB.le A0.1) 26 [v0_0, v0_1];have A3 := A0.ext (hB.le A0.1) a7;replace S1 : Sep G2 (Fr H) [AL.box p4 [v0_0, v0_1]] := S1;refine .sr fun K hK => ?_;simp [q5, q6, a7.to_pre, cells_agg];apply hK;clear hK K;have q8 := S1.fieldT (P := Try.prog) (k := 0) rfl fa_26_0;have q9 := S1.loadF (P := Try.prog) (k := 0) rfl sz_24 ag_24 (off := 0) rfl;obtain ⟨r1, hc10, hF⟩ := bd_some hF;refine .sd (B := [0, 1, 3, 7, 15, 31, 63, 127, 255, 511, 1023, 2047, 511, 4607, 16383, 32767, 65535, 131071]) 18 mixed (by kernel_rfl) (by decide) fun K hK => ?_;simp [q8, q9, ((hx0_0.agree A3.agree).tup)];refine CallD.t (F_spec_swParts_w (fu := fu) (hx0_0.agree A3.agree) hc10) ?_;rintro _ G12 ⟨a15, rfl, S16⟩;have A14 := A3.ext (hB.le A3.1) a15.agree;have S13 : Sep G12 (Fr H) [AL.box p4 [v0_0, v0_1]] := S1.app a15.agree S16 (fun _ h => h) (hB.le A3.1);rcases Bool.eq_false_or_eq_true r1 with hb17 | hb17
 ·replace hF := cd_t hb17 hF;have q18 := S13.fieldT (P := Try.prog) (k := 0) rfl fa_26_1;have q19 := S13.loadF (P := Try.prog) (k := 0) rfl sz_24 ag_24 (off := 1) rfl;obtain ⟨r2, hc20, hF⟩ := bd_some hF;simp [hb17, q8, q9, a15.pre, q18, q19, ((hx0_1.agree A14.agree).tup)];refine CallD.t (F_spec_swParts_w (fu := fu) (hx0_1.agree A14.agree) hc20) ?_;rintro _ G22 ⟨a25, rfl, S26⟩;have A24 := A14.ext (hB.le A14.1) a25.agree;have S23 : Sep G22 (Fr H) [AL.box p4 [v0_0, v0_1]] := S13.app a25.agree S26 (fun _ h => h) (hB.le A14.1);rcases Bool.eq_false_or_eq_true r2 with hb27 | hb27
  ·replace hF := cd_t hb27 hF;have q28 := S23.fieldT (P := Try.prog) (k := 0) rfl fa_26_0;have q29 := S23.loadF (P := Try.prog) (k := 0) rfl sz_24 ag_24 (off := 0) rfl;obtain ⟨r3, hc30, hF⟩ := bd_some hF;simp [hb17, hb27, q8, q9, a15.pre, q18, q19, a25.pre, q28, q29, ((hx0_0.agree A24.agree).tup)];refine CallD.t (F_spec_swSum_w (fu := fu) (hx0_0.agree A24.agree) hc30) ?_;rintro _ G32 ⟨a35, rfl, S36⟩;have A34 := A24.ext (hB.le A24.1) a35.agree;have S33 : Sep G32 (Fr H) [AL.box p4 [v0_0, v0_1]] := S23.app a35.agree S36 (fun _ h => h) (hB.le A24.1);have q37 := S33.fieldT (P := Try.prog) (k := 0) rfl fa_26_1;have q38 := S33.loadF (P := Try.prog) (k := 0) rfl sz_24 ag_24 (off := 1) rfl;obtain ⟨r4, hc39, hF⟩ := bd_some hF;simp [hb17, hb27, q8, q9, a15.pre, q18, q19, a25.pre, q28, q29, a35.pre, q37, q38, ((hx0_1.agree A34.agree).tup)];refine CallD.t (F_spec_swSum_w (fu := fu) (hx0_1.agree A34.agree) hc39) ?_;rintro _ G41 ⟨a44, rfl, S45⟩;have A43 := A34.ext (hB.le A34.1) a44.agree;have S42 : Sep G41 (Fr H) [AL.box p4 [v0_0, v0_1]] := S33.app a44.agree S45 (fun _ h => h) (hB.le A34.1);simp [hb17, hb27, q8, q9, a15.pre, q18, q19, a25.pre, q28, q29, a35.pre, q37, q38, a44.pre];apply hK;clear hK K;refine DWp.ret ?_;obtain rfl := Option.some.inj hF;exact ⟨by simp, [(Value.bool (ieq r3 r4))], by simp [], A43, rfl, S42.pick [] (by decide) rfl⟩
  ·replace hF := cd_f hb27 hF;simp [hb17, hb27, q8, q9, a15.pre, q18, q19, a25.pre];apply hK;clear hK K;refine DWp.ret ?_;obtain rfl := Option.some.inj hF;exact ⟨by simp, [(Value.bool false)], by simp [], A24, rfl, S23.pick [] (by decide) rfl⟩
 ·replace hF := cd_f hb17 hF;simp [hb17, q8, q9, a15.pre];apply hK;clear hK K;refine DWp.ret ?_;obtain rfl := Option.some.inj hF;exact ⟨by simp, [(Value.bool false)], by simp [], A14, rfl, S13.pick [] (by decide) rfl⟩
def F_spec_swArcs_L2 (fu : Nat) (k2_0 : Int) (k2_1 : Int) (k2_2 : List Int) (k2_3 : Int) (k2_4 : Int) : Nat → List Int → Int → Option (List Int × Int)
  | 0, _, _ => none
  | n + 1, l2_0, y2_7 =>
    bif (ilt y2_7 k2_1) then
      gd (l2_0.length + [(isub .i64 (isub .i64 (iadd .i64 k2_0 k2_1) 1) y2_7)].length ≤ 4294967296) (
      F_spec_swArcs_L2 fu k2_0 k2_1 k2_2 k2_3 k2_4 n (lapp l2_0 [(isub .i64 (isub .i64 (iadd .i64 k2_0 k2_1) 1) y2_7)]) (iadd .i64 y2_7 1))
    else
      some (l2_0, y2_7)
def F_spec_swArcs_L1 (fu : Nat) (k1_0 : List Int) (k1_1 : Int) : Nat → List Int → Int → Int → Option (List Int × Int × Int)
  | 0, _, _, _ => none
  | n + 1, l1_0, y1_4, y1_10 =>
    bif (ilt y1_10 k1_1) then
      gd (inL k1_0 y1_10) (
      bd (F_spec_swArcs_L2 fu y1_4 (gat 0 k1_0 y1_10) k1_0 k1_1 y1_10 fu l1_0 0) fun s2 =>
      F_spec_swArcs_L1 fu k1_0 k1_1 n s2.1 (iadd .i64 y1_4 (gat 0 k1_0 y1_10)) (iadd .i64 y1_10 1))
    else
      some (l1_0, y1_4, y1_10)
def F_spec_swArcs (fu : Nat) (x0 : List Int) : Option (List Int) :=
  bd (F_spec_swArcs_L1 fu x0 (llen x0) fu (@List.nil Int) 0 0) fun s1 =>
  some s1.1
theorem F_spec_swArcs_w {fu : Nat} {H : AH} {v0 : Value} {x0 : List Int} {r : (List Int)} (hx0 : Sl H v0 (ints x0)) (hF : F_spec_swArcs fu x0 = some r) :
    ACallT Try.prog 54 [v0] H (fun u G => AgB (Fr H) H G ∧ ∃ u0 : Value, u = u0 ∧ Sep G (Fr H) [flat u0 3 (ints r)]) := by
 refine ACallT.of_body (nt := 33) (rs := [.tmp 2]) Try.func54 rfl rfl rfl rfl ?_;have A0 : AgB (Fr H) H H := .refl _ _;have S0 : Sep H (Fr H) [] := .nil;have hB := Fr.up H;unfold F_spec_swArcs at hF;refine .sr fun K hK => ?_;simp [];apply hK;clear hK K;refine .sr fun K hK => ?_;simp [];apply hK;clear hK K;refine .sr fun K hK => ?_;simp [];apply hK;clear hK K;refine .seq ?_;have q1 := lenG (P := Try.prog) (hx0.agree A0.agree) el_24;refine .sr fun K hK => ?_;simp [q1];apply hK;clear hK K;refine .block ?_;have S2 := S0.nilItem (hB.le A0.1) 3;obtain ⟨s3, hL4, hF⟩ := bd_some hF;have S5 := S2.pick [0] (by decide) rfl;refine DWp.loop (fun n env G => ∃ l1_0 : List Int, ∃ y1_4 : Int, ∃ y1_10 : Int, ∃ w1_0 : Value, F_spec_swArcs_L1 fu x0 (llen x0) n l1_0 y1_4 y1_10 = some s3 ∧ Sep G (Fr H) [flat w1_0 3 (ints l1_0)] ∧ AgB (Fr H) H G ∧ env 3 = some w1_0 ∧ env 4 = some (Value.int .i64 y1_4) ∧ env 8 = some v0 ∧ env 9 = some (Value.int .i64 (llen x0)) ∧ env 10 = some (Value.int .i64 y1_10)) fu ⟨(@List.nil Int), 0, 0, (Value.slice none 0 0), hL4, S5, A0, by simp []⟩ ?_;rintro n1 env1 G1_ ⟨l1_0, y1_4, y1_10, w1_0, hL4, S1_, A1_, e1_3, e1_4, e1_8, e1_9, e1_10⟩;cases n1 with
 | zero => cases hL4
 | succ n1 =>
  simp only [F_spec_swArcs_L1] at hL4;refine .sr fun K hK => ?_;simp [e1_3, e1_4, e1_8, e1_9, e1_10];apply hK;clear hK K;refine .seq ?_;refine DWp.cond' (t := (ilt y1_10 (llen x0))) (by simp [e1_3, e1_4, e1_8, e1_9, e1_10]) (fun hb6 => ?_) (fun hb6 => ?_)
  ·replace hL4 := cd_t hb6 hL4;refine DWp.skip ?_;simp only [andThen, leaves];refine .seq ?_;refine .block ?_;obtain ⟨g7, hL4⟩ := gd_some hL4;have q8 := idxG (P := Try.prog) (kk := .i64) (hx0.agree A1_.agree) el_24 sz_3 g7;have q9 := loadG (P := Try.prog) (hx0.agree A1_.agree) sz_3 ag_3 g7 0;refine .sr fun K hK => ?_;simp [e1_3, e1_4, e1_8, e1_9, e1_10, q8, q9];apply hK;clear hK K;refine .seq ?_;refine .sr fun K hK => ?_;simp [e1_3, e1_4, e1_8, e1_9, e1_10];apply hK;clear hK K;refine .block ?_;obtain ⟨s10, hL11, hL4⟩ := bd_some hL4;have S12 := S1_.pick [0] (by decide) rfl;refine DWp.loop (fun n env G => ∃ l2_0 : List Int, ∃ y2_7 : Int, ∃ w2_0 : Value, F_spec_swArcs_L2 fu y1_4 (gat 0 x0 y1_10) x0 (llen x0) y1_10 n l2_0 y2_7 = some s10 ∧ Sep G (Fr H) [flat w2_0 3 (ints l2_0)] ∧ AgB (Fr H) H G ∧ env 3 = some w2_0 ∧ env 4 = some (Value.int .i64 y1_4) ∧ env 6 = some (Value.int .i64 (gat 0 x0 y1_10)) ∧ env 7 = some (Value.int .i64 y2_7) ∧ env 8 = some v0 ∧ env 9 = some (Value.int .i64 (llen x0)) ∧ env 10 = some (Value.int .i64 y1_10)) fu ⟨l1_0, 0, w1_0, hL11, S12, A1_, by simp [e1_3, e1_4, e1_8, e1_9, e1_10]⟩ ?_;rintro n2 env2 G2_ ⟨l2_0, y2_7, w2_0, hL11, S2_, A2_, e2_3, e2_4, e2_6, e2_7, e2_8, e2_9, e2_10⟩;cases n2 with
   | zero => cases hL11
   | succ n2 =>
    simp only [F_spec_swArcs_L2] at hL11;refine .seq ?_;refine .sr fun K hK => ?_;simp [e2_3, e2_4, e2_6, e2_7, e2_8, e2_9, e2_10];apply hK;clear hK K;refine DWp.cond' (t := (ilt y2_7 (gat 0 x0 y1_10))) (by simp [e2_3, e2_4, e2_6, e2_7, e2_8, e2_9, e2_10]) (fun hb13 => ?_) (fun hb13 => ?_)
    ·replace hL11 := cd_t hb13 hL11;refine DWp.skip ?_;simp only [andThen, leaves];refine .seq ?_;refine .block ?_;obtain ⟨v14, G15, q16, S17, a19, _, _⟩ := S2_.lit1 (P := Try.prog) (t := 24) (hB.le A2_.1) el_24 ei_3 rfl (Value.int .i64 (isub .i64 (isub .i64 (iadd .i64 y1_4 (gat 0 x0 y1_10)) 1) y2_7)) rfl rfl;have A18 := A2_.ext (hB.le A2_.1) a19;replace S17 : Sep G15 (Fr H) [flat w2_0 3 (ints l2_0), flat1 v14 3 (ints [(isub .i64 (isub .i64 (iadd .i64 y1_4 (gat 0 x0 y1_10)) 1) y2_7)])] := S17;obtain ⟨g21, hL11⟩ := gd_some hL11;obtain ⟨v27, G22, q23, S24, a26, _, _⟩ := S17.appendG (f := (Value.int .i64)) (xs := l2_0) (ys := [(isub .i64 (isub .i64 (iadd .i64 y1_4 (gat 0 x0 y1_10)) 1) y2_7)]) (P := Try.prog) (t := 24) (t2 := 24) (k := 0) rfl (hB.le A18.1) el_24 el_24 ei_3 rfl (S17.sl1 (k := 1) rfl) g21;have A25 := A18.trans a26;replace S24 : Sep G22 (Fr H) [flat v27 3 (ints (lapp l2_0 [(isub .i64 (isub .i64 (iadd .i64 y1_4 (gat 0 x0 y1_10)) 1) y2_7)])), flat1 v14 3 (ints [(isub .i64 (isub .i64 (iadd .i64 y1_4 (gat 0 x0 y1_10)) 1) y2_7)])] := S24;refine .region fun K hK => ?_;simp [e2_3, e2_4, e2_6, e2_7, e2_8, e2_9, e2_10, q16, a19.to_pre, q23];apply hK;clear hK K;simp only [andThen, leaves];refine .region fun K hK => ?_;simp [e2_3, e2_4, e2_6, e2_7, e2_8, e2_9, e2_10];apply hK;clear hK K;simp only [andThen, leaves];have S28 := S24.pick [0] (by decide) rfl;exact ⟨n2, Nat.lt_succ_self _, (lapp l2_0 [(isub .i64 (isub .i64 (iadd .i64 y1_4 (gat 0 x0 y1_10)) 1) y2_7)]), (iadd .i64 y2_7 1), v27, hL11, S28, A25, by simp [e2_3, e2_4, e2_6, e2_7, e2_8, e2_9, e2_10]⟩
    ·replace hL11 := cd_f hb13 hL11;refine DWp.exit ?_;simp only [andThen, leaves, if_true, if_false, reduceIte, Nat.reduceEqDiff];obtain rfl := Option.some.inj hL11;try dsimp only at hL4
     refine .region fun K hK => ?_;simp [e2_3, e2_4, e2_6, e2_7, e2_8, e2_9, e2_10];apply hK;clear hK K;simp only [andThen, leaves];refine .region fun K hK => ?_;simp [e2_3, e2_4, e2_6, e2_7, e2_8, e2_9, e2_10];apply hK;clear hK K;simp only [andThen, leaves];have S29 := S2_.pick [0] (by decide) rfl;exact ⟨n1, Nat.lt_succ_self _, l2_0, (iadd .i64 y1_4 (gat 0 x0 y1_10)), (iadd .i64 y1_10 1), w2_0, hL4, S29, A2_, by simp [e2_3, e2_4, e2_6, e2_7, e2_8, e2_9, e2_10]⟩
  ·replace hL4 := cd_f hb6 hL4;refine DWp.exit ?_;simp only [andThen, leaves, if_true, if_false, reduceIte, Nat.reduceEqDiff];obtain rfl := Option.some.inj hL4;try dsimp only at hF
   refine .sr fun K hK => ?_;simp [e1_3, e1_4, e1_8, e1_9, e1_10];apply hK;clear hK K;refine DWp.ret ?_;obtain rfl := Option.some.inj hF;exact ⟨by simp, [w1_0], by simp [e1_3, e1_4, e1_8, e1_9, e1_10, ((S1_.sl (k := 0) rfl).tup)], A1_, w1_0, rfl, S1_.pick [0] (by decide) rfl⟩
def F_spec_swTogether_L3 (fu : Nat) (k3_0 : Bool) (k3_1 : List Int) (k3_2 : List Int) (k3_3 : List (List Int)) (k3_4 : Int) (k3_5 : Int) (k3_6 : Int) (k3_7 : Int) : Nat → Int → Int → Option (Int × Int)
  | 0, _, _ => none
  | n + 1, y3_10, y3_42 =>
    bif (ilt y3_42 k3_6) then
      gd (¬ (y3_42 < 0)) (
      bif (ieq (irem (ishr .i64 y3_10 y3_42) 2) 1) then
        gd (inL k3_1 y3_42) (
        gd (¬ ((gat 0 k3_1 y3_42) < 0)) (
        gd (inL k3_2 y3_42) (
        gd (¬ ((gat 0 k3_2 y3_42) < 0)) (
        F_spec_swTogether_L3 fu k3_0 k3_1 k3_2 k3_3 k3_4 k3_5 k3_6 k3_7 n (ior .i64 y3_10 (ior .i64 (ishl .i64 1 (gat 0 k3_1 y3_42)) (ishl .i64 1 (gat 0 k3_2 y3_42)))) (iadd .i64 y3_42 1)))))
      else
        F_spec_swTogether_L3 fu k3_0 k3_1 k3_2 k3_3 k3_4 k3_5 k3_6 k3_7 n y3_10 (iadd .i64 y3_42 1))
    else
      some (y3_10, y3_42)
def F_spec_swTogether_L4 (fu : Nat) (k4_0 : Bool) (k4_1 : List Int) (k4_2 : List Int) (k4_3 : List (List Int)) (k4_4 : Int) (k4_5 : Int) (k4_6 : Int) (k4_7 : Int) : Nat → List Int → Bool → Int → Option (List Int × Bool × Int)
  | 0, _, _, _ => none
  | n + 1, l4_3, y4_14, y4_69 =>
    bif (ilt y4_69 k4_6) then
      gd (¬ (y4_69 < 0)) (
      bif (ieq (irem (ishr .i64 k4_5 y4_69) 2) 1) then
        gd (l4_3.length + [y4_69].length ≤ 4294967296) (
        bif y4_14 then
          F_spec_swTogether_L4 fu k4_0 k4_1 k4_2 k4_3 k4_4 k4_5 k4_6 k4_7 n (lapp l4_3 [y4_69]) true (iadd .i64 y4_69 1)
        else
          gd (inL k4_1 y4_69) (
          bif (ieq (gat 0 k4_1 y4_69) y4_69) then
            F_spec_swTogether_L4 fu k4_0 k4_1 k4_2 k4_3 k4_4 k4_5 k4_6 k4_7 n (lapp l4_3 [y4_69]) true (iadd .i64 y4_69 1)
          else
            gd (inL k4_2 y4_69) (
            F_spec_swTogether_L4 fu k4_0 k4_1 k4_2 k4_3 k4_4 k4_5 k4_6 k4_7 n (lapp l4_3 [y4_69]) (ieq (gat 0 k4_2 y4_69) y4_69) (iadd .i64 y4_69 1))))
      else
        F_spec_swTogether_L4 fu k4_0 k4_1 k4_2 k4_3 k4_4 k4_5 k4_6 k4_7 n l4_3 y4_14 (iadd .i64 y4_69 1))
    else
      some (l4_3, y4_14, y4_69)
def F_spec_swTogether_L2 (fu : Nat) (k2_0 : Bool) (k2_1 : List Int) (k2_2 : List Int) (k2_3 : List (List Int)) (k2_4 : Int) (k2_5 : Int) (k2_6 : Int) : Nat → Int → Int → Option (Int × Int)
  | 0, _, _ => none
  | n + 1, y2_10, y2_11 =>
    bif (ilt y2_11 (llen k2_1)) then
      bd (F_spec_swTogether_L3 fu k2_0 k2_1 k2_2 k2_3 k2_4 y2_11 k2_5 k2_6 fu y2_10 0) fun s3 =>
      F_spec_swTogether_L2 fu k2_0 k2_1 k2_2 k2_3 k2_4 k2_5 k2_6 n s3.1 (iadd .i64 y2_11 1)
    else
      some (y2_10, y2_11)
def F_spec_swTogether_L1 (fu : Nat) (k1_0 : Bool) (k1_1 : List Int) (k1_2 : List Int) (k1_3 : Int) : Nat → List (List Int) → Int → Int → Option (List (List Int) × Int × Int)
  | 0, _, _, _ => none
  | n + 1, l1_2, y1_8, y1_24 =>
    bif (ilt y1_24 k1_3) then
      gd (¬ (y1_24 < 0)) (
      bif (ieq (irem (ishr .i64 y1_8 y1_24) 2) 1) then
        F_spec_swTogether_L1 fu k1_0 k1_1 k1_2 k1_3 n l1_2 y1_8 (iadd .i64 y1_24 1)
      else
        gd (¬ (y1_24 < 0)) (
        bd (F_spec_swTogether_L2 fu k1_0 k1_1 k1_2 l1_2 y1_8 k1_3 y1_24 fu (ishl .i64 1 y1_24) 0) fun s2 =>
        bd (F_spec_swTogether_L4 fu k1_0 k1_1 k1_2 l1_2 (ior .i64 y1_8 s2.1) s2.1 k1_3 y1_24 fu (@List.nil Int) false 0) fun s4 =>
        bif (beq' s4.2.1 k1_0) then
          gd (l1_2.length + 1 ≤ 4294967296) (
          F_spec_swTogether_L1 fu k1_0 k1_1 k1_2 k1_3 n (lapp l1_2 [s4.1]) (ior .i64 y1_8 s2.1) (iadd .i64 y1_24 1))
        else
          F_spec_swTogether_L1 fu k1_0 k1_1 k1_2 k1_3 n l1_2 (ior .i64 y1_8 s2.1) (iadd .i64 y1_24 1)))
    else
      some (l1_2, y1_8, y1_24)
def F_spec_swTogether (fu : Nat) (x0_0 : List Int) (x0_1 : List Int) (x1 : Bool) : Option (List (List Int)) :=
  bd (F_spec_swArcs fu x0_0) fun r1 =>
  bd (F_spec_swArcs fu x0_1) fun r2 =>
  bd (F_spec_swTogether_L1 fu x1 r1 r2 (llen r1) fu (@List.nil (List Int)) 0 0) fun s1 =>
  some s1.1
theorem F_spec_swTogether_w {fu : Nat} {H : AH} {v0_0 : Value} {v0_1 : Value} {x0_0 : List Int} {x0_1 : List Int} {x1 : Bool} {r : (List (List Int))} (hx0_0 : Sl H v0_0 (ints x0_0)) (hx0_1 : Sl H v0_1 (ints x0_1)) (hF : F_spec_swTogether fu x0_0 x0_1 x1 = some r) :
    ACallT Try.prog 44 [(Value.agg #[v0_0, v0_1]), (Value.bool x1)] H (fun u G => AgB (Fr H) H G ∧ ∃ u0 : Value, ∃ C0 : List Value, u = u0 ∧ Sep G (Fr H) [rowsC u0 24 3 C0 (List.map ints r)]) := by
 refine ACallT.of_body (nt := 108) (rs := [.tmp 4]) Try.func44 rfl rfl rfl rfl ?_;have A0 : AgB (Fr H) H H := .refl _ _;have S0 : Sep H (Fr H) [] := .nil;have hB := Fr.up H;unfold F_spec_swTogether at hF;obtain ⟨G2, p4, q5, q6, a7, S1⟩ := S0.boxT (hB.le A0.1) 26 [v0_0, v0_1];have A3 := A0.ext (hB.le A0.1) a7;replace S1 : Sep G2 (Fr H) [AL.box p4 [v0_0, v0_1]] := S1;refine .sr fun K hK => ?_;simp [q5, q6, a7.to_pre, cells_agg];apply hK;clear hK K;have q8 := S1.fieldT (P := Try.prog) (k := 0) rfl fa_26_0;have q9 := S1.loadF (P := Try.prog) (k := 0) rfl sz_24 ag_24 (off := 0) rfl;obtain ⟨r1, hc10, hF⟩ := bd_some hF;refine .sd (B := [0, 1, 3, 0, 8, 31, 63, 127]) 8 mixed (by kernel_rfl) (by decide) fun K hK => ?_;simp [q8, q9, ((hx0_0.agree A3.agree).tup)];refine CallD.t (F_spec_swArcs_w (fu := fu) (hx0_0.agree A3.agree) hc10) ?_;rintro c11_u0 G12 ⟨a15, _, rfl, S16⟩;have A14 := A3.ext (hB.le A3.1) a15.agree;have S13 : Sep G12 (Fr H) [AL.box p4 [v0_0, v0_1], flat c11_u0 3 (ints r1)] := S1.app a15.agree S16 (fun _ h => h) (hB.le A3.1);have q17 := S13.fieldT (P := Try.prog) (k := 0) rfl fa_26_1;have q18 := S13.loadF (P := Try.prog) (k := 0) rfl sz_24 ag_24 (off := 1) rfl;obtain ⟨r2, hc19, hF⟩ := bd_some hF;simp [q8, q9, a15.pre, q17, q18, ((hx0_1.agree A14.agree).tup)];refine CallD.t (F_spec_swArcs_w (fu := fu) (hx0_1.agree A14.agree) hc19) ?_;rintro c20_u0 G21 ⟨a24, _, rfl, S25⟩;have A23 := A14.ext (hB.le A14.1) a24.agree;have S22 : Sep G21 (Fr H) [AL.box p4 [v0_0, v0_1], flat c11_u0 3 (ints r1), flat c20_u0 3 (ints r2)] := S13.app a24.agree S25 (fun _ h => h) (hB.le A14.1);simp [q8, q9, a15.pre, q17, q18, a24.pre];apply hK;clear hK K;refine .sr fun K hK => ?_;simp [];apply hK;clear hK K;refine .sr fun K hK => ?_;simp [];apply hK;clear hK K;refine .seq ?_
 have q26 := lenG (P := Try.prog) (S22.sl (k := 1) rfl) el_24;refine .sr fun K hK => ?_;simp [q26];apply hK;clear hK K;refine .block ?_;have S27 := S22.rowsNil (hB.le A23.1) 24 3;obtain ⟨s28, hL29, hF⟩ := bd_some hF;have S30 := S27.pick [1, 2, 3] (by decide) rfl;refine DWp.loop (fun n env G => ∃ l1_2 : List (List Int), ∃ y1_8 : Int, ∃ y1_24 : Int, ∃ w1_2 : Value, ∃ D1_2 : List Value, F_spec_swTogether_L1 fu x1 r1 r2 (llen r1) n l1_2 y1_8 y1_24 = some s28 ∧ Sep G (Fr H) [flat c11_u0 3 (ints r1), flat c20_u0 3 (ints r2), rowsC w1_2 24 3 D1_2 (List.map ints l1_2)] ∧ AgB (Fr H) H G ∧ env 1 = some (Value.bool x1) ∧ env 5 = some c11_u0 ∧ env 6 = some c20_u0 ∧ env 7 = some w1_2 ∧ env 8 = some (Value.int .i64 y1_8) ∧ env 23 = some (Value.int .i64 (llen r1)) ∧ env 24 = some (Value.int .i64 y1_24)) fu ⟨(@List.nil (List Int)), 0, 0, (Value.slice none 0 0), [], hL29, S30, A23, by simp []⟩ ?_;rintro n1 env1 G1_ ⟨l1_2, y1_8, y1_24, w1_2, D1_2, hL29, S1_, A1_, e1_1, e1_5, e1_6, e1_7, e1_8, e1_23, e1_24⟩;cases n1 with
 | zero => cases hL29
 | succ n1 =>
  simp only [F_spec_swTogether_L1] at hL29;refine .sr fun K hK => ?_;simp [e1_1, e1_5, e1_6, e1_7, e1_8, e1_23, e1_24];apply hK;clear hK K;refine .seq ?_;refine DWp.cond' (t := (ilt y1_24 (llen r1))) (by simp [e1_1, e1_5, e1_6, e1_7, e1_8, e1_23, e1_24]) (fun hb31 => ?_) (fun hb31 => ?_)
  ·replace hL29 := cd_t hb31 hL29;refine DWp.skip ?_;simp only [andThen, leaves];refine .seq ?_;refine .block ?_;refine .sr fun K hK => ?_;simp [e1_1, e1_5, e1_6, e1_7, e1_8, e1_23, e1_24];apply hK;clear hK K;refine .seq ?_;obtain ⟨g32, hL29⟩ := gd_some hL29;have g33 : (2 : Int) ≠ 0 := by decide
   refine .sr fun K hK => ?_;simp [e1_1, e1_5, e1_6, e1_7, e1_8, e1_23, e1_24, b_shr g32, b_rem g33];apply hK;clear hK K;refine DWp.cond' (t := (ieq (irem (ishr .i64 y1_8 y1_24) 2) 1)) (by simp [e1_1, e1_5, e1_6, e1_7, e1_8, e1_23, e1_24]) (fun hb34 => ?_) (fun hb34 => ?_)
   ·replace hL29 := cd_t hb34 hL29;refine DWp.exit ?_;simp only [andThen, leaves, if_true, if_false, reduceIte, Nat.reduceEqDiff];refine .region fun K hK => ?_;simp [e1_1, e1_5, e1_6, e1_7, e1_8, e1_23, e1_24];apply hK;clear hK K;simp only [andThen, leaves];have S35 := S1_.pick [0, 1, 2] (by decide) rfl;exact ⟨n1, Nat.lt_succ_self _, l1_2, y1_8, (iadd .i64 y1_24 1), w1_2, D1_2, hL29, S35, A1_, by simp [e1_1, e1_5, e1_6, e1_7, e1_8, e1_23, e1_24]⟩
   ·replace hL29 := cd_f hb34 hL29;refine DWp.skip ?_;simp only [andThen, leaves];obtain ⟨g36, hL29⟩ := gd_some hL29;refine .sr fun K hK => ?_;simp [e1_1, e1_5, e1_6, e1_7, e1_8, e1_23, e1_24, b_shl g36];apply hK;clear hK K;refine .seq ?_;refine .sr fun K hK => ?_;simp [e1_1, e1_5, e1_6, e1_7, e1_8, e1_23, e1_24];apply hK;clear hK K;refine .block ?_;obtain ⟨s37, hL38, hL29⟩ := bd_some hL29;have S39 := S1_.pick [0, 1, 2] (by decide) rfl;refine DWp.loop (fun n env G => ∃ y2_10 : Int, ∃ y2_11 : Int, F_spec_swTogether_L2 fu x1 r1 r2 l1_2 y1_8 (llen r1) y1_24 n y2_10 y2_11 = some s37 ∧ Sep G (Fr H) [flat c11_u0 3 (ints r1), flat c20_u0 3 (ints r2), rowsC w1_2 24 3 D1_2 (List.map ints l1_2)] ∧ AgB (Fr H) H G ∧ env 1 = some (Value.bool x1) ∧ env 5 = some c11_u0 ∧ env 6 = some c20_u0 ∧ env 7 = some w1_2 ∧ env 8 = some (Value.int .i64 y1_8) ∧ env 10 = some (Value.int .i64 y2_10) ∧ env 11 = some (Value.int .i64 y2_11) ∧ env 23 = some (Value.int .i64 (llen r1)) ∧ env 24 = some (Value.int .i64 y1_24)) fu ⟨(ishl .i64 1 y1_24), 0, hL38, S39, A1_, by simp [e1_1, e1_5, e1_6, e1_7, e1_8, e1_23, e1_24]⟩ ?_;rintro n2 env2 G2_ ⟨y2_10, y2_11, hL38, S2_, A2_, e2_1, e2_5, e2_6, e2_7, e2_8, e2_10, e2_11, e2_23, e2_24⟩;cases n2 with
    | zero => cases hL38
    | succ n2 =>
     simp only [F_spec_swTogether_L2] at hL38;refine .seq ?_;have q40 := lenG (P := Try.prog) (S2_.sl (k := 0) rfl) el_24;refine .sr fun K hK => ?_;simp [e2_1, e2_5, e2_6, e2_7, e2_8, e2_10, e2_11, e2_23, e2_24, q40];apply hK;clear hK K;refine DWp.cond' (t := (ilt y2_11 (llen r1))) (by simp [e2_1, e2_5, e2_6, e2_7, e2_8, e2_10, e2_11, e2_23, e2_24]) (fun hb41 => ?_) (fun hb41 => ?_)
     ·replace hL38 := cd_t hb41 hL38;refine DWp.skip ?_;simp only [andThen, leaves];refine .seq ?_;refine .block ?_;have q42 := lenG (P := Try.prog) (S2_.sl (k := 0) rfl) el_24;refine .sr fun K hK => ?_;simp [e2_1, e2_5, e2_6, e2_7, e2_8, e2_10, e2_11, e2_23, e2_24, q42];apply hK;clear hK K;refine .block ?_;obtain ⟨s43, hL44, hL38⟩ := bd_some hL38;have S45 := S2_.pick [0, 1, 2] (by decide) rfl;refine DWp.loop (fun n env G => ∃ y3_10 : Int, ∃ y3_42 : Int, F_spec_swTogether_L3 fu x1 r1 r2 l1_2 y1_8 y2_11 (llen r1) y1_24 n y3_10 y3_42 = some s43 ∧ Sep G (Fr H) [flat c11_u0 3 (ints r1), flat c20_u0 3 (ints r2), rowsC w1_2 24 3 D1_2 (List.map ints l1_2)] ∧ AgB (Fr H) H G ∧ env 1 = some (Value.bool x1) ∧ env 5 = some c11_u0 ∧ env 6 = some c20_u0 ∧ env 7 = some w1_2 ∧ env 8 = some (Value.int .i64 y1_8) ∧ env 10 = some (Value.int .i64 y3_10) ∧ env 11 = some (Value.int .i64 y2_11) ∧ env 23 = some (Value.int .i64 (llen r1)) ∧ env 24 = some (Value.int .i64 y1_24) ∧ env 41 = some (Value.int .i64 (llen r1)) ∧ env 42 = some (Value.int .i64 y3_42)) fu ⟨y2_10, 0, hL44, S45, A2_, by simp [e2_1, e2_5, e2_6, e2_7, e2_8, e2_10, e2_11, e2_23, e2_24]⟩ ?_;rintro n3 env3 G3_ ⟨y3_10, y3_42, hL44, S3_, A3_, e3_1, e3_5, e3_6, e3_7, e3_8, e3_10, e3_11, e3_23, e3_24, e3_41, e3_42⟩;cases n3 with
      | zero => cases hL44
      | succ n3 =>
       simp only [F_spec_swTogether_L3] at hL44;refine .sr fun K hK => ?_;simp [e3_1, e3_5, e3_6, e3_7, e3_8, e3_10, e3_11, e3_23, e3_24, e3_41, e3_42];apply hK;clear hK K;refine .seq ?_;refine DWp.cond' (t := (ilt y3_42 (llen r1))) (by simp [e3_1, e3_5, e3_6, e3_7, e3_8, e3_10, e3_11, e3_23, e3_24, e3_41, e3_42]) (fun hb46 => ?_) (fun hb46 => ?_)
       ·replace hL44 := cd_t hb46 hL44;refine DWp.skip ?_;simp only [andThen, leaves];refine .seq ?_;refine .block ?_;refine .sr fun K hK => ?_;simp [e3_1, e3_5, e3_6, e3_7, e3_8, e3_10, e3_11, e3_23, e3_24, e3_41, e3_42];apply hK;clear hK K;obtain ⟨g47, hL44⟩ := gd_some hL44;have g48 : (2 : Int) ≠ 0 := by decide
        refine .sr fun K hK => ?_;simp [e3_1, e3_5, e3_6, e3_7, e3_8, e3_10, e3_11, e3_23, e3_24, e3_41, e3_42, b_shr g47, b_rem g48];apply hK;clear hK K;refine DWp.cond' (t := (ieq (irem (ishr .i64 y3_10 y3_42) 2) 1)) (by simp [e3_1, e3_5, e3_6, e3_7, e3_8, e3_10, e3_11, e3_23, e3_24, e3_41, e3_42]) (fun hb49 => ?_) (fun hb49 => ?_)
        ·replace hL44 := cd_t hb49 hL44;obtain ⟨g50, hL44⟩ := gd_some hL44;have q51 := idxG (P := Try.prog) (kk := .i64) (S3_.sl (k := 0) rfl) el_24 sz_3 g50;have q52 := loadG (P := Try.prog) (S3_.sl (k := 0) rfl) sz_3 ag_3 g50 0;obtain ⟨g53, hL44⟩ := gd_some hL44;obtain ⟨g54, hL44⟩ := gd_some hL44;have q55 := idxG (P := Try.prog) (kk := .i64) (S3_.sl (k := 1) rfl) el_24 sz_3 g54;have q56 := loadG (P := Try.prog) (S3_.sl (k := 1) rfl) sz_3 ag_3 g54 0;obtain ⟨g57, hL44⟩ := gd_some hL44;refine .drawn (B := [0, 0, 0, 6, 14, 30, 0, 0, 192, 448, 960, 2046, 4095, 8191]) 14 mixed (by kernel_rfl) (by decide) fun K hK => ?_;simp [e3_1, e3_5, e3_6, e3_7, e3_8, e3_10, e3_11, e3_23, e3_24, e3_41, e3_42, q51, q52, b_shl g53, q55, q56, b_shl g57, b_or];apply hK;clear hK K;simp only [andThen, leaves];refine .region fun K hK => ?_;simp [e3_1, e3_5, e3_6, e3_7, e3_8, e3_10, e3_11, e3_23, e3_24, e3_41, e3_42];apply hK;clear hK K;simp only [andThen, leaves];have S58 := S3_.pick [0, 1, 2] (by decide) rfl;exact ⟨n3, Nat.lt_succ_self _, (ior .i64 y3_10 (ior .i64 (ishl .i64 1 (gat 0 r1 y3_42)) (ishl .i64 1 (gat 0 r2 y3_42)))), (iadd .i64 y3_42 1), hL44, S58, A3_, by simp [e3_1, e3_5, e3_6, e3_7, e3_8, e3_10, e3_11, e3_23, e3_24, e3_41, e3_42]⟩
        ·replace hL44 := cd_f hb49 hL44;refine DWp.skip ?_;simp only [andThen, leaves];refine .region fun K hK => ?_;simp [e3_1, e3_5, e3_6, e3_7, e3_8, e3_10, e3_11, e3_23, e3_24, e3_41, e3_42];apply hK;clear hK K;simp only [andThen, leaves];have S59 := S3_.pick [0, 1, 2] (by decide) rfl;exact ⟨n3, Nat.lt_succ_self _, y3_10, (iadd .i64 y3_42 1), hL44, S59, A3_, by simp [e3_1, e3_5, e3_6, e3_7, e3_8, e3_10, e3_11, e3_23, e3_24, e3_41, e3_42]⟩
       ·replace hL44 := cd_f hb46 hL44;refine DWp.exit ?_;simp only [andThen, leaves, if_true, if_false, reduceIte, Nat.reduceEqDiff];obtain rfl := Option.some.inj hL44;try dsimp only at hL38
        refine .region fun K hK => ?_;simp [e3_1, e3_5, e3_6, e3_7, e3_8, e3_10, e3_11, e3_23, e3_24, e3_41, e3_42];apply hK;clear hK K;simp only [andThen, leaves];have S60 := S3_.pick [0, 1, 2] (by decide) rfl;exact ⟨n2, Nat.lt_succ_self _, y3_10, (iadd .i64 y2_11 1), hL38, S60, A3_, by simp [e3_1, e3_5, e3_6, e3_7, e3_8, e3_10, e3_11, e3_23, e3_24, e3_41, e3_42]⟩
     ·replace hL38 := cd_f hb41 hL38;refine DWp.exit ?_;simp only [andThen, leaves, if_true, if_false, reduceIte, Nat.reduceEqDiff];obtain rfl := Option.some.inj hL38;try dsimp only at hL29
      refine .sr fun K hK => ?_;simp [e2_1, e2_5, e2_6, e2_7, e2_8, e2_10, e2_11, e2_23, e2_24, b_or];apply hK;clear hK K;refine .sr fun K hK => ?_;simp [e2_1, e2_5, e2_6, e2_7, e2_8, e2_10, e2_11, e2_23, e2_24];apply hK;clear hK K;refine .sr fun K hK => ?_;simp [e2_1, e2_5, e2_6, e2_7, e2_8, e2_10, e2_11, e2_23, e2_24];apply hK;clear hK K;refine .seq ?_;have q61 := lenG (P := Try.prog) (S2_.sl (k := 0) rfl) el_24;refine .sr fun K hK => ?_;simp [e2_1, e2_5, e2_6, e2_7, e2_8, e2_10, e2_11, e2_23, e2_24, q61];apply hK;clear hK K;refine .block ?_;have S62 := S2_.nilItem (hB.le A2_.1) 3;obtain ⟨s63, hL64, hL29⟩ := bd_some hL29;have S65 := S62.pick [0, 1, 2, 3] (by decide) rfl;refine DWp.loop (fun n env G => ∃ l4_3 : List Int, ∃ y4_14 : Bool, ∃ y4_69 : Int, ∃ w4_3 : Value, F_spec_swTogether_L4 fu x1 r1 r2 l1_2 (ior .i64 y1_8 y2_10) y2_10 (llen r1) y1_24 n l4_3 y4_14 y4_69 = some s63 ∧ Sep G (Fr H) [flat c11_u0 3 (ints r1), flat c20_u0 3 (ints r2), rowsC w1_2 24 3 D1_2 (List.map ints l1_2), flat w4_3 3 (ints l4_3)] ∧ AgB (Fr H) H G ∧ env 1 = some (Value.bool x1) ∧ env 5 = some c11_u0 ∧ env 6 = some c20_u0 ∧ env 7 = some w1_2 ∧ env 8 = some (Value.int .i64 (ior .i64 y1_8 y2_10)) ∧ env 10 = some (Value.int .i64 y2_10) ∧ env 13 = some w4_3 ∧ env 14 = some (Value.bool y4_14) ∧ env 23 = some (Value.int .i64 (llen r1)) ∧ env 24 = some (Value.int .i64 y1_24) ∧ env 68 = some (Value.int .i64 (llen r1)) ∧ env 69 = some (Value.int .i64 y4_69)) fu ⟨(@List.nil Int), false, 0, (Value.slice none 0 0), hL64, S65, A2_, by simp [e2_1, e2_5, e2_6, e2_7, e2_8, e2_10, e2_11, e2_23, e2_24]⟩ ?_;rintro n2 env2 G2_ ⟨l4_3, y4_14, y4_69, w4_3, hL64, S2_, A2_, e2_1, e2_5, e2_6, e2_7, e2_8, e2_10, e2_13, e2_14, e2_23, e2_24, e2_68, e2_69⟩;cases n2 with
      | zero => cases hL64
      | succ n2 =>
       simp only [F_spec_swTogether_L4] at hL64;refine .sr fun K hK => ?_;simp [e2_1, e2_5, e2_6, e2_7, e2_8, e2_10, e2_13, e2_14, e2_23, e2_24, e2_68, e2_69];apply hK;clear hK K;refine .seq ?_;refine DWp.cond' (t := (ilt y4_69 (llen r1))) (by simp [e2_1, e2_5, e2_6, e2_7, e2_8, e2_10, e2_13, e2_14, e2_23, e2_24, e2_68, e2_69]) (fun hb66 => ?_) (fun hb66 => ?_)
       ·replace hL64 := cd_t hb66 hL64;refine DWp.skip ?_;simp only [andThen, leaves];refine .seq ?_;refine .block ?_;refine .sr fun K hK => ?_;simp [e2_1, e2_5, e2_6, e2_7, e2_8, e2_10, e2_13, e2_14, e2_23, e2_24, e2_68, e2_69];apply hK;clear hK K;obtain ⟨g67, hL64⟩ := gd_some hL64;have g68 : (2 : Int) ≠ 0 := by decide
        refine .sr fun K hK => ?_;simp [e2_1, e2_5, e2_6, e2_7, e2_8, e2_10, e2_13, e2_14, e2_23, e2_24, e2_68, e2_69, b_shr g67, b_rem g68];apply hK;clear hK K;refine DWp.cond' (t := (ieq (irem (ishr .i64 y2_10 y4_69) 2) 1)) (by simp [e2_1, e2_5, e2_6, e2_7, e2_8, e2_10, e2_13, e2_14, e2_23, e2_24, e2_68, e2_69]) (fun hb69 => ?_) (fun hb69 => ?_)
        ·replace hL64 := cd_t hb69 hL64;obtain ⟨v70, G71, q72, S73, a75, _, _⟩ := S2_.lit1 (P := Try.prog) (t := 24) (hB.le A2_.1) el_24 ei_3 rfl (Value.int .i64 y4_69) rfl rfl;have A74 := A2_.ext (hB.le A2_.1) a75;replace S73 : Sep G71 (Fr H) [flat c11_u0 3 (ints r1), flat c20_u0 3 (ints r2), rowsC w1_2 24 3 D1_2 (List.map ints l1_2), flat w4_3 3 (ints l4_3), flat1 v70 3 (ints [y4_69])] := S73;obtain ⟨g77, hL64⟩ := gd_some hL64;obtain ⟨v83, G78, q79, S80, a82, _, _⟩ := S73.appendG (f := (Value.int .i64)) (xs := l4_3) (ys := [y4_69]) (P := Try.prog) (t := 24) (t2 := 24) (k := 3) rfl (hB.le A74.1) el_24 el_24 ei_3 rfl (S73.sl1 (k := 4) rfl) g77;have A81 := A74.trans a82;replace S80 : Sep G78 (Fr H) [flat c11_u0 3 (ints r1), flat c20_u0 3 (ints r2), rowsC w1_2 24 3 D1_2 (List.map ints l1_2), flat v83 3 (ints (lapp l4_3 [y4_69])), flat1 v70 3 (ints [y4_69])] := S80;refine .sr fun K hK => ?_;simp [e2_1, e2_5, e2_6, e2_7, e2_8, e2_10, e2_13, e2_14, e2_23, e2_24, e2_68, e2_69, q72, a75.to_pre, q79];apply hK;clear hK K;rcases Bool.eq_false_or_eq_true y4_14 with hb84 | hb84
         ·replace hL64 := cd_t hb84 hL64;refine .region fun K hK => ?_;simp [e2_1, e2_5, e2_6, e2_7, e2_8, e2_10, e2_13, e2_14, e2_23, e2_24, e2_68, e2_69, hb84];apply hK;clear hK K;simp only [andThen, leaves];refine .region fun K hK => ?_;simp [e2_1, e2_5, e2_6, e2_7, e2_8, e2_10, e2_13, e2_14, e2_23, e2_24, e2_68, e2_69];apply hK;clear hK K;simp only [andThen, leaves];have S85 := S80.pick [0, 1, 2, 3] (by decide) rfl;exact ⟨n2, Nat.lt_succ_self _, (lapp l4_3 [y4_69]), true, (iadd .i64 y4_69 1), v83, hL64, S85, A81, by simp [e2_1, e2_5, e2_6, e2_7, e2_8, e2_10, e2_13, e2_14, e2_23, e2_24, e2_68, e2_69]⟩
         ·replace hL64 := cd_f hb84 hL64;obtain ⟨g86, hL64⟩ := gd_some hL64;have q87 := idxG (P := Try.prog) (kk := .i64) (S80.sl (k := 0) rfl) el_24 sz_3 g86;have q88 := loadG (P := Try.prog) (S80.sl (k := 0) rfl) sz_3 ag_3 g86 0;rcases Bool.eq_false_or_eq_true (ieq (gat 0 r1 y4_69) y4_69) with hb89 | hb89
          ·replace hL64 := cd_t hb89 hL64;refine .region fun K hK => ?_;simp [e2_1, e2_5, e2_6, e2_7, e2_8, e2_10, e2_13, e2_14, e2_23, e2_24, e2_68, e2_69, hb84, hb89, q87, q88];apply hK;clear hK K;simp only [andThen, leaves];refine .region fun K hK => ?_;simp [e2_1, e2_5, e2_6, e2_7, e2_8, e2_10, e2_13, e2_14, e2_23, e2_24, e2_68, e2_69];apply hK;clear hK K;simp only [andThen, leaves];have S90 := S80.pick [0, 1, 2, 3] (by decide) rfl;exact ⟨n2, Nat.lt_succ_self _, (lapp l4_3 [y4_69]), true, (iadd .i64 y4_69 1), v83, hL64, S90, A81, by simp [e2_1, e2_5, e2_6, e2_7, e2_8, e2_10, e2_13, e2_14, e2_23, e2_24, e2_68, e2_69]⟩
          ·replace hL64 := cd_f hb89 hL64;obtain ⟨g91, hL64⟩ := gd_some hL64;have q92 := idxG (P := Try.prog) (kk := .i64) (S80.sl (k := 1) rfl) el_24 sz_3 g91;have q93 := loadG (P := Try.prog) (S80.sl (k := 1) rfl) sz_3 ag_3 g91 0;refine .region fun K hK => ?_;simp [e2_1, e2_5, e2_6, e2_7, e2_8, e2_10, e2_13, e2_14, e2_23, e2_24, e2_68, e2_69, hb84, hb89, q87, q88, q92, q93];apply hK;clear hK K;simp only [andThen, leaves];refine .region fun K hK => ?_;simp [e2_1, e2_5, e2_6, e2_7, e2_8, e2_10, e2_13, e2_14, e2_23, e2_24, e2_68, e2_69];apply hK;clear hK K;simp only [andThen, leaves];have S94 := S80.pick [0, 1, 2, 3] (by decide) rfl;exact ⟨n2, Nat.lt_succ_self _, (lapp l4_3 [y4_69]), (ieq (gat 0 r2 y4_69) y4_69), (iadd .i64 y4_69 1), v83, hL64, S94, A81, by simp [e2_1, e2_5, e2_6, e2_7, e2_8, e2_10, e2_13, e2_14, e2_23, e2_24, e2_68, e2_69]⟩
        ·replace hL64 := cd_f hb69 hL64;refine DWp.skip ?_;simp only [andThen, leaves];refine .region fun K hK => ?_;simp [e2_1, e2_5, e2_6, e2_7, e2_8, e2_10, e2_13, e2_14, e2_23, e2_24, e2_68, e2_69];apply hK;clear hK K;simp only [andThen, leaves];have S95 := S2_.pick [0, 1, 2, 3] (by decide) rfl;exact ⟨n2, Nat.lt_succ_self _, l4_3, y4_14, (iadd .i64 y4_69 1), w4_3, hL64, S95, A2_, by simp [e2_1, e2_5, e2_6, e2_7, e2_8, e2_10, e2_13, e2_14, e2_23, e2_24, e2_68, e2_69]⟩
       ·replace hL64 := cd_f hb66 hL64;refine DWp.exit ?_;simp only [andThen, leaves, if_true, if_false, reduceIte, Nat.reduceEqDiff];obtain rfl := Option.some.inj hL64;try dsimp only at hL29
        refine .sr fun K hK => ?_;simp [e2_1, e2_5, e2_6, e2_7, e2_8, e2_10, e2_13, e2_14, e2_23, e2_24, e2_68, e2_69, b_beq un_4];apply hK;clear hK K;refine DWp.cond' (t := (beq' y4_14 x1)) (by simp [e2_1, e2_5, e2_6, e2_7, e2_8, e2_10, e2_13, e2_14, e2_23, e2_24, e2_68, e2_69]) (fun hb96 => ?_) (fun hb96 => ?_)
        ·replace hL29 := cd_t hb96 hL29;obtain ⟨v97, G98, q99, S100, a102, _, _⟩ := S2_.lit1 (P := Try.prog) (t := 51) (hB.le A2_.1) el_51 ei_24 rfl w4_3 ((S2_.sl (k := 3) rfl).tup) ((S2_.sl (k := 3) rfl).one);have A101 := A2_.ext (hB.le A2_.1) a102;replace S100 : Sep G98 (Fr H) [flat c11_u0 3 (ints r1), flat c20_u0 3 (ints r2), rowsC w1_2 24 3 D1_2 (List.map ints l1_2), flat w4_3 3 (ints l4_3), flat1 v97 24 [w4_3]] := S100;obtain ⟨g103, hL29⟩ := gd_some hL29;obtain ⟨v109, G104, q105, S106, a108, q105t, _⟩ := S100.pushRow (u := w1_2) (fr := ints) (X := l1_2) (y := l4_3) (P := Try.prog) (t := 51) (t2 := 51) (j := 2) (k := 3) (by decide) rfl rfl (hB.le A101.1) el_51 el_51 ei_24 rfl (S100.sl1 (k := 4) rfl) g103;have A107 := A101.trans a108;replace S106 : Sep G104 (Fr H) [flat c11_u0 3 (ints r1), flat c20_u0 3 (ints r2), rowsC v109 24 3 (D1_2 ++ [w4_3]) (List.map ints (lapp l1_2 [l4_3])), emp, flat1 v97 24 [w4_3]] := S106;have q110 := S106.lastV (fr := ints) (k := 2) rfl;try simp only [List.cons_append, List.nil_append] at q110
         refine .region fun K hK => ?_;simp [e2_1, e2_5, e2_6, e2_7, e2_8, e2_10, e2_13, e2_14, e2_23, e2_24, e2_68, e2_69, q110, q99, a102.to_pre, ((S2_.sl (k := 3) rfl).tup), q105, q105t];apply hK;clear hK K;simp only [andThen, leaves];refine .region fun K hK => ?_;simp [e2_1, e2_5, e2_6, e2_7, e2_8, e2_10, e2_13, e2_14, e2_23, e2_24, e2_68, e2_69, q110];apply hK;clear hK K;simp only [andThen, leaves];have S111 := S106.pick [0, 1, 2] (by decide) rfl;exact ⟨n1, Nat.lt_succ_self _, (lapp l1_2 [l4_3]), (ior .i64 y1_8 y2_10), (iadd .i64 y1_24 1), v109, (D1_2 ++ [w4_3]), hL29, S111, A107, by simp [e2_1, e2_5, e2_6, e2_7, e2_8, e2_10, e2_13, e2_14, e2_23, e2_24, e2_68, e2_69, q110]⟩
        ·replace hL29 := cd_f hb96 hL29;refine DWp.skip ?_;simp only [andThen, leaves];refine .region fun K hK => ?_;simp [e2_1, e2_5, e2_6, e2_7, e2_8, e2_10, e2_13, e2_14, e2_23, e2_24, e2_68, e2_69];apply hK;clear hK K;simp only [andThen, leaves];have S112 := S2_.pick [0, 1, 2] (by decide) rfl;exact ⟨n1, Nat.lt_succ_self _, l1_2, (ior .i64 y1_8 y2_10), (iadd .i64 y1_24 1), w1_2, D1_2, hL29, S112, A2_, by simp [e2_1, e2_5, e2_6, e2_7, e2_8, e2_10, e2_13, e2_14, e2_23, e2_24, e2_68, e2_69]⟩
  ·replace hL29 := cd_f hb31 hL29;refine DWp.exit ?_;simp only [andThen, leaves, if_true, if_false, reduceIte, Nat.reduceEqDiff];obtain rfl := Option.some.inj hL29;try dsimp only at hF
   refine .sr fun K hK => ?_;simp [e1_1, e1_5, e1_6, e1_7, e1_8, e1_23, e1_24];apply hK;clear hK K;refine DWp.ret ?_;obtain rfl := Option.some.inj hF;exact ⟨by simp, [w1_2], by simp [e1_1, e1_5, e1_6, e1_7, e1_8, e1_23, e1_24, ((S1_.rd (k := 2) rfl).tup)], A1_, w1_2, D1_2, rfl, S1_.pick [2] (by decide) rfl⟩
def F_spec_swIndex (fu : Nat) (x0_0 : List Int) (x0_1 : List Int) : Option (Int) :=
  bd (F_spec_swTogether fu x0_0 x0_1 false) fun r1 =>
  bd (F_spec_swTogether fu x0_0 x0_1 true) fun r2 =>
  some (isub .i64 (iadd .i64 (imul .i64 2 (llen r1)) (llen r2)) 1)
theorem F_spec_swIndex_w {fu : Nat} {H : AH} {v0_0 : Value} {v0_1 : Value} {x0_0 : List Int} {x0_1 : List Int} {r : (Int)} (hx0_0 : Sl H v0_0 (ints x0_0)) (hx0_1 : Sl H v0_1 (ints x0_1)) (hF : F_spec_swIndex fu x0_0 x0_1 = some r) :
    ACallT Try.prog 28 [(Value.agg #[v0_0, v0_1])] H (fun u G => AgB (Fr H) H G ∧ u = (Value.int .i64 r) ∧ Sep G (Fr H) []) := by
 refine ACallT.of_body (nt := 12) (rs := [.tmp 2]) Try.func28 rfl rfl rfl rfl ?_;have A0 : AgB (Fr H) H H := .refl _ _;have S0 : Sep H (Fr H) [] := .nil;have hB := Fr.up H;unfold F_spec_swIndex at hF;obtain ⟨G2, p4, q5, q6, a7, S1⟩ := S0.boxT (hB.le A0.1) 26 [v0_0, v0_1];have A3 := A0.ext (hB.le A0.1) a7;replace S1 : Sep G2 (Fr H) [AL.box p4 [v0_0, v0_1]] := S1;refine .sr fun K hK => ?_;simp [q5, q6, a7.to_pre, cells_agg];apply hK;clear hK K;have q8 := S1.loadAgg (P := Try.prog) (k := 0) rfl sz_26 ag_26 rfl;obtain ⟨r1, hc9, hF⟩ := bd_some hF;refine .sd (B := [0, 1, 3, 7, 0, 19, 51, 127, 255, 511]) 10 mixed (by kernel_rfl) (by decide) fun K hK => ?_;simp [q8, ((hx0_0.agree A3.agree).tup), ((hx0_1.agree A3.agree).tup)];refine CallD.t (F_spec_swTogether_w (fu := fu) (hx0_0.agree A3.agree) (hx0_1.agree A3.agree) hc9) ?_;rintro c10_u0 G11 ⟨a14, _, c10_C0, rfl, S15⟩;have A13 := A3.ext (hB.le A3.1) a14.agree;have S12 : Sep G11 (Fr H) [AL.box p4 [v0_0, v0_1], rowsC c10_u0 24 3 c10_C0 (List.map ints r1)] := S1.app a14.agree S15 (fun _ h => h) (hB.le A3.1);have q16 := (S12.rd (k := 1) rfl).lenG (P := Try.prog) el_51;have q17 := S12.loadAgg (P := Try.prog) (k := 0) rfl sz_26 ag_26 rfl;obtain ⟨r2, hc18, hF⟩ := bd_some hF;simp [q8, a14.pre, q16, q17, ((hx0_0.agree A13.agree).tup), ((hx0_1.agree A13.agree).tup)];refine CallD.t (F_spec_swTogether_w (fu := fu) (hx0_0.agree A13.agree) (hx0_1.agree A13.agree) hc18) ?_;rintro c19_u0 G20 ⟨a23, _, c19_C0, rfl, S24⟩;have A22 := A13.ext (hB.le A13.1) a23.agree;have S21 : Sep G20 (Fr H) [AL.box p4 [v0_0, v0_1], rowsC c10_u0 24 3 c10_C0 (List.map ints r1), rowsC c19_u0 24 3 c19_C0 (List.map ints r2)] := S12.app a23.agree S24 (fun _ h => h) (hB.le A13.1);have q25 := (S21.rd (k := 2) rfl).lenG (P := Try.prog) el_51
 simp [q8, a14.pre, q16, q17, a23.pre, q25];apply hK;clear hK K;refine DWp.ret ?_;obtain rfl := Option.some.inj hF;exact ⟨by simp, [(Value.int .i64 (isub .i64 (iadd .i64 (imul .i64 2 (llen r1)) (llen r2)) 1))], by simp [], A22, rfl, S21.pick [] (by decide) rfl⟩
def F_spec_IndexOf (fu : Nat) (x0_0 : List Int) (x0_1 : List Int) : Option (Int × Bool) :=
  bd (F_spec_swGood fu x0_0 x0_1) fun r1 =>
  bif (bnot r1) then
    some (0, false)
  else
    bd (F_spec_swIndex fu x0_0 x0_1) fun r2 =>
    some (r2, true)
theorem F_spec_IndexOf_w {fu : Nat} {H : AH} {v0_0 : Value} {v0_1 : Value} {x0_0 : List Int} {x0_1 : List Int} {r : (Int × Bool)} (hx0_0 : Sl H v0_0 (ints x0_0)) (hx0_1 : Sl H v0_1 (ints x0_1)) (hF : F_spec_IndexOf fu x0_0 x0_1 = some r) :
    ACallT Try.prog 7 [(Value.agg #[v0_0, v0_1])] H (fun u G => AgB (Fr H) H G ∧ u = (Value.tuple #[(Value.int .i64 r.1), (Value.bool r.2)]) ∧ Sep G (Fr H) []) := by
 refine ACallT.of_body (nt := 9) (rs := [.tmp 2, .tmp 3]) Try.func7 rfl rfl rfl rfl ?_;have A0 : AgB (Fr H) H H := .refl _ _;have S0 : Sep H (Fr H) [] := .nil;have hB := Fr.up H;unfold F_spec_IndexOf at hF;obtain ⟨G2, p4, q5, q6, a7, S1⟩ := S0.boxT (hB.le A0.1) 26 [v0_0, v0_1];have A3 := A0.ext (hB.le A0.1) a7;replace S1 : Sep G2 (Fr H) [AL.box p4 [v0_0, v0_1]] := S1;refine .sr fun K hK => ?_;simp [q5, q6, a7.to_pre, cells_agg];apply hK;clear hK K;refine .seq ?_;have q8 := S1.loadAgg (P := Try.prog) (k := 0) rfl sz_26 ag_26 rfl;obtain ⟨r1, hc9, hF⟩ := bd_some hF;refine .sr fun K hK => ?_;simp [q8, ((hx0_0.agree A3.agree).tup), ((hx0_1.agree A3.agree).tup)];refine CallD.t (F_spec_swGood_w (fu := fu) (hx0_0.agree A3.agree) (hx0_1.agree A3.agree) hc9) ?_;rintro _ G11 ⟨a14, rfl, S15⟩;have A13 := A3.ext (hB.le A3.1) a14.agree;have S12 : Sep G11 (Fr H) [AL.box p4 [v0_0, v0_1]] := S1.app a14.agree S15 (fun _ h => h) (hB.le A3.1);simp [q8, a14.pre];apply hK;clear hK K;refine DWp.cond' (t := (bnot r1)) (by simp []) (fun hb16 => ?_) (fun hb16 => ?_)
 ·replace hF := cd_t hb16 hF;refine .sr fun K hK => ?_;simp [];apply hK;clear hK K;refine DWp.ret ?_;simp only [andThen, leaves];obtain rfl := Option.some.inj hF;exact ⟨by simp, [(Value.int .i64 0), (Value.bool false)], by simp [], A13, rfl, S12.pick [] (by decide) rfl⟩
 ·replace hF := cd_f hb16 hF;refine DWp.skip ?_;simp only [andThen, leaves];have q17 := S12.loadAgg (P := Try.prog) (k := 0) rfl sz_26 ag_26 rfl;obtain ⟨r2, hc18, hF⟩ := bd_some hF;refine .sr fun K hK => ?_;simp [q17, ((hx0_0.agree A13.agree).tup), ((hx0_1.agree A13.agree).tup)];refine CallD.t (F_spec_swIndex_w (fu := fu) (hx0_0.agree A13.agree) (hx0_1.agree A13.agree) hc18) ?_;rintro _ G20 ⟨a23, rfl, S24⟩;have A22 := A13.ext (hB.le A13.1) a23.agree;have S21 : Sep G20 (Fr H) [AL.box p4 [v0_0, v0_1]] := S12.app a23.agree S24 (fun _ h => h) (hB.le A13.1);simp [q17, a23.pre];apply hK;clear hK K;refine DWp.ret ?_;obtain rfl := Option.some.inj hF;exact ⟨by simp, [(Value.int .i64 r2), (Value.bool true)], by simp [], A22, rfl, S21.pick [] (by decide) rfl⟩
def F_slices_Clone_Sint (fu : Nat) (x0 : List Int) : Option (List Int) :=
  gd ((@List.nil Int).length + x0.length ≤ 4294967296) (
  some (lapp (@List.nil Int) x0))
theorem F_slices_Clone_Sint_w {fu : Nat} {H : AH} {v0 : Value} {x0 : List Int} {r : (List Int)} (hx0 : Sl H v0 (ints x0)) (hF : F_slices_Clone_Sint fu x0 = some r) :
    ACallT Try.prog 29 [v0] H (fun u G => AgB (Fr H) H G ∧ ∃ u0 : Value, u = u0 ∧ Sep G (Fr H) [flat u0 3 (ints r)]) := by
 refine ACallT.of_body (nt := 8) (rs := [.tmp 2]) Try.func29 rfl rfl rfl rfl ?_;have A0 : AgB (Fr H) H H := .refl _ _;have S0 : Sep H (Fr H) [] := .nil;have hB := Fr.up H;by_cases hn0 : v0 = .slice none 0 0
 ·
  subst hn0;have hx1 : x0 = [] := by
   rcases hx0 with ⟨_, h_⟩ | ⟨_, _, _, _, _, h_, _⟩
   ·cases x0 with
    | nil => rfl
    | cons a_ b_ => cases h_
   ·cases h_
  subst hx1;have hF2 : (some [] : Option (List Int)) = some r := by
   rw [← hF];unfold F_slices_Clone_Sint;rw [gd_true (by simp)];rfl
  refine .sr fun K hK => ?_;simp [];apply hK;clear hK K;refine .seq ?_;refine .sr fun K hK => ?_;simp [nil_tt us_24];apply hK;clear hK K;refine DWp.ct (by simp [bnot]) ?_;refine .sr fun K hK => ?_;simp [];apply hK;clear hK K;refine DWp.ret ?_;simp only [andThen, leaves];have S1 := S0.nilItem (hB.le A0.1) 3;obtain rfl := Option.some.inj hF2;exact ⟨by simp, [(Value.slice none 0 0)], by simp [], A0, (Value.slice none 0 0), rfl, S1.pick [0] (by decide) rfl⟩
 ·unfold F_slices_Clone_Sint at hF;refine .sr fun K hK => ?_;simp [];apply hK;clear hK K;refine .seq ?_;refine .sr fun K hK => ?_;simp [nil_ff us_24 (hx0.agree A0.agree) hn0];apply hK;clear hK K;refine DWp.cf (by simp [bnot]) ?_;refine DWp.skip ?_;simp only [andThen, leaves];obtain ⟨v1, G2, q3, S4, a6, _, _⟩ := S0.lit0 (P := Try.prog) (t := 24) (hB.le A0.1) el_24 ei_3 rfl;have A5 := A0.ext (hB.le A0.1) a6;replace S4 : Sep G2 (Fr H) [flat1 v1 3 (ints (@List.nil Int))] := S4;obtain ⟨g8, hF⟩ := gd_some hF;obtain ⟨v14, G9, q10, S11, a13, _, _⟩ := S4.append1 (f := (Value.int .i64)) (xs := (@List.nil Int)) (ys := x0) (P := Try.prog) (t := 24) (t2 := 24) (k := 0) rfl (hB.le A5.1) el_24 el_24 ei_3 rfl (hx0.agree A5.agree) g8;have A12 := A5.trans a13;replace S11 : Sep G9 (Fr H) [flat v14 3 (ints (lapp (@List.nil Int) x0))] := S11;refine .sr fun K hK => ?_;simp [q3, a6.to_pre, q10];apply hK;clear hK K;refine DWp.ret ?_;obtain rfl := Option.some.inj hF;exact ⟨by simp, [v14], by simp [((S11.sl (k := 0) rfl).tup)], A12, v14, rfl, S11.pick [0] (by decide) rfl⟩
end Go.Proofs.Ytigpmjebldgekaa.AL

/- The walks of functions, each with its Lean function: impl.AllWhole, spec.l1In, spec.ahAll, spec.l1Own, spec.siPairs, spec.siClosed, spec.siAll, spec.siWhole, spec.AllWhole, laws.ySame. No condition. -/
import Derived.Test.YtbckijeffiofdaaG1
import Derived.Test.YtbckijeffiofdaaG2
import Derived.Test.YtbckijeffiofdaaG3
import Derived.Test.YtbckijeffiofdaaG4
import Derived.Test.YtbckijeffiofdaaALD
import Derived.Test.YtbckijeffiofdaaProg
import Derived.KernelRfl
namespace Go.Proofs.Ytbckijeffiofdaa.AL
open Go Go.RowKit
set_option linter.unusedVariables false
set_option linter.unusedSimpArgs false
set_option maxRecDepth 4096
attribute [local simp] n_fn b_add b_sub b_mul b_lt b_le b_gt b_ge b_eq b_ne u_not

def F_spec_l1In (fu : Nat) (x0 : Int) (x1 : Int) (x2 : Int) : Option (Bool) :=
  bif (ile x1 x0) then
    some (ile x0 x2)
  else
    some false
theorem F_spec_l1In_w {fu : Nat} {H : AH}  {x0 : Int} {x1 : Int} {x2 : Int} {r : (Bool)}  (hF : F_spec_l1In fu x0 x1 x2 = some r) :
    ACallT Try.prog 106 [(Value.int .i64 x0), (Value.int .i64 x1), (Value.int .i64 x2)] H (fun u G => AgB (Fr H) H G ∧ u = (Value.bool r) ∧ Sep G (Fr H) []) := by
 refine ACallT.of_body (nt := 15) (rs := [.tmp 6]) Try.func106 rfl rfl rfl rfl ?_;have A0 : AgB (Fr H) H H := .refl _ _;have S0 : Sep H (Fr H) [] := .nil;have hB := Fr.up H;unfold F_spec_l1In at hF;refine .sr fun K hK => ?_;simp [];apply hK;clear hK K;rcases Bool.eq_false_or_eq_true (ile x1 x0) with hb1 | hb1
 ·replace hF := cd_t hb1 hF;refine .sr fun K hK => ?_;simp [hb1];apply hK;clear hK K;refine DWp.ret ?_;obtain rfl := Option.some.inj hF;exact ⟨by simp, [(Value.bool (ile x0 x2))], by simp [], A0, rfl, S0.pick [] (by decide) rfl⟩
 ·replace hF := cd_f hb1 hF;refine .sr fun K hK => ?_;simp [hb1];apply hK;clear hK K;refine DWp.ret ?_;obtain rfl := Option.some.inj hF;exact ⟨by simp, [(Value.bool false)], by simp [], A0, rfl, S0.pick [] (by decide) rfl⟩
def F_spec_l1Own (fu : Nat) (x0 : List Int) : Option (List Int) :=
  gd ((@List.nil Int).length + x0.length ≤ 4294967296) (
  some (lapp (@List.nil Int) x0))
theorem F_spec_l1Own_w {fu : Nat} {H : AH} {v0 : Value} {x0 : List Int} {r : (List Int)} (hx0 : Sl H v0 (ints x0)) (hF : F_spec_l1Own fu x0 = some r) :
    ACallT Try.prog 141 [v0] H (fun u G => AgB (Fr H) H G ∧ ∃ u0 : Value, u = u0 ∧ Sep G (Fr H) [flat u0 3 (ints r)]) := by
 refine ACallT.of_body (nt := 6) (rs := [.tmp 2]) Try.func141 rfl rfl rfl rfl ?_;have A0 : AgB (Fr H) H H := .refl _ _;have S0 : Sep H (Fr H) [] := .nil;have hB := Fr.up H;unfold F_spec_l1Own at hF;refine .sr fun K hK => ?_;simp [];apply hK;clear hK K;obtain ⟨v1, G2, q3, S4, a6, _, _⟩ := S0.lit0 (P := Try.prog) (t := 22) (hB.le A0.1) el_22 ei_3 rfl;have A5 := A0.ext (hB.le A0.1) a6;replace S4 : Sep G2 (Fr H) [flat1 v1 3 (ints (@List.nil Int))] := S4;obtain ⟨g8, hF⟩ := gd_some hF;obtain ⟨v14, G9, q10, S11, a13, _, _⟩ := S4.append1 (f := (Value.int .i64)) (xs := (@List.nil Int)) (ys := x0) (P := Try.prog) (t := 22) (t2 := 22) (k := 0) rfl (hB.le A5.1) el_22 el_22 ei_3 rfl (hx0.agree A5.agree) g8;have A12 := A5.trans a13;replace S11 : Sep G9 (Fr H) [flat v14 3 (ints (lapp (@List.nil Int) x0))] := S11;refine .sr fun K hK => ?_;simp [q3, a6.to_pre, q10];apply hK;clear hK K;refine DWp.ret ?_;obtain rfl := Option.some.inj hF;exact ⟨by simp, [v14], by simp [((S11.sl (k := 0) rfl).tup)], A12, v14, rfl, S11.pick [0] (by decide) rfl⟩
def F_spec_siClosed_L1 (fu : Nat) (k1_0 : Int) (k1_1 : Int) (k1_2 : List Int) (k1_3 : List Int) : Nat → Int → Option (LR (Bool) (Int))
  | 0, _ => none
  | n + 1, y1_7 =>
    bif (ile y1_7 k1_1) then
      bd (
        gd (inL k1_2 y1_7) (
        bd (F_spec_l1In fu (gat 0 k1_2 y1_7) k1_0 k1_1) fun r1 =>
        bif (bnot r1) then
          some true
        else
          gd (inL k1_3 y1_7) (
          bd (F_spec_l1In fu (gat 0 k1_3 y1_7) k1_0 k1_1) fun r2 =>
          some (bnot r2)))) fun s12 =>
      bif s12 then
        some (.ret false)
      else
        F_spec_siClosed_L1 fu k1_0 k1_1 k1_2 k1_3 n (iadd .i64 y1_7 1)
    else
      some (.brk y1_7)
def F_spec_siClosed (fu : Nat) (x0_0 : List Int) (x0_1 : List Int) (x1 : Int) (x2 : Int) : Option (Bool) :=
  bd (F_spec_siClosed_L1 fu x1 x2 x0_0 x0_1 fu x1) fun s1 =>
  lr s1 fun s1 =>
  some true
theorem F_spec_siClosed_w {fu : Nat} {H : AH} {v0_0 : Value} {v0_1 : Value} {x0_0 : List Int} {x0_1 : List Int} {x1 : Int} {x2 : Int} {r : (Bool)} (hx0_0 : Sl H v0_0 (ints x0_0)) (hx0_1 : Sl H v0_1 (ints x0_1)) (hF : F_spec_siClosed fu x0_0 x0_1 x1 x2 = some r) :
    ACallT Try.prog 90 [(Value.agg #[v0_0, v0_1]), (Value.int .i64 x1), (Value.int .i64 x2)] H (fun u G => AgB (Fr H) H G ∧ u = (Value.bool r) ∧ Sep G (Fr H) []) := by
 refine ACallT.of_body (nt := 34) (rs := [.tmp 6]) Try.func90 rfl rfl rfl rfl ?_;have A0 : AgB (Fr H) H H := .refl _ _;have S0 : Sep H (Fr H) [] := .nil;have hB := Fr.up H;unfold F_spec_siClosed at hF;obtain ⟨G2, p4, q5, q6, a7, S1⟩ := S0.boxT (hB.le A0.1) 28 [v0_0, v0_1];have A3 := A0.ext (hB.le A0.1) a7;replace S1 : Sep G2 (Fr H) [AL.box p4 [v0_0, v0_1]] := S1;refine .sr fun K hK => ?_;simp [q5, q6, a7.to_pre, cells_agg];apply hK;clear hK K;refine .seq ?_;refine .sr fun K hK => ?_;simp [];apply hK;clear hK K;refine .block ?_;obtain ⟨s8, hL9, hF⟩ := bd_some hF;have S10 := S1.pick [0] (by decide) rfl;refine DWp.loop (fun n env G => ∃ y1_7 : Int, F_spec_siClosed_L1 fu x1 x2 x0_0 x0_1 n y1_7 = some s8 ∧ Sep G (Fr H) [AL.box p4 [v0_0, v0_1]] ∧ AgB (Fr H) H G ∧ env 1 = some (Value.int .i64 x1) ∧ env 2 = some (Value.int .i64 x2) ∧ env 3 = some p4 ∧ env 7 = some (Value.int .i64 y1_7)) fu ⟨x1, hL9, S10, A3, by simp []⟩ ?_;rintro n1 env1 G1_ ⟨y1_7, hL9, S1_, A1_, e1_1, e1_2, e1_3, e1_7⟩;cases n1 with
 | zero => cases hL9
 | succ n1 =>
  simp only [F_spec_siClosed_L1] at hL9;refine .seq ?_;refine .sr fun K hK => ?_;simp [e1_1, e1_2, e1_3, e1_7];apply hK;clear hK K;refine DWp.cond' (t := (ile y1_7 x2)) (by simp [e1_1, e1_2, e1_3, e1_7]) (fun hb11 => ?_) (fun hb11 => ?_)
  ·replace hL9 := cd_t hb11 hL9;refine DWp.skip ?_;simp only [andThen, leaves];refine .seq ?_;refine .block ?_;obtain ⟨s12, hL13, hL9⟩ := bd_some hL9;refine DWp.seq (DWp.join (fun env G => Sep G (Fr H) [AL.box p4 [v0_0, v0_1]] ∧ AgB (Fr H) H G ∧ env 1 = some (Value.int .i64 x1) ∧ env 2 = some (Value.int .i64 x2) ∧ env 3 = some p4 ∧ env 7 = some (Value.int .i64 y1_7) ∧ env 33 = some (Value.bool s12)) ?_ ?_)
   ·
    have q15 := S1_.fieldT (P := Try.prog) (k := 0) rfl fa_28_0;have q16 := S1_.loadF (P := Try.prog) (k := 0) rfl sz_22 ag_22 (off := 0) rfl;obtain ⟨g17, hL13⟩ := gd_some hL13;have q18 := idxG (P := Try.prog) (kk := .i64) (hx0_0.agree A1_.agree) el_22 sz_3 g17;have q19 := loadG (P := Try.prog) (hx0_0.agree A1_.agree) sz_3 ag_3 g17 0;obtain ⟨r1, hc20, hL13⟩ := bd_some hL13;refine .region fun K hK => ?_;simp [e1_1, e1_2, e1_3, e1_7, q15, q16, q18, q19];refine CallD.t (F_spec_l1In_w (fu := fu)  hc20) ?_;rintro _ G22 ⟨a25, rfl, S26⟩;have A24 := A1_.ext (hB.le A1_.1) a25.agree;have S23 : Sep G22 (Fr H) [AL.box p4 [v0_0, v0_1]] := S1_.app a25.agree S26 (fun _ h => h) (hB.le A1_.1);rcases Bool.eq_false_or_eq_true (bnot r1) with hb27 | hb27
    ·replace hL13 := cd_t hb27 hL13;simp [e1_1, e1_2, e1_3, e1_7, hb27, q15, q16, q18, q19, a25.pre];apply hK;clear hK K;simp only [andThen, leaves];have S28 := S23.pick [0] (by decide) rfl;obtain rfl := Option.some.inj hL13;exact ⟨S28, A24, by simp [e1_1, e1_2, e1_3, e1_7]⟩
    ·replace hL13 := cd_f hb27 hL13;have q29 := S23.fieldT (P := Try.prog) (k := 0) rfl fa_28_1;have q30 := S23.loadF (P := Try.prog) (k := 0) rfl sz_22 ag_22 (off := 1) rfl;obtain ⟨g31, hL13⟩ := gd_some hL13;have q32 := idxG (P := Try.prog) (kk := .i64) (hx0_1.agree A24.agree) el_22 sz_3 g31;have q33 := loadG (P := Try.prog) (hx0_1.agree A24.agree) sz_3 ag_3 g31 0;obtain ⟨r2, hc34, hL13⟩ := bd_some hL13;simp [e1_1, e1_2, e1_3, e1_7, hb27, q15, q16, q18, q19, a25.pre, q29, q30, q32, q33];refine CallD.t (F_spec_l1In_w (fu := fu)  hc34) ?_;rintro _ G36 ⟨a39, rfl, S40⟩;have A38 := A24.ext (hB.le A24.1) a39.agree;have S37 : Sep G36 (Fr H) [AL.box p4 [v0_0, v0_1]] := S23.app a39.agree S40 (fun _ h => h) (hB.le A24.1);simp [e1_1, e1_2, e1_3, e1_7, hb27, q15, q16, q18, q19, a25.pre, q29, q30, q32, q33, a39.pre];apply hK;clear hK K;simp only [andThen, leaves];have S41 := S37.pick [0] (by decide) rfl;obtain rfl := Option.some.inj hL13;exact ⟨S41, A38, by simp [e1_1, e1_2, e1_3, e1_7]⟩
   ·rintro env Gj42 ⟨Sj42, Aj42, ej42_1, ej42_2, ej42_3, ej42_7, ej42_33⟩;refine DWp.cond' (t := s12) (by simp [ej42_1, ej42_2, ej42_3, ej42_7, ej42_33]) (fun hb43 => ?_) (fun hb43 => ?_)
    ·replace hL9 := cd_t hb43 hL9;refine .sr fun K hK => ?_;simp [ej42_1, ej42_2, ej42_3, ej42_7, ej42_33];apply hK;clear hK K;refine DWp.ret ?_;simp only [andThen, leaves];obtain rfl := Option.some.inj hL9;simp only [lr] at hF;obtain rfl := Option.some.inj hF;exact ⟨by simp, [(Value.bool false)], by simp [ej42_1, ej42_2, ej42_3, ej42_7, ej42_33], Aj42, rfl, Sj42.pick [] (by decide) rfl⟩
    ·replace hL9 := cd_f hb43 hL9;refine DWp.skip ?_;simp only [andThen, leaves];refine .region fun K hK => ?_;simp [ej42_1, ej42_2, ej42_3, ej42_7, ej42_33];apply hK;clear hK K;simp only [andThen, leaves];have S44 := Sj42.pick [0] (by decide) rfl;exact ⟨n1, Nat.lt_succ_self _, (iadd .i64 y1_7 1), hL9, S44, Aj42, by simp [ej42_1, ej42_2, ej42_3, ej42_7, ej42_33]⟩
  ·replace hL9 := cd_f hb11 hL9;refine DWp.exit ?_;simp only [andThen, leaves, if_true, if_false, reduceIte, Nat.reduceEqDiff];obtain rfl := Option.some.inj hL9;simp only [lr] at hF;refine .sr fun K hK => ?_;simp [e1_1, e1_2, e1_3, e1_7];apply hK;clear hK K;refine DWp.ret ?_;obtain rfl := Option.some.inj hF;exact ⟨by simp, [(Value.bool true)], by simp [e1_1, e1_2, e1_3, e1_7], A1_, rfl, S1_.pick [] (by decide) rfl⟩
def F_spec_siAll_L2 (fu : Nat) (k2_0 : List Int) (k2_1 : List Int) (k2_2 : Int) (k2_3 : Int) : Nat → List (List Int) → Int → Option (List (List Int) × Int)
  | 0, _, _ => none
  | n + 1, l2_1, y2_6 =>
    bif (ilt y2_6 k2_2) then
      bd (
        bif (ilt (iadd .i64 (isub .i64 y2_6 k2_3) 1) k2_2) then
          bd (F_spec_siClosed fu k2_0 k2_1 k2_3 y2_6) fun r1 =>
          some r1
        else
          some false) fun s20 =>
      bif s20 then
        gd (l2_1.length + 1 ≤ 4294967296) (
        F_spec_siAll_L2 fu k2_0 k2_1 k2_2 k2_3 n (lapp l2_1 [[k2_3, y2_6]]) (iadd .i64 y2_6 1))
      else
        F_spec_siAll_L2 fu k2_0 k2_1 k2_2 k2_3 n l2_1 (iadd .i64 y2_6 1)
    else
      some (l2_1, y2_6)
def F_spec_siAll_L1 (fu : Nat) (k1_0 : List Int) (k1_1 : List Int) (k1_2 : Int) : Nat → List (List Int) → Int → Option (List (List Int) × Int)
  | 0, _, _ => none
  | n + 1, l1_1, y1_5 =>
    bif (ilt y1_5 k1_2) then
      bd (F_spec_siAll_L2 fu k1_0 k1_1 k1_2 y1_5 fu l1_1 (iadd .i64 y1_5 1)) fun s2 =>
      F_spec_siAll_L1 fu k1_0 k1_1 k1_2 n s2.1 (iadd .i64 y1_5 1)
    else
      some (l1_1, y1_5)
def F_spec_siAll (fu : Nat) (x0_0 : List Int) (x0_1 : List Int) : Option (List (List Int)) :=
  bd (F_spec_siAll_L1 fu x0_0 x0_1 (llen x0_0) fu (@List.nil (List Int)) 0) fun s1 =>
  some s1.1
theorem F_spec_siAll_w {fu : Nat} {H : AH} {v0_0 : Value} {v0_1 : Value} {x0_0 : List Int} {x0_1 : List Int} {r : (List (List Int))} (hx0_0 : Sl H v0_0 (ints x0_0)) (hx0_1 : Sl H v0_1 (ints x0_1)) (hF : F_spec_siAll fu x0_0 x0_1 = some r) :
    ACallT Try.prog 100 [(Value.agg #[v0_0, v0_1])] H (fun u G => AgB (Fr H) H G ∧ ∃ u0 : Value, ∃ C0 : List Value, u = u0 ∧ Sep G (Fr H) [rowsC u0 22 3 C0 (List.map ints r)]) := by
 refine ACallT.of_body (nt := 41) (rs := [.tmp 2]) Try.func100 rfl rfl rfl rfl ?_;have A0 : AgB (Fr H) H H := .refl _ _;have S0 : Sep H (Fr H) [] := .nil;have hB := Fr.up H;unfold F_spec_siAll at hF;obtain ⟨G2, p4, q5, q6, a7, S1⟩ := S0.boxT (hB.le A0.1) 28 [v0_0, v0_1];have A3 := A0.ext (hB.le A0.1) a7;replace S1 : Sep G2 (Fr H) [AL.box p4 [v0_0, v0_1]] := S1;refine .sr fun K hK => ?_;simp [q5, q6, a7.to_pre, cells_agg];apply hK;clear hK K;have q8 := S1.fieldT (P := Try.prog) (k := 0) rfl fa_28_0;have q9 := S1.loadF (P := Try.prog) (k := 0) rfl sz_22 ag_22 (off := 0) rfl;have q10 := lenG (P := Try.prog) (hx0_0.agree A3.agree) el_22;refine .sr fun K hK => ?_;simp [q8, q9, q10];apply hK;clear hK K;refine .sr fun K hK => ?_;simp [];apply hK;clear hK K;refine .seq ?_;refine .sr fun K hK => ?_;simp [];apply hK;clear hK K;refine .block ?_;have S11 := S1.rowsNil (hB.le A3.1) 22 3;obtain ⟨s12, hL13, hF⟩ := bd_some hF;have S14 := S11.pick [0, 1] (by decide) rfl;refine DWp.loop (fun n env G => ∃ l1_1 : List (List Int), ∃ y1_5 : Int, ∃ w1_1 : Value, ∃ D1_1 : List Value, F_spec_siAll_L1 fu x0_0 x0_1 (llen x0_0) n l1_1 y1_5 = some s12 ∧ Sep G (Fr H) [AL.box p4 [v0_0, v0_1], rowsC w1_1 22 3 D1_1 (List.map ints l1_1)] ∧ AgB (Fr H) H G ∧ env 1 = some p4 ∧ env 3 = some (Value.int .i64 (llen x0_0)) ∧ env 4 = some w1_1 ∧ env 5 = some (Value.int .i64 y1_5)) fu ⟨(@List.nil (List Int)), 0, (Value.slice none 0 0), [], hL13, S14, A3, by simp []⟩ ?_;rintro n1 env1 G1_ ⟨l1_1, y1_5, w1_1, D1_1, hL13, S1_, A1_, e1_1, e1_3, e1_4, e1_5⟩;cases n1 with
 | zero => cases hL13
 | succ n1 =>
  simp only [F_spec_siAll_L1] at hL13;refine .seq ?_;refine .sr fun K hK => ?_;simp [e1_1, e1_3, e1_4, e1_5];apply hK;clear hK K;refine DWp.cond' (t := (ilt y1_5 (llen x0_0))) (by simp [e1_1, e1_3, e1_4, e1_5]) (fun hb15 => ?_) (fun hb15 => ?_)
  ·replace hL13 := cd_t hb15 hL13;refine DWp.skip ?_;simp only [andThen, leaves];refine .seq ?_;refine .block ?_;refine .sr fun K hK => ?_;simp [e1_1, e1_3, e1_4, e1_5];apply hK;clear hK K;refine .block ?_;obtain ⟨s16, hL17, hL13⟩ := bd_some hL13;have S18 := S1_.pick [0, 1] (by decide) rfl;refine DWp.loop (fun n env G => ∃ l2_1 : List (List Int), ∃ y2_6 : Int, ∃ w2_1 : Value, ∃ D2_1 : List Value, F_spec_siAll_L2 fu x0_0 x0_1 (llen x0_0) y1_5 n l2_1 y2_6 = some s16 ∧ Sep G (Fr H) [AL.box p4 [v0_0, v0_1], rowsC w2_1 22 3 D2_1 (List.map ints l2_1)] ∧ AgB (Fr H) H G ∧ env 1 = some p4 ∧ env 3 = some (Value.int .i64 (llen x0_0)) ∧ env 4 = some w2_1 ∧ env 5 = some (Value.int .i64 y1_5) ∧ env 6 = some (Value.int .i64 y2_6)) fu ⟨l1_1, (iadd .i64 y1_5 1), w1_1, D1_1, hL17, S18, A1_, by simp [e1_1, e1_3, e1_4, e1_5]⟩ ?_;rintro n2 env2 G2_ ⟨l2_1, y2_6, w2_1, D2_1, hL17, S2_, A2_, e2_1, e2_3, e2_4, e2_5, e2_6⟩;cases n2 with
   | zero => cases hL17
   | succ n2 =>
    simp only [F_spec_siAll_L2] at hL17;refine .seq ?_;refine .sr fun K hK => ?_;simp [e2_1, e2_3, e2_4, e2_5, e2_6];apply hK;clear hK K;refine DWp.cond' (t := (ilt y2_6 (llen x0_0))) (by simp [e2_1, e2_3, e2_4, e2_5, e2_6]) (fun hb19 => ?_) (fun hb19 => ?_)
    ·replace hL17 := cd_t hb19 hL17;refine DWp.skip ?_;simp only [andThen, leaves];refine .seq ?_;refine .block ?_;obtain ⟨s20, hL21, hL17⟩ := bd_some hL17;refine DWp.seq (DWp.join (fun env G => Sep G (Fr H) [AL.box p4 [v0_0, v0_1], rowsC w2_1 22 3 D2_1 (List.map ints l2_1)] ∧ AgB (Fr H) H G ∧ env 1 = some p4 ∧ env 3 = some (Value.int .i64 (llen x0_0)) ∧ env 4 = some w2_1 ∧ env 5 = some (Value.int .i64 y1_5) ∧ env 6 = some (Value.int .i64 y2_6) ∧ env 33 = some (Value.bool s20)) ?_ ?_)
     ·
      rcases Bool.eq_false_or_eq_true (ilt (iadd .i64 (isub .i64 y2_6 y1_5) 1) (llen x0_0)) with hb23 | hb23
      ·replace hL21 := cd_t hb23 hL21;have q24 := S2_.loadAgg (P := Try.prog) (k := 0) rfl sz_28 ag_28 rfl;obtain ⟨r1, hc25, hL21⟩ := bd_some hL21;refine .region fun K hK => ?_;simp [e2_1, e2_3, e2_4, e2_5, e2_6, hb23, q24, ((hx0_0.agree A2_.agree).tup), ((hx0_1.agree A2_.agree).tup)];refine CallD.t (F_spec_siClosed_w (fu := fu) (hx0_0.agree A2_.agree) (hx0_1.agree A2_.agree) hc25) ?_;rintro _ G27 ⟨a30, rfl, S31⟩;have A29 := A2_.ext (hB.le A2_.1) a30.agree;have S28 : Sep G27 (Fr H) [AL.box p4 [v0_0, v0_1], rowsC w2_1 22 3 D2_1 (List.map ints l2_1)] := S2_.app a30.agree S31 (fun _ h => h) (hB.le A2_.1);simp [e2_1, e2_3, e2_4, e2_5, e2_6, hb23, q24, a30.pre];apply hK;clear hK K;simp only [andThen, leaves];have S32 := S28.pick [0, 1] (by decide) rfl;obtain rfl := Option.some.inj hL21;exact ⟨S32, A29, by simp [e2_1, e2_3, e2_4, e2_5, e2_6]⟩
      ·replace hL21 := cd_f hb23 hL21;refine .region fun K hK => ?_;simp [e2_1, e2_3, e2_4, e2_5, e2_6, hb23];apply hK;clear hK K;simp only [andThen, leaves];have S33 := S2_.pick [0, 1] (by decide) rfl;obtain rfl := Option.some.inj hL21;exact ⟨S33, A2_, by simp [e2_1, e2_3, e2_4, e2_5, e2_6]⟩
     ·rintro env Gj34 ⟨Sj34, Aj34, ej34_1, ej34_3, ej34_4, ej34_5, ej34_6, ej34_33⟩;refine DWp.cond' (t := s20) (by simp [ej34_1, ej34_3, ej34_4, ej34_5, ej34_6, ej34_33]) (fun hb35 => ?_) (fun hb35 => ?_)
      ·replace hL17 := cd_t hb35 hL17;obtain ⟨v36, G37, q38, S39, a41, _, _⟩ := Sj34.lit2 (P := Try.prog) (t := 22) (hB.le Aj34.1) el_22 ei_3 rfl (Value.int .i64 y1_5) (Value.int .i64 y2_6) rfl rfl rfl rfl;have A40 := Aj34.ext (hB.le Aj34.1) a41;replace S39 : Sep G37 (Fr H) [AL.box p4 [v0_0, v0_1], rowsC w2_1 22 3 D2_1 (List.map ints l2_1), flat1 v36 3 (ints [y1_5, y2_6])] := S39;obtain ⟨v43, G44, q45, S46, a48, _, _⟩ := S39.lit1 (P := Try.prog) (t := 36) (hB.le A40.1) el_36 ei_22 rfl v36 ((S39.sl1 (k := 2) rfl).tup) ((S39.sl1 (k := 2) rfl).one);have A47 := A40.ext (hB.le A40.1) a48;replace S46 : Sep G44 (Fr H) [AL.box p4 [v0_0, v0_1], rowsC w2_1 22 3 D2_1 (List.map ints l2_1), flat1 v36 3 (ints [y1_5, y2_6]), flat1 v43 22 [v36]] := S46;have S49 := S46.weak (k := 2) rfl;obtain ⟨g50, hL17⟩ := gd_some hL17;obtain ⟨v56, G51, q52, S53, a55, q52t, _⟩ := S49.pushRow (u := w2_1) (fr := ints) (X := l2_1) (y := [y1_5, y2_6]) (P := Try.prog) (t := 36) (t2 := 36) (j := 1) (k := 2) (by decide) rfl rfl (hB.le A47.1) el_36 el_36 ei_22 rfl (S49.sl1 (k := 3) rfl) g50;have A54 := A47.trans a55;replace S53 : Sep G51 (Fr H) [AL.box p4 [v0_0, v0_1], rowsC v56 22 3 (D2_1 ++ [v36]) (List.map ints (lapp l2_1 [[y1_5, y2_6]])), emp, flat1 v43 22 [v36]] := S53;have q57 := S53.lastV (fr := ints) (k := 1) rfl;try simp only [List.cons_append, List.nil_append] at q57
       refine .region fun K hK => ?_;simp [ej34_1, ej34_3, ej34_4, ej34_5, ej34_6, ej34_33, q57, q38, a41.to_pre, q45, a48.to_pre, ((S39.sl1 (k := 2) rfl).tup), q52, q52t];apply hK;clear hK K;simp only [andThen, leaves];refine .region fun K hK => ?_;simp [ej34_1, ej34_3, ej34_4, ej34_5, ej34_6, ej34_33, q57];apply hK;clear hK K;simp only [andThen, leaves];have S58 := S53.pick [0, 1] (by decide) rfl;exact ⟨n2, Nat.lt_succ_self _, (lapp l2_1 [[y1_5, y2_6]]), (iadd .i64 y2_6 1), v56, (D2_1 ++ [v36]), hL17, S58, A54, by simp [ej34_1, ej34_3, ej34_4, ej34_5, ej34_6, ej34_33, q57]⟩
      ·replace hL17 := cd_f hb35 hL17;refine DWp.skip ?_;simp only [andThen, leaves];refine .region fun K hK => ?_;simp [ej34_1, ej34_3, ej34_4, ej34_5, ej34_6, ej34_33];apply hK;clear hK K;simp only [andThen, leaves];have S59 := Sj34.pick [0, 1] (by decide) rfl;exact ⟨n2, Nat.lt_succ_self _, l2_1, (iadd .i64 y2_6 1), w2_1, D2_1, hL17, S59, Aj34, by simp [ej34_1, ej34_3, ej34_4, ej34_5, ej34_6, ej34_33]⟩
    ·replace hL17 := cd_f hb19 hL17;refine DWp.exit ?_;simp only [andThen, leaves, if_true, if_false, reduceIte, Nat.reduceEqDiff];obtain rfl := Option.some.inj hL17;try dsimp only at hL13
     refine .region fun K hK => ?_;simp [e2_1, e2_3, e2_4, e2_5, e2_6];apply hK;clear hK K;simp only [andThen, leaves];have S60 := S2_.pick [0, 1] (by decide) rfl;exact ⟨n1, Nat.lt_succ_self _, l2_1, (iadd .i64 y1_5 1), w2_1, D2_1, hL13, S60, A2_, by simp [e2_1, e2_3, e2_4, e2_5, e2_6]⟩
  ·replace hL13 := cd_f hb15 hL13;refine DWp.exit ?_;simp only [andThen, leaves, if_true, if_false, reduceIte, Nat.reduceEqDiff];obtain rfl := Option.some.inj hL13;try dsimp only at hF
   refine .sr fun K hK => ?_;simp [e1_1, e1_3, e1_4, e1_5];apply hK;clear hK K;refine DWp.ret ?_;obtain rfl := Option.some.inj hF;exact ⟨by simp, [w1_1], by simp [e1_1, e1_3, e1_4, e1_5, ((S1_.rd (k := 1) rfl).tup)], A1_, w1_1, D1_1, rfl, S1_.pick [1] (by decide) rfl⟩
def F_laws_ySame_L1 (fu : Nat) (k1_0 : List Int) (k1_1 : List Int) (k1_2 : Int) : Nat → Int → Option (LR (Bool) (Int))
  | 0, _ => none
  | n + 1, y1_13 =>
    bif (ilt y1_13 k1_2) then
      gd (inL k1_0 y1_13) (
      gd (inL k1_1 y1_13) (
      bif (ine (gat 0 k1_0 y1_13) (gat 0 k1_1 y1_13)) then
        some (.ret false)
      else
        F_laws_ySame_L1 fu k1_0 k1_1 k1_2 n (iadd .i64 y1_13 1)))
    else
      some (.brk y1_13)
def F_laws_ySame (fu : Nat) (x0 : List Int) (x1 : List Int) : Option (Bool) :=
  bif (ine (llen x0) (llen x1)) then
    some false
  else
    bd (F_laws_ySame_L1 fu x0 x1 (llen x0) fu 0) fun s1 =>
    lr s1 fun s1 =>
    some true
theorem F_laws_ySame_w {fu : Nat} {H : AH} {v0 : Value} {v1 : Value} {x0 : List Int} {x1 : List Int} {r : (Bool)} (hx0 : Sl H v0 (ints x0)) (hx1 : Sl H v1 (ints x1)) (hF : F_laws_ySame fu x0 x1 = some r) :
    ACallT Try.prog 83 [v0, v1] H (fun u G => AgB (Fr H) H G ∧ u = (Value.bool r) ∧ Sep G (Fr H) []) := by
 refine ACallT.of_body (nt := 26) (rs := [.tmp 4]) Try.func83 rfl rfl rfl rfl ?_;have A0 : AgB (Fr H) H H := .refl _ _;have S0 : Sep H (Fr H) [] := .nil;have hB := Fr.up H;unfold F_laws_ySame at hF;refine .sr fun K hK => ?_;simp [];apply hK;clear hK K;refine .seq ?_;have q1 := lenG (P := Try.prog) (hx0.agree A0.agree) el_22;have q2 := lenG (P := Try.prog) (hx1.agree A0.agree) el_22;refine .sr fun K hK => ?_;simp [q1, q2];apply hK;clear hK K;refine DWp.cond' (t := (ine (llen x0) (llen x1))) (by simp []) (fun hb3 => ?_) (fun hb3 => ?_)
 ·replace hF := cd_t hb3 hF;refine .sr fun K hK => ?_;simp [];apply hK;clear hK K;refine DWp.ret ?_;simp only [andThen, leaves];obtain rfl := Option.some.inj hF;exact ⟨by simp, [(Value.bool false)], by simp [], A0, rfl, S0.pick [] (by decide) rfl⟩
 ·replace hF := cd_f hb3 hF;refine DWp.skip ?_;simp only [andThen, leaves];refine .seq ?_;have q4 := lenG (P := Try.prog) (hx0.agree A0.agree) el_22;refine .sr fun K hK => ?_;simp [q4];apply hK;clear hK K;refine .block ?_;obtain ⟨s5, hL6, hF⟩ := bd_some hF;have S7 := S0.pick [] (by decide) rfl;refine DWp.loop (fun n env G => ∃ y1_13 : Int, F_laws_ySame_L1 fu x0 x1 (llen x0) n y1_13 = some s5 ∧ Sep G (Fr H) [] ∧ AgB (Fr H) H G ∧ env 0 = some v0 ∧ env 1 = some v1 ∧ env 12 = some (Value.int .i64 (llen x0)) ∧ env 13 = some (Value.int .i64 y1_13)) fu ⟨0, hL6, S7, A0, by simp []⟩ ?_;rintro n1 env1 G1_ ⟨y1_13, hL6, S1_, A1_, e1_0, e1_1, e1_12, e1_13⟩;cases n1 with
  | zero => cases hL6
  | succ n1 =>
   simp only [F_laws_ySame_L1] at hL6;refine .sr fun K hK => ?_;simp [e1_0, e1_1, e1_12, e1_13];apply hK;clear hK K;refine .seq ?_;refine DWp.cond' (t := (ilt y1_13 (llen x0))) (by simp [e1_0, e1_1, e1_12, e1_13]) (fun hb8 => ?_) (fun hb8 => ?_)
   ·replace hL6 := cd_t hb8 hL6;refine DWp.skip ?_;simp only [andThen, leaves];refine .seq ?_;refine .block ?_;refine .sr fun K hK => ?_;simp [e1_0, e1_1, e1_12, e1_13];apply hK;clear hK K;obtain ⟨g9, hL6⟩ := gd_some hL6;have q10 := idxG (P := Try.prog) (kk := .i64) (hx0.agree A1_.agree) el_22 sz_3 g9;have q11 := loadG (P := Try.prog) (hx0.agree A1_.agree) sz_3 ag_3 g9 0;obtain ⟨g12, hL6⟩ := gd_some hL6;have q13 := idxG (P := Try.prog) (kk := .i64) (hx1.agree A1_.agree) el_22 sz_3 g12;have q14 := loadG (P := Try.prog) (hx1.agree A1_.agree) sz_3 ag_3 g12 0;refine .sd (B := [0, 0, 3, 7, 0, 0, 48, 112, 255]) 9 mixed (by kernel_rfl) (by decide) fun K hK => ?_;simp [e1_0, e1_1, e1_12, e1_13, q10, q11, q13, q14];apply hK;clear hK K;refine DWp.cond' (t := (ine (gat 0 x0 y1_13) (gat 0 x1 y1_13))) (by simp [e1_0, e1_1, e1_12, e1_13]) (fun hb15 => ?_) (fun hb15 => ?_)
    ·replace hL6 := cd_t hb15 hL6;refine .sr fun K hK => ?_;simp [e1_0, e1_1, e1_12, e1_13];apply hK;clear hK K;refine DWp.ret ?_;simp only [andThen, leaves];obtain rfl := Option.some.inj hL6;simp only [lr] at hF;obtain rfl := Option.some.inj hF;exact ⟨by simp, [(Value.bool false)], by simp [e1_0, e1_1, e1_12, e1_13], A1_, rfl, S1_.pick [] (by decide) rfl⟩
    ·replace hL6 := cd_f hb15 hL6;refine DWp.skip ?_;simp only [andThen, leaves];refine .region fun K hK => ?_;simp [e1_0, e1_1, e1_12, e1_13];apply hK;clear hK K;simp only [andThen, leaves];have S16 := S1_.pick [] (by decide) rfl;exact ⟨n1, Nat.lt_succ_self _, (iadd .i64 y1_13 1), hL6, S16, A1_, by simp [e1_0, e1_1, e1_12, e1_13]⟩
   ·replace hL6 := cd_f hb8 hL6;refine DWp.exit ?_;simp only [andThen, leaves, if_true, if_false, reduceIte, Nat.reduceEqDiff];obtain rfl := Option.some.inj hL6;simp only [lr] at hF;refine .sr fun K hK => ?_;simp [e1_0, e1_1, e1_12, e1_13];apply hK;clear hK K;refine DWp.ret ?_;obtain rfl := Option.some.inj hF;exact ⟨by simp, [(Value.bool true)], by simp [e1_0, e1_1, e1_12, e1_13], A1_, rfl, S1_.pick [] (by decide) rfl⟩
end Go.Proofs.Ytbckijeffiofdaa.AL

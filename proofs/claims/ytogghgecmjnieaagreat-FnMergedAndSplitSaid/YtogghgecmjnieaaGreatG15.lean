/- The walks of functions, each with its Lean function: spec.exDistance, spec.FarthestFrom, laws.sSamePair, laws.FnMergedAndSplit. No condition. -/
import Derived.Test.YtogghgecmjnieaaGreatG1
import Derived.Test.YtogghgecmjnieaaGreatG10
import Derived.Test.YtogghgecmjnieaaGreatG11
import Derived.Test.YtogghgecmjnieaaGreatG12
import Derived.Test.YtogghgecmjnieaaGreatG13
import Derived.Test.YtogghgecmjnieaaGreatG14
import Derived.Test.YtogghgecmjnieaaGreatG2
import Derived.Test.YtogghgecmjnieaaGreatG3
import Derived.Test.YtogghgecmjnieaaGreatG4
import Derived.Test.YtogghgecmjnieaaGreatG5
import Derived.Test.YtogghgecmjnieaaGreatG6
import Derived.Test.YtogghgecmjnieaaGreatG7
import Derived.Test.YtogghgecmjnieaaGreatG8
import Derived.Test.YtogghgecmjnieaaGreatG9
import Derived.Test.YtogghgecmjnieaaGreatALD
import Derived.Test.YtogghgecmjnieaaGreatProg
import Derived.KernelRfl
namespace Go.Proofs.YtogghgecmjnieaaGreat.AL
open Go Go.RowKit
set_option linter.unusedVariables false
set_option linter.unusedSimpArgs false
set_option maxRecDepth 4096
attribute [local simp] n_fn b_add b_sub b_mul b_lt b_le b_gt b_ge b_eq b_ne u_not

def F_spec_exDistance (fu : Nat) (x0 : List Int) (x1 : List Int) : Option (Int) :=
  bd (F_spec_meCount fu x0 x1) fun r1 =>
  some (isub .i64 (iquo .i64 (llen x0) 2) r1)
theorem F_spec_exDistance_w {fu : Nat} {H : AH} {v0 : Value} {v1 : Value} {x0 : List Int} {x1 : List Int} {r : (Int)} (hx0 : Sl H v0 (ints x0)) (hx1 : Sl H v1 (ints x1)) (hF : F_spec_exDistance fu x0 x1 = some r) :
    ACallT Tryz.prog 79 [v0, v1] H (fun u G => AgB (Fr H) H G ∧ u = (Value.int .i64 r) ∧ Sep G (Fr H) []) := by
 refine ACallT.of_body (nt := 13) (rs := [.tmp 4]) Tryz.func79 rfl rfl rfl rfl ?_;have A0 : AgB (Fr H) H H := .refl _ _;have S0 : Sep H (Fr H) [] := .nil;have hB := Fr.up H;unfold F_spec_exDistance at hF;refine .sr fun K hK => ?_;simp [];apply hK;have q1 := lenG (hx0.agree A0.agree) el_24;have g2 : (2 : Int) ≠ 0 := by decide
 obtain ⟨r1, hc3, hF⟩ := bd_some hF;refine .sr fun K hK => ?_;simp [q1, b_quo g2, bu_43 ((hx0.agree A0.agree).tup) ((hx0.agree A0.agree).one) ((hx1.agree A0.agree).tup) ((hx1.agree A0.agree).one), ((hx0.agree A0.agree).tup), ((hx1.agree A0.agree).tup)];refine CallD.t (F_spec_meCount_w (fu := fu) (hx0.agree A0.agree) (hx1.agree A0.agree) hc3) ?_;rintro _ G5 ⟨a8, rfl, S9⟩;have A7 := A0.ext (hB.le A0.1) a8.agree;have S6 : Sep G5 (Fr H) [] := S0.app a8.agree S9 (fun _ h => h) (hB.le A0.1);simp [q1, b_quo g2, bu_43 ((hx0.agree A0.agree).tup) ((hx0.agree A0.agree).one) ((hx1.agree A0.agree).tup) ((hx1.agree A0.agree).one), a8.pre];apply hK;refine DWp.ret ?_;obtain rfl := Option.some.inj hF;exact ⟨by simp, [(Value.int .i64 (isub .i64 (iquo .i64 (llen x0) 2) r1))], by simp [], A7, rfl, S6.pick [] (by decide) rfl⟩
def F_spec_FarthestFrom_L1 (fu : Nat) (k1_0 : List Int) (k1_1 : List (List Int)) (k1_2 : Int) : Nat → Int → List (List Int) → Int → Option (Int × List (List Int) × Int)
  | 0, _, _, _ => none
  | n + 1, y1_4, l1_0, y1_22 =>
    bif (ilt y1_22 k1_2) then
      gd (inL k1_1 y1_22) (
      gd (k1_1.length ≤ 4294967296) (
      bd (F_spec_exDistance fu k1_0 (gat [] k1_1 y1_22)) fun r3 =>
      bd (
        bif (ilt y1_4 r3) then
          some (r3, [])
        else
          some (y1_4, l1_0)) fun s47 =>
      bif (ieq r3 s47.1) then
        gd (s47.2.length + 1 ≤ 4294967296) (
        F_spec_FarthestFrom_L1 fu k1_0 k1_1 k1_2 n s47.1 (lapp s47.2 [(gat [] k1_1 y1_22)]) (iadd .i64 y1_22 1))
      else
        F_spec_FarthestFrom_L1 fu k1_0 k1_1 k1_2 n s47.1 s47.2 (iadd .i64 y1_22 1)))
    else
      some (y1_4, l1_0, y1_22)
def F_spec_FarthestFrom (fu : Nat) (x0 : List Int) : Option (List (List Int) × Bool) :=
  bd (
    bd (F_spec_ahGood fu x0) fun r1 =>
    bif (bnot r1) then
      some true
    else
      some (ieq (llen x0) 0)) fun s1 =>
  bif s1 then
    some ([], false)
  else
    bd (F_spec_ahAll fu (iquo .i64 (llen x0) 2) 0) fun r2 =>
    bd (F_spec_FarthestFrom_L1 fu x0 r2 (llen r2) fu 0 (@List.nil (List Int)) 0) fun s1 =>
    some (s1.2.1, true)
theorem F_spec_FarthestFrom_w {fu : Nat} {H : AH} {v0 : Value} {x0 : List Int} {r : (List (List Int) × Bool)} (hx0 : Sl H v0 (ints x0)) (hF : F_spec_FarthestFrom fu x0 = some r) :
    ACallT Tryz.prog 34 [v0] H (fun u G => AgB (Fr H) H G ∧ ∃ u0 : Value, ∃ C0 : List Value, u = (Value.tuple #[u0, (Value.bool r.2)]) ∧ Sep G (Fr H) [rowsC u0 24 3 C0 (List.map ints r.1)]) := by
 refine ACallT.of_body (nt := 42) (rs := [.tmp 2, .tmp 3]) Tryz.func34 rfl rfl rfl rfl ?_;have A0 : AgB (Fr H) H H := .refl _ _;have S0 : Sep H (Fr H) [] := .nil;have hB := Fr.up H;unfold F_spec_FarthestFrom at hF;refine .sr fun K hK => ?_;simp [];apply hK;refine .seq ?_;obtain ⟨s1, hL2, hF⟩ := bd_some hF;refine DWp.seq (DWp.join (fun env G => Sep G (Fr H) [] ∧ AgB (Fr H) H G ∧ env 0 = some v0 ∧ env 16 = some (Value.bool s1)) ?_ ?_)
 ·
  obtain ⟨r1, hc4, hL2⟩ := bd_some hL2;refine .region fun K hK => ?_;simp [((hx0.agree A0.agree).tup)];refine CallD.t (F_spec_ahGood_w (fu := fu) (hx0.agree A0.agree) hc4) ?_;rintro _ G6 ⟨a9, rfl, S10⟩;have A8 := A0.ext (hB.le A0.1) a9.agree;have S7 : Sep G6 (Fr H) [] := S0.app a9.agree S10 (fun _ h => h) (hB.le A0.1);rcases Bool.eq_false_or_eq_true (bnot r1) with hb11 | hb11
  ·replace hL2 := cd_t hb11 hL2;simp [hb11, a9.pre];apply hK;simp only [andThen, leaves];have S12 := S7.pick [] (by decide) rfl;obtain rfl := Option.some.inj hL2;exact ⟨S12, A8, by simp []⟩
  ·replace hL2 := cd_f hb11 hL2;have q13 := lenG (hx0.agree A8.agree) el_24;simp [hb11, a9.pre, q13];apply hK;simp only [andThen, leaves];have S14 := S7.pick [] (by decide) rfl;obtain rfl := Option.some.inj hL2;exact ⟨S14, A8, by simp []⟩
 ·rintro env Gj15 ⟨Sj15, Aj15, ej15_⟩;refine DWp.cond' (t := s1) (by simp [ej15_]) (fun hb16 => ?_) (fun hb16 => ?_)
  ·replace hF := cd_t hb16 hF;refine .sr fun K hK => ?_;simp [ej15_];apply hK;refine DWp.ret ?_;simp only [andThen, leaves];have S17 := Sj15.rowsNil (hB.le Aj15.1) 24 3;obtain rfl := Option.some.inj hF;exact ⟨by simp, [(Value.slice none 0 0), (Value.bool false)], by simp [ej15_], Aj15, nilV, [], rfl, S17.pick [0] (by decide) rfl⟩
  ·replace hF := cd_f hb16 hF;refine DWp.skip ?_;simp only [andThen, leaves];refine .sr fun K hK => ?_;simp [ej15_];apply hK;refine .sr fun K hK => ?_;simp [ej15_];apply hK;refine .seq ?_;have q18 := lenG (hx0.agree Aj15.agree) el_24;have g19 : (2 : Int) ≠ 0 := by decide
   obtain ⟨r2, hc20, hF⟩ := bd_some hF;refine .sr fun K hK => ?_;simp [ej15_, q18, b_quo g19];refine CallD.t (F_spec_ahAll_w (fu := fu)  hc20) ?_;rintro c21_u0 G22 ⟨a25, _, c21_C0, rfl, S26⟩;have A24 := Aj15.ext (hB.le Aj15.1) a25.agree;have S23 : Sep G22 (Fr H) [rowsC c21_u0 24 3 c21_C0 (List.map ints r2)] := Sj15.app a25.agree S26 (fun _ h => h) (hB.le Aj15.1);have q27 := (S23.rd (k := 0) rfl).lenG el_31;simp [ej15_, q18, b_quo g19, a25.pre, q27];apply hK;refine .block ?_;have S28 := S23.rowsNil (hB.le A24.1) 24 3;have S29 : Sep G22 (Fr H) [rowsT c21_u0 24 3 c21_C0 (List.map ints r2) 0, rowsC (Value.slice none 0 0) 24 3 [] (List.map ints (@List.nil (List Int)))] := S28.toT (kk := 0) rfl;obtain ⟨s30, hL31, hF⟩ := bd_some hF;have S32 := S29.pick [1, 0] (by decide) rfl;refine DWp.loop (fun n env G => ∃ y1_4 : Int, ∃ l1_0 : List (List Int), ∃ y1_22 : Int, ∃ w1_0 : Value, ∃ D1_0 : List Value, F_spec_FarthestFrom_L1 fu x0 r2 (llen r2) n y1_4 l1_0 y1_22 = some s30 ∧ Sep G (Fr H) [rowsC w1_0 24 3 D1_0 (List.map ints l1_0), rowsT c21_u0 24 3 c21_C0 (List.map ints r2) y1_22] ∧ AgB (Fr H) H G ∧ env 0 = some v0 ∧ env 4 = some (Value.int .i64 y1_4) ∧ env 5 = some w1_0 ∧ env 20 = some c21_u0 ∧ env 21 = some (Value.int .i64 (llen r2)) ∧ env 22 = some (Value.int .i64 y1_22)) fu ⟨0, (@List.nil (List Int)), 0, (Value.slice none 0 0), [], hL31, S32, A24, by simp [ej15_]⟩ ?_;rintro n1 env1 G1_ ⟨y1_4, l1_0, y1_22, w1_0, D1_0, hL31, S1_, A1_, e1_⟩;cases n1 with
   | zero => cases hL31
   | succ n1 =>
    simp only [F_spec_FarthestFrom_L1] at hL31;refine .sr fun K hK => ?_;simp [e1_];apply hK;refine .seq ?_;refine DWp.cond' (t := (ilt y1_22 (llen r2))) (by simp [e1_]) (fun hb33 => ?_) (fun hb33 => ?_)
    ·replace hL31 := cd_t hb33 hL31;refine DWp.skip ?_;simp only [andThen, leaves];refine .seq ?_;refine .block ?_;obtain ⟨g34, hL31⟩ := gd_some hL31;have q35 := S1_.idxT (ki := .i64) (kk := 1) rfl el_31 sz_24 g34;have q37 := S1_.loadT (kk := 1) rfl sz_24 ag_24 g34;obtain ⟨g38, hL31⟩ := gd_some hL31;have S39 : Sep G1_ (Fr H) [rowsC w1_0 24 3 D1_0 (List.map ints l1_0), rowsT c21_u0 24 3 c21_C0 (List.map ints r2) (iadd .i64 y1_22 1), flat (gat nilV c21_C0 y1_22) 3 (ints (gat [] r2 y1_22))] := S1_.takeT (fr := ints) (kk := 1) rfl [] g34 g38;refine .sr fun K hK => ?_;simp [e1_, q35, q37];apply hK;obtain ⟨r3, hc40, hL31⟩ := bd_some hL31;refine .sr fun K hK => ?_;simp [e1_, ((hx0.agree A1_.agree).tup), ((S39.sl (k := 2) rfl).tup)];refine CallD.t (F_spec_exDistance_w (fu := fu) (hx0.agree A1_.agree) (S39.sl (k := 2) rfl) hc40) ?_;rintro _ G42 ⟨a45, rfl, S46⟩;have A44 := A1_.ext (hB.le A1_.1) a45.agree;have S43 : Sep G42 (Fr H) [rowsC w1_0 24 3 D1_0 (List.map ints l1_0), rowsT c21_u0 24 3 c21_C0 (List.map ints r2) (iadd .i64 y1_22 1), flat (gat nilV c21_C0 y1_22) 3 (ints (gat [] r2 y1_22))] := S39.app a45.agree S46 (fun _ h => h) (hB.le A1_.1);simp [e1_, a45.pre];apply hK;obtain ⟨s47, hL48, hL31⟩ := bd_some hL31
     refine DWp.seq (DWp.join (fun env G => ∃ wj2_0 : Value, ∃ Dj2_0 : List Value, Sep G (Fr H) [rowsC wj2_0 24 3 Dj2_0 (List.map ints s47.2), flat (gat nilV c21_C0 y1_22) 3 (ints (gat [] r2 y1_22)), rowsT c21_u0 24 3 c21_C0 (List.map ints r2) (iadd .i64 y1_22 1)] ∧ AgB (Fr H) H G ∧ env 0 = some v0 ∧ env 4 = some (Value.int .i64 s47.1) ∧ env 5 = some wj2_0 ∧ env 7 = some (gat nilV c21_C0 y1_22) ∧ env 8 = some (Value.int .i64 r3) ∧ env 20 = some c21_u0 ∧ env 21 = some (Value.int .i64 (llen r2)) ∧ env 22 = some (Value.int .i64 y1_22)) ?_ ?_)
     ·
      refine .sr fun K hK => ?_;simp [e1_];apply hK;refine DWp.cond' (t := (ilt y1_4 r3)) (by simp [e1_]) (fun hb50 => ?_) (fun hb50 => ?_)
      ·replace hL48 := cd_t hb50 hL48;refine .sr fun K hK => ?_;simp [e1_];apply hK;refine .region fun K hK => ?_;simp [e1_];apply hK;simp only [andThen, leaves];have S51 := S43.rowsNil (hB.le A44.1) 24 3;have S52 := S51.pick [3, 2, 1] (by decide) rfl;obtain rfl := Option.some.inj hL48;exact ⟨(Value.slice none 0 0), [], S52, A44, by simp [e1_]⟩
      ·replace hL48 := cd_f hb50 hL48;refine DWp.skip ?_;simp only [andThen, leaves];have S53 := S43.pick [0, 2, 1] (by decide) rfl;obtain rfl := Option.some.inj hL48;exact ⟨w1_0, D1_0, S53, A44, by simp [e1_]⟩
     ·rintro env Gj54 ⟨wj2_0, Dj2_0, Sj54, Aj54, ej54_⟩;refine .sr fun K hK => ?_;simp [ej54_];apply hK;refine DWp.cond' (t := (ieq r3 s47.1)) (by simp [ej54_]) (fun hb55 => ?_) (fun hb55 => ?_)
      ·replace hL31 := cd_t hb55 hL31;obtain ⟨v56, G57, q58, S59, a61, _, _⟩ := Sj54.lit1 (t := 31) (hB.le Aj54.1) el_31 ei_24 rfl (gat nilV c21_C0 y1_22) ((Sj54.sl (k := 1) rfl).tup) ((Sj54.sl (k := 1) rfl).one);have A60 := Aj54.ext (hB.le Aj54.1) a61;replace S59 : Sep G57 (Fr H) [rowsC wj2_0 24 3 Dj2_0 (List.map ints s47.2), flat (gat nilV c21_C0 y1_22) 3 (ints (gat [] r2 y1_22)), rowsT c21_u0 24 3 c21_C0 (List.map ints r2) (iadd .i64 y1_22 1), flat1 v56 24 [(gat nilV c21_C0 y1_22)]] := S59;obtain ⟨g62, hL31⟩ := gd_some hL31;obtain ⟨v68, G63, q64, S65, a67, q64t, _⟩ := S59.pushRow (u := wj2_0) (fr := ints) (X := s47.2) (y := (gat [] r2 y1_22)) (t := 31) (t2 := 31) (j := 0) (k := 1) (by decide) rfl rfl (hB.le A60.1) el_31 el_31 ei_24 rfl (S59.sl1 (k := 3) rfl) g62;have A66 := A60.trans a67;replace S65 : Sep G63 (Fr H) [rowsC v68 24 3 (Dj2_0 ++ [(gat nilV c21_C0 y1_22)]) (List.map ints (lapp s47.2 [(gat [] r2 y1_22)])), emp, rowsT c21_u0 24 3 c21_C0 (List.map ints r2) (iadd .i64 y1_22 1), flat1 v56 24 [(gat nilV c21_C0 y1_22)]] := S65;have q69 := S65.lastV (fr := ints) (k := 0) rfl;try simp only [List.cons_append, List.nil_append] at q69
       refine .region fun K hK => ?_;simp [ej54_, q69, q58, a61.to_pre, ((Sj54.sl (k := 1) rfl).tup), q64, q64t];apply hK;simp only [andThen, leaves];refine .region fun K hK => ?_;simp [ej54_, q69];apply hK;simp only [andThen, leaves];have S70 := S65.pick [0, 2] (by decide) rfl;exact ⟨n1, Nat.lt_succ_self _, s47.1, (lapp s47.2 [(gat [] r2 y1_22)]), (iadd .i64 y1_22 1), v68, (Dj2_0 ++ [(gat nilV c21_C0 y1_22)]), hL31, S70, A66, by simp [ej54_, q69]⟩
      ·replace hL31 := cd_f hb55 hL31;refine DWp.skip ?_;simp only [andThen, leaves];refine .region fun K hK => ?_;simp [ej54_];apply hK;simp only [andThen, leaves];have S71 := Sj54.pick [0, 2] (by decide) rfl;exact ⟨n1, Nat.lt_succ_self _, s47.1, s47.2, (iadd .i64 y1_22 1), wj2_0, Dj2_0, hL31, S71, Aj54, by simp [ej54_]⟩
    ·replace hL31 := cd_f hb33 hL31;refine DWp.exit ?_;simp only [andThen, leaves, if_true, if_false, reduceIte, Nat.reduceEqDiff];obtain rfl := Option.some.inj hL31;try dsimp only at hF
     refine .sr fun K hK => ?_;simp [e1_];apply hK;refine DWp.ret ?_;obtain rfl := Option.some.inj hF;exact ⟨by simp, [w1_0, (Value.bool true)], by simp [e1_, ((S1_.rd (k := 0) rfl).tup)], A1_, w1_0, D1_0, rfl, S1_.pick [0] (by decide) rfl⟩
def F_laws_sSamePair (fu : Nat) (x0_0 : List Int) (x0_1 : List Int) (x1_0 : List Int) (x1_1 : List Int) : Option (Bool) :=
  bd (F_laws_sSame fu x0_0 x1_0) fun r1 =>
  bif r1 then
    bd (F_laws_sSame fu x0_1 x1_1) fun r2 =>
    some r2
  else
    some false
theorem F_laws_sSamePair_w {fu : Nat} {H : AH} {v0_0 : Value} {v0_1 : Value} {v1_0 : Value} {v1_1 : Value} {x0_0 : List Int} {x0_1 : List Int} {x1_0 : List Int} {x1_1 : List Int} {r : (Bool)} (hx0_0 : Sl H v0_0 (ints x0_0)) (hx0_1 : Sl H v0_1 (ints x0_1)) (hx1_0 : Sl H v1_0 (ints x1_0)) (hx1_1 : Sl H v1_1 (ints x1_1)) (hF : F_laws_sSamePair fu x0_0 x0_1 x1_0 x1_1 = some r) :
    ACallT Tryz.prog 37 [(Value.agg #[v0_0, v0_1]), (Value.agg #[v1_0, v1_1])] H (fun u G => AgB (Fr H) H G ∧ u = (Value.bool r) ∧ Sep G (Fr H) []) := by
 refine ACallT.of_body (nt := 17) (rs := [.tmp 4]) Tryz.func37 rfl rfl rfl rfl ?_;have A0 : AgB (Fr H) H H := .refl _ _;have S0 : Sep H (Fr H) [] := .nil;have hB := Fr.up H;unfold F_laws_sSamePair at hF;obtain ⟨G2, p4, q5, q6, a7, S1⟩ := S0.boxT (hB.le A0.1) 43 [v0_0, v0_1];have A3 := A0.ext (hB.le A0.1) a7;replace S1 : Sep G2 (Fr H) [AL.box p4 [v0_0, v0_1]] := S1;obtain ⟨G9, p11, q12, q13, a14, S8⟩ := S1.boxT (hB.le A3.1) 43 [v1_0, v1_1];have A10 := A3.ext (hB.le A3.1) a14;replace S8 : Sep G9 (Fr H) [AL.box p4 [v0_0, v0_1], AL.box p11 [v1_0, v1_1]] := S8;refine .sr fun K hK => ?_;simp [q5, q6, a7.to_pre, cells_agg, q12, q13, a14.to_pre];apply hK;have q15 := S8.fieldT (k := 0) rfl fa_43_0;have q16 := S8.loadF (k := 0) rfl sz_24 ag_24 (off := 0) rfl;have q17 := S8.fieldT (k := 1) rfl fa_43_0;have q18 := S8.loadF (k := 1) rfl sz_24 ag_24 (off := 0) rfl;obtain ⟨r1, hc19, hF⟩ := bd_some hF;refine .sr fun K hK => ?_;simp [q15, q16, q17, q18, ((hx0_0.agree A10.agree).tup), ((hx1_0.agree A10.agree).tup)];refine CallD.t (F_laws_sSame_w (fu := fu) (hx0_0.agree A10.agree) (hx1_0.agree A10.agree) hc19) ?_;rintro _ G21 ⟨a24, rfl, S25⟩;have A23 := A10.ext (hB.le A10.1) a24.agree;have S22 : Sep G21 (Fr H) [AL.box p4 [v0_0, v0_1], AL.box p11 [v1_0, v1_1]] := S8.app a24.agree S25 (fun _ h => h) (hB.le A10.1);rcases Bool.eq_false_or_eq_true r1 with hb26 | hb26
 ·replace hF := cd_t hb26 hF;have q27 := S22.fieldT (k := 0) rfl fa_43_1;have q28 := S22.loadF (k := 0) rfl sz_24 ag_24 (off := 1) rfl;have q29 := S22.fieldT (k := 1) rfl fa_43_1;have q30 := S22.loadF (k := 1) rfl sz_24 ag_24 (off := 1) rfl;obtain ⟨r2, hc31, hF⟩ := bd_some hF;simp [hb26, q15, q16, q17, q18, a24.pre, q27, q28, q29, q30, ((hx0_1.agree A23.agree).tup), ((hx1_1.agree A23.agree).tup)];refine CallD.t (F_laws_sSame_w (fu := fu) (hx0_1.agree A23.agree) (hx1_1.agree A23.agree) hc31) ?_;rintro _ G33 ⟨a36, rfl, S37⟩;have A35 := A23.ext (hB.le A23.1) a36.agree;have S34 : Sep G33 (Fr H) [AL.box p4 [v0_0, v0_1], AL.box p11 [v1_0, v1_1]] := S22.app a36.agree S37 (fun _ h => h) (hB.le A23.1);simp [hb26, q15, q16, q17, q18, a24.pre, q27, q28, q29, q30, a36.pre];apply hK;refine DWp.ret ?_;obtain rfl := Option.some.inj hF;exact ⟨by simp, [(Value.bool r2)], by simp [], A35, rfl, S34.pick [] (by decide) rfl⟩
 ·replace hF := cd_f hb26 hF;simp [hb26, q15, q16, q17, q18, a24.pre];apply hK;refine DWp.ret ?_;obtain rfl := Option.some.inj hF;exact ⟨by simp, [(Value.bool false)], by simp [], A23, rfl, S22.pick [] (by decide) rfl⟩
def F_laws_FnMergedAndSplit_L2 (fu : Nat) (k2_0 : List Int) (k2_1 : List Int) (k2_2 : List (List Int × List Int)) (k2_3 : List (List Int × List Int)) (k2_4 : Int) (k2_5 : Int) : Nat → Int → Option (LR (Bool) (Int))
  | 0, _ => none
  | n + 1, y2_239 =>
    bif (ilt y2_239 k2_5) then
      gd (inL k2_2 y2_239) (
      bd (F_impl_ComponentsOf fu ((gat pnil k2_2 y2_239).1) ((gat pnil k2_2 y2_239).2)) fun r21 =>
      bd (
        bif (bnot r21.2) then
          some true
        else
          bif (ine r21.1 (iadd .i64 k2_4 y2_239)) then
            some true
          else
            gd (inL k2_3 y2_239) (
            bd (F_laws_sSamePair fu ((gat pnil k2_2 y2_239).1) ((gat pnil k2_2 y2_239).2) ((gat pnil k2_3 y2_239).1) ((gat pnil k2_3 y2_239).2)) fun r22 =>
            bif (bnot r22) then
              some true
            else
              bd (F_laws_sSame fu ((gat pnil k2_2 y2_239).2) k2_1) fun r23 =>
              some (bnot r23))) fun s298 =>
      bif s298 then
        some (.ret false)
      else
        F_laws_FnMergedAndSplit_L2 fu k2_0 k2_1 k2_2 k2_3 k2_4 k2_5 n (iadd .i64 y2_239 1))
    else
      some (.brk y2_239)
def F_laws_FnMergedAndSplit_L1 (fu : Nat) (k1_0 : List Int) (k1_1 : List Int) (k1_2 : List (List Int × List Int)) (k1_3 : List (List Int × List Int)) (k1_4 : List (List Int × List Int)) (k1_5 : Int) (k1_6 : List (List Int × List Int)) (k1_7 : Int) : Nat → Int → Option (LR (Bool) (Int))
  | 0, _ => none
  | n + 1, y1_200 =>
    bif (ilt y1_200 k1_7) then
      gd (inL k1_6 y1_200) (
      bd (F_impl_ComponentsOf fu ((gat pnil k1_6 y1_200).1) ((gat pnil k1_6 y1_200).2)) fun r18 =>
      bd (
        bif (bnot r18.2) then
          some true
        else
          bif (ine r18.1 (isub .i64 k1_5 y1_200)) then
            some true
          else
            gd (inL k1_2 y1_200) (
            bd (F_laws_sSamePair fu ((gat pnil k1_6 y1_200).1) ((gat pnil k1_6 y1_200).2) ((gat pnil k1_2 y1_200).1) ((gat pnil k1_2 y1_200).2)) fun r19 =>
            bif (bnot r19) then
              some true
            else
              bd (F_laws_sSame fu ((gat pnil k1_6 y1_200).2) k1_1) fun r20 =>
              some (bnot r20))) fun s235 =>
      bif s235 then
        some (.ret false)
      else
        F_laws_FnMergedAndSplit_L1 fu k1_0 k1_1 k1_2 k1_3 k1_4 k1_5 k1_6 k1_7 n (iadd .i64 y1_200 1))
    else
      some (.brk y1_200)
def F_laws_FnMergedAndSplit (fu : Nat) (x0 : List Int) (x1 : List Int) : Option (Bool) :=
  bd (F_laws_big fu x0 x1) fun r1 =>
  bif r1 then
    some true
  else
    bd (F_spec_DrawMergePath fu x0) fun r2 =>
    bd (F_impl_MergePath fu r2.1 r2.2) fun r3 =>
    bd (F_spec_MergePath fu r2.1 r2.2) fun r4 =>
    bd (F_impl_MergeDistance fu r2.1 r2.2) fun r5 =>
    bd (F_spec_MergeDistance fu r2.1 r2.2) fun r6 =>
    bd (F_impl_SplitPath fu r2.1 r2.2) fun r7 =>
    bd (F_spec_SplitPath fu r2.1 r2.2) fun r8 =>
    bd (
      bif (bne' r3.2 r4.2) then
        some true
      else
        bif (ine (llen r3.1) (llen r4.1)) then
          some true
        else
          bif (bne' r5.2 r6.2) then
            some true
          else
            bif (ine r5.1 r6.1) then
              some true
            else
              bif (bne' r7.2 r8.2) then
                some true
              else
                bif (ine (llen r7.1) (llen r8.1)) then
                  some true
                else
                  bif (bne' r5.2 r3.2) then
                    some true
                  else
                    some (bne' r7.2 r3.2)) fun s76 =>
    bif s76 then
      some false
    else
      bd (F_spec_DrawFarthestFrom fu x1) fun r9 =>
      bd (F_impl_FarthestFrom fu r9) fun r10 =>
      bd (F_spec_FarthestFrom fu r9) fun r11 =>
      bd (F_impl_ClosingWith fu r9) fun r12 =>
      bd (
        bif (bne' r10.2 r11.2) then
          some true
        else
          bd (F_laws_sSameRows fu r10.1 r11.1) fun r13 =>
          bif (bnot r13) then
            some true
          else
            bif (bne' r12.2 r10.2) then
              some true
            else
              bd (F_laws_sSameRows fu r10.1 r12.1) fun r14 =>
              some (bnot r14)) fun s128 =>
      bif s128 then
        some false
      else
        bif (bnot r4.2) then
          some true
        else
          bd (F_impl_ComponentsOf fu r2.1 r2.2) fun r15 =>
          bd (
            bif (bnot r15.2) then
              some true
            else
              bif (ine r5.1 (isub .i64 r15.1 1)) then
                some true
              else
                bif (ine (llen r3.1) r15.1) then
                  some true
                else
                  bif (ine (llen r7.1) (iadd .i64 (isub .i64 (iquo .i64 (llen r2.1) 2) r15.1) 1)) then
                    some true
                  else
                    gd (inL r3.1 0) (
                    bd (F_laws_sSamePair fu ((gat pnil r3.1 0).1) ((gat pnil r3.1 0).2) r2.1 r2.2) fun r16 =>
                    bif (bnot r16) then
                      some true
                    else
                      gd (inL r7.1 0) (
                      bd (F_laws_sSamePair fu ((gat pnil r7.1 0).1) ((gat pnil r7.1 0).2) r2.1 r2.2) fun r17 =>
                      some (bnot r17)))) fun s163 =>
          bif s163 then
            some false
          else
            bd (F_laws_FnMergedAndSplit_L1 fu r2.1 r2.2 r4.1 r7.1 r8.1 r15.1 r3.1 (llen r3.1) fu 0) fun s1 =>
            lr s1 fun s1 =>
            bd (F_laws_FnMergedAndSplit_L2 fu r2.1 r2.2 r7.1 r8.1 r15.1 (llen r7.1) fu 0) fun s2 =>
            lr s2 fun s2 =>
            gd (inL r7.1 (isub .i64 (llen r7.1) 1)) (
            bd (F_laws_sSame fu ((gat pnil r7.1 (isub .i64 (llen r7.1) 1)).1) r2.2) fun r24 =>
            some r24)
set_option maxHeartbeats 4000000 in
theorem F_laws_FnMergedAndSplit_w {fu : Nat} {H : AH} {v0 : Value} {v1 : Value} {x0 : List Int} {x1 : List Int} {r : (Bool)} (hx0 : Sl H v0 (u8s x0)) (hx1 : Sl H v1 (u8s x1)) (hF : F_laws_FnMergedAndSplit fu x0 x1 = some r) :
    ACallT Tryz.prog 4 [v0, v1] H (fun u G => AgB (Fr H) H G ∧ u = (Value.bool r) ∧ Sep G (Fr H) []) := by
 refine ACallT.of_body (nt := 286) (rs := [.tmp 4]) Tryz.func4 rfl rfl rfl rfl ?_;have A0 : AgB (Fr H) H H := .refl _ _;have S0 : Sep H (Fr H) [] := .nil;have hB := Fr.up H;unfold F_laws_FnMergedAndSplit at hF;refine .sr fun K hK => ?_;simp [];apply hK;refine .seq ?_;obtain ⟨r1, hc1, hF⟩ := bd_some hF;refine .sr fun K hK => ?_;simp [((hx0.agree A0.agree).tup), ((hx1.agree A0.agree).tup)];refine CallD.t (F_laws_big_w (fu := fu) (hx0.agree A0.agree) (hx1.agree A0.agree) hc1) ?_;rintro _ G3 ⟨a6, rfl, S7⟩;have A5 := A0.ext (hB.le A0.1) a6.agree;have S4 : Sep G3 (Fr H) [] := S0.app a6.agree S7 (fun _ h => h) (hB.le A0.1);simp [a6.pre];apply hK;refine DWp.cond' (t := r1) (by simp []) (fun hb8 => ?_) (fun hb8 => ?_)
 ·replace hF := cd_t hb8 hF;refine .sr fun K hK => ?_;simp [];apply hK;refine DWp.ret ?_;simp only [andThen, leaves];obtain rfl := Option.some.inj hF;exact ⟨by simp, [(Value.bool true)], by simp [], A5, rfl, S4.pick [] (by decide) rfl⟩
 ·replace hF := cd_f hb8 hF;refine DWp.skip ?_;simp only [andThen, leaves];obtain ⟨r2, hc9, hF⟩ := bd_some hF;refine .sr fun K hK => ?_;simp [((hx0.agree A5.agree).tup)];refine CallD.t (F_spec_DrawMergePath_w (fu := fu) (hx0.agree A5.agree) hc9) ?_;rintro _ G11 ⟨a14, c10_u0, c10_u1, rfl, S15⟩;have A13 := A5.ext (hB.le A5.1) a14.agree;have S12 : Sep G11 (Fr H) [flat c10_u0 3 (ints r2.1), flat c10_u1 3 (ints r2.2)] := S4.app a14.agree S15 (fun _ h => h) (hB.le A5.1);obtain ⟨G17, p19, q20, q22, a21, S16⟩ := S12.allocT (hB.le A13.1) ze_43 rfl;have A18 := A13.ext (hB.le A13.1) a21;replace S16 : Sep G17 (Fr H) [flat c10_u0 3 (ints r2.1), flat c10_u1 3 (ints r2.2), AL.box p19 [(Value.slice none 0 0), (Value.slice none 0 0)]] := S16;obtain ⟨G23, q24, S25, a27⟩ := S16.putAgg (k := 2) (xs := [c10_u0, c10_u1]) rfl (hB.le A18.1) sz_43 rfl rfl;have A26 := A18.trans a27;replace S25 : Sep G23 (Fr H) [flat c10_u0 3 (ints r2.1), flat c10_u1 3 (ints r2.2), AL.box p19 [c10_u0, c10_u1]] := S25;simp [a14.pre, q20, q22, a21.to_pre, q24];apply hK;have q28 := S25.loadAgg (k := 2) rfl sz_43 ag_43 rfl;obtain ⟨r3, hc29, hF⟩ := bd_some hF;refine .sr fun K hK => ?_;simp [q28, ((S25.sl (k := 0) rfl).tup), ((S25.sl (k := 1) rfl).tup)];refine CallD.t (F_impl_MergePath_w (fu := fu) (S25.sl (k := 0) rfl) (S25.sl (k := 1) rfl) hc29) ?_;rintro _ G31 ⟨a34, c30_u0, c30_C0, rfl, S35⟩;have A33 := A26.ext (hB.le A26.1) a34.agree;have S32 : Sep G31 (Fr H) [flat c10_u0 3 (ints r2.1), flat c10_u1 3 (ints r2.2), AL.box p19 [c10_u0, c10_u1], rowsP c30_u0 43 3 c30_C0 r3.1] := S25.app a34.agree S35 (fun _ h => h) (hB.le A26.1);simp [q28, a34.pre];apply hK;have q36 := S32.loadAgg (k := 2) rfl sz_43 ag_43 rfl
  obtain ⟨r4, hc37, hF⟩ := bd_some hF;refine .sr fun K hK => ?_;simp [q36, ((S32.sl (k := 0) rfl).tup), ((S32.sl (k := 1) rfl).tup)];refine CallD.t (F_spec_MergePath_w (fu := fu) (S32.sl (k := 0) rfl) (S32.sl (k := 1) rfl) hc37) ?_;rintro _ G39 ⟨a42, c38_u0, c38_C0, rfl, S43⟩;have A41 := A33.ext (hB.le A33.1) a42.agree;have S40 : Sep G39 (Fr H) [flat c10_u0 3 (ints r2.1), flat c10_u1 3 (ints r2.2), AL.box p19 [c10_u0, c10_u1], rowsP c30_u0 43 3 c30_C0 r3.1, rowsP c38_u0 43 3 c38_C0 r4.1] := S32.app a42.agree S43 (fun _ h => h) (hB.le A33.1);simp [q36, a42.pre];apply hK;have q44 := S40.loadAgg (k := 2) rfl sz_43 ag_43 rfl;obtain ⟨r5, hc45, hF⟩ := bd_some hF;refine .sr fun K hK => ?_;simp [q44, ((S40.sl (k := 0) rfl).tup), ((S40.sl (k := 1) rfl).tup)];refine CallD.t (F_impl_MergeDistance_w (fu := fu) (S40.sl (k := 0) rfl) (S40.sl (k := 1) rfl) hc45) ?_;rintro _ G47 ⟨a50, rfl, S51⟩;have A49 := A41.ext (hB.le A41.1) a50.agree;have S48 : Sep G47 (Fr H) [flat c10_u0 3 (ints r2.1), flat c10_u1 3 (ints r2.2), AL.box p19 [c10_u0, c10_u1], rowsP c30_u0 43 3 c30_C0 r3.1, rowsP c38_u0 43 3 c38_C0 r4.1] := S40.app a50.agree S51 (fun _ h => h) (hB.le A41.1);simp [q44, a50.pre];apply hK;have q52 := S48.loadAgg (k := 2) rfl sz_43 ag_43 rfl;obtain ⟨r6, hc53, hF⟩ := bd_some hF;refine .sr fun K hK => ?_;simp [q52, ((S48.sl (k := 0) rfl).tup), ((S48.sl (k := 1) rfl).tup)];refine CallD.t (F_spec_MergeDistance_w (fu := fu) (S48.sl (k := 0) rfl) (S48.sl (k := 1) rfl) hc53) ?_;rintro _ G55 ⟨a58, rfl, S59⟩;have A57 := A49.ext (hB.le A49.1) a58.agree
  have S56 : Sep G55 (Fr H) [flat c10_u0 3 (ints r2.1), flat c10_u1 3 (ints r2.2), AL.box p19 [c10_u0, c10_u1], rowsP c30_u0 43 3 c30_C0 r3.1, rowsP c38_u0 43 3 c38_C0 r4.1] := S48.app a58.agree S59 (fun _ h => h) (hB.le A49.1);simp [q52, a58.pre];apply hK;have q60 := S56.loadAgg (k := 2) rfl sz_43 ag_43 rfl;obtain ⟨r7, hc61, hF⟩ := bd_some hF;refine .sr fun K hK => ?_;simp [q60, ((S56.sl (k := 0) rfl).tup), ((S56.sl (k := 1) rfl).tup)];refine CallD.t (F_impl_SplitPath_w (fu := fu) (S56.sl (k := 0) rfl) (S56.sl (k := 1) rfl) hc61) ?_;rintro _ G63 ⟨a66, c62_u0, c62_C0, rfl, S67⟩;have A65 := A57.ext (hB.le A57.1) a66.agree;have S64 : Sep G63 (Fr H) [flat c10_u0 3 (ints r2.1), flat c10_u1 3 (ints r2.2), AL.box p19 [c10_u0, c10_u1], rowsP c30_u0 43 3 c30_C0 r3.1, rowsP c38_u0 43 3 c38_C0 r4.1, rowsP c62_u0 43 3 c62_C0 r7.1] := S56.app a66.agree S67 (fun _ h => h) (hB.le A57.1);simp [q60, a66.pre];apply hK;have q68 := S64.loadAgg (k := 2) rfl sz_43 ag_43 rfl;obtain ⟨r8, hc69, hF⟩ := bd_some hF;refine .sr fun K hK => ?_;simp [q68, ((S64.sl (k := 0) rfl).tup), ((S64.sl (k := 1) rfl).tup)];refine CallD.t (F_spec_SplitPath_w (fu := fu) (S64.sl (k := 0) rfl) (S64.sl (k := 1) rfl) hc69) ?_;rintro _ G71 ⟨a74, c70_u0, c70_C0, rfl, S75⟩;have A73 := A65.ext (hB.le A65.1) a74.agree;have S72 : Sep G71 (Fr H) [flat c10_u0 3 (ints r2.1), flat c10_u1 3 (ints r2.2), AL.box p19 [c10_u0, c10_u1], rowsP c30_u0 43 3 c30_C0 r3.1, rowsP c38_u0 43 3 c38_C0 r4.1, rowsP c62_u0 43 3 c62_C0 r7.1, rowsP c70_u0 43 3 c70_C0 r8.1] := S64.app a74.agree S75 (fun _ h => h) (hB.le A65.1);simp [q68, a74.pre];apply hK;refine .seq ?_;obtain ⟨s76, hL77, hF⟩ := bd_some hF
  refine DWp.seq (DWp.join (fun env G => Sep G (Fr H) [AL.box p19 [c10_u0, c10_u1], flat c10_u0 3 (ints r2.1), flat c10_u1 3 (ints r2.2), rowsP c30_u0 43 3 c30_C0 r3.1, rowsP c38_u0 43 3 c38_C0 r4.1, rowsP c62_u0 43 3 c62_C0 r7.1, rowsP c70_u0 43 3 c70_C0 r8.1] ∧ AgB (Fr H) H G ∧ env 1 = some v1 ∧ env 5 = some p19 ∧ env 6 = some c30_u0 ∧ env 8 = some c38_u0 ∧ env 9 = some (Value.bool r4.2) ∧ env 10 = some (Value.int .i64 r5.1) ∧ env 14 = some c62_u0 ∧ env 16 = some c70_u0 ∧ env 111 = some (Value.bool s76)) ?_ ?_)
  ·
   rcases Bool.eq_false_or_eq_true (bne' r3.2 r4.2) with hb79 | hb79
   ·replace hL77 := cd_t hb79 hL77;refine .region fun K hK => ?_;simp [hb79, b_bne un_4];apply hK;simp only [andThen, leaves];have S80 := S72.pick [2, 0, 1, 3, 4, 5, 6] (by decide) rfl;obtain rfl := Option.some.inj hL77;exact ⟨S80, A73, by simp []⟩
   ·replace hL77 := cd_f hb79 hL77;have q81 := (S72.rdP (k := 3) rfl).lenG el_45;have q82 := (S72.rdP (k := 4) rfl).lenG el_45;rcases Bool.eq_false_or_eq_true (ine (llen r3.1) (llen r4.1)) with hb83 | hb83
    ·replace hL77 := cd_t hb83 hL77;refine .region fun K hK => ?_;simp [hb79, hb83, b_bne un_4, q81, q82];apply hK;simp only [andThen, leaves];have S84 := S72.pick [2, 0, 1, 3, 4, 5, 6] (by decide) rfl;obtain rfl := Option.some.inj hL77;exact ⟨S84, A73, by simp []⟩
    ·replace hL77 := cd_f hb83 hL77;rcases Bool.eq_false_or_eq_true (bne' r5.2 r6.2) with hb85 | hb85
     ·replace hL77 := cd_t hb85 hL77;refine .region fun K hK => ?_;simp [hb79, hb83, hb85, b_bne un_4, q81, q82];apply hK;simp only [andThen, leaves];have S86 := S72.pick [2, 0, 1, 3, 4, 5, 6] (by decide) rfl;obtain rfl := Option.some.inj hL77;exact ⟨S86, A73, by simp []⟩
     ·replace hL77 := cd_f hb85 hL77;rcases Bool.eq_false_or_eq_true (ine r5.1 r6.1) with hb87 | hb87
      ·replace hL77 := cd_t hb87 hL77;refine .region fun K hK => ?_;simp [hb79, hb83, hb85, hb87, b_bne un_4, q81, q82];apply hK;simp only [andThen, leaves];have S88 := S72.pick [2, 0, 1, 3, 4, 5, 6] (by decide) rfl;obtain rfl := Option.some.inj hL77;exact ⟨S88, A73, by simp []⟩
      ·replace hL77 := cd_f hb87 hL77;rcases Bool.eq_false_or_eq_true (bne' r7.2 r8.2) with hb89 | hb89
       ·replace hL77 := cd_t hb89 hL77;refine .region fun K hK => ?_;simp [hb79, hb83, hb85, hb87, hb89, b_bne un_4, q81, q82];apply hK;simp only [andThen, leaves];have S90 := S72.pick [2, 0, 1, 3, 4, 5, 6] (by decide) rfl;obtain rfl := Option.some.inj hL77;exact ⟨S90, A73, by simp []⟩
       ·replace hL77 := cd_f hb89 hL77;have q91 := (S72.rdP (k := 5) rfl).lenG el_45;have q92 := (S72.rdP (k := 6) rfl).lenG el_45;rcases Bool.eq_false_or_eq_true (ine (llen r7.1) (llen r8.1)) with hb93 | hb93
        ·replace hL77 := cd_t hb93 hL77;refine .region fun K hK => ?_;simp [hb79, hb83, hb85, hb87, hb89, hb93, b_bne un_4, q81, q82, q91, q92];apply hK;simp only [andThen, leaves];have S94 := S72.pick [2, 0, 1, 3, 4, 5, 6] (by decide) rfl;obtain rfl := Option.some.inj hL77;exact ⟨S94, A73, by simp []⟩
        ·replace hL77 := cd_f hb93 hL77;rcases Bool.eq_false_or_eq_true (bne' r5.2 r3.2) with hb95 | hb95
         ·replace hL77 := cd_t hb95 hL77;refine .region fun K hK => ?_;simp [hb79, hb83, hb85, hb87, hb89, hb93, hb95, b_bne un_4, q81, q82, q91, q92];apply hK;simp only [andThen, leaves];have S96 := S72.pick [2, 0, 1, 3, 4, 5, 6] (by decide) rfl;obtain rfl := Option.some.inj hL77;exact ⟨S96, A73, by simp []⟩
         ·replace hL77 := cd_f hb95 hL77;refine .region fun K hK => ?_;simp [hb79, hb83, hb85, hb87, hb89, hb93, hb95, b_bne un_4, q81, q82, q91, q92];apply hK;simp only [andThen, leaves];have S97 := S72.pick [2, 0, 1, 3, 4, 5, 6] (by decide) rfl;obtain rfl := Option.some.inj hL77;exact ⟨S97, A73, by simp []⟩
  ·rintro env Gj98 ⟨Sj98, Aj98, ej98_⟩;refine DWp.cond' (t := s76) (by simp [ej98_]) (fun hb99 => ?_) (fun hb99 => ?_)
   ·replace hF := cd_t hb99 hF;refine .sr fun K hK => ?_;simp [ej98_];apply hK;refine DWp.ret ?_;simp only [andThen, leaves];obtain rfl := Option.some.inj hF;exact ⟨by simp, [(Value.bool false)], by simp [ej98_], Aj98, rfl, Sj98.pick [] (by decide) rfl⟩
   ·replace hF := cd_f hb99 hF;refine DWp.skip ?_;simp only [andThen, leaves];obtain ⟨r9, hc100, hF⟩ := bd_some hF;refine .sr fun K hK => ?_;simp [ej98_, ((hx1.agree Aj98.agree).tup)];refine CallD.t (F_spec_DrawFarthestFrom_w (fu := fu) (hx1.agree Aj98.agree) hc100) ?_;rintro c101_u0 G102 ⟨a105, _, rfl, S106⟩;have A104 := Aj98.ext (hB.le Aj98.1) a105.agree;have S103 : Sep G102 (Fr H) [AL.box p19 [c10_u0, c10_u1], flat c10_u0 3 (ints r2.1), flat c10_u1 3 (ints r2.2), rowsP c30_u0 43 3 c30_C0 r3.1, rowsP c38_u0 43 3 c38_C0 r4.1, rowsP c62_u0 43 3 c62_C0 r7.1, rowsP c70_u0 43 3 c70_C0 r8.1, flat c101_u0 3 (ints r9)] := Sj98.app a105.agree S106 (fun _ h => h) (hB.le Aj98.1);simp [ej98_, a105.pre];apply hK;obtain ⟨r10, hc107, hF⟩ := bd_some hF;refine .sr fun K hK => ?_;simp [ej98_, ((S103.sl (k := 7) rfl).tup)];refine CallD.t (F_impl_FarthestFrom_w (fu := fu) (S103.sl (k := 7) rfl) hc107) ?_;rintro _ G109 ⟨a112, c108_u0, c108_C0, rfl, S113⟩;have A111 := A104.ext (hB.le A104.1) a112.agree;have S110 : Sep G109 (Fr H) [AL.box p19 [c10_u0, c10_u1], flat c10_u0 3 (ints r2.1), flat c10_u1 3 (ints r2.2), rowsP c30_u0 43 3 c30_C0 r3.1, rowsP c38_u0 43 3 c38_C0 r4.1, rowsP c62_u0 43 3 c62_C0 r7.1, rowsP c70_u0 43 3 c70_C0 r8.1, flat c101_u0 3 (ints r9), rowsC c108_u0 24 3 c108_C0 (List.map ints r10.1)] := S103.app a112.agree S113 (fun _ h => h) (hB.le A104.1);simp [ej98_, a112.pre];apply hK;obtain ⟨r11, hc114, hF⟩ := bd_some hF;refine .sr fun K hK => ?_;simp [ej98_, ((S110.sl (k := 7) rfl).tup)];refine CallD.t (F_spec_FarthestFrom_w (fu := fu) (S110.sl (k := 7) rfl) hc114) ?_;rintro _ G116 ⟨a119, c115_u0, c115_C0, rfl, S120⟩;have A118 := A111.ext (hB.le A111.1) a119.agree
    have S117 : Sep G116 (Fr H) [AL.box p19 [c10_u0, c10_u1], flat c10_u0 3 (ints r2.1), flat c10_u1 3 (ints r2.2), rowsP c30_u0 43 3 c30_C0 r3.1, rowsP c38_u0 43 3 c38_C0 r4.1, rowsP c62_u0 43 3 c62_C0 r7.1, rowsP c70_u0 43 3 c70_C0 r8.1, flat c101_u0 3 (ints r9), rowsC c108_u0 24 3 c108_C0 (List.map ints r10.1), rowsC c115_u0 24 3 c115_C0 (List.map ints r11.1)] := S110.app a119.agree S120 (fun _ h => h) (hB.le A111.1);simp [ej98_, a119.pre];apply hK;obtain ⟨r12, hc121, hF⟩ := bd_some hF;refine .sr fun K hK => ?_;simp [ej98_, ((S117.sl (k := 7) rfl).tup)];refine CallD.t (F_impl_ClosingWith_w (fu := fu) (S117.sl (k := 7) rfl) hc121) ?_;rintro _ G123 ⟨a126, c122_u0, c122_C0, rfl, S127⟩;have A125 := A118.ext (hB.le A118.1) a126.agree;have S124 : Sep G123 (Fr H) [AL.box p19 [c10_u0, c10_u1], flat c10_u0 3 (ints r2.1), flat c10_u1 3 (ints r2.2), rowsP c30_u0 43 3 c30_C0 r3.1, rowsP c38_u0 43 3 c38_C0 r4.1, rowsP c62_u0 43 3 c62_C0 r7.1, rowsP c70_u0 43 3 c70_C0 r8.1, flat c101_u0 3 (ints r9), rowsC c108_u0 24 3 c108_C0 (List.map ints r10.1), rowsC c115_u0 24 3 c115_C0 (List.map ints r11.1), rowsC c122_u0 24 3 c122_C0 (List.map ints r12.1)] := S117.app a126.agree S127 (fun _ h => h) (hB.le A118.1);simp [ej98_, a126.pre];apply hK;refine .seq ?_;obtain ⟨s128, hL129, hF⟩ := bd_some hF
    refine DWp.seq (DWp.join (fun env G => Sep G (Fr H) [AL.box p19 [c10_u0, c10_u1], flat c10_u0 3 (ints r2.1), flat c10_u1 3 (ints r2.2), rowsP c30_u0 43 3 c30_C0 r3.1, rowsP c38_u0 43 3 c38_C0 r4.1, rowsP c62_u0 43 3 c62_C0 r7.1, rowsP c70_u0 43 3 c70_C0 r8.1] ∧ AgB (Fr H) H G ∧ env 5 = some p19 ∧ env 6 = some c30_u0 ∧ env 8 = some c38_u0 ∧ env 9 = some (Value.bool r4.2) ∧ env 10 = some (Value.int .i64 r5.1) ∧ env 14 = some c62_u0 ∧ env 16 = some c70_u0 ∧ env 148 = some (Value.bool s128)) ?_ ?_)
    ·
     rcases Bool.eq_false_or_eq_true (bne' r10.2 r11.2) with hb131 | hb131
     ·replace hL129 := cd_t hb131 hL129;refine .region fun K hK => ?_;simp [ej98_, hb131, b_bne un_4];apply hK;simp only [andThen, leaves];have S132 := S124.pick [0, 1, 2, 3, 4, 5, 6] (by decide) rfl;obtain rfl := Option.some.inj hL129;exact ⟨S132, A125, by simp [ej98_]⟩
     ·replace hL129 := cd_f hb131 hL129;obtain ⟨r13, hc133, hL129⟩ := bd_some hL129;refine .region fun K hK => ?_;simp [ej98_, hb131, b_bne un_4, ((S124.rd (k := 8) rfl).tup), ((S124.rd (k := 9) rfl).tup)];refine CallD.t (F_laws_sSameRows_w (fu := fu) ((S124.rd (k := 8) rfl).slsl) ((S124.rd (k := 9) rfl).slsl) hc133) ?_;rintro _ G135 ⟨a138, rfl, S139⟩;have A137 := A125.ext (hB.le A125.1) a138.agree;have S136 : Sep G135 (Fr H) [AL.box p19 [c10_u0, c10_u1], flat c10_u0 3 (ints r2.1), flat c10_u1 3 (ints r2.2), rowsP c30_u0 43 3 c30_C0 r3.1, rowsP c38_u0 43 3 c38_C0 r4.1, rowsP c62_u0 43 3 c62_C0 r7.1, rowsP c70_u0 43 3 c70_C0 r8.1, flat c101_u0 3 (ints r9), rowsC c108_u0 24 3 c108_C0 (List.map ints r10.1), rowsC c115_u0 24 3 c115_C0 (List.map ints r11.1), rowsC c122_u0 24 3 c122_C0 (List.map ints r12.1)] := S124.app a138.agree S139 (fun _ h => h) (hB.le A125.1);rcases Bool.eq_false_or_eq_true (bnot r13) with hb140 | hb140
      ·replace hL129 := cd_t hb140 hL129;simp [ej98_, hb131, hb140, b_bne un_4, a138.pre];apply hK;simp only [andThen, leaves];have S141 := S136.pick [0, 1, 2, 3, 4, 5, 6] (by decide) rfl;obtain rfl := Option.some.inj hL129;exact ⟨S141, A137, by simp [ej98_]⟩
      ·replace hL129 := cd_f hb140 hL129;rcases Bool.eq_false_or_eq_true (bne' r12.2 r10.2) with hb142 | hb142
       ·replace hL129 := cd_t hb142 hL129;simp [ej98_, hb131, hb140, hb142, b_bne un_4, a138.pre];apply hK;simp only [andThen, leaves];have S143 := S136.pick [0, 1, 2, 3, 4, 5, 6] (by decide) rfl;obtain rfl := Option.some.inj hL129;exact ⟨S143, A137, by simp [ej98_]⟩
       ·replace hL129 := cd_f hb142 hL129;obtain ⟨r14, hc144, hL129⟩ := bd_some hL129;simp [ej98_, hb131, hb140, hb142, b_bne un_4, a138.pre, ((S136.rd (k := 8) rfl).tup), ((S136.rd (k := 10) rfl).tup)];refine CallD.t (F_laws_sSameRows_w (fu := fu) ((S136.rd (k := 8) rfl).slsl) ((S136.rd (k := 10) rfl).slsl) hc144) ?_;rintro _ G146 ⟨a149, rfl, S150⟩;have A148 := A137.ext (hB.le A137.1) a149.agree;have S147 : Sep G146 (Fr H) [AL.box p19 [c10_u0, c10_u1], flat c10_u0 3 (ints r2.1), flat c10_u1 3 (ints r2.2), rowsP c30_u0 43 3 c30_C0 r3.1, rowsP c38_u0 43 3 c38_C0 r4.1, rowsP c62_u0 43 3 c62_C0 r7.1, rowsP c70_u0 43 3 c70_C0 r8.1, flat c101_u0 3 (ints r9), rowsC c108_u0 24 3 c108_C0 (List.map ints r10.1), rowsC c115_u0 24 3 c115_C0 (List.map ints r11.1), rowsC c122_u0 24 3 c122_C0 (List.map ints r12.1)] := S136.app a149.agree S150 (fun _ h => h) (hB.le A137.1);simp [ej98_, hb131, hb140, hb142, b_bne un_4, a138.pre, a149.pre];apply hK;simp only [andThen, leaves];have S151 := S147.pick [0, 1, 2, 3, 4, 5, 6] (by decide) rfl;obtain rfl := Option.some.inj hL129;exact ⟨S151, A148, by simp [ej98_]⟩
    ·rintro env Gj152 ⟨Sj152, Aj152, ej152_⟩;refine DWp.cond' (t := s128) (by simp [ej152_]) (fun hb153 => ?_) (fun hb153 => ?_)
     ·replace hF := cd_t hb153 hF;refine .sr fun K hK => ?_;simp [ej152_];apply hK;refine DWp.ret ?_;simp only [andThen, leaves];obtain rfl := Option.some.inj hF;exact ⟨by simp, [(Value.bool false)], by simp [ej152_], Aj152, rfl, Sj152.pick [] (by decide) rfl⟩
     ·replace hF := cd_f hb153 hF;refine DWp.skip ?_;simp only [andThen, leaves];refine .seq ?_;refine .sr fun K hK => ?_;simp [ej152_];apply hK;refine DWp.cond' (t := (bnot r4.2)) (by simp [ej152_]) (fun hb154 => ?_) (fun hb154 => ?_)
      ·replace hF := cd_t hb154 hF;refine .sr fun K hK => ?_;simp [ej152_];apply hK;refine DWp.ret ?_;simp only [andThen, leaves];obtain rfl := Option.some.inj hF;exact ⟨by simp, [(Value.bool true)], by simp [ej152_], Aj152, rfl, Sj152.pick [] (by decide) rfl⟩
      ·replace hF := cd_f hb154 hF;refine DWp.skip ?_;simp only [andThen, leaves];have q155 := Sj152.loadAgg (k := 0) rfl sz_43 ag_43 rfl;obtain ⟨r15, hc156, hF⟩ := bd_some hF;refine .sr fun K hK => ?_;simp [ej152_, q155, ((Sj152.sl (k := 1) rfl).tup), ((Sj152.sl (k := 2) rfl).tup)];refine CallD.t (F_impl_ComponentsOf_w (fu := fu) (Sj152.sl (k := 1) rfl) (Sj152.sl (k := 2) rfl) hc156) ?_;rintro _ G158 ⟨a161, rfl, S162⟩;have A160 := Aj152.ext (hB.le Aj152.1) a161.agree;have S159 : Sep G158 (Fr H) [AL.box p19 [c10_u0, c10_u1], flat c10_u0 3 (ints r2.1), flat c10_u1 3 (ints r2.2), rowsP c30_u0 43 3 c30_C0 r3.1, rowsP c38_u0 43 3 c38_C0 r4.1, rowsP c62_u0 43 3 c62_C0 r7.1, rowsP c70_u0 43 3 c70_C0 r8.1] := Sj152.app a161.agree S162 (fun _ h => h) (hB.le Aj152.1);simp [ej152_, q155, a161.pre];apply hK;refine .seq ?_;obtain ⟨s163, hL164, hF⟩ := bd_some hF;refine DWp.seq (DWp.join (fun env G => Sep G (Fr H) [AL.box p19 [c10_u0, c10_u1], flat c10_u0 3 (ints r2.1), flat c10_u1 3 (ints r2.2), rowsP c30_u0 43 3 c30_C0 r3.1, rowsP c38_u0 43 3 c38_C0 r4.1, rowsP c62_u0 43 3 c62_C0 r7.1, rowsP c70_u0 43 3 c70_C0 r8.1] ∧ AgB (Fr H) H G ∧ env 5 = some p19 ∧ env 6 = some c30_u0 ∧ env 8 = some c38_u0 ∧ env 14 = some c62_u0 ∧ env 16 = some c70_u0 ∧ env 25 = some (Value.int .i64 r15.1) ∧ env 197 = some (Value.bool s163)) ?_ ?_)
       ·
        rcases Bool.eq_false_or_eq_true (bnot r15.2) with hb166 | hb166
        ·replace hL164 := cd_t hb166 hL164;refine .drawn (B := [0, 1, 3, 7, 7, 23, 63, 127, 255, 511, 1023, 511, 4095, 8191, 16383, 32767, 65535, 32767, 163839, 425983, 950271, 32767, 4095999, 8290303, 16777215, 33554431, 67108863, 134217727, 268435455, 536870911, 134217727, 2147483647, 4294967295, 8589934591, 17179869183, 34359738367, 68719476735, 137438953471, 34359738367, 549755813887, 1099511627775, 2199023255551]) 42 mixed (by kernel_rfl) (by decide) fun K hK => ?_;simp [ej152_, hb166];apply hK;simp only [andThen, leaves];have S167 := S159.pick [0, 1, 2, 3, 4, 5, 6] (by decide) rfl;obtain rfl := Option.some.inj hL164;exact ⟨S167, A160, by simp [ej152_]⟩
        ·replace hL164 := cd_f hb166 hL164;rcases Bool.eq_false_or_eq_true (ine r5.1 (isub .i64 r15.1 1)) with hb168 | hb168
         ·replace hL164 := cd_t hb168 hL164;refine .drawn (B := [0, 1, 3, 7, 7, 23, 63, 127, 255, 511, 1023, 511, 4095, 8191, 16383, 32767, 65535, 32767, 163839, 425983, 950271, 32767, 4095999, 8290303, 16777215, 33554431, 67108863, 134217727, 268435455, 536870911, 134217727, 2147483647, 4294967295, 8589934591, 17179869183, 34359738367, 68719476735, 137438953471, 34359738367, 549755813887, 1099511627775, 2199023255551]) 42 mixed (by kernel_rfl) (by decide) fun K hK => ?_;simp [ej152_, hb166, hb168];apply hK;simp only [andThen, leaves];have S169 := S159.pick [0, 1, 2, 3, 4, 5, 6] (by decide) rfl;obtain rfl := Option.some.inj hL164;exact ⟨S169, A160, by simp [ej152_]⟩
         ·replace hL164 := cd_f hb168 hL164;have q170 := (S159.rdP (k := 3) rfl).lenG el_45;rcases Bool.eq_false_or_eq_true (ine (llen r3.1) r15.1) with hb171 | hb171
          ·replace hL164 := cd_t hb171 hL164;refine .drawn (B := [0, 1, 3, 7, 7, 23, 63, 127, 255, 511, 1023, 511, 4095, 8191, 16383, 32767, 65535, 32767, 163839, 425983, 950271, 32767, 4095999, 8290303, 16777215, 33554431, 67108863, 134217727, 268435455, 536870911, 134217727, 2147483647, 4294967295, 8589934591, 17179869183, 34359738367, 68719476735, 137438953471, 34359738367, 549755813887, 1099511627775, 2199023255551]) 42 mixed (by kernel_rfl) (by decide) fun K hK => ?_;simp [ej152_, hb166, hb168, hb171, q170];apply hK;simp only [andThen, leaves];have S172 := S159.pick [0, 1, 2, 3, 4, 5, 6] (by decide) rfl;obtain rfl := Option.some.inj hL164;exact ⟨S172, A160, by simp [ej152_]⟩
          ·replace hL164 := cd_f hb171 hL164;have q173 := (S159.rdP (k := 5) rfl).lenG el_45;have q174 := S159.fieldT (k := 0) rfl fa_43_0;have q175 := S159.loadF (k := 0) rfl sz_24 ag_24 (off := 0) rfl;have q176 := lenG (S159.sl (k := 1) rfl) el_24;have g177 : (2 : Int) ≠ 0 := by decide
           rcases Bool.eq_false_or_eq_true (ine (llen r7.1) (iadd .i64 (isub .i64 (iquo .i64 (llen r2.1) 2) r15.1) 1)) with hb178 | hb178
           ·replace hL164 := cd_t hb178 hL164;refine .drawn (B := [0, 1, 3, 7, 7, 23, 63, 127, 255, 511, 1023, 511, 4095, 8191, 16383, 32767, 65535, 32767, 163839, 425983, 950271, 32767, 4095999, 8290303, 16777215, 33554431, 67108863, 134217727, 268435455, 536870911, 134217727, 2147483647, 4294967295, 8589934591, 17179869183, 34359738367, 68719476735, 137438953471, 34359738367, 549755813887, 1099511627775, 2199023255551]) 42 mixed (by kernel_rfl) (by decide) fun K hK => ?_;simp [ej152_, hb166, hb168, hb171, hb178, q170, q173, q174, q175, q176, b_quo g177];apply hK;simp only [andThen, leaves];have S179 := S159.pick [0, 1, 2, 3, 4, 5, 6] (by decide) rfl;obtain rfl := Option.some.inj hL164;exact ⟨S179, A160, by simp [ej152_]⟩
           ·replace hL164 := cd_f hb178 hL164;obtain ⟨g180, hL164⟩ := gd_some hL164;have q181 := (S159.rdP (k := 3) rfl).idxG (kk := .i64) el_45 sz_43 g180;replace q181 : aIndexAddr Tryz.prog G158 45 c30_u0 (Value.int .i64 0) = some (elP c30_u0 0) := q181;have q182 := (S159.rdP (k := 3) rfl).loadG sz_43 ag_43 g180;replace q182 : aLoad Tryz.prog G158 43 (elP c30_u0 0) = some ((Value.agg #[(pc c30_C0 0 0), (pc c30_C0 0 1)])) := q182;have q183 := S159.loadAgg (k := 0) rfl sz_43 ag_43 rfl;obtain ⟨r16, hc184, hL164⟩ := bd_some hL164;refine .drawn (B := [0, 1, 3, 7, 7, 23, 63, 127, 255, 511, 1023, 511, 4095, 8191, 16383, 32767, 65535, 32767, 163839, 425983, 950271, 32767, 4095999, 8290303, 16777215, 33554431, 67108863, 134217727, 268435455, 536870911, 134217727, 2147483647, 4294967295, 8589934591, 17179869183, 34359738367, 68719476735, 137438953471, 34359738367, 549755813887, 1099511627775, 2199023255551]) 42 mixed (by kernel_rfl) (by decide) fun K hK => ?_;simp [ej152_, hb166, hb168, hb171, hb178, q170, q173, q174, q175, q176, b_quo g177, q181, q182, q183, (((S159.rdP (k := 3) rfl).row0 g180).tup), (((S159.rdP (k := 3) rfl).row1 g180).tup), ((S159.sl (k := 1) rfl).tup), ((S159.sl (k := 2) rfl).tup)];refine CallD.t (F_laws_sSamePair_w (fu := fu) ((S159.rdP (k := 3) rfl).row0 g180) ((S159.rdP (k := 3) rfl).row1 g180) (S159.sl (k := 1) rfl) (S159.sl (k := 2) rfl) hc184) ?_;rintro _ G186 ⟨a189, rfl, S190⟩;have A188 := A160.ext (hB.le A160.1) a189.agree
            have S187 : Sep G186 (Fr H) [AL.box p19 [c10_u0, c10_u1], flat c10_u0 3 (ints r2.1), flat c10_u1 3 (ints r2.2), rowsP c30_u0 43 3 c30_C0 r3.1, rowsP c38_u0 43 3 c38_C0 r4.1, rowsP c62_u0 43 3 c62_C0 r7.1, rowsP c70_u0 43 3 c70_C0 r8.1] := S159.app a189.agree S190 (fun _ h => h) (hB.le A160.1);rcases Bool.eq_false_or_eq_true (bnot r16) with hb191 | hb191
            ·replace hL164 := cd_t hb191 hL164;simp [ej152_, hb166, hb168, hb171, hb178, hb191, q170, q173, q174, q175, q176, b_quo g177, q181, q182, q183, a189.pre];apply hK;simp only [andThen, leaves];have S192 := S187.pick [0, 1, 2, 3, 4, 5, 6] (by decide) rfl;obtain rfl := Option.some.inj hL164;exact ⟨S192, A188, by simp [ej152_]⟩
            ·replace hL164 := cd_f hb191 hL164;obtain ⟨g193, hL164⟩ := gd_some hL164;have q194 := (S187.rdP (k := 5) rfl).idxG (kk := .i64) el_45 sz_43 g193;replace q194 : aIndexAddr Tryz.prog G186 45 c62_u0 (Value.int .i64 0) = some (elP c62_u0 0) := q194;have q195 := (S187.rdP (k := 5) rfl).loadG sz_43 ag_43 g193;replace q195 : aLoad Tryz.prog G186 43 (elP c62_u0 0) = some ((Value.agg #[(pc c62_C0 0 0), (pc c62_C0 0 1)])) := q195;have q196 := S187.loadAgg (k := 0) rfl sz_43 ag_43 rfl;obtain ⟨r17, hc197, hL164⟩ := bd_some hL164;simp [ej152_, hb166, hb168, hb171, hb178, hb191, q170, q173, q174, q175, q176, b_quo g177, q181, q182, q183, a189.pre, q194, q195, q196, (((S187.rdP (k := 5) rfl).row0 g193).tup), (((S187.rdP (k := 5) rfl).row1 g193).tup), ((S187.sl (k := 1) rfl).tup), ((S187.sl (k := 2) rfl).tup)];refine CallD.t (F_laws_sSamePair_w (fu := fu) ((S187.rdP (k := 5) rfl).row0 g193) ((S187.rdP (k := 5) rfl).row1 g193) (S187.sl (k := 1) rfl) (S187.sl (k := 2) rfl) hc197) ?_;rintro _ G199 ⟨a202, rfl, S203⟩;have A201 := A188.ext (hB.le A188.1) a202.agree;have S200 : Sep G199 (Fr H) [AL.box p19 [c10_u0, c10_u1], flat c10_u0 3 (ints r2.1), flat c10_u1 3 (ints r2.2), rowsP c30_u0 43 3 c30_C0 r3.1, rowsP c38_u0 43 3 c38_C0 r4.1, rowsP c62_u0 43 3 c62_C0 r7.1, rowsP c70_u0 43 3 c70_C0 r8.1] := S187.app a202.agree S203 (fun _ h => h) (hB.le A188.1);simp [ej152_, hb166, hb168, hb171, hb178, hb191, q170, q173, q174, q175, q176, b_quo g177, q181, q182, q183, a189.pre, q194, q195, q196, a202.pre];apply hK;simp only [andThen, leaves];have S204 := S200.pick [0, 1, 2, 3, 4, 5, 6] (by decide) rfl;obtain rfl := Option.some.inj hL164;exact ⟨S204, A201, by simp [ej152_]⟩
       ·rintro env Gj205 ⟨Sj205, Aj205, ej205_⟩;refine DWp.cond' (t := s163) (by simp [ej205_]) (fun hb206 => ?_) (fun hb206 => ?_)
        ·replace hF := cd_t hb206 hF;refine .sr fun K hK => ?_;simp [ej205_];apply hK;refine DWp.ret ?_;simp only [andThen, leaves];obtain rfl := Option.some.inj hF;exact ⟨by simp, [(Value.bool false)], by simp [ej205_], Aj205, rfl, Sj205.pick [] (by decide) rfl⟩
        ·replace hF := cd_f hb206 hF;refine DWp.skip ?_;simp only [andThen, leaves];refine .seq ?_;have q207 := (Sj205.rdP (k := 3) rfl).lenG el_45;refine .sr fun K hK => ?_;simp [ej205_, q207];apply hK;refine .block ?_;obtain ⟨s208, hL209, hF⟩ := bd_some hF;have S210 := Sj205.pick [0, 1, 2, 4, 5, 6, 3] (by decide) rfl;refine DWp.loop (fun n env G => ∃ y1_200 : Int, F_laws_FnMergedAndSplit_L1 fu r2.1 r2.2 r4.1 r7.1 r8.1 r15.1 r3.1 (llen r3.1) n y1_200 = some s208 ∧ Sep G (Fr H) [AL.box p19 [c10_u0, c10_u1], flat c10_u0 3 (ints r2.1), flat c10_u1 3 (ints r2.2), rowsP c38_u0 43 3 c38_C0 r4.1, rowsP c62_u0 43 3 c62_C0 r7.1, rowsP c70_u0 43 3 c70_C0 r8.1, rowsP c30_u0 43 3 c30_C0 r3.1] ∧ AgB (Fr H) H G ∧ env 5 = some p19 ∧ env 8 = some c38_u0 ∧ env 14 = some c62_u0 ∧ env 16 = some c70_u0 ∧ env 25 = some (Value.int .i64 r15.1) ∧ env 198 = some c30_u0 ∧ env 199 = some (Value.int .i64 (llen r3.1)) ∧ env 200 = some (Value.int .i64 y1_200)) fu ⟨0, hL209, S210, Aj205, by simp [ej205_]⟩ ?_;rintro n1 env1 G1_ ⟨y1_200, hL209, S1_, A1_, e1_⟩;cases n1 with
         | zero => cases hL209
         | succ n1 =>
          simp only [F_laws_FnMergedAndSplit_L1] at hL209;refine .sr fun K hK => ?_;simp [e1_];apply hK;refine .seq ?_;refine DWp.cond' (t := (ilt y1_200 (llen r3.1))) (by simp [e1_]) (fun hb211 => ?_) (fun hb211 => ?_)
          ·replace hL209 := cd_t hb211 hL209;refine DWp.skip ?_;simp only [andThen, leaves];refine .seq ?_;refine .block ?_;obtain ⟨g212, hL209⟩ := gd_some hL209;have q213 := (S1_.rdP (k := 6) rfl).idxG (kk := .i64) el_45 sz_43 g212;have q214 := (S1_.rdP (k := 6) rfl).loadG sz_43 ag_43 g212;obtain ⟨G216, p218, q219, q221, a220, S215⟩ := S1_.allocT (hB.le A1_.1) ze_43 rfl;have A217 := A1_.ext (hB.le A1_.1) a220;replace S215 : Sep G216 (Fr H) [AL.box p19 [c10_u0, c10_u1], flat c10_u0 3 (ints r2.1), flat c10_u1 3 (ints r2.2), rowsP c38_u0 43 3 c38_C0 r4.1, rowsP c62_u0 43 3 c62_C0 r7.1, rowsP c70_u0 43 3 c70_C0 r8.1, rowsP c30_u0 43 3 c30_C0 r3.1, AL.box p218 [(Value.slice none 0 0), (Value.slice none 0 0)]] := S215;obtain ⟨G222, q223, S224, a226⟩ := S215.putAgg (k := 7) (xs := [(pc c30_C0 y1_200 0), (pc c30_C0 y1_200 1)]) rfl (hB.le A217.1) sz_43 rfl rfl;have A225 := A217.trans a226;replace S224 : Sep G222 (Fr H) [AL.box p19 [c10_u0, c10_u1], flat c10_u0 3 (ints r2.1), flat c10_u1 3 (ints r2.2), rowsP c38_u0 43 3 c38_C0 r4.1, rowsP c62_u0 43 3 c62_C0 r7.1, rowsP c70_u0 43 3 c70_C0 r8.1, rowsP c30_u0 43 3 c30_C0 r3.1, AL.box p218 [(pc c30_C0 y1_200 0), (pc c30_C0 y1_200 1)]] := S224;refine .sr fun K hK => ?_;simp [e1_, q213, q214, q219, q221, a220.to_pre, q223];apply hK;have q227 := S224.loadAgg (k := 7) rfl sz_43 ag_43 rfl;obtain ⟨r18, hc228, hL209⟩ := bd_some hL209;refine .sr fun K hK => ?_;simp [e1_, q227, (((S224.rdP (k := 6) rfl).row0 g212).tup), (((S224.rdP (k := 6) rfl).row1 g212).tup)];refine CallD.t (F_impl_ComponentsOf_w (fu := fu) ((S224.rdP (k := 6) rfl).row0 g212) ((S224.rdP (k := 6) rfl).row1 g212) hc228) ?_;rintro _ G230 ⟨a233, rfl, S234⟩
           have A232 := A225.ext (hB.le A225.1) a233.agree;have S231 : Sep G230 (Fr H) [AL.box p19 [c10_u0, c10_u1], flat c10_u0 3 (ints r2.1), flat c10_u1 3 (ints r2.2), rowsP c38_u0 43 3 c38_C0 r4.1, rowsP c62_u0 43 3 c62_C0 r7.1, rowsP c70_u0 43 3 c70_C0 r8.1, rowsP c30_u0 43 3 c30_C0 r3.1, AL.box p218 [(pc c30_C0 y1_200 0), (pc c30_C0 y1_200 1)]] := S224.app a233.agree S234 (fun _ h => h) (hB.le A225.1);simp [e1_, q227, a233.pre];apply hK;obtain ⟨s235, hL236, hL209⟩ := bd_some hL209;refine DWp.seq (DWp.join (fun env G => Sep G (Fr H) [AL.box p19 [c10_u0, c10_u1], flat c10_u0 3 (ints r2.1), flat c10_u1 3 (ints r2.2), rowsP c38_u0 43 3 c38_C0 r4.1, rowsP c62_u0 43 3 c62_C0 r7.1, rowsP c70_u0 43 3 c70_C0 r8.1, rowsP c30_u0 43 3 c30_C0 r3.1] ∧ AgB (Fr H) H G ∧ env 5 = some p19 ∧ env 8 = some c38_u0 ∧ env 14 = some c62_u0 ∧ env 16 = some c70_u0 ∧ env 25 = some (Value.int .i64 r15.1) ∧ env 198 = some c30_u0 ∧ env 199 = some (Value.int .i64 (llen r3.1)) ∧ env 200 = some (Value.int .i64 y1_200) ∧ env 235 = some (Value.bool s235)) ?_ ?_)
           ·
            rcases Bool.eq_false_or_eq_true (bnot r18.2) with hb238 | hb238
            ·replace hL236 := cd_t hb238 hL236;refine .drawn (B := [0, 1, 3, 7, 7, 7, 55, 127, 255, 511, 1023, 1023, 1023, 7167, 15359, 32767, 65535, 131071, 262143, 524287, 1048575, 524287, 2621439, 8388607, 16777215, 33554431]) 26 mixed (by kernel_rfl) (by decide) fun K hK => ?_;simp [e1_, hb238];apply hK;simp only [andThen, leaves];have S239 := S231.pick [0, 1, 2, 3, 4, 5, 6] (by decide) rfl;obtain rfl := Option.some.inj hL236;exact ⟨S239, A232, by simp [e1_]⟩
            ·replace hL236 := cd_f hb238 hL236;rcases Bool.eq_false_or_eq_true (ine r18.1 (isub .i64 r15.1 y1_200)) with hb240 | hb240
             ·replace hL236 := cd_t hb240 hL236;refine .drawn (B := [0, 1, 3, 7, 7, 7, 55, 127, 255, 511, 1023, 1023, 1023, 7167, 15359, 32767, 65535, 131071, 262143, 524287, 1048575, 524287, 2621439, 8388607, 16777215, 33554431]) 26 mixed (by kernel_rfl) (by decide) fun K hK => ?_;simp [e1_, hb238, hb240];apply hK;simp only [andThen, leaves];have S241 := S231.pick [0, 1, 2, 3, 4, 5, 6] (by decide) rfl;obtain rfl := Option.some.inj hL236;exact ⟨S241, A232, by simp [e1_]⟩
             ·replace hL236 := cd_f hb240 hL236;have q242 := S231.loadAgg (k := 7) rfl sz_43 ag_43 rfl;obtain ⟨g243, hL236⟩ := gd_some hL236;have q244 := (S231.rdP (k := 3) rfl).idxG (kk := .i64) el_45 sz_43 g243;have q245 := (S231.rdP (k := 3) rfl).loadG sz_43 ag_43 g243;obtain ⟨r19, hc246, hL236⟩ := bd_some hL236;refine .drawn (B := [0, 1, 3, 7, 7, 7, 55, 127, 255, 511, 1023, 1023, 1023, 7167, 15359, 32767, 65535, 131071, 262143, 524287, 1048575, 524287, 2621439, 8388607, 16777215, 33554431]) 26 mixed (by kernel_rfl) (by decide) fun K hK => ?_;simp [e1_, hb238, hb240, q242, q244, q245, (((S231.rdP (k := 6) rfl).row0 g212).tup), (((S231.rdP (k := 6) rfl).row1 g212).tup), (((S231.rdP (k := 3) rfl).row0 g243).tup), (((S231.rdP (k := 3) rfl).row1 g243).tup)];refine CallD.t (F_laws_sSamePair_w (fu := fu) ((S231.rdP (k := 6) rfl).row0 g212) ((S231.rdP (k := 6) rfl).row1 g212) ((S231.rdP (k := 3) rfl).row0 g243) ((S231.rdP (k := 3) rfl).row1 g243) hc246) ?_;rintro _ G248 ⟨a251, rfl, S252⟩;have A250 := A232.ext (hB.le A232.1) a251.agree;have S249 : Sep G248 (Fr H) [AL.box p19 [c10_u0, c10_u1], flat c10_u0 3 (ints r2.1), flat c10_u1 3 (ints r2.2), rowsP c38_u0 43 3 c38_C0 r4.1, rowsP c62_u0 43 3 c62_C0 r7.1, rowsP c70_u0 43 3 c70_C0 r8.1, rowsP c30_u0 43 3 c30_C0 r3.1, AL.box p218 [(pc c30_C0 y1_200 0), (pc c30_C0 y1_200 1)]] := S231.app a251.agree S252 (fun _ h => h) (hB.le A232.1);rcases Bool.eq_false_or_eq_true (bnot r19) with hb253 | hb253
              ·replace hL236 := cd_t hb253 hL236;simp [e1_, hb238, hb240, hb253, q242, q244, q245, a251.pre];apply hK;simp only [andThen, leaves];have S254 := S249.pick [0, 1, 2, 3, 4, 5, 6] (by decide) rfl;obtain rfl := Option.some.inj hL236;exact ⟨S254, A250, by simp [e1_]⟩
              ·replace hL236 := cd_f hb253 hL236;have q255 := S249.fieldT (k := 7) rfl fa_43_1;have q256 := S249.loadF (k := 7) rfl sz_24 ag_24 (off := 1) rfl;have q257 := S249.fieldT (k := 0) rfl fa_43_1;have q258 := S249.loadF (k := 0) rfl sz_24 ag_24 (off := 1) rfl;obtain ⟨r20, hc259, hL236⟩ := bd_some hL236;simp [e1_, hb238, hb240, hb253, q242, q244, q245, a251.pre, q255, q256, q257, q258, (((S249.rdP (k := 6) rfl).row1 g212).tup), ((S249.sl (k := 2) rfl).tup)];refine CallD.t (F_laws_sSame_w (fu := fu) ((S249.rdP (k := 6) rfl).row1 g212) (S249.sl (k := 2) rfl) hc259) ?_;rintro _ G261 ⟨a264, rfl, S265⟩;have A263 := A250.ext (hB.le A250.1) a264.agree;have S262 : Sep G261 (Fr H) [AL.box p19 [c10_u0, c10_u1], flat c10_u0 3 (ints r2.1), flat c10_u1 3 (ints r2.2), rowsP c38_u0 43 3 c38_C0 r4.1, rowsP c62_u0 43 3 c62_C0 r7.1, rowsP c70_u0 43 3 c70_C0 r8.1, rowsP c30_u0 43 3 c30_C0 r3.1, AL.box p218 [(pc c30_C0 y1_200 0), (pc c30_C0 y1_200 1)]] := S249.app a264.agree S265 (fun _ h => h) (hB.le A250.1);simp [e1_, hb238, hb240, hb253, q242, q244, q245, a251.pre, q255, q256, q257, q258, a264.pre];apply hK;simp only [andThen, leaves];have S266 := S262.pick [0, 1, 2, 3, 4, 5, 6] (by decide) rfl;obtain rfl := Option.some.inj hL236;exact ⟨S266, A263, by simp [e1_]⟩
           ·rintro env Gj267 ⟨Sj267, Aj267, ej267_⟩;refine DWp.cond' (t := s235) (by simp [ej267_]) (fun hb268 => ?_) (fun hb268 => ?_)
            ·replace hL209 := cd_t hb268 hL209;refine .sr fun K hK => ?_;simp [ej267_];apply hK;refine DWp.ret ?_;simp only [andThen, leaves];obtain rfl := Option.some.inj hL209;simp only [lr] at hF;obtain rfl := Option.some.inj hF;exact ⟨by simp, [(Value.bool false)], by simp [ej267_], Aj267, rfl, Sj267.pick [] (by decide) rfl⟩
            ·replace hL209 := cd_f hb268 hL209;refine DWp.skip ?_;simp only [andThen, leaves];refine .region fun K hK => ?_;simp [ej267_];apply hK;simp only [andThen, leaves];have S269 := Sj267.pick [0, 1, 2, 3, 4, 5, 6] (by decide) rfl;exact ⟨n1, Nat.lt_succ_self _, (iadd .i64 y1_200 1), hL209, S269, Aj267, by simp [ej267_]⟩
          ·replace hL209 := cd_f hb211 hL209;refine DWp.exit ?_;simp only [andThen, leaves, if_true, if_false, reduceIte, Nat.reduceEqDiff];obtain rfl := Option.some.inj hL209;simp only [lr] at hF;refine .seq ?_;have q270 := (S1_.rdP (k := 4) rfl).lenG el_45;refine .sr fun K hK => ?_;simp [e1_, q270];apply hK;refine .block ?_;obtain ⟨s271, hL272, hF⟩ := bd_some hF;have S273 := S1_.pick [0, 1, 2, 4, 5] (by decide) rfl;refine DWp.loop (fun n env G => ∃ y2_239 : Int, F_laws_FnMergedAndSplit_L2 fu r2.1 r2.2 r7.1 r8.1 r15.1 (llen r7.1) n y2_239 = some s271 ∧ Sep G (Fr H) [AL.box p19 [c10_u0, c10_u1], flat c10_u0 3 (ints r2.1), flat c10_u1 3 (ints r2.2), rowsP c62_u0 43 3 c62_C0 r7.1, rowsP c70_u0 43 3 c70_C0 r8.1] ∧ AgB (Fr H) H G ∧ env 5 = some p19 ∧ env 14 = some c62_u0 ∧ env 16 = some c70_u0 ∧ env 25 = some (Value.int .i64 r15.1) ∧ env 237 = some c62_u0 ∧ env 238 = some (Value.int .i64 (llen r7.1)) ∧ env 239 = some (Value.int .i64 y2_239)) fu ⟨0, hL272, S273, A1_, by simp [e1_]⟩ ?_;rintro n1 env1 G1_ ⟨y2_239, hL272, S1_, A1_, e1_⟩;cases n1 with
           | zero => cases hL272
           | succ n1 =>
            simp only [F_laws_FnMergedAndSplit_L2] at hL272;refine .sr fun K hK => ?_;simp [e1_];apply hK;refine .seq ?_;refine DWp.cond' (t := (ilt y2_239 (llen r7.1))) (by simp [e1_]) (fun hb274 => ?_) (fun hb274 => ?_)
            ·replace hL272 := cd_t hb274 hL272;refine DWp.skip ?_;simp only [andThen, leaves];refine .seq ?_;refine .block ?_;obtain ⟨g275, hL272⟩ := gd_some hL272;have q276 := (S1_.rdP (k := 3) rfl).idxG (kk := .i64) el_45 sz_43 g275;have q277 := (S1_.rdP (k := 3) rfl).loadG sz_43 ag_43 g275;obtain ⟨G279, p281, q282, q284, a283, S278⟩ := S1_.allocT (hB.le A1_.1) ze_43 rfl;have A280 := A1_.ext (hB.le A1_.1) a283;replace S278 : Sep G279 (Fr H) [AL.box p19 [c10_u0, c10_u1], flat c10_u0 3 (ints r2.1), flat c10_u1 3 (ints r2.2), rowsP c62_u0 43 3 c62_C0 r7.1, rowsP c70_u0 43 3 c70_C0 r8.1, AL.box p281 [(Value.slice none 0 0), (Value.slice none 0 0)]] := S278;obtain ⟨G285, q286, S287, a289⟩ := S278.putAgg (k := 5) (xs := [(pc c62_C0 y2_239 0), (pc c62_C0 y2_239 1)]) rfl (hB.le A280.1) sz_43 rfl rfl;have A288 := A280.trans a289;replace S287 : Sep G285 (Fr H) [AL.box p19 [c10_u0, c10_u1], flat c10_u0 3 (ints r2.1), flat c10_u1 3 (ints r2.2), rowsP c62_u0 43 3 c62_C0 r7.1, rowsP c70_u0 43 3 c70_C0 r8.1, AL.box p281 [(pc c62_C0 y2_239 0), (pc c62_C0 y2_239 1)]] := S287;refine .sr fun K hK => ?_;simp [e1_, q276, q277, q282, q284, a283.to_pre, q286];apply hK;have q290 := S287.loadAgg (k := 5) rfl sz_43 ag_43 rfl;obtain ⟨r21, hc291, hL272⟩ := bd_some hL272;refine .sr fun K hK => ?_;simp [e1_, q290, (((S287.rdP (k := 3) rfl).row0 g275).tup), (((S287.rdP (k := 3) rfl).row1 g275).tup)];refine CallD.t (F_impl_ComponentsOf_w (fu := fu) ((S287.rdP (k := 3) rfl).row0 g275) ((S287.rdP (k := 3) rfl).row1 g275) hc291) ?_;rintro _ G293 ⟨a296, rfl, S297⟩;have A295 := A288.ext (hB.le A288.1) a296.agree
             have S294 : Sep G293 (Fr H) [AL.box p19 [c10_u0, c10_u1], flat c10_u0 3 (ints r2.1), flat c10_u1 3 (ints r2.2), rowsP c62_u0 43 3 c62_C0 r7.1, rowsP c70_u0 43 3 c70_C0 r8.1, AL.box p281 [(pc c62_C0 y2_239 0), (pc c62_C0 y2_239 1)]] := S287.app a296.agree S297 (fun _ h => h) (hB.le A288.1);simp [e1_, q290, a296.pre];apply hK;obtain ⟨s298, hL299, hL272⟩ := bd_some hL272;refine DWp.seq (DWp.join (fun env G => Sep G (Fr H) [AL.box p19 [c10_u0, c10_u1], flat c10_u0 3 (ints r2.1), flat c10_u1 3 (ints r2.2), rowsP c62_u0 43 3 c62_C0 r7.1, rowsP c70_u0 43 3 c70_C0 r8.1] ∧ AgB (Fr H) H G ∧ env 5 = some p19 ∧ env 14 = some c62_u0 ∧ env 16 = some c70_u0 ∧ env 25 = some (Value.int .i64 r15.1) ∧ env 237 = some c62_u0 ∧ env 238 = some (Value.int .i64 (llen r7.1)) ∧ env 239 = some (Value.int .i64 y2_239) ∧ env 274 = some (Value.bool s298)) ?_ ?_)
             ·
              rcases Bool.eq_false_or_eq_true (bnot r21.2) with hb301 | hb301
              ·replace hL299 := cd_t hb301 hL299;refine .drawn (B := [0, 1, 3, 7, 7, 7, 55, 127, 255, 511, 1023, 1023, 1023, 7167, 15359, 32767, 65535, 131071, 262143, 524287, 1048575, 524287, 2621439, 8388607, 16777215, 33554431]) 26 mixed (by kernel_rfl) (by decide) fun K hK => ?_;simp [e1_, hb301];apply hK;simp only [andThen, leaves];have S302 := S294.pick [0, 1, 2, 3, 4] (by decide) rfl;obtain rfl := Option.some.inj hL299;exact ⟨S302, A295, by simp [e1_]⟩
              ·replace hL299 := cd_f hb301 hL299;rcases Bool.eq_false_or_eq_true (ine r21.1 (iadd .i64 r15.1 y2_239)) with hb303 | hb303
               ·replace hL299 := cd_t hb303 hL299;refine .drawn (B := [0, 1, 3, 7, 7, 7, 55, 127, 255, 511, 1023, 1023, 1023, 7167, 15359, 32767, 65535, 131071, 262143, 524287, 1048575, 524287, 2621439, 8388607, 16777215, 33554431]) 26 mixed (by kernel_rfl) (by decide) fun K hK => ?_;simp [e1_, hb301, hb303];apply hK;simp only [andThen, leaves];have S304 := S294.pick [0, 1, 2, 3, 4] (by decide) rfl;obtain rfl := Option.some.inj hL299;exact ⟨S304, A295, by simp [e1_]⟩
               ·replace hL299 := cd_f hb303 hL299;have q305 := S294.loadAgg (k := 5) rfl sz_43 ag_43 rfl;obtain ⟨g306, hL299⟩ := gd_some hL299;have q307 := (S294.rdP (k := 4) rfl).idxG (kk := .i64) el_45 sz_43 g306;have q308 := (S294.rdP (k := 4) rfl).loadG sz_43 ag_43 g306;obtain ⟨r22, hc309, hL299⟩ := bd_some hL299;refine .drawn (B := [0, 1, 3, 7, 7, 7, 55, 127, 255, 511, 1023, 1023, 1023, 7167, 15359, 32767, 65535, 131071, 262143, 524287, 1048575, 524287, 2621439, 8388607, 16777215, 33554431]) 26 mixed (by kernel_rfl) (by decide) fun K hK => ?_;simp [e1_, hb301, hb303, q305, q307, q308, (((S294.rdP (k := 3) rfl).row0 g275).tup), (((S294.rdP (k := 3) rfl).row1 g275).tup), (((S294.rdP (k := 4) rfl).row0 g306).tup), (((S294.rdP (k := 4) rfl).row1 g306).tup)];refine CallD.t (F_laws_sSamePair_w (fu := fu) ((S294.rdP (k := 3) rfl).row0 g275) ((S294.rdP (k := 3) rfl).row1 g275) ((S294.rdP (k := 4) rfl).row0 g306) ((S294.rdP (k := 4) rfl).row1 g306) hc309) ?_;rintro _ G311 ⟨a314, rfl, S315⟩;have A313 := A295.ext (hB.le A295.1) a314.agree;have S312 : Sep G311 (Fr H) [AL.box p19 [c10_u0, c10_u1], flat c10_u0 3 (ints r2.1), flat c10_u1 3 (ints r2.2), rowsP c62_u0 43 3 c62_C0 r7.1, rowsP c70_u0 43 3 c70_C0 r8.1, AL.box p281 [(pc c62_C0 y2_239 0), (pc c62_C0 y2_239 1)]] := S294.app a314.agree S315 (fun _ h => h) (hB.le A295.1);rcases Bool.eq_false_or_eq_true (bnot r22) with hb316 | hb316
                ·replace hL299 := cd_t hb316 hL299;simp [e1_, hb301, hb303, hb316, q305, q307, q308, a314.pre];apply hK;simp only [andThen, leaves];have S317 := S312.pick [0, 1, 2, 3, 4] (by decide) rfl;obtain rfl := Option.some.inj hL299;exact ⟨S317, A313, by simp [e1_]⟩
                ·replace hL299 := cd_f hb316 hL299;have q318 := S312.fieldT (k := 5) rfl fa_43_1;have q319 := S312.loadF (k := 5) rfl sz_24 ag_24 (off := 1) rfl;have q320 := S312.fieldT (k := 0) rfl fa_43_1;have q321 := S312.loadF (k := 0) rfl sz_24 ag_24 (off := 1) rfl;obtain ⟨r23, hc322, hL299⟩ := bd_some hL299;simp [e1_, hb301, hb303, hb316, q305, q307, q308, a314.pre, q318, q319, q320, q321, (((S312.rdP (k := 3) rfl).row1 g275).tup), ((S312.sl (k := 2) rfl).tup)];refine CallD.t (F_laws_sSame_w (fu := fu) ((S312.rdP (k := 3) rfl).row1 g275) (S312.sl (k := 2) rfl) hc322) ?_;rintro _ G324 ⟨a327, rfl, S328⟩;have A326 := A313.ext (hB.le A313.1) a327.agree;have S325 : Sep G324 (Fr H) [AL.box p19 [c10_u0, c10_u1], flat c10_u0 3 (ints r2.1), flat c10_u1 3 (ints r2.2), rowsP c62_u0 43 3 c62_C0 r7.1, rowsP c70_u0 43 3 c70_C0 r8.1, AL.box p281 [(pc c62_C0 y2_239 0), (pc c62_C0 y2_239 1)]] := S312.app a327.agree S328 (fun _ h => h) (hB.le A313.1);simp [e1_, hb301, hb303, hb316, q305, q307, q308, a314.pre, q318, q319, q320, q321, a327.pre];apply hK;simp only [andThen, leaves];have S329 := S325.pick [0, 1, 2, 3, 4] (by decide) rfl;obtain rfl := Option.some.inj hL299;exact ⟨S329, A326, by simp [e1_]⟩
             ·rintro env Gj330 ⟨Sj330, Aj330, ej330_⟩;refine DWp.cond' (t := s298) (by simp [ej330_]) (fun hb331 => ?_) (fun hb331 => ?_)
              ·replace hL272 := cd_t hb331 hL272;refine .sr fun K hK => ?_;simp [ej330_];apply hK;refine DWp.ret ?_;simp only [andThen, leaves];obtain rfl := Option.some.inj hL272;simp only [lr] at hF;obtain rfl := Option.some.inj hF;exact ⟨by simp, [(Value.bool false)], by simp [ej330_], Aj330, rfl, Sj330.pick [] (by decide) rfl⟩
              ·replace hL272 := cd_f hb331 hL272;refine DWp.skip ?_;simp only [andThen, leaves];refine .region fun K hK => ?_;simp [ej330_];apply hK;simp only [andThen, leaves];have S332 := Sj330.pick [0, 1, 2, 3, 4] (by decide) rfl;exact ⟨n1, Nat.lt_succ_self _, (iadd .i64 y2_239 1), hL272, S332, Aj330, by simp [ej330_]⟩
            ·replace hL272 := cd_f hb274 hL272;refine DWp.exit ?_;simp only [andThen, leaves, if_true, if_false, reduceIte, Nat.reduceEqDiff];obtain rfl := Option.some.inj hL272;simp only [lr] at hF;have q333 := (S1_.rdP (k := 3) rfl).lenG el_45;obtain ⟨g334, hF⟩ := gd_some hF;have q335 := (S1_.rdP (k := 3) rfl).idxG (kk := .i64) el_45 sz_43 g334;have q336 := (S1_.rdP (k := 3) rfl).fldG0 fa_43_0 g334;have q337 := (S1_.rdP (k := 3) rfl).cellG0 sz_24 ag_24 g334;have q338 := S1_.fieldT (k := 0) rfl fa_43_1;have q339 := S1_.loadF (k := 0) rfl sz_24 ag_24 (off := 1) rfl;obtain ⟨r24, hc340, hF⟩ := bd_some hF;refine .sd (B := [0, 0, 2, 6, 15, 31, 63, 0, 128, 511, 1023]) 11 mixed (by kernel_rfl) (by decide) fun K hK => ?_;simp [e1_, q333, q335, q336, q337, q338, q339, (((S1_.rdP (k := 3) rfl).row0 g334).tup), ((S1_.sl (k := 2) rfl).tup)];refine CallD.t (F_laws_sSame_w (fu := fu) ((S1_.rdP (k := 3) rfl).row0 g334) (S1_.sl (k := 2) rfl) hc340) ?_;rintro _ G342 ⟨a345, rfl, S346⟩;have A344 := A1_.ext (hB.le A1_.1) a345.agree;have S343 : Sep G342 (Fr H) [AL.box p19 [c10_u0, c10_u1], flat c10_u0 3 (ints r2.1), flat c10_u1 3 (ints r2.2), rowsP c62_u0 43 3 c62_C0 r7.1, rowsP c70_u0 43 3 c70_C0 r8.1] := S1_.app a345.agree S346 (fun _ h => h) (hB.le A1_.1);simp [e1_, q333, q335, q336, q337, q338, q339, a345.pre];apply hK;refine DWp.ret ?_;obtain rfl := Option.some.inj hF;exact ⟨by simp, [(Value.bool r24)], by simp [e1_], A344, rfl, S343.pick [] (by decide) rfl⟩
end Go.Proofs.YtogghgecmjnieaaGreat.AL

/- The walks of functions, each with its Lean function: impl.CountExchanges, laws.eqIntS, laws.FnExactCountExchanges, spec.l1Own, spec.exAt, spec.ExchangeAt, slices.Index[[][2]int,[2]int], slices.Contains[[][2]int,[2]int], slices.Clone[[]int,int], impl.exchanged$1. No condition. -/
import Derived.Test.YtdghlhdpcmemjaaFBD
import Derived.Test.YtdghlhdpcmemjaaFBE
import Derived.Test.YtdghlhdpcmemjaaG1
import Derived.Test.YtdghlhdpcmemjaaG2
import Derived.Test.YtdghlhdpcmemjaaG3
import Derived.Test.YtdghlhdpcmemjaaALD
import Derived.Test.YtdghlhdpcmemjaaProg
import Derived.KernelRfl
namespace Go.Proofs.Ytdghlhdpcmemjaa.AL
open Go Go.RowKit
set_option linter.unusedVariables false
set_option linter.unusedSimpArgs false
set_option maxRecDepth 4096
attribute [local simp] n_fn b_add b_sub b_mul b_lt b_le b_gt b_ge b_eq b_ne u_not
theorem un_4 : Try.prog.underlying 4 = some .bool := by kernel_rfl
theorem us_22 : Try.prog.underlying 22 = some (.slice 3) := by kernel_rfl
def F_laws_eqIntS_L1 (fu : Nat) (k1_0 : List Int) (k1_1 : List Int) : Nat → Int → Option (LR (Bool) (Int))
  | 0, _ => none
  | n + 1, y1_5 =>
    bif (ilt y1_5 (llen k1_0)) then
      gd (inL k1_0 y1_5) (
      gd (inL k1_1 y1_5) (
      bif (ine (gat 0 k1_0 y1_5) (gat 0 k1_1 y1_5)) then
        some (.ret false)
      else
        F_laws_eqIntS_L1 fu k1_0 k1_1 n (iadd .i64 y1_5 1)))
    else
      some (.brk y1_5)
def F_laws_eqIntS (fu : Nat) (x0 : List Int) (x1 : List Int) : Option (Bool) :=
  bif (ine (llen x0) (llen x1)) then
    some false
  else
    bd (F_laws_eqIntS_L1 fu x0 x1 fu 0) fun s1 =>
    lr s1 fun s1 =>
    some true
theorem F_laws_eqIntS_w {fu : Nat} {H : AH} {v0 : Value} {v1 : Value} {x0 : List Int} {x1 : List Int} {r : (Bool)} (hx0 : Sl H v0 (ints x0)) (hx1 : Sl H v1 (ints x1)) (hF : F_laws_eqIntS fu x0 x1 = some r) :
    ACallT Try.prog 19 [v0, v1] H (fun u G => AgB (Fr H) H G ∧ u = (Value.bool r) ∧ Sep G (Fr H) []) := by
 refine ACallT.of_body (nt := 26) (rs := [.tmp 4]) Try.func19 rfl rfl rfl rfl ?_;have A0 : AgB (Fr H) H H := .refl _ _;have S0 : Sep H (Fr H) [] := .nil;have hB := Fr.up H;unfold F_laws_eqIntS at hF;refine .sr fun K hK => ?_;simp [];apply hK;clear hK K;refine .seq ?_;have q1 := lenG (P := Try.prog) (hx0.agree A0.agree) el_22;have q2 := lenG (P := Try.prog) (hx1.agree A0.agree) el_22;refine .sr fun K hK => ?_;simp [q1, q2];apply hK;clear hK K;refine DWp.cond' (t := (ine (llen x0) (llen x1))) (by simp []) (fun hb3 => ?_) (fun hb3 => ?_)
 ·replace hF := cd_t hb3 hF;refine .sr fun K hK => ?_;simp [];apply hK;clear hK K;refine DWp.ret ?_;simp only [andThen, leaves];obtain rfl := Option.some.inj hF;exact ⟨by simp, [(Value.bool false)], by simp [], A0, rfl, S0.pick [] (by decide) rfl⟩
 ·replace hF := cd_f hb3 hF;refine DWp.skip ?_;simp only [andThen, leaves];refine .seq ?_;refine .sr fun K hK => ?_;simp [];apply hK;clear hK K;refine .block ?_;obtain ⟨s4, hL5, hF⟩ := bd_some hF;have S6 := S0.pick [] (by decide) rfl;refine DWp.loop (fun n env G => ∃ y1_5 : Int, F_laws_eqIntS_L1 fu x0 x1 n y1_5 = some s4 ∧ Sep G (Fr H) [] ∧ AgB (Fr H) H G ∧ env 0 = some v0 ∧ env 1 = some v1 ∧ env 5 = some (Value.int .i64 y1_5)) fu ⟨0, hL5, S6, A0, by simp []⟩ ?_;rintro n1 env1 G1_ ⟨y1_5, hL5, S1_, A1_, e1_0, e1_1, e1_5⟩;cases n1 with
  | zero => cases hL5
  | succ n1 =>
   simp only [F_laws_eqIntS_L1] at hL5;refine .seq ?_;have q7 := lenG (P := Try.prog) (hx0.agree A1_.agree) el_22;refine .sr fun K hK => ?_;simp [e1_0, e1_1, e1_5, q7];apply hK;clear hK K;refine DWp.cond' (t := (ilt y1_5 (llen x0))) (by simp [e1_0, e1_1, e1_5]) (fun hb8 => ?_) (fun hb8 => ?_)
   ·replace hL5 := cd_t hb8 hL5;refine DWp.skip ?_;simp only [andThen, leaves];refine .seq ?_;refine .block ?_;obtain ⟨g9, hL5⟩ := gd_some hL5;have q10 := idxG (P := Try.prog) (kk := .i64) (hx0.agree A1_.agree) el_22 sz_3 g9;have q11 := loadG (P := Try.prog) (hx0.agree A1_.agree) sz_3 ag_3 g9 0;obtain ⟨g12, hL5⟩ := gd_some hL5;have q13 := idxG (P := Try.prog) (kk := .i64) (hx1.agree A1_.agree) el_22 sz_3 g12;have q14 := loadG (P := Try.prog) (hx1.agree A1_.agree) sz_3 ag_3 g12 0;refine .sd (B := [0, 0, 3, 7, 0, 0, 48, 112, 255]) 9 mixed (by kernel_rfl) (by decide) fun K hK => ?_;simp [e1_0, e1_1, e1_5, q10, q11, q13, q14];apply hK;clear hK K;refine DWp.cond' (t := (ine (gat 0 x0 y1_5) (gat 0 x1 y1_5))) (by simp [e1_0, e1_1, e1_5]) (fun hb15 => ?_) (fun hb15 => ?_)
    ·replace hL5 := cd_t hb15 hL5;refine .sr fun K hK => ?_;simp [e1_0, e1_1, e1_5];apply hK;clear hK K;refine DWp.ret ?_;simp only [andThen, leaves];obtain rfl := Option.some.inj hL5;simp only [lr] at hF;obtain rfl := Option.some.inj hF;exact ⟨by simp, [(Value.bool false)], by simp [e1_0, e1_1, e1_5], A1_, rfl, S1_.pick [] (by decide) rfl⟩
    ·replace hL5 := cd_f hb15 hL5;refine DWp.skip ?_;simp only [andThen, leaves];refine .region fun K hK => ?_;simp [e1_0, e1_1, e1_5];apply hK;clear hK K;simp only [andThen, leaves];have S16 := S1_.pick [] (by decide) rfl;exact ⟨n1, Nat.lt_succ_self _, (iadd .i64 y1_5 1), hL5, S16, A1_, by simp [e1_0, e1_1, e1_5]⟩
   ·replace hL5 := cd_f hb8 hL5;refine DWp.exit ?_;simp only [andThen, leaves, if_true, if_false, reduceIte, Nat.reduceEqDiff];obtain rfl := Option.some.inj hL5;simp only [lr] at hF;refine .sr fun K hK => ?_;simp [e1_0, e1_1, e1_5];apply hK;clear hK K;refine DWp.ret ?_;obtain rfl := Option.some.inj hF;exact ⟨by simp, [(Value.bool true)], by simp [e1_0, e1_1, e1_5], A1_, rfl, S1_.pick [] (by decide) rfl⟩
def F_spec_l1Own (fu : Nat) (x0 : List Int) : Option (List Int) :=
  gd ((@List.nil Int).length + x0.length ≤ 4294967296) (
  some (lapp (@List.nil Int) x0))
theorem F_spec_l1Own_w {fu : Nat} {H : AH} {v0 : Value} {x0 : List Int} {r : (List Int)} (hx0 : Sl H v0 (ints x0)) (hF : F_spec_l1Own fu x0 = some r) :
    ACallT Try.prog 96 [v0] H (fun u G => AgB (Fr H) H G ∧ ∃ u0 : Value, u = u0 ∧ Sep G (Fr H) [flat u0 3 (ints r)]) := by
 refine ACallT.of_body (nt := 6) (rs := [.tmp 2]) Try.func96 rfl rfl rfl rfl ?_;have A0 : AgB (Fr H) H H := .refl _ _;have S0 : Sep H (Fr H) [] := .nil;have hB := Fr.up H;unfold F_spec_l1Own at hF;refine .sr fun K hK => ?_;simp [];apply hK;clear hK K;obtain ⟨v1, G2, q3, S4, a6, _, _⟩ := S0.lit0 (P := Try.prog) (t := 22) (hB.le A0.1) el_22 ei_3 rfl;have A5 := A0.ext (hB.le A0.1) a6;replace S4 : Sep G2 (Fr H) [flat1 v1 3 (ints (@List.nil Int))] := S4;obtain ⟨g8, hF⟩ := gd_some hF;obtain ⟨v14, G9, q10, S11, a13, _, _⟩ := S4.append1 (f := (Value.int .i64)) (xs := (@List.nil Int)) (ys := x0) (P := Try.prog) (t := 22) (t2 := 22) (k := 0) rfl (hB.le A5.1) el_22 el_22 ei_3 rfl (hx0.agree A5.agree) g8;have A12 := A5.trans a13;replace S11 : Sep G9 (Fr H) [flat v14 3 (ints (lapp (@List.nil Int) x0))] := S11;refine .sr fun K hK => ?_;simp [q3, a6.to_pre, q10];apply hK;clear hK K;refine DWp.ret ?_;obtain rfl := Option.some.inj hF;exact ⟨by simp, [v14], by simp [((S11.sl (k := 0) rfl).tup)], A12, v14, rfl, S11.pick [0] (by decide) rfl⟩
def F_spec_exAt (fu : Nat) (x0 : List Int) (x1 : Int) (x2 : Int) : Option (List Int) :=
  bd (F_spec_l1Own fu x0) fun r1 =>
  gd (inL x0 x1) (
  gd (inL x0 x2) (
  bif (ilt (gat 0 x0 x1) x2) then
    gd (inL r1 x1) (
    gd (inL (lset r1 x1 (gat 0 x0 x2)) (gat 0 x0 x2)) (
    gd (inL (lset (lset r1 x1 (gat 0 x0 x2)) (gat 0 x0 x2) x1) (gat 0 x0 x1)) (
    gd (inL (lset (lset (lset r1 x1 (gat 0 x0 x2)) (gat 0 x0 x2) x1) (gat 0 x0 x1) x2) x2) (
    some (lset (lset (lset (lset r1 x1 (gat 0 x0 x2)) (gat 0 x0 x2) x1) (gat 0 x0 x1) x2) x2 (gat 0 x0 x1))))))
  else
    gd (inL r1 x1) (
    gd (inL (lset r1 x1 x2) x2) (
    gd (inL (lset (lset r1 x1 x2) x2 x1) (gat 0 x0 x2)) (
    gd (inL (lset (lset (lset r1 x1 x2) x2 x1) (gat 0 x0 x2) (gat 0 x0 x1)) (gat 0 x0 x1)) (
    some (lset (lset (lset (lset r1 x1 x2) x2 x1) (gat 0 x0 x2) (gat 0 x0 x1)) (gat 0 x0 x1) (gat 0 x0 x2))))))))
theorem F_spec_exAt_w {fu : Nat} {H : AH} {v0 : Value} {x0 : List Int} {x1 : Int} {x2 : Int} {r : (List Int)} (hx0 : Sl H v0 (ints x0)) (hF : F_spec_exAt fu x0 x1 x2 = some r) :
    ACallT Try.prog 68 [v0, (Value.int .i64 x1), (Value.int .i64 x2)] H (fun u G => AgB (Fr H) H G ∧ ∃ u0 : Value, u = u0 ∧ Sep G (Fr H) [flat u0 3 (ints r)]) := by
 refine ACallT.of_body (nt := 56) (rs := [.tmp 6]) Try.func68 rfl rfl rfl rfl ?_;have A0 : AgB (Fr H) H H := .refl _ _;have S0 : Sep H (Fr H) [] := .nil;have hB := Fr.up H;unfold F_spec_exAt at hF;refine .sr fun K hK => ?_;simp [];apply hK;clear hK K;obtain ⟨r1, hc1, hF⟩ := bd_some hF;refine .sr fun K hK => ?_;simp [((hx0.agree A0.agree).tup)];refine CallD.t (F_spec_l1Own_w (fu := fu) (hx0.agree A0.agree) hc1) ?_;rintro c2_u0 G3 ⟨a6, _, rfl, S7⟩;have A5 := A0.ext (hB.le A0.1) a6.agree;have S4 : Sep G3 (Fr H) [flat c2_u0 3 (ints r1)] := S0.app a6.agree S7 (fun _ h => h) (hB.le A0.1);simp [a6.pre];apply hK;clear hK K;obtain ⟨g8, hF⟩ := gd_some hF;have q9 := idxG (P := Try.prog) (kk := .i64) (hx0.agree A5.agree) el_22 sz_3 g8;have q10 := loadG (P := Try.prog) (hx0.agree A5.agree) sz_3 ag_3 g8 0;obtain ⟨g11, hF⟩ := gd_some hF;have q12 := idxG (P := Try.prog) (kk := .i64) (hx0.agree A5.agree) el_22 sz_3 g11;have q13 := loadG (P := Try.prog) (hx0.agree A5.agree) sz_3 ag_3 g11 0;refine .sd (B := [0, 0, 3, 7, 0, 0, 48, 112, 15, 511]) 10 mixed (by kernel_rfl) (by decide) fun K hK => ?_;simp [q9, q10, q12, q13];apply hK;clear hK K;refine .seq ?_;refine .sr fun K hK => ?_;simp [];apply hK;clear hK K;refine DWp.cond' (t := (ilt (gat 0 x0 x1) x2)) (by simp []) (fun hb14 => ?_) (fun hb14 => ?_)
 ·replace hF := cd_t hb14 hF;obtain ⟨g15, hF⟩ := gd_some hF;have q16 := idxG (P := Try.prog) (kk := .i64) (S4.sl (k := 0) rfl) el_22 sz_3 g15;obtain ⟨G17, q18, S19, a21⟩ := S4.storeG (f := (Value.int .i64)) (P := Try.prog) (k := 0) (x := (gat 0 x0 x2)) rfl (hB.le A5.1) sz_3 g15 rfl rfl;have A20 := A5.trans a21;replace S19 : Sep G17 (Fr H) [flat c2_u0 3 (ints (lset r1 x1 (gat 0 x0 x2)))] := S19;refine .sr fun K hK => ?_;simp [q16, q18];apply hK;clear hK K;obtain ⟨g22, hF⟩ := gd_some hF;have q23 := idxG (P := Try.prog) (kk := .i64) (S19.sl (k := 0) rfl) el_22 sz_3 g22;obtain ⟨G24, q25, S26, a28⟩ := S19.storeG (f := (Value.int .i64)) (P := Try.prog) (k := 0) (x := x1) rfl (hB.le A20.1) sz_3 g22 rfl rfl;have A27 := A20.trans a28;replace S26 : Sep G24 (Fr H) [flat c2_u0 3 (ints (lset (lset r1 x1 (gat 0 x0 x2)) (gat 0 x0 x2) x1))] := S26;refine .sr fun K hK => ?_;simp [q23, q25];apply hK;clear hK K;obtain ⟨g29, hF⟩ := gd_some hF;have q30 := idxG (P := Try.prog) (kk := .i64) (S26.sl (k := 0) rfl) el_22 sz_3 g29;obtain ⟨G31, q32, S33, a35⟩ := S26.storeG (f := (Value.int .i64)) (P := Try.prog) (k := 0) (x := x2) rfl (hB.le A27.1) sz_3 g29 rfl rfl;have A34 := A27.trans a35;replace S33 : Sep G31 (Fr H) [flat c2_u0 3 (ints (lset (lset (lset r1 x1 (gat 0 x0 x2)) (gat 0 x0 x2) x1) (gat 0 x0 x1) x2))] := S33;refine .sr fun K hK => ?_;simp [q30, q32];apply hK;clear hK K;obtain ⟨g36, hF⟩ := gd_some hF;have q37 := idxG (P := Try.prog) (kk := .i64) (S33.sl (k := 0) rfl) el_22 sz_3 g36;obtain ⟨G38, q39, S40, a42⟩ := S33.storeG (f := (Value.int .i64)) (P := Try.prog) (k := 0) (x := (gat 0 x0 x1)) rfl (hB.le A34.1) sz_3 g36 rfl rfl;have A41 := A34.trans a42
  replace S40 : Sep G38 (Fr H) [flat c2_u0 3 (ints (lset (lset (lset (lset r1 x1 (gat 0 x0 x2)) (gat 0 x0 x2) x1) (gat 0 x0 x1) x2) x2 (gat 0 x0 x1)))] := S40;refine .region fun K hK => ?_;simp [q37, q39];apply hK;clear hK K;simp only [andThen, leaves];refine .sr fun K hK => ?_;simp [];apply hK;clear hK K;refine DWp.ret ?_;obtain rfl := Option.some.inj hF;exact ⟨by simp, [c2_u0], by simp [((S40.sl (k := 0) rfl).tup)], A41, c2_u0, rfl, S40.pick [0] (by decide) rfl⟩
 ·replace hF := cd_f hb14 hF;obtain ⟨g43, hF⟩ := gd_some hF;have q44 := idxG (P := Try.prog) (kk := .i64) (S4.sl (k := 0) rfl) el_22 sz_3 g43;obtain ⟨G45, q46, S47, a49⟩ := S4.storeG (f := (Value.int .i64)) (P := Try.prog) (k := 0) (x := x2) rfl (hB.le A5.1) sz_3 g43 rfl rfl;have A48 := A5.trans a49;replace S47 : Sep G45 (Fr H) [flat c2_u0 3 (ints (lset r1 x1 x2))] := S47;refine .sr fun K hK => ?_;simp [q44, q46];apply hK;clear hK K;obtain ⟨g50, hF⟩ := gd_some hF;have q51 := idxG (P := Try.prog) (kk := .i64) (S47.sl (k := 0) rfl) el_22 sz_3 g50;obtain ⟨G52, q53, S54, a56⟩ := S47.storeG (f := (Value.int .i64)) (P := Try.prog) (k := 0) (x := x1) rfl (hB.le A48.1) sz_3 g50 rfl rfl;have A55 := A48.trans a56;replace S54 : Sep G52 (Fr H) [flat c2_u0 3 (ints (lset (lset r1 x1 x2) x2 x1))] := S54;refine .sr fun K hK => ?_;simp [q51, q53];apply hK;clear hK K;obtain ⟨g57, hF⟩ := gd_some hF;have q58 := idxG (P := Try.prog) (kk := .i64) (S54.sl (k := 0) rfl) el_22 sz_3 g57;obtain ⟨G59, q60, S61, a63⟩ := S54.storeG (f := (Value.int .i64)) (P := Try.prog) (k := 0) (x := (gat 0 x0 x1)) rfl (hB.le A55.1) sz_3 g57 rfl rfl;have A62 := A55.trans a63;replace S61 : Sep G59 (Fr H) [flat c2_u0 3 (ints (lset (lset (lset r1 x1 x2) x2 x1) (gat 0 x0 x2) (gat 0 x0 x1)))] := S61;refine .sr fun K hK => ?_;simp [q58, q60];apply hK;clear hK K;obtain ⟨g64, hF⟩ := gd_some hF;have q65 := idxG (P := Try.prog) (kk := .i64) (S61.sl (k := 0) rfl) el_22 sz_3 g64;obtain ⟨G66, q67, S68, a70⟩ := S61.storeG (f := (Value.int .i64)) (P := Try.prog) (k := 0) (x := (gat 0 x0 x2)) rfl (hB.le A62.1) sz_3 g64 rfl rfl;have A69 := A62.trans a70;replace S68 : Sep G66 (Fr H) [flat c2_u0 3 (ints (lset (lset (lset (lset r1 x1 x2) x2 x1) (gat 0 x0 x2) (gat 0 x0 x1)) (gat 0 x0 x1) (gat 0 x0 x2)))] := S68
  refine .region fun K hK => ?_;simp [q65, q67];apply hK;clear hK K;simp only [andThen, leaves];refine .sr fun K hK => ?_;simp [];apply hK;clear hK K;refine DWp.ret ?_;obtain rfl := Option.some.inj hF;exact ⟨by simp, [c2_u0], by simp [((S68.sl (k := 0) rfl).tup)], A69, c2_u0, rfl, S68.pick [0] (by decide) rfl⟩
def F_slices_Clone_Sint (fu : Nat) (x0 : List Int) : Option (List Int) :=
  gd ((@List.nil Int).length + x0.length ≤ 4294967296) (
  some (lapp (@List.nil Int) x0))
theorem F_slices_Clone_Sint_w {fu : Nat} {H : AH} {v0 : Value} {x0 : List Int} {r : (List Int)} (hx0 : Sl H v0 (ints x0)) (hF : F_slices_Clone_Sint fu x0 = some r) :
    ACallT Try.prog 98 [v0] H (fun u G => AgB (Fr H) H G ∧ ∃ u0 : Value, u = u0 ∧ Sep G (Fr H) [flat u0 3 (ints r)]) := by
 refine ACallT.of_body (nt := 8) (rs := [.tmp 2]) Try.func98 rfl rfl rfl rfl ?_;have A0 : AgB (Fr H) H H := .refl _ _;have S0 : Sep H (Fr H) [] := .nil;have hB := Fr.up H;by_cases hn0 : v0 = .slice none 0 0
 ·
  subst hn0;have hx1 : x0 = [] := by
   rcases hx0 with ⟨_, h_⟩ | ⟨_, _, _, _, _, h_, _⟩
   ·cases x0 with
    | nil => rfl
    | cons a_ b_ => cases h_
   ·cases h_
  subst hx1;have hF2 : (some [] : Option (List Int)) = some r := by
   rw [← hF];unfold F_slices_Clone_Sint;rw [gd_true (by simp)];rfl
  refine .sr fun K hK => ?_;simp [];apply hK;clear hK K;refine .seq ?_;refine .sr fun K hK => ?_;simp [nil_tt us_22];apply hK;clear hK K;refine DWp.ct (by simp [bnot]) ?_;refine .sr fun K hK => ?_;simp [];apply hK;clear hK K;refine DWp.ret ?_;simp only [andThen, leaves];have S1 := S0.nilItem (hB.le A0.1) 3;obtain rfl := Option.some.inj hF2;exact ⟨by simp, [(Value.slice none 0 0)], by simp [], A0, (Value.slice none 0 0), rfl, S1.pick [0] (by decide) rfl⟩
 ·unfold F_slices_Clone_Sint at hF;refine .sr fun K hK => ?_;simp [];apply hK;clear hK K;refine .seq ?_;refine .sr fun K hK => ?_;simp [nil_ff us_22 (hx0.agree A0.agree) hn0];apply hK;clear hK K;refine DWp.cf (by simp [bnot]) ?_;refine DWp.skip ?_;simp only [andThen, leaves];obtain ⟨v1, G2, q3, S4, a6, _, _⟩ := S0.lit0 (P := Try.prog) (t := 22) (hB.le A0.1) el_22 ei_3 rfl;have A5 := A0.ext (hB.le A0.1) a6;replace S4 : Sep G2 (Fr H) [flat1 v1 3 (ints (@List.nil Int))] := S4;obtain ⟨g8, hF⟩ := gd_some hF;obtain ⟨v14, G9, q10, S11, a13, _, _⟩ := S4.append1 (f := (Value.int .i64)) (xs := (@List.nil Int)) (ys := x0) (P := Try.prog) (t := 22) (t2 := 22) (k := 0) rfl (hB.le A5.1) el_22 el_22 ei_3 rfl (hx0.agree A5.agree) g8;have A12 := A5.trans a13;replace S11 : Sep G9 (Fr H) [flat v14 3 (ints (lapp (@List.nil Int) x0))] := S11;refine .sr fun K hK => ?_;simp [q3, a6.to_pre, q10];apply hK;clear hK K;refine DWp.ret ?_;obtain rfl := Option.some.inj hF;exact ⟨by simp, [v14], by simp [((S11.sl (k := 0) rfl).tup)], A12, v14, rfl, S11.pick [0] (by decide) rfl⟩
def F_impl_exchanged_1 (fu : Nat) (x0 : Int) (x1 : Int) (x2 : List Int) : Option (List Int) :=
  gd (inL x2 x0) (
  gd (inL (lset x2 x0 x1) x1) (
  some (lset (lset x2 x0 x1) x1 x0)))
theorem F_impl_exchanged_1_w {fu : Nat} {H : AH} {B : Nat → Prop} {p2 : Value} {v2 : Value} {x0 : Int} {x1 : Int} {x2 : List Int} {r : (List Int)} (hB : Up B H.length) (S0 : Sep H B [flat v2 3 (ints x2), AL.box p2 [v2]]) (hF : F_impl_exchanged_1 fu x0 x1 x2 = some r) :
    ACallT Try.prog 99 [(Value.int .i64 x0), (Value.int .i64 x1), p2] H (fun u G => AgB B H G ∧ u = (Value.tuple #[]) ∧ Sep G B [flat v2 3 (ints r), AL.box p2 [v2]]) := by
 refine ACallT.of_body (nt := 13) (rs := []) Try.func99 rfl rfl rfl rfl ?_;have A0 : AgB B H H := .refl _ _;unfold F_impl_exchanged_1 at hF;have q1 := S0.load0 (P := Try.prog) (k := 1) rfl sz_22 ag_22;have q2 : RefK (kpl [p2]) H.length p2 := refK_box S0 (k := 1) rfl (by simp);have q3 := S0.load0 (P := Try.prog) (k := 1) rfl sz_22 ag_22;obtain ⟨g4, hF⟩ := gd_some hF;have q5 := idxG (P := Try.prog) (kk := .i64) (S0.sl (k := 0) rfl) el_22 sz_3 g4;obtain ⟨G6, q7, S8, a10⟩ := S0.storeG (f := (Value.int .i64)) (P := Try.prog) (k := 0) (x := x1) rfl (hB.le A0.1) sz_3 g4 rfl rfl;have t11 : Stand (kpl [p2]) H G6 := stand_kpl (store_same q7) (by
  simp only [List.mem_cons, List.not_mem_nil, or_false, forall_eq_or_imp, forall_eq, false_imp_iff, implies_true];exact S0.ids_apartB (k := 0) (j := 1) rfl rfl (by decide))
 have A9 := A0.trans a10;replace S8 : Sep G6 B [flat v2 3 (ints (lset x2 x0 x1)), AL.box p2 [v2]] := S8;obtain ⟨g12, hF⟩ := gd_some hF;have q13 := idxG (P := Try.prog) (kk := .i64) (S8.sl (k := 0) rfl) el_22 sz_3 g12;obtain ⟨G14, q15, S16, a18⟩ := S8.storeG (f := (Value.int .i64)) (P := Try.prog) (k := 0) (x := x0) rfl (hB.le A9.1) sz_3 g12 rfl rfl;have t19 : Stand (kpl [p2]) G6 G14 := stand_kpl (store_same q15) (by
  simp only [List.mem_cons, List.not_mem_nil, or_false, forall_eq_or_imp, forall_eq, false_imp_iff, implies_true];exact S8.ids_apartB (k := 0) (j := 1) rfl rfl (by decide))
 have A17 := A9.trans a18;replace S16 : Sep G14 B [flat v2 3 (ints (lset (lset x2 x0 x1) x1 x0)), AL.box p2 [v2]] := S16;have t20 : Stand (kN G6.length) H G6 := stand_top a10.1;have t21 : Stand (kN G6.length) G6 G14 := stand_top (Nat.le_refl _);refine .drawn0 (B := [0, 0, 0, 0, 0, 0, 19, 83, 255, 511]) (X0 := [2]) (π := [0, 1, 2, 3, 4, 5, 6, 7, 8, 9]) (σ := [0, 1, 2, 3, 4, 5, 6, 7, 8, 9]) 7 (kpl [p2]) G6.length mixed (by kernel_rfl) (by kernel_rfl) (by decide) fun K hK => ?_;simp only [rl0, rlb0, List.filterMap_cons, List.filterMap_nil, List.getElem?_cons_zero, List.getElem?_cons_succ, Option.map_some, Option.map_none];simp (config := { maxSteps := 4000000 }) [q1, q2, q3, q5, t11, q7, q13, t19, q15, t20, t21];apply hK;clear hK K;obtain rfl := Option.some.inj hF;exact ⟨by simp, [], by simp [], A17, rfl, S16.pick [0, 1] (by decide) rfl⟩
end Go.Proofs.Ytdghlhdpcmemjaa.AL

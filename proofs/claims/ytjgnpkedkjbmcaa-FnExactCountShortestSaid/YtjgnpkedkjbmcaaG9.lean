/- The walks of functions, each with its Lean function: laws.toIntS, laws.eqIntS, laws.FnExactCountShortest. No condition. -/
import Derived.Test.YtjgnpkedkjbmcaaG1
import Derived.Test.YtjgnpkedkjbmcaaG2
import Derived.Test.YtjgnpkedkjbmcaaG3
import Derived.Test.YtjgnpkedkjbmcaaG4
import Derived.Test.YtjgnpkedkjbmcaaG5
import Derived.Test.YtjgnpkedkjbmcaaG6
import Derived.Test.YtjgnpkedkjbmcaaG7
import Derived.Test.YtjgnpkedkjbmcaaG8
import Derived.Test.YtjgnpkedkjbmcaaGW
import Derived.Test.YtjgnpkedkjbmcaaALD
import Derived.Test.YtjgnpkedkjbmcaaProg
import Derived.KernelRfl
namespace Go.Proofs.Ytjgnpkedkjbmcaa.AL
open Go Go.RowKit
set_option linter.unusedVariables false
set_option linter.unusedSimpArgs false
set_option maxRecDepth 4096
attribute [local simp] n_fn b_add b_sub b_mul b_lt b_le b_gt b_ge b_eq b_ne u_not
theorem un_4 : Try.prog.underlying 4 = some .bool := by kernel_rfl
def F_laws_toIntS_L1 (fu : Nat) (k1_0 : List Int) : Nat → List Int → Int → Option (List Int × Int)
  | 0, _, _ => none
  | n + 1, l1_0, y1_4 =>
    bif (ilt y1_4 (llen k1_0)) then
      gd (inL k1_0 y1_4) (
      gd (inL l1_0 y1_4) (
      F_laws_toIntS_L1 fu k1_0 n (lset l1_0 y1_4 (gat 0 k1_0 y1_4)) (iadd .i64 y1_4 1)))
    else
      some (l1_0, y1_4)
def F_laws_toIntS (fu : Nat) (x0 : List Int) : Option (List Int) :=
  gd (0 ≤ (llen x0) ∧ (llen x0) ≤ 4294967296) (
  bd (F_laws_toIntS_L1 fu x0 fu (lrep (llen x0) (0 : Int)) 0) fun s1 =>
  some s1.1)
theorem F_laws_toIntS_w {fu : Nat} {H : AH} {v0 : Value} {x0 : List Int} {r : (List Int)} (hx0 : Sl H v0 (ints x0)) (hF : F_laws_toIntS fu x0 = some r) :
    ACallT Try.prog 5 [v0] H (fun u G => AgB (Fr H) H G ∧ ∃ u0 : Value, u = u0 ∧ Sep G (Fr H) [flat u0 3 (ints r)]) := by
 refine ACallT.of_body (nt := 22) (rs := [.tmp 2]) Try.func5 rfl rfl rfl rfl ?_;have A0 : AgB (Fr H) H H := .refl _ _;have S0 : Sep H (Fr H) [] := .nil;have hB := Fr.up H;unfold F_laws_toIntS at hF;refine .sr fun K hK => ?_;simp [];apply hK;clear hK K;have q1 := lenG (P := Try.prog) (hx0.agree A0.agree) el_22;obtain ⟨g2, hF⟩ := gd_some hF;obtain ⟨v3, G4, q5, S6, a8, _⟩ := S0.make (f := (Value.int .i64)) (P := Try.prog) (t := 22) (hB.le A0.1) el_22 ei_3 rfl 0 rfl g2;have A7 := A0.ext (hB.le A0.1) a8;replace S6 : Sep G4 (Fr H) [flat v3 3 (ints (lrep (llen x0) (0 : Int)))] := S6;refine .sr fun K hK => ?_;simp [q1, q5, a8.to_pre];apply hK;clear hK K;refine .seq ?_;refine .sr fun K hK => ?_;simp [];apply hK;clear hK K;refine .block ?_;obtain ⟨s9, hL10, hF⟩ := bd_some hF;have S11 := S6.pick [0] (by decide) rfl;refine DWp.loop (fun n env G => ∃ l1_0 : List Int, ∃ y1_4 : Int, F_laws_toIntS_L1 fu x0 n l1_0 y1_4 = some s9 ∧ Sep G (Fr H) [flat v3 3 (ints l1_0)] ∧ AgB (Fr H) H G ∧ env 0 = some v0 ∧ env 3 = some v3 ∧ env 4 = some (Value.int .i64 y1_4)) fu ⟨(lrep (llen x0) (0 : Int)), 0, hL10, S11, A7, by simp []⟩ ?_;rintro n1 env1 G1_ ⟨l1_0, y1_4, hL10, S1_, A1_, e1_⟩;cases n1 with
 | zero => cases hL10
 | succ n1 =>
  simp only [F_laws_toIntS_L1] at hL10;refine .seq ?_;have q12 := lenG (P := Try.prog) (hx0.agree A1_.agree) el_22;refine .sr fun K hK => ?_;simp [e1_, q12];apply hK;clear hK K;refine DWp.cond' (t := (ilt y1_4 (llen x0))) (by simp [e1_]) (fun hb13 => ?_) (fun hb13 => ?_)
  ·replace hL10 := cd_t hb13 hL10;refine DWp.skip ?_;simp only [andThen, leaves];refine .seq ?_;refine .block ?_;obtain ⟨g14, hL10⟩ := gd_some hL10;have q15 := idxG (P := Try.prog) (kk := .i64) (hx0.agree A1_.agree) el_22 sz_3 g14;have q16 := loadG (P := Try.prog) (hx0.agree A1_.agree) sz_3 ag_3 g14 0;obtain ⟨g17, hL10⟩ := gd_some hL10;have q18 := idxG (P := Try.prog) (kk := .i64) (S1_.sl (k := 0) rfl) el_22 sz_3 g17;obtain ⟨G19, q20, S21, a23⟩ := S1_.storeG (f := (Value.int .i64)) (P := Try.prog) (k := 0) (x := (gat 0 x0 y1_4)) rfl (hB.le A1_.1) sz_3 g17 rfl rfl;have A22 := A1_.trans a23;replace S21 : Sep G19 (Fr H) [flat v3 3 (ints (lset l1_0 y1_4 (gat 0 x0 y1_4)))] := S21;refine .region fun K hK => ?_;simp [e1_, q15, q16, q18, q20];apply hK;clear hK K;simp only [andThen, leaves];refine .region fun K hK => ?_;simp [e1_];apply hK;clear hK K;simp only [andThen, leaves];have S24 := S21.pick [0] (by decide) rfl;exact ⟨n1, Nat.lt_succ_self _, (lset l1_0 y1_4 (gat 0 x0 y1_4)), (iadd .i64 y1_4 1), hL10, S24, A22, by simp [e1_]⟩
  ·replace hL10 := cd_f hb13 hL10;refine DWp.exit ?_;simp only [andThen, leaves, if_true, if_false, reduceIte, Nat.reduceEqDiff];obtain rfl := Option.some.inj hL10;try dsimp only at hF
   refine .sr fun K hK => ?_;simp [e1_];apply hK;clear hK K;refine DWp.ret ?_;obtain rfl := Option.some.inj hF;exact ⟨by simp, [v3], by simp [e1_, ((S1_.sl (k := 0) rfl).tup)], A1_, v3, rfl, S1_.pick [0] (by decide) rfl⟩
def F_laws_eqIntS_L1 (fu : Nat) (k1_0 : List Int) (k1_1 : List Int) : Nat → Int → Option (LR (Bool) (Int))
  | 0, _ => none
  | n + 1, y1_5 =>
    bif (ilt y1_5 (llen k1_0)) then
      gd (inL k1_0 y1_5) (
      gd (inL k1_1 y1_5) (
      bif (ine (gat 0 k1_0 y1_5) (gat 0 k1_1 y1_5)) then
        some (.ret false)
      else
        F_laws_eqIntS_L1 fu k1_0 k1_1 n (iadd .i64 y1_5 1)))
    else
      some (.brk y1_5)
def F_laws_eqIntS (fu : Nat) (x0 : List Int) (x1 : List Int) : Option (Bool) :=
  bif (ine (llen x0) (llen x1)) then
    some false
  else
    bd (F_laws_eqIntS_L1 fu x0 x1 fu 0) fun s1 =>
    lr s1 fun s1 =>
    some true
theorem F_laws_eqIntS_w {fu : Nat} {H : AH} {v0 : Value} {v1 : Value} {x0 : List Int} {x1 : List Int} {r : (Bool)} (hx0 : Sl H v0 (ints x0)) (hx1 : Sl H v1 (ints x1)) (hF : F_laws_eqIntS fu x0 x1 = some r) :
    ACallT Try.prog 7 [v0, v1] H (fun u G => AgB (Fr H) H G ∧ u = (Value.bool r) ∧ Sep G (Fr H) []) := by
 refine ACallT.of_body (nt := 26) (rs := [.tmp 4]) Try.func7 rfl rfl rfl rfl ?_;have A0 : AgB (Fr H) H H := .refl _ _;have S0 : Sep H (Fr H) [] := .nil;have hB := Fr.up H;unfold F_laws_eqIntS at hF;refine .sr fun K hK => ?_;simp [];apply hK;clear hK K;refine .seq ?_;have q1 := lenG (P := Try.prog) (hx0.agree A0.agree) el_22;have q2 := lenG (P := Try.prog) (hx1.agree A0.agree) el_22;refine .sr fun K hK => ?_;simp [q1, q2];apply hK;clear hK K;refine DWp.cond' (t := (ine (llen x0) (llen x1))) (by simp []) (fun hb3 => ?_) (fun hb3 => ?_)
 ·replace hF := cd_t hb3 hF;refine .sr fun K hK => ?_;simp [];apply hK;clear hK K;refine DWp.ret ?_;simp only [andThen, leaves];obtain rfl := Option.some.inj hF;exact ⟨by simp, [(Value.bool false)], by simp [], A0, rfl, S0.pick [] (by decide) rfl⟩
 ·replace hF := cd_f hb3 hF;refine DWp.skip ?_;simp only [andThen, leaves];refine .seq ?_;refine .sr fun K hK => ?_;simp [];apply hK;clear hK K;refine .block ?_;obtain ⟨s4, hL5, hF⟩ := bd_some hF;have S6 := S0.pick [] (by decide) rfl;refine DWp.loop (fun n env G => ∃ y1_5 : Int, F_laws_eqIntS_L1 fu x0 x1 n y1_5 = some s4 ∧ Sep G (Fr H) [] ∧ AgB (Fr H) H G ∧ env 0 = some v0 ∧ env 1 = some v1 ∧ env 5 = some (Value.int .i64 y1_5)) fu ⟨0, hL5, S6, A0, by simp []⟩ ?_;rintro n1 env1 G1_ ⟨y1_5, hL5, S1_, A1_, e1_⟩;cases n1 with
  | zero => cases hL5
  | succ n1 =>
   simp only [F_laws_eqIntS_L1] at hL5;refine .seq ?_;have q7 := lenG (P := Try.prog) (hx0.agree A1_.agree) el_22;refine .sr fun K hK => ?_;simp [e1_, q7];apply hK;clear hK K;refine DWp.cond' (t := (ilt y1_5 (llen x0))) (by simp [e1_]) (fun hb8 => ?_) (fun hb8 => ?_)
   ·replace hL5 := cd_t hb8 hL5;refine DWp.skip ?_;simp only [andThen, leaves];refine .seq ?_;refine .block ?_;obtain ⟨g9, hL5⟩ := gd_some hL5;have q10 := idxG (P := Try.prog) (kk := .i64) (hx0.agree A1_.agree) el_22 sz_3 g9;have q11 := loadG (P := Try.prog) (hx0.agree A1_.agree) sz_3 ag_3 g9 0;obtain ⟨g12, hL5⟩ := gd_some hL5;have q13 := idxG (P := Try.prog) (kk := .i64) (hx1.agree A1_.agree) el_22 sz_3 g12;have q14 := loadG (P := Try.prog) (hx1.agree A1_.agree) sz_3 ag_3 g12 0;refine .sd (B := [0, 0, 3, 7, 0, 0, 48, 112, 255]) 9 mixed (by kernel_rfl) (by decide) fun K hK => ?_;simp [e1_, q10, q11, q13, q14];apply hK;clear hK K;refine DWp.cond' (t := (ine (gat 0 x0 y1_5) (gat 0 x1 y1_5))) (by simp [e1_]) (fun hb15 => ?_) (fun hb15 => ?_)
    ·replace hL5 := cd_t hb15 hL5;refine .sr fun K hK => ?_;simp [e1_];apply hK;clear hK K;refine DWp.ret ?_;simp only [andThen, leaves];obtain rfl := Option.some.inj hL5;simp only [lr] at hF;obtain rfl := Option.some.inj hF;exact ⟨by simp, [(Value.bool false)], by simp [e1_], A1_, rfl, S1_.pick [] (by decide) rfl⟩
    ·replace hL5 := cd_f hb15 hL5;refine DWp.skip ?_;simp only [andThen, leaves];refine .region fun K hK => ?_;simp [e1_];apply hK;clear hK K;simp only [andThen, leaves];have S16 := S1_.pick [] (by decide) rfl;exact ⟨n1, Nat.lt_succ_self _, (iadd .i64 y1_5 1), hL5, S16, A1_, by simp [e1_]⟩
   ·replace hL5 := cd_f hb8 hL5;refine DWp.exit ?_;simp only [andThen, leaves, if_true, if_false, reduceIte, Nat.reduceEqDiff];obtain rfl := Option.some.inj hL5;simp only [lr] at hF;refine .sr fun K hK => ?_;simp [e1_];apply hK;clear hK K;refine DWp.ret ?_;obtain rfl := Option.some.inj hF;exact ⟨by simp, [(Value.bool true)], by simp [e1_], A1_, rfl, S1_.pick [] (by decide) rfl⟩
def F_laws_FnExactCountShortest (fu : Nat) (x0 : List Int) (x1 : List Int) : Option (Bool) :=
  bif (ilt 1048576 (llen x0)) then
    some true
  else
    bif (ilt 1048576 (llen x1)) then
      some true
    else
      bd (F_laws_toIntS fu x0) fun r1 =>
      bd (F_laws_toIntS fu x1) fun r2 =>
      bd (F_spec_CountShortest fu r1 r2) fun r3 =>
      bd (F_laws_toIntS fu x0) fun r4 =>
      bd (F_laws_toIntS fu x1) fun r5 =>
      bd (F_impl_CountShortest fu r4 r5) fun r6 =>
      bd (
        bif (ine r6.1 r3.1) then
          some true
        else
          some (bne' r6.2 r3.2)) fun s47 =>
      bif s47 then
        some false
      else
        bd (F_laws_toIntS fu x0) fun r7 =>
        bd (F_laws_eqIntS fu r4 r7) fun r8 =>
        bif (bnot r8) then
          some false
        else
          bd (F_laws_toIntS fu x1) fun r9 =>
          bd (F_laws_eqIntS fu r5 r9) fun r10 =>
          bif (bnot r10) then
            some false
          else
            some true
theorem F_laws_FnExactCountShortest_w {fu : Nat} {H : AH} {v0 : Value} {v1 : Value} {x0 : List Int} {x1 : List Int} {r : (Bool)} (hx0 : Sl H v0 (ints x0)) (hx1 : Sl H v1 (ints x1)) (hF : F_laws_FnExactCountShortest fu x0 x1 = some r) :
    ACallT Try.prog 3 [v0, v1] H (fun u G => AgB (Fr H) H G ∧ u = (Value.bool r) ∧ Sep G (Fr H) []) := by
 refine ACallT.of_body (nt := 53) (rs := [.tmp 4]) Try.func3 rfl rfl rfl rfl ?_;have A0 : AgB (Fr H) H H := .refl _ _;have S0 : Sep H (Fr H) [] := .nil;have hB := Fr.up H;unfold F_laws_FnExactCountShortest at hF;refine .sr fun K hK => ?_;simp [];apply hK;clear hK K;refine .seq ?_;have q1 := lenG (P := Try.prog) (hx0.agree A0.agree) el_22;refine .sr fun K hK => ?_;simp [q1];apply hK;clear hK K;refine DWp.cond' (t := (ilt 1048576 (llen x0))) (by simp []) (fun hb2 => ?_) (fun hb2 => ?_)
 ·replace hF := cd_t hb2 hF;refine .sr fun K hK => ?_;simp [];apply hK;clear hK K;refine DWp.ret ?_;simp only [andThen, leaves];obtain rfl := Option.some.inj hF;exact ⟨by simp, [(Value.bool true)], by simp [], A0, rfl, S0.pick [] (by decide) rfl⟩
 ·replace hF := cd_f hb2 hF;refine DWp.skip ?_;simp only [andThen, leaves];refine .seq ?_;have q3 := lenG (P := Try.prog) (hx1.agree A0.agree) el_22;refine .sr fun K hK => ?_;simp [q3];apply hK;clear hK K;refine DWp.cond' (t := (ilt 1048576 (llen x1))) (by simp []) (fun hb4 => ?_) (fun hb4 => ?_)
  ·replace hF := cd_t hb4 hF;refine .sr fun K hK => ?_;simp [];apply hK;clear hK K;refine DWp.ret ?_;simp only [andThen, leaves];obtain rfl := Option.some.inj hF;exact ⟨by simp, [(Value.bool true)], by simp [], A0, rfl, S0.pick [] (by decide) rfl⟩
  ·replace hF := cd_f hb4 hF;refine DWp.skip ?_;simp only [andThen, leaves];obtain ⟨r1, hc5, hF⟩ := bd_some hF;refine .sr fun K hK => ?_;simp [((hx0.agree A0.agree).tup)];refine CallD.t (F_laws_toIntS_w (fu := fu) (hx0.agree A0.agree) hc5) ?_;rintro c6_u0 G7 ⟨a10, _, rfl, S11⟩;have A9 := A0.ext (hB.le A0.1) a10.agree;have S8 : Sep G7 (Fr H) [flat c6_u0 3 (ints r1)] := S0.app a10.agree S11 (fun _ h => h) (hB.le A0.1);obtain ⟨r2, hc12, hF⟩ := bd_some hF;simp [a10.pre, ((hx1.agree A9.agree).tup)];refine CallD.t (F_laws_toIntS_w (fu := fu) (hx1.agree A9.agree) hc12) ?_;rintro c13_u0 G14 ⟨a17, _, rfl, S18⟩;have A16 := A9.ext (hB.le A9.1) a17.agree;have S15 : Sep G14 (Fr H) [flat c6_u0 3 (ints r1), flat c13_u0 3 (ints r2)] := S8.app a17.agree S18 (fun _ h => h) (hB.le A9.1);obtain ⟨r3, hc19, hF⟩ := bd_some hF;simp [a10.pre, a17.pre, ((S15.sl (k := 0) rfl).tup), ((S15.sl (k := 1) rfl).tup)];refine CallD.t (F_spec_CountShortest_w (fu := fu) (S15.sl (k := 0) rfl) (S15.sl (k := 1) rfl) hc19) ?_;rintro _ G21 ⟨a24, rfl, S25⟩;have A23 := A16.ext (hB.le A16.1) a24.agree;have S22 : Sep G21 (Fr H) [flat c6_u0 3 (ints r1), flat c13_u0 3 (ints r2)] := S15.app a24.agree S25 (fun _ h => h) (hB.le A16.1);simp [a10.pre, a17.pre, a24.pre];apply hK;clear hK K;obtain ⟨r4, hc26, hF⟩ := bd_some hF;refine .sr fun K hK => ?_;simp [((hx0.agree A23.agree).tup)];refine CallD.t (F_laws_toIntS_w (fu := fu) (hx0.agree A23.agree) hc26) ?_;rintro c27_u0 G28 ⟨a31, _, rfl, S32⟩;have A30 := A23.ext (hB.le A23.1) a31.agree;have S29 : Sep G28 (Fr H) [flat c6_u0 3 (ints r1), flat c13_u0 3 (ints r2), flat c27_u0 3 (ints r4)] := S22.app a31.agree S32 (fun _ h => h) (hB.le A23.1);simp [a31.pre];apply hK;clear hK K;obtain ⟨r5, hc33, hF⟩ := bd_some hF;refine .sr fun K hK => ?_;simp [((hx1.agree A30.agree).tup)]
   refine CallD.t (F_laws_toIntS_w (fu := fu) (hx1.agree A30.agree) hc33) ?_;rintro c34_u0 G35 ⟨a38, _, rfl, S39⟩;have A37 := A30.ext (hB.le A30.1) a38.agree;have S36 : Sep G35 (Fr H) [flat c6_u0 3 (ints r1), flat c13_u0 3 (ints r2), flat c27_u0 3 (ints r4), flat c34_u0 3 (ints r5)] := S29.app a38.agree S39 (fun _ h => h) (hB.le A30.1);simp [a38.pre];apply hK;clear hK K;obtain ⟨r6, hc40, hF⟩ := bd_some hF;refine .sr fun K hK => ?_;simp [((S36.sl (k := 2) rfl).tup), ((S36.sl (k := 3) rfl).tup)];refine CallD.t (F_impl_CountShortest_w (fu := fu) (S36.sl (k := 2) rfl) (S36.sl (k := 3) rfl) hc40) ?_;rintro _ G42 ⟨a45, rfl, S46⟩;have A44 := A37.ext (hB.le A37.1) a45.agree;have S43 : Sep G42 (Fr H) [flat c6_u0 3 (ints r1), flat c13_u0 3 (ints r2), flat c27_u0 3 (ints r4), flat c34_u0 3 (ints r5)] := S36.app a45.agree S46 (fun _ h => h) (hB.le A37.1);simp [a45.pre];apply hK;clear hK K;refine .seq ?_;obtain ⟨s47, hL48, hF⟩ := bd_some hF;refine DWp.seq (DWp.join (fun env G => Sep G (Fr H) [flat c27_u0 3 (ints r4), flat c34_u0 3 (ints r5)] ∧ AgB (Fr H) H G ∧ env 0 = some v0 ∧ env 1 = some v1 ∧ env 7 = some c27_u0 ∧ env 8 = some c34_u0 ∧ env 42 = some (Value.bool s47)) ?_ ?_)
   ·
    rcases Bool.eq_false_or_eq_true (ine r6.1 r3.1) with hb50 | hb50
    ·replace hL48 := cd_t hb50 hL48;refine .region fun K hK => ?_;simp [hb50];apply hK;clear hK K;simp only [andThen, leaves];have S51 := S43.pick [2, 3] (by decide) rfl;obtain rfl := Option.some.inj hL48;exact ⟨S51, A44, by simp []⟩
    ·replace hL48 := cd_f hb50 hL48;refine .region fun K hK => ?_;simp [hb50, b_bne un_4];apply hK;clear hK K;simp only [andThen, leaves];have S52 := S43.pick [2, 3] (by decide) rfl;obtain rfl := Option.some.inj hL48;exact ⟨S52, A44, by simp []⟩
   ·rintro env Gj53 ⟨Sj53, Aj53, ej53_⟩;refine DWp.cond' (t := s47) (by simp [ej53_]) (fun hb54 => ?_) (fun hb54 => ?_)
    ·replace hF := cd_t hb54 hF;refine .sr fun K hK => ?_;simp [ej53_];apply hK;clear hK K;refine DWp.ret ?_;simp only [andThen, leaves];obtain rfl := Option.some.inj hF;exact ⟨by simp, [(Value.bool false)], by simp [ej53_], Aj53, rfl, Sj53.pick [] (by decide) rfl⟩
    ·replace hF := cd_f hb54 hF;refine DWp.skip ?_;simp only [andThen, leaves];refine .seq ?_;obtain ⟨r7, hc55, hF⟩ := bd_some hF;refine .sr fun K hK => ?_;simp [ej53_, ((hx0.agree Aj53.agree).tup)];refine CallD.t (F_laws_toIntS_w (fu := fu) (hx0.agree Aj53.agree) hc55) ?_;rintro c56_u0 G57 ⟨a60, _, rfl, S61⟩;have A59 := Aj53.ext (hB.le Aj53.1) a60.agree;have S58 : Sep G57 (Fr H) [flat c27_u0 3 (ints r4), flat c34_u0 3 (ints r5), flat c56_u0 3 (ints r7)] := Sj53.app a60.agree S61 (fun _ h => h) (hB.le Aj53.1);obtain ⟨r8, hc62, hF⟩ := bd_some hF;simp [ej53_, a60.pre, ((S58.sl (k := 0) rfl).tup), ((S58.sl (k := 2) rfl).tup)];refine CallD.t (F_laws_eqIntS_w (fu := fu) (S58.sl (k := 0) rfl) (S58.sl (k := 2) rfl) hc62) ?_;rintro _ G64 ⟨a67, rfl, S68⟩;have A66 := A59.ext (hB.le A59.1) a67.agree;have S65 : Sep G64 (Fr H) [flat c27_u0 3 (ints r4), flat c34_u0 3 (ints r5), flat c56_u0 3 (ints r7)] := S58.app a67.agree S68 (fun _ h => h) (hB.le A59.1);simp [ej53_, a60.pre, a67.pre];apply hK;clear hK K;refine DWp.cond' (t := (bnot r8)) (by simp [ej53_]) (fun hb69 => ?_) (fun hb69 => ?_)
     ·replace hF := cd_t hb69 hF;refine .sr fun K hK => ?_;simp [ej53_];apply hK;clear hK K;refine DWp.ret ?_;simp only [andThen, leaves];obtain rfl := Option.some.inj hF;exact ⟨by simp, [(Value.bool false)], by simp [ej53_], A66, rfl, S65.pick [] (by decide) rfl⟩
     ·replace hF := cd_f hb69 hF;refine DWp.skip ?_;simp only [andThen, leaves];refine .seq ?_;obtain ⟨r9, hc70, hF⟩ := bd_some hF;refine .sr fun K hK => ?_;simp [ej53_, ((hx1.agree A66.agree).tup)];refine CallD.t (F_laws_toIntS_w (fu := fu) (hx1.agree A66.agree) hc70) ?_;rintro c71_u0 G72 ⟨a75, _, rfl, S76⟩;have A74 := A66.ext (hB.le A66.1) a75.agree;have S73 : Sep G72 (Fr H) [flat c27_u0 3 (ints r4), flat c34_u0 3 (ints r5), flat c56_u0 3 (ints r7), flat c71_u0 3 (ints r9)] := S65.app a75.agree S76 (fun _ h => h) (hB.le A66.1);obtain ⟨r10, hc77, hF⟩ := bd_some hF;simp [ej53_, a75.pre, ((S73.sl (k := 1) rfl).tup), ((S73.sl (k := 3) rfl).tup)];refine CallD.t (F_laws_eqIntS_w (fu := fu) (S73.sl (k := 1) rfl) (S73.sl (k := 3) rfl) hc77) ?_;rintro _ G79 ⟨a82, rfl, S83⟩;have A81 := A74.ext (hB.le A74.1) a82.agree;have S80 : Sep G79 (Fr H) [flat c27_u0 3 (ints r4), flat c34_u0 3 (ints r5), flat c56_u0 3 (ints r7), flat c71_u0 3 (ints r9)] := S73.app a82.agree S83 (fun _ h => h) (hB.le A74.1);simp [ej53_, a75.pre, a82.pre];apply hK;clear hK K;refine DWp.cond' (t := (bnot r10)) (by simp [ej53_]) (fun hb84 => ?_) (fun hb84 => ?_)
      ·replace hF := cd_t hb84 hF;refine .sr fun K hK => ?_;simp [ej53_];apply hK;clear hK K;refine DWp.ret ?_;simp only [andThen, leaves];obtain rfl := Option.some.inj hF;exact ⟨by simp, [(Value.bool false)], by simp [ej53_], A81, rfl, S80.pick [] (by decide) rfl⟩
      ·replace hF := cd_f hb84 hF;refine DWp.skip ?_;simp only [andThen, leaves];refine .sr fun K hK => ?_;simp [ej53_];apply hK;clear hK K;refine DWp.ret ?_;obtain rfl := Option.some.inj hF;exact ⟨by simp, [(Value.bool true)], by simp [ej53_], A81, rfl, S80.pick [] (by decide) rfl⟩
end Go.Proofs.Ytjgnpkedkjbmcaa.AL

/- The walks of functions, each with its Lean function: impl.SeaweedText, laws.eqIntS, laws.eqSeaweed, laws.FnExactSeaweedText. No condition. -/
import Derived.Test.YtcbdgkgdopkofaaDoorG1
import Derived.Test.YtcbdgkgdopkofaaDoorG2
import Derived.Test.YtcbdgkgdopkofaaDoorG3
import Derived.Test.YtcbdgkgdopkofaaDoorGJoin
import Derived.Test.YtcbdgkgdopkofaaDoorALD
import Derived.Test.YtcbdgkgdopkofaaDoorProg
import Derived.KernelRfl
namespace Go.Proofs.YtcbdgkgdopkofaaDoor.AL
open Go Go.RowKit
set_option linter.unusedVariables false
set_option linter.unusedSimpArgs false
set_option maxRecDepth 4096
attribute [local simp] n_fn b_add b_sub b_mul b_lt b_le b_gt b_ge b_eq b_ne u_not
theorem ag_24 : aggT Tryd.prog 24 = some true := by kernel_rfl
theorem sz_24 : sizeT Tryd.prog 24 = some 2 := by kernel_rfl
theorem un_4 : Tryd.prog.underlying 4 = some .bool := by kernel_rfl
def F_laws_eqIntS_L1 (fu : Nat) (k1_0 : List Int) (k1_1 : List Int) : Nat → Int → Option (LR (Bool) (Int))
  | 0, _ => none
  | n + 1, y1_5 =>
    bif (ilt y1_5 (llen k1_0)) then
      gd (inL k1_0 y1_5) (
      gd (inL k1_1 y1_5) (
      bif (ine (gat 0 k1_0 y1_5) (gat 0 k1_1 y1_5)) then
        some (.ret false)
      else
        F_laws_eqIntS_L1 fu k1_0 k1_1 n (iadd .i64 y1_5 1)))
    else
      some (.brk y1_5)
def F_laws_eqIntS (fu : Nat) (x0 : List Int) (x1 : List Int) : Option (Bool) :=
  bif (ine (llen x0) (llen x1)) then
    some false
  else
    bd (F_laws_eqIntS_L1 fu x0 x1 fu 0) fun s1 =>
    lr s1 fun s1 =>
    some true
theorem F_laws_eqIntS_w {fu : Nat} {H : AH} {v0 : Value} {v1 : Value} {x0 : List Int} {x1 : List Int} {r : (Bool)} (hx0 : Sl H v0 (ints x0)) (hx1 : Sl H v1 (ints x1)) (hF : F_laws_eqIntS fu x0 x1 = some r) :
    ACallT Tryd.prog 26 [v0, v1] H (fun u G => AgB (Fr H) H G ∧ u = (Value.bool r) ∧ Sep G (Fr H) []) := by
 refine ACallT.of_body (nt := 26) (rs := [.tmp 4]) Tryd.func26 rfl rfl rfl rfl ?_;have A0 : AgB (Fr H) H H := .refl _ _;have S0 : Sep H (Fr H) [] := .nil;have hB := Fr.up H;unfold F_laws_eqIntS at hF;refine .sr fun K hK => ?_;simp [];apply hK;clear hK K;refine .seq ?_;have q1 := lenG (P := Tryd.prog) (hx0.agree A0.agree) el_22;have q2 := lenG (P := Tryd.prog) (hx1.agree A0.agree) el_22;refine .sr fun K hK => ?_;simp [q1, q2];apply hK;clear hK K;refine DWp.cond' (t := (ine (llen x0) (llen x1))) (by simp []) (fun hb3 => ?_) (fun hb3 => ?_)
 ·replace hF := cd_t hb3 hF;refine .sr fun K hK => ?_;simp [];apply hK;clear hK K;refine DWp.ret ?_;simp only [andThen, leaves];obtain rfl := Option.some.inj hF;exact ⟨by simp, [(Value.bool false)], by simp [], A0, rfl, S0.pick [] (by decide) rfl⟩
 ·replace hF := cd_f hb3 hF;refine DWp.skip ?_;simp only [andThen, leaves];refine .seq ?_;refine .sr fun K hK => ?_;simp [];apply hK;clear hK K;refine .block ?_;obtain ⟨s4, hL5, hF⟩ := bd_some hF;have S6 := S0.pick [] (by decide) rfl;refine DWp.loop (fun n env G => ∃ y1_5 : Int, F_laws_eqIntS_L1 fu x0 x1 n y1_5 = some s4 ∧ Sep G (Fr H) [] ∧ AgB (Fr H) H G ∧ env 0 = some v0 ∧ env 1 = some v1 ∧ env 5 = some (Value.int .i64 y1_5)) fu ⟨0, hL5, S6, A0, by simp []⟩ ?_;rintro n1 env1 G1_ ⟨y1_5, hL5, S1_, A1_, e1_⟩;cases n1 with
  | zero => cases hL5
  | succ n1 =>
   simp only [F_laws_eqIntS_L1] at hL5;refine .seq ?_;have q7 := lenG (P := Tryd.prog) (hx0.agree A1_.agree) el_22;refine .sr fun K hK => ?_;simp [e1_, q7];apply hK;clear hK K;refine DWp.cond' (t := (ilt y1_5 (llen x0))) (by simp [e1_]) (fun hb8 => ?_) (fun hb8 => ?_)
   ·replace hL5 := cd_t hb8 hL5;refine DWp.skip ?_;simp only [andThen, leaves];refine .seq ?_;refine .block ?_;obtain ⟨g9, hL5⟩ := gd_some hL5;have q10 := idxG (P := Tryd.prog) (kk := .i64) (hx0.agree A1_.agree) el_22 sz_3 g9;have q11 := loadG (P := Tryd.prog) (hx0.agree A1_.agree) sz_3 ag_3 g9 0;obtain ⟨g12, hL5⟩ := gd_some hL5;have q13 := idxG (P := Tryd.prog) (kk := .i64) (hx1.agree A1_.agree) el_22 sz_3 g12;have q14 := loadG (P := Tryd.prog) (hx1.agree A1_.agree) sz_3 ag_3 g12 0;refine .sd (B := [0, 0, 3, 7, 0, 0, 48, 112, 255]) 9 mixed (by kernel_rfl) (by decide) fun K hK => ?_;simp [e1_, q10, q11, q13, q14];apply hK;clear hK K;refine DWp.cond' (t := (ine (gat 0 x0 y1_5) (gat 0 x1 y1_5))) (by simp [e1_]) (fun hb15 => ?_) (fun hb15 => ?_)
    ·replace hL5 := cd_t hb15 hL5;refine .sr fun K hK => ?_;simp [e1_];apply hK;clear hK K;refine DWp.ret ?_;simp only [andThen, leaves];obtain rfl := Option.some.inj hL5;simp only [lr] at hF;obtain rfl := Option.some.inj hF;exact ⟨by simp, [(Value.bool false)], by simp [e1_], A1_, rfl, S1_.pick [] (by decide) rfl⟩
    ·replace hL5 := cd_f hb15 hL5;refine DWp.skip ?_;simp only [andThen, leaves];refine .region fun K hK => ?_;simp [e1_];apply hK;clear hK K;simp only [andThen, leaves];have S16 := S1_.pick [] (by decide) rfl;exact ⟨n1, Nat.lt_succ_self _, (iadd .i64 y1_5 1), hL5, S16, A1_, by simp [e1_]⟩
   ·replace hL5 := cd_f hb8 hL5;refine DWp.exit ?_;simp only [andThen, leaves, if_true, if_false, reduceIte, Nat.reduceEqDiff];obtain rfl := Option.some.inj hL5;simp only [lr] at hF;refine .sr fun K hK => ?_;simp [e1_];apply hK;clear hK K;refine DWp.ret ?_;obtain rfl := Option.some.inj hF;exact ⟨by simp, [(Value.bool true)], by simp [e1_], A1_, rfl, S1_.pick [] (by decide) rfl⟩
def F_laws_eqSeaweed (fu : Nat) (x0_0 : List Int) (x0_1 : List Int) (x1_0 : List Int) (x1_1 : List Int) : Option (Bool) :=
  bd (F_laws_eqIntS fu x0_0 x1_0) fun r1 =>
  bif (bnot r1) then
    some false
  else
    bd (F_laws_eqIntS fu x0_1 x1_1) fun r2 =>
    bif (bnot r2) then
      some false
    else
      some true
theorem F_laws_eqSeaweed_w {fu : Nat} {H : AH} {v0_0 : Value} {v0_1 : Value} {v1_0 : Value} {v1_1 : Value} {x0_0 : List Int} {x0_1 : List Int} {x1_0 : List Int} {x1_1 : List Int} {r : (Bool)} (hx0_0 : Sl H v0_0 (ints x0_0)) (hx0_1 : Sl H v0_1 (ints x0_1)) (hx1_0 : Sl H v1_0 (ints x1_0)) (hx1_1 : Sl H v1_1 (ints x1_1)) (hF : F_laws_eqSeaweed fu x0_0 x0_1 x1_0 x1_1 = some r) :
    ACallT Tryd.prog 10 [(Value.agg #[v0_0, v0_1]), (Value.agg #[v1_0, v1_1])] H (fun u G => AgB (Fr H) H G ∧ u = (Value.bool r) ∧ Sep G (Fr H) []) := by
 refine ACallT.of_body (nt := 17) (rs := [.tmp 4]) Tryd.func10 rfl rfl rfl rfl ?_;have A0 : AgB (Fr H) H H := .refl _ _;have S0 : Sep H (Fr H) [] := .nil;have hB := Fr.up H;unfold F_laws_eqSeaweed at hF;obtain ⟨G2, p4, q5, q6, a7, S1⟩ := S0.boxT (hB.le A0.1) 28 [v0_0, v0_1];have A3 := A0.ext (hB.le A0.1) a7;replace S1 : Sep G2 (Fr H) [AL.box p4 [v0_0, v0_1]] := S1;obtain ⟨G9, p11, q12, q13, a14, S8⟩ := S1.boxT (hB.le A3.1) 28 [v1_0, v1_1];have A10 := A3.ext (hB.le A3.1) a14;replace S8 : Sep G9 (Fr H) [AL.box p4 [v0_0, v0_1], AL.box p11 [v1_0, v1_1]] := S8;refine .sr fun K hK => ?_;simp [q5, q6, a7.to_pre, cells_agg, q12, q13, a14.to_pre];apply hK;clear hK K;refine .seq ?_;have q15 := S8.fieldT (P := Tryd.prog) (k := 0) rfl fa_28_0;have q16 := S8.loadF (P := Tryd.prog) (k := 0) rfl sz_22 ag_22 (off := 0) rfl;have q17 := S8.fieldT (P := Tryd.prog) (k := 1) rfl fa_28_0;have q18 := S8.loadF (P := Tryd.prog) (k := 1) rfl sz_22 ag_22 (off := 0) rfl;obtain ⟨r1, hc19, hF⟩ := bd_some hF;refine .sr fun K hK => ?_;simp [q15, q16, q17, q18, ((hx0_0.agree A10.agree).tup), ((hx1_0.agree A10.agree).tup)];refine CallD.t (F_laws_eqIntS_w (fu := fu) (hx0_0.agree A10.agree) (hx1_0.agree A10.agree) hc19) ?_;rintro _ G21 ⟨a24, rfl, S25⟩;have A23 := A10.ext (hB.le A10.1) a24.agree;have S22 : Sep G21 (Fr H) [AL.box p4 [v0_0, v0_1], AL.box p11 [v1_0, v1_1]] := S8.app a24.agree S25 (fun _ h => h) (hB.le A10.1);simp [q15, q16, q17, q18, a24.pre];apply hK;clear hK K;refine DWp.cond' (t := (bnot r1)) (by simp []) (fun hb26 => ?_) (fun hb26 => ?_)
 ·replace hF := cd_t hb26 hF;refine .sr fun K hK => ?_;simp [];apply hK;clear hK K;refine DWp.ret ?_;simp only [andThen, leaves];obtain rfl := Option.some.inj hF;exact ⟨by simp, [(Value.bool false)], by simp [], A23, rfl, S22.pick [] (by decide) rfl⟩
 ·replace hF := cd_f hb26 hF;refine DWp.skip ?_;simp only [andThen, leaves];refine .seq ?_;have q27 := S22.fieldT (P := Tryd.prog) (k := 0) rfl fa_28_1;have q28 := S22.loadF (P := Tryd.prog) (k := 0) rfl sz_22 ag_22 (off := 1) rfl;have q29 := S22.fieldT (P := Tryd.prog) (k := 1) rfl fa_28_1;have q30 := S22.loadF (P := Tryd.prog) (k := 1) rfl sz_22 ag_22 (off := 1) rfl;obtain ⟨r2, hc31, hF⟩ := bd_some hF;refine .sr fun K hK => ?_;simp [q27, q28, q29, q30, ((hx0_1.agree A23.agree).tup), ((hx1_1.agree A23.agree).tup)];refine CallD.t (F_laws_eqIntS_w (fu := fu) (hx0_1.agree A23.agree) (hx1_1.agree A23.agree) hc31) ?_;rintro _ G33 ⟨a36, rfl, S37⟩;have A35 := A23.ext (hB.le A23.1) a36.agree;have S34 : Sep G33 (Fr H) [AL.box p4 [v0_0, v0_1], AL.box p11 [v1_0, v1_1]] := S22.app a36.agree S37 (fun _ h => h) (hB.le A23.1);simp [q27, q28, q29, q30, a36.pre];apply hK;clear hK K;refine DWp.cond' (t := (bnot r2)) (by simp []) (fun hb38 => ?_) (fun hb38 => ?_)
  ·replace hF := cd_t hb38 hF;refine .sr fun K hK => ?_;simp [];apply hK;clear hK K;refine DWp.ret ?_;simp only [andThen, leaves];obtain rfl := Option.some.inj hF;exact ⟨by simp, [(Value.bool false)], by simp [], A35, rfl, S34.pick [] (by decide) rfl⟩
  ·replace hF := cd_f hb38 hF;refine DWp.skip ?_;simp only [andThen, leaves];refine .sr fun K hK => ?_;simp [];apply hK;clear hK K;refine DWp.ret ?_;obtain rfl := Option.some.inj hF;exact ⟨by simp, [(Value.bool true)], by simp [], A35, rfl, S34.pick [] (by decide) rfl⟩
end Go.Proofs.YtcbdgkgdopkofaaDoor.AL

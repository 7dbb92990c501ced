/- The walks of functions, each with its Lean function: impl.isSystem, impl.IsSystem, impl.IsPair, impl.IsWhole, impl.FlipMeander, spec.DrawCountWhole, spec.CountWhole, spec.DrawCountByPieces, spec.siShortest, spec.siInner. No condition. -/
import Derived.Test.YtbckijeffiofdaaG1
import Derived.Test.YtbckijeffiofdaaG2
import Derived.Test.YtbckijeffiofdaaG3
import Derived.Test.YtbckijeffiofdaaG4
import Derived.Test.YtbckijeffiofdaaG5
import Derived.Test.YtbckijeffiofdaaG6
import Derived.Test.YtbckijeffiofdaaG7
import Derived.Test.YtbckijeffiofdaaALD
import Derived.Test.YtbckijeffiofdaaProg
import Derived.KernelRfl
namespace Go.Proofs.Ytbckijeffiofdaa.AL
open Go Go.RowKit
set_option linter.unusedVariables false
set_option linter.unusedSimpArgs false
set_option maxRecDepth 4096
attribute [local simp] n_fn b_add b_sub b_mul b_lt b_le b_gt b_ge b_eq b_ne u_not

def F_impl_isSystem_L3 (fu : Nat) (k3_0 : List Int) (k3_1 : Int) (k3_2 : Int) (k3_3 : Int) : Nat → Int → Option (LR (LR (Bool) (Int)) (Int))
  | 0, _ => none
  | n + 1, y3_7 =>
    bif (ilt y3_7 k3_2) then
      gd (inL k3_0 y3_7) (
      bd (F_impl_in fu (gat 0 k3_0 y3_7) k3_1 k3_2) fun r2 =>
      bif (bnot r2) then
        some (.ret (.ret false))
      else
        F_impl_isSystem_L3 fu k3_0 k3_1 k3_2 k3_3 n (iadd .i64 y3_7 1))
    else
      some (.brk y3_7)
def F_impl_isSystem_L2 (fu : Nat) (k2_0 : List Int) (k2_1 : Int) : Nat → Int → Option (LR (Bool) (Int))
  | 0, _ => none
  | n + 1, y2_37 =>
    bif (ilt y2_37 k2_1) then
      gd (inL k2_0 y2_37) (
      bd (F_impl_isSystem_L3 fu k2_0 y2_37 (gat 0 k2_0 y2_37) k2_1 fu (iadd .i64 y2_37 1)) fun s3 =>
      lr s3 fun s3 =>
      F_impl_isSystem_L2 fu k2_0 k2_1 n (iadd .i64 y2_37 1))
    else
      some (.brk y2_37)
def F_impl_isSystem_L1 (fu : Nat) (k1_0 : List Int) (k1_1 : Int) : Nat → Int → Option (LR (Bool) (Int))
  | 0, _ => none
  | n + 1, y1_10 =>
    bif (ilt y1_10 k1_1) then
      gd (inL k1_0 y1_10) (
      bd (
        bd (F_impl_in fu (gat 0 k1_0 y1_10) 0 (isub .i64 (llen k1_0) 1)) fun r1 =>
        bif (bnot r1) then
          some true
        else
          bif (ieq (gat 0 k1_0 y1_10) y1_10) then
            some true
          else
            gd (inL k1_0 (gat 0 k1_0 y1_10)) (
            some (ine (gat 0 k1_0 (gat 0 k1_0 y1_10)) y1_10))) fun s9 =>
      bif s9 then
        some (.ret false)
      else
        F_impl_isSystem_L1 fu k1_0 k1_1 n (iadd .i64 y1_10 1))
    else
      some (.brk y1_10)
def F_impl_isSystem (fu : Nat) (x0 : List Int) : Option (Bool) :=
  bd (F_impl_isSystem_L1 fu x0 (llen x0) fu 0) fun s1 =>
  lr s1 fun s1 =>
  bd (F_impl_isSystem_L2 fu x0 (llen x0) fu 0) fun s2 =>
  lr s2 fun s2 =>
  some true
theorem F_impl_isSystem_w {fu : Nat} {H : AH} {v0 : Value} {x0 : List Int} {r : (Bool)} (hx0 : Sl H v0 (ints x0)) (hF : F_impl_isSystem fu x0 = some r) :
    ACallT Try.prog 162 [v0] H (fun u G => AgB (Fr H) H G ∧ u = (Value.bool r) ∧ Sep G (Fr H) []) := by
 refine ACallT.of_body (nt := 58) (rs := [.tmp 2]) Try.func162 rfl rfl rfl rfl ?_;have A0 : AgB (Fr H) H H := .refl _ _;have S0 : Sep H (Fr H) [] := .nil;have hB := Fr.up H;unfold F_impl_isSystem at hF;refine .sr fun K hK => ?_;simp [];apply hK;clear hK K;refine .seq ?_;have q1 := lenG (P := Try.prog) (hx0.agree A0.agree) el_22;refine .sr fun K hK => ?_;simp [q1];apply hK;clear hK K;refine .block ?_;obtain ⟨s2, hL3, hF⟩ := bd_some hF;have S4 := S0.pick [] (by decide) rfl;refine DWp.loop (fun n env G => ∃ y1_10 : Int, F_impl_isSystem_L1 fu x0 (llen x0) n y1_10 = some s2 ∧ Sep G (Fr H) [] ∧ AgB (Fr H) H G ∧ env 0 = some v0 ∧ env 8 = some v0 ∧ env 9 = some (Value.int .i64 (llen x0)) ∧ env 10 = some (Value.int .i64 y1_10)) fu ⟨0, hL3, S4, A0, by simp []⟩ ?_;rintro n1 env1 G1_ ⟨y1_10, hL3, S1_, A1_, e1_0, e1_8, e1_9, e1_10⟩;cases n1 with
 | zero => cases hL3
 | succ n1 =>
  simp only [F_impl_isSystem_L1] at hL3;refine .sr fun K hK => ?_;simp [e1_0, e1_8, e1_9, e1_10];apply hK;clear hK K;refine .seq ?_;refine DWp.cond' (t := (ilt y1_10 (llen x0))) (by simp [e1_0, e1_8, e1_9, e1_10]) (fun hb5 => ?_) (fun hb5 => ?_)
  ·replace hL3 := cd_t hb5 hL3;refine DWp.skip ?_;simp only [andThen, leaves];refine .seq ?_;refine .block ?_;obtain ⟨g6, hL3⟩ := gd_some hL3;have q7 := idxG (P := Try.prog) (kk := .i64) (hx0.agree A1_.agree) el_22 sz_3 g6;have q8 := loadG (P := Try.prog) (hx0.agree A1_.agree) sz_3 ag_3 g6 0;refine .sr fun K hK => ?_;simp [e1_0, e1_8, e1_9, e1_10, q7, q8];apply hK;clear hK K;obtain ⟨s9, hL10, hL3⟩ := bd_some hL3;refine DWp.seq (DWp.join (fun env G => Sep G (Fr H) [] ∧ AgB (Fr H) H G ∧ env 0 = some v0 ∧ env 8 = some v0 ∧ env 9 = some (Value.int .i64 (llen x0)) ∧ env 10 = some (Value.int .i64 y1_10) ∧ env 33 = some (Value.bool s9)) ?_ ?_)
   ·
    have q12 := lenG (P := Try.prog) (hx0.agree A1_.agree) el_22;obtain ⟨r1, hc13, hL10⟩ := bd_some hL10;refine .region fun K hK => ?_;simp [e1_0, e1_8, e1_9, e1_10, q12];refine CallD.t (F_impl_in_w (fu := fu)  hc13) ?_;rintro _ G15 ⟨a18, rfl, S19⟩;have A17 := A1_.ext (hB.le A1_.1) a18.agree;have S16 : Sep G15 (Fr H) [] := S1_.app a18.agree S19 (fun _ h => h) (hB.le A1_.1);rcases Bool.eq_false_or_eq_true (bnot r1) with hb20 | hb20
    ·replace hL10 := cd_t hb20 hL10;simp [e1_0, e1_8, e1_9, e1_10, hb20, q12, a18.pre];apply hK;clear hK K;simp only [andThen, leaves];have S21 := S16.pick [] (by decide) rfl;obtain rfl := Option.some.inj hL10;exact ⟨S21, A17, by simp [e1_0, e1_8, e1_9, e1_10]⟩
    ·replace hL10 := cd_f hb20 hL10;rcases Bool.eq_false_or_eq_true (ieq (gat 0 x0 y1_10) y1_10) with hb22 | hb22
     ·replace hL10 := cd_t hb22 hL10;simp [e1_0, e1_8, e1_9, e1_10, hb20, hb22, q12, a18.pre];apply hK;clear hK K;simp only [andThen, leaves];have S23 := S16.pick [] (by decide) rfl;obtain rfl := Option.some.inj hL10;exact ⟨S23, A17, by simp [e1_0, e1_8, e1_9, e1_10]⟩
     ·replace hL10 := cd_f hb22 hL10;obtain ⟨g24, hL10⟩ := gd_some hL10;have q25 := idxG (P := Try.prog) (kk := .i64) (hx0.agree A17.agree) el_22 sz_3 g24;have q26 := loadG (P := Try.prog) (hx0.agree A17.agree) sz_3 ag_3 g24 0;simp [e1_0, e1_8, e1_9, e1_10, hb20, hb22, q12, a18.pre, q25, q26];apply hK;clear hK K;simp only [andThen, leaves];have S27 := S16.pick [] (by decide) rfl;obtain rfl := Option.some.inj hL10;exact ⟨S27, A17, by simp [e1_0, e1_8, e1_9, e1_10]⟩
   ·rintro env Gj28 ⟨Sj28, Aj28, ej28_0, ej28_8, ej28_9, ej28_10, ej28_33⟩;refine DWp.cond' (t := s9) (by simp [ej28_0, ej28_8, ej28_9, ej28_10, ej28_33]) (fun hb29 => ?_) (fun hb29 => ?_)
    ·replace hL3 := cd_t hb29 hL3;refine .sr fun K hK => ?_;simp [ej28_0, ej28_8, ej28_9, ej28_10, ej28_33];apply hK;clear hK K;refine DWp.ret ?_;simp only [andThen, leaves];obtain rfl := Option.some.inj hL3;simp only [lr] at hF;obtain rfl := Option.some.inj hF;exact ⟨by simp, [(Value.bool false)], by simp [ej28_0, ej28_8, ej28_9, ej28_10, ej28_33], Aj28, rfl, Sj28.pick [] (by decide) rfl⟩
    ·replace hL3 := cd_f hb29 hL3;refine DWp.skip ?_;simp only [andThen, leaves];refine .region fun K hK => ?_;simp [ej28_0, ej28_8, ej28_9, ej28_10, ej28_33];apply hK;clear hK K;simp only [andThen, leaves];have S30 := Sj28.pick [] (by decide) rfl;exact ⟨n1, Nat.lt_succ_self _, (iadd .i64 y1_10 1), hL3, S30, Aj28, by simp [ej28_0, ej28_8, ej28_9, ej28_10, ej28_33]⟩
  ·replace hL3 := cd_f hb5 hL3;refine DWp.exit ?_;simp only [andThen, leaves, if_true, if_false, reduceIte, Nat.reduceEqDiff];obtain rfl := Option.some.inj hL3;simp only [lr] at hF;refine .seq ?_;have q31 := lenG (P := Try.prog) (hx0.agree A1_.agree) el_22;refine .sr fun K hK => ?_;simp [e1_0, e1_8, e1_9, e1_10, q31];apply hK;clear hK K;refine .block ?_;obtain ⟨s32, hL33, hF⟩ := bd_some hF;have S34 := S1_.pick [] (by decide) rfl;refine DWp.loop (fun n env G => ∃ y2_37 : Int, F_impl_isSystem_L2 fu x0 (llen x0) n y2_37 = some s32 ∧ Sep G (Fr H) [] ∧ AgB (Fr H) H G ∧ env 0 = some v0 ∧ env 35 = some v0 ∧ env 36 = some (Value.int .i64 (llen x0)) ∧ env 37 = some (Value.int .i64 y2_37)) fu ⟨0, hL33, S34, A1_, by simp [e1_0, e1_8, e1_9, e1_10]⟩ ?_;rintro n1 env1 G1_ ⟨y2_37, hL33, S1_, A1_, e1_0, e1_35, e1_36, e1_37⟩;cases n1 with
   | zero => cases hL33
   | succ n1 =>
    simp only [F_impl_isSystem_L2] at hL33;refine .sr fun K hK => ?_;simp [e1_0, e1_35, e1_36, e1_37];apply hK;clear hK K;refine .seq ?_;refine DWp.cond' (t := (ilt y2_37 (llen x0))) (by simp [e1_0, e1_35, e1_36, e1_37]) (fun hb35 => ?_) (fun hb35 => ?_)
    ·replace hL33 := cd_t hb35 hL33;refine DWp.skip ?_;simp only [andThen, leaves];refine .seq ?_;refine .block ?_;obtain ⟨g36, hL33⟩ := gd_some hL33;have q37 := idxG (P := Try.prog) (kk := .i64) (hx0.agree A1_.agree) el_22 sz_3 g36;have q38 := loadG (P := Try.prog) (hx0.agree A1_.agree) sz_3 ag_3 g36 0;refine .sr fun K hK => ?_;simp [e1_0, e1_35, e1_36, e1_37, q37, q38];apply hK;clear hK K;refine .sr fun K hK => ?_;simp [e1_0, e1_35, e1_36, e1_37];apply hK;clear hK K;refine .block ?_;obtain ⟨s39, hL40, hL33⟩ := bd_some hL33;have S41 := S1_.pick [] (by decide) rfl;refine DWp.loop (fun n env G => ∃ y3_7 : Int, F_impl_isSystem_L3 fu x0 y2_37 (gat 0 x0 y2_37) (llen x0) n y3_7 = some s39 ∧ Sep G (Fr H) [] ∧ AgB (Fr H) H G ∧ env 0 = some v0 ∧ env 5 = some (Value.int .i64 y2_37) ∧ env 6 = some (Value.int .i64 (gat 0 x0 y2_37)) ∧ env 7 = some (Value.int .i64 y3_7) ∧ env 35 = some v0 ∧ env 36 = some (Value.int .i64 (llen x0)) ∧ env 37 = some (Value.int .i64 y2_37)) fu ⟨(iadd .i64 y2_37 1), hL40, S41, A1_, by simp [e1_0, e1_35, e1_36, e1_37]⟩ ?_;rintro n2 env2 G2_ ⟨y3_7, hL40, S2_, A2_, e2_0, e2_5, e2_6, e2_7, e2_35, e2_36, e2_37⟩;cases n2 with
     | zero => cases hL40
     | succ n2 =>
      simp only [F_impl_isSystem_L3] at hL40;refine .seq ?_;refine .sr fun K hK => ?_;simp [e2_0, e2_5, e2_6, e2_7, e2_35, e2_36, e2_37];apply hK;clear hK K;refine DWp.cond' (t := (ilt y3_7 (gat 0 x0 y2_37))) (by simp [e2_0, e2_5, e2_6, e2_7, e2_35, e2_36, e2_37]) (fun hb42 => ?_) (fun hb42 => ?_)
      ·replace hL40 := cd_t hb42 hL40;refine DWp.skip ?_;simp only [andThen, leaves];refine .seq ?_;refine .block ?_;obtain ⟨g43, hL40⟩ := gd_some hL40;have q44 := idxG (P := Try.prog) (kk := .i64) (hx0.agree A2_.agree) el_22 sz_3 g43;have q45 := loadG (P := Try.prog) (hx0.agree A2_.agree) sz_3 ag_3 g43 0;obtain ⟨r2, hc46, hL40⟩ := bd_some hL40;refine .sr fun K hK => ?_;simp [e2_0, e2_5, e2_6, e2_7, e2_35, e2_36, e2_37, q44, q45];refine CallD.t (F_impl_in_w (fu := fu)  hc46) ?_;rintro _ G48 ⟨a51, rfl, S52⟩;have A50 := A2_.ext (hB.le A2_.1) a51.agree;have S49 : Sep G48 (Fr H) [] := S2_.app a51.agree S52 (fun _ h => h) (hB.le A2_.1);simp [e2_0, e2_5, e2_6, e2_7, e2_35, e2_36, e2_37, q44, q45, a51.pre];apply hK;clear hK K;refine DWp.cond' (t := (bnot r2)) (by simp [e2_0, e2_5, e2_6, e2_7, e2_35, e2_36, e2_37]) (fun hb53 => ?_) (fun hb53 => ?_)
       ·replace hL40 := cd_t hb53 hL40;refine .sr fun K hK => ?_;simp [e2_0, e2_5, e2_6, e2_7, e2_35, e2_36, e2_37];apply hK;clear hK K;refine DWp.ret ?_;simp only [andThen, leaves];obtain rfl := Option.some.inj hL40;simp only [lr] at hL33;obtain rfl := Option.some.inj hL33;simp only [lr] at hF;obtain rfl := Option.some.inj hF;exact ⟨by simp, [(Value.bool false)], by simp [e2_0, e2_5, e2_6, e2_7, e2_35, e2_36, e2_37], A50, rfl, S49.pick [] (by decide) rfl⟩
       ·replace hL40 := cd_f hb53 hL40;refine DWp.skip ?_;simp only [andThen, leaves];refine .region fun K hK => ?_;simp [e2_0, e2_5, e2_6, e2_7, e2_35, e2_36, e2_37];apply hK;clear hK K;simp only [andThen, leaves];have S54 := S49.pick [] (by decide) rfl;exact ⟨n2, Nat.lt_succ_self _, (iadd .i64 y3_7 1), hL40, S54, A50, by simp [e2_0, e2_5, e2_6, e2_7, e2_35, e2_36, e2_37]⟩
      ·replace hL40 := cd_f hb42 hL40;refine DWp.exit ?_;simp only [andThen, leaves, if_true, if_false, reduceIte, Nat.reduceEqDiff];obtain rfl := Option.some.inj hL40;simp only [lr] at hL33;refine .region fun K hK => ?_;simp [e2_0, e2_5, e2_6, e2_7, e2_35, e2_36, e2_37];apply hK;clear hK K;simp only [andThen, leaves];have S55 := S2_.pick [] (by decide) rfl;exact ⟨n1, Nat.lt_succ_self _, (iadd .i64 y2_37 1), hL33, S55, A2_, by simp [e2_0, e2_5, e2_6, e2_7, e2_35, e2_36, e2_37]⟩
    ·replace hL33 := cd_f hb35 hL33;refine DWp.exit ?_;simp only [andThen, leaves, if_true, if_false, reduceIte, Nat.reduceEqDiff];obtain rfl := Option.some.inj hL33;simp only [lr] at hF;refine .sr fun K hK => ?_;simp [e1_0, e1_35, e1_36, e1_37];apply hK;clear hK K;refine DWp.ret ?_;obtain rfl := Option.some.inj hF;exact ⟨by simp, [(Value.bool true)], by simp [e1_0, e1_35, e1_36, e1_37], A1_, rfl, S1_.pick [] (by decide) rfl⟩
def F_impl_IsSystem (fu : Nat) (x0 : List Int) : Option (Bool) :=
  bif (ile (llen x0) 12) then
    bd (F_impl_isSystem fu x0) fun r1 =>
    some r1
  else
    some false
theorem F_impl_IsSystem_w {fu : Nat} {H : AH} {v0 : Value} {x0 : List Int} {r : (Bool)} (hx0 : Sl H v0 (ints x0)) (hF : F_impl_IsSystem fu x0 = some r) :
    ACallT Try.prog 134 [v0] H (fun u G => AgB (Fr H) H G ∧ u = (Value.bool r) ∧ Sep G (Fr H) []) := by
 refine ACallT.of_body (nt := 10) (rs := [.tmp 2]) Try.func134 rfl rfl rfl rfl ?_;have A0 : AgB (Fr H) H H := .refl _ _;have S0 : Sep H (Fr H) [] := .nil;have hB := Fr.up H;unfold F_impl_IsSystem at hF;refine .sr fun K hK => ?_;simp [];apply hK;clear hK K;have q1 := lenG (P := Try.prog) (hx0.agree A0.agree) el_22;rcases Bool.eq_false_or_eq_true (ile (llen x0) 12) with hb2 | hb2
 ·replace hF := cd_t hb2 hF;obtain ⟨r1, hc3, hF⟩ := bd_some hF;refine .sr fun K hK => ?_;simp [hb2, q1, ((hx0.agree A0.agree).tup)];refine CallD.t (F_impl_isSystem_w (fu := fu) (hx0.agree A0.agree) hc3) ?_;rintro _ G5 ⟨a8, rfl, S9⟩;have A7 := A0.ext (hB.le A0.1) a8.agree;have S6 : Sep G5 (Fr H) [] := S0.app a8.agree S9 (fun _ h => h) (hB.le A0.1);simp [hb2, q1, a8.pre];apply hK;clear hK K;refine DWp.ret ?_;obtain rfl := Option.some.inj hF;exact ⟨by simp, [(Value.bool r1)], by simp [], A7, rfl, S6.pick [] (by decide) rfl⟩
 ·replace hF := cd_f hb2 hF;refine .sr fun K hK => ?_;simp [hb2, q1];apply hK;clear hK K;refine DWp.ret ?_;obtain rfl := Option.some.inj hF;exact ⟨by simp, [(Value.bool false)], by simp [], A0, rfl, S0.pick [] (by decide) rfl⟩
def F_impl_IsPair (fu : Nat) (x0_0 : List Int) (x0_1 : List Int) : Option (Bool) :=
  bd (F_impl_IsSystem fu x0_0) fun r1 =>
  bif r1 then
    bd (F_impl_IsSystem fu x0_1) fun r2 =>
    bif r2 then
      some (ieq (llen x0_0) (llen x0_1))
    else
      some false
  else
    some false
theorem F_impl_IsPair_w {fu : Nat} {H : AH} {v0_0 : Value} {v0_1 : Value} {x0_0 : List Int} {x0_1 : List Int} {r : (Bool)} (hx0_0 : Sl H v0_0 (ints x0_0)) (hx0_1 : Sl H v0_1 (ints x0_1)) (hF : F_impl_IsPair fu x0_0 x0_1 = some r) :
    ACallT Try.prog 96 [(Value.agg #[v0_0, v0_1])] H (fun u G => AgB (Fr H) H G ∧ u = (Value.bool r) ∧ Sep G (Fr H) []) := by
 refine ACallT.of_body (nt := 20) (rs := [.tmp 2]) Try.func96 rfl rfl rfl rfl ?_;have A0 : AgB (Fr H) H H := .refl _ _;have S0 : Sep H (Fr H) [] := .nil;have hB := Fr.up H;unfold F_impl_IsPair at hF;obtain ⟨G2, p4, q5, q6, a7, S1⟩ := S0.boxT (hB.le A0.1) 28 [v0_0, v0_1];have A3 := A0.ext (hB.le A0.1) a7;replace S1 : Sep G2 (Fr H) [AL.box p4 [v0_0, v0_1]] := S1;refine .sr fun K hK => ?_;simp [q5, q6, a7.to_pre, cells_agg];apply hK;clear hK K;have q8 := S1.fieldT (P := Try.prog) (k := 0) rfl fa_28_0;have q9 := S1.loadF (P := Try.prog) (k := 0) rfl sz_22 ag_22 (off := 0) rfl;obtain ⟨r1, hc10, hF⟩ := bd_some hF;refine .sr fun K hK => ?_;simp [q8, q9, ((hx0_0.agree A3.agree).tup)];refine CallD.t (F_impl_IsSystem_w (fu := fu) (hx0_0.agree A3.agree) hc10) ?_;rintro _ G12 ⟨a15, rfl, S16⟩;have A14 := A3.ext (hB.le A3.1) a15.agree;have S13 : Sep G12 (Fr H) [AL.box p4 [v0_0, v0_1]] := S1.app a15.agree S16 (fun _ h => h) (hB.le A3.1);rcases Bool.eq_false_or_eq_true r1 with hb17 | hb17
 ·replace hF := cd_t hb17 hF;have q18 := S13.fieldT (P := Try.prog) (k := 0) rfl fa_28_1;have q19 := S13.loadF (P := Try.prog) (k := 0) rfl sz_22 ag_22 (off := 1) rfl;obtain ⟨r2, hc20, hF⟩ := bd_some hF;simp [hb17, q8, q9, a15.pre, q18, q19, ((hx0_1.agree A14.agree).tup)];refine CallD.t (F_impl_IsSystem_w (fu := fu) (hx0_1.agree A14.agree) hc20) ?_;rintro _ G22 ⟨a25, rfl, S26⟩;have A24 := A14.ext (hB.le A14.1) a25.agree;have S23 : Sep G22 (Fr H) [AL.box p4 [v0_0, v0_1]] := S13.app a25.agree S26 (fun _ h => h) (hB.le A14.1);rcases Bool.eq_false_or_eq_true r2 with hb27 | hb27
  ·replace hF := cd_t hb27 hF;have q28 := S23.fieldT (P := Try.prog) (k := 0) rfl fa_28_0;have q29 := S23.loadF (P := Try.prog) (k := 0) rfl sz_22 ag_22 (off := 0) rfl;have q30 := lenG (P := Try.prog) (hx0_0.agree A24.agree) el_22;have q31 := S23.fieldT (P := Try.prog) (k := 0) rfl fa_28_1;have q32 := S23.loadF (P := Try.prog) (k := 0) rfl sz_22 ag_22 (off := 1) rfl;have q33 := lenG (P := Try.prog) (hx0_1.agree A24.agree) el_22;simp [hb17, hb27, q8, q9, a15.pre, q18, q19, a25.pre, q28, q29, q30, q31, q32, q33];apply hK;clear hK K;refine DWp.ret ?_;obtain rfl := Option.some.inj hF;exact ⟨by simp, [(Value.bool (ieq (llen x0_0) (llen x0_1)))], by simp [], A24, rfl, S23.pick [] (by decide) rfl⟩
  ·replace hF := cd_f hb27 hF;simp [hb17, hb27, q8, q9, a15.pre, q18, q19, a25.pre];apply hK;clear hK K;refine DWp.ret ?_;obtain rfl := Option.some.inj hF;exact ⟨by simp, [(Value.bool false)], by simp [], A24, rfl, S23.pick [] (by decide) rfl⟩
 ·replace hF := cd_f hb17 hF;simp [hb17, q8, q9, a15.pre];apply hK;clear hK K;refine DWp.ret ?_;obtain rfl := Option.some.inj hF;exact ⟨by simp, [(Value.bool false)], by simp [], A14, rfl, S13.pick [] (by decide) rfl⟩
def F_impl_IsWhole (fu : Nat) (x0_0 : List Int) (x0_1 : List Int) : Option (Bool × Bool) :=
  bd (F_impl_IsPair fu x0_0 x0_1) fun r1 =>
  bif (bnot r1) then
    some (false, false)
  else
    bd (F_impl_Meander_isWhole fu x0_0 x0_1) fun r2 =>
    some (r2, true)
theorem F_impl_IsWhole_w {fu : Nat} {H : AH} {v0_0 : Value} {v0_1 : Value} {x0_0 : List Int} {x0_1 : List Int} {r : (Bool × Bool)} (hx0_0 : Sl H v0_0 (ints x0_0)) (hx0_1 : Sl H v0_1 (ints x0_1)) (hF : F_impl_IsWhole fu x0_0 x0_1 = some r) :
    ACallT Try.prog 27 [(Value.agg #[v0_0, v0_1])] H (fun u G => AgB (Fr H) H G ∧ u = (Value.tuple #[(Value.bool r.1), (Value.bool r.2)]) ∧ Sep G (Fr H) []) := by
 refine ACallT.of_body (nt := 9) (rs := [.tmp 2, .tmp 3]) Try.func27 rfl rfl rfl rfl ?_;have A0 : AgB (Fr H) H H := .refl _ _;have S0 : Sep H (Fr H) [] := .nil;have hB := Fr.up H;unfold F_impl_IsWhole at hF;obtain ⟨G2, p4, q5, q6, a7, S1⟩ := S0.boxT (hB.le A0.1) 28 [v0_0, v0_1];have A3 := A0.ext (hB.le A0.1) a7;replace S1 : Sep G2 (Fr H) [AL.box p4 [v0_0, v0_1]] := S1;refine .sr fun K hK => ?_;simp [q5, q6, a7.to_pre, cells_agg];apply hK;clear hK K;refine .seq ?_;have q8 := S1.loadAgg (P := Try.prog) (k := 0) rfl sz_28 ag_28 rfl;obtain ⟨r1, hc9, hF⟩ := bd_some hF;refine .sr fun K hK => ?_;simp [q8, ((hx0_0.agree A3.agree).tup), ((hx0_1.agree A3.agree).tup)];refine CallD.t (F_impl_IsPair_w (fu := fu) (hx0_0.agree A3.agree) (hx0_1.agree A3.agree) hc9) ?_;rintro _ G11 ⟨a14, rfl, S15⟩;have A13 := A3.ext (hB.le A3.1) a14.agree;have S12 : Sep G11 (Fr H) [AL.box p4 [v0_0, v0_1]] := S1.app a14.agree S15 (fun _ h => h) (hB.le A3.1);simp [q8, a14.pre];apply hK;clear hK K;refine DWp.cond' (t := (bnot r1)) (by simp []) (fun hb16 => ?_) (fun hb16 => ?_)
 ·replace hF := cd_t hb16 hF;refine .sr fun K hK => ?_;simp [];apply hK;clear hK K;refine DWp.ret ?_;simp only [andThen, leaves];obtain rfl := Option.some.inj hF;exact ⟨by simp, [(Value.bool false), (Value.bool false)], by simp [], A13, rfl, S12.pick [] (by decide) rfl⟩
 ·replace hF := cd_f hb16 hF;refine DWp.skip ?_;simp only [andThen, leaves];have q17 := S12.loadAgg (P := Try.prog) (k := 0) rfl sz_28 ag_28 rfl;obtain ⟨r2, hc18, hF⟩ := bd_some hF;refine .sr fun K hK => ?_;simp [q17, ((hx0_0.agree A13.agree).tup), ((hx0_1.agree A13.agree).tup)];refine CallD.t (F_impl_Meander_isWhole_w (fu := fu) (hx0_0.agree A13.agree) (hx0_1.agree A13.agree) hc18) ?_;rintro _ G20 ⟨a23, rfl, S24⟩;have A22 := A13.ext (hB.le A13.1) a23.agree;have S21 : Sep G20 (Fr H) [AL.box p4 [v0_0, v0_1]] := S12.app a23.agree S24 (fun _ h => h) (hB.le A13.1);simp [q17, a23.pre];apply hK;clear hK K;refine DWp.ret ?_;obtain rfl := Option.some.inj hF;exact ⟨by simp, [(Value.bool r2), (Value.bool true)], by simp [], A22, rfl, S21.pick [] (by decide) rfl⟩
def F_spec_siShortest_L1 (fu : Nat) (k1_0 : Bool) (k1_1 : List (List Int)) (k1_2 : Int) : Nat → Int → Int → Option (Int × Int)
  | 0, _, _ => none
  | n + 1, y1_5, y1_11 =>
    bif (ilt y1_11 k1_2) then
      gd (inL k1_1 y1_11) (
      bd (
        bif (ieq (llen (rnL k1_1 y1_5)) 0) then
          some true
        else
          gd (inL (gat [] k1_1 y1_11) 1) (
          gd (inL (gat [] k1_1 y1_11) 0) (
          gd (inL (rnL k1_1 y1_5) 1) (
          gd (inL (rnL k1_1 y1_5) 0) (
          bif (ilt (isub .i64 (gat 0 (gat [] k1_1 y1_11) 1) (gat 0 (gat [] k1_1 y1_11) 0)) (isub .i64 (gat 0 (rnL k1_1 y1_5) 1) (gat 0 (rnL k1_1 y1_5) 0))) then
            some true
          else
            bif k1_0 then
              gd (inL (gat [] k1_1 y1_11) 1) (
              gd (inL (gat [] k1_1 y1_11) 0) (
              gd (inL (rnL k1_1 y1_5) 1) (
              gd (inL (rnL k1_1 y1_5) 0) (
              some (ieq (isub .i64 (gat 0 (gat [] k1_1 y1_11) 1) (gat 0 (gat [] k1_1 y1_11) 0)) (isub .i64 (gat 0 (rnL k1_1 y1_5) 1) (gat 0 (rnL k1_1 y1_5) 0)))))))
            else
              some false))))) fun s24 =>
      bif s24 then
        F_spec_siShortest_L1 fu k1_0 k1_1 k1_2 n y1_11 (iadd .i64 y1_11 1)
      else
        F_spec_siShortest_L1 fu k1_0 k1_1 k1_2 n y1_5 (iadd .i64 y1_11 1))
    else
      some (y1_5, y1_11)
def F_spec_siShortest (fu : Nat) (x0_0 : List Int) (x0_1 : List Int) (x1 : Bool) : Option (List Int) :=
  bd (F_spec_siAll fu x0_0 x0_1) fun r1 =>
  bd (F_spec_siShortest_L1 fu x1 r1 (llen r1) fu (-1) 0) fun s1 =>
  bif (ilt s1.1 0) then
    some []
  else
    gd ((gat [] r1 s1.1) ≠ []) (
    some (gat [] r1 s1.1))
theorem F_spec_siShortest_w {fu : Nat} {H : AH} {v0_0 : Value} {v0_1 : Value} {x0_0 : List Int} {x0_1 : List Int} {x1 : Bool} {r : (List Int)} (hx0_0 : Sl H v0_0 (ints x0_0)) (hx0_1 : Sl H v0_1 (ints x0_1)) (hF : F_spec_siShortest fu x0_0 x0_1 x1 = some r) :
    ACallT Try.prog 98 [(Value.agg #[v0_0, v0_1]), (Value.bool x1)] H (fun u G => AgB (Fr H) H G ∧ ∃ u0 : Value, u = u0 ∧ Sep G (Fr H) [flat u0 3 (ints r)]) := by
 refine ACallT.of_body (nt := 58) (rs := [.tmp 4]) Try.func98 rfl rfl rfl rfl ?_;have A0 : AgB (Fr H) H H := .refl _ _;have S0 : Sep H (Fr H) [] := .nil;have hB := Fr.up H;unfold F_spec_siShortest at hF;obtain ⟨G2, p4, q5, q6, a7, S1⟩ := S0.boxT (hB.le A0.1) 28 [v0_0, v0_1];have A3 := A0.ext (hB.le A0.1) a7;replace S1 : Sep G2 (Fr H) [AL.box p4 [v0_0, v0_1]] := S1;refine .sr fun K hK => ?_;simp [q5, q6, a7.to_pre, cells_agg];apply hK;clear hK K;refine .sr fun K hK => ?_;simp [];apply hK;clear hK K;refine .seq ?_;have q8 := S1.loadAgg (P := Try.prog) (k := 0) rfl sz_28 ag_28 rfl;obtain ⟨r1, hc9, hF⟩ := bd_some hF;refine .sr fun K hK => ?_;simp [q8, ((hx0_0.agree A3.agree).tup), ((hx0_1.agree A3.agree).tup)];refine CallD.t (F_spec_siAll_w (fu := fu) (hx0_0.agree A3.agree) (hx0_1.agree A3.agree) hc9) ?_;rintro c10_u0 G11 ⟨a14, _, c10_C0, rfl, S15⟩;have A13 := A3.ext (hB.le A3.1) a14.agree;have S12 : Sep G11 (Fr H) [AL.box p4 [v0_0, v0_1], rowsC c10_u0 22 3 c10_C0 (List.map ints r1)] := S1.app a14.agree S15 (fun _ h => h) (hB.le A3.1);have q16 := (S12.rd (k := 1) rfl).lenG (P := Try.prog) el_36;simp [q8, a14.pre, q16];apply hK;clear hK K;refine .block ?_;obtain ⟨s17, hL18, hF⟩ := bd_some hF;have S19 := S12.pick [1] (by decide) rfl;refine DWp.loop (fun n env G => ∃ y1_5 : Int, ∃ y1_11 : Int, F_spec_siShortest_L1 fu x1 r1 (llen r1) n y1_5 y1_11 = some s17 ∧ Sep G (Fr H) [rowsC c10_u0 22 3 c10_C0 (List.map ints r1)] ∧ AgB (Fr H) H G ∧ (ilt y1_5 0 = true ∨ inL r1 y1_5) ∧ env 1 = some (Value.bool x1) ∧ env 5 = some (rnV c10_C0 y1_5) ∧ env 9 = some c10_u0 ∧ env 10 = some (Value.int .i64 (llen r1)) ∧ env 11 = some (Value.int .i64 y1_11)) fu ⟨(-1), 0, hL18, S19, A13, .inl rfl, by simp []⟩ ?_;rintro n1 env1 G1_ ⟨y1_5, y1_11, hL18, S1_, A1_, hrn_y1_5, e1_1, e1_5, e1_9, e1_10, e1_11⟩
 cases n1 with
 | zero => cases hL18
 | succ n1 =>
  simp only [F_spec_siShortest_L1] at hL18;refine .sr fun K hK => ?_;simp [e1_1, e1_5, e1_9, e1_10, e1_11];apply hK;clear hK K;refine .seq ?_;refine DWp.cond' (t := (ilt y1_11 (llen r1))) (by simp [e1_1, e1_5, e1_9, e1_10, e1_11]) (fun hb20 => ?_) (fun hb20 => ?_)
  ·replace hL18 := cd_t hb20 hL18;refine DWp.skip ?_;simp only [andThen, leaves];refine .seq ?_;refine .block ?_;obtain ⟨g21, hL18⟩ := gd_some hL18;have q22 := (S1_.rd (k := 0) rfl).idxG (P := Try.prog) (kk := .i64) el_36 sz_22 g21;have q23 := (S1_.rd (k := 0) rfl).loadG (P := Try.prog) sz_22 ag_22 g21;refine .sr fun K hK => ?_;simp [e1_1, e1_5, e1_9, e1_10, e1_11, q22, q23];apply hK;clear hK K;obtain ⟨s24, hL25, hL18⟩ := bd_some hL18;refine DWp.seq (DWp.join (fun env G => Sep G (Fr H) [rowsC c10_u0 22 3 c10_C0 (List.map ints r1)] ∧ AgB (Fr H) H G ∧ env 1 = some (Value.bool x1) ∧ env 5 = some (rnV c10_C0 y1_5) ∧ env 7 = some (gat nilV c10_C0 y1_11) ∧ env 9 = some c10_u0 ∧ env 10 = some (Value.int .i64 (llen r1)) ∧ env 11 = some (Value.int .i64 y1_11) ∧ env 54 = some (Value.bool s24)) ?_ ?_)
   ·
    have q27 := lenG (P := Try.prog) (rn_sl (S1_.rd (k := 0) rfl) hrn_y1_5) el_22;rcases Bool.eq_false_or_eq_true (ieq (llen (rnL r1 y1_5)) 0) with hb28 | hb28
    ·replace hL25 := cd_t hb28 hL25;refine .drawn (B := [0, 1, 3, 7, 15, 31, 63, 15, 143, 399, 1023, 15, 2063, 6159, 15, 16399, 49167, 129039, 262143, 524287, 1048575, 2097151, 4194303, 8388607, 16777215, 33554431, 8388607, 75497471, 209715199, 536870911, 8388607, 1082130431, 3229614079, 8388607, 8598323199, 25778192383, 67654123519, 137438953471, 274877906943, 549755813887]) 40 mixed (by kernel_rfl) (by decide) fun K hK => ?_;simp [e1_1, e1_5, e1_9, e1_10, e1_11, hb28, q27, undef];apply hK;clear hK K;simp only [andThen, leaves];have S29 := S1_.pick [0] (by decide) rfl;obtain rfl := Option.some.inj hL25;exact ⟨S29, A1_, by simp [e1_1, e1_5, e1_9, e1_10, e1_11]⟩
    ·replace hL25 := cd_f hb28 hL25;obtain ⟨g30, hL25⟩ := gd_some hL25;have q31 := idxG (P := Try.prog) (kk := .i64) ((S1_.rd (k := 0) rfl).rowAt [] g21) el_22 sz_3 g30;replace q31 : aIndexAddr Try.prog G1_ 22 (gat nilV c10_C0 y1_11) (Value.int .i64 1) = some (elP (gat nilV c10_C0 y1_11) 1) := q31;have q32 := loadG (P := Try.prog) ((S1_.rd (k := 0) rfl).rowAt [] g21) sz_3 ag_3 g30 0;replace q32 : aLoad Try.prog G1_ 3 (elP (gat nilV c10_C0 y1_11) 1) = some (Value.int .i64 (gat 0 (gat [] r1 y1_11) 1)) := q32;obtain ⟨g33, hL25⟩ := gd_some hL25;have q34 := idxG (P := Try.prog) (kk := .i64) ((S1_.rd (k := 0) rfl).rowAt [] g21) el_22 sz_3 g33;replace q34 : aIndexAddr Try.prog G1_ 22 (gat nilV c10_C0 y1_11) (Value.int .i64 0) = some (elP (gat nilV c10_C0 y1_11) 0) := q34;have q35 := loadG (P := Try.prog) ((S1_.rd (k := 0) rfl).rowAt [] g21) sz_3 ag_3 g33 0;replace q35 : aLoad Try.prog G1_ 3 (elP (gat nilV c10_C0 y1_11) 0) = some (Value.int .i64 (gat 0 (gat [] r1 y1_11) 0)) := q35;obtain ⟨g36, hL25⟩ := gd_some hL25;have q37 := idxG (P := Try.prog) (kk := .i64) (rn_sl (S1_.rd (k := 0) rfl) hrn_y1_5) el_22 sz_3 g36;replace q37 : aIndexAddr Try.prog G1_ 22 (rnV c10_C0 y1_5) (Value.int .i64 1) = some (elP (rnV c10_C0 y1_5) 1) := q37;have q38 := loadG (P := Try.prog) (rn_sl (S1_.rd (k := 0) rfl) hrn_y1_5) sz_3 ag_3 g36 0;replace q38 : aLoad Try.prog G1_ 3 (elP (rnV c10_C0 y1_5) 1) = some (Value.int .i64 (gat 0 (rnL r1 y1_5) 1)) := q38;obtain ⟨g39, hL25⟩ := gd_some hL25;have q40 := idxG (P := Try.prog) (kk := .i64) (rn_sl (S1_.rd (k := 0) rfl) hrn_y1_5) el_22 sz_3 g39;replace q40 : aIndexAddr Try.prog G1_ 22 (rnV c10_C0 y1_5) (Value.int .i64 0) = some (elP (rnV c10_C0 y1_5) 0) := q40;have q41 := loadG (P := Try.prog) (rn_sl (S1_.rd (k := 0) rfl) hrn_y1_5) sz_3 ag_3 g39 0
     replace q41 : aLoad Try.prog G1_ 3 (elP (rnV c10_C0 y1_5) 0) = some (Value.int .i64 (gat 0 (rnL r1 y1_5) 0)) := q41;rcases Bool.eq_false_or_eq_true (ilt (isub .i64 (gat 0 (gat [] r1 y1_11) 1) (gat 0 (gat [] r1 y1_11) 0)) (isub .i64 (gat 0 (rnL r1 y1_5) 1) (gat 0 (rnL r1 y1_5) 0))) with hb42 | hb42
     ·replace hL25 := cd_t hb42 hL25;refine .drawn (B := [0, 1, 3, 7, 15, 31, 63, 15, 143, 399, 1023, 15, 2063, 6159, 15, 16399, 49167, 129039, 262143, 524287, 1048575, 2097151, 4194303, 8388607, 16777215, 33554431, 8388607, 75497471, 209715199, 536870911, 8388607, 1082130431, 3229614079, 8388607, 8598323199, 25778192383, 67654123519, 137438953471, 274877906943, 549755813887]) 40 mixed (by kernel_rfl) (by decide) fun K hK => ?_;simp [e1_1, e1_5, e1_9, e1_10, e1_11, hb28, hb42, q27, q31, q32, q34, q35, q37, q38, q40, q41, undef];apply hK;clear hK K;simp only [andThen, leaves];have S43 := S1_.pick [0] (by decide) rfl;obtain rfl := Option.some.inj hL25;exact ⟨S43, A1_, by simp [e1_1, e1_5, e1_9, e1_10, e1_11]⟩
     ·replace hL25 := cd_f hb42 hL25;rcases Bool.eq_false_or_eq_true x1 with hb44 | hb44
      ·replace hL25 := cd_t hb44 hL25;obtain ⟨g45, hL25⟩ := gd_some hL25;have q46 := idxG (P := Try.prog) (kk := .i64) ((S1_.rd (k := 0) rfl).rowAt [] g21) el_22 sz_3 g45;replace q46 : aIndexAddr Try.prog G1_ 22 (gat nilV c10_C0 y1_11) (Value.int .i64 1) = some (elP (gat nilV c10_C0 y1_11) 1) := q46;have q47 := loadG (P := Try.prog) ((S1_.rd (k := 0) rfl).rowAt [] g21) sz_3 ag_3 g45 0;replace q47 : aLoad Try.prog G1_ 3 (elP (gat nilV c10_C0 y1_11) 1) = some (Value.int .i64 (gat 0 (gat [] r1 y1_11) 1)) := q47;obtain ⟨g48, hL25⟩ := gd_some hL25;have q49 := idxG (P := Try.prog) (kk := .i64) ((S1_.rd (k := 0) rfl).rowAt [] g21) el_22 sz_3 g48;replace q49 : aIndexAddr Try.prog G1_ 22 (gat nilV c10_C0 y1_11) (Value.int .i64 0) = some (elP (gat nilV c10_C0 y1_11) 0) := q49;have q50 := loadG (P := Try.prog) ((S1_.rd (k := 0) rfl).rowAt [] g21) sz_3 ag_3 g48 0;replace q50 : aLoad Try.prog G1_ 3 (elP (gat nilV c10_C0 y1_11) 0) = some (Value.int .i64 (gat 0 (gat [] r1 y1_11) 0)) := q50;obtain ⟨g51, hL25⟩ := gd_some hL25;have q52 := idxG (P := Try.prog) (kk := .i64) (rn_sl (S1_.rd (k := 0) rfl) hrn_y1_5) el_22 sz_3 g51;replace q52 : aIndexAddr Try.prog G1_ 22 (rnV c10_C0 y1_5) (Value.int .i64 1) = some (elP (rnV c10_C0 y1_5) 1) := q52;have q53 := loadG (P := Try.prog) (rn_sl (S1_.rd (k := 0) rfl) hrn_y1_5) sz_3 ag_3 g51 0;replace q53 : aLoad Try.prog G1_ 3 (elP (rnV c10_C0 y1_5) 1) = some (Value.int .i64 (gat 0 (rnL r1 y1_5) 1)) := q53;obtain ⟨g54, hL25⟩ := gd_some hL25;have q55 := idxG (P := Try.prog) (kk := .i64) (rn_sl (S1_.rd (k := 0) rfl) hrn_y1_5) el_22 sz_3 g54;replace q55 : aIndexAddr Try.prog G1_ 22 (rnV c10_C0 y1_5) (Value.int .i64 0) = some (elP (rnV c10_C0 y1_5) 0) := q55;have q56 := loadG (P := Try.prog) (rn_sl (S1_.rd (k := 0) rfl) hrn_y1_5) sz_3 ag_3 g54 0
       replace q56 : aLoad Try.prog G1_ 3 (elP (rnV c10_C0 y1_5) 0) = some (Value.int .i64 (gat 0 (rnL r1 y1_5) 0)) := q56;refine .drawn (B := [0, 1, 3, 7, 15, 31, 63, 15, 143, 399, 1023, 15, 2063, 6159, 15, 16399, 49167, 129039, 262143, 524287, 1048575, 2097151, 4194303, 8388607, 16777215, 33554431, 8388607, 75497471, 209715199, 536870911, 8388607, 1082130431, 3229614079, 8388607, 8598323199, 25778192383, 67654123519, 137438953471, 274877906943, 549755813887]) 40 mixed (by kernel_rfl) (by decide) fun K hK => ?_;simp [e1_1, e1_5, e1_9, e1_10, e1_11, hb28, hb42, hb44, q27, q31, q32, q34, q35, q37, q38, q40, q41, q46, q47, q49, q50, q52, q53, q55, q56];apply hK;clear hK K;simp only [andThen, leaves];have S57 := S1_.pick [0] (by decide) rfl;obtain rfl := Option.some.inj hL25;exact ⟨S57, A1_, by simp [e1_1, e1_5, e1_9, e1_10, e1_11]⟩
      ·replace hL25 := cd_f hb44 hL25;refine .drawn (B := [0, 1, 3, 7, 15, 31, 63, 15, 143, 399, 1023, 15, 2063, 6159, 15, 16399, 49167, 129039, 262143, 524287, 1048575, 2097151, 4194303, 8388607, 16777215, 33554431, 8388607, 75497471, 209715199, 536870911, 8388607, 1082130431, 3229614079, 8388607, 8598323199, 25778192383, 67654123519, 137438953471, 274877906943, 549755813887]) 40 mixed (by kernel_rfl) (by decide) fun K hK => ?_;simp [e1_1, e1_5, e1_9, e1_10, e1_11, hb28, hb42, hb44, q27, q31, q32, q34, q35, q37, q38, q40, q41];apply hK;clear hK K;simp only [andThen, leaves];have S58 := S1_.pick [0] (by decide) rfl;obtain rfl := Option.some.inj hL25;exact ⟨S58, A1_, by simp [e1_1, e1_5, e1_9, e1_10, e1_11]⟩
   ·rintro env Gj59 ⟨Sj59, Aj59, ej59_1, ej59_5, ej59_7, ej59_9, ej59_10, ej59_11, ej59_54⟩;refine DWp.cond' (t := s24) (by simp [ej59_1, ej59_5, ej59_7, ej59_9, ej59_10, ej59_11, ej59_54]) (fun hb60 => ?_) (fun hb60 => ?_)
    ·replace hL18 := cd_t hb60 hL18;refine .region fun K hK => ?_;simp [ej59_1, ej59_5, ej59_7, ej59_9, ej59_10, ej59_11, ej59_54];apply hK;clear hK K;simp only [andThen, leaves];refine .region fun K hK => ?_;simp [ej59_1, ej59_5, ej59_7, ej59_9, ej59_10, ej59_11, ej59_54];apply hK;clear hK K;simp only [andThen, leaves];have S61 := Sj59.pick [0] (by decide) rfl;have q62 := rnV_in (C := c10_C0) g21;exact ⟨n1, Nat.lt_succ_self _, y1_11, (iadd .i64 y1_11 1), hL18, S61, Aj59, .inr g21, by simp [ej59_1, ej59_5, ej59_7, ej59_9, ej59_10, ej59_11, ej59_54, q62]⟩
    ·replace hL18 := cd_f hb60 hL18;refine DWp.skip ?_;simp only [andThen, leaves];refine .region fun K hK => ?_;simp [ej59_1, ej59_5, ej59_7, ej59_9, ej59_10, ej59_11, ej59_54];apply hK;clear hK K;simp only [andThen, leaves];have S63 := Sj59.pick [0] (by decide) rfl;exact ⟨n1, Nat.lt_succ_self _, y1_5, (iadd .i64 y1_11 1), hL18, S63, Aj59, hrn_y1_5, by simp [ej59_1, ej59_5, ej59_7, ej59_9, ej59_10, ej59_11, ej59_54]⟩
  ·replace hL18 := cd_f hb20 hL18;refine DWp.exit ?_;simp only [andThen, leaves, if_true, if_false, reduceIte, Nat.reduceEqDiff];obtain rfl := Option.some.inj hL18;try dsimp only at hF
   refine .sr fun K hK => ?_;simp [e1_1, e1_5, e1_9, e1_10, e1_11];apply hK;clear hK K;refine DWp.ret ?_;rcases Bool.eq_false_or_eq_true (ilt y1_5 0) with hb64 | hb64
   ·replace hF := cd_t hb64 hF;have q65 : rnV c10_C0 y1_5 = .slice none 0 0 := rnV_t hb64;have S66 := S1_.nilItem (hB.le A1_.1) 3;obtain rfl := Option.some.inj hF;exact ⟨by simp, [(Value.slice none 0 0)], by simp [e1_1, e1_5, e1_9, e1_10, e1_11, q65], A1_, (Value.slice none 0 0), rfl, S66.pick [1] (by decide) rfl⟩
   ·replace hF := cd_f hb64 hF;have g68 := hrn_y1_5.resolve_left (by rw [hb64]; decide);have q67 : rnV c10_C0 y1_5 = gat nilV c10_C0 y1_5 := rnV_f hb64;obtain ⟨g69, hF⟩ := gd_some hF;have S70 : Sep G1_ (Fr H) [rowsX c10_u0 22 3 c10_C0 (List.map ints r1) (y1_5).toNat, flat (gat nilV c10_C0 y1_5) 3 (ints (gat [] r1 y1_5))] := S1_.rowOut (fr := ints) (k := 0) rfl [] g68;obtain rfl := Option.some.inj hF;exact ⟨by simp, [(gat nilV c10_C0 y1_5)], by simp [e1_1, e1_5, e1_9, e1_10, e1_11, q67, (((S1_.rd (k := 0) rfl).rowAt [] g68).tup)], A1_, (gat nilV c10_C0 y1_5), rfl, S70.pick [1] (by decide) rfl⟩
def F_spec_siInner_L1 (fu : Nat) (k1_0 : Int) (k1_1 : List Int) (k1_2 : List Int) (k1_3 : Int) : Nat → List Int → Int → Option (List Int × Int)
  | 0, _, _ => none
  | n + 1, l1_0, y1_16 =>
    bif (ilt y1_16 k1_3) then
      gd (inL k1_1 y1_16) (
      gd (l1_0.length + [(isub .i64 (gat 0 k1_1 y1_16) k1_0)].length ≤ 4294967296) (
      F_spec_siInner_L1 fu k1_0 k1_1 k1_2 k1_3 n (lapp l1_0 [(isub .i64 (gat 0 k1_1 y1_16) k1_0)]) (iadd .i64 y1_16 1)))
    else
      some (l1_0, y1_16)
def F_spec_siInner (fu : Nat) (x0 : List Int) (x1 : Int) (x2 : Int) : Option (List Int) :=
  gd (subL x0 x1 (iadd .i64 x2 1)) (
  bd (F_spec_siInner_L1 fu x1 (lsub x0 x1 (iadd .i64 x2 1)) x0 (llen (lsub x0 x1 (iadd .i64 x2 1))) fu (@List.nil Int) 0) fun s1 =>
  some s1.1)
theorem F_spec_siInner_w {fu : Nat} {H : AH} {v0 : Value} {x0 : List Int} {x1 : Int} {x2 : Int} {r : (List Int)} (hx0 : Sl H v0 (ints x0)) (hF : F_spec_siInner fu x0 x1 x2 = some r) :
    ACallT Try.prog 135 [v0, (Value.int .i64 x1), (Value.int .i64 x2)] H (fun u G => AgB (Fr H) H G ∧ ∃ u0 : Value, u = u0 ∧ Sep G (Fr H) [flat u0 3 (ints r)]) := by
 refine ACallT.of_body (nt := 28) (rs := [.tmp 6]) Try.func135 rfl rfl rfl rfl ?_;have A0 : AgB (Fr H) H H := .refl _ _;have S0 : Sep H (Fr H) [] := .nil;have hB := Fr.up H;unfold F_spec_siInner at hF;refine .sr fun K hK => ?_;simp [];apply hK;clear hK K;refine .sr fun K hK => ?_;simp [];apply hK;clear hK K;refine .seq ?_;obtain ⟨g1, hF⟩ := gd_some hF;have q2 := aSub11 (P := Try.prog) (t := 22) (hx0.agree A0.agree) el_22 sz_3 g1;have q3 := lenG (P := Try.prog) (subSl (hx0.agree A0.agree) g1) el_22;refine .sr fun K hK => ?_;simp [q2, ((subSl (hx0.agree A0.agree) g1).tup), q3];apply hK;clear hK K;refine .block ?_;have S4 := S0.nilItem (hB.le A0.1) 3;obtain ⟨s5, hL6, hF⟩ := bd_some hF;have S7 := S4.pick [0] (by decide) rfl;refine DWp.loop (fun n env G => ∃ l1_0 : List Int, ∃ y1_16 : Int, ∃ w1_0 : Value, F_spec_siInner_L1 fu x1 (lsub x0 x1 (iadd .i64 x2 1)) x0 (llen (lsub x0 x1 (iadd .i64 x2 1))) n l1_0 y1_16 = some s5 ∧ Sep G (Fr H) [flat w1_0 3 (ints l1_0)] ∧ AgB (Fr H) H G ∧ env 1 = some (Value.int .i64 x1) ∧ env 7 = some w1_0 ∧ env 14 = some (subV v0 x1 (iadd .i64 x2 1)) ∧ env 15 = some (Value.int .i64 (llen (lsub x0 x1 (iadd .i64 x2 1)))) ∧ env 16 = some (Value.int .i64 y1_16)) fu ⟨(@List.nil Int), 0, (Value.slice none 0 0), hL6, S7, A0, by simp []⟩ ?_;rintro n1 env1 G1_ ⟨l1_0, y1_16, w1_0, hL6, S1_, A1_, e1_1, e1_7, e1_14, e1_15, e1_16⟩;cases n1 with
 | zero => cases hL6
 | succ n1 =>
  simp only [F_spec_siInner_L1] at hL6;refine .sr fun K hK => ?_;simp [e1_1, e1_7, e1_14, e1_15, e1_16];apply hK;clear hK K;refine .seq ?_;refine DWp.cond' (t := (ilt y1_16 (llen (lsub x0 x1 (iadd .i64 x2 1))))) (by simp [e1_1, e1_7, e1_14, e1_15, e1_16]) (fun hb8 => ?_) (fun hb8 => ?_)
  ·replace hL6 := cd_t hb8 hL6;refine DWp.skip ?_;simp only [andThen, leaves];refine .seq ?_;refine .block ?_;obtain ⟨g9, hL6⟩ := gd_some hL6;have q10 := idxG (P := Try.prog) (kk := .i64) (subSl (hx0.agree A1_.agree) g1) el_22 sz_3 g9;have q11 := loadG (P := Try.prog) (subSl (hx0.agree A1_.agree) g1) sz_3 ag_3 g9 0;refine .sr fun K hK => ?_;simp [e1_1, e1_7, e1_14, e1_15, e1_16, q10, q11];apply hK;clear hK K;obtain ⟨v12, G13, q14, S15, a17, _, _⟩ := S1_.lit1 (P := Try.prog) (t := 22) (hB.le A1_.1) el_22 ei_3 rfl (Value.int .i64 (isub .i64 (gat 0 (lsub x0 x1 (iadd .i64 x2 1)) y1_16) x1)) rfl rfl;have A16 := A1_.ext (hB.le A1_.1) a17;replace S15 : Sep G13 (Fr H) [flat w1_0 3 (ints l1_0), flat1 v12 3 (ints [(isub .i64 (gat 0 (lsub x0 x1 (iadd .i64 x2 1)) y1_16) x1)])] := S15;obtain ⟨g19, hL6⟩ := gd_some hL6;obtain ⟨v25, G20, q21, S22, a24, _, _⟩ := S15.appendG (f := (Value.int .i64)) (xs := l1_0) (ys := [(isub .i64 (gat 0 (lsub x0 x1 (iadd .i64 x2 1)) y1_16) x1)]) (P := Try.prog) (t := 22) (t2 := 22) (k := 0) rfl (hB.le A16.1) el_22 el_22 ei_3 rfl (S15.sl1 (k := 1) rfl) g19;have A23 := A16.trans a24;replace S22 : Sep G20 (Fr H) [flat v25 3 (ints (lapp l1_0 [(isub .i64 (gat 0 (lsub x0 x1 (iadd .i64 x2 1)) y1_16) x1)])), flat1 v12 3 (ints [(isub .i64 (gat 0 (lsub x0 x1 (iadd .i64 x2 1)) y1_16) x1)])] := S22;refine .region fun K hK => ?_;simp [e1_1, e1_7, e1_14, e1_15, e1_16, q14, a17.to_pre, q21];apply hK;clear hK K;simp only [andThen, leaves];refine .region fun K hK => ?_;simp [e1_1, e1_7, e1_14, e1_15, e1_16];apply hK;clear hK K;simp only [andThen, leaves];have S26 := S22.pick [0] (by decide) rfl
   exact ⟨n1, Nat.lt_succ_self _, (lapp l1_0 [(isub .i64 (gat 0 (lsub x0 x1 (iadd .i64 x2 1)) y1_16) x1)]), (iadd .i64 y1_16 1), v25, hL6, S26, A23, by simp [e1_1, e1_7, e1_14, e1_15, e1_16]⟩
  ·replace hL6 := cd_f hb8 hL6;refine DWp.exit ?_;simp only [andThen, leaves, if_true, if_false, reduceIte, Nat.reduceEqDiff];obtain rfl := Option.some.inj hL6;try dsimp only at hF
   refine .sr fun K hK => ?_;simp [e1_1, e1_7, e1_14, e1_15, e1_16];apply hK;clear hK K;refine DWp.ret ?_;obtain rfl := Option.some.inj hF;exact ⟨by simp, [w1_0], by simp [e1_1, e1_7, e1_14, e1_15, e1_16, ((S1_.sl (k := 0) rfl).tup)], A1_, w1_0, rfl, S1_.pick [0] (by decide) rfl⟩
end Go.Proofs.Ytbckijeffiofdaa.AL

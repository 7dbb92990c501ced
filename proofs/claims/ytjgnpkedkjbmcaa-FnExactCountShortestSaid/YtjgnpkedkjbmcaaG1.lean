/- The walks of functions, each with its Lean function: impl.in, impl.isSystem, impl.IsSystem, impl.IsPair, impl.isExchanged, bits.Mul32, bits.Mul64, bits.Mul, slices.Repeat[[]int,int], impl.Meander).way. No condition. -/
import Derived.Test.YtjgnpkedkjbmcaaALD
import Derived.Test.YtjgnpkedkjbmcaaProg
import Derived.KernelRfl
namespace Go.Proofs.Ytjgnpkedkjbmcaa.AL
open Go Go.RowKit
set_option linter.unusedVariables false
set_option linter.unusedSimpArgs false
set_option maxRecDepth 4096
attribute [local simp] n_fn b_add b_sub b_mul b_lt b_le b_gt b_ge b_eq b_ne u_not
theorem mixed : Try.prog.follows .mixedOrders = true := by kernel_rfl
theorem ag_22 : aggT Try.prog 22 = some false := by kernel_rfl
theorem ag_3 : aggT Try.prog 3 = some false := by kernel_rfl
theorem ei_3 : einfo Try.prog 3 = some ⟨1, 8, .int .i64 0⟩ := by kernel_rfl
theorem el_22 : elemT Try.prog 22 = some 3 := by kernel_rfl
theorem fa_35_0 : fldT Try.prog 35 0 = some 0 := by kernel_rfl
theorem fa_35_1 : fldT Try.prog 35 1 = some 1 := by kernel_rfl
theorem pl_35 : placeT Try.prog 35 = some (.agg #[.slice none 0 0, .slice none 0 0], fun i => [(0, 1), (1, 1)].toArray[i]?) := by kernel_rfl
theorem sz_22 : sizeT Try.prog 22 = some 1 := by kernel_rfl
theorem sz_3 : sizeT Try.prog 3 = some 1 := by kernel_rfl
theorem un_3 : Try.prog.underlying 3 = some (.int .i64) := by kernel_rfl
theorem un_50 : Try.prog.underlying 50 = some (.int .u64) := by kernel_rfl
theorem un_74 : Try.prog.underlying 74 = some (.int .u64) := by kernel_rfl
theorem bu_35 {a0 a1 : Value} (t0 : isTup a0 = false) (c0 : a0.cells = #[a0]) (t1 : isTup a1 = false) (c1 : a1.cells = #[a1]) : aBuild Try.prog 35 [(0, a0), (1, a1)] = some (.agg #[a0, a1]) := buildT2 pl_35 rfl rfl t0 c0 t1 c1
def F_impl_in (fu : Nat) (x0 : Int) (x1 : Int) (x2 : Int) : Option (Bool) :=
  bif (ile x1 x0) then
    some (ile x0 x2)
  else
    some false
theorem F_impl_in_w {fu : Nat} {H : AH}  {x0 : Int} {x1 : Int} {x2 : Int} {r : (Bool)}  (hF : F_impl_in fu x0 x1 x2 = some r) :
    ACallT Try.prog 49 [(Value.int .i64 x0), (Value.int .i64 x1), (Value.int .i64 x2)] H (fun u G => AgB (Fr H) H G ∧ u = (Value.bool r) ∧ Sep G (Fr H) []) := by
 refine ACallT.of_body (nt := 15) (rs := [.tmp 6]) Try.func49 rfl rfl rfl rfl ?_;have A0 : AgB (Fr H) H H := .refl _ _;have S0 : Sep H (Fr H) [] := .nil;have hB := Fr.up H;unfold F_impl_in at hF;refine .sr fun K hK => ?_;simp [];apply hK;clear hK K;rcases Bool.eq_false_or_eq_true (ile x1 x0) with hb1 | hb1
 ·replace hF := cd_t hb1 hF;refine .sr fun K hK => ?_;simp [hb1];apply hK;clear hK K;refine DWp.ret ?_;obtain rfl := Option.some.inj hF;exact ⟨by simp, [(Value.bool (ile x0 x2))], by simp [], A0, rfl, S0.pick [] (by decide) rfl⟩
 ·replace hF := cd_f hb1 hF;refine .sr fun K hK => ?_;simp [hb1];apply hK;clear hK K;refine DWp.ret ?_;obtain rfl := Option.some.inj hF;exact ⟨by simp, [(Value.bool false)], by simp [], A0, rfl, S0.pick [] (by decide) rfl⟩
def F_impl_isSystem_L3 (fu : Nat) (k3_0 : List Int) (k3_1 : Int) (k3_2 : Int) (k3_3 : Int) : Nat → Int → Option (LR (LR (Bool) (Int)) (Int))
  | 0, _ => none
  | n + 1, y3_7 =>
    bif (ilt y3_7 k3_2) then
      gd (inL k3_0 y3_7) (
      bd (F_impl_in fu (gat 0 k3_0 y3_7) k3_1 k3_2) fun r2 =>
      bif (bnot r2) then
        some (.ret (.ret false))
      else
        F_impl_isSystem_L3 fu k3_0 k3_1 k3_2 k3_3 n (iadd .i64 y3_7 1))
    else
      some (.brk y3_7)
def F_impl_isSystem_L2 (fu : Nat) (k2_0 : List Int) (k2_1 : Int) : Nat → Int → Option (LR (Bool) (Int))
  | 0, _ => none
  | n + 1, y2_37 =>
    bif (ilt y2_37 k2_1) then
      gd (inL k2_0 y2_37) (
      bd (F_impl_isSystem_L3 fu k2_0 y2_37 (gat 0 k2_0 y2_37) k2_1 fu (iadd .i64 y2_37 1)) fun s3 =>
      lr s3 fun s3 =>
      F_impl_isSystem_L2 fu k2_0 k2_1 n (iadd .i64 y2_37 1))
    else
      some (.brk y2_37)
def F_impl_isSystem_L1 (fu : Nat) (k1_0 : List Int) (k1_1 : Int) : Nat → Int → Option (LR (Bool) (Int))
  | 0, _ => none
  | n + 1, y1_10 =>
    bif (ilt y1_10 k1_1) then
      gd (inL k1_0 y1_10) (
      bd (
        bd (F_impl_in fu (gat 0 k1_0 y1_10) 0 (isub .i64 (llen k1_0) 1)) fun r1 =>
        bif (bnot r1) then
          some true
        else
          bif (ieq (gat 0 k1_0 y1_10) y1_10) then
            some true
          else
            gd (inL k1_0 (gat 0 k1_0 y1_10)) (
            some (ine (gat 0 k1_0 (gat 0 k1_0 y1_10)) y1_10))) fun s9 =>
      bif s9 then
        some (.ret false)
      else
        F_impl_isSystem_L1 fu k1_0 k1_1 n (iadd .i64 y1_10 1))
    else
      some (.brk y1_10)
def F_impl_isSystem (fu : Nat) (x0 : List Int) : Option (Bool) :=
  bd (F_impl_isSystem_L1 fu x0 (llen x0) fu 0) fun s1 =>
  lr s1 fun s1 =>
  bd (F_impl_isSystem_L2 fu x0 (llen x0) fu 0) fun s2 =>
  lr s2 fun s2 =>
  some true
theorem F_impl_isSystem_w {fu : Nat} {H : AH} {v0 : Value} {x0 : List Int} {r : (Bool)} (hx0 : Sl H v0 (ints x0)) (hF : F_impl_isSystem fu x0 = some r) :
    ACallT Try.prog 35 [v0] H (fun u G => AgB (Fr H) H G ∧ u = (Value.bool r) ∧ Sep G (Fr H) []) := by
 refine ACallT.of_body (nt := 58) (rs := [.tmp 2]) Try.func35 rfl rfl rfl rfl ?_;have A0 : AgB (Fr H) H H := .refl _ _;have S0 : Sep H (Fr H) [] := .nil;have hB := Fr.up H;unfold F_impl_isSystem at hF;refine .sr fun K hK => ?_;simp [];apply hK;clear hK K;refine .seq ?_;have q1 := lenG (P := Try.prog) (hx0.agree A0.agree) el_22;refine .sr fun K hK => ?_;simp [q1];apply hK;clear hK K;refine .block ?_;obtain ⟨s2, hL3, hF⟩ := bd_some hF;have S4 := S0.pick [] (by decide) rfl;refine DWp.loop (fun n env G => ∃ y1_10 : Int, F_impl_isSystem_L1 fu x0 (llen x0) n y1_10 = some s2 ∧ Sep G (Fr H) [] ∧ AgB (Fr H) H G ∧ env 0 = some v0 ∧ env 8 = some v0 ∧ env 9 = some (Value.int .i64 (llen x0)) ∧ env 10 = some (Value.int .i64 y1_10)) fu ⟨0, hL3, S4, A0, by simp []⟩ ?_;rintro n1 env1 G1_ ⟨y1_10, hL3, S1_, A1_, e1_⟩;cases n1 with
 | zero => cases hL3
 | succ n1 =>
  simp only [F_impl_isSystem_L1] at hL3;refine .sr fun K hK => ?_;simp [e1_];apply hK;clear hK K;refine .seq ?_;refine DWp.cond' (t := (ilt y1_10 (llen x0))) (by simp [e1_]) (fun hb5 => ?_) (fun hb5 => ?_)
  ·replace hL3 := cd_t hb5 hL3;refine DWp.skip ?_;simp only [andThen, leaves];refine .seq ?_;refine .block ?_;obtain ⟨g6, hL3⟩ := gd_some hL3;have q7 := idxG (P := Try.prog) (kk := .i64) (hx0.agree A1_.agree) el_22 sz_3 g6;have q8 := loadG (P := Try.prog) (hx0.agree A1_.agree) sz_3 ag_3 g6 0;refine .sr fun K hK => ?_;simp [e1_, q7, q8];apply hK;clear hK K;obtain ⟨s9, hL10, hL3⟩ := bd_some hL3;refine DWp.seq (DWp.join (fun env G => Sep G (Fr H) [] ∧ AgB (Fr H) H G ∧ env 0 = some v0 ∧ env 8 = some v0 ∧ env 9 = some (Value.int .i64 (llen x0)) ∧ env 10 = some (Value.int .i64 y1_10) ∧ env 33 = some (Value.bool s9)) ?_ ?_)
   ·
    have q12 := lenG (P := Try.prog) (hx0.agree A1_.agree) el_22;obtain ⟨r1, hc13, hL10⟩ := bd_some hL10;refine .region fun K hK => ?_;simp [e1_, q12];refine CallD.t (F_impl_in_w (fu := fu)  hc13) ?_;rintro _ G15 ⟨a18, rfl, S19⟩;have A17 := A1_.ext (hB.le A1_.1) a18.agree;have S16 : Sep G15 (Fr H) [] := S1_.app a18.agree S19 (fun _ h => h) (hB.le A1_.1);rcases Bool.eq_false_or_eq_true (bnot r1) with hb20 | hb20
    ·replace hL10 := cd_t hb20 hL10;simp [e1_, hb20, q12, a18.pre];apply hK;clear hK K;simp only [andThen, leaves];have S21 := S16.pick [] (by decide) rfl;obtain rfl := Option.some.inj hL10;exact ⟨S21, A17, by simp [e1_]⟩
    ·replace hL10 := cd_f hb20 hL10;rcases Bool.eq_false_or_eq_true (ieq (gat 0 x0 y1_10) y1_10) with hb22 | hb22
     ·replace hL10 := cd_t hb22 hL10;simp [e1_, hb20, hb22, q12, a18.pre];apply hK;clear hK K;simp only [andThen, leaves];have S23 := S16.pick [] (by decide) rfl;obtain rfl := Option.some.inj hL10;exact ⟨S23, A17, by simp [e1_]⟩
     ·replace hL10 := cd_f hb22 hL10;obtain ⟨g24, hL10⟩ := gd_some hL10;have q25 := idxG (P := Try.prog) (kk := .i64) (hx0.agree A17.agree) el_22 sz_3 g24;have q26 := loadG (P := Try.prog) (hx0.agree A17.agree) sz_3 ag_3 g24 0;simp [e1_, hb20, hb22, q12, a18.pre, q25, q26];apply hK;clear hK K;simp only [andThen, leaves];have S27 := S16.pick [] (by decide) rfl;obtain rfl := Option.some.inj hL10;exact ⟨S27, A17, by simp [e1_]⟩
   ·rintro env Gj28 ⟨Sj28, Aj28, ej28_⟩;refine DWp.cond' (t := s9) (by simp [ej28_]) (fun hb29 => ?_) (fun hb29 => ?_)
    ·replace hL3 := cd_t hb29 hL3;refine .sr fun K hK => ?_;simp [ej28_];apply hK;clear hK K;refine DWp.ret ?_;simp only [andThen, leaves];obtain rfl := Option.some.inj hL3;simp only [lr] at hF;obtain rfl := Option.some.inj hF;exact ⟨by simp, [(Value.bool false)], by simp [ej28_], Aj28, rfl, Sj28.pick [] (by decide) rfl⟩
    ·replace hL3 := cd_f hb29 hL3;refine DWp.skip ?_;simp only [andThen, leaves];refine .region fun K hK => ?_;simp [ej28_];apply hK;clear hK K;simp only [andThen, leaves];have S30 := Sj28.pick [] (by decide) rfl;exact ⟨n1, Nat.lt_succ_self _, (iadd .i64 y1_10 1), hL3, S30, Aj28, by simp [ej28_]⟩
  ·replace hL3 := cd_f hb5 hL3;refine DWp.exit ?_;simp only [andThen, leaves, if_true, if_false, reduceIte, Nat.reduceEqDiff];obtain rfl := Option.some.inj hL3;simp only [lr] at hF;refine .seq ?_;have q31 := lenG (P := Try.prog) (hx0.agree A1_.agree) el_22;refine .sr fun K hK => ?_;simp [e1_, q31];apply hK;clear hK K;refine .block ?_;obtain ⟨s32, hL33, hF⟩ := bd_some hF;have S34 := S1_.pick [] (by decide) rfl;refine DWp.loop (fun n env G => ∃ y2_37 : Int, F_impl_isSystem_L2 fu x0 (llen x0) n y2_37 = some s32 ∧ Sep G (Fr H) [] ∧ AgB (Fr H) H G ∧ env 0 = some v0 ∧ env 35 = some v0 ∧ env 36 = some (Value.int .i64 (llen x0)) ∧ env 37 = some (Value.int .i64 y2_37)) fu ⟨0, hL33, S34, A1_, by simp [e1_]⟩ ?_;rintro n1 env1 G1_ ⟨y2_37, hL33, S1_, A1_, e1_⟩;cases n1 with
   | zero => cases hL33
   | succ n1 =>
    simp only [F_impl_isSystem_L2] at hL33;refine .sr fun K hK => ?_;simp [e1_];apply hK;clear hK K;refine .seq ?_;refine DWp.cond' (t := (ilt y2_37 (llen x0))) (by simp [e1_]) (fun hb35 => ?_) (fun hb35 => ?_)
    ·replace hL33 := cd_t hb35 hL33;refine DWp.skip ?_;simp only [andThen, leaves];refine .seq ?_;refine .block ?_;obtain ⟨g36, hL33⟩ := gd_some hL33;have q37 := idxG (P := Try.prog) (kk := .i64) (hx0.agree A1_.agree) el_22 sz_3 g36;have q38 := loadG (P := Try.prog) (hx0.agree A1_.agree) sz_3 ag_3 g36 0;refine .sr fun K hK => ?_;simp [e1_, q37, q38];apply hK;clear hK K;refine .sr fun K hK => ?_;simp [e1_];apply hK;clear hK K;refine .block ?_;obtain ⟨s39, hL40, hL33⟩ := bd_some hL33;have S41 := S1_.pick [] (by decide) rfl;refine DWp.loop (fun n env G => ∃ y3_7 : Int, F_impl_isSystem_L3 fu x0 y2_37 (gat 0 x0 y2_37) (llen x0) n y3_7 = some s39 ∧ Sep G (Fr H) [] ∧ AgB (Fr H) H G ∧ env 0 = some v0 ∧ env 5 = some (Value.int .i64 y2_37) ∧ env 6 = some (Value.int .i64 (gat 0 x0 y2_37)) ∧ env 7 = some (Value.int .i64 y3_7) ∧ env 35 = some v0 ∧ env 36 = some (Value.int .i64 (llen x0)) ∧ env 37 = some (Value.int .i64 y2_37)) fu ⟨(iadd .i64 y2_37 1), hL40, S41, A1_, by simp [e1_]⟩ ?_;rintro n2 env2 G2_ ⟨y3_7, hL40, S2_, A2_, e2_⟩;cases n2 with
     | zero => cases hL40
     | succ n2 =>
      simp only [F_impl_isSystem_L3] at hL40;refine .seq ?_;refine .sr fun K hK => ?_;simp [e2_];apply hK;clear hK K;refine DWp.cond' (t := (ilt y3_7 (gat 0 x0 y2_37))) (by simp [e2_]) (fun hb42 => ?_) (fun hb42 => ?_)
      ·replace hL40 := cd_t hb42 hL40;refine DWp.skip ?_;simp only [andThen, leaves];refine .seq ?_;refine .block ?_;obtain ⟨g43, hL40⟩ := gd_some hL40;have q44 := idxG (P := Try.prog) (kk := .i64) (hx0.agree A2_.agree) el_22 sz_3 g43;have q45 := loadG (P := Try.prog) (hx0.agree A2_.agree) sz_3 ag_3 g43 0;obtain ⟨r2, hc46, hL40⟩ := bd_some hL40;refine .sr fun K hK => ?_;simp [e2_, q44, q45];refine CallD.t (F_impl_in_w (fu := fu)  hc46) ?_;rintro _ G48 ⟨a51, rfl, S52⟩;have A50 := A2_.ext (hB.le A2_.1) a51.agree;have S49 : Sep G48 (Fr H) [] := S2_.app a51.agree S52 (fun _ h => h) (hB.le A2_.1);simp [e2_, q44, q45, a51.pre];apply hK;clear hK K;refine DWp.cond' (t := (bnot r2)) (by simp [e2_]) (fun hb53 => ?_) (fun hb53 => ?_)
       ·replace hL40 := cd_t hb53 hL40;refine .sr fun K hK => ?_;simp [e2_];apply hK;clear hK K;refine DWp.ret ?_;simp only [andThen, leaves];obtain rfl := Option.some.inj hL40;simp only [lr] at hL33;obtain rfl := Option.some.inj hL33;simp only [lr] at hF;obtain rfl := Option.some.inj hF;exact ⟨by simp, [(Value.bool false)], by simp [e2_], A50, rfl, S49.pick [] (by decide) rfl⟩
       ·replace hL40 := cd_f hb53 hL40;refine DWp.skip ?_;simp only [andThen, leaves];refine .region fun K hK => ?_;simp [e2_];apply hK;clear hK K;simp only [andThen, leaves];have S54 := S49.pick [] (by decide) rfl;exact ⟨n2, Nat.lt_succ_self _, (iadd .i64 y3_7 1), hL40, S54, A50, by simp [e2_]⟩
      ·replace hL40 := cd_f hb42 hL40;refine DWp.exit ?_;simp only [andThen, leaves, if_true, if_false, reduceIte, Nat.reduceEqDiff];obtain rfl := Option.some.inj hL40;simp only [lr] at hL33;refine .region fun K hK => ?_;simp [e2_];apply hK;clear hK K;simp only [andThen, leaves];have S55 := S2_.pick [] (by decide) rfl;exact ⟨n1, Nat.lt_succ_self _, (iadd .i64 y2_37 1), hL33, S55, A2_, by simp [e2_]⟩
    ·replace hL33 := cd_f hb35 hL33;refine DWp.exit ?_;simp only [andThen, leaves, if_true, if_false, reduceIte, Nat.reduceEqDiff];obtain rfl := Option.some.inj hL33;simp only [lr] at hF;refine .sr fun K hK => ?_;simp [e1_];apply hK;clear hK K;refine DWp.ret ?_;obtain rfl := Option.some.inj hF;exact ⟨by simp, [(Value.bool true)], by simp [e1_], A1_, rfl, S1_.pick [] (by decide) rfl⟩
def F_impl_IsSystem (fu : Nat) (x0 : List Int) : Option (Bool) :=
  bif (ile (llen x0) 12) then
    bd (F_impl_isSystem fu x0) fun r1 =>
    some r1
  else
    some false
theorem F_impl_IsSystem_w {fu : Nat} {H : AH} {v0 : Value} {x0 : List Int} {r : (Bool)} (hx0 : Sl H v0 (ints x0)) (hF : F_impl_IsSystem fu x0 = some r) :
    ACallT Try.prog 24 [v0] H (fun u G => AgB (Fr H) H G ∧ u = (Value.bool r) ∧ Sep G (Fr H) []) := by
 refine ACallT.of_body (nt := 10) (rs := [.tmp 2]) Try.func24 rfl rfl rfl rfl ?_;have A0 : AgB (Fr H) H H := .refl _ _;have S0 : Sep H (Fr H) [] := .nil;have hB := Fr.up H;unfold F_impl_IsSystem at hF;refine .sr fun K hK => ?_;simp [];apply hK;clear hK K;have q1 := lenG (P := Try.prog) (hx0.agree A0.agree) el_22;rcases Bool.eq_false_or_eq_true (ile (llen x0) 12) with hb2 | hb2
 ·replace hF := cd_t hb2 hF;obtain ⟨r1, hc3, hF⟩ := bd_some hF;refine .sr fun K hK => ?_;simp [hb2, q1, ((hx0.agree A0.agree).tup)];refine CallD.t (F_impl_isSystem_w (fu := fu) (hx0.agree A0.agree) hc3) ?_;rintro _ G5 ⟨a8, rfl, S9⟩;have A7 := A0.ext (hB.le A0.1) a8.agree;have S6 : Sep G5 (Fr H) [] := S0.app a8.agree S9 (fun _ h => h) (hB.le A0.1);simp [hb2, q1, a8.pre];apply hK;clear hK K;refine DWp.ret ?_;obtain rfl := Option.some.inj hF;exact ⟨by simp, [(Value.bool r1)], by simp [], A7, rfl, S6.pick [] (by decide) rfl⟩
 ·replace hF := cd_f hb2 hF;refine .sr fun K hK => ?_;simp [hb2, q1];apply hK;clear hK K;refine DWp.ret ?_;obtain rfl := Option.some.inj hF;exact ⟨by simp, [(Value.bool false)], by simp [], A0, rfl, S0.pick [] (by decide) rfl⟩
def F_impl_IsPair (fu : Nat) (x0_0 : List Int) (x0_1 : List Int) : Option (Bool) :=
  bd (F_impl_IsSystem fu x0_0) fun r1 =>
  bif r1 then
    bd (F_impl_IsSystem fu x0_1) fun r2 =>
    bif r2 then
      some (ieq (llen x0_0) (llen x0_1))
    else
      some false
  else
    some false
theorem F_impl_IsPair_w {fu : Nat} {H : AH} {v0_0 : Value} {v0_1 : Value} {x0_0 : List Int} {x0_1 : List Int} {r : (Bool)} (hx0_0 : Sl H v0_0 (ints x0_0)) (hx0_1 : Sl H v0_1 (ints x0_1)) (hF : F_impl_IsPair fu x0_0 x0_1 = some r) :
    ACallT Try.prog 16 [(Value.agg #[v0_0, v0_1])] H (fun u G => AgB (Fr H) H G ∧ u = (Value.bool r) ∧ Sep G (Fr H) []) := by
 refine ACallT.of_body (nt := 20) (rs := [.tmp 2]) Try.func16 rfl rfl rfl rfl ?_;have A0 : AgB (Fr H) H H := .refl _ _;have S0 : Sep H (Fr H) [] := .nil;have hB := Fr.up H;unfold F_impl_IsPair at hF;obtain ⟨G2, p4, q5, q6, a7, S1⟩ := S0.boxT (hB.le A0.1) 35 [v0_0, v0_1];have A3 := A0.ext (hB.le A0.1) a7;replace S1 : Sep G2 (Fr H) [AL.box p4 [v0_0, v0_1]] := S1;refine .sr fun K hK => ?_;simp [q5, q6, a7.to_pre, cells_agg];apply hK;clear hK K;have q8 := S1.fieldT (P := Try.prog) (k := 0) rfl fa_35_0;have q9 := S1.loadF (P := Try.prog) (k := 0) rfl sz_22 ag_22 (off := 0) rfl;obtain ⟨r1, hc10, hF⟩ := bd_some hF;refine .sr fun K hK => ?_;simp [q8, q9, ((hx0_0.agree A3.agree).tup)];refine CallD.t (F_impl_IsSystem_w (fu := fu) (hx0_0.agree A3.agree) hc10) ?_;rintro _ G12 ⟨a15, rfl, S16⟩;have A14 := A3.ext (hB.le A3.1) a15.agree;have S13 : Sep G12 (Fr H) [AL.box p4 [v0_0, v0_1]] := S1.app a15.agree S16 (fun _ h => h) (hB.le A3.1);rcases Bool.eq_false_or_eq_true r1 with hb17 | hb17
 ·replace hF := cd_t hb17 hF;have q18 := S13.fieldT (P := Try.prog) (k := 0) rfl fa_35_1;have q19 := S13.loadF (P := Try.prog) (k := 0) rfl sz_22 ag_22 (off := 1) rfl;obtain ⟨r2, hc20, hF⟩ := bd_some hF;simp [hb17, q8, q9, a15.pre, q18, q19, ((hx0_1.agree A14.agree).tup)];refine CallD.t (F_impl_IsSystem_w (fu := fu) (hx0_1.agree A14.agree) hc20) ?_;rintro _ G22 ⟨a25, rfl, S26⟩;have A24 := A14.ext (hB.le A14.1) a25.agree;have S23 : Sep G22 (Fr H) [AL.box p4 [v0_0, v0_1]] := S13.app a25.agree S26 (fun _ h => h) (hB.le A14.1);rcases Bool.eq_false_or_eq_true r2 with hb27 | hb27
  ·replace hF := cd_t hb27 hF;have q28 := S23.fieldT (P := Try.prog) (k := 0) rfl fa_35_0;have q29 := S23.loadF (P := Try.prog) (k := 0) rfl sz_22 ag_22 (off := 0) rfl;have q30 := lenG (P := Try.prog) (hx0_0.agree A24.agree) el_22;have q31 := S23.fieldT (P := Try.prog) (k := 0) rfl fa_35_1;have q32 := S23.loadF (P := Try.prog) (k := 0) rfl sz_22 ag_22 (off := 1) rfl;have q33 := lenG (P := Try.prog) (hx0_1.agree A24.agree) el_22;simp [hb17, hb27, q8, q9, a15.pre, q18, q19, a25.pre, q28, q29, q30, q31, q32, q33];apply hK;clear hK K;refine DWp.ret ?_;obtain rfl := Option.some.inj hF;exact ⟨by simp, [(Value.bool (ieq (llen x0_0) (llen x0_1)))], by simp [], A24, rfl, S23.pick [] (by decide) rfl⟩
  ·replace hF := cd_f hb27 hF;simp [hb17, hb27, q8, q9, a15.pre, q18, q19, a25.pre];apply hK;clear hK K;refine DWp.ret ?_;obtain rfl := Option.some.inj hF;exact ⟨by simp, [(Value.bool false)], by simp [], A24, rfl, S23.pick [] (by decide) rfl⟩
 ·replace hF := cd_f hb17 hF;simp [hb17, q8, q9, a15.pre];apply hK;clear hK K;refine DWp.ret ?_;obtain rfl := Option.some.inj hF;exact ⟨by simp, [(Value.bool false)], by simp [], A14, rfl, S13.pick [] (by decide) rfl⟩
def F_impl_isExchanged (fu : Nat) (x0 : List Int) (x1 : List Int) : Option (Bool) :=
  bd (F_impl_IsPair fu x0 x1) fun r1 =>
  bif r1 then
    some (ile (llen x0) 10)
  else
    some false
theorem F_impl_isExchanged_w {fu : Nat} {H : AH} {v0 : Value} {v1 : Value} {x0 : List Int} {x1 : List Int} {r : (Bool)} (hx0 : Sl H v0 (ints x0)) (hx1 : Sl H v1 (ints x1)) (hF : F_impl_isExchanged fu x0 x1 = some r) :
    ACallT Try.prog 10 [v0, v1] H (fun u G => AgB (Fr H) H G ∧ u = (Value.bool r) ∧ Sep G (Fr H) []) := by
 refine ACallT.of_body (nt := 14) (rs := [.tmp 4]) Try.func10 rfl rfl rfl rfl ?_;have A0 : AgB (Fr H) H H := .refl _ _;have S0 : Sep H (Fr H) [] := .nil;have hB := Fr.up H;unfold F_impl_isExchanged at hF;refine .sr fun K hK => ?_;simp [];apply hK;clear hK K;obtain ⟨r1, hc1, hF⟩ := bd_some hF;refine .sr fun K hK => ?_;simp [bu_35 ((hx0.agree A0.agree).tup) ((hx0.agree A0.agree).one) ((hx1.agree A0.agree).tup) ((hx1.agree A0.agree).one), ((hx0.agree A0.agree).tup), ((hx1.agree A0.agree).tup)];refine CallD.t (F_impl_IsPair_w (fu := fu) (hx0.agree A0.agree) (hx1.agree A0.agree) hc1) ?_;rintro _ G3 ⟨a6, rfl, S7⟩;have A5 := A0.ext (hB.le A0.1) a6.agree;have S4 : Sep G3 (Fr H) [] := S0.app a6.agree S7 (fun _ h => h) (hB.le A0.1);rcases Bool.eq_false_or_eq_true r1 with hb8 | hb8
 ·replace hF := cd_t hb8 hF;have q9 := lenG (P := Try.prog) (hx0.agree A5.agree) el_22;simp [hb8, bu_35 ((hx0.agree A0.agree).tup) ((hx0.agree A0.agree).one) ((hx1.agree A0.agree).tup) ((hx1.agree A0.agree).one), a6.pre, q9];apply hK;clear hK K;refine DWp.ret ?_;obtain rfl := Option.some.inj hF;exact ⟨by simp, [(Value.bool (ile (llen x0) 10))], by simp [], A5, rfl, S4.pick [] (by decide) rfl⟩
 ·replace hF := cd_f hb8 hF;simp [hb8, bu_35 ((hx0.agree A0.agree).tup) ((hx0.agree A0.agree).one) ((hx1.agree A0.agree).tup) ((hx1.agree A0.agree).one), a6.pre];apply hK;clear hK K;refine DWp.ret ?_;obtain rfl := Option.some.inj hF;exact ⟨by simp, [(Value.bool false)], by simp [], A5, rfl, S4.pick [] (by decide) rfl⟩
def F_math_bits_Mul64 (fu : Nat) (x0 : Int) (x1 : Int) : Option (Int × Int) :=
  some ((iadd .u64 (iadd .u64 (imul .u64 (ishr .u64 x0 32) (ishr .u64 x1 32)) (ishr .u64 (iadd .u64 (imul .u64 (ishr .u64 x0 32) (iand .u64 x1 4294967295)) (ishr .u64 (imul .u64 (iand .u64 x0 4294967295) (iand .u64 x1 4294967295)) 32)) 32)) (ishr .u64 (iadd .u64 (iand .u64 (iadd .u64 (imul .u64 (ishr .u64 x0 32) (iand .u64 x1 4294967295)) (ishr .u64 (imul .u64 (iand .u64 x0 4294967295) (iand .u64 x1 4294967295)) 32)) 4294967295) (imul .u64 (iand .u64 x0 4294967295) (ishr .u64 x1 32))) 32)), (imul .u64 x0 x1))
theorem F_math_bits_Mul64_w {fu : Nat} {H : AH}  {x0 : Int} {x1 : Int} {r : (Int × Int)}  (hF : F_math_bits_Mul64 fu x0 x1 = some r) :
    ACallT Try.prog 81 [(Value.int .u64 x0), (Value.int .u64 x1)] H (fun u G => AgB (Fr H) H G ∧ u = (Value.tuple #[(Value.int .u64 r.1), (Value.int .u64 r.2)]) ∧ Sep G (Fr H) []) := by
 refine ACallT.of_body (nt := 51) (rs := [.tmp 4, .tmp 5]) Try.func81 rfl rfl rfl rfl ?_;have A0 : AgB (Fr H) H H := .refl _ _;have S0 : Sep H (Fr H) [] := .nil;have hB := Fr.up H;unfold F_math_bits_Mul64 at hF;refine .sr fun K hK => ?_;simp [];apply hK;clear hK K;refine .sr fun K hK => ?_;simp [b_and];apply hK;clear hK K;have g1 : ¬ ((32 : Int) < 0) := by decide
 refine .sr fun K hK => ?_;simp [b_shr g1];apply hK;clear hK K;refine .sr fun K hK => ?_;simp [b_and];apply hK;clear hK K;have g2 : ¬ ((32 : Int) < 0) := by decide
 refine .sr fun K hK => ?_;simp [b_shr g2];apply hK;clear hK K;refine .sr fun K hK => ?_;simp [];apply hK;clear hK K;have g3 : ¬ ((32 : Int) < 0) := by decide
 refine .sr fun K hK => ?_;simp [b_shr g3];apply hK;clear hK K;refine .sr fun K hK => ?_;simp [b_and];apply hK;clear hK K;have g4 : ¬ ((32 : Int) < 0) := by decide
 refine .sr fun K hK => ?_;simp [b_shr g4];apply hK;clear hK K;refine .sr fun K hK => ?_;simp [];apply hK;clear hK K;have g5 : ¬ ((32 : Int) < 0) := by decide
 refine .sr fun K hK => ?_;simp [b_shr g5];apply hK;clear hK K;refine .sr fun K hK => ?_;simp [];apply hK;clear hK K;refine DWp.ret ?_;obtain rfl := Option.some.inj hF;exact ⟨by simp, [(Value.int .u64 (iadd .u64 (iadd .u64 (imul .u64 (ishr .u64 x0 32) (ishr .u64 x1 32)) (ishr .u64 (iadd .u64 (imul .u64 (ishr .u64 x0 32) (iand .u64 x1 4294967295)) (ishr .u64 (imul .u64 (iand .u64 x0 4294967295) (iand .u64 x1 4294967295)) 32)) 32)) (ishr .u64 (iadd .u64 (iand .u64 (iadd .u64 (imul .u64 (ishr .u64 x0 32) (iand .u64 x1 4294967295)) (ishr .u64 (imul .u64 (iand .u64 x0 4294967295) (iand .u64 x1 4294967295)) 32)) 4294967295) (imul .u64 (iand .u64 x0 4294967295) (ishr .u64 x1 32))) 32))), (Value.int .u64 (imul .u64 x0 x1))], by simp [], A0, rfl, S0.pick [] (by decide) rfl⟩
def F_math_bits_Mul (fu : Nat) (x0 : Int) (x1 : Int) : Option (Int × Int) :=
  bd (F_math_bits_Mul64 fu x0 x1) fun r1 =>
  some (r1.1, r1.2)
theorem F_math_bits_Mul_w {fu : Nat} {H : AH}  {x0 : Int} {x1 : Int} {r : (Int × Int)}  (hF : F_math_bits_Mul fu x0 x1 = some r) :
    ACallT Try.prog 66 [(Value.int .u64 x0), (Value.int .u64 x1)] H (fun u G => AgB (Fr H) H G ∧ u = (Value.tuple #[(Value.int .u64 r.1), (Value.int .u64 r.2)]) ∧ Sep G (Fr H) []) := by
 refine ACallT.of_body (nt := 30) (rs := [.tmp 4, .tmp 5]) Try.func66 rfl rfl rfl rfl ?_;have A0 : AgB (Fr H) H H := .refl _ _;have S0 : Sep H (Fr H) [] := .nil;have hB := Fr.up H;unfold F_math_bits_Mul at hF;refine .sr fun K hK => ?_;simp [];apply hK;clear hK K;refine .seq ?_;refine DWp.cf (by simp [bnot]) ?_;refine DWp.skip ?_;simp only [andThen, leaves];obtain ⟨r1, hc1, hF⟩ := bd_some hF;refine .sr fun K hK => ?_;simp [];refine CallD.t (F_math_bits_Mul64_w (fu := fu)  hc1) ?_;rintro _ G3 ⟨a6, rfl, S7⟩;have A5 := A0.ext (hB.le A0.1) a6.agree;have S4 : Sep G3 (Fr H) [] := S0.app a6.agree S7 (fun _ h => h) (hB.le A0.1);simp [a6.pre];apply hK;clear hK K;refine .sr fun K hK => ?_;simp [];apply hK;clear hK K;refine DWp.ret ?_;obtain rfl := Option.some.inj hF;exact ⟨by simp, [(Value.int .u64 r1.1), (Value.int .u64 r1.2)], by simp [], A5, rfl, S4.pick [] (by decide) rfl⟩
def F_slices_Repeat_Sint_L1 (fu : Nat)  : Nat → List Int → Int → Option (List Int × Int)
  | 0, _, _ => none
  | n + 1, l1_0, y1_8 =>
    bif (ilt y1_8 (llen l1_0)) then
      gd (subL l1_0 y1_8 (llen l1_0)) (
      gd (subL l1_0 0 y1_8) (
      gd (0 < l1_0.length) (
      F_slices_Repeat_Sint_L1 fu n (lfil l1_0 y1_8) (iadd .i64 y1_8 (nfil l1_0 y1_8)))))
    else
      some (l1_0, y1_8)
def F_slices_Repeat_Sint (fu : Nat) (x0 : List Int) (x1 : Int) : Option (List Int) :=
  bd (
    bif (ilt x1 0) then
      none
    else
      some ()) fun s1 =>
  bd (F_math_bits_Mul fu (iwr .u64 (llen x0)) (iwr .u64 x1)) fun r1 =>
  bd (
    bif (ilt 0 r1.1) then
      none
    else
      bif (ilt 9223372036854775807 r1.2) then
        none
      else
        some ()) fun s15 =>
  gd (0 ≤ (iwr .i64 r1.2) ∧ (iwr .i64 r1.2) ≤ 4294967296) (
  gd (0 < x0.length) (
  bd (F_slices_Repeat_Sint_L1 fu fu (lcpy (lrep (iwr .i64 r1.2) (0 : Int)) x0) (ncpy (lrep (iwr .i64 r1.2) (0 : Int)) x0)) fun s1 =>
  some s1.1))
theorem F_slices_Repeat_Sint_w {fu : Nat} {H : AH} {v0 : Value} {x0 : List Int} {x1 : Int} {r : (List Int)} (hx0 : Sl H v0 (ints x0)) (hF : F_slices_Repeat_Sint fu x0 x1 = some r) :
    ACallT Try.prog 50 [v0, (Value.int .i64 x1)] H (fun u G => AgB (Fr H) H G ∧ ∃ u0 : Value, u = u0 ∧ Sep G (Fr H) [flat u0 3 (ints r)]) := by
 refine ACallT.of_body (nt := 48) (rs := [.tmp 4]) Try.func50 rfl rfl rfl rfl ?_;have A0 : AgB (Fr H) H H := .refl _ _;have S0 : Sep H (Fr H) [] := .nil;have hB := Fr.up H;unfold F_slices_Repeat_Sint at hF;refine .sr fun K hK => ?_;simp [];apply hK;clear hK K;obtain ⟨s1, hL2, hF⟩ := bd_some hF;refine DWp.seq (DWp.join (fun env G => Sep G (Fr H) [] ∧ AgB (Fr H) H G ∧ env 0 = some v0 ∧ env 1 = some (Value.int .i64 x1)) ?_ ?_)
 ·
  refine .sr fun K hK => ?_;simp [];apply hK;clear hK K;refine DWp.cond' (t := (ilt x1 0)) (by simp []) (fun hb4 => ?_) (fun hb4 => ?_)
  ·replace hL2 := cd_t hb4 hL2;cases hL2
  ·replace hL2 := cd_f hb4 hL2;refine DWp.skip ?_;simp only [andThen, leaves];have S5 := S0.pick [] (by decide) rfl;obtain rfl := Option.some.inj hL2;exact ⟨S5, A0, by simp []⟩
 ·rintro env Gj6 ⟨Sj6, Aj6, ej6_⟩;have q7 := lenG (P := Try.prog) (hx0.agree Aj6.agree) el_22;obtain ⟨r1, hc8, hF⟩ := bd_some hF;refine .sr fun K hK => ?_;simp [ej6_, q7, c_int un_3 un_50];refine CallD.t (F_math_bits_Mul_w (fu := fu)  hc8) ?_;rintro _ G10 ⟨a13, rfl, S14⟩;have A12 := Aj6.ext (hB.le Aj6.1) a13.agree;have S11 : Sep G10 (Fr H) [] := Sj6.app a13.agree S14 (fun _ h => h) (hB.le Aj6.1);simp [ej6_, q7, c_int un_3 un_50, a13.pre];apply hK;clear hK K;obtain ⟨s15, hL16, hF⟩ := bd_some hF;refine DWp.seq (DWp.join (fun env G => Sep G (Fr H) [] ∧ AgB (Fr H) H G ∧ env 0 = some v0 ∧ env 6 = some (Value.int .u64 r1.2)) ?_ ?_)
  ·
   rcases Bool.eq_false_or_eq_true (ilt 0 r1.1) with hb18 | hb18
   ·replace hL16 := cd_t hb18 hL16;refine .sr fun K hK => ?_;simp [ej6_, hb18];apply hK;clear hK K;refine DWp.ct (by simp [ej6_, bnot]) ?_;cases hL16
   ·replace hL16 := cd_f hb18 hL16;refine .sr fun K hK => ?_;simp [ej6_, hb18];apply hK;clear hK K;refine DWp.cond' (t := (ilt 9223372036854775807 r1.2)) (by simp [ej6_]) (fun hb19 => ?_) (fun hb19 => ?_)
    ·replace hL16 := cd_t hb19 hL16;cases hL16
    ·replace hL16 := cd_f hb19 hL16;refine DWp.skip ?_;simp only [andThen, leaves];have S20 := S11.pick [] (by decide) rfl;obtain rfl := Option.some.inj hL16;exact ⟨S20, A12, by simp [ej6_]⟩
  ·rintro env Gj21 ⟨Sj21, Aj21, ej21_⟩;obtain ⟨g22, hF⟩ := gd_some hF;obtain ⟨v23, G24, q25, S26, a28, _⟩ := Sj21.make1 (f := (Value.int .i64)) (P := Try.prog) (t := 22) (hB.le Aj21.1) el_22 ei_3 rfl 0 rfl g22;have A27 := Aj21.ext (hB.le Aj21.1) a28;replace S26 : Sep G24 (Fr H) [flat1 v23 3 (ints (lrep (iwr .i64 r1.2) (0 : Int)))] := S26;refine .sr fun K hK => ?_;simp [ej21_, c_int un_50 un_3, q25, a28.to_pre];apply hK;clear hK K;obtain ⟨g34, hF⟩ := gd_some hF;obtain ⟨G29, q30, S31, a33⟩ := S26.copy1 (f := (Value.int .i64)) (P := Try.prog) (t := 22) (k := 0) rfl (hB.le A27.1) el_22 sz_3 (hx0.agree A27.agree) g34;have A32 := A27.trans a33;replace S31 : Sep G29 (Fr H) [flat1 v23 3 (ints (lcpy (lrep (iwr .i64 r1.2) (0 : Int)) x0))] := S31;refine .sr fun K hK => ?_;simp [ej21_, q30];apply hK;clear hK K;refine .seq ?_;refine .block ?_;obtain ⟨s35, hL36, hF⟩ := bd_some hF;have S37 := S31.pick [0] (by decide) rfl;have S38 := S37.weak (k := 0) rfl;refine DWp.loop (fun n env G => ∃ l1_0 : List Int, ∃ y1_8 : Int, F_slices_Repeat_Sint_L1 fu n l1_0 y1_8 = some s35 ∧ Sep G (Fr H) [flat v23 3 (ints l1_0)] ∧ AgB (Fr H) H G ∧ env 7 = some v23 ∧ env 8 = some (Value.int .i64 y1_8)) fu ⟨(lcpy (lrep (iwr .i64 r1.2) (0 : Int)) x0), (ncpy (lrep (iwr .i64 r1.2) (0 : Int)) x0), hL36, S38, A32, by simp [ej21_]⟩ ?_;rintro n1 env1 G1_ ⟨l1_0, y1_8, hL36, S1_, A1_, e1_⟩;cases n1 with
   | zero => cases hL36
   | succ n1 =>
    simp only [F_slices_Repeat_Sint_L1] at hL36;refine .seq ?_;have q39 := lenG (P := Try.prog) (S1_.sl (k := 0) rfl) el_22;refine .sr fun K hK => ?_;simp [e1_, q39];apply hK;clear hK K;refine DWp.cond' (t := (ilt y1_8 (llen l1_0))) (by simp [e1_]) (fun hb40 => ?_) (fun hb40 => ?_)
    ·replace hL36 := cd_t hb40 hL36;refine DWp.skip ?_;simp only [andThen, leaves];refine .block ?_;obtain ⟨g41, hL36⟩ := gd_some hL36;have q42 := aSub10 (P := Try.prog) (t := 22) (S1_.sl (k := 0) rfl) el_22 sz_3 g41;obtain ⟨g43, hL36⟩ := gd_some hL36;have q44 := aSub01 (P := Try.prog) (t := 22) (S1_.sl (k := 0) rfl) el_22 sz_3 g43;obtain ⟨g50, hL36⟩ := gd_some hL36;have S51 := S1_.firm (f := (Value.int .i64)) (k := 0) rfl g50;obtain ⟨G45, q46, S47, a49⟩ := S51.fill1 (f := (Value.int .i64)) (P := Try.prog) (t := 22) (k := 0) rfl (hB.le A1_.1) el_22 sz_3 g41;have A48 := A1_.trans a49;replace S47 : Sep G45 (Fr H) [flat1 v23 3 (ints (lfil l1_0 y1_8))] := S47;refine .drawn (B := [0, 0, 0, 6, 0, 0, 48, 126, 255, 511]) 7 mixed (by kernel_rfl) (by decide) fun K hK => ?_;simp [e1_, q42, ((subSl (S1_.sl (k := 0) rfl) g41).tup), q44, ((subSl (S1_.sl (k := 0) rfl) g43).tup), q46];apply hK;clear hK K;simp only [andThen, leaves];have S52 := S47.pick [0] (by decide) rfl;have S53 := S52.weak (k := 0) rfl;exact ⟨n1, Nat.lt_succ_self _, (lfil l1_0 y1_8), (iadd .i64 y1_8 (nfil l1_0 y1_8)), hL36, S53, A48, by simp [e1_]⟩
    ·replace hL36 := cd_f hb40 hL36;refine DWp.exit ?_;simp only [andThen, leaves, if_true, if_false, reduceIte, Nat.reduceEqDiff];obtain rfl := Option.some.inj hL36;try dsimp only at hF
     refine .sr fun K hK => ?_;simp [e1_];apply hK;clear hK K;refine DWp.ret ?_;obtain rfl := Option.some.inj hF;exact ⟨by simp, [v23], by simp [e1_, ((S1_.sl (k := 0) rfl).tup)], A1_, v23, rfl, S1_.pick [0] (by decide) rfl⟩
def F_impl_Meander_way_L1 (fu : Nat) (k1_0 : Int) (k1_1 : List Int) (k1_2 : List Int) : Nat → List Int → Int → Option (LR (List Int) (List Int × Int))
  | 0, _, _ => none
  | n + 1, l1_1, y1_6 =>
    gd (inL k1_1 y1_6) (
    gd (l1_1.length + [y1_6, (gat 0 k1_1 y1_6)].length ≤ 4294967296) (
    gd (inL k1_2 (gat 0 k1_1 y1_6)) (
    bif (ieq (gat 0 k1_2 (gat 0 k1_1 y1_6)) k1_0) then
      some (.ret (lapp l1_1 [y1_6, (gat 0 k1_1 y1_6)]))
    else
      F_impl_Meander_way_L1 fu k1_0 k1_1 k1_2 n (lapp l1_1 [y1_6, (gat 0 k1_1 y1_6)]) (gat 0 k1_2 (gat 0 k1_1 y1_6)))))
def F_impl_Meander_way (fu : Nat) (x0_0 : List Int) (x0_1 : List Int) (x1 : Int) : Option (List Int) :=
  bd (F_impl_Meander_way_L1 fu x1 x0_0 x0_1 fu (@List.nil Int) x1) fun s1 => lr s1 fun _ => none
theorem F_impl_Meander_way_w {fu : Nat} {H : AH} {v0_0 : Value} {v0_1 : Value} {x0_0 : List Int} {x0_1 : List Int} {x1 : Int} {r : (List Int)} (hx0_0 : Sl H v0_0 (ints x0_0)) (hx0_1 : Sl H v0_1 (ints x0_1)) (hF : F_impl_Meander_way fu x0_0 x0_1 x1 = some r) :
    ACallT Try.prog 51 [(Value.agg #[v0_0, v0_1]), (Value.int .i64 x1)] H (fun u G => AgB (Fr H) H G ∧ ∃ u0 : Value, u = u0 ∧ Sep G (Fr H) [flat u0 3 (ints r)]) := by
 refine ACallT.of_body (nt := 29) (rs := [.tmp 4]) Try.func51 rfl rfl rfl rfl ?_;have A0 : AgB (Fr H) H H := .refl _ _;have S0 : Sep H (Fr H) [] := .nil;have hB := Fr.up H;unfold F_impl_Meander_way at hF;obtain ⟨G2, p4, q5, q6, a7, S1⟩ := S0.boxT (hB.le A0.1) 35 [v0_0, v0_1];have A3 := A0.ext (hB.le A0.1) a7;replace S1 : Sep G2 (Fr H) [AL.box p4 [v0_0, v0_1]] := S1;refine .sr fun K hK => ?_;simp [q5, q6, a7.to_pre, cells_agg];apply hK;clear hK K;obtain ⟨v8, G9, q10, S11, a13, _, _⟩ := S1.lit0 (P := Try.prog) (t := 22) (hB.le A3.1) el_22 ei_3 rfl;have A12 := A3.ext (hB.le A3.1) a13;replace S11 : Sep G9 (Fr H) [AL.box p4 [v0_0, v0_1], flat1 v8 3 (ints (@List.nil Int))] := S11;refine .sr fun K hK => ?_;simp [q10, a13.to_pre];apply hK;clear hK K;refine .sr fun K hK => ?_;simp [];apply hK;clear hK K;refine .block ?_;obtain ⟨s15, hL16, hF⟩ := bd_some hF;have S17 := S11.pick [0, 1] (by decide) rfl;have S18 := S17.weak (k := 1) rfl;refine DWp.loop (fun n env G => ∃ l1_1 : List Int, ∃ y1_6 : Int, ∃ w1_1 : Value, F_impl_Meander_way_L1 fu x1 x0_0 x0_1 n l1_1 y1_6 = some s15 ∧ Sep G (Fr H) [AL.box p4 [v0_0, v0_1], flat w1_1 3 (ints l1_1)] ∧ AgB (Fr H) H G ∧ env 1 = some (Value.int .i64 x1) ∧ env 2 = some p4 ∧ env 5 = some w1_1 ∧ env 6 = some (Value.int .i64 y1_6)) fu ⟨(@List.nil Int), x1, v8, hL16, S18, A12, by simp []⟩ ?_;rintro n1 env1 G1_ ⟨l1_1, y1_6, w1_1, hL16, S1_, A1_, e1_⟩;cases n1 with
 | zero => cases hL16
 | succ n1 =>
  simp only [F_impl_Meander_way_L1] at hL16;refine .block ?_;have q19 := S1_.fieldT (P := Try.prog) (k := 0) rfl fa_35_0;have q20 := S1_.loadF (P := Try.prog) (k := 0) rfl sz_22 ag_22 (off := 0) rfl;obtain ⟨g21, hL16⟩ := gd_some hL16;have q22 := idxG (P := Try.prog) (kk := .i64) (hx0_0.agree A1_.agree) el_22 sz_3 g21;have q23 := loadG (P := Try.prog) (hx0_0.agree A1_.agree) sz_3 ag_3 g21 0;refine .sr fun K hK => ?_;simp [e1_, q19, q20, q22, q23];apply hK;clear hK K;obtain ⟨v24, G25, q26, S27, a29, _, _⟩ := S1_.lit2 (P := Try.prog) (t := 22) (hB.le A1_.1) el_22 ei_3 rfl (Value.int .i64 y1_6) (Value.int .i64 (gat 0 x0_0 y1_6)) rfl rfl rfl rfl;have A28 := A1_.ext (hB.le A1_.1) a29;replace S27 : Sep G25 (Fr H) [AL.box p4 [v0_0, v0_1], flat w1_1 3 (ints l1_1), flat1 v24 3 (ints [y1_6, (gat 0 x0_0 y1_6)])] := S27;obtain ⟨g31, hL16⟩ := gd_some hL16;obtain ⟨v37, G32, q33, S34, a36, _, _⟩ := S27.appendG (f := (Value.int .i64)) (xs := l1_1) (ys := [y1_6, (gat 0 x0_0 y1_6)]) (P := Try.prog) (t := 22) (t2 := 22) (k := 1) rfl (hB.le A28.1) el_22 el_22 ei_3 rfl (S27.sl1 (k := 2) rfl) g31;have A35 := A28.trans a36;replace S34 : Sep G32 (Fr H) [AL.box p4 [v0_0, v0_1], flat v37 3 (ints (lapp l1_1 [y1_6, (gat 0 x0_0 y1_6)])), flat1 v24 3 (ints [y1_6, (gat 0 x0_0 y1_6)])] := S34;refine .sr fun K hK => ?_;simp [e1_, q26, a29.to_pre, q33];apply hK;clear hK K;have q38 := S34.fieldT (P := Try.prog) (k := 0) rfl fa_35_1;have q39 := S34.loadF (P := Try.prog) (k := 0) rfl sz_22 ag_22 (off := 1) rfl;obtain ⟨g40, hL16⟩ := gd_some hL16;have q41 := idxG (P := Try.prog) (kk := .i64) (hx0_1.agree A35.agree) el_22 sz_3 g40;have q42 := loadG (P := Try.prog) (hx0_1.agree A35.agree) sz_3 ag_3 g40 0;refine .sr fun K hK => ?_;simp [e1_, q38, q39, q41, q42];apply hK;clear hK K;refine .sr fun K hK => ?_
  simp [e1_];apply hK;clear hK K;refine DWp.cond' (t := (ieq (gat 0 x0_1 (gat 0 x0_0 y1_6)) x1)) (by simp [e1_]) (fun hb43 => ?_) (fun hb43 => ?_)
  ·replace hL16 := cd_t hb43 hL16;refine .sr fun K hK => ?_;simp [e1_];apply hK;clear hK K;refine DWp.ret ?_;simp only [andThen, leaves];obtain rfl := Option.some.inj hL16;simp only [lr] at hF;obtain rfl := Option.some.inj hF;exact ⟨by simp, [v37], by simp [e1_, ((S34.sl (k := 1) rfl).tup)], A35, v37, rfl, S34.pick [1] (by decide) rfl⟩
  ·replace hL16 := cd_f hb43 hL16;refine DWp.skip ?_;simp only [andThen, leaves];have S44 := S34.pick [0, 1] (by decide) rfl;exact ⟨n1, Nat.lt_succ_self _, (lapp l1_1 [y1_6, (gat 0 x0_0 y1_6)]), (gat 0 x0_1 (gat 0 x0_0 y1_6)), v37, hL16, S44, A35, by simp [e1_]⟩
end Go.Proofs.Ytjgnpkedkjbmcaa.AL

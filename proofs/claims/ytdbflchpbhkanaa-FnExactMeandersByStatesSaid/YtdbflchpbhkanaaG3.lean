/- The walks of functions, each with its Lean function: impl.in, impl.isArches, spec.stListLess, spec.stLess, laws.eqIntS, laws.markIntS, laws.heldIntS, laws.szIntS, laws.szState, laws.toIntS. No condition. -/
import Derived.Test.YtdbflchpbhkanaaG1
import Derived.Test.YtdbflchpbhkanaaG2
import Derived.Test.YtdbflchpbhkanaaALD
import Derived.Test.YtdbflchpbhkanaaProg
import Derived.KernelRfl
namespace Go.Proofs.Ytdbflchpbhkanaa.AL
open Go Go.RowKit
set_option linter.unusedVariables false
set_option linter.unusedSimpArgs false
set_option maxRecDepth 4096
attribute [local simp] n_fn b_add b_sub b_mul b_lt b_le b_gt b_ge b_eq b_ne u_not
def F_impl_in (fu : Nat) (x0 : Int) (x1 : Int) (x2 : Int) : Option (Bool) :=
  bif (ile x1 x0) then
    some (ile x0 x2)
  else
    some false
theorem F_impl_in_w {fu : Nat} {H : AH}  {x0 : Int} {x1 : Int} {x2 : Int} {r : (Bool)}  (hF : F_impl_in fu x0 x1 x2 = some r) :
    ACallT Try.prog 21 [(Value.int .i64 x0), (Value.int .i64 x1), (Value.int .i64 x2)] H (fun u G => AgB (Fr H) H G ∧ u = (Value.bool r) ∧ Sep G (Fr H) []) := by
 refine ACallT.of_body (nt := 15) (rs := [.tmp 6]) Try.func21 rfl rfl rfl rfl ?_;have A0 : AgB (Fr H) H H := .refl _ _;have S0 : Sep H (Fr H) [] := .nil;have hB := Fr.up H;unfold F_impl_in at hF;refine .sr fun K hK => ?_;simp [];apply hK;clear hK K;rcases Bool.eq_false_or_eq_true (ile x1 x0) with hb1 | hb1
 ·replace hF := cd_t hb1 hF;refine .sr fun K hK => ?_;simp [hb1];apply hK;clear hK K;refine DWp.ret ?_;obtain rfl := Option.some.inj hF;exact ⟨by simp, [(Value.bool (ile x0 x2))], by simp [], A0, rfl, S0.pick [] (by decide) rfl⟩
 ·replace hF := cd_f hb1 hF;refine .sr fun K hK => ?_;simp [hb1];apply hK;clear hK K;refine DWp.ret ?_;obtain rfl := Option.some.inj hF;exact ⟨by simp, [(Value.bool false)], by simp [], A0, rfl, S0.pick [] (by decide) rfl⟩
def F_impl_isArches (fu : Nat) (x0 : Int) : Option (Bool) :=
  bd (F_impl_in fu x0 0 6) fun r1 =>
  some r1
theorem F_impl_isArches_w {fu : Nat} {H : AH}  {x0 : Int} {r : (Bool)}  (hF : F_impl_isArches fu x0 = some r) :
    ACallT Try.prog 25 [(Value.int .i64 x0)] H (fun u G => AgB (Fr H) H G ∧ u = (Value.bool r) ∧ Sep G (Fr H) []) := by
 refine ACallT.of_body (nt := 5) (rs := [.tmp 2]) Try.func25 rfl rfl rfl rfl ?_;have A0 : AgB (Fr H) H H := .refl _ _;have S0 : Sep H (Fr H) [] := .nil;have hB := Fr.up H;unfold F_impl_isArches at hF;refine .sr fun K hK => ?_;simp [];apply hK;clear hK K;obtain ⟨r1, hc1, hF⟩ := bd_some hF;refine .sr fun K hK => ?_;simp [];refine CallD.t (F_impl_in_w (fu := fu)  hc1) ?_;rintro _ G3 ⟨a6, rfl, S7⟩;have A5 := A0.ext (hB.le A0.1) a6.agree;have S4 : Sep G3 (Fr H) [] := S0.app a6.agree S7 (fun _ h => h) (hB.le A0.1);simp [a6.pre];apply hK;clear hK K;refine DWp.ret ?_;obtain rfl := Option.some.inj hF;exact ⟨by simp, [(Value.bool r1)], by simp [], A5, rfl, S4.pick [] (by decide) rfl⟩
def F_spec_stListLess_L1 (fu : Nat) (k1_0 : List Int) (k1_1 : List Int) (k1_2 : Int) : Nat → Int → Option (LR (Int) (Int))
  | 0, _ => none
  | n + 1, y1_9 =>
    bif (ilt y1_9 k1_2) then
      gd (inL k1_0 y1_9) (
      bif (ile (llen k1_1) y1_9) then
        some (.ret 1)
      else
        gd (inL k1_1 y1_9) (
        bif (ine (gat 0 k1_0 y1_9) (gat 0 k1_1 y1_9)) then
          gd (inL k1_1 y1_9) (
          some (.ret (isub .i64 (gat 0 k1_0 y1_9) (gat 0 k1_1 y1_9))))
        else
          F_spec_stListLess_L1 fu k1_0 k1_1 k1_2 n (iadd .i64 y1_9 1)))
    else
      some (.brk y1_9)
def F_spec_stListLess (fu : Nat) (x0 : List Int) (x1 : List Int) : Option (Int) :=
  bd (F_spec_stListLess_L1 fu x0 x1 (llen x0) fu 0) fun s1 =>
  lr s1 fun s1 =>
  some (isub .i64 (llen x0) (llen x1))
theorem F_spec_stListLess_w {fu : Nat} {H : AH} {v0 : Value} {v1 : Value} {x0 : List Int} {x1 : List Int} {r : (Int)} (hx0 : Sl H v0 (ints x0)) (hx1 : Sl H v1 (ints x1)) (hF : F_spec_stListLess fu x0 x1 = some r) :
    ACallT Try.prog 46 [v0, v1] H (fun u G => AgB (Fr H) H G ∧ u = (Value.int .i64 r) ∧ Sep G (Fr H) []) := by
 refine ACallT.of_body (nt := 36) (rs := [.tmp 4]) Try.func46 rfl rfl rfl rfl ?_;have A0 : AgB (Fr H) H H := .refl _ _;have S0 : Sep H (Fr H) [] := .nil;have hB := Fr.up H;unfold F_spec_stListLess at hF;refine .sr fun K hK => ?_;simp [];apply hK;clear hK K;refine .seq ?_;have q1 := lenG (P := Try.prog) (hx0.agree A0.agree) el_25;refine .sr fun K hK => ?_;simp [q1];apply hK;clear hK K;refine .block ?_;obtain ⟨s2, hL3, hF⟩ := bd_some hF;have S4 := S0.pick [] (by decide) rfl;refine DWp.loop (fun n env G => ∃ y1_9 : Int, F_spec_stListLess_L1 fu x0 x1 (llen x0) n y1_9 = some s2 ∧ Sep G (Fr H) [] ∧ AgB (Fr H) H G ∧ env 0 = some v0 ∧ env 1 = some v1 ∧ env 7 = some v0 ∧ env 8 = some (Value.int .i64 (llen x0)) ∧ env 9 = some (Value.int .i64 y1_9)) fu ⟨0, hL3, S4, A0, by simp []⟩ ?_;rintro n1 env1 G1_ ⟨y1_9, hL3, S1_, A1_, e1_⟩;cases n1 with
 | zero => cases hL3
 | succ n1 =>
  simp only [F_spec_stListLess_L1] at hL3;refine .sr fun K hK => ?_;simp [e1_];apply hK;clear hK K;refine .seq ?_;refine DWp.cond' (t := (ilt y1_9 (llen x0))) (by simp [e1_]) (fun hb5 => ?_) (fun hb5 => ?_)
  ·replace hL3 := cd_t hb5 hL3;refine DWp.skip ?_;simp only [andThen, leaves];refine .seq ?_;refine .block ?_;obtain ⟨g6, hL3⟩ := gd_some hL3;have q7 := idxG (P := Try.prog) (kk := .i64) (hx0.agree A1_.agree) el_25 sz_3 g6;have q8 := loadG (P := Try.prog) (hx0.agree A1_.agree) sz_3 ag_3 g6 0;refine .sr fun K hK => ?_;simp [e1_, q7, q8];apply hK;clear hK K;refine .seq ?_;have q9 := lenG (P := Try.prog) (hx1.agree A1_.agree) el_25;refine .sr fun K hK => ?_;simp [e1_, q9];apply hK;clear hK K;refine DWp.cond' (t := (ile (llen x1) y1_9)) (by simp [e1_]) (fun hb10 => ?_) (fun hb10 => ?_)
   ·replace hL3 := cd_t hb10 hL3;refine .sr fun K hK => ?_;simp [e1_];apply hK;clear hK K;refine DWp.ret ?_;simp only [andThen, leaves];obtain rfl := Option.some.inj hL3;simp only [lr] at hF;obtain rfl := Option.some.inj hF;exact ⟨by simp, [(Value.int .i64 1)], by simp [e1_], A1_, rfl, S1_.pick [] (by decide) rfl⟩
   ·replace hL3 := cd_f hb10 hL3;refine DWp.skip ?_;simp only [andThen, leaves];obtain ⟨g11, hL3⟩ := gd_some hL3;have q12 := idxG (P := Try.prog) (kk := .i64) (hx1.agree A1_.agree) el_25 sz_3 g11;have q13 := loadG (P := Try.prog) (hx1.agree A1_.agree) sz_3 ag_3 g11 0;refine .sr fun K hK => ?_;simp [e1_, q12, q13];apply hK;clear hK K;refine DWp.cond' (t := (ine (gat 0 x0 y1_9) (gat 0 x1 y1_9))) (by simp [e1_]) (fun hb14 => ?_) (fun hb14 => ?_)
    ·replace hL3 := cd_t hb14 hL3;obtain ⟨g15, hL3⟩ := gd_some hL3;have q16 := idxG (P := Try.prog) (kk := .i64) (hx1.agree A1_.agree) el_25 sz_3 g15;have q17 := loadG (P := Try.prog) (hx1.agree A1_.agree) sz_3 ag_3 g15 0;refine .sr fun K hK => ?_;simp [e1_, q16, q17];apply hK;clear hK K;refine DWp.ret ?_;simp only [andThen, leaves];obtain rfl := Option.some.inj hL3;simp only [lr] at hF;obtain rfl := Option.some.inj hF;exact ⟨by simp, [(Value.int .i64 (isub .i64 (gat 0 x0 y1_9) (gat 0 x1 y1_9)))], by simp [e1_], A1_, rfl, S1_.pick [] (by decide) rfl⟩
    ·replace hL3 := cd_f hb14 hL3;refine DWp.skip ?_;simp only [andThen, leaves];refine .region fun K hK => ?_;simp [e1_];apply hK;clear hK K;simp only [andThen, leaves];have S18 := S1_.pick [] (by decide) rfl;exact ⟨n1, Nat.lt_succ_self _, (iadd .i64 y1_9 1), hL3, S18, A1_, by simp [e1_]⟩
  ·replace hL3 := cd_f hb5 hL3;refine DWp.exit ?_;simp only [andThen, leaves, if_true, if_false, reduceIte, Nat.reduceEqDiff];obtain rfl := Option.some.inj hL3;simp only [lr] at hF;have q19 := lenG (P := Try.prog) (hx0.agree A1_.agree) el_25;have q20 := lenG (P := Try.prog) (hx1.agree A1_.agree) el_25;refine .sr fun K hK => ?_;simp [e1_, q19, q20];apply hK;clear hK K;refine DWp.ret ?_;obtain rfl := Option.some.inj hF;exact ⟨by simp, [(Value.int .i64 (isub .i64 (llen x0) (llen x1)))], by simp [e1_], A1_, rfl, S1_.pick [] (by decide) rfl⟩
def F_spec_stLess (fu : Nat) (x0_0 : List Int) (x0_1 : List Int) (x0_2 : Int) (x1_0 : List Int) (x1_1 : List Int) (x1_2 : Int) : Option (Bool) :=
  bif (ine (llen x0_0) (llen x1_0)) then
    some (ilt (llen x0_0) (llen x1_0))
  else
    bd (F_spec_stListLess fu x0_0 x1_0) fun r1 =>
    bif (ine r1 0) then
      some (ilt r1 0)
    else
      bd (F_spec_stListLess fu x0_1 x1_1) fun r2 =>
      bif (ine r2 0) then
        some (ilt r2 0)
      else
        some (ilt x0_2 x1_2)
theorem F_spec_stLess_w {fu : Nat} {H : AH} {v0_0 : Value} {v0_1 : Value} {v1_0 : Value} {v1_1 : Value} {x0_0 : List Int} {x0_1 : List Int} {x0_2 : Int} {x1_0 : List Int} {x1_1 : List Int} {x1_2 : Int} {r : (Bool)} (hx0_0 : Sl H v0_0 (ints x0_0)) (hx0_1 : Sl H v0_1 (ints x0_1)) (hx1_0 : Sl H v1_0 (ints x1_0)) (hx1_1 : Sl H v1_1 (ints x1_1)) (hF : F_spec_stLess fu x0_0 x0_1 x0_2 x1_0 x1_1 x1_2 = some r) :
    ACallT Try.prog 33 [(Value.agg #[v0_0, v0_1, (Value.int .i64 x0_2)]), (Value.agg #[v1_0, v1_1, (Value.int .i64 x1_2)])] H (fun u G => AgB (Fr H) H G ∧ u = (Value.bool r) ∧ Sep G (Fr H) []) := by
 refine ACallT.of_body (nt := 44) (rs := [.tmp 4]) Try.func33 rfl rfl rfl rfl ?_;have A0 : AgB (Fr H) H H := .refl _ _;have S0 : Sep H (Fr H) [] := .nil;have hB := Fr.up H;unfold F_spec_stLess at hF;obtain ⟨G2, p4, q5, q6, a7, S1⟩ := S0.boxT (hB.le A0.1) 34 [v0_0, v0_1, (Value.int .i64 x0_2)];have A3 := A0.ext (hB.le A0.1) a7;replace S1 : Sep G2 (Fr H) [AL.box p4 [v0_0, v0_1, (Value.int .i64 x0_2)]] := S1;obtain ⟨G9, p11, q12, q13, a14, S8⟩ := S1.boxT (hB.le A3.1) 34 [v1_0, v1_1, (Value.int .i64 x1_2)];have A10 := A3.ext (hB.le A3.1) a14;replace S8 : Sep G9 (Fr H) [AL.box p4 [v0_0, v0_1, (Value.int .i64 x0_2)], AL.box p11 [v1_0, v1_1, (Value.int .i64 x1_2)]] := S8;refine .sr fun K hK => ?_;simp [q5, q6, a7.to_pre, cells_agg, q12, q13, a14.to_pre];apply hK;clear hK K;refine .seq ?_;have q15 := S8.fieldT (P := Try.prog) (k := 0) rfl fa_34_0;have q16 := S8.loadF (P := Try.prog) (k := 0) rfl sz_25 ag_25 (off := 0) rfl;have q17 := lenG (P := Try.prog) (hx0_0.agree A10.agree) el_25;have q18 := S8.fieldT (P := Try.prog) (k := 1) rfl fa_34_0;have q19 := S8.loadF (P := Try.prog) (k := 1) rfl sz_25 ag_25 (off := 0) rfl;have q20 := lenG (P := Try.prog) (hx1_0.agree A10.agree) el_25;refine .sr fun K hK => ?_;simp [q15, q16, q17, q18, q19, q20];apply hK;clear hK K;refine DWp.cond' (t := (ine (llen x0_0) (llen x1_0))) (by simp []) (fun hb21 => ?_) (fun hb21 => ?_)
 ·replace hF := cd_t hb21 hF;have q22 := S8.fieldT (P := Try.prog) (k := 0) rfl fa_34_0;have q23 := S8.loadF (P := Try.prog) (k := 0) rfl sz_25 ag_25 (off := 0) rfl;have q24 := lenG (P := Try.prog) (hx0_0.agree A10.agree) el_25;have q25 := S8.fieldT (P := Try.prog) (k := 1) rfl fa_34_0;have q26 := S8.loadF (P := Try.prog) (k := 1) rfl sz_25 ag_25 (off := 0) rfl;have q27 := lenG (P := Try.prog) (hx1_0.agree A10.agree) el_25;refine .sr fun K hK => ?_;simp [q22, q23, q24, q25, q26, q27];apply hK;clear hK K;refine DWp.ret ?_;simp only [andThen, leaves];obtain rfl := Option.some.inj hF;exact ⟨by simp, [(Value.bool (ilt (llen x0_0) (llen x1_0)))], by simp [], A10, rfl, S8.pick [] (by decide) rfl⟩
 ·replace hF := cd_f hb21 hF;refine DWp.skip ?_;simp only [andThen, leaves];refine .seq ?_;have q28 := S8.fieldT (P := Try.prog) (k := 0) rfl fa_34_0;have q29 := S8.loadF (P := Try.prog) (k := 0) rfl sz_25 ag_25 (off := 0) rfl;have q30 := S8.fieldT (P := Try.prog) (k := 1) rfl fa_34_0;have q31 := S8.loadF (P := Try.prog) (k := 1) rfl sz_25 ag_25 (off := 0) rfl;obtain ⟨r1, hc32, hF⟩ := bd_some hF;refine .sr fun K hK => ?_;simp [q28, q29, q30, q31, ((hx0_0.agree A10.agree).tup), ((hx1_0.agree A10.agree).tup)];refine CallD.t (F_spec_stListLess_w (fu := fu) (hx0_0.agree A10.agree) (hx1_0.agree A10.agree) hc32) ?_;rintro _ G34 ⟨a37, rfl, S38⟩;have A36 := A10.ext (hB.le A10.1) a37.agree;have S35 : Sep G34 (Fr H) [AL.box p4 [v0_0, v0_1, (Value.int .i64 x0_2)], AL.box p11 [v1_0, v1_1, (Value.int .i64 x1_2)]] := S8.app a37.agree S38 (fun _ h => h) (hB.le A10.1);simp [q28, q29, q30, q31, a37.pre];apply hK;clear hK K;refine .sr fun K hK => ?_;simp [];apply hK;clear hK K;refine DWp.cond' (t := (ine r1 0)) (by simp []) (fun hb39 => ?_) (fun hb39 => ?_)
  ·replace hF := cd_t hb39 hF;refine .sr fun K hK => ?_;simp [];apply hK;clear hK K;refine DWp.ret ?_;simp only [andThen, leaves];obtain rfl := Option.some.inj hF;exact ⟨by simp, [(Value.bool (ilt r1 0))], by simp [], A36, rfl, S35.pick [] (by decide) rfl⟩
  ·replace hF := cd_f hb39 hF;refine DWp.skip ?_;simp only [andThen, leaves];refine .seq ?_;have q40 := S35.fieldT (P := Try.prog) (k := 0) rfl fa_34_1;have q41 := S35.loadF (P := Try.prog) (k := 0) rfl sz_25 ag_25 (off := 1) rfl;have q42 := S35.fieldT (P := Try.prog) (k := 1) rfl fa_34_1;have q43 := S35.loadF (P := Try.prog) (k := 1) rfl sz_25 ag_25 (off := 1) rfl;obtain ⟨r2, hc44, hF⟩ := bd_some hF;refine .sr fun K hK => ?_;simp [q40, q41, q42, q43, ((hx0_1.agree A36.agree).tup), ((hx1_1.agree A36.agree).tup)];refine CallD.t (F_spec_stListLess_w (fu := fu) (hx0_1.agree A36.agree) (hx1_1.agree A36.agree) hc44) ?_;rintro _ G46 ⟨a49, rfl, S50⟩;have A48 := A36.ext (hB.le A36.1) a49.agree;have S47 : Sep G46 (Fr H) [AL.box p4 [v0_0, v0_1, (Value.int .i64 x0_2)], AL.box p11 [v1_0, v1_1, (Value.int .i64 x1_2)]] := S35.app a49.agree S50 (fun _ h => h) (hB.le A36.1);simp [q40, q41, q42, q43, a49.pre];apply hK;clear hK K;refine .sr fun K hK => ?_;simp [];apply hK;clear hK K;refine DWp.cond' (t := (ine r2 0)) (by simp []) (fun hb51 => ?_) (fun hb51 => ?_)
   ·replace hF := cd_t hb51 hF;refine .sr fun K hK => ?_;simp [];apply hK;clear hK K;refine DWp.ret ?_;simp only [andThen, leaves];obtain rfl := Option.some.inj hF;exact ⟨by simp, [(Value.bool (ilt r2 0))], by simp [], A48, rfl, S47.pick [] (by decide) rfl⟩
   ·replace hF := cd_f hb51 hF;refine DWp.skip ?_;simp only [andThen, leaves];have q52 := S47.fieldT (P := Try.prog) (k := 0) rfl fa_34_2;have q53 := S47.loadF (P := Try.prog) (k := 0) rfl sz_3 ag_3 (off := 2) rfl;have q54 := S47.fieldT (P := Try.prog) (k := 1) rfl fa_34_2;have q55 := S47.loadF (P := Try.prog) (k := 1) rfl sz_3 ag_3 (off := 2) rfl;refine .sr fun K hK => ?_;simp [q52, q53, q54, q55];apply hK;clear hK K;refine DWp.ret ?_;obtain rfl := Option.some.inj hF;exact ⟨by simp, [(Value.bool (ilt x0_2 x1_2))], by simp [], A48, rfl, S47.pick [] (by decide) rfl⟩
end Go.Proofs.Ytdbflchpbhkanaa.AL

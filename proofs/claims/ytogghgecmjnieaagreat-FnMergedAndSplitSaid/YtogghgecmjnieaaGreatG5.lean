/- The walks of functions, each with its Lean function: cmp.Compare[int], slices.Compare[[]int,int], impl.couples$1, impl.couples, slices.Index[[][2]int,[2]int], slices.Contains[[][2]int,[2]int], slices.Clone[[]int,int], impl.exchanged$1, impl.exchanged, impl.ExchangeAt. No condition. -/
import Derived.Test.YtogghgecmjnieaaGreatG1
import Derived.Test.YtogghgecmjnieaaGreatG2
import Derived.Test.YtogghgecmjnieaaGreatG3
import Derived.Test.YtogghgecmjnieaaGreatG4
import Derived.Test.YtogghgecmjnieaaGreatALD
import Derived.Test.YtogghgecmjnieaaGreatProg
import Derived.KernelRfl
namespace Go.Proofs.YtogghgecmjnieaaGreat.AL
open Go Go.RowKit
set_option linter.unusedVariables false
set_option linter.unusedSimpArgs false
set_option maxRecDepth 4096
attribute [local simp] n_fn b_add b_sub b_mul b_lt b_le b_gt b_ge b_eq b_ne u_not
theorem ei_66 : einfo Tryz.prog 66 = some ⟨2, 16, .agg #[.int .i64 0, .int .i64 0]⟩ := by kernel_rfl
theorem pl_66 : placeT Tryz.prog 66 = some (.agg #[.int .i64 0, .int .i64 0], fun i => some (i * 1, 1)) := by kernel_rfl
theorem ua_66 : Tryz.prog.underlying 66 = some (.array 2 3) := by kernel_rfl
theorem us_24 : Tryz.prog.underlying 24 = some (.slice 3) := by kernel_rfl
theorem ze_24 : zeroT Tryz.prog 24 = some (.slice none 0 0) := by kernel_rfl
theorem bu_66 {a0 a1 : Value} (t0 : isTup a0 = false) (c0 : a0.cells = #[a0]) (t1 : isTup a1 = false) (c1 : a1.cells = #[a1]) : aBuild Tryz.prog 66 [(0, a0), (1, a1)] = some (.agg #[a0, a1]) := buildA2 pl_66 rfl rfl t0 c0 t1 c1
def F_cmp_Compare_int (fu : Nat) (x0 : Int) (x1 : Int) : Option (Int) :=
  bd (F_cmp_isNaN_int fu x0) fun r1 =>
  bd (F_cmp_isNaN_int fu x1) fun r2 =>
  bif r1 then
    bif r2 then
      some 0
    else
      some (-1)
  else
    bif r2 then
      some 1
    else
      bif (ilt x0 x1) then
        some (-1)
      else
        bif (ilt x1 x0) then
          some 1
        else
          some 0
theorem F_cmp_Compare_int_w {fu : Nat} {H : AH}  {x0 : Int} {x1 : Int} {r : (Int)}  (hF : F_cmp_Compare_int fu x0 x1 = some r) :
    ACallT Tryz.prog 129 [(Value.int .i64 x0), (Value.int .i64 x1)] H (fun u G => AgB (Fr H) H G ∧ u = (Value.int .i64 r) ∧ Sep G (Fr H) []) := by
 refine ACallT.of_body (nt := 20) (rs := [.tmp 4]) Tryz.func129 rfl rfl rfl rfl ?_;have A0 : AgB (Fr H) H H := .refl _ _;have S0 : Sep H (Fr H) [] := .nil;have hB := Fr.up H;unfold F_cmp_Compare_int at hF;refine .sr fun K hK => ?_;simp [];apply hK;obtain ⟨r1, hc1, hF⟩ := bd_some hF;refine .sr fun K hK => ?_;simp [];refine CallD.t (F_cmp_isNaN_int_w (fu := fu)  hc1) ?_;rintro _ G3 ⟨a6, rfl, S7⟩;have A5 := A0.ext (hB.le A0.1) a6.agree;have S4 : Sep G3 (Fr H) [] := S0.app a6.agree S7 (fun _ h => h) (hB.le A0.1);simp [a6.pre];apply hK;obtain ⟨r2, hc8, hF⟩ := bd_some hF;refine .sr fun K hK => ?_;simp [];refine CallD.t (F_cmp_isNaN_int_w (fu := fu)  hc8) ?_;rintro _ G10 ⟨a13, rfl, S14⟩;have A12 := A5.ext (hB.le A5.1) a13.agree;have S11 : Sep G10 (Fr H) [] := S4.app a13.agree S14 (fun _ h => h) (hB.le A5.1);simp [a13.pre];apply hK;refine .seq ?_;refine .sr fun K hK => ?_;simp [];apply hK;refine DWp.cond' (t := r1) (by simp []) (fun hb15 => ?_) (fun hb15 => ?_)
 ·replace hF := cd_t hb15 hF;refine .seq ?_;refine .sr fun K hK => ?_;simp [];apply hK;refine DWp.cond' (t := r2) (by simp []) (fun hb16 => ?_) (fun hb16 => ?_)
  ·replace hF := cd_t hb16 hF;refine .sr fun K hK => ?_;simp [];apply hK;refine DWp.ret ?_;simp only [andThen, leaves];obtain rfl := Option.some.inj hF;exact ⟨by simp, [(Value.int .i64 0)], by simp [], A12, rfl, S11.pick [] (by decide) rfl⟩
  ·replace hF := cd_f hb16 hF;refine DWp.skip ?_;simp only [andThen, leaves];refine .sr fun K hK => ?_;simp [];apply hK;refine DWp.ret ?_;simp only [andThen, leaves];obtain rfl := Option.some.inj hF;exact ⟨by simp, [(Value.int .i64 (-1))], by simp [], A12, rfl, S11.pick [] (by decide) rfl⟩
 ·replace hF := cd_f hb15 hF;refine DWp.skip ?_;simp only [andThen, leaves];refine .seq ?_;refine .sr fun K hK => ?_;simp [];apply hK;refine DWp.cond' (t := r2) (by simp []) (fun hb17 => ?_) (fun hb17 => ?_)
  ·replace hF := cd_t hb17 hF;refine .sr fun K hK => ?_;simp [];apply hK;refine DWp.ret ?_;simp only [andThen, leaves];obtain rfl := Option.some.inj hF;exact ⟨by simp, [(Value.int .i64 1)], by simp [], A12, rfl, S11.pick [] (by decide) rfl⟩
  ·replace hF := cd_f hb17 hF;refine DWp.skip ?_;simp only [andThen, leaves];refine .seq ?_;refine .sr fun K hK => ?_;simp [];apply hK;refine DWp.cond' (t := (ilt x0 x1)) (by simp []) (fun hb18 => ?_) (fun hb18 => ?_)
   ·replace hF := cd_t hb18 hF;refine .sr fun K hK => ?_;simp [];apply hK;refine DWp.ret ?_;simp only [andThen, leaves];obtain rfl := Option.some.inj hF;exact ⟨by simp, [(Value.int .i64 (-1))], by simp [], A12, rfl, S11.pick [] (by decide) rfl⟩
   ·replace hF := cd_f hb18 hF;refine DWp.skip ?_;simp only [andThen, leaves];refine .seq ?_;refine .sr fun K hK => ?_;simp [];apply hK;refine DWp.cond' (t := (ilt x1 x0)) (by simp []) (fun hb19 => ?_) (fun hb19 => ?_)
    ·replace hF := cd_t hb19 hF;refine .sr fun K hK => ?_;simp [];apply hK;refine DWp.ret ?_;simp only [andThen, leaves];obtain rfl := Option.some.inj hF;exact ⟨by simp, [(Value.int .i64 1)], by simp [], A12, rfl, S11.pick [] (by decide) rfl⟩
    ·replace hF := cd_f hb19 hF;refine DWp.skip ?_;simp only [andThen, leaves];refine .sr fun K hK => ?_;simp [];apply hK;refine DWp.ret ?_;obtain rfl := Option.some.inj hF;exact ⟨by simp, [(Value.int .i64 0)], by simp [], A12, rfl, S11.pick [] (by decide) rfl⟩
def F_slices_Compare_Sint_L1 (fu : Nat) (k1_0 : List Int) (k1_1 : List Int) (k1_2 : Int) : Nat → Int → Option (LR (Int) (Int))
  | 0, _ => none
  | n + 1, y1_11 =>
    bif (ilt y1_11 k1_2) then
      gd (inL k1_0 y1_11) (
      bif (ile (llen k1_1) y1_11) then
        some (.ret 1)
      else
        gd (inL k1_1 y1_11) (
        bd (F_cmp_Compare_int fu (gat 0 k1_0 y1_11) (gat 0 k1_1 y1_11)) fun r1 =>
        bif (ine r1 0) then
          some (.ret r1)
        else
          F_slices_Compare_Sint_L1 fu k1_0 k1_1 k1_2 n (iadd .i64 y1_11 1)))
    else
      some (.brk y1_11)
def F_slices_Compare_Sint (fu : Nat) (x0 : List Int) (x1 : List Int) : Option (Int) :=
  bd (F_slices_Compare_Sint_L1 fu x0 x1 (llen x0) fu 0) fun s1 =>
  lr s1 fun s1 =>
  bif (ilt (llen x0) (llen x1)) then
    some (-1)
  else
    some 0
theorem F_slices_Compare_Sint_w {fu : Nat} {H : AH} {v0 : Value} {v1 : Value} {x0 : List Int} {x1 : List Int} {r : (Int)} (hx0 : Sl H v0 (ints x0)) (hx1 : Sl H v1 (ints x1)) (hF : F_slices_Compare_Sint fu x0 x1 = some r) :
    ACallT Tryz.prog 102 [v0, v1] H (fun u G => AgB (Fr H) H G ∧ u = (Value.int .i64 r) ∧ Sep G (Fr H) []) := by
 refine ACallT.of_body (nt := 36) (rs := [.tmp 4]) Tryz.func102 rfl rfl rfl rfl ?_;have A0 : AgB (Fr H) H H := .refl _ _;have S0 : Sep H (Fr H) [] := .nil;have hB := Fr.up H;unfold F_slices_Compare_Sint at hF;refine .sr fun K hK => ?_;simp [];apply hK;refine .seq ?_;have q1 := lenG (hx0.agree A0.agree) el_24;refine .sr fun K hK => ?_;simp [q1];apply hK;refine .block ?_;obtain ⟨s2, hL3, hF⟩ := bd_some hF;have S4 := S0.pick [] (by decide) rfl;refine DWp.loop (fun n env G => ∃ y1_11 : Int, F_slices_Compare_Sint_L1 fu x0 x1 (llen x0) n y1_11 = some s2 ∧ Sep G (Fr H) [] ∧ AgB (Fr H) H G ∧ env 0 = some v0 ∧ env 1 = some v1 ∧ env 9 = some v0 ∧ env 10 = some (Value.int .i64 (llen x0)) ∧ env 11 = some (Value.int .i64 y1_11)) fu ⟨0, hL3, S4, A0, by simp []⟩ ?_;rintro n1 env1 G1_ ⟨y1_11, hL3, S1_, A1_, e1_⟩;cases n1 with
 | zero => cases hL3
 | succ n1 =>
  simp only [F_slices_Compare_Sint_L1] at hL3;refine .sr fun K hK => ?_;simp [e1_];apply hK;refine .seq ?_;refine DWp.cond' (t := (ilt y1_11 (llen x0))) (by simp [e1_]) (fun hb5 => ?_) (fun hb5 => ?_)
  ·replace hL3 := cd_t hb5 hL3;refine DWp.skip ?_;simp only [andThen, leaves];refine .seq ?_;refine .block ?_;obtain ⟨g6, hL3⟩ := gd_some hL3;have q7 := idxG (kk := .i64) (hx0.agree A1_.agree) el_24 sz_3 g6;have q8 := loadG (hx0.agree A1_.agree) sz_3 ag_3 g6 0;refine .sr fun K hK => ?_;simp [e1_, q7, q8];apply hK;refine .seq ?_;have q9 := lenG (hx1.agree A1_.agree) el_24;refine .sr fun K hK => ?_;simp [e1_, q9];apply hK;refine DWp.cond' (t := (ile (llen x1) y1_11)) (by simp [e1_]) (fun hb10 => ?_) (fun hb10 => ?_)
   ·replace hL3 := cd_t hb10 hL3;refine .sr fun K hK => ?_;simp [e1_];apply hK;refine DWp.ret ?_;simp only [andThen, leaves];obtain rfl := Option.some.inj hL3;simp only [lr] at hF;obtain rfl := Option.some.inj hF;exact ⟨by simp, [(Value.int .i64 1)], by simp [e1_], A1_, rfl, S1_.pick [] (by decide) rfl⟩
   ·replace hL3 := cd_f hb10 hL3;refine DWp.skip ?_;simp only [andThen, leaves];obtain ⟨g11, hL3⟩ := gd_some hL3;have q12 := idxG (kk := .i64) (hx1.agree A1_.agree) el_24 sz_3 g11;have q13 := loadG (hx1.agree A1_.agree) sz_3 ag_3 g11 0;refine .sr fun K hK => ?_;simp [e1_, q12, q13];apply hK;obtain ⟨r1, hc14, hL3⟩ := bd_some hL3;refine .sr fun K hK => ?_;simp [e1_];refine CallD.t (F_cmp_Compare_int_w (fu := fu)  hc14) ?_;rintro _ G16 ⟨a19, rfl, S20⟩;have A18 := A1_.ext (hB.le A1_.1) a19.agree;have S17 : Sep G16 (Fr H) [] := S1_.app a19.agree S20 (fun _ h => h) (hB.le A1_.1);simp [e1_, a19.pre];apply hK;refine .sr fun K hK => ?_;simp [e1_];apply hK;refine DWp.cond' (t := (ine r1 0)) (by simp [e1_]) (fun hb21 => ?_) (fun hb21 => ?_)
    ·replace hL3 := cd_t hb21 hL3;refine .sr fun K hK => ?_;simp [e1_];apply hK;refine DWp.ret ?_;simp only [andThen, leaves];obtain rfl := Option.some.inj hL3;simp only [lr] at hF;obtain rfl := Option.some.inj hF;exact ⟨by simp, [(Value.int .i64 r1)], by simp [e1_], A18, rfl, S17.pick [] (by decide) rfl⟩
    ·replace hL3 := cd_f hb21 hL3;refine DWp.skip ?_;simp only [andThen, leaves];refine .region fun K hK => ?_;simp [e1_];apply hK;simp only [andThen, leaves];have S22 := S17.pick [] (by decide) rfl;exact ⟨n1, Nat.lt_succ_self _, (iadd .i64 y1_11 1), hL3, S22, A18, by simp [e1_]⟩
  ·replace hL3 := cd_f hb5 hL3;refine DWp.exit ?_;simp only [andThen, leaves, if_true, if_false, reduceIte, Nat.reduceEqDiff];obtain rfl := Option.some.inj hL3;simp only [lr] at hF;refine .seq ?_;have q23 := lenG (hx0.agree A1_.agree) el_24;have q24 := lenG (hx1.agree A1_.agree) el_24;refine .sr fun K hK => ?_;simp [e1_, q23, q24];apply hK;refine DWp.cond' (t := (ilt (llen x0) (llen x1))) (by simp [e1_]) (fun hb25 => ?_) (fun hb25 => ?_)
   ·replace hF := cd_t hb25 hF;refine .sr fun K hK => ?_;simp [e1_];apply hK;refine DWp.ret ?_;simp only [andThen, leaves];obtain rfl := Option.some.inj hF;exact ⟨by simp, [(Value.int .i64 (-1))], by simp [e1_], A1_, rfl, S1_.pick [] (by decide) rfl⟩
   ·replace hF := cd_f hb25 hF;refine DWp.skip ?_;simp only [andThen, leaves];refine .sr fun K hK => ?_;simp [e1_];apply hK;refine DWp.ret ?_;obtain rfl := Option.some.inj hF;exact ⟨by simp, [(Value.int .i64 0)], by simp [e1_], A1_, rfl, S1_.pick [] (by decide) rfl⟩
def F_impl_couples_1 (fu : Nat) (x0_0 : Int) (x0_1 : Int) (x1_0 : Int) (x1_1 : Int) : Option (Int) :=
  bd (F_slices_Compare_Sint fu [x0_0, x0_1] [x1_0, x1_1]) fun r1 =>
  some r1
theorem F_impl_couples_1_w {fu : Nat} {H : AH}  {x0_0 : Int} {x0_1 : Int} {x1_0 : Int} {x1_1 : Int} {r : (Int)}  (hF : F_impl_couples_1 fu x0_0 x0_1 x1_0 x1_1 = some r) :
    ACallT Tryz.prog 101 [(Value.agg #[(Value.int .i64 x0_0), (Value.int .i64 x0_1)]), (Value.agg #[(Value.int .i64 x1_0), (Value.int .i64 x1_1)])] H (fun u G => AgB (Fr H) H G ∧ u = (Value.int .i64 r) ∧ Sep G (Fr H) []) := by
 refine ACallT.of_body (nt := 8) (rs := [.tmp 4]) Tryz.func101 rfl rfl rfl rfl ?_;have A0 : AgB (Fr H) H H := .refl _ _;have S0 : Sep H (Fr H) [] := .nil;have hB := Fr.up H;unfold F_impl_couples_1 at hF;obtain ⟨G2, p4, q5, q6, a7, S1⟩ := S0.boxT (hB.le A0.1) 66 [(Value.int .i64 x0_0), (Value.int .i64 x0_1)];have A3 := A0.ext (hB.le A0.1) a7;replace S1 : Sep G2 (Fr H) [AL.box p4 [(Value.int .i64 x0_0), (Value.int .i64 x0_1)]] := S1;obtain ⟨G9, p11, q12, q13, a14, S8⟩ := S1.boxT (hB.le A3.1) 66 [(Value.int .i64 x1_0), (Value.int .i64 x1_1)];have A10 := A3.ext (hB.le A3.1) a14;replace S8 : Sep G9 (Fr H) [AL.box p4 [(Value.int .i64 x0_0), (Value.int .i64 x0_1)], AL.box p11 [(Value.int .i64 x1_0), (Value.int .i64 x1_1)]] := S8;refine .sr fun K hK => ?_;simp [q5, q6, a7.to_pre, cells_agg, q12, q13, a14.to_pre];apply hK;have q16 := (S8.arrS (k := 0) rfl ua_66 sz_3 rfl).1;have q18 := (S8.arrS (k := 1) rfl ua_66 sz_3 rfl).1;obtain ⟨r1, hc19, hF⟩ := bd_some hF;refine .sd (B := [0, 0, 3, 7]) 4 mixed (by kernel_rfl) (by decide) fun K hK => ?_;simp [q16, ((show Sl _ _ (ints [x0_0, x0_1]) from (S8.arrS (k := 0) rfl ua_66 sz_3 rfl).2).tup), q18, ((show Sl _ _ (ints [x1_0, x1_1]) from (S8.arrS (k := 1) rfl ua_66 sz_3 rfl).2).tup)];refine CallD.t (F_slices_Compare_Sint_w (fu := fu) (show Sl _ _ (ints [x0_0, x0_1]) from (S8.arrS (k := 0) rfl ua_66 sz_3 rfl).2) (show Sl _ _ (ints [x1_0, x1_1]) from (S8.arrS (k := 1) rfl ua_66 sz_3 rfl).2) hc19) ?_;rintro _ G21 ⟨a24, rfl, S25⟩;have A23 := A10.ext (hB.le A10.1) a24.agree
 have S22 : Sep G21 (Fr H) [AL.box p4 [(Value.int .i64 x0_0), (Value.int .i64 x0_1)], AL.box p11 [(Value.int .i64 x1_0), (Value.int .i64 x1_1)]] := S8.app a24.agree S25 (fun _ h => h) (hB.le A10.1);simp [q16, ((show Sl _ _ (ints [x0_0, x0_1]) from (S8.arrS (k := 0) rfl ua_66 sz_3 rfl).2).tup), q18, ((show Sl _ _ (ints [x1_0, x1_1]) from (S8.arrS (k := 1) rfl ua_66 sz_3 rfl).2).tup), a24.pre];apply hK;refine DWp.ret ?_;obtain rfl := Option.some.inj hF;exact ⟨by simp, [(Value.int .i64 r1)], by simp [], A23, rfl, S22.pick [] (by decide) rfl⟩
def F_impl_couples_L3 (fu : Nat) (k3_0 : List Int) (k3_1 : List (List Int)) (k3_2 : Int) (k3_3 : Int) (k3_4 : Int) (k3_5 : Int) (k3_6 : Int) (k3_7 : List Int) (k3_8 : Int) : Nat → List (Int × Int) → Int → Option (List (Int × Int) × Int)
  | 0, _, _ => none
  | n + 1, l3_0, y3_30 =>
    bif (ilt y3_30 k3_8) then
      gd (inL k3_7 y3_30) (
      gd (l3_0.length + 1 ≤ 4294967296) (
      F_impl_couples_L3 fu k3_0 k3_1 k3_2 k3_3 k3_4 k3_5 k3_6 k3_7 k3_8 n (lapp l3_0 [(k3_2, (gat 0 k3_7 y3_30))]) (iadd .i64 y3_30 1)))
    else
      some (l3_0, y3_30)
def F_impl_couples_L2 (fu : Nat) (k2_0 : List Int) (k2_1 : List (List Int)) (k2_2 : Int) (k2_3 : Int) (k2_4 : Int) : Nat → List (Int × Int) → Int → Option (List (Int × Int) × Int)
  | 0, _, _ => none
  | n + 1, l2_0, y2_20 =>
    bif (ilt y2_20 k2_4) then
      gd (inL k2_0 y2_20) (
      gd (subL k2_0 (iadd .i64 y2_20 1) (llen k2_0)) (
      bd (F_impl_couples_L3 fu k2_0 k2_1 (gat 0 k2_0 y2_20) k2_2 k2_3 k2_4 y2_20 (lsub k2_0 (iadd .i64 y2_20 1) (llen k2_0)) (llen (lsub k2_0 (iadd .i64 y2_20 1) (llen k2_0))) fu l2_0 0) fun s3 =>
      F_impl_couples_L2 fu k2_0 k2_1 k2_2 k2_3 k2_4 n s3.1 (iadd .i64 y2_20 1)))
    else
      some (l2_0, y2_20)
def F_impl_couples_L1 (fu : Nat) (k1_0 : List (List Int)) (k1_1 : Int) : Nat → List (Int × Int) → Int → Option (List (Int × Int) × Int)
  | 0, _, _ => none
  | n + 1, l1_0, y1_14 =>
    bif (ilt y1_14 k1_1) then
      gd (inL k1_0 y1_14) (
      bd (F_impl_couples_L2 fu (gat [] k1_0 y1_14) k1_0 k1_1 y1_14 (llen (gat [] k1_0 y1_14)) fu l1_0 0) fun s2 =>
      F_impl_couples_L1 fu k1_0 k1_1 n s2.1 (iadd .i64 y1_14 1))
    else
      some (l1_0, y1_14)
def F_impl_couples (fu : Nat) (x0 : List Int) : Option (List (Int × Int)) :=
  bd (F_impl_faces fu x0) fun r1 =>
  bd (F_impl_couples_L1 fu r1 (llen r1) fu (@List.nil (Int × Int)) 0) fun s1 =>
  bd (F_slices_SortFunc_S_2_int fu s1.1 (fun y0_0 y0_1 y1_0 y1_1 => F_impl_couples_1 fu y0_0 y0_1 y1_0 y1_1)) fun r2 =>
  some r2
theorem F_impl_couples_w {fu : Nat} {H : AH} {v0 : Value} {x0 : List Int} {r : (List (Int × Int))} (hx0 : Sl H v0 (ints x0)) (hF : F_impl_couples fu x0 = some r) :
    ACallT Tryz.prog 57 [v0] H (fun u G => AgB (Fr H) H G ∧ ∃ u0 : Value, u = u0 ∧ Sep G (Fr H) [flatI u0 66 r]) := by
 refine ACallT.of_body (nt := 46) (rs := [.tmp 2]) Tryz.func57 rfl rfl rfl rfl ?_;have A0 : AgB (Fr H) H H := .refl _ _;have S0 : Sep H (Fr H) [] := .nil;have hB := Fr.up H;unfold F_impl_couples at hF;refine .sr fun K hK => ?_;simp [];apply hK;obtain ⟨v1, G2, q3, S4, a6, _, _⟩ := S0.litI0 (t := 65) (hB.le A0.1) el_65 ei_66 rfl;have A5 := A0.ext (hB.le A0.1) a6;replace S4 : Sep G2 (Fr H) [flatI v1 66 (@List.nil (Int × Int))] := S4;refine .sr fun K hK => ?_;simp [q3, a6.to_pre];apply hK;refine .seq ?_;obtain ⟨r1, hc7, hF⟩ := bd_some hF;refine .sr fun K hK => ?_;simp [((hx0.agree A5.agree).tup)];refine CallD.t (F_impl_faces_w (fu := fu) (hx0.agree A5.agree) hc7) ?_;rintro c8_u0 G9 ⟨a12, _, c8_C0, rfl, S13⟩;have A11 := A5.ext (hB.le A5.1) a12.agree;have S10 : Sep G9 (Fr H) [flatI v1 66 (@List.nil (Int × Int)), rowsC c8_u0 24 3 c8_C0 (List.map ints r1)] := S4.app a12.agree S13 (fun _ h => h) (hB.le A5.1);have q14 := (S10.rd (k := 1) rfl).lenG el_31;simp [a12.pre, q14];apply hK;refine .block ?_;obtain ⟨s15, hL16, hF⟩ := bd_some hF;have S17 := S10.pick [0, 1] (by decide) rfl;refine DWp.loop (fun n env G => ∃ l1_0 : List (Int × Int), ∃ y1_14 : Int, ∃ w1_0 : Value, F_impl_couples_L1 fu r1 (llen r1) n l1_0 y1_14 = some s15 ∧ Sep G (Fr H) [flatI w1_0 66 l1_0, rowsC c8_u0 24 3 c8_C0 (List.map ints r1)] ∧ AgB (Fr H) H G ∧ env 3 = some w1_0 ∧ env 12 = some c8_u0 ∧ env 13 = some (Value.int .i64 (llen r1)) ∧ env 14 = some (Value.int .i64 y1_14)) fu ⟨(@List.nil (Int × Int)), 0, v1, hL16, S17, A11, by simp []⟩ ?_;rintro n1 env1 G1_ ⟨l1_0, y1_14, w1_0, hL16, S1_, A1_, e1_⟩;cases n1 with
 | zero => cases hL16
 | succ n1 =>
  simp only [F_impl_couples_L1] at hL16;refine .sr fun K hK => ?_;simp [e1_];apply hK;refine .seq ?_;refine DWp.cond' (t := (ilt y1_14 (llen r1))) (by simp [e1_]) (fun hb18 => ?_) (fun hb18 => ?_)
  ·replace hL16 := cd_t hb18 hL16;refine DWp.skip ?_;simp only [andThen, leaves];refine .seq ?_;refine .block ?_;obtain ⟨g19, hL16⟩ := gd_some hL16;have q20 := (S1_.rd (k := 1) rfl).idxG (kk := .i64) el_31 sz_24 g19;have q21 := (S1_.rd (k := 1) rfl).loadG sz_24 ag_24 g19;refine .sr fun K hK => ?_;simp [e1_, q20, q21];apply hK;have q22 := lenG ((S1_.rd (k := 1) rfl).rowAt [] g19) el_24;refine .sr fun K hK => ?_;simp [e1_, q22];apply hK;refine .block ?_;obtain ⟨s23, hL24, hL16⟩ := bd_some hL16;have S25 := S1_.pick [0, 1] (by decide) rfl;refine DWp.loop (fun n env G => ∃ l2_0 : List (Int × Int), ∃ y2_20 : Int, ∃ w2_0 : Value, F_impl_couples_L2 fu (gat [] r1 y1_14) r1 (llen r1) y1_14 (llen (gat [] r1 y1_14)) n l2_0 y2_20 = some s23 ∧ Sep G (Fr H) [flatI w2_0 66 l2_0, rowsC c8_u0 24 3 c8_C0 (List.map ints r1)] ∧ AgB (Fr H) H G ∧ env 3 = some w2_0 ∧ env 5 = some (gat nilV c8_C0 y1_14) ∧ env 12 = some c8_u0 ∧ env 13 = some (Value.int .i64 (llen r1)) ∧ env 14 = some (Value.int .i64 y1_14) ∧ env 18 = some (gat nilV c8_C0 y1_14) ∧ env 19 = some (Value.int .i64 (llen (gat [] r1 y1_14))) ∧ env 20 = some (Value.int .i64 y2_20)) fu ⟨l1_0, 0, w1_0, hL24, S25, A1_, by simp [e1_]⟩ ?_;rintro n2 env2 G2_ ⟨l2_0, y2_20, w2_0, hL24, S2_, A2_, e2_⟩;cases n2 with
   | zero => cases hL24
   | succ n2 =>
    simp only [F_impl_couples_L2] at hL24;refine .sr fun K hK => ?_;simp [e2_];apply hK;refine .seq ?_;refine DWp.cond' (t := (ilt y2_20 (llen (gat [] r1 y1_14)))) (by simp [e2_]) (fun hb26 => ?_) (fun hb26 => ?_)
    ·replace hL24 := cd_t hb26 hL24;refine DWp.skip ?_;simp only [andThen, leaves];refine .seq ?_;refine .block ?_;obtain ⟨g27, hL24⟩ := gd_some hL24;have q28 := idxG (kk := .i64) ((S2_.rd (k := 1) rfl).rowAt [] g19) el_24 sz_3 g27;have q29 := loadG ((S2_.rd (k := 1) rfl).rowAt [] g19) sz_3 ag_3 g27 0;refine .sr fun K hK => ?_;simp [e2_, q28, q29];apply hK;obtain ⟨g30, hL24⟩ := gd_some hL24;have q31 := aSub10 (t := 24) ((S2_.rd (k := 1) rfl).rowAt [] g19) el_24 sz_3 g30;have q32 := lenG (subSl ((S2_.rd (k := 1) rfl).rowAt [] g19) g30) el_24;refine .sr fun K hK => ?_;simp [e2_, q31, ((subSl ((S2_.rd (k := 1) rfl).rowAt [] g19) g30).tup), q32];apply hK;refine .block ?_;obtain ⟨s33, hL34, hL24⟩ := bd_some hL24;have S35 := S2_.pick [0, 1] (by decide) rfl
     refine DWp.loop (fun n env G => ∃ l3_0 : List (Int × Int), ∃ y3_30 : Int, ∃ w3_0 : Value, F_impl_couples_L3 fu (gat [] r1 y1_14) r1 (gat 0 (gat [] r1 y1_14) y2_20) (llen r1) y1_14 (llen (gat [] r1 y1_14)) y2_20 (lsub (gat [] r1 y1_14) (iadd .i64 y2_20 1) (llen (gat [] r1 y1_14))) (llen (lsub (gat [] r1 y1_14) (iadd .i64 y2_20 1) (llen (gat [] r1 y1_14)))) n l3_0 y3_30 = some s33 ∧ Sep G (Fr H) [flatI w3_0 66 l3_0, rowsC c8_u0 24 3 c8_C0 (List.map ints r1)] ∧ AgB (Fr H) H G ∧ env 3 = some w3_0 ∧ env 5 = some (gat nilV c8_C0 y1_14) ∧ env 7 = some (Value.int .i64 (gat 0 (gat [] r1 y1_14) y2_20)) ∧ env 12 = some c8_u0 ∧ env 13 = some (Value.int .i64 (llen r1)) ∧ env 14 = some (Value.int .i64 y1_14) ∧ env 18 = some (gat nilV c8_C0 y1_14) ∧ env 19 = some (Value.int .i64 (llen (gat [] r1 y1_14))) ∧ env 20 = some (Value.int .i64 y2_20) ∧ env 28 = some (subV (gat nilV c8_C0 y1_14) (iadd .i64 y2_20 1) (llen (gat [] r1 y1_14))) ∧ env 29 = some (Value.int .i64 (llen (lsub (gat [] r1 y1_14) (iadd .i64 y2_20 1) (llen (gat [] r1 y1_14))))) ∧ env 30 = some (Value.int .i64 y3_30)) fu ⟨l2_0, 0, w2_0, hL34, S35, A2_, by simp [e2_]⟩ ?_;rintro n3 env3 G3_ ⟨l3_0, y3_30, w3_0, hL34, S3_, A3_, e3_⟩;cases n3 with
     | zero => cases hL34
     | succ n3 =>
      simp only [F_impl_couples_L3] at hL34;refine .sr fun K hK => ?_;simp [e3_];apply hK;refine .seq ?_;refine DWp.cond' (t := (ilt y3_30 (llen (lsub (gat [] r1 y1_14) (iadd .i64 y2_20 1) (llen (gat [] r1 y1_14)))))) (by simp [e3_]) (fun hb36 => ?_) (fun hb36 => ?_)
      ·replace hL34 := cd_t hb36 hL34;refine DWp.skip ?_;simp only [andThen, leaves];refine .seq ?_;refine .block ?_;obtain ⟨g37, hL34⟩ := gd_some hL34;have q38 := idxG (kk := .i64) (subSl ((S3_.rd (k := 1) rfl).rowAt [] g19) g30) el_24 sz_3 g37;have q39 := loadG (subSl ((S3_.rd (k := 1) rfl).rowAt [] g19) g30) sz_3 ag_3 g37 0;refine .sr fun K hK => ?_;simp [e3_, q38, q39];apply hK;obtain ⟨v40, G41, q42, S43, a45, _, _⟩ := S3_.litI1 (t := 65) (hB.le A3_.1) el_65 ei_66 rfl (gat 0 (gat [] r1 y1_14) y2_20) (gat 0 (lsub (gat [] r1 y1_14) (iadd .i64 y2_20 1) (llen (gat [] r1 y1_14))) y3_30);have A44 := A3_.ext (hB.le A3_.1) a45;replace S43 : Sep G41 (Fr H) [flatI w3_0 66 l3_0, rowsC c8_u0 24 3 c8_C0 (List.map ints r1), flatI v40 66 [((gat 0 (gat [] r1 y1_14) y2_20), (gat 0 (lsub (gat [] r1 y1_14) (iadd .i64 y2_20 1) (llen (gat [] r1 y1_14))) y3_30))]] := S43;obtain ⟨g46, hL34⟩ := gd_some hL34;obtain ⟨v52, G47, q48, S49, a51, q48t, _⟩ := S43.pushI (t := 65) (t2 := 65) (k := 0) rfl (hB.le A44.1) el_65 el_65 ei_66 rfl (S43.slI (k := 2) rfl) (Nat.zero_lt_one) g46;have A50 := A44.trans a51;replace S49 : Sep G47 (Fr H) [flatI v52 66 (lapp l3_0 [((gat 0 (gat [] r1 y1_14) y2_20), (gat 0 (lsub (gat [] r1 y1_14) (iadd .i64 y2_20 1) (llen (gat [] r1 y1_14))) y3_30))]), rowsC c8_u0 24 3 c8_C0 (List.map ints r1), flatI v40 66 [((gat 0 (gat [] r1 y1_14) y2_20), (gat 0 (lsub (gat [] r1 y1_14) (iadd .i64 y2_20 1) (llen (gat [] r1 y1_14))) y3_30))]] := S49;refine .region fun K hK => ?_
       simp [e3_, bu_66 (rfl : isTup (Value.int .i64 (gat 0 (gat [] r1 y1_14) y2_20)) = false) (rfl : (Value.int .i64 (gat 0 (gat [] r1 y1_14) y2_20)).cells = #[(Value.int .i64 (gat 0 (gat [] r1 y1_14) y2_20))]) (rfl : isTup (Value.int .i64 (gat 0 (lsub (gat [] r1 y1_14) (iadd .i64 y2_20 1) (llen (gat [] r1 y1_14))) y3_30)) = false) (rfl : (Value.int .i64 (gat 0 (lsub (gat [] r1 y1_14) (iadd .i64 y2_20 1) (llen (gat [] r1 y1_14))) y3_30)).cells = #[(Value.int .i64 (gat 0 (lsub (gat [] r1 y1_14) (iadd .i64 y2_20 1) (llen (gat [] r1 y1_14))) y3_30))]), q42, a45.to_pre, q48, q48t];apply hK;simp only [andThen, leaves];refine .region fun K hK => ?_;simp [e3_];apply hK;simp only [andThen, leaves];have S53 := S49.pick [0, 1] (by decide) rfl;exact ⟨n3, Nat.lt_succ_self _, (lapp l3_0 [((gat 0 (gat [] r1 y1_14) y2_20), (gat 0 (lsub (gat [] r1 y1_14) (iadd .i64 y2_20 1) (llen (gat [] r1 y1_14))) y3_30))]), (iadd .i64 y3_30 1), v52, hL34, S53, A50, by simp [e3_]⟩
      ·replace hL34 := cd_f hb36 hL34;refine DWp.exit ?_;simp only [andThen, leaves, if_true, if_false, reduceIte, Nat.reduceEqDiff];obtain rfl := Option.some.inj hL34;try dsimp only at hL24
       refine .region fun K hK => ?_;simp [e3_];apply hK;simp only [andThen, leaves];have S54 := S3_.pick [0, 1] (by decide) rfl;exact ⟨n2, Nat.lt_succ_self _, l3_0, (iadd .i64 y2_20 1), w3_0, hL24, S54, A3_, by simp [e3_]⟩
    ·replace hL24 := cd_f hb26 hL24;refine DWp.exit ?_;simp only [andThen, leaves, if_true, if_false, reduceIte, Nat.reduceEqDiff];obtain rfl := Option.some.inj hL24;try dsimp only at hL16
     refine .region fun K hK => ?_;simp [e2_];apply hK;simp only [andThen, leaves];have S55 := S2_.pick [0, 1] (by decide) rfl;exact ⟨n1, Nat.lt_succ_self _, l2_0, (iadd .i64 y1_14 1), w2_0, hL16, S55, A2_, by simp [e2_]⟩
  ·replace hL16 := cd_f hb18 hL16;refine DWp.exit ?_;simp only [andThen, leaves, if_true, if_false, reduceIte, Nat.reduceEqDiff];obtain rfl := Option.some.inj hL16;try dsimp only at hF
   obtain ⟨r2, hc57, hF⟩ := bd_some hF;refine .sr fun K hK => ?_;simp [e1_, ((S1_.slI (k := 0) rfl).tup)];have S58 : Sep G1_ (Fr H) ([flatI w1_0 66 l1_0] ++ [rowsC c8_u0 24 3 c8_C0 (List.map ints r1)]) := S1_.pick [0, 1] (by decide) rfl;obtain ⟨B64, S59, U60, M61, R62, C63⟩ := S58.frame (hB.le A1_.1);refine CallD.t (F_slices_SortFunc_S_2_int_w (fu := fu) U60 S59 (fun G_ a_ y0_0 y0_1 y1_0 y1_1 q_ hq_ => F_impl_couples_1_w (fu := fu)  hq_) hc57) ?_;rintro _ G66 ⟨a69, rfl, S70⟩;have A68 := A1_.trans (a69.mono M61);have S67 : Sep G66 (Fr H) [flatI w1_0 66 r2, rowsC c8_u0 24 3 c8_C0 (List.map ints r1)] := C63 _ _ a69 S70;simp [e1_];apply hK;refine .sr fun K hK => ?_;simp [e1_];apply hK;refine DWp.ret ?_;obtain rfl := Option.some.inj hF;exact ⟨by simp, [w1_0], by simp [e1_, ((S67.slI (k := 0) rfl).tup)], A68, w1_0, rfl, S67.pick [0] (by decide) rfl⟩
def F_slices_Clone_Sint (fu : Nat) (x0 : List Int) : Option (List Int) :=
  gd ((@List.nil Int).length + x0.length ≤ 4294967296) (
  some (lapp (@List.nil Int) x0))
theorem F_slices_Clone_Sint_w {fu : Nat} {H : AH} {v0 : Value} {x0 : List Int} {r : (List Int)} (hx0 : Sl H v0 (ints x0)) (hF : F_slices_Clone_Sint fu x0 = some r) :
    ACallT Tryz.prog 103 [v0] H (fun u G => AgB (Fr H) H G ∧ ∃ u0 : Value, u = u0 ∧ Sep G (Fr H) [flat u0 3 (ints r)]) := by
 refine ACallT.of_body (nt := 8) (rs := [.tmp 2]) Tryz.func103 rfl rfl rfl rfl ?_;have A0 : AgB (Fr H) H H := .refl _ _;have S0 : Sep H (Fr H) [] := .nil;have hB := Fr.up H;by_cases hn0 : v0 = .slice none 0 0
 ·
  subst hn0;have hx1 : x0 = [] := by
   rcases hx0 with ⟨_, h_⟩ | ⟨_, _, _, _, _, h_, _⟩
   ·cases x0 with
    | nil => rfl
    | cons a_ b_ => cases h_
   ·cases h_
  subst hx1;have hF2 : (some [] : Option (List Int)) = some r := by
   rw [← hF];unfold F_slices_Clone_Sint;rw [gd_true (by simp)];rfl
  refine .sr fun K hK => ?_;simp [];apply hK;refine .seq ?_;refine .sr fun K hK => ?_;simp [nil_tt us_24];apply hK;refine DWp.ct (by simp [bnot]) ?_;refine .sr fun K hK => ?_;simp [];apply hK;refine DWp.ret ?_;simp only [andThen, leaves];have S1 := S0.nilItem (hB.le A0.1) 3;obtain rfl := Option.some.inj hF2;exact ⟨by simp, [(Value.slice none 0 0)], by simp [], A0, (Value.slice none 0 0), rfl, S1.pick [0] (by decide) rfl⟩
 ·unfold F_slices_Clone_Sint at hF;refine .sr fun K hK => ?_;simp [];apply hK;refine .seq ?_;refine .sr fun K hK => ?_;simp [nil_ff us_24 (hx0.agree A0.agree) hn0];apply hK;refine DWp.cf (by simp [bnot]) ?_;refine DWp.skip ?_;simp only [andThen, leaves];obtain ⟨v1, G2, q3, S4, a6, _, _⟩ := S0.lit0 (t := 24) (hB.le A0.1) el_24 ei_3 rfl;have A5 := A0.ext (hB.le A0.1) a6;replace S4 : Sep G2 (Fr H) [flat1 v1 3 (ints (@List.nil Int))] := S4;obtain ⟨g8, hF⟩ := gd_some hF;obtain ⟨v14, G9, q10, S11, a13, _, _⟩ := S4.append1 (f := (Value.int .i64)) (xs := (@List.nil Int)) (ys := x0) (t := 24) (t2 := 24) (k := 0) rfl (hB.le A5.1) el_24 el_24 ei_3 rfl (hx0.agree A5.agree) g8;have A12 := A5.trans a13;replace S11 : Sep G9 (Fr H) [flat v14 3 (ints (lapp (@List.nil Int) x0))] := S11;refine .sr fun K hK => ?_;simp [q3, a6.to_pre, q10];apply hK;refine DWp.ret ?_;obtain rfl := Option.some.inj hF;exact ⟨by simp, [v14], by simp [((S11.sl (k := 0) rfl).tup)], A12, v14, rfl, S11.pick [0] (by decide) rfl⟩
def F_impl_exchanged_1 (fu : Nat) (x0 : Int) (x1 : Int) (x2 : List Int) : Option (List Int) :=
  gd (inL x2 x0) (
  gd (inL (lset x2 x0 x1) x1) (
  some (lset (lset x2 x0 x1) x1 x0)))
theorem F_impl_exchanged_1_w {fu : Nat} {H : AH} {B : Nat → Prop} {p2 : Value} {v2 : Value} {x0 : Int} {x1 : Int} {x2 : List Int} {r : (List Int)} (hB : Up B H.length) (S0 : Sep H B [flat v2 3 (ints x2), AL.box p2 [v2]]) (hF : F_impl_exchanged_1 fu x0 x1 x2 = some r) :
    ACallT Tryz.prog 104 [(Value.int .i64 x0), (Value.int .i64 x1), p2] H (fun u G => AgB B H G ∧ u = (Value.tuple #[]) ∧ Sep G B [flat v2 3 (ints r), AL.box p2 [v2]]) := by
 refine ACallT.of_body (nt := 13) (rs := []) Tryz.func104 rfl rfl rfl rfl ?_;have A0 : AgB B H H := .refl _ _;unfold F_impl_exchanged_1 at hF;have q1 := S0.load0 (k := 1) rfl sz_24 ag_24;have q2 : RefK (kpl [p2]) H.length p2 := refK_box S0 (k := 1) rfl (by simp);have q3 := S0.load0 (k := 1) rfl sz_24 ag_24;obtain ⟨g4, hF⟩ := gd_some hF;have q5 := idxG (kk := .i64) (S0.sl (k := 0) rfl) el_24 sz_3 g4;obtain ⟨G6, q7, S8, a10⟩ := S0.storeG (f := (Value.int .i64)) (k := 0) (x := x1) rfl (hB.le A0.1) sz_3 g4 rfl rfl;have t11 : Stand (kpl [p2]) H G6 := stand_kpl (store_same q7) (by
  simp only [List.mem_cons, List.not_mem_nil, or_false, forall_eq_or_imp, forall_eq, false_imp_iff, implies_true];exact S0.ids_apartB (k := 0) (j := 1) rfl rfl (by decide))
 have A9 := A0.trans a10;replace S8 : Sep G6 B [flat v2 3 (ints (lset x2 x0 x1)), AL.box p2 [v2]] := S8;obtain ⟨g12, hF⟩ := gd_some hF;have q13 := idxG (kk := .i64) (S8.sl (k := 0) rfl) el_24 sz_3 g12;obtain ⟨G14, q15, S16, a18⟩ := S8.storeG (f := (Value.int .i64)) (k := 0) (x := x0) rfl (hB.le A9.1) sz_3 g12 rfl rfl;have t19 : Stand (kpl [p2]) G6 G14 := stand_kpl (store_same q15) (by
  simp only [List.mem_cons, List.not_mem_nil, or_false, forall_eq_or_imp, forall_eq, false_imp_iff, implies_true];exact S8.ids_apartB (k := 0) (j := 1) rfl rfl (by decide))
 have A17 := A9.trans a18;replace S16 : Sep G14 B [flat v2 3 (ints (lset (lset x2 x0 x1) x1 x0)), AL.box p2 [v2]] := S16;refine .drawn0 (B := [0, 0, 0, 0, 0, 0, 19, 83, 255, 511]) (X0 := [2]) (π := [0, 1, 2, 3, 4, 5, 6, 7, 8, 9]) (σ := [0, 1, 2, 3, 4, 5, 6, 7, 8, 9]) 7 (kpl [p2]) none mixed (by kernel_rfl) (by kernel_rfl) (by decide) fun K hK => ?_;simp only [rl0, rlb0, List.filterMap_cons, List.filterMap_nil, List.getElem?_cons_zero, List.getElem?_cons_succ, Option.map_some, Option.map_none];simp (config := { maxSteps := 4000000 }) [q1, q2, q3, q5, t11, q7, q13, t19, q15];apply hK;obtain rfl := Option.some.inj hF;exact ⟨by simp, [], by simp [], A17, rfl, S16.pick [0, 1] (by decide) rfl⟩
def F_impl_exchanged (fu : Nat) (x0 : List Int) (x1 : Int) (x2 : Int) : Option (List Int) :=
  bd (F_slices_Clone_Sint fu x0) fun r1 =>
  gd (inL x0 x2) (
  gd (inL x0 x1) (
  bif (ilt (gat 0 x0 x2) (gat 0 x0 x1)) then
    bd (F_impl_exchanged_1 fu x1 x2 r1) fun r2 =>
    gd (inL x0 x2) (
    gd (inL x0 x1) (
    bd (F_impl_exchanged_1 fu (gat 0 x0 x2) (gat 0 x0 x1) r2) fun r3 =>
    some r3))
  else
    gd (inL x0 x2) (
    bd (F_impl_exchanged_1 fu x1 (gat 0 x0 x2) r1) fun r4 =>
    gd (inL x0 x1) (
    bd (F_impl_exchanged_1 fu (gat 0 x0 x1) x2 r4) fun r5 =>
    some r5))))
theorem F_impl_exchanged_w {fu : Nat} {H : AH} {v0 : Value} {x0 : List Int} {x1 : Int} {x2 : Int} {r : (List Int)} (hx0 : Sl H v0 (ints x0)) (hF : F_impl_exchanged fu x0 x1 x2 = some r) :
    ACallT Tryz.prog 58 [v0, (Value.int .i64 x1), (Value.int .i64 x2)] H (fun u G => AgB (Fr H) H G ∧ ∃ u0 : Value, u = u0 ∧ Sep G (Fr H) [flat u0 3 (ints r)]) := by
 refine ACallT.of_body (nt := 50) (rs := [.tmp 6]) Tryz.func58 rfl rfl rfl rfl ?_;have A0 : AgB (Fr H) H H := .refl _ _;have S0 : Sep H (Fr H) [] := .nil;have hB := Fr.up H;unfold F_impl_exchanged at hF;refine .sr fun K hK => ?_;simp [];apply hK;obtain ⟨r1, hc1, hF⟩ := bd_some hF;refine .sr fun K hK => ?_;simp [((hx0.agree A0.agree).tup)];refine CallD.t (F_slices_Clone_Sint_w (fu := fu) (hx0.agree A0.agree) hc1) ?_;rintro c2_u0 G3 ⟨a6, _, rfl, S7⟩;have A5 := A0.ext (hB.le A0.1) a6.agree;have S4 : Sep G3 (Fr H) [flat c2_u0 3 (ints r1)] := S0.app a6.agree S7 (fun _ h => h) (hB.le A0.1);obtain ⟨G9, p11, q12, q14, a13, S8⟩ := S4.allocT (hB.le A5.1) ze_24 rfl;have A10 := A5.ext (hB.le A5.1) a13;replace S8 : Sep G9 (Fr H) [flat c2_u0 3 (ints r1), AL.box p11 [(Value.slice none 0 0)]] := S8;obtain ⟨G15, q16, S17, a19⟩ := S8.put0 (k := 1) rfl (hB.le A10.1) sz_24 ((S8.sl (k := 0) rfl).tup) ((S8.sl (k := 0) rfl).one);have A18 := A10.trans a19;replace S17 : Sep G15 (Fr H) [flat c2_u0 3 (ints r1), AL.box p11 [c2_u0]] := S17;simp [a6.pre, q12, q14, a13.to_pre, q16];apply hK;refine .sr fun K hK => ?_;simp [(S17.flatT (k := 1) rfl)];apply hK;refine .seq ?_;obtain ⟨g20, hF⟩ := gd_some hF;have q21 := idxG (kk := .i64) (hx0.agree A18.agree) el_24 sz_3 g20;have q22 := loadG (hx0.agree A18.agree) sz_3 ag_3 g20 0;obtain ⟨g23, hF⟩ := gd_some hF;have q24 := idxG (kk := .i64) (hx0.agree A18.agree) el_24 sz_3 g23;have q25 := loadG (hx0.agree A18.agree) sz_3 ag_3 g23 0;refine .sd (B := [0, 0, 3, 7, 0, 0, 48, 112, 255]) 9 mixed (by kernel_rfl) (by decide) fun K hK => ?_;simp [q21, q22, q24, q25];apply hK
 refine DWp.cond' (t := (ilt (gat 0 x0 x2) (gat 0 x0 x1))) (by simp []) (fun hb26 => ?_) (fun hb26 => ?_)
 ·replace hF := cd_t hb26 hF;obtain ⟨r2, hc27, hF⟩ := bd_some hF;refine .sr fun K hK => ?_;simp [(S17.ptup (k := 1) rfl)];have S28 : Sep G15 (Fr H) ([flat c2_u0 3 (ints r1), AL.box p11 [c2_u0]] ++ []) := S17.pick [0, 1] (by decide) rfl;obtain ⟨B34, S29, U30, M31, R32, C33⟩ := S28.frame (hB.le A18.1);refine CallD.t (F_impl_exchanged_1_w (fu := fu) U30 S29 hc27) ?_;rintro _ G36 ⟨a39, rfl, S40⟩;have A38 := A18.trans (a39.mono M31);have S37 : Sep G36 (Fr H) [flat c2_u0 3 (ints r2), AL.box p11 [c2_u0]] := C33 _ _ a39 S40;simp [];apply hK;obtain ⟨g41, hF⟩ := gd_some hF;have q42 := idxG (kk := .i64) (hx0.agree A38.agree) el_24 sz_3 g41;have q43 := loadG (hx0.agree A38.agree) sz_3 ag_3 g41 0;obtain ⟨g44, hF⟩ := gd_some hF;have q45 := idxG (kk := .i64) (hx0.agree A38.agree) el_24 sz_3 g44;have q46 := loadG (hx0.agree A38.agree) sz_3 ag_3 g44 0;obtain ⟨r3, hc47, hF⟩ := bd_some hF;refine .drawn (B := [0, 0, 0, 6, 14, 0, 0, 96, 224, 511]) 9 mixed (by kernel_rfl) (by decide) fun K hK => ?_;simp [q42, q43, q45, q46, (S37.ptup (k := 1) rfl)];have S48 : Sep G36 (Fr H) ([flat c2_u0 3 (ints r2), AL.box p11 [c2_u0]] ++ []) := S37.pick [0, 1] (by decide) rfl;obtain ⟨B54, S49, U50, M51, R52, C53⟩ := S48.frame (hB.le A38.1);refine CallD.t (F_impl_exchanged_1_w (fu := fu) U50 S49 hc47) ?_;rintro _ G56 ⟨a59, rfl, S60⟩;have A58 := A38.trans (a59.mono M51);have S57 : Sep G56 (Fr H) [flat c2_u0 3 (ints r3), AL.box p11 [c2_u0]] := C53 _ _ a59 S60;simp [q42, q43, q45, q46];apply hK;simp only [andThen, leaves];have q61 := S57.load0 (k := 1) rfl sz_24 ag_24;refine .sr fun K hK => ?_;simp [q61];apply hK;refine DWp.ret ?_;obtain rfl := Option.some.inj hF
  exact ⟨by simp, [c2_u0], by simp [((S57.sl (k := 0) rfl).tup)], A58, c2_u0, rfl, S57.pick [0] (by decide) rfl⟩
 ·replace hF := cd_f hb26 hF;obtain ⟨g62, hF⟩ := gd_some hF;have q63 := idxG (kk := .i64) (hx0.agree A18.agree) el_24 sz_3 g62;have q64 := loadG (hx0.agree A18.agree) sz_3 ag_3 g62 0;obtain ⟨r4, hc65, hF⟩ := bd_some hF;refine .sr fun K hK => ?_;simp [q63, q64, (S17.ptup (k := 1) rfl)];have S66 : Sep G15 (Fr H) ([flat c2_u0 3 (ints r1), AL.box p11 [c2_u0]] ++ []) := S17.pick [0, 1] (by decide) rfl;obtain ⟨B72, S67, U68, M69, R70, C71⟩ := S66.frame (hB.le A18.1);refine CallD.t (F_impl_exchanged_1_w (fu := fu) U68 S67 hc65) ?_;rintro _ G74 ⟨a77, rfl, S78⟩;have A76 := A18.trans (a77.mono M69);have S75 : Sep G74 (Fr H) [flat c2_u0 3 (ints r4), AL.box p11 [c2_u0]] := C71 _ _ a77 S78;simp [q63, q64];apply hK;obtain ⟨g79, hF⟩ := gd_some hF;have q80 := idxG (kk := .i64) (hx0.agree A76.agree) el_24 sz_3 g79;have q81 := loadG (hx0.agree A76.agree) sz_3 ag_3 g79 0;obtain ⟨r5, hc82, hF⟩ := bd_some hF;refine .region fun K hK => ?_;simp [q80, q81, (S75.ptup (k := 1) rfl)];have S83 : Sep G74 (Fr H) ([flat c2_u0 3 (ints r4), AL.box p11 [c2_u0]] ++ []) := S75.pick [0, 1] (by decide) rfl;obtain ⟨B89, S84, U85, M86, R87, C88⟩ := S83.frame (hB.le A76.1);refine CallD.t (F_impl_exchanged_1_w (fu := fu) U85 S84 hc82) ?_;rintro _ G91 ⟨a94, rfl, S95⟩;have A93 := A76.trans (a94.mono M86);have S92 : Sep G91 (Fr H) [flat c2_u0 3 (ints r5), AL.box p11 [c2_u0]] := C88 _ _ a94 S95;simp [q80, q81];apply hK;simp only [andThen, leaves];have q96 := S92.load0 (k := 1) rfl sz_24 ag_24;refine .sr fun K hK => ?_;simp [q96];apply hK;refine DWp.ret ?_;obtain rfl := Option.some.inj hF;exact ⟨by simp, [c2_u0], by simp [((S92.sl (k := 0) rfl).tup)], A93, c2_u0, rfl, S92.pick [0] (by decide) rfl⟩
end Go.Proofs.YtogghgecmjnieaaGreat.AL

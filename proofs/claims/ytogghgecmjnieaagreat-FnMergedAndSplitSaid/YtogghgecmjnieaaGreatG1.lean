/- The walks of functions, each with its Lean function: laws.big, spec.l1Cur).next, spec.l1Cur).pick, spec.l1Cur).one, spec.ahParse, spec.l1Cur).sure, spec.ahFlat, spec.ahRainbow, spec.l1Cur).system, spec.l1In. No condition. -/
import Derived.Test.YtogghgecmjnieaaGreatALD
import Derived.Test.YtogghgecmjnieaaGreatProg
import Derived.KernelRfl
namespace Go.Proofs.YtogghgecmjnieaaGreat.AL
open Go Go.RowKit
set_option linter.unusedVariables false
set_option linter.unusedSimpArgs false
set_option maxRecDepth 4096
attribute [local simp] n_fn b_add b_sub b_mul b_lt b_le b_gt b_ge b_eq b_ne u_not
theorem mixed : Tryz.prog.follows .mixedOrders = true := by kernel_rfl
theorem ag_22 : aggT Tryz.prog 22 = some false := by kernel_rfl
theorem ag_3 : aggT Tryz.prog 3 = some false := by kernel_rfl
theorem ag_5 : aggT Tryz.prog 5 = some false := by kernel_rfl
theorem ag_57 : aggT Tryz.prog 57 = some false := by kernel_rfl
theorem ei_3 : einfo Tryz.prog 3 = some ⟨1, 8, .int .i64 0⟩ := by kernel_rfl
theorem el_22 : elemT Tryz.prog 22 = some 5 := by kernel_rfl
theorem el_24 : elemT Tryz.prog 24 = some 3 := by kernel_rfl
theorem fa_59_0 : fldT Tryz.prog 59 0 = some 0 := by kernel_rfl
theorem fa_59_1 : fldT Tryz.prog 59 1 = some 1 := by kernel_rfl
theorem fa_59_2 : fldT Tryz.prog 59 2 = some 2 := by kernel_rfl
theorem sz_22 : sizeT Tryz.prog 22 = some 1 := by kernel_rfl
theorem sz_3 : sizeT Tryz.prog 3 = some 1 := by kernel_rfl
theorem sz_5 : sizeT Tryz.prog 5 = some 1 := by kernel_rfl
theorem sz_57 : sizeT Tryz.prog 57 = some 1 := by kernel_rfl
theorem un_3 : Tryz.prog.underlying 3 = some (.int .i64) := by kernel_rfl
theorem un_5 : Tryz.prog.underlying 5 = some (.int .u8) := by kernel_rfl
theorem un_57 : Tryz.prog.underlying 57 = some (.int .u64) := by kernel_rfl
theorem un_9 : Tryz.prog.underlying 9 = some .string := by kernel_rfl
def F_laws_big (fu : Nat) (x0 : List Int) (x1 : List Int) : Option (Bool) :=
  bif (ilt 1048576 (llen x0)) then
    some true
  else
    some (ilt (isub .i64 1048576 (llen x0)) (llen x1))
theorem F_laws_big_w {fu : Nat} {H : AH} {v0 : Value} {v1 : Value} {x0 : List Int} {x1 : List Int} {r : (Bool)} (hx0 : Sl H v0 (u8s x0)) (hx1 : Sl H v1 (u8s x1)) (hF : F_laws_big fu x0 x1 = some r) :
    ACallT Tryz.prog 6 [v0, v1] H (fun u G => AgB (Fr H) H G ∧ u = (Value.bool r) ∧ Sep G (Fr H) []) := by
 refine ACallT.of_body (nt := 16) (rs := [.tmp 4]) Tryz.func6 rfl rfl rfl rfl ?_;have A0 : AgB (Fr H) H H := .refl _ _;have S0 : Sep H (Fr H) [] := .nil;have hB := Fr.up H;unfold F_laws_big at hF;refine .sr fun K hK => ?_;simp [];apply hK;have q1 := lenG (hx0.agree A0.agree) el_22;rcases Bool.eq_false_or_eq_true (ilt 1048576 (llen x0)) with hb2 | hb2
 ·replace hF := cd_t hb2 hF;refine .sr fun K hK => ?_;simp [hb2, q1];apply hK;refine DWp.ret ?_;obtain rfl := Option.some.inj hF;exact ⟨by simp, [(Value.bool true)], by simp [], A0, rfl, S0.pick [] (by decide) rfl⟩
 ·replace hF := cd_f hb2 hF;have q3 := lenG (hx1.agree A0.agree) el_22;have q4 := lenG (hx0.agree A0.agree) el_22;refine .sr fun K hK => ?_;simp [hb2, q1, q3, q4];apply hK;refine DWp.ret ?_;obtain rfl := Option.some.inj hF;exact ⟨by simp, [(Value.bool (ilt (isub .i64 1048576 (llen x0)) (llen x1)))], by simp [], A0, rfl, S0.pick [] (by decide) rfl⟩
def F_spec_l1Cur_next (fu : Nat) (x0_0 : List Int) (x0_1 : Int) (x0_2 : Int) : Option (Int × Int × Int) :=
  bd (
    bif (ilt x0_1 (llen x0_0)) then
      gd (inL x0_0 x0_1) (
      some (iwr .i64 (gat 0 x0_0 x0_1)))
    else
      some 0) fun s1 =>
  bif (ile (iadd .i64 x0_1 1) (llen x0_0)) then
    some (s1, (iadd .i64 x0_1 1), (iadd .u64 (iadd .u64 (imul .u64 x0_2 6364136223846793005) (iwr .u64 s1)) 1442695040888963407))
  else
    some ((iwr .i64 (iand .u64 (ishr .u64 (iadd .u64 (iadd .u64 (imul .u64 x0_2 6364136223846793005) (iwr .u64 s1)) 1442695040888963407) 40) 255)), (iadd .i64 x0_1 1), (iadd .u64 (iadd .u64 (imul .u64 x0_2 6364136223846793005) (iwr .u64 s1)) 1442695040888963407))
theorem F_spec_l1Cur_next_w {fu : Nat} {H : AH} {B : Nat → Prop} {p0 : Value} {v0_0 : Value} {x0_0 : List Int} {x0_1 : Int} {x0_2 : Int} {r : (Int × Int × Int)} (hB : Up B H.length) (S0 : Sep H B [AL.box p0 [v0_0, (Value.int .i64 x0_1), (Value.int .u64 x0_2)]]) (hx0_0 : Sl H v0_0 (u8s x0_0)) (hdx0_0 : ∀ i, idOf v0_0 = some i → ¬ B i) (hF : F_spec_l1Cur_next fu x0_0 x0_1 x0_2 = some r) :
    ACallT Tryz.prog 98 [p0] H (fun u G => AgB B H G ∧ u = (Value.int .i64 r.1) ∧ Sep G B [AL.box p0 [v0_0, (Value.int .i64 r.2.1), (Value.int .u64 r.2.2)]]) := by
 refine ACallT.of_body (nt := 62) (rs := [.tmp 2]) Tryz.func98 rfl rfl rfl rfl ?_;have A0 : AgB B H H := .refl _ _;unfold F_spec_l1Cur_next at hF;refine .sr fun K hK => ?_;simp [];apply hK;refine .sr fun K hK => ?_;simp [];apply hK;obtain ⟨s1, hL2, hF⟩ := bd_some hF;refine DWp.seq (DWp.join (fun env G => Sep G B [AL.box p0 [v0_0, (Value.int .i64 x0_1), (Value.int .u64 x0_2)]] ∧ AgB B H G ∧ env 0 = some p0 ∧ env 3 = some (Value.int .i64 s1)) ?_ ?_)
 ·
  have q4 := S0.nilT (k := 0) rfl;have q5 := S0.fieldT (k := 0) rfl fa_59_1;have q6 := S0.loadF (k := 0) rfl sz_3 ag_3 (off := 1) rfl;have q7 := S0.nilT (k := 0) rfl;have q8 := S0.fieldT (k := 0) rfl fa_59_0;have q9 := S0.loadF (k := 0) rfl sz_22 ag_22 (off := 0) rfl;have q10 := lenG (hx0_0.agr A0 hdx0_0) el_22;refine .sd (B := [0, 1, 3, 7, 0, 16, 48, 112, 240, 511]) 10 mixed (by kernel_rfl) (by decide) fun K hK => ?_;simp [q4, q5, q6, q7, q8, q9, q10];apply hK;refine DWp.cond' (t := (ilt x0_1 (llen x0_0))) (by simp []) (fun hb11 => ?_) (fun hb11 => ?_)
  ·replace hL2 := cd_t hb11 hL2;have q12 := S0.nilT (k := 0) rfl;have q13 := S0.fieldT (k := 0) rfl fa_59_0;have q14 := S0.loadF (k := 0) rfl sz_22 ag_22 (off := 0) rfl;have q15 := S0.nilT (k := 0) rfl;have q16 := S0.fieldT (k := 0) rfl fa_59_1;have q17 := S0.loadF (k := 0) rfl sz_3 ag_3 (off := 1) rfl;obtain ⟨g18, hL2⟩ := gd_some hL2;have q19 := idxG (kk := .i64) (hx0_0.agr A0 hdx0_0) el_22 sz_5 g18;have q20 := loadG (hx0_0.agr A0 hdx0_0) sz_5 ag_5 g18 0;refine .drawn (B := [0, 1, 3, 7, 0, 16, 48, 112, 255, 511, 1023, 2047]) 12 mixed (by kernel_rfl) (by decide) fun K hK => ?_;simp [q12, q13, q14, q15, q16, q17, q19, q20, c_int un_5 un_3];apply hK;simp only [andThen, leaves];have S21 := S0.pick [0] (by decide) rfl;obtain rfl := Option.some.inj hL2;exact ⟨S21, A0, by simp []⟩
  ·replace hL2 := cd_f hb11 hL2;refine DWp.skip ?_;simp only [andThen, leaves];have S22 := S0.pick [0] (by decide) rfl;obtain rfl := Option.some.inj hL2;exact ⟨S22, A0, by simp []⟩
 ·rintro env Gj23 ⟨Sj23, Aj23, ej23_⟩;have q24 := Sj23.nilT (k := 0) rfl;have q25 := Sj23.fieldT (k := 0) rfl fa_59_1;have q26 := Sj23.loadF (k := 0) rfl sz_3 ag_3 (off := 1) rfl;have q27 := Sj23.nilT (k := 0) rfl;have q28 := Sj23.fieldT (k := 0) rfl fa_59_1;obtain ⟨G29, q30, S31, a33⟩ := Sj23.putF (k := 0) (off := 1) rfl (hB.le Aj23.1) sz_3 (by simp) (rfl : isTup (Value.int .i64 (iadd .i64 x0_1 1)) = false) (rfl : (Value.int .i64 (iadd .i64 x0_1 1)).cells = #[(Value.int .i64 (iadd .i64 x0_1 1))]);have A32 := Aj23.trans a33;replace S31 : Sep G29 B [AL.box p0 [v0_0, (Value.int .i64 (iadd .i64 x0_1 1)), (Value.int .u64 x0_2)]] := S31;refine .sr fun K hK => ?_;simp [ej23_, q24, q25, q26, q27, q28, q30];apply hK;have q34 := S31.nilT (k := 0) rfl;have q35 := S31.fieldT (k := 0) rfl fa_59_2;have q36 := S31.loadF (k := 0) rfl sz_57 ag_57 (off := 2) rfl;have q37 := S31.nilT (k := 0) rfl;have q38 := S31.fieldT (k := 0) rfl fa_59_2;obtain ⟨G39, q40, S41, a43⟩ := S31.putF (k := 0) (off := 2) rfl (hB.le A32.1) sz_57 (by simp) (rfl : isTup (Value.int .u64 (iadd .u64 (iadd .u64 (imul .u64 x0_2 6364136223846793005) (iwr .u64 s1)) 1442695040888963407)) = false) (rfl : (Value.int .u64 (iadd .u64 (iadd .u64 (imul .u64 x0_2 6364136223846793005) (iwr .u64 s1)) 1442695040888963407)).cells = #[(Value.int .u64 (iadd .u64 (iadd .u64 (imul .u64 x0_2 6364136223846793005) (iwr .u64 s1)) 1442695040888963407))]);have A42 := A32.trans a43;replace S41 : Sep G39 B [AL.box p0 [v0_0, (Value.int .i64 (iadd .i64 x0_1 1)), (Value.int .u64 (iadd .u64 (iadd .u64 (imul .u64 x0_2 6364136223846793005) (iwr .u64 s1)) 1442695040888963407))]] := S41;refine .sr fun K hK => ?_
  simp [ej23_, q34, q35, q36, c_int un_3 un_57, q37, q38, q40];apply hK;refine .seq ?_;have q44 := S41.nilT (k := 0) rfl;have q45 := S41.fieldT (k := 0) rfl fa_59_1;have q46 := S41.loadF (k := 0) rfl sz_3 ag_3 (off := 1) rfl;have q47 := S41.nilT (k := 0) rfl;have q48 := S41.fieldT (k := 0) rfl fa_59_0;have q49 := S41.loadF (k := 0) rfl sz_22 ag_22 (off := 0) rfl;have q50 := lenG (hx0_0.agr A42 hdx0_0) el_22;refine .sd (B := [0, 1, 3, 7, 0, 16, 48, 112, 240, 511]) 10 mixed (by kernel_rfl) (by decide) fun K hK => ?_;simp [ej23_, q44, q45, q46, q47, q48, q49, q50];apply hK;refine DWp.cond' (t := (ile (iadd .i64 x0_1 1) (llen x0_0))) (by simp [ej23_]) (fun hb51 => ?_) (fun hb51 => ?_)
  ·replace hF := cd_t hb51 hF;refine .sr fun K hK => ?_;simp [ej23_];apply hK;refine DWp.ret ?_;simp only [andThen, leaves];obtain rfl := Option.some.inj hF;exact ⟨by simp, [(Value.int .i64 s1)], by simp [ej23_], A42, rfl, S41.pick [0] (by decide) rfl⟩
  ·replace hF := cd_f hb51 hF;refine DWp.skip ?_;simp only [andThen, leaves];have q52 := S41.nilT (k := 0) rfl;have q53 := S41.fieldT (k := 0) rfl fa_59_2;have q54 := S41.loadF (k := 0) rfl sz_57 ag_57 (off := 2) rfl;have g55 : ¬ ((40 : Int) < 0) := by decide
   refine .sr fun K hK => ?_;simp [ej23_, q52, q53, q54, b_shr g55, b_and, c_int un_57 un_3];apply hK;refine DWp.ret ?_;obtain rfl := Option.some.inj hF;exact ⟨by simp, [(Value.int .i64 (iwr .i64 (iand .u64 (ishr .u64 (iadd .u64 (iadd .u64 (imul .u64 x0_2 6364136223846793005) (iwr .u64 s1)) 1442695040888963407) 40) 255)))], by simp [ej23_], A42, rfl, S41.pick [0] (by decide) rfl⟩
def F_spec_l1Cur_pick (fu : Nat) (x0_0 : List Int) (x0_1 : Int) (x0_2 : Int) (x1 : Int) : Option (Int × Int × Int) :=
  bif (ile x1 1) then
    some (0, x0_1, x0_2)
  else
    bd (F_spec_l1Cur_next fu x0_0 x0_1 x0_2) fun r1 =>
    bif (ilt 200 x1) then
      bd (F_spec_l1Cur_next fu x0_0 r1.2.1 r1.2.2) fun r2 =>
      gd (x1 ≠ 0) (
      some ((irem (iadd .i64 (imul .i64 r1.1 256) r2.1) x1), r2.2.1, r2.2.2))
    else
      gd (x1 ≠ 0) (
      some ((irem r1.1 x1), r1.2.1, r1.2.2))
theorem F_spec_l1Cur_pick_w {fu : Nat} {H : AH} {B : Nat → Prop} {p0 : Value} {v0_0 : Value} {x0_0 : List Int} {x0_1 : Int} {x0_2 : Int} {x1 : Int} {r : (Int × Int × Int)} (hB : Up B H.length) (S0 : Sep H B [AL.box p0 [v0_0, (Value.int .i64 x0_1), (Value.int .u64 x0_2)]]) (hx0_0 : Sl H v0_0 (u8s x0_0)) (hdx0_0 : ∀ i, idOf v0_0 = some i → ¬ B i) (hF : F_spec_l1Cur_pick fu x0_0 x0_1 x0_2 x1 = some r) :
    ACallT Tryz.prog 55 [p0, (Value.int .i64 x1)] H (fun u G => AgB B H G ∧ u = (Value.int .i64 r.1) ∧ Sep G B [AL.box p0 [v0_0, (Value.int .i64 r.2.1), (Value.int .u64 r.2.2)]]) := by
 refine ACallT.of_body (nt := 20) (rs := [.tmp 4]) Tryz.func55 rfl rfl rfl rfl ?_;have A0 : AgB B H H := .refl _ _;unfold F_spec_l1Cur_pick at hF;refine .sr fun K hK => ?_;simp [];apply hK;refine .seq ?_;refine .sr fun K hK => ?_;simp [];apply hK;refine DWp.cond' (t := (ile x1 1)) (by simp []) (fun hb1 => ?_) (fun hb1 => ?_)
 ·replace hF := cd_t hb1 hF;refine .sr fun K hK => ?_;simp [];apply hK;refine DWp.ret ?_;simp only [andThen, leaves];obtain rfl := Option.some.inj hF;exact ⟨by simp, [(Value.int .i64 0)], by simp [], A0, rfl, S0.pick [0] (by decide) rfl⟩
 ·replace hF := cd_f hb1 hF;refine DWp.skip ?_;simp only [andThen, leaves];obtain ⟨r1, hc2, hF⟩ := bd_some hF;refine .sr fun K hK => ?_;simp [(S0.ptup (k := 0) rfl)];have S3 : Sep H B ([AL.box p0 [v0_0, (Value.int .i64 x0_1), (Value.int .u64 x0_2)]] ++ []) := S0.pick [0] (by decide) rfl;obtain ⟨B9, S4, U5, M6, R7, C8⟩ := S3.frame (hB.le A0.1);refine CallD.t (F_spec_l1Cur_next_w (fu := fu) U5 S4 (hx0_0.agr A0 hdx0_0) (fun i_ hi_ hb_ => hdx0_0 i_ hi_ (M6 i_ hb_)) hc2) ?_;rintro _ G11 ⟨a14, rfl, S15⟩;have A13 := A0.trans (a14.mono M6);have S12 : Sep G11 B [AL.box p0 [v0_0, (Value.int .i64 r1.2.1), (Value.int .u64 r1.2.2)]] := C8 _ _ a14 S15;simp [];apply hK;refine .seq ?_;refine .sr fun K hK => ?_;simp [];apply hK;refine DWp.cond' (t := (ilt 200 x1)) (by simp []) (fun hb16 => ?_) (fun hb16 => ?_)
  ·replace hF := cd_t hb16 hF;obtain ⟨r2, hc17, hF⟩ := bd_some hF;refine .region fun K hK => ?_;simp [(S12.ptup (k := 0) rfl)];have S18 : Sep G11 B ([AL.box p0 [v0_0, (Value.int .i64 r1.2.1), (Value.int .u64 r1.2.2)]] ++ []) := S12.pick [0] (by decide) rfl;obtain ⟨B24, S19, U20, M21, R22, C23⟩ := S18.frame (hB.le A13.1);refine CallD.t (F_spec_l1Cur_next_w (fu := fu) U20 S19 (hx0_0.agr A13 hdx0_0) (fun i_ hi_ hb_ => hdx0_0 i_ hi_ (M21 i_ hb_)) hc17) ?_;rintro _ G26 ⟨a29, rfl, S30⟩;have A28 := A13.trans (a29.mono M21);have S27 : Sep G26 B [AL.box p0 [v0_0, (Value.int .i64 r2.2.1), (Value.int .u64 r2.2.2)]] := C23 _ _ a29 S30;simp [];apply hK;simp only [andThen, leaves];obtain ⟨g31, hF⟩ := gd_some hF;refine .sr fun K hK => ?_;simp [b_rem g31];apply hK;refine DWp.ret ?_;obtain rfl := Option.some.inj hF;exact ⟨by simp, [(Value.int .i64 (irem (iadd .i64 (imul .i64 r1.1 256) r2.1) x1))], by simp [], A28, rfl, S27.pick [0] (by decide) rfl⟩
  ·replace hF := cd_f hb16 hF;refine DWp.skip ?_;simp only [andThen, leaves];obtain ⟨g32, hF⟩ := gd_some hF;refine .sr fun K hK => ?_;simp [b_rem g32];apply hK;refine DWp.ret ?_;obtain rfl := Option.some.inj hF;exact ⟨by simp, [(Value.int .i64 (irem r1.1 x1))], by simp [], A13, rfl, S12.pick [0] (by decide) rfl⟩
def F_spec_l1Cur_one (fu : Nat) (x0_0 : List Int) (x0_1 : Int) (x0_2 : Int) (x1 : Int) : Option (Bool × Int × Int) :=
  bd (F_spec_l1Cur_pick fu x0_0 x0_1 x0_2 x1) fun r1 =>
  some ((ieq r1.1 0), r1.2.1, r1.2.2)
theorem F_spec_l1Cur_one_w {fu : Nat} {H : AH} {B : Nat → Prop} {p0 : Value} {v0_0 : Value} {x0_0 : List Int} {x0_1 : Int} {x0_2 : Int} {x1 : Int} {r : (Bool × Int × Int)} (hB : Up B H.length) (S0 : Sep H B [AL.box p0 [v0_0, (Value.int .i64 x0_1), (Value.int .u64 x0_2)]]) (hx0_0 : Sl H v0_0 (u8s x0_0)) (hdx0_0 : ∀ i, idOf v0_0 = some i → ¬ B i) (hF : F_spec_l1Cur_one fu x0_0 x0_1 x0_2 x1 = some r) :
    ACallT Tryz.prog 54 [p0, (Value.int .i64 x1)] H (fun u G => AgB B H G ∧ u = (Value.bool r.1) ∧ Sep G B [AL.box p0 [v0_0, (Value.int .i64 r.2.1), (Value.int .u64 r.2.2)]]) := by
 refine ACallT.of_body (nt := 9) (rs := [.tmp 4]) Tryz.func54 rfl rfl rfl rfl ?_;have A0 : AgB B H H := .refl _ _;unfold F_spec_l1Cur_one at hF;refine .sr fun K hK => ?_;simp [];apply hK;obtain ⟨r1, hc1, hF⟩ := bd_some hF;refine .sr fun K hK => ?_;simp [(S0.ptup (k := 0) rfl)];have S2 : Sep H B ([AL.box p0 [v0_0, (Value.int .i64 x0_1), (Value.int .u64 x0_2)]] ++ []) := S0.pick [0] (by decide) rfl;obtain ⟨B8, S3, U4, M5, R6, C7⟩ := S2.frame (hB.le A0.1);refine CallD.t (F_spec_l1Cur_pick_w (fu := fu) U4 S3 (hx0_0.agr A0 hdx0_0) (fun i_ hi_ hb_ => hdx0_0 i_ hi_ (M5 i_ hb_)) hc1) ?_;rintro _ G10 ⟨a13, rfl, S14⟩;have A12 := A0.trans (a13.mono M5);have S11 : Sep G10 B [AL.box p0 [v0_0, (Value.int .i64 r1.2.1), (Value.int .u64 r1.2.2)]] := C7 _ _ a13 S14;simp [];apply hK;refine DWp.ret ?_;obtain rfl := Option.some.inj hF;exact ⟨by simp, [(Value.bool (ieq r1.1 0))], by simp [], A12, rfl, S11.pick [0] (by decide) rfl⟩
def F_spec_ahParse_L1 (fu : Nat) (k1_0 : ByteArray) : Nat → List Int → List Int → Int → Option (LR (List Int × Bool) (List Int × List Int × Int))
  | 0, _, _, _ => none
  | n + 1, l1_0, l1_1, y1_6 =>
    bif (ilt y1_6 (slen k1_0)) then
      gd (inS k1_0 y1_6) (
      bif (ieq (sat k1_0 y1_6) 40) then
        gd (l1_1.length + [y1_6].length ≤ 4294967296) (
        F_spec_ahParse_L1 fu k1_0 n l1_0 (lapp l1_1 [y1_6]) (iadd .i64 y1_6 1))
      else
        bd (
          gd (inS k1_0 y1_6) (
          bif (ieq (sat k1_0 y1_6) 41) then
            some (ilt 0 (llen l1_1))
          else
            some false)) fun s33 =>
        bif s33 then
          gd (inL l1_1 (isub .i64 (llen l1_1) 1)) (
          gd (subL l1_1 0 (isub .i64 (llen l1_1) 1)) (
          gd (inL l1_0 (gat 0 l1_1 (isub .i64 (llen l1_1) 1))) (
          gd (inL (lset l1_0 (gat 0 l1_1 (isub .i64 (llen l1_1) 1)) y1_6) y1_6) (
          F_spec_ahParse_L1 fu k1_0 n (lset (lset l1_0 (gat 0 l1_1 (isub .i64 (llen l1_1) 1)) y1_6) y1_6 (gat 0 l1_1 (isub .i64 (llen l1_1) 1))) (lsub l1_1 0 (isub .i64 (llen l1_1) 1)) (iadd .i64 y1_6 1)))))
        else
          some (.ret ([], false)))
    else
      some (.brk (l1_0, l1_1, y1_6))
def F_spec_ahParse (fu : Nat) (x0 : ByteArray) : Option (List Int × Bool) :=
  bif (ilt 12 (slen x0)) then
    some ([], false)
  else
    gd (0 ≤ (slen x0) ∧ (slen x0) ≤ 4294967296) (
    bd (F_spec_ahParse_L1 fu x0 fu (lrep (slen x0) (0 : Int)) (@List.nil Int) 0) fun s1 =>
    lr s1 fun s1 =>
    bif (ilt 0 (llen s1.2.1)) then
      some ([], false)
    else
      some (s1.1, true))
theorem F_spec_ahParse_w {fu : Nat} {H : AH}  {x0 : ByteArray} {r : (List Int × Bool)}  (hF : F_spec_ahParse fu x0 = some r) :
    ACallT Tryz.prog 125 [(Value.string x0)] H (fun u G => AgB (Fr H) H G ∧ ∃ u0 : Value, u = (Value.tuple #[u0, (Value.bool r.2)]) ∧ Sep G (Fr H) [flat u0 3 (ints r.1)]) := by
 refine ACallT.of_body (nt := 62) (rs := [.tmp 2, .tmp 3]) Tryz.func125 rfl rfl rfl rfl ?_;have A0 : AgB (Fr H) H H := .refl _ _;have S0 : Sep H (Fr H) [] := .nil;have hB := Fr.up H;unfold F_spec_ahParse at hF;refine .sr fun K hK => ?_;simp [];apply hK;refine .seq ?_;refine .sr fun K hK => ?_;simp [strLen un_9];apply hK;refine DWp.cond' (t := (ilt 12 (slen x0))) (by simp []) (fun hb1 => ?_) (fun hb1 => ?_)
 ·replace hF := cd_t hb1 hF;refine .sr fun K hK => ?_;simp [];apply hK;refine DWp.ret ?_;simp only [andThen, leaves];have S2 := S0.nilItem (hB.le A0.1) 3;obtain rfl := Option.some.inj hF;exact ⟨by simp, [(Value.slice none 0 0), (Value.bool false)], by simp [], A0, (Value.slice none 0 0), rfl, S2.pick [0] (by decide) rfl⟩
 ·replace hF := cd_f hb1 hF;refine DWp.skip ?_;simp only [andThen, leaves];obtain ⟨g3, hF⟩ := gd_some hF;obtain ⟨v4, G5, q6, S7, a9, _⟩ := S0.make (f := (Value.int .i64)) (t := 24) (hB.le A0.1) el_24 ei_3 rfl 0 rfl g3;have A8 := A0.ext (hB.le A0.1) a9;replace S7 : Sep G5 (Fr H) [flat v4 3 (ints (lrep (slen x0) (0 : Int)))] := S7;refine .sr fun K hK => ?_;simp [strLen un_9, q6, a9.to_pre];apply hK;refine .sr fun K hK => ?_;simp [];apply hK;refine .seq ?_;refine .sr fun K hK => ?_;simp [];apply hK;refine .block ?_;have S10 := S7.nilItem (hB.le A8.1) 3;obtain ⟨s11, hL12, hF⟩ := bd_some hF;have S13 := S10.pick [0, 1] (by decide) rfl;refine DWp.loop (fun n env G => ∃ l1_0 : List Int, ∃ l1_1 : List Int, ∃ y1_6 : Int, ∃ w1_1 : Value, F_spec_ahParse_L1 fu x0 n l1_0 l1_1 y1_6 = some s11 ∧ Sep G (Fr H) [flat v4 3 (ints l1_0), flat w1_1 3 (ints l1_1)] ∧ AgB (Fr H) H G ∧ env 0 = some (Value.string x0) ∧ env 4 = some v4 ∧ env 5 = some w1_1 ∧ env 6 = some (Value.int .i64 y1_6)) fu ⟨(lrep (slen x0) (0 : Int)), (@List.nil Int), 0, (Value.slice none 0 0), hL12, S13, A8, by simp []⟩ ?_;rintro n1 env1 G1_ ⟨l1_0, l1_1, y1_6, w1_1, hL12, S1_, A1_, e1_⟩;cases n1 with
  | zero => cases hL12
  | succ n1 =>
   simp only [F_spec_ahParse_L1] at hL12;refine .seq ?_;refine .sr fun K hK => ?_;simp [e1_, strLen un_9];apply hK;refine DWp.cond' (t := (ilt y1_6 (slen x0))) (by simp [e1_]) (fun hb14 => ?_) (fun hb14 => ?_)
   ·replace hL12 := cd_t hb14 hL12;refine DWp.skip ?_;simp only [andThen, leaves];refine .seq ?_;refine .block ?_;refine .block ?_;obtain ⟨g15, hL12⟩ := gd_some hL12;have q16 := strIdx (kk := .i64) un_9 g15;refine .sr fun K hK => ?_;simp [e1_, q16];apply hK;refine DWp.cond' (t := (ieq (sat x0 y1_6) 40)) (by simp [e1_]) (fun hb17 => ?_) (fun hb17 => ?_)
    ·replace hL12 := cd_t hb17 hL12;obtain ⟨v18, G19, q20, S21, a23, _, _⟩ := S1_.lit1 (t := 24) (hB.le A1_.1) el_24 ei_3 rfl (Value.int .i64 y1_6) rfl rfl;have A22 := A1_.ext (hB.le A1_.1) a23;replace S21 : Sep G19 (Fr H) [flat v4 3 (ints l1_0), flat w1_1 3 (ints l1_1), flat1 v18 3 (ints [y1_6])] := S21;obtain ⟨g25, hL12⟩ := gd_some hL12;obtain ⟨v31, G26, q27, S28, a30, _, _⟩ := S21.appendG (f := (Value.int .i64)) (xs := l1_1) (ys := [y1_6]) (t := 24) (t2 := 24) (k := 1) rfl (hB.le A22.1) el_24 el_24 ei_3 rfl (S21.sl1 (k := 2) rfl) g25;have A29 := A22.trans a30;replace S28 : Sep G26 (Fr H) [flat v4 3 (ints l1_0), flat v31 3 (ints (lapp l1_1 [y1_6])), flat1 v18 3 (ints [y1_6])] := S28;refine .region fun K hK => ?_;simp [e1_, q20, a23.to_pre, q27];apply hK;simp only [andThen, leaves];refine .region fun K hK => ?_;simp [e1_];apply hK;simp only [andThen, leaves];have S32 := S28.pick [0, 1] (by decide) rfl;exact ⟨n1, Nat.lt_succ_self _, l1_0, (lapp l1_1 [y1_6]), (iadd .i64 y1_6 1), v31, hL12, S32, A29, by simp [e1_]⟩
    ·replace hL12 := cd_f hb17 hL12;obtain ⟨s33, hL34, hL12⟩ := bd_some hL12;refine DWp.seq (DWp.join (fun env G => Sep G (Fr H) [flat v4 3 (ints l1_0), flat w1_1 3 (ints l1_1)] ∧ AgB (Fr H) H G ∧ env 0 = some (Value.string x0) ∧ env 4 = some v4 ∧ env 5 = some w1_1 ∧ env 6 = some (Value.int .i64 y1_6) ∧ env 29 = some (Value.bool s33)) ?_ ?_)
     ·
      obtain ⟨g36, hL34⟩ := gd_some hL34;have q37 := strIdx (kk := .i64) un_9 g36;rcases Bool.eq_false_or_eq_true (ieq (sat x0 y1_6) 41) with hb38 | hb38
      ·replace hL34 := cd_t hb38 hL34;have q39 := lenG (S1_.sl (k := 1) rfl) el_24;refine .region fun K hK => ?_;simp [e1_, hb38, q37, q39];apply hK;simp only [andThen, leaves];have S40 := S1_.pick [0, 1] (by decide) rfl;obtain rfl := Option.some.inj hL34;exact ⟨S40, A1_, by simp [e1_]⟩
      ·replace hL34 := cd_f hb38 hL34;refine .region fun K hK => ?_;simp [e1_, hb38, q37];apply hK;simp only [andThen, leaves];have S41 := S1_.pick [0, 1] (by decide) rfl;obtain rfl := Option.some.inj hL34;exact ⟨S41, A1_, by simp [e1_]⟩
     ·rintro env Gj42 ⟨Sj42, Aj42, ej42_⟩;refine DWp.cond' (t := s33) (by simp [ej42_]) (fun hb43 => ?_) (fun hb43 => ?_)
      ·replace hL12 := cd_t hb43 hL12;have q44 := lenG (Sj42.sl (k := 1) rfl) el_24;obtain ⟨g45, hL12⟩ := gd_some hL12;have q46 := idxG (kk := .i64) (Sj42.sl (k := 1) rfl) el_24 sz_3 g45;have q47 := loadG (Sj42.sl (k := 1) rfl) sz_3 ag_3 g45 0;refine .sr fun K hK => ?_;simp [ej42_, q44, q46, q47];apply hK;have q48 := lenG (Sj42.sl (k := 1) rfl) el_24;obtain ⟨g49, hL12⟩ := gd_some hL12;have q50 := aSub01 (t := 24) (Sj42.sl (k := 1) rfl) el_24 sz_3 g49;refine .sr fun K hK => ?_;simp [ej42_, q48, q50, ((subSl (Sj42.sl (k := 1) rfl) g49).tup)];apply hK;obtain ⟨g51, hL12⟩ := gd_some hL12;have q52 := idxG (kk := .i64) (Sj42.sl (k := 0) rfl) el_24 sz_3 g51;obtain ⟨G53, q54, S55, a57⟩ := Sj42.storeG (f := (Value.int .i64)) (k := 0) (x := y1_6) rfl (hB.le Aj42.1) sz_3 g51 rfl rfl;have A56 := Aj42.trans a57;replace S55 : Sep G53 (Fr H) [flat v4 3 (ints (lset l1_0 (gat 0 l1_1 (isub .i64 (llen l1_1) 1)) y1_6)), flat w1_1 3 (ints l1_1)] := S55;refine .sr fun K hK => ?_;simp [ej42_, q52, q54];apply hK;obtain ⟨g58, hL12⟩ := gd_some hL12;have q59 := idxG (kk := .i64) (S55.sl (k := 0) rfl) el_24 sz_3 g58;obtain ⟨G60, q61, S62, a64⟩ := S55.storeG (f := (Value.int .i64)) (k := 0) (x := (gat 0 l1_1 (isub .i64 (llen l1_1) 1))) rfl (hB.le A56.1) sz_3 g58 rfl rfl;have A63 := A56.trans a64;replace S62 : Sep G60 (Fr H) [flat v4 3 (ints (lset (lset l1_0 (gat 0 l1_1 (isub .i64 (llen l1_1) 1)) y1_6) y1_6 (gat 0 l1_1 (isub .i64 (llen l1_1) 1)))), flat w1_1 3 (ints l1_1)] := S62;refine .region fun K hK => ?_;simp [ej42_, q59, q61];apply hK;simp only [andThen, leaves];refine .region fun K hK => ?_;simp [ej42_]
       apply hK;simp only [andThen, leaves];have S65 : Sep G60 (Fr H) [flat v4 3 (ints (lset (lset l1_0 (gat 0 l1_1 (isub .i64 (llen l1_1) 1)) y1_6) y1_6 (gat 0 l1_1 (isub .i64 (llen l1_1) 1)))), flat (subV w1_1 0 (isub .i64 (llen l1_1) 1)) 3 (ints (lsub l1_1 0 (isub .i64 (llen l1_1) 1)))] := S62.resub (k := 1) rfl g49;have S66 := S65.pick [0, 1] (by decide) rfl;exact ⟨n1, Nat.lt_succ_self _, (lset (lset l1_0 (gat 0 l1_1 (isub .i64 (llen l1_1) 1)) y1_6) y1_6 (gat 0 l1_1 (isub .i64 (llen l1_1) 1))), (lsub l1_1 0 (isub .i64 (llen l1_1) 1)), (iadd .i64 y1_6 1), (subV w1_1 0 (isub .i64 (llen l1_1) 1)), hL12, S66, A63, by simp [ej42_]⟩
      ·replace hL12 := cd_f hb43 hL12;refine .sr fun K hK => ?_;simp [ej42_];apply hK;refine DWp.ret ?_;simp only [andThen, leaves];have S67 := Sj42.nilItem (hB.le Aj42.1) 3;obtain rfl := Option.some.inj hL12;simp only [lr] at hF;obtain rfl := Option.some.inj hF;exact ⟨by simp, [(Value.slice none 0 0), (Value.bool false)], by simp [ej42_], Aj42, (Value.slice none 0 0), rfl, S67.pick [2] (by decide) rfl⟩
   ·replace hL12 := cd_f hb14 hL12;refine DWp.exit ?_;simp only [andThen, leaves, if_true, if_false, reduceIte, Nat.reduceEqDiff];obtain rfl := Option.some.inj hL12;simp only [lr] at hF;refine .seq ?_;have q68 := lenG (S1_.sl (k := 1) rfl) el_24;refine .sr fun K hK => ?_;simp [e1_, q68];apply hK;refine DWp.cond' (t := (ilt 0 (llen l1_1))) (by simp [e1_]) (fun hb69 => ?_) (fun hb69 => ?_)
    ·replace hF := cd_t hb69 hF;refine .sr fun K hK => ?_;simp [e1_];apply hK;refine DWp.ret ?_;simp only [andThen, leaves];have S70 := S1_.nilItem (hB.le A1_.1) 3;obtain rfl := Option.some.inj hF;exact ⟨by simp, [(Value.slice none 0 0), (Value.bool false)], by simp [e1_], A1_, (Value.slice none 0 0), rfl, S70.pick [2] (by decide) rfl⟩
    ·replace hF := cd_f hb69 hF;refine DWp.skip ?_;simp only [andThen, leaves];refine .sr fun K hK => ?_;simp [e1_];apply hK;refine DWp.ret ?_;obtain rfl := Option.some.inj hF;exact ⟨by simp, [v4, (Value.bool true)], by simp [e1_, ((S1_.sl (k := 0) rfl).tup)], A1_, v4, rfl, S1_.pick [0] (by decide) rfl⟩
def F_spec_l1Cur_sure_L1 (fu : Nat) (k1_0 : List Int) (k1_1 : Int) : Nat → Int → Int → ByteArray → Int → Int → Int → Option (Int × Int × ByteArray × Int × Int × Int)
  | 0, _, _, _, _, _, _ => none
  | n + 1, b1_0_1, b1_0_2, y1_5, y1_6, y1_7, y1_8 =>
    bif (ilt y1_8 (imul .i64 2 k1_1)) then
      bd (
        bif (ilt 0 y1_7) then
          bif (ieq y1_6 0) then
            some (b1_0_1, b1_0_2, true)
          else
            bd (F_spec_l1Cur_one fu k1_0 b1_0_1 b1_0_2 2) fun r1 =>
            some (r1.2.1, r1.2.2, r1.1)
        else
          some (b1_0_1, b1_0_2, false)) fun s5 =>
      bif s5.2.2 then
        gd (y1_5.size + (ByteArray.mk #[40]).size ≤ 9223372036854775807) (
        F_spec_l1Cur_sure_L1 fu k1_0 k1_1 n s5.1 s5.2.1 (sapp y1_5 (ByteArray.mk #[40])) (iadd .i64 y1_6 1) (isub .i64 y1_7 1) (iadd .i64 y1_8 1))
      else
        gd (y1_5.size + (ByteArray.mk #[41]).size ≤ 9223372036854775807) (
        F_spec_l1Cur_sure_L1 fu k1_0 k1_1 n s5.1 s5.2.1 (sapp y1_5 (ByteArray.mk #[41])) (isub .i64 y1_6 1) y1_7 (iadd .i64 y1_8 1))
    else
      some (b1_0_1, b1_0_2, y1_5, y1_6, y1_7, y1_8)
def F_spec_l1Cur_sure (fu : Nat) (x0_0 : List Int) (x0_1 : Int) (x0_2 : Int) (x1 : Int) : Option (List Int × Int × Int) :=
  bd (F_spec_l1Cur_sure_L1 fu x0_0 x1 fu x0_1 x0_2 (ByteArray.mk #[]) 0 x1 0) fun s1 =>
  bd (F_spec_ahParse fu s1.2.2.1) fun r2 =>
  some (r2.1, s1.1, s1.2.1)
theorem F_spec_l1Cur_sure_w {fu : Nat} {H : AH} {B : Nat → Prop} {p0 : Value} {v0_0 : Value} {x0_0 : List Int} {x0_1 : Int} {x0_2 : Int} {x1 : Int} {r : (List Int × Int × Int)} (hB : Up B H.length) (S0 : Sep H B [AL.box p0 [v0_0, (Value.int .i64 x0_1), (Value.int .u64 x0_2)]]) (hx0_0 : Sl H v0_0 (u8s x0_0)) (hdx0_0 : ∀ i, idOf v0_0 = some i → ¬ B i) (hF : F_spec_l1Cur_sure fu x0_0 x0_1 x0_2 x1 = some r) :
    ACallT Tryz.prog 94 [p0, (Value.int .i64 x1)] H (fun u G => AgB B H G ∧ ∃ u0 : Value, u = u0 ∧ Sep G B [flat u0 3 (ints r.1), AL.box p0 [v0_0, (Value.int .i64 r.2.1), (Value.int .u64 r.2.2)]]) := by
 refine ACallT.of_body (nt := 44) (rs := [.tmp 4]) Tryz.func94 rfl rfl rfl rfl ?_;have A0 : AgB B H H := .refl _ _;unfold F_spec_l1Cur_sure at hF;refine .sr fun K hK => ?_;simp [];apply hK;refine .sr fun K hK => ?_;simp [];apply hK;refine .sr fun K hK => ?_;simp [];apply hK;refine .seq ?_;refine .sr fun K hK => ?_;simp [];apply hK;refine .block ?_;obtain ⟨s1, hL2, hF⟩ := bd_some hF;have S3 := S0.pick [0] (by decide) rfl;refine DWp.loop (fun n env G => ∃ b1_0_1 : Int, ∃ b1_0_2 : Int, ∃ y1_5 : ByteArray, ∃ y1_6 : Int, ∃ y1_7 : Int, ∃ y1_8 : Int, F_spec_l1Cur_sure_L1 fu x0_0 x1 n b1_0_1 b1_0_2 y1_5 y1_6 y1_7 y1_8 = some s1 ∧ Sep G B [AL.box p0 [v0_0, (Value.int .i64 b1_0_1), (Value.int .u64 b1_0_2)]] ∧ AgB B H G ∧ env 0 = some p0 ∧ env 1 = some (Value.int .i64 x1) ∧ env 5 = some (Value.string y1_5) ∧ env 6 = some (Value.int .i64 y1_6) ∧ env 7 = some (Value.int .i64 y1_7) ∧ env 8 = some (Value.int .i64 y1_8)) fu ⟨x0_1, x0_2, (ByteArray.mk #[]), 0, x1, 0, hL2, S3, A0, by simp []⟩ ?_;rintro n1 env1 G1_ ⟨b1_0_1, b1_0_2, y1_5, y1_6, y1_7, y1_8, hL2, S1_, A1_, e1_⟩;cases n1 with
 | zero => cases hL2
 | succ n1 =>
  simp only [F_spec_l1Cur_sure_L1] at hL2;refine .seq ?_;refine .sr fun K hK => ?_;simp [e1_];apply hK;refine DWp.cond' (t := (ilt y1_8 (imul .i64 2 x1))) (by simp [e1_]) (fun hb4 => ?_) (fun hb4 => ?_)
  ·replace hL2 := cd_t hb4 hL2;refine DWp.skip ?_;simp only [andThen, leaves];refine .seq ?_;refine .block ?_;obtain ⟨s5, hL6, hL2⟩ := bd_some hL2;refine DWp.seq (DWp.join (fun env G => Sep G B [AL.box p0 [v0_0, (Value.int .i64 s5.1), (Value.int .u64 s5.2.1)]] ∧ AgB B H G ∧ env 0 = some p0 ∧ env 1 = some (Value.int .i64 x1) ∧ env 5 = some (Value.string y1_5) ∧ env 6 = some (Value.int .i64 y1_6) ∧ env 7 = some (Value.int .i64 y1_7) ∧ env 8 = some (Value.int .i64 y1_8) ∧ env 27 = some (Value.bool s5.2.2)) ?_ ?_)
   ·
    rcases Bool.eq_false_or_eq_true (ilt 0 y1_7) with hb8 | hb8
    ·replace hL6 := cd_t hb8 hL6;rcases Bool.eq_false_or_eq_true (ieq y1_6 0) with hb9 | hb9
     ·replace hL6 := cd_t hb9 hL6;refine .region fun K hK => ?_;simp [e1_, hb8, hb9];apply hK;simp only [andThen, leaves];have S10 := S1_.pick [0] (by decide) rfl;obtain rfl := Option.some.inj hL6;exact ⟨S10, A1_, by simp [e1_]⟩
     ·replace hL6 := cd_f hb9 hL6;obtain ⟨r1, hc11, hL6⟩ := bd_some hL6;refine .region fun K hK => ?_;simp [e1_, hb8, hb9, (S1_.ptup (k := 0) rfl)];have S12 : Sep G1_ B ([AL.box p0 [v0_0, (Value.int .i64 b1_0_1), (Value.int .u64 b1_0_2)]] ++ []) := S1_.pick [0] (by decide) rfl;obtain ⟨B18, S13, U14, M15, R16, C17⟩ := S12.frame (hB.le A1_.1);refine CallD.t (F_spec_l1Cur_one_w (fu := fu) U14 S13 (hx0_0.agr A1_ hdx0_0) (fun i_ hi_ hb_ => hdx0_0 i_ hi_ (M15 i_ hb_)) hc11) ?_;rintro _ G20 ⟨a23, rfl, S24⟩;have A22 := A1_.trans (a23.mono M15);have S21 : Sep G20 B [AL.box p0 [v0_0, (Value.int .i64 r1.2.1), (Value.int .u64 r1.2.2)]] := C17 _ _ a23 S24;simp [e1_, hb8, hb9];apply hK;simp only [andThen, leaves];have S25 := S21.pick [0] (by decide) rfl;obtain rfl := Option.some.inj hL6;exact ⟨S25, A22, by simp [e1_]⟩
    ·replace hL6 := cd_f hb8 hL6;refine .region fun K hK => ?_;simp [e1_, hb8, undef];apply hK;simp only [andThen, leaves];have S26 := S1_.pick [0] (by decide) rfl;obtain rfl := Option.some.inj hL6;exact ⟨S26, A1_, by simp [e1_]⟩
   ·rintro env Gj27 ⟨Sj27, Aj27, ej27_⟩;refine DWp.cond' (t := s5.2.2) (by simp [ej27_]) (fun hb28 => ?_) (fun hb28 => ?_)
    ·replace hL2 := cd_t hb28 hL2;obtain ⟨g29, hL2⟩ := gd_some hL2;refine .sr fun K hK => ?_;simp [ej27_, s_add g29];apply hK;refine .sr fun K hK => ?_;simp [ej27_];apply hK;refine .region fun K hK => ?_;simp [ej27_];apply hK;simp only [andThen, leaves];refine .region fun K hK => ?_;simp [ej27_];apply hK;simp only [andThen, leaves];have S30 := Sj27.pick [0] (by decide) rfl;exact ⟨n1, Nat.lt_succ_self _, s5.1, s5.2.1, (sapp y1_5 (ByteArray.mk #[40])), (iadd .i64 y1_6 1), (isub .i64 y1_7 1), (iadd .i64 y1_8 1), hL2, S30, Aj27, by simp [ej27_]⟩
    ·replace hL2 := cd_f hb28 hL2;obtain ⟨g31, hL2⟩ := gd_some hL2;refine .sr fun K hK => ?_;simp [ej27_, s_add g31];apply hK;refine .region fun K hK => ?_;simp [ej27_];apply hK;simp only [andThen, leaves];refine .region fun K hK => ?_;simp [ej27_];apply hK;simp only [andThen, leaves];have S32 := Sj27.pick [0] (by decide) rfl;exact ⟨n1, Nat.lt_succ_self _, s5.1, s5.2.1, (sapp y1_5 (ByteArray.mk #[41])), (isub .i64 y1_6 1), y1_7, (iadd .i64 y1_8 1), hL2, S32, Aj27, by simp [ej27_]⟩
  ·replace hL2 := cd_f hb4 hL2;refine DWp.exit ?_;simp only [andThen, leaves, if_true, if_false, reduceIte, Nat.reduceEqDiff];obtain rfl := Option.some.inj hL2;try dsimp only at hF
   obtain ⟨r2, hc33, hF⟩ := bd_some hF;refine .sr fun K hK => ?_;simp [e1_];refine CallD.t (F_spec_ahParse_w (fu := fu)  hc33) ?_;rintro _ G35 ⟨a38, c34_u0, rfl, S39⟩;have A37 := A1_.ext (hB.le A1_.1) a38.agree;have S36 : Sep G35 B [AL.box p0 [v0_0, (Value.int .i64 b1_0_1), (Value.int .u64 b1_0_2)], flat c34_u0 3 (ints r2.1)] := S1_.app a38.agree S39 (fun _ h => h) (hB.le A1_.1);simp [e1_, a38.pre];apply hK;refine .sr fun K hK => ?_;simp [e1_];apply hK;refine DWp.ret ?_;obtain rfl := Option.some.inj hF;exact ⟨by simp, [c34_u0], by simp [e1_, ((S36.sl (k := 1) rfl).tup)], A37, c34_u0, rfl, S36.pick [1, 0] (by decide) rfl⟩
def F_spec_ahFlat_L1 (fu : Nat) (k1_0 : Int) : Nat → List Int → Int → Option (List Int × Int)
  | 0, _, _ => none
  | n + 1, l1_0, y1_4 =>
    bif (ilt y1_4 k1_0) then
      gd (l1_0.length + [(iadd .i64 (imul .i64 2 y1_4) 1), (imul .i64 2 y1_4)].length ≤ 4294967296) (
      F_spec_ahFlat_L1 fu k1_0 n (lapp l1_0 [(iadd .i64 (imul .i64 2 y1_4) 1), (imul .i64 2 y1_4)]) (iadd .i64 y1_4 1))
    else
      some (l1_0, y1_4)
def F_spec_ahFlat (fu : Nat) (x0 : Int) : Option (List Int) :=
  bd (F_spec_ahFlat_L1 fu x0 fu (@List.nil Int) 0) fun s1 =>
  some s1.1
theorem F_spec_ahFlat_w {fu : Nat} {H : AH}  {x0 : Int} {r : (List Int)}  (hF : F_spec_ahFlat fu x0 = some r) :
    ACallT Tryz.prog 95 [(Value.int .i64 x0)] H (fun u G => AgB (Fr H) H G ∧ ∃ u0 : Value, u = u0 ∧ Sep G (Fr H) [flat u0 3 (ints r)]) := by
 refine ACallT.of_body (nt := 19) (rs := [.tmp 2]) Tryz.func95 rfl rfl rfl rfl ?_;have A0 : AgB (Fr H) H H := .refl _ _;have S0 : Sep H (Fr H) [] := .nil;have hB := Fr.up H;unfold F_spec_ahFlat at hF;refine .sr fun K hK => ?_;simp [];apply hK;refine .sr fun K hK => ?_;simp [];apply hK;refine .seq ?_;refine .sr fun K hK => ?_;simp [];apply hK;refine .block ?_;have S1 := S0.nilItem (hB.le A0.1) 3;obtain ⟨s2, hL3, hF⟩ := bd_some hF;have S4 := S1.pick [0] (by decide) rfl;refine DWp.loop (fun n env G => ∃ l1_0 : List Int, ∃ y1_4 : Int, ∃ w1_0 : Value, F_spec_ahFlat_L1 fu x0 n l1_0 y1_4 = some s2 ∧ Sep G (Fr H) [flat w1_0 3 (ints l1_0)] ∧ AgB (Fr H) H G ∧ env 0 = some (Value.int .i64 x0) ∧ env 3 = some w1_0 ∧ env 4 = some (Value.int .i64 y1_4)) fu ⟨(@List.nil Int), 0, (Value.slice none 0 0), hL3, S4, A0, by simp []⟩ ?_;rintro n1 env1 G1_ ⟨l1_0, y1_4, w1_0, hL3, S1_, A1_, e1_⟩;cases n1 with
 | zero => cases hL3
 | succ n1 =>
  simp only [F_spec_ahFlat_L1] at hL3;refine .seq ?_;refine .sr fun K hK => ?_;simp [e1_];apply hK;refine DWp.cond' (t := (ilt y1_4 x0)) (by simp [e1_]) (fun hb5 => ?_) (fun hb5 => ?_)
  ·replace hL3 := cd_t hb5 hL3;refine DWp.skip ?_;simp only [andThen, leaves];refine .seq ?_;refine .block ?_;obtain ⟨v6, G7, q8, S9, a11, _, _⟩ := S1_.lit2 (t := 24) (hB.le A1_.1) el_24 ei_3 rfl (Value.int .i64 (iadd .i64 (imul .i64 2 y1_4) 1)) (Value.int .i64 (imul .i64 2 y1_4)) rfl rfl rfl rfl;have A10 := A1_.ext (hB.le A1_.1) a11;replace S9 : Sep G7 (Fr H) [flat w1_0 3 (ints l1_0), flat1 v6 3 (ints [(iadd .i64 (imul .i64 2 y1_4) 1), (imul .i64 2 y1_4)])] := S9;obtain ⟨g13, hL3⟩ := gd_some hL3;obtain ⟨v19, G14, q15, S16, a18, _, _⟩ := S9.appendG (f := (Value.int .i64)) (xs := l1_0) (ys := [(iadd .i64 (imul .i64 2 y1_4) 1), (imul .i64 2 y1_4)]) (t := 24) (t2 := 24) (k := 0) rfl (hB.le A10.1) el_24 el_24 ei_3 rfl (S9.sl1 (k := 1) rfl) g13;have A17 := A10.trans a18;replace S16 : Sep G14 (Fr H) [flat v19 3 (ints (lapp l1_0 [(iadd .i64 (imul .i64 2 y1_4) 1), (imul .i64 2 y1_4)])), flat1 v6 3 (ints [(iadd .i64 (imul .i64 2 y1_4) 1), (imul .i64 2 y1_4)])] := S16;refine .region fun K hK => ?_;simp [e1_, q8, a11.to_pre, q15];apply hK;simp only [andThen, leaves];refine .region fun K hK => ?_;simp [e1_];apply hK;simp only [andThen, leaves];have S20 := S16.pick [0] (by decide) rfl;exact ⟨n1, Nat.lt_succ_self _, (lapp l1_0 [(iadd .i64 (imul .i64 2 y1_4) 1), (imul .i64 2 y1_4)]), (iadd .i64 y1_4 1), v19, hL3, S20, A17, by simp [e1_]⟩
  ·replace hL3 := cd_f hb5 hL3;refine DWp.exit ?_;simp only [andThen, leaves, if_true, if_false, reduceIte, Nat.reduceEqDiff];obtain rfl := Option.some.inj hL3;try dsimp only at hF
   refine .sr fun K hK => ?_;simp [e1_];apply hK;refine DWp.ret ?_;obtain rfl := Option.some.inj hF;exact ⟨by simp, [w1_0], by simp [e1_, ((S1_.sl (k := 0) rfl).tup)], A1_, w1_0, rfl, S1_.pick [0] (by decide) rfl⟩
def F_spec_ahRainbow_L1 (fu : Nat)  : Nat → List Int → Int → Option (List Int × Int)
  | 0, _, _ => none
  | n + 1, l1_0, y1_4 =>
    bif (ile 0 y1_4) then
      gd (l1_0.length + [y1_4].length ≤ 4294967296) (
      F_spec_ahRainbow_L1 fu n (lapp l1_0 [y1_4]) (isub .i64 y1_4 1))
    else
      some (l1_0, y1_4)
def F_spec_ahRainbow (fu : Nat) (x0 : Int) : Option (List Int) :=
  bd (F_spec_ahRainbow_L1 fu fu (@List.nil Int) (isub .i64 (imul .i64 2 x0) 1)) fun s1 =>
  some s1.1
theorem F_spec_ahRainbow_w {fu : Nat} {H : AH}  {x0 : Int} {r : (List Int)}  (hF : F_spec_ahRainbow fu x0 = some r) :
    ACallT Tryz.prog 96 [(Value.int .i64 x0)] H (fun u G => AgB (Fr H) H G ∧ ∃ u0 : Value, u = u0 ∧ Sep G (Fr H) [flat u0 3 (ints r)]) := by
 refine ACallT.of_body (nt := 17) (rs := [.tmp 2]) Tryz.func96 rfl rfl rfl rfl ?_;have A0 : AgB (Fr H) H H := .refl _ _;have S0 : Sep H (Fr H) [] := .nil;have hB := Fr.up H;unfold F_spec_ahRainbow at hF;refine .sr fun K hK => ?_;simp [];apply hK;refine .sr fun K hK => ?_;simp [];apply hK;refine .seq ?_;refine .sr fun K hK => ?_;simp [];apply hK;refine .block ?_;have S1 := S0.nilItem (hB.le A0.1) 3;obtain ⟨s2, hL3, hF⟩ := bd_some hF;have S4 := S1.pick [0] (by decide) rfl;refine DWp.loop (fun n env G => ∃ l1_0 : List Int, ∃ y1_4 : Int, ∃ w1_0 : Value, F_spec_ahRainbow_L1 fu n l1_0 y1_4 = some s2 ∧ Sep G (Fr H) [flat w1_0 3 (ints l1_0)] ∧ AgB (Fr H) H G ∧ env 3 = some w1_0 ∧ env 4 = some (Value.int .i64 y1_4)) fu ⟨(@List.nil Int), (isub .i64 (imul .i64 2 x0) 1), (Value.slice none 0 0), hL3, S4, A0, by simp []⟩ ?_;rintro n1 env1 G1_ ⟨l1_0, y1_4, w1_0, hL3, S1_, A1_, e1_⟩;cases n1 with
 | zero => cases hL3
 | succ n1 =>
  simp only [F_spec_ahRainbow_L1] at hL3;refine .seq ?_;refine .sr fun K hK => ?_;simp [e1_];apply hK;refine DWp.cond' (t := (ile 0 y1_4)) (by simp [e1_]) (fun hb5 => ?_) (fun hb5 => ?_)
  ·replace hL3 := cd_t hb5 hL3;refine DWp.skip ?_;simp only [andThen, leaves];refine .seq ?_;refine .block ?_;obtain ⟨v6, G7, q8, S9, a11, _, _⟩ := S1_.lit1 (t := 24) (hB.le A1_.1) el_24 ei_3 rfl (Value.int .i64 y1_4) rfl rfl;have A10 := A1_.ext (hB.le A1_.1) a11;replace S9 : Sep G7 (Fr H) [flat w1_0 3 (ints l1_0), flat1 v6 3 (ints [y1_4])] := S9;obtain ⟨g13, hL3⟩ := gd_some hL3;obtain ⟨v19, G14, q15, S16, a18, _, _⟩ := S9.appendG (f := (Value.int .i64)) (xs := l1_0) (ys := [y1_4]) (t := 24) (t2 := 24) (k := 0) rfl (hB.le A10.1) el_24 el_24 ei_3 rfl (S9.sl1 (k := 1) rfl) g13;have A17 := A10.trans a18;replace S16 : Sep G14 (Fr H) [flat v19 3 (ints (lapp l1_0 [y1_4])), flat1 v6 3 (ints [y1_4])] := S16;refine .region fun K hK => ?_;simp [e1_, q8, a11.to_pre, q15];apply hK;simp only [andThen, leaves];refine .region fun K hK => ?_;simp [e1_];apply hK;simp only [andThen, leaves];have S20 := S16.pick [0] (by decide) rfl;exact ⟨n1, Nat.lt_succ_self _, (lapp l1_0 [y1_4]), (isub .i64 y1_4 1), v19, hL3, S20, A17, by simp [e1_]⟩
  ·replace hL3 := cd_f hb5 hL3;refine DWp.exit ?_;simp only [andThen, leaves, if_true, if_false, reduceIte, Nat.reduceEqDiff];obtain rfl := Option.some.inj hL3;try dsimp only at hF
   refine .sr fun K hK => ?_;simp [e1_];apply hK;refine DWp.ret ?_;obtain rfl := Option.some.inj hF;exact ⟨by simp, [w1_0], by simp [e1_, ((S1_.sl (k := 0) rfl).tup)], A1_, w1_0, rfl, S1_.pick [0] (by decide) rfl⟩
def F_spec_l1Cur_system (fu : Nat) (x0_0 : List Int) (x0_1 : Int) (x0_2 : Int) (x1 : Int) : Option (List Int × Int × Int) :=
  bd (F_spec_l1Cur_pick fu x0_0 x0_1 x0_2 (iadd .i64 x1 1)) fun r1 =>
  bd (F_spec_l1Cur_sure fu x0_0 r1.2.1 r1.2.2 r1.1) fun r2 =>
  bd (F_spec_l1Cur_pick fu x0_0 r2.2.1 r2.2.2 16) fun r3 =>
  bif (ieq r3.1 0) then
    bif (ilt 0 (llen r2.1)) then
      bd (F_spec_l1Cur_pick fu x0_0 r3.2.1 r3.2.2 (llen r2.1)) fun r4 =>
      bd (F_spec_l1Cur_pick fu x0_0 r4.2.1 r4.2.2 (iadd .i64 (llen r2.1) 2)) fun r5 =>
      gd (inL r2.1 r4.1) (
      some ((lset r2.1 r4.1 (isub .i64 r5.1 1)), r5.2.1, r5.2.2))
    else
      some (r2.1, r3.2.1, r3.2.2)
  else
    bif (ieq r3.1 1) then
      gd (r2.1.length + [(iadd .i64 (llen r2.1) 1)].length ≤ 4294967296) (
      some ((lapp r2.1 [(iadd .i64 (llen r2.1) 1)]), r3.2.1, r3.2.2))
    else
      bif (ieq r3.1 2) then
        bd (F_spec_l1Cur_pick fu x0_0 r3.2.1 r3.2.2 2) fun r6 =>
        bd (F_spec_ahFlat fu (iadd .i64 6 r6.1)) fun r7 =>
        some (r7, r6.2.1, r6.2.2)
      else
        bif (ieq r3.1 3) then
          bd (F_spec_l1Cur_pick fu x0_0 r3.2.1 r3.2.2 7) fun r8 =>
          bd (F_spec_ahRainbow fu r8.1) fun r9 =>
          some (r9, r8.2.1, r8.2.2)
        else
          some (r2.1, r3.2.1, r3.2.2)
theorem F_spec_l1Cur_system_w {fu : Nat} {H : AH} {B : Nat → Prop} {p0 : Value} {v0_0 : Value} {x0_0 : List Int} {x0_1 : Int} {x0_2 : Int} {x1 : Int} {r : (List Int × Int × Int)} (hB : Up B H.length) (S0 : Sep H B [AL.box p0 [v0_0, (Value.int .i64 x0_1), (Value.int .u64 x0_2)]]) (hx0_0 : Sl H v0_0 (u8s x0_0)) (hdx0_0 : ∀ i, idOf v0_0 = some i → ¬ B i) (hF : F_spec_l1Cur_system fu x0_0 x0_1 x0_2 x1 = some r) :
    ACallT Tryz.prog 51 [p0, (Value.int .i64 x1)] H (fun u G => AgB B H G ∧ ∃ u0 : Value, u = u0 ∧ Sep G B [flat u0 3 (ints r.1), AL.box p0 [v0_0, (Value.int .i64 r.2.1), (Value.int .u64 r.2.2)]]) := by
 refine ACallT.of_body (nt := 51) (rs := [.tmp 4]) Tryz.func51 rfl rfl rfl rfl ?_;have A0 : AgB B H H := .refl _ _;unfold F_spec_l1Cur_system at hF;refine .sr fun K hK => ?_;simp [];apply hK;obtain ⟨r1, hc1, hF⟩ := bd_some hF;refine .sr fun K hK => ?_;simp [(S0.ptup (k := 0) rfl)];have S2 : Sep H B ([AL.box p0 [v0_0, (Value.int .i64 x0_1), (Value.int .u64 x0_2)]] ++ []) := S0.pick [0] (by decide) rfl;obtain ⟨B8, S3, U4, M5, R6, C7⟩ := S2.frame (hB.le A0.1);refine CallD.t (F_spec_l1Cur_pick_w (fu := fu) U4 S3 (hx0_0.agr A0 hdx0_0) (fun i_ hi_ hb_ => hdx0_0 i_ hi_ (M5 i_ hb_)) hc1) ?_;rintro _ G10 ⟨a13, rfl, S14⟩;have A12 := A0.trans (a13.mono M5);have S11 : Sep G10 B [AL.box p0 [v0_0, (Value.int .i64 r1.2.1), (Value.int .u64 r1.2.2)]] := C7 _ _ a13 S14;obtain ⟨r2, hc15, hF⟩ := bd_some hF;simp [(S11.ptup (k := 0) rfl)];have S16 : Sep G10 B ([AL.box p0 [v0_0, (Value.int .i64 r1.2.1), (Value.int .u64 r1.2.2)]] ++ []) := S11.pick [0] (by decide) rfl;obtain ⟨B22, S17, U18, M19, R20, C21⟩ := S16.frame (hB.le A12.1);refine CallD.t (F_spec_l1Cur_sure_w (fu := fu) U18 S17 (hx0_0.agr A12 hdx0_0) (fun i_ hi_ hb_ => hdx0_0 i_ hi_ (M19 i_ hb_)) hc15) ?_;rintro c23_u0 G24 ⟨a27, _, rfl, S28⟩;have A26 := A12.trans (a27.mono M19);have S25 : Sep G24 B [flat c23_u0 3 (ints r2.1), AL.box p0 [v0_0, (Value.int .i64 r2.2.1), (Value.int .u64 r2.2.2)]] := C21 _ _ a27 S28;simp [];apply hK;refine .seq ?_;obtain ⟨r3, hc29, hF⟩ := bd_some hF;refine .sr fun K hK => ?_;simp [(S25.ptup (k := 1) rfl)];have S30 : Sep G24 B ([AL.box p0 [v0_0, (Value.int .i64 r2.2.1), (Value.int .u64 r2.2.2)]] ++ [flat c23_u0 3 (ints r2.1)]) := S25.pick [1, 0] (by decide) rfl;obtain ⟨B36, S31, U32, M33, R34, C35⟩ := S30.frame (hB.le A26.1)
 refine CallD.t (F_spec_l1Cur_pick_w (fu := fu) U32 S31 (hx0_0.agr A26 hdx0_0) (fun i_ hi_ hb_ => hdx0_0 i_ hi_ (M33 i_ hb_)) hc29) ?_;rintro _ G38 ⟨a41, rfl, S42⟩;have A40 := A26.trans (a41.mono M33);have S39 : Sep G38 B [AL.box p0 [v0_0, (Value.int .i64 r3.2.1), (Value.int .u64 r3.2.2)], flat c23_u0 3 (ints r2.1)] := C35 _ _ a41 S42;simp [];apply hK;refine .block ?_;refine .sr fun K hK => ?_;simp [];apply hK;refine DWp.cond' (t := (ieq r3.1 0)) (by simp []) (fun hb43 => ?_) (fun hb43 => ?_)
 ·replace hF := cd_t hb43 hF;have q44 := lenG (S39.sl (k := 1) rfl) el_24;refine .sr fun K hK => ?_;simp [q44];apply hK;refine DWp.cond' (t := (ilt 0 (llen r2.1))) (by simp []) (fun hb45 => ?_) (fun hb45 => ?_)
  ·replace hF := cd_t hb45 hF;have q46 := lenG (S39.sl (k := 1) rfl) el_24;obtain ⟨r4, hc47, hF⟩ := bd_some hF;refine .region fun K hK => ?_;simp [q46, (S39.ptup (k := 0) rfl)];have S48 : Sep G38 B ([AL.box p0 [v0_0, (Value.int .i64 r3.2.1), (Value.int .u64 r3.2.2)]] ++ [flat c23_u0 3 (ints r2.1)]) := S39.pick [0, 1] (by decide) rfl;obtain ⟨B54, S49, U50, M51, R52, C53⟩ := S48.frame (hB.le A40.1);refine CallD.t (F_spec_l1Cur_pick_w (fu := fu) U50 S49 (hx0_0.agr A40 hdx0_0) (fun i_ hi_ hb_ => hdx0_0 i_ hi_ (M51 i_ hb_)) hc47) ?_;rintro _ G56 ⟨a59, rfl, S60⟩;have A58 := A40.trans (a59.mono M51);have S57 : Sep G56 B [AL.box p0 [v0_0, (Value.int .i64 r4.2.1), (Value.int .u64 r4.2.2)], flat c23_u0 3 (ints r2.1)] := C53 _ _ a59 S60;have q61 := lenG (S57.sl (k := 1) rfl) el_24;obtain ⟨r5, hc62, hF⟩ := bd_some hF;simp [q46, q61, (S57.ptup (k := 0) rfl)];have S63 : Sep G56 B ([AL.box p0 [v0_0, (Value.int .i64 r4.2.1), (Value.int .u64 r4.2.2)]] ++ [flat c23_u0 3 (ints r2.1)]) := S57.pick [0, 1] (by decide) rfl;obtain ⟨B69, S64, U65, M66, R67, C68⟩ := S63.frame (hB.le A58.1);refine CallD.t (F_spec_l1Cur_pick_w (fu := fu) U65 S64 (hx0_0.agr A58 hdx0_0) (fun i_ hi_ hb_ => hdx0_0 i_ hi_ (M66 i_ hb_)) hc62) ?_;rintro _ G71 ⟨a74, rfl, S75⟩;have A73 := A58.trans (a74.mono M66);have S72 : Sep G71 B [AL.box p0 [v0_0, (Value.int .i64 r5.2.1), (Value.int .u64 r5.2.2)], flat c23_u0 3 (ints r2.1)] := C68 _ _ a74 S75;obtain ⟨g76, hF⟩ := gd_some hF;have q77 := idxG (kk := .i64) (S72.sl (k := 1) rfl) el_24 sz_3 g76;obtain ⟨G78, q79, S80, a82⟩ := S72.storeG (f := (Value.int .i64)) (k := 1) (x := (isub .i64 r5.1 1)) rfl (hB.le A73.1) sz_3 g76 rfl rfl;have A81 := A73.trans a82
   replace S80 : Sep G78 B [AL.box p0 [v0_0, (Value.int .i64 r5.2.1), (Value.int .u64 r5.2.2)], flat c23_u0 3 (ints (lset r2.1 r4.1 (isub .i64 r5.1 1)))] := S80;simp [q46, q61, q77, q79];apply hK;simp only [andThen, leaves];refine .sr fun K hK => ?_;simp [];apply hK;refine DWp.ret ?_;obtain rfl := Option.some.inj hF;exact ⟨by simp, [c23_u0], by simp [((S80.sl (k := 1) rfl).tup)], A81, c23_u0, rfl, S80.pick [1, 0] (by decide) rfl⟩
  ·replace hF := cd_f hb45 hF;refine DWp.skip ?_;simp only [andThen, leaves];refine .sr fun K hK => ?_;simp [];apply hK;refine DWp.ret ?_;obtain rfl := Option.some.inj hF;exact ⟨by simp, [c23_u0], by simp [((S39.sl (k := 1) rfl).tup)], A40, c23_u0, rfl, S39.pick [1, 0] (by decide) rfl⟩
 ·replace hF := cd_f hb43 hF;refine .sr fun K hK => ?_;simp [];apply hK;refine DWp.cond' (t := (ieq r3.1 1)) (by simp []) (fun hb83 => ?_) (fun hb83 => ?_)
  ·replace hF := cd_t hb83 hF;have q84 := lenG (S39.sl (k := 1) rfl) el_24;obtain ⟨v85, G86, q87, S88, a90, _, _⟩ := S39.lit1 (t := 24) (hB.le A40.1) el_24 ei_3 rfl (Value.int .i64 (iadd .i64 (llen r2.1) 1)) rfl rfl;have A89 := A40.ext (hB.le A40.1) a90;replace S88 : Sep G86 B [AL.box p0 [v0_0, (Value.int .i64 r3.2.1), (Value.int .u64 r3.2.2)], flat c23_u0 3 (ints r2.1), flat1 v85 3 (ints [(iadd .i64 (llen r2.1) 1)])] := S88;obtain ⟨g92, hF⟩ := gd_some hF;obtain ⟨v98, G93, q94, S95, a97, _, _⟩ := S88.appendG (f := (Value.int .i64)) (xs := r2.1) (ys := [(iadd .i64 (llen r2.1) 1)]) (t := 24) (t2 := 24) (k := 1) rfl (hB.le A89.1) el_24 el_24 ei_3 rfl (S88.sl1 (k := 2) rfl) g92;have A96 := A89.trans a97;replace S95 : Sep G93 B [AL.box p0 [v0_0, (Value.int .i64 r3.2.1), (Value.int .u64 r3.2.2)], flat v98 3 (ints (lapp r2.1 [(iadd .i64 (llen r2.1) 1)])), flat1 v85 3 (ints [(iadd .i64 (llen r2.1) 1)])] := S95;refine .region fun K hK => ?_;simp [q84, q87, a90.to_pre, q94];apply hK;simp only [andThen, leaves];refine .sr fun K hK => ?_;simp [];apply hK;refine DWp.ret ?_;obtain rfl := Option.some.inj hF;exact ⟨by simp, [v98], by simp [((S95.sl (k := 1) rfl).tup)], A96, v98, rfl, S95.pick [1, 0] (by decide) rfl⟩
  ·replace hF := cd_f hb83 hF;refine .sr fun K hK => ?_;simp [];apply hK;refine DWp.cond' (t := (ieq r3.1 2)) (by simp []) (fun hb99 => ?_) (fun hb99 => ?_)
   ·replace hF := cd_t hb99 hF;obtain ⟨r6, hc100, hF⟩ := bd_some hF;refine .region fun K hK => ?_;simp [(S39.ptup (k := 0) rfl)];have S101 : Sep G38 B ([AL.box p0 [v0_0, (Value.int .i64 r3.2.1), (Value.int .u64 r3.2.2)]] ++ [flat c23_u0 3 (ints r2.1)]) := S39.pick [0, 1] (by decide) rfl;obtain ⟨B107, S102, U103, M104, R105, C106⟩ := S101.frame (hB.le A40.1);refine CallD.t (F_spec_l1Cur_pick_w (fu := fu) U103 S102 (hx0_0.agr A40 hdx0_0) (fun i_ hi_ hb_ => hdx0_0 i_ hi_ (M104 i_ hb_)) hc100) ?_;rintro _ G109 ⟨a112, rfl, S113⟩;have A111 := A40.trans (a112.mono M104);have S110 : Sep G109 B [AL.box p0 [v0_0, (Value.int .i64 r6.2.1), (Value.int .u64 r6.2.2)], flat c23_u0 3 (ints r2.1)] := C106 _ _ a112 S113;obtain ⟨r7, hc114, hF⟩ := bd_some hF;simp [];refine CallD.t (F_spec_ahFlat_w (fu := fu)  hc114) ?_;rintro c115_u0 G116 ⟨a119, _, rfl, S120⟩;have A118 := A111.ext (hB.le A111.1) a119.agree;have S117 : Sep G116 B [AL.box p0 [v0_0, (Value.int .i64 r6.2.1), (Value.int .u64 r6.2.2)], flat c23_u0 3 (ints r2.1), flat c115_u0 3 (ints r7)] := S110.app a119.agree S120 (fun _ h => h) (hB.le A111.1);simp [a119.pre];apply hK;simp only [andThen, leaves];refine .sr fun K hK => ?_;simp [];apply hK;refine DWp.ret ?_;obtain rfl := Option.some.inj hF;exact ⟨by simp, [c115_u0], by simp [((S117.sl (k := 2) rfl).tup)], A118, c115_u0, rfl, S117.pick [2, 0] (by decide) rfl⟩
   ·replace hF := cd_f hb99 hF;refine .sr fun K hK => ?_;simp [];apply hK;refine DWp.cond' (t := (ieq r3.1 3)) (by simp []) (fun hb121 => ?_) (fun hb121 => ?_)
    ·replace hF := cd_t hb121 hF;obtain ⟨r8, hc122, hF⟩ := bd_some hF;refine .region fun K hK => ?_;simp [(S39.ptup (k := 0) rfl)];have S123 : Sep G38 B ([AL.box p0 [v0_0, (Value.int .i64 r3.2.1), (Value.int .u64 r3.2.2)]] ++ [flat c23_u0 3 (ints r2.1)]) := S39.pick [0, 1] (by decide) rfl;obtain ⟨B129, S124, U125, M126, R127, C128⟩ := S123.frame (hB.le A40.1);refine CallD.t (F_spec_l1Cur_pick_w (fu := fu) U125 S124 (hx0_0.agr A40 hdx0_0) (fun i_ hi_ hb_ => hdx0_0 i_ hi_ (M126 i_ hb_)) hc122) ?_;rintro _ G131 ⟨a134, rfl, S135⟩;have A133 := A40.trans (a134.mono M126);have S132 : Sep G131 B [AL.box p0 [v0_0, (Value.int .i64 r8.2.1), (Value.int .u64 r8.2.2)], flat c23_u0 3 (ints r2.1)] := C128 _ _ a134 S135;obtain ⟨r9, hc136, hF⟩ := bd_some hF;simp [];refine CallD.t (F_spec_ahRainbow_w (fu := fu)  hc136) ?_;rintro c137_u0 G138 ⟨a141, _, rfl, S142⟩;have A140 := A133.ext (hB.le A133.1) a141.agree;have S139 : Sep G138 B [AL.box p0 [v0_0, (Value.int .i64 r8.2.1), (Value.int .u64 r8.2.2)], flat c23_u0 3 (ints r2.1), flat c137_u0 3 (ints r9)] := S132.app a141.agree S142 (fun _ h => h) (hB.le A133.1);simp [a141.pre];apply hK;simp only [andThen, leaves];refine .sr fun K hK => ?_;simp [];apply hK;refine DWp.ret ?_;obtain rfl := Option.some.inj hF;exact ⟨by simp, [c137_u0], by simp [((S139.sl (k := 2) rfl).tup)], A140, c137_u0, rfl, S139.pick [2, 0] (by decide) rfl⟩
    ·replace hF := cd_f hb121 hF;refine DWp.skip ?_;simp only [andThen, leaves];refine .sr fun K hK => ?_;simp [];apply hK;refine DWp.ret ?_;obtain rfl := Option.some.inj hF;exact ⟨by simp, [c23_u0], by simp [((S39.sl (k := 1) rfl).tup)], A40, c23_u0, rfl, S39.pick [1, 0] (by decide) rfl⟩
def F_spec_l1In (fu : Nat) (x0 : Int) (x1 : Int) (x2 : Int) : Option (Bool) :=
  bif (ile x1 x0) then
    some (ile x0 x2)
  else
    some false
theorem F_spec_l1In_w {fu : Nat} {H : AH}  {x0 : Int} {x1 : Int} {x2 : Int} {r : (Bool)}  (hF : F_spec_l1In fu x0 x1 x2 = some r) :
    ACallT Tryz.prog 126 [(Value.int .i64 x0), (Value.int .i64 x1), (Value.int .i64 x2)] H (fun u G => AgB (Fr H) H G ∧ u = (Value.bool r) ∧ Sep G (Fr H) []) := by
 refine ACallT.of_body (nt := 15) (rs := [.tmp 6]) Tryz.func126 rfl rfl rfl rfl ?_;have A0 : AgB (Fr H) H H := .refl _ _;have S0 : Sep H (Fr H) [] := .nil;have hB := Fr.up H;unfold F_spec_l1In at hF;refine .sr fun K hK => ?_;simp [];apply hK;rcases Bool.eq_false_or_eq_true (ile x1 x0) with hb1 | hb1
 ·replace hF := cd_t hb1 hF;refine .sr fun K hK => ?_;simp [hb1];apply hK;refine DWp.ret ?_;obtain rfl := Option.some.inj hF;exact ⟨by simp, [(Value.bool (ile x0 x2))], by simp [], A0, rfl, S0.pick [] (by decide) rfl⟩
 ·replace hF := cd_f hb1 hF;refine .sr fun K hK => ?_;simp [hb1];apply hK;refine DWp.ret ?_;obtain rfl := Option.some.inj hF;exact ⟨by simp, [(Value.bool false)], by simp [], A0, rfl, S0.pick [] (by decide) rfl⟩
end Go.Proofs.YtogghgecmjnieaaGreat.AL

/- The walks of functions, each with its Lean function: laws.big, spec.l1Cur).next, spec.l1Cur).pick, spec.l1Cur).among, spec.DrawAllWhole, impl.in, impl.covered, slices.Clone[[]int,int], impl.joined, bits.Len32. No condition. -/
import Derived.Test.YtbckijeffiofdaaALD
import Derived.Test.YtbckijeffiofdaaProg
import Derived.KernelRfl
namespace Go.Proofs.Ytbckijeffiofdaa.AL
open Go Go.RowKit
set_option linter.unusedVariables false
set_option linter.unusedSimpArgs false
set_option maxRecDepth 4096
attribute [local simp] n_fn b_add b_sub b_mul b_lt b_le b_gt b_ge b_eq b_ne u_not
theorem mixed : Try.prog.follows .mixedOrders = true := by kernel_rfl
theorem ag_3 : aggT Try.prog 3 = some false := by kernel_rfl
theorem ag_5 : aggT Try.prog 5 = some false := by kernel_rfl
theorem ag_64 : aggT Try.prog 64 = some false := by kernel_rfl
theorem ag_99 : aggT Try.prog 99 = some false := by kernel_rfl
theorem ei_3 : einfo Try.prog 3 = some ⟨1, 8, .int .i64 0⟩ := by kernel_rfl
theorem el_22 : elemT Try.prog 22 = some 3 := by kernel_rfl
theorem el_64 : elemT Try.prog 64 = some 5 := by kernel_rfl
theorem fa_101_0 : fldT Try.prog 101 0 = some 0 := by kernel_rfl
theorem fa_101_1 : fldT Try.prog 101 1 = some 1 := by kernel_rfl
theorem fa_101_2 : fldT Try.prog 101 2 = some 2 := by kernel_rfl
theorem pl_101 : placeT Try.prog 101 = some (.agg #[.slice none 0 0, .int .i64 0, .int .u64 0], fun i => [(0, 1), (1, 1), (2, 1)].toArray[i]?) := by kernel_rfl
theorem sz_3 : sizeT Try.prog 3 = some 1 := by kernel_rfl
theorem sz_5 : sizeT Try.prog 5 = some 1 := by kernel_rfl
theorem sz_64 : sizeT Try.prog 64 = some 1 := by kernel_rfl
theorem sz_99 : sizeT Try.prog 99 = some 1 := by kernel_rfl
theorem un_3 : Try.prog.underlying 3 = some (.int .i64) := by kernel_rfl
theorem un_5 : Try.prog.underlying 5 = some (.int .u8) := by kernel_rfl
theorem un_9 : Try.prog.underlying 9 = some .string := by kernel_rfl
theorem un_99 : Try.prog.underlying 99 = some (.int .u64) := by kernel_rfl
theorem us_22 : Try.prog.underlying 22 = some (.slice 3) := by kernel_rfl
theorem bv_101 {x : Value} (tx : isTup x = false) (cx : x.cells = #[x]) : aBuild Try.prog 101 [(0, x)] = some (.agg #[x, (Value.int .i64 0), (Value.int .u64 0)]) := build1of pl_101 rfl rfl rfl tx cx
def F_laws_big (fu : Nat) (x0 : List Int) (x1 : List Int) : Option (Bool) :=
  bif (ilt 1048576 (llen x0)) then
    some true
  else
    some (ilt (isub .i64 1048576 (llen x0)) (llen x1))
theorem F_laws_big_w {fu : Nat} {H : AH} {v0 : Value} {v1 : Value} {x0 : List Int} {x1 : List Int} {r : (Bool)} (hx0 : Sl H v0 (u8s x0)) (hx1 : Sl H v1 (u8s x1)) (hF : F_laws_big fu x0 x1 = some r) :
    ACallT Try.prog 68 [v0, v1] H (fun u G => AgB (Fr H) H G ∧ u = (Value.bool r) ∧ Sep G (Fr H) []) := by
 refine ACallT.of_body (nt := 16) (rs := [.tmp 4]) Try.func68 rfl rfl rfl rfl ?_;have A0 : AgB (Fr H) H H := .refl _ _;have S0 : Sep H (Fr H) [] := .nil;have hB := Fr.up H;unfold F_laws_big at hF;refine .sr fun K hK => ?_;simp [];apply hK;clear hK K;have q1 := lenG (P := Try.prog) (hx0.agree A0.agree) el_64;rcases Bool.eq_false_or_eq_true (ilt 1048576 (llen x0)) with hb2 | hb2
 ·replace hF := cd_t hb2 hF;refine .sr fun K hK => ?_;simp [hb2, q1];apply hK;clear hK K;refine DWp.ret ?_;obtain rfl := Option.some.inj hF;exact ⟨by simp, [(Value.bool true)], by simp [], A0, rfl, S0.pick [] (by decide) rfl⟩
 ·replace hF := cd_f hb2 hF;have q3 := lenG (P := Try.prog) (hx1.agree A0.agree) el_64;have q4 := lenG (P := Try.prog) (hx0.agree A0.agree) el_64;refine .sr fun K hK => ?_;simp [hb2, q1, q3, q4];apply hK;clear hK K;refine DWp.ret ?_;obtain rfl := Option.some.inj hF;exact ⟨by simp, [(Value.bool (ilt (isub .i64 1048576 (llen x0)) (llen x1)))], by simp [], A0, rfl, S0.pick [] (by decide) rfl⟩
def F_spec_l1Cur_next (fu : Nat) (x0_0 : List Int) (x0_1 : Int) (x0_2 : Int) : Option (Int × Int × Int) :=
  bd (
    bif (ilt x0_1 (llen x0_0)) then
      gd (inL x0_0 x0_1) (
      some (iwr .i64 (gat 0 x0_0 x0_1)))
    else
      some 0) fun s1 =>
  bif (ile (iadd .i64 x0_1 1) (llen x0_0)) then
    some (s1, (iadd .i64 x0_1 1), (iadd .u64 (iadd .u64 (imul .u64 x0_2 6364136223846793005) (iwr .u64 s1)) 1442695040888963407))
  else
    some ((iwr .i64 (iand .u64 (ishr .u64 (iadd .u64 (iadd .u64 (imul .u64 x0_2 6364136223846793005) (iwr .u64 s1)) 1442695040888963407) 40) 255)), (iadd .i64 x0_1 1), (iadd .u64 (iadd .u64 (imul .u64 x0_2 6364136223846793005) (iwr .u64 s1)) 1442695040888963407))
theorem F_spec_l1Cur_next_w {fu : Nat} {H : AH} {B : Nat → Prop} {p0 : Value} {v0_0 : Value} {x0_0 : List Int} {x0_1 : Int} {x0_2 : Int} {r : (Int × Int × Int)} (hB : Up B H.length) (S0 : Sep H B [AL.box p0 [v0_0, (Value.int .i64 x0_1), (Value.int .u64 x0_2)]]) (hx0_0 : Sl H v0_0 (u8s x0_0)) (hdx0_0 : ∀ i, idOf v0_0 = some i → ¬ B i) (hF : F_spec_l1Cur_next fu x0_0 x0_1 x0_2 = some r) :
    ACallT Try.prog 156 [p0] H (fun u G => AgB B H G ∧ u = (Value.int .i64 r.1) ∧ Sep G B [AL.box p0 [v0_0, (Value.int .i64 r.2.1), (Value.int .u64 r.2.2)]]) := by
 refine ACallT.of_body (nt := 62) (rs := [.tmp 2]) Try.func156 rfl rfl rfl rfl ?_;have A0 : AgB B H H := .refl _ _;unfold F_spec_l1Cur_next at hF;refine .sr fun K hK => ?_;simp [];apply hK;clear hK K;refine .sr fun K hK => ?_;simp [];apply hK;clear hK K;obtain ⟨s1, hL2, hF⟩ := bd_some hF;refine DWp.seq (DWp.join (fun env G => Sep G B [AL.box p0 [v0_0, (Value.int .i64 x0_1), (Value.int .u64 x0_2)]] ∧ AgB B H G ∧ env 0 = some p0 ∧ env 3 = some (Value.int .i64 s1)) ?_ ?_)
 ·
  have q4 := S0.nilT (k := 0) rfl;have q5 := S0.fieldT (P := Try.prog) (k := 0) rfl fa_101_1;have q6 := S0.loadF (P := Try.prog) (k := 0) rfl sz_3 ag_3 (off := 1) rfl;have q7 := S0.nilT (k := 0) rfl;have q8 := S0.fieldT (P := Try.prog) (k := 0) rfl fa_101_0;have q9 := S0.loadF (P := Try.prog) (k := 0) rfl sz_64 ag_64 (off := 0) rfl;have q10 := lenG (P := Try.prog) (hx0_0.agr A0 hdx0_0) el_64;refine .sd (B := [0, 1, 3, 7, 0, 16, 48, 112, 240, 511]) 10 mixed (by kernel_rfl) (by decide) fun K hK => ?_;simp [q4, q5, q6, q7, q8, q9, q10];apply hK;clear hK K;refine DWp.cond' (t := (ilt x0_1 (llen x0_0))) (by simp []) (fun hb11 => ?_) (fun hb11 => ?_)
  ·replace hL2 := cd_t hb11 hL2;have q12 := S0.nilT (k := 0) rfl;have q13 := S0.fieldT (P := Try.prog) (k := 0) rfl fa_101_0;have q14 := S0.loadF (P := Try.prog) (k := 0) rfl sz_64 ag_64 (off := 0) rfl;have q15 := S0.nilT (k := 0) rfl;have q16 := S0.fieldT (P := Try.prog) (k := 0) rfl fa_101_1;have q17 := S0.loadF (P := Try.prog) (k := 0) rfl sz_3 ag_3 (off := 1) rfl;obtain ⟨g18, hL2⟩ := gd_some hL2;have q19 := idxG (P := Try.prog) (kk := .i64) (hx0_0.agr A0 hdx0_0) el_64 sz_5 g18;have q20 := loadG (P := Try.prog) (hx0_0.agr A0 hdx0_0) sz_5 ag_5 g18 0;refine .drawn (B := [0, 1, 3, 7, 0, 16, 48, 112, 255, 511, 1023, 2047]) 12 mixed (by kernel_rfl) (by decide) fun K hK => ?_;simp [q12, q13, q14, q15, q16, q17, q19, q20, c_int un_5 un_3];apply hK;clear hK K;simp only [andThen, leaves];have S21 := S0.pick [0] (by decide) rfl;obtain rfl := Option.some.inj hL2;exact ⟨S21, A0, by simp []⟩
  ·replace hL2 := cd_f hb11 hL2;refine DWp.skip ?_;simp only [andThen, leaves];have S22 := S0.pick [0] (by decide) rfl;obtain rfl := Option.some.inj hL2;exact ⟨S22, A0, by simp []⟩
 ·rintro env Gj23 ⟨Sj23, Aj23, ej23_0, ej23_3⟩;have q24 := Sj23.nilT (k := 0) rfl;have q25 := Sj23.fieldT (P := Try.prog) (k := 0) rfl fa_101_1;have q26 := Sj23.loadF (P := Try.prog) (k := 0) rfl sz_3 ag_3 (off := 1) rfl;have q27 := Sj23.nilT (k := 0) rfl;have q28 := Sj23.fieldT (P := Try.prog) (k := 0) rfl fa_101_1;obtain ⟨G29, q30, S31, a33⟩ := Sj23.putF (P := Try.prog) (k := 0) (off := 1) rfl (hB.le Aj23.1) sz_3 (by simp) (rfl : isTup (Value.int .i64 (iadd .i64 x0_1 1)) = false) (rfl : (Value.int .i64 (iadd .i64 x0_1 1)).cells = #[(Value.int .i64 (iadd .i64 x0_1 1))]);have A32 := Aj23.trans a33;replace S31 : Sep G29 B [AL.box p0 [v0_0, (Value.int .i64 (iadd .i64 x0_1 1)), (Value.int .u64 x0_2)]] := S31;refine .sr fun K hK => ?_;simp [ej23_0, ej23_3, q24, q25, q26, q27, q28, q30];apply hK;clear hK K;have q34 := S31.nilT (k := 0) rfl;have q35 := S31.fieldT (P := Try.prog) (k := 0) rfl fa_101_2;have q36 := S31.loadF (P := Try.prog) (k := 0) rfl sz_99 ag_99 (off := 2) rfl;have q37 := S31.nilT (k := 0) rfl;have q38 := S31.fieldT (P := Try.prog) (k := 0) rfl fa_101_2;obtain ⟨G39, q40, S41, a43⟩ := S31.putF (P := Try.prog) (k := 0) (off := 2) rfl (hB.le A32.1) sz_99 (by simp) (rfl : isTup (Value.int .u64 (iadd .u64 (iadd .u64 (imul .u64 x0_2 6364136223846793005) (iwr .u64 s1)) 1442695040888963407)) = false) (rfl : (Value.int .u64 (iadd .u64 (iadd .u64 (imul .u64 x0_2 6364136223846793005) (iwr .u64 s1)) 1442695040888963407)).cells = #[(Value.int .u64 (iadd .u64 (iadd .u64 (imul .u64 x0_2 6364136223846793005) (iwr .u64 s1)) 1442695040888963407))]);have A42 := A32.trans a43;replace S41 : Sep G39 B [AL.box p0 [v0_0, (Value.int .i64 (iadd .i64 x0_1 1)), (Value.int .u64 (iadd .u64 (iadd .u64 (imul .u64 x0_2 6364136223846793005) (iwr .u64 s1)) 1442695040888963407))]] := S41
  refine .sr fun K hK => ?_;simp [ej23_0, ej23_3, q34, q35, q36, c_int un_3 un_99, q37, q38, q40];apply hK;clear hK K;refine .seq ?_;have q44 := S41.nilT (k := 0) rfl;have q45 := S41.fieldT (P := Try.prog) (k := 0) rfl fa_101_1;have q46 := S41.loadF (P := Try.prog) (k := 0) rfl sz_3 ag_3 (off := 1) rfl;have q47 := S41.nilT (k := 0) rfl;have q48 := S41.fieldT (P := Try.prog) (k := 0) rfl fa_101_0;have q49 := S41.loadF (P := Try.prog) (k := 0) rfl sz_64 ag_64 (off := 0) rfl;have q50 := lenG (P := Try.prog) (hx0_0.agr A42 hdx0_0) el_64;refine .sd (B := [0, 1, 3, 7, 0, 16, 48, 112, 240, 511]) 10 mixed (by kernel_rfl) (by decide) fun K hK => ?_;simp [ej23_0, ej23_3, q44, q45, q46, q47, q48, q49, q50];apply hK;clear hK K;refine DWp.cond' (t := (ile (iadd .i64 x0_1 1) (llen x0_0))) (by simp [ej23_0, ej23_3]) (fun hb51 => ?_) (fun hb51 => ?_)
  ·replace hF := cd_t hb51 hF;refine .sr fun K hK => ?_;simp [ej23_0, ej23_3];apply hK;clear hK K;refine DWp.ret ?_;simp only [andThen, leaves];obtain rfl := Option.some.inj hF;exact ⟨by simp, [(Value.int .i64 s1)], by simp [ej23_0, ej23_3], A42, rfl, S41.pick [0] (by decide) rfl⟩
  ·replace hF := cd_f hb51 hF;refine DWp.skip ?_;simp only [andThen, leaves];have q52 := S41.nilT (k := 0) rfl;have q53 := S41.fieldT (P := Try.prog) (k := 0) rfl fa_101_2;have q54 := S41.loadF (P := Try.prog) (k := 0) rfl sz_99 ag_99 (off := 2) rfl;have g55 : ¬ ((40 : Int) < 0) := by decide
   refine .sr fun K hK => ?_;simp [ej23_0, ej23_3, q52, q53, q54, b_shr g55, b_and, c_int un_99 un_3];apply hK;clear hK K;refine DWp.ret ?_;obtain rfl := Option.some.inj hF;exact ⟨by simp, [(Value.int .i64 (iwr .i64 (iand .u64 (ishr .u64 (iadd .u64 (iadd .u64 (imul .u64 x0_2 6364136223846793005) (iwr .u64 s1)) 1442695040888963407) 40) 255)))], by simp [ej23_0, ej23_3], A42, rfl, S41.pick [0] (by decide) rfl⟩
def F_spec_l1Cur_pick (fu : Nat) (x0_0 : List Int) (x0_1 : Int) (x0_2 : Int) (x1 : Int) : Option (Int × Int × Int) :=
  bif (ile x1 1) then
    some (0, x0_1, x0_2)
  else
    bd (F_spec_l1Cur_next fu x0_0 x0_1 x0_2) fun r1 =>
    bif (ilt 200 x1) then
      bd (F_spec_l1Cur_next fu x0_0 r1.2.1 r1.2.2) fun r2 =>
      gd (x1 ≠ 0) (
      some ((irem (iadd .i64 (imul .i64 r1.1 256) r2.1) x1), r2.2.1, r2.2.2))
    else
      gd (x1 ≠ 0) (
      some ((irem r1.1 x1), r1.2.1, r1.2.2))
theorem F_spec_l1Cur_pick_w {fu : Nat} {H : AH} {B : Nat → Prop} {p0 : Value} {v0_0 : Value} {x0_0 : List Int} {x0_1 : Int} {x0_2 : Int} {x1 : Int} {r : (Int × Int × Int)} (hB : Up B H.length) (S0 : Sep H B [AL.box p0 [v0_0, (Value.int .i64 x0_1), (Value.int .u64 x0_2)]]) (hx0_0 : Sl H v0_0 (u8s x0_0)) (hdx0_0 : ∀ i, idOf v0_0 = some i → ¬ B i) (hF : F_spec_l1Cur_pick fu x0_0 x0_1 x0_2 x1 = some r) :
    ACallT Try.prog 127 [p0, (Value.int .i64 x1)] H (fun u G => AgB B H G ∧ u = (Value.int .i64 r.1) ∧ Sep G B [AL.box p0 [v0_0, (Value.int .i64 r.2.1), (Value.int .u64 r.2.2)]]) := by
 refine ACallT.of_body (nt := 20) (rs := [.tmp 4]) Try.func127 rfl rfl rfl rfl ?_;have A0 : AgB B H H := .refl _ _;unfold F_spec_l1Cur_pick at hF;refine .sr fun K hK => ?_;simp [];apply hK;clear hK K;refine .seq ?_;refine .sr fun K hK => ?_;simp [];apply hK;clear hK K;refine DWp.cond' (t := (ile x1 1)) (by simp []) (fun hb1 => ?_) (fun hb1 => ?_)
 ·replace hF := cd_t hb1 hF;refine .sr fun K hK => ?_;simp [];apply hK;clear hK K;refine DWp.ret ?_;simp only [andThen, leaves];obtain rfl := Option.some.inj hF;exact ⟨by simp, [(Value.int .i64 0)], by simp [], A0, rfl, S0.pick [0] (by decide) rfl⟩
 ·replace hF := cd_f hb1 hF;refine DWp.skip ?_;simp only [andThen, leaves];obtain ⟨r1, hc2, hF⟩ := bd_some hF;refine .sr fun K hK => ?_;simp [(S0.ptup (k := 0) rfl)];have S3 : Sep H B ([AL.box p0 [v0_0, (Value.int .i64 x0_1), (Value.int .u64 x0_2)]] ++ []) := S0.pick [0] (by decide) rfl;obtain ⟨B9, S4, U5, M6, R7, C8⟩ := S3.frame (hB.le A0.1);refine CallD.t (F_spec_l1Cur_next_w (fu := fu) U5 S4 (hx0_0.agr A0 hdx0_0) (fun i_ hi_ hb_ => hdx0_0 i_ hi_ (M6 i_ hb_)) hc2) ?_;rintro _ G11 ⟨a14, rfl, S15⟩;have A13 := A0.trans (a14.mono M6);have S12 : Sep G11 B [AL.box p0 [v0_0, (Value.int .i64 r1.2.1), (Value.int .u64 r1.2.2)]] := C8 _ _ a14 S15;simp [];apply hK;clear hK K;refine .seq ?_;refine .sr fun K hK => ?_;simp [];apply hK;clear hK K;refine DWp.cond' (t := (ilt 200 x1)) (by simp []) (fun hb16 => ?_) (fun hb16 => ?_)
  ·replace hF := cd_t hb16 hF;obtain ⟨r2, hc17, hF⟩ := bd_some hF;refine .region fun K hK => ?_;simp [(S12.ptup (k := 0) rfl)];have S18 : Sep G11 B ([AL.box p0 [v0_0, (Value.int .i64 r1.2.1), (Value.int .u64 r1.2.2)]] ++ []) := S12.pick [0] (by decide) rfl;obtain ⟨B24, S19, U20, M21, R22, C23⟩ := S18.frame (hB.le A13.1);refine CallD.t (F_spec_l1Cur_next_w (fu := fu) U20 S19 (hx0_0.agr A13 hdx0_0) (fun i_ hi_ hb_ => hdx0_0 i_ hi_ (M21 i_ hb_)) hc17) ?_;rintro _ G26 ⟨a29, rfl, S30⟩;have A28 := A13.trans (a29.mono M21);have S27 : Sep G26 B [AL.box p0 [v0_0, (Value.int .i64 r2.2.1), (Value.int .u64 r2.2.2)]] := C23 _ _ a29 S30;simp [];apply hK;clear hK K;simp only [andThen, leaves];obtain ⟨g31, hF⟩ := gd_some hF;refine .sr fun K hK => ?_;simp [b_rem g31];apply hK;clear hK K;refine DWp.ret ?_;obtain rfl := Option.some.inj hF;exact ⟨by simp, [(Value.int .i64 (irem (iadd .i64 (imul .i64 r1.1 256) r2.1) x1))], by simp [], A28, rfl, S27.pick [0] (by decide) rfl⟩
  ·replace hF := cd_f hb16 hF;refine DWp.skip ?_;simp only [andThen, leaves];obtain ⟨g32, hF⟩ := gd_some hF;refine .sr fun K hK => ?_;simp [b_rem g32];apply hK;clear hK K;refine DWp.ret ?_;obtain rfl := Option.some.inj hF;exact ⟨by simp, [(Value.int .i64 (irem r1.1 x1))], by simp [], A13, rfl, S12.pick [0] (by decide) rfl⟩
def F_impl_in (fu : Nat) (x0 : Int) (x1 : Int) (x2 : Int) : Option (Bool) :=
  bif (ile x1 x0) then
    some (ile x0 x2)
  else
    some false
theorem F_impl_in_w {fu : Nat} {H : AH}  {x0 : Int} {x1 : Int} {x2 : Int} {r : (Bool)}  (hF : F_impl_in fu x0 x1 x2 = some r) :
    ACallT Try.prog 108 [(Value.int .i64 x0), (Value.int .i64 x1), (Value.int .i64 x2)] H (fun u G => AgB (Fr H) H G ∧ u = (Value.bool r) ∧ Sep G (Fr H) []) := by
 refine ACallT.of_body (nt := 15) (rs := [.tmp 6]) Try.func108 rfl rfl rfl rfl ?_;have A0 : AgB (Fr H) H H := .refl _ _;have S0 : Sep H (Fr H) [] := .nil;have hB := Fr.up H;unfold F_impl_in at hF;refine .sr fun K hK => ?_;simp [];apply hK;clear hK K;rcases Bool.eq_false_or_eq_true (ile x1 x0) with hb1 | hb1
 ·replace hF := cd_t hb1 hF;refine .sr fun K hK => ?_;simp [hb1];apply hK;clear hK K;refine DWp.ret ?_;obtain rfl := Option.some.inj hF;exact ⟨by simp, [(Value.bool (ile x0 x2))], by simp [], A0, rfl, S0.pick [] (by decide) rfl⟩
 ·replace hF := cd_f hb1 hF;refine .sr fun K hK => ?_;simp [hb1];apply hK;clear hK K;refine DWp.ret ?_;obtain rfl := Option.some.inj hF;exact ⟨by simp, [(Value.bool false)], by simp [], A0, rfl, S0.pick [] (by decide) rfl⟩
end Go.Proofs.Ytbckijeffiofdaa.AL

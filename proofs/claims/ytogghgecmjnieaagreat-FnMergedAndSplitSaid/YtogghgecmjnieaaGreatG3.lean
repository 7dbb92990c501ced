/- The walks of functions, each with its Lean function: bits.Len32, bits.Len64, bits.Len, slices.insertionSortCmpFunc[[2]int], slices.siftDownCmpFunc[[2]int], slices.heapSortCmpFunc[[2]int], slices.nextPowerOfTwo, (*slices.xorshift).Next, slices.breakPatternsCmpFunc[[2]int], slices.order2CmpFunc[[2]int]. No condition. -/
import Derived.Test.YtogghgecmjnieaaGreatG1
import Derived.Test.YtogghgecmjnieaaGreatG2
import Derived.Test.YtogghgecmjnieaaGreatALD
import Derived.Test.YtogghgecmjnieaaGreatProg
import Derived.KernelRfl
namespace Go.Proofs.YtogghgecmjnieaaGreat.AL
open Go Go.RowKit
set_option linter.unusedVariables false
set_option linter.unusedSimpArgs false
set_option maxRecDepth 4096
attribute [local simp] n_fn b_add b_sub b_mul b_lt b_le b_gt b_ge b_eq b_ne u_not
theorem ag_66 : aggT Tryz.prog 66 = some true := by kernel_rfl
theorem el_65 : elemT Tryz.prog 65 = some 66 := by kernel_rfl
theorem sz_66 : sizeT Tryz.prog 66 = some 2 := by kernel_rfl
theorem un_103 : Tryz.prog.underlying 103 = some (.int .u64) := by kernel_rfl
def F_math_bits_Len64 (fu : Nat) (x0 : Int) : Option (Int) :=
  bd (
    bif (ile 4294967296 x0) then
      some ((ishr .u64 x0 32), 32)
    else
      some (x0, 0)) fun s1 =>
  bd (
    bif (ile 65536 s1.1) then
      some ((ishr .u64 s1.1 16), (iadd .i64 s1.2 16))
    else
      some (s1.1, s1.2)) fun s9 =>
  bif (ile 256 s9.1) then
    gd (inS (ByteArray.mk #[0, 1, 2, 2, 3, 3, 3, 3, 4, 4, 4, 4, 4, 4, 4, 4, 5, 5, 5, 5, 5, 5, 5, 5, 5, 5, 5, 5, 5, 5, 5, 5, 6, 6, 6, 6, 6, 6, 6, 6, 6, 6, 6, 6, 6, 6, 6, 6, 6, 6, 6, 6, 6, 6, 6, 6, 6, 6, 6, 6, 6, 6, 6, 6, 7, 7, 7, 7, 7, 7, 7, 7, 7, 7, 7, 7, 7, 7, 7, 7, 7, 7, 7, 7, 7, 7, 7, 7, 7, 7, 7, 7, 7, 7, 7, 7, 7, 7, 7, 7, 7, 7, 7, 7, 7, 7, 7, 7, 7, 7, 7, 7, 7, 7, 7, 7, 7, 7, 7, 7, 7, 7, 7, 7, 7, 7, 7, 7, 8, 8, 8, 8, 8, 8, 8, 8, 8, 8, 8, 8, 8, 8, 8, 8, 8, 8, 8, 8, 8, 8, 8, 8, 8, 8, 8, 8, 8, 8, 8, 8, 8, 8, 8, 8, 8, 8, 8, 8, 8, 8, 8, 8, 8, 8, 8, 8, 8, 8, 8, 8, 8, 8, 8, 8, 8, 8, 8, 8, 8, 8, 8, 8, 8, 8, 8, 8, 8, 8, 8, 8, 8, 8, 8, 8, 8, 8, 8, 8, 8, 8, 8, 8, 8, 8, 8, 8, 8, 8, 8, 8, 8, 8, 8, 8, 8, 8, 8, 8, 8, 8, 8, 8, 8, 8, 8, 8, 8, 8, 8, 8, 8, 8, 8, 8, 8, 8, 8, 8, 8, 8, 8, 8, 8, 8, 8, 8]) (iwr .u8 (ishr .u64 s9.1 8))) (
    some (iadd .i64 (iadd .i64 s9.2 8) (iwr .i64 (sat (ByteArray.mk #[0, 1, 2, 2, 3, 3, 3, 3, 4, 4, 4, 4, 4, 4, 4, 4, 5, 5, 5, 5, 5, 5, 5, 5, 5, 5, 5, 5, 5, 5, 5, 5, 6, 6, 6, 6, 6, 6, 6, 6, 6, 6, 6, 6, 6, 6, 6, 6, 6, 6, 6, 6, 6, 6, 6, 6, 6, 6, 6, 6, 6, 6, 6, 6, 7, 7, 7, 7, 7, 7, 7, 7, 7, 7, 7, 7, 7, 7, 7, 7, 7, 7, 7, 7, 7, 7, 7, 7, 7, 7, 7, 7, 7, 7, 7, 7, 7, 7, 7, 7, 7, 7, 7, 7, 7, 7, 7, 7, 7, 7, 7, 7, 7, 7, 7, 7, 7, 7, 7, 7, 7, 7, 7, 7, 7, 7, 7, 7, 8, 8, 8, 8, 8, 8, 8, 8, 8, 8, 8, 8, 8, 8, 8, 8, 8, 8, 8, 8, 8, 8, 8, 8, 8, 8, 8, 8, 8, 8, 8, 8, 8, 8, 8, 8, 8, 8, 8, 8, 8, 8, 8, 8, 8, 8, 8, 8, 8, 8, 8, 8, 8, 8, 8, 8, 8, 8, 8, 8, 8, 8, 8, 8, 8, 8, 8, 8, 8, 8, 8, 8, 8, 8, 8, 8, 8, 8, 8, 8, 8, 8, 8, 8, 8, 8, 8, 8, 8, 8, 8, 8, 8, 8, 8, 8, 8, 8, 8, 8, 8, 8, 8, 8, 8, 8, 8, 8, 8, 8, 8, 8, 8, 8, 8, 8, 8, 8, 8, 8, 8, 8, 8, 8, 8, 8, 8, 8]) (iwr .u8 (ishr .u64 s9.1 8))))))
  else
    gd (inS (ByteArray.mk #[0, 1, 2, 2, 3, 3, 3, 3, 4, 4, 4, 4, 4, 4, 4, 4, 5, 5, 5, 5, 5, 5, 5, 5, 5, 5, 5, 5, 5, 5, 5, 5, 6, 6, 6, 6, 6, 6, 6, 6, 6, 6, 6, 6, 6, 6, 6, 6, 6, 6, 6, 6, 6, 6, 6, 6, 6, 6, 6, 6, 6, 6, 6, 6, 7, 7, 7, 7, 7, 7, 7, 7, 7, 7, 7, 7, 7, 7, 7, 7, 7, 7, 7, 7, 7, 7, 7, 7, 7, 7, 7, 7, 7, 7, 7, 7, 7, 7, 7, 7, 7, 7, 7, 7, 7, 7, 7, 7, 7, 7, 7, 7, 7, 7, 7, 7, 7, 7, 7, 7, 7, 7, 7, 7, 7, 7, 7, 7, 8, 8, 8, 8, 8, 8, 8, 8, 8, 8, 8, 8, 8, 8, 8, 8, 8, 8, 8, 8, 8, 8, 8, 8, 8, 8, 8, 8, 8, 8, 8, 8, 8, 8, 8, 8, 8, 8, 8, 8, 8, 8, 8, 8, 8, 8, 8, 8, 8, 8, 8, 8, 8, 8, 8, 8, 8, 8, 8, 8, 8, 8, 8, 8, 8, 8, 8, 8, 8, 8, 8, 8, 8, 8, 8, 8, 8, 8, 8, 8, 8, 8, 8, 8, 8, 8, 8, 8, 8, 8, 8, 8, 8, 8, 8, 8, 8, 8, 8, 8, 8, 8, 8, 8, 8, 8, 8, 8, 8, 8, 8, 8, 8, 8, 8, 8, 8, 8, 8, 8, 8, 8, 8, 8, 8, 8, 8, 8]) (iwr .u8 s9.1)) (
    some (iadd .i64 s9.2 (iwr .i64 (sat (ByteArray.mk #[0, 1, 2, 2, 3, 3, 3, 3, 4, 4, 4, 4, 4, 4, 4, 4, 5, 5, 5, 5, 5, 5, 5, 5, 5, 5, 5, 5, 5, 5, 5, 5, 6, 6, 6, 6, 6, 6, 6, 6, 6, 6, 6, 6, 6, 6, 6, 6, 6, 6, 6, 6, 6, 6, 6, 6, 6, 6, 6, 6, 6, 6, 6, 6, 7, 7, 7, 7, 7, 7, 7, 7, 7, 7, 7, 7, 7, 7, 7, 7, 7, 7, 7, 7, 7, 7, 7, 7, 7, 7, 7, 7, 7, 7, 7, 7, 7, 7, 7, 7, 7, 7, 7, 7, 7, 7, 7, 7, 7, 7, 7, 7, 7, 7, 7, 7, 7, 7, 7, 7, 7, 7, 7, 7, 7, 7, 7, 7, 8, 8, 8, 8, 8, 8, 8, 8, 8, 8, 8, 8, 8, 8, 8, 8, 8, 8, 8, 8, 8, 8, 8, 8, 8, 8, 8, 8, 8, 8, 8, 8, 8, 8, 8, 8, 8, 8, 8, 8, 8, 8, 8, 8, 8, 8, 8, 8, 8, 8, 8, 8, 8, 8, 8, 8, 8, 8, 8, 8, 8, 8, 8, 8, 8, 8, 8, 8, 8, 8, 8, 8, 8, 8, 8, 8, 8, 8, 8, 8, 8, 8, 8, 8, 8, 8, 8, 8, 8, 8, 8, 8, 8, 8, 8, 8, 8, 8, 8, 8, 8, 8, 8, 8, 8, 8, 8, 8, 8, 8, 8, 8, 8, 8, 8, 8, 8, 8, 8, 8, 8, 8, 8, 8, 8, 8, 8, 8]) (iwr .u8 s9.1)))))
theorem F_math_bits_Len64_w {fu : Nat} {H : AH}  {x0 : Int} {r : (Int)}  (hF : F_math_bits_Len64 fu x0 = some r) :
    ACallT Tryz.prog 144 [(Value.int .u64 x0)] H (fun u G => AgB (Fr H) H G ∧ u = (Value.int .i64 r) ∧ Sep G (Fr H) []) := by
 refine ACallT.of_body (nt := 25) (rs := [.tmp 2]) Tryz.func144 rfl rfl rfl rfl ?_;have A0 : AgB (Fr H) H H := .refl _ _;have S0 : Sep H (Fr H) [] := .nil;have hB := Fr.up H;unfold F_math_bits_Len64 at hF;refine .sr fun K hK => ?_;simp [];apply hK;obtain ⟨s1, hL2, hF⟩ := bd_some hF;refine DWp.seq (DWp.join (fun env G => Sep G (Fr H) [] ∧ AgB (Fr H) H G ∧ env 0 = some (Value.int .u64 s1.1) ∧ env 2 = some (Value.int .i64 s1.2)) ?_ ?_)
 ·
  refine .sr fun K hK => ?_;simp [];apply hK;refine DWp.cond' (t := (ile 4294967296 x0)) (by simp []) (fun hb4 => ?_) (fun hb4 => ?_)
  ·replace hL2 := cd_t hb4 hL2;have g5 : ¬ ((32 : Int) < 0) := by decide
   refine .sr fun K hK => ?_;simp [b_shr g5];apply hK;refine .region fun K hK => ?_;simp [];apply hK;simp only [andThen, leaves];have S6 := S0.pick [] (by decide) rfl;obtain rfl := Option.some.inj hL2;exact ⟨S6, A0, by simp []⟩
  ·replace hL2 := cd_f hb4 hL2;refine DWp.skip ?_;simp only [andThen, leaves];have S7 := S0.pick [] (by decide) rfl;obtain rfl := Option.some.inj hL2;exact ⟨S7, A0, by simp []⟩
 ·rintro env Gj8 ⟨Sj8, Aj8, ej8_⟩;obtain ⟨s9, hL10, hF⟩ := bd_some hF;refine DWp.seq (DWp.join (fun env G => Sep G (Fr H) [] ∧ AgB (Fr H) H G ∧ env 0 = some (Value.int .u64 s9.1) ∧ env 2 = some (Value.int .i64 s9.2)) ?_ ?_)
  ·
   refine .sr fun K hK => ?_;simp [ej8_];apply hK;refine DWp.cond' (t := (ile 65536 s1.1)) (by simp [ej8_]) (fun hb12 => ?_) (fun hb12 => ?_)
   ·replace hL10 := cd_t hb12 hL10;have g13 : ¬ ((16 : Int) < 0) := by decide
    refine .sr fun K hK => ?_;simp [ej8_, b_shr g13];apply hK;refine .region fun K hK => ?_;simp [ej8_];apply hK;simp only [andThen, leaves];have S14 := Sj8.pick [] (by decide) rfl;obtain rfl := Option.some.inj hL10;exact ⟨S14, Aj8, by simp [ej8_]⟩
   ·replace hL10 := cd_f hb12 hL10;refine DWp.skip ?_;simp only [andThen, leaves];have S15 := Sj8.pick [] (by decide) rfl;obtain rfl := Option.some.inj hL10;exact ⟨S15, Aj8, by simp [ej8_]⟩
  ·rintro env Gj16 ⟨Sj16, Aj16, ej16_⟩;refine .seq ?_;refine .sr fun K hK => ?_;simp [ej16_];apply hK;refine DWp.cond' (t := (ile 256 s9.1)) (by simp [ej16_]) (fun hb17 => ?_) (fun hb17 => ?_)
   ·replace hF := cd_t hb17 hF;have g18 : ¬ ((8 : Int) < 0) := by decide
    refine .sr fun K hK => ?_;simp [ej16_, b_shr g18];apply hK;refine .region fun K hK => ?_;simp [ej16_];apply hK;simp only [andThen, leaves];obtain ⟨g19, hF⟩ := gd_some hF;have q20 := strIdx (kk := .u8) un_9 g19;refine .sr fun K hK => ?_;simp [ej16_, c_int un_57 un_5, q20, c_int un_5 un_3];apply hK;refine DWp.ret ?_;obtain rfl := Option.some.inj hF;exact ⟨by simp, [(Value.int .i64 (iadd .i64 (iadd .i64 s9.2 8) (iwr .i64 (sat (ByteArray.mk #[0, 1, 2, 2, 3, 3, 3, 3, 4, 4, 4, 4, 4, 4, 4, 4, 5, 5, 5, 5, 5, 5, 5, 5, 5, 5, 5, 5, 5, 5, 5, 5, 6, 6, 6, 6, 6, 6, 6, 6, 6, 6, 6, 6, 6, 6, 6, 6, 6, 6, 6, 6, 6, 6, 6, 6, 6, 6, 6, 6, 6, 6, 6, 6, 7, 7, 7, 7, 7, 7, 7, 7, 7, 7, 7, 7, 7, 7, 7, 7, 7, 7, 7, 7, 7, 7, 7, 7, 7, 7, 7, 7, 7, 7, 7, 7, 7, 7, 7, 7, 7, 7, 7, 7, 7, 7, 7, 7, 7, 7, 7, 7, 7, 7, 7, 7, 7, 7, 7, 7, 7, 7, 7, 7, 7, 7, 7, 7, 8, 8, 8, 8, 8, 8, 8, 8, 8, 8, 8, 8, 8, 8, 8, 8, 8, 8, 8, 8, 8, 8, 8, 8, 8, 8, 8, 8, 8, 8, 8, 8, 8, 8, 8, 8, 8, 8, 8, 8, 8, 8, 8, 8, 8, 8, 8, 8, 8, 8, 8, 8, 8, 8, 8, 8, 8, 8, 8, 8, 8, 8, 8, 8, 8, 8, 8, 8, 8, 8, 8, 8, 8, 8, 8, 8, 8, 8, 8, 8, 8, 8, 8, 8, 8, 8, 8, 8, 8, 8, 8, 8, 8, 8, 8, 8, 8, 8, 8, 8, 8, 8, 8, 8, 8, 8, 8, 8, 8, 8, 8, 8, 8, 8, 8, 8, 8, 8, 8, 8, 8, 8, 8, 8, 8, 8, 8, 8]) (iwr .u8 (ishr .u64 s9.1 8))))))], by simp [ej16_], Aj16, rfl, Sj16.pick [] (by decide) rfl⟩
   ·replace hF := cd_f hb17 hF;refine DWp.skip ?_;simp only [andThen, leaves];obtain ⟨g21, hF⟩ := gd_some hF;have q22 := strIdx (kk := .u8) un_9 g21;refine .sr fun K hK => ?_;simp [ej16_, c_int un_57 un_5, q22, c_int un_5 un_3];apply hK;refine DWp.ret ?_;obtain rfl := Option.some.inj hF;exact ⟨by simp, [(Value.int .i64 (iadd .i64 s9.2 (iwr .i64 (sat (ByteArray.mk #[0, 1, 2, 2, 3, 3, 3, 3, 4, 4, 4, 4, 4, 4, 4, 4, 5, 5, 5, 5, 5, 5, 5, 5, 5, 5, 5, 5, 5, 5, 5, 5, 6, 6, 6, 6, 6, 6, 6, 6, 6, 6, 6, 6, 6, 6, 6, 6, 6, 6, 6, 6, 6, 6, 6, 6, 6, 6, 6, 6, 6, 6, 6, 6, 7, 7, 7, 7, 7, 7, 7, 7, 7, 7, 7, 7, 7, 7, 7, 7, 7, 7, 7, 7, 7, 7, 7, 7, 7, 7, 7, 7, 7, 7, 7, 7, 7, 7, 7, 7, 7, 7, 7, 7, 7, 7, 7, 7, 7, 7, 7, 7, 7, 7, 7, 7, 7, 7, 7, 7, 7, 7, 7, 7, 7, 7, 7, 7, 8, 8, 8, 8, 8, 8, 8, 8, 8, 8, 8, 8, 8, 8, 8, 8, 8, 8, 8, 8, 8, 8, 8, 8, 8, 8, 8, 8, 8, 8, 8, 8, 8, 8, 8, 8, 8, 8, 8, 8, 8, 8, 8, 8, 8, 8, 8, 8, 8, 8, 8, 8, 8, 8, 8, 8, 8, 8, 8, 8, 8, 8, 8, 8, 8, 8, 8, 8, 8, 8, 8, 8, 8, 8, 8, 8, 8, 8, 8, 8, 8, 8, 8, 8, 8, 8, 8, 8, 8, 8, 8, 8, 8, 8, 8, 8, 8, 8, 8, 8, 8, 8, 8, 8, 8, 8, 8, 8, 8, 8, 8, 8, 8, 8, 8, 8, 8, 8, 8, 8, 8, 8, 8, 8, 8, 8, 8, 8]) (iwr .u8 s9.1)))))], by simp [ej16_], Aj16, rfl, Sj16.pick [] (by decide) rfl⟩
def F_math_bits_Len (fu : Nat) (x0 : Int) : Option (Int) :=
  bd (F_math_bits_Len64 fu x0) fun r1 =>
  some r1
theorem F_math_bits_Len_w {fu : Nat} {H : AH}  {x0 : Int} {r : (Int)}  (hF : F_math_bits_Len fu x0 = some r) :
    ACallT Tryz.prog 128 [(Value.int .u64 x0)] H (fun u G => AgB (Fr H) H G ∧ u = (Value.int .i64 r) ∧ Sep G (Fr H) []) := by
 refine ACallT.of_body (nt := 8) (rs := [.tmp 2]) Tryz.func128 rfl rfl rfl rfl ?_;have A0 : AgB (Fr H) H H := .refl _ _;have S0 : Sep H (Fr H) [] := .nil;have hB := Fr.up H;unfold F_math_bits_Len at hF;refine .sr fun K hK => ?_;simp [];apply hK;refine .seq ?_;refine DWp.cf (by simp [bnot]) ?_;refine DWp.skip ?_;simp only [andThen, leaves];obtain ⟨r1, hc1, hF⟩ := bd_some hF;refine .sr fun K hK => ?_;simp [];refine CallD.t (F_math_bits_Len64_w (fu := fu)  hc1) ?_;rintro _ G3 ⟨a6, rfl, S7⟩;have A5 := A0.ext (hB.le A0.1) a6.agree;have S4 : Sep G3 (Fr H) [] := S0.app a6.agree S7 (fun _ h => h) (hB.le A0.1);simp [a6.pre];apply hK;refine DWp.ret ?_;obtain rfl := Option.some.inj hF;exact ⟨by simp, [(Value.int .i64 r1)], by simp [], A5, rfl, S4.pick [] (by decide) rfl⟩
def F_slices_insertionSortCmpFunc_2_int_L2 (fu : Nat) (k2_0 : Int) (k2_1 : Int) (k2_2 : (Int → Int → Int → Int → Option (Int))) (k2_3 : Int) : Nat → List (Int × Int) → Int → Option (List (Int × Int) × Int)
  | 0, _, _ => none
  | n + 1, l2_0, y2_9 =>
    bd (
      bif (ilt k2_0 y2_9) then
        gd (inL l2_0 y2_9) (
        gd (inL l2_0 (isub .i64 y2_9 1)) (
        bd (k2_2 ((gat i2 l2_0 y2_9).1) ((gat i2 l2_0 y2_9).2) ((gat i2 l2_0 (isub .i64 y2_9 1)).1) ((gat i2 l2_0 (isub .i64 y2_9 1)).2)) fun r1 =>
        some (ilt r1 0)))
      else
        some false) fun s8 =>
    bif s8 then
      gd (inL l2_0 (isub .i64 y2_9 1)) (
      gd (inL l2_0 y2_9) (
      gd (inL l2_0 y2_9) (
      gd (inL (lset l2_0 y2_9 ((gat i2 l2_0 (isub .i64 y2_9 1)).1, (gat i2 l2_0 (isub .i64 y2_9 1)).2)) (isub .i64 y2_9 1)) (
      F_slices_insertionSortCmpFunc_2_int_L2 fu k2_0 k2_1 k2_2 k2_3 n (lset (lset l2_0 y2_9 ((gat i2 l2_0 (isub .i64 y2_9 1)).1, (gat i2 l2_0 (isub .i64 y2_9 1)).2)) (isub .i64 y2_9 1) ((gat i2 l2_0 y2_9).1, (gat i2 l2_0 y2_9).2)) (isub .i64 y2_9 1)))))
    else
      some (l2_0, y2_9)
def F_slices_insertionSortCmpFunc_2_int_L1 (fu : Nat) (k1_0 : Int) (k1_1 : Int) (k1_2 : (Int → Int → Int → Int → Option (Int))) : Nat → List (Int × Int) → Int → Option (List (Int × Int) × Int)
  | 0, _, _ => none
  | n + 1, l1_0, y1_8 =>
    bif (ilt y1_8 k1_1) then
      bd (F_slices_insertionSortCmpFunc_2_int_L2 fu k1_0 k1_1 k1_2 y1_8 fu l1_0 y1_8) fun s2 =>
      F_slices_insertionSortCmpFunc_2_int_L1 fu k1_0 k1_1 k1_2 n s2.1 (iadd .i64 y1_8 1)
    else
      some (l1_0, y1_8)
def F_slices_insertionSortCmpFunc_2_int (fu : Nat) (x0 : List (Int × Int)) (x1 : Int) (x2 : Int) (x3 : Int → Int → Int → Int → Option (Int)) : Option (List (Int × Int)) :=
  bd (F_slices_insertionSortCmpFunc_2_int_L1 fu x1 x2 x3 fu x0 (iadd .i64 x1 1)) fun s1 =>
  some s1.1
theorem F_slices_insertionSortCmpFunc_2_int_w {fu : Nat} {H : AH} {B : Nat → Prop} {v0 : Value} {f3 : FuncId} {c3 : List Value} {x0 : List (Int × Int)} {x1 : Int} {x2 : Int} {x3 : Int → Int → Int → Int → Option (Int)} {r : (List (Int × Int))} (hB : Up B H.length) (S0 : Sep H B [flatI v0 66 x0]) (hx3 : ∀ (G : AH), AgB B H G → ∀ (y0_0 : Int) (y0_1 : Int) (y1_0 : Int) (y1_1 : Int) (q : (Int)), x3 y0_0 y0_1 y1_0 y1_1 = some q → ACallT Tryz.prog f3 ([(Value.agg #[(Value.int .i64 y0_0), (Value.int .i64 y0_1)]), (Value.agg #[(Value.int .i64 y1_0), (Value.int .i64 y1_1)])] ++ c3) G (fun u G' => AgB (Fr G) G G' ∧ u = (Value.int .i64 q) ∧ Sep G' (Fr G) [])) (hF : F_slices_insertionSortCmpFunc_2_int fu x0 x1 x2 x3 = some r) :
    ACallT Tryz.prog 135 [v0, (Value.int .i64 x1), (Value.int .i64 x2), (Value.func (.func f3) #[] c3.toArray)] H (fun u G => AgB B H G ∧ u = (Value.tuple #[]) ∧ Sep G B [flatI v0 66 r]) := by
 refine ACallT.of_body (nt := 53) (rs := []) Tryz.func135 rfl rfl rfl rfl ?_;have A0 : AgB B H H := .refl _ _;unfold F_slices_insertionSortCmpFunc_2_int at hF;refine .sr fun K hK => ?_;simp [];apply hK;refine .block ?_;obtain ⟨s1, hL2, hF⟩ := bd_some hF;have S3 := S0.pick [0] (by decide) rfl;refine DWp.loop (fun n env G => ∃ l1_0 : List (Int × Int), ∃ y1_8 : Int, F_slices_insertionSortCmpFunc_2_int_L1 fu x1 x2 x3 n l1_0 y1_8 = some s1 ∧ Sep G B [flatI v0 66 l1_0] ∧ AgB B H G ∧ env 0 = some v0 ∧ env 1 = some (Value.int .i64 x1) ∧ env 2 = some (Value.int .i64 x2) ∧ env 3 = some (Value.func (.func f3) #[] c3.toArray) ∧ env 8 = some (Value.int .i64 y1_8)) fu ⟨x0, (iadd .i64 x1 1), hL2, S3, A0, by simp []⟩ ?_;rintro n1 env1 G1_ ⟨l1_0, y1_8, hL2, S1_, A1_, e1_⟩;cases n1 with
 | zero => cases hL2
 | succ n1 =>
  simp only [F_slices_insertionSortCmpFunc_2_int_L1] at hL2;refine .seq ?_;refine .sr fun K hK => ?_;simp [e1_];apply hK;refine DWp.cond' (t := (ilt y1_8 x2)) (by simp [e1_]) (fun hb4 => ?_) (fun hb4 => ?_)
  ·replace hL2 := cd_t hb4 hL2;refine DWp.skip ?_;simp only [andThen, leaves];refine .seq ?_;refine .block ?_;refine .sr fun K hK => ?_;simp [e1_];apply hK;refine .block ?_;obtain ⟨s5, hL6, hL2⟩ := bd_some hL2;have S7 := S1_.pick [0] (by decide) rfl;refine DWp.loop (fun n env G => ∃ l2_0 : List (Int × Int), ∃ y2_9 : Int, F_slices_insertionSortCmpFunc_2_int_L2 fu x1 x2 x3 y1_8 n l2_0 y2_9 = some s5 ∧ Sep G B [flatI v0 66 l2_0] ∧ AgB B H G ∧ env 0 = some v0 ∧ env 1 = some (Value.int .i64 x1) ∧ env 2 = some (Value.int .i64 x2) ∧ env 3 = some (Value.func (.func f3) #[] c3.toArray) ∧ env 8 = some (Value.int .i64 y1_8) ∧ env 9 = some (Value.int .i64 y2_9)) fu ⟨l1_0, y1_8, hL6, S7, A1_, by simp [e1_]⟩ ?_;rintro n2 env2 G2_ ⟨l2_0, y2_9, hL6, S2_, A2_, e2_⟩;cases n2 with
   | zero => cases hL6
   | succ n2 =>
    simp only [F_slices_insertionSortCmpFunc_2_int_L2] at hL6;refine .seq ?_;obtain ⟨s8, hL9, hL6⟩ := bd_some hL6;refine DWp.seq (DWp.join (fun env G => Sep G B [flatI v0 66 l2_0] ∧ AgB B H G ∧ env 0 = some v0 ∧ env 1 = some (Value.int .i64 x1) ∧ env 2 = some (Value.int .i64 x2) ∧ env 3 = some (Value.func (.func f3) #[] c3.toArray) ∧ env 8 = some (Value.int .i64 y1_8) ∧ env 9 = some (Value.int .i64 y2_9) ∧ env 34 = some (Value.bool s8)) ?_ ?_)
    ·
     rcases Bool.eq_false_or_eq_true (ilt x1 y2_9) with hb11 | hb11
     ·replace hL9 := cd_t hb11 hL9;obtain ⟨g12, hL9⟩ := gd_some hL9;have q13 := (S2_.slI (k := 0) rfl).idxG (kk := .i64) el_65 sz_66 g12;have q14 := (S2_.slI (k := 0) rfl).loadG sz_66 ag_66 g12;obtain ⟨g15, hL9⟩ := gd_some hL9;have q16 := (S2_.slI (k := 0) rfl).idxG (kk := .i64) el_65 sz_66 g15;have q17 := (S2_.slI (k := 0) rfl).loadG sz_66 ag_66 g15;obtain ⟨r1, hc18, hL9⟩ := bd_some hL9;refine .drawn (B := [0, 0, 3, 7, 15, 15, 15, 111, 239, 15, 15, 1039, 3599, 7695, 16383, 32767, 65535]) 17 mixed (by kernel_rfl) (by decide) fun K hK => ?_;simp [e2_, hb11, q13, q14, q16, q17];refine CallD.t (hx3 _ A2_ ((gat i2 l2_0 y2_9).1) ((gat i2 l2_0 y2_9).2) ((gat i2 l2_0 (isub .i64 y2_9 1)).1) ((gat i2 l2_0 (isub .i64 y2_9 1)).2) _  hc18) ?_;rintro _ G19 ⟨a22, rfl, S23⟩;have A21 := A2_.ext (hB.le A2_.1) a22.agree;have S20 : Sep G19 B [flatI v0 66 l2_0] := S2_.agree a22.agree;simp [e2_, hb11, q13, q14, q16, q17, a22.pre];apply hK;simp only [andThen, leaves];have S24 := S20.pick [0] (by decide) rfl;obtain rfl := Option.some.inj hL9;exact ⟨S24, A21, by simp [e2_]⟩
     ·replace hL9 := cd_f hb11 hL9;refine .drawn (B := [0, 0, 3, 7, 15, 15, 15, 111, 239, 15, 15, 1039, 3599, 7695, 16383, 32767, 65535]) 17 mixed (by kernel_rfl) (by decide) fun K hK => ?_;simp [e2_, hb11];apply hK;simp only [andThen, leaves];have S25 := S2_.pick [0] (by decide) rfl;obtain rfl := Option.some.inj hL9;exact ⟨S25, A2_, by simp [e2_]⟩
    ·rintro env Gj26 ⟨Sj26, Aj26, ej26_⟩;refine DWp.cond' (t := s8) (by simp [ej26_]) (fun hb27 => ?_) (fun hb27 => ?_)
     ·replace hL6 := cd_t hb27 hL6;refine DWp.skip ?_;simp only [andThen, leaves];refine .seq ?_;refine .block ?_;obtain ⟨g28, hL6⟩ := gd_some hL6;have q29 := (Sj26.slI (k := 0) rfl).idxG (kk := .i64) el_65 sz_66 g28;have q30 := (Sj26.slI (k := 0) rfl).loadG sz_66 ag_66 g28;obtain ⟨g31, hL6⟩ := gd_some hL6;have q32 := (Sj26.slI (k := 0) rfl).idxG (kk := .i64) el_65 sz_66 g31;have q33 := (Sj26.slI (k := 0) rfl).loadG sz_66 ag_66 g31;obtain ⟨g34, hL6⟩ := gd_some hL6;have q35 := (Sj26.slI (k := 0) rfl).idxG (kk := .i64) el_65 sz_66 g34;obtain ⟨G36, q37, S38, a40⟩ := Sj26.putI (k := 0) (a := (gat i2 l2_0 (isub .i64 y2_9 1)).1) (b := (gat i2 l2_0 (isub .i64 y2_9 1)).2) rfl (hB.le Aj26.1) sz_66 g34;have A39 := Aj26.trans a40;replace S38 : Sep G36 B [flatI v0 66 (lset l2_0 y2_9 ((gat i2 l2_0 (isub .i64 y2_9 1)).1, (gat i2 l2_0 (isub .i64 y2_9 1)).2))] := S38;obtain ⟨g41, hL6⟩ := gd_some hL6;have q42 := (S38.slI (k := 0) rfl).idxG (kk := .i64) el_65 sz_66 g41;obtain ⟨G43, q44, S45, a47⟩ := S38.putI (k := 0) (a := (gat i2 l2_0 y2_9).1) (b := (gat i2 l2_0 y2_9).2) rfl (hB.le A39.1) sz_66 g41;have A46 := A39.trans a47;replace S45 : Sep G43 B [flatI v0 66 (lset (lset l2_0 y2_9 ((gat i2 l2_0 (isub .i64 y2_9 1)).1, (gat i2 l2_0 (isub .i64 y2_9 1)).2)) (isub .i64 y2_9 1) ((gat i2 l2_0 y2_9).1, (gat i2 l2_0 y2_9).2))] := S45;refine .drawn (B := [0, 0, 0, 0, 8, 0, 0, 64, 224, 480, 0, 0, 3072, 7168, 16355, 32739, 65535, 131071]) 15 mixed (by kernel_rfl) (by decide) fun K hK => ?_;simp [ej26_, q29, q30, q32, q33, q35, q37, q42, q44];apply hK;simp only [andThen, leaves];refine .region fun K hK => ?_;simp [ej26_];apply hK
      simp only [andThen, leaves];have S48 := S45.pick [0] (by decide) rfl;exact ⟨n2, Nat.lt_succ_self _, (lset (lset l2_0 y2_9 ((gat i2 l2_0 (isub .i64 y2_9 1)).1, (gat i2 l2_0 (isub .i64 y2_9 1)).2)) (isub .i64 y2_9 1) ((gat i2 l2_0 y2_9).1, (gat i2 l2_0 y2_9).2)), (isub .i64 y2_9 1), hL6, S48, A46, by simp [ej26_]⟩
     ·replace hL6 := cd_f hb27 hL6;refine DWp.exit ?_;simp only [andThen, leaves, if_true, if_false, reduceIte, Nat.reduceEqDiff];obtain rfl := Option.some.inj hL6;try dsimp only at hL2
      refine .region fun K hK => ?_;simp [ej26_];apply hK;simp only [andThen, leaves];have S49 := Sj26.pick [0] (by decide) rfl;exact ⟨n1, Nat.lt_succ_self _, l2_0, (iadd .i64 y1_8 1), hL2, S49, Aj26, by simp [ej26_]⟩
  ·replace hL2 := cd_f hb4 hL2;refine DWp.exit ?_;simp only [andThen, leaves, if_true, if_false, reduceIte, Nat.reduceEqDiff];obtain rfl := Option.some.inj hL2;try dsimp only at hF
   obtain rfl := Option.some.inj hF;exact ⟨by simp, [], by simp [e1_], A1_, rfl, S1_.pick [0] (by decide) rfl⟩
def F_slices_order2CmpFunc_2_int (fu : Nat) (x0 : List (Int × Int)) (x1 : Int) (x2 : Int) (x3 : Int) (x4 : Int → Int → Int → Int → Option (Int)) : Option (Int × Int × Int) :=
  gd (inL x0 x2) (
  gd (inL x0 x1) (
  bd (x4 ((gat i2 x0 x2).1) ((gat i2 x0 x2).2) ((gat i2 x0 x1).1) ((gat i2 x0 x1).2)) fun r1 =>
  bif (ilt r1 0) then
    some (x2, x1, (iadd .i64 x3 1))
  else
    some (x1, x2, x3)))
theorem F_slices_order2CmpFunc_2_int_w {fu : Nat} {H : AH} {B : Nat → Prop} {v0 : Value} {p3 : Value} {f4 : FuncId} {c4 : List Value} {x0 : List (Int × Int)} {x1 : Int} {x2 : Int} {x3 : Int} {x4 : Int → Int → Int → Int → Option (Int)} {r : (Int × Int × Int)} (hB : Up B H.length) (S0 : Sep H B [AL.box p3 [(Value.int .i64 x3)]]) (hx0 : SlI H v0 x0) (hdx0 : ∀ i, idOf v0 = some i → ¬ B i) (hx4 : ∀ (G : AH), AgB B H G → ∀ (y0_0 : Int) (y0_1 : Int) (y1_0 : Int) (y1_1 : Int) (q : (Int)), x4 y0_0 y0_1 y1_0 y1_1 = some q → ACallT Tryz.prog f4 ([(Value.agg #[(Value.int .i64 y0_0), (Value.int .i64 y0_1)]), (Value.agg #[(Value.int .i64 y1_0), (Value.int .i64 y1_1)])] ++ c4) G (fun u G' => AgB (Fr G) G G' ∧ u = (Value.int .i64 q) ∧ Sep G' (Fr G) [])) (hF : F_slices_order2CmpFunc_2_int fu x0 x1 x2 x3 x4 = some r) :
    ACallT Tryz.prog 165 [v0, (Value.int .i64 x1), (Value.int .i64 x2), p3, (Value.func (.func f4) #[] c4.toArray)] H (fun u G => AgB B H G ∧ u = (Value.tuple #[(Value.int .i64 r.1), (Value.int .i64 r.2.1)]) ∧ Sep G B [AL.box p3 [(Value.int .i64 r.2.2)]]) := by
 refine ACallT.of_body (nt := 32) (rs := [.tmp 10, .tmp 11]) Tryz.func165 rfl rfl rfl rfl ?_;have A0 : AgB B H H := .refl _ _;unfold F_slices_order2CmpFunc_2_int at hF;refine .sr fun K hK => ?_;simp [];apply hK;refine .seq ?_;obtain ⟨g1, hF⟩ := gd_some hF;have q2 := (hx0.agr A0 hdx0).idxG (kk := .i64) el_65 sz_66 g1;have q3 := (hx0.agr A0 hdx0).loadG sz_66 ag_66 g1;obtain ⟨g4, hF⟩ := gd_some hF;have q5 := (hx0.agr A0 hdx0).idxG (kk := .i64) el_65 sz_66 g4;have q6 := (hx0.agr A0 hdx0).loadG sz_66 ag_66 g4;obtain ⟨r1, hc7, hF⟩ := bd_some hF;refine .sd (B := [0, 0, 0, 6, 14, 0, 0, 96, 224, 511, 1023]) 11 mixed (by kernel_rfl) (by decide) fun K hK => ?_;simp [q2, q3, q5, q6];refine CallD.t (hx4 _ A0 ((gat i2 x0 x2).1) ((gat i2 x0 x2).2) ((gat i2 x0 x1).1) ((gat i2 x0 x1).2) _  hc7) ?_;rintro _ G8 ⟨a11, rfl, S12⟩;have A10 := A0.ext (hB.le A0.1) a11.agree;have S9 : Sep G8 B [AL.box p3 [(Value.int .i64 x3)]] := S0.agree a11.agree;simp [q2, q3, q5, q6, a11.pre];apply hK;refine DWp.cond' (t := (ilt r1 0)) (by simp []) (fun hb13 => ?_) (fun hb13 => ?_)
 ·replace hF := cd_t hb13 hF;have q14 := S9.nilT (k := 0) rfl;have q15 := S9.load0 (k := 0) rfl sz_3 ag_3;have q16 := S9.nilT (k := 0) rfl;obtain ⟨G17, q18, S19, a21⟩ := S9.put0 (k := 0) rfl (hB.le A10.1) sz_3 (rfl : isTup (Value.int .i64 (iadd .i64 x3 1)) = false) (rfl : (Value.int .i64 (iadd .i64 x3 1)).cells = #[(Value.int .i64 (iadd .i64 x3 1))]);have A20 := A10.trans a21;replace S19 : Sep G17 B [AL.box p3 [(Value.int .i64 (iadd .i64 x3 1))]] := S19;refine .sr fun K hK => ?_;simp [q14, q15, q16, q18];apply hK;refine .sr fun K hK => ?_;simp [];apply hK;refine DWp.ret ?_;simp only [andThen, leaves];obtain rfl := Option.some.inj hF;exact ⟨by simp, [(Value.int .i64 x2), (Value.int .i64 x1)], by simp [], A20, rfl, S19.pick [0] (by decide) rfl⟩
 ·replace hF := cd_f hb13 hF;refine DWp.skip ?_;simp only [andThen, leaves];refine .sr fun K hK => ?_;simp [];apply hK;refine DWp.ret ?_;obtain rfl := Option.some.inj hF;exact ⟨by simp, [(Value.int .i64 x1), (Value.int .i64 x2)], by simp [], A10, rfl, S9.pick [0] (by decide) rfl⟩
end Go.Proofs.YtogghgecmjnieaaGreat.AL

/- The walks of functions, each with its Lean function: bits.Len64, bits.Len, slices.insertionSortCmpFunc[[]int], slices.siftDownCmpFunc[[]int], slices.heapSortCmpFunc[[]int], slices.nextPowerOfTwo, (*slices.xorshift).Next, slices.breakPatternsCmpFunc[[]int], slices.order2CmpFunc[[]int], slices.medianCmpFunc[[]int]. No condition. -/
import Derived.Test.YtbckijeffiofdaaG1
import Derived.Test.YtbckijeffiofdaaG2
import Derived.Test.YtbckijeffiofdaaG3
import Derived.Test.YtbckijeffiofdaaG4
import Derived.Test.YtbckijeffiofdaaG5
import Derived.Test.YtbckijeffiofdaaG6
import Derived.Test.YtbckijeffiofdaaALC
import Derived.Test.YtbckijeffiofdaaProg
import Derived.KernelRfl
namespace Go.Proofs.Ytbckijeffiofdaa.AL
open Go Go.RowKit
set_option linter.unusedVariables false
set_option linter.unusedSimpArgs false
set_option maxRecDepth 4096
theorem ag_138 : aggT Try.prog 138 = some false := by kernel_rfl
theorem sz_138 : sizeT Try.prog 138 = some 1 := by kernel_rfl
theorem un_114 : Try.prog.underlying 114 = some (.int .u64) := by kernel_rfl
theorem un_138 : Try.prog.underlying 138 = some (.int .u64) := by kernel_rfl
theorem un_99 : Try.prog.underlying 99 = some (.int .u64) := by kernel_rfl
theorem ze_138 : zeroT Try.prog 138 = some (.int .u64 0) := by kernel_rfl
def F_math_bits_Len64 (fu : Nat) (x0 : Int) : Option (Int) :=
  bd (
    bif (ile 4294967296 x0) then
      some ((ishr .u64 x0 32), 32)
    else
      some (x0, 0)) fun s1 =>
  bd (
    bif (ile 65536 s1.1) then
      some ((ishr .u64 s1.1 16), (iadd .i64 s1.2 16))
    else
      some (s1.1, s1.2)) fun s9 =>
  bif (ile 256 s9.1) then
    gd (inS (ByteArray.mk #[0, 1, 2, 2, 3, 3, 3, 3, 4, 4, 4, 4, 4, 4, 4, 4, 5, 5, 5, 5, 5, 5, 5, 5, 5, 5, 5, 5, 5, 5, 5, 5, 6, 6, 6, 6, 6, 6, 6, 6, 6, 6, 6, 6, 6, 6, 6, 6, 6, 6, 6, 6, 6, 6, 6, 6, 6, 6, 6, 6, 6, 6, 6, 6, 7, 7, 7, 7, 7, 7, 7, 7, 7, 7, 7, 7, 7, 7, 7, 7, 7, 7, 7, 7, 7, 7, 7, 7, 7, 7, 7, 7, 7, 7, 7, 7, 7, 7, 7, 7, 7, 7, 7, 7, 7, 7, 7, 7, 7, 7, 7, 7, 7, 7, 7, 7, 7, 7, 7, 7, 7, 7, 7, 7, 7, 7, 7, 7, 8, 8, 8, 8, 8, 8, 8, 8, 8, 8, 8, 8, 8, 8, 8, 8, 8, 8, 8, 8, 8, 8, 8, 8, 8, 8, 8, 8, 8, 8, 8, 8, 8, 8, 8, 8, 8, 8, 8, 8, 8, 8, 8, 8, 8, 8, 8, 8, 8, 8, 8, 8, 8, 8, 8, 8, 8, 8, 8, 8, 8, 8, 8, 8, 8, 8, 8, 8, 8, 8, 8, 8, 8, 8, 8, 8, 8, 8, 8, 8, 8, 8, 8, 8, 8, 8, 8, 8, 8, 8, 8, 8, 8, 8, 8, 8, 8, 8, 8, 8, 8, 8, 8, 8, 8, 8, 8, 8, 8, 8, 8, 8, 8, 8, 8, 8, 8, 8, 8, 8, 8, 8, 8, 8, 8, 8, 8, 8]) (iwr .u8 (ishr .u64 s9.1 8))) (
    some (iadd .i64 (iadd .i64 s9.2 8) (iwr .i64 (sat (ByteArray.mk #[0, 1, 2, 2, 3, 3, 3, 3, 4, 4, 4, 4, 4, 4, 4, 4, 5, 5, 5, 5, 5, 5, 5, 5, 5, 5, 5, 5, 5, 5, 5, 5, 6, 6, 6, 6, 6, 6, 6, 6, 6, 6, 6, 6, 6, 6, 6, 6, 6, 6, 6, 6, 6, 6, 6, 6, 6, 6, 6, 6, 6, 6, 6, 6, 7, 7, 7, 7, 7, 7, 7, 7, 7, 7, 7, 7, 7, 7, 7, 7, 7, 7, 7, 7, 7, 7, 7, 7, 7, 7, 7, 7, 7, 7, 7, 7, 7, 7, 7, 7, 7, 7, 7, 7, 7, 7, 7, 7, 7, 7, 7, 7, 7, 7, 7, 7, 7, 7, 7, 7, 7, 7, 7, 7, 7, 7, 7, 7, 8, 8, 8, 8, 8, 8, 8, 8, 8, 8, 8, 8, 8, 8, 8, 8, 8, 8, 8, 8, 8, 8, 8, 8, 8, 8, 8, 8, 8, 8, 8, 8, 8, 8, 8, 8, 8, 8, 8, 8, 8, 8, 8, 8, 8, 8, 8, 8, 8, 8, 8, 8, 8, 8, 8, 8, 8, 8, 8, 8, 8, 8, 8, 8, 8, 8, 8, 8, 8, 8, 8, 8, 8, 8, 8, 8, 8, 8, 8, 8, 8, 8, 8, 8, 8, 8, 8, 8, 8, 8, 8, 8, 8, 8, 8, 8, 8, 8, 8, 8, 8, 8, 8, 8, 8, 8, 8, 8, 8, 8, 8, 8, 8, 8, 8, 8, 8, 8, 8, 8, 8, 8, 8, 8, 8, 8, 8, 8]) (iwr .u8 (ishr .u64 s9.1 8))))))
  else
    gd (inS (ByteArray.mk #[0, 1, 2, 2, 3, 3, 3, 3, 4, 4, 4, 4, 4, 4, 4, 4, 5, 5, 5, 5, 5, 5, 5, 5, 5, 5, 5, 5, 5, 5, 5, 5, 6, 6, 6, 6, 6, 6, 6, 6, 6, 6, 6, 6, 6, 6, 6, 6, 6, 6, 6, 6, 6, 6, 6, 6, 6, 6, 6, 6, 6, 6, 6, 6, 7, 7, 7, 7, 7, 7, 7, 7, 7, 7, 7, 7, 7, 7, 7, 7, 7, 7, 7, 7, 7, 7, 7, 7, 7, 7, 7, 7, 7, 7, 7, 7, 7, 7, 7, 7, 7, 7, 7, 7, 7, 7, 7, 7, 7, 7, 7, 7, 7, 7, 7, 7, 7, 7, 7, 7, 7, 7, 7, 7, 7, 7, 7, 7, 8, 8, 8, 8, 8, 8, 8, 8, 8, 8, 8, 8, 8, 8, 8, 8, 8, 8, 8, 8, 8, 8, 8, 8, 8, 8, 8, 8, 8, 8, 8, 8, 8, 8, 8, 8, 8, 8, 8, 8, 8, 8, 8, 8, 8, 8, 8, 8, 8, 8, 8, 8, 8, 8, 8, 8, 8, 8, 8, 8, 8, 8, 8, 8, 8, 8, 8, 8, 8, 8, 8, 8, 8, 8, 8, 8, 8, 8, 8, 8, 8, 8, 8, 8, 8, 8, 8, 8, 8, 8, 8, 8, 8, 8, 8, 8, 8, 8, 8, 8, 8, 8, 8, 8, 8, 8, 8, 8, 8, 8, 8, 8, 8, 8, 8, 8, 8, 8, 8, 8, 8, 8, 8, 8, 8, 8, 8, 8]) (iwr .u8 s9.1)) (
    some (iadd .i64 s9.2 (iwr .i64 (sat (ByteArray.mk #[0, 1, 2, 2, 3, 3, 3, 3, 4, 4, 4, 4, 4, 4, 4, 4, 5, 5, 5, 5, 5, 5, 5, 5, 5, 5, 5, 5, 5, 5, 5, 5, 6, 6, 6, 6, 6, 6, 6, 6, 6, 6, 6, 6, 6, 6, 6, 6, 6, 6, 6, 6, 6, 6, 6, 6, 6, 6, 6, 6, 6, 6, 6, 6, 7, 7, 7, 7, 7, 7, 7, 7, 7, 7, 7, 7, 7, 7, 7, 7, 7, 7, 7, 7, 7, 7, 7, 7, 7, 7, 7, 7, 7, 7, 7, 7, 7, 7, 7, 7, 7, 7, 7, 7, 7, 7, 7, 7, 7, 7, 7, 7, 7, 7, 7, 7, 7, 7, 7, 7, 7, 7, 7, 7, 7, 7, 7, 7, 8, 8, 8, 8, 8, 8, 8, 8, 8, 8, 8, 8, 8, 8, 8, 8, 8, 8, 8, 8, 8, 8, 8, 8, 8, 8, 8, 8, 8, 8, 8, 8, 8, 8, 8, 8, 8, 8, 8, 8, 8, 8, 8, 8, 8, 8, 8, 8, 8, 8, 8, 8, 8, 8, 8, 8, 8, 8, 8, 8, 8, 8, 8, 8, 8, 8, 8, 8, 8, 8, 8, 8, 8, 8, 8, 8, 8, 8, 8, 8, 8, 8, 8, 8, 8, 8, 8, 8, 8, 8, 8, 8, 8, 8, 8, 8, 8, 8, 8, 8, 8, 8, 8, 8, 8, 8, 8, 8, 8, 8, 8, 8, 8, 8, 8, 8, 8, 8, 8, 8, 8, 8, 8, 8, 8, 8, 8, 8]) (iwr .u8 s9.1)))))
theorem F_math_bits_Len64_w {fu : Nat} {H : AH}  {x0 : Int} {r : (Int)}  (hF : F_math_bits_Len64 fu x0 = some r) :
    ACallT Try.prog 175 [(Value.int .u64 x0)] H (fun u G => AgB (Fr H) H G ∧ u = (Value.int .i64 r) ∧ Sep G (Fr H) []) := by
  refine ACallT.of_body (nt := 25) (rs := [.tmp 2]) Try.func175 rfl rfl rfl rfl ?_
  have A0 : AgB (Fr H) H H := .refl _ _
  have S0 : Sep H (Fr H) [] := .nil
  have hB := Fr.up H
  unfold F_math_bits_Len64 at hF
  refine DWp.seq ?_
  refine DWp.region fun K hK => ?_
  simp [-aBin', -aBin, -aBinI, -aUn, -aNil, -flatV, n_fn, b_add, b_sub, b_mul, b_lt, b_le, b_gt, b_ge, b_eq, b_ne, u_not]
  apply hK
  clear hK K
  simp only [andThen, leaves]
  obtain ⟨s1, hL2, hF⟩ := bd_some hF
  refine DWp.seq (DWp.join (fun env G => Sep G (Fr H) [] ∧ AgB (Fr H) H G ∧ env 0 = some (Value.int .u64 s1.1) ∧ env 2 = some (Value.int .i64 s1.2)) ?_ ?_)
  ·
    refine DWp.seq ?_
    refine DWp.region fun K hK => ?_
    simp [-aBin', -aBin, -aBinI, -aUn, -aNil, -flatV, n_fn, b_add, b_sub, b_mul, b_lt, b_le, b_gt, b_ge, b_eq, b_ne, u_not]
    apply hK
    clear hK K
    simp only [andThen, leaves]
    refine DWp.cond' (t := (ile 4294967296 x0)) (by simp []) (fun hb4 => ?_) (fun hb4 => ?_)
    · replace hL2 := cd_t hb4 hL2
      refine DWp.seq ?_
      have g5 : ¬ ((32 : Int) < 0) := by decide
      refine DWp.region fun K hK => ?_
      simp [-aBin', -aBin, -aBinI, -aUn, -aNil, -flatV, n_fn, b_add, b_sub, b_mul, b_lt, b_le, b_gt, b_ge, b_eq, b_ne, u_not, b_shr g5]
      apply hK
      clear hK K
      simp only [andThen, leaves]
      refine DWp.region fun K hK => ?_
      simp [-aBin', -aBin, -aBinI, -aUn, -aNil, -flatV, n_fn, b_add, b_sub, b_mul, b_lt, b_le, b_gt, b_ge, b_eq, b_ne, u_not]
      apply hK
      clear hK K
      simp only [andThen, leaves]
      have S6 := S0.pick [] (by decide) rfl
      obtain rfl := Option.some.inj hL2
      exact ⟨S6, A0, by simp [], by simp []⟩
    · replace hL2 := cd_f hb4 hL2
      refine DWp.skip ?_
      simp only [andThen, leaves]
      have S7 := S0.pick [] (by decide) rfl
      obtain rfl := Option.some.inj hL2
      exact ⟨S7, A0, by simp [], by simp []⟩
  · rintro env Gj8 ⟨Sj8, Aj8, ej8_0, ej8_2⟩
    obtain ⟨s9, hL10, hF⟩ := bd_some hF
    refine DWp.seq (DWp.join (fun env G => Sep G (Fr H) [] ∧ AgB (Fr H) H G ∧ env 0 = some (Value.int .u64 s9.1) ∧ env 2 = some (Value.int .i64 s9.2)) ?_ ?_)
    ·
      refine DWp.seq ?_
      refine DWp.region fun K hK => ?_
      simp [-aBin', -aBin, -aBinI, -aUn, -aNil, -flatV, n_fn, b_add, b_sub, b_mul, b_lt, b_le, b_gt, b_ge, b_eq, b_ne, u_not, ej8_0, ej8_2]
      apply hK
      clear hK K
      simp only [andThen, leaves]
      refine DWp.cond' (t := (ile 65536 s1.1)) (by simp [ej8_0, ej8_2]) (fun hb12 => ?_) (fun hb12 => ?_)
      · replace hL10 := cd_t hb12 hL10
        refine DWp.seq ?_
        have g13 : ¬ ((16 : Int) < 0) := by decide
        refine DWp.region fun K hK => ?_
        simp [-aBin', -aBin, -aBinI, -aUn, -aNil, -flatV, n_fn, b_add, b_sub, b_mul, b_lt, b_le, b_gt, b_ge, b_eq, b_ne, u_not, ej8_0, ej8_2, b_shr g13]
        apply hK
        clear hK K
        simp only [andThen, leaves]
        refine DWp.region fun K hK => ?_
        simp [-aBin', -aBin, -aBinI, -aUn, -aNil, -flatV, n_fn, b_add, b_sub, b_mul, b_lt, b_le, b_gt, b_ge, b_eq, b_ne, u_not, ej8_0, ej8_2]
        apply hK
        clear hK K
        simp only [andThen, leaves]
        have S14 := Sj8.pick [] (by decide) rfl
        obtain rfl := Option.some.inj hL10
        exact ⟨S14, Aj8, by simp [ej8_0, ej8_2], by simp [ej8_0, ej8_2]⟩
      · replace hL10 := cd_f hb12 hL10
        refine DWp.skip ?_
        simp only [andThen, leaves]
        have S15 := Sj8.pick [] (by decide) rfl
        obtain rfl := Option.some.inj hL10
        exact ⟨S15, Aj8, by simp [ej8_0, ej8_2], by simp [ej8_0, ej8_2]⟩
    · rintro env Gj16 ⟨Sj16, Aj16, ej16_0, ej16_2⟩
      refine DWp.seq ?_
      refine DWp.seq ?_
      refine DWp.region fun K hK => ?_
      simp [-aBin', -aBin, -aBinI, -aUn, -aNil, -flatV, n_fn, b_add, b_sub, b_mul, b_lt, b_le, b_gt, b_ge, b_eq, b_ne, u_not, ej16_0, ej16_2]
      apply hK
      clear hK K
      simp only [andThen, leaves]
      refine DWp.cond' (t := (ile 256 s9.1)) (by simp [ej16_0, ej16_2]) (fun hb17 => ?_) (fun hb17 => ?_)
      · replace hF := cd_t hb17 hF
        refine DWp.seq ?_
        have g18 : ¬ ((8 : Int) < 0) := by decide
        refine DWp.region fun K hK => ?_
        simp [-aBin', -aBin, -aBinI, -aUn, -aNil, -flatV, n_fn, b_add, b_sub, b_mul, b_lt, b_le, b_gt, b_ge, b_eq, b_ne, u_not, ej16_0, ej16_2, b_shr g18]
        apply hK
        clear hK K
        simp only [andThen, leaves]
        refine DWp.region fun K hK => ?_
        simp [-aBin', -aBin, -aBinI, -aUn, -aNil, -flatV, n_fn, b_add, b_sub, b_mul, b_lt, b_le, b_gt, b_ge, b_eq, b_ne, u_not, ej16_0, ej16_2]
        apply hK
        clear hK K
        simp only [andThen, leaves]
        refine DWp.seq ?_
        obtain ⟨g19, hF⟩ := gd_some hF
        have q20 := strIdx (P := Try.prog) (kk := .u8) un_9 g19
        refine DWp.region fun K hK => ?_
        simp [-aBin', -aBin, -aBinI, -aUn, -aNil, -flatV, n_fn, b_add, b_sub, b_mul, b_lt, b_le, b_gt, b_ge, b_eq, b_ne, u_not, ej16_0, ej16_2, c_int un_99 un_5, q20, c_int un_5 un_3]
        apply hK
        clear hK K
        simp only [andThen, leaves]
        refine DWp.ret ?_
        obtain rfl := Option.some.inj hF
        exact ⟨by simp, [(Value.int .i64 (iadd .i64 (iadd .i64 s9.2 8) (iwr .i64 (sat (ByteArray.mk #[0, 1, 2, 2, 3, 3, 3, 3, 4, 4, 4, 4, 4, 4, 4, 4, 5, 5, 5, 5, 5, 5, 5, 5, 5, 5, 5, 5, 5, 5, 5, 5, 6, 6, 6, 6, 6, 6, 6, 6, 6, 6, 6, 6, 6, 6, 6, 6, 6, 6, 6, 6, 6, 6, 6, 6, 6, 6, 6, 6, 6, 6, 6, 6, 7, 7, 7, 7, 7, 7, 7, 7, 7, 7, 7, 7, 7, 7, 7, 7, 7, 7, 7, 7, 7, 7, 7, 7, 7, 7, 7, 7, 7, 7, 7, 7, 7, 7, 7, 7, 7, 7, 7, 7, 7, 7, 7, 7, 7, 7, 7, 7, 7, 7, 7, 7, 7, 7, 7, 7, 7, 7, 7, 7, 7, 7, 7, 7, 8, 8, 8, 8, 8, 8, 8, 8, 8, 8, 8, 8, 8, 8, 8, 8, 8, 8, 8, 8, 8, 8, 8, 8, 8, 8, 8, 8, 8, 8, 8, 8, 8, 8, 8, 8, 8, 8, 8, 8, 8, 8, 8, 8, 8, 8, 8, 8, 8, 8, 8, 8, 8, 8, 8, 8, 8, 8, 8, 8, 8, 8, 8, 8, 8, 8, 8, 8, 8, 8, 8, 8, 8, 8, 8, 8, 8, 8, 8, 8, 8, 8, 8, 8, 8, 8, 8, 8, 8, 8, 8, 8, 8, 8, 8, 8, 8, 8, 8, 8, 8, 8, 8, 8, 8, 8, 8, 8, 8, 8, 8, 8, 8, 8, 8, 8, 8, 8, 8, 8, 8, 8, 8, 8, 8, 8, 8, 8]) (iwr .u8 (ishr .u64 s9.1 8))))))], by simp [ej16_0, ej16_2], Aj16, rfl, Sj16.pick [] (by decide) rfl⟩
      · replace hF := cd_f hb17 hF
        refine DWp.skip ?_
        simp only [andThen, leaves]
        refine DWp.seq ?_
        obtain ⟨g21, hF⟩ := gd_some hF
        have q22 := strIdx (P := Try.prog) (kk := .u8) un_9 g21
        refine DWp.region fun K hK => ?_
        simp [-aBin', -aBin, -aBinI, -aUn, -aNil, -flatV, n_fn, b_add, b_sub, b_mul, b_lt, b_le, b_gt, b_ge, b_eq, b_ne, u_not, ej16_0, ej16_2, c_int un_99 un_5, q22, c_int un_5 un_3]
        apply hK
        clear hK K
        simp only [andThen, leaves]
        refine DWp.ret ?_
        obtain rfl := Option.some.inj hF
        exact ⟨by simp, [(Value.int .i64 (iadd .i64 s9.2 (iwr .i64 (sat (ByteArray.mk #[0, 1, 2, 2, 3, 3, 3, 3, 4, 4, 4, 4, 4, 4, 4, 4, 5, 5, 5, 5, 5, 5, 5, 5, 5, 5, 5, 5, 5, 5, 5, 5, 6, 6, 6, 6, 6, 6, 6, 6, 6, 6, 6, 6, 6, 6, 6, 6, 6, 6, 6, 6, 6, 6, 6, 6, 6, 6, 6, 6, 6, 6, 6, 6, 7, 7, 7, 7, 7, 7, 7, 7, 7, 7, 7, 7, 7, 7, 7, 7, 7, 7, 7, 7, 7, 7, 7, 7, 7, 7, 7, 7, 7, 7, 7, 7, 7, 7, 7, 7, 7, 7, 7, 7, 7, 7, 7, 7, 7, 7, 7, 7, 7, 7, 7, 7, 7, 7, 7, 7, 7, 7, 7, 7, 7, 7, 7, 7, 8, 8, 8, 8, 8, 8, 8, 8, 8, 8, 8, 8, 8, 8, 8, 8, 8, 8, 8, 8, 8, 8, 8, 8, 8, 8, 8, 8, 8, 8, 8, 8, 8, 8, 8, 8, 8, 8, 8, 8, 8, 8, 8, 8, 8, 8, 8, 8, 8, 8, 8, 8, 8, 8, 8, 8, 8, 8, 8, 8, 8, 8, 8, 8, 8, 8, 8, 8, 8, 8, 8, 8, 8, 8, 8, 8, 8, 8, 8, 8, 8, 8, 8, 8, 8, 8, 8, 8, 8, 8, 8, 8, 8, 8, 8, 8, 8, 8, 8, 8, 8, 8, 8, 8, 8, 8, 8, 8, 8, 8, 8, 8, 8, 8, 8, 8, 8, 8, 8, 8, 8, 8, 8, 8, 8, 8, 8, 8]) (iwr .u8 s9.1)))))], by simp [ej16_0, ej16_2], Aj16, rfl, Sj16.pick [] (by decide) rfl⟩
def F_math_bits_Len (fu : Nat) (x0 : Int) : Option (Int) :=
  bd (F_math_bits_Len64 fu x0) fun r1 =>
  some r1
theorem F_math_bits_Len_w {fu : Nat} {H : AH}  {x0 : Int} {r : (Int)}  (hF : F_math_bits_Len fu x0 = some r) :
    ACallT Try.prog 149 [(Value.int .u64 x0)] H (fun u G => AgB (Fr H) H G ∧ u = (Value.int .i64 r) ∧ Sep G (Fr H) []) := by
  refine ACallT.of_body (nt := 8) (rs := [.tmp 2]) Try.func149 rfl rfl rfl rfl ?_
  have A0 : AgB (Fr H) H H := .refl _ _
  have S0 : Sep H (Fr H) [] := .nil
  have hB := Fr.up H
  unfold F_math_bits_Len at hF
  refine DWp.seq ?_
  refine DWp.region fun K hK => ?_
  simp [-aBin', -aBin, -aBinI, -aUn, -aNil, -flatV, n_fn, b_add, b_sub, b_mul, b_lt, b_le, b_gt, b_ge, b_eq, b_ne, u_not]
  apply hK
  clear hK K
  simp only [andThen, leaves]
  refine DWp.seq ?_
  refine DWp.cf (by simp [bnot]) ?_
  refine DWp.skip ?_
  simp only [andThen, leaves]
  refine DWp.seq ?_
  obtain ⟨r1, hc1, hF⟩ := bd_some hF
  refine DWp.region fun K hK => ?_
  simp [-aBin', -aBin, -aBinI, -aUn, -aNil, -flatV, n_fn, b_add, b_sub, b_mul, b_lt, b_le, b_gt, b_ge, b_eq, b_ne, u_not]
  refine CallD.t (F_math_bits_Len64_w (fu := fu)  hc1) ?_
  rintro _ G3 ⟨a6, rfl, S7⟩
  have A5 := A0.ext (hB.le A0.1) a6.agree
  have S4 : Sep G3 (Fr H) [] := S0.app a6.agree S7 (fun _ h => h) (hB.le A0.1)
  simp [-aBin', -aBin, -aBinI, -aUn, -aNil, -flatV, n_fn, b_add, b_sub, b_mul, b_lt, b_le, b_gt, b_ge, b_eq, b_ne, u_not, a6.pre]
  apply hK
  clear hK K
  simp only [andThen, leaves]
  refine DWp.ret ?_
  obtain rfl := Option.some.inj hF
  exact ⟨by simp, [(Value.int .i64 r1)], by simp [], A5, rfl, S4.pick [] (by decide) rfl⟩
def F_slices_nextPowerOfTwo (fu : Nat) (x0 : Int) : Option (Int) :=
  bd (F_math_bits_Len fu (iwr .u64 x0)) fun r1 =>
  gd (¬ (r1 < 0)) (
  some (ishl .u64 1 r1))
theorem F_slices_nextPowerOfTwo_w {fu : Nat} {H : AH}  {x0 : Int} {r : (Int)}  (hF : F_slices_nextPowerOfTwo fu x0 = some r) :
    ACallT Try.prog 182 [(Value.int .i64 x0)] H (fun u G => AgB (Fr H) H G ∧ u = (Value.int .u64 r) ∧ Sep G (Fr H) []) := by
  refine ACallT.of_body (nt := 7) (rs := [.tmp 2]) Try.func182 rfl rfl rfl rfl ?_
  have A0 : AgB (Fr H) H H := .refl _ _
  have S0 : Sep H (Fr H) [] := .nil
  have hB := Fr.up H
  unfold F_slices_nextPowerOfTwo at hF
  refine DWp.seq ?_
  refine DWp.region fun K hK => ?_
  simp [-aBin', -aBin, -aBinI, -aUn, -aNil, -flatV, n_fn, b_add, b_sub, b_mul, b_lt, b_le, b_gt, b_ge, b_eq, b_ne, u_not]
  apply hK
  clear hK K
  simp only [andThen, leaves]
  refine DWp.seq ?_
  obtain ⟨r1, hc1, hF⟩ := bd_some hF
  refine DWp.region fun K hK => ?_
  simp [-aBin', -aBin, -aBinI, -aUn, -aNil, -flatV, n_fn, b_add, b_sub, b_mul, b_lt, b_le, b_gt, b_ge, b_eq, b_ne, u_not, c_int un_3 un_114]
  refine CallD.t (F_math_bits_Len_w (fu := fu)  hc1) ?_
  rintro _ G3 ⟨a6, rfl, S7⟩
  have A5 := A0.ext (hB.le A0.1) a6.agree
  have S4 : Sep G3 (Fr H) [] := S0.app a6.agree S7 (fun _ h => h) (hB.le A0.1)
  obtain ⟨g8, hF⟩ := gd_some hF
  simp [-aBin', -aBin, -aBinI, -aUn, -aNil, -flatV, n_fn, b_add, b_sub, b_mul, b_lt, b_le, b_gt, b_ge, b_eq, b_ne, u_not, c_int un_3 un_114, a6.pre, b_shl g8]
  apply hK
  clear hK K
  simp only [andThen, leaves]
  refine DWp.ret ?_
  obtain rfl := Option.some.inj hF
  exact ⟨by simp, [(Value.int .u64 (ishl .u64 1 r1))], by simp [], A5, rfl, S4.pick [] (by decide) rfl⟩
def F_slices_xorshift_Next (fu : Nat) (x0 : Int) : Option (Int × Int) :=
  some ((ixor .u64 (ixor .u64 (ixor .u64 x0 (ishl .u64 x0 13)) (ishr .u64 (ixor .u64 x0 (ishl .u64 x0 13)) 7)) (ishl .u64 (ixor .u64 (ixor .u64 x0 (ishl .u64 x0 13)) (ishr .u64 (ixor .u64 x0 (ishl .u64 x0 13)) 7)) 17)), (ixor .u64 (ixor .u64 (ixor .u64 x0 (ishl .u64 x0 13)) (ishr .u64 (ixor .u64 x0 (ishl .u64 x0 13)) 7)) (ishl .u64 (ixor .u64 (ixor .u64 x0 (ishl .u64 x0 13)) (ishr .u64 (ixor .u64 x0 (ishl .u64 x0 13)) 7)) 17)))
theorem F_slices_xorshift_Next_w {fu : Nat} {H : AH} {B : Nat → Prop} {p0 : Value} {x0 : Int} {r : (Int × Int)} (hB : Up B H.length) (S0 : Sep H B [AL.box p0 [(Value.int .u64 x0)]]) (hF : F_slices_xorshift_Next fu x0 = some r) :
    ACallT Try.prog 183 [p0] H (fun u G => AgB B H G ∧ u = (Value.int .u64 r.1) ∧ Sep G B [AL.box p0 [(Value.int .u64 r.2)]]) := by
  refine ACallT.of_body (nt := 33) (rs := [.tmp 2]) Try.func183 rfl rfl rfl rfl ?_
  have A0 : AgB B H H := .refl _ _
  unfold F_slices_xorshift_Next at hF
  refine DWp.seq ?_
  refine DWp.region fun K hK => ?_
  simp [-aBin', -aBin, -aBinI, -aUn, -aNil, -flatV, n_fn, b_add, b_sub, b_mul, b_lt, b_le, b_gt, b_ge, b_eq, b_ne, u_not]
  apply hK
  clear hK K
  simp only [andThen, leaves]
  refine DWp.seq ?_
  have q1 := S0.nilT (k := 0) rfl
  have q2 := S0.load0 (P := Try.prog) (k := 0) rfl sz_138 ag_138
  have q3 := S0.nilT (k := 0) rfl
  have q4 := S0.load0 (P := Try.prog) (k := 0) rfl sz_138 ag_138
  have g5 : ¬ ((13 : Int) < 0) := by decide
  have q6 := S0.nilT (k := 0) rfl
  obtain ⟨G7, q8, S9, a11⟩ := S0.put0 (P := Try.prog) (k := 0) rfl (hB.le A0.1) sz_138 (rfl : isTup (Value.int .u64 (ixor .u64 x0 (ishl .u64 x0 13))) = false) (rfl : (Value.int .u64 (ixor .u64 x0 (ishl .u64 x0 13))).cells = #[(Value.int .u64 (ixor .u64 x0 (ishl .u64 x0 13)))])
  have A10 := A0.trans a11
  replace S9 : Sep G7 B [AL.box p0 [(Value.int .u64 (ixor .u64 x0 (ishl .u64 x0 13)))]] := S9
  refine DWp.drawn (B := [0, 1, 3, 0, 8, 24, 56, 127, 255, 511]) 9 mixed (by kernel_rfl) (by decide) fun K hK => ?_
  simp [-aBin', -aBin, -aBinI, -aUn, -aNil, -flatV, n_fn, b_add, b_sub, b_mul, b_lt, b_le, b_gt, b_ge, b_eq, b_ne, u_not, q1, q2, q3, q4, b_shl g5, b_xor, q6, q8]
  apply hK
  clear hK K
  simp only [andThen, leaves]
  refine DWp.seq ?_
  have q12 := S9.nilT (k := 0) rfl
  have q13 := S9.load0 (P := Try.prog) (k := 0) rfl sz_138 ag_138
  have q14 := S9.nilT (k := 0) rfl
  have q15 := S9.load0 (P := Try.prog) (k := 0) rfl sz_138 ag_138
  have g16 : ¬ ((7 : Int) < 0) := by decide
  have q17 := S9.nilT (k := 0) rfl
  obtain ⟨G18, q19, S20, a22⟩ := S9.put0 (P := Try.prog) (k := 0) rfl (hB.le A10.1) sz_138 (rfl : isTup (Value.int .u64 (ixor .u64 (ixor .u64 x0 (ishl .u64 x0 13)) (ishr .u64 (ixor .u64 x0 (ishl .u64 x0 13)) 7))) = false) (rfl : (Value.int .u64 (ixor .u64 (ixor .u64 x0 (ishl .u64 x0 13)) (ishr .u64 (ixor .u64 x0 (ishl .u64 x0 13)) 7))).cells = #[(Value.int .u64 (ixor .u64 (ixor .u64 x0 (ishl .u64 x0 13)) (ishr .u64 (ixor .u64 x0 (ishl .u64 x0 13)) 7)))])
  have A21 := A10.trans a22
  replace S20 : Sep G18 B [AL.box p0 [(Value.int .u64 (ixor .u64 (ixor .u64 x0 (ishl .u64 x0 13)) (ishr .u64 (ixor .u64 x0 (ishl .u64 x0 13)) 7)))]] := S20
  refine DWp.drawn (B := [0, 1, 3, 0, 8, 24, 56, 127, 255, 511]) 9 mixed (by kernel_rfl) (by decide) fun K hK => ?_
  simp [-aBin', -aBin, -aBinI, -aUn, -aNil, -flatV, n_fn, b_add, b_sub, b_mul, b_lt, b_le, b_gt, b_ge, b_eq, b_ne, u_not, q12, q13, q14, q15, b_shr g16, b_xor, q17, q19]
  apply hK
  clear hK K
  simp only [andThen, leaves]
  refine DWp.seq ?_
  have q23 := S20.nilT (k := 0) rfl
  have q24 := S20.load0 (P := Try.prog) (k := 0) rfl sz_138 ag_138
  have q25 := S20.nilT (k := 0) rfl
  have q26 := S20.load0 (P := Try.prog) (k := 0) rfl sz_138 ag_138
  have g27 : ¬ ((17 : Int) < 0) := by decide
  have q28 := S20.nilT (k := 0) rfl
  obtain ⟨G29, q30, S31, a33⟩ := S20.put0 (P := Try.prog) (k := 0) rfl (hB.le A21.1) sz_138 (rfl : isTup (Value.int .u64 (ixor .u64 (ixor .u64 (ixor .u64 x0 (ishl .u64 x0 13)) (ishr .u64 (ixor .u64 x0 (ishl .u64 x0 13)) 7)) (ishl .u64 (ixor .u64 (ixor .u64 x0 (ishl .u64 x0 13)) (ishr .u64 (ixor .u64 x0 (ishl .u64 x0 13)) 7)) 17))) = false) (rfl : (Value.int .u64 (ixor .u64 (ixor .u64 (ixor .u64 x0 (ishl .u64 x0 13)) (ishr .u64 (ixor .u64 x0 (ishl .u64 x0 13)) 7)) (ishl .u64 (ixor .u64 (ixor .u64 x0 (ishl .u64 x0 13)) (ishr .u64 (ixor .u64 x0 (ishl .u64 x0 13)) 7)) 17))).cells = #[(Value.int .u64 (ixor .u64 (ixor .u64 (ixor .u64 x0 (ishl .u64 x0 13)) (ishr .u64 (ixor .u64 x0 (ishl .u64 x0 13)) 7)) (ishl .u64 (ixor .u64 (ixor .u64 x0 (ishl .u64 x0 13)) (ishr .u64 (ixor .u64 x0 (ishl .u64 x0 13)) 7)) 17)))])
  have A32 := A21.trans a33
  replace S31 : Sep G29 B [AL.box p0 [(Value.int .u64 (ixor .u64 (ixor .u64 (ixor .u64 x0 (ishl .u64 x0 13)) (ishr .u64 (ixor .u64 x0 (ishl .u64 x0 13)) 7)) (ishl .u64 (ixor .u64 (ixor .u64 x0 (ishl .u64 x0 13)) (ishr .u64 (ixor .u64 x0 (ishl .u64 x0 13)) 7)) 17)))]] := S31
  refine DWp.drawn (B := [0, 1, 3, 0, 8, 24, 56, 127, 255, 511]) 9 mixed (by kernel_rfl) (by decide) fun K hK => ?_
  simp [-aBin', -aBin, -aBinI, -aUn, -aNil, -flatV, n_fn, b_add, b_sub, b_mul, b_lt, b_le, b_gt, b_ge, b_eq, b_ne, u_not, q23, q24, q25, q26, b_shl g27, b_xor, q28, q30]
  apply hK
  clear hK K
  simp only [andThen, leaves]
  refine DWp.seq ?_
  have q34 := S31.nilT (k := 0) rfl
  have q35 := S31.load0 (P := Try.prog) (k := 0) rfl sz_138 ag_138
  refine DWp.region fun K hK => ?_
  simp [-aBin', -aBin, -aBinI, -aUn, -aNil, -flatV, n_fn, b_add, b_sub, b_mul, b_lt, b_le, b_gt, b_ge, b_eq, b_ne, u_not, q34, q35]
  apply hK
  clear hK K
  simp only [andThen, leaves]
  refine DWp.ret ?_
  obtain rfl := Option.some.inj hF
  exact ⟨by simp, [(Value.int .u64 (ixor .u64 (ixor .u64 (ixor .u64 x0 (ishl .u64 x0 13)) (ishr .u64 (ixor .u64 x0 (ishl .u64 x0 13)) 7)) (ishl .u64 (ixor .u64 (ixor .u64 x0 (ishl .u64 x0 13)) (ishr .u64 (ixor .u64 x0 (ishl .u64 x0 13)) 7)) 17)))], by simp [], A32, rfl, S31.pick [0] (by decide) rfl⟩
end Go.Proofs.Ytbckijeffiofdaa.AL

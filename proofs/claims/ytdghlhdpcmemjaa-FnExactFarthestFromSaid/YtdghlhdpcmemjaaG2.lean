/- The walks of functions, each with its Lean function: slices.siftDownCmpFunc[[2]int], slices.heapSortCmpFunc[[2]int], slices.nextPowerOfTwo, (*slices.xorshift).Next, slices.breakPatternsCmpFunc[[2]int], slices.order2CmpFunc[[2]int], slices.medianCmpFunc[[2]int], slices.medianAdjacentCmpFunc[[2]int], slices.choosePivotCmpFunc[[2]int], slices.reverseRangeCmpFunc[[2]int]. No condition. -/
import Derived.Test.YtdghlhdpcmemjaaFBD
import Derived.Test.YtdghlhdpcmemjaaFBE
import Derived.Test.YtdghlhdpcmemjaaG1
import Derived.Test.YtdghlhdpcmemjaaALD
import Derived.Test.YtdghlhdpcmemjaaProg
import Derived.KernelRfl
namespace Go.Proofs.Ytdghlhdpcmemjaa.AL
open Go Go.RowKit
set_option linter.unusedVariables false
set_option linter.unusedSimpArgs false
set_option maxRecDepth 4096
theorem ag_119 : aggT Try.prog 119 = some false := by kernel_rfl
theorem sz_119 : sizeT Try.prog 119 = some 1 := by kernel_rfl
theorem un_119 : Try.prog.underlying 119 = some (.int .u64) := by kernel_rfl
theorem un_93 : Try.prog.underlying 93 = some (.int .u64) := by kernel_rfl
theorem ze_119 : zeroT Try.prog 119 = some (.int .u64 0) := by kernel_rfl
theorem ze_3 : zeroT Try.prog 3 = some (.int .i64 0) := by kernel_rfl
def F_slices_nextPowerOfTwo (fu : Nat) (x0 : Int) : Option (Int) :=
  bd (F_math_bits_Len fu (iwr .u64 x0)) fun r1 =>
  gd (¬ (r1 < 0)) (
  some (ishl .u64 1 r1))
theorem F_slices_nextPowerOfTwo_w {fu : Nat} {H : AH}  {x0 : Int} {r : (Int)}  (hF : F_slices_nextPowerOfTwo fu x0 = some r) :
    ACallT Try.prog 144 [(Value.int .i64 x0)] H (fun u G => AgB (Fr H) H G ∧ u = (Value.int .u64 r) ∧ Sep G (Fr H) []) := by
  refine ACallT.of_body (nt := 7) (rs := [.tmp 2]) Try.func144 rfl rfl rfl rfl ?_
  have A0 : AgB (Fr H) H H := .refl _ _
  have S0 : Sep H (Fr H) [] := .nil
  have hB := Fr.up H
  unfold F_slices_nextPowerOfTwo at hF
  refine DWp.seq ?_
  refine DWp.region fun K hK => ?_
  simp [-aBin', -aBin, -aBinI, -aUn, -aNil, -flatV, n_fn, b_add, b_sub, b_mul, b_lt, b_le, b_gt, b_ge, b_eq, b_ne, u_not]
  apply hK
  clear hK K
  simp only [andThen, leaves]
  refine DWp.seq ?_
  obtain ⟨r1, hc1, hF⟩ := bd_some hF
  refine DWp.region fun K hK => ?_
  simp [-aBin', -aBin, -aBinI, -aUn, -aNil, -flatV, n_fn, b_add, b_sub, b_mul, b_lt, b_le, b_gt, b_ge, b_eq, b_ne, u_not, c_int un_3 un_93]
  refine CallD.t (F_math_bits_Len_w (fu := fu)  hc1) ?_
  rintro _ G3 ⟨a6, rfl, S7⟩
  have A5 := A0.ext (hB.le A0.1) a6.agree
  have S4 : Sep G3 (Fr H) [] := S0.app a6.agree S7 (fun _ h => h) (hB.le A0.1)
  obtain ⟨g8, hF⟩ := gd_some hF
  simp [-aBin', -aBin, -aBinI, -aUn, -aNil, -flatV, n_fn, b_add, b_sub, b_mul, b_lt, b_le, b_gt, b_ge, b_eq, b_ne, u_not, c_int un_3 un_93, a6.pre, b_shl g8]
  apply hK
  clear hK K
  simp only [andThen, leaves]
  refine DWp.ret ?_
  obtain rfl := Option.some.inj hF
  exact ⟨by simp, [(Value.int .u64 (ishl .u64 1 r1))], by simp [], A5, rfl, S4.pick [] (by decide) rfl⟩
def F_slices_xorshift_Next (fu : Nat) (x0 : Int) : Option (Int × Int) :=
  some ((ixor .u64 (ixor .u64 (ixor .u64 x0 (ishl .u64 x0 13)) (ishr .u64 (ixor .u64 x0 (ishl .u64 x0 13)) 7)) (ishl .u64 (ixor .u64 (ixor .u64 x0 (ishl .u64 x0 13)) (ishr .u64 (ixor .u64 x0 (ishl .u64 x0 13)) 7)) 17)), (ixor .u64 (ixor .u64 (ixor .u64 x0 (ishl .u64 x0 13)) (ishr .u64 (ixor .u64 x0 (ishl .u64 x0 13)) 7)) (ishl .u64 (ixor .u64 (ixor .u64 x0 (ishl .u64 x0 13)) (ishr .u64 (ixor .u64 x0 (ishl .u64 x0 13)) 7)) 17)))
theorem F_slices_xorshift_Next_w {fu : Nat} {H : AH} {B : Nat → Prop} {p0 : Value} {x0 : Int} {r : (Int × Int)} (hB : Up B H.length) (S0 : Sep H B [AL.box p0 [(Value.int .u64 x0)]]) (hF : F_slices_xorshift_Next fu x0 = some r) :
    ACallT Try.prog 145 [p0] H (fun u G => AgB B H G ∧ u = (Value.int .u64 r.1) ∧ Sep G B [AL.box p0 [(Value.int .u64 r.2)]]) := by
  refine ACallT.of_body (nt := 33) (rs := [.tmp 2]) Try.func145 rfl rfl rfl rfl ?_
  have A0 : AgB B H H := .refl _ _
  unfold F_slices_xorshift_Next at hF
  refine DWp.seq ?_
  refine DWp.region fun K hK => ?_
  simp [-aBin', -aBin, -aBinI, -aUn, -aNil, -flatV, n_fn, b_add, b_sub, b_mul, b_lt, b_le, b_gt, b_ge, b_eq, b_ne, u_not]
  apply hK
  clear hK K
  simp only [andThen, leaves]
  refine DWp.seq ?_
  have q1 := S0.nilT (k := 0) rfl
  have q2 := S0.load0 (P := Try.prog) (k := 0) rfl sz_119 ag_119
  have q3 := S0.nilT (k := 0) rfl
  have q4 := S0.load0 (P := Try.prog) (k := 0) rfl sz_119 ag_119
  have g5 : ¬ ((13 : Int) < 0) := by decide
  have q6 := S0.nilT (k := 0) rfl
  obtain ⟨G7, q8, S9, a11⟩ := S0.put0 (P := Try.prog) (k := 0) rfl (hB.le A0.1) sz_119 (rfl : isTup (Value.int .u64 (ixor .u64 x0 (ishl .u64 x0 13))) = false) (rfl : (Value.int .u64 (ixor .u64 x0 (ishl .u64 x0 13))).cells = #[(Value.int .u64 (ixor .u64 x0 (ishl .u64 x0 13)))])
  have A10 := A0.trans a11
  replace S9 : Sep G7 B [AL.box p0 [(Value.int .u64 (ixor .u64 x0 (ishl .u64 x0 13)))]] := S9
  refine DWp.drawn (B := [0, 1, 3, 0, 8, 24, 56, 127, 255, 511]) 9 mixed (by kernel_rfl) (by decide) fun K hK => ?_
  simp [-aBin', -aBin, -aBinI, -aUn, -aNil, -flatV, n_fn, b_add, b_sub, b_mul, b_lt, b_le, b_gt, b_ge, b_eq, b_ne, u_not, q1, q2, q3, q4, b_shl g5, b_xor, q6, q8]
  apply hK
  clear hK K
  simp only [andThen, leaves]
  refine DWp.seq ?_
  have q12 := S9.nilT (k := 0) rfl
  have q13 := S9.load0 (P := Try.prog) (k := 0) rfl sz_119 ag_119
  have q14 := S9.nilT (k := 0) rfl
  have q15 := S9.load0 (P := Try.prog) (k := 0) rfl sz_119 ag_119
  have g16 : ¬ ((7 : Int) < 0) := by decide
  have q17 := S9.nilT (k := 0) rfl
  obtain ⟨G18, q19, S20, a22⟩ := S9.put0 (P := Try.prog) (k := 0) rfl (hB.le A10.1) sz_119 (rfl : isTup (Value.int .u64 (ixor .u64 (ixor .u64 x0 (ishl .u64 x0 13)) (ishr .u64 (ixor .u64 x0 (ishl .u64 x0 13)) 7))) = false) (rfl : (Value.int .u64 (ixor .u64 (ixor .u64 x0 (ishl .u64 x0 13)) (ishr .u64 (ixor .u64 x0 (ishl .u64 x0 13)) 7))).cells = #[(Value.int .u64 (ixor .u64 (ixor .u64 x0 (ishl .u64 x0 13)) (ishr .u64 (ixor .u64 x0 (ishl .u64 x0 13)) 7)))])
  have A21 := A10.trans a22
  replace S20 : Sep G18 B [AL.box p0 [(Value.int .u64 (ixor .u64 (ixor .u64 x0 (ishl .u64 x0 13)) (ishr .u64 (ixor .u64 x0 (ishl .u64 x0 13)) 7)))]] := S20
  refine DWp.drawn (B := [0, 1, 3, 0, 8, 24, 56, 127, 255, 511]) 9 mixed (by kernel_rfl) (by decide) fun K hK => ?_
  simp [-aBin', -aBin, -aBinI, -aUn, -aNil, -flatV, n_fn, b_add, b_sub, b_mul, b_lt, b_le, b_gt, b_ge, b_eq, b_ne, u_not, q12, q13, q14, q15, b_shr g16, b_xor, q17, q19]
  apply hK
  clear hK K
  simp only [andThen, leaves]
  refine DWp.seq ?_
  have q23 := S20.nilT (k := 0) rfl
  have q24 := S20.load0 (P := Try.prog) (k := 0) rfl sz_119 ag_119
  have q25 := S20.nilT (k := 0) rfl
  have q26 := S20.load0 (P := Try.prog) (k := 0) rfl sz_119 ag_119
  have g27 : ¬ ((17 : Int) < 0) := by decide
  have q28 := S20.nilT (k := 0) rfl
  obtain ⟨G29, q30, S31, a33⟩ := S20.put0 (P := Try.prog) (k := 0) rfl (hB.le A21.1) sz_119 (rfl : isTup (Value.int .u64 (ixor .u64 (ixor .u64 (ixor .u64 x0 (ishl .u64 x0 13)) (ishr .u64 (ixor .u64 x0 (ishl .u64 x0 13)) 7)) (ishl .u64 (ixor .u64 (ixor .u64 x0 (ishl .u64 x0 13)) (ishr .u64 (ixor .u64 x0 (ishl .u64 x0 13)) 7)) 17))) = false) (rfl : (Value.int .u64 (ixor .u64 (ixor .u64 (ixor .u64 x0 (ishl .u64 x0 13)) (ishr .u64 (ixor .u64 x0 (ishl .u64 x0 13)) 7)) (ishl .u64 (ixor .u64 (ixor .u64 x0 (ishl .u64 x0 13)) (ishr .u64 (ixor .u64 x0 (ishl .u64 x0 13)) 7)) 17))).cells = #[(Value.int .u64 (ixor .u64 (ixor .u64 (ixor .u64 x0 (ishl .u64 x0 13)) (ishr .u64 (ixor .u64 x0 (ishl .u64 x0 13)) 7)) (ishl .u64 (ixor .u64 (ixor .u64 x0 (ishl .u64 x0 13)) (ishr .u64 (ixor .u64 x0 (ishl .u64 x0 13)) 7)) 17)))])
  have A32 := A21.trans a33
  replace S31 : Sep G29 B [AL.box p0 [(Value.int .u64 (ixor .u64 (ixor .u64 (ixor .u64 x0 (ishl .u64 x0 13)) (ishr .u64 (ixor .u64 x0 (ishl .u64 x0 13)) 7)) (ishl .u64 (ixor .u64 (ixor .u64 x0 (ishl .u64 x0 13)) (ishr .u64 (ixor .u64 x0 (ishl .u64 x0 13)) 7)) 17)))]] := S31
  refine DWp.drawn (B := [0, 1, 3, 0, 8, 24, 56, 127, 255, 511]) 9 mixed (by kernel_rfl) (by decide) fun K hK => ?_
  simp [-aBin', -aBin, -aBinI, -aUn, -aNil, -flatV, n_fn, b_add, b_sub, b_mul, b_lt, b_le, b_gt, b_ge, b_eq, b_ne, u_not, q23, q24, q25, q26, b_shl g27, b_xor, q28, q30]
  apply hK
  clear hK K
  simp only [andThen, leaves]
  refine DWp.seq ?_
  have q34 := S31.nilT (k := 0) rfl
  have q35 := S31.load0 (P := Try.prog) (k := 0) rfl sz_119 ag_119
  refine DWp.region fun K hK => ?_
  simp [-aBin', -aBin, -aBinI, -aUn, -aNil, -flatV, n_fn, b_add, b_sub, b_mul, b_lt, b_le, b_gt, b_ge, b_eq, b_ne, u_not, q34, q35]
  apply hK
  clear hK K
  simp only [andThen, leaves]
  refine DWp.ret ?_
  obtain rfl := Option.some.inj hF
  exact ⟨by simp, [(Value.int .u64 (ixor .u64 (ixor .u64 (ixor .u64 x0 (ishl .u64 x0 13)) (ishr .u64 (ixor .u64 x0 (ishl .u64 x0 13)) 7)) (ishl .u64 (ixor .u64 (ixor .u64 x0 (ishl .u64 x0 13)) (ishr .u64 (ixor .u64 x0 (ishl .u64 x0 13)) 7)) 17)))], by simp [], A32, rfl, S31.pick [0] (by decide) rfl⟩
end Go.Proofs.Ytdghlhdpcmemjaa.AL

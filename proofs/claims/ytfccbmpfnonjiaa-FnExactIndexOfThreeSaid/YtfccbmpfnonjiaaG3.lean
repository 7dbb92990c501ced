/- The walks of functions, each with its Lean function: slices.heapSortOrdered[int], slices.nextPowerOfTwo, (*slices.xorshift).Next, slices.breakPatternsOrdered[int], slices.order2Ordered[int], slices.medianOrdered[int], slices.medianAdjacentOrdered[int], slices.choosePivotOrdered[int], slices.reverseRangeOrdered[int], slices.partialInsertionSortOrdered[int]. No condition. -/
import Derived.Test.YtfccbmpfnonjiaaG1
import Derived.Test.YtfccbmpfnonjiaaG2
import Derived.Test.YtfccbmpfnonjiaaAL30
import Derived.Test.YtfccbmpfnonjiaaProg
import Derived.KernelRfl
namespace Go.Proofs.Ytfccbmpfnonjiaa.AL
open Go Go.RowKit
set_option linter.unusedVariables false
set_option linter.unusedSimpArgs false
set_option maxRecDepth 4096
theorem ag_105 : aggT Try.prog 105 = some false := by kernel_rfl
theorem sz_105 : sizeT Try.prog 105 = some 1 := by kernel_rfl
theorem un_105 : Try.prog.underlying 105 = some (.int .u64) := by kernel_rfl
theorem un_94 : Try.prog.underlying 94 = some (.int .u64) := by kernel_rfl
theorem ze_105 : zeroT Try.prog 105 = some (.int .u64 0) := by kernel_rfl
theorem ze_3 : zeroT Try.prog 3 = some (.int .i64 0) := by kernel_rfl
/-! slices.heapSortOrdered[int] -/
def F_slices_heapSortOrdered_int_L2 (fu : Nat) (k2_0 : Int) : Nat → List Int → Int → Option (List Int × Int)
  | 0, _, _ => none
  | n + 1, l2_0, y2_10 =>
    bif (ile 0 y2_10) then
      gd (inL l2_0 (iadd .i64 k2_0 y2_10)) (
      gd (inL l2_0 k2_0) (
      gd (inL l2_0 k2_0) (
      gd (inL (lset l2_0 k2_0 (gat 0 l2_0 (iadd .i64 k2_0 y2_10))) (iadd .i64 k2_0 y2_10)) (
      bd (F_slices_siftDownOrdered_int fu (lset (lset l2_0 k2_0 (gat 0 l2_0 (iadd .i64 k2_0 y2_10))) (iadd .i64 k2_0 y2_10) (gat 0 l2_0 k2_0)) 0 y2_10 k2_0) fun r2 =>
      F_slices_heapSortOrdered_int_L2 fu k2_0 n r2 (isub .i64 y2_10 1)))))
    else
      some (l2_0, y2_10)
def F_slices_heapSortOrdered_int_L1 (fu : Nat) (k1_0 : Int) (k1_1 : Int) : Nat → List Int → Int → Option (List Int × Int)
  | 0, _, _ => none
  | n + 1, l1_0, y1_9 =>
    bif (ile 0 y1_9) then
      bd (F_slices_siftDownOrdered_int fu l1_0 y1_9 k1_1 k1_0) fun r1 =>
      F_slices_heapSortOrdered_int_L1 fu k1_0 k1_1 n r1 (isub .i64 y1_9 1)
    else
      some (l1_0, y1_9)
def F_slices_heapSortOrdered_int (fu : Nat) (x0 : List Int) (x1 : Int) (x2 : Int) : Option (List Int) :=
  bd (F_slices_heapSortOrdered_int_L1 fu x1 (isub .i64 x2 x1) fu x0 (iquo .i64 (isub .i64 (isub .i64 x2 x1) 1) 2)) fun s1 =>
  bd (F_slices_heapSortOrdered_int_L2 fu x1 fu s1.1 (isub .i64 (isub .i64 x2 x1) 1)) fun s2 =>
  some s2.1
theorem F_slices_heapSortOrdered_int_w {fu : Nat} {H : AH} {B : Nat → Prop} {v0 : Value} {x0 : List Int} {x1 : Int} {x2 : Int} {r : (List Int)} (hB : Up B H.length) (S0 : Sep H B [flat v0 3 (ints x0)]) (hF : F_slices_heapSortOrdered_int fu x0 x1 x2 = some r) :
    ACallT Try.prog 97 [v0, (Value.int .i64 x1), (Value.int .i64 x2)] H (fun u G => AgB B H G ∧ u = (Value.tuple #[]) ∧ Sep G B [flat v0 3 (ints r)]) := by
  refine ACallT.of_body (nt := 56) (rs := []) Try.func97 rfl rfl rfl rfl ?_
  have A0 : AgB B H H := .refl _ _
  unfold F_slices_heapSortOrdered_int at hF
  refine DWp.seq ?_
  refine DWp.region fun K hK => ?_
  simp [-aBin', -aBin, -aBinI, -aUn, -aNil, -flatV, n_fn, b_add, b_sub, b_mul, b_lt, b_le, b_gt, b_ge, b_eq, b_ne, u_not]
  apply hK
  clear hK K
  simp only [andThen, leaves]
  refine DWp.seq ?_
  refine DWp.region fun K hK => ?_
  simp [-aBin', -aBin, -aBinI, -aUn, -aNil, -flatV, n_fn, b_add, b_sub, b_mul, b_lt, b_le, b_gt, b_ge, b_eq, b_ne, u_not]
  apply hK
  clear hK K
  simp only [andThen, leaves]
  refine DWp.seq ?_
  refine DWp.region fun K hK => ?_
  simp [-aBin', -aBin, -aBinI, -aUn, -aNil, -flatV, n_fn, b_add, b_sub, b_mul, b_lt, b_le, b_gt, b_ge, b_eq, b_ne, u_not]
  apply hK
  clear hK K
  simp only [andThen, leaves]
  refine DWp.seq ?_
  refine DWp.seq ?_
  have g1 : (2 : Int) ≠ 0 := by decide
  refine DWp.region fun K hK => ?_
  simp [-aBin', -aBin, -aBinI, -aUn, -aNil, -flatV, n_fn, b_add, b_sub, b_mul, b_lt, b_le, b_gt, b_ge, b_eq, b_ne, u_not, b_quo g1]
  apply hK
  clear hK K
  simp only [andThen, leaves]
  refine DWp.block ?_
  obtain ⟨s2, hL3, hF⟩ := bd_some hF
  have S4 := S0.pick [0] (by decide) rfl
  refine DWp.loop (fun n env G => ∃ l1_0 : List Int, ∃ y1_9 : Int, F_slices_heapSortOrdered_int_L1 fu x1 (isub .i64 x2 x1) n l1_0 y1_9 = some s2 ∧ Sep G B [flat v0 3 (ints l1_0)] ∧ AgB B H G ∧ env 0 = some v0 ∧ env 6 = some (Value.int .i64 x1) ∧ env 7 = some (Value.int .i64 0) ∧ env 8 = some (Value.int .i64 (isub .i64 x2 x1)) ∧ env 9 = some (Value.int .i64 y1_9)) fu ⟨x0, (iquo .i64 (isub .i64 (isub .i64 x2 x1) 1) 2), hL3, S4, A0, by simp [], by simp [], by simp [], by simp [], by simp []⟩ ?_
  rintro n1 env1 G1_ ⟨l1_0, y1_9, hL3, S1_, A1_, e1_0, e1_6, e1_7, e1_8, e1_9⟩
  cases n1 with
  | zero => cases hL3
  | succ n1 =>
    simp only [F_slices_heapSortOrdered_int_L1] at hL3
    refine DWp.seq ?_
    refine DWp.seq ?_
    refine DWp.region fun K hK => ?_
    simp [-aBin', -aBin, -aBinI, -aUn, -aNil, -flatV, n_fn, b_add, b_sub, b_mul, b_lt, b_le, b_gt, b_ge, b_eq, b_ne, u_not, e1_0, e1_6, e1_7, e1_8, e1_9]
    apply hK
    clear hK K
    simp only [andThen, leaves]
    refine DWp.cond' (t := (ile 0 y1_9)) (by simp [e1_0, e1_6, e1_7, e1_8, e1_9]) (fun hb5 => ?_) (fun hb5 => ?_)
    · replace hL3 := cd_t hb5 hL3
      refine DWp.skip ?_
      simp only [andThen, leaves]
      refine DWp.seq ?_
      refine DWp.block ?_
      obtain ⟨r1, hc6, hL3⟩ := bd_some hL3
      refine DWp.region fun K hK => ?_
      simp [-aBin', -aBin, -aBinI, -aUn, -aNil, -flatV, n_fn, b_add, b_sub, b_mul, b_lt, b_le, b_gt, b_ge, b_eq, b_ne, u_not, e1_0, e1_6, e1_7, e1_8, e1_9, ((S1_.sl (k := 0) rfl).tup)]
      have S7 : Sep G1_ B ([flat v0 3 (ints l1_0)] ++ []) := S1_.pick [0] (by decide) rfl
      obtain ⟨B13, S8, U9, M10, R11, C12⟩ := S7.frame (hB.le A1_.1)
      refine CallD.t (F_slices_siftDownOrdered_int_w (fu := fu) U9 S8 hc6) ?_
      rintro _ G15 ⟨a18, rfl, S19⟩
      have A17 := A1_.trans (a18.mono M10)
      have S16 : Sep G15 B [flat v0 3 (ints r1)] := C12 _ _ a18 S19
      simp [-aBin', -aBin, -aBinI, -aUn, -aNil, -flatV, n_fn, b_add, b_sub, b_mul, b_lt, b_le, b_gt, b_ge, b_eq, b_ne, u_not, e1_0, e1_6, e1_7, e1_8, e1_9]
      apply hK
      clear hK K
      simp only [andThen, leaves]
      refine DWp.region fun K hK => ?_
      simp [-aBin', -aBin, -aBinI, -aUn, -aNil, -flatV, n_fn, b_add, b_sub, b_mul, b_lt, b_le, b_gt, b_ge, b_eq, b_ne, u_not, e1_0, e1_6, e1_7, e1_8, e1_9]
      apply hK
      clear hK K
      simp only [andThen, leaves]
      have S20 := S16.pick [0] (by decide) rfl
      exact ⟨n1, Nat.lt_succ_self _, r1, (isub .i64 y1_9 1), hL3, S20, A17, by simp [e1_0, e1_6, e1_7, e1_8, e1_9], by simp [e1_0, e1_6, e1_7, e1_8, e1_9], by simp [e1_0, e1_6, e1_7, e1_8, e1_9], by simp [e1_0, e1_6, e1_7, e1_8, e1_9], by simp [e1_0, e1_6, e1_7, e1_8, e1_9]⟩
    · replace hL3 := cd_f hb5 hL3
      refine DWp.exit ?_
      simp only [andThen, leaves, if_true, if_false, reduceIte, Nat.reduceEqDiff]
      obtain rfl := Option.some.inj hL3
      try dsimp only at hF
      refine DWp.seq ?_
      refine DWp.region fun K hK => ?_
      simp [-aBin', -aBin, -aBinI, -aUn, -aNil, -flatV, n_fn, b_add, b_sub, b_mul, b_lt, b_le, b_gt, b_ge, b_eq, b_ne, u_not, e1_0, e1_6, e1_7, e1_8, e1_9]
      apply hK
      clear hK K
      simp only [andThen, leaves]
      refine DWp.block ?_
      obtain ⟨s21, hL22, hF⟩ := bd_some hF
      have S23 := S1_.pick [0] (by decide) rfl
      refine DWp.loop (fun n env G => ∃ l2_0 : List Int, ∃ y2_10 : Int, F_slices_heapSortOrdered_int_L2 fu x1 n l2_0 y2_10 = some s21 ∧ Sep G B [flat v0 3 (ints l2_0)] ∧ AgB B H G ∧ env 0 = some v0 ∧ env 6 = some (Value.int .i64 x1) ∧ env 7 = some (Value.int .i64 0) ∧ env 10 = some (Value.int .i64 y2_10)) fu ⟨l1_0, (isub .i64 (isub .i64 x2 x1) 1), hL22, S23, A1_, by simp [e1_0, e1_6, e1_7, e1_8, e1_9], by simp [e1_0, e1_6, e1_7, e1_8, e1_9], by simp [e1_0, e1_6, e1_7, e1_8, e1_9], by simp [e1_0, e1_6, e1_7, e1_8, e1_9]⟩ ?_
      rintro n1 env1 G1_ ⟨l2_0, y2_10, hL22, S1_, A1_, e1_0, e1_6, e1_7, e1_10⟩
      cases n1 with
      | zero => cases hL22
      | succ n1 =>
        simp only [F_slices_heapSortOrdered_int_L2] at hL22
        refine DWp.seq ?_
        refine DWp.seq ?_
        refine DWp.region fun K hK => ?_
        simp [-aBin', -aBin, -aBinI, -aUn, -aNil, -flatV, n_fn, b_add, b_sub, b_mul, b_lt, b_le, b_gt, b_ge, b_eq, b_ne, u_not, e1_0, e1_6, e1_7, e1_10]
        apply hK
        clear hK K
        simp only [andThen, leaves]
        refine DWp.cond' (t := (ile 0 y2_10)) (by simp [e1_0, e1_6, e1_7, e1_10]) (fun hb24 => ?_) (fun hb24 => ?_)
        · replace hL22 := cd_t hb24 hL22
          refine DWp.skip ?_
          simp only [andThen, leaves]
          refine DWp.seq ?_
          refine DWp.block ?_
          refine DWp.seq ?_
          obtain ⟨g25, hL22⟩ := gd_some hL22
          have q26 := idxG (P := Try.prog) (kk := .i64) (S1_.sl (k := 0) rfl) el_22 sz_3 g25
          have q27 := loadG (P := Try.prog) (S1_.sl (k := 0) rfl) sz_3 ag_3 g25 0
          obtain ⟨g28, hL22⟩ := gd_some hL22
          have q29 := idxG (P := Try.prog) (kk := .i64) (S1_.sl (k := 0) rfl) el_22 sz_3 g28
          have q30 := loadG (P := Try.prog) (S1_.sl (k := 0) rfl) sz_3 ag_3 g28 0
          obtain ⟨g31, hL22⟩ := gd_some hL22
          have q32 := idxG (P := Try.prog) (kk := .i64) (S1_.sl (k := 0) rfl) el_22 sz_3 g31
          obtain ⟨G33, q34, S35, a37⟩ := S1_.storeG (f := (Value.int .i64)) (P := Try.prog) (k := 0) (x := (gat 0 l2_0 (iadd .i64 x1 y2_10))) rfl (hB.le A1_.1) sz_3 g31 rfl rfl
          have A36 := A1_.trans a37
          replace S35 : Sep G33 B [flat v0 3 (ints (lset l2_0 x1 (gat 0 l2_0 (iadd .i64 x1 y2_10))))] := S35
          obtain ⟨g38, hL22⟩ := gd_some hL22
          have q39 := idxG (P := Try.prog) (kk := .i64) (S35.sl (k := 0) rfl) el_22 sz_3 g38
          obtain ⟨G40, q41, S42, a44⟩ := S35.storeG (f := (Value.int .i64)) (P := Try.prog) (k := 0) (x := (gat 0 l2_0 x1)) rfl (hB.le A36.1) sz_3 g38 rfl rfl
          have A43 := A36.trans a44
          replace S42 : Sep G40 B [flat v0 3 (ints (lset (lset l2_0 x1 (gat 0 l2_0 (iadd .i64 x1 y2_10))) (iadd .i64 x1 y2_10) (gat 0 l2_0 x1)))] := S42
          refine DWp.drawn (B := [0, 0, 0, 0, 0, 24, 0, 0, 0, 384, 960, 1984, 0, 0, 12288, 28672, 65475, 131011, 262143, 524287]) 17 mixed (by kernel_rfl) (by decide) fun K hK => ?_
          simp [-aBin', -aBin, -aBinI, -aUn, -aNil, -flatV, n_fn, b_add, b_sub, b_mul, b_lt, b_le, b_gt, b_ge, b_eq, b_ne, u_not, e1_0, e1_6, e1_7, e1_10, q26, q27, q29, q30, q32, q34, q39, q41]
          apply hK
          clear hK K
          simp only [andThen, leaves]
          obtain ⟨r2, hc45, hL22⟩ := bd_some hL22
          refine DWp.region fun K hK => ?_
          simp [-aBin', -aBin, -aBinI, -aUn, -aNil, -flatV, n_fn, b_add, b_sub, b_mul, b_lt, b_le, b_gt, b_ge, b_eq, b_ne, u_not, e1_0, e1_6, e1_7, e1_10, ((S42.sl (k := 0) rfl).tup)]
          have S46 : Sep G40 B ([flat v0 3 (ints (lset (lset l2_0 x1 (gat 0 l2_0 (iadd .i64 x1 y2_10))) (iadd .i64 x1 y2_10) (gat 0 l2_0 x1)))] ++ []) := S42.pick [0] (by decide) rfl
          obtain ⟨B52, S47, U48, M49, R50, C51⟩ := S46.frame (hB.le A43.1)
          refine CallD.t (F_slices_siftDownOrdered_int_w (fu := fu) U48 S47 hc45) ?_
          rintro _ G54 ⟨a57, rfl, S58⟩
          have A56 := A43.trans (a57.mono M49)
          have S55 : Sep G54 B [flat v0 3 (ints r2)] := C51 _ _ a57 S58
          simp [-aBin', -aBin, -aBinI, -aUn, -aNil, -flatV, n_fn, b_add, b_sub, b_mul, b_lt, b_le, b_gt, b_ge, b_eq, b_ne, u_not, e1_0, e1_6, e1_7, e1_10]
          apply hK
          clear hK K
          simp only [andThen, leaves]
          refine DWp.region fun K hK => ?_
          simp [-aBin', -aBin, -aBinI, -aUn, -aNil, -flatV, n_fn, b_add, b_sub, b_mul, b_lt, b_le, b_gt, b_ge, b_eq, b_ne, u_not, e1_0, e1_6, e1_7, e1_10]
          apply hK
          clear hK K
          simp only [andThen, leaves]
          have S59 := S55.pick [0] (by decide) rfl
          exact ⟨n1, Nat.lt_succ_self _, r2, (isub .i64 y2_10 1), hL22, S59, A56, by simp [e1_0, e1_6, e1_7, e1_10], by simp [e1_0, e1_6, e1_7, e1_10], by simp [e1_0, e1_6, e1_7, e1_10], by simp [e1_0, e1_6, e1_7, e1_10]⟩
        · replace hL22 := cd_f hb24 hL22
          refine DWp.exit ?_
          simp only [andThen, leaves, if_true, if_false, reduceIte, Nat.reduceEqDiff]
          obtain rfl := Option.some.inj hL22
          try dsimp only at hF
          obtain rfl := Option.some.inj hF
          exact ⟨by simp, [], by simp [e1_0, e1_6, e1_7, e1_10], A1_, rfl, S1_.pick [0] (by decide) rfl⟩
/-! slices.nextPowerOfTwo -/
def F_slices_nextPowerOfTwo (fu : Nat) (x0 : Int) : Option (Int) :=
  bd (F_math_bits_Len fu (iwr .u64 x0)) fun r1 =>
  gd (¬ (r1 < 0)) (
  some (ishl .u64 1 r1))
theorem F_slices_nextPowerOfTwo_w {fu : Nat} {H : AH}  {x0 : Int} {r : (Int)}  (hF : F_slices_nextPowerOfTwo fu x0 = some r) :
    ACallT Try.prog 108 [(Value.int .i64 x0)] H (fun u G => AgB (Fr H) H G ∧ u = (Value.int .u64 r) ∧ Sep G (Fr H) []) := by
  refine ACallT.of_body (nt := 7) (rs := [.tmp 2]) Try.func108 rfl rfl rfl rfl ?_
  have A0 : AgB (Fr H) H H := .refl _ _
  have S0 : Sep H (Fr H) [] := .nil
  have hB := Fr.up H
  unfold F_slices_nextPowerOfTwo at hF
  refine DWp.seq ?_
  refine DWp.region fun K hK => ?_
  simp [-aBin', -aBin, -aBinI, -aUn, -aNil, -flatV, n_fn, b_add, b_sub, b_mul, b_lt, b_le, b_gt, b_ge, b_eq, b_ne, u_not]
  apply hK
  clear hK K
  simp only [andThen, leaves]
  refine DWp.seq ?_
  obtain ⟨r1, hc1, hF⟩ := bd_some hF
  refine DWp.region fun K hK => ?_
  simp [-aBin', -aBin, -aBinI, -aUn, -aNil, -flatV, n_fn, b_add, b_sub, b_mul, b_lt, b_le, b_gt, b_ge, b_eq, b_ne, u_not, c_int un_3 un_94]
  refine CallD.t (F_math_bits_Len_w (fu := fu)  hc1) ?_
  rintro _ G3 ⟨a6, rfl, S7⟩
  have A5 := A0.ext (hB.le A0.1) a6.agree
  have S4 : Sep G3 (Fr H) [] := S0.app a6.agree S7 (fun _ h => h) (hB.le A0.1)
  obtain ⟨g8, hF⟩ := gd_some hF
  simp [-aBin', -aBin, -aBinI, -aUn, -aNil, -flatV, n_fn, b_add, b_sub, b_mul, b_lt, b_le, b_gt, b_ge, b_eq, b_ne, u_not, c_int un_3 un_94, a6.pre, b_shl g8]
  apply hK
  clear hK K
  simp only [andThen, leaves]
  refine DWp.ret ?_
  obtain rfl := Option.some.inj hF
  exact ⟨by simp, [(Value.int .u64 (ishl .u64 1 r1))], by simp [], A5, rfl, S4.pick [] (by decide) rfl⟩
/-! (*slices.xorshift).Next -/
def F_slices_xorshift_Next (fu : Nat) (x0 : Int) : Option (Int × Int) :=
  some ((ixor .u64 (ixor .u64 (ixor .u64 x0 (ishl .u64 x0 13)) (ishr .u64 (ixor .u64 x0 (ishl .u64 x0 13)) 7)) (ishl .u64 (ixor .u64 (ixor .u64 x0 (ishl .u64 x0 13)) (ishr .u64 (ixor .u64 x0 (ishl .u64 x0 13)) 7)) 17)), (ixor .u64 (ixor .u64 (ixor .u64 x0 (ishl .u64 x0 13)) (ishr .u64 (ixor .u64 x0 (ishl .u64 x0 13)) 7)) (ishl .u64 (ixor .u64 (ixor .u64 x0 (ishl .u64 x0 13)) (ishr .u64 (ixor .u64 x0 (ishl .u64 x0 13)) 7)) 17)))
theorem F_slices_xorshift_Next_w {fu : Nat} {H : AH} {B : Nat → Prop} {p0 : Value} {x0 : Int} {r : (Int × Int)} (hB : Up B H.length) (S0 : Sep H B [AL.box p0 [(Value.int .u64 x0)]]) (hF : F_slices_xorshift_Next fu x0 = some r) :
    ACallT Try.prog 109 [p0] H (fun u G => AgB B H G ∧ u = (Value.int .u64 r.1) ∧ Sep G B [AL.box p0 [(Value.int .u64 r.2)]]) := by
  refine ACallT.of_body (nt := 33) (rs := [.tmp 2]) Try.func109 rfl rfl rfl rfl ?_
  have A0 : AgB B H H := .refl _ _
  unfold F_slices_xorshift_Next at hF
  refine DWp.seq ?_
  refine DWp.region fun K hK => ?_
  simp [-aBin', -aBin, -aBinI, -aUn, -aNil, -flatV, n_fn, b_add, b_sub, b_mul, b_lt, b_le, b_gt, b_ge, b_eq, b_ne, u_not]
  apply hK
  clear hK K
  simp only [andThen, leaves]
  refine DWp.seq ?_
  have q1 := S0.nilT (k := 0) rfl
  have q2 := S0.load0 (P := Try.prog) (k := 0) rfl sz_105 ag_105
  have q3 := S0.nilT (k := 0) rfl
  have q4 := S0.load0 (P := Try.prog) (k := 0) rfl sz_105 ag_105
  have g5 : ¬ ((13 : Int) < 0) := by decide
  have q6 := S0.nilT (k := 0) rfl
  obtain ⟨G7, q8, S9, a11⟩ := S0.put0 (P := Try.prog) (k := 0) rfl (hB.le A0.1) sz_105 (rfl : isTup (Value.int .u64 (ixor .u64 x0 (ishl .u64 x0 13))) = false) (rfl : (Value.int .u64 (ixor .u64 x0 (ishl .u64 x0 13))).cells = #[(Value.int .u64 (ixor .u64 x0 (ishl .u64 x0 13)))])
  have A10 := A0.trans a11
  replace S9 : Sep G7 B [AL.box p0 [(Value.int .u64 (ixor .u64 x0 (ishl .u64 x0 13)))]] := S9
  refine DWp.drawn (B := [0, 1, 3, 0, 8, 24, 56, 127, 255, 511]) 9 mixed (by kernel_rfl) (by decide) fun K hK => ?_
  simp [-aBin', -aBin, -aBinI, -aUn, -aNil, -flatV, n_fn, b_add, b_sub, b_mul, b_lt, b_le, b_gt, b_ge, b_eq, b_ne, u_not, q1, q2, q3, q4, b_shl g5, b_xor, q6, q8]
  apply hK
  clear hK K
  simp only [andThen, leaves]
  refine DWp.seq ?_
  have q12 := S9.nilT (k := 0) rfl
  have q13 := S9.load0 (P := Try.prog) (k := 0) rfl sz_105 ag_105
  have q14 := S9.nilT (k := 0) rfl
  have q15 := S9.load0 (P := Try.prog) (k := 0) rfl sz_105 ag_105
  have g16 : ¬ ((7 : Int) < 0) := by decide
  have q17 := S9.nilT (k := 0) rfl
  obtain ⟨G18, q19, S20, a22⟩ := S9.put0 (P := Try.prog) (k := 0) rfl (hB.le A10.1) sz_105 (rfl : isTup (Value.int .u64 (ixor .u64 (ixor .u64 x0 (ishl .u64 x0 13)) (ishr .u64 (ixor .u64 x0 (ishl .u64 x0 13)) 7))) = false) (rfl : (Value.int .u64 (ixor .u64 (ixor .u64 x0 (ishl .u64 x0 13)) (ishr .u64 (ixor .u64 x0 (ishl .u64 x0 13)) 7))).cells = #[(Value.int .u64 (ixor .u64 (ixor .u64 x0 (ishl .u64 x0 13)) (ishr .u64 (ixor .u64 x0 (ishl .u64 x0 13)) 7)))])
  have A21 := A10.trans a22
  replace S20 : Sep G18 B [AL.box p0 [(Value.int .u64 (ixor .u64 (ixor .u64 x0 (ishl .u64 x0 13)) (ishr .u64 (ixor .u64 x0 (ishl .u64 x0 13)) 7)))]] := S20
  refine DWp.drawn (B := [0, 1, 3, 0, 8, 24, 56, 127, 255, 511]) 9 mixed (by kernel_rfl) (by decide) fun K hK => ?_
  simp [-aBin', -aBin, -aBinI, -aUn, -aNil, -flatV, n_fn, b_add, b_sub, b_mul, b_lt, b_le, b_gt, b_ge, b_eq, b_ne, u_not, q12, q13, q14, q15, b_shr g16, b_xor, q17, q19]
  apply hK
  clear hK K
  simp only [andThen, leaves]
  refine DWp.seq ?_
  have q23 := S20.nilT (k := 0) rfl
  have q24 := S20.load0 (P := Try.prog) (k := 0) rfl sz_105 ag_105
  have q25 := S20.nilT (k := 0) rfl
  have q26 := S20.load0 (P := Try.prog) (k := 0) rfl sz_105 ag_105
  have g27 : ¬ ((17 : Int) < 0) := by decide
  have q28 := S20.nilT (k := 0) rfl
  obtain ⟨G29, q30, S31, a33⟩ := S20.put0 (P := Try.prog) (k := 0) rfl (hB.le A21.1) sz_105 (rfl : isTup (Value.int .u64 (ixor .u64 (ixor .u64 (ixor .u64 x0 (ishl .u64 x0 13)) (ishr .u64 (ixor .u64 x0 (ishl .u64 x0 13)) 7)) (ishl .u64 (ixor .u64 (ixor .u64 x0 (ishl .u64 x0 13)) (ishr .u64 (ixor .u64 x0 (ishl .u64 x0 13)) 7)) 17))) = false) (rfl : (Value.int .u64 (ixor .u64 (ixor .u64 (ixor .u64 x0 (ishl .u64 x0 13)) (ishr .u64 (ixor .u64 x0 (ishl .u64 x0 13)) 7)) (ishl .u64 (ixor .u64 (ixor .u64 x0 (ishl .u64 x0 13)) (ishr .u64 (ixor .u64 x0 (ishl .u64 x0 13)) 7)) 17))).cells = #[(Value.int .u64 (ixor .u64 (ixor .u64 (ixor .u64 x0 (ishl .u64 x0 13)) (ishr .u64 (ixor .u64 x0 (ishl .u64 x0 13)) 7)) (ishl .u64 (ixor .u64 (ixor .u64 x0 (ishl .u64 x0 13)) (ishr .u64 (ixor .u64 x0 (ishl .u64 x0 13)) 7)) 17)))])
  have A32 := A21.trans a33
  replace S31 : Sep G29 B [AL.box p0 [(Value.int .u64 (ixor .u64 (ixor .u64 (ixor .u64 x0 (ishl .u64 x0 13)) (ishr .u64 (ixor .u64 x0 (ishl .u64 x0 13)) 7)) (ishl .u64 (ixor .u64 (ixor .u64 x0 (ishl .u64 x0 13)) (ishr .u64 (ixor .u64 x0 (ishl .u64 x0 13)) 7)) 17)))]] := S31
  refine DWp.drawn (B := [0, 1, 3, 0, 8, 24, 56, 127, 255, 511]) 9 mixed (by kernel_rfl) (by decide) fun K hK => ?_
  simp [-aBin', -aBin, -aBinI, -aUn, -aNil, -flatV, n_fn, b_add, b_sub, b_mul, b_lt, b_le, b_gt, b_ge, b_eq, b_ne, u_not, q23, q24, q25, q26, b_shl g27, b_xor, q28, q30]
  apply hK
  clear hK K
  simp only [andThen, leaves]
  refine DWp.seq ?_
  have q34 := S31.nilT (k := 0) rfl
  have q35 := S31.load0 (P := Try.prog) (k := 0) rfl sz_105 ag_105
  refine DWp.region fun K hK => ?_
  simp [-aBin', -aBin, -aBinI, -aUn, -aNil, -flatV, n_fn, b_add, b_sub, b_mul, b_lt, b_le, b_gt, b_ge, b_eq, b_ne, u_not, q34, q35]
  apply hK
  clear hK K
  simp only [andThen, leaves]
  refine DWp.ret ?_
  obtain rfl := Option.some.inj hF
  exact ⟨by simp, [(Value.int .u64 (ixor .u64 (ixor .u64 (ixor .u64 x0 (ishl .u64 x0 13)) (ishr .u64 (ixor .u64 x0 (ishl .u64 x0 13)) 7)) (ishl .u64 (ixor .u64 (ixor .u64 x0 (ishl .u64 x0 13)) (ishr .u64 (ixor .u64 x0 (ishl .u64 x0 13)) 7)) 17)))], by simp [], A32, rfl, S31.pick [0] (by decide) rfl⟩
/-! slices.breakPatternsOrdered[int] -/
def F_slices_breakPatternsOrdered_int_L1 (fu : Nat) (k1_0 : Int) (k1_1 : Int) (k1_2 : Int) : Nat → List Int → Int → Int → Option (List Int × Int × Int)
  | 0, _, _, _ => none
  | n + 1, l1_0, b1_1_0, y1_9 =>
    bif (ile y1_9 (iadd .i64 (iadd .i64 k1_0 (imul .i64 (iquo .i64 k1_1 4) 2)) 1)) then
      bd (F_slices_xorshift_Next fu b1_1_0) fun r2 =>
      bif (ile k1_1 (iwr .i64 (iand .u64 r2.1 (isub .u64 k1_2 1)))) then
        gd (inL l1_0 (iadd .i64 k1_0 (isub .i64 (iwr .i64 (iand .u64 r2.1 (isub .u64 k1_2 1))) k1_1))) (
        gd (inL l1_0 y1_9) (
        gd (inL l1_0 y1_9) (
        gd (inL (lset l1_0 y1_9 (gat 0 l1_0 (iadd .i64 k1_0 (isub .i64 (iwr .i64 (iand .u64 r2.1 (isub .u64 k1_2 1))) k1_1)))) (iadd .i64 k1_0 (isub .i64 (iwr .i64 (iand .u64 r2.1 (isub .u64 k1_2 1))) k1_1))) (
        F_slices_breakPatternsOrdered_int_L1 fu k1_0 k1_1 k1_2 n (lset (lset l1_0 y1_9 (gat 0 l1_0 (iadd .i64 k1_0 (isub .i64 (iwr .i64 (iand .u64 r2.1 (isub .u64 k1_2 1))) k1_1)))) (iadd .i64 k1_0 (isub .i64 (iwr .i64 (iand .u64 r2.1 (isub .u64 k1_2 1))) k1_1)) (gat 0 l1_0 y1_9)) r2.2 (iadd .i64 y1_9 1)))))
      else
        gd (inL l1_0 (iadd .i64 k1_0 (iwr .i64 (iand .u64 r2.1 (isub .u64 k1_2 1))))) (
        gd (inL l1_0 y1_9) (
        gd (inL l1_0 y1_9) (
        gd (inL (lset l1_0 y1_9 (gat 0 l1_0 (iadd .i64 k1_0 (iwr .i64 (iand .u64 r2.1 (isub .u64 k1_2 1)))))) (iadd .i64 k1_0 (iwr .i64 (iand .u64 r2.1 (isub .u64 k1_2 1))))) (
        F_slices_breakPatternsOrdered_int_L1 fu k1_0 k1_1 k1_2 n (lset (lset l1_0 y1_9 (gat 0 l1_0 (iadd .i64 k1_0 (iwr .i64 (iand .u64 r2.1 (isub .u64 k1_2 1)))))) (iadd .i64 k1_0 (iwr .i64 (iand .u64 r2.1 (isub .u64 k1_2 1)))) (gat 0 l1_0 y1_9)) r2.2 (iadd .i64 y1_9 1)))))
    else
      some (l1_0, b1_1_0, y1_9)
def F_slices_breakPatternsOrdered_int (fu : Nat) (x0 : List Int) (x1 : Int) (x2 : Int) : Option (List Int) :=
  bif (ile 8 (isub .i64 x2 x1)) then
    bd (F_slices_nextPowerOfTwo fu (isub .i64 x2 x1)) fun r1 =>
    bd (F_slices_breakPatternsOrdered_int_L1 fu x1 (isub .i64 x2 x1) r1 fu x0 (iwr .u64 (isub .i64 x2 x1)) (isub .i64 (iadd .i64 x1 (imul .i64 (iquo .i64 (isub .i64 x2 x1) 4) 2)) 1)) fun s1 =>
    some s1.1
  else
    some x0
theorem F_slices_breakPatternsOrdered_int_w {fu : Nat} {H : AH} {B : Nat → Prop} {v0 : Value} {x0 : List Int} {x1 : Int} {x2 : Int} {r : (List Int)} (hB : Up B H.length) (S0 : Sep H B [flat v0 3 (ints x0)]) (hF : F_slices_breakPatternsOrdered_int fu x0 x1 x2 = some r) :
    ACallT Try.prog 98 [v0, (Value.int .i64 x1), (Value.int .i64 x2)] H (fun u G => AgB B H G ∧ u = (Value.tuple #[]) ∧ Sep G B [flat v0 3 (ints r)]) := by
  refine ACallT.of_body (nt := 65) (rs := []) Try.func98 rfl rfl rfl rfl ?_
  have A0 : AgB B H H := .refl _ _
  unfold F_slices_breakPatternsOrdered_int at hF
  refine DWp.seq ?_
  refine DWp.region fun K hK => ?_
  simp [-aBin', -aBin, -aBinI, -aUn, -aNil, -flatV, n_fn, b_add, b_sub, b_mul, b_lt, b_le, b_gt, b_ge, b_eq, b_ne, u_not]
  apply hK
  clear hK K
  simp only [andThen, leaves]
  refine DWp.seq ?_
  refine DWp.region fun K hK => ?_
  simp [-aBin', -aBin, -aBinI, -aUn, -aNil, -flatV, n_fn, b_add, b_sub, b_mul, b_lt, b_le, b_gt, b_ge, b_eq, b_ne, u_not]
  apply hK
  clear hK K
  simp only [andThen, leaves]
  refine DWp.cond' (t := (ile 8 (isub .i64 x2 x1))) (by simp []) (fun hb1 => ?_) (fun hb1 => ?_)
  · replace hF := cd_t hb1 hF
    refine DWp.seq ?_
    obtain ⟨G3, p5, q6, q8, a7, S2⟩ := S0.allocT (P := Try.prog) (hB.le A0.1) ze_105 rfl
    have A4 := A0.ext (hB.le A0.1) a7
    replace S2 : Sep G3 B [flat v0 3 (ints x0), AL.box p5 [(Value.int .u64 0)]] := S2
    obtain ⟨G9, q10, S11, a13⟩ := S2.put0 (P := Try.prog) (k := 1) rfl (hB.le A4.1) sz_105 (rfl : isTup (Value.int .u64 (iwr .u64 (isub .i64 x2 x1))) = false) (rfl : (Value.int .u64 (iwr .u64 (isub .i64 x2 x1))).cells = #[(Value.int .u64 (iwr .u64 (isub .i64 x2 x1)))])
    have A12 := A4.trans a13
    replace S11 : Sep G9 B [flat v0 3 (ints x0), AL.box p5 [(Value.int .u64 (iwr .u64 (isub .i64 x2 x1)))]] := S11
    refine DWp.region fun K hK => ?_
    simp [-aBin', -aBin, -aBinI, -aUn, -aNil, -flatV, n_fn, b_add, b_sub, b_mul, b_lt, b_le, b_gt, b_ge, b_eq, b_ne, u_not, c_int un_3 un_105, q6, q8, a7.to_pre, q10]
    apply hK
    clear hK K
    simp only [andThen, leaves]
    refine DWp.seq ?_
    obtain ⟨r1, hc14, hF⟩ := bd_some hF
    refine DWp.region fun K hK => ?_
    simp [-aBin', -aBin, -aBinI, -aUn, -aNil, -flatV, n_fn, b_add, b_sub, b_mul, b_lt, b_le, b_gt, b_ge, b_eq, b_ne, u_not]
    refine CallD.t (F_slices_nextPowerOfTwo_w (fu := fu)  hc14) ?_
    rintro _ G16 ⟨a19, rfl, S20⟩
    have A18 := A12.ext (hB.le A12.1) a19.agree
    have S17 : Sep G16 B [flat v0 3 (ints x0), AL.box p5 [(Value.int .u64 (iwr .u64 (isub .i64 x2 x1)))]] := S11.app a19.agree S20 (fun _ h => h) (hB.le A12.1)
    simp [-aBin', -aBin, -aBinI, -aUn, -aNil, -flatV, n_fn, b_add, b_sub, b_mul, b_lt, b_le, b_gt, b_ge, b_eq, b_ne, u_not, a19.pre]
    apply hK
    clear hK K
    simp only [andThen, leaves]
    refine DWp.seq ?_
    have g21 : (4 : Int) ≠ 0 := by decide
    refine DWp.region fun K hK => ?_
    simp [-aBin', -aBin, -aBinI, -aUn, -aNil, -flatV, n_fn, b_add, b_sub, b_mul, b_lt, b_le, b_gt, b_ge, b_eq, b_ne, u_not, b_quo g21]
    apply hK
    clear hK K
    simp only [andThen, leaves]
    refine DWp.block ?_
    obtain ⟨s22, hL23, hF⟩ := bd_some hF
    have S24 := S17.pick [0, 1] (by decide) rfl
    refine DWp.loop (fun n env G => ∃ l1_0 : List Int, ∃ b1_1_0 : Int, ∃ y1_9 : Int, F_slices_breakPatternsOrdered_int_L1 fu x1 (isub .i64 x2 x1) r1 n l1_0 b1_1_0 y1_9 = some s22 ∧ Sep G B [flat v0 3 (ints l1_0), AL.box p5 [(Value.int .u64 b1_1_0)]] ∧ AgB B H G ∧ env 0 = some v0 ∧ env 1 = some (Value.int .i64 x1) ∧ env 6 = some (Value.int .i64 (isub .i64 x2 x1)) ∧ env 7 = some p5 ∧ env 8 = some (Value.int .u64 r1) ∧ env 9 = some (Value.int .i64 y1_9)) fu ⟨x0, (iwr .u64 (isub .i64 x2 x1)), (isub .i64 (iadd .i64 x1 (imul .i64 (iquo .i64 (isub .i64 x2 x1) 4) 2)) 1), hL23, S24, A18, by simp [], by simp [], by simp [], by simp [], by simp [], by simp []⟩ ?_
    rintro n1 env1 G1_ ⟨l1_0, b1_1_0, y1_9, hL23, S1_, A1_, e1_0, e1_1, e1_6, e1_7, e1_8, e1_9⟩
    cases n1 with
    | zero => cases hL23
    | succ n1 =>
      simp only [F_slices_breakPatternsOrdered_int_L1] at hL23
      refine DWp.seq ?_
      refine DWp.seq ?_
      have g25 : (4 : Int) ≠ 0 := by decide
      refine DWp.region fun K hK => ?_
      simp [-aBin', -aBin, -aBinI, -aUn, -aNil, -flatV, n_fn, b_add, b_sub, b_mul, b_lt, b_le, b_gt, b_ge, b_eq, b_ne, u_not, e1_0, e1_1, e1_6, e1_7, e1_8, e1_9, b_quo g25]
      apply hK
      clear hK K
      simp only [andThen, leaves]
      refine DWp.cond' (t := (ile y1_9 (iadd .i64 (iadd .i64 x1 (imul .i64 (iquo .i64 (isub .i64 x2 x1) 4) 2)) 1))) (by simp [e1_0, e1_1, e1_6, e1_7, e1_8, e1_9]) (fun hb26 => ?_) (fun hb26 => ?_)
      · replace hL23 := cd_t hb26 hL23
        refine DWp.skip ?_
        simp only [andThen, leaves]
        refine DWp.seq ?_
        refine DWp.block ?_
        refine DWp.seq ?_
        obtain ⟨r2, hc27, hL23⟩ := bd_some hL23
        refine DWp.region fun K hK => ?_
        simp [-aBin', -aBin, -aBinI, -aUn, -aNil, -flatV, n_fn, b_add, b_sub, b_mul, b_lt, b_le, b_gt, b_ge, b_eq, b_ne, u_not, e1_0, e1_1, e1_6, e1_7, e1_8, e1_9, (S1_.ptup (k := 1) rfl)]
        have S28 : Sep G1_ B ([AL.box p5 [(Value.int .u64 b1_1_0)]] ++ [flat v0 3 (ints l1_0)]) := S1_.pick [1, 0] (by decide) rfl
        obtain ⟨B34, S29, U30, M31, R32, C33⟩ := S28.frame (hB.le A1_.1)
        refine CallD.t (F_slices_xorshift_Next_w (fu := fu) U30 S29 hc27) ?_
        rintro _ G36 ⟨a39, rfl, S40⟩
        have A38 := A1_.trans (a39.mono M31)
        have S37 : Sep G36 B [AL.box p5 [(Value.int .u64 r2.2)], flat v0 3 (ints l1_0)] := C33 _ _ a39 S40
        simp [-aBin', -aBin, -aBinI, -aUn, -aNil, -flatV, n_fn, b_add, b_sub, b_mul, b_lt, b_le, b_gt, b_ge, b_eq, b_ne, u_not, e1_0, e1_1, e1_6, e1_7, e1_8, e1_9, b_and, c_int un_94 un_3]
        apply hK
        clear hK K
        simp only [andThen, leaves]
        refine DWp.seq ?_
        refine DWp.seq ?_
        refine DWp.region fun K hK => ?_
        simp [-aBin', -aBin, -aBinI, -aUn, -aNil, -flatV, n_fn, b_add, b_sub, b_mul, b_lt, b_le, b_gt, b_ge, b_eq, b_ne, u_not, e1_0, e1_1, e1_6, e1_7, e1_8, e1_9]
        apply hK
        clear hK K
        simp only [andThen, leaves]
        refine DWp.cond' (t := (ile (isub .i64 x2 x1) (iwr .i64 (iand .u64 r2.1 (isub .u64 r1 1))))) (by simp [e1_0, e1_1, e1_6, e1_7, e1_8, e1_9]) (fun hb41 => ?_) (fun hb41 => ?_)
        · replace hL23 := cd_t hb41 hL23
          refine DWp.region fun K hK => ?_
          simp [-aBin', -aBin, -aBinI, -aUn, -aNil, -flatV, n_fn, b_add, b_sub, b_mul, b_lt, b_le, b_gt, b_ge, b_eq, b_ne, u_not, e1_0, e1_1, e1_6, e1_7, e1_8, e1_9]
          apply hK
          clear hK K
          simp only [andThen, leaves]
          obtain ⟨g42, hL23⟩ := gd_some hL23
          have q43 := idxG (P := Try.prog) (kk := .i64) (S37.sl (k := 1) rfl) el_22 sz_3 g42
          have q44 := loadG (P := Try.prog) (S37.sl (k := 1) rfl) sz_3 ag_3 g42 0
          obtain ⟨g45, hL23⟩ := gd_some hL23
          have q46 := idxG (P := Try.prog) (kk := .i64) (S37.sl (k := 1) rfl) el_22 sz_3 g45
          have q47 := loadG (P := Try.prog) (S37.sl (k := 1) rfl) sz_3 ag_3 g45 0
          obtain ⟨g48, hL23⟩ := gd_some hL23
          have q49 := idxG (P := Try.prog) (kk := .i64) (S37.sl (k := 1) rfl) el_22 sz_3 g48
          obtain ⟨G50, q51, S52, a54⟩ := S37.storeG (f := (Value.int .i64)) (P := Try.prog) (k := 1) (x := (gat 0 l1_0 (iadd .i64 x1 (isub .i64 (iwr .i64 (iand .u64 r2.1 (isub .u64 r1 1))) (isub .i64 x2 x1))))) rfl (hB.le A38.1) sz_3 g48 rfl rfl
          have A53 := A38.trans a54
          replace S52 : Sep G50 B [AL.box p5 [(Value.int .u64 r2.2)], flat v0 3 (ints (lset l1_0 y1_9 (gat 0 l1_0 (iadd .i64 x1 (isub .i64 (iwr .i64 (iand .u64 r2.1 (isub .u64 r1 1))) (isub .i64 x2 x1))))))] := S52
          obtain ⟨g55, hL23⟩ := gd_some hL23
          have q56 := idxG (P := Try.prog) (kk := .i64) (S52.sl (k := 1) rfl) el_22 sz_3 g55
          obtain ⟨G57, q58, S59, a61⟩ := S52.storeG (f := (Value.int .i64)) (P := Try.prog) (k := 1) (x := (gat 0 l1_0 y1_9)) rfl (hB.le A53.1) sz_3 g55 rfl rfl
          have A60 := A53.trans a61
          replace S59 : Sep G57 B [AL.box p5 [(Value.int .u64 r2.2)], flat v0 3 (ints (lset (lset l1_0 y1_9 (gat 0 l1_0 (iadd .i64 x1 (isub .i64 (iwr .i64 (iand .u64 r2.1 (isub .u64 r1 1))) (isub .i64 x2 x1))))) (iadd .i64 x1 (isub .i64 (iwr .i64 (iand .u64 r2.1 (isub .u64 r1 1))) (isub .i64 x2 x1))) (gat 0 l1_0 y1_9)))] := S59
          refine DWp.drawn (B := [0, 0, 0, 0, 0, 24, 0, 0, 0, 384, 960, 1984, 0, 0, 12288, 28672, 65475, 131011, 262143, 524287]) 17 mixed (by kernel_rfl) (by decide) fun K hK => ?_
          simp [-aBin', -aBin, -aBinI, -aUn, -aNil, -flatV, n_fn, b_add, b_sub, b_mul, b_lt, b_le, b_gt, b_ge, b_eq, b_ne, u_not, e1_0, e1_1, e1_6, e1_7, e1_8, e1_9, q43, q44, q46, q47, q49, q51, q56, q58]
          apply hK
          clear hK K
          simp only [andThen, leaves]
          refine DWp.region fun K hK => ?_
          simp [-aBin', -aBin, -aBinI, -aUn, -aNil, -flatV, n_fn, b_add, b_sub, b_mul, b_lt, b_le, b_gt, b_ge, b_eq, b_ne, u_not, e1_0, e1_1, e1_6, e1_7, e1_8, e1_9]
          apply hK
          clear hK K
          simp only [andThen, leaves]
          have S62 := S59.pick [1, 0] (by decide) rfl
          exact ⟨n1, Nat.lt_succ_self _, (lset (lset l1_0 y1_9 (gat 0 l1_0 (iadd .i64 x1 (isub .i64 (iwr .i64 (iand .u64 r2.1 (isub .u64 r1 1))) (isub .i64 x2 x1))))) (iadd .i64 x1 (isub .i64 (iwr .i64 (iand .u64 r2.1 (isub .u64 r1 1))) (isub .i64 x2 x1))) (gat 0 l1_0 y1_9)), r2.2, (iadd .i64 y1_9 1), hL23, S62, A60, by simp [e1_0, e1_1, e1_6, e1_7, e1_8, e1_9], by simp [e1_0, e1_1, e1_6, e1_7, e1_8, e1_9], by simp [e1_0, e1_1, e1_6, e1_7, e1_8, e1_9], by simp [e1_0, e1_1, e1_6, e1_7, e1_8, e1_9], by simp [e1_0, e1_1, e1_6, e1_7, e1_8, e1_9], by simp [e1_0, e1_1, e1_6, e1_7, e1_8, e1_9]⟩
        · replace hL23 := cd_f hb41 hL23
          refine DWp.skip ?_
          simp only [andThen, leaves]
          obtain ⟨g63, hL23⟩ := gd_some hL23
          have q64 := idxG (P := Try.prog) (kk := .i64) (S37.sl (k := 1) rfl) el_22 sz_3 g63
          have q65 := loadG (P := Try.prog) (S37.sl (k := 1) rfl) sz_3 ag_3 g63 0
          obtain ⟨g66, hL23⟩ := gd_some hL23
          have q67 := idxG (P := Try.prog) (kk := .i64) (S37.sl (k := 1) rfl) el_22 sz_3 g66
          have q68 := loadG (P := Try.prog) (S37.sl (k := 1) rfl) sz_3 ag_3 g66 0
          obtain ⟨g69, hL23⟩ := gd_some hL23
          have q70 := idxG (P := Try.prog) (kk := .i64) (S37.sl (k := 1) rfl) el_22 sz_3 g69
          obtain ⟨G71, q72, S73, a75⟩ := S37.storeG (f := (Value.int .i64)) (P := Try.prog) (k := 1) (x := (gat 0 l1_0 (iadd .i64 x1 (iwr .i64 (iand .u64 r2.1 (isub .u64 r1 1)))))) rfl (hB.le A38.1) sz_3 g69 rfl rfl
          have A74 := A38.trans a75
          replace S73 : Sep G71 B [AL.box p5 [(Value.int .u64 r2.2)], flat v0 3 (ints (lset l1_0 y1_9 (gat 0 l1_0 (iadd .i64 x1 (iwr .i64 (iand .u64 r2.1 (isub .u64 r1 1)))))))] := S73
          obtain ⟨g76, hL23⟩ := gd_some hL23
          have q77 := idxG (P := Try.prog) (kk := .i64) (S73.sl (k := 1) rfl) el_22 sz_3 g76
          obtain ⟨G78, q79, S80, a82⟩ := S73.storeG (f := (Value.int .i64)) (P := Try.prog) (k := 1) (x := (gat 0 l1_0 y1_9)) rfl (hB.le A74.1) sz_3 g76 rfl rfl
          have A81 := A74.trans a82
          replace S80 : Sep G78 B [AL.box p5 [(Value.int .u64 r2.2)], flat v0 3 (ints (lset (lset l1_0 y1_9 (gat 0 l1_0 (iadd .i64 x1 (iwr .i64 (iand .u64 r2.1 (isub .u64 r1 1)))))) (iadd .i64 x1 (iwr .i64 (iand .u64 r2.1 (isub .u64 r1 1)))) (gat 0 l1_0 y1_9)))] := S80
          refine DWp.drawn (B := [0, 0, 0, 0, 0, 24, 0, 0, 0, 384, 960, 1984, 0, 0, 12288, 28672, 65475, 131011, 262143, 524287]) 17 mixed (by kernel_rfl) (by decide) fun K hK => ?_
          simp [-aBin', -aBin, -aBinI, -aUn, -aNil, -flatV, n_fn, b_add, b_sub, b_mul, b_lt, b_le, b_gt, b_ge, b_eq, b_ne, u_not, e1_0, e1_1, e1_6, e1_7, e1_8, e1_9, q64, q65, q67, q68, q70, q72, q77, q79]
          apply hK
          clear hK K
          simp only [andThen, leaves]
          refine DWp.region fun K hK => ?_
          simp [-aBin', -aBin, -aBinI, -aUn, -aNil, -flatV, n_fn, b_add, b_sub, b_mul, b_lt, b_le, b_gt, b_ge, b_eq, b_ne, u_not, e1_0, e1_1, e1_6, e1_7, e1_8, e1_9]
          apply hK
          clear hK K
          simp only [andThen, leaves]
          have S83 := S80.pick [1, 0] (by decide) rfl
          exact ⟨n1, Nat.lt_succ_self _, (lset (lset l1_0 y1_9 (gat 0 l1_0 (iadd .i64 x1 (iwr .i64 (iand .u64 r2.1 (isub .u64 r1 1)))))) (iadd .i64 x1 (iwr .i64 (iand .u64 r2.1 (isub .u64 r1 1)))) (gat 0 l1_0 y1_9)), r2.2, (iadd .i64 y1_9 1), hL23, S83, A81, by simp [e1_0, e1_1, e1_6, e1_7, e1_8, e1_9], by simp [e1_0, e1_1, e1_6, e1_7, e1_8, e1_9], by simp [e1_0, e1_1, e1_6, e1_7, e1_8, e1_9], by simp [e1_0, e1_1, e1_6, e1_7, e1_8, e1_9], by simp [e1_0, e1_1, e1_6, e1_7, e1_8, e1_9], by simp [e1_0, e1_1, e1_6, e1_7, e1_8, e1_9]⟩
      · replace hL23 := cd_f hb26 hL23
        refine DWp.exit ?_
        simp only [andThen, leaves, if_true, if_false, reduceIte, Nat.reduceEqDiff]
        obtain rfl := Option.some.inj hL23
        try dsimp only at hF
        obtain rfl := Option.some.inj hF
        exact ⟨by simp, [], by simp [e1_0, e1_1, e1_6, e1_7, e1_8, e1_9], A1_, rfl, S1_.pick [0] (by decide) rfl⟩
  · replace hF := cd_f hb1 hF
    refine DWp.skip ?_
    obtain rfl := Option.some.inj hF
    exact ⟨by simp, [], by simp [], A0, rfl, S0.pick [0] (by decide) rfl⟩
/-! slices.order2Ordered[int] -/
def F_slices_order2Ordered_int (fu : Nat) (x0 : List Int) (x1 : Int) (x2 : Int) (x3 : Int) : Option (Int × Int × Int) :=
  gd (inL x0 x2) (
  gd (inL x0 x1) (
  bd (F_cmp_Less_int fu (gat 0 x0 x2) (gat 0 x0 x1)) fun r1 =>
  bif r1 then
    some (x2, x1, (iadd .i64 x3 1))
  else
    some (x1, x2, x3)))
theorem F_slices_order2Ordered_int_w {fu : Nat} {H : AH} {B : Nat → Prop} {v0 : Value} {p3 : Value} {x0 : List Int} {x1 : Int} {x2 : Int} {x3 : Int} {r : (Int × Int × Int)} (hB : Up B H.length) (S0 : Sep H B [AL.box p3 [(Value.int .i64 x3)]]) (hx0 : Sl H v0 (ints x0)) (hdx0 : ∀ i, idOf v0 = some i → ¬ B i) (hF : F_slices_order2Ordered_int fu x0 x1 x2 x3 = some r) :
    ACallT Try.prog 113 [v0, (Value.int .i64 x1), (Value.int .i64 x2), p3] H (fun u G => AgB B H G ∧ u = (Value.tuple #[(Value.int .i64 r.1), (Value.int .i64 r.2.1)]) ∧ Sep G B [AL.box p3 [(Value.int .i64 r.2.2)]]) := by
  refine ACallT.of_body (nt := 28) (rs := [.tmp 8, .tmp 9]) Try.func113 rfl rfl rfl rfl ?_
  have A0 : AgB B H H := .refl _ _
  unfold F_slices_order2Ordered_int at hF
  refine DWp.seq ?_
  refine DWp.region fun K hK => ?_
  simp [-aBin', -aBin, -aBinI, -aUn, -aNil, -flatV, n_fn, b_add, b_sub, b_mul, b_lt, b_le, b_gt, b_ge, b_eq, b_ne, u_not]
  apply hK
  clear hK K
  simp only [andThen, leaves]
  refine DWp.seq ?_
  refine DWp.seq ?_
  obtain ⟨g1, hF⟩ := gd_some hF
  have q2 := idxG (P := Try.prog) (kk := .i64) (hx0.agr A0 hdx0) el_22 sz_3 g1
  have q3 := loadG (P := Try.prog) (hx0.agr A0 hdx0) sz_3 ag_3 g1 0
  obtain ⟨g4, hF⟩ := gd_some hF
  have q5 := idxG (P := Try.prog) (kk := .i64) (hx0.agr A0 hdx0) el_22 sz_3 g4
  have q6 := loadG (P := Try.prog) (hx0.agr A0 hdx0) sz_3 ag_3 g4 0
  obtain ⟨r1, hc7, hF⟩ := bd_some hF
  refine DWp.drawn (B := [0, 0, 3, 7, 0, 0, 48, 112, 255]) 9 mixed (by kernel_rfl) (by decide) fun K hK => ?_
  simp [-aBin', -aBin, -aBinI, -aUn, -aNil, -flatV, n_fn, b_add, b_sub, b_mul, b_lt, b_le, b_gt, b_ge, b_eq, b_ne, u_not, q2, q3, q5, q6]
  refine CallD.t (F_cmp_Less_int_w (fu := fu)  hc7) ?_
  rintro _ G9 ⟨a12, rfl, S13⟩
  have A11 := A0.ext (hB.le A0.1) a12.agree
  have S10 : Sep G9 B [AL.box p3 [(Value.int .i64 x3)]] := S0.app a12.agree S13 (fun _ h => h) (hB.le A0.1)
  simp [-aBin', -aBin, -aBinI, -aUn, -aNil, -flatV, n_fn, b_add, b_sub, b_mul, b_lt, b_le, b_gt, b_ge, b_eq, b_ne, u_not, q2, q3, q5, q6, a12.pre]
  apply hK
  clear hK K
  simp only [andThen, leaves]
  refine DWp.cond' (t := r1) (by simp []) (fun hb14 => ?_) (fun hb14 => ?_)
  · replace hF := cd_t hb14 hF
    refine DWp.seq ?_
    have q15 := S10.nilT (k := 0) rfl
    have q16 := S10.load0 (P := Try.prog) (k := 0) rfl sz_3 ag_3
    have q17 := S10.nilT (k := 0) rfl
    obtain ⟨G18, q19, S20, a22⟩ := S10.put0 (P := Try.prog) (k := 0) rfl (hB.le A11.1) sz_3 (rfl : isTup (Value.int .i64 (iadd .i64 x3 1)) = false) (rfl : (Value.int .i64 (iadd .i64 x3 1)).cells = #[(Value.int .i64 (iadd .i64 x3 1))])
    have A21 := A11.trans a22
    replace S20 : Sep G18 B [AL.box p3 [(Value.int .i64 (iadd .i64 x3 1))]] := S20
    refine DWp.region fun K hK => ?_
    simp [-aBin', -aBin, -aBinI, -aUn, -aNil, -flatV, n_fn, b_add, b_sub, b_mul, b_lt, b_le, b_gt, b_ge, b_eq, b_ne, u_not, q15, q16, q17, q19]
    apply hK
    clear hK K
    simp only [andThen, leaves]
    refine DWp.seq ?_
    refine DWp.region fun K hK => ?_
    simp [-aBin', -aBin, -aBinI, -aUn, -aNil, -flatV, n_fn, b_add, b_sub, b_mul, b_lt, b_le, b_gt, b_ge, b_eq, b_ne, u_not]
    apply hK
    clear hK K
    simp only [andThen, leaves]
    refine DWp.ret ?_
    simp only [andThen, leaves]
    obtain rfl := Option.some.inj hF
    exact ⟨by simp, [(Value.int .i64 x2), (Value.int .i64 x1)], by simp [], A21, rfl, S20.pick [0] (by decide) rfl⟩
  · replace hF := cd_f hb14 hF
    refine DWp.skip ?_
    simp only [andThen, leaves]
    refine DWp.seq ?_
    refine DWp.region fun K hK => ?_
    simp [-aBin', -aBin, -aBinI, -aUn, -aNil, -flatV, n_fn, b_add, b_sub, b_mul, b_lt, b_le, b_gt, b_ge, b_eq, b_ne, u_not]
    apply hK
    clear hK K
    simp only [andThen, leaves]
    refine DWp.ret ?_
    obtain rfl := Option.some.inj hF
    exact ⟨by simp, [(Value.int .i64 x1), (Value.int .i64 x2)], by simp [], A11, rfl, S10.pick [0] (by decide) rfl⟩
/-! slices.medianOrdered[int] -/
def F_slices_medianOrdered_int (fu : Nat) (x0 : List Int) (x1 : Int) (x2 : Int) (x3 : Int) (x4 : Int) : Option (Int × Int) :=
  bd (F_slices_order2Ordered_int fu x0 x1 x2 x4) fun r1 =>
  bd (F_slices_order2Ordered_int fu x0 r1.2.1 x3 r1.2.2) fun r2 =>
  bd (F_slices_order2Ordered_int fu x0 r1.1 r2.1 r2.2.2) fun r3 =>
  some (r3.2.1, r3.2.2)
theorem F_slices_medianOrdered_int_w {fu : Nat} {H : AH} {B : Nat → Prop} {v0 : Value} {p4 : Value} {x0 : List Int} {x1 : Int} {x2 : Int} {x3 : Int} {x4 : Int} {r : (Int × Int)} (hB : Up B H.length) (S0 : Sep H B [AL.box p4 [(Value.int .i64 x4)]]) (hx0 : Sl H v0 (ints x0)) (hdx0 : ∀ i, idOf v0 = some i → ¬ B i) (hF : F_slices_medianOrdered_int fu x0 x1 x2 x3 x4 = some r) :
    ACallT Try.prog 111 [v0, (Value.int .i64 x1), (Value.int .i64 x2), (Value.int .i64 x3), p4] H (fun u G => AgB B H G ∧ u = (Value.int .i64 r.1) ∧ Sep G B [AL.box p4 [(Value.int .i64 r.2)]]) := by
  refine ACallT.of_body (nt := 36) (rs := [.tmp 10]) Try.func111 rfl rfl rfl rfl ?_
  have A0 : AgB B H H := .refl _ _
  unfold F_slices_medianOrdered_int at hF
  refine DWp.seq ?_
  refine DWp.region fun K hK => ?_
  simp [-aBin', -aBin, -aBinI, -aUn, -aNil, -flatV, n_fn, b_add, b_sub, b_mul, b_lt, b_le, b_gt, b_ge, b_eq, b_ne, u_not]
  apply hK
  clear hK K
  simp only [andThen, leaves]
  refine DWp.seq ?_
  obtain ⟨r1, hc1, hF⟩ := bd_some hF
  refine DWp.region fun K hK => ?_
  simp [-aBin', -aBin, -aBinI, -aUn, -aNil, -flatV, n_fn, b_add, b_sub, b_mul, b_lt, b_le, b_gt, b_ge, b_eq, b_ne, u_not, ((hx0.agr A0 hdx0).tup), (S0.ptup (k := 0) rfl)]
  have S2 : Sep H B ([AL.box p4 [(Value.int .i64 x4)]] ++ []) := S0.pick [0] (by decide) rfl
  obtain ⟨B8, S3, U4, M5, R6, C7⟩ := S2.frame (hB.le A0.1)
  refine CallD.t (F_slices_order2Ordered_int_w (fu := fu) U4 S3 (hx0.agr A0 hdx0) (fun i_ hi_ hb_ => hdx0 i_ hi_ (M5 i_ hb_)) hc1) ?_
  rintro _ G10 ⟨a13, rfl, S14⟩
  have A12 := A0.trans (a13.mono M5)
  have S11 : Sep G10 B [AL.box p4 [(Value.int .i64 r1.2.2)]] := C7 _ _ a13 S14
  simp [-aBin', -aBin, -aBinI, -aUn, -aNil, -flatV, n_fn, b_add, b_sub, b_mul, b_lt, b_le, b_gt, b_ge, b_eq, b_ne, u_not]
  apply hK
  clear hK K
  simp only [andThen, leaves]
  refine DWp.seq ?_
  obtain ⟨r2, hc15, hF⟩ := bd_some hF
  refine DWp.region fun K hK => ?_
  simp [-aBin', -aBin, -aBinI, -aUn, -aNil, -flatV, n_fn, b_add, b_sub, b_mul, b_lt, b_le, b_gt, b_ge, b_eq, b_ne, u_not, ((hx0.agr A12 hdx0).tup), (S11.ptup (k := 0) rfl)]
  have S16 : Sep G10 B ([AL.box p4 [(Value.int .i64 r1.2.2)]] ++ []) := S11.pick [0] (by decide) rfl
  obtain ⟨B22, S17, U18, M19, R20, C21⟩ := S16.frame (hB.le A12.1)
  refine CallD.t (F_slices_order2Ordered_int_w (fu := fu) U18 S17 (hx0.agr A12 hdx0) (fun i_ hi_ hb_ => hdx0 i_ hi_ (M19 i_ hb_)) hc15) ?_
  rintro _ G24 ⟨a27, rfl, S28⟩
  have A26 := A12.trans (a27.mono M19)
  have S25 : Sep G24 B [AL.box p4 [(Value.int .i64 r2.2.2)]] := C21 _ _ a27 S28
  simp [-aBin', -aBin, -aBinI, -aUn, -aNil, -flatV, n_fn, b_add, b_sub, b_mul, b_lt, b_le, b_gt, b_ge, b_eq, b_ne, u_not]
  apply hK
  clear hK K
  simp only [andThen, leaves]
  refine DWp.seq ?_
  obtain ⟨r3, hc29, hF⟩ := bd_some hF
  refine DWp.region fun K hK => ?_
  simp [-aBin', -aBin, -aBinI, -aUn, -aNil, -flatV, n_fn, b_add, b_sub, b_mul, b_lt, b_le, b_gt, b_ge, b_eq, b_ne, u_not, ((hx0.agr A26 hdx0).tup), (S25.ptup (k := 0) rfl)]
  have S30 : Sep G24 B ([AL.box p4 [(Value.int .i64 r2.2.2)]] ++ []) := S25.pick [0] (by decide) rfl
  obtain ⟨B36, S31, U32, M33, R34, C35⟩ := S30.frame (hB.le A26.1)
  refine CallD.t (F_slices_order2Ordered_int_w (fu := fu) U32 S31 (hx0.agr A26 hdx0) (fun i_ hi_ hb_ => hdx0 i_ hi_ (M33 i_ hb_)) hc29) ?_
  rintro _ G38 ⟨a41, rfl, S42⟩
  have A40 := A26.trans (a41.mono M33)
  have S39 : Sep G38 B [AL.box p4 [(Value.int .i64 r3.2.2)]] := C35 _ _ a41 S42
  simp [-aBin', -aBin, -aBinI, -aUn, -aNil, -flatV, n_fn, b_add, b_sub, b_mul, b_lt, b_le, b_gt, b_ge, b_eq, b_ne, u_not]
  apply hK
  clear hK K
  simp only [andThen, leaves]
  refine DWp.seq ?_
  refine DWp.region fun K hK => ?_
  simp [-aBin', -aBin, -aBinI, -aUn, -aNil, -flatV, n_fn, b_add, b_sub, b_mul, b_lt, b_le, b_gt, b_ge, b_eq, b_ne, u_not]
  apply hK
  clear hK K
  simp only [andThen, leaves]
  refine DWp.ret ?_
  obtain rfl := Option.some.inj hF
  exact ⟨by simp, [(Value.int .i64 r3.2.1)], by simp [], A40, rfl, S39.pick [0] (by decide) rfl⟩
/-! slices.medianAdjacentOrdered[int] -/
def F_slices_medianAdjacentOrdered_int (fu : Nat) (x0 : List Int) (x1 : Int) (x2 : Int) : Option (Int × Int) :=
  bd (F_slices_medianOrdered_int fu x0 (isub .i64 x1 1) x1 (iadd .i64 x1 1) x2) fun r1 =>
  some (r1.1, r1.2)
theorem F_slices_medianAdjacentOrdered_int_w {fu : Nat} {H : AH} {B : Nat → Prop} {v0 : Value} {p2 : Value} {x0 : List Int} {x1 : Int} {x2 : Int} {r : (Int × Int)} (hB : Up B H.length) (S0 : Sep H B [AL.box p2 [(Value.int .i64 x2)]]) (hx0 : Sl H v0 (ints x0)) (hdx0 : ∀ i, idOf v0 = some i → ¬ B i) (hF : F_slices_medianAdjacentOrdered_int fu x0 x1 x2 = some r) :
    ACallT Try.prog 110 [v0, (Value.int .i64 x1), p2] H (fun u G => AgB B H G ∧ u = (Value.int .i64 r.1) ∧ Sep G B [AL.box p2 [(Value.int .i64 r.2)]]) := by
  refine ACallT.of_body (nt := 15) (rs := [.tmp 6]) Try.func110 rfl rfl rfl rfl ?_
  have A0 : AgB B H H := .refl _ _
  unfold F_slices_medianAdjacentOrdered_int at hF
  refine DWp.seq ?_
  refine DWp.region fun K hK => ?_
  simp [-aBin', -aBin, -aBinI, -aUn, -aNil, -flatV, n_fn, b_add, b_sub, b_mul, b_lt, b_le, b_gt, b_ge, b_eq, b_ne, u_not]
  apply hK
  clear hK K
  simp only [andThen, leaves]
  refine DWp.seq ?_
  obtain ⟨r1, hc1, hF⟩ := bd_some hF
  refine DWp.region fun K hK => ?_
  simp [-aBin', -aBin, -aBinI, -aUn, -aNil, -flatV, n_fn, b_add, b_sub, b_mul, b_lt, b_le, b_gt, b_ge, b_eq, b_ne, u_not, ((hx0.agr A0 hdx0).tup), (S0.ptup (k := 0) rfl)]
  have S2 : Sep H B ([AL.box p2 [(Value.int .i64 x2)]] ++ []) := S0.pick [0] (by decide) rfl
  obtain ⟨B8, S3, U4, M5, R6, C7⟩ := S2.frame (hB.le A0.1)
  refine CallD.t (F_slices_medianOrdered_int_w (fu := fu) U4 S3 (hx0.agr A0 hdx0) (fun i_ hi_ hb_ => hdx0 i_ hi_ (M5 i_ hb_)) hc1) ?_
  rintro _ G10 ⟨a13, rfl, S14⟩
  have A12 := A0.trans (a13.mono M5)
  have S11 : Sep G10 B [AL.box p2 [(Value.int .i64 r1.2)]] := C7 _ _ a13 S14
  simp [-aBin', -aBin, -aBinI, -aUn, -aNil, -flatV, n_fn, b_add, b_sub, b_mul, b_lt, b_le, b_gt, b_ge, b_eq, b_ne, u_not]
  apply hK
  clear hK K
  simp only [andThen, leaves]
  refine DWp.ret ?_
  obtain rfl := Option.some.inj hF
  exact ⟨by simp, [(Value.int .i64 r1.1)], by simp [], A12, rfl, S11.pick [0] (by decide) rfl⟩
/-! slices.choosePivotOrdered[int] -/
def F_slices_choosePivotOrdered_int (fu : Nat) (x0 : List Int) (x1 : Int) (x2 : Int) : Option (Int × Int) :=
  bd (
    bif (ile 8 (isub .i64 x2 x1)) then
      bif (ile 50 (isub .i64 x2 x1)) then
        bd (F_slices_medianAdjacentOrdered_int fu x0 (iadd .i64 x1 (imul .i64 (iquo .i64 (isub .i64 x2 x1) 4) 1)) 0) fun r1 =>
        bd (F_slices_medianAdjacentOrdered_int fu x0 (iadd .i64 x1 (imul .i64 (iquo .i64 (isub .i64 x2 x1) 4) 2)) r1.2) fun r2 =>
        bd (F_slices_medianAdjacentOrdered_int fu x0 (iadd .i64 x1 (imul .i64 (iquo .i64 (isub .i64 x2 x1) 4) 3)) r2.2) fun r3 =>
        bd (F_slices_medianOrdered_int fu x0 r1.1 r2.1 r3.1 r3.2) fun r4 =>
        some (r4.2, r4.1)
      else
        bd (F_slices_medianOrdered_int fu x0 (iadd .i64 x1 (imul .i64 (iquo .i64 (isub .i64 x2 x1) 4) 1)) (iadd .i64 x1 (imul .i64 (iquo .i64 (isub .i64 x2 x1) 4) 2)) (iadd .i64 x1 (imul .i64 (iquo .i64 (isub .i64 x2 x1) 4) 3)) 0) fun r5 =>
        some (r5.2, r5.1)
    else
      some (0, (iadd .i64 x1 (imul .i64 (iquo .i64 (isub .i64 x2 x1) 4) 2)))) fun s11 =>
  bif (ieq s11.1 0) then
    some (s11.2, 1)
  else
    bif (ieq s11.1 12) then
      some (s11.2, 2)
    else
      some (s11.2, 0)
theorem F_slices_choosePivotOrdered_int_w {fu : Nat} {H : AH} {v0 : Value} {x0 : List Int} {x1 : Int} {x2 : Int} {r : (Int × Int)} (hx0 : Sl H v0 (ints x0)) (hF : F_slices_choosePivotOrdered_int fu x0 x1 x2 = some r) :
    ACallT Try.prog 99 [v0, (Value.int .i64 x1), (Value.int .i64 x2)] H (fun u G => AgB (Fr H) H G ∧ u = (Value.tuple #[(Value.int .i64 r.1), (Value.int .i64 r.2)]) ∧ Sep G (Fr H) []) := by
  refine ACallT.of_body (nt := 57) (rs := [.tmp 6, .tmp 7]) Try.func99 rfl rfl rfl rfl ?_
  have A0 : AgB (Fr H) H H := .refl _ _
  have S0 : Sep H (Fr H) [] := .nil
  have hB := Fr.up H
  unfold F_slices_choosePivotOrdered_int at hF
  refine DWp.seq ?_
  refine DWp.region fun K hK => ?_
  simp [-aBin', -aBin, -aBinI, -aUn, -aNil, -flatV, n_fn, b_add, b_sub, b_mul, b_lt, b_le, b_gt, b_ge, b_eq, b_ne, u_not]
  apply hK
  clear hK K
  simp only [andThen, leaves]
  refine DWp.seq ?_
  refine DWp.region fun K hK => ?_
  simp [-aBin', -aBin, -aBinI, -aUn, -aNil, -flatV, n_fn, b_add, b_sub, b_mul, b_lt, b_le, b_gt, b_ge, b_eq, b_ne, u_not]
  apply hK
  clear hK K
  simp only [andThen, leaves]
  refine DWp.seq ?_
  obtain ⟨G2, p4, q5, q7, a6, S1⟩ := S0.allocT (P := Try.prog) (hB.le A0.1) ze_3 rfl
  have A3 := A0.ext (hB.le A0.1) a6
  replace S1 : Sep G2 (Fr H) [AL.box p4 [(Value.int .i64 0)]] := S1
  refine DWp.region fun K hK => ?_
  simp [-aBin', -aBin, -aBinI, -aUn, -aNil, -flatV, n_fn, b_add, b_sub, b_mul, b_lt, b_le, b_gt, b_ge, b_eq, b_ne, u_not, q5, q7, a6.to_pre]
  apply hK
  clear hK K
  simp only [andThen, leaves]
  refine DWp.seq ?_
  have g8 : (4 : Int) ≠ 0 := by decide
  refine DWp.region fun K hK => ?_
  simp [-aBin', -aBin, -aBinI, -aUn, -aNil, -flatV, n_fn, b_add, b_sub, b_mul, b_lt, b_le, b_gt, b_ge, b_eq, b_ne, u_not, b_quo g8]
  apply hK
  clear hK K
  simp only [andThen, leaves]
  refine DWp.seq ?_
  have g9 : (4 : Int) ≠ 0 := by decide
  refine DWp.region fun K hK => ?_
  simp [-aBin', -aBin, -aBinI, -aUn, -aNil, -flatV, n_fn, b_add, b_sub, b_mul, b_lt, b_le, b_gt, b_ge, b_eq, b_ne, u_not, b_quo g9]
  apply hK
  clear hK K
  simp only [andThen, leaves]
  refine DWp.seq ?_
  have g10 : (4 : Int) ≠ 0 := by decide
  refine DWp.region fun K hK => ?_
  simp [-aBin', -aBin, -aBinI, -aUn, -aNil, -flatV, n_fn, b_add, b_sub, b_mul, b_lt, b_le, b_gt, b_ge, b_eq, b_ne, u_not, b_quo g10]
  apply hK
  clear hK K
  simp only [andThen, leaves]
  obtain ⟨s11, hL12, hF⟩ := bd_some hF
  refine DWp.seq (DWp.join (fun env G => Sep G (Fr H) [AL.box p4 [(Value.int .i64 s11.1)]] ∧ AgB (Fr H) H G ∧ env 9 = some p4 ∧ env 11 = some (Value.int .i64 s11.2)) ?_ ?_)
  ·
    refine DWp.seq ?_
    refine DWp.region fun K hK => ?_
    simp [-aBin', -aBin, -aBinI, -aUn, -aNil, -flatV, n_fn, b_add, b_sub, b_mul, b_lt, b_le, b_gt, b_ge, b_eq, b_ne, u_not]
    apply hK
    clear hK K
    simp only [andThen, leaves]
    refine DWp.cond' (t := (ile 8 (isub .i64 x2 x1))) (by simp []) (fun hb14 => ?_) (fun hb14 => ?_)
    · replace hL12 := cd_t hb14 hL12
      refine DWp.seq ?_
      refine DWp.seq ?_
      refine DWp.region fun K hK => ?_
      simp [-aBin', -aBin, -aBinI, -aUn, -aNil, -flatV, n_fn, b_add, b_sub, b_mul, b_lt, b_le, b_gt, b_ge, b_eq, b_ne, u_not]
      apply hK
      clear hK K
      simp only [andThen, leaves]
      refine DWp.cond' (t := (ile 50 (isub .i64 x2 x1))) (by simp []) (fun hb15 => ?_) (fun hb15 => ?_)
      · replace hL12 := cd_t hb15 hL12
        refine DWp.seq ?_
        obtain ⟨r1, hc16, hL12⟩ := bd_some hL12
        refine DWp.region fun K hK => ?_
        simp [-aBin', -aBin, -aBinI, -aUn, -aNil, -flatV, n_fn, b_add, b_sub, b_mul, b_lt, b_le, b_gt, b_ge, b_eq, b_ne, u_not, ((hx0.agree A3.agree).tup), (S1.ptup (k := 0) rfl)]
        have S17 : Sep G2 (Fr H) ([AL.box p4 [(Value.int .i64 0)]] ++ []) := S1.pick [0] (by decide) rfl
        obtain ⟨B23, S18, U19, M20, R21, C22⟩ := S17.frame (hB.le A3.1)
        refine CallD.t (F_slices_medianAdjacentOrdered_int_w (fu := fu) U19 S18 (hx0.agree A3.agree) (fun i_ hi_ hb_ => Nat.not_le.2 (hx0.id_lt hi_) (M20 i_ hb_)) hc16) ?_
        rintro _ G25 ⟨a28, rfl, S29⟩
        have A27 := A3.trans (a28.mono M20)
        have S26 : Sep G25 (Fr H) [AL.box p4 [(Value.int .i64 r1.2)]] := C22 _ _ a28 S29
        simp [-aBin', -aBin, -aBinI, -aUn, -aNil, -flatV, n_fn, b_add, b_sub, b_mul, b_lt, b_le, b_gt, b_ge, b_eq, b_ne, u_not]
        apply hK
        clear hK K
        simp only [andThen, leaves]
        refine DWp.seq ?_
        obtain ⟨r2, hc30, hL12⟩ := bd_some hL12
        refine DWp.region fun K hK => ?_
        simp [-aBin', -aBin, -aBinI, -aUn, -aNil, -flatV, n_fn, b_add, b_sub, b_mul, b_lt, b_le, b_gt, b_ge, b_eq, b_ne, u_not, ((hx0.agree A27.agree).tup), (S26.ptup (k := 0) rfl)]
        have S31 : Sep G25 (Fr H) ([AL.box p4 [(Value.int .i64 r1.2)]] ++ []) := S26.pick [0] (by decide) rfl
        obtain ⟨B37, S32, U33, M34, R35, C36⟩ := S31.frame (hB.le A27.1)
        refine CallD.t (F_slices_medianAdjacentOrdered_int_w (fu := fu) U33 S32 (hx0.agree A27.agree) (fun i_ hi_ hb_ => Nat.not_le.2 (hx0.id_lt hi_) (M34 i_ hb_)) hc30) ?_
        rintro _ G39 ⟨a42, rfl, S43⟩
        have A41 := A27.trans (a42.mono M34)
        have S40 : Sep G39 (Fr H) [AL.box p4 [(Value.int .i64 r2.2)]] := C36 _ _ a42 S43
        simp [-aBin', -aBin, -aBinI, -aUn, -aNil, -flatV, n_fn, b_add, b_sub, b_mul, b_lt, b_le, b_gt, b_ge, b_eq, b_ne, u_not]
        apply hK
        clear hK K
        simp only [andThen, leaves]
        obtain ⟨r3, hc44, hL12⟩ := bd_some hL12
        refine DWp.region fun K hK => ?_
        simp [-aBin', -aBin, -aBinI, -aUn, -aNil, -flatV, n_fn, b_add, b_sub, b_mul, b_lt, b_le, b_gt, b_ge, b_eq, b_ne, u_not, ((hx0.agree A41.agree).tup), (S40.ptup (k := 0) rfl)]
        have S45 : Sep G39 (Fr H) ([AL.box p4 [(Value.int .i64 r2.2)]] ++ []) := S40.pick [0] (by decide) rfl
        obtain ⟨B51, S46, U47, M48, R49, C50⟩ := S45.frame (hB.le A41.1)
        refine CallD.t (F_slices_medianAdjacentOrdered_int_w (fu := fu) U47 S46 (hx0.agree A41.agree) (fun i_ hi_ hb_ => Nat.not_le.2 (hx0.id_lt hi_) (M48 i_ hb_)) hc44) ?_
        rintro _ G53 ⟨a56, rfl, S57⟩
        have A55 := A41.trans (a56.mono M48)
        have S54 : Sep G53 (Fr H) [AL.box p4 [(Value.int .i64 r3.2)]] := C50 _ _ a56 S57
        simp [-aBin', -aBin, -aBinI, -aUn, -aNil, -flatV, n_fn, b_add, b_sub, b_mul, b_lt, b_le, b_gt, b_ge, b_eq, b_ne, u_not]
        apply hK
        clear hK K
        simp only [andThen, leaves]
        obtain ⟨r4, hc58, hL12⟩ := bd_some hL12
        refine DWp.region fun K hK => ?_
        simp [-aBin', -aBin, -aBinI, -aUn, -aNil, -flatV, n_fn, b_add, b_sub, b_mul, b_lt, b_le, b_gt, b_ge, b_eq, b_ne, u_not, ((hx0.agree A55.agree).tup), (S54.ptup (k := 0) rfl)]
        have S59 : Sep G53 (Fr H) ([AL.box p4 [(Value.int .i64 r3.2)]] ++ []) := S54.pick [0] (by decide) rfl
        obtain ⟨B65, S60, U61, M62, R63, C64⟩ := S59.frame (hB.le A55.1)
        refine CallD.t (F_slices_medianOrdered_int_w (fu := fu) U61 S60 (hx0.agree A55.agree) (fun i_ hi_ hb_ => Nat.not_le.2 (hx0.id_lt hi_) (M62 i_ hb_)) hc58) ?_
        rintro _ G67 ⟨a70, rfl, S71⟩
        have A69 := A55.trans (a70.mono M62)
        have S68 : Sep G67 (Fr H) [AL.box p4 [(Value.int .i64 r4.2)]] := C64 _ _ a70 S71
        simp [-aBin', -aBin, -aBinI, -aUn, -aNil, -flatV, n_fn, b_add, b_sub, b_mul, b_lt, b_le, b_gt, b_ge, b_eq, b_ne, u_not]
        apply hK
        clear hK K
        simp only [andThen, leaves]
        have S72 := S68.pick [0] (by decide) rfl
        obtain rfl := Option.some.inj hL12
        exact ⟨S72, A69, by simp [], by simp []⟩
      · replace hL12 := cd_f hb15 hL12
        refine DWp.skip ?_
        simp only [andThen, leaves]
        obtain ⟨r5, hc73, hL12⟩ := bd_some hL12
        refine DWp.region fun K hK => ?_
        simp [-aBin', -aBin, -aBinI, -aUn, -aNil, -flatV, n_fn, b_add, b_sub, b_mul, b_lt, b_le, b_gt, b_ge, b_eq, b_ne, u_not, ((hx0.agree A3.agree).tup), (S1.ptup (k := 0) rfl)]
        have S74 : Sep G2 (Fr H) ([AL.box p4 [(Value.int .i64 0)]] ++ []) := S1.pick [0] (by decide) rfl
        obtain ⟨B80, S75, U76, M77, R78, C79⟩ := S74.frame (hB.le A3.1)
        refine CallD.t (F_slices_medianOrdered_int_w (fu := fu) U76 S75 (hx0.agree A3.agree) (fun i_ hi_ hb_ => Nat.not_le.2 (hx0.id_lt hi_) (M77 i_ hb_)) hc73) ?_
        rintro _ G82 ⟨a85, rfl, S86⟩
        have A84 := A3.trans (a85.mono M77)
        have S83 : Sep G82 (Fr H) [AL.box p4 [(Value.int .i64 r5.2)]] := C79 _ _ a85 S86
        simp [-aBin', -aBin, -aBinI, -aUn, -aNil, -flatV, n_fn, b_add, b_sub, b_mul, b_lt, b_le, b_gt, b_ge, b_eq, b_ne, u_not]
        apply hK
        clear hK K
        simp only [andThen, leaves]
        have S87 := S83.pick [0] (by decide) rfl
        obtain rfl := Option.some.inj hL12
        exact ⟨S87, A84, by simp [], by simp []⟩
    · replace hL12 := cd_f hb14 hL12
      refine DWp.skip ?_
      simp only [andThen, leaves]
      have S88 := S1.pick [0] (by decide) rfl
      obtain rfl := Option.some.inj hL12
      exact ⟨S88, A3, by simp [], by simp []⟩
  · rintro env Gj89 ⟨Sj89, Aj89, ej89_9, ej89_11⟩
    refine DWp.seq ?_
    have q90 := Sj89.load0 (P := Try.prog) (k := 0) rfl sz_3 ag_3
    refine DWp.region fun K hK => ?_
    simp [-aBin', -aBin, -aBinI, -aUn, -aNil, -flatV, n_fn, b_add, b_sub, b_mul, b_lt, b_le, b_gt, b_ge, b_eq, b_ne, u_not, ej89_9, ej89_11, q90]
    apply hK
    clear hK K
    simp only [andThen, leaves]
    refine DWp.block ?_
    refine DWp.seq ?_
    refine DWp.region fun K hK => ?_
    simp [-aBin', -aBin, -aBinI, -aUn, -aNil, -flatV, n_fn, b_add, b_sub, b_mul, b_lt, b_le, b_gt, b_ge, b_eq, b_ne, u_not, ej89_9, ej89_11]
    apply hK
    clear hK K
    simp only [andThen, leaves]
    refine DWp.cond' (t := (ieq s11.1 0)) (by simp [ej89_9, ej89_11]) (fun hb91 => ?_) (fun hb91 => ?_)
    · replace hF := cd_t hb91 hF
      refine DWp.seq ?_
      refine DWp.region fun K hK => ?_
      simp [-aBin', -aBin, -aBinI, -aUn, -aNil, -flatV, n_fn, b_add, b_sub, b_mul, b_lt, b_le, b_gt, b_ge, b_eq, b_ne, u_not, ej89_9, ej89_11]
      apply hK
      clear hK K
      simp only [andThen, leaves]
      refine DWp.ret ?_
      simp only [andThen, leaves]
      obtain rfl := Option.some.inj hF
      exact ⟨by simp, [(Value.int .i64 s11.2), (Value.int .i64 1)], by simp [ej89_9, ej89_11], Aj89, rfl, Sj89.pick [] (by decide) rfl⟩
    · replace hF := cd_f hb91 hF
      refine DWp.seq ?_
      refine DWp.region fun K hK => ?_
      simp [-aBin', -aBin, -aBinI, -aUn, -aNil, -flatV, n_fn, b_add, b_sub, b_mul, b_lt, b_le, b_gt, b_ge, b_eq, b_ne, u_not, ej89_9, ej89_11]
      apply hK
      clear hK K
      simp only [andThen, leaves]
      refine DWp.cond' (t := (ieq s11.1 12)) (by simp [ej89_9, ej89_11]) (fun hb92 => ?_) (fun hb92 => ?_)
      · replace hF := cd_t hb92 hF
        refine DWp.seq ?_
        refine DWp.region fun K hK => ?_
        simp [-aBin', -aBin, -aBinI, -aUn, -aNil, -flatV, n_fn, b_add, b_sub, b_mul, b_lt, b_le, b_gt, b_ge, b_eq, b_ne, u_not, ej89_9, ej89_11]
        apply hK
        clear hK K
        simp only [andThen, leaves]
        refine DWp.ret ?_
        simp only [andThen, leaves]
        obtain rfl := Option.some.inj hF
        exact ⟨by simp, [(Value.int .i64 s11.2), (Value.int .i64 2)], by simp [ej89_9, ej89_11], Aj89, rfl, Sj89.pick [] (by decide) rfl⟩
      · replace hF := cd_f hb92 hF
        refine DWp.seq ?_
        refine DWp.region fun K hK => ?_
        simp [-aBin', -aBin, -aBinI, -aUn, -aNil, -flatV, n_fn, b_add, b_sub, b_mul, b_lt, b_le, b_gt, b_ge, b_eq, b_ne, u_not, ej89_9, ej89_11]
        apply hK
        clear hK K
        simp only [andThen, leaves]
        refine DWp.ret ?_
        simp only [andThen, leaves]
        obtain rfl := Option.some.inj hF
        exact ⟨by simp, [(Value.int .i64 s11.2), (Value.int .i64 0)], by simp [ej89_9, ej89_11], Aj89, rfl, Sj89.pick [] (by decide) rfl⟩
/-! slices.reverseRangeOrdered[int] -/
def F_slices_reverseRangeOrdered_int_L1 (fu : Nat)  : Nat → List Int → Int → Int → Option (List Int × Int × Int)
  | 0, _, _, _ => none
  | n + 1, l1_0, y1_6, y1_7 =>
    bif (ilt y1_6 y1_7) then
      gd (inL l1_0 y1_7) (
      gd (inL l1_0 y1_6) (
      gd (inL l1_0 y1_6) (
      gd (inL (lset l1_0 y1_6 (gat 0 l1_0 y1_7)) y1_7) (
      F_slices_reverseRangeOrdered_int_L1 fu n (lset (lset l1_0 y1_6 (gat 0 l1_0 y1_7)) y1_7 (gat 0 l1_0 y1_6)) (iadd .i64 y1_6 1) (isub .i64 y1_7 1)))))
    else
      some (l1_0, y1_6, y1_7)
def F_slices_reverseRangeOrdered_int (fu : Nat) (x0 : List Int) (x1 : Int) (x2 : Int) : Option (List Int) :=
  bd (F_slices_reverseRangeOrdered_int_L1 fu fu x0 x1 (isub .i64 x2 1)) fun s1 =>
  some s1.1
theorem F_slices_reverseRangeOrdered_int_w {fu : Nat} {H : AH} {B : Nat → Prop} {v0 : Value} {x0 : List Int} {x1 : Int} {x2 : Int} {r : (List Int)} (hB : Up B H.length) (S0 : Sep H B [flat v0 3 (ints x0)]) (hF : F_slices_reverseRangeOrdered_int fu x0 x1 x2 = some r) :
    ACallT Try.prog 100 [v0, (Value.int .i64 x1), (Value.int .i64 x2)] H (fun u G => AgB B H G ∧ u = (Value.tuple #[]) ∧ Sep G B [flat v0 3 (ints r)]) := by
  refine ACallT.of_body (nt := 32) (rs := []) Try.func100 rfl rfl rfl rfl ?_
  have A0 : AgB B H H := .refl _ _
  unfold F_slices_reverseRangeOrdered_int at hF
  refine DWp.seq ?_
  refine DWp.region fun K hK => ?_
  simp [-aBin', -aBin, -aBinI, -aUn, -aNil, -flatV, n_fn, b_add, b_sub, b_mul, b_lt, b_le, b_gt, b_ge, b_eq, b_ne, u_not]
  apply hK
  clear hK K
  simp only [andThen, leaves]
  refine DWp.seq ?_
  refine DWp.region fun K hK => ?_
  simp [-aBin', -aBin, -aBinI, -aUn, -aNil, -flatV, n_fn, b_add, b_sub, b_mul, b_lt, b_le, b_gt, b_ge, b_eq, b_ne, u_not]
  apply hK
  clear hK K
  simp only [andThen, leaves]
  refine DWp.block ?_
  obtain ⟨s1, hL2, hF⟩ := bd_some hF
  have S3 := S0.pick [0] (by decide) rfl
  refine DWp.loop (fun n env G => ∃ l1_0 : List Int, ∃ y1_6 : Int, ∃ y1_7 : Int, F_slices_reverseRangeOrdered_int_L1 fu n l1_0 y1_6 y1_7 = some s1 ∧ Sep G B [flat v0 3 (ints l1_0)] ∧ AgB B H G ∧ env 0 = some v0 ∧ env 6 = some (Value.int .i64 y1_6) ∧ env 7 = some (Value.int .i64 y1_7)) fu ⟨x0, x1, (isub .i64 x2 1), hL2, S3, A0, by simp [], by simp [], by simp []⟩ ?_
  rintro n1 env1 G1_ ⟨l1_0, y1_6, y1_7, hL2, S1_, A1_, e1_0, e1_6, e1_7⟩
  cases n1 with
  | zero => cases hL2
  | succ n1 =>
    simp only [F_slices_reverseRangeOrdered_int_L1] at hL2
    refine DWp.seq ?_
    refine DWp.seq ?_
    refine DWp.region fun K hK => ?_
    simp [-aBin', -aBin, -aBinI, -aUn, -aNil, -flatV, n_fn, b_add, b_sub, b_mul, b_lt, b_le, b_gt, b_ge, b_eq, b_ne, u_not, e1_0, e1_6, e1_7]
    apply hK
    clear hK K
    simp only [andThen, leaves]
    refine DWp.cond' (t := (ilt y1_6 y1_7)) (by simp [e1_0, e1_6, e1_7]) (fun hb4 => ?_) (fun hb4 => ?_)
    · replace hL2 := cd_t hb4 hL2
      refine DWp.skip ?_
      simp only [andThen, leaves]
      refine DWp.block ?_
      refine DWp.seq ?_
      obtain ⟨g5, hL2⟩ := gd_some hL2
      have q6 := idxG (P := Try.prog) (kk := .i64) (S1_.sl (k := 0) rfl) el_22 sz_3 g5
      have q7 := loadG (P := Try.prog) (S1_.sl (k := 0) rfl) sz_3 ag_3 g5 0
      obtain ⟨g8, hL2⟩ := gd_some hL2
      have q9 := idxG (P := Try.prog) (kk := .i64) (S1_.sl (k := 0) rfl) el_22 sz_3 g8
      have q10 := loadG (P := Try.prog) (S1_.sl (k := 0) rfl) sz_3 ag_3 g8 0
      obtain ⟨g11, hL2⟩ := gd_some hL2
      have q12 := idxG (P := Try.prog) (kk := .i64) (S1_.sl (k := 0) rfl) el_22 sz_3 g11
      obtain ⟨G13, q14, S15, a17⟩ := S1_.storeG (f := (Value.int .i64)) (P := Try.prog) (k := 0) (x := (gat 0 l1_0 y1_7)) rfl (hB.le A1_.1) sz_3 g11 rfl rfl
      have A16 := A1_.trans a17
      replace S15 : Sep G13 B [flat v0 3 (ints (lset l1_0 y1_6 (gat 0 l1_0 y1_7)))] := S15
      obtain ⟨g18, hL2⟩ := gd_some hL2
      have q19 := idxG (P := Try.prog) (kk := .i64) (S15.sl (k := 0) rfl) el_22 sz_3 g18
      obtain ⟨G20, q21, S22, a24⟩ := S15.storeG (f := (Value.int .i64)) (P := Try.prog) (k := 0) (x := (gat 0 l1_0 y1_6)) rfl (hB.le A16.1) sz_3 g18 rfl rfl
      have A23 := A16.trans a24
      replace S22 : Sep G20 B [flat v0 3 (ints (lset (lset l1_0 y1_6 (gat 0 l1_0 y1_7)) y1_7 (gat 0 l1_0 y1_6)))] := S22
      refine DWp.drawn (B := [0, 0, 0, 0, 0, 0, 48, 112, 0, 0, 768, 1792, 4083, 8179, 16383, 32767]) 13 mixed (by kernel_rfl) (by decide) fun K hK => ?_
      simp [-aBin', -aBin, -aBinI, -aUn, -aNil, -flatV, n_fn, b_add, b_sub, b_mul, b_lt, b_le, b_gt, b_ge, b_eq, b_ne, u_not, e1_0, e1_6, e1_7, q6, q7, q9, q10, q12, q14, q19, q21]
      apply hK
      clear hK K
      simp only [andThen, leaves]
      refine DWp.seq ?_
      refine DWp.region fun K hK => ?_
      simp [-aBin', -aBin, -aBinI, -aUn, -aNil, -flatV, n_fn, b_add, b_sub, b_mul, b_lt, b_le, b_gt, b_ge, b_eq, b_ne, u_not, e1_0, e1_6, e1_7]
      apply hK
      clear hK K
      simp only [andThen, leaves]
      refine DWp.region fun K hK => ?_
      simp [-aBin', -aBin, -aBinI, -aUn, -aNil, -flatV, n_fn, b_add, b_sub, b_mul, b_lt, b_le, b_gt, b_ge, b_eq, b_ne, u_not, e1_0, e1_6, e1_7]
      apply hK
      clear hK K
      simp only [andThen, leaves]
      have S25 := S22.pick [0] (by decide) rfl
      exact ⟨n1, Nat.lt_succ_self _, (lset (lset l1_0 y1_6 (gat 0 l1_0 y1_7)) y1_7 (gat 0 l1_0 y1_6)), (iadd .i64 y1_6 1), (isub .i64 y1_7 1), hL2, S25, A23, by simp [e1_0, e1_6, e1_7], by simp [e1_0, e1_6, e1_7], by simp [e1_0, e1_6, e1_7]⟩
    · replace hL2 := cd_f hb4 hL2
      refine DWp.exit ?_
      simp only [andThen, leaves, if_true, if_false, reduceIte, Nat.reduceEqDiff]
      obtain rfl := Option.some.inj hL2
      try dsimp only at hF
      obtain rfl := Option.some.inj hF
      exact ⟨by simp, [], by simp [e1_0, e1_6, e1_7], A1_, rfl, S1_.pick [0] (by decide) rfl⟩
/-! slices.partialInsertionSortOrdered[int] -/
def F_slices_partialInsertionSortOrdered_int_L2 (fu : Nat) (k2_0 : List Int) (k2_1 : Int) (k2_2 : Int) (k2_3 : Int) : Nat → Int → Option (Int)
  | 0, _ => none
  | n + 1, y2_7 =>
    bif (ilt y2_7 k2_2) then
      gd (inL k2_0 y2_7) (
      gd (inL k2_0 (isub .i64 y2_7 1)) (
      bd (F_cmp_Less_int fu (gat 0 k2_0 y2_7) (gat 0 k2_0 (isub .i64 y2_7 1))) fun r1 =>
      bif (bnot r1) then
        F_slices_partialInsertionSortOrdered_int_L2 fu k2_0 k2_1 k2_2 k2_3 n (iadd .i64 y2_7 1)
      else
        some y2_7))
    else
      some y2_7
def F_slices_partialInsertionSortOrdered_int_L3 (fu : Nat) (k3_0 : Int) (k3_1 : Int) (k3_2 : Int) (k3_3 : Int) : Nat → List Int → Int → Option (List Int × Int)
  | 0, _, _ => none
  | n + 1, l3_0, y3_9 =>
    bif (ile 1 y3_9) then
      gd (inL l3_0 y3_9) (
      gd (inL l3_0 (isub .i64 y3_9 1)) (
      bd (F_cmp_Less_int fu (gat 0 l3_0 y3_9) (gat 0 l3_0 (isub .i64 y3_9 1))) fun r2 =>
      bif (bnot r2) then
        some (l3_0, y3_9)
      else
        gd (inL l3_0 (isub .i64 y3_9 1)) (
        gd (inL l3_0 y3_9) (
        gd (inL l3_0 y3_9) (
        gd (inL (lset l3_0 y3_9 (gat 0 l3_0 (isub .i64 y3_9 1))) (isub .i64 y3_9 1)) (
        F_slices_partialInsertionSortOrdered_int_L3 fu k3_0 k3_1 k3_2 k3_3 n (lset (lset l3_0 y3_9 (gat 0 l3_0 (isub .i64 y3_9 1))) (isub .i64 y3_9 1) (gat 0 l3_0 y3_9)) (isub .i64 y3_9 1)))))))
    else
      some (l3_0, y3_9)
def F_slices_partialInsertionSortOrdered_int_L4 (fu : Nat) (k4_0 : Int) (k4_1 : Int) (k4_2 : Int) (k4_3 : Int) : Nat → List Int → Int → Option (List Int × Int)
  | 0, _, _ => none
  | n + 1, l4_0, y4_10 =>
    bif (ilt y4_10 k4_1) then
      gd (inL l4_0 y4_10) (
      gd (inL l4_0 (isub .i64 y4_10 1)) (
      bd (F_cmp_Less_int fu (gat 0 l4_0 y4_10) (gat 0 l4_0 (isub .i64 y4_10 1))) fun r3 =>
      bif (bnot r3) then
        some (l4_0, y4_10)
      else
        gd (inL l4_0 (isub .i64 y4_10 1)) (
        gd (inL l4_0 y4_10) (
        gd (inL l4_0 y4_10) (
        gd (inL (lset l4_0 y4_10 (gat 0 l4_0 (isub .i64 y4_10 1))) (isub .i64 y4_10 1)) (
        F_slices_partialInsertionSortOrdered_int_L4 fu k4_0 k4_1 k4_2 k4_3 n (lset (lset l4_0 y4_10 (gat 0 l4_0 (isub .i64 y4_10 1))) (isub .i64 y4_10 1) (gat 0 l4_0 y4_10)) (iadd .i64 y4_10 1)))))))
    else
      some (l4_0, y4_10)
def F_slices_partialInsertionSortOrdered_int_L1 (fu : Nat) (k1_0 : Int) (k1_1 : Int) : Nat → List Int → Int → Int → Option (LR (Bool × List Int) (List Int × Int × Int))
  | 0, _, _, _ => none
  | n + 1, l1_0, y1_7, y1_8 =>
    bif (ilt y1_8 5) then
      bd (
        bd (F_slices_partialInsertionSortOrdered_int_L2 fu l1_0 k1_0 k1_1 y1_8 fu y1_7) fun s2 =>
        some s2) fun s5 =>
      bif (ieq s5 k1_1) then
        some (.ret (true, l1_0))
      else
        bif (ilt (isub .i64 k1_1 k1_0) 50) then
          some (.ret (false, l1_0))
        else
          gd (inL l1_0 (isub .i64 s5 1)) (
          gd (inL l1_0 s5) (
          gd (inL l1_0 s5) (
          gd (inL (lset l1_0 s5 (gat 0 l1_0 (isub .i64 s5 1))) (isub .i64 s5 1)) (
          bd (
            bif (ile 2 (isub .i64 s5 k1_0)) then
              bd (F_slices_partialInsertionSortOrdered_int_L3 fu k1_0 k1_1 s5 y1_8 fu (lset (lset l1_0 s5 (gat 0 l1_0 (isub .i64 s5 1))) (isub .i64 s5 1) (gat 0 l1_0 s5)) (isub .i64 s5 1)) fun s3 =>
              some s3.1
            else
              some (lset (lset l1_0 s5 (gat 0 l1_0 (isub .i64 s5 1))) (isub .i64 s5 1) (gat 0 l1_0 s5))) fun s51 =>
          bif (ile 2 (isub .i64 k1_1 s5)) then
            bd (F_slices_partialInsertionSortOrdered_int_L4 fu k1_0 k1_1 s5 y1_8 fu s51 (iadd .i64 s5 1)) fun s4 =>
            F_slices_partialInsertionSortOrdered_int_L1 fu k1_0 k1_1 n s4.1 s5 (iadd .i64 y1_8 1)
          else
            F_slices_partialInsertionSortOrdered_int_L1 fu k1_0 k1_1 n s51 s5 (iadd .i64 y1_8 1)))))
    else
      some (.brk (l1_0, y1_7, y1_8))
def F_slices_partialInsertionSortOrdered_int (fu : Nat) (x0 : List Int) (x1 : Int) (x2 : Int) : Option (Bool × List Int) :=
  bd (F_slices_partialInsertionSortOrdered_int_L1 fu x1 x2 fu x0 (iadd .i64 x1 1) 0) fun s1 =>
  lr s1 fun s1 =>
  some (false, s1.1)
theorem F_slices_partialInsertionSortOrdered_int_w {fu : Nat} {H : AH} {B : Nat → Prop} {v0 : Value} {x0 : List Int} {x1 : Int} {x2 : Int} {r : (Bool × List Int)} (hB : Up B H.length) (S0 : Sep H B [flat v0 3 (ints x0)]) (hF : F_slices_partialInsertionSortOrdered_int fu x0 x1 x2 = some r) :
    ACallT Try.prog 101 [v0, (Value.int .i64 x1), (Value.int .i64 x2)] H (fun u G => AgB B H G ∧ u = (Value.bool r.1) ∧ Sep G B [flat v0 3 (ints r.2)]) := by
  refine ACallT.of_body (nt := 133) (rs := [.tmp 6]) Try.func101 rfl rfl rfl rfl ?_
  have A0 : AgB B H H := .refl _ _
  unfold F_slices_partialInsertionSortOrdered_int at hF
  refine DWp.seq ?_
  refine DWp.region fun K hK => ?_
  simp [-aBin', -aBin, -aBinI, -aUn, -aNil, -flatV, n_fn, b_add, b_sub, b_mul, b_lt, b_le, b_gt, b_ge, b_eq, b_ne, u_not]
  apply hK
  clear hK K
  simp only [andThen, leaves]
  refine DWp.seq ?_
  refine DWp.region fun K hK => ?_
  simp [-aBin', -aBin, -aBinI, -aUn, -aNil, -flatV, n_fn, b_add, b_sub, b_mul, b_lt, b_le, b_gt, b_ge, b_eq, b_ne, u_not]
  apply hK
  clear hK K
  simp only [andThen, leaves]
  refine DWp.seq ?_
  refine DWp.seq ?_
  refine DWp.region fun K hK => ?_
  simp [-aBin', -aBin, -aBinI, -aUn, -aNil, -flatV, n_fn, b_add, b_sub, b_mul, b_lt, b_le, b_gt, b_ge, b_eq, b_ne, u_not]
  apply hK
  clear hK K
  simp only [andThen, leaves]
  refine DWp.block ?_
  obtain ⟨s1, hL2, hF⟩ := bd_some hF
  have S3 := S0.pick [0] (by decide) rfl
  refine DWp.loop (fun n env G => ∃ l1_0 : List Int, ∃ y1_7 : Int, ∃ y1_8 : Int, F_slices_partialInsertionSortOrdered_int_L1 fu x1 x2 n l1_0 y1_7 y1_8 = some s1 ∧ Sep G B [flat v0 3 (ints l1_0)] ∧ AgB B H G ∧ env 0 = some v0 ∧ env 1 = some (Value.int .i64 x1) ∧ env 2 = some (Value.int .i64 x2) ∧ env 7 = some (Value.int .i64 y1_7) ∧ env 8 = some (Value.int .i64 y1_8)) fu ⟨x0, (iadd .i64 x1 1), 0, hL2, S3, A0, by simp [], by simp [], by simp [], by simp [], by simp []⟩ ?_
  rintro n1 env1 G1_ ⟨l1_0, y1_7, y1_8, hL2, S1_, A1_, e1_0, e1_1, e1_2, e1_7, e1_8⟩
  cases n1 with
  | zero => cases hL2
  | succ n1 =>
    simp only [F_slices_partialInsertionSortOrdered_int_L1] at hL2
    refine DWp.seq ?_
    refine DWp.seq ?_
    refine DWp.region fun K hK => ?_
    simp [-aBin', -aBin, -aBinI, -aUn, -aNil, -flatV, n_fn, b_add, b_sub, b_mul, b_lt, b_le, b_gt, b_ge, b_eq, b_ne, u_not, e1_0, e1_1, e1_2, e1_7, e1_8]
    apply hK
    clear hK K
    simp only [andThen, leaves]
    refine DWp.cond' (t := (ilt y1_8 5)) (by simp [e1_0, e1_1, e1_2, e1_7, e1_8]) (fun hb4 => ?_) (fun hb4 => ?_)
    · replace hL2 := cd_t hb4 hL2
      refine DWp.skip ?_
      simp only [andThen, leaves]
      refine DWp.seq ?_
      refine DWp.block ?_
      obtain ⟨s5, hL6, hL2⟩ := bd_some hL2
      refine DWp.seq (DWp.join (fun env G => Sep G B [flat v0 3 (ints l1_0)] ∧ AgB B H G ∧ env 0 = some v0 ∧ env 1 = some (Value.int .i64 x1) ∧ env 2 = some (Value.int .i64 x2) ∧ env 7 = some (Value.int .i64 s5) ∧ env 8 = some (Value.int .i64 y1_8)) ?_ ?_)
      ·
        refine DWp.block ?_
        obtain ⟨s8, hL9, hL6⟩ := bd_some hL6
        have S10 := S1_.pick [0] (by decide) rfl
        refine DWp.loop (fun n env G => ∃ y2_7 : Int, F_slices_partialInsertionSortOrdered_int_L2 fu l1_0 x1 x2 y1_8 n y2_7 = some s8 ∧ Sep G B [flat v0 3 (ints l1_0)] ∧ AgB B H G ∧ env 0 = some v0 ∧ env 1 = some (Value.int .i64 x1) ∧ env 2 = some (Value.int .i64 x2) ∧ env 7 = some (Value.int .i64 y2_7) ∧ env 8 = some (Value.int .i64 y1_8)) fu ⟨y1_7, hL9, S10, A1_, by simp [e1_0, e1_1, e1_2, e1_7, e1_8], by simp [e1_0, e1_1, e1_2, e1_7, e1_8], by simp [e1_0, e1_1, e1_2, e1_7, e1_8], by simp [e1_0, e1_1, e1_2, e1_7, e1_8], by simp [e1_0, e1_1, e1_2, e1_7, e1_8]⟩ ?_
        rintro n3 env3 G3_ ⟨y2_7, hL9, S3_, A3_, e3_0, e3_1, e3_2, e3_7, e3_8⟩
        cases n3 with
        | zero => cases hL9
        | succ n3 =>
          simp only [F_slices_partialInsertionSortOrdered_int_L2] at hL9
          refine DWp.seq ?_
          refine DWp.seq ?_
          rcases Bool.eq_false_or_eq_true (ilt y2_7 x2) with hb11 | hb11
          · replace hL9 := cd_t hb11 hL9
            obtain ⟨g12, hL9⟩ := gd_some hL9
            have q13 := idxG (P := Try.prog) (kk := .i64) (S3_.sl (k := 0) rfl) el_22 sz_3 g12
            have q14 := loadG (P := Try.prog) (S3_.sl (k := 0) rfl) sz_3 ag_3 g12 0
            obtain ⟨g15, hL9⟩ := gd_some hL9
            have q16 := idxG (P := Try.prog) (kk := .i64) (S3_.sl (k := 0) rfl) el_22 sz_3 g15
            have q17 := loadG (P := Try.prog) (S3_.sl (k := 0) rfl) sz_3 ag_3 g15 0
            obtain ⟨r1, hc18, hL9⟩ := bd_some hL9
            refine DWp.drawn (B := [0, 0, 3, 7, 15, 15, 63, 127, 15, 15, 527, 1807, 3855, 8191, 16383, 32767]) 16 mixed (by kernel_rfl) (by decide) fun K hK => ?_
            simp [-aBin', -aBin, -aBinI, -aUn, -aNil, -flatV, n_fn, b_add, b_sub, b_mul, b_lt, b_le, b_gt, b_ge, b_eq, b_ne, u_not, e3_0, e3_1, e3_2, e3_7, e3_8, hb11, q13, q14, q16, q17]
            refine CallD.t (F_cmp_Less_int_w (fu := fu)  hc18) ?_
            rintro _ G20 ⟨a23, rfl, S24⟩
            have A22 := A3_.ext (hB.le A3_.1) a23.agree
            have S21 : Sep G20 B [flat v0 3 (ints l1_0)] := S3_.app a23.agree S24 (fun _ h => h) (hB.le A3_.1)
            simp [-aBin', -aBin, -aBinI, -aUn, -aNil, -flatV, n_fn, b_add, b_sub, b_mul, b_lt, b_le, b_gt, b_ge, b_eq, b_ne, u_not, e3_0, e3_1, e3_2, e3_7, e3_8, hb11, q13, q14, q16, q17, a23.pre]
            apply hK
            clear hK K
            simp only [andThen, leaves]
            refine DWp.cond' (t := (bnot r1)) (by simp [e3_0, e3_1, e3_2, e3_7, e3_8]) (fun hb25 => ?_) (fun hb25 => ?_)
            · replace hL9 := cd_t hb25 hL9
              refine DWp.skip ?_
              simp only [andThen, leaves]
              refine DWp.block ?_
              refine DWp.region fun K hK => ?_
              simp [-aBin', -aBin, -aBinI, -aUn, -aNil, -flatV, n_fn, b_add, b_sub, b_mul, b_lt, b_le, b_gt, b_ge, b_eq, b_ne, u_not, e3_0, e3_1, e3_2, e3_7, e3_8]
              apply hK
              clear hK K
              simp only [andThen, leaves]
              have S26 := S21.pick [0] (by decide) rfl
              exact ⟨n3, Nat.lt_succ_self _, (iadd .i64 y2_7 1), hL9, S26, A22, by simp [e3_0, e3_1, e3_2, e3_7, e3_8], by simp [e3_0, e3_1, e3_2, e3_7, e3_8], by simp [e3_0, e3_1, e3_2, e3_7, e3_8], by simp [e3_0, e3_1, e3_2, e3_7, e3_8], by simp [e3_0, e3_1, e3_2, e3_7, e3_8]⟩
            · replace hL9 := cd_f hb25 hL9
              refine DWp.exit ?_
              simp only [andThen, leaves, if_true, if_false, reduceIte, Nat.reduceEqDiff]
              obtain rfl := Option.some.inj hL9
              have S27 := S21.pick [0] (by decide) rfl
              obtain rfl := Option.some.inj hL6
              exact ⟨S27, A22, by simp [e3_0, e3_1, e3_2, e3_7, e3_8], by simp [e3_0, e3_1, e3_2, e3_7, e3_8], by simp [e3_0, e3_1, e3_2, e3_7, e3_8], by simp [e3_0, e3_1, e3_2, e3_7, e3_8], by simp [e3_0, e3_1, e3_2, e3_7, e3_8]⟩
          · replace hL9 := cd_f hb11 hL9
            refine DWp.drawn (B := [0, 0, 3, 7, 15, 15, 63, 127, 15, 15, 527, 1807, 3855, 8191, 16383, 32767]) 16 mixed (by kernel_rfl) (by decide) fun K hK => ?_
            simp [-aBin', -aBin, -aBinI, -aUn, -aNil, -flatV, n_fn, b_add, b_sub, b_mul, b_lt, b_le, b_gt, b_ge, b_eq, b_ne, u_not, e3_0, e3_1, e3_2, e3_7, e3_8, hb11]
            apply hK
            clear hK K
            simp only [andThen, leaves]
            refine DWp.cf (by simp [e3_0, e3_1, e3_2, e3_7, e3_8, bnot]) ?_
            refine DWp.exit ?_
            simp only [andThen, leaves, if_true, if_false, reduceIte, Nat.reduceEqDiff]
            obtain rfl := Option.some.inj hL9
            have S28 := S3_.pick [0] (by decide) rfl
            obtain rfl := Option.some.inj hL6
            exact ⟨S28, A3_, by simp [e3_0, e3_1, e3_2, e3_7, e3_8], by simp [e3_0, e3_1, e3_2, e3_7, e3_8], by simp [e3_0, e3_1, e3_2, e3_7, e3_8], by simp [e3_0, e3_1, e3_2, e3_7, e3_8], by simp [e3_0, e3_1, e3_2, e3_7, e3_8]⟩
      · rintro env Gj29 ⟨Sj29, Aj29, ej29_0, ej29_1, ej29_2, ej29_7, ej29_8⟩
        refine DWp.seq ?_
        refine DWp.seq ?_
        refine DWp.region fun K hK => ?_
        simp [-aBin', -aBin, -aBinI, -aUn, -aNil, -flatV, n_fn, b_add, b_sub, b_mul, b_lt, b_le, b_gt, b_ge, b_eq, b_ne, u_not, ej29_0, ej29_1, ej29_2, ej29_7, ej29_8]
        apply hK
        clear hK K
        simp only [andThen, leaves]
        refine DWp.cond' (t := (ieq s5 x2)) (by simp [ej29_0, ej29_1, ej29_2, ej29_7, ej29_8]) (fun hb30 => ?_) (fun hb30 => ?_)
        · replace hL2 := cd_t hb30 hL2
          refine DWp.seq ?_
          refine DWp.region fun K hK => ?_
          simp [-aBin', -aBin, -aBinI, -aUn, -aNil, -flatV, n_fn, b_add, b_sub, b_mul, b_lt, b_le, b_gt, b_ge, b_eq, b_ne, u_not, ej29_0, ej29_1, ej29_2, ej29_7, ej29_8]
          apply hK
          clear hK K
          simp only [andThen, leaves]
          refine DWp.ret ?_
          simp only [andThen, leaves]
          obtain rfl := Option.some.inj hL2
          simp only [lr] at hF
          obtain rfl := Option.some.inj hF
          exact ⟨by simp, [(Value.bool true)], by simp [ej29_0, ej29_1, ej29_2, ej29_7, ej29_8], Aj29, rfl, Sj29.pick [0] (by decide) rfl⟩
        · replace hL2 := cd_f hb30 hL2
          refine DWp.skip ?_
          simp only [andThen, leaves]
          refine DWp.seq ?_
          refine DWp.seq ?_
          refine DWp.region fun K hK => ?_
          simp [-aBin', -aBin, -aBinI, -aUn, -aNil, -flatV, n_fn, b_add, b_sub, b_mul, b_lt, b_le, b_gt, b_ge, b_eq, b_ne, u_not, ej29_0, ej29_1, ej29_2, ej29_7, ej29_8]
          apply hK
          clear hK K
          simp only [andThen, leaves]
          refine DWp.cond' (t := (ilt (isub .i64 x2 x1) 50)) (by simp [ej29_0, ej29_1, ej29_2, ej29_7, ej29_8]) (fun hb31 => ?_) (fun hb31 => ?_)
          · replace hL2 := cd_t hb31 hL2
            refine DWp.seq ?_
            refine DWp.region fun K hK => ?_
            simp [-aBin', -aBin, -aBinI, -aUn, -aNil, -flatV, n_fn, b_add, b_sub, b_mul, b_lt, b_le, b_gt, b_ge, b_eq, b_ne, u_not, ej29_0, ej29_1, ej29_2, ej29_7, ej29_8]
            apply hK
            clear hK K
            simp only [andThen, leaves]
            refine DWp.ret ?_
            simp only [andThen, leaves]
            obtain rfl := Option.some.inj hL2
            simp only [lr] at hF
            obtain rfl := Option.some.inj hF
            exact ⟨by simp, [(Value.bool false)], by simp [ej29_0, ej29_1, ej29_2, ej29_7, ej29_8], Aj29, rfl, Sj29.pick [0] (by decide) rfl⟩
          · replace hL2 := cd_f hb31 hL2
            refine DWp.skip ?_
            simp only [andThen, leaves]
            refine DWp.seq ?_
            obtain ⟨g32, hL2⟩ := gd_some hL2
            have q33 := idxG (P := Try.prog) (kk := .i64) (Sj29.sl (k := 0) rfl) el_22 sz_3 g32
            have q34 := loadG (P := Try.prog) (Sj29.sl (k := 0) rfl) sz_3 ag_3 g32 0
            obtain ⟨g35, hL2⟩ := gd_some hL2
            have q36 := idxG (P := Try.prog) (kk := .i64) (Sj29.sl (k := 0) rfl) el_22 sz_3 g35
            have q37 := loadG (P := Try.prog) (Sj29.sl (k := 0) rfl) sz_3 ag_3 g35 0
            obtain ⟨g38, hL2⟩ := gd_some hL2
            have q39 := idxG (P := Try.prog) (kk := .i64) (Sj29.sl (k := 0) rfl) el_22 sz_3 g38
            obtain ⟨G40, q41, S42, a44⟩ := Sj29.storeG (f := (Value.int .i64)) (P := Try.prog) (k := 0) (x := (gat 0 l1_0 (isub .i64 s5 1))) rfl (hB.le Aj29.1) sz_3 g38 rfl rfl
            have A43 := Aj29.trans a44
            replace S42 : Sep G40 B [flat v0 3 (ints (lset l1_0 s5 (gat 0 l1_0 (isub .i64 s5 1))))] := S42
            obtain ⟨g45, hL2⟩ := gd_some hL2
            have q46 := idxG (P := Try.prog) (kk := .i64) (S42.sl (k := 0) rfl) el_22 sz_3 g45
            obtain ⟨G47, q48, S49, a51⟩ := S42.storeG (f := (Value.int .i64)) (P := Try.prog) (k := 0) (x := (gat 0 l1_0 s5)) rfl (hB.le A43.1) sz_3 g45 rfl rfl
            have A50 := A43.trans a51
            replace S49 : Sep G47 B [flat v0 3 (ints (lset (lset l1_0 s5 (gat 0 l1_0 (isub .i64 s5 1))) (isub .i64 s5 1) (gat 0 l1_0 s5)))] := S49
            refine DWp.drawn (B := [0, 0, 0, 0, 8, 0, 0, 64, 224, 480, 0, 0, 3072, 7168, 16355, 32739, 65535, 131071]) 15 mixed (by kernel_rfl) (by decide) fun K hK => ?_
            simp [-aBin', -aBin, -aBinI, -aUn, -aNil, -flatV, n_fn, b_add, b_sub, b_mul, b_lt, b_le, b_gt, b_ge, b_eq, b_ne, u_not, ej29_0, ej29_1, ej29_2, ej29_7, ej29_8, q33, q34, q36, q37, q39, q41, q46, q48]
            apply hK
            clear hK K
            simp only [andThen, leaves]
            obtain ⟨s52, hL53, hL2⟩ := bd_some hL2
            refine DWp.seq (DWp.join (fun env G => Sep G B [flat v0 3 (ints s52)] ∧ AgB B H G ∧ env 0 = some v0 ∧ env 1 = some (Value.int .i64 x1) ∧ env 2 = some (Value.int .i64 x2) ∧ env 7 = some (Value.int .i64 s5) ∧ env 8 = some (Value.int .i64 y1_8)) ?_ ?_)
            ·
              refine DWp.seq ?_
              refine DWp.region fun K hK => ?_
              simp [-aBin', -aBin, -aBinI, -aUn, -aNil, -flatV, n_fn, b_add, b_sub, b_mul, b_lt, b_le, b_gt, b_ge, b_eq, b_ne, u_not, ej29_0, ej29_1, ej29_2, ej29_7, ej29_8]
              apply hK
              clear hK K
              simp only [andThen, leaves]
              refine DWp.cond' (t := (ile 2 (isub .i64 s5 x1))) (by simp [ej29_0, ej29_1, ej29_2, ej29_7, ej29_8]) (fun hb55 => ?_) (fun hb55 => ?_)
              · replace hL53 := cd_t hb55 hL53
                refine DWp.seq ?_
                refine DWp.region fun K hK => ?_
                simp [-aBin', -aBin, -aBinI, -aUn, -aNil, -flatV, n_fn, b_add, b_sub, b_mul, b_lt, b_le, b_gt, b_ge, b_eq, b_ne, u_not, ej29_0, ej29_1, ej29_2, ej29_7, ej29_8]
                apply hK
                clear hK K
                simp only [andThen, leaves]
                refine DWp.block ?_
                obtain ⟨s56, hL57, hL53⟩ := bd_some hL53
                have S58 := S49.pick [0] (by decide) rfl
                refine DWp.loop (fun n env G => ∃ l3_0 : List Int, ∃ y3_9 : Int, F_slices_partialInsertionSortOrdered_int_L3 fu x1 x2 s5 y1_8 n l3_0 y3_9 = some s56 ∧ Sep G B [flat v0 3 (ints l3_0)] ∧ AgB B H G ∧ env 0 = some v0 ∧ env 1 = some (Value.int .i64 x1) ∧ env 2 = some (Value.int .i64 x2) ∧ env 7 = some (Value.int .i64 s5) ∧ env 8 = some (Value.int .i64 y1_8) ∧ env 9 = some (Value.int .i64 y3_9)) fu ⟨(lset (lset l1_0 s5 (gat 0 l1_0 (isub .i64 s5 1))) (isub .i64 s5 1) (gat 0 l1_0 s5)), (isub .i64 s5 1), hL57, S58, A50, by simp [ej29_0, ej29_1, ej29_2, ej29_7, ej29_8], by simp [ej29_0, ej29_1, ej29_2, ej29_7, ej29_8], by simp [ej29_0, ej29_1, ej29_2, ej29_7, ej29_8], by simp [ej29_0, ej29_1, ej29_2, ej29_7, ej29_8], by simp [ej29_0, ej29_1, ej29_2, ej29_7, ej29_8], by simp [ej29_0, ej29_1, ej29_2, ej29_7, ej29_8]⟩ ?_
                rintro n3 env3 G3_ ⟨l3_0, y3_9, hL57, S3_, A3_, e3_0, e3_1, e3_2, e3_7, e3_8, e3_9⟩
                cases n3 with
                | zero => cases hL57
                | succ n3 =>
                  simp only [F_slices_partialInsertionSortOrdered_int_L3] at hL57
                  refine DWp.seq ?_
                  refine DWp.seq ?_
                  refine DWp.region fun K hK => ?_
                  simp [-aBin', -aBin, -aBinI, -aUn, -aNil, -flatV, n_fn, b_add, b_sub, b_mul, b_lt, b_le, b_gt, b_ge, b_eq, b_ne, u_not, e3_0, e3_1, e3_2, e3_7, e3_8, e3_9]
                  apply hK
                  clear hK K
                  simp only [andThen, leaves]
                  refine DWp.cond' (t := (ile 1 y3_9)) (by simp [e3_0, e3_1, e3_2, e3_7, e3_8, e3_9]) (fun hb59 => ?_) (fun hb59 => ?_)
                  · replace hL57 := cd_t hb59 hL57
                    refine DWp.skip ?_
                    simp only [andThen, leaves]
                    refine DWp.seq ?_
                    refine DWp.block ?_
                    refine DWp.seq ?_
                    refine DWp.seq ?_
                    obtain ⟨g60, hL57⟩ := gd_some hL57
                    have q61 := idxG (P := Try.prog) (kk := .i64) (S3_.sl (k := 0) rfl) el_22 sz_3 g60
                    have q62 := loadG (P := Try.prog) (S3_.sl (k := 0) rfl) sz_3 ag_3 g60 0
                    obtain ⟨g63, hL57⟩ := gd_some hL57
                    have q64 := idxG (P := Try.prog) (kk := .i64) (S3_.sl (k := 0) rfl) el_22 sz_3 g63
                    have q65 := loadG (P := Try.prog) (S3_.sl (k := 0) rfl) sz_3 ag_3 g63 0
                    obtain ⟨r2, hc66, hL57⟩ := bd_some hL57
                    refine DWp.drawn (B := [0, 0, 3, 7, 0, 0, 32, 112, 240, 511, 1023]) 11 mixed (by kernel_rfl) (by decide) fun K hK => ?_
                    simp [-aBin', -aBin, -aBinI, -aUn, -aNil, -flatV, n_fn, b_add, b_sub, b_mul, b_lt, b_le, b_gt, b_ge, b_eq, b_ne, u_not, e3_0, e3_1, e3_2, e3_7, e3_8, e3_9, q61, q62, q64, q65]
                    refine CallD.t (F_cmp_Less_int_w (fu := fu)  hc66) ?_
                    rintro _ G68 ⟨a71, rfl, S72⟩
                    have A70 := A3_.ext (hB.le A3_.1) a71.agree
                    have S69 : Sep G68 B [flat v0 3 (ints l3_0)] := S3_.app a71.agree S72 (fun _ h => h) (hB.le A3_.1)
                    simp [-aBin', -aBin, -aBinI, -aUn, -aNil, -flatV, n_fn, b_add, b_sub, b_mul, b_lt, b_le, b_gt, b_ge, b_eq, b_ne, u_not, e3_0, e3_1, e3_2, e3_7, e3_8, e3_9, q61, q62, q64, q65, a71.pre]
                    apply hK
                    clear hK K
                    simp only [andThen, leaves]
                    refine DWp.cond' (t := (bnot r2)) (by simp [e3_0, e3_1, e3_2, e3_7, e3_8, e3_9]) (fun hb73 => ?_) (fun hb73 => ?_)
                    · replace hL57 := cd_t hb73 hL57
                      refine DWp.exit ?_
                      simp only [andThen, leaves, if_true, if_false, reduceIte, Nat.reduceEqDiff]
                      obtain rfl := Option.some.inj hL57
                      try dsimp only at hL53
                      have S74 := S69.pick [0] (by decide) rfl
                      obtain rfl := Option.some.inj hL53
                      exact ⟨S74, A70, by simp [e3_0, e3_1, e3_2, e3_7, e3_8, e3_9], by simp [e3_0, e3_1, e3_2, e3_7, e3_8, e3_9], by simp [e3_0, e3_1, e3_2, e3_7, e3_8, e3_9], by simp [e3_0, e3_1, e3_2, e3_7, e3_8, e3_9], by simp [e3_0, e3_1, e3_2, e3_7, e3_8, e3_9]⟩
                    · replace hL57 := cd_f hb73 hL57
                      refine DWp.skip ?_
                      simp only [andThen, leaves]
                      obtain ⟨g75, hL57⟩ := gd_some hL57
                      have q76 := idxG (P := Try.prog) (kk := .i64) (S69.sl (k := 0) rfl) el_22 sz_3 g75
                      have q77 := loadG (P := Try.prog) (S69.sl (k := 0) rfl) sz_3 ag_3 g75 0
                      obtain ⟨g78, hL57⟩ := gd_some hL57
                      have q79 := idxG (P := Try.prog) (kk := .i64) (S69.sl (k := 0) rfl) el_22 sz_3 g78
                      have q80 := loadG (P := Try.prog) (S69.sl (k := 0) rfl) sz_3 ag_3 g78 0
                      obtain ⟨g81, hL57⟩ := gd_some hL57
                      have q82 := idxG (P := Try.prog) (kk := .i64) (S69.sl (k := 0) rfl) el_22 sz_3 g81
                      obtain ⟨G83, q84, S85, a87⟩ := S69.storeG (f := (Value.int .i64)) (P := Try.prog) (k := 0) (x := (gat 0 l3_0 (isub .i64 y3_9 1))) rfl (hB.le A70.1) sz_3 g81 rfl rfl
                      have A86 := A70.trans a87
                      replace S85 : Sep G83 B [flat v0 3 (ints (lset l3_0 y3_9 (gat 0 l3_0 (isub .i64 y3_9 1))))] := S85
                      obtain ⟨g88, hL57⟩ := gd_some hL57
                      have q89 := idxG (P := Try.prog) (kk := .i64) (S85.sl (k := 0) rfl) el_22 sz_3 g88
                      obtain ⟨G90, q91, S92, a94⟩ := S85.storeG (f := (Value.int .i64)) (P := Try.prog) (k := 0) (x := (gat 0 l3_0 y3_9)) rfl (hB.le A86.1) sz_3 g88 rfl rfl
                      have A93 := A86.trans a94
                      replace S92 : Sep G90 B [flat v0 3 (ints (lset (lset l3_0 y3_9 (gat 0 l3_0 (isub .i64 y3_9 1))) (isub .i64 y3_9 1) (gat 0 l3_0 y3_9)))] := S92
                      refine DWp.drawn (B := [0, 0, 0, 0, 8, 0, 0, 64, 224, 480, 0, 0, 3072, 7168, 16355, 32739, 65535, 131071]) 15 mixed (by kernel_rfl) (by decide) fun K hK => ?_
                      simp [-aBin', -aBin, -aBinI, -aUn, -aNil, -flatV, n_fn, b_add, b_sub, b_mul, b_lt, b_le, b_gt, b_ge, b_eq, b_ne, u_not, e3_0, e3_1, e3_2, e3_7, e3_8, e3_9, q76, q77, q79, q80, q82, q84, q89, q91]
                      apply hK
                      clear hK K
                      simp only [andThen, leaves]
                      refine DWp.region fun K hK => ?_
                      simp [-aBin', -aBin, -aBinI, -aUn, -aNil, -flatV, n_fn, b_add, b_sub, b_mul, b_lt, b_le, b_gt, b_ge, b_eq, b_ne, u_not, e3_0, e3_1, e3_2, e3_7, e3_8, e3_9]
                      apply hK
                      clear hK K
                      simp only [andThen, leaves]
                      have S95 := S92.pick [0] (by decide) rfl
                      exact ⟨n3, Nat.lt_succ_self _, (lset (lset l3_0 y3_9 (gat 0 l3_0 (isub .i64 y3_9 1))) (isub .i64 y3_9 1) (gat 0 l3_0 y3_9)), (isub .i64 y3_9 1), hL57, S95, A93, by simp [e3_0, e3_1, e3_2, e3_7, e3_8, e3_9], by simp [e3_0, e3_1, e3_2, e3_7, e3_8, e3_9], by simp [e3_0, e3_1, e3_2, e3_7, e3_8, e3_9], by simp [e3_0, e3_1, e3_2, e3_7, e3_8, e3_9], by simp [e3_0, e3_1, e3_2, e3_7, e3_8, e3_9], by simp [e3_0, e3_1, e3_2, e3_7, e3_8, e3_9]⟩
                  · replace hL57 := cd_f hb59 hL57
                    refine DWp.exit ?_
                    simp only [andThen, leaves, if_true, if_false, reduceIte, Nat.reduceEqDiff]
                    obtain rfl := Option.some.inj hL57
                    try dsimp only at hL53
                    have S96 := S3_.pick [0] (by decide) rfl
                    obtain rfl := Option.some.inj hL53
                    exact ⟨S96, A3_, by simp [e3_0, e3_1, e3_2, e3_7, e3_8, e3_9], by simp [e3_0, e3_1, e3_2, e3_7, e3_8, e3_9], by simp [e3_0, e3_1, e3_2, e3_7, e3_8, e3_9], by simp [e3_0, e3_1, e3_2, e3_7, e3_8, e3_9], by simp [e3_0, e3_1, e3_2, e3_7, e3_8, e3_9]⟩
              · replace hL53 := cd_f hb55 hL53
                refine DWp.skip ?_
                simp only [andThen, leaves]
                have S97 := S49.pick [0] (by decide) rfl
                obtain rfl := Option.some.inj hL53
                exact ⟨S97, A50, by simp [ej29_0, ej29_1, ej29_2, ej29_7, ej29_8], by simp [ej29_0, ej29_1, ej29_2, ej29_7, ej29_8], by simp [ej29_0, ej29_1, ej29_2, ej29_7, ej29_8], by simp [ej29_0, ej29_1, ej29_2, ej29_7, ej29_8], by simp [ej29_0, ej29_1, ej29_2, ej29_7, ej29_8]⟩
            · rintro env Gj98 ⟨Sj98, Aj98, ej98_0, ej98_1, ej98_2, ej98_7, ej98_8⟩
              refine DWp.seq ?_
              refine DWp.region fun K hK => ?_
              simp [-aBin', -aBin, -aBinI, -aUn, -aNil, -flatV, n_fn, b_add, b_sub, b_mul, b_lt, b_le, b_gt, b_ge, b_eq, b_ne, u_not, ej98_0, ej98_1, ej98_2, ej98_7, ej98_8]
              apply hK
              clear hK K
              simp only [andThen, leaves]
              refine DWp.cond' (t := (ile 2 (isub .i64 x2 s5))) (by simp [ej98_0, ej98_1, ej98_2, ej98_7, ej98_8]) (fun hb99 => ?_) (fun hb99 => ?_)
              · replace hL2 := cd_t hb99 hL2
                refine DWp.seq ?_
                refine DWp.region fun K hK => ?_
                simp [-aBin', -aBin, -aBinI, -aUn, -aNil, -flatV, n_fn, b_add, b_sub, b_mul, b_lt, b_le, b_gt, b_ge, b_eq, b_ne, u_not, ej98_0, ej98_1, ej98_2, ej98_7, ej98_8]
                apply hK
                clear hK K
                simp only [andThen, leaves]
                refine DWp.block ?_
                obtain ⟨s100, hL101, hL2⟩ := bd_some hL2
                have S102 := Sj98.pick [0] (by decide) rfl
                refine DWp.loop (fun n env G => ∃ l4_0 : List Int, ∃ y4_10 : Int, F_slices_partialInsertionSortOrdered_int_L4 fu x1 x2 s5 y1_8 n l4_0 y4_10 = some s100 ∧ Sep G B [flat v0 3 (ints l4_0)] ∧ AgB B H G ∧ env 0 = some v0 ∧ env 1 = some (Value.int .i64 x1) ∧ env 2 = some (Value.int .i64 x2) ∧ env 7 = some (Value.int .i64 s5) ∧ env 8 = some (Value.int .i64 y1_8) ∧ env 10 = some (Value.int .i64 y4_10)) fu ⟨s52, (iadd .i64 s5 1), hL101, S102, Aj98, by simp [ej98_0, ej98_1, ej98_2, ej98_7, ej98_8], by simp [ej98_0, ej98_1, ej98_2, ej98_7, ej98_8], by simp [ej98_0, ej98_1, ej98_2, ej98_7, ej98_8], by simp [ej98_0, ej98_1, ej98_2, ej98_7, ej98_8], by simp [ej98_0, ej98_1, ej98_2, ej98_7, ej98_8], by simp [ej98_0, ej98_1, ej98_2, ej98_7, ej98_8]⟩ ?_
                rintro n2 env2 G2_ ⟨l4_0, y4_10, hL101, S2_, A2_, e2_0, e2_1, e2_2, e2_7, e2_8, e2_10⟩
                cases n2 with
                | zero => cases hL101
                | succ n2 =>
                  simp only [F_slices_partialInsertionSortOrdered_int_L4] at hL101
                  refine DWp.seq ?_
                  refine DWp.seq ?_
                  refine DWp.region fun K hK => ?_
                  simp [-aBin', -aBin, -aBinI, -aUn, -aNil, -flatV, n_fn, b_add, b_sub, b_mul, b_lt, b_le, b_gt, b_ge, b_eq, b_ne, u_not, e2_0, e2_1, e2_2, e2_7, e2_8, e2_10]
                  apply hK
                  clear hK K
                  simp only [andThen, leaves]
                  refine DWp.cond' (t := (ilt y4_10 x2)) (by simp [e2_0, e2_1, e2_2, e2_7, e2_8, e2_10]) (fun hb103 => ?_) (fun hb103 => ?_)
                  · replace hL101 := cd_t hb103 hL101
                    refine DWp.skip ?_
                    simp only [andThen, leaves]
                    refine DWp.seq ?_
                    refine DWp.block ?_
                    refine DWp.seq ?_
                    refine DWp.seq ?_
                    obtain ⟨g104, hL101⟩ := gd_some hL101
                    have q105 := idxG (P := Try.prog) (kk := .i64) (S2_.sl (k := 0) rfl) el_22 sz_3 g104
                    have q106 := loadG (P := Try.prog) (S2_.sl (k := 0) rfl) sz_3 ag_3 g104 0
                    obtain ⟨g107, hL101⟩ := gd_some hL101
                    have q108 := idxG (P := Try.prog) (kk := .i64) (S2_.sl (k := 0) rfl) el_22 sz_3 g107
                    have q109 := loadG (P := Try.prog) (S2_.sl (k := 0) rfl) sz_3 ag_3 g107 0
                    obtain ⟨r3, hc110, hL101⟩ := bd_some hL101
                    refine DWp.drawn (B := [0, 0, 3, 7, 0, 0, 32, 112, 240, 511, 1023]) 11 mixed (by kernel_rfl) (by decide) fun K hK => ?_
                    simp [-aBin', -aBin, -aBinI, -aUn, -aNil, -flatV, n_fn, b_add, b_sub, b_mul, b_lt, b_le, b_gt, b_ge, b_eq, b_ne, u_not, e2_0, e2_1, e2_2, e2_7, e2_8, e2_10, q105, q106, q108, q109]
                    refine CallD.t (F_cmp_Less_int_w (fu := fu)  hc110) ?_
                    rintro _ G112 ⟨a115, rfl, S116⟩
                    have A114 := A2_.ext (hB.le A2_.1) a115.agree
                    have S113 : Sep G112 B [flat v0 3 (ints l4_0)] := S2_.app a115.agree S116 (fun _ h => h) (hB.le A2_.1)
                    simp [-aBin', -aBin, -aBinI, -aUn, -aNil, -flatV, n_fn, b_add, b_sub, b_mul, b_lt, b_le, b_gt, b_ge, b_eq, b_ne, u_not, e2_0, e2_1, e2_2, e2_7, e2_8, e2_10, q105, q106, q108, q109, a115.pre]
                    apply hK
                    clear hK K
                    simp only [andThen, leaves]
                    refine DWp.cond' (t := (bnot r3)) (by simp [e2_0, e2_1, e2_2, e2_7, e2_8, e2_10]) (fun hb117 => ?_) (fun hb117 => ?_)
                    · replace hL101 := cd_t hb117 hL101
                      refine DWp.exit ?_
                      simp only [andThen, leaves, if_true, if_false, reduceIte, Nat.reduceEqDiff]
                      obtain rfl := Option.some.inj hL101
                      try dsimp only at hL2
                      refine DWp.region fun K hK => ?_
                      simp [-aBin', -aBin, -aBinI, -aUn, -aNil, -flatV, n_fn, b_add, b_sub, b_mul, b_lt, b_le, b_gt, b_ge, b_eq, b_ne, u_not, e2_0, e2_1, e2_2, e2_7, e2_8, e2_10]
                      apply hK
                      clear hK K
                      simp only [andThen, leaves]
                      have S118 := S113.pick [0] (by decide) rfl
                      exact ⟨n1, Nat.lt_succ_self _, l4_0, s5, (iadd .i64 y1_8 1), hL2, S118, A114, by simp [e2_0, e2_1, e2_2, e2_7, e2_8, e2_10], by simp [e2_0, e2_1, e2_2, e2_7, e2_8, e2_10], by simp [e2_0, e2_1, e2_2, e2_7, e2_8, e2_10], by simp [e2_0, e2_1, e2_2, e2_7, e2_8, e2_10], by simp [e2_0, e2_1, e2_2, e2_7, e2_8, e2_10]⟩
                    · replace hL101 := cd_f hb117 hL101
                      refine DWp.skip ?_
                      simp only [andThen, leaves]
                      obtain ⟨g119, hL101⟩ := gd_some hL101
                      have q120 := idxG (P := Try.prog) (kk := .i64) (S113.sl (k := 0) rfl) el_22 sz_3 g119
                      have q121 := loadG (P := Try.prog) (S113.sl (k := 0) rfl) sz_3 ag_3 g119 0
                      obtain ⟨g122, hL101⟩ := gd_some hL101
                      have q123 := idxG (P := Try.prog) (kk := .i64) (S113.sl (k := 0) rfl) el_22 sz_3 g122
                      have q124 := loadG (P := Try.prog) (S113.sl (k := 0) rfl) sz_3 ag_3 g122 0
                      obtain ⟨g125, hL101⟩ := gd_some hL101
                      have q126 := idxG (P := Try.prog) (kk := .i64) (S113.sl (k := 0) rfl) el_22 sz_3 g125
                      obtain ⟨G127, q128, S129, a131⟩ := S113.storeG (f := (Value.int .i64)) (P := Try.prog) (k := 0) (x := (gat 0 l4_0 (isub .i64 y4_10 1))) rfl (hB.le A114.1) sz_3 g125 rfl rfl
                      have A130 := A114.trans a131
                      replace S129 : Sep G127 B [flat v0 3 (ints (lset l4_0 y4_10 (gat 0 l4_0 (isub .i64 y4_10 1))))] := S129
                      obtain ⟨g132, hL101⟩ := gd_some hL101
                      have q133 := idxG (P := Try.prog) (kk := .i64) (S129.sl (k := 0) rfl) el_22 sz_3 g132
                      obtain ⟨G134, q135, S136, a138⟩ := S129.storeG (f := (Value.int .i64)) (P := Try.prog) (k := 0) (x := (gat 0 l4_0 y4_10)) rfl (hB.le A130.1) sz_3 g132 rfl rfl
                      have A137 := A130.trans a138
                      replace S136 : Sep G134 B [flat v0 3 (ints (lset (lset l4_0 y4_10 (gat 0 l4_0 (isub .i64 y4_10 1))) (isub .i64 y4_10 1) (gat 0 l4_0 y4_10)))] := S136
                      refine DWp.drawn (B := [0, 0, 0, 0, 8, 0, 0, 64, 224, 480, 0, 0, 3072, 7168, 16355, 32739, 65535, 131071]) 15 mixed (by kernel_rfl) (by decide) fun K hK => ?_
                      simp [-aBin', -aBin, -aBinI, -aUn, -aNil, -flatV, n_fn, b_add, b_sub, b_mul, b_lt, b_le, b_gt, b_ge, b_eq, b_ne, u_not, e2_0, e2_1, e2_2, e2_7, e2_8, e2_10, q120, q121, q123, q124, q126, q128, q133, q135]
                      apply hK
                      clear hK K
                      simp only [andThen, leaves]
                      refine DWp.region fun K hK => ?_
                      simp [-aBin', -aBin, -aBinI, -aUn, -aNil, -flatV, n_fn, b_add, b_sub, b_mul, b_lt, b_le, b_gt, b_ge, b_eq, b_ne, u_not, e2_0, e2_1, e2_2, e2_7, e2_8, e2_10]
                      apply hK
                      clear hK K
                      simp only [andThen, leaves]
                      have S139 := S136.pick [0] (by decide) rfl
                      exact ⟨n2, Nat.lt_succ_self _, (lset (lset l4_0 y4_10 (gat 0 l4_0 (isub .i64 y4_10 1))) (isub .i64 y4_10 1) (gat 0 l4_0 y4_10)), (iadd .i64 y4_10 1), hL101, S139, A137, by simp [e2_0, e2_1, e2_2, e2_7, e2_8, e2_10], by simp [e2_0, e2_1, e2_2, e2_7, e2_8, e2_10], by simp [e2_0, e2_1, e2_2, e2_7, e2_8, e2_10], by simp [e2_0, e2_1, e2_2, e2_7, e2_8, e2_10], by simp [e2_0, e2_1, e2_2, e2_7, e2_8, e2_10], by simp [e2_0, e2_1, e2_2, e2_7, e2_8, e2_10]⟩
                  · replace hL101 := cd_f hb103 hL101
                    refine DWp.exit ?_
                    simp only [andThen, leaves, if_true, if_false, reduceIte, Nat.reduceEqDiff]
                    obtain rfl := Option.some.inj hL101
                    try dsimp only at hL2
                    refine DWp.region fun K hK => ?_
                    simp [-aBin', -aBin, -aBinI, -aUn, -aNil, -flatV, n_fn, b_add, b_sub, b_mul, b_lt, b_le, b_gt, b_ge, b_eq, b_ne, u_not, e2_0, e2_1, e2_2, e2_7, e2_8, e2_10]
                    apply hK
                    clear hK K
                    simp only [andThen, leaves]
                    have S140 := S2_.pick [0] (by decide) rfl
                    exact ⟨n1, Nat.lt_succ_self _, l4_0, s5, (iadd .i64 y1_8 1), hL2, S140, A2_, by simp [e2_0, e2_1, e2_2, e2_7, e2_8, e2_10], by simp [e2_0, e2_1, e2_2, e2_7, e2_8, e2_10], by simp [e2_0, e2_1, e2_2, e2_7, e2_8, e2_10], by simp [e2_0, e2_1, e2_2, e2_7, e2_8, e2_10], by simp [e2_0, e2_1, e2_2, e2_7, e2_8, e2_10]⟩
              · replace hL2 := cd_f hb99 hL2
                refine DWp.skip ?_
                simp only [andThen, leaves]
                refine DWp.region fun K hK => ?_
                simp [-aBin', -aBin, -aBinI, -aUn, -aNil, -flatV, n_fn, b_add, b_sub, b_mul, b_lt, b_le, b_gt, b_ge, b_eq, b_ne, u_not, ej98_0, ej98_1, ej98_2, ej98_7, ej98_8]
                apply hK
                clear hK K
                simp only [andThen, leaves]
                have S141 := Sj98.pick [0] (by decide) rfl
                exact ⟨n1, Nat.lt_succ_self _, s52, s5, (iadd .i64 y1_8 1), hL2, S141, Aj98, by simp [ej98_0, ej98_1, ej98_2, ej98_7, ej98_8], by simp [ej98_0, ej98_1, ej98_2, ej98_7, ej98_8], by simp [ej98_0, ej98_1, ej98_2, ej98_7, ej98_8], by simp [ej98_0, ej98_1, ej98_2, ej98_7, ej98_8], by simp [ej98_0, ej98_1, ej98_2, ej98_7, ej98_8]⟩
    · replace hL2 := cd_f hb4 hL2
      refine DWp.exit ?_
      simp only [andThen, leaves, if_true, if_false, reduceIte, Nat.reduceEqDiff]
      obtain rfl := Option.some.inj hL2
      simp only [lr] at hF
      refine DWp.seq ?_
      refine DWp.region fun K hK => ?_
      simp [-aBin', -aBin, -aBinI, -aUn, -aNil, -flatV, n_fn, b_add, b_sub, b_mul, b_lt, b_le, b_gt, b_ge, b_eq, b_ne, u_not, e1_0, e1_1, e1_2, e1_7, e1_8]
      apply hK
      clear hK K
      simp only [andThen, leaves]
      refine DWp.ret ?_
      obtain rfl := Option.some.inj hF
      exact ⟨by simp, [(Value.bool false)], by simp [e1_0, e1_1, e1_2, e1_7, e1_8], A1_, rfl, S1_.pick [0] (by decide) rfl⟩
end Go.Proofs.Ytfccbmpfnonjiaa.AL

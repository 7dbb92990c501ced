/- The walks of functions, each with its Lean function: slices.partitionEqualOrdered[int], slices.partitionOrdered[int], slices.pdqsortOrdered[int], slices.Sort[[]int,int], impl.Seaweed).groups, impl.Seaweed).index, impl.indexFor, impl.IndexOfThree, laws.FnExactIndexOfThree, spec.IndexOfTwo. No condition. -/
import Derived.Test.YtfccbmpfnonjiaaG1
import Derived.Test.YtfccbmpfnonjiaaG2
import Derived.Test.YtfccbmpfnonjiaaG3
import Derived.Test.YtfccbmpfnonjiaaAL30
import Derived.Test.YtfccbmpfnonjiaaProg
import Derived.KernelRfl
namespace Go.Proofs.Ytfccbmpfnonjiaa.AL
open Go Go.RowKit
set_option linter.unusedVariables false
set_option linter.unusedSimpArgs false
set_option maxRecDepth 4096
theorem ag_22 : aggT Try.prog 22 = some false := by kernel_rfl
theorem ag_26 : aggT Try.prog 26 = some true := by kernel_rfl
theorem ag_4 : aggT Try.prog 4 = some false := by kernel_rfl
theorem ei_22 : einfo Try.prog 22 = some ⟨1, 24, .slice none 0 0⟩ := by kernel_rfl
theorem ei_4 : einfo Try.prog 4 = some ⟨1, 1, .bool false⟩ := by kernel_rfl
theorem el_46 : elemT Try.prog 46 = some 22 := by kernel_rfl
theorem el_87 : elemT Try.prog 87 = some 4 := by kernel_rfl
theorem fa_26_0 : fldT Try.prog 26 0 = some 0 := by kernel_rfl
theorem fa_26_1 : fldT Try.prog 26 1 = some 1 := by kernel_rfl
theorem pl_26 : placeT Try.prog 26 = some (.agg #[.slice none 0 0, .slice none 0 0], fun i => [(0, 1), (1, 1)].toArray[i]?) := by kernel_rfl
theorem sz_22 : sizeT Try.prog 22 = some 1 := by kernel_rfl
theorem sz_26 : sizeT Try.prog 26 = some 2 := by kernel_rfl
theorem sz_4 : sizeT Try.prog 4 = some 1 := by kernel_rfl
theorem un_4 : Try.prog.underlying 4 = some .bool := by kernel_rfl
theorem bu_26 {a0 a1 : Value} (t0 : isTup a0 = false) (c0 : a0.cells = #[a0]) (t1 : isTup a1 = false) (c1 : a1.cells = #[a1]) : aBuild Try.prog 26 [(0, a0), (1, a1)] = some (.agg #[a0, a1]) := buildT2 pl_26 rfl rfl t0 c0 t1 c1
/-! slices.partitionEqualOrdered[int] -/
def F_slices_partitionEqualOrdered_int_L2 (fu : Nat) (k2_0 : List Int) (k2_1 : Int) (k2_2 : Int) : Nat → Int → Option (Int)
  | 0, _ => none
  | n + 1, y2_9 =>
    bif (ile y2_9 k2_2) then
      gd (inL k2_0 k2_1) (
      gd (inL k2_0 y2_9) (
      bd (F_cmp_Less_int fu (gat 0 k2_0 k2_1) (gat 0 k2_0 y2_9)) fun r1 =>
      bif (bnot r1) then
        F_slices_partitionEqualOrdered_int_L2 fu k2_0 k2_1 k2_2 n (iadd .i64 y2_9 1)
      else
        some y2_9))
    else
      some y2_9
def F_slices_partitionEqualOrdered_int_L3 (fu : Nat) (k3_0 : List Int) (k3_1 : Int) (k3_2 : Int) : Nat → Int → Option (Int)
  | 0, _ => none
  | n + 1, y3_10 =>
    bif (ile k3_2 y3_10) then
      gd (inL k3_0 k3_1) (
      gd (inL k3_0 y3_10) (
      bd (F_cmp_Less_int fu (gat 0 k3_0 k3_1) (gat 0 k3_0 y3_10)) fun r2 =>
      bif r2 then
        F_slices_partitionEqualOrdered_int_L3 fu k3_0 k3_1 k3_2 n (isub .i64 y3_10 1)
      else
        some y3_10))
    else
      some y3_10
def F_slices_partitionEqualOrdered_int_L1 (fu : Nat) (k1_0 : Int) : Nat → List Int → Int → Int → Option (List Int × Int × Int)
  | 0, _, _, _ => none
  | n + 1, l1_0, y1_9, y1_10 =>
    bd (
      bd (F_slices_partitionEqualOrdered_int_L2 fu l1_0 k1_0 y1_10 fu y1_9) fun s2 =>
      some s2) fun s24 =>
    bd (
      bd (F_slices_partitionEqualOrdered_int_L3 fu l1_0 k1_0 s24 fu y1_10) fun s3 =>
      some s3) fun s48 =>
    bif (ilt s48 s24) then
      some (l1_0, s24, s48)
    else
      gd (inL l1_0 s48) (
      gd (inL l1_0 s24) (
      gd (inL l1_0 s24) (
      gd (inL (lset l1_0 s24 (gat 0 l1_0 s48)) s48) (
      F_slices_partitionEqualOrdered_int_L1 fu k1_0 n (lset (lset l1_0 s24 (gat 0 l1_0 s48)) s48 (gat 0 l1_0 s24)) (iadd .i64 s24 1) (isub .i64 s48 1)))))
def F_slices_partitionEqualOrdered_int (fu : Nat) (x0 : List Int) (x1 : Int) (x2 : Int) (x3 : Int) : Option (Int × List Int) :=
  gd (inL x0 x3) (
  gd (inL x0 x1) (
  gd (inL x0 x1) (
  gd (inL (lset x0 x1 (gat 0 x0 x3)) x3) (
  bd (F_slices_partitionEqualOrdered_int_L1 fu x1 fu (lset (lset x0 x1 (gat 0 x0 x3)) x3 (gat 0 x0 x1)) (iadd .i64 x1 1) (isub .i64 x2 1)) fun s1 =>
  some (s1.2.1, s1.1)))))
theorem F_slices_partitionEqualOrdered_int_w {fu : Nat} {H : AH} {B : Nat → Prop} {v0 : Value} {x0 : List Int} {x1 : Int} {x2 : Int} {x3 : Int} {r : (Int × List Int)} (hB : Up B H.length) (S0 : Sep H B [flat v0 3 (ints x0)]) (hF : F_slices_partitionEqualOrdered_int fu x0 x1 x2 x3 = some r) :
    ACallT Try.prog 103 [v0, (Value.int .i64 x1), (Value.int .i64 x2), (Value.int .i64 x3)] H (fun u G => AgB B H G ∧ u = (Value.int .i64 r.1) ∧ Sep G B [flat v0 3 (ints r.2)]) := by
  refine ACallT.of_body (nt := 84) (rs := [.tmp 8]) Try.func103 rfl rfl rfl rfl ?_
  have A0 : AgB B H H := .refl _ _
  unfold F_slices_partitionEqualOrdered_int at hF
  refine DWp.seq ?_
  refine DWp.region fun K hK => ?_
  simp [-aBin', -aBin, -aBinI, -aUn, -aNil, -flatV, n_fn, b_add, b_sub, b_mul, b_lt, b_le, b_gt, b_ge, b_eq, b_ne, u_not]
  apply hK
  clear hK K
  simp only [andThen, leaves]
  refine DWp.seq ?_
  obtain ⟨g1, hF⟩ := gd_some hF
  have q2 := idxG (P := Try.prog) (kk := .i64) (S0.sl (k := 0) rfl) el_22 sz_3 g1
  have q3 := loadG (P := Try.prog) (S0.sl (k := 0) rfl) sz_3 ag_3 g1 0
  obtain ⟨g4, hF⟩ := gd_some hF
  have q5 := idxG (P := Try.prog) (kk := .i64) (S0.sl (k := 0) rfl) el_22 sz_3 g4
  have q6 := loadG (P := Try.prog) (S0.sl (k := 0) rfl) sz_3 ag_3 g4 0
  obtain ⟨g7, hF⟩ := gd_some hF
  have q8 := idxG (P := Try.prog) (kk := .i64) (S0.sl (k := 0) rfl) el_22 sz_3 g7
  obtain ⟨G9, q10, S11, a13⟩ := S0.storeG (f := (Value.int .i64)) (P := Try.prog) (k := 0) (x := (gat 0 x0 x3)) rfl (hB.le A0.1) sz_3 g7 rfl rfl
  have A12 := A0.trans a13
  replace S11 : Sep G9 B [flat v0 3 (ints (lset x0 x1 (gat 0 x0 x3)))] := S11
  obtain ⟨g14, hF⟩ := gd_some hF
  have q15 := idxG (P := Try.prog) (kk := .i64) (S11.sl (k := 0) rfl) el_22 sz_3 g14
  obtain ⟨G16, q17, S18, a20⟩ := S11.storeG (f := (Value.int .i64)) (P := Try.prog) (k := 0) (x := (gat 0 x0 x1)) rfl (hB.le A12.1) sz_3 g14 rfl rfl
  have A19 := A12.trans a20
  replace S18 : Sep G16 B [flat v0 3 (ints (lset (lset x0 x1 (gat 0 x0 x3)) x3 (gat 0 x0 x1)))] := S18
  refine DWp.drawn (B := [0, 0, 0, 0, 0, 0, 48, 112, 0, 0, 768, 1792, 4083, 8179, 16383, 32767]) 13 mixed (by kernel_rfl) (by decide) fun K hK => ?_
  simp [-aBin', -aBin, -aBinI, -aUn, -aNil, -flatV, n_fn, b_add, b_sub, b_mul, b_lt, b_le, b_gt, b_ge, b_eq, b_ne, u_not, q2, q3, q5, q6, q8, q10, q15, q17]
  apply hK
  clear hK K
  simp only [andThen, leaves]
  refine DWp.seq ?_
  refine DWp.region fun K hK => ?_
  simp [-aBin', -aBin, -aBinI, -aUn, -aNil, -flatV, n_fn, b_add, b_sub, b_mul, b_lt, b_le, b_gt, b_ge, b_eq, b_ne, u_not]
  apply hK
  clear hK K
  simp only [andThen, leaves]
  refine DWp.seq ?_
  refine DWp.block ?_
  obtain ⟨s21, hL22, hF⟩ := bd_some hF
  have S23 := S18.pick [0] (by decide) rfl
  refine DWp.loop (fun n env G => ∃ l1_0 : List Int, ∃ y1_9 : Int, ∃ y1_10 : Int, F_slices_partitionEqualOrdered_int_L1 fu x1 n l1_0 y1_9 y1_10 = some s21 ∧ Sep G B [flat v0 3 (ints l1_0)] ∧ AgB B H G ∧ env 0 = some v0 ∧ env 1 = some (Value.int .i64 x1) ∧ env 9 = some (Value.int .i64 y1_9) ∧ env 10 = some (Value.int .i64 y1_10)) fu ⟨(lset (lset x0 x1 (gat 0 x0 x3)) x3 (gat 0 x0 x1)), (iadd .i64 x1 1), (isub .i64 x2 1), hL22, S23, A19, by simp [], by simp [], by simp [], by simp []⟩ ?_
  rintro n1 env1 G1_ ⟨l1_0, y1_9, y1_10, hL22, S1_, A1_, e1_0, e1_1, e1_9, e1_10⟩
  cases n1 with
  | zero => cases hL22
  | succ n1 =>
    simp only [F_slices_partitionEqualOrdered_int_L1] at hL22
    refine DWp.block ?_
    obtain ⟨s24, hL25, hL22⟩ := bd_some hL22
    refine DWp.seq (DWp.join (fun env G => Sep G B [flat v0 3 (ints l1_0)] ∧ AgB B H G ∧ env 0 = some v0 ∧ env 1 = some (Value.int .i64 x1) ∧ env 9 = some (Value.int .i64 s24) ∧ env 10 = some (Value.int .i64 y1_10)) ?_ ?_)
    ·
      refine DWp.block ?_
      obtain ⟨s27, hL28, hL25⟩ := bd_some hL25
      have S29 := S1_.pick [0] (by decide) rfl
      refine DWp.loop (fun n env G => ∃ y2_9 : Int, F_slices_partitionEqualOrdered_int_L2 fu l1_0 x1 y1_10 n y2_9 = some s27 ∧ Sep G B [flat v0 3 (ints l1_0)] ∧ AgB B H G ∧ env 0 = some v0 ∧ env 1 = some (Value.int .i64 x1) ∧ env 9 = some (Value.int .i64 y2_9) ∧ env 10 = some (Value.int .i64 y1_10)) fu ⟨y1_9, hL28, S29, A1_, by simp [e1_0, e1_1, e1_9, e1_10], by simp [e1_0, e1_1, e1_9, e1_10], by simp [e1_0, e1_1, e1_9, e1_10], by simp [e1_0, e1_1, e1_9, e1_10]⟩ ?_
      rintro n3 env3 G3_ ⟨y2_9, hL28, S3_, A3_, e3_0, e3_1, e3_9, e3_10⟩
      cases n3 with
      | zero => cases hL28
      | succ n3 =>
        simp only [F_slices_partitionEqualOrdered_int_L2] at hL28
        refine DWp.seq ?_
        refine DWp.seq ?_
        rcases Bool.eq_false_or_eq_true (ile y2_9 y1_10) with hb30 | hb30
        · replace hL28 := cd_t hb30 hL28
          obtain ⟨g31, hL28⟩ := gd_some hL28
          have q32 := idxG (P := Try.prog) (kk := .i64) (S3_.sl (k := 0) rfl) el_22 sz_3 g31
          have q33 := loadG (P := Try.prog) (S3_.sl (k := 0) rfl) sz_3 ag_3 g31 0
          obtain ⟨g34, hL28⟩ := gd_some hL28
          have q35 := idxG (P := Try.prog) (kk := .i64) (S3_.sl (k := 0) rfl) el_22 sz_3 g34
          have q36 := loadG (P := Try.prog) (S3_.sl (k := 0) rfl) sz_3 ag_3 g34 0
          obtain ⟨r1, hc37, hL28⟩ := bd_some hL28
          refine DWp.drawn (B := [0, 0, 3, 7, 15, 15, 63, 127, 15, 15, 783, 1807, 4095, 8191, 16383]) 15 mixed (by kernel_rfl) (by decide) fun K hK => ?_
          simp [-aBin', -aBin, -aBinI, -aUn, -aNil, -flatV, n_fn, b_add, b_sub, b_mul, b_lt, b_le, b_gt, b_ge, b_eq, b_ne, u_not, e3_0, e3_1, e3_9, e3_10, hb30, q32, q33, q35, q36]
          refine CallD.t (F_cmp_Less_int_w (fu := fu)  hc37) ?_
          rintro _ G39 ⟨a42, rfl, S43⟩
          have A41 := A3_.ext (hB.le A3_.1) a42.agree
          have S40 : Sep G39 B [flat v0 3 (ints l1_0)] := S3_.app a42.agree S43 (fun _ h => h) (hB.le A3_.1)
          simp [-aBin', -aBin, -aBinI, -aUn, -aNil, -flatV, n_fn, b_add, b_sub, b_mul, b_lt, b_le, b_gt, b_ge, b_eq, b_ne, u_not, e3_0, e3_1, e3_9, e3_10, hb30, q32, q33, q35, q36, a42.pre]
          apply hK
          clear hK K
          simp only [andThen, leaves]
          refine DWp.cond' (t := (bnot r1)) (by simp [e3_0, e3_1, e3_9, e3_10]) (fun hb44 => ?_) (fun hb44 => ?_)
          · replace hL28 := cd_t hb44 hL28
            refine DWp.skip ?_
            simp only [andThen, leaves]
            refine DWp.block ?_
            refine DWp.region fun K hK => ?_
            simp [-aBin', -aBin, -aBinI, -aUn, -aNil, -flatV, n_fn, b_add, b_sub, b_mul, b_lt, b_le, b_gt, b_ge, b_eq, b_ne, u_not, e3_0, e3_1, e3_9, e3_10]
            apply hK
            clear hK K
            simp only [andThen, leaves]
            have S45 := S40.pick [0] (by decide) rfl
            exact ⟨n3, Nat.lt_succ_self _, (iadd .i64 y2_9 1), hL28, S45, A41, by simp [e3_0, e3_1, e3_9, e3_10], by simp [e3_0, e3_1, e3_9, e3_10], by simp [e3_0, e3_1, e3_9, e3_10], by simp [e3_0, e3_1, e3_9, e3_10]⟩
          · replace hL28 := cd_f hb44 hL28
            refine DWp.exit ?_
            simp only [andThen, leaves, if_true, if_false, reduceIte, Nat.reduceEqDiff]
            obtain rfl := Option.some.inj hL28
            have S46 := S40.pick [0] (by decide) rfl
            obtain rfl := Option.some.inj hL25
            exact ⟨S46, A41, by simp [e3_0, e3_1, e3_9, e3_10], by simp [e3_0, e3_1, e3_9, e3_10], by simp [e3_0, e3_1, e3_9, e3_10], by simp [e3_0, e3_1, e3_9, e3_10]⟩
        · replace hL28 := cd_f hb30 hL28
          refine DWp.drawn (B := [0, 0, 3, 7, 15, 15, 63, 127, 15, 15, 783, 1807, 4095, 8191, 16383]) 15 mixed (by kernel_rfl) (by decide) fun K hK => ?_
          simp [-aBin', -aBin, -aBinI, -aUn, -aNil, -flatV, n_fn, b_add, b_sub, b_mul, b_lt, b_le, b_gt, b_ge, b_eq, b_ne, u_not, e3_0, e3_1, e3_9, e3_10, hb30]
          apply hK
          clear hK K
          simp only [andThen, leaves]
          refine DWp.cf (by simp [e3_0, e3_1, e3_9, e3_10, bnot]) ?_
          refine DWp.exit ?_
          simp only [andThen, leaves, if_true, if_false, reduceIte, Nat.reduceEqDiff]
          obtain rfl := Option.some.inj hL28
          have S47 := S3_.pick [0] (by decide) rfl
          obtain rfl := Option.some.inj hL25
          exact ⟨S47, A3_, by simp [e3_0, e3_1, e3_9, e3_10], by simp [e3_0, e3_1, e3_9, e3_10], by simp [e3_0, e3_1, e3_9, e3_10], by simp [e3_0, e3_1, e3_9, e3_10]⟩
    · rintro env Gj48 ⟨Sj48, Aj48, ej48_0, ej48_1, ej48_9, ej48_10⟩
      obtain ⟨s49, hL50, hL22⟩ := bd_some hL22
      refine DWp.seq (DWp.join (fun env G => Sep G B [flat v0 3 (ints l1_0)] ∧ AgB B H G ∧ env 0 = some v0 ∧ env 1 = some (Value.int .i64 x1) ∧ env 9 = some (Value.int .i64 s24) ∧ env 10 = some (Value.int .i64 s49)) ?_ ?_)
      ·
        refine DWp.block ?_
        obtain ⟨s52, hL53, hL50⟩ := bd_some hL50
        have S54 := Sj48.pick [0] (by decide) rfl
        refine DWp.loop (fun n env G => ∃ y3_10 : Int, F_slices_partitionEqualOrdered_int_L3 fu l1_0 x1 s24 n y3_10 = some s52 ∧ Sep G B [flat v0 3 (ints l1_0)] ∧ AgB B H G ∧ env 0 = some v0 ∧ env 1 = some (Value.int .i64 x1) ∧ env 9 = some (Value.int .i64 s24) ∧ env 10 = some (Value.int .i64 y3_10)) fu ⟨y1_10, hL53, S54, Aj48, by simp [ej48_0, ej48_1, ej48_9, ej48_10], by simp [ej48_0, ej48_1, ej48_9, ej48_10], by simp [ej48_0, ej48_1, ej48_9, ej48_10], by simp [ej48_0, ej48_1, ej48_9, ej48_10]⟩ ?_
        rintro n3 env3 G3_ ⟨y3_10, hL53, S3_, A3_, e3_0, e3_1, e3_9, e3_10⟩
        cases n3 with
        | zero => cases hL53
        | succ n3 =>
          simp only [F_slices_partitionEqualOrdered_int_L3] at hL53
          refine DWp.seq ?_
          refine DWp.seq ?_
          rcases Bool.eq_false_or_eq_true (ile s24 y3_10) with hb55 | hb55
          · replace hL53 := cd_t hb55 hL53
            obtain ⟨g56, hL53⟩ := gd_some hL53
            have q57 := idxG (P := Try.prog) (kk := .i64) (S3_.sl (k := 0) rfl) el_22 sz_3 g56
            have q58 := loadG (P := Try.prog) (S3_.sl (k := 0) rfl) sz_3 ag_3 g56 0
            obtain ⟨g59, hL53⟩ := gd_some hL53
            have q60 := idxG (P := Try.prog) (kk := .i64) (S3_.sl (k := 0) rfl) el_22 sz_3 g59
            have q61 := loadG (P := Try.prog) (S3_.sl (k := 0) rfl) sz_3 ag_3 g59 0
            obtain ⟨r2, hc62, hL53⟩ := bd_some hL53
            refine DWp.drawn (B := [0, 0, 3, 7, 15, 15, 63, 127, 15, 15, 783, 1807, 4095, 8191]) 14 mixed (by kernel_rfl) (by decide) fun K hK => ?_
            simp [-aBin', -aBin, -aBinI, -aUn, -aNil, -flatV, n_fn, b_add, b_sub, b_mul, b_lt, b_le, b_gt, b_ge, b_eq, b_ne, u_not, e3_0, e3_1, e3_9, e3_10, hb55, q57, q58, q60, q61]
            refine CallD.t (F_cmp_Less_int_w (fu := fu)  hc62) ?_
            rintro _ G64 ⟨a67, rfl, S68⟩
            have A66 := A3_.ext (hB.le A3_.1) a67.agree
            have S65 : Sep G64 B [flat v0 3 (ints l1_0)] := S3_.app a67.agree S68 (fun _ h => h) (hB.le A3_.1)
            simp [-aBin', -aBin, -aBinI, -aUn, -aNil, -flatV, n_fn, b_add, b_sub, b_mul, b_lt, b_le, b_gt, b_ge, b_eq, b_ne, u_not, e3_0, e3_1, e3_9, e3_10, hb55, q57, q58, q60, q61, a67.pre]
            apply hK
            clear hK K
            simp only [andThen, leaves]
            refine DWp.cond' (t := r2) (by simp [e3_0, e3_1, e3_9, e3_10]) (fun hb69 => ?_) (fun hb69 => ?_)
            · replace hL53 := cd_t hb69 hL53
              refine DWp.skip ?_
              simp only [andThen, leaves]
              refine DWp.block ?_
              refine DWp.region fun K hK => ?_
              simp [-aBin', -aBin, -aBinI, -aUn, -aNil, -flatV, n_fn, b_add, b_sub, b_mul, b_lt, b_le, b_gt, b_ge, b_eq, b_ne, u_not, e3_0, e3_1, e3_9, e3_10]
              apply hK
              clear hK K
              simp only [andThen, leaves]
              have S70 := S65.pick [0] (by decide) rfl
              exact ⟨n3, Nat.lt_succ_self _, (isub .i64 y3_10 1), hL53, S70, A66, by simp [e3_0, e3_1, e3_9, e3_10], by simp [e3_0, e3_1, e3_9, e3_10], by simp [e3_0, e3_1, e3_9, e3_10], by simp [e3_0, e3_1, e3_9, e3_10]⟩
            · replace hL53 := cd_f hb69 hL53
              refine DWp.exit ?_
              simp only [andThen, leaves, if_true, if_false, reduceIte, Nat.reduceEqDiff]
              obtain rfl := Option.some.inj hL53
              have S71 := S65.pick [0] (by decide) rfl
              obtain rfl := Option.some.inj hL50
              exact ⟨S71, A66, by simp [e3_0, e3_1, e3_9, e3_10], by simp [e3_0, e3_1, e3_9, e3_10], by simp [e3_0, e3_1, e3_9, e3_10], by simp [e3_0, e3_1, e3_9, e3_10]⟩
          · replace hL53 := cd_f hb55 hL53
            refine DWp.drawn (B := [0, 0, 3, 7, 15, 15, 63, 127, 15, 15, 783, 1807, 4095, 8191]) 14 mixed (by kernel_rfl) (by decide) fun K hK => ?_
            simp [-aBin', -aBin, -aBinI, -aUn, -aNil, -flatV, n_fn, b_add, b_sub, b_mul, b_lt, b_le, b_gt, b_ge, b_eq, b_ne, u_not, e3_0, e3_1, e3_9, e3_10, hb55]
            apply hK
            clear hK K
            simp only [andThen, leaves]
            refine DWp.cf (by simp [e3_0, e3_1, e3_9, e3_10, bnot]) ?_
            refine DWp.exit ?_
            simp only [andThen, leaves, if_true, if_false, reduceIte, Nat.reduceEqDiff]
            obtain rfl := Option.some.inj hL53
            have S72 := S3_.pick [0] (by decide) rfl
            obtain rfl := Option.some.inj hL50
            exact ⟨S72, A3_, by simp [e3_0, e3_1, e3_9, e3_10], by simp [e3_0, e3_1, e3_9, e3_10], by simp [e3_0, e3_1, e3_9, e3_10], by simp [e3_0, e3_1, e3_9, e3_10]⟩
      · rintro env Gj73 ⟨Sj73, Aj73, ej73_0, ej73_1, ej73_9, ej73_10⟩
        refine DWp.seq ?_
        refine DWp.seq ?_
        refine DWp.region fun K hK => ?_
        simp [-aBin', -aBin, -aBinI, -aUn, -aNil, -flatV, n_fn, b_add, b_sub, b_mul, b_lt, b_le, b_gt, b_ge, b_eq, b_ne, u_not, ej73_0, ej73_1, ej73_9, ej73_10]
        apply hK
        clear hK K
        simp only [andThen, leaves]
        refine DWp.cond' (t := (ilt s49 s24)) (by simp [ej73_0, ej73_1, ej73_9, ej73_10]) (fun hb74 => ?_) (fun hb74 => ?_)
        · replace hL22 := cd_t hb74 hL22
          refine DWp.exit ?_
          simp only [andThen, leaves, if_true, if_false, reduceIte, Nat.reduceEqDiff]
          obtain rfl := Option.some.inj hL22
          try dsimp only at hF
          refine DWp.seq ?_
          refine DWp.region fun K hK => ?_
          simp [-aBin', -aBin, -aBinI, -aUn, -aNil, -flatV, n_fn, b_add, b_sub, b_mul, b_lt, b_le, b_gt, b_ge, b_eq, b_ne, u_not, ej73_0, ej73_1, ej73_9, ej73_10]
          apply hK
          clear hK K
          simp only [andThen, leaves]
          refine DWp.ret ?_
          obtain rfl := Option.some.inj hF
          exact ⟨by simp, [(Value.int .i64 s24)], by simp [ej73_0, ej73_1, ej73_9, ej73_10], Aj73, rfl, Sj73.pick [0] (by decide) rfl⟩
        · replace hL22 := cd_f hb74 hL22
          refine DWp.skip ?_
          simp only [andThen, leaves]
          refine DWp.seq ?_
          obtain ⟨g75, hL22⟩ := gd_some hL22
          have q76 := idxG (P := Try.prog) (kk := .i64) (Sj73.sl (k := 0) rfl) el_22 sz_3 g75
          have q77 := loadG (P := Try.prog) (Sj73.sl (k := 0) rfl) sz_3 ag_3 g75 0
          obtain ⟨g78, hL22⟩ := gd_some hL22
          have q79 := idxG (P := Try.prog) (kk := .i64) (Sj73.sl (k := 0) rfl) el_22 sz_3 g78
          have q80 := loadG (P := Try.prog) (Sj73.sl (k := 0) rfl) sz_3 ag_3 g78 0
          obtain ⟨g81, hL22⟩ := gd_some hL22
          have q82 := idxG (P := Try.prog) (kk := .i64) (Sj73.sl (k := 0) rfl) el_22 sz_3 g81
          obtain ⟨G83, q84, S85, a87⟩ := Sj73.storeG (f := (Value.int .i64)) (P := Try.prog) (k := 0) (x := (gat 0 l1_0 s49)) rfl (hB.le Aj73.1) sz_3 g81 rfl rfl
          have A86 := Aj73.trans a87
          replace S85 : Sep G83 B [flat v0 3 (ints (lset l1_0 s24 (gat 0 l1_0 s49)))] := S85
          obtain ⟨g88, hL22⟩ := gd_some hL22
          have q89 := idxG (P := Try.prog) (kk := .i64) (S85.sl (k := 0) rfl) el_22 sz_3 g88
          obtain ⟨G90, q91, S92, a94⟩ := S85.storeG (f := (Value.int .i64)) (P := Try.prog) (k := 0) (x := (gat 0 l1_0 s24)) rfl (hB.le A86.1) sz_3 g88 rfl rfl
          have A93 := A86.trans a94
          replace S92 : Sep G90 B [flat v0 3 (ints (lset (lset l1_0 s24 (gat 0 l1_0 s49)) s49 (gat 0 l1_0 s24)))] := S92
          refine DWp.drawn (B := [0, 0, 0, 0, 0, 0, 48, 112, 0, 0, 768, 1792, 4083, 8179, 16383, 32767]) 13 mixed (by kernel_rfl) (by decide) fun K hK => ?_
          simp [-aBin', -aBin, -aBinI, -aUn, -aNil, -flatV, n_fn, b_add, b_sub, b_mul, b_lt, b_le, b_gt, b_ge, b_eq, b_ne, u_not, ej73_0, ej73_1, ej73_9, ej73_10, q76, q77, q79, q80, q82, q84, q89, q91]
          apply hK
          clear hK K
          simp only [andThen, leaves]
          refine DWp.seq ?_
          refine DWp.region fun K hK => ?_
          simp [-aBin', -aBin, -aBinI, -aUn, -aNil, -flatV, n_fn, b_add, b_sub, b_mul, b_lt, b_le, b_gt, b_ge, b_eq, b_ne, u_not, ej73_0, ej73_1, ej73_9, ej73_10]
          apply hK
          clear hK K
          simp only [andThen, leaves]
          refine DWp.region fun K hK => ?_
          simp [-aBin', -aBin, -aBinI, -aUn, -aNil, -flatV, n_fn, b_add, b_sub, b_mul, b_lt, b_le, b_gt, b_ge, b_eq, b_ne, u_not, ej73_0, ej73_1, ej73_9, ej73_10]
          apply hK
          clear hK K
          simp only [andThen, leaves]
          have S95 := S92.pick [0] (by decide) rfl
          exact ⟨n1, Nat.lt_succ_self _, (lset (lset l1_0 s24 (gat 0 l1_0 s49)) s49 (gat 0 l1_0 s24)), (iadd .i64 s24 1), (isub .i64 s49 1), hL22, S95, A93, by simp [ej73_0, ej73_1, ej73_9, ej73_10], by simp [ej73_0, ej73_1, ej73_9, ej73_10], by simp [ej73_0, ej73_1, ej73_9, ej73_10], by simp [ej73_0, ej73_1, ej73_9, ej73_10]⟩
/-! slices.partitionOrdered[int] -/
def F_slices_partitionOrdered_int_L1 (fu : Nat) (k1_0 : List Int) (k1_1 : Int) (k1_2 : Int) : Nat → Int → Option (Int)
  | 0, _ => none
  | n + 1, y1_10 =>
    bif (ile y1_10 k1_2) then
      gd (inL k1_0 y1_10) (
      gd (inL k1_0 k1_1) (
      bd (F_cmp_Less_int fu (gat 0 k1_0 y1_10) (gat 0 k1_0 k1_1)) fun r1 =>
      bif r1 then
        F_slices_partitionOrdered_int_L1 fu k1_0 k1_1 k1_2 n (iadd .i64 y1_10 1)
      else
        some y1_10))
    else
      some y1_10
def F_slices_partitionOrdered_int_L2 (fu : Nat) (k2_0 : List Int) (k2_1 : Int) (k2_2 : Int) : Nat → Int → Option (Int)
  | 0, _ => none
  | n + 1, y2_11 =>
    bif (ile k2_2 y2_11) then
      gd (inL k2_0 y2_11) (
      gd (inL k2_0 k2_1) (
      bd (F_cmp_Less_int fu (gat 0 k2_0 y2_11) (gat 0 k2_0 k2_1)) fun r2 =>
      bif (bnot r2) then
        F_slices_partitionOrdered_int_L2 fu k2_0 k2_1 k2_2 n (isub .i64 y2_11 1)
      else
        some y2_11))
    else
      some y2_11
def F_slices_partitionOrdered_int_L4 (fu : Nat) (k4_0 : List Int) (k4_1 : Int) (k4_2 : Int) : Nat → Int → Option (Int)
  | 0, _ => none
  | n + 1, y4_10 =>
    bif (ile y4_10 k4_2) then
      gd (inL k4_0 y4_10) (
      gd (inL k4_0 k4_1) (
      bd (F_cmp_Less_int fu (gat 0 k4_0 y4_10) (gat 0 k4_0 k4_1)) fun r3 =>
      bif r3 then
        F_slices_partitionOrdered_int_L4 fu k4_0 k4_1 k4_2 n (iadd .i64 y4_10 1)
      else
        some y4_10))
    else
      some y4_10
def F_slices_partitionOrdered_int_L5 (fu : Nat) (k5_0 : List Int) (k5_1 : Int) (k5_2 : Int) : Nat → Int → Option (Int)
  | 0, _ => none
  | n + 1, y5_11 =>
    bif (ile k5_2 y5_11) then
      gd (inL k5_0 y5_11) (
      gd (inL k5_0 k5_1) (
      bd (F_cmp_Less_int fu (gat 0 k5_0 y5_11) (gat 0 k5_0 k5_1)) fun r4 =>
      bif (bnot r4) then
        F_slices_partitionOrdered_int_L5 fu k5_0 k5_1 k5_2 n (isub .i64 y5_11 1)
      else
        some y5_11))
    else
      some y5_11
def F_slices_partitionOrdered_int_L3 (fu : Nat) (k3_0 : Int) : Nat → List Int → Int → Int → Option (List Int × Int × Int)
  | 0, _, _, _ => none
  | n + 1, l3_0, y3_10, y3_11 =>
    bd (
      bd (F_slices_partitionOrdered_int_L4 fu l3_0 k3_0 y3_11 fu y3_10) fun s4 =>
      some s4) fun s113 =>
    bd (
      bd (F_slices_partitionOrdered_int_L5 fu l3_0 k3_0 s113 fu y3_11) fun s5 =>
      some s5) fun s137 =>
    bif (ilt s137 s113) then
      some (l3_0, s113, s137)
    else
      gd (inL l3_0 s137) (
      gd (inL l3_0 s113) (
      gd (inL l3_0 s113) (
      gd (inL (lset l3_0 s113 (gat 0 l3_0 s137)) s137) (
      F_slices_partitionOrdered_int_L3 fu k3_0 n (lset (lset l3_0 s113 (gat 0 l3_0 s137)) s137 (gat 0 l3_0 s113)) (iadd .i64 s113 1) (isub .i64 s137 1)))))
def F_slices_partitionOrdered_int (fu : Nat) (x0 : List Int) (x1 : Int) (x2 : Int) (x3 : Int) : Option (Int × Bool × List Int) :=
  gd (inL x0 x3) (
  gd (inL x0 x1) (
  gd (inL x0 x1) (
  gd (inL (lset x0 x1 (gat 0 x0 x3)) x3) (
  bd (
    bd (F_slices_partitionOrdered_int_L1 fu (lset (lset x0 x1 (gat 0 x0 x3)) x3 (gat 0 x0 x1)) x1 (isub .i64 x2 1) fu (iadd .i64 x1 1)) fun s1 =>
    some s1) fun s21 =>
  bd (
    bd (F_slices_partitionOrdered_int_L2 fu (lset (lset x0 x1 (gat 0 x0 x3)) x3 (gat 0 x0 x1)) x1 s21 fu (isub .i64 x2 1)) fun s2 =>
    some s2) fun s45 =>
  bif (ilt s45 s21) then
    gd (inL (lset (lset x0 x1 (gat 0 x0 x3)) x3 (gat 0 x0 x1)) x1) (
    gd (inL (lset (lset x0 x1 (gat 0 x0 x3)) x3 (gat 0 x0 x1)) s45) (
    gd (inL (lset (lset x0 x1 (gat 0 x0 x3)) x3 (gat 0 x0 x1)) s45) (
    gd (inL (lset (lset (lset x0 x1 (gat 0 x0 x3)) x3 (gat 0 x0 x1)) s45 (gat 0 (lset (lset x0 x1 (gat 0 x0 x3)) x3 (gat 0 x0 x1)) x1)) x1) (
    some (s45, true, (lset (lset (lset (lset x0 x1 (gat 0 x0 x3)) x3 (gat 0 x0 x1)) s45 (gat 0 (lset (lset x0 x1 (gat 0 x0 x3)) x3 (gat 0 x0 x1)) x1)) x1 (gat 0 (lset (lset x0 x1 (gat 0 x0 x3)) x3 (gat 0 x0 x1)) s45)))))))
  else
    gd (inL (lset (lset x0 x1 (gat 0 x0 x3)) x3 (gat 0 x0 x1)) s45) (
    gd (inL (lset (lset x0 x1 (gat 0 x0 x3)) x3 (gat 0 x0 x1)) s21) (
    gd (inL (lset (lset x0 x1 (gat 0 x0 x3)) x3 (gat 0 x0 x1)) s21) (
    gd (inL (lset (lset (lset x0 x1 (gat 0 x0 x3)) x3 (gat 0 x0 x1)) s21 (gat 0 (lset (lset x0 x1 (gat 0 x0 x3)) x3 (gat 0 x0 x1)) s45)) s45) (
    bd (F_slices_partitionOrdered_int_L3 fu x1 fu (lset (lset (lset (lset x0 x1 (gat 0 x0 x3)) x3 (gat 0 x0 x1)) s21 (gat 0 (lset (lset x0 x1 (gat 0 x0 x3)) x3 (gat 0 x0 x1)) s45)) s45 (gat 0 (lset (lset x0 x1 (gat 0 x0 x3)) x3 (gat 0 x0 x1)) s21)) (iadd .i64 s21 1) (isub .i64 s45 1)) fun s3 =>
    gd (inL s3.1 x1) (
    gd (inL s3.1 s3.2.2) (
    gd (inL s3.1 s3.2.2) (
    gd (inL (lset s3.1 s3.2.2 (gat 0 s3.1 x1)) x1) (
    some (s3.2.2, false, (lset (lset s3.1 s3.2.2 (gat 0 s3.1 x1)) x1 (gat 0 s3.1 s3.2.2)))))))))))))))
theorem F_slices_partitionOrdered_int_w {fu : Nat} {H : AH} {B : Nat → Prop} {v0 : Value} {x0 : List Int} {x1 : Int} {x2 : Int} {x3 : Int} {r : (Int × Bool × List Int)} (hB : Up B H.length) (S0 : Sep H B [flat v0 3 (ints x0)]) (hF : F_slices_partitionOrdered_int fu x0 x1 x2 x3 = some r) :
    ACallT Try.prog 104 [v0, (Value.int .i64 x1), (Value.int .i64 x2), (Value.int .i64 x3)] H (fun u G => AgB B H G ∧ u = (Value.tuple #[(Value.int .i64 r.1), (Value.bool r.2.1)]) ∧ Sep G B [flat v0 3 (ints r.2.2)]) := by
  refine ACallT.of_body (nt := 168) (rs := [.tmp 8, .tmp 9]) Try.func104 rfl rfl rfl rfl ?_
  have A0 : AgB B H H := .refl _ _
  unfold F_slices_partitionOrdered_int at hF
  refine DWp.seq ?_
  refine DWp.region fun K hK => ?_
  simp [-aBin', -aBin, -aBinI, -aUn, -aNil, -flatV, n_fn, b_add, b_sub, b_mul, b_lt, b_le, b_gt, b_ge, b_eq, b_ne, u_not]
  apply hK
  clear hK K
  simp only [andThen, leaves]
  refine DWp.seq ?_
  obtain ⟨g1, hF⟩ := gd_some hF
  have q2 := idxG (P := Try.prog) (kk := .i64) (S0.sl (k := 0) rfl) el_22 sz_3 g1
  have q3 := loadG (P := Try.prog) (S0.sl (k := 0) rfl) sz_3 ag_3 g1 0
  obtain ⟨g4, hF⟩ := gd_some hF
  have q5 := idxG (P := Try.prog) (kk := .i64) (S0.sl (k := 0) rfl) el_22 sz_3 g4
  have q6 := loadG (P := Try.prog) (S0.sl (k := 0) rfl) sz_3 ag_3 g4 0
  obtain ⟨g7, hF⟩ := gd_some hF
  have q8 := idxG (P := Try.prog) (kk := .i64) (S0.sl (k := 0) rfl) el_22 sz_3 g7
  obtain ⟨G9, q10, S11, a13⟩ := S0.storeG (f := (Value.int .i64)) (P := Try.prog) (k := 0) (x := (gat 0 x0 x3)) rfl (hB.le A0.1) sz_3 g7 rfl rfl
  have A12 := A0.trans a13
  replace S11 : Sep G9 B [flat v0 3 (ints (lset x0 x1 (gat 0 x0 x3)))] := S11
  obtain ⟨g14, hF⟩ := gd_some hF
  have q15 := idxG (P := Try.prog) (kk := .i64) (S11.sl (k := 0) rfl) el_22 sz_3 g14
  obtain ⟨G16, q17, S18, a20⟩ := S11.storeG (f := (Value.int .i64)) (P := Try.prog) (k := 0) (x := (gat 0 x0 x1)) rfl (hB.le A12.1) sz_3 g14 rfl rfl
  have A19 := A12.trans a20
  replace S18 : Sep G16 B [flat v0 3 (ints (lset (lset x0 x1 (gat 0 x0 x3)) x3 (gat 0 x0 x1)))] := S18
  refine DWp.drawn (B := [0, 0, 0, 0, 0, 0, 48, 112, 0, 0, 768, 1792, 4083, 8179, 16383, 32767]) 13 mixed (by kernel_rfl) (by decide) fun K hK => ?_
  simp [-aBin', -aBin, -aBinI, -aUn, -aNil, -flatV, n_fn, b_add, b_sub, b_mul, b_lt, b_le, b_gt, b_ge, b_eq, b_ne, u_not, q2, q3, q5, q6, q8, q10, q15, q17]
  apply hK
  clear hK K
  simp only [andThen, leaves]
  refine DWp.seq ?_
  refine DWp.region fun K hK => ?_
  simp [-aBin', -aBin, -aBinI, -aUn, -aNil, -flatV, n_fn, b_add, b_sub, b_mul, b_lt, b_le, b_gt, b_ge, b_eq, b_ne, u_not]
  apply hK
  clear hK K
  simp only [andThen, leaves]
  obtain ⟨s21, hL22, hF⟩ := bd_some hF
  refine DWp.seq (DWp.join (fun env G => Sep G B [flat v0 3 (ints (lset (lset x0 x1 (gat 0 x0 x3)) x3 (gat 0 x0 x1)))] ∧ AgB B H G ∧ env 0 = some v0 ∧ env 1 = some (Value.int .i64 x1) ∧ env 10 = some (Value.int .i64 s21) ∧ env 11 = some (Value.int .i64 (isub .i64 x2 1))) ?_ ?_)
  ·
    refine DWp.block ?_
    obtain ⟨s24, hL25, hL22⟩ := bd_some hL22
    have S26 := S18.pick [0] (by decide) rfl
    refine DWp.loop (fun n env G => ∃ y1_10 : Int, F_slices_partitionOrdered_int_L1 fu (lset (lset x0 x1 (gat 0 x0 x3)) x3 (gat 0 x0 x1)) x1 (isub .i64 x2 1) n y1_10 = some s24 ∧ Sep G B [flat v0 3 (ints (lset (lset x0 x1 (gat 0 x0 x3)) x3 (gat 0 x0 x1)))] ∧ AgB B H G ∧ env 0 = some v0 ∧ env 1 = some (Value.int .i64 x1) ∧ env 10 = some (Value.int .i64 y1_10) ∧ env 11 = some (Value.int .i64 (isub .i64 x2 1))) fu ⟨(iadd .i64 x1 1), hL25, S26, A19, by simp [], by simp [], by simp [], by simp []⟩ ?_
    rintro n2 env2 G2_ ⟨y1_10, hL25, S2_, A2_, e2_0, e2_1, e2_10, e2_11⟩
    cases n2 with
    | zero => cases hL25
    | succ n2 =>
      simp only [F_slices_partitionOrdered_int_L1] at hL25
      refine DWp.seq ?_
      refine DWp.seq ?_
      rcases Bool.eq_false_or_eq_true (ile y1_10 (isub .i64 x2 1)) with hb27 | hb27
      · replace hL25 := cd_t hb27 hL25
        obtain ⟨g28, hL25⟩ := gd_some hL25
        have q29 := idxG (P := Try.prog) (kk := .i64) (S2_.sl (k := 0) rfl) el_22 sz_3 g28
        have q30 := loadG (P := Try.prog) (S2_.sl (k := 0) rfl) sz_3 ag_3 g28 0
        obtain ⟨g31, hL25⟩ := gd_some hL25
        have q32 := idxG (P := Try.prog) (kk := .i64) (S2_.sl (k := 0) rfl) el_22 sz_3 g31
        have q33 := loadG (P := Try.prog) (S2_.sl (k := 0) rfl) sz_3 ag_3 g31 0
        obtain ⟨r1, hc34, hL25⟩ := bd_some hL25
        refine DWp.drawn (B := [0, 0, 3, 7, 15, 15, 63, 127, 15, 15, 783, 1807, 4095, 8191]) 14 mixed (by kernel_rfl) (by decide) fun K hK => ?_
        simp [-aBin', -aBin, -aBinI, -aUn, -aNil, -flatV, n_fn, b_add, b_sub, b_mul, b_lt, b_le, b_gt, b_ge, b_eq, b_ne, u_not, e2_0, e2_1, e2_10, e2_11, hb27, q29, q30, q32, q33]
        refine CallD.t (F_cmp_Less_int_w (fu := fu)  hc34) ?_
        rintro _ G36 ⟨a39, rfl, S40⟩
        have A38 := A2_.ext (hB.le A2_.1) a39.agree
        have S37 : Sep G36 B [flat v0 3 (ints (lset (lset x0 x1 (gat 0 x0 x3)) x3 (gat 0 x0 x1)))] := S2_.app a39.agree S40 (fun _ h => h) (hB.le A2_.1)
        simp [-aBin', -aBin, -aBinI, -aUn, -aNil, -flatV, n_fn, b_add, b_sub, b_mul, b_lt, b_le, b_gt, b_ge, b_eq, b_ne, u_not, e2_0, e2_1, e2_10, e2_11, hb27, q29, q30, q32, q33, a39.pre]
        apply hK
        clear hK K
        simp only [andThen, leaves]
        refine DWp.cond' (t := r1) (by simp [e2_0, e2_1, e2_10, e2_11]) (fun hb41 => ?_) (fun hb41 => ?_)
        · replace hL25 := cd_t hb41 hL25
          refine DWp.skip ?_
          simp only [andThen, leaves]
          refine DWp.block ?_
          refine DWp.region fun K hK => ?_
          simp [-aBin', -aBin, -aBinI, -aUn, -aNil, -flatV, n_fn, b_add, b_sub, b_mul, b_lt, b_le, b_gt, b_ge, b_eq, b_ne, u_not, e2_0, e2_1, e2_10, e2_11]
          apply hK
          clear hK K
          simp only [andThen, leaves]
          have S42 := S37.pick [0] (by decide) rfl
          exact ⟨n2, Nat.lt_succ_self _, (iadd .i64 y1_10 1), hL25, S42, A38, by simp [e2_0, e2_1, e2_10, e2_11], by simp [e2_0, e2_1, e2_10, e2_11], by simp [e2_0, e2_1, e2_10, e2_11], by simp [e2_0, e2_1, e2_10, e2_11]⟩
        · replace hL25 := cd_f hb41 hL25
          refine DWp.exit ?_
          simp only [andThen, leaves, if_true, if_false, reduceIte, Nat.reduceEqDiff]
          obtain rfl := Option.some.inj hL25
          have S43 := S37.pick [0] (by decide) rfl
          obtain rfl := Option.some.inj hL22
          exact ⟨S43, A38, by simp [e2_0, e2_1, e2_10, e2_11], by simp [e2_0, e2_1, e2_10, e2_11], by simp [e2_0, e2_1, e2_10, e2_11], by simp [e2_0, e2_1, e2_10, e2_11]⟩
      · replace hL25 := cd_f hb27 hL25
        refine DWp.drawn (B := [0, 0, 3, 7, 15, 15, 63, 127, 15, 15, 783, 1807, 4095, 8191]) 14 mixed (by kernel_rfl) (by decide) fun K hK => ?_
        simp [-aBin', -aBin, -aBinI, -aUn, -aNil, -flatV, n_fn, b_add, b_sub, b_mul, b_lt, b_le, b_gt, b_ge, b_eq, b_ne, u_not, e2_0, e2_1, e2_10, e2_11, hb27]
        apply hK
        clear hK K
        simp only [andThen, leaves]
        refine DWp.cf (by simp [e2_0, e2_1, e2_10, e2_11, bnot]) ?_
        refine DWp.exit ?_
        simp only [andThen, leaves, if_true, if_false, reduceIte, Nat.reduceEqDiff]
        obtain rfl := Option.some.inj hL25
        have S44 := S2_.pick [0] (by decide) rfl
        obtain rfl := Option.some.inj hL22
        exact ⟨S44, A2_, by simp [e2_0, e2_1, e2_10, e2_11], by simp [e2_0, e2_1, e2_10, e2_11], by simp [e2_0, e2_1, e2_10, e2_11], by simp [e2_0, e2_1, e2_10, e2_11]⟩
  · rintro env Gj45 ⟨Sj45, Aj45, ej45_0, ej45_1, ej45_10, ej45_11⟩
    obtain ⟨s46, hL47, hF⟩ := bd_some hF
    refine DWp.seq (DWp.join (fun env G => Sep G B [flat v0 3 (ints (lset (lset x0 x1 (gat 0 x0 x3)) x3 (gat 0 x0 x1)))] ∧ AgB B H G ∧ env 0 = some v0 ∧ env 1 = some (Value.int .i64 x1) ∧ env 10 = some (Value.int .i64 s21) ∧ env 11 = some (Value.int .i64 s46)) ?_ ?_)
    ·
      refine DWp.block ?_
      obtain ⟨s49, hL50, hL47⟩ := bd_some hL47
      have S51 := Sj45.pick [0] (by decide) rfl
      refine DWp.loop (fun n env G => ∃ y2_11 : Int, F_slices_partitionOrdered_int_L2 fu (lset (lset x0 x1 (gat 0 x0 x3)) x3 (gat 0 x0 x1)) x1 s21 n y2_11 = some s49 ∧ Sep G B [flat v0 3 (ints (lset (lset x0 x1 (gat 0 x0 x3)) x3 (gat 0 x0 x1)))] ∧ AgB B H G ∧ env 0 = some v0 ∧ env 1 = some (Value.int .i64 x1) ∧ env 10 = some (Value.int .i64 s21) ∧ env 11 = some (Value.int .i64 y2_11)) fu ⟨(isub .i64 x2 1), hL50, S51, Aj45, by simp [ej45_0, ej45_1, ej45_10, ej45_11], by simp [ej45_0, ej45_1, ej45_10, ej45_11], by simp [ej45_0, ej45_1, ej45_10, ej45_11], by simp [ej45_0, ej45_1, ej45_10, ej45_11]⟩ ?_
      rintro n2 env2 G2_ ⟨y2_11, hL50, S2_, A2_, e2_0, e2_1, e2_10, e2_11⟩
      cases n2 with
      | zero => cases hL50
      | succ n2 =>
        simp only [F_slices_partitionOrdered_int_L2] at hL50
        refine DWp.seq ?_
        refine DWp.seq ?_
        rcases Bool.eq_false_or_eq_true (ile s21 y2_11) with hb52 | hb52
        · replace hL50 := cd_t hb52 hL50
          obtain ⟨g53, hL50⟩ := gd_some hL50
          have q54 := idxG (P := Try.prog) (kk := .i64) (S2_.sl (k := 0) rfl) el_22 sz_3 g53
          have q55 := loadG (P := Try.prog) (S2_.sl (k := 0) rfl) sz_3 ag_3 g53 0
          obtain ⟨g56, hL50⟩ := gd_some hL50
          have q57 := idxG (P := Try.prog) (kk := .i64) (S2_.sl (k := 0) rfl) el_22 sz_3 g56
          have q58 := loadG (P := Try.prog) (S2_.sl (k := 0) rfl) sz_3 ag_3 g56 0
          obtain ⟨r2, hc59, hL50⟩ := bd_some hL50
          refine DWp.drawn (B := [0, 0, 3, 7, 15, 15, 63, 127, 15, 15, 783, 1807, 4095, 8191, 16383]) 15 mixed (by kernel_rfl) (by decide) fun K hK => ?_
          simp [-aBin', -aBin, -aBinI, -aUn, -aNil, -flatV, n_fn, b_add, b_sub, b_mul, b_lt, b_le, b_gt, b_ge, b_eq, b_ne, u_not, e2_0, e2_1, e2_10, e2_11, hb52, q54, q55, q57, q58]
          refine CallD.t (F_cmp_Less_int_w (fu := fu)  hc59) ?_
          rintro _ G61 ⟨a64, rfl, S65⟩
          have A63 := A2_.ext (hB.le A2_.1) a64.agree
          have S62 : Sep G61 B [flat v0 3 (ints (lset (lset x0 x1 (gat 0 x0 x3)) x3 (gat 0 x0 x1)))] := S2_.app a64.agree S65 (fun _ h => h) (hB.le A2_.1)
          simp [-aBin', -aBin, -aBinI, -aUn, -aNil, -flatV, n_fn, b_add, b_sub, b_mul, b_lt, b_le, b_gt, b_ge, b_eq, b_ne, u_not, e2_0, e2_1, e2_10, e2_11, hb52, q54, q55, q57, q58, a64.pre]
          apply hK
          clear hK K
          simp only [andThen, leaves]
          refine DWp.cond' (t := (bnot r2)) (by simp [e2_0, e2_1, e2_10, e2_11]) (fun hb66 => ?_) (fun hb66 => ?_)
          · replace hL50 := cd_t hb66 hL50
            refine DWp.skip ?_
            simp only [andThen, leaves]
            refine DWp.block ?_
            refine DWp.region fun K hK => ?_
            simp [-aBin', -aBin, -aBinI, -aUn, -aNil, -flatV, n_fn, b_add, b_sub, b_mul, b_lt, b_le, b_gt, b_ge, b_eq, b_ne, u_not, e2_0, e2_1, e2_10, e2_11]
            apply hK
            clear hK K
            simp only [andThen, leaves]
            have S67 := S62.pick [0] (by decide) rfl
            exact ⟨n2, Nat.lt_succ_self _, (isub .i64 y2_11 1), hL50, S67, A63, by simp [e2_0, e2_1, e2_10, e2_11], by simp [e2_0, e2_1, e2_10, e2_11], by simp [e2_0, e2_1, e2_10, e2_11], by simp [e2_0, e2_1, e2_10, e2_11]⟩
          · replace hL50 := cd_f hb66 hL50
            refine DWp.exit ?_
            simp only [andThen, leaves, if_true, if_false, reduceIte, Nat.reduceEqDiff]
            obtain rfl := Option.some.inj hL50
            have S68 := S62.pick [0] (by decide) rfl
            obtain rfl := Option.some.inj hL47
            exact ⟨S68, A63, by simp [e2_0, e2_1, e2_10, e2_11], by simp [e2_0, e2_1, e2_10, e2_11], by simp [e2_0, e2_1, e2_10, e2_11], by simp [e2_0, e2_1, e2_10, e2_11]⟩
        · replace hL50 := cd_f hb52 hL50
          refine DWp.drawn (B := [0, 0, 3, 7, 15, 15, 63, 127, 15, 15, 783, 1807, 4095, 8191, 16383]) 15 mixed (by kernel_rfl) (by decide) fun K hK => ?_
          simp [-aBin', -aBin, -aBinI, -aUn, -aNil, -flatV, n_fn, b_add, b_sub, b_mul, b_lt, b_le, b_gt, b_ge, b_eq, b_ne, u_not, e2_0, e2_1, e2_10, e2_11, hb52]
          apply hK
          clear hK K
          simp only [andThen, leaves]
          refine DWp.cf (by simp [e2_0, e2_1, e2_10, e2_11, bnot]) ?_
          refine DWp.exit ?_
          simp only [andThen, leaves, if_true, if_false, reduceIte, Nat.reduceEqDiff]
          obtain rfl := Option.some.inj hL50
          have S69 := S2_.pick [0] (by decide) rfl
          obtain rfl := Option.some.inj hL47
          exact ⟨S69, A2_, by simp [e2_0, e2_1, e2_10, e2_11], by simp [e2_0, e2_1, e2_10, e2_11], by simp [e2_0, e2_1, e2_10, e2_11], by simp [e2_0, e2_1, e2_10, e2_11]⟩
    · rintro env Gj70 ⟨Sj70, Aj70, ej70_0, ej70_1, ej70_10, ej70_11⟩
      refine DWp.seq ?_
      refine DWp.seq ?_
      refine DWp.region fun K hK => ?_
      simp [-aBin', -aBin, -aBinI, -aUn, -aNil, -flatV, n_fn, b_add, b_sub, b_mul, b_lt, b_le, b_gt, b_ge, b_eq, b_ne, u_not, ej70_0, ej70_1, ej70_10, ej70_11]
      apply hK
      clear hK K
      simp only [andThen, leaves]
      refine DWp.cond' (t := (ilt s46 s21)) (by simp [ej70_0, ej70_1, ej70_10, ej70_11]) (fun hb71 => ?_) (fun hb71 => ?_)
      · replace hF := cd_t hb71 hF
        refine DWp.seq ?_
        obtain ⟨g72, hF⟩ := gd_some hF
        have q73 := idxG (P := Try.prog) (kk := .i64) (Sj70.sl (k := 0) rfl) el_22 sz_3 g72
        have q74 := loadG (P := Try.prog) (Sj70.sl (k := 0) rfl) sz_3 ag_3 g72 0
        obtain ⟨g75, hF⟩ := gd_some hF
        have q76 := idxG (P := Try.prog) (kk := .i64) (Sj70.sl (k := 0) rfl) el_22 sz_3 g75
        have q77 := loadG (P := Try.prog) (Sj70.sl (k := 0) rfl) sz_3 ag_3 g75 0
        obtain ⟨g78, hF⟩ := gd_some hF
        have q79 := idxG (P := Try.prog) (kk := .i64) (Sj70.sl (k := 0) rfl) el_22 sz_3 g78
        obtain ⟨G80, q81, S82, a84⟩ := Sj70.storeG (f := (Value.int .i64)) (P := Try.prog) (k := 0) (x := (gat 0 (lset (lset x0 x1 (gat 0 x0 x3)) x3 (gat 0 x0 x1)) x1)) rfl (hB.le Aj70.1) sz_3 g78 rfl rfl
        have A83 := Aj70.trans a84
        replace S82 : Sep G80 B [flat v0 3 (ints (lset (lset (lset x0 x1 (gat 0 x0 x3)) x3 (gat 0 x0 x1)) s46 (gat 0 (lset (lset x0 x1 (gat 0 x0 x3)) x3 (gat 0 x0 x1)) x1)))] := S82
        obtain ⟨g85, hF⟩ := gd_some hF
        have q86 := idxG (P := Try.prog) (kk := .i64) (S82.sl (k := 0) rfl) el_22 sz_3 g85
        obtain ⟨G87, q88, S89, a91⟩ := S82.storeG (f := (Value.int .i64)) (P := Try.prog) (k := 0) (x := (gat 0 (lset (lset x0 x1 (gat 0 x0 x3)) x3 (gat 0 x0 x1)) s46)) rfl (hB.le A83.1) sz_3 g85 rfl rfl
        have A90 := A83.trans a91
        replace S89 : Sep G87 B [flat v0 3 (ints (lset (lset (lset (lset x0 x1 (gat 0 x0 x3)) x3 (gat 0 x0 x1)) s46 (gat 0 (lset (lset x0 x1 (gat 0 x0 x3)) x3 (gat 0 x0 x1)) x1)) x1 (gat 0 (lset (lset x0 x1 (gat 0 x0 x3)) x3 (gat 0 x0 x1)) s46)))] := S89
        refine DWp.drawn (B := [0, 0, 0, 0, 0, 0, 48, 112, 0, 0, 768, 1792, 4083, 8179, 16383, 32767]) 13 mixed (by kernel_rfl) (by decide) fun K hK => ?_
        simp [-aBin', -aBin, -aBinI, -aUn, -aNil, -flatV, n_fn, b_add, b_sub, b_mul, b_lt, b_le, b_gt, b_ge, b_eq, b_ne, u_not, ej70_0, ej70_1, ej70_10, ej70_11, q73, q74, q76, q77, q79, q81, q86, q88]
        apply hK
        clear hK K
        simp only [andThen, leaves]
        refine DWp.seq ?_
        refine DWp.region fun K hK => ?_
        simp [-aBin', -aBin, -aBinI, -aUn, -aNil, -flatV, n_fn, b_add, b_sub, b_mul, b_lt, b_le, b_gt, b_ge, b_eq, b_ne, u_not, ej70_0, ej70_1, ej70_10, ej70_11]
        apply hK
        clear hK K
        simp only [andThen, leaves]
        refine DWp.ret ?_
        simp only [andThen, leaves]
        obtain rfl := Option.some.inj hF
        exact ⟨by simp, [(Value.int .i64 s46), (Value.bool true)], by simp [ej70_0, ej70_1, ej70_10, ej70_11], A90, rfl, S89.pick [0] (by decide) rfl⟩
      · replace hF := cd_f hb71 hF
        refine DWp.skip ?_
        simp only [andThen, leaves]
        refine DWp.seq ?_
        obtain ⟨g92, hF⟩ := gd_some hF
        have q93 := idxG (P := Try.prog) (kk := .i64) (Sj70.sl (k := 0) rfl) el_22 sz_3 g92
        have q94 := loadG (P := Try.prog) (Sj70.sl (k := 0) rfl) sz_3 ag_3 g92 0
        obtain ⟨g95, hF⟩ := gd_some hF
        have q96 := idxG (P := Try.prog) (kk := .i64) (Sj70.sl (k := 0) rfl) el_22 sz_3 g95
        have q97 := loadG (P := Try.prog) (Sj70.sl (k := 0) rfl) sz_3 ag_3 g95 0
        obtain ⟨g98, hF⟩ := gd_some hF
        have q99 := idxG (P := Try.prog) (kk := .i64) (Sj70.sl (k := 0) rfl) el_22 sz_3 g98
        obtain ⟨G100, q101, S102, a104⟩ := Sj70.storeG (f := (Value.int .i64)) (P := Try.prog) (k := 0) (x := (gat 0 (lset (lset x0 x1 (gat 0 x0 x3)) x3 (gat 0 x0 x1)) s46)) rfl (hB.le Aj70.1) sz_3 g98 rfl rfl
        have A103 := Aj70.trans a104
        replace S102 : Sep G100 B [flat v0 3 (ints (lset (lset (lset x0 x1 (gat 0 x0 x3)) x3 (gat 0 x0 x1)) s21 (gat 0 (lset (lset x0 x1 (gat 0 x0 x3)) x3 (gat 0 x0 x1)) s46)))] := S102
        obtain ⟨g105, hF⟩ := gd_some hF
        have q106 := idxG (P := Try.prog) (kk := .i64) (S102.sl (k := 0) rfl) el_22 sz_3 g105
        obtain ⟨G107, q108, S109, a111⟩ := S102.storeG (f := (Value.int .i64)) (P := Try.prog) (k := 0) (x := (gat 0 (lset (lset x0 x1 (gat 0 x0 x3)) x3 (gat 0 x0 x1)) s21)) rfl (hB.le A103.1) sz_3 g105 rfl rfl
        have A110 := A103.trans a111
        replace S109 : Sep G107 B [flat v0 3 (ints (lset (lset (lset (lset x0 x1 (gat 0 x0 x3)) x3 (gat 0 x0 x1)) s21 (gat 0 (lset (lset x0 x1 (gat 0 x0 x3)) x3 (gat 0 x0 x1)) s46)) s46 (gat 0 (lset (lset x0 x1 (gat 0 x0 x3)) x3 (gat 0 x0 x1)) s21)))] := S109
        refine DWp.drawn (B := [0, 0, 0, 0, 0, 0, 48, 112, 0, 0, 768, 1792, 4083, 8179, 16383, 32767]) 13 mixed (by kernel_rfl) (by decide) fun K hK => ?_
        simp [-aBin', -aBin, -aBinI, -aUn, -aNil, -flatV, n_fn, b_add, b_sub, b_mul, b_lt, b_le, b_gt, b_ge, b_eq, b_ne, u_not, ej70_0, ej70_1, ej70_10, ej70_11, q93, q94, q96, q97, q99, q101, q106, q108]
        apply hK
        clear hK K
        simp only [andThen, leaves]
        refine DWp.seq ?_
        refine DWp.region fun K hK => ?_
        simp [-aBin', -aBin, -aBinI, -aUn, -aNil, -flatV, n_fn, b_add, b_sub, b_mul, b_lt, b_le, b_gt, b_ge, b_eq, b_ne, u_not, ej70_0, ej70_1, ej70_10, ej70_11]
        apply hK
        clear hK K
        simp only [andThen, leaves]
        refine DWp.seq ?_
        refine DWp.region fun K hK => ?_
        simp [-aBin', -aBin, -aBinI, -aUn, -aNil, -flatV, n_fn, b_add, b_sub, b_mul, b_lt, b_le, b_gt, b_ge, b_eq, b_ne, u_not, ej70_0, ej70_1, ej70_10, ej70_11]
        apply hK
        clear hK K
        simp only [andThen, leaves]
        refine DWp.seq ?_
        refine DWp.block ?_
        obtain ⟨s112, hL113, hF⟩ := bd_some hF
        have S114 := S109.pick [0] (by decide) rfl
        refine DWp.loop (fun n env G => ∃ l3_0 : List Int, ∃ y3_10 : Int, ∃ y3_11 : Int, F_slices_partitionOrdered_int_L3 fu x1 n l3_0 y3_10 y3_11 = some s112 ∧ Sep G B [flat v0 3 (ints l3_0)] ∧ AgB B H G ∧ env 0 = some v0 ∧ env 1 = some (Value.int .i64 x1) ∧ env 10 = some (Value.int .i64 y3_10) ∧ env 11 = some (Value.int .i64 y3_11)) fu ⟨(lset (lset (lset (lset x0 x1 (gat 0 x0 x3)) x3 (gat 0 x0 x1)) s21 (gat 0 (lset (lset x0 x1 (gat 0 x0 x3)) x3 (gat 0 x0 x1)) s46)) s46 (gat 0 (lset (lset x0 x1 (gat 0 x0 x3)) x3 (gat 0 x0 x1)) s21)), (iadd .i64 s21 1), (isub .i64 s46 1), hL113, S114, A110, by simp [ej70_0, ej70_1, ej70_10, ej70_11], by simp [ej70_0, ej70_1, ej70_10, ej70_11], by simp [ej70_0, ej70_1, ej70_10, ej70_11], by simp [ej70_0, ej70_1, ej70_10, ej70_11]⟩ ?_
        rintro n1 env1 G1_ ⟨l3_0, y3_10, y3_11, hL113, S1_, A1_, e1_0, e1_1, e1_10, e1_11⟩
        cases n1 with
        | zero => cases hL113
        | succ n1 =>
          simp only [F_slices_partitionOrdered_int_L3] at hL113
          refine DWp.block ?_
          obtain ⟨s115, hL116, hL113⟩ := bd_some hL113
          refine DWp.seq (DWp.join (fun env G => Sep G B [flat v0 3 (ints l3_0)] ∧ AgB B H G ∧ env 0 = some v0 ∧ env 1 = some (Value.int .i64 x1) ∧ env 10 = some (Value.int .i64 s115) ∧ env 11 = some (Value.int .i64 y3_11)) ?_ ?_)
          ·
            refine DWp.block ?_
            obtain ⟨s118, hL119, hL116⟩ := bd_some hL116
            have S120 := S1_.pick [0] (by decide) rfl
            refine DWp.loop (fun n env G => ∃ y4_10 : Int, F_slices_partitionOrdered_int_L4 fu l3_0 x1 y3_11 n y4_10 = some s118 ∧ Sep G B [flat v0 3 (ints l3_0)] ∧ AgB B H G ∧ env 0 = some v0 ∧ env 1 = some (Value.int .i64 x1) ∧ env 10 = some (Value.int .i64 y4_10) ∧ env 11 = some (Value.int .i64 y3_11)) fu ⟨y3_10, hL119, S120, A1_, by simp [e1_0, e1_1, e1_10, e1_11], by simp [e1_0, e1_1, e1_10, e1_11], by simp [e1_0, e1_1, e1_10, e1_11], by simp [e1_0, e1_1, e1_10, e1_11]⟩ ?_
            rintro n3 env3 G3_ ⟨y4_10, hL119, S3_, A3_, e3_0, e3_1, e3_10, e3_11⟩
            cases n3 with
            | zero => cases hL119
            | succ n3 =>
              simp only [F_slices_partitionOrdered_int_L4] at hL119
              refine DWp.seq ?_
              refine DWp.seq ?_
              rcases Bool.eq_false_or_eq_true (ile y4_10 y3_11) with hb121 | hb121
              · replace hL119 := cd_t hb121 hL119
                obtain ⟨g122, hL119⟩ := gd_some hL119
                have q123 := idxG (P := Try.prog) (kk := .i64) (S3_.sl (k := 0) rfl) el_22 sz_3 g122
                have q124 := loadG (P := Try.prog) (S3_.sl (k := 0) rfl) sz_3 ag_3 g122 0
                obtain ⟨g125, hL119⟩ := gd_some hL119
                have q126 := idxG (P := Try.prog) (kk := .i64) (S3_.sl (k := 0) rfl) el_22 sz_3 g125
                have q127 := loadG (P := Try.prog) (S3_.sl (k := 0) rfl) sz_3 ag_3 g125 0
                obtain ⟨r3, hc128, hL119⟩ := bd_some hL119
                refine DWp.drawn (B := [0, 0, 3, 7, 15, 15, 63, 127, 15, 15, 783, 1807, 4095, 8191]) 14 mixed (by kernel_rfl) (by decide) fun K hK => ?_
                simp [-aBin', -aBin, -aBinI, -aUn, -aNil, -flatV, n_fn, b_add, b_sub, b_mul, b_lt, b_le, b_gt, b_ge, b_eq, b_ne, u_not, e3_0, e3_1, e3_10, e3_11, hb121, q123, q124, q126, q127]
                refine CallD.t (F_cmp_Less_int_w (fu := fu)  hc128) ?_
                rintro _ G130 ⟨a133, rfl, S134⟩
                have A132 := A3_.ext (hB.le A3_.1) a133.agree
                have S131 : Sep G130 B [flat v0 3 (ints l3_0)] := S3_.app a133.agree S134 (fun _ h => h) (hB.le A3_.1)
                simp [-aBin', -aBin, -aBinI, -aUn, -aNil, -flatV, n_fn, b_add, b_sub, b_mul, b_lt, b_le, b_gt, b_ge, b_eq, b_ne, u_not, e3_0, e3_1, e3_10, e3_11, hb121, q123, q124, q126, q127, a133.pre]
                apply hK
                clear hK K
                simp only [andThen, leaves]
                refine DWp.cond' (t := r3) (by simp [e3_0, e3_1, e3_10, e3_11]) (fun hb135 => ?_) (fun hb135 => ?_)
                · replace hL119 := cd_t hb135 hL119
                  refine DWp.skip ?_
                  simp only [andThen, leaves]
                  refine DWp.block ?_
                  refine DWp.region fun K hK => ?_
                  simp [-aBin', -aBin, -aBinI, -aUn, -aNil, -flatV, n_fn, b_add, b_sub, b_mul, b_lt, b_le, b_gt, b_ge, b_eq, b_ne, u_not, e3_0, e3_1, e3_10, e3_11]
                  apply hK
                  clear hK K
                  simp only [andThen, leaves]
                  have S136 := S131.pick [0] (by decide) rfl
                  exact ⟨n3, Nat.lt_succ_self _, (iadd .i64 y4_10 1), hL119, S136, A132, by simp [e3_0, e3_1, e3_10, e3_11], by simp [e3_0, e3_1, e3_10, e3_11], by simp [e3_0, e3_1, e3_10, e3_11], by simp [e3_0, e3_1, e3_10, e3_11]⟩
                · replace hL119 := cd_f hb135 hL119
                  refine DWp.exit ?_
                  simp only [andThen, leaves, if_true, if_false, reduceIte, Nat.reduceEqDiff]
                  obtain rfl := Option.some.inj hL119
                  have S137 := S131.pick [0] (by decide) rfl
                  obtain rfl := Option.some.inj hL116
                  exact ⟨S137, A132, by simp [e3_0, e3_1, e3_10, e3_11], by simp [e3_0, e3_1, e3_10, e3_11], by simp [e3_0, e3_1, e3_10, e3_11], by simp [e3_0, e3_1, e3_10, e3_11]⟩
              · replace hL119 := cd_f hb121 hL119
                refine DWp.drawn (B := [0, 0, 3, 7, 15, 15, 63, 127, 15, 15, 783, 1807, 4095, 8191]) 14 mixed (by kernel_rfl) (by decide) fun K hK => ?_
                simp [-aBin', -aBin, -aBinI, -aUn, -aNil, -flatV, n_fn, b_add, b_sub, b_mul, b_lt, b_le, b_gt, b_ge, b_eq, b_ne, u_not, e3_0, e3_1, e3_10, e3_11, hb121]
                apply hK
                clear hK K
                simp only [andThen, leaves]
                refine DWp.cf (by simp [e3_0, e3_1, e3_10, e3_11, bnot]) ?_
                refine DWp.exit ?_
                simp only [andThen, leaves, if_true, if_false, reduceIte, Nat.reduceEqDiff]
                obtain rfl := Option.some.inj hL119
                have S138 := S3_.pick [0] (by decide) rfl
                obtain rfl := Option.some.inj hL116
                exact ⟨S138, A3_, by simp [e3_0, e3_1, e3_10, e3_11], by simp [e3_0, e3_1, e3_10, e3_11], by simp [e3_0, e3_1, e3_10, e3_11], by simp [e3_0, e3_1, e3_10, e3_11]⟩
          · rintro env Gj139 ⟨Sj139, Aj139, ej139_0, ej139_1, ej139_10, ej139_11⟩
            obtain ⟨s140, hL141, hL113⟩ := bd_some hL113
            refine DWp.seq (DWp.join (fun env G => Sep G B [flat v0 3 (ints l3_0)] ∧ AgB B H G ∧ env 0 = some v0 ∧ env 1 = some (Value.int .i64 x1) ∧ env 10 = some (Value.int .i64 s115) ∧ env 11 = some (Value.int .i64 s140)) ?_ ?_)
            ·
              refine DWp.block ?_
              obtain ⟨s143, hL144, hL141⟩ := bd_some hL141
              have S145 := Sj139.pick [0] (by decide) rfl
              refine DWp.loop (fun n env G => ∃ y5_11 : Int, F_slices_partitionOrdered_int_L5 fu l3_0 x1 s115 n y5_11 = some s143 ∧ Sep G B [flat v0 3 (ints l3_0)] ∧ AgB B H G ∧ env 0 = some v0 ∧ env 1 = some (Value.int .i64 x1) ∧ env 10 = some (Value.int .i64 s115) ∧ env 11 = some (Value.int .i64 y5_11)) fu ⟨y3_11, hL144, S145, Aj139, by simp [ej139_0, ej139_1, ej139_10, ej139_11], by simp [ej139_0, ej139_1, ej139_10, ej139_11], by simp [ej139_0, ej139_1, ej139_10, ej139_11], by simp [ej139_0, ej139_1, ej139_10, ej139_11]⟩ ?_
              rintro n3 env3 G3_ ⟨y5_11, hL144, S3_, A3_, e3_0, e3_1, e3_10, e3_11⟩
              cases n3 with
              | zero => cases hL144
              | succ n3 =>
                simp only [F_slices_partitionOrdered_int_L5] at hL144
                refine DWp.seq ?_
                refine DWp.seq ?_
                rcases Bool.eq_false_or_eq_true (ile s115 y5_11) with hb146 | hb146
                · replace hL144 := cd_t hb146 hL144
                  obtain ⟨g147, hL144⟩ := gd_some hL144
                  have q148 := idxG (P := Try.prog) (kk := .i64) (S3_.sl (k := 0) rfl) el_22 sz_3 g147
                  have q149 := loadG (P := Try.prog) (S3_.sl (k := 0) rfl) sz_3 ag_3 g147 0
                  obtain ⟨g150, hL144⟩ := gd_some hL144
                  have q151 := idxG (P := Try.prog) (kk := .i64) (S3_.sl (k := 0) rfl) el_22 sz_3 g150
                  have q152 := loadG (P := Try.prog) (S3_.sl (k := 0) rfl) sz_3 ag_3 g150 0
                  obtain ⟨r4, hc153, hL144⟩ := bd_some hL144
                  refine DWp.drawn (B := [0, 0, 3, 7, 15, 15, 63, 127, 15, 15, 783, 1807, 4095, 8191, 16383]) 15 mixed (by kernel_rfl) (by decide) fun K hK => ?_
                  simp [-aBin', -aBin, -aBinI, -aUn, -aNil, -flatV, n_fn, b_add, b_sub, b_mul, b_lt, b_le, b_gt, b_ge, b_eq, b_ne, u_not, e3_0, e3_1, e3_10, e3_11, hb146, q148, q149, q151, q152]
                  refine CallD.t (F_cmp_Less_int_w (fu := fu)  hc153) ?_
                  rintro _ G155 ⟨a158, rfl, S159⟩
                  have A157 := A3_.ext (hB.le A3_.1) a158.agree
                  have S156 : Sep G155 B [flat v0 3 (ints l3_0)] := S3_.app a158.agree S159 (fun _ h => h) (hB.le A3_.1)
                  simp [-aBin', -aBin, -aBinI, -aUn, -aNil, -flatV, n_fn, b_add, b_sub, b_mul, b_lt, b_le, b_gt, b_ge, b_eq, b_ne, u_not, e3_0, e3_1, e3_10, e3_11, hb146, q148, q149, q151, q152, a158.pre]
                  apply hK
                  clear hK K
                  simp only [andThen, leaves]
                  refine DWp.cond' (t := (bnot r4)) (by simp [e3_0, e3_1, e3_10, e3_11]) (fun hb160 => ?_) (fun hb160 => ?_)
                  · replace hL144 := cd_t hb160 hL144
                    refine DWp.skip ?_
                    simp only [andThen, leaves]
                    refine DWp.block ?_
                    refine DWp.region fun K hK => ?_
                    simp [-aBin', -aBin, -aBinI, -aUn, -aNil, -flatV, n_fn, b_add, b_sub, b_mul, b_lt, b_le, b_gt, b_ge, b_eq, b_ne, u_not, e3_0, e3_1, e3_10, e3_11]
                    apply hK
                    clear hK K
                    simp only [andThen, leaves]
                    have S161 := S156.pick [0] (by decide) rfl
                    exact ⟨n3, Nat.lt_succ_self _, (isub .i64 y5_11 1), hL144, S161, A157, by simp [e3_0, e3_1, e3_10, e3_11], by simp [e3_0, e3_1, e3_10, e3_11], by simp [e3_0, e3_1, e3_10, e3_11], by simp [e3_0, e3_1, e3_10, e3_11]⟩
                  · replace hL144 := cd_f hb160 hL144
                    refine DWp.exit ?_
                    simp only [andThen, leaves, if_true, if_false, reduceIte, Nat.reduceEqDiff]
                    obtain rfl := Option.some.inj hL144
                    have S162 := S156.pick [0] (by decide) rfl
                    obtain rfl := Option.some.inj hL141
                    exact ⟨S162, A157, by simp [e3_0, e3_1, e3_10, e3_11], by simp [e3_0, e3_1, e3_10, e3_11], by simp [e3_0, e3_1, e3_10, e3_11], by simp [e3_0, e3_1, e3_10, e3_11]⟩
                · replace hL144 := cd_f hb146 hL144
                  refine DWp.drawn (B := [0, 0, 3, 7, 15, 15, 63, 127, 15, 15, 783, 1807, 4095, 8191, 16383]) 15 mixed (by kernel_rfl) (by decide) fun K hK => ?_
                  simp [-aBin', -aBin, -aBinI, -aUn, -aNil, -flatV, n_fn, b_add, b_sub, b_mul, b_lt, b_le, b_gt, b_ge, b_eq, b_ne, u_not, e3_0, e3_1, e3_10, e3_11, hb146]
                  apply hK
                  clear hK K
                  simp only [andThen, leaves]
                  refine DWp.cf (by simp [e3_0, e3_1, e3_10, e3_11, bnot]) ?_
                  refine DWp.exit ?_
                  simp only [andThen, leaves, if_true, if_false, reduceIte, Nat.reduceEqDiff]
                  obtain rfl := Option.some.inj hL144
                  have S163 := S3_.pick [0] (by decide) rfl
                  obtain rfl := Option.some.inj hL141
                  exact ⟨S163, A3_, by simp [e3_0, e3_1, e3_10, e3_11], by simp [e3_0, e3_1, e3_10, e3_11], by simp [e3_0, e3_1, e3_10, e3_11], by simp [e3_0, e3_1, e3_10, e3_11]⟩
            · rintro env Gj164 ⟨Sj164, Aj164, ej164_0, ej164_1, ej164_10, ej164_11⟩
              refine DWp.seq ?_
              refine DWp.seq ?_
              refine DWp.region fun K hK => ?_
              simp [-aBin', -aBin, -aBinI, -aUn, -aNil, -flatV, n_fn, b_add, b_sub, b_mul, b_lt, b_le, b_gt, b_ge, b_eq, b_ne, u_not, ej164_0, ej164_1, ej164_10, ej164_11]
              apply hK
              clear hK K
              simp only [andThen, leaves]
              refine DWp.cond' (t := (ilt s140 s115)) (by simp [ej164_0, ej164_1, ej164_10, ej164_11]) (fun hb165 => ?_) (fun hb165 => ?_)
              · replace hL113 := cd_t hb165 hL113
                refine DWp.exit ?_
                simp only [andThen, leaves, if_true, if_false, reduceIte, Nat.reduceEqDiff]
                obtain rfl := Option.some.inj hL113
                try dsimp only at hF
                refine DWp.seq ?_
                obtain ⟨g166, hF⟩ := gd_some hF
                have q167 := idxG (P := Try.prog) (kk := .i64) (Sj164.sl (k := 0) rfl) el_22 sz_3 g166
                have q168 := loadG (P := Try.prog) (Sj164.sl (k := 0) rfl) sz_3 ag_3 g166 0
                obtain ⟨g169, hF⟩ := gd_some hF
                have q170 := idxG (P := Try.prog) (kk := .i64) (Sj164.sl (k := 0) rfl) el_22 sz_3 g169
                have q171 := loadG (P := Try.prog) (Sj164.sl (k := 0) rfl) sz_3 ag_3 g169 0
                obtain ⟨g172, hF⟩ := gd_some hF
                have q173 := idxG (P := Try.prog) (kk := .i64) (Sj164.sl (k := 0) rfl) el_22 sz_3 g172
                obtain ⟨G174, q175, S176, a178⟩ := Sj164.storeG (f := (Value.int .i64)) (P := Try.prog) (k := 0) (x := (gat 0 l3_0 x1)) rfl (hB.le Aj164.1) sz_3 g172 rfl rfl
                have A177 := Aj164.trans a178
                replace S176 : Sep G174 B [flat v0 3 (ints (lset l3_0 s140 (gat 0 l3_0 x1)))] := S176
                obtain ⟨g179, hF⟩ := gd_some hF
                have q180 := idxG (P := Try.prog) (kk := .i64) (S176.sl (k := 0) rfl) el_22 sz_3 g179
                obtain ⟨G181, q182, S183, a185⟩ := S176.storeG (f := (Value.int .i64)) (P := Try.prog) (k := 0) (x := (gat 0 l3_0 s140)) rfl (hB.le A177.1) sz_3 g179 rfl rfl
                have A184 := A177.trans a185
                replace S183 : Sep G181 B [flat v0 3 (ints (lset (lset l3_0 s140 (gat 0 l3_0 x1)) x1 (gat 0 l3_0 s140)))] := S183
                refine DWp.drawn (B := [0, 0, 0, 0, 0, 0, 48, 112, 0, 0, 768, 1792, 4083, 8179, 16383, 32767]) 13 mixed (by kernel_rfl) (by decide) fun K hK => ?_
                simp [-aBin', -aBin, -aBinI, -aUn, -aNil, -flatV, n_fn, b_add, b_sub, b_mul, b_lt, b_le, b_gt, b_ge, b_eq, b_ne, u_not, ej164_0, ej164_1, ej164_10, ej164_11, q167, q168, q170, q171, q173, q175, q180, q182]
                apply hK
                clear hK K
                simp only [andThen, leaves]
                refine DWp.seq ?_
                refine DWp.region fun K hK => ?_
                simp [-aBin', -aBin, -aBinI, -aUn, -aNil, -flatV, n_fn, b_add, b_sub, b_mul, b_lt, b_le, b_gt, b_ge, b_eq, b_ne, u_not, ej164_0, ej164_1, ej164_10, ej164_11]
                apply hK
                clear hK K
                simp only [andThen, leaves]
                refine DWp.ret ?_
                obtain rfl := Option.some.inj hF
                exact ⟨by simp, [(Value.int .i64 s140), (Value.bool false)], by simp [ej164_0, ej164_1, ej164_10, ej164_11], A184, rfl, S183.pick [0] (by decide) rfl⟩
              · replace hL113 := cd_f hb165 hL113
                refine DWp.skip ?_
                simp only [andThen, leaves]
                refine DWp.seq ?_
                obtain ⟨g186, hL113⟩ := gd_some hL113
                have q187 := idxG (P := Try.prog) (kk := .i64) (Sj164.sl (k := 0) rfl) el_22 sz_3 g186
                have q188 := loadG (P := Try.prog) (Sj164.sl (k := 0) rfl) sz_3 ag_3 g186 0
                obtain ⟨g189, hL113⟩ := gd_some hL113
                have q190 := idxG (P := Try.prog) (kk := .i64) (Sj164.sl (k := 0) rfl) el_22 sz_3 g189
                have q191 := loadG (P := Try.prog) (Sj164.sl (k := 0) rfl) sz_3 ag_3 g189 0
                obtain ⟨g192, hL113⟩ := gd_some hL113
                have q193 := idxG (P := Try.prog) (kk := .i64) (Sj164.sl (k := 0) rfl) el_22 sz_3 g192
                obtain ⟨G194, q195, S196, a198⟩ := Sj164.storeG (f := (Value.int .i64)) (P := Try.prog) (k := 0) (x := (gat 0 l3_0 s140)) rfl (hB.le Aj164.1) sz_3 g192 rfl rfl
                have A197 := Aj164.trans a198
                replace S196 : Sep G194 B [flat v0 3 (ints (lset l3_0 s115 (gat 0 l3_0 s140)))] := S196
                obtain ⟨g199, hL113⟩ := gd_some hL113
                have q200 := idxG (P := Try.prog) (kk := .i64) (S196.sl (k := 0) rfl) el_22 sz_3 g199
                obtain ⟨G201, q202, S203, a205⟩ := S196.storeG (f := (Value.int .i64)) (P := Try.prog) (k := 0) (x := (gat 0 l3_0 s115)) rfl (hB.le A197.1) sz_3 g199 rfl rfl
                have A204 := A197.trans a205
                replace S203 : Sep G201 B [flat v0 3 (ints (lset (lset l3_0 s115 (gat 0 l3_0 s140)) s140 (gat 0 l3_0 s115)))] := S203
                refine DWp.drawn (B := [0, 0, 0, 0, 0, 0, 48, 112, 0, 0, 768, 1792, 4083, 8179, 16383, 32767]) 13 mixed (by kernel_rfl) (by decide) fun K hK => ?_
                simp [-aBin', -aBin, -aBinI, -aUn, -aNil, -flatV, n_fn, b_add, b_sub, b_mul, b_lt, b_le, b_gt, b_ge, b_eq, b_ne, u_not, ej164_0, ej164_1, ej164_10, ej164_11, q187, q188, q190, q191, q193, q195, q200, q202]
                apply hK
                clear hK K
                simp only [andThen, leaves]
                refine DWp.seq ?_
                refine DWp.region fun K hK => ?_
                simp [-aBin', -aBin, -aBinI, -aUn, -aNil, -flatV, n_fn, b_add, b_sub, b_mul, b_lt, b_le, b_gt, b_ge, b_eq, b_ne, u_not, ej164_0, ej164_1, ej164_10, ej164_11]
                apply hK
                clear hK K
                simp only [andThen, leaves]
                refine DWp.region fun K hK => ?_
                simp [-aBin', -aBin, -aBinI, -aUn, -aNil, -flatV, n_fn, b_add, b_sub, b_mul, b_lt, b_le, b_gt, b_ge, b_eq, b_ne, u_not, ej164_0, ej164_1, ej164_10, ej164_11]
                apply hK
                clear hK K
                simp only [andThen, leaves]
                have S206 := S203.pick [0] (by decide) rfl
                exact ⟨n1, Nat.lt_succ_self _, (lset (lset l3_0 s115 (gat 0 l3_0 s140)) s140 (gat 0 l3_0 s115)), (iadd .i64 s115 1), (isub .i64 s140 1), hL113, S206, A204, by simp [ej164_0, ej164_1, ej164_10, ej164_11], by simp [ej164_0, ej164_1, ej164_10, ej164_11], by simp [ej164_0, ej164_1, ej164_10, ej164_11], by simp [ej164_0, ej164_1, ej164_10, ej164_11]⟩
/-! slices.pdqsortOrdered[int] -/
def F_slices_pdqsortOrdered_int_L1 (fu : Nat) (self_ : (List Int) → Int → Int → Int → Option (List Int))  : Nat → List Int → Int → Int → Int → Bool → Bool → Option (LR (List Int) (List Int × Int × Int × Int × Bool × Bool))
  | 0, _, _, _, _, _, _ => none
  | n + 1, l1_0, y1_1, y1_2, y1_3, y1_8, y1_9 =>
    bif (ile (isub .i64 y1_2 y1_1) 12) then
      bd (F_slices_insertionSortOrdered_int fu l1_0 y1_1 y1_2) fun r1 =>
      some (.ret r1)
    else
      bif (ieq y1_3 0) then
        bd (F_slices_heapSortOrdered_int fu l1_0 y1_1 y1_2) fun r2 =>
        some (.ret r2)
      else
        bd (
          bif (bnot y1_8) then
            bd (F_slices_breakPatternsOrdered_int fu l1_0 y1_1 y1_2) fun r3 =>
            some (r3, (isub .i64 y1_3 1))
          else
            some (l1_0, y1_3)) fun s34 =>
        bd (F_slices_choosePivotOrdered_int fu s34.1 y1_1 y1_2) fun r4 =>
        bd (
          bif (ieq r4.2 2) then
            bd (F_slices_reverseRangeOrdered_int fu s34.1 y1_1 y1_2) fun r5 =>
            some (r5, (isub .i64 (isub .i64 y1_2 1) (isub .i64 r4.1 y1_1)), 1)
          else
            some (s34.1, r4.1, r4.2)) fun s62 =>
        bd (
          bif y1_8 then
            bif y1_9 then
              some (ieq s62.2.2 1)
            else
              some false
          else
            some false) fun s83 =>
        bif s83 then
          bd (F_slices_partialInsertionSortOrdered_int fu s62.1 y1_1 y1_2) fun r6 =>
          bif r6.1 then
            some (.ret r6.2)
          else
            bd (
              bif (ilt 0 y1_1) then
                gd (inL r6.2 (isub .i64 y1_1 1)) (
                gd (inL r6.2 s62.2.1) (
                bd (F_cmp_Less_int fu (gat 0 r6.2 (isub .i64 y1_1 1)) (gat 0 r6.2 s62.2.1)) fun r7 =>
                some (bnot r7)))
              else
                some false) fun s108 =>
            bif s108 then
              bd (F_slices_partitionEqualOrdered_int fu r6.2 y1_1 y1_2 s62.2.1) fun r8 =>
              F_slices_pdqsortOrdered_int_L1 fu self_ n r8.2 r8.1 y1_2 s34.2 y1_8 y1_9
            else
              bd (F_slices_partitionOrdered_int fu r6.2 y1_1 y1_2 s62.2.1) fun r9 =>
              bif (ilt (isub .i64 r9.1 y1_1) (isub .i64 y1_2 r9.1)) then
                bd (self_ r9.2.2 y1_1 r9.1 s34.2) fun r10 =>
                F_slices_pdqsortOrdered_int_L1 fu self_ n r10 (iadd .i64 r9.1 1) y1_2 s34.2 (ile (iquo .i64 (isub .i64 y1_2 y1_1) 8) (isub .i64 r9.1 y1_1)) r9.2.1
              else
                bd (self_ r9.2.2 (iadd .i64 r9.1 1) y1_2 s34.2) fun r11 =>
                F_slices_pdqsortOrdered_int_L1 fu self_ n r11 y1_1 r9.1 s34.2 (ile (iquo .i64 (isub .i64 y1_2 y1_1) 8) (isub .i64 y1_2 r9.1)) r9.2.1
        else
          bd (
            bif (ilt 0 y1_1) then
              gd (inL s62.1 (isub .i64 y1_1 1)) (
              gd (inL s62.1 s62.2.1) (
              bd (F_cmp_Less_int fu (gat 0 s62.1 (isub .i64 y1_1 1)) (gat 0 s62.1 s62.2.1)) fun r12 =>
              some (bnot r12)))
            else
              some false) fun s190 =>
          bif s190 then
            bd (F_slices_partitionEqualOrdered_int fu s62.1 y1_1 y1_2 s62.2.1) fun r13 =>
            F_slices_pdqsortOrdered_int_L1 fu self_ n r13.2 r13.1 y1_2 s34.2 y1_8 y1_9
          else
            bd (F_slices_partitionOrdered_int fu s62.1 y1_1 y1_2 s62.2.1) fun r14 =>
            bif (ilt (isub .i64 r14.1 y1_1) (isub .i64 y1_2 r14.1)) then
              bd (self_ r14.2.2 y1_1 r14.1 s34.2) fun r15 =>
              F_slices_pdqsortOrdered_int_L1 fu self_ n r15 (iadd .i64 r14.1 1) y1_2 s34.2 (ile (iquo .i64 (isub .i64 y1_2 y1_1) 8) (isub .i64 r14.1 y1_1)) r14.2.1
            else
              bd (self_ r14.2.2 (iadd .i64 r14.1 1) y1_2 s34.2) fun r16 =>
              F_slices_pdqsortOrdered_int_L1 fu self_ n r16 y1_1 r14.1 s34.2 (ile (iquo .i64 (isub .i64 y1_2 y1_1) 8) (isub .i64 y1_2 r14.1)) r14.2.1
def F_slices_pdqsortOrdered_int : Nat → (List Int) → Int → Int → Int → Option (List Int)
  | 0, _, _, _, _ => none
  | fu + 1, x0, x1, x2, x3 =>
    bd (F_slices_pdqsortOrdered_int_L1 fu (F_slices_pdqsortOrdered_int fu) fu x0 x1 x2 x3 true true) fun s1 => lr s1 fun _ => none
theorem F_slices_pdqsortOrdered_int_w : ∀ {fu : Nat} {H : AH} {B : Nat → Prop} {v0 : Value} {x0 : List Int} {x1 : Int} {x2 : Int} {x3 : Int} {r : (List Int)} (hB : Up B H.length) (S0 : Sep H B [flat v0 3 (ints x0)]) (hF : F_slices_pdqsortOrdered_int fu x0 x1 x2 x3 = some r),
    ACallT Try.prog 91 [v0, (Value.int .i64 x1), (Value.int .i64 x2), (Value.int .i64 x3)] H (fun u G => AgB B H G ∧ u = (Value.tuple #[]) ∧ Sep G B [flat v0 3 (ints r)]) := by
  intro fu
  induction fu with
  | zero => intros; rename_i hF; cases hF
  | succ fu ih =>
  intro H B v0 x0 x1 x2 x3 r hB S0 hF
  simp only [F_slices_pdqsortOrdered_int] at hF
  refine ACallT.of_body (nt := 134) (rs := []) Try.func91 rfl rfl rfl rfl ?_
  have A0 : AgB B H H := .refl _ _
  refine DWp.seq ?_
  refine DWp.region fun K hK => ?_
  simp [-aBin', -aBin, -aBinI, -aUn, -aNil, -flatV, n_fn, b_add, b_sub, b_mul, b_lt, b_le, b_gt, b_ge, b_eq, b_ne, u_not]
  apply hK
  clear hK K
  simp only [andThen, leaves]
  refine DWp.seq ?_
  refine DWp.region fun K hK => ?_
  simp [-aBin', -aBin, -aBinI, -aUn, -aNil, -flatV, n_fn, b_add, b_sub, b_mul, b_lt, b_le, b_gt, b_ge, b_eq, b_ne, u_not]
  apply hK
  clear hK K
  simp only [andThen, leaves]
  refine DWp.block ?_
  obtain ⟨s1, hL2, hF⟩ := bd_some hF
  have S3 := S0.pick [0] (by decide) rfl
  refine DWp.loop (fun n env G => ∃ l1_0 : List Int, ∃ y1_1 : Int, ∃ y1_2 : Int, ∃ y1_3 : Int, ∃ y1_8 : Bool, ∃ y1_9 : Bool, F_slices_pdqsortOrdered_int_L1 fu (F_slices_pdqsortOrdered_int fu) n l1_0 y1_1 y1_2 y1_3 y1_8 y1_9 = some s1 ∧ Sep G B [flat v0 3 (ints l1_0)] ∧ AgB B H G ∧ env 0 = some v0 ∧ env 1 = some (Value.int .i64 y1_1) ∧ env 2 = some (Value.int .i64 y1_2) ∧ env 3 = some (Value.int .i64 y1_3) ∧ env 8 = some (Value.bool y1_8) ∧ env 9 = some (Value.bool y1_9)) fu ⟨x0, x1, x2, x3, true, true, hL2, S3, A0, by simp [], by simp [], by simp [], by simp [], by simp [], by simp []⟩ ?_
  rintro n1 env1 G1_ ⟨l1_0, y1_1, y1_2, y1_3, y1_8, y1_9, hL2, S1_, A1_, e1_0, e1_1, e1_2, e1_3, e1_8, e1_9⟩
  cases n1 with
  | zero => cases hL2
  | succ n1 =>
    simp only [F_slices_pdqsortOrdered_int_L1] at hL2
    refine DWp.block ?_
    refine DWp.seq ?_
    refine DWp.region fun K hK => ?_
    simp [-aBin', -aBin, -aBinI, -aUn, -aNil, -flatV, n_fn, b_add, b_sub, b_mul, b_lt, b_le, b_gt, b_ge, b_eq, b_ne, u_not, e1_0, e1_1, e1_2, e1_3, e1_8, e1_9]
    apply hK
    clear hK K
    simp only [andThen, leaves]
    refine DWp.seq ?_
    refine DWp.seq ?_
    refine DWp.region fun K hK => ?_
    simp [-aBin', -aBin, -aBinI, -aUn, -aNil, -flatV, n_fn, b_add, b_sub, b_mul, b_lt, b_le, b_gt, b_ge, b_eq, b_ne, u_not, e1_0, e1_1, e1_2, e1_3, e1_8, e1_9]
    apply hK
    clear hK K
    simp only [andThen, leaves]
    refine DWp.cond' (t := (ile (isub .i64 y1_2 y1_1) 12)) (by simp [e1_0, e1_1, e1_2, e1_3, e1_8, e1_9]) (fun hb4 => ?_) (fun hb4 => ?_)
    · replace hL2 := cd_t hb4 hL2
      refine DWp.seq ?_
      obtain ⟨r1, hc5, hL2⟩ := bd_some hL2
      refine DWp.region fun K hK => ?_
      simp [-aBin', -aBin, -aBinI, -aUn, -aNil, -flatV, n_fn, b_add, b_sub, b_mul, b_lt, b_le, b_gt, b_ge, b_eq, b_ne, u_not, e1_0, e1_1, e1_2, e1_3, e1_8, e1_9, ((S1_.sl (k := 0) rfl).tup)]
      have S6 : Sep G1_ B ([flat v0 3 (ints l1_0)] ++ []) := S1_.pick [0] (by decide) rfl
      obtain ⟨B12, S7, U8, M9, R10, C11⟩ := S6.frame (hB.le A1_.1)
      refine CallD.t (F_slices_insertionSortOrdered_int_w (fu := fu) U8 S7 hc5) ?_
      rintro _ G14 ⟨a17, rfl, S18⟩
      have A16 := A1_.trans (a17.mono M9)
      have S15 : Sep G14 B [flat v0 3 (ints r1)] := C11 _ _ a17 S18
      simp [-aBin', -aBin, -aBinI, -aUn, -aNil, -flatV, n_fn, b_add, b_sub, b_mul, b_lt, b_le, b_gt, b_ge, b_eq, b_ne, u_not, e1_0, e1_1, e1_2, e1_3, e1_8, e1_9]
      apply hK
      clear hK K
      simp only [andThen, leaves]
      refine DWp.ret ?_
      simp only [andThen, leaves]
      obtain rfl := Option.some.inj hL2
      simp only [lr] at hF
      obtain rfl := Option.some.inj hF
      exact ⟨by simp, [], by simp [e1_0, e1_1, e1_2, e1_3, e1_8, e1_9], A16, rfl, S15.pick [0] (by decide) rfl⟩
    · replace hL2 := cd_f hb4 hL2
      refine DWp.skip ?_
      simp only [andThen, leaves]
      refine DWp.seq ?_
      refine DWp.seq ?_
      refine DWp.region fun K hK => ?_
      simp [-aBin', -aBin, -aBinI, -aUn, -aNil, -flatV, n_fn, b_add, b_sub, b_mul, b_lt, b_le, b_gt, b_ge, b_eq, b_ne, u_not, e1_0, e1_1, e1_2, e1_3, e1_8, e1_9]
      apply hK
      clear hK K
      simp only [andThen, leaves]
      refine DWp.cond' (t := (ieq y1_3 0)) (by simp [e1_0, e1_1, e1_2, e1_3, e1_8, e1_9]) (fun hb19 => ?_) (fun hb19 => ?_)
      · replace hL2 := cd_t hb19 hL2
        refine DWp.seq ?_
        obtain ⟨r2, hc20, hL2⟩ := bd_some hL2
        refine DWp.region fun K hK => ?_
        simp [-aBin', -aBin, -aBinI, -aUn, -aNil, -flatV, n_fn, b_add, b_sub, b_mul, b_lt, b_le, b_gt, b_ge, b_eq, b_ne, u_not, e1_0, e1_1, e1_2, e1_3, e1_8, e1_9, ((S1_.sl (k := 0) rfl).tup)]
        have S21 : Sep G1_ B ([flat v0 3 (ints l1_0)] ++ []) := S1_.pick [0] (by decide) rfl
        obtain ⟨B27, S22, U23, M24, R25, C26⟩ := S21.frame (hB.le A1_.1)
        refine CallD.t (F_slices_heapSortOrdered_int_w (fu := fu) U23 S22 hc20) ?_
        rintro _ G29 ⟨a32, rfl, S33⟩
        have A31 := A1_.trans (a32.mono M24)
        have S30 : Sep G29 B [flat v0 3 (ints r2)] := C26 _ _ a32 S33
        simp [-aBin', -aBin, -aBinI, -aUn, -aNil, -flatV, n_fn, b_add, b_sub, b_mul, b_lt, b_le, b_gt, b_ge, b_eq, b_ne, u_not, e1_0, e1_1, e1_2, e1_3, e1_8, e1_9]
        apply hK
        clear hK K
        simp only [andThen, leaves]
        refine DWp.ret ?_
        simp only [andThen, leaves]
        obtain rfl := Option.some.inj hL2
        simp only [lr] at hF
        obtain rfl := Option.some.inj hF
        exact ⟨by simp, [], by simp [e1_0, e1_1, e1_2, e1_3, e1_8, e1_9], A31, rfl, S30.pick [0] (by decide) rfl⟩
      · replace hL2 := cd_f hb19 hL2
        refine DWp.skip ?_
        simp only [andThen, leaves]
        obtain ⟨s34, hL35, hL2⟩ := bd_some hL2
        refine DWp.seq (DWp.join (fun env G => Sep G B [flat v0 3 (ints s34.1)] ∧ AgB B H G ∧ env 0 = some v0 ∧ env 1 = some (Value.int .i64 y1_1) ∧ env 2 = some (Value.int .i64 y1_2) ∧ env 3 = some (Value.int .i64 s34.2) ∧ env 8 = some (Value.bool y1_8) ∧ env 9 = some (Value.bool y1_9) ∧ env 10 = some (Value.int .i64 (isub .i64 y1_2 y1_1))) ?_ ?_)
        ·
          refine DWp.seq ?_
          refine DWp.region fun K hK => ?_
          simp [-aBin', -aBin, -aBinI, -aUn, -aNil, -flatV, n_fn, b_add, b_sub, b_mul, b_lt, b_le, b_gt, b_ge, b_eq, b_ne, u_not, e1_0, e1_1, e1_2, e1_3, e1_8, e1_9]
          apply hK
          clear hK K
          simp only [andThen, leaves]
          refine DWp.cond' (t := (bnot y1_8)) (by simp [e1_0, e1_1, e1_2, e1_3, e1_8, e1_9]) (fun hb37 => ?_) (fun hb37 => ?_)
          · replace hL35 := cd_t hb37 hL35
            refine DWp.seq ?_
            obtain ⟨r3, hc38, hL35⟩ := bd_some hL35
            refine DWp.region fun K hK => ?_
            simp [-aBin', -aBin, -aBinI, -aUn, -aNil, -flatV, n_fn, b_add, b_sub, b_mul, b_lt, b_le, b_gt, b_ge, b_eq, b_ne, u_not, e1_0, e1_1, e1_2, e1_3, e1_8, e1_9, ((S1_.sl (k := 0) rfl).tup)]
            have S39 : Sep G1_ B ([flat v0 3 (ints l1_0)] ++ []) := S1_.pick [0] (by decide) rfl
            obtain ⟨B45, S40, U41, M42, R43, C44⟩ := S39.frame (hB.le A1_.1)
            refine CallD.t (F_slices_breakPatternsOrdered_int_w (fu := fu) U41 S40 hc38) ?_
            rintro _ G47 ⟨a50, rfl, S51⟩
            have A49 := A1_.trans (a50.mono M42)
            have S48 : Sep G47 B [flat v0 3 (ints r3)] := C44 _ _ a50 S51
            simp [-aBin', -aBin, -aBinI, -aUn, -aNil, -flatV, n_fn, b_add, b_sub, b_mul, b_lt, b_le, b_gt, b_ge, b_eq, b_ne, u_not, e1_0, e1_1, e1_2, e1_3, e1_8, e1_9]
            apply hK
            clear hK K
            simp only [andThen, leaves]
            refine DWp.region fun K hK => ?_
            simp [-aBin', -aBin, -aBinI, -aUn, -aNil, -flatV, n_fn, b_add, b_sub, b_mul, b_lt, b_le, b_gt, b_ge, b_eq, b_ne, u_not, e1_0, e1_1, e1_2, e1_3, e1_8, e1_9]
            apply hK
            clear hK K
            simp only [andThen, leaves]
            have S52 := S48.pick [0] (by decide) rfl
            obtain rfl := Option.some.inj hL35
            exact ⟨S52, A49, by simp [e1_0, e1_1, e1_2, e1_3, e1_8, e1_9], by simp [e1_0, e1_1, e1_2, e1_3, e1_8, e1_9], by simp [e1_0, e1_1, e1_2, e1_3, e1_8, e1_9], by simp [e1_0, e1_1, e1_2, e1_3, e1_8, e1_9], by simp [e1_0, e1_1, e1_2, e1_3, e1_8, e1_9], by simp [e1_0, e1_1, e1_2, e1_3, e1_8, e1_9], by simp [e1_0, e1_1, e1_2, e1_3, e1_8, e1_9]⟩
          · replace hL35 := cd_f hb37 hL35
            refine DWp.skip ?_
            simp only [andThen, leaves]
            have S53 := S1_.pick [0] (by decide) rfl
            obtain rfl := Option.some.inj hL35
            exact ⟨S53, A1_, by simp [e1_0, e1_1, e1_2, e1_3, e1_8, e1_9], by simp [e1_0, e1_1, e1_2, e1_3, e1_8, e1_9], by simp [e1_0, e1_1, e1_2, e1_3, e1_8, e1_9], by simp [e1_0, e1_1, e1_2, e1_3, e1_8, e1_9], by simp [e1_0, e1_1, e1_2, e1_3, e1_8, e1_9], by simp [e1_0, e1_1, e1_2, e1_3, e1_8, e1_9], by simp [e1_0, e1_1, e1_2, e1_3, e1_8, e1_9]⟩
        · rintro env Gj54 ⟨Sj54, Aj54, ej54_0, ej54_1, ej54_2, ej54_3, ej54_8, ej54_9, ej54_10⟩
          refine DWp.seq ?_
          obtain ⟨r4, hc55, hL2⟩ := bd_some hL2
          refine DWp.region fun K hK => ?_
          simp [-aBin', -aBin, -aBinI, -aUn, -aNil, -flatV, n_fn, b_add, b_sub, b_mul, b_lt, b_le, b_gt, b_ge, b_eq, b_ne, u_not, ej54_0, ej54_1, ej54_2, ej54_3, ej54_8, ej54_9, ej54_10, ((Sj54.sl (k := 0) rfl).tup)]
          refine CallD.t (F_slices_choosePivotOrdered_int_w (fu := fu) (Sj54.sl (k := 0) rfl) hc55) ?_
          rintro _ G57 ⟨a60, rfl, S61⟩
          have A59 := Aj54.ext (hB.le Aj54.1) a60.agree
          have S58 : Sep G57 B [flat v0 3 (ints s34.1)] := Sj54.app a60.agree S61 (fun _ h => h) (hB.le Aj54.1)
          simp [-aBin', -aBin, -aBinI, -aUn, -aNil, -flatV, n_fn, b_add, b_sub, b_mul, b_lt, b_le, b_gt, b_ge, b_eq, b_ne, u_not, ej54_0, ej54_1, ej54_2, ej54_3, ej54_8, ej54_9, ej54_10, a60.pre]
          apply hK
          clear hK K
          simp only [andThen, leaves]
          obtain ⟨s62, hL63, hL2⟩ := bd_some hL2
          refine DWp.seq (DWp.join (fun env G => Sep G B [flat v0 3 (ints s62.1)] ∧ AgB B H G ∧ env 0 = some v0 ∧ env 1 = some (Value.int .i64 y1_1) ∧ env 2 = some (Value.int .i64 y1_2) ∧ env 3 = some (Value.int .i64 s34.2) ∧ env 8 = some (Value.bool y1_8) ∧ env 9 = some (Value.bool y1_9) ∧ env 10 = some (Value.int .i64 (isub .i64 y1_2 y1_1)) ∧ env 11 = some (Value.int .i64 s62.2.1) ∧ env 12 = some (Value.int .i64 s62.2.2)) ?_ ?_)
          ·
            refine DWp.seq ?_
            refine DWp.region fun K hK => ?_
            simp [-aBin', -aBin, -aBinI, -aUn, -aNil, -flatV, n_fn, b_add, b_sub, b_mul, b_lt, b_le, b_gt, b_ge, b_eq, b_ne, u_not, ej54_0, ej54_1, ej54_2, ej54_3, ej54_8, ej54_9, ej54_10]
            apply hK
            clear hK K
            simp only [andThen, leaves]
            refine DWp.cond' (t := (ieq r4.2 2)) (by simp [ej54_0, ej54_1, ej54_2, ej54_3, ej54_8, ej54_9, ej54_10]) (fun hb65 => ?_) (fun hb65 => ?_)
            · replace hL63 := cd_t hb65 hL63
              refine DWp.seq ?_
              obtain ⟨r5, hc66, hL63⟩ := bd_some hL63
              refine DWp.region fun K hK => ?_
              simp [-aBin', -aBin, -aBinI, -aUn, -aNil, -flatV, n_fn, b_add, b_sub, b_mul, b_lt, b_le, b_gt, b_ge, b_eq, b_ne, u_not, ej54_0, ej54_1, ej54_2, ej54_3, ej54_8, ej54_9, ej54_10, ((S58.sl (k := 0) rfl).tup)]
              have S67 : Sep G57 B ([flat v0 3 (ints s34.1)] ++ []) := S58.pick [0] (by decide) rfl
              obtain ⟨B73, S68, U69, M70, R71, C72⟩ := S67.frame (hB.le A59.1)
              refine CallD.t (F_slices_reverseRangeOrdered_int_w (fu := fu) U69 S68 hc66) ?_
              rintro _ G75 ⟨a78, rfl, S79⟩
              have A77 := A59.trans (a78.mono M70)
              have S76 : Sep G75 B [flat v0 3 (ints r5)] := C72 _ _ a78 S79
              simp [-aBin', -aBin, -aBinI, -aUn, -aNil, -flatV, n_fn, b_add, b_sub, b_mul, b_lt, b_le, b_gt, b_ge, b_eq, b_ne, u_not, ej54_0, ej54_1, ej54_2, ej54_3, ej54_8, ej54_9, ej54_10]
              apply hK
              clear hK K
              simp only [andThen, leaves]
              refine DWp.seq ?_
              refine DWp.region fun K hK => ?_
              simp [-aBin', -aBin, -aBinI, -aUn, -aNil, -flatV, n_fn, b_add, b_sub, b_mul, b_lt, b_le, b_gt, b_ge, b_eq, b_ne, u_not, ej54_0, ej54_1, ej54_2, ej54_3, ej54_8, ej54_9, ej54_10]
              apply hK
              clear hK K
              simp only [andThen, leaves]
              refine DWp.region fun K hK => ?_
              simp [-aBin', -aBin, -aBinI, -aUn, -aNil, -flatV, n_fn, b_add, b_sub, b_mul, b_lt, b_le, b_gt, b_ge, b_eq, b_ne, u_not, ej54_0, ej54_1, ej54_2, ej54_3, ej54_8, ej54_9, ej54_10]
              apply hK
              clear hK K
              simp only [andThen, leaves]
              have S80 := S76.pick [0] (by decide) rfl
              obtain rfl := Option.some.inj hL63
              exact ⟨S80, A77, by simp [ej54_0, ej54_1, ej54_2, ej54_3, ej54_8, ej54_9, ej54_10], by simp [ej54_0, ej54_1, ej54_2, ej54_3, ej54_8, ej54_9, ej54_10], by simp [ej54_0, ej54_1, ej54_2, ej54_3, ej54_8, ej54_9, ej54_10], by simp [ej54_0, ej54_1, ej54_2, ej54_3, ej54_8, ej54_9, ej54_10], by simp [ej54_0, ej54_1, ej54_2, ej54_3, ej54_8, ej54_9, ej54_10], by simp [ej54_0, ej54_1, ej54_2, ej54_3, ej54_8, ej54_9, ej54_10], by simp [ej54_0, ej54_1, ej54_2, ej54_3, ej54_8, ej54_9, ej54_10], by simp [ej54_0, ej54_1, ej54_2, ej54_3, ej54_8, ej54_9, ej54_10], by simp [ej54_0, ej54_1, ej54_2, ej54_3, ej54_8, ej54_9, ej54_10]⟩
            · replace hL63 := cd_f hb65 hL63
              refine DWp.skip ?_
              simp only [andThen, leaves]
              have S81 := S58.pick [0] (by decide) rfl
              obtain rfl := Option.some.inj hL63
              exact ⟨S81, A59, by simp [ej54_0, ej54_1, ej54_2, ej54_3, ej54_8, ej54_9, ej54_10], by simp [ej54_0, ej54_1, ej54_2, ej54_3, ej54_8, ej54_9, ej54_10], by simp [ej54_0, ej54_1, ej54_2, ej54_3, ej54_8, ej54_9, ej54_10], by simp [ej54_0, ej54_1, ej54_2, ej54_3, ej54_8, ej54_9, ej54_10], by simp [ej54_0, ej54_1, ej54_2, ej54_3, ej54_8, ej54_9, ej54_10], by simp [ej54_0, ej54_1, ej54_2, ej54_3, ej54_8, ej54_9, ej54_10], by simp [ej54_0, ej54_1, ej54_2, ej54_3, ej54_8, ej54_9, ej54_10], by simp [ej54_0, ej54_1, ej54_2, ej54_3, ej54_8, ej54_9, ej54_10], by simp [ej54_0, ej54_1, ej54_2, ej54_3, ej54_8, ej54_9, ej54_10]⟩
          · rintro env Gj82 ⟨Sj82, Aj82, ej82_0, ej82_1, ej82_2, ej82_3, ej82_8, ej82_9, ej82_10, ej82_11, ej82_12⟩
            refine DWp.seq ?_
            obtain ⟨s83, hL84, hL2⟩ := bd_some hL2
            refine DWp.seq (DWp.join (fun env G => Sep G B [flat v0 3 (ints s62.1)] ∧ AgB B H G ∧ env 0 = some v0 ∧ env 1 = some (Value.int .i64 y1_1) ∧ env 2 = some (Value.int .i64 y1_2) ∧ env 3 = some (Value.int .i64 s34.2) ∧ env 8 = some (Value.bool y1_8) ∧ env 9 = some (Value.bool y1_9) ∧ env 10 = some (Value.int .i64 (isub .i64 y1_2 y1_1)) ∧ env 11 = some (Value.int .i64 s62.2.1) ∧ env 68 = some (Value.bool s83)) ?_ ?_)
            ·
              rcases Bool.eq_false_or_eq_true y1_8 with hb86 | hb86
              · replace hL84 := cd_t hb86 hL84
                rcases Bool.eq_false_or_eq_true y1_9 with hb87 | hb87
                · replace hL84 := cd_t hb87 hL84
                  refine DWp.region fun K hK => ?_
                  simp [-aBin', -aBin, -aBinI, -aUn, -aNil, -flatV, n_fn, b_add, b_sub, b_mul, b_lt, b_le, b_gt, b_ge, b_eq, b_ne, u_not, ej82_0, ej82_1, ej82_2, ej82_3, ej82_8, ej82_9, ej82_10, ej82_11, ej82_12, hb86, hb87]
                  apply hK
                  clear hK K
                  simp only [andThen, leaves]
                  have S88 := Sj82.pick [0] (by decide) rfl
                  obtain rfl := Option.some.inj hL84
                  exact ⟨S88, Aj82, by simp [ej82_0, ej82_1, ej82_2, ej82_3, ej82_8, ej82_9, ej82_10, ej82_11, ej82_12], by simp [ej82_0, ej82_1, ej82_2, ej82_3, ej82_8, ej82_9, ej82_10, ej82_11, ej82_12], by simp [ej82_0, ej82_1, ej82_2, ej82_3, ej82_8, ej82_9, ej82_10, ej82_11, ej82_12], by simp [ej82_0, ej82_1, ej82_2, ej82_3, ej82_8, ej82_9, ej82_10, ej82_11, ej82_12], by simp [ej82_0, ej82_1, ej82_2, ej82_3, ej82_8, ej82_9, ej82_10, ej82_11, ej82_12], by simp [ej82_0, ej82_1, ej82_2, ej82_3, ej82_8, ej82_9, ej82_10, ej82_11, ej82_12], by simp [ej82_0, ej82_1, ej82_2, ej82_3, ej82_8, ej82_9, ej82_10, ej82_11, ej82_12], by simp [ej82_0, ej82_1, ej82_2, ej82_3, ej82_8, ej82_9, ej82_10, ej82_11, ej82_12], by simp [ej82_0, ej82_1, ej82_2, ej82_3, ej82_8, ej82_9, ej82_10, ej82_11, ej82_12]⟩
                · replace hL84 := cd_f hb87 hL84
                  refine DWp.region fun K hK => ?_
                  simp [-aBin', -aBin, -aBinI, -aUn, -aNil, -flatV, n_fn, b_add, b_sub, b_mul, b_lt, b_le, b_gt, b_ge, b_eq, b_ne, u_not, ej82_0, ej82_1, ej82_2, ej82_3, ej82_8, ej82_9, ej82_10, ej82_11, ej82_12, hb86, hb87]
                  apply hK
                  clear hK K
                  simp only [andThen, leaves]
                  have S89 := Sj82.pick [0] (by decide) rfl
                  obtain rfl := Option.some.inj hL84
                  exact ⟨S89, Aj82, by simp [ej82_0, ej82_1, ej82_2, ej82_3, ej82_8, ej82_9, ej82_10, ej82_11, ej82_12], by simp [ej82_0, ej82_1, ej82_2, ej82_3, ej82_8, ej82_9, ej82_10, ej82_11, ej82_12], by simp [ej82_0, ej82_1, ej82_2, ej82_3, ej82_8, ej82_9, ej82_10, ej82_11, ej82_12], by simp [ej82_0, ej82_1, ej82_2, ej82_3, ej82_8, ej82_9, ej82_10, ej82_11, ej82_12], by simp [ej82_0, ej82_1, ej82_2, ej82_3, ej82_8, ej82_9, ej82_10, ej82_11, ej82_12], by simp [ej82_0, ej82_1, ej82_2, ej82_3, ej82_8, ej82_9, ej82_10, ej82_11, ej82_12], by simp [ej82_0, ej82_1, ej82_2, ej82_3, ej82_8, ej82_9, ej82_10, ej82_11, ej82_12], by simp [ej82_0, ej82_1, ej82_2, ej82_3, ej82_8, ej82_9, ej82_10, ej82_11, ej82_12], by simp [ej82_0, ej82_1, ej82_2, ej82_3, ej82_8, ej82_9, ej82_10, ej82_11, ej82_12]⟩
              · replace hL84 := cd_f hb86 hL84
                refine DWp.region fun K hK => ?_
                simp [-aBin', -aBin, -aBinI, -aUn, -aNil, -flatV, n_fn, b_add, b_sub, b_mul, b_lt, b_le, b_gt, b_ge, b_eq, b_ne, u_not, ej82_0, ej82_1, ej82_2, ej82_3, ej82_8, ej82_9, ej82_10, ej82_11, ej82_12, hb86]
                apply hK
                clear hK K
                simp only [andThen, leaves]
                have S90 := Sj82.pick [0] (by decide) rfl
                obtain rfl := Option.some.inj hL84
                exact ⟨S90, Aj82, by simp [ej82_0, ej82_1, ej82_2, ej82_3, ej82_8, ej82_9, ej82_10, ej82_11, ej82_12], by simp [ej82_0, ej82_1, ej82_2, ej82_3, ej82_8, ej82_9, ej82_10, ej82_11, ej82_12], by simp [ej82_0, ej82_1, ej82_2, ej82_3, ej82_8, ej82_9, ej82_10, ej82_11, ej82_12], by simp [ej82_0, ej82_1, ej82_2, ej82_3, ej82_8, ej82_9, ej82_10, ej82_11, ej82_12], by simp [ej82_0, ej82_1, ej82_2, ej82_3, ej82_8, ej82_9, ej82_10, ej82_11, ej82_12], by simp [ej82_0, ej82_1, ej82_2, ej82_3, ej82_8, ej82_9, ej82_10, ej82_11, ej82_12], by simp [ej82_0, ej82_1, ej82_2, ej82_3, ej82_8, ej82_9, ej82_10, ej82_11, ej82_12], by simp [ej82_0, ej82_1, ej82_2, ej82_3, ej82_8, ej82_9, ej82_10, ej82_11, ej82_12], by simp [ej82_0, ej82_1, ej82_2, ej82_3, ej82_8, ej82_9, ej82_10, ej82_11, ej82_12]⟩
            · rintro env Gj91 ⟨Sj91, Aj91, ej91_0, ej91_1, ej91_2, ej91_3, ej91_8, ej91_9, ej91_10, ej91_11, ej91_68⟩
              refine DWp.cond' (t := s83) (by simp [ej91_0, ej91_1, ej91_2, ej91_3, ej91_8, ej91_9, ej91_10, ej91_11, ej91_68]) (fun hb92 => ?_) (fun hb92 => ?_)
              · replace hL2 := cd_t hb92 hL2
                refine DWp.seq ?_
                obtain ⟨r6, hc93, hL2⟩ := bd_some hL2
                refine DWp.region fun K hK => ?_
                simp [-aBin', -aBin, -aBinI, -aUn, -aNil, -flatV, n_fn, b_add, b_sub, b_mul, b_lt, b_le, b_gt, b_ge, b_eq, b_ne, u_not, ej91_0, ej91_1, ej91_2, ej91_3, ej91_8, ej91_9, ej91_10, ej91_11, ej91_68, ((Sj91.sl (k := 0) rfl).tup)]
                have S94 : Sep Gj91 B ([flat v0 3 (ints s62.1)] ++ []) := Sj91.pick [0] (by decide) rfl
                obtain ⟨B100, S95, U96, M97, R98, C99⟩ := S94.frame (hB.le Aj91.1)
                refine CallD.t (F_slices_partialInsertionSortOrdered_int_w (fu := fu) U96 S95 hc93) ?_
                rintro _ G102 ⟨a105, rfl, S106⟩
                have A104 := Aj91.trans (a105.mono M97)
                have S103 : Sep G102 B [flat v0 3 (ints r6.2)] := C99 _ _ a105 S106
                simp [-aBin', -aBin, -aBinI, -aUn, -aNil, -flatV, n_fn, b_add, b_sub, b_mul, b_lt, b_le, b_gt, b_ge, b_eq, b_ne, u_not, ej91_0, ej91_1, ej91_2, ej91_3, ej91_8, ej91_9, ej91_10, ej91_11, ej91_68]
                apply hK
                clear hK K
                simp only [andThen, leaves]
                refine DWp.cond' (t := r6.1) (by simp [ej91_0, ej91_1, ej91_2, ej91_3, ej91_8, ej91_9, ej91_10, ej91_11, ej91_68]) (fun hb107 => ?_) (fun hb107 => ?_)
                · replace hL2 := cd_t hb107 hL2
                  refine DWp.ret ?_
                  simp only [andThen, leaves]
                  obtain rfl := Option.some.inj hL2
                  simp only [lr] at hF
                  obtain rfl := Option.some.inj hF
                  exact ⟨by simp, [], by simp [ej91_0, ej91_1, ej91_2, ej91_3, ej91_8, ej91_9, ej91_10, ej91_11, ej91_68], A104, rfl, S103.pick [0] (by decide) rfl⟩
                · replace hL2 := cd_f hb107 hL2
                  refine DWp.skip ?_
                  simp only [andThen, leaves]
                  refine DWp.seq ?_
                  obtain ⟨s108, hL109, hL2⟩ := bd_some hL2
                  refine DWp.seq (DWp.join (fun env G => Sep G B [flat v0 3 (ints r6.2)] ∧ AgB B H G ∧ env 0 = some v0 ∧ env 1 = some (Value.int .i64 y1_1) ∧ env 2 = some (Value.int .i64 y1_2) ∧ env 3 = some (Value.int .i64 s34.2) ∧ env 8 = some (Value.bool y1_8) ∧ env 9 = some (Value.bool y1_9) ∧ env 10 = some (Value.int .i64 (isub .i64 y1_2 y1_1)) ∧ env 11 = some (Value.int .i64 s62.2.1) ∧ env 87 = some (Value.bool s108)) ?_ ?_)
                  ·
                    rcases Bool.eq_false_or_eq_true (ilt 0 y1_1) with hb111 | hb111
                    · replace hL109 := cd_t hb111 hL109
                      obtain ⟨g112, hL109⟩ := gd_some hL109
                      have q113 := idxG (P := Try.prog) (kk := .i64) (S103.sl (k := 0) rfl) el_22 sz_3 g112
                      have q114 := loadG (P := Try.prog) (S103.sl (k := 0) rfl) sz_3 ag_3 g112 0
                      obtain ⟨g115, hL109⟩ := gd_some hL109
                      have q116 := idxG (P := Try.prog) (kk := .i64) (S103.sl (k := 0) rfl) el_22 sz_3 g115
                      have q117 := loadG (P := Try.prog) (S103.sl (k := 0) rfl) sz_3 ag_3 g115 0
                      obtain ⟨r7, hc118, hL109⟩ := bd_some hL109
                      refine DWp.drawn (B := [0, 1, 3, 7, 7, 23, 63, 127, 7, 7, 775, 1799, 4095, 8191, 16383]) 15 mixed (by kernel_rfl) (by decide) fun K hK => ?_
                      simp [-aBin', -aBin, -aBinI, -aUn, -aNil, -flatV, n_fn, b_add, b_sub, b_mul, b_lt, b_le, b_gt, b_ge, b_eq, b_ne, u_not, ej91_0, ej91_1, ej91_2, ej91_3, ej91_8, ej91_9, ej91_10, ej91_11, ej91_68, hb111, q113, q114, q116, q117]
                      refine CallD.t (F_cmp_Less_int_w (fu := fu)  hc118) ?_
                      rintro _ G120 ⟨a123, rfl, S124⟩
                      have A122 := A104.ext (hB.le A104.1) a123.agree
                      have S121 : Sep G120 B [flat v0 3 (ints r6.2)] := S103.app a123.agree S124 (fun _ h => h) (hB.le A104.1)
                      simp [-aBin', -aBin, -aBinI, -aUn, -aNil, -flatV, n_fn, b_add, b_sub, b_mul, b_lt, b_le, b_gt, b_ge, b_eq, b_ne, u_not, ej91_0, ej91_1, ej91_2, ej91_3, ej91_8, ej91_9, ej91_10, ej91_11, ej91_68, hb111, q113, q114, q116, q117, a123.pre]
                      apply hK
                      clear hK K
                      simp only [andThen, leaves]
                      have S125 := S121.pick [0] (by decide) rfl
                      obtain rfl := Option.some.inj hL109
                      exact ⟨S125, A122, by simp [ej91_0, ej91_1, ej91_2, ej91_3, ej91_8, ej91_9, ej91_10, ej91_11, ej91_68], by simp [ej91_0, ej91_1, ej91_2, ej91_3, ej91_8, ej91_9, ej91_10, ej91_11, ej91_68], by simp [ej91_0, ej91_1, ej91_2, ej91_3, ej91_8, ej91_9, ej91_10, ej91_11, ej91_68], by simp [ej91_0, ej91_1, ej91_2, ej91_3, ej91_8, ej91_9, ej91_10, ej91_11, ej91_68], by simp [ej91_0, ej91_1, ej91_2, ej91_3, ej91_8, ej91_9, ej91_10, ej91_11, ej91_68], by simp [ej91_0, ej91_1, ej91_2, ej91_3, ej91_8, ej91_9, ej91_10, ej91_11, ej91_68], by simp [ej91_0, ej91_1, ej91_2, ej91_3, ej91_8, ej91_9, ej91_10, ej91_11, ej91_68], by simp [ej91_0, ej91_1, ej91_2, ej91_3, ej91_8, ej91_9, ej91_10, ej91_11, ej91_68], by simp [ej91_0, ej91_1, ej91_2, ej91_3, ej91_8, ej91_9, ej91_10, ej91_11, ej91_68]⟩
                    · replace hL109 := cd_f hb111 hL109
                      refine DWp.drawn (B := [0, 1, 3, 7, 7, 23, 63, 127, 7, 7, 775, 1799, 4095, 8191, 16383]) 15 mixed (by kernel_rfl) (by decide) fun K hK => ?_
                      simp [-aBin', -aBin, -aBinI, -aUn, -aNil, -flatV, n_fn, b_add, b_sub, b_mul, b_lt, b_le, b_gt, b_ge, b_eq, b_ne, u_not, ej91_0, ej91_1, ej91_2, ej91_3, ej91_8, ej91_9, ej91_10, ej91_11, ej91_68, hb111]
                      apply hK
                      clear hK K
                      simp only [andThen, leaves]
                      have S126 := S103.pick [0] (by decide) rfl
                      obtain rfl := Option.some.inj hL109
                      exact ⟨S126, A104, by simp [ej91_0, ej91_1, ej91_2, ej91_3, ej91_8, ej91_9, ej91_10, ej91_11, ej91_68], by simp [ej91_0, ej91_1, ej91_2, ej91_3, ej91_8, ej91_9, ej91_10, ej91_11, ej91_68], by simp [ej91_0, ej91_1, ej91_2, ej91_3, ej91_8, ej91_9, ej91_10, ej91_11, ej91_68], by simp [ej91_0, ej91_1, ej91_2, ej91_3, ej91_8, ej91_9, ej91_10, ej91_11, ej91_68], by simp [ej91_0, ej91_1, ej91_2, ej91_3, ej91_8, ej91_9, ej91_10, ej91_11, ej91_68], by simp [ej91_0, ej91_1, ej91_2, ej91_3, ej91_8, ej91_9, ej91_10, ej91_11, ej91_68], by simp [ej91_0, ej91_1, ej91_2, ej91_3, ej91_8, ej91_9, ej91_10, ej91_11, ej91_68], by simp [ej91_0, ej91_1, ej91_2, ej91_3, ej91_8, ej91_9, ej91_10, ej91_11, ej91_68], by simp [ej91_0, ej91_1, ej91_2, ej91_3, ej91_8, ej91_9, ej91_10, ej91_11, ej91_68]⟩
                  · rintro env Gj127 ⟨Sj127, Aj127, ej127_0, ej127_1, ej127_2, ej127_3, ej127_8, ej127_9, ej127_10, ej127_11, ej127_87⟩
                    refine DWp.cond' (t := s108) (by simp [ej127_0, ej127_1, ej127_2, ej127_3, ej127_8, ej127_9, ej127_10, ej127_11, ej127_87]) (fun hb128 => ?_) (fun hb128 => ?_)
                    · replace hL2 := cd_t hb128 hL2
                      refine DWp.seq ?_
                      obtain ⟨r8, hc129, hL2⟩ := bd_some hL2
                      refine DWp.region fun K hK => ?_
                      simp [-aBin', -aBin, -aBinI, -aUn, -aNil, -flatV, n_fn, b_add, b_sub, b_mul, b_lt, b_le, b_gt, b_ge, b_eq, b_ne, u_not, ej127_0, ej127_1, ej127_2, ej127_3, ej127_8, ej127_9, ej127_10, ej127_11, ej127_87, ((Sj127.sl (k := 0) rfl).tup)]
                      have S130 : Sep Gj127 B ([flat v0 3 (ints r6.2)] ++ []) := Sj127.pick [0] (by decide) rfl
                      obtain ⟨B136, S131, U132, M133, R134, C135⟩ := S130.frame (hB.le Aj127.1)
                      refine CallD.t (F_slices_partitionEqualOrdered_int_w (fu := fu) U132 S131 hc129) ?_
                      rintro _ G138 ⟨a141, rfl, S142⟩
                      have A140 := Aj127.trans (a141.mono M133)
                      have S139 : Sep G138 B [flat v0 3 (ints r8.2)] := C135 _ _ a141 S142
                      simp [-aBin', -aBin, -aBinI, -aUn, -aNil, -flatV, n_fn, b_add, b_sub, b_mul, b_lt, b_le, b_gt, b_ge, b_eq, b_ne, u_not, ej127_0, ej127_1, ej127_2, ej127_3, ej127_8, ej127_9, ej127_10, ej127_11, ej127_87]
                      apply hK
                      clear hK K
                      simp only [andThen, leaves]
                      refine DWp.seq ?_
                      refine DWp.region fun K hK => ?_
                      simp [-aBin', -aBin, -aBinI, -aUn, -aNil, -flatV, n_fn, b_add, b_sub, b_mul, b_lt, b_le, b_gt, b_ge, b_eq, b_ne, u_not, ej127_0, ej127_1, ej127_2, ej127_3, ej127_8, ej127_9, ej127_10, ej127_11, ej127_87]
                      apply hK
                      clear hK K
                      simp only [andThen, leaves]
                      refine DWp.exit ?_
                      simp only [andThen, leaves, if_true, if_false, reduceIte, Nat.reduceEqDiff]
                      have S143 := S139.pick [0] (by decide) rfl
                      exact ⟨n1, Nat.lt_succ_self _, r8.2, r8.1, y1_2, s34.2, y1_8, y1_9, hL2, S143, A140, by simp [ej127_0, ej127_1, ej127_2, ej127_3, ej127_8, ej127_9, ej127_10, ej127_11, ej127_87], by simp [ej127_0, ej127_1, ej127_2, ej127_3, ej127_8, ej127_9, ej127_10, ej127_11, ej127_87], by simp [ej127_0, ej127_1, ej127_2, ej127_3, ej127_8, ej127_9, ej127_10, ej127_11, ej127_87], by simp [ej127_0, ej127_1, ej127_2, ej127_3, ej127_8, ej127_9, ej127_10, ej127_11, ej127_87], by simp [ej127_0, ej127_1, ej127_2, ej127_3, ej127_8, ej127_9, ej127_10, ej127_11, ej127_87], by simp [ej127_0, ej127_1, ej127_2, ej127_3, ej127_8, ej127_9, ej127_10, ej127_11, ej127_87]⟩
                    · replace hL2 := cd_f hb128 hL2
                      refine DWp.skip ?_
                      simp only [andThen, leaves]
                      refine DWp.seq ?_
                      obtain ⟨r9, hc144, hL2⟩ := bd_some hL2
                      refine DWp.region fun K hK => ?_
                      simp [-aBin', -aBin, -aBinI, -aUn, -aNil, -flatV, n_fn, b_add, b_sub, b_mul, b_lt, b_le, b_gt, b_ge, b_eq, b_ne, u_not, ej127_0, ej127_1, ej127_2, ej127_3, ej127_8, ej127_9, ej127_10, ej127_11, ej127_87, ((Sj127.sl (k := 0) rfl).tup)]
                      have S145 : Sep Gj127 B ([flat v0 3 (ints r6.2)] ++ []) := Sj127.pick [0] (by decide) rfl
                      obtain ⟨B151, S146, U147, M148, R149, C150⟩ := S145.frame (hB.le Aj127.1)
                      refine CallD.t (F_slices_partitionOrdered_int_w (fu := fu) U147 S146 hc144) ?_
                      rintro _ G153 ⟨a156, rfl, S157⟩
                      have A155 := Aj127.trans (a156.mono M148)
                      have S154 : Sep G153 B [flat v0 3 (ints r9.2.2)] := C150 _ _ a156 S157
                      simp [-aBin', -aBin, -aBinI, -aUn, -aNil, -flatV, n_fn, b_add, b_sub, b_mul, b_lt, b_le, b_gt, b_ge, b_eq, b_ne, u_not, ej127_0, ej127_1, ej127_2, ej127_3, ej127_8, ej127_9, ej127_10, ej127_11, ej127_87]
                      apply hK
                      clear hK K
                      simp only [andThen, leaves]
                      refine DWp.seq ?_
                      refine DWp.region fun K hK => ?_
                      simp [-aBin', -aBin, -aBinI, -aUn, -aNil, -flatV, n_fn, b_add, b_sub, b_mul, b_lt, b_le, b_gt, b_ge, b_eq, b_ne, u_not, ej127_0, ej127_1, ej127_2, ej127_3, ej127_8, ej127_9, ej127_10, ej127_11, ej127_87]
                      apply hK
                      clear hK K
                      simp only [andThen, leaves]
                      refine DWp.seq ?_
                      refine DWp.region fun K hK => ?_
                      simp [-aBin', -aBin, -aBinI, -aUn, -aNil, -flatV, n_fn, b_add, b_sub, b_mul, b_lt, b_le, b_gt, b_ge, b_eq, b_ne, u_not, ej127_0, ej127_1, ej127_2, ej127_3, ej127_8, ej127_9, ej127_10, ej127_11, ej127_87]
                      apply hK
                      clear hK K
                      simp only [andThen, leaves]
                      refine DWp.seq ?_
                      have g158 : (8 : Int) ≠ 0 := by decide
                      refine DWp.region fun K hK => ?_
                      simp [-aBin', -aBin, -aBinI, -aUn, -aNil, -flatV, n_fn, b_add, b_sub, b_mul, b_lt, b_le, b_gt, b_ge, b_eq, b_ne, u_not, ej127_0, ej127_1, ej127_2, ej127_3, ej127_8, ej127_9, ej127_10, ej127_11, ej127_87, b_quo g158]
                      apply hK
                      clear hK K
                      simp only [andThen, leaves]
                      refine DWp.seq ?_
                      refine DWp.region fun K hK => ?_
                      simp [-aBin', -aBin, -aBinI, -aUn, -aNil, -flatV, n_fn, b_add, b_sub, b_mul, b_lt, b_le, b_gt, b_ge, b_eq, b_ne, u_not, ej127_0, ej127_1, ej127_2, ej127_3, ej127_8, ej127_9, ej127_10, ej127_11, ej127_87]
                      apply hK
                      clear hK K
                      simp only [andThen, leaves]
                      refine DWp.cond' (t := (ilt (isub .i64 r9.1 y1_1) (isub .i64 y1_2 r9.1))) (by simp [ej127_0, ej127_1, ej127_2, ej127_3, ej127_8, ej127_9, ej127_10, ej127_11, ej127_87]) (fun hb159 => ?_) (fun hb159 => ?_)
                      · replace hL2 := cd_t hb159 hL2
                        refine DWp.seq ?_
                        refine DWp.region fun K hK => ?_
                        simp [-aBin', -aBin, -aBinI, -aUn, -aNil, -flatV, n_fn, b_add, b_sub, b_mul, b_lt, b_le, b_gt, b_ge, b_eq, b_ne, u_not, ej127_0, ej127_1, ej127_2, ej127_3, ej127_8, ej127_9, ej127_10, ej127_11, ej127_87]
                        apply hK
                        clear hK K
                        simp only [andThen, leaves]
                        refine DWp.seq ?_
                        obtain ⟨r10, hc160, hL2⟩ := bd_some hL2
                        refine DWp.region fun K hK => ?_
                        simp [-aBin', -aBin, -aBinI, -aUn, -aNil, -flatV, n_fn, b_add, b_sub, b_mul, b_lt, b_le, b_gt, b_ge, b_eq, b_ne, u_not, ej127_0, ej127_1, ej127_2, ej127_3, ej127_8, ej127_9, ej127_10, ej127_11, ej127_87, ((S154.sl (k := 0) rfl).tup)]
                        have S161 : Sep G153 B ([flat v0 3 (ints r9.2.2)] ++ []) := S154.pick [0] (by decide) rfl
                        obtain ⟨B167, S162, U163, M164, R165, C166⟩ := S161.frame (hB.le A155.1)
                        refine CallD.t (ih U163 S162 hc160) ?_
                        rintro _ G169 ⟨a172, rfl, S173⟩
                        have A171 := A155.trans (a172.mono M164)
                        have S170 : Sep G169 B [flat v0 3 (ints r10)] := C166 _ _ a172 S173
                        simp [-aBin', -aBin, -aBinI, -aUn, -aNil, -flatV, n_fn, b_add, b_sub, b_mul, b_lt, b_le, b_gt, b_ge, b_eq, b_ne, u_not, ej127_0, ej127_1, ej127_2, ej127_3, ej127_8, ej127_9, ej127_10, ej127_11, ej127_87]
                        apply hK
                        clear hK K
                        simp only [andThen, leaves]
                        refine DWp.region fun K hK => ?_
                        simp [-aBin', -aBin, -aBinI, -aUn, -aNil, -flatV, n_fn, b_add, b_sub, b_mul, b_lt, b_le, b_gt, b_ge, b_eq, b_ne, u_not, ej127_0, ej127_1, ej127_2, ej127_3, ej127_8, ej127_9, ej127_10, ej127_11, ej127_87]
                        apply hK
                        clear hK K
                        simp only [andThen, leaves]
                        have S174 := S170.pick [0] (by decide) rfl
                        exact ⟨n1, Nat.lt_succ_self _, r10, (iadd .i64 r9.1 1), y1_2, s34.2, (ile (iquo .i64 (isub .i64 y1_2 y1_1) 8) (isub .i64 r9.1 y1_1)), r9.2.1, hL2, S174, A171, by simp [ej127_0, ej127_1, ej127_2, ej127_3, ej127_8, ej127_9, ej127_10, ej127_11, ej127_87], by simp [ej127_0, ej127_1, ej127_2, ej127_3, ej127_8, ej127_9, ej127_10, ej127_11, ej127_87], by simp [ej127_0, ej127_1, ej127_2, ej127_3, ej127_8, ej127_9, ej127_10, ej127_11, ej127_87], by simp [ej127_0, ej127_1, ej127_2, ej127_3, ej127_8, ej127_9, ej127_10, ej127_11, ej127_87], by simp [ej127_0, ej127_1, ej127_2, ej127_3, ej127_8, ej127_9, ej127_10, ej127_11, ej127_87], by simp [ej127_0, ej127_1, ej127_2, ej127_3, ej127_8, ej127_9, ej127_10, ej127_11, ej127_87]⟩
                      · replace hL2 := cd_f hb159 hL2
                        refine DWp.seq ?_
                        refine DWp.region fun K hK => ?_
                        simp [-aBin', -aBin, -aBinI, -aUn, -aNil, -flatV, n_fn, b_add, b_sub, b_mul, b_lt, b_le, b_gt, b_ge, b_eq, b_ne, u_not, ej127_0, ej127_1, ej127_2, ej127_3, ej127_8, ej127_9, ej127_10, ej127_11, ej127_87]
                        apply hK
                        clear hK K
                        simp only [andThen, leaves]
                        refine DWp.seq ?_
                        obtain ⟨r11, hc175, hL2⟩ := bd_some hL2
                        refine DWp.region fun K hK => ?_
                        simp [-aBin', -aBin, -aBinI, -aUn, -aNil, -flatV, n_fn, b_add, b_sub, b_mul, b_lt, b_le, b_gt, b_ge, b_eq, b_ne, u_not, ej127_0, ej127_1, ej127_2, ej127_3, ej127_8, ej127_9, ej127_10, ej127_11, ej127_87, ((S154.sl (k := 0) rfl).tup)]
                        have S176 : Sep G153 B ([flat v0 3 (ints r9.2.2)] ++ []) := S154.pick [0] (by decide) rfl
                        obtain ⟨B182, S177, U178, M179, R180, C181⟩ := S176.frame (hB.le A155.1)
                        refine CallD.t (ih U178 S177 hc175) ?_
                        rintro _ G184 ⟨a187, rfl, S188⟩
                        have A186 := A155.trans (a187.mono M179)
                        have S185 : Sep G184 B [flat v0 3 (ints r11)] := C181 _ _ a187 S188
                        simp [-aBin', -aBin, -aBinI, -aUn, -aNil, -flatV, n_fn, b_add, b_sub, b_mul, b_lt, b_le, b_gt, b_ge, b_eq, b_ne, u_not, ej127_0, ej127_1, ej127_2, ej127_3, ej127_8, ej127_9, ej127_10, ej127_11, ej127_87]
                        apply hK
                        clear hK K
                        simp only [andThen, leaves]
                        refine DWp.region fun K hK => ?_
                        simp [-aBin', -aBin, -aBinI, -aUn, -aNil, -flatV, n_fn, b_add, b_sub, b_mul, b_lt, b_le, b_gt, b_ge, b_eq, b_ne, u_not, ej127_0, ej127_1, ej127_2, ej127_3, ej127_8, ej127_9, ej127_10, ej127_11, ej127_87]
                        apply hK
                        clear hK K
                        simp only [andThen, leaves]
                        have S189 := S185.pick [0] (by decide) rfl
                        exact ⟨n1, Nat.lt_succ_self _, r11, y1_1, r9.1, s34.2, (ile (iquo .i64 (isub .i64 y1_2 y1_1) 8) (isub .i64 y1_2 r9.1)), r9.2.1, hL2, S189, A186, by simp [ej127_0, ej127_1, ej127_2, ej127_3, ej127_8, ej127_9, ej127_10, ej127_11, ej127_87], by simp [ej127_0, ej127_1, ej127_2, ej127_3, ej127_8, ej127_9, ej127_10, ej127_11, ej127_87], by simp [ej127_0, ej127_1, ej127_2, ej127_3, ej127_8, ej127_9, ej127_10, ej127_11, ej127_87], by simp [ej127_0, ej127_1, ej127_2, ej127_3, ej127_8, ej127_9, ej127_10, ej127_11, ej127_87], by simp [ej127_0, ej127_1, ej127_2, ej127_3, ej127_8, ej127_9, ej127_10, ej127_11, ej127_87], by simp [ej127_0, ej127_1, ej127_2, ej127_3, ej127_8, ej127_9, ej127_10, ej127_11, ej127_87]⟩
              · replace hL2 := cd_f hb92 hL2
                refine DWp.skip ?_
                simp only [andThen, leaves]
                refine DWp.seq ?_
                obtain ⟨s190, hL191, hL2⟩ := bd_some hL2
                refine DWp.seq (DWp.join (fun env G => Sep G B [flat v0 3 (ints s62.1)] ∧ AgB B H G ∧ env 0 = some v0 ∧ env 1 = some (Value.int .i64 y1_1) ∧ env 2 = some (Value.int .i64 y1_2) ∧ env 3 = some (Value.int .i64 s34.2) ∧ env 8 = some (Value.bool y1_8) ∧ env 9 = some (Value.bool y1_9) ∧ env 10 = some (Value.int .i64 (isub .i64 y1_2 y1_1)) ∧ env 11 = some (Value.int .i64 s62.2.1) ∧ env 87 = some (Value.bool s190)) ?_ ?_)
                ·
                  rcases Bool.eq_false_or_eq_true (ilt 0 y1_1) with hb193 | hb193
                  · replace hL191 := cd_t hb193 hL191
                    obtain ⟨g194, hL191⟩ := gd_some hL191
                    have q195 := idxG (P := Try.prog) (kk := .i64) (Sj91.sl (k := 0) rfl) el_22 sz_3 g194
                    have q196 := loadG (P := Try.prog) (Sj91.sl (k := 0) rfl) sz_3 ag_3 g194 0
                    obtain ⟨g197, hL191⟩ := gd_some hL191
                    have q198 := idxG (P := Try.prog) (kk := .i64) (Sj91.sl (k := 0) rfl) el_22 sz_3 g197
                    have q199 := loadG (P := Try.prog) (Sj91.sl (k := 0) rfl) sz_3 ag_3 g197 0
                    obtain ⟨r12, hc200, hL191⟩ := bd_some hL191
                    refine DWp.drawn (B := [0, 1, 3, 7, 7, 23, 63, 127, 7, 7, 775, 1799, 4095, 8191, 16383]) 15 mixed (by kernel_rfl) (by decide) fun K hK => ?_
                    simp [-aBin', -aBin, -aBinI, -aUn, -aNil, -flatV, n_fn, b_add, b_sub, b_mul, b_lt, b_le, b_gt, b_ge, b_eq, b_ne, u_not, ej91_0, ej91_1, ej91_2, ej91_3, ej91_8, ej91_9, ej91_10, ej91_11, ej91_68, hb193, q195, q196, q198, q199]
                    refine CallD.t (F_cmp_Less_int_w (fu := fu)  hc200) ?_
                    rintro _ G202 ⟨a205, rfl, S206⟩
                    have A204 := Aj91.ext (hB.le Aj91.1) a205.agree
                    have S203 : Sep G202 B [flat v0 3 (ints s62.1)] := Sj91.app a205.agree S206 (fun _ h => h) (hB.le Aj91.1)
                    simp [-aBin', -aBin, -aBinI, -aUn, -aNil, -flatV, n_fn, b_add, b_sub, b_mul, b_lt, b_le, b_gt, b_ge, b_eq, b_ne, u_not, ej91_0, ej91_1, ej91_2, ej91_3, ej91_8, ej91_9, ej91_10, ej91_11, ej91_68, hb193, q195, q196, q198, q199, a205.pre]
                    apply hK
                    clear hK K
                    simp only [andThen, leaves]
                    have S207 := S203.pick [0] (by decide) rfl
                    obtain rfl := Option.some.inj hL191
                    exact ⟨S207, A204, by simp [ej91_0, ej91_1, ej91_2, ej91_3, ej91_8, ej91_9, ej91_10, ej91_11, ej91_68], by simp [ej91_0, ej91_1, ej91_2, ej91_3, ej91_8, ej91_9, ej91_10, ej91_11, ej91_68], by simp [ej91_0, ej91_1, ej91_2, ej91_3, ej91_8, ej91_9, ej91_10, ej91_11, ej91_68], by simp [ej91_0, ej91_1, ej91_2, ej91_3, ej91_8, ej91_9, ej91_10, ej91_11, ej91_68], by simp [ej91_0, ej91_1, ej91_2, ej91_3, ej91_8, ej91_9, ej91_10, ej91_11, ej91_68], by simp [ej91_0, ej91_1, ej91_2, ej91_3, ej91_8, ej91_9, ej91_10, ej91_11, ej91_68], by simp [ej91_0, ej91_1, ej91_2, ej91_3, ej91_8, ej91_9, ej91_10, ej91_11, ej91_68], by simp [ej91_0, ej91_1, ej91_2, ej91_3, ej91_8, ej91_9, ej91_10, ej91_11, ej91_68], by simp [ej91_0, ej91_1, ej91_2, ej91_3, ej91_8, ej91_9, ej91_10, ej91_11, ej91_68]⟩
                  · replace hL191 := cd_f hb193 hL191
                    refine DWp.drawn (B := [0, 1, 3, 7, 7, 23, 63, 127, 7, 7, 775, 1799, 4095, 8191, 16383]) 15 mixed (by kernel_rfl) (by decide) fun K hK => ?_
                    simp [-aBin', -aBin, -aBinI, -aUn, -aNil, -flatV, n_fn, b_add, b_sub, b_mul, b_lt, b_le, b_gt, b_ge, b_eq, b_ne, u_not, ej91_0, ej91_1, ej91_2, ej91_3, ej91_8, ej91_9, ej91_10, ej91_11, ej91_68, hb193]
                    apply hK
                    clear hK K
                    simp only [andThen, leaves]
                    have S208 := Sj91.pick [0] (by decide) rfl
                    obtain rfl := Option.some.inj hL191
                    exact ⟨S208, Aj91, by simp [ej91_0, ej91_1, ej91_2, ej91_3, ej91_8, ej91_9, ej91_10, ej91_11, ej91_68], by simp [ej91_0, ej91_1, ej91_2, ej91_3, ej91_8, ej91_9, ej91_10, ej91_11, ej91_68], by simp [ej91_0, ej91_1, ej91_2, ej91_3, ej91_8, ej91_9, ej91_10, ej91_11, ej91_68], by simp [ej91_0, ej91_1, ej91_2, ej91_3, ej91_8, ej91_9, ej91_10, ej91_11, ej91_68], by simp [ej91_0, ej91_1, ej91_2, ej91_3, ej91_8, ej91_9, ej91_10, ej91_11, ej91_68], by simp [ej91_0, ej91_1, ej91_2, ej91_3, ej91_8, ej91_9, ej91_10, ej91_11, ej91_68], by simp [ej91_0, ej91_1, ej91_2, ej91_3, ej91_8, ej91_9, ej91_10, ej91_11, ej91_68], by simp [ej91_0, ej91_1, ej91_2, ej91_3, ej91_8, ej91_9, ej91_10, ej91_11, ej91_68], by simp [ej91_0, ej91_1, ej91_2, ej91_3, ej91_8, ej91_9, ej91_10, ej91_11, ej91_68]⟩
                · rintro env Gj209 ⟨Sj209, Aj209, ej209_0, ej209_1, ej209_2, ej209_3, ej209_8, ej209_9, ej209_10, ej209_11, ej209_87⟩
                  refine DWp.cond' (t := s190) (by simp [ej209_0, ej209_1, ej209_2, ej209_3, ej209_8, ej209_9, ej209_10, ej209_11, ej209_87]) (fun hb210 => ?_) (fun hb210 => ?_)
                  · replace hL2 := cd_t hb210 hL2
                    refine DWp.seq ?_
                    obtain ⟨r13, hc211, hL2⟩ := bd_some hL2
                    refine DWp.region fun K hK => ?_
                    simp [-aBin', -aBin, -aBinI, -aUn, -aNil, -flatV, n_fn, b_add, b_sub, b_mul, b_lt, b_le, b_gt, b_ge, b_eq, b_ne, u_not, ej209_0, ej209_1, ej209_2, ej209_3, ej209_8, ej209_9, ej209_10, ej209_11, ej209_87, ((Sj209.sl (k := 0) rfl).tup)]
                    have S212 : Sep Gj209 B ([flat v0 3 (ints s62.1)] ++ []) := Sj209.pick [0] (by decide) rfl
                    obtain ⟨B218, S213, U214, M215, R216, C217⟩ := S212.frame (hB.le Aj209.1)
                    refine CallD.t (F_slices_partitionEqualOrdered_int_w (fu := fu) U214 S213 hc211) ?_
                    rintro _ G220 ⟨a223, rfl, S224⟩
                    have A222 := Aj209.trans (a223.mono M215)
                    have S221 : Sep G220 B [flat v0 3 (ints r13.2)] := C217 _ _ a223 S224
                    simp [-aBin', -aBin, -aBinI, -aUn, -aNil, -flatV, n_fn, b_add, b_sub, b_mul, b_lt, b_le, b_gt, b_ge, b_eq, b_ne, u_not, ej209_0, ej209_1, ej209_2, ej209_3, ej209_8, ej209_9, ej209_10, ej209_11, ej209_87]
                    apply hK
                    clear hK K
                    simp only [andThen, leaves]
                    refine DWp.seq ?_
                    refine DWp.region fun K hK => ?_
                    simp [-aBin', -aBin, -aBinI, -aUn, -aNil, -flatV, n_fn, b_add, b_sub, b_mul, b_lt, b_le, b_gt, b_ge, b_eq, b_ne, u_not, ej209_0, ej209_1, ej209_2, ej209_3, ej209_8, ej209_9, ej209_10, ej209_11, ej209_87]
                    apply hK
                    clear hK K
                    simp only [andThen, leaves]
                    refine DWp.exit ?_
                    simp only [andThen, leaves, if_true, if_false, reduceIte, Nat.reduceEqDiff]
                    have S225 := S221.pick [0] (by decide) rfl
                    exact ⟨n1, Nat.lt_succ_self _, r13.2, r13.1, y1_2, s34.2, y1_8, y1_9, hL2, S225, A222, by simp [ej209_0, ej209_1, ej209_2, ej209_3, ej209_8, ej209_9, ej209_10, ej209_11, ej209_87], by simp [ej209_0, ej209_1, ej209_2, ej209_3, ej209_8, ej209_9, ej209_10, ej209_11, ej209_87], by simp [ej209_0, ej209_1, ej209_2, ej209_3, ej209_8, ej209_9, ej209_10, ej209_11, ej209_87], by simp [ej209_0, ej209_1, ej209_2, ej209_3, ej209_8, ej209_9, ej209_10, ej209_11, ej209_87], by simp [ej209_0, ej209_1, ej209_2, ej209_3, ej209_8, ej209_9, ej209_10, ej209_11, ej209_87], by simp [ej209_0, ej209_1, ej209_2, ej209_3, ej209_8, ej209_9, ej209_10, ej209_11, ej209_87]⟩
                  · replace hL2 := cd_f hb210 hL2
                    refine DWp.skip ?_
                    simp only [andThen, leaves]
                    refine DWp.seq ?_
                    obtain ⟨r14, hc226, hL2⟩ := bd_some hL2
                    refine DWp.region fun K hK => ?_
                    simp [-aBin', -aBin, -aBinI, -aUn, -aNil, -flatV, n_fn, b_add, b_sub, b_mul, b_lt, b_le, b_gt, b_ge, b_eq, b_ne, u_not, ej209_0, ej209_1, ej209_2, ej209_3, ej209_8, ej209_9, ej209_10, ej209_11, ej209_87, ((Sj209.sl (k := 0) rfl).tup)]
                    have S227 : Sep Gj209 B ([flat v0 3 (ints s62.1)] ++ []) := Sj209.pick [0] (by decide) rfl
                    obtain ⟨B233, S228, U229, M230, R231, C232⟩ := S227.frame (hB.le Aj209.1)
                    refine CallD.t (F_slices_partitionOrdered_int_w (fu := fu) U229 S228 hc226) ?_
                    rintro _ G235 ⟨a238, rfl, S239⟩
                    have A237 := Aj209.trans (a238.mono M230)
                    have S236 : Sep G235 B [flat v0 3 (ints r14.2.2)] := C232 _ _ a238 S239
                    simp [-aBin', -aBin, -aBinI, -aUn, -aNil, -flatV, n_fn, b_add, b_sub, b_mul, b_lt, b_le, b_gt, b_ge, b_eq, b_ne, u_not, ej209_0, ej209_1, ej209_2, ej209_3, ej209_8, ej209_9, ej209_10, ej209_11, ej209_87]
                    apply hK
                    clear hK K
                    simp only [andThen, leaves]
                    refine DWp.seq ?_
                    refine DWp.region fun K hK => ?_
                    simp [-aBin', -aBin, -aBinI, -aUn, -aNil, -flatV, n_fn, b_add, b_sub, b_mul, b_lt, b_le, b_gt, b_ge, b_eq, b_ne, u_not, ej209_0, ej209_1, ej209_2, ej209_3, ej209_8, ej209_9, ej209_10, ej209_11, ej209_87]
                    apply hK
                    clear hK K
                    simp only [andThen, leaves]
                    refine DWp.seq ?_
                    refine DWp.region fun K hK => ?_
                    simp [-aBin', -aBin, -aBinI, -aUn, -aNil, -flatV, n_fn, b_add, b_sub, b_mul, b_lt, b_le, b_gt, b_ge, b_eq, b_ne, u_not, ej209_0, ej209_1, ej209_2, ej209_3, ej209_8, ej209_9, ej209_10, ej209_11, ej209_87]
                    apply hK
                    clear hK K
                    simp only [andThen, leaves]
                    refine DWp.seq ?_
                    have g240 : (8 : Int) ≠ 0 := by decide
                    refine DWp.region fun K hK => ?_
                    simp [-aBin', -aBin, -aBinI, -aUn, -aNil, -flatV, n_fn, b_add, b_sub, b_mul, b_lt, b_le, b_gt, b_ge, b_eq, b_ne, u_not, ej209_0, ej209_1, ej209_2, ej209_3, ej209_8, ej209_9, ej209_10, ej209_11, ej209_87, b_quo g240]
                    apply hK
                    clear hK K
                    simp only [andThen, leaves]
                    refine DWp.seq ?_
                    refine DWp.region fun K hK => ?_
                    simp [-aBin', -aBin, -aBinI, -aUn, -aNil, -flatV, n_fn, b_add, b_sub, b_mul, b_lt, b_le, b_gt, b_ge, b_eq, b_ne, u_not, ej209_0, ej209_1, ej209_2, ej209_3, ej209_8, ej209_9, ej209_10, ej209_11, ej209_87]
                    apply hK
                    clear hK K
                    simp only [andThen, leaves]
                    refine DWp.cond' (t := (ilt (isub .i64 r14.1 y1_1) (isub .i64 y1_2 r14.1))) (by simp [ej209_0, ej209_1, ej209_2, ej209_3, ej209_8, ej209_9, ej209_10, ej209_11, ej209_87]) (fun hb241 => ?_) (fun hb241 => ?_)
                    · replace hL2 := cd_t hb241 hL2
                      refine DWp.seq ?_
                      refine DWp.region fun K hK => ?_
                      simp [-aBin', -aBin, -aBinI, -aUn, -aNil, -flatV, n_fn, b_add, b_sub, b_mul, b_lt, b_le, b_gt, b_ge, b_eq, b_ne, u_not, ej209_0, ej209_1, ej209_2, ej209_3, ej209_8, ej209_9, ej209_10, ej209_11, ej209_87]
                      apply hK
                      clear hK K
                      simp only [andThen, leaves]
                      refine DWp.seq ?_
                      obtain ⟨r15, hc242, hL2⟩ := bd_some hL2
                      refine DWp.region fun K hK => ?_
                      simp [-aBin', -aBin, -aBinI, -aUn, -aNil, -flatV, n_fn, b_add, b_sub, b_mul, b_lt, b_le, b_gt, b_ge, b_eq, b_ne, u_not, ej209_0, ej209_1, ej209_2, ej209_3, ej209_8, ej209_9, ej209_10, ej209_11, ej209_87, ((S236.sl (k := 0) rfl).tup)]
                      have S243 : Sep G235 B ([flat v0 3 (ints r14.2.2)] ++ []) := S236.pick [0] (by decide) rfl
                      obtain ⟨B249, S244, U245, M246, R247, C248⟩ := S243.frame (hB.le A237.1)
                      refine CallD.t (ih U245 S244 hc242) ?_
                      rintro _ G251 ⟨a254, rfl, S255⟩
                      have A253 := A237.trans (a254.mono M246)
                      have S252 : Sep G251 B [flat v0 3 (ints r15)] := C248 _ _ a254 S255
                      simp [-aBin', -aBin, -aBinI, -aUn, -aNil, -flatV, n_fn, b_add, b_sub, b_mul, b_lt, b_le, b_gt, b_ge, b_eq, b_ne, u_not, ej209_0, ej209_1, ej209_2, ej209_3, ej209_8, ej209_9, ej209_10, ej209_11, ej209_87]
                      apply hK
                      clear hK K
                      simp only [andThen, leaves]
                      refine DWp.region fun K hK => ?_
                      simp [-aBin', -aBin, -aBinI, -aUn, -aNil, -flatV, n_fn, b_add, b_sub, b_mul, b_lt, b_le, b_gt, b_ge, b_eq, b_ne, u_not, ej209_0, ej209_1, ej209_2, ej209_3, ej209_8, ej209_9, ej209_10, ej209_11, ej209_87]
                      apply hK
                      clear hK K
                      simp only [andThen, leaves]
                      have S256 := S252.pick [0] (by decide) rfl
                      exact ⟨n1, Nat.lt_succ_self _, r15, (iadd .i64 r14.1 1), y1_2, s34.2, (ile (iquo .i64 (isub .i64 y1_2 y1_1) 8) (isub .i64 r14.1 y1_1)), r14.2.1, hL2, S256, A253, by simp [ej209_0, ej209_1, ej209_2, ej209_3, ej209_8, ej209_9, ej209_10, ej209_11, ej209_87], by simp [ej209_0, ej209_1, ej209_2, ej209_3, ej209_8, ej209_9, ej209_10, ej209_11, ej209_87], by simp [ej209_0, ej209_1, ej209_2, ej209_3, ej209_8, ej209_9, ej209_10, ej209_11, ej209_87], by simp [ej209_0, ej209_1, ej209_2, ej209_3, ej209_8, ej209_9, ej209_10, ej209_11, ej209_87], by simp [ej209_0, ej209_1, ej209_2, ej209_3, ej209_8, ej209_9, ej209_10, ej209_11, ej209_87], by simp [ej209_0, ej209_1, ej209_2, ej209_3, ej209_8, ej209_9, ej209_10, ej209_11, ej209_87]⟩
                    · replace hL2 := cd_f hb241 hL2
                      refine DWp.seq ?_
                      refine DWp.region fun K hK => ?_
                      simp [-aBin', -aBin, -aBinI, -aUn, -aNil, -flatV, n_fn, b_add, b_sub, b_mul, b_lt, b_le, b_gt, b_ge, b_eq, b_ne, u_not, ej209_0, ej209_1, ej209_2, ej209_3, ej209_8, ej209_9, ej209_10, ej209_11, ej209_87]
                      apply hK
                      clear hK K
                      simp only [andThen, leaves]
                      refine DWp.seq ?_
                      obtain ⟨r16, hc257, hL2⟩ := bd_some hL2
                      refine DWp.region fun K hK => ?_
                      simp [-aBin', -aBin, -aBinI, -aUn, -aNil, -flatV, n_fn, b_add, b_sub, b_mul, b_lt, b_le, b_gt, b_ge, b_eq, b_ne, u_not, ej209_0, ej209_1, ej209_2, ej209_3, ej209_8, ej209_9, ej209_10, ej209_11, ej209_87, ((S236.sl (k := 0) rfl).tup)]
                      have S258 : Sep G235 B ([flat v0 3 (ints r14.2.2)] ++ []) := S236.pick [0] (by decide) rfl
                      obtain ⟨B264, S259, U260, M261, R262, C263⟩ := S258.frame (hB.le A237.1)
                      refine CallD.t (ih U260 S259 hc257) ?_
                      rintro _ G266 ⟨a269, rfl, S270⟩
                      have A268 := A237.trans (a269.mono M261)
                      have S267 : Sep G266 B [flat v0 3 (ints r16)] := C263 _ _ a269 S270
                      simp [-aBin', -aBin, -aBinI, -aUn, -aNil, -flatV, n_fn, b_add, b_sub, b_mul, b_lt, b_le, b_gt, b_ge, b_eq, b_ne, u_not, ej209_0, ej209_1, ej209_2, ej209_3, ej209_8, ej209_9, ej209_10, ej209_11, ej209_87]
                      apply hK
                      clear hK K
                      simp only [andThen, leaves]
                      refine DWp.region fun K hK => ?_
                      simp [-aBin', -aBin, -aBinI, -aUn, -aNil, -flatV, n_fn, b_add, b_sub, b_mul, b_lt, b_le, b_gt, b_ge, b_eq, b_ne, u_not, ej209_0, ej209_1, ej209_2, ej209_3, ej209_8, ej209_9, ej209_10, ej209_11, ej209_87]
                      apply hK
                      clear hK K
                      simp only [andThen, leaves]
                      have S271 := S267.pick [0] (by decide) rfl
                      exact ⟨n1, Nat.lt_succ_self _, r16, y1_1, r14.1, s34.2, (ile (iquo .i64 (isub .i64 y1_2 y1_1) 8) (isub .i64 y1_2 r14.1)), r14.2.1, hL2, S271, A268, by simp [ej209_0, ej209_1, ej209_2, ej209_3, ej209_8, ej209_9, ej209_10, ej209_11, ej209_87], by simp [ej209_0, ej209_1, ej209_2, ej209_3, ej209_8, ej209_9, ej209_10, ej209_11, ej209_87], by simp [ej209_0, ej209_1, ej209_2, ej209_3, ej209_8, ej209_9, ej209_10, ej209_11, ej209_87], by simp [ej209_0, ej209_1, ej209_2, ej209_3, ej209_8, ej209_9, ej209_10, ej209_11, ej209_87], by simp [ej209_0, ej209_1, ej209_2, ej209_3, ej209_8, ej209_9, ej209_10, ej209_11, ej209_87], by simp [ej209_0, ej209_1, ej209_2, ej209_3, ej209_8, ej209_9, ej209_10, ej209_11, ej209_87]⟩
/-! slices.Sort[[]int,int] -/
def F_slices_Sort_Sint (fu : Nat) (x0 : List Int) : Option (List Int) :=
  bd (F_math_bits_Len fu (iwr .u64 (llen x0))) fun r1 =>
  bd (F_slices_pdqsortOrdered_int fu x0 0 (llen x0) r1) fun r2 =>
  some r2
theorem F_slices_Sort_Sint_w {fu : Nat} {H : AH} {B : Nat → Prop} {v0 : Value} {x0 : List Int} {r : (List Int)} (hB : Up B H.length) (S0 : Sep H B [flat v0 3 (ints x0)]) (hF : F_slices_Sort_Sint fu x0 = some r) :
    ACallT Try.prog 85 [v0] H (fun u G => AgB B H G ∧ u = (Value.tuple #[]) ∧ Sep G B [flat v0 3 (ints r)]) := by
  refine ACallT.of_body (nt := 11) (rs := []) Try.func85 rfl rfl rfl rfl ?_
  have A0 : AgB B H H := .refl _ _
  unfold F_slices_Sort_Sint at hF
  refine DWp.seq ?_
  have q1 := lenG (P := Try.prog) (S0.sl (k := 0) rfl) el_22
  refine DWp.region fun K hK => ?_
  simp [-aBin', -aBin, -aBinI, -aUn, -aNil, -flatV, n_fn, b_add, b_sub, b_mul, b_lt, b_le, b_gt, b_ge, b_eq, b_ne, u_not, q1]
  apply hK
  clear hK K
  simp only [andThen, leaves]
  obtain ⟨r1, hc2, hF⟩ := bd_some hF
  refine DWp.region fun K hK => ?_
  simp [-aBin', -aBin, -aBinI, -aUn, -aNil, -flatV, n_fn, b_add, b_sub, b_mul, b_lt, b_le, b_gt, b_ge, b_eq, b_ne, u_not, c_int un_3 un_94]
  refine CallD.t (F_math_bits_Len_w (fu := fu)  hc2) ?_
  rintro _ G4 ⟨a7, rfl, S8⟩
  have A6 := A0.ext (hB.le A0.1) a7.agree
  have S5 : Sep G4 B [flat v0 3 (ints x0)] := S0.app a7.agree S8 (fun _ h => h) (hB.le A0.1)
  obtain ⟨r2, hc9, hF⟩ := bd_some hF
  simp [-aBin', -aBin, -aBinI, -aUn, -aNil, -flatV, n_fn, b_add, b_sub, b_mul, b_lt, b_le, b_gt, b_ge, b_eq, b_ne, u_not, c_int un_3 un_94, a7.pre, ((S5.sl (k := 0) rfl).tup)]
  have S10 : Sep G4 B ([flat v0 3 (ints x0)] ++ []) := S5.pick [0] (by decide) rfl
  obtain ⟨B16, S11, U12, M13, R14, C15⟩ := S10.frame (hB.le A6.1)
  refine CallD.t (F_slices_pdqsortOrdered_int_w (fu := fu) U12 S11 hc9) ?_
  rintro _ G18 ⟨a21, rfl, S22⟩
  have A20 := A6.trans (a21.mono M13)
  have S19 : Sep G18 B [flat v0 3 (ints r2)] := C15 _ _ a21 S22
  simp [-aBin', -aBin, -aBinI, -aUn, -aNil, -flatV, n_fn, b_add, b_sub, b_mul, b_lt, b_le, b_gt, b_ge, b_eq, b_ne, u_not, c_int un_3 un_94, a7.pre]
  apply hK
  clear hK K
  obtain rfl := Option.some.inj hF
  exact ⟨by simp, [], by simp [], A20, rfl, S19.pick [0] (by decide) rfl⟩
/-! (loop.example/g01126/impl.Seaweed).groups -/
def F_impl_Seaweed_groups_L2 (fu : Nat) (k2_0 : List Int) (k2_1 : List Int) (k2_2 : List (List Int)) (k2_3 : List (List Int)) (k2_4 : Int) (k2_5 : Int) : Nat → List Bool → List Int → Bool → List Int → Option (List Bool × List Int × Bool × List Int)
  | 0, _, _, _, _ => none
  | n + 1, l2_4, l2_5, y2_11, l2_6 =>
    bif (ilt 0 (llen l2_6)) then
      gd (inL l2_6 0) (
      gd (subL l2_6 1 (llen l2_6)) (
      gd (inL l2_4 (gat 0 l2_6 0)) (
      bif (gat false l2_4 (gat 0 l2_6 0)) then
        F_impl_Seaweed_groups_L2 fu k2_0 k2_1 k2_2 k2_3 k2_4 k2_5 n l2_4 l2_5 y2_11 (lsub l2_6 1 (llen l2_6))
      else
        gd (inL l2_4 (gat 0 l2_6 0)) (
        bd (
          bif y2_11 then
            some true
          else
            gd (inL k2_0 (gat 0 l2_6 0)) (
            bif (ieq (gat 0 k2_0 (gat 0 l2_6 0)) (gat 0 l2_6 0)) then
              some true
            else
              gd (inL k2_1 (gat 0 l2_6 0)) (
              some (ieq (gat 0 k2_1 (gat 0 l2_6 0)) (gat 0 l2_6 0))))) fun s98 =>
        gd (inL k2_0 (gat 0 l2_6 0)) (
        gd (inL k2_1 (gat 0 l2_6 0)) (
        gd (l2_5.length + [(gat 0 l2_6 0)].length ≤ 4294967296) (
        gd ((lsub l2_6 1 (llen l2_6)).length + [(gat 0 k2_0 (gat 0 l2_6 0)), (gat 0 k2_1 (gat 0 l2_6 0))].length ≤ 4294967296) (
        F_impl_Seaweed_groups_L2 fu k2_0 k2_1 k2_2 k2_3 k2_4 k2_5 n (lset l2_4 (gat 0 l2_6 0) true) (lapp l2_5 [(gat 0 l2_6 0)]) s98 (lapp (lsub l2_6 1 (llen l2_6)) [(gat 0 k2_0 (gat 0 l2_6 0)), (gat 0 k2_1 (gat 0 l2_6 0))])))))))))
    else
      some (l2_4, l2_5, y2_11, l2_6)
def F_impl_Seaweed_groups_L1 (fu : Nat) (k1_0 : List Int) (k1_1 : List Int) (k1_2 : Int) : Nat → List (List Int) → List (List Int) → List Bool → Int → Option (List (List Int) × List (List Int) × List Bool × Int)
  | 0, _, _, _, _ => none
  | n + 1, l1_2, l1_3, l1_4, y1_27 =>
    bif (ilt y1_27 k1_2) then
      gd (inL l1_4 y1_27) (
      bif (gat false l1_4 y1_27) then
        F_impl_Seaweed_groups_L1 fu k1_0 k1_1 k1_2 n l1_2 l1_3 l1_4 (iadd .i64 y1_27 1)
      else
        bd (F_impl_Seaweed_groups_L2 fu k1_0 k1_1 l1_2 l1_3 k1_2 y1_27 fu l1_4 (@List.nil Int) false [y1_27]) fun s2 =>
        bd (F_slices_Sort_Sint fu s2.2.1) fun r3 =>
        bif s2.2.2.1 then
          gd (l1_2.length + 1 ≤ 4294967296) (
          F_impl_Seaweed_groups_L1 fu k1_0 k1_1 k1_2 n (lapp l1_2 [r3]) l1_3 s2.1 (iadd .i64 y1_27 1))
        else
          gd (l1_3.length + 1 ≤ 4294967296) (
          F_impl_Seaweed_groups_L1 fu k1_0 k1_1 k1_2 n l1_2 (lapp l1_3 [r3]) s2.1 (iadd .i64 y1_27 1)))
    else
      some (l1_2, l1_3, l1_4, y1_27)
def F_impl_Seaweed_groups (fu : Nat) (x0_0 : List Int) (x0_1 : List Int) : Option (List (List Int) × List (List Int)) :=
  bd (F_impl_arcs fu x0_0) fun r1 =>
  bd (F_impl_arcs fu x0_1) fun r2 =>
  gd (0 ≤ (llen r1) ∧ (llen r1) ≤ 4294967296) (
  bd (F_impl_Seaweed_groups_L1 fu r1 r2 (llen r1) fu [] [] (lrep (llen r1) false) 0) fun s1 =>
  some (s1.1, s1.2.1))
theorem F_impl_Seaweed_groups_w {fu : Nat} {H : AH} {v0_0 : Value} {v0_1 : Value} {x0_0 : List Int} {x0_1 : List Int} {r : (List (List Int) × List (List Int))} (hx0_0 : Sl H v0_0 (ints x0_0)) (hx0_1 : Sl H v0_1 (ints x0_1)) (hF : F_impl_Seaweed_groups fu x0_0 x0_1 = some r) :
    ACallT Try.prog 68 [(Value.agg #[v0_0, v0_1])] H (fun u G => AgB (Fr H) H G ∧ ∃ u0 : Value, ∃ C0 : List Value, ∃ u2 : Value, ∃ C2 : List Value, u = (Value.tuple #[u0, u2]) ∧ Sep G (Fr H) [rowsC u0 22 3 C0 (List.map ints r.1), rowsC u2 22 3 C2 (List.map ints r.2)]) := by
  refine ACallT.of_body (nt := 98) (rs := [.tmp 2, .tmp 3]) Try.func68 rfl rfl rfl rfl ?_
  have A0 : AgB (Fr H) H H := .refl _ _
  have S0 : Sep H (Fr H) [] := .nil
  have hB := Fr.up H
  unfold F_impl_Seaweed_groups at hF
  refine DWp.seq ?_
  obtain ⟨G2, p4, q5, q6, a7, S1⟩ := S0.boxT (hB.le A0.1) 26 [v0_0, v0_1]
  have A3 := A0.ext (hB.le A0.1) a7
  replace S1 : Sep G2 (Fr H) [AL.box p4 [v0_0, v0_1]] := S1
  refine DWp.region fun K hK => ?_
  simp [-aBin', -aBin, -aBinI, -aUn, -aNil, -flatV, n_fn, b_add, b_sub, b_mul, b_lt, b_le, b_gt, b_ge, b_eq, b_ne, u_not, q5, q6, a7.to_pre, cells_agg]
  apply hK
  clear hK K
  simp only [andThen, leaves]
  refine DWp.seq ?_
  have q8 := S1.fieldT (P := Try.prog) (k := 0) rfl fa_26_0
  have q9 := S1.loadF (P := Try.prog) (k := 0) rfl sz_22 ag_22 (off := 0) rfl
  obtain ⟨r1, hc10, hF⟩ := bd_some hF
  refine DWp.drawn (B := [0, 1, 3, 0, 8, 31, 63, 127]) 8 mixed (by kernel_rfl) (by decide) fun K hK => ?_
  simp [-aBin', -aBin, -aBinI, -aUn, -aNil, -flatV, n_fn, b_add, b_sub, b_mul, b_lt, b_le, b_gt, b_ge, b_eq, b_ne, u_not, q8, q9, ((hx0_0.agree A3.agree).tup)]
  refine CallD.t (F_impl_arcs_w (fu := fu) (hx0_0.agree A3.agree) hc10) ?_
  rintro c11_u0 G12 ⟨a15, _, rfl, S16⟩
  have A14 := A3.ext (hB.le A3.1) a15.agree
  have S13 : Sep G12 (Fr H) [AL.box p4 [v0_0, v0_1], flat c11_u0 3 (ints r1)] := S1.app a15.agree S16 (fun _ h => h) (hB.le A3.1)
  have q17 := S13.fieldT (P := Try.prog) (k := 0) rfl fa_26_1
  have q18 := S13.loadF (P := Try.prog) (k := 0) rfl sz_22 ag_22 (off := 1) rfl
  obtain ⟨r2, hc19, hF⟩ := bd_some hF
  simp [-aBin', -aBin, -aBinI, -aUn, -aNil, -flatV, n_fn, b_add, b_sub, b_mul, b_lt, b_le, b_gt, b_ge, b_eq, b_ne, u_not, q8, q9, a15.pre, q17, q18, ((hx0_1.agree A14.agree).tup)]
  refine CallD.t (F_impl_arcs_w (fu := fu) (hx0_1.agree A14.agree) hc19) ?_
  rintro c20_u0 G21 ⟨a24, _, rfl, S25⟩
  have A23 := A14.ext (hB.le A14.1) a24.agree
  have S22 : Sep G21 (Fr H) [AL.box p4 [v0_0, v0_1], flat c11_u0 3 (ints r1), flat c20_u0 3 (ints r2)] := S13.app a24.agree S25 (fun _ h => h) (hB.le A14.1)
  simp [-aBin', -aBin, -aBinI, -aUn, -aNil, -flatV, n_fn, b_add, b_sub, b_mul, b_lt, b_le, b_gt, b_ge, b_eq, b_ne, u_not, q8, q9, a15.pre, q17, q18, a24.pre]
  apply hK
  clear hK K
  simp only [andThen, leaves]
  refine DWp.seq ?_
  obtain ⟨v26, G27, q28, S29, a31, _, _⟩ := S22.lit0 (P := Try.prog) (t := 46) (hB.le A23.1) el_46 ei_22 rfl
  have A30 := A23.ext (hB.le A23.1) a31
  replace S29 : Sep G27 (Fr H) [AL.box p4 [v0_0, v0_1], flat c11_u0 3 (ints r1), flat c20_u0 3 (ints r2), flat1 v26 22 []] := S29
  have S32 : Sep G27 (Fr H) [AL.box p4 [v0_0, v0_1], flat c11_u0 3 (ints r1), flat c20_u0 3 (ints r2), rowsC v26 22 3 [] (List.map ints [])] := S29.rowsOf0 (k := 3) rfl 3
  obtain ⟨v33, G34, q35, S36, a38, _, _⟩ := S32.lit0 (P := Try.prog) (t := 46) (hB.le A30.1) el_46 ei_22 rfl
  have A37 := A30.ext (hB.le A30.1) a38
  replace S36 : Sep G34 (Fr H) [AL.box p4 [v0_0, v0_1], flat c11_u0 3 (ints r1), flat c20_u0 3 (ints r2), rowsC v26 22 3 [] (List.map ints []), flat1 v33 22 []] := S36
  have S39 : Sep G34 (Fr H) [AL.box p4 [v0_0, v0_1], flat c11_u0 3 (ints r1), flat c20_u0 3 (ints r2), rowsC v26 22 3 [] (List.map ints []), rowsC v33 22 3 [] (List.map ints [])] := S36.rowsOf0 (k := 4) rfl 3
  have q40 := lenG (P := Try.prog) (S39.sl (k := 1) rfl) el_22
  obtain ⟨g41, hF⟩ := gd_some hF
  obtain ⟨v42, G43, q44, S45, a47, _⟩ := S39.make (f := Value.bool) (P := Try.prog) (t := 87) (hB.le A37.1) el_87 ei_4 rfl false rfl g41
  have A46 := A37.ext (hB.le A37.1) a47
  replace S45 : Sep G43 (Fr H) [AL.box p4 [v0_0, v0_1], flat c11_u0 3 (ints r1), flat c20_u0 3 (ints r2), rowsC v26 22 3 [] (List.map ints []), rowsC v33 22 3 [] (List.map ints []), flat v42 4 (bools (lrep (llen r1) false))] := S45
  refine DWp.drawn (B := [0, 0, 0, 4, 12, 1, 35, 127]) 8 mixed (by kernel_rfl) (by decide) fun K hK => ?_
  simp [-aBin', -aBin, -aBinI, -aUn, -aNil, -flatV, n_fn, b_add, b_sub, b_mul, b_lt, b_le, b_gt, b_ge, b_eq, b_ne, u_not, q28, a31.to_pre, q35, a38.to_pre, q40, q44, a47.to_pre]
  apply hK
  clear hK K
  simp only [andThen, leaves]
  refine DWp.seq ?_
  refine DWp.seq ?_
  have q48 := lenG (P := Try.prog) (S45.sl (k := 1) rfl) el_22
  refine DWp.region fun K hK => ?_
  simp [-aBin', -aBin, -aBinI, -aUn, -aNil, -flatV, n_fn, b_add, b_sub, b_mul, b_lt, b_le, b_gt, b_ge, b_eq, b_ne, u_not, q48]
  apply hK
  clear hK K
  simp only [andThen, leaves]
  refine DWp.block ?_
  obtain ⟨s49, hL50, hF⟩ := bd_some hF
  have S51 := S45.pick [1, 2, 3, 4, 5] (by decide) rfl
  refine DWp.loop (fun n env G => ∃ l1_2 : List (List Int), ∃ l1_3 : List (List Int), ∃ l1_4 : List Bool, ∃ y1_27 : Int, ∃ w1_2 : Value, ∃ D1_2 : List Value, ∃ w1_3 : Value, ∃ D1_3 : List Value, F_impl_Seaweed_groups_L1 fu r1 r2 (llen r1) n l1_2 l1_3 l1_4 y1_27 = some s49 ∧ Sep G (Fr H) [flat c11_u0 3 (ints r1), flat c20_u0 3 (ints r2), rowsC w1_2 22 3 D1_2 (List.map ints l1_2), rowsC w1_3 22 3 D1_3 (List.map ints l1_3), flat v42 4 (bools l1_4)] ∧ AgB (Fr H) H G ∧ env 4 = some c11_u0 ∧ env 5 = some c20_u0 ∧ env 6 = some w1_2 ∧ env 7 = some w1_3 ∧ env 8 = some v42 ∧ env 26 = some (Value.int .i64 (llen r1)) ∧ env 27 = some (Value.int .i64 y1_27)) fu ⟨[], [], (lrep (llen r1) false), 0, v26, [], v33, [], hL50, S51, A46, by simp [], by simp [], by simp [], by simp [], by simp [], by simp [], by simp []⟩ ?_
  rintro n1 env1 G1_ ⟨l1_2, l1_3, l1_4, y1_27, w1_2, D1_2, w1_3, D1_3, hL50, S1_, A1_, e1_4, e1_5, e1_6, e1_7, e1_8, e1_26, e1_27⟩
  cases n1 with
  | zero => cases hL50
  | succ n1 =>
    simp only [F_impl_Seaweed_groups_L1] at hL50
    refine DWp.seq ?_
    refine DWp.region fun K hK => ?_
    simp [-aBin', -aBin, -aBinI, -aUn, -aNil, -flatV, n_fn, b_add, b_sub, b_mul, b_lt, b_le, b_gt, b_ge, b_eq, b_ne, u_not, e1_4, e1_5, e1_6, e1_7, e1_8, e1_26, e1_27]
    apply hK
    clear hK K
    simp only [andThen, leaves]
    refine DWp.seq ?_
    refine DWp.cond' (t := (ilt y1_27 (llen r1))) (by simp [e1_4, e1_5, e1_6, e1_7, e1_8, e1_26, e1_27]) (fun hb52 => ?_) (fun hb52 => ?_)
    · replace hL50 := cd_t hb52 hL50
      refine DWp.skip ?_
      simp only [andThen, leaves]
      refine DWp.seq ?_
      refine DWp.block ?_
      refine DWp.seq ?_
      refine DWp.region fun K hK => ?_
      simp [-aBin', -aBin, -aBinI, -aUn, -aNil, -flatV, n_fn, b_add, b_sub, b_mul, b_lt, b_le, b_gt, b_ge, b_eq, b_ne, u_not, e1_4, e1_5, e1_6, e1_7, e1_8, e1_26, e1_27]
      apply hK
      clear hK K
      simp only [andThen, leaves]
      refine DWp.seq ?_
      refine DWp.seq ?_
      obtain ⟨g53, hL50⟩ := gd_some hL50
      have q54 := idxG (P := Try.prog) (kk := .i64) (S1_.sl (k := 4) rfl) el_87 sz_4 g53
      have q55 := loadG (P := Try.prog) (S1_.sl (k := 4) rfl) sz_4 ag_4 g53 false
      refine DWp.region fun K hK => ?_
      simp [-aBin', -aBin, -aBinI, -aUn, -aNil, -flatV, n_fn, b_add, b_sub, b_mul, b_lt, b_le, b_gt, b_ge, b_eq, b_ne, u_not, e1_4, e1_5, e1_6, e1_7, e1_8, e1_26, e1_27, q54, q55]
      apply hK
      clear hK K
      simp only [andThen, leaves]
      refine DWp.cond' (t := (gat false l1_4 y1_27)) (by simp [e1_4, e1_5, e1_6, e1_7, e1_8, e1_26, e1_27]) (fun hb56 => ?_) (fun hb56 => ?_)
      · replace hL50 := cd_t hb56 hL50
        refine DWp.exit ?_
        simp only [andThen, leaves, if_true, if_false, reduceIte, Nat.reduceEqDiff]
        refine DWp.region fun K hK => ?_
        simp [-aBin', -aBin, -aBinI, -aUn, -aNil, -flatV, n_fn, b_add, b_sub, b_mul, b_lt, b_le, b_gt, b_ge, b_eq, b_ne, u_not, e1_4, e1_5, e1_6, e1_7, e1_8, e1_26, e1_27]
        apply hK
        clear hK K
        simp only [andThen, leaves]
        have S57 := S1_.pick [0, 1, 2, 3, 4] (by decide) rfl
        exact ⟨n1, Nat.lt_succ_self _, l1_2, l1_3, l1_4, (iadd .i64 y1_27 1), w1_2, D1_2, w1_3, D1_3, hL50, S57, A1_, by simp [e1_4, e1_5, e1_6, e1_7, e1_8, e1_26, e1_27], by simp [e1_4, e1_5, e1_6, e1_7, e1_8, e1_26, e1_27], by simp [e1_4, e1_5, e1_6, e1_7, e1_8, e1_26, e1_27], by simp [e1_4, e1_5, e1_6, e1_7, e1_8, e1_26, e1_27], by simp [e1_4, e1_5, e1_6, e1_7, e1_8, e1_26, e1_27], by simp [e1_4, e1_5, e1_6, e1_7, e1_8, e1_26, e1_27], by simp [e1_4, e1_5, e1_6, e1_7, e1_8, e1_26, e1_27]⟩
      · replace hL50 := cd_f hb56 hL50
        refine DWp.skip ?_
        simp only [andThen, leaves]
        refine DWp.seq ?_
        obtain ⟨v58, G59, q60, S61, a63, _, _⟩ := S1_.lit0 (P := Try.prog) (t := 22) (hB.le A1_.1) el_22 ei_3 rfl
        have A62 := A1_.ext (hB.le A1_.1) a63
        replace S61 : Sep G59 (Fr H) [flat c11_u0 3 (ints r1), flat c20_u0 3 (ints r2), rowsC w1_2 22 3 D1_2 (List.map ints l1_2), rowsC w1_3 22 3 D1_3 (List.map ints l1_3), flat v42 4 (bools l1_4), flat1 v58 3 (ints (@List.nil Int))] := S61
        refine DWp.region fun K hK => ?_
        simp [-aBin', -aBin, -aBinI, -aUn, -aNil, -flatV, n_fn, b_add, b_sub, b_mul, b_lt, b_le, b_gt, b_ge, b_eq, b_ne, u_not, e1_4, e1_5, e1_6, e1_7, e1_8, e1_26, e1_27, q60, a63.to_pre]
        apply hK
        clear hK K
        simp only [andThen, leaves]
        refine DWp.seq ?_
        refine DWp.seq ?_
        obtain ⟨v65, G66, q67, S68, a70, _, _⟩ := S61.lit1 (P := Try.prog) (t := 22) (hB.le A62.1) el_22 ei_3 rfl (Value.int .i64 y1_27) rfl rfl
        have A69 := A62.ext (hB.le A62.1) a70
        replace S68 : Sep G66 (Fr H) [flat c11_u0 3 (ints r1), flat c20_u0 3 (ints r2), rowsC w1_2 22 3 D1_2 (List.map ints l1_2), rowsC w1_3 22 3 D1_3 (List.map ints l1_3), flat v42 4 (bools l1_4), flat1 v58 3 (ints (@List.nil Int)), flat1 v65 3 (ints [y1_27])] := S68
        refine DWp.region fun K hK => ?_
        simp [-aBin', -aBin, -aBinI, -aUn, -aNil, -flatV, n_fn, b_add, b_sub, b_mul, b_lt, b_le, b_gt, b_ge, b_eq, b_ne, u_not, e1_4, e1_5, e1_6, e1_7, e1_8, e1_26, e1_27, q67, a70.to_pre]
        apply hK
        clear hK K
        simp only [andThen, leaves]
        refine DWp.block ?_
        obtain ⟨s72, hL73, hL50⟩ := bd_some hL50
        have S74 := S68.pick [0, 1, 2, 3, 4, 5, 6] (by decide) rfl
        have S75 := S74.weak (k := 5) rfl
        have S76 := S75.weak (k := 6) rfl
        refine DWp.loop (fun n env G => ∃ l2_4 : List Bool, ∃ l2_5 : List Int, ∃ y2_11 : Bool, ∃ l2_6 : List Int, ∃ w2_5 : Value, ∃ w2_6 : Value, F_impl_Seaweed_groups_L2 fu r1 r2 l1_2 l1_3 (llen r1) y1_27 n l2_4 l2_5 y2_11 l2_6 = some s72 ∧ Sep G (Fr H) [flat c11_u0 3 (ints r1), flat c20_u0 3 (ints r2), rowsC w1_2 22 3 D1_2 (List.map ints l1_2), rowsC w1_3 22 3 D1_3 (List.map ints l1_3), flat v42 4 (bools l2_4), flat w2_5 3 (ints l2_5), flat w2_6 3 (ints l2_6)] ∧ AgB (Fr H) H G ∧ env 4 = some c11_u0 ∧ env 5 = some c20_u0 ∧ env 6 = some w1_2 ∧ env 7 = some w1_3 ∧ env 8 = some v42 ∧ env 10 = some w2_5 ∧ env 11 = some (Value.bool y2_11) ∧ env 12 = some w2_6 ∧ env 26 = some (Value.int .i64 (llen r1)) ∧ env 27 = some (Value.int .i64 y1_27)) fu ⟨l1_4, (@List.nil Int), false, [y1_27], v58, v65, hL73, S76, A69, by simp [e1_4, e1_5, e1_6, e1_7, e1_8, e1_26, e1_27], by simp [e1_4, e1_5, e1_6, e1_7, e1_8, e1_26, e1_27], by simp [e1_4, e1_5, e1_6, e1_7, e1_8, e1_26, e1_27], by simp [e1_4, e1_5, e1_6, e1_7, e1_8, e1_26, e1_27], by simp [e1_4, e1_5, e1_6, e1_7, e1_8, e1_26, e1_27], by simp [e1_4, e1_5, e1_6, e1_7, e1_8, e1_26, e1_27], by simp [e1_4, e1_5, e1_6, e1_7, e1_8, e1_26, e1_27], by simp [e1_4, e1_5, e1_6, e1_7, e1_8, e1_26, e1_27], by simp [e1_4, e1_5, e1_6, e1_7, e1_8, e1_26, e1_27], by simp [e1_4, e1_5, e1_6, e1_7, e1_8, e1_26, e1_27]⟩ ?_
        rintro n2 env2 G2_ ⟨l2_4, l2_5, y2_11, l2_6, w2_5, w2_6, hL73, S2_, A2_, e2_4, e2_5, e2_6, e2_7, e2_8, e2_10, e2_11, e2_12, e2_26, e2_27⟩
        cases n2 with
        | zero => cases hL73
        | succ n2 =>
          simp only [F_impl_Seaweed_groups_L2] at hL73
          refine DWp.seq ?_
          refine DWp.seq ?_
          have q77 := lenG (P := Try.prog) (S2_.sl (k := 6) rfl) el_22
          refine DWp.region fun K hK => ?_
          simp [-aBin', -aBin, -aBinI, -aUn, -aNil, -flatV, n_fn, b_add, b_sub, b_mul, b_lt, b_le, b_gt, b_ge, b_eq, b_ne, u_not, e2_4, e2_5, e2_6, e2_7, e2_8, e2_10, e2_11, e2_12, e2_26, e2_27, q77]
          apply hK
          clear hK K
          simp only [andThen, leaves]
          refine DWp.cond' (t := (ilt 0 (llen l2_6))) (by simp [e2_4, e2_5, e2_6, e2_7, e2_8, e2_10, e2_11, e2_12, e2_26, e2_27]) (fun hb78 => ?_) (fun hb78 => ?_)
          · replace hL73 := cd_t hb78 hL73
            refine DWp.skip ?_
            simp only [andThen, leaves]
            refine DWp.block ?_
            refine DWp.seq ?_
            obtain ⟨g79, hL73⟩ := gd_some hL73
            have q80 := idxG (P := Try.prog) (kk := .i64) (S2_.sl (k := 6) rfl) el_22 sz_3 g79
            replace q80 : aIndexAddr Try.prog G2_ 22 w2_6 (Value.int .i64 0) = some (elP w2_6 0) := q80
            have q81 := loadG (P := Try.prog) (S2_.sl (k := 6) rfl) sz_3 ag_3 g79 0
            replace q81 : aLoad Try.prog G2_ 3 (elP w2_6 0) = some (Value.int .i64 (gat 0 l2_6 0)) := q81
            refine DWp.region fun K hK => ?_
            simp [-aBin', -aBin, -aBinI, -aUn, -aNil, -flatV, n_fn, b_add, b_sub, b_mul, b_lt, b_le, b_gt, b_ge, b_eq, b_ne, u_not, e2_4, e2_5, e2_6, e2_7, e2_8, e2_10, e2_11, e2_12, e2_26, e2_27, q80, q81]
            apply hK
            clear hK K
            simp only [andThen, leaves]
            refine DWp.seq ?_
            obtain ⟨g82, hL73⟩ := gd_some hL73
            have q83 := aSub10 (P := Try.prog) (t := 22) (S2_.sl (k := 6) rfl) el_22 sz_3 g82
            refine DWp.region fun K hK => ?_
            simp [-aBin', -aBin, -aBinI, -aUn, -aNil, -flatV, n_fn, b_add, b_sub, b_mul, b_lt, b_le, b_gt, b_ge, b_eq, b_ne, u_not, e2_4, e2_5, e2_6, e2_7, e2_8, e2_10, e2_11, e2_12, e2_26, e2_27, q83, ((subSl (S2_.sl (k := 6) rfl) g82).tup)]
            apply hK
            clear hK K
            simp only [andThen, leaves]
            refine DWp.seq ?_
            refine DWp.seq ?_
            obtain ⟨g84, hL73⟩ := gd_some hL73
            have q85 := idxG (P := Try.prog) (kk := .i64) (S2_.sl (k := 4) rfl) el_87 sz_4 g84
            have q86 := loadG (P := Try.prog) (S2_.sl (k := 4) rfl) sz_4 ag_4 g84 false
            refine DWp.region fun K hK => ?_
            simp [-aBin', -aBin, -aBinI, -aUn, -aNil, -flatV, n_fn, b_add, b_sub, b_mul, b_lt, b_le, b_gt, b_ge, b_eq, b_ne, u_not, e2_4, e2_5, e2_6, e2_7, e2_8, e2_10, e2_11, e2_12, e2_26, e2_27, q85, q86]
            apply hK
            clear hK K
            simp only [andThen, leaves]
            refine DWp.cond' (t := (gat false l2_4 (gat 0 l2_6 0))) (by simp [e2_4, e2_5, e2_6, e2_7, e2_8, e2_10, e2_11, e2_12, e2_26, e2_27]) (fun hb87 => ?_) (fun hb87 => ?_)
            · replace hL73 := cd_t hb87 hL73
              refine DWp.exit ?_
              simp only [andThen, leaves, if_true, if_false, reduceIte, Nat.reduceEqDiff]
              have S88 : Sep G2_ (Fr H) [flat c11_u0 3 (ints r1), flat c20_u0 3 (ints r2), rowsC w1_2 22 3 D1_2 (List.map ints l1_2), rowsC w1_3 22 3 D1_3 (List.map ints l1_3), flat v42 4 (bools l2_4), flat w2_5 3 (ints l2_5), flat (subV w2_6 1 (llen l2_6)) 3 (ints (lsub l2_6 1 (llen l2_6)))] := S2_.resub (k := 6) rfl g82
              have S89 := S88.pick [0, 1, 2, 3, 4, 5, 6] (by decide) rfl
              exact ⟨n2, Nat.lt_succ_self _, l2_4, l2_5, y2_11, (lsub l2_6 1 (llen l2_6)), w2_5, (subV w2_6 1 (llen l2_6)), hL73, S89, A2_, by simp [e2_4, e2_5, e2_6, e2_7, e2_8, e2_10, e2_11, e2_12, e2_26, e2_27], by simp [e2_4, e2_5, e2_6, e2_7, e2_8, e2_10, e2_11, e2_12, e2_26, e2_27], by simp [e2_4, e2_5, e2_6, e2_7, e2_8, e2_10, e2_11, e2_12, e2_26, e2_27], by simp [e2_4, e2_5, e2_6, e2_7, e2_8, e2_10, e2_11, e2_12, e2_26, e2_27], by simp [e2_4, e2_5, e2_6, e2_7, e2_8, e2_10, e2_11, e2_12, e2_26, e2_27], by simp [e2_4, e2_5, e2_6, e2_7, e2_8, e2_10, e2_11, e2_12, e2_26, e2_27], by simp [e2_4, e2_5, e2_6, e2_7, e2_8, e2_10, e2_11, e2_12, e2_26, e2_27], by simp [e2_4, e2_5, e2_6, e2_7, e2_8, e2_10, e2_11, e2_12, e2_26, e2_27], by simp [e2_4, e2_5, e2_6, e2_7, e2_8, e2_10, e2_11, e2_12, e2_26, e2_27], by simp [e2_4, e2_5, e2_6, e2_7, e2_8, e2_10, e2_11, e2_12, e2_26, e2_27]⟩
            · replace hL73 := cd_f hb87 hL73
              refine DWp.skip ?_
              simp only [andThen, leaves]
              refine DWp.seq ?_
              obtain ⟨g90, hL73⟩ := gd_some hL73
              have q91 := idxG (P := Try.prog) (kk := .i64) (S2_.sl (k := 4) rfl) el_87 sz_4 g90
              obtain ⟨G92, q93, S94, a96⟩ := S2_.storeG (f := Value.bool) (P := Try.prog) (k := 4) (x := true) rfl (hB.le A2_.1) sz_4 g90 rfl rfl
              have A95 := A2_.trans a96
              replace S94 : Sep G92 (Fr H) [flat c11_u0 3 (ints r1), flat c20_u0 3 (ints r2), rowsC w1_2 22 3 D1_2 (List.map ints l1_2), rowsC w1_3 22 3 D1_3 (List.map ints l1_3), flat v42 4 (bools (lset l2_4 (gat 0 l2_6 0) true)), flat w2_5 3 (ints l2_5), flat w2_6 3 (ints l2_6)] := S94
              refine DWp.region fun K hK => ?_
              simp [-aBin', -aBin, -aBinI, -aUn, -aNil, -flatV, n_fn, b_add, b_sub, b_mul, b_lt, b_le, b_gt, b_ge, b_eq, b_ne, u_not, e2_4, e2_5, e2_6, e2_7, e2_8, e2_10, e2_11, e2_12, e2_26, e2_27, q91, q93]
              apply hK
              clear hK K
              simp only [andThen, leaves]
              have S97 : Sep G92 (Fr H) [flat c11_u0 3 (ints r1), flat c20_u0 3 (ints r2), rowsC w1_2 22 3 D1_2 (List.map ints l1_2), rowsC w1_3 22 3 D1_3 (List.map ints l1_3), flat v42 4 (bools (lset l2_4 (gat 0 l2_6 0) true)), flat w2_5 3 (ints l2_5), flat (subV w2_6 1 (llen l2_6)) 3 (ints (lsub l2_6 1 (llen l2_6)))] := S94.resub (k := 6) rfl g82
              obtain ⟨s98, hL99, hL73⟩ := bd_some hL73
              refine DWp.seq (DWp.join (fun env G => Sep G (Fr H) [flat c11_u0 3 (ints r1), flat c20_u0 3 (ints r2), rowsC w1_2 22 3 D1_2 (List.map ints l1_2), rowsC w1_3 22 3 D1_3 (List.map ints l1_3), flat v42 4 (bools (lset l2_4 (gat 0 l2_6 0) true)), flat w2_5 3 (ints l2_5), flat (subV w2_6 1 (llen l2_6)) 3 (ints (lsub l2_6 1 (llen l2_6)))] ∧ AgB (Fr H) H G ∧ env 4 = some c11_u0 ∧ env 5 = some c20_u0 ∧ env 6 = some w1_2 ∧ env 7 = some w1_3 ∧ env 8 = some v42 ∧ env 10 = some w2_5 ∧ env 11 = some (Value.bool s98) ∧ env 12 = some (subV w2_6 1 (llen l2_6)) ∧ env 13 = some (Value.int .i64 (gat 0 l2_6 0)) ∧ env 26 = some (Value.int .i64 (llen r1)) ∧ env 27 = some (Value.int .i64 y1_27)) ?_ ?_)
              ·
                rcases Bool.eq_false_or_eq_true y2_11 with hb101 | hb101
                · replace hL99 := cd_t hb101 hL99
                  refine DWp.region fun K hK => ?_
                  simp [-aBin', -aBin, -aBinI, -aUn, -aNil, -flatV, n_fn, b_add, b_sub, b_mul, b_lt, b_le, b_gt, b_ge, b_eq, b_ne, u_not, e2_4, e2_5, e2_6, e2_7, e2_8, e2_10, e2_11, e2_12, e2_26, e2_27, hb101]
                  apply hK
                  clear hK K
                  simp only [andThen, leaves]
                  have S102 := S97.pick [0, 1, 2, 3, 4, 5, 6] (by decide) rfl
                  obtain rfl := Option.some.inj hL99
                  exact ⟨S102, A95, by simp [e2_4, e2_5, e2_6, e2_7, e2_8, e2_10, e2_11, e2_12, e2_26, e2_27], by simp [e2_4, e2_5, e2_6, e2_7, e2_8, e2_10, e2_11, e2_12, e2_26, e2_27], by simp [e2_4, e2_5, e2_6, e2_7, e2_8, e2_10, e2_11, e2_12, e2_26, e2_27], by simp [e2_4, e2_5, e2_6, e2_7, e2_8, e2_10, e2_11, e2_12, e2_26, e2_27], by simp [e2_4, e2_5, e2_6, e2_7, e2_8, e2_10, e2_11, e2_12, e2_26, e2_27], by simp [e2_4, e2_5, e2_6, e2_7, e2_8, e2_10, e2_11, e2_12, e2_26, e2_27], by simp [e2_4, e2_5, e2_6, e2_7, e2_8, e2_10, e2_11, e2_12, e2_26, e2_27], by simp [e2_4, e2_5, e2_6, e2_7, e2_8, e2_10, e2_11, e2_12, e2_26, e2_27], by simp [e2_4, e2_5, e2_6, e2_7, e2_8, e2_10, e2_11, e2_12, e2_26, e2_27], by simp [e2_4, e2_5, e2_6, e2_7, e2_8, e2_10, e2_11, e2_12, e2_26, e2_27], by simp [e2_4, e2_5, e2_6, e2_7, e2_8, e2_10, e2_11, e2_12, e2_26, e2_27]⟩
                · replace hL99 := cd_f hb101 hL99
                  obtain ⟨g103, hL99⟩ := gd_some hL99
                  have q104 := idxG (P := Try.prog) (kk := .i64) (S97.sl (k := 0) rfl) el_22 sz_3 g103
                  have q105 := loadG (P := Try.prog) (S97.sl (k := 0) rfl) sz_3 ag_3 g103 0
                  rcases Bool.eq_false_or_eq_true (ieq (gat 0 r1 (gat 0 l2_6 0)) (gat 0 l2_6 0)) with hb106 | hb106
                  · replace hL99 := cd_t hb106 hL99
                    refine DWp.region fun K hK => ?_
                    simp [-aBin', -aBin, -aBinI, -aUn, -aNil, -flatV, n_fn, b_add, b_sub, b_mul, b_lt, b_le, b_gt, b_ge, b_eq, b_ne, u_not, e2_4, e2_5, e2_6, e2_7, e2_8, e2_10, e2_11, e2_12, e2_26, e2_27, hb101, hb106, q104, q105]
                    apply hK
                    clear hK K
                    simp only [andThen, leaves]
                    have S107 := S97.pick [0, 1, 2, 3, 4, 5, 6] (by decide) rfl
                    obtain rfl := Option.some.inj hL99
                    exact ⟨S107, A95, by simp [e2_4, e2_5, e2_6, e2_7, e2_8, e2_10, e2_11, e2_12, e2_26, e2_27], by simp [e2_4, e2_5, e2_6, e2_7, e2_8, e2_10, e2_11, e2_12, e2_26, e2_27], by simp [e2_4, e2_5, e2_6, e2_7, e2_8, e2_10, e2_11, e2_12, e2_26, e2_27], by simp [e2_4, e2_5, e2_6, e2_7, e2_8, e2_10, e2_11, e2_12, e2_26, e2_27], by simp [e2_4, e2_5, e2_6, e2_7, e2_8, e2_10, e2_11, e2_12, e2_26, e2_27], by simp [e2_4, e2_5, e2_6, e2_7, e2_8, e2_10, e2_11, e2_12, e2_26, e2_27], by simp [e2_4, e2_5, e2_6, e2_7, e2_8, e2_10, e2_11, e2_12, e2_26, e2_27], by simp [e2_4, e2_5, e2_6, e2_7, e2_8, e2_10, e2_11, e2_12, e2_26, e2_27], by simp [e2_4, e2_5, e2_6, e2_7, e2_8, e2_10, e2_11, e2_12, e2_26, e2_27], by simp [e2_4, e2_5, e2_6, e2_7, e2_8, e2_10, e2_11, e2_12, e2_26, e2_27], by simp [e2_4, e2_5, e2_6, e2_7, e2_8, e2_10, e2_11, e2_12, e2_26, e2_27]⟩
                  · replace hL99 := cd_f hb106 hL99
                    obtain ⟨g108, hL99⟩ := gd_some hL99
                    have q109 := idxG (P := Try.prog) (kk := .i64) (S97.sl (k := 1) rfl) el_22 sz_3 g108
                    have q110 := loadG (P := Try.prog) (S97.sl (k := 1) rfl) sz_3 ag_3 g108 0
                    refine DWp.region fun K hK => ?_
                    simp [-aBin', -aBin, -aBinI, -aUn, -aNil, -flatV, n_fn, b_add, b_sub, b_mul, b_lt, b_le, b_gt, b_ge, b_eq, b_ne, u_not, e2_4, e2_5, e2_6, e2_7, e2_8, e2_10, e2_11, e2_12, e2_26, e2_27, hb101, hb106, q104, q105, q109, q110]
                    apply hK
                    clear hK K
                    simp only [andThen, leaves]
                    have S111 := S97.pick [0, 1, 2, 3, 4, 5, 6] (by decide) rfl
                    obtain rfl := Option.some.inj hL99
                    exact ⟨S111, A95, by simp [e2_4, e2_5, e2_6, e2_7, e2_8, e2_10, e2_11, e2_12, e2_26, e2_27], by simp [e2_4, e2_5, e2_6, e2_7, e2_8, e2_10, e2_11, e2_12, e2_26, e2_27], by simp [e2_4, e2_5, e2_6, e2_7, e2_8, e2_10, e2_11, e2_12, e2_26, e2_27], by simp [e2_4, e2_5, e2_6, e2_7, e2_8, e2_10, e2_11, e2_12, e2_26, e2_27], by simp [e2_4, e2_5, e2_6, e2_7, e2_8, e2_10, e2_11, e2_12, e2_26, e2_27], by simp [e2_4, e2_5, e2_6, e2_7, e2_8, e2_10, e2_11, e2_12, e2_26, e2_27], by simp [e2_4, e2_5, e2_6, e2_7, e2_8, e2_10, e2_11, e2_12, e2_26, e2_27], by simp [e2_4, e2_5, e2_6, e2_7, e2_8, e2_10, e2_11, e2_12, e2_26, e2_27], by simp [e2_4, e2_5, e2_6, e2_7, e2_8, e2_10, e2_11, e2_12, e2_26, e2_27], by simp [e2_4, e2_5, e2_6, e2_7, e2_8, e2_10, e2_11, e2_12, e2_26, e2_27], by simp [e2_4, e2_5, e2_6, e2_7, e2_8, e2_10, e2_11, e2_12, e2_26, e2_27]⟩
              · rintro env Gj112 ⟨Sj112, Aj112, ej112_4, ej112_5, ej112_6, ej112_7, ej112_8, ej112_10, ej112_11, ej112_12, ej112_13, ej112_26, ej112_27⟩
                obtain ⟨v113, G114, q115, S116, a118, fl119⟩ := Sj112.lit1E (P := Try.prog) (t := 22) (hB.le Aj112.1) el_22 ei_3 rfl (Value.int .i64 (gat 0 l2_6 0)) rfl rfl
                have A117 := Aj112.ext (hB.le Aj112.1) a118
                replace S116 : Sep G114 (Fr H) [flat c11_u0 3 (ints r1), flat c20_u0 3 (ints r2), rowsC w1_2 22 3 D1_2 (List.map ints l1_2), rowsC w1_3 22 3 D1_3 (List.map ints l1_3), flat v42 4 (bools (lset l2_4 (gat 0 l2_6 0) true)), flat w2_5 3 (ints l2_5), flat (subV w2_6 1 (llen l2_6)) 3 (ints (lsub l2_6 1 (llen l2_6))), flat1 v113 3 (ints [(gat 0 l2_6 0)])] := S116
                have q120 : RefK (kpl [c11_u0, c20_u0]) G114.length c11_u0 := refK_sl (S116.sl (k := 0) rfl) (by simp)
                obtain ⟨g121, hL73⟩ := gd_some hL73
                have q122 := idxG (P := Try.prog) (kk := .i64) (S116.sl (k := 0) rfl) el_22 sz_3 g121
                have q123 : RefK (kpl [c11_u0, c20_u0]) G114.length (elP c11_u0 ((gat 0 l2_6 0)).toNat) := refK_el (S116.sl (k := 0) rfl) (by simp) _
                have q124 := loadG (P := Try.prog) (S116.sl (k := 0) rfl) sz_3 ag_3 g121 0
                have q125 : RefK (kpl [c11_u0, c20_u0]) G114.length c20_u0 := refK_sl (S116.sl (k := 1) rfl) (by simp)
                obtain ⟨g126, hL73⟩ := gd_some hL73
                have q127 := idxG (P := Try.prog) (kk := .i64) (S116.sl (k := 1) rfl) el_22 sz_3 g126
                have q128 : RefK (kpl [c11_u0, c20_u0]) G114.length (elP c20_u0 ((gat 0 l2_6 0)).toNat) := refK_el (S116.sl (k := 1) rfl) (by simp) _
                have q129 := loadG (P := Try.prog) (S116.sl (k := 1) rfl) sz_3 ag_3 g126 0
                obtain ⟨v130, G131, q132, S133, a135, fl136⟩ := S116.lit2E (P := Try.prog) (t := 22) (hB.le A117.1) el_22 ei_3 rfl (Value.int .i64 (gat 0 r1 (gat 0 l2_6 0))) (Value.int .i64 (gat 0 r2 (gat 0 l2_6 0))) rfl rfl rfl rfl
                have A134 := A117.ext (hB.le A117.1) a135
                replace S133 : Sep G131 (Fr H) [flat c11_u0 3 (ints r1), flat c20_u0 3 (ints r2), rowsC w1_2 22 3 D1_2 (List.map ints l1_2), rowsC w1_3 22 3 D1_3 (List.map ints l1_3), flat v42 4 (bools (lset l2_4 (gat 0 l2_6 0) true)), flat w2_5 3 (ints l2_5), flat (subV w2_6 1 (llen l2_6)) 3 (ints (lsub l2_6 1 (llen l2_6))), flat1 v113 3 (ints [(gat 0 l2_6 0)]), flat1 v130 3 (ints [(gat 0 r1 (gat 0 l2_6 0)), (gat 0 r2 (gat 0 l2_6 0))])] := S133
                obtain ⟨g137, hL73⟩ := gd_some hL73
                obtain ⟨v143, G138, q139, S140, a142, _, _, h144⟩ := S133.appendS (f := (Value.int .i64)) (xs := l2_5) (ys := [(gat 0 l2_6 0)]) (P := Try.prog) (t := 22) (t2 := 22) (k := 5) rfl (hB.le A134.1) el_22 el_22 ei_3 rfl (S133.sl1 (k := 7) rfl) g137
                have t145 : Stand (kN G114.length) G131 G138 := stand_kN h144 S116 (k := 5) ⟨_, rfl⟩
                have t146 : Stand (kpl [c11_u0, c20_u0]) G131 G138 := stand_kpl h144 (by
                  simp only [List.mem_cons, List.not_mem_nil, or_false, forall_eq_or_imp, forall_eq, false_imp_iff, implies_true]
                  exact ⟨S116.ids_apart (k := 5) (j := 0) rfl rfl (by decide), S116.ids_apart (k := 5) (j := 1) rfl rfl (by decide)⟩)
                have A141 := A134.trans a142
                replace S140 : Sep G138 (Fr H) [flat c11_u0 3 (ints r1), flat c20_u0 3 (ints r2), rowsC w1_2 22 3 D1_2 (List.map ints l1_2), rowsC w1_3 22 3 D1_3 (List.map ints l1_3), flat v42 4 (bools (lset l2_4 (gat 0 l2_6 0) true)), flat v143 3 (ints (lapp l2_5 [(gat 0 l2_6 0)])), flat (subV w2_6 1 (llen l2_6)) 3 (ints (lsub l2_6 1 (llen l2_6))), flat1 v113 3 (ints [(gat 0 l2_6 0)]), flat1 v130 3 (ints [(gat 0 r1 (gat 0 l2_6 0)), (gat 0 r2 (gat 0 l2_6 0))])] := S140
                obtain ⟨g147, hL73⟩ := gd_some hL73
                obtain ⟨v153, G148, q149, S150, a152, _, _, h154⟩ := S140.appendS (f := (Value.int .i64)) (xs := (lsub l2_6 1 (llen l2_6))) (ys := [(gat 0 r1 (gat 0 l2_6 0)), (gat 0 r2 (gat 0 l2_6 0))]) (P := Try.prog) (t := 22) (t2 := 22) (k := 6) rfl (hB.le A141.1) el_22 el_22 ei_3 rfl (S140.sl1 (k := 8) rfl) g147
                have t155 : Stand (kN G114.length) G138 G148 := stand_kN h154 S116 (k := 6) ⟨_, rfl⟩
                have t156 : Stand (kpl [c11_u0, c20_u0]) G138 G148 := stand_kpl h154 (by
                  simp only [List.mem_cons, List.not_mem_nil, or_false, forall_eq_or_imp, forall_eq, false_imp_iff, implies_true]
                  exact ⟨S116.ids_apart (k := 6) (j := 0) rfl rfl (by decide), S116.ids_apart (k := 6) (j := 1) rfl rfl (by decide)⟩)
                have A151 := A141.trans a152
                replace S150 : Sep G148 (Fr H) [flat c11_u0 3 (ints r1), flat c20_u0 3 (ints r2), rowsC w1_2 22 3 D1_2 (List.map ints l1_2), rowsC w1_3 22 3 D1_3 (List.map ints l1_3), flat v42 4 (bools (lset l2_4 (gat 0 l2_6 0) true)), flat v143 3 (ints (lapp l2_5 [(gat 0 l2_6 0)])), flat v153 3 (ints (lapp (lsub l2_6 1 (llen l2_6)) [(gat 0 r1 (gat 0 l2_6 0)), (gat 0 r2 (gat 0 l2_6 0))])), flat1 v113 3 (ints [(gat 0 l2_6 0)]), flat1 v130 3 (ints [(gat 0 r1 (gat 0 l2_6 0)), (gat 0 r2 (gat 0 l2_6 0))])] := S150
                refine DWp.drawn0 (B := [0, 0, 2, 0, 0, 0, 48, 112, 0, 0, 768, 1792, 4080, 7, 16383, 32767, 65535]) (X0 := [6, 7, 10, 11, 12]) (π := [0, 1, 2, 4, 5, 6, 7, 8, 9, 10, 11, 12, 13, 3, 14, 15, 16]) (σ := [0, 1, 2, 13, 3, 4, 5, 6, 7, 8, 9, 10, 11, 12, 14, 15, 16]) 13 (kpl [c11_u0, c20_u0]) G114.length mixed (by kernel_rfl) (by kernel_rfl) (by decide) fun K hK => ?_
                simp only [rl0, rlb0, List.filterMap_cons, List.filterMap_nil, List.getElem?_cons_zero, List.getElem?_cons_succ, Option.map_some, Option.map_none]
                simp (config := { maxSteps := 4000000 }) [-aBin', -aBin, -aBinI, -aUn, -aNil, -flatV, n_fn, b_add, b_sub, b_mul, b_lt, b_le, b_gt, b_ge, b_eq, b_ne, u_not, ej112_4, ej112_5, ej112_6, ej112_7, ej112_8, ej112_10, ej112_11, ej112_12, ej112_13, ej112_26, ej112_27, q115, a118.to_pre, q120, q122, q123, q124, q125, q127, q128, q129, plainK_top, madeK_top, q132, a135.to_pre, q139, t145, t146, q149, t155, t156]
                apply hK
                clear hK K
                simp only [andThen, leaves]
                have S157 := S150.pick [0, 1, 2, 3, 4, 5, 6] (by decide) rfl
                exact ⟨n2, Nat.lt_succ_self _, (lset l2_4 (gat 0 l2_6 0) true), (lapp l2_5 [(gat 0 l2_6 0)]), s98, (lapp (lsub l2_6 1 (llen l2_6)) [(gat 0 r1 (gat 0 l2_6 0)), (gat 0 r2 (gat 0 l2_6 0))]), v143, v153, hL73, S157, A151, by simp [ej112_4, ej112_5, ej112_6, ej112_7, ej112_8, ej112_10, ej112_11, ej112_12, ej112_13, ej112_26, ej112_27], by simp [ej112_4, ej112_5, ej112_6, ej112_7, ej112_8, ej112_10, ej112_11, ej112_12, ej112_13, ej112_26, ej112_27], by simp [ej112_4, ej112_5, ej112_6, ej112_7, ej112_8, ej112_10, ej112_11, ej112_12, ej112_13, ej112_26, ej112_27], by simp [ej112_4, ej112_5, ej112_6, ej112_7, ej112_8, ej112_10, ej112_11, ej112_12, ej112_13, ej112_26, ej112_27], by simp [ej112_4, ej112_5, ej112_6, ej112_7, ej112_8, ej112_10, ej112_11, ej112_12, ej112_13, ej112_26, ej112_27], by simp [ej112_4, ej112_5, ej112_6, ej112_7, ej112_8, ej112_10, ej112_11, ej112_12, ej112_13, ej112_26, ej112_27], by simp [ej112_4, ej112_5, ej112_6, ej112_7, ej112_8, ej112_10, ej112_11, ej112_12, ej112_13, ej112_26, ej112_27], by simp [ej112_4, ej112_5, ej112_6, ej112_7, ej112_8, ej112_10, ej112_11, ej112_12, ej112_13, ej112_26, ej112_27], by simp [ej112_4, ej112_5, ej112_6, ej112_7, ej112_8, ej112_10, ej112_11, ej112_12, ej112_13, ej112_26, ej112_27], by simp [ej112_4, ej112_5, ej112_6, ej112_7, ej112_8, ej112_10, ej112_11, ej112_12, ej112_13, ej112_26, ej112_27]⟩
          · replace hL73 := cd_f hb78 hL73
            refine DWp.exit ?_
            simp only [andThen, leaves, if_true, if_false, reduceIte, Nat.reduceEqDiff]
            obtain rfl := Option.some.inj hL73
            try dsimp only at hL50
            refine DWp.seq ?_
            obtain ⟨r3, hc158, hL50⟩ := bd_some hL50
            refine DWp.region fun K hK => ?_
            simp [-aBin', -aBin, -aBinI, -aUn, -aNil, -flatV, n_fn, b_add, b_sub, b_mul, b_lt, b_le, b_gt, b_ge, b_eq, b_ne, u_not, e2_4, e2_5, e2_6, e2_7, e2_8, e2_10, e2_11, e2_12, e2_26, e2_27, ((S2_.sl (k := 5) rfl).tup)]
            have S159 : Sep G2_ (Fr H) ([flat w2_5 3 (ints l2_5)] ++ [flat c11_u0 3 (ints r1), flat c20_u0 3 (ints r2), rowsC w1_2 22 3 D1_2 (List.map ints l1_2), rowsC w1_3 22 3 D1_3 (List.map ints l1_3), flat v42 4 (bools l2_4), flat w2_6 3 (ints l2_6)]) := S2_.pick [5, 0, 1, 2, 3, 4, 6] (by decide) rfl
            obtain ⟨B165, S160, U161, M162, R163, C164⟩ := S159.frame (hB.le A2_.1)
            refine CallD.t (F_slices_Sort_Sint_w (fu := fu) U161 S160 hc158) ?_
            rintro _ G167 ⟨a170, rfl, S171⟩
            have A169 := A2_.trans (a170.mono M162)
            have S168 : Sep G167 (Fr H) [flat w2_5 3 (ints r3), flat c11_u0 3 (ints r1), flat c20_u0 3 (ints r2), rowsC w1_2 22 3 D1_2 (List.map ints l1_2), rowsC w1_3 22 3 D1_3 (List.map ints l1_3), flat v42 4 (bools l2_4), flat w2_6 3 (ints l2_6)] := C164 _ _ a170 S171
            simp [-aBin', -aBin, -aBinI, -aUn, -aNil, -flatV, n_fn, b_add, b_sub, b_mul, b_lt, b_le, b_gt, b_ge, b_eq, b_ne, u_not, e2_4, e2_5, e2_6, e2_7, e2_8, e2_10, e2_11, e2_12, e2_26, e2_27]
            apply hK
            clear hK K
            simp only [andThen, leaves]
            refine DWp.seq ?_
            refine DWp.region fun K hK => ?_
            simp [-aBin', -aBin, -aBinI, -aUn, -aNil, -flatV, n_fn, b_add, b_sub, b_mul, b_lt, b_le, b_gt, b_ge, b_eq, b_ne, u_not, e2_4, e2_5, e2_6, e2_7, e2_8, e2_10, e2_11, e2_12, e2_26, e2_27]
            apply hK
            clear hK K
            simp only [andThen, leaves]
            refine DWp.cond' (t := y2_11) (by simp [e2_4, e2_5, e2_6, e2_7, e2_8, e2_10, e2_11, e2_12, e2_26, e2_27]) (fun hb172 => ?_) (fun hb172 => ?_)
            · replace hL50 := cd_t hb172 hL50
              obtain ⟨v173, G174, q175, S176, a178, _, _⟩ := S168.lit1 (P := Try.prog) (t := 46) (hB.le A169.1) el_46 ei_22 rfl w2_5 ((S168.sl (k := 0) rfl).tup) ((S168.sl (k := 0) rfl).one)
              have A177 := A169.ext (hB.le A169.1) a178
              replace S176 : Sep G174 (Fr H) [flat w2_5 3 (ints r3), flat c11_u0 3 (ints r1), flat c20_u0 3 (ints r2), rowsC w1_2 22 3 D1_2 (List.map ints l1_2), rowsC w1_3 22 3 D1_3 (List.map ints l1_3), flat v42 4 (bools l2_4), flat w2_6 3 (ints l2_6), flat1 v173 22 [w2_5]] := S176
              obtain ⟨g179, hL50⟩ := gd_some hL50
              obtain ⟨v185, G180, q181, S182, a184, q181t, _⟩ := S176.pushRow (fr := ints) (X := l1_2) (y := r3) (P := Try.prog) (t := 46) (t2 := 46) (j := 3) (k := 0) (by decide) rfl rfl (hB.le A177.1) el_46 el_46 ei_22 rfl (S176.sl1 (k := 7) rfl) g179
              have A183 := A177.trans a184
              replace S182 : Sep G180 (Fr H) [emp, flat c11_u0 3 (ints r1), flat c20_u0 3 (ints r2), rowsC v185 22 3 (D1_2 ++ [w2_5]) (List.map ints (lapp l1_2 [r3])), rowsC w1_3 22 3 D1_3 (List.map ints l1_3), flat v42 4 (bools l2_4), flat w2_6 3 (ints l2_6), flat1 v173 22 [w2_5]] := S182
              refine DWp.region fun K hK => ?_
              simp [-aBin', -aBin, -aBinI, -aUn, -aNil, -flatV, n_fn, b_add, b_sub, b_mul, b_lt, b_le, b_gt, b_ge, b_eq, b_ne, u_not, e2_4, e2_5, e2_6, e2_7, e2_8, e2_10, e2_11, e2_12, e2_26, e2_27, q175, a178.to_pre, ((S168.sl (k := 0) rfl).tup), q181, q181t]
              apply hK
              clear hK K
              simp only [andThen, leaves]
              refine DWp.region fun K hK => ?_
              simp [-aBin', -aBin, -aBinI, -aUn, -aNil, -flatV, n_fn, b_add, b_sub, b_mul, b_lt, b_le, b_gt, b_ge, b_eq, b_ne, u_not, e2_4, e2_5, e2_6, e2_7, e2_8, e2_10, e2_11, e2_12, e2_26, e2_27]
              apply hK
              clear hK K
              simp only [andThen, leaves]
              have S186 := S182.pick [1, 2, 3, 4, 5] (by decide) rfl
              exact ⟨n1, Nat.lt_succ_self _, (lapp l1_2 [r3]), l1_3, l2_4, (iadd .i64 y1_27 1), v185, (D1_2 ++ [w2_5]), w1_3, D1_3, hL50, S186, A183, by simp [e2_4, e2_5, e2_6, e2_7, e2_8, e2_10, e2_11, e2_12, e2_26, e2_27], by simp [e2_4, e2_5, e2_6, e2_7, e2_8, e2_10, e2_11, e2_12, e2_26, e2_27], by simp [e2_4, e2_5, e2_6, e2_7, e2_8, e2_10, e2_11, e2_12, e2_26, e2_27], by simp [e2_4, e2_5, e2_6, e2_7, e2_8, e2_10, e2_11, e2_12, e2_26, e2_27], by simp [e2_4, e2_5, e2_6, e2_7, e2_8, e2_10, e2_11, e2_12, e2_26, e2_27], by simp [e2_4, e2_5, e2_6, e2_7, e2_8, e2_10, e2_11, e2_12, e2_26, e2_27], by simp [e2_4, e2_5, e2_6, e2_7, e2_8, e2_10, e2_11, e2_12, e2_26, e2_27]⟩
            · replace hL50 := cd_f hb172 hL50
              obtain ⟨v187, G188, q189, S190, a192, _, _⟩ := S168.lit1 (P := Try.prog) (t := 46) (hB.le A169.1) el_46 ei_22 rfl w2_5 ((S168.sl (k := 0) rfl).tup) ((S168.sl (k := 0) rfl).one)
              have A191 := A169.ext (hB.le A169.1) a192
              replace S190 : Sep G188 (Fr H) [flat w2_5 3 (ints r3), flat c11_u0 3 (ints r1), flat c20_u0 3 (ints r2), rowsC w1_2 22 3 D1_2 (List.map ints l1_2), rowsC w1_3 22 3 D1_3 (List.map ints l1_3), flat v42 4 (bools l2_4), flat w2_6 3 (ints l2_6), flat1 v187 22 [w2_5]] := S190
              obtain ⟨g193, hL50⟩ := gd_some hL50
              obtain ⟨v199, G194, q195, S196, a198, q195t, _⟩ := S190.pushRow (fr := ints) (X := l1_3) (y := r3) (P := Try.prog) (t := 46) (t2 := 46) (j := 4) (k := 0) (by decide) rfl rfl (hB.le A191.1) el_46 el_46 ei_22 rfl (S190.sl1 (k := 7) rfl) g193
              have A197 := A191.trans a198
              replace S196 : Sep G194 (Fr H) [emp, flat c11_u0 3 (ints r1), flat c20_u0 3 (ints r2), rowsC w1_2 22 3 D1_2 (List.map ints l1_2), rowsC v199 22 3 (D1_3 ++ [w2_5]) (List.map ints (lapp l1_3 [r3])), flat v42 4 (bools l2_4), flat w2_6 3 (ints l2_6), flat1 v187 22 [w2_5]] := S196
              refine DWp.region fun K hK => ?_
              simp [-aBin', -aBin, -aBinI, -aUn, -aNil, -flatV, n_fn, b_add, b_sub, b_mul, b_lt, b_le, b_gt, b_ge, b_eq, b_ne, u_not, e2_4, e2_5, e2_6, e2_7, e2_8, e2_10, e2_11, e2_12, e2_26, e2_27, q189, a192.to_pre, ((S168.sl (k := 0) rfl).tup), q195, q195t]
              apply hK
              clear hK K
              simp only [andThen, leaves]
              refine DWp.region fun K hK => ?_
              simp [-aBin', -aBin, -aBinI, -aUn, -aNil, -flatV, n_fn, b_add, b_sub, b_mul, b_lt, b_le, b_gt, b_ge, b_eq, b_ne, u_not, e2_4, e2_5, e2_6, e2_7, e2_8, e2_10, e2_11, e2_12, e2_26, e2_27]
              apply hK
              clear hK K
              simp only [andThen, leaves]
              have S200 := S196.pick [1, 2, 3, 4, 5] (by decide) rfl
              exact ⟨n1, Nat.lt_succ_self _, l1_2, (lapp l1_3 [r3]), l2_4, (iadd .i64 y1_27 1), w1_2, D1_2, v199, (D1_3 ++ [w2_5]), hL50, S200, A197, by simp [e2_4, e2_5, e2_6, e2_7, e2_8, e2_10, e2_11, e2_12, e2_26, e2_27], by simp [e2_4, e2_5, e2_6, e2_7, e2_8, e2_10, e2_11, e2_12, e2_26, e2_27], by simp [e2_4, e2_5, e2_6, e2_7, e2_8, e2_10, e2_11, e2_12, e2_26, e2_27], by simp [e2_4, e2_5, e2_6, e2_7, e2_8, e2_10, e2_11, e2_12, e2_26, e2_27], by simp [e2_4, e2_5, e2_6, e2_7, e2_8, e2_10, e2_11, e2_12, e2_26, e2_27], by simp [e2_4, e2_5, e2_6, e2_7, e2_8, e2_10, e2_11, e2_12, e2_26, e2_27], by simp [e2_4, e2_5, e2_6, e2_7, e2_8, e2_10, e2_11, e2_12, e2_26, e2_27]⟩
    · replace hL50 := cd_f hb52 hL50
      refine DWp.exit ?_
      simp only [andThen, leaves, if_true, if_false, reduceIte, Nat.reduceEqDiff]
      obtain rfl := Option.some.inj hL50
      try dsimp only at hF
      refine DWp.seq ?_
      refine DWp.region fun K hK => ?_
      simp [-aBin', -aBin, -aBinI, -aUn, -aNil, -flatV, n_fn, b_add, b_sub, b_mul, b_lt, b_le, b_gt, b_ge, b_eq, b_ne, u_not, e1_4, e1_5, e1_6, e1_7, e1_8, e1_26, e1_27]
      apply hK
      clear hK K
      simp only [andThen, leaves]
      refine DWp.ret ?_
      obtain rfl := Option.some.inj hF
      exact ⟨by simp, [w1_2, w1_3], by simp [e1_4, e1_5, e1_6, e1_7, e1_8, e1_26, e1_27, ((S1_.rd (k := 2) rfl).tup), ((S1_.rd (k := 3) rfl).tup)], A1_, w1_2, D1_2, w1_3, D1_3, rfl, S1_.pick [2, 3] (by decide) rfl⟩
/-! (loop.example/g01126/impl.Seaweed).index -/
def F_impl_Seaweed_index (fu : Nat) (x0_0 : List Int) (x0_1 : List Int) : Option (Int) :=
  bd (F_impl_Seaweed_groups fu x0_0 x0_1) fun r1 =>
  some (isub .i64 (iadd .i64 (imul .i64 2 (llen r1.2)) (llen r1.1)) 1)
theorem F_impl_Seaweed_index_w {fu : Nat} {H : AH} {v0_0 : Value} {v0_1 : Value} {x0_0 : List Int} {x0_1 : List Int} {r : (Int)} (hx0_0 : Sl H v0_0 (ints x0_0)) (hx0_1 : Sl H v0_1 (ints x0_1)) (hF : F_impl_Seaweed_index fu x0_0 x0_1 = some r) :
    ACallT Try.prog 66 [(Value.agg #[v0_0, v0_1])] H (fun u G => AgB (Fr H) H G ∧ u = (Value.int .i64 r) ∧ Sep G (Fr H) []) := by
  refine ACallT.of_body (nt := 17) (rs := [.tmp 2]) Try.func66 rfl rfl rfl rfl ?_
  have A0 : AgB (Fr H) H H := .refl _ _
  have S0 : Sep H (Fr H) [] := .nil
  have hB := Fr.up H
  unfold F_impl_Seaweed_index at hF
  refine DWp.seq ?_
  obtain ⟨G2, p4, q5, q6, a7, S1⟩ := S0.boxT (hB.le A0.1) 26 [v0_0, v0_1]
  have A3 := A0.ext (hB.le A0.1) a7
  replace S1 : Sep G2 (Fr H) [AL.box p4 [v0_0, v0_1]] := S1
  refine DWp.region fun K hK => ?_
  simp [-aBin', -aBin, -aBinI, -aUn, -aNil, -flatV, n_fn, b_add, b_sub, b_mul, b_lt, b_le, b_gt, b_ge, b_eq, b_ne, u_not, q5, q6, a7.to_pre, cells_agg]
  apply hK
  clear hK K
  simp only [andThen, leaves]
  refine DWp.seq ?_
  have q8 := S1.loadAgg (P := Try.prog) (k := 0) rfl sz_26 ag_26 rfl
  obtain ⟨r1, hc9, hF⟩ := bd_some hF
  refine DWp.region fun K hK => ?_
  simp [-aBin', -aBin, -aBinI, -aUn, -aNil, -flatV, n_fn, b_add, b_sub, b_mul, b_lt, b_le, b_gt, b_ge, b_eq, b_ne, u_not, q8, ((hx0_0.agree A3.agree).tup), ((hx0_1.agree A3.agree).tup)]
  refine CallD.t (F_impl_Seaweed_groups_w (fu := fu) (hx0_0.agree A3.agree) (hx0_1.agree A3.agree) hc9) ?_
  rintro _ G11 ⟨a14, c10_u0, c10_C0, c10_u2, c10_C2, rfl, S15⟩
  have A13 := A3.ext (hB.le A3.1) a14.agree
  have S12 : Sep G11 (Fr H) [AL.box p4 [v0_0, v0_1], rowsC c10_u0 22 3 c10_C0 (List.map ints r1.1), rowsC c10_u2 22 3 c10_C2 (List.map ints r1.2)] := S1.app a14.agree S15 (fun _ h => h) (hB.le A3.1)
  simp [-aBin', -aBin, -aBinI, -aUn, -aNil, -flatV, n_fn, b_add, b_sub, b_mul, b_lt, b_le, b_gt, b_ge, b_eq, b_ne, u_not, q8, a14.pre]
  apply hK
  clear hK K
  simp only [andThen, leaves]
  refine DWp.seq ?_
  have q16 := (S12.rd (k := 2) rfl).lenG (P := Try.prog) el_46
  have q17 := (S12.rd (k := 1) rfl).lenG (P := Try.prog) el_46
  refine DWp.region fun K hK => ?_
  simp [-aBin', -aBin, -aBinI, -aUn, -aNil, -flatV, n_fn, b_add, b_sub, b_mul, b_lt, b_le, b_gt, b_ge, b_eq, b_ne, u_not, q16, q17]
  apply hK
  clear hK K
  simp only [andThen, leaves]
  refine DWp.ret ?_
  obtain rfl := Option.some.inj hF
  exact ⟨by simp, [(Value.int .i64 (isub .i64 (iadd .i64 (imul .i64 2 (llen r1.2)) (llen r1.1)) 1))], by simp [], A13, rfl, S12.pick [] (by decide) rfl⟩
/-! loop.example/g01126/impl.indexFor -/
def F_impl_indexFor (fu : Nat) (x0 : List Int) : Option (Int × Bool) :=
  bd (F_impl_areParts fu x0) fun r1 =>
  bif (bnot r1) then
    some (0, false)
  else
    bd (F_impl_sum fu x0) fun r2 =>
    bd (F_impl_Seaweed_index fu x0 [r2]) fun r3 =>
    some (r3, true)
theorem F_impl_indexFor_w {fu : Nat} {H : AH} {v0 : Value} {x0 : List Int} {r : (Int × Bool)} (hx0 : Sl H v0 (ints x0)) (hF : F_impl_indexFor fu x0 = some r) :
    ACallT Try.prog 60 [v0] H (fun u G => AgB (Fr H) H G ∧ u = (Value.tuple #[(Value.int .i64 r.1), (Value.bool r.2)]) ∧ Sep G (Fr H) []) := by
  refine ACallT.of_body (nt := 13) (rs := [.tmp 2, .tmp 3]) Try.func60 rfl rfl rfl rfl ?_
  have A0 : AgB (Fr H) H H := .refl _ _
  have S0 : Sep H (Fr H) [] := .nil
  have hB := Fr.up H
  unfold F_impl_indexFor at hF
  refine DWp.seq ?_
  refine DWp.region fun K hK => ?_
  simp [-aBin', -aBin, -aBinI, -aUn, -aNil, -flatV, n_fn, b_add, b_sub, b_mul, b_lt, b_le, b_gt, b_ge, b_eq, b_ne, u_not]
  apply hK
  clear hK K
  simp only [andThen, leaves]
  refine DWp.seq ?_
  refine DWp.seq ?_
  obtain ⟨r1, hc1, hF⟩ := bd_some hF
  refine DWp.region fun K hK => ?_
  simp [-aBin', -aBin, -aBinI, -aUn, -aNil, -flatV, n_fn, b_add, b_sub, b_mul, b_lt, b_le, b_gt, b_ge, b_eq, b_ne, u_not, ((hx0.agree A0.agree).tup)]
  refine CallD.t (F_impl_areParts_w (fu := fu) (hx0.agree A0.agree) hc1) ?_
  rintro _ G3 ⟨a6, rfl, S7⟩
  have A5 := A0.ext (hB.le A0.1) a6.agree
  have S4 : Sep G3 (Fr H) [] := S0.app a6.agree S7 (fun _ h => h) (hB.le A0.1)
  simp [-aBin', -aBin, -aBinI, -aUn, -aNil, -flatV, n_fn, b_add, b_sub, b_mul, b_lt, b_le, b_gt, b_ge, b_eq, b_ne, u_not, a6.pre]
  apply hK
  clear hK K
  simp only [andThen, leaves]
  refine DWp.cond' (t := (bnot r1)) (by simp []) (fun hb8 => ?_) (fun hb8 => ?_)
  · replace hF := cd_t hb8 hF
    refine DWp.seq ?_
    refine DWp.region fun K hK => ?_
    simp [-aBin', -aBin, -aBinI, -aUn, -aNil, -flatV, n_fn, b_add, b_sub, b_mul, b_lt, b_le, b_gt, b_ge, b_eq, b_ne, u_not]
    apply hK
    clear hK K
    simp only [andThen, leaves]
    refine DWp.ret ?_
    simp only [andThen, leaves]
    obtain rfl := Option.some.inj hF
    exact ⟨by simp, [(Value.int .i64 0), (Value.bool false)], by simp [], A5, rfl, S4.pick [] (by decide) rfl⟩
  · replace hF := cd_f hb8 hF
    refine DWp.skip ?_
    simp only [andThen, leaves]
    refine DWp.seq ?_
    obtain ⟨r2, hc9, hF⟩ := bd_some hF
    refine DWp.region fun K hK => ?_
    simp [-aBin', -aBin, -aBinI, -aUn, -aNil, -flatV, n_fn, b_add, b_sub, b_mul, b_lt, b_le, b_gt, b_ge, b_eq, b_ne, u_not, ((hx0.agree A5.agree).tup)]
    refine CallD.t (F_impl_sum_w (fu := fu) (hx0.agree A5.agree) hc9) ?_
    rintro _ G11 ⟨a14, rfl, S15⟩
    have A13 := A5.ext (hB.le A5.1) a14.agree
    have S12 : Sep G11 (Fr H) [] := S4.app a14.agree S15 (fun _ h => h) (hB.le A5.1)
    obtain ⟨v16, G17, q18, S19, a21, _, _⟩ := S12.lit1 (P := Try.prog) (t := 22) (hB.le A13.1) el_22 ei_3 rfl (Value.int .i64 r2) rfl rfl
    have A20 := A13.ext (hB.le A13.1) a21
    replace S19 : Sep G17 (Fr H) [flat1 v16 3 (ints [r2])] := S19
    obtain ⟨r3, hc23, hF⟩ := bd_some hF
    simp [-aBin', -aBin, -aBinI, -aUn, -aNil, -flatV, n_fn, b_add, b_sub, b_mul, b_lt, b_le, b_gt, b_ge, b_eq, b_ne, u_not, a14.pre, q18, a21.to_pre, bu_26 ((hx0.agree A20.agree).tup) ((hx0.agree A20.agree).one) ((S19.sl1 (k := 0) rfl).tup) ((S19.sl1 (k := 0) rfl).one), ((hx0.agree A20.agree).tup), ((S19.sl1 (k := 0) rfl).tup)]
    refine CallD.t (F_impl_Seaweed_index_w (fu := fu) (hx0.agree A20.agree) (S19.sl1 (k := 0) rfl) hc23) ?_
    rintro _ G25 ⟨a28, rfl, S29⟩
    have A27 := A20.ext (hB.le A20.1) a28.agree
    have S26 : Sep G25 (Fr H) [flat1 v16 3 (ints [r2])] := S19.app a28.agree S29 (fun _ h => h) (hB.le A20.1)
    simp [-aBin', -aBin, -aBinI, -aUn, -aNil, -flatV, n_fn, b_add, b_sub, b_mul, b_lt, b_le, b_gt, b_ge, b_eq, b_ne, u_not, a14.pre, q18, a21.to_pre, bu_26 ((hx0.agree A20.agree).tup) ((hx0.agree A20.agree).one) ((S19.sl1 (k := 0) rfl).tup) ((S19.sl1 (k := 0) rfl).one), a28.pre]
    apply hK
    clear hK K
    simp only [andThen, leaves]
    refine DWp.ret ?_
    obtain rfl := Option.some.inj hF
    exact ⟨by simp, [(Value.int .i64 r3), (Value.bool true)], by simp [], A27, rfl, S26.pick [] (by decide) rfl⟩
/-! loop.example/g01126/impl.IndexOfThree -/
def F_impl_IndexOfThree (fu : Nat) (x0 : Int) (x1 : Int) (x2 : Int) : Option (Int × Bool) :=
  bd (F_impl_indexFor fu [x0, x1, x2]) fun r1 =>
  some (r1.1, r1.2)
theorem F_impl_IndexOfThree_w {fu : Nat} {H : AH}  {x0 : Int} {x1 : Int} {x2 : Int} {r : (Int × Bool)}  (hF : F_impl_IndexOfThree fu x0 x1 x2 = some r) :
    ACallT Try.prog 20 [(Value.int .i64 x0), (Value.int .i64 x1), (Value.int .i64 x2)] H (fun u G => AgB (Fr H) H G ∧ u = (Value.tuple #[(Value.int .i64 r.1), (Value.bool r.2)]) ∧ Sep G (Fr H) []) := by
  refine ACallT.of_body (nt := 15) (rs := [.tmp 6, .tmp 7]) Try.func20 rfl rfl rfl rfl ?_
  have A0 : AgB (Fr H) H H := .refl _ _
  have S0 : Sep H (Fr H) [] := .nil
  have hB := Fr.up H
  unfold F_impl_IndexOfThree at hF
  refine DWp.seq ?_
  refine DWp.region fun K hK => ?_
  simp [-aBin', -aBin, -aBinI, -aUn, -aNil, -flatV, n_fn, b_add, b_sub, b_mul, b_lt, b_le, b_gt, b_ge, b_eq, b_ne, u_not]
  apply hK
  clear hK K
  simp only [andThen, leaves]
  refine DWp.seq ?_
  obtain ⟨v1, G2, q3, S4, a6, _, _⟩ := S0.lit3 (P := Try.prog) (t := 22) (hB.le A0.1) el_22 ei_3 rfl (Value.int .i64 x0) (Value.int .i64 x1) (Value.int .i64 x2) rfl rfl rfl rfl rfl rfl
  have A5 := A0.ext (hB.le A0.1) a6
  replace S4 : Sep G2 (Fr H) [flat1 v1 3 (ints [x0, x1, x2])] := S4
  obtain ⟨r1, hc8, hF⟩ := bd_some hF
  refine DWp.region fun K hK => ?_
  simp [-aBin', -aBin, -aBinI, -aUn, -aNil, -flatV, n_fn, b_add, b_sub, b_mul, b_lt, b_le, b_gt, b_ge, b_eq, b_ne, u_not, q3, a6.to_pre, ((S4.sl1 (k := 0) rfl).tup)]
  refine CallD.t (F_impl_indexFor_w (fu := fu) (S4.sl1 (k := 0) rfl) hc8) ?_
  rintro _ G10 ⟨a13, rfl, S14⟩
  have A12 := A5.ext (hB.le A5.1) a13.agree
  have S11 : Sep G10 (Fr H) [flat1 v1 3 (ints [x0, x1, x2])] := S4.app a13.agree S14 (fun _ h => h) (hB.le A5.1)
  simp [-aBin', -aBin, -aBinI, -aUn, -aNil, -flatV, n_fn, b_add, b_sub, b_mul, b_lt, b_le, b_gt, b_ge, b_eq, b_ne, u_not, q3, a6.to_pre, a13.pre]
  apply hK
  clear hK K
  simp only [andThen, leaves]
  refine DWp.ret ?_
  obtain rfl := Option.some.inj hF
  exact ⟨by simp, [(Value.int .i64 r1.1), (Value.bool r1.2)], by simp [], A12, rfl, S11.pick [] (by decide) rfl⟩
/-! loop.example/g01126/laws.FnExactIndexOfThree -/
def F_laws_FnExactIndexOfThree (fu : Nat) (x0 : Int) (x1 : Int) (x2 : Int) : Option (Bool) :=
  bd (F_spec_IndexOfThree fu x0 x1 x2) fun r1 =>
  bd (F_impl_IndexOfThree fu x0 x1 x2) fun r2 =>
  bd (
    bif (ine r2.1 r1.1) then
      some true
    else
      some (bne' r2.2 r1.2)) fun s15 =>
  bif s15 then
    some false
  else
    some true
theorem F_laws_FnExactIndexOfThree_w {fu : Nat} {H : AH}  {x0 : Int} {x1 : Int} {x2 : Int} {r : (Bool)}  (hF : F_laws_FnExactIndexOfThree fu x0 x1 x2 = some r) :
    ACallT Try.prog 4 [(Value.int .i64 x0), (Value.int .i64 x1), (Value.int .i64 x2)] H (fun u G => AgB (Fr H) H G ∧ u = (Value.bool r) ∧ Sep G (Fr H) []) := by
  refine ACallT.of_body (nt := 33) (rs := [.tmp 6]) Try.func4 rfl rfl rfl rfl ?_
  have A0 : AgB (Fr H) H H := .refl _ _
  have S0 : Sep H (Fr H) [] := .nil
  have hB := Fr.up H
  unfold F_laws_FnExactIndexOfThree at hF
  refine DWp.seq ?_
  refine DWp.region fun K hK => ?_
  simp [-aBin', -aBin, -aBinI, -aUn, -aNil, -flatV, n_fn, b_add, b_sub, b_mul, b_lt, b_le, b_gt, b_ge, b_eq, b_ne, u_not]
  apply hK
  clear hK K
  simp only [andThen, leaves]
  refine DWp.seq ?_
  obtain ⟨r1, hc1, hF⟩ := bd_some hF
  refine DWp.region fun K hK => ?_
  simp [-aBin', -aBin, -aBinI, -aUn, -aNil, -flatV, n_fn, b_add, b_sub, b_mul, b_lt, b_le, b_gt, b_ge, b_eq, b_ne, u_not]
  refine CallD.t (F_spec_IndexOfThree_w (fu := fu)  hc1) ?_
  rintro _ G3 ⟨a6, rfl, S7⟩
  have A5 := A0.ext (hB.le A0.1) a6.agree
  have S4 : Sep G3 (Fr H) [] := S0.app a6.agree S7 (fun _ h => h) (hB.le A0.1)
  simp [-aBin', -aBin, -aBinI, -aUn, -aNil, -flatV, n_fn, b_add, b_sub, b_mul, b_lt, b_le, b_gt, b_ge, b_eq, b_ne, u_not, a6.pre]
  apply hK
  clear hK K
  simp only [andThen, leaves]
  refine DWp.seq ?_
  obtain ⟨r2, hc8, hF⟩ := bd_some hF
  refine DWp.region fun K hK => ?_
  simp [-aBin', -aBin, -aBinI, -aUn, -aNil, -flatV, n_fn, b_add, b_sub, b_mul, b_lt, b_le, b_gt, b_ge, b_eq, b_ne, u_not]
  refine CallD.t (F_impl_IndexOfThree_w (fu := fu)  hc8) ?_
  rintro _ G10 ⟨a13, rfl, S14⟩
  have A12 := A5.ext (hB.le A5.1) a13.agree
  have S11 : Sep G10 (Fr H) [] := S4.app a13.agree S14 (fun _ h => h) (hB.le A5.1)
  simp [-aBin', -aBin, -aBinI, -aUn, -aNil, -flatV, n_fn, b_add, b_sub, b_mul, b_lt, b_le, b_gt, b_ge, b_eq, b_ne, u_not, a13.pre]
  apply hK
  clear hK K
  simp only [andThen, leaves]
  refine DWp.seq ?_
  obtain ⟨s15, hL16, hF⟩ := bd_some hF
  refine DWp.seq (DWp.join (fun env G => Sep G (Fr H) [] ∧ AgB (Fr H) H G ∧ env 32 = some (Value.bool s15)) ?_ ?_)
  ·
    rcases Bool.eq_false_or_eq_true (ine r2.1 r1.1) with hb18 | hb18
    · replace hL16 := cd_t hb18 hL16
      refine DWp.region fun K hK => ?_
      simp [-aBin', -aBin, -aBinI, -aUn, -aNil, -flatV, n_fn, b_add, b_sub, b_mul, b_lt, b_le, b_gt, b_ge, b_eq, b_ne, u_not, hb18]
      apply hK
      clear hK K
      simp only [andThen, leaves]
      have S19 := S11.pick [] (by decide) rfl
      obtain rfl := Option.some.inj hL16
      exact ⟨S19, A12, by simp []⟩
    · replace hL16 := cd_f hb18 hL16
      refine DWp.region fun K hK => ?_
      simp [-aBin', -aBin, -aBinI, -aUn, -aNil, -flatV, n_fn, b_add, b_sub, b_mul, b_lt, b_le, b_gt, b_ge, b_eq, b_ne, u_not, hb18, b_bne un_4]
      apply hK
      clear hK K
      simp only [andThen, leaves]
      have S20 := S11.pick [] (by decide) rfl
      obtain rfl := Option.some.inj hL16
      exact ⟨S20, A12, by simp []⟩
  · rintro env Gj21 ⟨Sj21, Aj21, ej21_32⟩
    refine DWp.cond' (t := s15) (by simp [ej21_32]) (fun hb22 => ?_) (fun hb22 => ?_)
    · replace hF := cd_t hb22 hF
      refine DWp.seq ?_
      refine DWp.region fun K hK => ?_
      simp [-aBin', -aBin, -aBinI, -aUn, -aNil, -flatV, n_fn, b_add, b_sub, b_mul, b_lt, b_le, b_gt, b_ge, b_eq, b_ne, u_not, ej21_32]
      apply hK
      clear hK K
      simp only [andThen, leaves]
      refine DWp.ret ?_
      simp only [andThen, leaves]
      obtain rfl := Option.some.inj hF
      exact ⟨by simp, [(Value.bool false)], by simp [ej21_32], Aj21, rfl, Sj21.pick [] (by decide) rfl⟩
    · replace hF := cd_f hb22 hF
      refine DWp.skip ?_
      simp only [andThen, leaves]
      refine DWp.seq ?_
      refine DWp.region fun K hK => ?_
      simp [-aBin', -aBin, -aBinI, -aUn, -aNil, -flatV, n_fn, b_add, b_sub, b_mul, b_lt, b_le, b_gt, b_ge, b_eq, b_ne, u_not, ej21_32]
      apply hK
      clear hK K
      simp only [andThen, leaves]
      refine DWp.ret ?_
      obtain rfl := Option.some.inj hF
      exact ⟨by simp, [(Value.bool true)], by simp [ej21_32], Aj21, rfl, Sj21.pick [] (by decide) rfl⟩
/-! loop.example/g01126/spec.IndexOfTwo -/
def F_spec_IndexOfTwo (fu : Nat) (x0 : Int) (x1 : Int) : Option (Int × Bool) :=
  bd (F_spec_swParts fu [x0, x1]) fun r1 =>
  bif (bnot r1) then
    some (0, false)
  else
    bd (F_spec_swGcd fu x0 x1) fun r2 =>
    some ((isub .i64 r2 1), true)
theorem F_spec_IndexOfTwo_w {fu : Nat} {H : AH}  {x0 : Int} {x1 : Int} {r : (Int × Bool)}  (hF : F_spec_IndexOfTwo fu x0 x1 = some r) :
    ACallT Try.prog 21 [(Value.int .i64 x0), (Value.int .i64 x1)] H (fun u G => AgB (Fr H) H G ∧ u = (Value.tuple #[(Value.int .i64 r.1), (Value.bool r.2)]) ∧ Sep G (Fr H) []) := by
  refine ACallT.of_body (nt := 15) (rs := [.tmp 4, .tmp 5]) Try.func21 rfl rfl rfl rfl ?_
  have A0 : AgB (Fr H) H H := .refl _ _
  have S0 : Sep H (Fr H) [] := .nil
  have hB := Fr.up H
  unfold F_spec_IndexOfTwo at hF
  refine DWp.seq ?_
  refine DWp.region fun K hK => ?_
  simp [-aBin', -aBin, -aBinI, -aUn, -aNil, -flatV, n_fn, b_add, b_sub, b_mul, b_lt, b_le, b_gt, b_ge, b_eq, b_ne, u_not]
  apply hK
  clear hK K
  simp only [andThen, leaves]
  refine DWp.seq ?_
  refine DWp.seq ?_
  obtain ⟨v1, G2, q3, S4, a6, _, _⟩ := S0.lit2 (P := Try.prog) (t := 22) (hB.le A0.1) el_22 ei_3 rfl (Value.int .i64 x0) (Value.int .i64 x1) rfl rfl rfl rfl
  have A5 := A0.ext (hB.le A0.1) a6
  replace S4 : Sep G2 (Fr H) [flat1 v1 3 (ints [x0, x1])] := S4
  obtain ⟨r1, hc8, hF⟩ := bd_some hF
  refine DWp.region fun K hK => ?_
  simp [-aBin', -aBin, -aBinI, -aUn, -aNil, -flatV, n_fn, b_add, b_sub, b_mul, b_lt, b_le, b_gt, b_ge, b_eq, b_ne, u_not, q3, a6.to_pre, ((S4.sl1 (k := 0) rfl).tup)]
  refine CallD.t (F_spec_swParts_w (fu := fu) (S4.sl1 (k := 0) rfl) hc8) ?_
  rintro _ G10 ⟨a13, rfl, S14⟩
  have A12 := A5.ext (hB.le A5.1) a13.agree
  have S11 : Sep G10 (Fr H) [flat1 v1 3 (ints [x0, x1])] := S4.app a13.agree S14 (fun _ h => h) (hB.le A5.1)
  simp [-aBin', -aBin, -aBinI, -aUn, -aNil, -flatV, n_fn, b_add, b_sub, b_mul, b_lt, b_le, b_gt, b_ge, b_eq, b_ne, u_not, q3, a6.to_pre, a13.pre]
  apply hK
  clear hK K
  simp only [andThen, leaves]
  refine DWp.cond' (t := (bnot r1)) (by simp []) (fun hb15 => ?_) (fun hb15 => ?_)
  · replace hF := cd_t hb15 hF
    refine DWp.seq ?_
    refine DWp.region fun K hK => ?_
    simp [-aBin', -aBin, -aBinI, -aUn, -aNil, -flatV, n_fn, b_add, b_sub, b_mul, b_lt, b_le, b_gt, b_ge, b_eq, b_ne, u_not]
    apply hK
    clear hK K
    simp only [andThen, leaves]
    refine DWp.ret ?_
    simp only [andThen, leaves]
    obtain rfl := Option.some.inj hF
    exact ⟨by simp, [(Value.int .i64 0), (Value.bool false)], by simp [], A12, rfl, S11.pick [] (by decide) rfl⟩
  · replace hF := cd_f hb15 hF
    refine DWp.skip ?_
    simp only [andThen, leaves]
    refine DWp.seq ?_
    obtain ⟨r2, hc16, hF⟩ := bd_some hF
    refine DWp.region fun K hK => ?_
    simp [-aBin', -aBin, -aBinI, -aUn, -aNil, -flatV, n_fn, b_add, b_sub, b_mul, b_lt, b_le, b_gt, b_ge, b_eq, b_ne, u_not]
    refine CallD.t (F_spec_swGcd_w (fu := fu)  hc16) ?_
    rintro _ G18 ⟨a21, rfl, S22⟩
    have A20 := A12.ext (hB.le A12.1) a21.agree
    have S19 : Sep G18 (Fr H) [flat1 v1 3 (ints [x0, x1])] := S11.app a21.agree S22 (fun _ h => h) (hB.le A12.1)
    simp [-aBin', -aBin, -aBinI, -aUn, -aNil, -flatV, n_fn, b_add, b_sub, b_mul, b_lt, b_le, b_gt, b_ge, b_eq, b_ne, u_not, a21.pre]
    apply hK
    clear hK K
    simp only [andThen, leaves]
    refine DWp.ret ?_
    obtain rfl := Option.some.inj hF
    exact ⟨by simp, [(Value.int .i64 (isub .i64 r2 1)), (Value.bool true)], by simp [], A20, rfl, S19.pick [] (by decide) rfl⟩
end Go.Proofs.Ytfccbmpfnonjiaa.AL

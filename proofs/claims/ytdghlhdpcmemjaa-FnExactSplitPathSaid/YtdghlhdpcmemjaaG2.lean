/- The walks of functions, each with its Lean function: slices.siftDownCmpFunc[[2]int], slices.heapSortCmpFunc[[2]int], slices.nextPowerOfTwo, (*slices.xorshift).Next, slices.breakPatternsCmpFunc[[2]int], slices.order2CmpFunc[[2]int], slices.medianCmpFunc[[2]int], slices.medianAdjacentCmpFunc[[2]int], slices.choosePivotCmpFunc[[2]int], slices.reverseRangeCmpFunc[[2]int]. No condition. -/
import Derived.Test.YtdghlhdpcmemjaaFBD
import Derived.Test.YtdghlhdpcmemjaaFBE
import Derived.Test.YtdghlhdpcmemjaaG1
import Derived.Test.YtdghlhdpcmemjaaALD
import Derived.Test.YtdghlhdpcmemjaaProg
import Derived.KernelRfl
namespace Go.Proofs.Ytdghlhdpcmemjaa.AL
open Go Go.RowKit
set_option linter.unusedVariables false
set_option linter.unusedSimpArgs false
set_option maxRecDepth 4096
theorem ag_119 : aggT Try.prog 119 = some false := by kernel_rfl
theorem sz_119 : sizeT Try.prog 119 = some 1 := by kernel_rfl
theorem un_119 : Try.prog.underlying 119 = some (.int .u64) := by kernel_rfl
theorem un_93 : Try.prog.underlying 93 = some (.int .u64) := by kernel_rfl
theorem ze_119 : zeroT Try.prog 119 = some (.int .u64 0) := by kernel_rfl
theorem ze_3 : zeroT Try.prog 3 = some (.int .i64 0) := by kernel_rfl
def F_slices_siftDownCmpFunc_2_int_L1 (fu : Nat) (k1_0 : Int) (k1_1 : Int) (k1_2 : (Int → Int → Int → Int → Option (Int))) : Nat → List (Int × Int) → Int → Option (LR (List (Int × Int)) (List (Int × Int) × Int))
  | 0, _, _ => none
  | n + 1, l1_0, y1_10 =>
    bif (ile k1_0 (iadd .i64 (imul .i64 2 y1_10) 1)) then
      some (.brk (l1_0, y1_10))
    else
      bd (
        bif (ilt (iadd .i64 (iadd .i64 (imul .i64 2 y1_10) 1) 1) k1_0) then
          gd (inL l1_0 (iadd .i64 k1_1 (iadd .i64 (imul .i64 2 y1_10) 1))) (
          gd (inL l1_0 (iadd .i64 (iadd .i64 k1_1 (iadd .i64 (imul .i64 2 y1_10) 1)) 1)) (
          bd (k1_2 ((gat i2 l1_0 (iadd .i64 k1_1 (iadd .i64 (imul .i64 2 y1_10) 1))).1) ((gat i2 l1_0 (iadd .i64 k1_1 (iadd .i64 (imul .i64 2 y1_10) 1))).2) ((gat i2 l1_0 (iadd .i64 (iadd .i64 k1_1 (iadd .i64 (imul .i64 2 y1_10) 1)) 1)).1) ((gat i2 l1_0 (iadd .i64 (iadd .i64 k1_1 (iadd .i64 (imul .i64 2 y1_10) 1)) 1)).2)) fun r1 =>
          bif (ilt r1 0) then
            some (iadd .i64 (iadd .i64 (imul .i64 2 y1_10) 1) 1)
          else
            some (iadd .i64 (imul .i64 2 y1_10) 1)))
        else
          some (iadd .i64 (imul .i64 2 y1_10) 1)) fun s5 =>
      gd (inL l1_0 (iadd .i64 k1_1 y1_10)) (
      gd (inL l1_0 (iadd .i64 k1_1 s5)) (
      bd (k1_2 ((gat i2 l1_0 (iadd .i64 k1_1 y1_10)).1) ((gat i2 l1_0 (iadd .i64 k1_1 y1_10)).2) ((gat i2 l1_0 (iadd .i64 k1_1 s5)).1) ((gat i2 l1_0 (iadd .i64 k1_1 s5)).2)) fun r2 =>
      bif (bnot (ilt r2 0)) then
        some (.ret l1_0)
      else
        gd (inL l1_0 (iadd .i64 k1_1 s5)) (
        gd (inL l1_0 (iadd .i64 k1_1 y1_10)) (
        gd (inL l1_0 (iadd .i64 k1_1 y1_10)) (
        gd (inL (lset l1_0 (iadd .i64 k1_1 y1_10) ((gat i2 l1_0 (iadd .i64 k1_1 s5)).1, (gat i2 l1_0 (iadd .i64 k1_1 s5)).2)) (iadd .i64 k1_1 s5)) (
        F_slices_siftDownCmpFunc_2_int_L1 fu k1_0 k1_1 k1_2 n (lset (lset l1_0 (iadd .i64 k1_1 y1_10) ((gat i2 l1_0 (iadd .i64 k1_1 s5)).1, (gat i2 l1_0 (iadd .i64 k1_1 s5)).2)) (iadd .i64 k1_1 s5) ((gat i2 l1_0 (iadd .i64 k1_1 y1_10)).1, (gat i2 l1_0 (iadd .i64 k1_1 y1_10)).2)) s5))))))
def F_slices_siftDownCmpFunc_2_int (fu : Nat) (x0 : List (Int × Int)) (x1 : Int) (x2 : Int) (x3 : Int) (x4 : Int → Int → Int → Int → Option (Int)) : Option (List (Int × Int)) :=
  bd (F_slices_siftDownCmpFunc_2_int_L1 fu x2 x3 x4 fu x0 x1) fun s1 =>
  lr s1 fun s1 =>
  some s1.1
theorem F_slices_siftDownCmpFunc_2_int_w {fu : Nat} {H : AH} {B : Nat → Prop} {v0 : Value} {f4 : FuncId} {c4 : List Value} {x0 : List (Int × Int)} {x1 : Int} {x2 : Int} {x3 : Int} {x4 : Int → Int → Int → Int → Option (Int)} {r : (List (Int × Int))} (hB : Up B H.length) (S0 : Sep H B [flatI v0 62 x0]) (hx4 : ∀ (G : AH), AgB B H G → ∀ (y0_0 : Int) (y0_1 : Int) (y1_0 : Int) (y1_1 : Int) (q : (Int)), x4 y0_0 y0_1 y1_0 y1_1 = some q → ACallT Try.prog f4 ([(Value.agg #[(Value.int .i64 y0_0), (Value.int .i64 y0_1)]), (Value.agg #[(Value.int .i64 y1_0), (Value.int .i64 y1_1)])] ++ c4) G (fun u G' => AgB (Fr G) G G' ∧ u = (Value.int .i64 q) ∧ Sep G' (Fr G) [])) (hF : F_slices_siftDownCmpFunc_2_int fu x0 x1 x2 x3 x4 = some r) :
    ACallT Try.prog 143 [v0, (Value.int .i64 x1), (Value.int .i64 x2), (Value.int .i64 x3), (Value.func (.func f4) #[] c4.toArray)] H (fun u G => AgB B H G ∧ u = (Value.tuple #[]) ∧ Sep G B [flatI v0 62 r]) := by
  refine ACallT.of_body (nt := 82) (rs := []) Try.func143 rfl rfl rfl rfl ?_
  have A0 : AgB B H H := .refl _ _
  unfold F_slices_siftDownCmpFunc_2_int at hF
  refine DWp.seq ?_
  refine DWp.region fun K hK => ?_
  simp [-aBin', -aBin, -aBinI, -aUn, -aNil, -flatV, n_fn, b_add, b_sub, b_mul, b_lt, b_le, b_gt, b_ge, b_eq, b_ne, u_not]
  apply hK
  clear hK K
  simp only [andThen, leaves]
  refine DWp.block ?_
  obtain ⟨s1, hL2, hF⟩ := bd_some hF
  have S3 := S0.pick [0] (by decide) rfl
  refine DWp.loop (fun n env G => ∃ l1_0 : List (Int × Int), ∃ y1_10 : Int, F_slices_siftDownCmpFunc_2_int_L1 fu x2 x3 x4 n l1_0 y1_10 = some s1 ∧ Sep G B [flatI v0 62 l1_0] ∧ AgB B H G ∧ env 0 = some v0 ∧ env 2 = some (Value.int .i64 x2) ∧ env 3 = some (Value.int .i64 x3) ∧ env 4 = some (Value.func (.func f4) #[] c4.toArray) ∧ env 10 = some (Value.int .i64 y1_10)) fu ⟨x0, x1, hL2, S3, A0, by simp [], by simp [], by simp [], by simp [], by simp []⟩ ?_
  rintro n1 env1 G1_ ⟨l1_0, y1_10, hL2, S1_, A1_, e1_0, e1_2, e1_3, e1_4, e1_10⟩
  cases n1 with
  | zero => cases hL2
  | succ n1 =>
    simp only [F_slices_siftDownCmpFunc_2_int_L1] at hL2
    refine DWp.block ?_
    refine DWp.seq ?_
    refine DWp.region fun K hK => ?_
    simp [-aBin', -aBin, -aBinI, -aUn, -aNil, -flatV, n_fn, b_add, b_sub, b_mul, b_lt, b_le, b_gt, b_ge, b_eq, b_ne, u_not, e1_0, e1_2, e1_3, e1_4, e1_10]
    apply hK
    clear hK K
    simp only [andThen, leaves]
    refine DWp.seq ?_
    refine DWp.seq ?_
    refine DWp.region fun K hK => ?_
    simp [-aBin', -aBin, -aBinI, -aUn, -aNil, -flatV, n_fn, b_add, b_sub, b_mul, b_lt, b_le, b_gt, b_ge, b_eq, b_ne, u_not, e1_0, e1_2, e1_3, e1_4, e1_10]
    apply hK
    clear hK K
    simp only [andThen, leaves]
    refine DWp.cond' (t := (ile x2 (iadd .i64 (imul .i64 2 y1_10) 1))) (by simp [e1_0, e1_2, e1_3, e1_4, e1_10]) (fun hb4 => ?_) (fun hb4 => ?_)
    · replace hL2 := cd_t hb4 hL2
      refine DWp.exit ?_
      simp only [andThen, leaves, if_true, if_false, reduceIte, Nat.reduceEqDiff]
      obtain rfl := Option.some.inj hL2
      simp only [lr] at hF
      obtain rfl := Option.some.inj hF
      exact ⟨by simp, [], by simp [e1_0, e1_2, e1_3, e1_4, e1_10], A1_, rfl, S1_.pick [0] (by decide) rfl⟩
    · replace hL2 := cd_f hb4 hL2
      refine DWp.skip ?_
      simp only [andThen, leaves]
      obtain ⟨s5, hL6, hL2⟩ := bd_some hL2
      refine DWp.seq (DWp.join (fun env G => Sep G B [flatI v0 62 l1_0] ∧ AgB B H G ∧ env 0 = some v0 ∧ env 2 = some (Value.int .i64 x2) ∧ env 3 = some (Value.int .i64 x3) ∧ env 4 = some (Value.func (.func f4) #[] c4.toArray) ∧ env 10 = some (Value.int .i64 y1_10) ∧ env 11 = some (Value.int .i64 s5)) ?_ ?_)
      ·
        refine DWp.seq ?_
        rcases Bool.eq_false_or_eq_true (ilt (iadd .i64 (iadd .i64 (imul .i64 2 y1_10) 1) 1) x2) with hb8 | hb8
        · replace hL6 := cd_t hb8 hL6
          obtain ⟨g9, hL6⟩ := gd_some hL6
          have q10 := (S1_.slI (k := 0) rfl).idxG (P := Try.prog) (kk := .i64) el_58 sz_62 g9
          have q11 := (S1_.slI (k := 0) rfl).loadG (P := Try.prog) sz_62 ag_62 g9
          obtain ⟨g12, hL6⟩ := gd_some hL6
          have q13 := (S1_.slI (k := 0) rfl).idxG (P := Try.prog) (kk := .i64) el_58 sz_62 g12
          have q14 := (S1_.slI (k := 0) rfl).loadG (P := Try.prog) sz_62 ag_62 g12
          obtain ⟨r1, hc15, hL6⟩ := bd_some hL6
          refine DWp.drawn (B := [0, 1, 0, 7, 15, 31, 31, 31, 31, 415, 991, 2015, 31, 31, 31, 24607, 57375, 127007, 258079, 524287, 1048575, 2097151]) 22 mixed (by kernel_rfl) (by decide) fun K hK => ?_
          simp [-aBin', -aBin, -aBinI, -aUn, -aNil, -flatV, n_fn, b_add, b_sub, b_mul, b_lt, b_le, b_gt, b_ge, b_eq, b_ne, u_not, e1_0, e1_2, e1_3, e1_4, e1_10, hb8, q10, q11, q13, q14]
          refine CallD.t (hx4 _ A1_ ((gat i2 l1_0 (iadd .i64 x3 (iadd .i64 (imul .i64 2 y1_10) 1))).1) ((gat i2 l1_0 (iadd .i64 x3 (iadd .i64 (imul .i64 2 y1_10) 1))).2) ((gat i2 l1_0 (iadd .i64 (iadd .i64 x3 (iadd .i64 (imul .i64 2 y1_10) 1)) 1)).1) ((gat i2 l1_0 (iadd .i64 (iadd .i64 x3 (iadd .i64 (imul .i64 2 y1_10) 1)) 1)).2) _  hc15) ?_
          rintro _ G16 ⟨a19, rfl, S20⟩
          have A18 := A1_.ext (hB.le A1_.1) a19.agree
          have S17 : Sep G16 B [flatI v0 62 l1_0] := S1_.agree a19.agree
          simp [-aBin', -aBin, -aBinI, -aUn, -aNil, -flatV, n_fn, b_add, b_sub, b_mul, b_lt, b_le, b_gt, b_ge, b_eq, b_ne, u_not, e1_0, e1_2, e1_3, e1_4, e1_10, hb8, q10, q11, q13, q14, a19.pre]
          apply hK
          clear hK K
          simp only [andThen, leaves]
          refine DWp.cond' (t := (ilt r1 0)) (by simp [e1_0, e1_2, e1_3, e1_4, e1_10]) (fun hb21 => ?_) (fun hb21 => ?_)
          · replace hL6 := cd_t hb21 hL6
            refine DWp.region fun K hK => ?_
            simp [-aBin', -aBin, -aBinI, -aUn, -aNil, -flatV, n_fn, b_add, b_sub, b_mul, b_lt, b_le, b_gt, b_ge, b_eq, b_ne, u_not, e1_0, e1_2, e1_3, e1_4, e1_10]
            apply hK
            clear hK K
            simp only [andThen, leaves]
            have S22 := S17.pick [0] (by decide) rfl
            obtain rfl := Option.some.inj hL6
            exact ⟨S22, A18, by simp [e1_0, e1_2, e1_3, e1_4, e1_10], by simp [e1_0, e1_2, e1_3, e1_4, e1_10], by simp [e1_0, e1_2, e1_3, e1_4, e1_10], by simp [e1_0, e1_2, e1_3, e1_4, e1_10], by simp [e1_0, e1_2, e1_3, e1_4, e1_10], by simp [e1_0, e1_2, e1_3, e1_4, e1_10]⟩
          · replace hL6 := cd_f hb21 hL6
            refine DWp.skip ?_
            simp only [andThen, leaves]
            have S23 := S17.pick [0] (by decide) rfl
            obtain rfl := Option.some.inj hL6
            exact ⟨S23, A18, by simp [e1_0, e1_2, e1_3, e1_4, e1_10], by simp [e1_0, e1_2, e1_3, e1_4, e1_10], by simp [e1_0, e1_2, e1_3, e1_4, e1_10], by simp [e1_0, e1_2, e1_3, e1_4, e1_10], by simp [e1_0, e1_2, e1_3, e1_4, e1_10], by simp [e1_0, e1_2, e1_3, e1_4, e1_10]⟩
        · replace hL6 := cd_f hb8 hL6
          refine DWp.drawn (B := [0, 1, 0, 7, 15, 31, 31, 31, 31, 415, 991, 2015, 31, 31, 31, 24607, 57375, 127007, 258079, 524287, 1048575, 2097151]) 22 mixed (by kernel_rfl) (by decide) fun K hK => ?_
          simp [-aBin', -aBin, -aBinI, -aUn, -aNil, -flatV, n_fn, b_add, b_sub, b_mul, b_lt, b_le, b_gt, b_ge, b_eq, b_ne, u_not, e1_0, e1_2, e1_3, e1_4, e1_10, hb8]
          apply hK
          clear hK K
          simp only [andThen, leaves]
          refine DWp.cf (by simp [e1_0, e1_2, e1_3, e1_4, e1_10, bnot]) ?_
          refine DWp.skip ?_
          simp only [andThen, leaves]
          have S24 := S1_.pick [0] (by decide) rfl
          obtain rfl := Option.some.inj hL6
          exact ⟨S24, A1_, by simp [e1_0, e1_2, e1_3, e1_4, e1_10], by simp [e1_0, e1_2, e1_3, e1_4, e1_10], by simp [e1_0, e1_2, e1_3, e1_4, e1_10], by simp [e1_0, e1_2, e1_3, e1_4, e1_10], by simp [e1_0, e1_2, e1_3, e1_4, e1_10], by simp [e1_0, e1_2, e1_3, e1_4, e1_10]⟩
      · rintro env Gj25 ⟨Sj25, Aj25, ej25_0, ej25_2, ej25_3, ej25_4, ej25_10, ej25_11⟩
        refine DWp.seq ?_
        refine DWp.seq ?_
        obtain ⟨g26, hL2⟩ := gd_some hL2
        have q27 := (Sj25.slI (k := 0) rfl).idxG (P := Try.prog) (kk := .i64) el_58 sz_62 g26
        have q28 := (Sj25.slI (k := 0) rfl).loadG (P := Try.prog) sz_62 ag_62 g26
        obtain ⟨g29, hL2⟩ := gd_some hL2
        have q30 := (Sj25.slI (k := 0) rfl).idxG (P := Try.prog) (kk := .i64) el_58 sz_62 g29
        have q31 := (Sj25.slI (k := 0) rfl).loadG (P := Try.prog) sz_62 ag_62 g29
        obtain ⟨r2, hc32, hL2⟩ := bd_some hL2
        refine DWp.drawn (B := [0, 0, 0, 0, 12, 30, 62, 0, 0, 0, 768, 1920, 3968, 8191, 16383, 32767]) 16 mixed (by kernel_rfl) (by decide) fun K hK => ?_
        simp [-aBin', -aBin, -aBinI, -aUn, -aNil, -flatV, n_fn, b_add, b_sub, b_mul, b_lt, b_le, b_gt, b_ge, b_eq, b_ne, u_not, ej25_0, ej25_2, ej25_3, ej25_4, ej25_10, ej25_11, q27, q28, q30, q31]
        refine CallD.t (hx4 _ Aj25 ((gat i2 l1_0 (iadd .i64 x3 y1_10)).1) ((gat i2 l1_0 (iadd .i64 x3 y1_10)).2) ((gat i2 l1_0 (iadd .i64 x3 s5)).1) ((gat i2 l1_0 (iadd .i64 x3 s5)).2) _  hc32) ?_
        rintro _ G33 ⟨a36, rfl, S37⟩
        have A35 := Aj25.ext (hB.le Aj25.1) a36.agree
        have S34 : Sep G33 B [flatI v0 62 l1_0] := Sj25.agree a36.agree
        simp [-aBin', -aBin, -aBinI, -aUn, -aNil, -flatV, n_fn, b_add, b_sub, b_mul, b_lt, b_le, b_gt, b_ge, b_eq, b_ne, u_not, ej25_0, ej25_2, ej25_3, ej25_4, ej25_10, ej25_11, q27, q28, q30, q31, a36.pre]
        apply hK
        clear hK K
        simp only [andThen, leaves]
        refine DWp.cond' (t := (bnot (ilt r2 0))) (by simp [ej25_0, ej25_2, ej25_3, ej25_4, ej25_10, ej25_11]) (fun hb38 => ?_) (fun hb38 => ?_)
        · replace hL2 := cd_t hb38 hL2
          refine DWp.ret ?_
          simp only [andThen, leaves]
          obtain rfl := Option.some.inj hL2
          simp only [lr] at hF
          obtain rfl := Option.some.inj hF
          exact ⟨by simp, [], by simp [ej25_0, ej25_2, ej25_3, ej25_4, ej25_10, ej25_11], A35, rfl, S34.pick [0] (by decide) rfl⟩
        · replace hL2 := cd_f hb38 hL2
          refine DWp.skip ?_
          simp only [andThen, leaves]
          refine DWp.seq ?_
          obtain ⟨g39, hL2⟩ := gd_some hL2
          have q40 := (S34.slI (k := 0) rfl).idxG (P := Try.prog) (kk := .i64) el_58 sz_62 g39
          have q41 := (S34.slI (k := 0) rfl).loadG (P := Try.prog) sz_62 ag_62 g39
          obtain ⟨g42, hL2⟩ := gd_some hL2
          have q43 := (S34.slI (k := 0) rfl).idxG (P := Try.prog) (kk := .i64) el_58 sz_62 g42
          have q44 := (S34.slI (k := 0) rfl).loadG (P := Try.prog) sz_62 ag_62 g42
          obtain ⟨g45, hL2⟩ := gd_some hL2
          have q46 := (S34.slI (k := 0) rfl).idxG (P := Try.prog) (kk := .i64) el_58 sz_62 g45
          obtain ⟨G47, q48, S49, a51⟩ := S34.putI (P := Try.prog) (k := 0) (a := (gat i2 l1_0 (iadd .i64 x3 s5)).1) (b := (gat i2 l1_0 (iadd .i64 x3 s5)).2) rfl (hB.le A35.1) sz_62 g45
          have A50 := A35.trans a51
          replace S49 : Sep G47 B [flatI v0 62 (lset l1_0 (iadd .i64 x3 y1_10) ((gat i2 l1_0 (iadd .i64 x3 s5)).1, (gat i2 l1_0 (iadd .i64 x3 s5)).2))] := S49
          obtain ⟨g52, hL2⟩ := gd_some hL2
          have q53 := (S49.slI (k := 0) rfl).idxG (P := Try.prog) (kk := .i64) el_58 sz_62 g52
          obtain ⟨G54, q55, S56, a58⟩ := S49.putI (P := Try.prog) (k := 0) (a := (gat i2 l1_0 (iadd .i64 x3 y1_10)).1) (b := (gat i2 l1_0 (iadd .i64 x3 y1_10)).2) rfl (hB.le A50.1) sz_62 g52
          have A57 := A50.trans a58
          replace S56 : Sep G54 B [flatI v0 62 (lset (lset l1_0 (iadd .i64 x3 y1_10) ((gat i2 l1_0 (iadd .i64 x3 s5)).1, (gat i2 l1_0 (iadd .i64 x3 s5)).2)) (iadd .i64 x3 s5) ((gat i2 l1_0 (iadd .i64 x3 y1_10)).1, (gat i2 l1_0 (iadd .i64 x3 y1_10)).2))] := S56
          refine DWp.drawn (B := [0, 0, 0, 6, 0, 0, 0, 96, 0, 0, 0, 1536, 3840, 7936, 0, 0, 0, 98304, 245760, 507904, 1048335, 2096911, 4194303, 8388607]) 21 mixed (by kernel_rfl) (by decide) fun K hK => ?_
          simp [-aBin', -aBin, -aBinI, -aUn, -aNil, -flatV, n_fn, b_add, b_sub, b_mul, b_lt, b_le, b_gt, b_ge, b_eq, b_ne, u_not, ej25_0, ej25_2, ej25_3, ej25_4, ej25_10, ej25_11, q40, q41, q43, q44, q46, q48, q53, q55]
          apply hK
          clear hK K
          simp only [andThen, leaves]
          refine DWp.region fun K hK => ?_
          simp [-aBin', -aBin, -aBinI, -aUn, -aNil, -flatV, n_fn, b_add, b_sub, b_mul, b_lt, b_le, b_gt, b_ge, b_eq, b_ne, u_not, ej25_0, ej25_2, ej25_3, ej25_4, ej25_10, ej25_11]
          apply hK
          clear hK K
          simp only [andThen, leaves]
          have S59 := S56.pick [0] (by decide) rfl
          exact ⟨n1, Nat.lt_succ_self _, (lset (lset l1_0 (iadd .i64 x3 y1_10) ((gat i2 l1_0 (iadd .i64 x3 s5)).1, (gat i2 l1_0 (iadd .i64 x3 s5)).2)) (iadd .i64 x3 s5) ((gat i2 l1_0 (iadd .i64 x3 y1_10)).1, (gat i2 l1_0 (iadd .i64 x3 y1_10)).2)), s5, hL2, S59, A57, by simp [ej25_0, ej25_2, ej25_3, ej25_4, ej25_10, ej25_11], by simp [ej25_0, ej25_2, ej25_3, ej25_4, ej25_10, ej25_11], by simp [ej25_0, ej25_2, ej25_3, ej25_4, ej25_10, ej25_11], by simp [ej25_0, ej25_2, ej25_3, ej25_4, ej25_10, ej25_11], by simp [ej25_0, ej25_2, ej25_3, ej25_4, ej25_10, ej25_11]⟩
def F_slices_heapSortCmpFunc_2_int_L2 (fu : Nat) (k2_0 : (Int → Int → Int → Int → Option (Int))) (k2_1 : Int) : Nat → List (Int × Int) → Int → Option (List (Int × Int) × Int)
  | 0, _, _ => none
  | n + 1, l2_0, y2_12 =>
    bif (ile 0 y2_12) then
      gd (inL l2_0 (iadd .i64 k2_1 y2_12)) (
      gd (inL l2_0 k2_1) (
      gd (inL l2_0 k2_1) (
      gd (inL (lset l2_0 k2_1 ((gat i2 l2_0 (iadd .i64 k2_1 y2_12)).1, (gat i2 l2_0 (iadd .i64 k2_1 y2_12)).2)) (iadd .i64 k2_1 y2_12)) (
      bd (F_slices_siftDownCmpFunc_2_int fu (lset (lset l2_0 k2_1 ((gat i2 l2_0 (iadd .i64 k2_1 y2_12)).1, (gat i2 l2_0 (iadd .i64 k2_1 y2_12)).2)) (iadd .i64 k2_1 y2_12) ((gat i2 l2_0 k2_1).1, (gat i2 l2_0 k2_1).2)) 0 y2_12 k2_1 k2_0) fun r2 =>
      F_slices_heapSortCmpFunc_2_int_L2 fu k2_0 k2_1 n r2 (isub .i64 y2_12 1)))))
    else
      some (l2_0, y2_12)
def F_slices_heapSortCmpFunc_2_int_L1 (fu : Nat) (k1_0 : (Int → Int → Int → Int → Option (Int))) (k1_1 : Int) (k1_2 : Int) : Nat → List (Int × Int) → Int → Option (List (Int × Int) × Int)
  | 0, _, _ => none
  | n + 1, l1_0, y1_11 =>
    bif (ile 0 y1_11) then
      bd (F_slices_siftDownCmpFunc_2_int fu l1_0 y1_11 k1_2 k1_1 k1_0) fun r1 =>
      F_slices_heapSortCmpFunc_2_int_L1 fu k1_0 k1_1 k1_2 n r1 (isub .i64 y1_11 1)
    else
      some (l1_0, y1_11)
def F_slices_heapSortCmpFunc_2_int (fu : Nat) (x0 : List (Int × Int)) (x1 : Int) (x2 : Int) (x3 : Int → Int → Int → Int → Option (Int)) : Option (List (Int × Int)) :=
  bd (F_slices_heapSortCmpFunc_2_int_L1 fu x3 x1 (isub .i64 x2 x1) fu x0 (iquo .i64 (isub .i64 (isub .i64 x2 x1) 1) 2)) fun s1 =>
  bd (F_slices_heapSortCmpFunc_2_int_L2 fu x3 x1 fu s1.1 (isub .i64 (isub .i64 x2 x1) 1)) fun s2 =>
  some s2.1
theorem F_slices_heapSortCmpFunc_2_int_w {fu : Nat} {H : AH} {B : Nat → Prop} {v0 : Value} {f3 : FuncId} {c3 : List Value} {x0 : List (Int × Int)} {x1 : Int} {x2 : Int} {x3 : Int → Int → Int → Int → Option (Int)} {r : (List (Int × Int))} (hB : Up B H.length) (S0 : Sep H B [flatI v0 62 x0]) (hx3 : ∀ (G : AH), AgB B H G → ∀ (y0_0 : Int) (y0_1 : Int) (y1_0 : Int) (y1_1 : Int) (q : (Int)), x3 y0_0 y0_1 y1_0 y1_1 = some q → ACallT Try.prog f3 ([(Value.agg #[(Value.int .i64 y0_0), (Value.int .i64 y0_1)]), (Value.agg #[(Value.int .i64 y1_0), (Value.int .i64 y1_1)])] ++ c3) G (fun u G' => AgB (Fr G) G G' ∧ u = (Value.int .i64 q) ∧ Sep G' (Fr G) [])) (hF : F_slices_heapSortCmpFunc_2_int fu x0 x1 x2 x3 = some r) :
    ACallT Try.prog 123 [v0, (Value.int .i64 x1), (Value.int .i64 x2), (Value.func (.func f3) #[] c3.toArray)] H (fun u G => AgB B H G ∧ u = (Value.tuple #[]) ∧ Sep G B [flatI v0 62 r]) := by
  refine ACallT.of_body (nt := 60) (rs := []) Try.func123 rfl rfl rfl rfl ?_
  have A0 : AgB B H H := .refl _ _
  unfold F_slices_heapSortCmpFunc_2_int at hF
  refine DWp.seq ?_
  refine DWp.region fun K hK => ?_
  simp [-aBin', -aBin, -aBinI, -aUn, -aNil, -flatV, n_fn, b_add, b_sub, b_mul, b_lt, b_le, b_gt, b_ge, b_eq, b_ne, u_not]
  apply hK
  clear hK K
  simp only [andThen, leaves]
  refine DWp.seq ?_
  refine DWp.region fun K hK => ?_
  simp [-aBin', -aBin, -aBinI, -aUn, -aNil, -flatV, n_fn, b_add, b_sub, b_mul, b_lt, b_le, b_gt, b_ge, b_eq, b_ne, u_not]
  apply hK
  clear hK K
  simp only [andThen, leaves]
  refine DWp.seq ?_
  refine DWp.region fun K hK => ?_
  simp [-aBin', -aBin, -aBinI, -aUn, -aNil, -flatV, n_fn, b_add, b_sub, b_mul, b_lt, b_le, b_gt, b_ge, b_eq, b_ne, u_not]
  apply hK
  clear hK K
  simp only [andThen, leaves]
  refine DWp.seq ?_
  refine DWp.seq ?_
  have g1 : (2 : Int) ≠ 0 := by decide
  refine DWp.region fun K hK => ?_
  simp [-aBin', -aBin, -aBinI, -aUn, -aNil, -flatV, n_fn, b_add, b_sub, b_mul, b_lt, b_le, b_gt, b_ge, b_eq, b_ne, u_not, b_quo g1]
  apply hK
  clear hK K
  simp only [andThen, leaves]
  refine DWp.block ?_
  obtain ⟨s2, hL3, hF⟩ := bd_some hF
  have S4 := S0.pick [0] (by decide) rfl
  refine DWp.loop (fun n env G => ∃ l1_0 : List (Int × Int), ∃ y1_11 : Int, F_slices_heapSortCmpFunc_2_int_L1 fu x3 x1 (isub .i64 x2 x1) n l1_0 y1_11 = some s2 ∧ Sep G B [flatI v0 62 l1_0] ∧ AgB B H G ∧ env 0 = some v0 ∧ env 3 = some (Value.func (.func f3) #[] c3.toArray) ∧ env 8 = some (Value.int .i64 x1) ∧ env 9 = some (Value.int .i64 0) ∧ env 10 = some (Value.int .i64 (isub .i64 x2 x1)) ∧ env 11 = some (Value.int .i64 y1_11)) fu ⟨x0, (iquo .i64 (isub .i64 (isub .i64 x2 x1) 1) 2), hL3, S4, A0, by simp [], by simp [], by simp [], by simp [], by simp [], by simp []⟩ ?_
  rintro n1 env1 G1_ ⟨l1_0, y1_11, hL3, S1_, A1_, e1_0, e1_3, e1_8, e1_9, e1_10, e1_11⟩
  cases n1 with
  | zero => cases hL3
  | succ n1 =>
    simp only [F_slices_heapSortCmpFunc_2_int_L1] at hL3
    refine DWp.seq ?_
    refine DWp.seq ?_
    refine DWp.region fun K hK => ?_
    simp [-aBin', -aBin, -aBinI, -aUn, -aNil, -flatV, n_fn, b_add, b_sub, b_mul, b_lt, b_le, b_gt, b_ge, b_eq, b_ne, u_not, e1_0, e1_3, e1_8, e1_9, e1_10, e1_11]
    apply hK
    clear hK K
    simp only [andThen, leaves]
    refine DWp.cond' (t := (ile 0 y1_11)) (by simp [e1_0, e1_3, e1_8, e1_9, e1_10, e1_11]) (fun hb5 => ?_) (fun hb5 => ?_)
    · replace hL3 := cd_t hb5 hL3
      refine DWp.skip ?_
      simp only [andThen, leaves]
      refine DWp.seq ?_
      refine DWp.block ?_
      obtain ⟨r1, hc6, hL3⟩ := bd_some hL3
      refine DWp.region fun K hK => ?_
      simp [-aBin', -aBin, -aBinI, -aUn, -aNil, -flatV, n_fn, b_add, b_sub, b_mul, b_lt, b_le, b_gt, b_ge, b_eq, b_ne, u_not, e1_0, e1_3, e1_8, e1_9, e1_10, e1_11, ((S1_.slI (k := 0) rfl).tup)]
      have S7 : Sep G1_ B ([flatI v0 62 l1_0] ++ []) := S1_.pick [0] (by decide) rfl
      obtain ⟨B13, S8, U9, M10, R11, C12⟩ := S7.frame (hB.le A1_.1)
      refine CallD.t (F_slices_siftDownCmpFunc_2_int_w (fu := fu) U9 S8 (fun G_ a_ => hx3 G_ (A1_.trans (a_.mono M10))) hc6) ?_
      rintro _ G15 ⟨a18, rfl, S19⟩
      have A17 := A1_.trans (a18.mono M10)
      have S16 : Sep G15 B [flatI v0 62 r1] := C12 _ _ a18 S19
      simp [-aBin', -aBin, -aBinI, -aUn, -aNil, -flatV, n_fn, b_add, b_sub, b_mul, b_lt, b_le, b_gt, b_ge, b_eq, b_ne, u_not, e1_0, e1_3, e1_8, e1_9, e1_10, e1_11]
      apply hK
      clear hK K
      simp only [andThen, leaves]
      refine DWp.region fun K hK => ?_
      simp [-aBin', -aBin, -aBinI, -aUn, -aNil, -flatV, n_fn, b_add, b_sub, b_mul, b_lt, b_le, b_gt, b_ge, b_eq, b_ne, u_not, e1_0, e1_3, e1_8, e1_9, e1_10, e1_11]
      apply hK
      clear hK K
      simp only [andThen, leaves]
      have S20 := S16.pick [0] (by decide) rfl
      exact ⟨n1, Nat.lt_succ_self _, r1, (isub .i64 y1_11 1), hL3, S20, A17, by simp [e1_0, e1_3, e1_8, e1_9, e1_10, e1_11], by simp [e1_0, e1_3, e1_8, e1_9, e1_10, e1_11], by simp [e1_0, e1_3, e1_8, e1_9, e1_10, e1_11], by simp [e1_0, e1_3, e1_8, e1_9, e1_10, e1_11], by simp [e1_0, e1_3, e1_8, e1_9, e1_10, e1_11], by simp [e1_0, e1_3, e1_8, e1_9, e1_10, e1_11]⟩
    · replace hL3 := cd_f hb5 hL3
      refine DWp.exit ?_
      simp only [andThen, leaves, if_true, if_false, reduceIte, Nat.reduceEqDiff]
      obtain rfl := Option.some.inj hL3
      try dsimp only at hF
      refine DWp.seq ?_
      refine DWp.region fun K hK => ?_
      simp [-aBin', -aBin, -aBinI, -aUn, -aNil, -flatV, n_fn, b_add, b_sub, b_mul, b_lt, b_le, b_gt, b_ge, b_eq, b_ne, u_not, e1_0, e1_3, e1_8, e1_9, e1_10, e1_11]
      apply hK
      clear hK K
      simp only [andThen, leaves]
      refine DWp.block ?_
      obtain ⟨s21, hL22, hF⟩ := bd_some hF
      have S23 := S1_.pick [0] (by decide) rfl
      refine DWp.loop (fun n env G => ∃ l2_0 : List (Int × Int), ∃ y2_12 : Int, F_slices_heapSortCmpFunc_2_int_L2 fu x3 x1 n l2_0 y2_12 = some s21 ∧ Sep G B [flatI v0 62 l2_0] ∧ AgB B H G ∧ env 0 = some v0 ∧ env 3 = some (Value.func (.func f3) #[] c3.toArray) ∧ env 8 = some (Value.int .i64 x1) ∧ env 9 = some (Value.int .i64 0) ∧ env 12 = some (Value.int .i64 y2_12)) fu ⟨l1_0, (isub .i64 (isub .i64 x2 x1) 1), hL22, S23, A1_, by simp [e1_0, e1_3, e1_8, e1_9, e1_10, e1_11], by simp [e1_0, e1_3, e1_8, e1_9, e1_10, e1_11], by simp [e1_0, e1_3, e1_8, e1_9, e1_10, e1_11], by simp [e1_0, e1_3, e1_8, e1_9, e1_10, e1_11], by simp [e1_0, e1_3, e1_8, e1_9, e1_10, e1_11]⟩ ?_
      rintro n1 env1 G1_ ⟨l2_0, y2_12, hL22, S1_, A1_, e1_0, e1_3, e1_8, e1_9, e1_12⟩
      cases n1 with
      | zero => cases hL22
      | succ n1 =>
        simp only [F_slices_heapSortCmpFunc_2_int_L2] at hL22
        refine DWp.seq ?_
        refine DWp.seq ?_
        refine DWp.region fun K hK => ?_
        simp [-aBin', -aBin, -aBinI, -aUn, -aNil, -flatV, n_fn, b_add, b_sub, b_mul, b_lt, b_le, b_gt, b_ge, b_eq, b_ne, u_not, e1_0, e1_3, e1_8, e1_9, e1_12]
        apply hK
        clear hK K
        simp only [andThen, leaves]
        refine DWp.cond' (t := (ile 0 y2_12)) (by simp [e1_0, e1_3, e1_8, e1_9, e1_12]) (fun hb24 => ?_) (fun hb24 => ?_)
        · replace hL22 := cd_t hb24 hL22
          refine DWp.skip ?_
          simp only [andThen, leaves]
          refine DWp.seq ?_
          refine DWp.block ?_
          refine DWp.seq ?_
          obtain ⟨g25, hL22⟩ := gd_some hL22
          have q26 := (S1_.slI (k := 0) rfl).idxG (P := Try.prog) (kk := .i64) el_58 sz_62 g25
          have q27 := (S1_.slI (k := 0) rfl).loadG (P := Try.prog) sz_62 ag_62 g25
          obtain ⟨g28, hL22⟩ := gd_some hL22
          have q29 := (S1_.slI (k := 0) rfl).idxG (P := Try.prog) (kk := .i64) el_58 sz_62 g28
          have q30 := (S1_.slI (k := 0) rfl).loadG (P := Try.prog) sz_62 ag_62 g28
          obtain ⟨g31, hL22⟩ := gd_some hL22
          have q32 := (S1_.slI (k := 0) rfl).idxG (P := Try.prog) (kk := .i64) el_58 sz_62 g31
          obtain ⟨G33, q34, S35, a37⟩ := S1_.putI (P := Try.prog) (k := 0) (a := (gat i2 l2_0 (iadd .i64 x1 y2_12)).1) (b := (gat i2 l2_0 (iadd .i64 x1 y2_12)).2) rfl (hB.le A1_.1) sz_62 g31
          have A36 := A1_.trans a37
          replace S35 : Sep G33 B [flatI v0 62 (lset l2_0 x1 ((gat i2 l2_0 (iadd .i64 x1 y2_12)).1, (gat i2 l2_0 (iadd .i64 x1 y2_12)).2))] := S35
          obtain ⟨g38, hL22⟩ := gd_some hL22
          have q39 := (S35.slI (k := 0) rfl).idxG (P := Try.prog) (kk := .i64) el_58 sz_62 g38
          obtain ⟨G40, q41, S42, a44⟩ := S35.putI (P := Try.prog) (k := 0) (a := (gat i2 l2_0 x1).1) (b := (gat i2 l2_0 x1).2) rfl (hB.le A36.1) sz_62 g38
          have A43 := A36.trans a44
          replace S42 : Sep G40 B [flatI v0 62 (lset (lset l2_0 x1 ((gat i2 l2_0 (iadd .i64 x1 y2_12)).1, (gat i2 l2_0 (iadd .i64 x1 y2_12)).2)) (iadd .i64 x1 y2_12) ((gat i2 l2_0 x1).1, (gat i2 l2_0 x1).2))] := S42
          refine DWp.drawn (B := [0, 0, 0, 0, 0, 24, 0, 0, 0, 384, 960, 1984, 0, 0, 12288, 28672, 65475, 131011, 262143, 524287]) 17 mixed (by kernel_rfl) (by decide) fun K hK => ?_
          simp [-aBin', -aBin, -aBinI, -aUn, -aNil, -flatV, n_fn, b_add, b_sub, b_mul, b_lt, b_le, b_gt, b_ge, b_eq, b_ne, u_not, e1_0, e1_3, e1_8, e1_9, e1_12, q26, q27, q29, q30, q32, q34, q39, q41]
          apply hK
          clear hK K
          simp only [andThen, leaves]
          obtain ⟨r2, hc45, hL22⟩ := bd_some hL22
          refine DWp.region fun K hK => ?_
          simp [-aBin', -aBin, -aBinI, -aUn, -aNil, -flatV, n_fn, b_add, b_sub, b_mul, b_lt, b_le, b_gt, b_ge, b_eq, b_ne, u_not, e1_0, e1_3, e1_8, e1_9, e1_12, ((S42.slI (k := 0) rfl).tup)]
          have S46 : Sep G40 B ([flatI v0 62 (lset (lset l2_0 x1 ((gat i2 l2_0 (iadd .i64 x1 y2_12)).1, (gat i2 l2_0 (iadd .i64 x1 y2_12)).2)) (iadd .i64 x1 y2_12) ((gat i2 l2_0 x1).1, (gat i2 l2_0 x1).2))] ++ []) := S42.pick [0] (by decide) rfl
          obtain ⟨B52, S47, U48, M49, R50, C51⟩ := S46.frame (hB.le A43.1)
          refine CallD.t (F_slices_siftDownCmpFunc_2_int_w (fu := fu) U48 S47 (fun G_ a_ => hx3 G_ (A43.trans (a_.mono M49))) hc45) ?_
          rintro _ G54 ⟨a57, rfl, S58⟩
          have A56 := A43.trans (a57.mono M49)
          have S55 : Sep G54 B [flatI v0 62 r2] := C51 _ _ a57 S58
          simp [-aBin', -aBin, -aBinI, -aUn, -aNil, -flatV, n_fn, b_add, b_sub, b_mul, b_lt, b_le, b_gt, b_ge, b_eq, b_ne, u_not, e1_0, e1_3, e1_8, e1_9, e1_12]
          apply hK
          clear hK K
          simp only [andThen, leaves]
          refine DWp.region fun K hK => ?_
          simp [-aBin', -aBin, -aBinI, -aUn, -aNil, -flatV, n_fn, b_add, b_sub, b_mul, b_lt, b_le, b_gt, b_ge, b_eq, b_ne, u_not, e1_0, e1_3, e1_8, e1_9, e1_12]
          apply hK
          clear hK K
          simp only [andThen, leaves]
          have S59 := S55.pick [0] (by decide) rfl
          exact ⟨n1, Nat.lt_succ_self _, r2, (isub .i64 y2_12 1), hL22, S59, A56, by simp [e1_0, e1_3, e1_8, e1_9, e1_12], by simp [e1_0, e1_3, e1_8, e1_9, e1_12], by simp [e1_0, e1_3, e1_8, e1_9, e1_12], by simp [e1_0, e1_3, e1_8, e1_9, e1_12], by simp [e1_0, e1_3, e1_8, e1_9, e1_12]⟩
        · replace hL22 := cd_f hb24 hL22
          refine DWp.exit ?_
          simp only [andThen, leaves, if_true, if_false, reduceIte, Nat.reduceEqDiff]
          obtain rfl := Option.some.inj hL22
          try dsimp only at hF
          obtain rfl := Option.some.inj hF
          exact ⟨by simp, [], by simp [e1_0, e1_3, e1_8, e1_9, e1_12], A1_, rfl, S1_.pick [0] (by decide) rfl⟩
def F_slices_nextPowerOfTwo (fu : Nat) (x0 : Int) : Option (Int) :=
  bd (F_math_bits_Len fu (iwr .u64 x0)) fun r1 =>
  gd (¬ (r1 < 0)) (
  some (ishl .u64 1 r1))
theorem F_slices_nextPowerOfTwo_w {fu : Nat} {H : AH}  {x0 : Int} {r : (Int)}  (hF : F_slices_nextPowerOfTwo fu x0 = some r) :
    ACallT Try.prog 144 [(Value.int .i64 x0)] H (fun u G => AgB (Fr H) H G ∧ u = (Value.int .u64 r) ∧ Sep G (Fr H) []) := by
  refine ACallT.of_body (nt := 7) (rs := [.tmp 2]) Try.func144 rfl rfl rfl rfl ?_
  have A0 : AgB (Fr H) H H := .refl _ _
  have S0 : Sep H (Fr H) [] := .nil
  have hB := Fr.up H
  unfold F_slices_nextPowerOfTwo at hF
  refine DWp.seq ?_
  refine DWp.region fun K hK => ?_
  simp [-aBin', -aBin, -aBinI, -aUn, -aNil, -flatV, n_fn, b_add, b_sub, b_mul, b_lt, b_le, b_gt, b_ge, b_eq, b_ne, u_not]
  apply hK
  clear hK K
  simp only [andThen, leaves]
  refine DWp.seq ?_
  obtain ⟨r1, hc1, hF⟩ := bd_some hF
  refine DWp.region fun K hK => ?_
  simp [-aBin', -aBin, -aBinI, -aUn, -aNil, -flatV, n_fn, b_add, b_sub, b_mul, b_lt, b_le, b_gt, b_ge, b_eq, b_ne, u_not, c_int un_3 un_93]
  refine CallD.t (F_math_bits_Len_w (fu := fu)  hc1) ?_
  rintro _ G3 ⟨a6, rfl, S7⟩
  have A5 := A0.ext (hB.le A0.1) a6.agree
  have S4 : Sep G3 (Fr H) [] := S0.app a6.agree S7 (fun _ h => h) (hB.le A0.1)
  obtain ⟨g8, hF⟩ := gd_some hF
  simp [-aBin', -aBin, -aBinI, -aUn, -aNil, -flatV, n_fn, b_add, b_sub, b_mul, b_lt, b_le, b_gt, b_ge, b_eq, b_ne, u_not, c_int un_3 un_93, a6.pre, b_shl g8]
  apply hK
  clear hK K
  simp only [andThen, leaves]
  refine DWp.ret ?_
  obtain rfl := Option.some.inj hF
  exact ⟨by simp, [(Value.int .u64 (ishl .u64 1 r1))], by simp [], A5, rfl, S4.pick [] (by decide) rfl⟩
def F_slices_xorshift_Next (fu : Nat) (x0 : Int) : Option (Int × Int) :=
  some ((ixor .u64 (ixor .u64 (ixor .u64 x0 (ishl .u64 x0 13)) (ishr .u64 (ixor .u64 x0 (ishl .u64 x0 13)) 7)) (ishl .u64 (ixor .u64 (ixor .u64 x0 (ishl .u64 x0 13)) (ishr .u64 (ixor .u64 x0 (ishl .u64 x0 13)) 7)) 17)), (ixor .u64 (ixor .u64 (ixor .u64 x0 (ishl .u64 x0 13)) (ishr .u64 (ixor .u64 x0 (ishl .u64 x0 13)) 7)) (ishl .u64 (ixor .u64 (ixor .u64 x0 (ishl .u64 x0 13)) (ishr .u64 (ixor .u64 x0 (ishl .u64 x0 13)) 7)) 17)))
theorem F_slices_xorshift_Next_w {fu : Nat} {H : AH} {B : Nat → Prop} {p0 : Value} {x0 : Int} {r : (Int × Int)} (hB : Up B H.length) (S0 : Sep H B [AL.box p0 [(Value.int .u64 x0)]]) (hF : F_slices_xorshift_Next fu x0 = some r) :
    ACallT Try.prog 145 [p0] H (fun u G => AgB B H G ∧ u = (Value.int .u64 r.1) ∧ Sep G B [AL.box p0 [(Value.int .u64 r.2)]]) := by
  refine ACallT.of_body (nt := 33) (rs := [.tmp 2]) Try.func145 rfl rfl rfl rfl ?_
  have A0 : AgB B H H := .refl _ _
  unfold F_slices_xorshift_Next at hF
  refine DWp.seq ?_
  refine DWp.region fun K hK => ?_
  simp [-aBin', -aBin, -aBinI, -aUn, -aNil, -flatV, n_fn, b_add, b_sub, b_mul, b_lt, b_le, b_gt, b_ge, b_eq, b_ne, u_not]
  apply hK
  clear hK K
  simp only [andThen, leaves]
  refine DWp.seq ?_
  have q1 := S0.nilT (k := 0) rfl
  have q2 := S0.load0 (P := Try.prog) (k := 0) rfl sz_119 ag_119
  have q3 := S0.nilT (k := 0) rfl
  have q4 := S0.load0 (P := Try.prog) (k := 0) rfl sz_119 ag_119
  have g5 : ¬ ((13 : Int) < 0) := by decide
  have q6 := S0.nilT (k := 0) rfl
  obtain ⟨G7, q8, S9, a11⟩ := S0.put0 (P := Try.prog) (k := 0) rfl (hB.le A0.1) sz_119 (rfl : isTup (Value.int .u64 (ixor .u64 x0 (ishl .u64 x0 13))) = false) (rfl : (Value.int .u64 (ixor .u64 x0 (ishl .u64 x0 13))).cells = #[(Value.int .u64 (ixor .u64 x0 (ishl .u64 x0 13)))])
  have A10 := A0.trans a11
  replace S9 : Sep G7 B [AL.box p0 [(Value.int .u64 (ixor .u64 x0 (ishl .u64 x0 13)))]] := S9
  refine DWp.drawn (B := [0, 1, 3, 0, 8, 24, 56, 127, 255, 511]) 9 mixed (by kernel_rfl) (by decide) fun K hK => ?_
  simp [-aBin', -aBin, -aBinI, -aUn, -aNil, -flatV, n_fn, b_add, b_sub, b_mul, b_lt, b_le, b_gt, b_ge, b_eq, b_ne, u_not, q1, q2, q3, q4, b_shl g5, b_xor, q6, q8]
  apply hK
  clear hK K
  simp only [andThen, leaves]
  refine DWp.seq ?_
  have q12 := S9.nilT (k := 0) rfl
  have q13 := S9.load0 (P := Try.prog) (k := 0) rfl sz_119 ag_119
  have q14 := S9.nilT (k := 0) rfl
  have q15 := S9.load0 (P := Try.prog) (k := 0) rfl sz_119 ag_119
  have g16 : ¬ ((7 : Int) < 0) := by decide
  have q17 := S9.nilT (k := 0) rfl
  obtain ⟨G18, q19, S20, a22⟩ := S9.put0 (P := Try.prog) (k := 0) rfl (hB.le A10.1) sz_119 (rfl : isTup (Value.int .u64 (ixor .u64 (ixor .u64 x0 (ishl .u64 x0 13)) (ishr .u64 (ixor .u64 x0 (ishl .u64 x0 13)) 7))) = false) (rfl : (Value.int .u64 (ixor .u64 (ixor .u64 x0 (ishl .u64 x0 13)) (ishr .u64 (ixor .u64 x0 (ishl .u64 x0 13)) 7))).cells = #[(Value.int .u64 (ixor .u64 (ixor .u64 x0 (ishl .u64 x0 13)) (ishr .u64 (ixor .u64 x0 (ishl .u64 x0 13)) 7)))])
  have A21 := A10.trans a22
  replace S20 : Sep G18 B [AL.box p0 [(Value.int .u64 (ixor .u64 (ixor .u64 x0 (ishl .u64 x0 13)) (ishr .u64 (ixor .u64 x0 (ishl .u64 x0 13)) 7)))]] := S20
  refine DWp.drawn (B := [0, 1, 3, 0, 8, 24, 56, 127, 255, 511]) 9 mixed (by kernel_rfl) (by decide) fun K hK => ?_
  simp [-aBin', -aBin, -aBinI, -aUn, -aNil, -flatV, n_fn, b_add, b_sub, b_mul, b_lt, b_le, b_gt, b_ge, b_eq, b_ne, u_not, q12, q13, q14, q15, b_shr g16, b_xor, q17, q19]
  apply hK
  clear hK K
  simp only [andThen, leaves]
  refine DWp.seq ?_
  have q23 := S20.nilT (k := 0) rfl
  have q24 := S20.load0 (P := Try.prog) (k := 0) rfl sz_119 ag_119
  have q25 := S20.nilT (k := 0) rfl
  have q26 := S20.load0 (P := Try.prog) (k := 0) rfl sz_119 ag_119
  have g27 : ¬ ((17 : Int) < 0) := by decide
  have q28 := S20.nilT (k := 0) rfl
  obtain ⟨G29, q30, S31, a33⟩ := S20.put0 (P := Try.prog) (k := 0) rfl (hB.le A21.1) sz_119 (rfl : isTup (Value.int .u64 (ixor .u64 (ixor .u64 (ixor .u64 x0 (ishl .u64 x0 13)) (ishr .u64 (ixor .u64 x0 (ishl .u64 x0 13)) 7)) (ishl .u64 (ixor .u64 (ixor .u64 x0 (ishl .u64 x0 13)) (ishr .u64 (ixor .u64 x0 (ishl .u64 x0 13)) 7)) 17))) = false) (rfl : (Value.int .u64 (ixor .u64 (ixor .u64 (ixor .u64 x0 (ishl .u64 x0 13)) (ishr .u64 (ixor .u64 x0 (ishl .u64 x0 13)) 7)) (ishl .u64 (ixor .u64 (ixor .u64 x0 (ishl .u64 x0 13)) (ishr .u64 (ixor .u64 x0 (ishl .u64 x0 13)) 7)) 17))).cells = #[(Value.int .u64 (ixor .u64 (ixor .u64 (ixor .u64 x0 (ishl .u64 x0 13)) (ishr .u64 (ixor .u64 x0 (ishl .u64 x0 13)) 7)) (ishl .u64 (ixor .u64 (ixor .u64 x0 (ishl .u64 x0 13)) (ishr .u64 (ixor .u64 x0 (ishl .u64 x0 13)) 7)) 17)))])
  have A32 := A21.trans a33
  replace S31 : Sep G29 B [AL.box p0 [(Value.int .u64 (ixor .u64 (ixor .u64 (ixor .u64 x0 (ishl .u64 x0 13)) (ishr .u64 (ixor .u64 x0 (ishl .u64 x0 13)) 7)) (ishl .u64 (ixor .u64 (ixor .u64 x0 (ishl .u64 x0 13)) (ishr .u64 (ixor .u64 x0 (ishl .u64 x0 13)) 7)) 17)))]] := S31
  refine DWp.drawn (B := [0, 1, 3, 0, 8, 24, 56, 127, 255, 511]) 9 mixed (by kernel_rfl) (by decide) fun K hK => ?_
  simp [-aBin', -aBin, -aBinI, -aUn, -aNil, -flatV, n_fn, b_add, b_sub, b_mul, b_lt, b_le, b_gt, b_ge, b_eq, b_ne, u_not, q23, q24, q25, q26, b_shl g27, b_xor, q28, q30]
  apply hK
  clear hK K
  simp only [andThen, leaves]
  refine DWp.seq ?_
  have q34 := S31.nilT (k := 0) rfl
  have q35 := S31.load0 (P := Try.prog) (k := 0) rfl sz_119 ag_119
  refine DWp.region fun K hK => ?_
  simp [-aBin', -aBin, -aBinI, -aUn, -aNil, -flatV, n_fn, b_add, b_sub, b_mul, b_lt, b_le, b_gt, b_ge, b_eq, b_ne, u_not, q34, q35]
  apply hK
  clear hK K
  simp only [andThen, leaves]
  refine DWp.ret ?_
  obtain rfl := Option.some.inj hF
  exact ⟨by simp, [(Value.int .u64 (ixor .u64 (ixor .u64 (ixor .u64 x0 (ishl .u64 x0 13)) (ishr .u64 (ixor .u64 x0 (ishl .u64 x0 13)) 7)) (ishl .u64 (ixor .u64 (ixor .u64 x0 (ishl .u64 x0 13)) (ishr .u64 (ixor .u64 x0 (ishl .u64 x0 13)) 7)) 17)))], by simp [], A32, rfl, S31.pick [0] (by decide) rfl⟩
def F_slices_breakPatternsCmpFunc_2_int_L1 (fu : Nat) (k1_0 : Int) (k1_1 : Int) (k1_2 : Int) : Nat → List (Int × Int) → Int → Int → Option (List (Int × Int) × Int × Int)
  | 0, _, _, _ => none
  | n + 1, l1_0, b1_1_0, y1_11 =>
    bif (ile y1_11 (iadd .i64 (iadd .i64 k1_0 (imul .i64 (iquo .i64 k1_1 4) 2)) 1)) then
      bd (F_slices_xorshift_Next fu b1_1_0) fun r2 =>
      bif (ile k1_1 (iwr .i64 (iand .u64 r2.1 (isub .u64 k1_2 1)))) then
        gd (inL l1_0 (iadd .i64 k1_0 (isub .i64 (iwr .i64 (iand .u64 r2.1 (isub .u64 k1_2 1))) k1_1))) (
        gd (inL l1_0 y1_11) (
        gd (inL l1_0 y1_11) (
        gd (inL (lset l1_0 y1_11 ((gat i2 l1_0 (iadd .i64 k1_0 (isub .i64 (iwr .i64 (iand .u64 r2.1 (isub .u64 k1_2 1))) k1_1))).1, (gat i2 l1_0 (iadd .i64 k1_0 (isub .i64 (iwr .i64 (iand .u64 r2.1 (isub .u64 k1_2 1))) k1_1))).2)) (iadd .i64 k1_0 (isub .i64 (iwr .i64 (iand .u64 r2.1 (isub .u64 k1_2 1))) k1_1))) (
        F_slices_breakPatternsCmpFunc_2_int_L1 fu k1_0 k1_1 k1_2 n (lset (lset l1_0 y1_11 ((gat i2 l1_0 (iadd .i64 k1_0 (isub .i64 (iwr .i64 (iand .u64 r2.1 (isub .u64 k1_2 1))) k1_1))).1, (gat i2 l1_0 (iadd .i64 k1_0 (isub .i64 (iwr .i64 (iand .u64 r2.1 (isub .u64 k1_2 1))) k1_1))).2)) (iadd .i64 k1_0 (isub .i64 (iwr .i64 (iand .u64 r2.1 (isub .u64 k1_2 1))) k1_1)) ((gat i2 l1_0 y1_11).1, (gat i2 l1_0 y1_11).2)) r2.2 (iadd .i64 y1_11 1)))))
      else
        gd (inL l1_0 (iadd .i64 k1_0 (iwr .i64 (iand .u64 r2.1 (isub .u64 k1_2 1))))) (
        gd (inL l1_0 y1_11) (
        gd (inL l1_0 y1_11) (
        gd (inL (lset l1_0 y1_11 ((gat i2 l1_0 (iadd .i64 k1_0 (iwr .i64 (iand .u64 r2.1 (isub .u64 k1_2 1))))).1, (gat i2 l1_0 (iadd .i64 k1_0 (iwr .i64 (iand .u64 r2.1 (isub .u64 k1_2 1))))).2)) (iadd .i64 k1_0 (iwr .i64 (iand .u64 r2.1 (isub .u64 k1_2 1))))) (
        F_slices_breakPatternsCmpFunc_2_int_L1 fu k1_0 k1_1 k1_2 n (lset (lset l1_0 y1_11 ((gat i2 l1_0 (iadd .i64 k1_0 (iwr .i64 (iand .u64 r2.1 (isub .u64 k1_2 1))))).1, (gat i2 l1_0 (iadd .i64 k1_0 (iwr .i64 (iand .u64 r2.1 (isub .u64 k1_2 1))))).2)) (iadd .i64 k1_0 (iwr .i64 (iand .u64 r2.1 (isub .u64 k1_2 1)))) ((gat i2 l1_0 y1_11).1, (gat i2 l1_0 y1_11).2)) r2.2 (iadd .i64 y1_11 1)))))
    else
      some (l1_0, b1_1_0, y1_11)
def F_slices_breakPatternsCmpFunc_2_int (fu : Nat) (x0 : List (Int × Int)) (x1 : Int) (x2 : Int) (x3 : Int → Int → Int → Int → Option (Int)) : Option (List (Int × Int)) :=
  bif (ile 8 (isub .i64 x2 x1)) then
    bd (F_slices_nextPowerOfTwo fu (isub .i64 x2 x1)) fun r1 =>
    bd (F_slices_breakPatternsCmpFunc_2_int_L1 fu x1 (isub .i64 x2 x1) r1 fu x0 (iwr .u64 (isub .i64 x2 x1)) (isub .i64 (iadd .i64 x1 (imul .i64 (iquo .i64 (isub .i64 x2 x1) 4) 2)) 1)) fun s1 =>
    some s1.1
  else
    some x0
theorem F_slices_breakPatternsCmpFunc_2_int_w {fu : Nat} {H : AH} {B : Nat → Prop} {v0 : Value} {f3 : FuncId} {c3 : List Value} {x0 : List (Int × Int)} {x1 : Int} {x2 : Int} {x3 : Int → Int → Int → Int → Option (Int)} {r : (List (Int × Int))} (hB : Up B H.length) (S0 : Sep H B [flatI v0 62 x0]) (hx3 : ∀ (G : AH), AgB B H G → ∀ (y0_0 : Int) (y0_1 : Int) (y1_0 : Int) (y1_1 : Int) (q : (Int)), x3 y0_0 y0_1 y1_0 y1_1 = some q → ACallT Try.prog f3 ([(Value.agg #[(Value.int .i64 y0_0), (Value.int .i64 y0_1)]), (Value.agg #[(Value.int .i64 y1_0), (Value.int .i64 y1_1)])] ++ c3) G (fun u G' => AgB (Fr G) G G' ∧ u = (Value.int .i64 q) ∧ Sep G' (Fr G) [])) (hF : F_slices_breakPatternsCmpFunc_2_int fu x0 x1 x2 x3 = some r) :
    ACallT Try.prog 124 [v0, (Value.int .i64 x1), (Value.int .i64 x2), (Value.func (.func f3) #[] c3.toArray)] H (fun u G => AgB B H G ∧ u = (Value.tuple #[]) ∧ Sep G B [flatI v0 62 r]) := by
  refine ACallT.of_body (nt := 67) (rs := []) Try.func124 rfl rfl rfl rfl ?_
  have A0 : AgB B H H := .refl _ _
  unfold F_slices_breakPatternsCmpFunc_2_int at hF
  refine DWp.seq ?_
  refine DWp.region fun K hK => ?_
  simp [-aBin', -aBin, -aBinI, -aUn, -aNil, -flatV, n_fn, b_add, b_sub, b_mul, b_lt, b_le, b_gt, b_ge, b_eq, b_ne, u_not]
  apply hK
  clear hK K
  simp only [andThen, leaves]
  refine DWp.seq ?_
  refine DWp.region fun K hK => ?_
  simp [-aBin', -aBin, -aBinI, -aUn, -aNil, -flatV, n_fn, b_add, b_sub, b_mul, b_lt, b_le, b_gt, b_ge, b_eq, b_ne, u_not]
  apply hK
  clear hK K
  simp only [andThen, leaves]
  refine DWp.cond' (t := (ile 8 (isub .i64 x2 x1))) (by simp []) (fun hb1 => ?_) (fun hb1 => ?_)
  · replace hF := cd_t hb1 hF
    refine DWp.seq ?_
    obtain ⟨G3, p5, q6, q8, a7, S2⟩ := S0.allocT (P := Try.prog) (hB.le A0.1) ze_119 rfl
    have A4 := A0.ext (hB.le A0.1) a7
    replace S2 : Sep G3 B [flatI v0 62 x0, AL.box p5 [(Value.int .u64 0)]] := S2
    obtain ⟨G9, q10, S11, a13⟩ := S2.put0 (P := Try.prog) (k := 1) rfl (hB.le A4.1) sz_119 (rfl : isTup (Value.int .u64 (iwr .u64 (isub .i64 x2 x1))) = false) (rfl : (Value.int .u64 (iwr .u64 (isub .i64 x2 x1))).cells = #[(Value.int .u64 (iwr .u64 (isub .i64 x2 x1)))])
    have A12 := A4.trans a13
    replace S11 : Sep G9 B [flatI v0 62 x0, AL.box p5 [(Value.int .u64 (iwr .u64 (isub .i64 x2 x1)))]] := S11
    refine DWp.region fun K hK => ?_
    simp [-aBin', -aBin, -aBinI, -aUn, -aNil, -flatV, n_fn, b_add, b_sub, b_mul, b_lt, b_le, b_gt, b_ge, b_eq, b_ne, u_not, c_int un_3 un_119, q6, q8, a7.to_pre, q10]
    apply hK
    clear hK K
    simp only [andThen, leaves]
    refine DWp.seq ?_
    obtain ⟨r1, hc14, hF⟩ := bd_some hF
    refine DWp.region fun K hK => ?_
    simp [-aBin', -aBin, -aBinI, -aUn, -aNil, -flatV, n_fn, b_add, b_sub, b_mul, b_lt, b_le, b_gt, b_ge, b_eq, b_ne, u_not]
    refine CallD.t (F_slices_nextPowerOfTwo_w (fu := fu)  hc14) ?_
    rintro _ G16 ⟨a19, rfl, S20⟩
    have A18 := A12.ext (hB.le A12.1) a19.agree
    have S17 : Sep G16 B [flatI v0 62 x0, AL.box p5 [(Value.int .u64 (iwr .u64 (isub .i64 x2 x1)))]] := S11.app a19.agree S20 (fun _ h => h) (hB.le A12.1)
    simp [-aBin', -aBin, -aBinI, -aUn, -aNil, -flatV, n_fn, b_add, b_sub, b_mul, b_lt, b_le, b_gt, b_ge, b_eq, b_ne, u_not, a19.pre]
    apply hK
    clear hK K
    simp only [andThen, leaves]
    refine DWp.seq ?_
    have g21 : (4 : Int) ≠ 0 := by decide
    refine DWp.region fun K hK => ?_
    simp [-aBin', -aBin, -aBinI, -aUn, -aNil, -flatV, n_fn, b_add, b_sub, b_mul, b_lt, b_le, b_gt, b_ge, b_eq, b_ne, u_not, b_quo g21]
    apply hK
    clear hK K
    simp only [andThen, leaves]
    refine DWp.block ?_
    obtain ⟨s22, hL23, hF⟩ := bd_some hF
    have S24 := S17.pick [0, 1] (by decide) rfl
    refine DWp.loop (fun n env G => ∃ l1_0 : List (Int × Int), ∃ b1_1_0 : Int, ∃ y1_11 : Int, F_slices_breakPatternsCmpFunc_2_int_L1 fu x1 (isub .i64 x2 x1) r1 n l1_0 b1_1_0 y1_11 = some s22 ∧ Sep G B [flatI v0 62 l1_0, AL.box p5 [(Value.int .u64 b1_1_0)]] ∧ AgB B H G ∧ env 0 = some v0 ∧ env 1 = some (Value.int .i64 x1) ∧ env 8 = some (Value.int .i64 (isub .i64 x2 x1)) ∧ env 9 = some p5 ∧ env 10 = some (Value.int .u64 r1) ∧ env 11 = some (Value.int .i64 y1_11)) fu ⟨x0, (iwr .u64 (isub .i64 x2 x1)), (isub .i64 (iadd .i64 x1 (imul .i64 (iquo .i64 (isub .i64 x2 x1) 4) 2)) 1), hL23, S24, A18, by simp [], by simp [], by simp [], by simp [], by simp [], by simp []⟩ ?_
    rintro n1 env1 G1_ ⟨l1_0, b1_1_0, y1_11, hL23, S1_, A1_, e1_0, e1_1, e1_8, e1_9, e1_10, e1_11⟩
    cases n1 with
    | zero => cases hL23
    | succ n1 =>
      simp only [F_slices_breakPatternsCmpFunc_2_int_L1] at hL23
      refine DWp.seq ?_
      refine DWp.seq ?_
      have g25 : (4 : Int) ≠ 0 := by decide
      refine DWp.region fun K hK => ?_
      simp [-aBin', -aBin, -aBinI, -aUn, -aNil, -flatV, n_fn, b_add, b_sub, b_mul, b_lt, b_le, b_gt, b_ge, b_eq, b_ne, u_not, e1_0, e1_1, e1_8, e1_9, e1_10, e1_11, b_quo g25]
      apply hK
      clear hK K
      simp only [andThen, leaves]
      refine DWp.cond' (t := (ile y1_11 (iadd .i64 (iadd .i64 x1 (imul .i64 (iquo .i64 (isub .i64 x2 x1) 4) 2)) 1))) (by simp [e1_0, e1_1, e1_8, e1_9, e1_10, e1_11]) (fun hb26 => ?_) (fun hb26 => ?_)
      · replace hL23 := cd_t hb26 hL23
        refine DWp.skip ?_
        simp only [andThen, leaves]
        refine DWp.seq ?_
        refine DWp.block ?_
        refine DWp.seq ?_
        obtain ⟨r2, hc27, hL23⟩ := bd_some hL23
        refine DWp.region fun K hK => ?_
        simp [-aBin', -aBin, -aBinI, -aUn, -aNil, -flatV, n_fn, b_add, b_sub, b_mul, b_lt, b_le, b_gt, b_ge, b_eq, b_ne, u_not, e1_0, e1_1, e1_8, e1_9, e1_10, e1_11, (S1_.ptup (k := 1) rfl)]
        have S28 : Sep G1_ B ([AL.box p5 [(Value.int .u64 b1_1_0)]] ++ [flatI v0 62 l1_0]) := S1_.pick [1, 0] (by decide) rfl
        obtain ⟨B34, S29, U30, M31, R32, C33⟩ := S28.frame (hB.le A1_.1)
        refine CallD.t (F_slices_xorshift_Next_w (fu := fu) U30 S29 hc27) ?_
        rintro _ G36 ⟨a39, rfl, S40⟩
        have A38 := A1_.trans (a39.mono M31)
        have S37 : Sep G36 B [AL.box p5 [(Value.int .u64 r2.2)], flatI v0 62 l1_0] := C33 _ _ a39 S40
        simp [-aBin', -aBin, -aBinI, -aUn, -aNil, -flatV, n_fn, b_add, b_sub, b_mul, b_lt, b_le, b_gt, b_ge, b_eq, b_ne, u_not, e1_0, e1_1, e1_8, e1_9, e1_10, e1_11, b_and, c_int un_93 un_3]
        apply hK
        clear hK K
        simp only [andThen, leaves]
        refine DWp.seq ?_
        refine DWp.seq ?_
        refine DWp.region fun K hK => ?_
        simp [-aBin', -aBin, -aBinI, -aUn, -aNil, -flatV, n_fn, b_add, b_sub, b_mul, b_lt, b_le, b_gt, b_ge, b_eq, b_ne, u_not, e1_0, e1_1, e1_8, e1_9, e1_10, e1_11]
        apply hK
        clear hK K
        simp only [andThen, leaves]
        refine DWp.cond' (t := (ile (isub .i64 x2 x1) (iwr .i64 (iand .u64 r2.1 (isub .u64 r1 1))))) (by simp [e1_0, e1_1, e1_8, e1_9, e1_10, e1_11]) (fun hb41 => ?_) (fun hb41 => ?_)
        · replace hL23 := cd_t hb41 hL23
          refine DWp.region fun K hK => ?_
          simp [-aBin', -aBin, -aBinI, -aUn, -aNil, -flatV, n_fn, b_add, b_sub, b_mul, b_lt, b_le, b_gt, b_ge, b_eq, b_ne, u_not, e1_0, e1_1, e1_8, e1_9, e1_10, e1_11]
          apply hK
          clear hK K
          simp only [andThen, leaves]
          obtain ⟨g42, hL23⟩ := gd_some hL23
          have q43 := (S37.slI (k := 1) rfl).idxG (P := Try.prog) (kk := .i64) el_58 sz_62 g42
          have q44 := (S37.slI (k := 1) rfl).loadG (P := Try.prog) sz_62 ag_62 g42
          obtain ⟨g45, hL23⟩ := gd_some hL23
          have q46 := (S37.slI (k := 1) rfl).idxG (P := Try.prog) (kk := .i64) el_58 sz_62 g45
          have q47 := (S37.slI (k := 1) rfl).loadG (P := Try.prog) sz_62 ag_62 g45
          obtain ⟨g48, hL23⟩ := gd_some hL23
          have q49 := (S37.slI (k := 1) rfl).idxG (P := Try.prog) (kk := .i64) el_58 sz_62 g48
          obtain ⟨G50, q51, S52, a54⟩ := S37.putI (P := Try.prog) (k := 1) (a := (gat i2 l1_0 (iadd .i64 x1 (isub .i64 (iwr .i64 (iand .u64 r2.1 (isub .u64 r1 1))) (isub .i64 x2 x1)))).1) (b := (gat i2 l1_0 (iadd .i64 x1 (isub .i64 (iwr .i64 (iand .u64 r2.1 (isub .u64 r1 1))) (isub .i64 x2 x1)))).2) rfl (hB.le A38.1) sz_62 g48
          have A53 := A38.trans a54
          replace S52 : Sep G50 B [AL.box p5 [(Value.int .u64 r2.2)], flatI v0 62 (lset l1_0 y1_11 ((gat i2 l1_0 (iadd .i64 x1 (isub .i64 (iwr .i64 (iand .u64 r2.1 (isub .u64 r1 1))) (isub .i64 x2 x1)))).1, (gat i2 l1_0 (iadd .i64 x1 (isub .i64 (iwr .i64 (iand .u64 r2.1 (isub .u64 r1 1))) (isub .i64 x2 x1)))).2))] := S52
          obtain ⟨g55, hL23⟩ := gd_some hL23
          have q56 := (S52.slI (k := 1) rfl).idxG (P := Try.prog) (kk := .i64) el_58 sz_62 g55
          obtain ⟨G57, q58, S59, a61⟩ := S52.putI (P := Try.prog) (k := 1) (a := (gat i2 l1_0 y1_11).1) (b := (gat i2 l1_0 y1_11).2) rfl (hB.le A53.1) sz_62 g55
          have A60 := A53.trans a61
          replace S59 : Sep G57 B [AL.box p5 [(Value.int .u64 r2.2)], flatI v0 62 (lset (lset l1_0 y1_11 ((gat i2 l1_0 (iadd .i64 x1 (isub .i64 (iwr .i64 (iand .u64 r2.1 (isub .u64 r1 1))) (isub .i64 x2 x1)))).1, (gat i2 l1_0 (iadd .i64 x1 (isub .i64 (iwr .i64 (iand .u64 r2.1 (isub .u64 r1 1))) (isub .i64 x2 x1)))).2)) (iadd .i64 x1 (isub .i64 (iwr .i64 (iand .u64 r2.1 (isub .u64 r1 1))) (isub .i64 x2 x1))) ((gat i2 l1_0 y1_11).1, (gat i2 l1_0 y1_11).2))] := S59
          refine DWp.drawn (B := [0, 0, 0, 0, 0, 24, 0, 0, 0, 384, 960, 1984, 0, 0, 12288, 28672, 65475, 131011, 262143, 524287]) 17 mixed (by kernel_rfl) (by decide) fun K hK => ?_
          simp [-aBin', -aBin, -aBinI, -aUn, -aNil, -flatV, n_fn, b_add, b_sub, b_mul, b_lt, b_le, b_gt, b_ge, b_eq, b_ne, u_not, e1_0, e1_1, e1_8, e1_9, e1_10, e1_11, q43, q44, q46, q47, q49, q51, q56, q58]
          apply hK
          clear hK K
          simp only [andThen, leaves]
          refine DWp.region fun K hK => ?_
          simp [-aBin', -aBin, -aBinI, -aUn, -aNil, -flatV, n_fn, b_add, b_sub, b_mul, b_lt, b_le, b_gt, b_ge, b_eq, b_ne, u_not, e1_0, e1_1, e1_8, e1_9, e1_10, e1_11]
          apply hK
          clear hK K
          simp only [andThen, leaves]
          have S62 := S59.pick [1, 0] (by decide) rfl
          exact ⟨n1, Nat.lt_succ_self _, (lset (lset l1_0 y1_11 ((gat i2 l1_0 (iadd .i64 x1 (isub .i64 (iwr .i64 (iand .u64 r2.1 (isub .u64 r1 1))) (isub .i64 x2 x1)))).1, (gat i2 l1_0 (iadd .i64 x1 (isub .i64 (iwr .i64 (iand .u64 r2.1 (isub .u64 r1 1))) (isub .i64 x2 x1)))).2)) (iadd .i64 x1 (isub .i64 (iwr .i64 (iand .u64 r2.1 (isub .u64 r1 1))) (isub .i64 x2 x1))) ((gat i2 l1_0 y1_11).1, (gat i2 l1_0 y1_11).2)), r2.2, (iadd .i64 y1_11 1), hL23, S62, A60, by simp [e1_0, e1_1, e1_8, e1_9, e1_10, e1_11], by simp [e1_0, e1_1, e1_8, e1_9, e1_10, e1_11], by simp [e1_0, e1_1, e1_8, e1_9, e1_10, e1_11], by simp [e1_0, e1_1, e1_8, e1_9, e1_10, e1_11], by simp [e1_0, e1_1, e1_8, e1_9, e1_10, e1_11], by simp [e1_0, e1_1, e1_8, e1_9, e1_10, e1_11]⟩
        · replace hL23 := cd_f hb41 hL23
          refine DWp.skip ?_
          simp only [andThen, leaves]
          obtain ⟨g63, hL23⟩ := gd_some hL23
          have q64 := (S37.slI (k := 1) rfl).idxG (P := Try.prog) (kk := .i64) el_58 sz_62 g63
          have q65 := (S37.slI (k := 1) rfl).loadG (P := Try.prog) sz_62 ag_62 g63
          obtain ⟨g66, hL23⟩ := gd_some hL23
          have q67 := (S37.slI (k := 1) rfl).idxG (P := Try.prog) (kk := .i64) el_58 sz_62 g66
          have q68 := (S37.slI (k := 1) rfl).loadG (P := Try.prog) sz_62 ag_62 g66
          obtain ⟨g69, hL23⟩ := gd_some hL23
          have q70 := (S37.slI (k := 1) rfl).idxG (P := Try.prog) (kk := .i64) el_58 sz_62 g69
          obtain ⟨G71, q72, S73, a75⟩ := S37.putI (P := Try.prog) (k := 1) (a := (gat i2 l1_0 (iadd .i64 x1 (iwr .i64 (iand .u64 r2.1 (isub .u64 r1 1))))).1) (b := (gat i2 l1_0 (iadd .i64 x1 (iwr .i64 (iand .u64 r2.1 (isub .u64 r1 1))))).2) rfl (hB.le A38.1) sz_62 g69
          have A74 := A38.trans a75
          replace S73 : Sep G71 B [AL.box p5 [(Value.int .u64 r2.2)], flatI v0 62 (lset l1_0 y1_11 ((gat i2 l1_0 (iadd .i64 x1 (iwr .i64 (iand .u64 r2.1 (isub .u64 r1 1))))).1, (gat i2 l1_0 (iadd .i64 x1 (iwr .i64 (iand .u64 r2.1 (isub .u64 r1 1))))).2))] := S73
          obtain ⟨g76, hL23⟩ := gd_some hL23
          have q77 := (S73.slI (k := 1) rfl).idxG (P := Try.prog) (kk := .i64) el_58 sz_62 g76
          obtain ⟨G78, q79, S80, a82⟩ := S73.putI (P := Try.prog) (k := 1) (a := (gat i2 l1_0 y1_11).1) (b := (gat i2 l1_0 y1_11).2) rfl (hB.le A74.1) sz_62 g76
          have A81 := A74.trans a82
          replace S80 : Sep G78 B [AL.box p5 [(Value.int .u64 r2.2)], flatI v0 62 (lset (lset l1_0 y1_11 ((gat i2 l1_0 (iadd .i64 x1 (iwr .i64 (iand .u64 r2.1 (isub .u64 r1 1))))).1, (gat i2 l1_0 (iadd .i64 x1 (iwr .i64 (iand .u64 r2.1 (isub .u64 r1 1))))).2)) (iadd .i64 x1 (iwr .i64 (iand .u64 r2.1 (isub .u64 r1 1)))) ((gat i2 l1_0 y1_11).1, (gat i2 l1_0 y1_11).2))] := S80
          refine DWp.drawn (B := [0, 0, 0, 0, 0, 24, 0, 0, 0, 384, 960, 1984, 0, 0, 12288, 28672, 65475, 131011, 262143, 524287]) 17 mixed (by kernel_rfl) (by decide) fun K hK => ?_
          simp [-aBin', -aBin, -aBinI, -aUn, -aNil, -flatV, n_fn, b_add, b_sub, b_mul, b_lt, b_le, b_gt, b_ge, b_eq, b_ne, u_not, e1_0, e1_1, e1_8, e1_9, e1_10, e1_11, q64, q65, q67, q68, q70, q72, q77, q79]
          apply hK
          clear hK K
          simp only [andThen, leaves]
          refine DWp.region fun K hK => ?_
          simp [-aBin', -aBin, -aBinI, -aUn, -aNil, -flatV, n_fn, b_add, b_sub, b_mul, b_lt, b_le, b_gt, b_ge, b_eq, b_ne, u_not, e1_0, e1_1, e1_8, e1_9, e1_10, e1_11]
          apply hK
          clear hK K
          simp only [andThen, leaves]
          have S83 := S80.pick [1, 0] (by decide) rfl
          exact ⟨n1, Nat.lt_succ_self _, (lset (lset l1_0 y1_11 ((gat i2 l1_0 (iadd .i64 x1 (iwr .i64 (iand .u64 r2.1 (isub .u64 r1 1))))).1, (gat i2 l1_0 (iadd .i64 x1 (iwr .i64 (iand .u64 r2.1 (isub .u64 r1 1))))).2)) (iadd .i64 x1 (iwr .i64 (iand .u64 r2.1 (isub .u64 r1 1)))) ((gat i2 l1_0 y1_11).1, (gat i2 l1_0 y1_11).2)), r2.2, (iadd .i64 y1_11 1), hL23, S83, A81, by simp [e1_0, e1_1, e1_8, e1_9, e1_10, e1_11], by simp [e1_0, e1_1, e1_8, e1_9, e1_10, e1_11], by simp [e1_0, e1_1, e1_8, e1_9, e1_10, e1_11], by simp [e1_0, e1_1, e1_8, e1_9, e1_10, e1_11], by simp [e1_0, e1_1, e1_8, e1_9, e1_10, e1_11], by simp [e1_0, e1_1, e1_8, e1_9, e1_10, e1_11]⟩
      · replace hL23 := cd_f hb26 hL23
        refine DWp.exit ?_
        simp only [andThen, leaves, if_true, if_false, reduceIte, Nat.reduceEqDiff]
        obtain rfl := Option.some.inj hL23
        try dsimp only at hF
        obtain rfl := Option.some.inj hF
        exact ⟨by simp, [], by simp [e1_0, e1_1, e1_8, e1_9, e1_10, e1_11], A1_, rfl, S1_.pick [0] (by decide) rfl⟩
  · replace hF := cd_f hb1 hF
    refine DWp.skip ?_
    obtain rfl := Option.some.inj hF
    exact ⟨by simp, [], by simp [], A0, rfl, S0.pick [0] (by decide) rfl⟩
def F_slices_order2CmpFunc_2_int (fu : Nat) (x0 : List (Int × Int)) (x1 : Int) (x2 : Int) (x3 : Int) (x4 : Int → Int → Int → Int → Option (Int)) : Option (Int × Int × Int) :=
  gd (inL x0 x2) (
  gd (inL x0 x1) (
  bd (x4 ((gat i2 x0 x2).1) ((gat i2 x0 x2).2) ((gat i2 x0 x1).1) ((gat i2 x0 x1).2)) fun r1 =>
  bif (ilt r1 0) then
    some (x2, x1, (iadd .i64 x3 1))
  else
    some (x1, x2, x3)))
theorem F_slices_order2CmpFunc_2_int_w {fu : Nat} {H : AH} {B : Nat → Prop} {v0 : Value} {p3 : Value} {f4 : FuncId} {c4 : List Value} {x0 : List (Int × Int)} {x1 : Int} {x2 : Int} {x3 : Int} {x4 : Int → Int → Int → Int → Option (Int)} {r : (Int × Int × Int)} (hB : Up B H.length) (S0 : Sep H B [AL.box p3 [(Value.int .i64 x3)]]) (hx0 : SlI H v0 x0) (hdx0 : ∀ i, idOf v0 = some i → ¬ B i) (hx4 : ∀ (G : AH), AgB B H G → ∀ (y0_0 : Int) (y0_1 : Int) (y1_0 : Int) (y1_1 : Int) (q : (Int)), x4 y0_0 y0_1 y1_0 y1_1 = some q → ACallT Try.prog f4 ([(Value.agg #[(Value.int .i64 y0_0), (Value.int .i64 y0_1)]), (Value.agg #[(Value.int .i64 y1_0), (Value.int .i64 y1_1)])] ++ c4) G (fun u G' => AgB (Fr G) G G' ∧ u = (Value.int .i64 q) ∧ Sep G' (Fr G) [])) (hF : F_slices_order2CmpFunc_2_int fu x0 x1 x2 x3 x4 = some r) :
    ACallT Try.prog 151 [v0, (Value.int .i64 x1), (Value.int .i64 x2), p3, (Value.func (.func f4) #[] c4.toArray)] H (fun u G => AgB B H G ∧ u = (Value.tuple #[(Value.int .i64 r.1), (Value.int .i64 r.2.1)]) ∧ Sep G B [AL.box p3 [(Value.int .i64 r.2.2)]]) := by
  refine ACallT.of_body (nt := 32) (rs := [.tmp 10, .tmp 11]) Try.func151 rfl rfl rfl rfl ?_
  have A0 : AgB B H H := .refl _ _
  unfold F_slices_order2CmpFunc_2_int at hF
  refine DWp.seq ?_
  refine DWp.region fun K hK => ?_
  simp [-aBin', -aBin, -aBinI, -aUn, -aNil, -flatV, n_fn, b_add, b_sub, b_mul, b_lt, b_le, b_gt, b_ge, b_eq, b_ne, u_not]
  apply hK
  clear hK K
  simp only [andThen, leaves]
  refine DWp.seq ?_
  refine DWp.seq ?_
  obtain ⟨g1, hF⟩ := gd_some hF
  have q2 := (hx0.agr A0 hdx0).idxG (P := Try.prog) (kk := .i64) el_58 sz_62 g1
  have q3 := (hx0.agr A0 hdx0).loadG (P := Try.prog) sz_62 ag_62 g1
  obtain ⟨g4, hF⟩ := gd_some hF
  have q5 := (hx0.agr A0 hdx0).idxG (P := Try.prog) (kk := .i64) el_58 sz_62 g4
  have q6 := (hx0.agr A0 hdx0).loadG (P := Try.prog) sz_62 ag_62 g4
  obtain ⟨r1, hc7, hF⟩ := bd_some hF
  refine DWp.drawn (B := [0, 0, 0, 6, 14, 0, 0, 96, 224, 511, 1023]) 11 mixed (by kernel_rfl) (by decide) fun K hK => ?_
  simp [-aBin', -aBin, -aBinI, -aUn, -aNil, -flatV, n_fn, b_add, b_sub, b_mul, b_lt, b_le, b_gt, b_ge, b_eq, b_ne, u_not, q2, q3, q5, q6]
  refine CallD.t (hx4 _ A0 ((gat i2 x0 x2).1) ((gat i2 x0 x2).2) ((gat i2 x0 x1).1) ((gat i2 x0 x1).2) _  hc7) ?_
  rintro _ G8 ⟨a11, rfl, S12⟩
  have A10 := A0.ext (hB.le A0.1) a11.agree
  have S9 : Sep G8 B [AL.box p3 [(Value.int .i64 x3)]] := S0.agree a11.agree
  simp [-aBin', -aBin, -aBinI, -aUn, -aNil, -flatV, n_fn, b_add, b_sub, b_mul, b_lt, b_le, b_gt, b_ge, b_eq, b_ne, u_not, q2, q3, q5, q6, a11.pre]
  apply hK
  clear hK K
  simp only [andThen, leaves]
  refine DWp.cond' (t := (ilt r1 0)) (by simp []) (fun hb13 => ?_) (fun hb13 => ?_)
  · replace hF := cd_t hb13 hF
    refine DWp.seq ?_
    have q14 := S9.nilT (k := 0) rfl
    have q15 := S9.load0 (P := Try.prog) (k := 0) rfl sz_3 ag_3
    have q16 := S9.nilT (k := 0) rfl
    obtain ⟨G17, q18, S19, a21⟩ := S9.put0 (P := Try.prog) (k := 0) rfl (hB.le A10.1) sz_3 (rfl : isTup (Value.int .i64 (iadd .i64 x3 1)) = false) (rfl : (Value.int .i64 (iadd .i64 x3 1)).cells = #[(Value.int .i64 (iadd .i64 x3 1))])
    have A20 := A10.trans a21
    replace S19 : Sep G17 B [AL.box p3 [(Value.int .i64 (iadd .i64 x3 1))]] := S19
    refine DWp.region fun K hK => ?_
    simp [-aBin', -aBin, -aBinI, -aUn, -aNil, -flatV, n_fn, b_add, b_sub, b_mul, b_lt, b_le, b_gt, b_ge, b_eq, b_ne, u_not, q14, q15, q16, q18]
    apply hK
    clear hK K
    simp only [andThen, leaves]
    refine DWp.seq ?_
    refine DWp.region fun K hK => ?_
    simp [-aBin', -aBin, -aBinI, -aUn, -aNil, -flatV, n_fn, b_add, b_sub, b_mul, b_lt, b_le, b_gt, b_ge, b_eq, b_ne, u_not]
    apply hK
    clear hK K
    simp only [andThen, leaves]
    refine DWp.ret ?_
    simp only [andThen, leaves]
    obtain rfl := Option.some.inj hF
    exact ⟨by simp, [(Value.int .i64 x2), (Value.int .i64 x1)], by simp [], A20, rfl, S19.pick [0] (by decide) rfl⟩
  · replace hF := cd_f hb13 hF
    refine DWp.skip ?_
    simp only [andThen, leaves]
    refine DWp.seq ?_
    refine DWp.region fun K hK => ?_
    simp [-aBin', -aBin, -aBinI, -aUn, -aNil, -flatV, n_fn, b_add, b_sub, b_mul, b_lt, b_le, b_gt, b_ge, b_eq, b_ne, u_not]
    apply hK
    clear hK K
    simp only [andThen, leaves]
    refine DWp.ret ?_
    obtain rfl := Option.some.inj hF
    exact ⟨by simp, [(Value.int .i64 x1), (Value.int .i64 x2)], by simp [], A10, rfl, S9.pick [0] (by decide) rfl⟩
def F_slices_medianCmpFunc_2_int (fu : Nat) (x0 : List (Int × Int)) (x1 : Int) (x2 : Int) (x3 : Int) (x4 : Int) (x5 : Int → Int → Int → Int → Option (Int)) : Option (Int × Int) :=
  bd (F_slices_order2CmpFunc_2_int fu x0 x1 x2 x4 x5) fun r1 =>
  bd (F_slices_order2CmpFunc_2_int fu x0 r1.2.1 x3 r1.2.2 x5) fun r2 =>
  bd (F_slices_order2CmpFunc_2_int fu x0 r1.1 r2.1 r2.2.2 x5) fun r3 =>
  some (r3.2.1, r3.2.2)
theorem F_slices_medianCmpFunc_2_int_w {fu : Nat} {H : AH} {B : Nat → Prop} {v0 : Value} {p4 : Value} {f5 : FuncId} {c5 : List Value} {x0 : List (Int × Int)} {x1 : Int} {x2 : Int} {x3 : Int} {x4 : Int} {x5 : Int → Int → Int → Int → Option (Int)} {r : (Int × Int)} (hB : Up B H.length) (S0 : Sep H B [AL.box p4 [(Value.int .i64 x4)]]) (hx0 : SlI H v0 x0) (hdx0 : ∀ i, idOf v0 = some i → ¬ B i) (hx5 : ∀ (G : AH), AgB B H G → ∀ (y0_0 : Int) (y0_1 : Int) (y1_0 : Int) (y1_1 : Int) (q : (Int)), x5 y0_0 y0_1 y1_0 y1_1 = some q → ACallT Try.prog f5 ([(Value.agg #[(Value.int .i64 y0_0), (Value.int .i64 y0_1)]), (Value.agg #[(Value.int .i64 y1_0), (Value.int .i64 y1_1)])] ++ c5) G (fun u G' => AgB (Fr G) G G' ∧ u = (Value.int .i64 q) ∧ Sep G' (Fr G) [])) (hF : F_slices_medianCmpFunc_2_int fu x0 x1 x2 x3 x4 x5 = some r) :
    ACallT Try.prog 147 [v0, (Value.int .i64 x1), (Value.int .i64 x2), (Value.int .i64 x3), p4, (Value.func (.func f5) #[] c5.toArray)] H (fun u G => AgB B H G ∧ u = (Value.int .i64 r.1) ∧ Sep G B [AL.box p4 [(Value.int .i64 r.2)]]) := by
  refine ACallT.of_body (nt := 41) (rs := [.tmp 12]) Try.func147 rfl rfl rfl rfl ?_
  have A0 : AgB B H H := .refl _ _
  unfold F_slices_medianCmpFunc_2_int at hF
  refine DWp.seq ?_
  refine DWp.region fun K hK => ?_
  simp [-aBin', -aBin, -aBinI, -aUn, -aNil, -flatV, n_fn, b_add, b_sub, b_mul, b_lt, b_le, b_gt, b_ge, b_eq, b_ne, u_not]
  apply hK
  clear hK K
  simp only [andThen, leaves]
  refine DWp.seq ?_
  obtain ⟨r1, hc1, hF⟩ := bd_some hF
  refine DWp.region fun K hK => ?_
  simp [-aBin', -aBin, -aBinI, -aUn, -aNil, -flatV, n_fn, b_add, b_sub, b_mul, b_lt, b_le, b_gt, b_ge, b_eq, b_ne, u_not, ((hx0.agr A0 hdx0).tup), (S0.ptup (k := 0) rfl)]
  have S2 : Sep H B ([AL.box p4 [(Value.int .i64 x4)]] ++ []) := S0.pick [0] (by decide) rfl
  obtain ⟨B8, S3, U4, M5, R6, C7⟩ := S2.frame (hB.le A0.1)
  refine CallD.t (F_slices_order2CmpFunc_2_int_w (fu := fu) U4 S3 (hx0.agr A0 hdx0) (fun i_ hi_ hb_ => hdx0 i_ hi_ (M5 i_ hb_)) (fun G_ a_ => hx5 G_ (A0.trans (a_.mono M5))) hc1) ?_
  rintro _ G10 ⟨a13, rfl, S14⟩
  have A12 := A0.trans (a13.mono M5)
  have S11 : Sep G10 B [AL.box p4 [(Value.int .i64 r1.2.2)]] := C7 _ _ a13 S14
  simp [-aBin', -aBin, -aBinI, -aUn, -aNil, -flatV, n_fn, b_add, b_sub, b_mul, b_lt, b_le, b_gt, b_ge, b_eq, b_ne, u_not]
  apply hK
  clear hK K
  simp only [andThen, leaves]
  refine DWp.seq ?_
  obtain ⟨r2, hc15, hF⟩ := bd_some hF
  refine DWp.region fun K hK => ?_
  simp [-aBin', -aBin, -aBinI, -aUn, -aNil, -flatV, n_fn, b_add, b_sub, b_mul, b_lt, b_le, b_gt, b_ge, b_eq, b_ne, u_not, ((hx0.agr A12 hdx0).tup), (S11.ptup (k := 0) rfl)]
  have S16 : Sep G10 B ([AL.box p4 [(Value.int .i64 r1.2.2)]] ++ []) := S11.pick [0] (by decide) rfl
  obtain ⟨B22, S17, U18, M19, R20, C21⟩ := S16.frame (hB.le A12.1)
  refine CallD.t (F_slices_order2CmpFunc_2_int_w (fu := fu) U18 S17 (hx0.agr A12 hdx0) (fun i_ hi_ hb_ => hdx0 i_ hi_ (M19 i_ hb_)) (fun G_ a_ => hx5 G_ (A12.trans (a_.mono M19))) hc15) ?_
  rintro _ G24 ⟨a27, rfl, S28⟩
  have A26 := A12.trans (a27.mono M19)
  have S25 : Sep G24 B [AL.box p4 [(Value.int .i64 r2.2.2)]] := C21 _ _ a27 S28
  simp [-aBin', -aBin, -aBinI, -aUn, -aNil, -flatV, n_fn, b_add, b_sub, b_mul, b_lt, b_le, b_gt, b_ge, b_eq, b_ne, u_not]
  apply hK
  clear hK K
  simp only [andThen, leaves]
  refine DWp.seq ?_
  obtain ⟨r3, hc29, hF⟩ := bd_some hF
  refine DWp.region fun K hK => ?_
  simp [-aBin', -aBin, -aBinI, -aUn, -aNil, -flatV, n_fn, b_add, b_sub, b_mul, b_lt, b_le, b_gt, b_ge, b_eq, b_ne, u_not, ((hx0.agr A26 hdx0).tup), (S25.ptup (k := 0) rfl)]
  have S30 : Sep G24 B ([AL.box p4 [(Value.int .i64 r2.2.2)]] ++ []) := S25.pick [0] (by decide) rfl
  obtain ⟨B36, S31, U32, M33, R34, C35⟩ := S30.frame (hB.le A26.1)
  refine CallD.t (F_slices_order2CmpFunc_2_int_w (fu := fu) U32 S31 (hx0.agr A26 hdx0) (fun i_ hi_ hb_ => hdx0 i_ hi_ (M33 i_ hb_)) (fun G_ a_ => hx5 G_ (A26.trans (a_.mono M33))) hc29) ?_
  rintro _ G38 ⟨a41, rfl, S42⟩
  have A40 := A26.trans (a41.mono M33)
  have S39 : Sep G38 B [AL.box p4 [(Value.int .i64 r3.2.2)]] := C35 _ _ a41 S42
  simp [-aBin', -aBin, -aBinI, -aUn, -aNil, -flatV, n_fn, b_add, b_sub, b_mul, b_lt, b_le, b_gt, b_ge, b_eq, b_ne, u_not]
  apply hK
  clear hK K
  simp only [andThen, leaves]
  refine DWp.seq ?_
  refine DWp.region fun K hK => ?_
  simp [-aBin', -aBin, -aBinI, -aUn, -aNil, -flatV, n_fn, b_add, b_sub, b_mul, b_lt, b_le, b_gt, b_ge, b_eq, b_ne, u_not]
  apply hK
  clear hK K
  simp only [andThen, leaves]
  refine DWp.ret ?_
  obtain rfl := Option.some.inj hF
  exact ⟨by simp, [(Value.int .i64 r3.2.1)], by simp [], A40, rfl, S39.pick [0] (by decide) rfl⟩
def F_slices_medianAdjacentCmpFunc_2_int (fu : Nat) (x0 : List (Int × Int)) (x1 : Int) (x2 : Int) (x3 : Int → Int → Int → Int → Option (Int)) : Option (Int × Int) :=
  bd (F_slices_medianCmpFunc_2_int fu x0 (isub .i64 x1 1) x1 (iadd .i64 x1 1) x2 x3) fun r1 =>
  some (r1.1, r1.2)
theorem F_slices_medianAdjacentCmpFunc_2_int_w {fu : Nat} {H : AH} {B : Nat → Prop} {v0 : Value} {p2 : Value} {f3 : FuncId} {c3 : List Value} {x0 : List (Int × Int)} {x1 : Int} {x2 : Int} {x3 : Int → Int → Int → Int → Option (Int)} {r : (Int × Int)} (hB : Up B H.length) (S0 : Sep H B [AL.box p2 [(Value.int .i64 x2)]]) (hx0 : SlI H v0 x0) (hdx0 : ∀ i, idOf v0 = some i → ¬ B i) (hx3 : ∀ (G : AH), AgB B H G → ∀ (y0_0 : Int) (y0_1 : Int) (y1_0 : Int) (y1_1 : Int) (q : (Int)), x3 y0_0 y0_1 y1_0 y1_1 = some q → ACallT Try.prog f3 ([(Value.agg #[(Value.int .i64 y0_0), (Value.int .i64 y0_1)]), (Value.agg #[(Value.int .i64 y1_0), (Value.int .i64 y1_1)])] ++ c3) G (fun u G' => AgB (Fr G) G G' ∧ u = (Value.int .i64 q) ∧ Sep G' (Fr G) [])) (hF : F_slices_medianAdjacentCmpFunc_2_int fu x0 x1 x2 x3 = some r) :
    ACallT Try.prog 146 [v0, (Value.int .i64 x1), p2, (Value.func (.func f3) #[] c3.toArray)] H (fun u G => AgB B H G ∧ u = (Value.int .i64 r.1) ∧ Sep G B [AL.box p2 [(Value.int .i64 r.2)]]) := by
  refine ACallT.of_body (nt := 18) (rs := [.tmp 8]) Try.func146 rfl rfl rfl rfl ?_
  have A0 : AgB B H H := .refl _ _
  unfold F_slices_medianAdjacentCmpFunc_2_int at hF
  refine DWp.seq ?_
  refine DWp.region fun K hK => ?_
  simp [-aBin', -aBin, -aBinI, -aUn, -aNil, -flatV, n_fn, b_add, b_sub, b_mul, b_lt, b_le, b_gt, b_ge, b_eq, b_ne, u_not]
  apply hK
  clear hK K
  simp only [andThen, leaves]
  refine DWp.seq ?_
  obtain ⟨r1, hc1, hF⟩ := bd_some hF
  refine DWp.region fun K hK => ?_
  simp [-aBin', -aBin, -aBinI, -aUn, -aNil, -flatV, n_fn, b_add, b_sub, b_mul, b_lt, b_le, b_gt, b_ge, b_eq, b_ne, u_not, ((hx0.agr A0 hdx0).tup), (S0.ptup (k := 0) rfl)]
  have S2 : Sep H B ([AL.box p2 [(Value.int .i64 x2)]] ++ []) := S0.pick [0] (by decide) rfl
  obtain ⟨B8, S3, U4, M5, R6, C7⟩ := S2.frame (hB.le A0.1)
  refine CallD.t (F_slices_medianCmpFunc_2_int_w (fu := fu) U4 S3 (hx0.agr A0 hdx0) (fun i_ hi_ hb_ => hdx0 i_ hi_ (M5 i_ hb_)) (fun G_ a_ => hx3 G_ (A0.trans (a_.mono M5))) hc1) ?_
  rintro _ G10 ⟨a13, rfl, S14⟩
  have A12 := A0.trans (a13.mono M5)
  have S11 : Sep G10 B [AL.box p2 [(Value.int .i64 r1.2)]] := C7 _ _ a13 S14
  simp [-aBin', -aBin, -aBinI, -aUn, -aNil, -flatV, n_fn, b_add, b_sub, b_mul, b_lt, b_le, b_gt, b_ge, b_eq, b_ne, u_not]
  apply hK
  clear hK K
  simp only [andThen, leaves]
  refine DWp.ret ?_
  obtain rfl := Option.some.inj hF
  exact ⟨by simp, [(Value.int .i64 r1.1)], by simp [], A12, rfl, S11.pick [0] (by decide) rfl⟩
def F_slices_choosePivotCmpFunc_2_int (fu : Nat) (x0 : List (Int × Int)) (x1 : Int) (x2 : Int) (x3 : Int → Int → Int → Int → Option (Int)) : Option (Int × Int) :=
  bd (
    bif (ile 8 (isub .i64 x2 x1)) then
      bif (ile 50 (isub .i64 x2 x1)) then
        bd (F_slices_medianAdjacentCmpFunc_2_int fu x0 (iadd .i64 x1 (imul .i64 (iquo .i64 (isub .i64 x2 x1) 4) 1)) 0 x3) fun r1 =>
        bd (F_slices_medianAdjacentCmpFunc_2_int fu x0 (iadd .i64 x1 (imul .i64 (iquo .i64 (isub .i64 x2 x1) 4) 2)) r1.2 x3) fun r2 =>
        bd (F_slices_medianAdjacentCmpFunc_2_int fu x0 (iadd .i64 x1 (imul .i64 (iquo .i64 (isub .i64 x2 x1) 4) 3)) r2.2 x3) fun r3 =>
        bd (F_slices_medianCmpFunc_2_int fu x0 r1.1 r2.1 r3.1 r3.2 x3) fun r4 =>
        some (r4.2, r4.1)
      else
        bd (F_slices_medianCmpFunc_2_int fu x0 (iadd .i64 x1 (imul .i64 (iquo .i64 (isub .i64 x2 x1) 4) 1)) (iadd .i64 x1 (imul .i64 (iquo .i64 (isub .i64 x2 x1) 4) 2)) (iadd .i64 x1 (imul .i64 (iquo .i64 (isub .i64 x2 x1) 4) 3)) 0 x3) fun r5 =>
        some (r5.2, r5.1)
    else
      some (0, (iadd .i64 x1 (imul .i64 (iquo .i64 (isub .i64 x2 x1) 4) 2)))) fun s11 =>
  bif (ieq s11.1 0) then
    some (s11.2, 1)
  else
    bif (ieq s11.1 12) then
      some (s11.2, 2)
    else
      some (s11.2, 0)
theorem F_slices_choosePivotCmpFunc_2_int_w {fu : Nat} {H : AH} {v0 : Value} {f3 : FuncId} {c3 : List Value} {x0 : List (Int × Int)} {x1 : Int} {x2 : Int} {x3 : Int → Int → Int → Int → Option (Int)} {r : (Int × Int)} (hx0 : SlI H v0 x0) (hx3 : ∀ (G : AH), AgB (Fr H) H G → ∀ (y0_0 : Int) (y0_1 : Int) (y1_0 : Int) (y1_1 : Int) (q : (Int)), x3 y0_0 y0_1 y1_0 y1_1 = some q → ACallT Try.prog f3 ([(Value.agg #[(Value.int .i64 y0_0), (Value.int .i64 y0_1)]), (Value.agg #[(Value.int .i64 y1_0), (Value.int .i64 y1_1)])] ++ c3) G (fun u G' => AgB (Fr G) G G' ∧ u = (Value.int .i64 q) ∧ Sep G' (Fr G) [])) (hF : F_slices_choosePivotCmpFunc_2_int fu x0 x1 x2 x3 = some r) :
    ACallT Try.prog 125 [v0, (Value.int .i64 x1), (Value.int .i64 x2), (Value.func (.func f3) #[] c3.toArray)] H (fun u G => AgB (Fr H) H G ∧ u = (Value.tuple #[(Value.int .i64 r.1), (Value.int .i64 r.2)]) ∧ Sep G (Fr H) []) := by
  refine ACallT.of_body (nt := 63) (rs := [.tmp 8, .tmp 9]) Try.func125 rfl rfl rfl rfl ?_
  have A0 : AgB (Fr H) H H := .refl _ _
  have S0 : Sep H (Fr H) [] := .nil
  have hB := Fr.up H
  unfold F_slices_choosePivotCmpFunc_2_int at hF
  refine DWp.seq ?_
  refine DWp.region fun K hK => ?_
  simp [-aBin', -aBin, -aBinI, -aUn, -aNil, -flatV, n_fn, b_add, b_sub, b_mul, b_lt, b_le, b_gt, b_ge, b_eq, b_ne, u_not]
  apply hK
  clear hK K
  simp only [andThen, leaves]
  refine DWp.seq ?_
  refine DWp.region fun K hK => ?_
  simp [-aBin', -aBin, -aBinI, -aUn, -aNil, -flatV, n_fn, b_add, b_sub, b_mul, b_lt, b_le, b_gt, b_ge, b_eq, b_ne, u_not]
  apply hK
  clear hK K
  simp only [andThen, leaves]
  refine DWp.seq ?_
  obtain ⟨G2, p4, q5, q7, a6, S1⟩ := S0.allocT (P := Try.prog) (hB.le A0.1) ze_3 rfl
  have A3 := A0.ext (hB.le A0.1) a6
  replace S1 : Sep G2 (Fr H) [AL.box p4 [(Value.int .i64 0)]] := S1
  refine DWp.region fun K hK => ?_
  simp [-aBin', -aBin, -aBinI, -aUn, -aNil, -flatV, n_fn, b_add, b_sub, b_mul, b_lt, b_le, b_gt, b_ge, b_eq, b_ne, u_not, q5, q7, a6.to_pre]
  apply hK
  clear hK K
  simp only [andThen, leaves]
  refine DWp.seq ?_
  have g8 : (4 : Int) ≠ 0 := by decide
  refine DWp.region fun K hK => ?_
  simp [-aBin', -aBin, -aBinI, -aUn, -aNil, -flatV, n_fn, b_add, b_sub, b_mul, b_lt, b_le, b_gt, b_ge, b_eq, b_ne, u_not, b_quo g8]
  apply hK
  clear hK K
  simp only [andThen, leaves]
  refine DWp.seq ?_
  have g9 : (4 : Int) ≠ 0 := by decide
  refine DWp.region fun K hK => ?_
  simp [-aBin', -aBin, -aBinI, -aUn, -aNil, -flatV, n_fn, b_add, b_sub, b_mul, b_lt, b_le, b_gt, b_ge, b_eq, b_ne, u_not, b_quo g9]
  apply hK
  clear hK K
  simp only [andThen, leaves]
  refine DWp.seq ?_
  have g10 : (4 : Int) ≠ 0 := by decide
  refine DWp.region fun K hK => ?_
  simp [-aBin', -aBin, -aBinI, -aUn, -aNil, -flatV, n_fn, b_add, b_sub, b_mul, b_lt, b_le, b_gt, b_ge, b_eq, b_ne, u_not, b_quo g10]
  apply hK
  clear hK K
  simp only [andThen, leaves]
  obtain ⟨s11, hL12, hF⟩ := bd_some hF
  refine DWp.seq (DWp.join (fun env G => Sep G (Fr H) [AL.box p4 [(Value.int .i64 s11.1)]] ∧ AgB (Fr H) H G ∧ env 11 = some p4 ∧ env 13 = some (Value.int .i64 s11.2)) ?_ ?_)
  ·
    refine DWp.seq ?_
    refine DWp.region fun K hK => ?_
    simp [-aBin', -aBin, -aBinI, -aUn, -aNil, -flatV, n_fn, b_add, b_sub, b_mul, b_lt, b_le, b_gt, b_ge, b_eq, b_ne, u_not]
    apply hK
    clear hK K
    simp only [andThen, leaves]
    refine DWp.cond' (t := (ile 8 (isub .i64 x2 x1))) (by simp []) (fun hb14 => ?_) (fun hb14 => ?_)
    · replace hL12 := cd_t hb14 hL12
      refine DWp.seq ?_
      refine DWp.seq ?_
      refine DWp.region fun K hK => ?_
      simp [-aBin', -aBin, -aBinI, -aUn, -aNil, -flatV, n_fn, b_add, b_sub, b_mul, b_lt, b_le, b_gt, b_ge, b_eq, b_ne, u_not]
      apply hK
      clear hK K
      simp only [andThen, leaves]
      refine DWp.cond' (t := (ile 50 (isub .i64 x2 x1))) (by simp []) (fun hb15 => ?_) (fun hb15 => ?_)
      · replace hL12 := cd_t hb15 hL12
        refine DWp.seq ?_
        obtain ⟨r1, hc16, hL12⟩ := bd_some hL12
        refine DWp.region fun K hK => ?_
        simp [-aBin', -aBin, -aBinI, -aUn, -aNil, -flatV, n_fn, b_add, b_sub, b_mul, b_lt, b_le, b_gt, b_ge, b_eq, b_ne, u_not, ((hx0.agree A3.agree).tup), (S1.ptup (k := 0) rfl)]
        have S17 : Sep G2 (Fr H) ([AL.box p4 [(Value.int .i64 0)]] ++ []) := S1.pick [0] (by decide) rfl
        obtain ⟨B23, S18, U19, M20, R21, C22⟩ := S17.frame (hB.le A3.1)
        refine CallD.t (F_slices_medianAdjacentCmpFunc_2_int_w (fu := fu) U19 S18 (hx0.agree A3.agree) (fun i_ hi_ hb_ => Nat.not_le.2 (hx0.id_lt hi_) (M20 i_ hb_)) (fun G_ a_ => hx3 G_ (A3.trans (a_.mono M20))) hc16) ?_
        rintro _ G25 ⟨a28, rfl, S29⟩
        have A27 := A3.trans (a28.mono M20)
        have S26 : Sep G25 (Fr H) [AL.box p4 [(Value.int .i64 r1.2)]] := C22 _ _ a28 S29
        simp [-aBin', -aBin, -aBinI, -aUn, -aNil, -flatV, n_fn, b_add, b_sub, b_mul, b_lt, b_le, b_gt, b_ge, b_eq, b_ne, u_not]
        apply hK
        clear hK K
        simp only [andThen, leaves]
        refine DWp.seq ?_
        obtain ⟨r2, hc30, hL12⟩ := bd_some hL12
        refine DWp.region fun K hK => ?_
        simp [-aBin', -aBin, -aBinI, -aUn, -aNil, -flatV, n_fn, b_add, b_sub, b_mul, b_lt, b_le, b_gt, b_ge, b_eq, b_ne, u_not, ((hx0.agree A27.agree).tup), (S26.ptup (k := 0) rfl)]
        have S31 : Sep G25 (Fr H) ([AL.box p4 [(Value.int .i64 r1.2)]] ++ []) := S26.pick [0] (by decide) rfl
        obtain ⟨B37, S32, U33, M34, R35, C36⟩ := S31.frame (hB.le A27.1)
        refine CallD.t (F_slices_medianAdjacentCmpFunc_2_int_w (fu := fu) U33 S32 (hx0.agree A27.agree) (fun i_ hi_ hb_ => Nat.not_le.2 (hx0.id_lt hi_) (M34 i_ hb_)) (fun G_ a_ => hx3 G_ (A27.trans (a_.mono M34))) hc30) ?_
        rintro _ G39 ⟨a42, rfl, S43⟩
        have A41 := A27.trans (a42.mono M34)
        have S40 : Sep G39 (Fr H) [AL.box p4 [(Value.int .i64 r2.2)]] := C36 _ _ a42 S43
        simp [-aBin', -aBin, -aBinI, -aUn, -aNil, -flatV, n_fn, b_add, b_sub, b_mul, b_lt, b_le, b_gt, b_ge, b_eq, b_ne, u_not]
        apply hK
        clear hK K
        simp only [andThen, leaves]
        obtain ⟨r3, hc44, hL12⟩ := bd_some hL12
        refine DWp.region fun K hK => ?_
        simp [-aBin', -aBin, -aBinI, -aUn, -aNil, -flatV, n_fn, b_add, b_sub, b_mul, b_lt, b_le, b_gt, b_ge, b_eq, b_ne, u_not, ((hx0.agree A41.agree).tup), (S40.ptup (k := 0) rfl)]
        have S45 : Sep G39 (Fr H) ([AL.box p4 [(Value.int .i64 r2.2)]] ++ []) := S40.pick [0] (by decide) rfl
        obtain ⟨B51, S46, U47, M48, R49, C50⟩ := S45.frame (hB.le A41.1)
        refine CallD.t (F_slices_medianAdjacentCmpFunc_2_int_w (fu := fu) U47 S46 (hx0.agree A41.agree) (fun i_ hi_ hb_ => Nat.not_le.2 (hx0.id_lt hi_) (M48 i_ hb_)) (fun G_ a_ => hx3 G_ (A41.trans (a_.mono M48))) hc44) ?_
        rintro _ G53 ⟨a56, rfl, S57⟩
        have A55 := A41.trans (a56.mono M48)
        have S54 : Sep G53 (Fr H) [AL.box p4 [(Value.int .i64 r3.2)]] := C50 _ _ a56 S57
        simp [-aBin', -aBin, -aBinI, -aUn, -aNil, -flatV, n_fn, b_add, b_sub, b_mul, b_lt, b_le, b_gt, b_ge, b_eq, b_ne, u_not]
        apply hK
        clear hK K
        simp only [andThen, leaves]
        obtain ⟨r4, hc58, hL12⟩ := bd_some hL12
        refine DWp.region fun K hK => ?_
        simp [-aBin', -aBin, -aBinI, -aUn, -aNil, -flatV, n_fn, b_add, b_sub, b_mul, b_lt, b_le, b_gt, b_ge, b_eq, b_ne, u_not, ((hx0.agree A55.agree).tup), (S54.ptup (k := 0) rfl)]
        have S59 : Sep G53 (Fr H) ([AL.box p4 [(Value.int .i64 r3.2)]] ++ []) := S54.pick [0] (by decide) rfl
        obtain ⟨B65, S60, U61, M62, R63, C64⟩ := S59.frame (hB.le A55.1)
        refine CallD.t (F_slices_medianCmpFunc_2_int_w (fu := fu) U61 S60 (hx0.agree A55.agree) (fun i_ hi_ hb_ => Nat.not_le.2 (hx0.id_lt hi_) (M62 i_ hb_)) (fun G_ a_ => hx3 G_ (A55.trans (a_.mono M62))) hc58) ?_
        rintro _ G67 ⟨a70, rfl, S71⟩
        have A69 := A55.trans (a70.mono M62)
        have S68 : Sep G67 (Fr H) [AL.box p4 [(Value.int .i64 r4.2)]] := C64 _ _ a70 S71
        simp [-aBin', -aBin, -aBinI, -aUn, -aNil, -flatV, n_fn, b_add, b_sub, b_mul, b_lt, b_le, b_gt, b_ge, b_eq, b_ne, u_not]
        apply hK
        clear hK K
        simp only [andThen, leaves]
        have S72 := S68.pick [0] (by decide) rfl
        obtain rfl := Option.some.inj hL12
        exact ⟨S72, A69, by simp [], by simp []⟩
      · replace hL12 := cd_f hb15 hL12
        refine DWp.skip ?_
        simp only [andThen, leaves]
        obtain ⟨r5, hc73, hL12⟩ := bd_some hL12
        refine DWp.region fun K hK => ?_
        simp [-aBin', -aBin, -aBinI, -aUn, -aNil, -flatV, n_fn, b_add, b_sub, b_mul, b_lt, b_le, b_gt, b_ge, b_eq, b_ne, u_not, ((hx0.agree A3.agree).tup), (S1.ptup (k := 0) rfl)]
        have S74 : Sep G2 (Fr H) ([AL.box p4 [(Value.int .i64 0)]] ++ []) := S1.pick [0] (by decide) rfl
        obtain ⟨B80, S75, U76, M77, R78, C79⟩ := S74.frame (hB.le A3.1)
        refine CallD.t (F_slices_medianCmpFunc_2_int_w (fu := fu) U76 S75 (hx0.agree A3.agree) (fun i_ hi_ hb_ => Nat.not_le.2 (hx0.id_lt hi_) (M77 i_ hb_)) (fun G_ a_ => hx3 G_ (A3.trans (a_.mono M77))) hc73) ?_
        rintro _ G82 ⟨a85, rfl, S86⟩
        have A84 := A3.trans (a85.mono M77)
        have S83 : Sep G82 (Fr H) [AL.box p4 [(Value.int .i64 r5.2)]] := C79 _ _ a85 S86
        simp [-aBin', -aBin, -aBinI, -aUn, -aNil, -flatV, n_fn, b_add, b_sub, b_mul, b_lt, b_le, b_gt, b_ge, b_eq, b_ne, u_not]
        apply hK
        clear hK K
        simp only [andThen, leaves]
        have S87 := S83.pick [0] (by decide) rfl
        obtain rfl := Option.some.inj hL12
        exact ⟨S87, A84, by simp [], by simp []⟩
    · replace hL12 := cd_f hb14 hL12
      refine DWp.skip ?_
      simp only [andThen, leaves]
      have S88 := S1.pick [0] (by decide) rfl
      obtain rfl := Option.some.inj hL12
      exact ⟨S88, A3, by simp [], by simp []⟩
  · rintro env Gj89 ⟨Sj89, Aj89, ej89_11, ej89_13⟩
    refine DWp.seq ?_
    have q90 := Sj89.load0 (P := Try.prog) (k := 0) rfl sz_3 ag_3
    refine DWp.region fun K hK => ?_
    simp [-aBin', -aBin, -aBinI, -aUn, -aNil, -flatV, n_fn, b_add, b_sub, b_mul, b_lt, b_le, b_gt, b_ge, b_eq, b_ne, u_not, ej89_11, ej89_13, q90]
    apply hK
    clear hK K
    simp only [andThen, leaves]
    refine DWp.block ?_
    refine DWp.seq ?_
    refine DWp.region fun K hK => ?_
    simp [-aBin', -aBin, -aBinI, -aUn, -aNil, -flatV, n_fn, b_add, b_sub, b_mul, b_lt, b_le, b_gt, b_ge, b_eq, b_ne, u_not, ej89_11, ej89_13]
    apply hK
    clear hK K
    simp only [andThen, leaves]
    refine DWp.cond' (t := (ieq s11.1 0)) (by simp [ej89_11, ej89_13]) (fun hb91 => ?_) (fun hb91 => ?_)
    · replace hF := cd_t hb91 hF
      refine DWp.seq ?_
      refine DWp.region fun K hK => ?_
      simp [-aBin', -aBin, -aBinI, -aUn, -aNil, -flatV, n_fn, b_add, b_sub, b_mul, b_lt, b_le, b_gt, b_ge, b_eq, b_ne, u_not, ej89_11, ej89_13]
      apply hK
      clear hK K
      simp only [andThen, leaves]
      refine DWp.ret ?_
      simp only [andThen, leaves]
      obtain rfl := Option.some.inj hF
      exact ⟨by simp, [(Value.int .i64 s11.2), (Value.int .i64 1)], by simp [ej89_11, ej89_13], Aj89, rfl, Sj89.pick [] (by decide) rfl⟩
    · replace hF := cd_f hb91 hF
      refine DWp.seq ?_
      refine DWp.region fun K hK => ?_
      simp [-aBin', -aBin, -aBinI, -aUn, -aNil, -flatV, n_fn, b_add, b_sub, b_mul, b_lt, b_le, b_gt, b_ge, b_eq, b_ne, u_not, ej89_11, ej89_13]
      apply hK
      clear hK K
      simp only [andThen, leaves]
      refine DWp.cond' (t := (ieq s11.1 12)) (by simp [ej89_11, ej89_13]) (fun hb92 => ?_) (fun hb92 => ?_)
      · replace hF := cd_t hb92 hF
        refine DWp.seq ?_
        refine DWp.region fun K hK => ?_
        simp [-aBin', -aBin, -aBinI, -aUn, -aNil, -flatV, n_fn, b_add, b_sub, b_mul, b_lt, b_le, b_gt, b_ge, b_eq, b_ne, u_not, ej89_11, ej89_13]
        apply hK
        clear hK K
        simp only [andThen, leaves]
        refine DWp.ret ?_
        simp only [andThen, leaves]
        obtain rfl := Option.some.inj hF
        exact ⟨by simp, [(Value.int .i64 s11.2), (Value.int .i64 2)], by simp [ej89_11, ej89_13], Aj89, rfl, Sj89.pick [] (by decide) rfl⟩
      · replace hF := cd_f hb92 hF
        refine DWp.seq ?_
        refine DWp.region fun K hK => ?_
        simp [-aBin', -aBin, -aBinI, -aUn, -aNil, -flatV, n_fn, b_add, b_sub, b_mul, b_lt, b_le, b_gt, b_ge, b_eq, b_ne, u_not, ej89_11, ej89_13]
        apply hK
        clear hK K
        simp only [andThen, leaves]
        refine DWp.ret ?_
        simp only [andThen, leaves]
        obtain rfl := Option.some.inj hF
        exact ⟨by simp, [(Value.int .i64 s11.2), (Value.int .i64 0)], by simp [ej89_11, ej89_13], Aj89, rfl, Sj89.pick [] (by decide) rfl⟩
def F_slices_reverseRangeCmpFunc_2_int_L1 (fu : Nat)  : Nat → List (Int × Int) → Int → Int → Option (List (Int × Int) × Int × Int)
  | 0, _, _, _ => none
  | n + 1, l1_0, y1_8, y1_9 =>
    bif (ilt y1_8 y1_9) then
      gd (inL l1_0 y1_9) (
      gd (inL l1_0 y1_8) (
      gd (inL l1_0 y1_8) (
      gd (inL (lset l1_0 y1_8 ((gat i2 l1_0 y1_9).1, (gat i2 l1_0 y1_9).2)) y1_9) (
      F_slices_reverseRangeCmpFunc_2_int_L1 fu n (lset (lset l1_0 y1_8 ((gat i2 l1_0 y1_9).1, (gat i2 l1_0 y1_9).2)) y1_9 ((gat i2 l1_0 y1_8).1, (gat i2 l1_0 y1_8).2)) (iadd .i64 y1_8 1) (isub .i64 y1_9 1)))))
    else
      some (l1_0, y1_8, y1_9)
def F_slices_reverseRangeCmpFunc_2_int (fu : Nat) (x0 : List (Int × Int)) (x1 : Int) (x2 : Int) (x3 : Int → Int → Int → Int → Option (Int)) : Option (List (Int × Int)) :=
  bd (F_slices_reverseRangeCmpFunc_2_int_L1 fu fu x0 x1 (isub .i64 x2 1)) fun s1 =>
  some s1.1
theorem F_slices_reverseRangeCmpFunc_2_int_w {fu : Nat} {H : AH} {B : Nat → Prop} {v0 : Value} {f3 : FuncId} {c3 : List Value} {x0 : List (Int × Int)} {x1 : Int} {x2 : Int} {x3 : Int → Int → Int → Int → Option (Int)} {r : (List (Int × Int))} (hB : Up B H.length) (S0 : Sep H B [flatI v0 62 x0]) (hx3 : ∀ (G : AH), AgB B H G → ∀ (y0_0 : Int) (y0_1 : Int) (y1_0 : Int) (y1_1 : Int) (q : (Int)), x3 y0_0 y0_1 y1_0 y1_1 = some q → ACallT Try.prog f3 ([(Value.agg #[(Value.int .i64 y0_0), (Value.int .i64 y0_1)]), (Value.agg #[(Value.int .i64 y1_0), (Value.int .i64 y1_1)])] ++ c3) G (fun u G' => AgB (Fr G) G G' ∧ u = (Value.int .i64 q) ∧ Sep G' (Fr G) [])) (hF : F_slices_reverseRangeCmpFunc_2_int fu x0 x1 x2 x3 = some r) :
    ACallT Try.prog 126 [v0, (Value.int .i64 x1), (Value.int .i64 x2), (Value.func (.func f3) #[] c3.toArray)] H (fun u G => AgB B H G ∧ u = (Value.tuple #[]) ∧ Sep G B [flatI v0 62 r]) := by
  refine ACallT.of_body (nt := 34) (rs := []) Try.func126 rfl rfl rfl rfl ?_
  have A0 : AgB B H H := .refl _ _
  unfold F_slices_reverseRangeCmpFunc_2_int at hF
  refine DWp.seq ?_
  refine DWp.region fun K hK => ?_
  simp [-aBin', -aBin, -aBinI, -aUn, -aNil, -flatV, n_fn, b_add, b_sub, b_mul, b_lt, b_le, b_gt, b_ge, b_eq, b_ne, u_not]
  apply hK
  clear hK K
  simp only [andThen, leaves]
  refine DWp.seq ?_
  refine DWp.region fun K hK => ?_
  simp [-aBin', -aBin, -aBinI, -aUn, -aNil, -flatV, n_fn, b_add, b_sub, b_mul, b_lt, b_le, b_gt, b_ge, b_eq, b_ne, u_not]
  apply hK
  clear hK K
  simp only [andThen, leaves]
  refine DWp.block ?_
  obtain ⟨s1, hL2, hF⟩ := bd_some hF
  have S3 := S0.pick [0] (by decide) rfl
  refine DWp.loop (fun n env G => ∃ l1_0 : List (Int × Int), ∃ y1_8 : Int, ∃ y1_9 : Int, F_slices_reverseRangeCmpFunc_2_int_L1 fu n l1_0 y1_8 y1_9 = some s1 ∧ Sep G B [flatI v0 62 l1_0] ∧ AgB B H G ∧ env 0 = some v0 ∧ env 8 = some (Value.int .i64 y1_8) ∧ env 9 = some (Value.int .i64 y1_9)) fu ⟨x0, x1, (isub .i64 x2 1), hL2, S3, A0, by simp [], by simp [], by simp []⟩ ?_
  rintro n1 env1 G1_ ⟨l1_0, y1_8, y1_9, hL2, S1_, A1_, e1_0, e1_8, e1_9⟩
  cases n1 with
  | zero => cases hL2
  | succ n1 =>
    simp only [F_slices_reverseRangeCmpFunc_2_int_L1] at hL2
    refine DWp.seq ?_
    refine DWp.seq ?_
    refine DWp.region fun K hK => ?_
    simp [-aBin', -aBin, -aBinI, -aUn, -aNil, -flatV, n_fn, b_add, b_sub, b_mul, b_lt, b_le, b_gt, b_ge, b_eq, b_ne, u_not, e1_0, e1_8, e1_9]
    apply hK
    clear hK K
    simp only [andThen, leaves]
    refine DWp.cond' (t := (ilt y1_8 y1_9)) (by simp [e1_0, e1_8, e1_9]) (fun hb4 => ?_) (fun hb4 => ?_)
    · replace hL2 := cd_t hb4 hL2
      refine DWp.skip ?_
      simp only [andThen, leaves]
      refine DWp.block ?_
      refine DWp.seq ?_
      obtain ⟨g5, hL2⟩ := gd_some hL2
      have q6 := (S1_.slI (k := 0) rfl).idxG (P := Try.prog) (kk := .i64) el_58 sz_62 g5
      have q7 := (S1_.slI (k := 0) rfl).loadG (P := Try.prog) sz_62 ag_62 g5
      obtain ⟨g8, hL2⟩ := gd_some hL2
      have q9 := (S1_.slI (k := 0) rfl).idxG (P := Try.prog) (kk := .i64) el_58 sz_62 g8
      have q10 := (S1_.slI (k := 0) rfl).loadG (P := Try.prog) sz_62 ag_62 g8
      obtain ⟨g11, hL2⟩ := gd_some hL2
      have q12 := (S1_.slI (k := 0) rfl).idxG (P := Try.prog) (kk := .i64) el_58 sz_62 g11
      obtain ⟨G13, q14, S15, a17⟩ := S1_.putI (P := Try.prog) (k := 0) (a := (gat i2 l1_0 y1_9).1) (b := (gat i2 l1_0 y1_9).2) rfl (hB.le A1_.1) sz_62 g11
      have A16 := A1_.trans a17
      replace S15 : Sep G13 B [flatI v0 62 (lset l1_0 y1_8 ((gat i2 l1_0 y1_9).1, (gat i2 l1_0 y1_9).2))] := S15
      obtain ⟨g18, hL2⟩ := gd_some hL2
      have q19 := (S15.slI (k := 0) rfl).idxG (P := Try.prog) (kk := .i64) el_58 sz_62 g18
      obtain ⟨G20, q21, S22, a24⟩ := S15.putI (P := Try.prog) (k := 0) (a := (gat i2 l1_0 y1_8).1) (b := (gat i2 l1_0 y1_8).2) rfl (hB.le A16.1) sz_62 g18
      have A23 := A16.trans a24
      replace S22 : Sep G20 B [flatI v0 62 (lset (lset l1_0 y1_8 ((gat i2 l1_0 y1_9).1, (gat i2 l1_0 y1_9).2)) y1_9 ((gat i2 l1_0 y1_8).1, (gat i2 l1_0 y1_8).2))] := S22
      refine DWp.drawn (B := [0, 0, 0, 0, 0, 0, 48, 112, 0, 0, 768, 1792, 4083, 8179, 16383, 32767]) 13 mixed (by kernel_rfl) (by decide) fun K hK => ?_
      simp [-aBin', -aBin, -aBinI, -aUn, -aNil, -flatV, n_fn, b_add, b_sub, b_mul, b_lt, b_le, b_gt, b_ge, b_eq, b_ne, u_not, e1_0, e1_8, e1_9, q6, q7, q9, q10, q12, q14, q19, q21]
      apply hK
      clear hK K
      simp only [andThen, leaves]
      refine DWp.seq ?_
      refine DWp.region fun K hK => ?_
      simp [-aBin', -aBin, -aBinI, -aUn, -aNil, -flatV, n_fn, b_add, b_sub, b_mul, b_lt, b_le, b_gt, b_ge, b_eq, b_ne, u_not, e1_0, e1_8, e1_9]
      apply hK
      clear hK K
      simp only [andThen, leaves]
      refine DWp.region fun K hK => ?_
      simp [-aBin', -aBin, -aBinI, -aUn, -aNil, -flatV, n_fn, b_add, b_sub, b_mul, b_lt, b_le, b_gt, b_ge, b_eq, b_ne, u_not, e1_0, e1_8, e1_9]
      apply hK
      clear hK K
      simp only [andThen, leaves]
      have S25 := S22.pick [0] (by decide) rfl
      exact ⟨n1, Nat.lt_succ_self _, (lset (lset l1_0 y1_8 ((gat i2 l1_0 y1_9).1, (gat i2 l1_0 y1_9).2)) y1_9 ((gat i2 l1_0 y1_8).1, (gat i2 l1_0 y1_8).2)), (iadd .i64 y1_8 1), (isub .i64 y1_9 1), hL2, S25, A23, by simp [e1_0, e1_8, e1_9], by simp [e1_0, e1_8, e1_9], by simp [e1_0, e1_8, e1_9]⟩
    · replace hL2 := cd_f hb4 hL2
      refine DWp.exit ?_
      simp only [andThen, leaves, if_true, if_false, reduceIte, Nat.reduceEqDiff]
      obtain rfl := Option.some.inj hL2
      try dsimp only at hF
      obtain rfl := Option.some.inj hF
      exact ⟨by simp, [], by simp [e1_0, e1_8, e1_9], A1_, rfl, S1_.pick [0] (by decide) rfl⟩
end Go.Proofs.Ytdghlhdpcmemjaa.AL

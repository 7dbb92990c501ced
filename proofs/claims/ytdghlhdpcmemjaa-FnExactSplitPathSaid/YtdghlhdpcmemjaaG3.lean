/- The walks of functions, each with its Lean function: slices.partialInsertionSortCmpFunc[[2]int], slices.partitionEqualCmpFunc[[2]int], slices.partitionCmpFunc[[2]int], slices.pdqsortCmpFunc[[2]int], slices.SortFunc[[][2]int,[2]int], cmp.isNaN[int], cmp.Compare[int], slices.Compare[[]int,int], impl.couples$1, impl.couples. No condition. -/
import Derived.Test.YtdghlhdpcmemjaaFBD
import Derived.Test.YtdghlhdpcmemjaaFBE
import Derived.Test.YtdghlhdpcmemjaaG1
import Derived.Test.YtdghlhdpcmemjaaG2
import Derived.Test.YtdghlhdpcmemjaaALD
import Derived.Test.YtdghlhdpcmemjaaProg
import Derived.KernelRfl
namespace Go.Proofs.Ytdghlhdpcmemjaa.AL
open Go Go.RowKit
set_option linter.unusedVariables false
set_option linter.unusedSimpArgs false
set_option maxRecDepth 4096
theorem ei_62 : einfo Try.prog 62 = some ⟨2, 16, .agg #[.int .i64 0, .int .i64 0]⟩ := by kernel_rfl
theorem pl_62 : placeT Try.prog 62 = some (.agg #[.int .i64 0, .int .i64 0], fun i => some (i * 1, 1)) := by kernel_rfl
theorem ua_62 : Try.prog.underlying 62 = some (.array 2 3) := by kernel_rfl
theorem bu_62 {a0 a1 : Value} (t0 : isTup a0 = false) (c0 : a0.cells = #[a0]) (t1 : isTup a1 = false) (c1 : a1.cells = #[a1]) : aBuild Try.prog 62 [(0, a0), (1, a1)] = some (.agg #[a0, a1]) := buildA2 pl_62 rfl rfl t0 c0 t1 c1
def F_slices_partialInsertionSortCmpFunc_2_int_L2 (fu : Nat) (k2_0 : List (Int × Int)) (k2_1 : Int) (k2_2 : Int) (k2_3 : (Int → Int → Int → Int → Option (Int))) (k2_4 : Int) : Nat → Int → Option (Int)
  | 0, _ => none
  | n + 1, y2_9 =>
    bif (ilt y2_9 k2_2) then
      gd (inL k2_0 y2_9) (
      gd (inL k2_0 (isub .i64 y2_9 1)) (
      bd (k2_3 ((gat i2 k2_0 y2_9).1) ((gat i2 k2_0 y2_9).2) ((gat i2 k2_0 (isub .i64 y2_9 1)).1) ((gat i2 k2_0 (isub .i64 y2_9 1)).2)) fun r1 =>
      bif (bnot (ilt r1 0)) then
        F_slices_partialInsertionSortCmpFunc_2_int_L2 fu k2_0 k2_1 k2_2 k2_3 k2_4 n (iadd .i64 y2_9 1)
      else
        some y2_9))
    else
      some y2_9
def F_slices_partialInsertionSortCmpFunc_2_int_L3 (fu : Nat) (k3_0 : Int) (k3_1 : Int) (k3_2 : (Int → Int → Int → Int → Option (Int))) (k3_3 : Int) (k3_4 : Int) : Nat → List (Int × Int) → Int → Option (List (Int × Int) × Int)
  | 0, _, _ => none
  | n + 1, l3_0, y3_11 =>
    bif (ile 1 y3_11) then
      gd (inL l3_0 y3_11) (
      gd (inL l3_0 (isub .i64 y3_11 1)) (
      bd (k3_2 ((gat i2 l3_0 y3_11).1) ((gat i2 l3_0 y3_11).2) ((gat i2 l3_0 (isub .i64 y3_11 1)).1) ((gat i2 l3_0 (isub .i64 y3_11 1)).2)) fun r2 =>
      bif (bnot (ilt r2 0)) then
        some (l3_0, y3_11)
      else
        gd (inL l3_0 (isub .i64 y3_11 1)) (
        gd (inL l3_0 y3_11) (
        gd (inL l3_0 y3_11) (
        gd (inL (lset l3_0 y3_11 ((gat i2 l3_0 (isub .i64 y3_11 1)).1, (gat i2 l3_0 (isub .i64 y3_11 1)).2)) (isub .i64 y3_11 1)) (
        F_slices_partialInsertionSortCmpFunc_2_int_L3 fu k3_0 k3_1 k3_2 k3_3 k3_4 n (lset (lset l3_0 y3_11 ((gat i2 l3_0 (isub .i64 y3_11 1)).1, (gat i2 l3_0 (isub .i64 y3_11 1)).2)) (isub .i64 y3_11 1) ((gat i2 l3_0 y3_11).1, (gat i2 l3_0 y3_11).2)) (isub .i64 y3_11 1)))))))
    else
      some (l3_0, y3_11)
def F_slices_partialInsertionSortCmpFunc_2_int_L4 (fu : Nat) (k4_0 : Int) (k4_1 : Int) (k4_2 : (Int → Int → Int → Int → Option (Int))) (k4_3 : Int) (k4_4 : Int) : Nat → List (Int × Int) → Int → Option (List (Int × Int) × Int)
  | 0, _, _ => none
  | n + 1, l4_0, y4_12 =>
    bif (ilt y4_12 k4_1) then
      gd (inL l4_0 y4_12) (
      gd (inL l4_0 (isub .i64 y4_12 1)) (
      bd (k4_2 ((gat i2 l4_0 y4_12).1) ((gat i2 l4_0 y4_12).2) ((gat i2 l4_0 (isub .i64 y4_12 1)).1) ((gat i2 l4_0 (isub .i64 y4_12 1)).2)) fun r3 =>
      bif (bnot (ilt r3 0)) then
        some (l4_0, y4_12)
      else
        gd (inL l4_0 (isub .i64 y4_12 1)) (
        gd (inL l4_0 y4_12) (
        gd (inL l4_0 y4_12) (
        gd (inL (lset l4_0 y4_12 ((gat i2 l4_0 (isub .i64 y4_12 1)).1, (gat i2 l4_0 (isub .i64 y4_12 1)).2)) (isub .i64 y4_12 1)) (
        F_slices_partialInsertionSortCmpFunc_2_int_L4 fu k4_0 k4_1 k4_2 k4_3 k4_4 n (lset (lset l4_0 y4_12 ((gat i2 l4_0 (isub .i64 y4_12 1)).1, (gat i2 l4_0 (isub .i64 y4_12 1)).2)) (isub .i64 y4_12 1) ((gat i2 l4_0 y4_12).1, (gat i2 l4_0 y4_12).2)) (iadd .i64 y4_12 1)))))))
    else
      some (l4_0, y4_12)
def F_slices_partialInsertionSortCmpFunc_2_int_L1 (fu : Nat) (k1_0 : Int) (k1_1 : Int) (k1_2 : (Int → Int → Int → Int → Option (Int))) : Nat → List (Int × Int) → Int → Int → Option (LR (Bool × List (Int × Int)) (List (Int × Int) × Int × Int))
  | 0, _, _, _ => none
  | n + 1, l1_0, y1_9, y1_10 =>
    bif (ilt y1_10 5) then
      bd (
        bd (F_slices_partialInsertionSortCmpFunc_2_int_L2 fu l1_0 k1_0 k1_1 k1_2 y1_10 fu y1_9) fun s2 =>
        some s2) fun s5 =>
      bif (ieq s5 k1_1) then
        some (.ret (true, l1_0))
      else
        bif (ilt (isub .i64 k1_1 k1_0) 50) then
          some (.ret (false, l1_0))
        else
          gd (inL l1_0 (isub .i64 s5 1)) (
          gd (inL l1_0 s5) (
          gd (inL l1_0 s5) (
          gd (inL (lset l1_0 s5 ((gat i2 l1_0 (isub .i64 s5 1)).1, (gat i2 l1_0 (isub .i64 s5 1)).2)) (isub .i64 s5 1)) (
          bd (
            bif (ile 2 (isub .i64 s5 k1_0)) then
              bd (F_slices_partialInsertionSortCmpFunc_2_int_L3 fu k1_0 k1_1 k1_2 s5 y1_10 fu (lset (lset l1_0 s5 ((gat i2 l1_0 (isub .i64 s5 1)).1, (gat i2 l1_0 (isub .i64 s5 1)).2)) (isub .i64 s5 1) ((gat i2 l1_0 s5).1, (gat i2 l1_0 s5).2)) (isub .i64 s5 1)) fun s3 =>
              some s3.1
            else
              some (lset (lset l1_0 s5 ((gat i2 l1_0 (isub .i64 s5 1)).1, (gat i2 l1_0 (isub .i64 s5 1)).2)) (isub .i64 s5 1) ((gat i2 l1_0 s5).1, (gat i2 l1_0 s5).2))) fun s50 =>
          bif (ile 2 (isub .i64 k1_1 s5)) then
            bd (F_slices_partialInsertionSortCmpFunc_2_int_L4 fu k1_0 k1_1 k1_2 s5 y1_10 fu s50 (iadd .i64 s5 1)) fun s4 =>
            F_slices_partialInsertionSortCmpFunc_2_int_L1 fu k1_0 k1_1 k1_2 n s4.1 s5 (iadd .i64 y1_10 1)
          else
            F_slices_partialInsertionSortCmpFunc_2_int_L1 fu k1_0 k1_1 k1_2 n s50 s5 (iadd .i64 y1_10 1)))))
    else
      some (.brk (l1_0, y1_9, y1_10))
def F_slices_partialInsertionSortCmpFunc_2_int (fu : Nat) (x0 : List (Int × Int)) (x1 : Int) (x2 : Int) (x3 : Int → Int → Int → Int → Option (Int)) : Option (Bool × List (Int × Int)) :=
  bd (F_slices_partialInsertionSortCmpFunc_2_int_L1 fu x1 x2 x3 fu x0 (iadd .i64 x1 1) 0) fun s1 =>
  lr s1 fun s1 =>
  some (false, s1.1)
theorem F_slices_partialInsertionSortCmpFunc_2_int_w {fu : Nat} {H : AH} {B : Nat → Prop} {v0 : Value} {f3 : FuncId} {c3 : List Value} {x0 : List (Int × Int)} {x1 : Int} {x2 : Int} {x3 : Int → Int → Int → Int → Option (Int)} {r : (Bool × List (Int × Int))} (hB : Up B H.length) (S0 : Sep H B [flatI v0 62 x0]) (hx3 : ∀ (G : AH), AgB B H G → ∀ (y0_0 : Int) (y0_1 : Int) (y1_0 : Int) (y1_1 : Int) (q : (Int)), x3 y0_0 y0_1 y1_0 y1_1 = some q → ACallT Try.prog f3 ([(Value.agg #[(Value.int .i64 y0_0), (Value.int .i64 y0_1)]), (Value.agg #[(Value.int .i64 y1_0), (Value.int .i64 y1_1)])] ++ c3) G (fun u G' => AgB (Fr G) G G' ∧ u = (Value.int .i64 q) ∧ Sep G' (Fr G) [])) (hF : F_slices_partialInsertionSortCmpFunc_2_int fu x0 x1 x2 x3 = some r) :
    ACallT Try.prog 127 [v0, (Value.int .i64 x1), (Value.int .i64 x2), (Value.func (.func f3) #[] c3.toArray)] H (fun u G => AgB B H G ∧ u = (Value.bool r.1) ∧ Sep G B [flatI v0 62 r.2]) := by
  refine ACallT.of_body (nt := 141) (rs := [.tmp 8]) Try.func127 rfl rfl rfl rfl ?_
  have A0 : AgB B H H := .refl _ _
  unfold F_slices_partialInsertionSortCmpFunc_2_int at hF
  refine DWp.seq ?_
  refine DWp.region fun K hK => ?_
  simp [-aBin', -aBin, -aBinI, -aUn, -aNil, -flatV, n_fn, b_add, b_sub, b_mul, b_lt, b_le, b_gt, b_ge, b_eq, b_ne, u_not]
  apply hK
  clear hK K
  simp only [andThen, leaves]
  refine DWp.seq ?_
  refine DWp.region fun K hK => ?_
  simp [-aBin', -aBin, -aBinI, -aUn, -aNil, -flatV, n_fn, b_add, b_sub, b_mul, b_lt, b_le, b_gt, b_ge, b_eq, b_ne, u_not]
  apply hK
  clear hK K
  simp only [andThen, leaves]
  refine DWp.seq ?_
  refine DWp.seq ?_
  refine DWp.region fun K hK => ?_
  simp [-aBin', -aBin, -aBinI, -aUn, -aNil, -flatV, n_fn, b_add, b_sub, b_mul, b_lt, b_le, b_gt, b_ge, b_eq, b_ne, u_not]
  apply hK
  clear hK K
  simp only [andThen, leaves]
  refine DWp.block ?_
  obtain ⟨s1, hL2, hF⟩ := bd_some hF
  have S3 := S0.pick [0] (by decide) rfl
  refine DWp.loop (fun n env G => ∃ l1_0 : List (Int × Int), ∃ y1_9 : Int, ∃ y1_10 : Int, F_slices_partialInsertionSortCmpFunc_2_int_L1 fu x1 x2 x3 n l1_0 y1_9 y1_10 = some s1 ∧ Sep G B [flatI v0 62 l1_0] ∧ AgB B H G ∧ env 0 = some v0 ∧ env 1 = some (Value.int .i64 x1) ∧ env 2 = some (Value.int .i64 x2) ∧ env 3 = some (Value.func (.func f3) #[] c3.toArray) ∧ env 9 = some (Value.int .i64 y1_9) ∧ env 10 = some (Value.int .i64 y1_10)) fu ⟨x0, (iadd .i64 x1 1), 0, hL2, S3, A0, by simp [], by simp [], by simp [], by simp [], by simp [], by simp []⟩ ?_
  rintro n1 env1 G1_ ⟨l1_0, y1_9, y1_10, hL2, S1_, A1_, e1_0, e1_1, e1_2, e1_3, e1_9, e1_10⟩
  cases n1 with
  | zero => cases hL2
  | succ n1 =>
    simp only [F_slices_partialInsertionSortCmpFunc_2_int_L1] at hL2
    refine DWp.seq ?_
    refine DWp.seq ?_
    refine DWp.region fun K hK => ?_
    simp [-aBin', -aBin, -aBinI, -aUn, -aNil, -flatV, n_fn, b_add, b_sub, b_mul, b_lt, b_le, b_gt, b_ge, b_eq, b_ne, u_not, e1_0, e1_1, e1_2, e1_3, e1_9, e1_10]
    apply hK
    clear hK K
    simp only [andThen, leaves]
    refine DWp.cond' (t := (ilt y1_10 5)) (by simp [e1_0, e1_1, e1_2, e1_3, e1_9, e1_10]) (fun hb4 => ?_) (fun hb4 => ?_)
    · replace hL2 := cd_t hb4 hL2
      refine DWp.skip ?_
      simp only [andThen, leaves]
      refine DWp.seq ?_
      refine DWp.block ?_
      obtain ⟨s5, hL6, hL2⟩ := bd_some hL2
      refine DWp.seq (DWp.join (fun env G => Sep G B [flatI v0 62 l1_0] ∧ AgB B H G ∧ env 0 = some v0 ∧ env 1 = some (Value.int .i64 x1) ∧ env 2 = some (Value.int .i64 x2) ∧ env 3 = some (Value.func (.func f3) #[] c3.toArray) ∧ env 9 = some (Value.int .i64 s5) ∧ env 10 = some (Value.int .i64 y1_10)) ?_ ?_)
      ·
        refine DWp.block ?_
        obtain ⟨s8, hL9, hL6⟩ := bd_some hL6
        have S10 := S1_.pick [0] (by decide) rfl
        refine DWp.loop (fun n env G => ∃ y2_9 : Int, F_slices_partialInsertionSortCmpFunc_2_int_L2 fu l1_0 x1 x2 x3 y1_10 n y2_9 = some s8 ∧ Sep G B [flatI v0 62 l1_0] ∧ AgB B H G ∧ env 0 = some v0 ∧ env 1 = some (Value.int .i64 x1) ∧ env 2 = some (Value.int .i64 x2) ∧ env 3 = some (Value.func (.func f3) #[] c3.toArray) ∧ env 9 = some (Value.int .i64 y2_9) ∧ env 10 = some (Value.int .i64 y1_10)) fu ⟨y1_9, hL9, S10, A1_, by simp [e1_0, e1_1, e1_2, e1_3, e1_9, e1_10], by simp [e1_0, e1_1, e1_2, e1_3, e1_9, e1_10], by simp [e1_0, e1_1, e1_2, e1_3, e1_9, e1_10], by simp [e1_0, e1_1, e1_2, e1_3, e1_9, e1_10], by simp [e1_0, e1_1, e1_2, e1_3, e1_9, e1_10], by simp [e1_0, e1_1, e1_2, e1_3, e1_9, e1_10]⟩ ?_
        rintro n3 env3 G3_ ⟨y2_9, hL9, S3_, A3_, e3_0, e3_1, e3_2, e3_3, e3_9, e3_10⟩
        cases n3 with
        | zero => cases hL9
        | succ n3 =>
          simp only [F_slices_partialInsertionSortCmpFunc_2_int_L2] at hL9
          refine DWp.seq ?_
          refine DWp.seq ?_
          rcases Bool.eq_false_or_eq_true (ilt y2_9 x2) with hb11 | hb11
          · replace hL9 := cd_t hb11 hL9
            obtain ⟨g12, hL9⟩ := gd_some hL9
            have q13 := (S3_.slI (k := 0) rfl).idxG (P := Try.prog) (kk := .i64) el_58 sz_62 g12
            have q14 := (S3_.slI (k := 0) rfl).loadG (P := Try.prog) sz_62 ag_62 g12
            obtain ⟨g15, hL9⟩ := gd_some hL9
            have q16 := (S3_.slI (k := 0) rfl).idxG (P := Try.prog) (kk := .i64) el_58 sz_62 g15
            have q17 := (S3_.slI (k := 0) rfl).loadG (P := Try.prog) sz_62 ag_62 g15
            obtain ⟨r1, hc18, hL9⟩ := bd_some hL9
            refine DWp.drawn (B := [0, 0, 3, 7, 15, 15, 15, 111, 239, 15, 15, 1039, 3599, 7695, 16383, 32767, 65535, 131071]) 18 mixed (by kernel_rfl) (by decide) fun K hK => ?_
            simp [-aBin', -aBin, -aBinI, -aUn, -aNil, -flatV, n_fn, b_add, b_sub, b_mul, b_lt, b_le, b_gt, b_ge, b_eq, b_ne, u_not, e3_0, e3_1, e3_2, e3_3, e3_9, e3_10, hb11, q13, q14, q16, q17]
            refine CallD.t (hx3 _ A3_ ((gat i2 l1_0 y2_9).1) ((gat i2 l1_0 y2_9).2) ((gat i2 l1_0 (isub .i64 y2_9 1)).1) ((gat i2 l1_0 (isub .i64 y2_9 1)).2) _  hc18) ?_
            rintro _ G19 ⟨a22, rfl, S23⟩
            have A21 := A3_.ext (hB.le A3_.1) a22.agree
            have S20 : Sep G19 B [flatI v0 62 l1_0] := S3_.agree a22.agree
            simp [-aBin', -aBin, -aBinI, -aUn, -aNil, -flatV, n_fn, b_add, b_sub, b_mul, b_lt, b_le, b_gt, b_ge, b_eq, b_ne, u_not, e3_0, e3_1, e3_2, e3_3, e3_9, e3_10, hb11, q13, q14, q16, q17, a22.pre]
            apply hK
            clear hK K
            simp only [andThen, leaves]
            refine DWp.cond' (t := (bnot (ilt r1 0))) (by simp [e3_0, e3_1, e3_2, e3_3, e3_9, e3_10]) (fun hb24 => ?_) (fun hb24 => ?_)
            · replace hL9 := cd_t hb24 hL9
              refine DWp.skip ?_
              simp only [andThen, leaves]
              refine DWp.block ?_
              refine DWp.region fun K hK => ?_
              simp [-aBin', -aBin, -aBinI, -aUn, -aNil, -flatV, n_fn, b_add, b_sub, b_mul, b_lt, b_le, b_gt, b_ge, b_eq, b_ne, u_not, e3_0, e3_1, e3_2, e3_3, e3_9, e3_10]
              apply hK
              clear hK K
              simp only [andThen, leaves]
              have S25 := S20.pick [0] (by decide) rfl
              exact ⟨n3, Nat.lt_succ_self _, (iadd .i64 y2_9 1), hL9, S25, A21, by simp [e3_0, e3_1, e3_2, e3_3, e3_9, e3_10], by simp [e3_0, e3_1, e3_2, e3_3, e3_9, e3_10], by simp [e3_0, e3_1, e3_2, e3_3, e3_9, e3_10], by simp [e3_0, e3_1, e3_2, e3_3, e3_9, e3_10], by simp [e3_0, e3_1, e3_2, e3_3, e3_9, e3_10], by simp [e3_0, e3_1, e3_2, e3_3, e3_9, e3_10]⟩
            · replace hL9 := cd_f hb24 hL9
              refine DWp.exit ?_
              simp only [andThen, leaves, if_true, if_false, reduceIte, Nat.reduceEqDiff]
              obtain rfl := Option.some.inj hL9
              have S26 := S20.pick [0] (by decide) rfl
              obtain rfl := Option.some.inj hL6
              exact ⟨S26, A21, by simp [e3_0, e3_1, e3_2, e3_3, e3_9, e3_10], by simp [e3_0, e3_1, e3_2, e3_3, e3_9, e3_10], by simp [e3_0, e3_1, e3_2, e3_3, e3_9, e3_10], by simp [e3_0, e3_1, e3_2, e3_3, e3_9, e3_10], by simp [e3_0, e3_1, e3_2, e3_3, e3_9, e3_10], by simp [e3_0, e3_1, e3_2, e3_3, e3_9, e3_10]⟩
          · replace hL9 := cd_f hb11 hL9
            refine DWp.drawn (B := [0, 0, 3, 7, 15, 15, 15, 111, 239, 15, 15, 1039, 3599, 7695, 16383, 32767, 65535, 131071]) 18 mixed (by kernel_rfl) (by decide) fun K hK => ?_
            simp [-aBin', -aBin, -aBinI, -aUn, -aNil, -flatV, n_fn, b_add, b_sub, b_mul, b_lt, b_le, b_gt, b_ge, b_eq, b_ne, u_not, e3_0, e3_1, e3_2, e3_3, e3_9, e3_10, hb11]
            apply hK
            clear hK K
            simp only [andThen, leaves]
            refine DWp.cf (by simp [e3_0, e3_1, e3_2, e3_3, e3_9, e3_10, bnot]) ?_
            refine DWp.exit ?_
            simp only [andThen, leaves, if_true, if_false, reduceIte, Nat.reduceEqDiff]
            obtain rfl := Option.some.inj hL9
            have S27 := S3_.pick [0] (by decide) rfl
            obtain rfl := Option.some.inj hL6
            exact ⟨S27, A3_, by simp [e3_0, e3_1, e3_2, e3_3, e3_9, e3_10], by simp [e3_0, e3_1, e3_2, e3_3, e3_9, e3_10], by simp [e3_0, e3_1, e3_2, e3_3, e3_9, e3_10], by simp [e3_0, e3_1, e3_2, e3_3, e3_9, e3_10], by simp [e3_0, e3_1, e3_2, e3_3, e3_9, e3_10], by simp [e3_0, e3_1, e3_2, e3_3, e3_9, e3_10]⟩
      · rintro env Gj28 ⟨Sj28, Aj28, ej28_0, ej28_1, ej28_2, ej28_3, ej28_9, ej28_10⟩
        refine DWp.seq ?_
        refine DWp.seq ?_
        refine DWp.region fun K hK => ?_
        simp [-aBin', -aBin, -aBinI, -aUn, -aNil, -flatV, n_fn, b_add, b_sub, b_mul, b_lt, b_le, b_gt, b_ge, b_eq, b_ne, u_not, ej28_0, ej28_1, ej28_2, ej28_3, ej28_9, ej28_10]
        apply hK
        clear hK K
        simp only [andThen, leaves]
        refine DWp.cond' (t := (ieq s5 x2)) (by simp [ej28_0, ej28_1, ej28_2, ej28_3, ej28_9, ej28_10]) (fun hb29 => ?_) (fun hb29 => ?_)
        · replace hL2 := cd_t hb29 hL2
          refine DWp.seq ?_
          refine DWp.region fun K hK => ?_
          simp [-aBin', -aBin, -aBinI, -aUn, -aNil, -flatV, n_fn, b_add, b_sub, b_mul, b_lt, b_le, b_gt, b_ge, b_eq, b_ne, u_not, ej28_0, ej28_1, ej28_2, ej28_3, ej28_9, ej28_10]
          apply hK
          clear hK K
          simp only [andThen, leaves]
          refine DWp.ret ?_
          simp only [andThen, leaves]
          obtain rfl := Option.some.inj hL2
          simp only [lr] at hF
          obtain rfl := Option.some.inj hF
          exact ⟨by simp, [(Value.bool true)], by simp [ej28_0, ej28_1, ej28_2, ej28_3, ej28_9, ej28_10], Aj28, rfl, Sj28.pick [0] (by decide) rfl⟩
        · replace hL2 := cd_f hb29 hL2
          refine DWp.skip ?_
          simp only [andThen, leaves]
          refine DWp.seq ?_
          refine DWp.seq ?_
          refine DWp.region fun K hK => ?_
          simp [-aBin', -aBin, -aBinI, -aUn, -aNil, -flatV, n_fn, b_add, b_sub, b_mul, b_lt, b_le, b_gt, b_ge, b_eq, b_ne, u_not, ej28_0, ej28_1, ej28_2, ej28_3, ej28_9, ej28_10]
          apply hK
          clear hK K
          simp only [andThen, leaves]
          refine DWp.cond' (t := (ilt (isub .i64 x2 x1) 50)) (by simp [ej28_0, ej28_1, ej28_2, ej28_3, ej28_9, ej28_10]) (fun hb30 => ?_) (fun hb30 => ?_)
          · replace hL2 := cd_t hb30 hL2
            refine DWp.seq ?_
            refine DWp.region fun K hK => ?_
            simp [-aBin', -aBin, -aBinI, -aUn, -aNil, -flatV, n_fn, b_add, b_sub, b_mul, b_lt, b_le, b_gt, b_ge, b_eq, b_ne, u_not, ej28_0, ej28_1, ej28_2, ej28_3, ej28_9, ej28_10]
            apply hK
            clear hK K
            simp only [andThen, leaves]
            refine DWp.ret ?_
            simp only [andThen, leaves]
            obtain rfl := Option.some.inj hL2
            simp only [lr] at hF
            obtain rfl := Option.some.inj hF
            exact ⟨by simp, [(Value.bool false)], by simp [ej28_0, ej28_1, ej28_2, ej28_3, ej28_9, ej28_10], Aj28, rfl, Sj28.pick [0] (by decide) rfl⟩
          · replace hL2 := cd_f hb30 hL2
            refine DWp.skip ?_
            simp only [andThen, leaves]
            refine DWp.seq ?_
            obtain ⟨g31, hL2⟩ := gd_some hL2
            have q32 := (Sj28.slI (k := 0) rfl).idxG (P := Try.prog) (kk := .i64) el_58 sz_62 g31
            have q33 := (Sj28.slI (k := 0) rfl).loadG (P := Try.prog) sz_62 ag_62 g31
            obtain ⟨g34, hL2⟩ := gd_some hL2
            have q35 := (Sj28.slI (k := 0) rfl).idxG (P := Try.prog) (kk := .i64) el_58 sz_62 g34
            have q36 := (Sj28.slI (k := 0) rfl).loadG (P := Try.prog) sz_62 ag_62 g34
            obtain ⟨g37, hL2⟩ := gd_some hL2
            have q38 := (Sj28.slI (k := 0) rfl).idxG (P := Try.prog) (kk := .i64) el_58 sz_62 g37
            obtain ⟨G39, q40, S41, a43⟩ := Sj28.putI (P := Try.prog) (k := 0) (a := (gat i2 l1_0 (isub .i64 s5 1)).1) (b := (gat i2 l1_0 (isub .i64 s5 1)).2) rfl (hB.le Aj28.1) sz_62 g37
            have A42 := Aj28.trans a43
            replace S41 : Sep G39 B [flatI v0 62 (lset l1_0 s5 ((gat i2 l1_0 (isub .i64 s5 1)).1, (gat i2 l1_0 (isub .i64 s5 1)).2))] := S41
            obtain ⟨g44, hL2⟩ := gd_some hL2
            have q45 := (S41.slI (k := 0) rfl).idxG (P := Try.prog) (kk := .i64) el_58 sz_62 g44
            obtain ⟨G46, q47, S48, a50⟩ := S41.putI (P := Try.prog) (k := 0) (a := (gat i2 l1_0 s5).1) (b := (gat i2 l1_0 s5).2) rfl (hB.le A42.1) sz_62 g44
            have A49 := A42.trans a50
            replace S48 : Sep G46 B [flatI v0 62 (lset (lset l1_0 s5 ((gat i2 l1_0 (isub .i64 s5 1)).1, (gat i2 l1_0 (isub .i64 s5 1)).2)) (isub .i64 s5 1) ((gat i2 l1_0 s5).1, (gat i2 l1_0 s5).2))] := S48
            refine DWp.drawn (B := [0, 0, 0, 0, 8, 0, 0, 64, 224, 480, 0, 0, 3072, 7168, 16355, 32739, 65535, 131071]) 15 mixed (by kernel_rfl) (by decide) fun K hK => ?_
            simp [-aBin', -aBin, -aBinI, -aUn, -aNil, -flatV, n_fn, b_add, b_sub, b_mul, b_lt, b_le, b_gt, b_ge, b_eq, b_ne, u_not, ej28_0, ej28_1, ej28_2, ej28_3, ej28_9, ej28_10, q32, q33, q35, q36, q38, q40, q45, q47]
            apply hK
            clear hK K
            simp only [andThen, leaves]
            obtain ⟨s51, hL52, hL2⟩ := bd_some hL2
            refine DWp.seq (DWp.join (fun env G => Sep G B [flatI v0 62 s51] ∧ AgB B H G ∧ env 0 = some v0 ∧ env 1 = some (Value.int .i64 x1) ∧ env 2 = some (Value.int .i64 x2) ∧ env 3 = some (Value.func (.func f3) #[] c3.toArray) ∧ env 9 = some (Value.int .i64 s5) ∧ env 10 = some (Value.int .i64 y1_10)) ?_ ?_)
            ·
              refine DWp.seq ?_
              refine DWp.region fun K hK => ?_
              simp [-aBin', -aBin, -aBinI, -aUn, -aNil, -flatV, n_fn, b_add, b_sub, b_mul, b_lt, b_le, b_gt, b_ge, b_eq, b_ne, u_not, ej28_0, ej28_1, ej28_2, ej28_3, ej28_9, ej28_10]
              apply hK
              clear hK K
              simp only [andThen, leaves]
              refine DWp.cond' (t := (ile 2 (isub .i64 s5 x1))) (by simp [ej28_0, ej28_1, ej28_2, ej28_3, ej28_9, ej28_10]) (fun hb54 => ?_) (fun hb54 => ?_)
              · replace hL52 := cd_t hb54 hL52
                refine DWp.seq ?_
                refine DWp.region fun K hK => ?_
                simp [-aBin', -aBin, -aBinI, -aUn, -aNil, -flatV, n_fn, b_add, b_sub, b_mul, b_lt, b_le, b_gt, b_ge, b_eq, b_ne, u_not, ej28_0, ej28_1, ej28_2, ej28_3, ej28_9, ej28_10]
                apply hK
                clear hK K
                simp only [andThen, leaves]
                refine DWp.block ?_
                obtain ⟨s55, hL56, hL52⟩ := bd_some hL52
                have S57 := S48.pick [0] (by decide) rfl
                refine DWp.loop (fun n env G => ∃ l3_0 : List (Int × Int), ∃ y3_11 : Int, F_slices_partialInsertionSortCmpFunc_2_int_L3 fu x1 x2 x3 s5 y1_10 n l3_0 y3_11 = some s55 ∧ Sep G B [flatI v0 62 l3_0] ∧ AgB B H G ∧ env 0 = some v0 ∧ env 1 = some (Value.int .i64 x1) ∧ env 2 = some (Value.int .i64 x2) ∧ env 3 = some (Value.func (.func f3) #[] c3.toArray) ∧ env 9 = some (Value.int .i64 s5) ∧ env 10 = some (Value.int .i64 y1_10) ∧ env 11 = some (Value.int .i64 y3_11)) fu ⟨(lset (lset l1_0 s5 ((gat i2 l1_0 (isub .i64 s5 1)).1, (gat i2 l1_0 (isub .i64 s5 1)).2)) (isub .i64 s5 1) ((gat i2 l1_0 s5).1, (gat i2 l1_0 s5).2)), (isub .i64 s5 1), hL56, S57, A49, by simp [ej28_0, ej28_1, ej28_2, ej28_3, ej28_9, ej28_10], by simp [ej28_0, ej28_1, ej28_2, ej28_3, ej28_9, ej28_10], by simp [ej28_0, ej28_1, ej28_2, ej28_3, ej28_9, ej28_10], by simp [ej28_0, ej28_1, ej28_2, ej28_3, ej28_9, ej28_10], by simp [ej28_0, ej28_1, ej28_2, ej28_3, ej28_9, ej28_10], by simp [ej28_0, ej28_1, ej28_2, ej28_3, ej28_9, ej28_10], by simp [ej28_0, ej28_1, ej28_2, ej28_3, ej28_9, ej28_10]⟩ ?_
                rintro n3 env3 G3_ ⟨l3_0, y3_11, hL56, S3_, A3_, e3_0, e3_1, e3_2, e3_3, e3_9, e3_10, e3_11⟩
                cases n3 with
                | zero => cases hL56
                | succ n3 =>
                  simp only [F_slices_partialInsertionSortCmpFunc_2_int_L3] at hL56
                  refine DWp.seq ?_
                  refine DWp.seq ?_
                  refine DWp.region fun K hK => ?_
                  simp [-aBin', -aBin, -aBinI, -aUn, -aNil, -flatV, n_fn, b_add, b_sub, b_mul, b_lt, b_le, b_gt, b_ge, b_eq, b_ne, u_not, e3_0, e3_1, e3_2, e3_3, e3_9, e3_10, e3_11]
                  apply hK
                  clear hK K
                  simp only [andThen, leaves]
                  refine DWp.cond' (t := (ile 1 y3_11)) (by simp [e3_0, e3_1, e3_2, e3_3, e3_9, e3_10, e3_11]) (fun hb58 => ?_) (fun hb58 => ?_)
                  · replace hL56 := cd_t hb58 hL56
                    refine DWp.skip ?_
                    simp only [andThen, leaves]
                    refine DWp.seq ?_
                    refine DWp.block ?_
                    refine DWp.seq ?_
                    refine DWp.seq ?_
                    obtain ⟨g59, hL56⟩ := gd_some hL56
                    have q60 := (S3_.slI (k := 0) rfl).idxG (P := Try.prog) (kk := .i64) el_58 sz_62 g59
                    have q61 := (S3_.slI (k := 0) rfl).loadG (P := Try.prog) sz_62 ag_62 g59
                    obtain ⟨g62, hL56⟩ := gd_some hL56
                    have q63 := (S3_.slI (k := 0) rfl).idxG (P := Try.prog) (kk := .i64) el_58 sz_62 g62
                    have q64 := (S3_.slI (k := 0) rfl).loadG (P := Try.prog) sz_62 ag_62 g62
                    obtain ⟨r2, hc65, hL56⟩ := bd_some hL56
                    refine DWp.drawn (B := [0, 0, 0, 6, 14, 0, 0, 64, 224, 480, 1023, 2047, 4095]) 13 mixed (by kernel_rfl) (by decide) fun K hK => ?_
                    simp [-aBin', -aBin, -aBinI, -aUn, -aNil, -flatV, n_fn, b_add, b_sub, b_mul, b_lt, b_le, b_gt, b_ge, b_eq, b_ne, u_not, e3_0, e3_1, e3_2, e3_3, e3_9, e3_10, e3_11, q60, q61, q63, q64]
                    refine CallD.t (hx3 _ A3_ ((gat i2 l3_0 y3_11).1) ((gat i2 l3_0 y3_11).2) ((gat i2 l3_0 (isub .i64 y3_11 1)).1) ((gat i2 l3_0 (isub .i64 y3_11 1)).2) _  hc65) ?_
                    rintro _ G66 ⟨a69, rfl, S70⟩
                    have A68 := A3_.ext (hB.le A3_.1) a69.agree
                    have S67 : Sep G66 B [flatI v0 62 l3_0] := S3_.agree a69.agree
                    simp [-aBin', -aBin, -aBinI, -aUn, -aNil, -flatV, n_fn, b_add, b_sub, b_mul, b_lt, b_le, b_gt, b_ge, b_eq, b_ne, u_not, e3_0, e3_1, e3_2, e3_3, e3_9, e3_10, e3_11, q60, q61, q63, q64, a69.pre]
                    apply hK
                    clear hK K
                    simp only [andThen, leaves]
                    refine DWp.cond' (t := (bnot (ilt r2 0))) (by simp [e3_0, e3_1, e3_2, e3_3, e3_9, e3_10, e3_11]) (fun hb71 => ?_) (fun hb71 => ?_)
                    · replace hL56 := cd_t hb71 hL56
                      refine DWp.exit ?_
                      simp only [andThen, leaves, if_true, if_false, reduceIte, Nat.reduceEqDiff]
                      obtain rfl := Option.some.inj hL56
                      try dsimp only at hL52
                      have S72 := S67.pick [0] (by decide) rfl
                      obtain rfl := Option.some.inj hL52
                      exact ⟨S72, A68, by simp [e3_0, e3_1, e3_2, e3_3, e3_9, e3_10, e3_11], by simp [e3_0, e3_1, e3_2, e3_3, e3_9, e3_10, e3_11], by simp [e3_0, e3_1, e3_2, e3_3, e3_9, e3_10, e3_11], by simp [e3_0, e3_1, e3_2, e3_3, e3_9, e3_10, e3_11], by simp [e3_0, e3_1, e3_2, e3_3, e3_9, e3_10, e3_11], by simp [e3_0, e3_1, e3_2, e3_3, e3_9, e3_10, e3_11]⟩
                    · replace hL56 := cd_f hb71 hL56
                      refine DWp.skip ?_
                      simp only [andThen, leaves]
                      obtain ⟨g73, hL56⟩ := gd_some hL56
                      have q74 := (S67.slI (k := 0) rfl).idxG (P := Try.prog) (kk := .i64) el_58 sz_62 g73
                      have q75 := (S67.slI (k := 0) rfl).loadG (P := Try.prog) sz_62 ag_62 g73
                      obtain ⟨g76, hL56⟩ := gd_some hL56
                      have q77 := (S67.slI (k := 0) rfl).idxG (P := Try.prog) (kk := .i64) el_58 sz_62 g76
                      have q78 := (S67.slI (k := 0) rfl).loadG (P := Try.prog) sz_62 ag_62 g76
                      obtain ⟨g79, hL56⟩ := gd_some hL56
                      have q80 := (S67.slI (k := 0) rfl).idxG (P := Try.prog) (kk := .i64) el_58 sz_62 g79
                      obtain ⟨G81, q82, S83, a85⟩ := S67.putI (P := Try.prog) (k := 0) (a := (gat i2 l3_0 (isub .i64 y3_11 1)).1) (b := (gat i2 l3_0 (isub .i64 y3_11 1)).2) rfl (hB.le A68.1) sz_62 g79
                      have A84 := A68.trans a85
                      replace S83 : Sep G81 B [flatI v0 62 (lset l3_0 y3_11 ((gat i2 l3_0 (isub .i64 y3_11 1)).1, (gat i2 l3_0 (isub .i64 y3_11 1)).2))] := S83
                      obtain ⟨g86, hL56⟩ := gd_some hL56
                      have q87 := (S83.slI (k := 0) rfl).idxG (P := Try.prog) (kk := .i64) el_58 sz_62 g86
                      obtain ⟨G88, q89, S90, a92⟩ := S83.putI (P := Try.prog) (k := 0) (a := (gat i2 l3_0 y3_11).1) (b := (gat i2 l3_0 y3_11).2) rfl (hB.le A84.1) sz_62 g86
                      have A91 := A84.trans a92
                      replace S90 : Sep G88 B [flatI v0 62 (lset (lset l3_0 y3_11 ((gat i2 l3_0 (isub .i64 y3_11 1)).1, (gat i2 l3_0 (isub .i64 y3_11 1)).2)) (isub .i64 y3_11 1) ((gat i2 l3_0 y3_11).1, (gat i2 l3_0 y3_11).2))] := S90
                      refine DWp.drawn (B := [0, 0, 0, 0, 8, 0, 0, 64, 224, 480, 0, 0, 3072, 7168, 16355, 32739, 65535, 131071]) 15 mixed (by kernel_rfl) (by decide) fun K hK => ?_
                      simp [-aBin', -aBin, -aBinI, -aUn, -aNil, -flatV, n_fn, b_add, b_sub, b_mul, b_lt, b_le, b_gt, b_ge, b_eq, b_ne, u_not, e3_0, e3_1, e3_2, e3_3, e3_9, e3_10, e3_11, q74, q75, q77, q78, q80, q82, q87, q89]
                      apply hK
                      clear hK K
                      simp only [andThen, leaves]
                      refine DWp.region fun K hK => ?_
                      simp [-aBin', -aBin, -aBinI, -aUn, -aNil, -flatV, n_fn, b_add, b_sub, b_mul, b_lt, b_le, b_gt, b_ge, b_eq, b_ne, u_not, e3_0, e3_1, e3_2, e3_3, e3_9, e3_10, e3_11]
                      apply hK
                      clear hK K
                      simp only [andThen, leaves]
                      have S93 := S90.pick [0] (by decide) rfl
                      exact ⟨n3, Nat.lt_succ_self _, (lset (lset l3_0 y3_11 ((gat i2 l3_0 (isub .i64 y3_11 1)).1, (gat i2 l3_0 (isub .i64 y3_11 1)).2)) (isub .i64 y3_11 1) ((gat i2 l3_0 y3_11).1, (gat i2 l3_0 y3_11).2)), (isub .i64 y3_11 1), hL56, S93, A91, by simp [e3_0, e3_1, e3_2, e3_3, e3_9, e3_10, e3_11], by simp [e3_0, e3_1, e3_2, e3_3, e3_9, e3_10, e3_11], by simp [e3_0, e3_1, e3_2, e3_3, e3_9, e3_10, e3_11], by simp [e3_0, e3_1, e3_2, e3_3, e3_9, e3_10, e3_11], by simp [e3_0, e3_1, e3_2, e3_3, e3_9, e3_10, e3_11], by simp [e3_0, e3_1, e3_2, e3_3, e3_9, e3_10, e3_11], by simp [e3_0, e3_1, e3_2, e3_3, e3_9, e3_10, e3_11]⟩
                  · replace hL56 := cd_f hb58 hL56
                    refine DWp.exit ?_
                    simp only [andThen, leaves, if_true, if_false, reduceIte, Nat.reduceEqDiff]
                    obtain rfl := Option.some.inj hL56
                    try dsimp only at hL52
                    have S94 := S3_.pick [0] (by decide) rfl
                    obtain rfl := Option.some.inj hL52
                    exact ⟨S94, A3_, by simp [e3_0, e3_1, e3_2, e3_3, e3_9, e3_10, e3_11], by simp [e3_0, e3_1, e3_2, e3_3, e3_9, e3_10, e3_11], by simp [e3_0, e3_1, e3_2, e3_3, e3_9, e3_10, e3_11], by simp [e3_0, e3_1, e3_2, e3_3, e3_9, e3_10, e3_11], by simp [e3_0, e3_1, e3_2, e3_3, e3_9, e3_10, e3_11], by simp [e3_0, e3_1, e3_2, e3_3, e3_9, e3_10, e3_11]⟩
              · replace hL52 := cd_f hb54 hL52
                refine DWp.skip ?_
                simp only [andThen, leaves]
                have S95 := S48.pick [0] (by decide) rfl
                obtain rfl := Option.some.inj hL52
                exact ⟨S95, A49, by simp [ej28_0, ej28_1, ej28_2, ej28_3, ej28_9, ej28_10], by simp [ej28_0, ej28_1, ej28_2, ej28_3, ej28_9, ej28_10], by simp [ej28_0, ej28_1, ej28_2, ej28_3, ej28_9, ej28_10], by simp [ej28_0, ej28_1, ej28_2, ej28_3, ej28_9, ej28_10], by simp [ej28_0, ej28_1, ej28_2, ej28_3, ej28_9, ej28_10], by simp [ej28_0, ej28_1, ej28_2, ej28_3, ej28_9, ej28_10]⟩
            · rintro env Gj96 ⟨Sj96, Aj96, ej96_0, ej96_1, ej96_2, ej96_3, ej96_9, ej96_10⟩
              refine DWp.seq ?_
              refine DWp.region fun K hK => ?_
              simp [-aBin', -aBin, -aBinI, -aUn, -aNil, -flatV, n_fn, b_add, b_sub, b_mul, b_lt, b_le, b_gt, b_ge, b_eq, b_ne, u_not, ej96_0, ej96_1, ej96_2, ej96_3, ej96_9, ej96_10]
              apply hK
              clear hK K
              simp only [andThen, leaves]
              refine DWp.cond' (t := (ile 2 (isub .i64 x2 s5))) (by simp [ej96_0, ej96_1, ej96_2, ej96_3, ej96_9, ej96_10]) (fun hb97 => ?_) (fun hb97 => ?_)
              · replace hL2 := cd_t hb97 hL2
                refine DWp.seq ?_
                refine DWp.region fun K hK => ?_
                simp [-aBin', -aBin, -aBinI, -aUn, -aNil, -flatV, n_fn, b_add, b_sub, b_mul, b_lt, b_le, b_gt, b_ge, b_eq, b_ne, u_not, ej96_0, ej96_1, ej96_2, ej96_3, ej96_9, ej96_10]
                apply hK
                clear hK K
                simp only [andThen, leaves]
                refine DWp.block ?_
                obtain ⟨s98, hL99, hL2⟩ := bd_some hL2
                have S100 := Sj96.pick [0] (by decide) rfl
                refine DWp.loop (fun n env G => ∃ l4_0 : List (Int × Int), ∃ y4_12 : Int, F_slices_partialInsertionSortCmpFunc_2_int_L4 fu x1 x2 x3 s5 y1_10 n l4_0 y4_12 = some s98 ∧ Sep G B [flatI v0 62 l4_0] ∧ AgB B H G ∧ env 0 = some v0 ∧ env 1 = some (Value.int .i64 x1) ∧ env 2 = some (Value.int .i64 x2) ∧ env 3 = some (Value.func (.func f3) #[] c3.toArray) ∧ env 9 = some (Value.int .i64 s5) ∧ env 10 = some (Value.int .i64 y1_10) ∧ env 12 = some (Value.int .i64 y4_12)) fu ⟨s51, (iadd .i64 s5 1), hL99, S100, Aj96, by simp [ej96_0, ej96_1, ej96_2, ej96_3, ej96_9, ej96_10], by simp [ej96_0, ej96_1, ej96_2, ej96_3, ej96_9, ej96_10], by simp [ej96_0, ej96_1, ej96_2, ej96_3, ej96_9, ej96_10], by simp [ej96_0, ej96_1, ej96_2, ej96_3, ej96_9, ej96_10], by simp [ej96_0, ej96_1, ej96_2, ej96_3, ej96_9, ej96_10], by simp [ej96_0, ej96_1, ej96_2, ej96_3, ej96_9, ej96_10], by simp [ej96_0, ej96_1, ej96_2, ej96_3, ej96_9, ej96_10]⟩ ?_
                rintro n2 env2 G2_ ⟨l4_0, y4_12, hL99, S2_, A2_, e2_0, e2_1, e2_2, e2_3, e2_9, e2_10, e2_12⟩
                cases n2 with
                | zero => cases hL99
                | succ n2 =>
                  simp only [F_slices_partialInsertionSortCmpFunc_2_int_L4] at hL99
                  refine DWp.seq ?_
                  refine DWp.seq ?_
                  refine DWp.region fun K hK => ?_
                  simp [-aBin', -aBin, -aBinI, -aUn, -aNil, -flatV, n_fn, b_add, b_sub, b_mul, b_lt, b_le, b_gt, b_ge, b_eq, b_ne, u_not, e2_0, e2_1, e2_2, e2_3, e2_9, e2_10, e2_12]
                  apply hK
                  clear hK K
                  simp only [andThen, leaves]
                  refine DWp.cond' (t := (ilt y4_12 x2)) (by simp [e2_0, e2_1, e2_2, e2_3, e2_9, e2_10, e2_12]) (fun hb101 => ?_) (fun hb101 => ?_)
                  · replace hL99 := cd_t hb101 hL99
                    refine DWp.skip ?_
                    simp only [andThen, leaves]
                    refine DWp.seq ?_
                    refine DWp.block ?_
                    refine DWp.seq ?_
                    refine DWp.seq ?_
                    obtain ⟨g102, hL99⟩ := gd_some hL99
                    have q103 := (S2_.slI (k := 0) rfl).idxG (P := Try.prog) (kk := .i64) el_58 sz_62 g102
                    have q104 := (S2_.slI (k := 0) rfl).loadG (P := Try.prog) sz_62 ag_62 g102
                    obtain ⟨g105, hL99⟩ := gd_some hL99
                    have q106 := (S2_.slI (k := 0) rfl).idxG (P := Try.prog) (kk := .i64) el_58 sz_62 g105
                    have q107 := (S2_.slI (k := 0) rfl).loadG (P := Try.prog) sz_62 ag_62 g105
                    obtain ⟨r3, hc108, hL99⟩ := bd_some hL99
                    refine DWp.drawn (B := [0, 0, 0, 6, 14, 0, 0, 64, 224, 480, 1023, 2047, 4095]) 13 mixed (by kernel_rfl) (by decide) fun K hK => ?_
                    simp [-aBin', -aBin, -aBinI, -aUn, -aNil, -flatV, n_fn, b_add, b_sub, b_mul, b_lt, b_le, b_gt, b_ge, b_eq, b_ne, u_not, e2_0, e2_1, e2_2, e2_3, e2_9, e2_10, e2_12, q103, q104, q106, q107]
                    refine CallD.t (hx3 _ A2_ ((gat i2 l4_0 y4_12).1) ((gat i2 l4_0 y4_12).2) ((gat i2 l4_0 (isub .i64 y4_12 1)).1) ((gat i2 l4_0 (isub .i64 y4_12 1)).2) _  hc108) ?_
                    rintro _ G109 ⟨a112, rfl, S113⟩
                    have A111 := A2_.ext (hB.le A2_.1) a112.agree
                    have S110 : Sep G109 B [flatI v0 62 l4_0] := S2_.agree a112.agree
                    simp [-aBin', -aBin, -aBinI, -aUn, -aNil, -flatV, n_fn, b_add, b_sub, b_mul, b_lt, b_le, b_gt, b_ge, b_eq, b_ne, u_not, e2_0, e2_1, e2_2, e2_3, e2_9, e2_10, e2_12, q103, q104, q106, q107, a112.pre]
                    apply hK
                    clear hK K
                    simp only [andThen, leaves]
                    refine DWp.cond' (t := (bnot (ilt r3 0))) (by simp [e2_0, e2_1, e2_2, e2_3, e2_9, e2_10, e2_12]) (fun hb114 => ?_) (fun hb114 => ?_)
                    · replace hL99 := cd_t hb114 hL99
                      refine DWp.exit ?_
                      simp only [andThen, leaves, if_true, if_false, reduceIte, Nat.reduceEqDiff]
                      obtain rfl := Option.some.inj hL99
                      try dsimp only at hL2
                      refine DWp.region fun K hK => ?_
                      simp [-aBin', -aBin, -aBinI, -aUn, -aNil, -flatV, n_fn, b_add, b_sub, b_mul, b_lt, b_le, b_gt, b_ge, b_eq, b_ne, u_not, e2_0, e2_1, e2_2, e2_3, e2_9, e2_10, e2_12]
                      apply hK
                      clear hK K
                      simp only [andThen, leaves]
                      have S115 := S110.pick [0] (by decide) rfl
                      exact ⟨n1, Nat.lt_succ_self _, l4_0, s5, (iadd .i64 y1_10 1), hL2, S115, A111, by simp [e2_0, e2_1, e2_2, e2_3, e2_9, e2_10, e2_12], by simp [e2_0, e2_1, e2_2, e2_3, e2_9, e2_10, e2_12], by simp [e2_0, e2_1, e2_2, e2_3, e2_9, e2_10, e2_12], by simp [e2_0, e2_1, e2_2, e2_3, e2_9, e2_10, e2_12], by simp [e2_0, e2_1, e2_2, e2_3, e2_9, e2_10, e2_12], by simp [e2_0, e2_1, e2_2, e2_3, e2_9, e2_10, e2_12]⟩
                    · replace hL99 := cd_f hb114 hL99
                      refine DWp.skip ?_
                      simp only [andThen, leaves]
                      obtain ⟨g116, hL99⟩ := gd_some hL99
                      have q117 := (S110.slI (k := 0) rfl).idxG (P := Try.prog) (kk := .i64) el_58 sz_62 g116
                      have q118 := (S110.slI (k := 0) rfl).loadG (P := Try.prog) sz_62 ag_62 g116
                      obtain ⟨g119, hL99⟩ := gd_some hL99
                      have q120 := (S110.slI (k := 0) rfl).idxG (P := Try.prog) (kk := .i64) el_58 sz_62 g119
                      have q121 := (S110.slI (k := 0) rfl).loadG (P := Try.prog) sz_62 ag_62 g119
                      obtain ⟨g122, hL99⟩ := gd_some hL99
                      have q123 := (S110.slI (k := 0) rfl).idxG (P := Try.prog) (kk := .i64) el_58 sz_62 g122
                      obtain ⟨G124, q125, S126, a128⟩ := S110.putI (P := Try.prog) (k := 0) (a := (gat i2 l4_0 (isub .i64 y4_12 1)).1) (b := (gat i2 l4_0 (isub .i64 y4_12 1)).2) rfl (hB.le A111.1) sz_62 g122
                      have A127 := A111.trans a128
                      replace S126 : Sep G124 B [flatI v0 62 (lset l4_0 y4_12 ((gat i2 l4_0 (isub .i64 y4_12 1)).1, (gat i2 l4_0 (isub .i64 y4_12 1)).2))] := S126
                      obtain ⟨g129, hL99⟩ := gd_some hL99
                      have q130 := (S126.slI (k := 0) rfl).idxG (P := Try.prog) (kk := .i64) el_58 sz_62 g129
                      obtain ⟨G131, q132, S133, a135⟩ := S126.putI (P := Try.prog) (k := 0) (a := (gat i2 l4_0 y4_12).1) (b := (gat i2 l4_0 y4_12).2) rfl (hB.le A127.1) sz_62 g129
                      have A134 := A127.trans a135
                      replace S133 : Sep G131 B [flatI v0 62 (lset (lset l4_0 y4_12 ((gat i2 l4_0 (isub .i64 y4_12 1)).1, (gat i2 l4_0 (isub .i64 y4_12 1)).2)) (isub .i64 y4_12 1) ((gat i2 l4_0 y4_12).1, (gat i2 l4_0 y4_12).2))] := S133
                      refine DWp.drawn (B := [0, 0, 0, 0, 8, 0, 0, 64, 224, 480, 0, 0, 3072, 7168, 16355, 32739, 65535, 131071]) 15 mixed (by kernel_rfl) (by decide) fun K hK => ?_
                      simp [-aBin', -aBin, -aBinI, -aUn, -aNil, -flatV, n_fn, b_add, b_sub, b_mul, b_lt, b_le, b_gt, b_ge, b_eq, b_ne, u_not, e2_0, e2_1, e2_2, e2_3, e2_9, e2_10, e2_12, q117, q118, q120, q121, q123, q125, q130, q132]
                      apply hK
                      clear hK K
                      simp only [andThen, leaves]
                      refine DWp.region fun K hK => ?_
                      simp [-aBin', -aBin, -aBinI, -aUn, -aNil, -flatV, n_fn, b_add, b_sub, b_mul, b_lt, b_le, b_gt, b_ge, b_eq, b_ne, u_not, e2_0, e2_1, e2_2, e2_3, e2_9, e2_10, e2_12]
                      apply hK
                      clear hK K
                      simp only [andThen, leaves]
                      have S136 := S133.pick [0] (by decide) rfl
                      exact ⟨n2, Nat.lt_succ_self _, (lset (lset l4_0 y4_12 ((gat i2 l4_0 (isub .i64 y4_12 1)).1, (gat i2 l4_0 (isub .i64 y4_12 1)).2)) (isub .i64 y4_12 1) ((gat i2 l4_0 y4_12).1, (gat i2 l4_0 y4_12).2)), (iadd .i64 y4_12 1), hL99, S136, A134, by simp [e2_0, e2_1, e2_2, e2_3, e2_9, e2_10, e2_12], by simp [e2_0, e2_1, e2_2, e2_3, e2_9, e2_10, e2_12], by simp [e2_0, e2_1, e2_2, e2_3, e2_9, e2_10, e2_12], by simp [e2_0, e2_1, e2_2, e2_3, e2_9, e2_10, e2_12], by simp [e2_0, e2_1, e2_2, e2_3, e2_9, e2_10, e2_12], by simp [e2_0, e2_1, e2_2, e2_3, e2_9, e2_10, e2_12], by simp [e2_0, e2_1, e2_2, e2_3, e2_9, e2_10, e2_12]⟩
                  · replace hL99 := cd_f hb101 hL99
                    refine DWp.exit ?_
                    simp only [andThen, leaves, if_true, if_false, reduceIte, Nat.reduceEqDiff]
                    obtain rfl := Option.some.inj hL99
                    try dsimp only at hL2
                    refine DWp.region fun K hK => ?_
                    simp [-aBin', -aBin, -aBinI, -aUn, -aNil, -flatV, n_fn, b_add, b_sub, b_mul, b_lt, b_le, b_gt, b_ge, b_eq, b_ne, u_not, e2_0, e2_1, e2_2, e2_3, e2_9, e2_10, e2_12]
                    apply hK
                    clear hK K
                    simp only [andThen, leaves]
                    have S137 := S2_.pick [0] (by decide) rfl
                    exact ⟨n1, Nat.lt_succ_self _, l4_0, s5, (iadd .i64 y1_10 1), hL2, S137, A2_, by simp [e2_0, e2_1, e2_2, e2_3, e2_9, e2_10, e2_12], by simp [e2_0, e2_1, e2_2, e2_3, e2_9, e2_10, e2_12], by simp [e2_0, e2_1, e2_2, e2_3, e2_9, e2_10, e2_12], by simp [e2_0, e2_1, e2_2, e2_3, e2_9, e2_10, e2_12], by simp [e2_0, e2_1, e2_2, e2_3, e2_9, e2_10, e2_12], by simp [e2_0, e2_1, e2_2, e2_3, e2_9, e2_10, e2_12]⟩
              · replace hL2 := cd_f hb97 hL2
                refine DWp.skip ?_
                simp only [andThen, leaves]
                refine DWp.region fun K hK => ?_
                simp [-aBin', -aBin, -aBinI, -aUn, -aNil, -flatV, n_fn, b_add, b_sub, b_mul, b_lt, b_le, b_gt, b_ge, b_eq, b_ne, u_not, ej96_0, ej96_1, ej96_2, ej96_3, ej96_9, ej96_10]
                apply hK
                clear hK K
                simp only [andThen, leaves]
                have S138 := Sj96.pick [0] (by decide) rfl
                exact ⟨n1, Nat.lt_succ_self _, s51, s5, (iadd .i64 y1_10 1), hL2, S138, Aj96, by simp [ej96_0, ej96_1, ej96_2, ej96_3, ej96_9, ej96_10], by simp [ej96_0, ej96_1, ej96_2, ej96_3, ej96_9, ej96_10], by simp [ej96_0, ej96_1, ej96_2, ej96_3, ej96_9, ej96_10], by simp [ej96_0, ej96_1, ej96_2, ej96_3, ej96_9, ej96_10], by simp [ej96_0, ej96_1, ej96_2, ej96_3, ej96_9, ej96_10], by simp [ej96_0, ej96_1, ej96_2, ej96_3, ej96_9, ej96_10]⟩
    · replace hL2 := cd_f hb4 hL2
      refine DWp.exit ?_
      simp only [andThen, leaves, if_true, if_false, reduceIte, Nat.reduceEqDiff]
      obtain rfl := Option.some.inj hL2
      simp only [lr] at hF
      refine DWp.seq ?_
      refine DWp.region fun K hK => ?_
      simp [-aBin', -aBin, -aBinI, -aUn, -aNil, -flatV, n_fn, b_add, b_sub, b_mul, b_lt, b_le, b_gt, b_ge, b_eq, b_ne, u_not, e1_0, e1_1, e1_2, e1_3, e1_9, e1_10]
      apply hK
      clear hK K
      simp only [andThen, leaves]
      refine DWp.ret ?_
      obtain rfl := Option.some.inj hF
      exact ⟨by simp, [(Value.bool false)], by simp [e1_0, e1_1, e1_2, e1_3, e1_9, e1_10], A1_, rfl, S1_.pick [0] (by decide) rfl⟩
def F_slices_partitionEqualCmpFunc_2_int_L2 (fu : Nat) (k2_0 : List (Int × Int)) (k2_1 : Int) (k2_2 : (Int → Int → Int → Int → Option (Int))) (k2_3 : Int) : Nat → Int → Option (Int)
  | 0, _ => none
  | n + 1, y2_11 =>
    bif (ile y2_11 k2_3) then
      gd (inL k2_0 k2_1) (
      gd (inL k2_0 y2_11) (
      bd (k2_2 ((gat i2 k2_0 k2_1).1) ((gat i2 k2_0 k2_1).2) ((gat i2 k2_0 y2_11).1) ((gat i2 k2_0 y2_11).2)) fun r1 =>
      bif (bnot (ilt r1 0)) then
        F_slices_partitionEqualCmpFunc_2_int_L2 fu k2_0 k2_1 k2_2 k2_3 n (iadd .i64 y2_11 1)
      else
        some y2_11))
    else
      some y2_11
def F_slices_partitionEqualCmpFunc_2_int_L3 (fu : Nat) (k3_0 : List (Int × Int)) (k3_1 : Int) (k3_2 : (Int → Int → Int → Int → Option (Int))) (k3_3 : Int) : Nat → Int → Option (Int)
  | 0, _ => none
  | n + 1, y3_12 =>
    bif (ile k3_3 y3_12) then
      gd (inL k3_0 k3_1) (
      gd (inL k3_0 y3_12) (
      bd (k3_2 ((gat i2 k3_0 k3_1).1) ((gat i2 k3_0 k3_1).2) ((gat i2 k3_0 y3_12).1) ((gat i2 k3_0 y3_12).2)) fun r2 =>
      bif (ilt r2 0) then
        F_slices_partitionEqualCmpFunc_2_int_L3 fu k3_0 k3_1 k3_2 k3_3 n (isub .i64 y3_12 1)
      else
        some y3_12))
    else
      some y3_12
def F_slices_partitionEqualCmpFunc_2_int_L1 (fu : Nat) (k1_0 : Int) (k1_1 : (Int → Int → Int → Int → Option (Int))) : Nat → List (Int × Int) → Int → Int → Option (List (Int × Int) × Int × Int)
  | 0, _, _, _ => none
  | n + 1, l1_0, y1_11, y1_12 =>
    bd (
      bd (F_slices_partitionEqualCmpFunc_2_int_L2 fu l1_0 k1_0 k1_1 y1_12 fu y1_11) fun s2 =>
      some s2) fun s24 =>
    bd (
      bd (F_slices_partitionEqualCmpFunc_2_int_L3 fu l1_0 k1_0 k1_1 s24 fu y1_12) fun s3 =>
      some s3) fun s47 =>
    bif (ilt s47 s24) then
      some (l1_0, s24, s47)
    else
      gd (inL l1_0 s47) (
      gd (inL l1_0 s24) (
      gd (inL l1_0 s24) (
      gd (inL (lset l1_0 s24 ((gat i2 l1_0 s47).1, (gat i2 l1_0 s47).2)) s47) (
      F_slices_partitionEqualCmpFunc_2_int_L1 fu k1_0 k1_1 n (lset (lset l1_0 s24 ((gat i2 l1_0 s47).1, (gat i2 l1_0 s47).2)) s47 ((gat i2 l1_0 s24).1, (gat i2 l1_0 s24).2)) (iadd .i64 s24 1) (isub .i64 s47 1)))))
def F_slices_partitionEqualCmpFunc_2_int (fu : Nat) (x0 : List (Int × Int)) (x1 : Int) (x2 : Int) (x3 : Int) (x4 : Int → Int → Int → Int → Option (Int)) : Option (Int × List (Int × Int)) :=
  gd (inL x0 x3) (
  gd (inL x0 x1) (
  gd (inL x0 x1) (
  gd (inL (lset x0 x1 ((gat i2 x0 x3).1, (gat i2 x0 x3).2)) x3) (
  bd (F_slices_partitionEqualCmpFunc_2_int_L1 fu x1 x4 fu (lset (lset x0 x1 ((gat i2 x0 x3).1, (gat i2 x0 x3).2)) x3 ((gat i2 x0 x1).1, (gat i2 x0 x1).2)) (iadd .i64 x1 1) (isub .i64 x2 1)) fun s1 =>
  some (s1.2.1, s1.1)))))
theorem F_slices_partitionEqualCmpFunc_2_int_w {fu : Nat} {H : AH} {B : Nat → Prop} {v0 : Value} {f4 : FuncId} {c4 : List Value} {x0 : List (Int × Int)} {x1 : Int} {x2 : Int} {x3 : Int} {x4 : Int → Int → Int → Int → Option (Int)} {r : (Int × List (Int × Int))} (hB : Up B H.length) (S0 : Sep H B [flatI v0 62 x0]) (hx4 : ∀ (G : AH), AgB B H G → ∀ (y0_0 : Int) (y0_1 : Int) (y1_0 : Int) (y1_1 : Int) (q : (Int)), x4 y0_0 y0_1 y1_0 y1_1 = some q → ACallT Try.prog f4 ([(Value.agg #[(Value.int .i64 y0_0), (Value.int .i64 y0_1)]), (Value.agg #[(Value.int .i64 y1_0), (Value.int .i64 y1_1)])] ++ c4) G (fun u G' => AgB (Fr G) G G' ∧ u = (Value.int .i64 q) ∧ Sep G' (Fr G) [])) (hF : F_slices_partitionEqualCmpFunc_2_int fu x0 x1 x2 x3 x4 = some r) :
    ACallT Try.prog 128 [v0, (Value.int .i64 x1), (Value.int .i64 x2), (Value.int .i64 x3), (Value.func (.func f4) #[] c4.toArray)] H (fun u G => AgB B H G ∧ u = (Value.int .i64 r.1) ∧ Sep G B [flatI v0 62 r.2]) := by
  refine ACallT.of_body (nt := 90) (rs := [.tmp 10]) Try.func128 rfl rfl rfl rfl ?_
  have A0 : AgB B H H := .refl _ _
  unfold F_slices_partitionEqualCmpFunc_2_int at hF
  refine DWp.seq ?_
  refine DWp.region fun K hK => ?_
  simp [-aBin', -aBin, -aBinI, -aUn, -aNil, -flatV, n_fn, b_add, b_sub, b_mul, b_lt, b_le, b_gt, b_ge, b_eq, b_ne, u_not]
  apply hK
  clear hK K
  simp only [andThen, leaves]
  refine DWp.seq ?_
  obtain ⟨g1, hF⟩ := gd_some hF
  have q2 := (S0.slI (k := 0) rfl).idxG (P := Try.prog) (kk := .i64) el_58 sz_62 g1
  have q3 := (S0.slI (k := 0) rfl).loadG (P := Try.prog) sz_62 ag_62 g1
  obtain ⟨g4, hF⟩ := gd_some hF
  have q5 := (S0.slI (k := 0) rfl).idxG (P := Try.prog) (kk := .i64) el_58 sz_62 g4
  have q6 := (S0.slI (k := 0) rfl).loadG (P := Try.prog) sz_62 ag_62 g4
  obtain ⟨g7, hF⟩ := gd_some hF
  have q8 := (S0.slI (k := 0) rfl).idxG (P := Try.prog) (kk := .i64) el_58 sz_62 g7
  obtain ⟨G9, q10, S11, a13⟩ := S0.putI (P := Try.prog) (k := 0) (a := (gat i2 x0 x3).1) (b := (gat i2 x0 x3).2) rfl (hB.le A0.1) sz_62 g7
  have A12 := A0.trans a13
  replace S11 : Sep G9 B [flatI v0 62 (lset x0 x1 ((gat i2 x0 x3).1, (gat i2 x0 x3).2))] := S11
  obtain ⟨g14, hF⟩ := gd_some hF
  have q15 := (S11.slI (k := 0) rfl).idxG (P := Try.prog) (kk := .i64) el_58 sz_62 g14
  obtain ⟨G16, q17, S18, a20⟩ := S11.putI (P := Try.prog) (k := 0) (a := (gat i2 x0 x1).1) (b := (gat i2 x0 x1).2) rfl (hB.le A12.1) sz_62 g14
  have A19 := A12.trans a20
  replace S18 : Sep G16 B [flatI v0 62 (lset (lset x0 x1 ((gat i2 x0 x3).1, (gat i2 x0 x3).2)) x3 ((gat i2 x0 x1).1, (gat i2 x0 x1).2))] := S18
  refine DWp.drawn (B := [0, 0, 0, 0, 0, 0, 48, 112, 0, 0, 768, 1792, 4083, 8179, 16383, 32767]) 13 mixed (by kernel_rfl) (by decide) fun K hK => ?_
  simp [-aBin', -aBin, -aBinI, -aUn, -aNil, -flatV, n_fn, b_add, b_sub, b_mul, b_lt, b_le, b_gt, b_ge, b_eq, b_ne, u_not, q2, q3, q5, q6, q8, q10, q15, q17]
  apply hK
  clear hK K
  simp only [andThen, leaves]
  refine DWp.seq ?_
  refine DWp.region fun K hK => ?_
  simp [-aBin', -aBin, -aBinI, -aUn, -aNil, -flatV, n_fn, b_add, b_sub, b_mul, b_lt, b_le, b_gt, b_ge, b_eq, b_ne, u_not]
  apply hK
  clear hK K
  simp only [andThen, leaves]
  refine DWp.seq ?_
  refine DWp.block ?_
  obtain ⟨s21, hL22, hF⟩ := bd_some hF
  have S23 := S18.pick [0] (by decide) rfl
  refine DWp.loop (fun n env G => ∃ l1_0 : List (Int × Int), ∃ y1_11 : Int, ∃ y1_12 : Int, F_slices_partitionEqualCmpFunc_2_int_L1 fu x1 x4 n l1_0 y1_11 y1_12 = some s21 ∧ Sep G B [flatI v0 62 l1_0] ∧ AgB B H G ∧ env 0 = some v0 ∧ env 1 = some (Value.int .i64 x1) ∧ env 4 = some (Value.func (.func f4) #[] c4.toArray) ∧ env 11 = some (Value.int .i64 y1_11) ∧ env 12 = some (Value.int .i64 y1_12)) fu ⟨(lset (lset x0 x1 ((gat i2 x0 x3).1, (gat i2 x0 x3).2)) x3 ((gat i2 x0 x1).1, (gat i2 x0 x1).2)), (iadd .i64 x1 1), (isub .i64 x2 1), hL22, S23, A19, by simp [], by simp [], by simp [], by simp [], by simp []⟩ ?_
  rintro n1 env1 G1_ ⟨l1_0, y1_11, y1_12, hL22, S1_, A1_, e1_0, e1_1, e1_4, e1_11, e1_12⟩
  cases n1 with
  | zero => cases hL22
  | succ n1 =>
    simp only [F_slices_partitionEqualCmpFunc_2_int_L1] at hL22
    refine DWp.block ?_
    obtain ⟨s24, hL25, hL22⟩ := bd_some hL22
    refine DWp.seq (DWp.join (fun env G => Sep G B [flatI v0 62 l1_0] ∧ AgB B H G ∧ env 0 = some v0 ∧ env 1 = some (Value.int .i64 x1) ∧ env 4 = some (Value.func (.func f4) #[] c4.toArray) ∧ env 11 = some (Value.int .i64 s24) ∧ env 12 = some (Value.int .i64 y1_12)) ?_ ?_)
    ·
      refine DWp.block ?_
      obtain ⟨s27, hL28, hL25⟩ := bd_some hL25
      have S29 := S1_.pick [0] (by decide) rfl
      refine DWp.loop (fun n env G => ∃ y2_11 : Int, F_slices_partitionEqualCmpFunc_2_int_L2 fu l1_0 x1 x4 y1_12 n y2_11 = some s27 ∧ Sep G B [flatI v0 62 l1_0] ∧ AgB B H G ∧ env 0 = some v0 ∧ env 1 = some (Value.int .i64 x1) ∧ env 4 = some (Value.func (.func f4) #[] c4.toArray) ∧ env 11 = some (Value.int .i64 y2_11) ∧ env 12 = some (Value.int .i64 y1_12)) fu ⟨y1_11, hL28, S29, A1_, by simp [e1_0, e1_1, e1_4, e1_11, e1_12], by simp [e1_0, e1_1, e1_4, e1_11, e1_12], by simp [e1_0, e1_1, e1_4, e1_11, e1_12], by simp [e1_0, e1_1, e1_4, e1_11, e1_12], by simp [e1_0, e1_1, e1_4, e1_11, e1_12]⟩ ?_
      rintro n3 env3 G3_ ⟨y2_11, hL28, S3_, A3_, e3_0, e3_1, e3_4, e3_11, e3_12⟩
      cases n3 with
      | zero => cases hL28
      | succ n3 =>
        simp only [F_slices_partitionEqualCmpFunc_2_int_L2] at hL28
        refine DWp.seq ?_
        refine DWp.seq ?_
        rcases Bool.eq_false_or_eq_true (ile y2_11 y1_12) with hb30 | hb30
        · replace hL28 := cd_t hb30 hL28
          obtain ⟨g31, hL28⟩ := gd_some hL28
          have q32 := (S3_.slI (k := 0) rfl).idxG (P := Try.prog) (kk := .i64) el_58 sz_62 g31
          have q33 := (S3_.slI (k := 0) rfl).loadG (P := Try.prog) sz_62 ag_62 g31
          obtain ⟨g34, hL28⟩ := gd_some hL28
          have q35 := (S3_.slI (k := 0) rfl).idxG (P := Try.prog) (kk := .i64) el_58 sz_62 g34
          have q36 := (S3_.slI (k := 0) rfl).loadG (P := Try.prog) sz_62 ag_62 g34
          obtain ⟨r1, hc37, hL28⟩ := bd_some hL28
          refine DWp.drawn (B := [0, 0, 3, 7, 15, 15, 15, 111, 239, 15, 15, 1551, 3599, 8191, 16383, 32767, 65535]) 17 mixed (by kernel_rfl) (by decide) fun K hK => ?_
          simp [-aBin', -aBin, -aBinI, -aUn, -aNil, -flatV, n_fn, b_add, b_sub, b_mul, b_lt, b_le, b_gt, b_ge, b_eq, b_ne, u_not, e3_0, e3_1, e3_4, e3_11, e3_12, hb30, q32, q33, q35, q36]
          refine CallD.t (hx4 _ A3_ ((gat i2 l1_0 x1).1) ((gat i2 l1_0 x1).2) ((gat i2 l1_0 y2_11).1) ((gat i2 l1_0 y2_11).2) _  hc37) ?_
          rintro _ G38 ⟨a41, rfl, S42⟩
          have A40 := A3_.ext (hB.le A3_.1) a41.agree
          have S39 : Sep G38 B [flatI v0 62 l1_0] := S3_.agree a41.agree
          simp [-aBin', -aBin, -aBinI, -aUn, -aNil, -flatV, n_fn, b_add, b_sub, b_mul, b_lt, b_le, b_gt, b_ge, b_eq, b_ne, u_not, e3_0, e3_1, e3_4, e3_11, e3_12, hb30, q32, q33, q35, q36, a41.pre]
          apply hK
          clear hK K
          simp only [andThen, leaves]
          refine DWp.cond' (t := (bnot (ilt r1 0))) (by simp [e3_0, e3_1, e3_4, e3_11, e3_12]) (fun hb43 => ?_) (fun hb43 => ?_)
          · replace hL28 := cd_t hb43 hL28
            refine DWp.skip ?_
            simp only [andThen, leaves]
            refine DWp.block ?_
            refine DWp.region fun K hK => ?_
            simp [-aBin', -aBin, -aBinI, -aUn, -aNil, -flatV, n_fn, b_add, b_sub, b_mul, b_lt, b_le, b_gt, b_ge, b_eq, b_ne, u_not, e3_0, e3_1, e3_4, e3_11, e3_12]
            apply hK
            clear hK K
            simp only [andThen, leaves]
            have S44 := S39.pick [0] (by decide) rfl
            exact ⟨n3, Nat.lt_succ_self _, (iadd .i64 y2_11 1), hL28, S44, A40, by simp [e3_0, e3_1, e3_4, e3_11, e3_12], by simp [e3_0, e3_1, e3_4, e3_11, e3_12], by simp [e3_0, e3_1, e3_4, e3_11, e3_12], by simp [e3_0, e3_1, e3_4, e3_11, e3_12], by simp [e3_0, e3_1, e3_4, e3_11, e3_12]⟩
          · replace hL28 := cd_f hb43 hL28
            refine DWp.exit ?_
            simp only [andThen, leaves, if_true, if_false, reduceIte, Nat.reduceEqDiff]
            obtain rfl := Option.some.inj hL28
            have S45 := S39.pick [0] (by decide) rfl
            obtain rfl := Option.some.inj hL25
            exact ⟨S45, A40, by simp [e3_0, e3_1, e3_4, e3_11, e3_12], by simp [e3_0, e3_1, e3_4, e3_11, e3_12], by simp [e3_0, e3_1, e3_4, e3_11, e3_12], by simp [e3_0, e3_1, e3_4, e3_11, e3_12], by simp [e3_0, e3_1, e3_4, e3_11, e3_12]⟩
        · replace hL28 := cd_f hb30 hL28
          refine DWp.drawn (B := [0, 0, 3, 7, 15, 15, 15, 111, 239, 15, 15, 1551, 3599, 8191, 16383, 32767, 65535]) 17 mixed (by kernel_rfl) (by decide) fun K hK => ?_
          simp [-aBin', -aBin, -aBinI, -aUn, -aNil, -flatV, n_fn, b_add, b_sub, b_mul, b_lt, b_le, b_gt, b_ge, b_eq, b_ne, u_not, e3_0, e3_1, e3_4, e3_11, e3_12, hb30]
          apply hK
          clear hK K
          simp only [andThen, leaves]
          refine DWp.cf (by simp [e3_0, e3_1, e3_4, e3_11, e3_12, bnot]) ?_
          refine DWp.exit ?_
          simp only [andThen, leaves, if_true, if_false, reduceIte, Nat.reduceEqDiff]
          obtain rfl := Option.some.inj hL28
          have S46 := S3_.pick [0] (by decide) rfl
          obtain rfl := Option.some.inj hL25
          exact ⟨S46, A3_, by simp [e3_0, e3_1, e3_4, e3_11, e3_12], by simp [e3_0, e3_1, e3_4, e3_11, e3_12], by simp [e3_0, e3_1, e3_4, e3_11, e3_12], by simp [e3_0, e3_1, e3_4, e3_11, e3_12], by simp [e3_0, e3_1, e3_4, e3_11, e3_12]⟩
    · rintro env Gj47 ⟨Sj47, Aj47, ej47_0, ej47_1, ej47_4, ej47_11, ej47_12⟩
      obtain ⟨s48, hL49, hL22⟩ := bd_some hL22
      refine DWp.seq (DWp.join (fun env G => Sep G B [flatI v0 62 l1_0] ∧ AgB B H G ∧ env 0 = some v0 ∧ env 1 = some (Value.int .i64 x1) ∧ env 4 = some (Value.func (.func f4) #[] c4.toArray) ∧ env 11 = some (Value.int .i64 s24) ∧ env 12 = some (Value.int .i64 s48)) ?_ ?_)
      ·
        refine DWp.block ?_
        obtain ⟨s51, hL52, hL49⟩ := bd_some hL49
        have S53 := Sj47.pick [0] (by decide) rfl
        refine DWp.loop (fun n env G => ∃ y3_12 : Int, F_slices_partitionEqualCmpFunc_2_int_L3 fu l1_0 x1 x4 s24 n y3_12 = some s51 ∧ Sep G B [flatI v0 62 l1_0] ∧ AgB B H G ∧ env 0 = some v0 ∧ env 1 = some (Value.int .i64 x1) ∧ env 4 = some (Value.func (.func f4) #[] c4.toArray) ∧ env 11 = some (Value.int .i64 s24) ∧ env 12 = some (Value.int .i64 y3_12)) fu ⟨y1_12, hL52, S53, Aj47, by simp [ej47_0, ej47_1, ej47_4, ej47_11, ej47_12], by simp [ej47_0, ej47_1, ej47_4, ej47_11, ej47_12], by simp [ej47_0, ej47_1, ej47_4, ej47_11, ej47_12], by simp [ej47_0, ej47_1, ej47_4, ej47_11, ej47_12], by simp [ej47_0, ej47_1, ej47_4, ej47_11, ej47_12]⟩ ?_
        rintro n3 env3 G3_ ⟨y3_12, hL52, S3_, A3_, e3_0, e3_1, e3_4, e3_11, e3_12⟩
        cases n3 with
        | zero => cases hL52
        | succ n3 =>
          simp only [F_slices_partitionEqualCmpFunc_2_int_L3] at hL52
          refine DWp.seq ?_
          refine DWp.seq ?_
          rcases Bool.eq_false_or_eq_true (ile s24 y3_12) with hb54 | hb54
          · replace hL52 := cd_t hb54 hL52
            obtain ⟨g55, hL52⟩ := gd_some hL52
            have q56 := (S3_.slI (k := 0) rfl).idxG (P := Try.prog) (kk := .i64) el_58 sz_62 g55
            have q57 := (S3_.slI (k := 0) rfl).loadG (P := Try.prog) sz_62 ag_62 g55
            obtain ⟨g58, hL52⟩ := gd_some hL52
            have q59 := (S3_.slI (k := 0) rfl).idxG (P := Try.prog) (kk := .i64) el_58 sz_62 g58
            have q60 := (S3_.slI (k := 0) rfl).loadG (P := Try.prog) sz_62 ag_62 g58
            obtain ⟨r2, hc61, hL52⟩ := bd_some hL52
            refine DWp.drawn (B := [0, 0, 3, 7, 15, 15, 15, 111, 239, 15, 15, 1551, 3599, 8191, 16383, 32767]) 16 mixed (by kernel_rfl) (by decide) fun K hK => ?_
            simp [-aBin', -aBin, -aBinI, -aUn, -aNil, -flatV, n_fn, b_add, b_sub, b_mul, b_lt, b_le, b_gt, b_ge, b_eq, b_ne, u_not, e3_0, e3_1, e3_4, e3_11, e3_12, hb54, q56, q57, q59, q60]
            refine CallD.t (hx4 _ A3_ ((gat i2 l1_0 x1).1) ((gat i2 l1_0 x1).2) ((gat i2 l1_0 y3_12).1) ((gat i2 l1_0 y3_12).2) _  hc61) ?_
            rintro _ G62 ⟨a65, rfl, S66⟩
            have A64 := A3_.ext (hB.le A3_.1) a65.agree
            have S63 : Sep G62 B [flatI v0 62 l1_0] := S3_.agree a65.agree
            simp [-aBin', -aBin, -aBinI, -aUn, -aNil, -flatV, n_fn, b_add, b_sub, b_mul, b_lt, b_le, b_gt, b_ge, b_eq, b_ne, u_not, e3_0, e3_1, e3_4, e3_11, e3_12, hb54, q56, q57, q59, q60, a65.pre]
            apply hK
            clear hK K
            simp only [andThen, leaves]
            refine DWp.cond' (t := (ilt r2 0)) (by simp [e3_0, e3_1, e3_4, e3_11, e3_12]) (fun hb67 => ?_) (fun hb67 => ?_)
            · replace hL52 := cd_t hb67 hL52
              refine DWp.skip ?_
              simp only [andThen, leaves]
              refine DWp.block ?_
              refine DWp.region fun K hK => ?_
              simp [-aBin', -aBin, -aBinI, -aUn, -aNil, -flatV, n_fn, b_add, b_sub, b_mul, b_lt, b_le, b_gt, b_ge, b_eq, b_ne, u_not, e3_0, e3_1, e3_4, e3_11, e3_12]
              apply hK
              clear hK K
              simp only [andThen, leaves]
              have S68 := S63.pick [0] (by decide) rfl
              exact ⟨n3, Nat.lt_succ_self _, (isub .i64 y3_12 1), hL52, S68, A64, by simp [e3_0, e3_1, e3_4, e3_11, e3_12], by simp [e3_0, e3_1, e3_4, e3_11, e3_12], by simp [e3_0, e3_1, e3_4, e3_11, e3_12], by simp [e3_0, e3_1, e3_4, e3_11, e3_12], by simp [e3_0, e3_1, e3_4, e3_11, e3_12]⟩
            · replace hL52 := cd_f hb67 hL52
              refine DWp.exit ?_
              simp only [andThen, leaves, if_true, if_false, reduceIte, Nat.reduceEqDiff]
              obtain rfl := Option.some.inj hL52
              have S69 := S63.pick [0] (by decide) rfl
              obtain rfl := Option.some.inj hL49
              exact ⟨S69, A64, by simp [e3_0, e3_1, e3_4, e3_11, e3_12], by simp [e3_0, e3_1, e3_4, e3_11, e3_12], by simp [e3_0, e3_1, e3_4, e3_11, e3_12], by simp [e3_0, e3_1, e3_4, e3_11, e3_12], by simp [e3_0, e3_1, e3_4, e3_11, e3_12]⟩
          · replace hL52 := cd_f hb54 hL52
            refine DWp.drawn (B := [0, 0, 3, 7, 15, 15, 15, 111, 239, 15, 15, 1551, 3599, 8191, 16383, 32767]) 16 mixed (by kernel_rfl) (by decide) fun K hK => ?_
            simp [-aBin', -aBin, -aBinI, -aUn, -aNil, -flatV, n_fn, b_add, b_sub, b_mul, b_lt, b_le, b_gt, b_ge, b_eq, b_ne, u_not, e3_0, e3_1, e3_4, e3_11, e3_12, hb54]
            apply hK
            clear hK K
            simp only [andThen, leaves]
            refine DWp.cf (by simp [e3_0, e3_1, e3_4, e3_11, e3_12, bnot]) ?_
            refine DWp.exit ?_
            simp only [andThen, leaves, if_true, if_false, reduceIte, Nat.reduceEqDiff]
            obtain rfl := Option.some.inj hL52
            have S70 := S3_.pick [0] (by decide) rfl
            obtain rfl := Option.some.inj hL49
            exact ⟨S70, A3_, by simp [e3_0, e3_1, e3_4, e3_11, e3_12], by simp [e3_0, e3_1, e3_4, e3_11, e3_12], by simp [e3_0, e3_1, e3_4, e3_11, e3_12], by simp [e3_0, e3_1, e3_4, e3_11, e3_12], by simp [e3_0, e3_1, e3_4, e3_11, e3_12]⟩
      · rintro env Gj71 ⟨Sj71, Aj71, ej71_0, ej71_1, ej71_4, ej71_11, ej71_12⟩
        refine DWp.seq ?_
        refine DWp.seq ?_
        refine DWp.region fun K hK => ?_
        simp [-aBin', -aBin, -aBinI, -aUn, -aNil, -flatV, n_fn, b_add, b_sub, b_mul, b_lt, b_le, b_gt, b_ge, b_eq, b_ne, u_not, ej71_0, ej71_1, ej71_4, ej71_11, ej71_12]
        apply hK
        clear hK K
        simp only [andThen, leaves]
        refine DWp.cond' (t := (ilt s48 s24)) (by simp [ej71_0, ej71_1, ej71_4, ej71_11, ej71_12]) (fun hb72 => ?_) (fun hb72 => ?_)
        · replace hL22 := cd_t hb72 hL22
          refine DWp.exit ?_
          simp only [andThen, leaves, if_true, if_false, reduceIte, Nat.reduceEqDiff]
          obtain rfl := Option.some.inj hL22
          try dsimp only at hF
          refine DWp.seq ?_
          refine DWp.region fun K hK => ?_
          simp [-aBin', -aBin, -aBinI, -aUn, -aNil, -flatV, n_fn, b_add, b_sub, b_mul, b_lt, b_le, b_gt, b_ge, b_eq, b_ne, u_not, ej71_0, ej71_1, ej71_4, ej71_11, ej71_12]
          apply hK
          clear hK K
          simp only [andThen, leaves]
          refine DWp.ret ?_
          obtain rfl := Option.some.inj hF
          exact ⟨by simp, [(Value.int .i64 s24)], by simp [ej71_0, ej71_1, ej71_4, ej71_11, ej71_12], Aj71, rfl, Sj71.pick [0] (by decide) rfl⟩
        · replace hL22 := cd_f hb72 hL22
          refine DWp.skip ?_
          simp only [andThen, leaves]
          refine DWp.seq ?_
          obtain ⟨g73, hL22⟩ := gd_some hL22
          have q74 := (Sj71.slI (k := 0) rfl).idxG (P := Try.prog) (kk := .i64) el_58 sz_62 g73
          have q75 := (Sj71.slI (k := 0) rfl).loadG (P := Try.prog) sz_62 ag_62 g73
          obtain ⟨g76, hL22⟩ := gd_some hL22
          have q77 := (Sj71.slI (k := 0) rfl).idxG (P := Try.prog) (kk := .i64) el_58 sz_62 g76
          have q78 := (Sj71.slI (k := 0) rfl).loadG (P := Try.prog) sz_62 ag_62 g76
          obtain ⟨g79, hL22⟩ := gd_some hL22
          have q80 := (Sj71.slI (k := 0) rfl).idxG (P := Try.prog) (kk := .i64) el_58 sz_62 g79
          obtain ⟨G81, q82, S83, a85⟩ := Sj71.putI (P := Try.prog) (k := 0) (a := (gat i2 l1_0 s48).1) (b := (gat i2 l1_0 s48).2) rfl (hB.le Aj71.1) sz_62 g79
          have A84 := Aj71.trans a85
          replace S83 : Sep G81 B [flatI v0 62 (lset l1_0 s24 ((gat i2 l1_0 s48).1, (gat i2 l1_0 s48).2))] := S83
          obtain ⟨g86, hL22⟩ := gd_some hL22
          have q87 := (S83.slI (k := 0) rfl).idxG (P := Try.prog) (kk := .i64) el_58 sz_62 g86
          obtain ⟨G88, q89, S90, a92⟩ := S83.putI (P := Try.prog) (k := 0) (a := (gat i2 l1_0 s24).1) (b := (gat i2 l1_0 s24).2) rfl (hB.le A84.1) sz_62 g86
          have A91 := A84.trans a92
          replace S90 : Sep G88 B [flatI v0 62 (lset (lset l1_0 s24 ((gat i2 l1_0 s48).1, (gat i2 l1_0 s48).2)) s48 ((gat i2 l1_0 s24).1, (gat i2 l1_0 s24).2))] := S90
          refine DWp.drawn (B := [0, 0, 0, 0, 0, 0, 48, 112, 0, 0, 768, 1792, 4083, 8179, 16383, 32767]) 13 mixed (by kernel_rfl) (by decide) fun K hK => ?_
          simp [-aBin', -aBin, -aBinI, -aUn, -aNil, -flatV, n_fn, b_add, b_sub, b_mul, b_lt, b_le, b_gt, b_ge, b_eq, b_ne, u_not, ej71_0, ej71_1, ej71_4, ej71_11, ej71_12, q74, q75, q77, q78, q80, q82, q87, q89]
          apply hK
          clear hK K
          simp only [andThen, leaves]
          refine DWp.seq ?_
          refine DWp.region fun K hK => ?_
          simp [-aBin', -aBin, -aBinI, -aUn, -aNil, -flatV, n_fn, b_add, b_sub, b_mul, b_lt, b_le, b_gt, b_ge, b_eq, b_ne, u_not, ej71_0, ej71_1, ej71_4, ej71_11, ej71_12]
          apply hK
          clear hK K
          simp only [andThen, leaves]
          refine DWp.region fun K hK => ?_
          simp [-aBin', -aBin, -aBinI, -aUn, -aNil, -flatV, n_fn, b_add, b_sub, b_mul, b_lt, b_le, b_gt, b_ge, b_eq, b_ne, u_not, ej71_0, ej71_1, ej71_4, ej71_11, ej71_12]
          apply hK
          clear hK K
          simp only [andThen, leaves]
          have S93 := S90.pick [0] (by decide) rfl
          exact ⟨n1, Nat.lt_succ_self _, (lset (lset l1_0 s24 ((gat i2 l1_0 s48).1, (gat i2 l1_0 s48).2)) s48 ((gat i2 l1_0 s24).1, (gat i2 l1_0 s24).2)), (iadd .i64 s24 1), (isub .i64 s48 1), hL22, S93, A91, by simp [ej71_0, ej71_1, ej71_4, ej71_11, ej71_12], by simp [ej71_0, ej71_1, ej71_4, ej71_11, ej71_12], by simp [ej71_0, ej71_1, ej71_4, ej71_11, ej71_12], by simp [ej71_0, ej71_1, ej71_4, ej71_11, ej71_12], by simp [ej71_0, ej71_1, ej71_4, ej71_11, ej71_12]⟩
def F_slices_partitionCmpFunc_2_int_L1 (fu : Nat) (k1_0 : List (Int × Int)) (k1_1 : Int) (k1_2 : (Int → Int → Int → Int → Option (Int))) (k1_3 : Int) : Nat → Int → Option (Int)
  | 0, _ => none
  | n + 1, y1_12 =>
    bif (ile y1_12 k1_3) then
      gd (inL k1_0 y1_12) (
      gd (inL k1_0 k1_1) (
      bd (k1_2 ((gat i2 k1_0 y1_12).1) ((gat i2 k1_0 y1_12).2) ((gat i2 k1_0 k1_1).1) ((gat i2 k1_0 k1_1).2)) fun r1 =>
      bif (ilt r1 0) then
        F_slices_partitionCmpFunc_2_int_L1 fu k1_0 k1_1 k1_2 k1_3 n (iadd .i64 y1_12 1)
      else
        some y1_12))
    else
      some y1_12
def F_slices_partitionCmpFunc_2_int_L2 (fu : Nat) (k2_0 : List (Int × Int)) (k2_1 : Int) (k2_2 : (Int → Int → Int → Int → Option (Int))) (k2_3 : Int) : Nat → Int → Option (Int)
  | 0, _ => none
  | n + 1, y2_13 =>
    bif (ile k2_3 y2_13) then
      gd (inL k2_0 y2_13) (
      gd (inL k2_0 k2_1) (
      bd (k2_2 ((gat i2 k2_0 y2_13).1) ((gat i2 k2_0 y2_13).2) ((gat i2 k2_0 k2_1).1) ((gat i2 k2_0 k2_1).2)) fun r2 =>
      bif (bnot (ilt r2 0)) then
        F_slices_partitionCmpFunc_2_int_L2 fu k2_0 k2_1 k2_2 k2_3 n (isub .i64 y2_13 1)
      else
        some y2_13))
    else
      some y2_13
def F_slices_partitionCmpFunc_2_int_L4 (fu : Nat) (k4_0 : List (Int × Int)) (k4_1 : Int) (k4_2 : (Int → Int → Int → Int → Option (Int))) (k4_3 : Int) : Nat → Int → Option (Int)
  | 0, _ => none
  | n + 1, y4_12 =>
    bif (ile y4_12 k4_3) then
      gd (inL k4_0 y4_12) (
      gd (inL k4_0 k4_1) (
      bd (k4_2 ((gat i2 k4_0 y4_12).1) ((gat i2 k4_0 y4_12).2) ((gat i2 k4_0 k4_1).1) ((gat i2 k4_0 k4_1).2)) fun r3 =>
      bif (ilt r3 0) then
        F_slices_partitionCmpFunc_2_int_L4 fu k4_0 k4_1 k4_2 k4_3 n (iadd .i64 y4_12 1)
      else
        some y4_12))
    else
      some y4_12
def F_slices_partitionCmpFunc_2_int_L5 (fu : Nat) (k5_0 : List (Int × Int)) (k5_1 : Int) (k5_2 : (Int → Int → Int → Int → Option (Int))) (k5_3 : Int) : Nat → Int → Option (Int)
  | 0, _ => none
  | n + 1, y5_13 =>
    bif (ile k5_3 y5_13) then
      gd (inL k5_0 y5_13) (
      gd (inL k5_0 k5_1) (
      bd (k5_2 ((gat i2 k5_0 y5_13).1) ((gat i2 k5_0 y5_13).2) ((gat i2 k5_0 k5_1).1) ((gat i2 k5_0 k5_1).2)) fun r4 =>
      bif (bnot (ilt r4 0)) then
        F_slices_partitionCmpFunc_2_int_L5 fu k5_0 k5_1 k5_2 k5_3 n (isub .i64 y5_13 1)
      else
        some y5_13))
    else
      some y5_13
def F_slices_partitionCmpFunc_2_int_L3 (fu : Nat) (k3_0 : Int) (k3_1 : (Int → Int → Int → Int → Option (Int))) : Nat → List (Int × Int) → Int → Int → Option (List (Int × Int) × Int × Int)
  | 0, _, _, _ => none
  | n + 1, l3_0, y3_12, y3_13 =>
    bd (
      bd (F_slices_partitionCmpFunc_2_int_L4 fu l3_0 k3_0 k3_1 y3_13 fu y3_12) fun s4 =>
      some s4) fun s111 =>
    bd (
      bd (F_slices_partitionCmpFunc_2_int_L5 fu l3_0 k3_0 k3_1 s111 fu y3_13) fun s5 =>
      some s5) fun s134 =>
    bif (ilt s134 s111) then
      some (l3_0, s111, s134)
    else
      gd (inL l3_0 s134) (
      gd (inL l3_0 s111) (
      gd (inL l3_0 s111) (
      gd (inL (lset l3_0 s111 ((gat i2 l3_0 s134).1, (gat i2 l3_0 s134).2)) s134) (
      F_slices_partitionCmpFunc_2_int_L3 fu k3_0 k3_1 n (lset (lset l3_0 s111 ((gat i2 l3_0 s134).1, (gat i2 l3_0 s134).2)) s134 ((gat i2 l3_0 s111).1, (gat i2 l3_0 s111).2)) (iadd .i64 s111 1) (isub .i64 s134 1)))))
def F_slices_partitionCmpFunc_2_int (fu : Nat) (x0 : List (Int × Int)) (x1 : Int) (x2 : Int) (x3 : Int) (x4 : Int → Int → Int → Int → Option (Int)) : Option (Int × Bool × List (Int × Int)) :=
  gd (inL x0 x3) (
  gd (inL x0 x1) (
  gd (inL x0 x1) (
  gd (inL (lset x0 x1 ((gat i2 x0 x3).1, (gat i2 x0 x3).2)) x3) (
  bd (
    bd (F_slices_partitionCmpFunc_2_int_L1 fu (lset (lset x0 x1 ((gat i2 x0 x3).1, (gat i2 x0 x3).2)) x3 ((gat i2 x0 x1).1, (gat i2 x0 x1).2)) x1 x4 (isub .i64 x2 1) fu (iadd .i64 x1 1)) fun s1 =>
    some s1) fun s21 =>
  bd (
    bd (F_slices_partitionCmpFunc_2_int_L2 fu (lset (lset x0 x1 ((gat i2 x0 x3).1, (gat i2 x0 x3).2)) x3 ((gat i2 x0 x1).1, (gat i2 x0 x1).2)) x1 x4 s21 fu (isub .i64 x2 1)) fun s2 =>
    some s2) fun s44 =>
  bif (ilt s44 s21) then
    gd (inL (lset (lset x0 x1 ((gat i2 x0 x3).1, (gat i2 x0 x3).2)) x3 ((gat i2 x0 x1).1, (gat i2 x0 x1).2)) x1) (
    gd (inL (lset (lset x0 x1 ((gat i2 x0 x3).1, (gat i2 x0 x3).2)) x3 ((gat i2 x0 x1).1, (gat i2 x0 x1).2)) s44) (
    gd (inL (lset (lset x0 x1 ((gat i2 x0 x3).1, (gat i2 x0 x3).2)) x3 ((gat i2 x0 x1).1, (gat i2 x0 x1).2)) s44) (
    gd (inL (lset (lset (lset x0 x1 ((gat i2 x0 x3).1, (gat i2 x0 x3).2)) x3 ((gat i2 x0 x1).1, (gat i2 x0 x1).2)) s44 ((gat i2 (lset (lset x0 x1 ((gat i2 x0 x3).1, (gat i2 x0 x3).2)) x3 ((gat i2 x0 x1).1, (gat i2 x0 x1).2)) x1).1, (gat i2 (lset (lset x0 x1 ((gat i2 x0 x3).1, (gat i2 x0 x3).2)) x3 ((gat i2 x0 x1).1, (gat i2 x0 x1).2)) x1).2)) x1) (
    some (s44, true, (lset (lset (lset (lset x0 x1 ((gat i2 x0 x3).1, (gat i2 x0 x3).2)) x3 ((gat i2 x0 x1).1, (gat i2 x0 x1).2)) s44 ((gat i2 (lset (lset x0 x1 ((gat i2 x0 x3).1, (gat i2 x0 x3).2)) x3 ((gat i2 x0 x1).1, (gat i2 x0 x1).2)) x1).1, (gat i2 (lset (lset x0 x1 ((gat i2 x0 x3).1, (gat i2 x0 x3).2)) x3 ((gat i2 x0 x1).1, (gat i2 x0 x1).2)) x1).2)) x1 ((gat i2 (lset (lset x0 x1 ((gat i2 x0 x3).1, (gat i2 x0 x3).2)) x3 ((gat i2 x0 x1).1, (gat i2 x0 x1).2)) s44).1, (gat i2 (lset (lset x0 x1 ((gat i2 x0 x3).1, (gat i2 x0 x3).2)) x3 ((gat i2 x0 x1).1, (gat i2 x0 x1).2)) s44).2)))))))
  else
    gd (inL (lset (lset x0 x1 ((gat i2 x0 x3).1, (gat i2 x0 x3).2)) x3 ((gat i2 x0 x1).1, (gat i2 x0 x1).2)) s44) (
    gd (inL (lset (lset x0 x1 ((gat i2 x0 x3).1, (gat i2 x0 x3).2)) x3 ((gat i2 x0 x1).1, (gat i2 x0 x1).2)) s21) (
    gd (inL (lset (lset x0 x1 ((gat i2 x0 x3).1, (gat i2 x0 x3).2)) x3 ((gat i2 x0 x1).1, (gat i2 x0 x1).2)) s21) (
    gd (inL (lset (lset (lset x0 x1 ((gat i2 x0 x3).1, (gat i2 x0 x3).2)) x3 ((gat i2 x0 x1).1, (gat i2 x0 x1).2)) s21 ((gat i2 (lset (lset x0 x1 ((gat i2 x0 x3).1, (gat i2 x0 x3).2)) x3 ((gat i2 x0 x1).1, (gat i2 x0 x1).2)) s44).1, (gat i2 (lset (lset x0 x1 ((gat i2 x0 x3).1, (gat i2 x0 x3).2)) x3 ((gat i2 x0 x1).1, (gat i2 x0 x1).2)) s44).2)) s44) (
    bd (F_slices_partitionCmpFunc_2_int_L3 fu x1 x4 fu (lset (lset (lset (lset x0 x1 ((gat i2 x0 x3).1, (gat i2 x0 x3).2)) x3 ((gat i2 x0 x1).1, (gat i2 x0 x1).2)) s21 ((gat i2 (lset (lset x0 x1 ((gat i2 x0 x3).1, (gat i2 x0 x3).2)) x3 ((gat i2 x0 x1).1, (gat i2 x0 x1).2)) s44).1, (gat i2 (lset (lset x0 x1 ((gat i2 x0 x3).1, (gat i2 x0 x3).2)) x3 ((gat i2 x0 x1).1, (gat i2 x0 x1).2)) s44).2)) s44 ((gat i2 (lset (lset x0 x1 ((gat i2 x0 x3).1, (gat i2 x0 x3).2)) x3 ((gat i2 x0 x1).1, (gat i2 x0 x1).2)) s21).1, (gat i2 (lset (lset x0 x1 ((gat i2 x0 x3).1, (gat i2 x0 x3).2)) x3 ((gat i2 x0 x1).1, (gat i2 x0 x1).2)) s21).2)) (iadd .i64 s21 1) (isub .i64 s44 1)) fun s3 =>
    gd (inL s3.1 x1) (
    gd (inL s3.1 s3.2.2) (
    gd (inL s3.1 s3.2.2) (
    gd (inL (lset s3.1 s3.2.2 ((gat i2 s3.1 x1).1, (gat i2 s3.1 x1).2)) x1) (
    some (s3.2.2, false, (lset (lset s3.1 s3.2.2 ((gat i2 s3.1 x1).1, (gat i2 s3.1 x1).2)) x1 ((gat i2 s3.1 s3.2.2).1, (gat i2 s3.1 s3.2.2).2)))))))))))))))
theorem F_slices_partitionCmpFunc_2_int_w {fu : Nat} {H : AH} {B : Nat → Prop} {v0 : Value} {f4 : FuncId} {c4 : List Value} {x0 : List (Int × Int)} {x1 : Int} {x2 : Int} {x3 : Int} {x4 : Int → Int → Int → Int → Option (Int)} {r : (Int × Bool × List (Int × Int))} (hB : Up B H.length) (S0 : Sep H B [flatI v0 62 x0]) (hx4 : ∀ (G : AH), AgB B H G → ∀ (y0_0 : Int) (y0_1 : Int) (y1_0 : Int) (y1_1 : Int) (q : (Int)), x4 y0_0 y0_1 y1_0 y1_1 = some q → ACallT Try.prog f4 ([(Value.agg #[(Value.int .i64 y0_0), (Value.int .i64 y0_1)]), (Value.agg #[(Value.int .i64 y1_0), (Value.int .i64 y1_1)])] ++ c4) G (fun u G' => AgB (Fr G) G G' ∧ u = (Value.int .i64 q) ∧ Sep G' (Fr G) [])) (hF : F_slices_partitionCmpFunc_2_int fu x0 x1 x2 x3 x4 = some r) :
    ACallT Try.prog 129 [v0, (Value.int .i64 x1), (Value.int .i64 x2), (Value.int .i64 x3), (Value.func (.func f4) #[] c4.toArray)] H (fun u G => AgB B H G ∧ u = (Value.tuple #[(Value.int .i64 r.1), (Value.bool r.2.1)]) ∧ Sep G B [flatI v0 62 r.2.2]) := by
  refine ACallT.of_body (nt := 178) (rs := [.tmp 10, .tmp 11]) Try.func129 rfl rfl rfl rfl ?_
  have A0 : AgB B H H := .refl _ _
  unfold F_slices_partitionCmpFunc_2_int at hF
  refine DWp.seq ?_
  refine DWp.region fun K hK => ?_
  simp [-aBin', -aBin, -aBinI, -aUn, -aNil, -flatV, n_fn, b_add, b_sub, b_mul, b_lt, b_le, b_gt, b_ge, b_eq, b_ne, u_not]
  apply hK
  clear hK K
  simp only [andThen, leaves]
  refine DWp.seq ?_
  obtain ⟨g1, hF⟩ := gd_some hF
  have q2 := (S0.slI (k := 0) rfl).idxG (P := Try.prog) (kk := .i64) el_58 sz_62 g1
  have q3 := (S0.slI (k := 0) rfl).loadG (P := Try.prog) sz_62 ag_62 g1
  obtain ⟨g4, hF⟩ := gd_some hF
  have q5 := (S0.slI (k := 0) rfl).idxG (P := Try.prog) (kk := .i64) el_58 sz_62 g4
  have q6 := (S0.slI (k := 0) rfl).loadG (P := Try.prog) sz_62 ag_62 g4
  obtain ⟨g7, hF⟩ := gd_some hF
  have q8 := (S0.slI (k := 0) rfl).idxG (P := Try.prog) (kk := .i64) el_58 sz_62 g7
  obtain ⟨G9, q10, S11, a13⟩ := S0.putI (P := Try.prog) (k := 0) (a := (gat i2 x0 x3).1) (b := (gat i2 x0 x3).2) rfl (hB.le A0.1) sz_62 g7
  have A12 := A0.trans a13
  replace S11 : Sep G9 B [flatI v0 62 (lset x0 x1 ((gat i2 x0 x3).1, (gat i2 x0 x3).2))] := S11
  obtain ⟨g14, hF⟩ := gd_some hF
  have q15 := (S11.slI (k := 0) rfl).idxG (P := Try.prog) (kk := .i64) el_58 sz_62 g14
  obtain ⟨G16, q17, S18, a20⟩ := S11.putI (P := Try.prog) (k := 0) (a := (gat i2 x0 x1).1) (b := (gat i2 x0 x1).2) rfl (hB.le A12.1) sz_62 g14
  have A19 := A12.trans a20
  replace S18 : Sep G16 B [flatI v0 62 (lset (lset x0 x1 ((gat i2 x0 x3).1, (gat i2 x0 x3).2)) x3 ((gat i2 x0 x1).1, (gat i2 x0 x1).2))] := S18
  refine DWp.drawn (B := [0, 0, 0, 0, 0, 0, 48, 112, 0, 0, 768, 1792, 4083, 8179, 16383, 32767]) 13 mixed (by kernel_rfl) (by decide) fun K hK => ?_
  simp [-aBin', -aBin, -aBinI, -aUn, -aNil, -flatV, n_fn, b_add, b_sub, b_mul, b_lt, b_le, b_gt, b_ge, b_eq, b_ne, u_not, q2, q3, q5, q6, q8, q10, q15, q17]
  apply hK
  clear hK K
  simp only [andThen, leaves]
  refine DWp.seq ?_
  refine DWp.region fun K hK => ?_
  simp [-aBin', -aBin, -aBinI, -aUn, -aNil, -flatV, n_fn, b_add, b_sub, b_mul, b_lt, b_le, b_gt, b_ge, b_eq, b_ne, u_not]
  apply hK
  clear hK K
  simp only [andThen, leaves]
  obtain ⟨s21, hL22, hF⟩ := bd_some hF
  refine DWp.seq (DWp.join (fun env G => Sep G B [flatI v0 62 (lset (lset x0 x1 ((gat i2 x0 x3).1, (gat i2 x0 x3).2)) x3 ((gat i2 x0 x1).1, (gat i2 x0 x1).2))] ∧ AgB B H G ∧ env 0 = some v0 ∧ env 1 = some (Value.int .i64 x1) ∧ env 4 = some (Value.func (.func f4) #[] c4.toArray) ∧ env 12 = some (Value.int .i64 s21) ∧ env 13 = some (Value.int .i64 (isub .i64 x2 1))) ?_ ?_)
  ·
    refine DWp.block ?_
    obtain ⟨s24, hL25, hL22⟩ := bd_some hL22
    have S26 := S18.pick [0] (by decide) rfl
    refine DWp.loop (fun n env G => ∃ y1_12 : Int, F_slices_partitionCmpFunc_2_int_L1 fu (lset (lset x0 x1 ((gat i2 x0 x3).1, (gat i2 x0 x3).2)) x3 ((gat i2 x0 x1).1, (gat i2 x0 x1).2)) x1 x4 (isub .i64 x2 1) n y1_12 = some s24 ∧ Sep G B [flatI v0 62 (lset (lset x0 x1 ((gat i2 x0 x3).1, (gat i2 x0 x3).2)) x3 ((gat i2 x0 x1).1, (gat i2 x0 x1).2))] ∧ AgB B H G ∧ env 0 = some v0 ∧ env 1 = some (Value.int .i64 x1) ∧ env 4 = some (Value.func (.func f4) #[] c4.toArray) ∧ env 12 = some (Value.int .i64 y1_12) ∧ env 13 = some (Value.int .i64 (isub .i64 x2 1))) fu ⟨(iadd .i64 x1 1), hL25, S26, A19, by simp [], by simp [], by simp [], by simp [], by simp []⟩ ?_
    rintro n2 env2 G2_ ⟨y1_12, hL25, S2_, A2_, e2_0, e2_1, e2_4, e2_12, e2_13⟩
    cases n2 with
    | zero => cases hL25
    | succ n2 =>
      simp only [F_slices_partitionCmpFunc_2_int_L1] at hL25
      refine DWp.seq ?_
      refine DWp.seq ?_
      rcases Bool.eq_false_or_eq_true (ile y1_12 (isub .i64 x2 1)) with hb27 | hb27
      · replace hL25 := cd_t hb27 hL25
        obtain ⟨g28, hL25⟩ := gd_some hL25
        have q29 := (S2_.slI (k := 0) rfl).idxG (P := Try.prog) (kk := .i64) el_58 sz_62 g28
        have q30 := (S2_.slI (k := 0) rfl).loadG (P := Try.prog) sz_62 ag_62 g28
        obtain ⟨g31, hL25⟩ := gd_some hL25
        have q32 := (S2_.slI (k := 0) rfl).idxG (P := Try.prog) (kk := .i64) el_58 sz_62 g31
        have q33 := (S2_.slI (k := 0) rfl).loadG (P := Try.prog) sz_62 ag_62 g31
        obtain ⟨r1, hc34, hL25⟩ := bd_some hL25
        refine DWp.drawn (B := [0, 0, 3, 7, 15, 15, 15, 111, 239, 15, 15, 1551, 3599, 8191, 16383, 32767]) 16 mixed (by kernel_rfl) (by decide) fun K hK => ?_
        simp [-aBin', -aBin, -aBinI, -aUn, -aNil, -flatV, n_fn, b_add, b_sub, b_mul, b_lt, b_le, b_gt, b_ge, b_eq, b_ne, u_not, e2_0, e2_1, e2_4, e2_12, e2_13, hb27, q29, q30, q32, q33]
        refine CallD.t (hx4 _ A2_ ((gat i2 (lset (lset x0 x1 ((gat i2 x0 x3).1, (gat i2 x0 x3).2)) x3 ((gat i2 x0 x1).1, (gat i2 x0 x1).2)) y1_12).1) ((gat i2 (lset (lset x0 x1 ((gat i2 x0 x3).1, (gat i2 x0 x3).2)) x3 ((gat i2 x0 x1).1, (gat i2 x0 x1).2)) y1_12).2) ((gat i2 (lset (lset x0 x1 ((gat i2 x0 x3).1, (gat i2 x0 x3).2)) x3 ((gat i2 x0 x1).1, (gat i2 x0 x1).2)) x1).1) ((gat i2 (lset (lset x0 x1 ((gat i2 x0 x3).1, (gat i2 x0 x3).2)) x3 ((gat i2 x0 x1).1, (gat i2 x0 x1).2)) x1).2) _  hc34) ?_
        rintro _ G35 ⟨a38, rfl, S39⟩
        have A37 := A2_.ext (hB.le A2_.1) a38.agree
        have S36 : Sep G35 B [flatI v0 62 (lset (lset x0 x1 ((gat i2 x0 x3).1, (gat i2 x0 x3).2)) x3 ((gat i2 x0 x1).1, (gat i2 x0 x1).2))] := S2_.agree a38.agree
        simp [-aBin', -aBin, -aBinI, -aUn, -aNil, -flatV, n_fn, b_add, b_sub, b_mul, b_lt, b_le, b_gt, b_ge, b_eq, b_ne, u_not, e2_0, e2_1, e2_4, e2_12, e2_13, hb27, q29, q30, q32, q33, a38.pre]
        apply hK
        clear hK K
        simp only [andThen, leaves]
        refine DWp.cond' (t := (ilt r1 0)) (by simp [e2_0, e2_1, e2_4, e2_12, e2_13]) (fun hb40 => ?_) (fun hb40 => ?_)
        · replace hL25 := cd_t hb40 hL25
          refine DWp.skip ?_
          simp only [andThen, leaves]
          refine DWp.block ?_
          refine DWp.region fun K hK => ?_
          simp [-aBin', -aBin, -aBinI, -aUn, -aNil, -flatV, n_fn, b_add, b_sub, b_mul, b_lt, b_le, b_gt, b_ge, b_eq, b_ne, u_not, e2_0, e2_1, e2_4, e2_12, e2_13]
          apply hK
          clear hK K
          simp only [andThen, leaves]
          have S41 := S36.pick [0] (by decide) rfl
          exact ⟨n2, Nat.lt_succ_self _, (iadd .i64 y1_12 1), hL25, S41, A37, by simp [e2_0, e2_1, e2_4, e2_12, e2_13], by simp [e2_0, e2_1, e2_4, e2_12, e2_13], by simp [e2_0, e2_1, e2_4, e2_12, e2_13], by simp [e2_0, e2_1, e2_4, e2_12, e2_13], by simp [e2_0, e2_1, e2_4, e2_12, e2_13]⟩
        · replace hL25 := cd_f hb40 hL25
          refine DWp.exit ?_
          simp only [andThen, leaves, if_true, if_false, reduceIte, Nat.reduceEqDiff]
          obtain rfl := Option.some.inj hL25
          have S42 := S36.pick [0] (by decide) rfl
          obtain rfl := Option.some.inj hL22
          exact ⟨S42, A37, by simp [e2_0, e2_1, e2_4, e2_12, e2_13], by simp [e2_0, e2_1, e2_4, e2_12, e2_13], by simp [e2_0, e2_1, e2_4, e2_12, e2_13], by simp [e2_0, e2_1, e2_4, e2_12, e2_13], by simp [e2_0, e2_1, e2_4, e2_12, e2_13]⟩
      · replace hL25 := cd_f hb27 hL25
        refine DWp.drawn (B := [0, 0, 3, 7, 15, 15, 15, 111, 239, 15, 15, 1551, 3599, 8191, 16383, 32767]) 16 mixed (by kernel_rfl) (by decide) fun K hK => ?_
        simp [-aBin', -aBin, -aBinI, -aUn, -aNil, -flatV, n_fn, b_add, b_sub, b_mul, b_lt, b_le, b_gt, b_ge, b_eq, b_ne, u_not, e2_0, e2_1, e2_4, e2_12, e2_13, hb27]
        apply hK
        clear hK K
        simp only [andThen, leaves]
        refine DWp.cf (by simp [e2_0, e2_1, e2_4, e2_12, e2_13, bnot]) ?_
        refine DWp.exit ?_
        simp only [andThen, leaves, if_true, if_false, reduceIte, Nat.reduceEqDiff]
        obtain rfl := Option.some.inj hL25
        have S43 := S2_.pick [0] (by decide) rfl
        obtain rfl := Option.some.inj hL22
        exact ⟨S43, A2_, by simp [e2_0, e2_1, e2_4, e2_12, e2_13], by simp [e2_0, e2_1, e2_4, e2_12, e2_13], by simp [e2_0, e2_1, e2_4, e2_12, e2_13], by simp [e2_0, e2_1, e2_4, e2_12, e2_13], by simp [e2_0, e2_1, e2_4, e2_12, e2_13]⟩
  · rintro env Gj44 ⟨Sj44, Aj44, ej44_0, ej44_1, ej44_4, ej44_12, ej44_13⟩
    obtain ⟨s45, hL46, hF⟩ := bd_some hF
    refine DWp.seq (DWp.join (fun env G => Sep G B [flatI v0 62 (lset (lset x0 x1 ((gat i2 x0 x3).1, (gat i2 x0 x3).2)) x3 ((gat i2 x0 x1).1, (gat i2 x0 x1).2))] ∧ AgB B H G ∧ env 0 = some v0 ∧ env 1 = some (Value.int .i64 x1) ∧ env 4 = some (Value.func (.func f4) #[] c4.toArray) ∧ env 12 = some (Value.int .i64 s21) ∧ env 13 = some (Value.int .i64 s45)) ?_ ?_)
    ·
      refine DWp.block ?_
      obtain ⟨s48, hL49, hL46⟩ := bd_some hL46
      have S50 := Sj44.pick [0] (by decide) rfl
      refine DWp.loop (fun n env G => ∃ y2_13 : Int, F_slices_partitionCmpFunc_2_int_L2 fu (lset (lset x0 x1 ((gat i2 x0 x3).1, (gat i2 x0 x3).2)) x3 ((gat i2 x0 x1).1, (gat i2 x0 x1).2)) x1 x4 s21 n y2_13 = some s48 ∧ Sep G B [flatI v0 62 (lset (lset x0 x1 ((gat i2 x0 x3).1, (gat i2 x0 x3).2)) x3 ((gat i2 x0 x1).1, (gat i2 x0 x1).2))] ∧ AgB B H G ∧ env 0 = some v0 ∧ env 1 = some (Value.int .i64 x1) ∧ env 4 = some (Value.func (.func f4) #[] c4.toArray) ∧ env 12 = some (Value.int .i64 s21) ∧ env 13 = some (Value.int .i64 y2_13)) fu ⟨(isub .i64 x2 1), hL49, S50, Aj44, by simp [ej44_0, ej44_1, ej44_4, ej44_12, ej44_13], by simp [ej44_0, ej44_1, ej44_4, ej44_12, ej44_13], by simp [ej44_0, ej44_1, ej44_4, ej44_12, ej44_13], by simp [ej44_0, ej44_1, ej44_4, ej44_12, ej44_13], by simp [ej44_0, ej44_1, ej44_4, ej44_12, ej44_13]⟩ ?_
      rintro n2 env2 G2_ ⟨y2_13, hL49, S2_, A2_, e2_0, e2_1, e2_4, e2_12, e2_13⟩
      cases n2 with
      | zero => cases hL49
      | succ n2 =>
        simp only [F_slices_partitionCmpFunc_2_int_L2] at hL49
        refine DWp.seq ?_
        refine DWp.seq ?_
        rcases Bool.eq_false_or_eq_true (ile s21 y2_13) with hb51 | hb51
        · replace hL49 := cd_t hb51 hL49
          obtain ⟨g52, hL49⟩ := gd_some hL49
          have q53 := (S2_.slI (k := 0) rfl).idxG (P := Try.prog) (kk := .i64) el_58 sz_62 g52
          have q54 := (S2_.slI (k := 0) rfl).loadG (P := Try.prog) sz_62 ag_62 g52
          obtain ⟨g55, hL49⟩ := gd_some hL49
          have q56 := (S2_.slI (k := 0) rfl).idxG (P := Try.prog) (kk := .i64) el_58 sz_62 g55
          have q57 := (S2_.slI (k := 0) rfl).loadG (P := Try.prog) sz_62 ag_62 g55
          obtain ⟨r2, hc58, hL49⟩ := bd_some hL49
          refine DWp.drawn (B := [0, 0, 3, 7, 15, 15, 15, 111, 239, 15, 15, 1551, 3599, 8191, 16383, 32767, 65535]) 17 mixed (by kernel_rfl) (by decide) fun K hK => ?_
          simp [-aBin', -aBin, -aBinI, -aUn, -aNil, -flatV, n_fn, b_add, b_sub, b_mul, b_lt, b_le, b_gt, b_ge, b_eq, b_ne, u_not, e2_0, e2_1, e2_4, e2_12, e2_13, hb51, q53, q54, q56, q57]
          refine CallD.t (hx4 _ A2_ ((gat i2 (lset (lset x0 x1 ((gat i2 x0 x3).1, (gat i2 x0 x3).2)) x3 ((gat i2 x0 x1).1, (gat i2 x0 x1).2)) y2_13).1) ((gat i2 (lset (lset x0 x1 ((gat i2 x0 x3).1, (gat i2 x0 x3).2)) x3 ((gat i2 x0 x1).1, (gat i2 x0 x1).2)) y2_13).2) ((gat i2 (lset (lset x0 x1 ((gat i2 x0 x3).1, (gat i2 x0 x3).2)) x3 ((gat i2 x0 x1).1, (gat i2 x0 x1).2)) x1).1) ((gat i2 (lset (lset x0 x1 ((gat i2 x0 x3).1, (gat i2 x0 x3).2)) x3 ((gat i2 x0 x1).1, (gat i2 x0 x1).2)) x1).2) _  hc58) ?_
          rintro _ G59 ⟨a62, rfl, S63⟩
          have A61 := A2_.ext (hB.le A2_.1) a62.agree
          have S60 : Sep G59 B [flatI v0 62 (lset (lset x0 x1 ((gat i2 x0 x3).1, (gat i2 x0 x3).2)) x3 ((gat i2 x0 x1).1, (gat i2 x0 x1).2))] := S2_.agree a62.agree
          simp [-aBin', -aBin, -aBinI, -aUn, -aNil, -flatV, n_fn, b_add, b_sub, b_mul, b_lt, b_le, b_gt, b_ge, b_eq, b_ne, u_not, e2_0, e2_1, e2_4, e2_12, e2_13, hb51, q53, q54, q56, q57, a62.pre]
          apply hK
          clear hK K
          simp only [andThen, leaves]
          refine DWp.cond' (t := (bnot (ilt r2 0))) (by simp [e2_0, e2_1, e2_4, e2_12, e2_13]) (fun hb64 => ?_) (fun hb64 => ?_)
          · replace hL49 := cd_t hb64 hL49
            refine DWp.skip ?_
            simp only [andThen, leaves]
            refine DWp.block ?_
            refine DWp.region fun K hK => ?_
            simp [-aBin', -aBin, -aBinI, -aUn, -aNil, -flatV, n_fn, b_add, b_sub, b_mul, b_lt, b_le, b_gt, b_ge, b_eq, b_ne, u_not, e2_0, e2_1, e2_4, e2_12, e2_13]
            apply hK
            clear hK K
            simp only [andThen, leaves]
            have S65 := S60.pick [0] (by decide) rfl
            exact ⟨n2, Nat.lt_succ_self _, (isub .i64 y2_13 1), hL49, S65, A61, by simp [e2_0, e2_1, e2_4, e2_12, e2_13], by simp [e2_0, e2_1, e2_4, e2_12, e2_13], by simp [e2_0, e2_1, e2_4, e2_12, e2_13], by simp [e2_0, e2_1, e2_4, e2_12, e2_13], by simp [e2_0, e2_1, e2_4, e2_12, e2_13]⟩
          · replace hL49 := cd_f hb64 hL49
            refine DWp.exit ?_
            simp only [andThen, leaves, if_true, if_false, reduceIte, Nat.reduceEqDiff]
            obtain rfl := Option.some.inj hL49
            have S66 := S60.pick [0] (by decide) rfl
            obtain rfl := Option.some.inj hL46
            exact ⟨S66, A61, by simp [e2_0, e2_1, e2_4, e2_12, e2_13], by simp [e2_0, e2_1, e2_4, e2_12, e2_13], by simp [e2_0, e2_1, e2_4, e2_12, e2_13], by simp [e2_0, e2_1, e2_4, e2_12, e2_13], by simp [e2_0, e2_1, e2_4, e2_12, e2_13]⟩
        · replace hL49 := cd_f hb51 hL49
          refine DWp.drawn (B := [0, 0, 3, 7, 15, 15, 15, 111, 239, 15, 15, 1551, 3599, 8191, 16383, 32767, 65535]) 17 mixed (by kernel_rfl) (by decide) fun K hK => ?_
          simp [-aBin', -aBin, -aBinI, -aUn, -aNil, -flatV, n_fn, b_add, b_sub, b_mul, b_lt, b_le, b_gt, b_ge, b_eq, b_ne, u_not, e2_0, e2_1, e2_4, e2_12, e2_13, hb51]
          apply hK
          clear hK K
          simp only [andThen, leaves]
          refine DWp.cf (by simp [e2_0, e2_1, e2_4, e2_12, e2_13, bnot]) ?_
          refine DWp.exit ?_
          simp only [andThen, leaves, if_true, if_false, reduceIte, Nat.reduceEqDiff]
          obtain rfl := Option.some.inj hL49
          have S67 := S2_.pick [0] (by decide) rfl
          obtain rfl := Option.some.inj hL46
          exact ⟨S67, A2_, by simp [e2_0, e2_1, e2_4, e2_12, e2_13], by simp [e2_0, e2_1, e2_4, e2_12, e2_13], by simp [e2_0, e2_1, e2_4, e2_12, e2_13], by simp [e2_0, e2_1, e2_4, e2_12, e2_13], by simp [e2_0, e2_1, e2_4, e2_12, e2_13]⟩
    · rintro env Gj68 ⟨Sj68, Aj68, ej68_0, ej68_1, ej68_4, ej68_12, ej68_13⟩
      refine DWp.seq ?_
      refine DWp.seq ?_
      refine DWp.region fun K hK => ?_
      simp [-aBin', -aBin, -aBinI, -aUn, -aNil, -flatV, n_fn, b_add, b_sub, b_mul, b_lt, b_le, b_gt, b_ge, b_eq, b_ne, u_not, ej68_0, ej68_1, ej68_4, ej68_12, ej68_13]
      apply hK
      clear hK K
      simp only [andThen, leaves]
      refine DWp.cond' (t := (ilt s45 s21)) (by simp [ej68_0, ej68_1, ej68_4, ej68_12, ej68_13]) (fun hb69 => ?_) (fun hb69 => ?_)
      · replace hF := cd_t hb69 hF
        refine DWp.seq ?_
        obtain ⟨g70, hF⟩ := gd_some hF
        have q71 := (Sj68.slI (k := 0) rfl).idxG (P := Try.prog) (kk := .i64) el_58 sz_62 g70
        have q72 := (Sj68.slI (k := 0) rfl).loadG (P := Try.prog) sz_62 ag_62 g70
        obtain ⟨g73, hF⟩ := gd_some hF
        have q74 := (Sj68.slI (k := 0) rfl).idxG (P := Try.prog) (kk := .i64) el_58 sz_62 g73
        have q75 := (Sj68.slI (k := 0) rfl).loadG (P := Try.prog) sz_62 ag_62 g73
        obtain ⟨g76, hF⟩ := gd_some hF
        have q77 := (Sj68.slI (k := 0) rfl).idxG (P := Try.prog) (kk := .i64) el_58 sz_62 g76
        obtain ⟨G78, q79, S80, a82⟩ := Sj68.putI (P := Try.prog) (k := 0) (a := (gat i2 (lset (lset x0 x1 ((gat i2 x0 x3).1, (gat i2 x0 x3).2)) x3 ((gat i2 x0 x1).1, (gat i2 x0 x1).2)) x1).1) (b := (gat i2 (lset (lset x0 x1 ((gat i2 x0 x3).1, (gat i2 x0 x3).2)) x3 ((gat i2 x0 x1).1, (gat i2 x0 x1).2)) x1).2) rfl (hB.le Aj68.1) sz_62 g76
        have A81 := Aj68.trans a82
        replace S80 : Sep G78 B [flatI v0 62 (lset (lset (lset x0 x1 ((gat i2 x0 x3).1, (gat i2 x0 x3).2)) x3 ((gat i2 x0 x1).1, (gat i2 x0 x1).2)) s45 ((gat i2 (lset (lset x0 x1 ((gat i2 x0 x3).1, (gat i2 x0 x3).2)) x3 ((gat i2 x0 x1).1, (gat i2 x0 x1).2)) x1).1, (gat i2 (lset (lset x0 x1 ((gat i2 x0 x3).1, (gat i2 x0 x3).2)) x3 ((gat i2 x0 x1).1, (gat i2 x0 x1).2)) x1).2))] := S80
        obtain ⟨g83, hF⟩ := gd_some hF
        have q84 := (S80.slI (k := 0) rfl).idxG (P := Try.prog) (kk := .i64) el_58 sz_62 g83
        obtain ⟨G85, q86, S87, a89⟩ := S80.putI (P := Try.prog) (k := 0) (a := (gat i2 (lset (lset x0 x1 ((gat i2 x0 x3).1, (gat i2 x0 x3).2)) x3 ((gat i2 x0 x1).1, (gat i2 x0 x1).2)) s45).1) (b := (gat i2 (lset (lset x0 x1 ((gat i2 x0 x3).1, (gat i2 x0 x3).2)) x3 ((gat i2 x0 x1).1, (gat i2 x0 x1).2)) s45).2) rfl (hB.le A81.1) sz_62 g83
        have A88 := A81.trans a89
        replace S87 : Sep G85 B [flatI v0 62 (lset (lset (lset (lset x0 x1 ((gat i2 x0 x3).1, (gat i2 x0 x3).2)) x3 ((gat i2 x0 x1).1, (gat i2 x0 x1).2)) s45 ((gat i2 (lset (lset x0 x1 ((gat i2 x0 x3).1, (gat i2 x0 x3).2)) x3 ((gat i2 x0 x1).1, (gat i2 x0 x1).2)) x1).1, (gat i2 (lset (lset x0 x1 ((gat i2 x0 x3).1, (gat i2 x0 x3).2)) x3 ((gat i2 x0 x1).1, (gat i2 x0 x1).2)) x1).2)) x1 ((gat i2 (lset (lset x0 x1 ((gat i2 x0 x3).1, (gat i2 x0 x3).2)) x3 ((gat i2 x0 x1).1, (gat i2 x0 x1).2)) s45).1, (gat i2 (lset (lset x0 x1 ((gat i2 x0 x3).1, (gat i2 x0 x3).2)) x3 ((gat i2 x0 x1).1, (gat i2 x0 x1).2)) s45).2))] := S87
        refine DWp.drawn (B := [0, 0, 0, 0, 0, 0, 48, 112, 0, 0, 768, 1792, 4083, 8179, 16383, 32767]) 13 mixed (by kernel_rfl) (by decide) fun K hK => ?_
        simp [-aBin', -aBin, -aBinI, -aUn, -aNil, -flatV, n_fn, b_add, b_sub, b_mul, b_lt, b_le, b_gt, b_ge, b_eq, b_ne, u_not, ej68_0, ej68_1, ej68_4, ej68_12, ej68_13, q71, q72, q74, q75, q77, q79, q84, q86]
        apply hK
        clear hK K
        simp only [andThen, leaves]
        refine DWp.seq ?_
        refine DWp.region fun K hK => ?_
        simp [-aBin', -aBin, -aBinI, -aUn, -aNil, -flatV, n_fn, b_add, b_sub, b_mul, b_lt, b_le, b_gt, b_ge, b_eq, b_ne, u_not, ej68_0, ej68_1, ej68_4, ej68_12, ej68_13]
        apply hK
        clear hK K
        simp only [andThen, leaves]
        refine DWp.ret ?_
        simp only [andThen, leaves]
        obtain rfl := Option.some.inj hF
        exact ⟨by simp, [(Value.int .i64 s45), (Value.bool true)], by simp [ej68_0, ej68_1, ej68_4, ej68_12, ej68_13], A88, rfl, S87.pick [0] (by decide) rfl⟩
      · replace hF := cd_f hb69 hF
        refine DWp.skip ?_
        simp only [andThen, leaves]
        refine DWp.seq ?_
        obtain ⟨g90, hF⟩ := gd_some hF
        have q91 := (Sj68.slI (k := 0) rfl).idxG (P := Try.prog) (kk := .i64) el_58 sz_62 g90
        have q92 := (Sj68.slI (k := 0) rfl).loadG (P := Try.prog) sz_62 ag_62 g90
        obtain ⟨g93, hF⟩ := gd_some hF
        have q94 := (Sj68.slI (k := 0) rfl).idxG (P := Try.prog) (kk := .i64) el_58 sz_62 g93
        have q95 := (Sj68.slI (k := 0) rfl).loadG (P := Try.prog) sz_62 ag_62 g93
        obtain ⟨g96, hF⟩ := gd_some hF
        have q97 := (Sj68.slI (k := 0) rfl).idxG (P := Try.prog) (kk := .i64) el_58 sz_62 g96
        obtain ⟨G98, q99, S100, a102⟩ := Sj68.putI (P := Try.prog) (k := 0) (a := (gat i2 (lset (lset x0 x1 ((gat i2 x0 x3).1, (gat i2 x0 x3).2)) x3 ((gat i2 x0 x1).1, (gat i2 x0 x1).2)) s45).1) (b := (gat i2 (lset (lset x0 x1 ((gat i2 x0 x3).1, (gat i2 x0 x3).2)) x3 ((gat i2 x0 x1).1, (gat i2 x0 x1).2)) s45).2) rfl (hB.le Aj68.1) sz_62 g96
        have A101 := Aj68.trans a102
        replace S100 : Sep G98 B [flatI v0 62 (lset (lset (lset x0 x1 ((gat i2 x0 x3).1, (gat i2 x0 x3).2)) x3 ((gat i2 x0 x1).1, (gat i2 x0 x1).2)) s21 ((gat i2 (lset (lset x0 x1 ((gat i2 x0 x3).1, (gat i2 x0 x3).2)) x3 ((gat i2 x0 x1).1, (gat i2 x0 x1).2)) s45).1, (gat i2 (lset (lset x0 x1 ((gat i2 x0 x3).1, (gat i2 x0 x3).2)) x3 ((gat i2 x0 x1).1, (gat i2 x0 x1).2)) s45).2))] := S100
        obtain ⟨g103, hF⟩ := gd_some hF
        have q104 := (S100.slI (k := 0) rfl).idxG (P := Try.prog) (kk := .i64) el_58 sz_62 g103
        obtain ⟨G105, q106, S107, a109⟩ := S100.putI (P := Try.prog) (k := 0) (a := (gat i2 (lset (lset x0 x1 ((gat i2 x0 x3).1, (gat i2 x0 x3).2)) x3 ((gat i2 x0 x1).1, (gat i2 x0 x1).2)) s21).1) (b := (gat i2 (lset (lset x0 x1 ((gat i2 x0 x3).1, (gat i2 x0 x3).2)) x3 ((gat i2 x0 x1).1, (gat i2 x0 x1).2)) s21).2) rfl (hB.le A101.1) sz_62 g103
        have A108 := A101.trans a109
        replace S107 : Sep G105 B [flatI v0 62 (lset (lset (lset (lset x0 x1 ((gat i2 x0 x3).1, (gat i2 x0 x3).2)) x3 ((gat i2 x0 x1).1, (gat i2 x0 x1).2)) s21 ((gat i2 (lset (lset x0 x1 ((gat i2 x0 x3).1, (gat i2 x0 x3).2)) x3 ((gat i2 x0 x1).1, (gat i2 x0 x1).2)) s45).1, (gat i2 (lset (lset x0 x1 ((gat i2 x0 x3).1, (gat i2 x0 x3).2)) x3 ((gat i2 x0 x1).1, (gat i2 x0 x1).2)) s45).2)) s45 ((gat i2 (lset (lset x0 x1 ((gat i2 x0 x3).1, (gat i2 x0 x3).2)) x3 ((gat i2 x0 x1).1, (gat i2 x0 x1).2)) s21).1, (gat i2 (lset (lset x0 x1 ((gat i2 x0 x3).1, (gat i2 x0 x3).2)) x3 ((gat i2 x0 x1).1, (gat i2 x0 x1).2)) s21).2))] := S107
        refine DWp.drawn (B := [0, 0, 0, 0, 0, 0, 48, 112, 0, 0, 768, 1792, 4083, 8179, 16383, 32767]) 13 mixed (by kernel_rfl) (by decide) fun K hK => ?_
        simp [-aBin', -aBin, -aBinI, -aUn, -aNil, -flatV, n_fn, b_add, b_sub, b_mul, b_lt, b_le, b_gt, b_ge, b_eq, b_ne, u_not, ej68_0, ej68_1, ej68_4, ej68_12, ej68_13, q91, q92, q94, q95, q97, q99, q104, q106]
        apply hK
        clear hK K
        simp only [andThen, leaves]
        refine DWp.seq ?_
        refine DWp.region fun K hK => ?_
        simp [-aBin', -aBin, -aBinI, -aUn, -aNil, -flatV, n_fn, b_add, b_sub, b_mul, b_lt, b_le, b_gt, b_ge, b_eq, b_ne, u_not, ej68_0, ej68_1, ej68_4, ej68_12, ej68_13]
        apply hK
        clear hK K
        simp only [andThen, leaves]
        refine DWp.seq ?_
        refine DWp.region fun K hK => ?_
        simp [-aBin', -aBin, -aBinI, -aUn, -aNil, -flatV, n_fn, b_add, b_sub, b_mul, b_lt, b_le, b_gt, b_ge, b_eq, b_ne, u_not, ej68_0, ej68_1, ej68_4, ej68_12, ej68_13]
        apply hK
        clear hK K
        simp only [andThen, leaves]
        refine DWp.seq ?_
        refine DWp.block ?_
        obtain ⟨s110, hL111, hF⟩ := bd_some hF
        have S112 := S107.pick [0] (by decide) rfl
        refine DWp.loop (fun n env G => ∃ l3_0 : List (Int × Int), ∃ y3_12 : Int, ∃ y3_13 : Int, F_slices_partitionCmpFunc_2_int_L3 fu x1 x4 n l3_0 y3_12 y3_13 = some s110 ∧ Sep G B [flatI v0 62 l3_0] ∧ AgB B H G ∧ env 0 = some v0 ∧ env 1 = some (Value.int .i64 x1) ∧ env 4 = some (Value.func (.func f4) #[] c4.toArray) ∧ env 12 = some (Value.int .i64 y3_12) ∧ env 13 = some (Value.int .i64 y3_13)) fu ⟨(lset (lset (lset (lset x0 x1 ((gat i2 x0 x3).1, (gat i2 x0 x3).2)) x3 ((gat i2 x0 x1).1, (gat i2 x0 x1).2)) s21 ((gat i2 (lset (lset x0 x1 ((gat i2 x0 x3).1, (gat i2 x0 x3).2)) x3 ((gat i2 x0 x1).1, (gat i2 x0 x1).2)) s45).1, (gat i2 (lset (lset x0 x1 ((gat i2 x0 x3).1, (gat i2 x0 x3).2)) x3 ((gat i2 x0 x1).1, (gat i2 x0 x1).2)) s45).2)) s45 ((gat i2 (lset (lset x0 x1 ((gat i2 x0 x3).1, (gat i2 x0 x3).2)) x3 ((gat i2 x0 x1).1, (gat i2 x0 x1).2)) s21).1, (gat i2 (lset (lset x0 x1 ((gat i2 x0 x3).1, (gat i2 x0 x3).2)) x3 ((gat i2 x0 x1).1, (gat i2 x0 x1).2)) s21).2)), (iadd .i64 s21 1), (isub .i64 s45 1), hL111, S112, A108, by simp [ej68_0, ej68_1, ej68_4, ej68_12, ej68_13], by simp [ej68_0, ej68_1, ej68_4, ej68_12, ej68_13], by simp [ej68_0, ej68_1, ej68_4, ej68_12, ej68_13], by simp [ej68_0, ej68_1, ej68_4, ej68_12, ej68_13], by simp [ej68_0, ej68_1, ej68_4, ej68_12, ej68_13]⟩ ?_
        rintro n1 env1 G1_ ⟨l3_0, y3_12, y3_13, hL111, S1_, A1_, e1_0, e1_1, e1_4, e1_12, e1_13⟩
        cases n1 with
        | zero => cases hL111
        | succ n1 =>
          simp only [F_slices_partitionCmpFunc_2_int_L3] at hL111
          refine DWp.block ?_
          obtain ⟨s113, hL114, hL111⟩ := bd_some hL111
          refine DWp.seq (DWp.join (fun env G => Sep G B [flatI v0 62 l3_0] ∧ AgB B H G ∧ env 0 = some v0 ∧ env 1 = some (Value.int .i64 x1) ∧ env 4 = some (Value.func (.func f4) #[] c4.toArray) ∧ env 12 = some (Value.int .i64 s113) ∧ env 13 = some (Value.int .i64 y3_13)) ?_ ?_)
          ·
            refine DWp.block ?_
            obtain ⟨s116, hL117, hL114⟩ := bd_some hL114
            have S118 := S1_.pick [0] (by decide) rfl
            refine DWp.loop (fun n env G => ∃ y4_12 : Int, F_slices_partitionCmpFunc_2_int_L4 fu l3_0 x1 x4 y3_13 n y4_12 = some s116 ∧ Sep G B [flatI v0 62 l3_0] ∧ AgB B H G ∧ env 0 = some v0 ∧ env 1 = some (Value.int .i64 x1) ∧ env 4 = some (Value.func (.func f4) #[] c4.toArray) ∧ env 12 = some (Value.int .i64 y4_12) ∧ env 13 = some (Value.int .i64 y3_13)) fu ⟨y3_12, hL117, S118, A1_, by simp [e1_0, e1_1, e1_4, e1_12, e1_13], by simp [e1_0, e1_1, e1_4, e1_12, e1_13], by simp [e1_0, e1_1, e1_4, e1_12, e1_13], by simp [e1_0, e1_1, e1_4, e1_12, e1_13], by simp [e1_0, e1_1, e1_4, e1_12, e1_13]⟩ ?_
            rintro n3 env3 G3_ ⟨y4_12, hL117, S3_, A3_, e3_0, e3_1, e3_4, e3_12, e3_13⟩
            cases n3 with
            | zero => cases hL117
            | succ n3 =>
              simp only [F_slices_partitionCmpFunc_2_int_L4] at hL117
              refine DWp.seq ?_
              refine DWp.seq ?_
              rcases Bool.eq_false_or_eq_true (ile y4_12 y3_13) with hb119 | hb119
              · replace hL117 := cd_t hb119 hL117
                obtain ⟨g120, hL117⟩ := gd_some hL117
                have q121 := (S3_.slI (k := 0) rfl).idxG (P := Try.prog) (kk := .i64) el_58 sz_62 g120
                have q122 := (S3_.slI (k := 0) rfl).loadG (P := Try.prog) sz_62 ag_62 g120
                obtain ⟨g123, hL117⟩ := gd_some hL117
                have q124 := (S3_.slI (k := 0) rfl).idxG (P := Try.prog) (kk := .i64) el_58 sz_62 g123
                have q125 := (S3_.slI (k := 0) rfl).loadG (P := Try.prog) sz_62 ag_62 g123
                obtain ⟨r3, hc126, hL117⟩ := bd_some hL117
                refine DWp.drawn (B := [0, 0, 3, 7, 15, 15, 15, 111, 239, 15, 15, 1551, 3599, 8191, 16383, 32767]) 16 mixed (by kernel_rfl) (by decide) fun K hK => ?_
                simp [-aBin', -aBin, -aBinI, -aUn, -aNil, -flatV, n_fn, b_add, b_sub, b_mul, b_lt, b_le, b_gt, b_ge, b_eq, b_ne, u_not, e3_0, e3_1, e3_4, e3_12, e3_13, hb119, q121, q122, q124, q125]
                refine CallD.t (hx4 _ A3_ ((gat i2 l3_0 y4_12).1) ((gat i2 l3_0 y4_12).2) ((gat i2 l3_0 x1).1) ((gat i2 l3_0 x1).2) _  hc126) ?_
                rintro _ G127 ⟨a130, rfl, S131⟩
                have A129 := A3_.ext (hB.le A3_.1) a130.agree
                have S128 : Sep G127 B [flatI v0 62 l3_0] := S3_.agree a130.agree
                simp [-aBin', -aBin, -aBinI, -aUn, -aNil, -flatV, n_fn, b_add, b_sub, b_mul, b_lt, b_le, b_gt, b_ge, b_eq, b_ne, u_not, e3_0, e3_1, e3_4, e3_12, e3_13, hb119, q121, q122, q124, q125, a130.pre]
                apply hK
                clear hK K
                simp only [andThen, leaves]
                refine DWp.cond' (t := (ilt r3 0)) (by simp [e3_0, e3_1, e3_4, e3_12, e3_13]) (fun hb132 => ?_) (fun hb132 => ?_)
                · replace hL117 := cd_t hb132 hL117
                  refine DWp.skip ?_
                  simp only [andThen, leaves]
                  refine DWp.block ?_
                  refine DWp.region fun K hK => ?_
                  simp [-aBin', -aBin, -aBinI, -aUn, -aNil, -flatV, n_fn, b_add, b_sub, b_mul, b_lt, b_le, b_gt, b_ge, b_eq, b_ne, u_not, e3_0, e3_1, e3_4, e3_12, e3_13]
                  apply hK
                  clear hK K
                  simp only [andThen, leaves]
                  have S133 := S128.pick [0] (by decide) rfl
                  exact ⟨n3, Nat.lt_succ_self _, (iadd .i64 y4_12 1), hL117, S133, A129, by simp [e3_0, e3_1, e3_4, e3_12, e3_13], by simp [e3_0, e3_1, e3_4, e3_12, e3_13], by simp [e3_0, e3_1, e3_4, e3_12, e3_13], by simp [e3_0, e3_1, e3_4, e3_12, e3_13], by simp [e3_0, e3_1, e3_4, e3_12, e3_13]⟩
                · replace hL117 := cd_f hb132 hL117
                  refine DWp.exit ?_
                  simp only [andThen, leaves, if_true, if_false, reduceIte, Nat.reduceEqDiff]
                  obtain rfl := Option.some.inj hL117
                  have S134 := S128.pick [0] (by decide) rfl
                  obtain rfl := Option.some.inj hL114
                  exact ⟨S134, A129, by simp [e3_0, e3_1, e3_4, e3_12, e3_13], by simp [e3_0, e3_1, e3_4, e3_12, e3_13], by simp [e3_0, e3_1, e3_4, e3_12, e3_13], by simp [e3_0, e3_1, e3_4, e3_12, e3_13], by simp [e3_0, e3_1, e3_4, e3_12, e3_13]⟩
              · replace hL117 := cd_f hb119 hL117
                refine DWp.drawn (B := [0, 0, 3, 7, 15, 15, 15, 111, 239, 15, 15, 1551, 3599, 8191, 16383, 32767]) 16 mixed (by kernel_rfl) (by decide) fun K hK => ?_
                simp [-aBin', -aBin, -aBinI, -aUn, -aNil, -flatV, n_fn, b_add, b_sub, b_mul, b_lt, b_le, b_gt, b_ge, b_eq, b_ne, u_not, e3_0, e3_1, e3_4, e3_12, e3_13, hb119]
                apply hK
                clear hK K
                simp only [andThen, leaves]
                refine DWp.cf (by simp [e3_0, e3_1, e3_4, e3_12, e3_13, bnot]) ?_
                refine DWp.exit ?_
                simp only [andThen, leaves, if_true, if_false, reduceIte, Nat.reduceEqDiff]
                obtain rfl := Option.some.inj hL117
                have S135 := S3_.pick [0] (by decide) rfl
                obtain rfl := Option.some.inj hL114
                exact ⟨S135, A3_, by simp [e3_0, e3_1, e3_4, e3_12, e3_13], by simp [e3_0, e3_1, e3_4, e3_12, e3_13], by simp [e3_0, e3_1, e3_4, e3_12, e3_13], by simp [e3_0, e3_1, e3_4, e3_12, e3_13], by simp [e3_0, e3_1, e3_4, e3_12, e3_13]⟩
          · rintro env Gj136 ⟨Sj136, Aj136, ej136_0, ej136_1, ej136_4, ej136_12, ej136_13⟩
            obtain ⟨s137, hL138, hL111⟩ := bd_some hL111
            refine DWp.seq (DWp.join (fun env G => Sep G B [flatI v0 62 l3_0] ∧ AgB B H G ∧ env 0 = some v0 ∧ env 1 = some (Value.int .i64 x1) ∧ env 4 = some (Value.func (.func f4) #[] c4.toArray) ∧ env 12 = some (Value.int .i64 s113) ∧ env 13 = some (Value.int .i64 s137)) ?_ ?_)
            ·
              refine DWp.block ?_
              obtain ⟨s140, hL141, hL138⟩ := bd_some hL138
              have S142 := Sj136.pick [0] (by decide) rfl
              refine DWp.loop (fun n env G => ∃ y5_13 : Int, F_slices_partitionCmpFunc_2_int_L5 fu l3_0 x1 x4 s113 n y5_13 = some s140 ∧ Sep G B [flatI v0 62 l3_0] ∧ AgB B H G ∧ env 0 = some v0 ∧ env 1 = some (Value.int .i64 x1) ∧ env 4 = some (Value.func (.func f4) #[] c4.toArray) ∧ env 12 = some (Value.int .i64 s113) ∧ env 13 = some (Value.int .i64 y5_13)) fu ⟨y3_13, hL141, S142, Aj136, by simp [ej136_0, ej136_1, ej136_4, ej136_12, ej136_13], by simp [ej136_0, ej136_1, ej136_4, ej136_12, ej136_13], by simp [ej136_0, ej136_1, ej136_4, ej136_12, ej136_13], by simp [ej136_0, ej136_1, ej136_4, ej136_12, ej136_13], by simp [ej136_0, ej136_1, ej136_4, ej136_12, ej136_13]⟩ ?_
              rintro n3 env3 G3_ ⟨y5_13, hL141, S3_, A3_, e3_0, e3_1, e3_4, e3_12, e3_13⟩
              cases n3 with
              | zero => cases hL141
              | succ n3 =>
                simp only [F_slices_partitionCmpFunc_2_int_L5] at hL141
                refine DWp.seq ?_
                refine DWp.seq ?_
                rcases Bool.eq_false_or_eq_true (ile s113 y5_13) with hb143 | hb143
                · replace hL141 := cd_t hb143 hL141
                  obtain ⟨g144, hL141⟩ := gd_some hL141
                  have q145 := (S3_.slI (k := 0) rfl).idxG (P := Try.prog) (kk := .i64) el_58 sz_62 g144
                  have q146 := (S3_.slI (k := 0) rfl).loadG (P := Try.prog) sz_62 ag_62 g144
                  obtain ⟨g147, hL141⟩ := gd_some hL141
                  have q148 := (S3_.slI (k := 0) rfl).idxG (P := Try.prog) (kk := .i64) el_58 sz_62 g147
                  have q149 := (S3_.slI (k := 0) rfl).loadG (P := Try.prog) sz_62 ag_62 g147
                  obtain ⟨r4, hc150, hL141⟩ := bd_some hL141
                  refine DWp.drawn (B := [0, 0, 3, 7, 15, 15, 15, 111, 239, 15, 15, 1551, 3599, 8191, 16383, 32767, 65535]) 17 mixed (by kernel_rfl) (by decide) fun K hK => ?_
                  simp [-aBin', -aBin, -aBinI, -aUn, -aNil, -flatV, n_fn, b_add, b_sub, b_mul, b_lt, b_le, b_gt, b_ge, b_eq, b_ne, u_not, e3_0, e3_1, e3_4, e3_12, e3_13, hb143, q145, q146, q148, q149]
                  refine CallD.t (hx4 _ A3_ ((gat i2 l3_0 y5_13).1) ((gat i2 l3_0 y5_13).2) ((gat i2 l3_0 x1).1) ((gat i2 l3_0 x1).2) _  hc150) ?_
                  rintro _ G151 ⟨a154, rfl, S155⟩
                  have A153 := A3_.ext (hB.le A3_.1) a154.agree
                  have S152 : Sep G151 B [flatI v0 62 l3_0] := S3_.agree a154.agree
                  simp [-aBin', -aBin, -aBinI, -aUn, -aNil, -flatV, n_fn, b_add, b_sub, b_mul, b_lt, b_le, b_gt, b_ge, b_eq, b_ne, u_not, e3_0, e3_1, e3_4, e3_12, e3_13, hb143, q145, q146, q148, q149, a154.pre]
                  apply hK
                  clear hK K
                  simp only [andThen, leaves]
                  refine DWp.cond' (t := (bnot (ilt r4 0))) (by simp [e3_0, e3_1, e3_4, e3_12, e3_13]) (fun hb156 => ?_) (fun hb156 => ?_)
                  · replace hL141 := cd_t hb156 hL141
                    refine DWp.skip ?_
                    simp only [andThen, leaves]
                    refine DWp.block ?_
                    refine DWp.region fun K hK => ?_
                    simp [-aBin', -aBin, -aBinI, -aUn, -aNil, -flatV, n_fn, b_add, b_sub, b_mul, b_lt, b_le, b_gt, b_ge, b_eq, b_ne, u_not, e3_0, e3_1, e3_4, e3_12, e3_13]
                    apply hK
                    clear hK K
                    simp only [andThen, leaves]
                    have S157 := S152.pick [0] (by decide) rfl
                    exact ⟨n3, Nat.lt_succ_self _, (isub .i64 y5_13 1), hL141, S157, A153, by simp [e3_0, e3_1, e3_4, e3_12, e3_13], by simp [e3_0, e3_1, e3_4, e3_12, e3_13], by simp [e3_0, e3_1, e3_4, e3_12, e3_13], by simp [e3_0, e3_1, e3_4, e3_12, e3_13], by simp [e3_0, e3_1, e3_4, e3_12, e3_13]⟩
                  · replace hL141 := cd_f hb156 hL141
                    refine DWp.exit ?_
                    simp only [andThen, leaves, if_true, if_false, reduceIte, Nat.reduceEqDiff]
                    obtain rfl := Option.some.inj hL141
                    have S158 := S152.pick [0] (by decide) rfl
                    obtain rfl := Option.some.inj hL138
                    exact ⟨S158, A153, by simp [e3_0, e3_1, e3_4, e3_12, e3_13], by simp [e3_0, e3_1, e3_4, e3_12, e3_13], by simp [e3_0, e3_1, e3_4, e3_12, e3_13], by simp [e3_0, e3_1, e3_4, e3_12, e3_13], by simp [e3_0, e3_1, e3_4, e3_12, e3_13]⟩
                · replace hL141 := cd_f hb143 hL141
                  refine DWp.drawn (B := [0, 0, 3, 7, 15, 15, 15, 111, 239, 15, 15, 1551, 3599, 8191, 16383, 32767, 65535]) 17 mixed (by kernel_rfl) (by decide) fun K hK => ?_
                  simp [-aBin', -aBin, -aBinI, -aUn, -aNil, -flatV, n_fn, b_add, b_sub, b_mul, b_lt, b_le, b_gt, b_ge, b_eq, b_ne, u_not, e3_0, e3_1, e3_4, e3_12, e3_13, hb143]
                  apply hK
                  clear hK K
                  simp only [andThen, leaves]
                  refine DWp.cf (by simp [e3_0, e3_1, e3_4, e3_12, e3_13, bnot]) ?_
                  refine DWp.exit ?_
                  simp only [andThen, leaves, if_true, if_false, reduceIte, Nat.reduceEqDiff]
                  obtain rfl := Option.some.inj hL141
                  have S159 := S3_.pick [0] (by decide) rfl
                  obtain rfl := Option.some.inj hL138
                  exact ⟨S159, A3_, by simp [e3_0, e3_1, e3_4, e3_12, e3_13], by simp [e3_0, e3_1, e3_4, e3_12, e3_13], by simp [e3_0, e3_1, e3_4, e3_12, e3_13], by simp [e3_0, e3_1, e3_4, e3_12, e3_13], by simp [e3_0, e3_1, e3_4, e3_12, e3_13]⟩
            · rintro env Gj160 ⟨Sj160, Aj160, ej160_0, ej160_1, ej160_4, ej160_12, ej160_13⟩
              refine DWp.seq ?_
              refine DWp.seq ?_
              refine DWp.region fun K hK => ?_
              simp [-aBin', -aBin, -aBinI, -aUn, -aNil, -flatV, n_fn, b_add, b_sub, b_mul, b_lt, b_le, b_gt, b_ge, b_eq, b_ne, u_not, ej160_0, ej160_1, ej160_4, ej160_12, ej160_13]
              apply hK
              clear hK K
              simp only [andThen, leaves]
              refine DWp.cond' (t := (ilt s137 s113)) (by simp [ej160_0, ej160_1, ej160_4, ej160_12, ej160_13]) (fun hb161 => ?_) (fun hb161 => ?_)
              · replace hL111 := cd_t hb161 hL111
                refine DWp.exit ?_
                simp only [andThen, leaves, if_true, if_false, reduceIte, Nat.reduceEqDiff]
                obtain rfl := Option.some.inj hL111
                try dsimp only at hF
                refine DWp.seq ?_
                obtain ⟨g162, hF⟩ := gd_some hF
                have q163 := (Sj160.slI (k := 0) rfl).idxG (P := Try.prog) (kk := .i64) el_58 sz_62 g162
                have q164 := (Sj160.slI (k := 0) rfl).loadG (P := Try.prog) sz_62 ag_62 g162
                obtain ⟨g165, hF⟩ := gd_some hF
                have q166 := (Sj160.slI (k := 0) rfl).idxG (P := Try.prog) (kk := .i64) el_58 sz_62 g165
                have q167 := (Sj160.slI (k := 0) rfl).loadG (P := Try.prog) sz_62 ag_62 g165
                obtain ⟨g168, hF⟩ := gd_some hF
                have q169 := (Sj160.slI (k := 0) rfl).idxG (P := Try.prog) (kk := .i64) el_58 sz_62 g168
                obtain ⟨G170, q171, S172, a174⟩ := Sj160.putI (P := Try.prog) (k := 0) (a := (gat i2 l3_0 x1).1) (b := (gat i2 l3_0 x1).2) rfl (hB.le Aj160.1) sz_62 g168
                have A173 := Aj160.trans a174
                replace S172 : Sep G170 B [flatI v0 62 (lset l3_0 s137 ((gat i2 l3_0 x1).1, (gat i2 l3_0 x1).2))] := S172
                obtain ⟨g175, hF⟩ := gd_some hF
                have q176 := (S172.slI (k := 0) rfl).idxG (P := Try.prog) (kk := .i64) el_58 sz_62 g175
                obtain ⟨G177, q178, S179, a181⟩ := S172.putI (P := Try.prog) (k := 0) (a := (gat i2 l3_0 s137).1) (b := (gat i2 l3_0 s137).2) rfl (hB.le A173.1) sz_62 g175
                have A180 := A173.trans a181
                replace S179 : Sep G177 B [flatI v0 62 (lset (lset l3_0 s137 ((gat i2 l3_0 x1).1, (gat i2 l3_0 x1).2)) x1 ((gat i2 l3_0 s137).1, (gat i2 l3_0 s137).2))] := S179
                refine DWp.drawn (B := [0, 0, 0, 0, 0, 0, 48, 112, 0, 0, 768, 1792, 4083, 8179, 16383, 32767]) 13 mixed (by kernel_rfl) (by decide) fun K hK => ?_
                simp [-aBin', -aBin, -aBinI, -aUn, -aNil, -flatV, n_fn, b_add, b_sub, b_mul, b_lt, b_le, b_gt, b_ge, b_eq, b_ne, u_not, ej160_0, ej160_1, ej160_4, ej160_12, ej160_13, q163, q164, q166, q167, q169, q171, q176, q178]
                apply hK
                clear hK K
                simp only [andThen, leaves]
                refine DWp.seq ?_
                refine DWp.region fun K hK => ?_
                simp [-aBin', -aBin, -aBinI, -aUn, -aNil, -flatV, n_fn, b_add, b_sub, b_mul, b_lt, b_le, b_gt, b_ge, b_eq, b_ne, u_not, ej160_0, ej160_1, ej160_4, ej160_12, ej160_13]
                apply hK
                clear hK K
                simp only [andThen, leaves]
                refine DWp.ret ?_
                obtain rfl := Option.some.inj hF
                exact ⟨by simp, [(Value.int .i64 s137), (Value.bool false)], by simp [ej160_0, ej160_1, ej160_4, ej160_12, ej160_13], A180, rfl, S179.pick [0] (by decide) rfl⟩
              · replace hL111 := cd_f hb161 hL111
                refine DWp.skip ?_
                simp only [andThen, leaves]
                refine DWp.seq ?_
                obtain ⟨g182, hL111⟩ := gd_some hL111
                have q183 := (Sj160.slI (k := 0) rfl).idxG (P := Try.prog) (kk := .i64) el_58 sz_62 g182
                have q184 := (Sj160.slI (k := 0) rfl).loadG (P := Try.prog) sz_62 ag_62 g182
                obtain ⟨g185, hL111⟩ := gd_some hL111
                have q186 := (Sj160.slI (k := 0) rfl).idxG (P := Try.prog) (kk := .i64) el_58 sz_62 g185
                have q187 := (Sj160.slI (k := 0) rfl).loadG (P := Try.prog) sz_62 ag_62 g185
                obtain ⟨g188, hL111⟩ := gd_some hL111
                have q189 := (Sj160.slI (k := 0) rfl).idxG (P := Try.prog) (kk := .i64) el_58 sz_62 g188
                obtain ⟨G190, q191, S192, a194⟩ := Sj160.putI (P := Try.prog) (k := 0) (a := (gat i2 l3_0 s137).1) (b := (gat i2 l3_0 s137).2) rfl (hB.le Aj160.1) sz_62 g188
                have A193 := Aj160.trans a194
                replace S192 : Sep G190 B [flatI v0 62 (lset l3_0 s113 ((gat i2 l3_0 s137).1, (gat i2 l3_0 s137).2))] := S192
                obtain ⟨g195, hL111⟩ := gd_some hL111
                have q196 := (S192.slI (k := 0) rfl).idxG (P := Try.prog) (kk := .i64) el_58 sz_62 g195
                obtain ⟨G197, q198, S199, a201⟩ := S192.putI (P := Try.prog) (k := 0) (a := (gat i2 l3_0 s113).1) (b := (gat i2 l3_0 s113).2) rfl (hB.le A193.1) sz_62 g195
                have A200 := A193.trans a201
                replace S199 : Sep G197 B [flatI v0 62 (lset (lset l3_0 s113 ((gat i2 l3_0 s137).1, (gat i2 l3_0 s137).2)) s137 ((gat i2 l3_0 s113).1, (gat i2 l3_0 s113).2))] := S199
                refine DWp.drawn (B := [0, 0, 0, 0, 0, 0, 48, 112, 0, 0, 768, 1792, 4083, 8179, 16383, 32767]) 13 mixed (by kernel_rfl) (by decide) fun K hK => ?_
                simp [-aBin', -aBin, -aBinI, -aUn, -aNil, -flatV, n_fn, b_add, b_sub, b_mul, b_lt, b_le, b_gt, b_ge, b_eq, b_ne, u_not, ej160_0, ej160_1, ej160_4, ej160_12, ej160_13, q183, q184, q186, q187, q189, q191, q196, q198]
                apply hK
                clear hK K
                simp only [andThen, leaves]
                refine DWp.seq ?_
                refine DWp.region fun K hK => ?_
                simp [-aBin', -aBin, -aBinI, -aUn, -aNil, -flatV, n_fn, b_add, b_sub, b_mul, b_lt, b_le, b_gt, b_ge, b_eq, b_ne, u_not, ej160_0, ej160_1, ej160_4, ej160_12, ej160_13]
                apply hK
                clear hK K
                simp only [andThen, leaves]
                refine DWp.region fun K hK => ?_
                simp [-aBin', -aBin, -aBinI, -aUn, -aNil, -flatV, n_fn, b_add, b_sub, b_mul, b_lt, b_le, b_gt, b_ge, b_eq, b_ne, u_not, ej160_0, ej160_1, ej160_4, ej160_12, ej160_13]
                apply hK
                clear hK K
                simp only [andThen, leaves]
                have S202 := S199.pick [0] (by decide) rfl
                exact ⟨n1, Nat.lt_succ_self _, (lset (lset l3_0 s113 ((gat i2 l3_0 s137).1, (gat i2 l3_0 s137).2)) s137 ((gat i2 l3_0 s113).1, (gat i2 l3_0 s113).2)), (iadd .i64 s113 1), (isub .i64 s137 1), hL111, S202, A200, by simp [ej160_0, ej160_1, ej160_4, ej160_12, ej160_13], by simp [ej160_0, ej160_1, ej160_4, ej160_12, ej160_13], by simp [ej160_0, ej160_1, ej160_4, ej160_12, ej160_13], by simp [ej160_0, ej160_1, ej160_4, ej160_12, ej160_13], by simp [ej160_0, ej160_1, ej160_4, ej160_12, ej160_13]⟩
def F_slices_pdqsortCmpFunc_2_int_L1 (fu : Nat) (self_ : (List (Int × Int)) → Int → Int → Int → (Int → Int → Int → Int → Option (Int)) → Option (List (Int × Int))) (k1_0 : (Int → Int → Int → Int → Option (Int))) : Nat → List (Int × Int) → Int → Int → Int → Bool → Bool → Option (LR (List (Int × Int)) (List (Int × Int) × Int × Int × Int × Bool × Bool))
  | 0, _, _, _, _, _, _ => none
  | n + 1, l1_0, y1_1, y1_2, y1_3, y1_10, y1_11 =>
    bif (ile (isub .i64 y1_2 y1_1) 12) then
      bd (F_slices_insertionSortCmpFunc_2_int fu l1_0 y1_1 y1_2 k1_0) fun r1 =>
      some (.ret r1)
    else
      bif (ieq y1_3 0) then
        bd (F_slices_heapSortCmpFunc_2_int fu l1_0 y1_1 y1_2 k1_0) fun r2 =>
        some (.ret r2)
      else
        bd (
          bif (bnot y1_10) then
            bd (F_slices_breakPatternsCmpFunc_2_int fu l1_0 y1_1 y1_2 k1_0) fun r3 =>
            some (r3, (isub .i64 y1_3 1))
          else
            some (l1_0, y1_3)) fun s34 =>
        bd (F_slices_choosePivotCmpFunc_2_int fu s34.1 y1_1 y1_2 k1_0) fun r4 =>
        bd (
          bif (ieq r4.2 2) then
            bd (F_slices_reverseRangeCmpFunc_2_int fu s34.1 y1_1 y1_2 k1_0) fun r5 =>
            some (r5, (isub .i64 (isub .i64 y1_2 1) (isub .i64 r4.1 y1_1)), 1)
          else
            some (s34.1, r4.1, r4.2)) fun s62 =>
        bd (
          bif y1_10 then
            bif y1_11 then
              some (ieq s62.2.2 1)
            else
              some false
          else
            some false) fun s83 =>
        bif s83 then
          bd (F_slices_partialInsertionSortCmpFunc_2_int fu s62.1 y1_1 y1_2 k1_0) fun r6 =>
          bif r6.1 then
            some (.ret r6.2)
          else
            bd (
              bif (ilt 0 y1_1) then
                gd (inL r6.2 (isub .i64 y1_1 1)) (
                gd (inL r6.2 s62.2.1) (
                bd (k1_0 ((gat i2 r6.2 (isub .i64 y1_1 1)).1) ((gat i2 r6.2 (isub .i64 y1_1 1)).2) ((gat i2 r6.2 s62.2.1).1) ((gat i2 r6.2 s62.2.1).2)) fun r7 =>
                some (bnot (ilt r7 0))))
              else
                some false) fun s108 =>
            bif s108 then
              bd (F_slices_partitionEqualCmpFunc_2_int fu r6.2 y1_1 y1_2 s62.2.1 k1_0) fun r8 =>
              F_slices_pdqsortCmpFunc_2_int_L1 fu self_ k1_0 n r8.2 r8.1 y1_2 s34.2 y1_10 y1_11
            else
              bd (F_slices_partitionCmpFunc_2_int fu r6.2 y1_1 y1_2 s62.2.1 k1_0) fun r9 =>
              bif (ilt (isub .i64 r9.1 y1_1) (isub .i64 y1_2 r9.1)) then
                bd (self_ r9.2.2 y1_1 r9.1 s34.2 k1_0) fun r10 =>
                F_slices_pdqsortCmpFunc_2_int_L1 fu self_ k1_0 n r10 (iadd .i64 r9.1 1) y1_2 s34.2 (ile (iquo .i64 (isub .i64 y1_2 y1_1) 8) (isub .i64 r9.1 y1_1)) r9.2.1
              else
                bd (self_ r9.2.2 (iadd .i64 r9.1 1) y1_2 s34.2 k1_0) fun r11 =>
                F_slices_pdqsortCmpFunc_2_int_L1 fu self_ k1_0 n r11 y1_1 r9.1 s34.2 (ile (iquo .i64 (isub .i64 y1_2 y1_1) 8) (isub .i64 y1_2 r9.1)) r9.2.1
        else
          bd (
            bif (ilt 0 y1_1) then
              gd (inL s62.1 (isub .i64 y1_1 1)) (
              gd (inL s62.1 s62.2.1) (
              bd (k1_0 ((gat i2 s62.1 (isub .i64 y1_1 1)).1) ((gat i2 s62.1 (isub .i64 y1_1 1)).2) ((gat i2 s62.1 s62.2.1).1) ((gat i2 s62.1 s62.2.1).2)) fun r12 =>
              some (bnot (ilt r12 0))))
            else
              some false) fun s189 =>
          bif s189 then
            bd (F_slices_partitionEqualCmpFunc_2_int fu s62.1 y1_1 y1_2 s62.2.1 k1_0) fun r13 =>
            F_slices_pdqsortCmpFunc_2_int_L1 fu self_ k1_0 n r13.2 r13.1 y1_2 s34.2 y1_10 y1_11
          else
            bd (F_slices_partitionCmpFunc_2_int fu s62.1 y1_1 y1_2 s62.2.1 k1_0) fun r14 =>
            bif (ilt (isub .i64 r14.1 y1_1) (isub .i64 y1_2 r14.1)) then
              bd (self_ r14.2.2 y1_1 r14.1 s34.2 k1_0) fun r15 =>
              F_slices_pdqsortCmpFunc_2_int_L1 fu self_ k1_0 n r15 (iadd .i64 r14.1 1) y1_2 s34.2 (ile (iquo .i64 (isub .i64 y1_2 y1_1) 8) (isub .i64 r14.1 y1_1)) r14.2.1
            else
              bd (self_ r14.2.2 (iadd .i64 r14.1 1) y1_2 s34.2 k1_0) fun r16 =>
              F_slices_pdqsortCmpFunc_2_int_L1 fu self_ k1_0 n r16 y1_1 r14.1 s34.2 (ile (iquo .i64 (isub .i64 y1_2 y1_1) 8) (isub .i64 y1_2 r14.1)) r14.2.1
def F_slices_pdqsortCmpFunc_2_int : Nat → (List (Int × Int)) → Int → Int → Int → (Int → Int → Int → Int → Option (Int)) → Option (List (Int × Int))
  | 0, _, _, _, _, _ => none
  | fu + 1, x0, x1, x2, x3, x4 =>
    bd (F_slices_pdqsortCmpFunc_2_int_L1 fu (F_slices_pdqsortCmpFunc_2_int fu) x4 fu x0 x1 x2 x3 true true) fun s1 => lr s1 fun _ => none
theorem F_slices_pdqsortCmpFunc_2_int_w : ∀ {fu : Nat} {H : AH} {B : Nat → Prop} {v0 : Value} {f4 : FuncId} {c4 : List Value} {x0 : List (Int × Int)} {x1 : Int} {x2 : Int} {x3 : Int} {x4 : Int → Int → Int → Int → Option (Int)} {r : (List (Int × Int))} (hB : Up B H.length) (S0 : Sep H B [flatI v0 62 x0]) (hx4 : ∀ (G : AH), AgB B H G → ∀ (y0_0 : Int) (y0_1 : Int) (y1_0 : Int) (y1_1 : Int) (q : (Int)), x4 y0_0 y0_1 y1_0 y1_1 = some q → ACallT Try.prog f4 ([(Value.agg #[(Value.int .i64 y0_0), (Value.int .i64 y0_1)]), (Value.agg #[(Value.int .i64 y1_0), (Value.int .i64 y1_1)])] ++ c4) G (fun u G' => AgB (Fr G) G G' ∧ u = (Value.int .i64 q) ∧ Sep G' (Fr G) [])) (hF : F_slices_pdqsortCmpFunc_2_int fu x0 x1 x2 x3 x4 = some r),
    ACallT Try.prog 116 [v0, (Value.int .i64 x1), (Value.int .i64 x2), (Value.int .i64 x3), (Value.func (.func f4) #[] c4.toArray)] H (fun u G => AgB B H G ∧ u = (Value.tuple #[]) ∧ Sep G B [flatI v0 62 r]) := by
  intro fu
  induction fu with
  | zero => intros; rename_i hF; cases hF
  | succ fu ih =>
  intro H B v0 f4 c4 x0 x1 x2 x3 x4 r hB S0 hx4 hF
  simp only [F_slices_pdqsortCmpFunc_2_int] at hF
  refine ACallT.of_body (nt := 148) (rs := []) Try.func116 rfl rfl rfl rfl ?_
  have A0 : AgB B H H := .refl _ _
  refine DWp.seq ?_
  refine DWp.region fun K hK => ?_
  simp [-aBin', -aBin, -aBinI, -aUn, -aNil, -flatV, n_fn, b_add, b_sub, b_mul, b_lt, b_le, b_gt, b_ge, b_eq, b_ne, u_not]
  apply hK
  clear hK K
  simp only [andThen, leaves]
  refine DWp.seq ?_
  refine DWp.region fun K hK => ?_
  simp [-aBin', -aBin, -aBinI, -aUn, -aNil, -flatV, n_fn, b_add, b_sub, b_mul, b_lt, b_le, b_gt, b_ge, b_eq, b_ne, u_not]
  apply hK
  clear hK K
  simp only [andThen, leaves]
  refine DWp.block ?_
  obtain ⟨s1, hL2, hF⟩ := bd_some hF
  have S3 := S0.pick [0] (by decide) rfl
  refine DWp.loop (fun n env G => ∃ l1_0 : List (Int × Int), ∃ y1_1 : Int, ∃ y1_2 : Int, ∃ y1_3 : Int, ∃ y1_10 : Bool, ∃ y1_11 : Bool, F_slices_pdqsortCmpFunc_2_int_L1 fu (F_slices_pdqsortCmpFunc_2_int fu) x4 n l1_0 y1_1 y1_2 y1_3 y1_10 y1_11 = some s1 ∧ Sep G B [flatI v0 62 l1_0] ∧ AgB B H G ∧ env 0 = some v0 ∧ env 1 = some (Value.int .i64 y1_1) ∧ env 2 = some (Value.int .i64 y1_2) ∧ env 3 = some (Value.int .i64 y1_3) ∧ env 4 = some (Value.func (.func f4) #[] c4.toArray) ∧ env 10 = some (Value.bool y1_10) ∧ env 11 = some (Value.bool y1_11)) fu ⟨x0, x1, x2, x3, true, true, hL2, S3, A0, by simp [], by simp [], by simp [], by simp [], by simp [], by simp [], by simp []⟩ ?_
  rintro n1 env1 G1_ ⟨l1_0, y1_1, y1_2, y1_3, y1_10, y1_11, hL2, S1_, A1_, e1_0, e1_1, e1_2, e1_3, e1_4, e1_10, e1_11⟩
  cases n1 with
  | zero => cases hL2
  | succ n1 =>
    simp only [F_slices_pdqsortCmpFunc_2_int_L1] at hL2
    refine DWp.block ?_
    refine DWp.seq ?_
    refine DWp.region fun K hK => ?_
    simp [-aBin', -aBin, -aBinI, -aUn, -aNil, -flatV, n_fn, b_add, b_sub, b_mul, b_lt, b_le, b_gt, b_ge, b_eq, b_ne, u_not, e1_0, e1_1, e1_2, e1_3, e1_4, e1_10, e1_11]
    apply hK
    clear hK K
    simp only [andThen, leaves]
    refine DWp.seq ?_
    refine DWp.seq ?_
    refine DWp.region fun K hK => ?_
    simp [-aBin', -aBin, -aBinI, -aUn, -aNil, -flatV, n_fn, b_add, b_sub, b_mul, b_lt, b_le, b_gt, b_ge, b_eq, b_ne, u_not, e1_0, e1_1, e1_2, e1_3, e1_4, e1_10, e1_11]
    apply hK
    clear hK K
    simp only [andThen, leaves]
    refine DWp.cond' (t := (ile (isub .i64 y1_2 y1_1) 12)) (by simp [e1_0, e1_1, e1_2, e1_3, e1_4, e1_10, e1_11]) (fun hb4 => ?_) (fun hb4 => ?_)
    · replace hL2 := cd_t hb4 hL2
      refine DWp.seq ?_
      obtain ⟨r1, hc5, hL2⟩ := bd_some hL2
      refine DWp.region fun K hK => ?_
      simp [-aBin', -aBin, -aBinI, -aUn, -aNil, -flatV, n_fn, b_add, b_sub, b_mul, b_lt, b_le, b_gt, b_ge, b_eq, b_ne, u_not, e1_0, e1_1, e1_2, e1_3, e1_4, e1_10, e1_11, ((S1_.slI (k := 0) rfl).tup)]
      have S6 : Sep G1_ B ([flatI v0 62 l1_0] ++ []) := S1_.pick [0] (by decide) rfl
      obtain ⟨B12, S7, U8, M9, R10, C11⟩ := S6.frame (hB.le A1_.1)
      refine CallD.t (F_slices_insertionSortCmpFunc_2_int_w (fu := fu) U8 S7 (fun G_ a_ => hx4 G_ (A1_.trans (a_.mono M9))) hc5) ?_
      rintro _ G14 ⟨a17, rfl, S18⟩
      have A16 := A1_.trans (a17.mono M9)
      have S15 : Sep G14 B [flatI v0 62 r1] := C11 _ _ a17 S18
      simp [-aBin', -aBin, -aBinI, -aUn, -aNil, -flatV, n_fn, b_add, b_sub, b_mul, b_lt, b_le, b_gt, b_ge, b_eq, b_ne, u_not, e1_0, e1_1, e1_2, e1_3, e1_4, e1_10, e1_11]
      apply hK
      clear hK K
      simp only [andThen, leaves]
      refine DWp.ret ?_
      simp only [andThen, leaves]
      obtain rfl := Option.some.inj hL2
      simp only [lr] at hF
      obtain rfl := Option.some.inj hF
      exact ⟨by simp, [], by simp [e1_0, e1_1, e1_2, e1_3, e1_4, e1_10, e1_11], A16, rfl, S15.pick [0] (by decide) rfl⟩
    · replace hL2 := cd_f hb4 hL2
      refine DWp.skip ?_
      simp only [andThen, leaves]
      refine DWp.seq ?_
      refine DWp.seq ?_
      refine DWp.region fun K hK => ?_
      simp [-aBin', -aBin, -aBinI, -aUn, -aNil, -flatV, n_fn, b_add, b_sub, b_mul, b_lt, b_le, b_gt, b_ge, b_eq, b_ne, u_not, e1_0, e1_1, e1_2, e1_3, e1_4, e1_10, e1_11]
      apply hK
      clear hK K
      simp only [andThen, leaves]
      refine DWp.cond' (t := (ieq y1_3 0)) (by simp [e1_0, e1_1, e1_2, e1_3, e1_4, e1_10, e1_11]) (fun hb19 => ?_) (fun hb19 => ?_)
      · replace hL2 := cd_t hb19 hL2
        refine DWp.seq ?_
        obtain ⟨r2, hc20, hL2⟩ := bd_some hL2
        refine DWp.region fun K hK => ?_
        simp [-aBin', -aBin, -aBinI, -aUn, -aNil, -flatV, n_fn, b_add, b_sub, b_mul, b_lt, b_le, b_gt, b_ge, b_eq, b_ne, u_not, e1_0, e1_1, e1_2, e1_3, e1_4, e1_10, e1_11, ((S1_.slI (k := 0) rfl).tup)]
        have S21 : Sep G1_ B ([flatI v0 62 l1_0] ++ []) := S1_.pick [0] (by decide) rfl
        obtain ⟨B27, S22, U23, M24, R25, C26⟩ := S21.frame (hB.le A1_.1)
        refine CallD.t (F_slices_heapSortCmpFunc_2_int_w (fu := fu) U23 S22 (fun G_ a_ => hx4 G_ (A1_.trans (a_.mono M24))) hc20) ?_
        rintro _ G29 ⟨a32, rfl, S33⟩
        have A31 := A1_.trans (a32.mono M24)
        have S30 : Sep G29 B [flatI v0 62 r2] := C26 _ _ a32 S33
        simp [-aBin', -aBin, -aBinI, -aUn, -aNil, -flatV, n_fn, b_add, b_sub, b_mul, b_lt, b_le, b_gt, b_ge, b_eq, b_ne, u_not, e1_0, e1_1, e1_2, e1_3, e1_4, e1_10, e1_11]
        apply hK
        clear hK K
        simp only [andThen, leaves]
        refine DWp.ret ?_
        simp only [andThen, leaves]
        obtain rfl := Option.some.inj hL2
        simp only [lr] at hF
        obtain rfl := Option.some.inj hF
        exact ⟨by simp, [], by simp [e1_0, e1_1, e1_2, e1_3, e1_4, e1_10, e1_11], A31, rfl, S30.pick [0] (by decide) rfl⟩
      · replace hL2 := cd_f hb19 hL2
        refine DWp.skip ?_
        simp only [andThen, leaves]
        obtain ⟨s34, hL35, hL2⟩ := bd_some hL2
        refine DWp.seq (DWp.join (fun env G => Sep G B [flatI v0 62 s34.1] ∧ AgB B H G ∧ env 0 = some v0 ∧ env 1 = some (Value.int .i64 y1_1) ∧ env 2 = some (Value.int .i64 y1_2) ∧ env 3 = some (Value.int .i64 s34.2) ∧ env 4 = some (Value.func (.func f4) #[] c4.toArray) ∧ env 10 = some (Value.bool y1_10) ∧ env 11 = some (Value.bool y1_11) ∧ env 12 = some (Value.int .i64 (isub .i64 y1_2 y1_1))) ?_ ?_)
        ·
          refine DWp.seq ?_
          refine DWp.region fun K hK => ?_
          simp [-aBin', -aBin, -aBinI, -aUn, -aNil, -flatV, n_fn, b_add, b_sub, b_mul, b_lt, b_le, b_gt, b_ge, b_eq, b_ne, u_not, e1_0, e1_1, e1_2, e1_3, e1_4, e1_10, e1_11]
          apply hK
          clear hK K
          simp only [andThen, leaves]
          refine DWp.cond' (t := (bnot y1_10)) (by simp [e1_0, e1_1, e1_2, e1_3, e1_4, e1_10, e1_11]) (fun hb37 => ?_) (fun hb37 => ?_)
          · replace hL35 := cd_t hb37 hL35
            refine DWp.seq ?_
            obtain ⟨r3, hc38, hL35⟩ := bd_some hL35
            refine DWp.region fun K hK => ?_
            simp [-aBin', -aBin, -aBinI, -aUn, -aNil, -flatV, n_fn, b_add, b_sub, b_mul, b_lt, b_le, b_gt, b_ge, b_eq, b_ne, u_not, e1_0, e1_1, e1_2, e1_3, e1_4, e1_10, e1_11, ((S1_.slI (k := 0) rfl).tup)]
            have S39 : Sep G1_ B ([flatI v0 62 l1_0] ++ []) := S1_.pick [0] (by decide) rfl
            obtain ⟨B45, S40, U41, M42, R43, C44⟩ := S39.frame (hB.le A1_.1)
            refine CallD.t (F_slices_breakPatternsCmpFunc_2_int_w (fu := fu) U41 S40 (fun G_ a_ => hx4 G_ (A1_.trans (a_.mono M42))) hc38) ?_
            rintro _ G47 ⟨a50, rfl, S51⟩
            have A49 := A1_.trans (a50.mono M42)
            have S48 : Sep G47 B [flatI v0 62 r3] := C44 _ _ a50 S51
            simp [-aBin', -aBin, -aBinI, -aUn, -aNil, -flatV, n_fn, b_add, b_sub, b_mul, b_lt, b_le, b_gt, b_ge, b_eq, b_ne, u_not, e1_0, e1_1, e1_2, e1_3, e1_4, e1_10, e1_11]
            apply hK
            clear hK K
            simp only [andThen, leaves]
            refine DWp.region fun K hK => ?_
            simp [-aBin', -aBin, -aBinI, -aUn, -aNil, -flatV, n_fn, b_add, b_sub, b_mul, b_lt, b_le, b_gt, b_ge, b_eq, b_ne, u_not, e1_0, e1_1, e1_2, e1_3, e1_4, e1_10, e1_11]
            apply hK
            clear hK K
            simp only [andThen, leaves]
            have S52 := S48.pick [0] (by decide) rfl
            obtain rfl := Option.some.inj hL35
            exact ⟨S52, A49, by simp [e1_0, e1_1, e1_2, e1_3, e1_4, e1_10, e1_11], by simp [e1_0, e1_1, e1_2, e1_3, e1_4, e1_10, e1_11], by simp [e1_0, e1_1, e1_2, e1_3, e1_4, e1_10, e1_11], by simp [e1_0, e1_1, e1_2, e1_3, e1_4, e1_10, e1_11], by simp [e1_0, e1_1, e1_2, e1_3, e1_4, e1_10, e1_11], by simp [e1_0, e1_1, e1_2, e1_3, e1_4, e1_10, e1_11], by simp [e1_0, e1_1, e1_2, e1_3, e1_4, e1_10, e1_11], by simp [e1_0, e1_1, e1_2, e1_3, e1_4, e1_10, e1_11]⟩
          · replace hL35 := cd_f hb37 hL35
            refine DWp.skip ?_
            simp only [andThen, leaves]
            have S53 := S1_.pick [0] (by decide) rfl
            obtain rfl := Option.some.inj hL35
            exact ⟨S53, A1_, by simp [e1_0, e1_1, e1_2, e1_3, e1_4, e1_10, e1_11], by simp [e1_0, e1_1, e1_2, e1_3, e1_4, e1_10, e1_11], by simp [e1_0, e1_1, e1_2, e1_3, e1_4, e1_10, e1_11], by simp [e1_0, e1_1, e1_2, e1_3, e1_4, e1_10, e1_11], by simp [e1_0, e1_1, e1_2, e1_3, e1_4, e1_10, e1_11], by simp [e1_0, e1_1, e1_2, e1_3, e1_4, e1_10, e1_11], by simp [e1_0, e1_1, e1_2, e1_3, e1_4, e1_10, e1_11], by simp [e1_0, e1_1, e1_2, e1_3, e1_4, e1_10, e1_11]⟩
        · rintro env Gj54 ⟨Sj54, Aj54, ej54_0, ej54_1, ej54_2, ej54_3, ej54_4, ej54_10, ej54_11, ej54_12⟩
          refine DWp.seq ?_
          obtain ⟨r4, hc55, hL2⟩ := bd_some hL2
          refine DWp.region fun K hK => ?_
          simp [-aBin', -aBin, -aBinI, -aUn, -aNil, -flatV, n_fn, b_add, b_sub, b_mul, b_lt, b_le, b_gt, b_ge, b_eq, b_ne, u_not, ej54_0, ej54_1, ej54_2, ej54_3, ej54_4, ej54_10, ej54_11, ej54_12, ((Sj54.slI (k := 0) rfl).tup)]
          refine CallD.t (F_slices_choosePivotCmpFunc_2_int_w (fu := fu) (Sj54.slI (k := 0) rfl) (fun (G_ : AH) (a_ : AgB (Fr Gj54) Gj54 G_) => hx4 G_ (Aj54.ext (hB.le Aj54.1) a_.agree)) hc55) ?_
          rintro _ G57 ⟨a60, rfl, S61⟩
          have A59 := Aj54.ext (hB.le Aj54.1) a60.agree
          have S58 : Sep G57 B [flatI v0 62 s34.1] := Sj54.app a60.agree S61 (fun _ h => h) (hB.le Aj54.1)
          simp [-aBin', -aBin, -aBinI, -aUn, -aNil, -flatV, n_fn, b_add, b_sub, b_mul, b_lt, b_le, b_gt, b_ge, b_eq, b_ne, u_not, ej54_0, ej54_1, ej54_2, ej54_3, ej54_4, ej54_10, ej54_11, ej54_12, a60.pre]
          apply hK
          clear hK K
          simp only [andThen, leaves]
          obtain ⟨s62, hL63, hL2⟩ := bd_some hL2
          refine DWp.seq (DWp.join (fun env G => Sep G B [flatI v0 62 s62.1] ∧ AgB B H G ∧ env 0 = some v0 ∧ env 1 = some (Value.int .i64 y1_1) ∧ env 2 = some (Value.int .i64 y1_2) ∧ env 3 = some (Value.int .i64 s34.2) ∧ env 4 = some (Value.func (.func f4) #[] c4.toArray) ∧ env 10 = some (Value.bool y1_10) ∧ env 11 = some (Value.bool y1_11) ∧ env 12 = some (Value.int .i64 (isub .i64 y1_2 y1_1)) ∧ env 13 = some (Value.int .i64 s62.2.1) ∧ env 14 = some (Value.int .i64 s62.2.2)) ?_ ?_)
          ·
            refine DWp.seq ?_
            refine DWp.region fun K hK => ?_
            simp [-aBin', -aBin, -aBinI, -aUn, -aNil, -flatV, n_fn, b_add, b_sub, b_mul, b_lt, b_le, b_gt, b_ge, b_eq, b_ne, u_not, ej54_0, ej54_1, ej54_2, ej54_3, ej54_4, ej54_10, ej54_11, ej54_12]
            apply hK
            clear hK K
            simp only [andThen, leaves]
            refine DWp.cond' (t := (ieq r4.2 2)) (by simp [ej54_0, ej54_1, ej54_2, ej54_3, ej54_4, ej54_10, ej54_11, ej54_12]) (fun hb65 => ?_) (fun hb65 => ?_)
            · replace hL63 := cd_t hb65 hL63
              refine DWp.seq ?_
              obtain ⟨r5, hc66, hL63⟩ := bd_some hL63
              refine DWp.region fun K hK => ?_
              simp [-aBin', -aBin, -aBinI, -aUn, -aNil, -flatV, n_fn, b_add, b_sub, b_mul, b_lt, b_le, b_gt, b_ge, b_eq, b_ne, u_not, ej54_0, ej54_1, ej54_2, ej54_3, ej54_4, ej54_10, ej54_11, ej54_12, ((S58.slI (k := 0) rfl).tup)]
              have S67 : Sep G57 B ([flatI v0 62 s34.1] ++ []) := S58.pick [0] (by decide) rfl
              obtain ⟨B73, S68, U69, M70, R71, C72⟩ := S67.frame (hB.le A59.1)
              refine CallD.t (F_slices_reverseRangeCmpFunc_2_int_w (fu := fu) U69 S68 (fun G_ a_ => hx4 G_ (A59.trans (a_.mono M70))) hc66) ?_
              rintro _ G75 ⟨a78, rfl, S79⟩
              have A77 := A59.trans (a78.mono M70)
              have S76 : Sep G75 B [flatI v0 62 r5] := C72 _ _ a78 S79
              simp [-aBin', -aBin, -aBinI, -aUn, -aNil, -flatV, n_fn, b_add, b_sub, b_mul, b_lt, b_le, b_gt, b_ge, b_eq, b_ne, u_not, ej54_0, ej54_1, ej54_2, ej54_3, ej54_4, ej54_10, ej54_11, ej54_12]
              apply hK
              clear hK K
              simp only [andThen, leaves]
              refine DWp.seq ?_
              refine DWp.region fun K hK => ?_
              simp [-aBin', -aBin, -aBinI, -aUn, -aNil, -flatV, n_fn, b_add, b_sub, b_mul, b_lt, b_le, b_gt, b_ge, b_eq, b_ne, u_not, ej54_0, ej54_1, ej54_2, ej54_3, ej54_4, ej54_10, ej54_11, ej54_12]
              apply hK
              clear hK K
              simp only [andThen, leaves]
              refine DWp.region fun K hK => ?_
              simp [-aBin', -aBin, -aBinI, -aUn, -aNil, -flatV, n_fn, b_add, b_sub, b_mul, b_lt, b_le, b_gt, b_ge, b_eq, b_ne, u_not, ej54_0, ej54_1, ej54_2, ej54_3, ej54_4, ej54_10, ej54_11, ej54_12]
              apply hK
              clear hK K
              simp only [andThen, leaves]
              have S80 := S76.pick [0] (by decide) rfl
              obtain rfl := Option.some.inj hL63
              exact ⟨S80, A77, by simp [ej54_0, ej54_1, ej54_2, ej54_3, ej54_4, ej54_10, ej54_11, ej54_12], by simp [ej54_0, ej54_1, ej54_2, ej54_3, ej54_4, ej54_10, ej54_11, ej54_12], by simp [ej54_0, ej54_1, ej54_2, ej54_3, ej54_4, ej54_10, ej54_11, ej54_12], by simp [ej54_0, ej54_1, ej54_2, ej54_3, ej54_4, ej54_10, ej54_11, ej54_12], by simp [ej54_0, ej54_1, ej54_2, ej54_3, ej54_4, ej54_10, ej54_11, ej54_12], by simp [ej54_0, ej54_1, ej54_2, ej54_3, ej54_4, ej54_10, ej54_11, ej54_12], by simp [ej54_0, ej54_1, ej54_2, ej54_3, ej54_4, ej54_10, ej54_11, ej54_12], by simp [ej54_0, ej54_1, ej54_2, ej54_3, ej54_4, ej54_10, ej54_11, ej54_12], by simp [ej54_0, ej54_1, ej54_2, ej54_3, ej54_4, ej54_10, ej54_11, ej54_12], by simp [ej54_0, ej54_1, ej54_2, ej54_3, ej54_4, ej54_10, ej54_11, ej54_12]⟩
            · replace hL63 := cd_f hb65 hL63
              refine DWp.skip ?_
              simp only [andThen, leaves]
              have S81 := S58.pick [0] (by decide) rfl
              obtain rfl := Option.some.inj hL63
              exact ⟨S81, A59, by simp [ej54_0, ej54_1, ej54_2, ej54_3, ej54_4, ej54_10, ej54_11, ej54_12], by simp [ej54_0, ej54_1, ej54_2, ej54_3, ej54_4, ej54_10, ej54_11, ej54_12], by simp [ej54_0, ej54_1, ej54_2, ej54_3, ej54_4, ej54_10, ej54_11, ej54_12], by simp [ej54_0, ej54_1, ej54_2, ej54_3, ej54_4, ej54_10, ej54_11, ej54_12], by simp [ej54_0, ej54_1, ej54_2, ej54_3, ej54_4, ej54_10, ej54_11, ej54_12], by simp [ej54_0, ej54_1, ej54_2, ej54_3, ej54_4, ej54_10, ej54_11, ej54_12], by simp [ej54_0, ej54_1, ej54_2, ej54_3, ej54_4, ej54_10, ej54_11, ej54_12], by simp [ej54_0, ej54_1, ej54_2, ej54_3, ej54_4, ej54_10, ej54_11, ej54_12], by simp [ej54_0, ej54_1, ej54_2, ej54_3, ej54_4, ej54_10, ej54_11, ej54_12], by simp [ej54_0, ej54_1, ej54_2, ej54_3, ej54_4, ej54_10, ej54_11, ej54_12]⟩
          · rintro env Gj82 ⟨Sj82, Aj82, ej82_0, ej82_1, ej82_2, ej82_3, ej82_4, ej82_10, ej82_11, ej82_12, ej82_13, ej82_14⟩
            refine DWp.seq ?_
            obtain ⟨s83, hL84, hL2⟩ := bd_some hL2
            refine DWp.seq (DWp.join (fun env G => Sep G B [flatI v0 62 s62.1] ∧ AgB B H G ∧ env 0 = some v0 ∧ env 1 = some (Value.int .i64 y1_1) ∧ env 2 = some (Value.int .i64 y1_2) ∧ env 3 = some (Value.int .i64 s34.2) ∧ env 4 = some (Value.func (.func f4) #[] c4.toArray) ∧ env 10 = some (Value.bool y1_10) ∧ env 11 = some (Value.bool y1_11) ∧ env 12 = some (Value.int .i64 (isub .i64 y1_2 y1_1)) ∧ env 13 = some (Value.int .i64 s62.2.1) ∧ env 75 = some (Value.bool s83)) ?_ ?_)
            ·
              rcases Bool.eq_false_or_eq_true y1_10 with hb86 | hb86
              · replace hL84 := cd_t hb86 hL84
                rcases Bool.eq_false_or_eq_true y1_11 with hb87 | hb87
                · replace hL84 := cd_t hb87 hL84
                  refine DWp.region fun K hK => ?_
                  simp [-aBin', -aBin, -aBinI, -aUn, -aNil, -flatV, n_fn, b_add, b_sub, b_mul, b_lt, b_le, b_gt, b_ge, b_eq, b_ne, u_not, ej82_0, ej82_1, ej82_2, ej82_3, ej82_4, ej82_10, ej82_11, ej82_12, ej82_13, ej82_14, hb86, hb87]
                  apply hK
                  clear hK K
                  simp only [andThen, leaves]
                  have S88 := Sj82.pick [0] (by decide) rfl
                  obtain rfl := Option.some.inj hL84
                  exact ⟨S88, Aj82, by simp [ej82_0, ej82_1, ej82_2, ej82_3, ej82_4, ej82_10, ej82_11, ej82_12, ej82_13, ej82_14], by simp [ej82_0, ej82_1, ej82_2, ej82_3, ej82_4, ej82_10, ej82_11, ej82_12, ej82_13, ej82_14], by simp [ej82_0, ej82_1, ej82_2, ej82_3, ej82_4, ej82_10, ej82_11, ej82_12, ej82_13, ej82_14], by simp [ej82_0, ej82_1, ej82_2, ej82_3, ej82_4, ej82_10, ej82_11, ej82_12, ej82_13, ej82_14], by simp [ej82_0, ej82_1, ej82_2, ej82_3, ej82_4, ej82_10, ej82_11, ej82_12, ej82_13, ej82_14], by simp [ej82_0, ej82_1, ej82_2, ej82_3, ej82_4, ej82_10, ej82_11, ej82_12, ej82_13, ej82_14], by simp [ej82_0, ej82_1, ej82_2, ej82_3, ej82_4, ej82_10, ej82_11, ej82_12, ej82_13, ej82_14], by simp [ej82_0, ej82_1, ej82_2, ej82_3, ej82_4, ej82_10, ej82_11, ej82_12, ej82_13, ej82_14], by simp [ej82_0, ej82_1, ej82_2, ej82_3, ej82_4, ej82_10, ej82_11, ej82_12, ej82_13, ej82_14], by simp [ej82_0, ej82_1, ej82_2, ej82_3, ej82_4, ej82_10, ej82_11, ej82_12, ej82_13, ej82_14]⟩
                · replace hL84 := cd_f hb87 hL84
                  refine DWp.region fun K hK => ?_
                  simp [-aBin', -aBin, -aBinI, -aUn, -aNil, -flatV, n_fn, b_add, b_sub, b_mul, b_lt, b_le, b_gt, b_ge, b_eq, b_ne, u_not, ej82_0, ej82_1, ej82_2, ej82_3, ej82_4, ej82_10, ej82_11, ej82_12, ej82_13, ej82_14, hb86, hb87]
                  apply hK
                  clear hK K
                  simp only [andThen, leaves]
                  have S89 := Sj82.pick [0] (by decide) rfl
                  obtain rfl := Option.some.inj hL84
                  exact ⟨S89, Aj82, by simp [ej82_0, ej82_1, ej82_2, ej82_3, ej82_4, ej82_10, ej82_11, ej82_12, ej82_13, ej82_14], by simp [ej82_0, ej82_1, ej82_2, ej82_3, ej82_4, ej82_10, ej82_11, ej82_12, ej82_13, ej82_14], by simp [ej82_0, ej82_1, ej82_2, ej82_3, ej82_4, ej82_10, ej82_11, ej82_12, ej82_13, ej82_14], by simp [ej82_0, ej82_1, ej82_2, ej82_3, ej82_4, ej82_10, ej82_11, ej82_12, ej82_13, ej82_14], by simp [ej82_0, ej82_1, ej82_2, ej82_3, ej82_4, ej82_10, ej82_11, ej82_12, ej82_13, ej82_14], by simp [ej82_0, ej82_1, ej82_2, ej82_3, ej82_4, ej82_10, ej82_11, ej82_12, ej82_13, ej82_14], by simp [ej82_0, ej82_1, ej82_2, ej82_3, ej82_4, ej82_10, ej82_11, ej82_12, ej82_13, ej82_14], by simp [ej82_0, ej82_1, ej82_2, ej82_3, ej82_4, ej82_10, ej82_11, ej82_12, ej82_13, ej82_14], by simp [ej82_0, ej82_1, ej82_2, ej82_3, ej82_4, ej82_10, ej82_11, ej82_12, ej82_13, ej82_14], by simp [ej82_0, ej82_1, ej82_2, ej82_3, ej82_4, ej82_10, ej82_11, ej82_12, ej82_13, ej82_14]⟩
              · replace hL84 := cd_f hb86 hL84
                refine DWp.region fun K hK => ?_
                simp [-aBin', -aBin, -aBinI, -aUn, -aNil, -flatV, n_fn, b_add, b_sub, b_mul, b_lt, b_le, b_gt, b_ge, b_eq, b_ne, u_not, ej82_0, ej82_1, ej82_2, ej82_3, ej82_4, ej82_10, ej82_11, ej82_12, ej82_13, ej82_14, hb86]
                apply hK
                clear hK K
                simp only [andThen, leaves]
                have S90 := Sj82.pick [0] (by decide) rfl
                obtain rfl := Option.some.inj hL84
                exact ⟨S90, Aj82, by simp [ej82_0, ej82_1, ej82_2, ej82_3, ej82_4, ej82_10, ej82_11, ej82_12, ej82_13, ej82_14], by simp [ej82_0, ej82_1, ej82_2, ej82_3, ej82_4, ej82_10, ej82_11, ej82_12, ej82_13, ej82_14], by simp [ej82_0, ej82_1, ej82_2, ej82_3, ej82_4, ej82_10, ej82_11, ej82_12, ej82_13, ej82_14], by simp [ej82_0, ej82_1, ej82_2, ej82_3, ej82_4, ej82_10, ej82_11, ej82_12, ej82_13, ej82_14], by simp [ej82_0, ej82_1, ej82_2, ej82_3, ej82_4, ej82_10, ej82_11, ej82_12, ej82_13, ej82_14], by simp [ej82_0, ej82_1, ej82_2, ej82_3, ej82_4, ej82_10, ej82_11, ej82_12, ej82_13, ej82_14], by simp [ej82_0, ej82_1, ej82_2, ej82_3, ej82_4, ej82_10, ej82_11, ej82_12, ej82_13, ej82_14], by simp [ej82_0, ej82_1, ej82_2, ej82_3, ej82_4, ej82_10, ej82_11, ej82_12, ej82_13, ej82_14], by simp [ej82_0, ej82_1, ej82_2, ej82_3, ej82_4, ej82_10, ej82_11, ej82_12, ej82_13, ej82_14], by simp [ej82_0, ej82_1, ej82_2, ej82_3, ej82_4, ej82_10, ej82_11, ej82_12, ej82_13, ej82_14]⟩
            · rintro env Gj91 ⟨Sj91, Aj91, ej91_0, ej91_1, ej91_2, ej91_3, ej91_4, ej91_10, ej91_11, ej91_12, ej91_13, ej91_75⟩
              refine DWp.cond' (t := s83) (by simp [ej91_0, ej91_1, ej91_2, ej91_3, ej91_4, ej91_10, ej91_11, ej91_12, ej91_13, ej91_75]) (fun hb92 => ?_) (fun hb92 => ?_)
              · replace hL2 := cd_t hb92 hL2
                refine DWp.seq ?_
                obtain ⟨r6, hc93, hL2⟩ := bd_some hL2
                refine DWp.region fun K hK => ?_
                simp [-aBin', -aBin, -aBinI, -aUn, -aNil, -flatV, n_fn, b_add, b_sub, b_mul, b_lt, b_le, b_gt, b_ge, b_eq, b_ne, u_not, ej91_0, ej91_1, ej91_2, ej91_3, ej91_4, ej91_10, ej91_11, ej91_12, ej91_13, ej91_75, ((Sj91.slI (k := 0) rfl).tup)]
                have S94 : Sep Gj91 B ([flatI v0 62 s62.1] ++ []) := Sj91.pick [0] (by decide) rfl
                obtain ⟨B100, S95, U96, M97, R98, C99⟩ := S94.frame (hB.le Aj91.1)
                refine CallD.t (F_slices_partialInsertionSortCmpFunc_2_int_w (fu := fu) U96 S95 (fun G_ a_ => hx4 G_ (Aj91.trans (a_.mono M97))) hc93) ?_
                rintro _ G102 ⟨a105, rfl, S106⟩
                have A104 := Aj91.trans (a105.mono M97)
                have S103 : Sep G102 B [flatI v0 62 r6.2] := C99 _ _ a105 S106
                simp [-aBin', -aBin, -aBinI, -aUn, -aNil, -flatV, n_fn, b_add, b_sub, b_mul, b_lt, b_le, b_gt, b_ge, b_eq, b_ne, u_not, ej91_0, ej91_1, ej91_2, ej91_3, ej91_4, ej91_10, ej91_11, ej91_12, ej91_13, ej91_75]
                apply hK
                clear hK K
                simp only [andThen, leaves]
                refine DWp.cond' (t := r6.1) (by simp [ej91_0, ej91_1, ej91_2, ej91_3, ej91_4, ej91_10, ej91_11, ej91_12, ej91_13, ej91_75]) (fun hb107 => ?_) (fun hb107 => ?_)
                · replace hL2 := cd_t hb107 hL2
                  refine DWp.ret ?_
                  simp only [andThen, leaves]
                  obtain rfl := Option.some.inj hL2
                  simp only [lr] at hF
                  obtain rfl := Option.some.inj hF
                  exact ⟨by simp, [], by simp [ej91_0, ej91_1, ej91_2, ej91_3, ej91_4, ej91_10, ej91_11, ej91_12, ej91_13, ej91_75], A104, rfl, S103.pick [0] (by decide) rfl⟩
                · replace hL2 := cd_f hb107 hL2
                  refine DWp.skip ?_
                  simp only [andThen, leaves]
                  refine DWp.seq ?_
                  obtain ⟨s108, hL109, hL2⟩ := bd_some hL2
                  refine DWp.seq (DWp.join (fun env G => Sep G B [flatI v0 62 r6.2] ∧ AgB B H G ∧ env 0 = some v0 ∧ env 1 = some (Value.int .i64 y1_1) ∧ env 2 = some (Value.int .i64 y1_2) ∧ env 3 = some (Value.int .i64 s34.2) ∧ env 4 = some (Value.func (.func f4) #[] c4.toArray) ∧ env 10 = some (Value.bool y1_10) ∧ env 11 = some (Value.bool y1_11) ∧ env 12 = some (Value.int .i64 (isub .i64 y1_2 y1_1)) ∧ env 13 = some (Value.int .i64 s62.2.1) ∧ env 97 = some (Value.bool s108)) ?_ ?_)
                  ·
                    rcases Bool.eq_false_or_eq_true (ilt 0 y1_1) with hb111 | hb111
                    · replace hL109 := cd_t hb111 hL109
                      obtain ⟨g112, hL109⟩ := gd_some hL109
                      have q113 := (S103.slI (k := 0) rfl).idxG (P := Try.prog) (kk := .i64) el_58 sz_62 g112
                      have q114 := (S103.slI (k := 0) rfl).loadG (P := Try.prog) sz_62 ag_62 g112
                      obtain ⟨g115, hL109⟩ := gd_some hL109
                      have q116 := (S103.slI (k := 0) rfl).idxG (P := Try.prog) (kk := .i64) el_58 sz_62 g115
                      have q117 := (S103.slI (k := 0) rfl).loadG (P := Try.prog) sz_62 ag_62 g115
                      obtain ⟨r7, hc118, hL109⟩ := bd_some hL109
                      refine DWp.drawn (B := [0, 1, 3, 7, 7, 7, 39, 119, 247, 7, 7, 1543, 3591, 8191, 16383, 32767, 65535]) 17 mixed (by kernel_rfl) (by decide) fun K hK => ?_
                      simp [-aBin', -aBin, -aBinI, -aUn, -aNil, -flatV, n_fn, b_add, b_sub, b_mul, b_lt, b_le, b_gt, b_ge, b_eq, b_ne, u_not, ej91_0, ej91_1, ej91_2, ej91_3, ej91_4, ej91_10, ej91_11, ej91_12, ej91_13, ej91_75, hb111, q113, q114, q116, q117]
                      refine CallD.t (hx4 _ A104 ((gat i2 r6.2 (isub .i64 y1_1 1)).1) ((gat i2 r6.2 (isub .i64 y1_1 1)).2) ((gat i2 r6.2 s62.2.1).1) ((gat i2 r6.2 s62.2.1).2) _  hc118) ?_
                      rintro _ G119 ⟨a122, rfl, S123⟩
                      have A121 := A104.ext (hB.le A104.1) a122.agree
                      have S120 : Sep G119 B [flatI v0 62 r6.2] := S103.agree a122.agree
                      simp [-aBin', -aBin, -aBinI, -aUn, -aNil, -flatV, n_fn, b_add, b_sub, b_mul, b_lt, b_le, b_gt, b_ge, b_eq, b_ne, u_not, ej91_0, ej91_1, ej91_2, ej91_3, ej91_4, ej91_10, ej91_11, ej91_12, ej91_13, ej91_75, hb111, q113, q114, q116, q117, a122.pre]
                      apply hK
                      clear hK K
                      simp only [andThen, leaves]
                      have S124 := S120.pick [0] (by decide) rfl
                      obtain rfl := Option.some.inj hL109
                      exact ⟨S124, A121, by simp [ej91_0, ej91_1, ej91_2, ej91_3, ej91_4, ej91_10, ej91_11, ej91_12, ej91_13, ej91_75], by simp [ej91_0, ej91_1, ej91_2, ej91_3, ej91_4, ej91_10, ej91_11, ej91_12, ej91_13, ej91_75], by simp [ej91_0, ej91_1, ej91_2, ej91_3, ej91_4, ej91_10, ej91_11, ej91_12, ej91_13, ej91_75], by simp [ej91_0, ej91_1, ej91_2, ej91_3, ej91_4, ej91_10, ej91_11, ej91_12, ej91_13, ej91_75], by simp [ej91_0, ej91_1, ej91_2, ej91_3, ej91_4, ej91_10, ej91_11, ej91_12, ej91_13, ej91_75], by simp [ej91_0, ej91_1, ej91_2, ej91_3, ej91_4, ej91_10, ej91_11, ej91_12, ej91_13, ej91_75], by simp [ej91_0, ej91_1, ej91_2, ej91_3, ej91_4, ej91_10, ej91_11, ej91_12, ej91_13, ej91_75], by simp [ej91_0, ej91_1, ej91_2, ej91_3, ej91_4, ej91_10, ej91_11, ej91_12, ej91_13, ej91_75], by simp [ej91_0, ej91_1, ej91_2, ej91_3, ej91_4, ej91_10, ej91_11, ej91_12, ej91_13, ej91_75], by simp [ej91_0, ej91_1, ej91_2, ej91_3, ej91_4, ej91_10, ej91_11, ej91_12, ej91_13, ej91_75]⟩
                    · replace hL109 := cd_f hb111 hL109
                      refine DWp.drawn (B := [0, 1, 3, 7, 7, 7, 39, 119, 247, 7, 7, 1543, 3591, 8191, 16383, 32767, 65535]) 17 mixed (by kernel_rfl) (by decide) fun K hK => ?_
                      simp [-aBin', -aBin, -aBinI, -aUn, -aNil, -flatV, n_fn, b_add, b_sub, b_mul, b_lt, b_le, b_gt, b_ge, b_eq, b_ne, u_not, ej91_0, ej91_1, ej91_2, ej91_3, ej91_4, ej91_10, ej91_11, ej91_12, ej91_13, ej91_75, hb111]
                      apply hK
                      clear hK K
                      simp only [andThen, leaves]
                      have S125 := S103.pick [0] (by decide) rfl
                      obtain rfl := Option.some.inj hL109
                      exact ⟨S125, A104, by simp [ej91_0, ej91_1, ej91_2, ej91_3, ej91_4, ej91_10, ej91_11, ej91_12, ej91_13, ej91_75], by simp [ej91_0, ej91_1, ej91_2, ej91_3, ej91_4, ej91_10, ej91_11, ej91_12, ej91_13, ej91_75], by simp [ej91_0, ej91_1, ej91_2, ej91_3, ej91_4, ej91_10, ej91_11, ej91_12, ej91_13, ej91_75], by simp [ej91_0, ej91_1, ej91_2, ej91_3, ej91_4, ej91_10, ej91_11, ej91_12, ej91_13, ej91_75], by simp [ej91_0, ej91_1, ej91_2, ej91_3, ej91_4, ej91_10, ej91_11, ej91_12, ej91_13, ej91_75], by simp [ej91_0, ej91_1, ej91_2, ej91_3, ej91_4, ej91_10, ej91_11, ej91_12, ej91_13, ej91_75], by simp [ej91_0, ej91_1, ej91_2, ej91_3, ej91_4, ej91_10, ej91_11, ej91_12, ej91_13, ej91_75], by simp [ej91_0, ej91_1, ej91_2, ej91_3, ej91_4, ej91_10, ej91_11, ej91_12, ej91_13, ej91_75], by simp [ej91_0, ej91_1, ej91_2, ej91_3, ej91_4, ej91_10, ej91_11, ej91_12, ej91_13, ej91_75], by simp [ej91_0, ej91_1, ej91_2, ej91_3, ej91_4, ej91_10, ej91_11, ej91_12, ej91_13, ej91_75]⟩
                  · rintro env Gj126 ⟨Sj126, Aj126, ej126_0, ej126_1, ej126_2, ej126_3, ej126_4, ej126_10, ej126_11, ej126_12, ej126_13, ej126_97⟩
                    refine DWp.cond' (t := s108) (by simp [ej126_0, ej126_1, ej126_2, ej126_3, ej126_4, ej126_10, ej126_11, ej126_12, ej126_13, ej126_97]) (fun hb127 => ?_) (fun hb127 => ?_)
                    · replace hL2 := cd_t hb127 hL2
                      refine DWp.seq ?_
                      obtain ⟨r8, hc128, hL2⟩ := bd_some hL2
                      refine DWp.region fun K hK => ?_
                      simp [-aBin', -aBin, -aBinI, -aUn, -aNil, -flatV, n_fn, b_add, b_sub, b_mul, b_lt, b_le, b_gt, b_ge, b_eq, b_ne, u_not, ej126_0, ej126_1, ej126_2, ej126_3, ej126_4, ej126_10, ej126_11, ej126_12, ej126_13, ej126_97, ((Sj126.slI (k := 0) rfl).tup)]
                      have S129 : Sep Gj126 B ([flatI v0 62 r6.2] ++ []) := Sj126.pick [0] (by decide) rfl
                      obtain ⟨B135, S130, U131, M132, R133, C134⟩ := S129.frame (hB.le Aj126.1)
                      refine CallD.t (F_slices_partitionEqualCmpFunc_2_int_w (fu := fu) U131 S130 (fun G_ a_ => hx4 G_ (Aj126.trans (a_.mono M132))) hc128) ?_
                      rintro _ G137 ⟨a140, rfl, S141⟩
                      have A139 := Aj126.trans (a140.mono M132)
                      have S138 : Sep G137 B [flatI v0 62 r8.2] := C134 _ _ a140 S141
                      simp [-aBin', -aBin, -aBinI, -aUn, -aNil, -flatV, n_fn, b_add, b_sub, b_mul, b_lt, b_le, b_gt, b_ge, b_eq, b_ne, u_not, ej126_0, ej126_1, ej126_2, ej126_3, ej126_4, ej126_10, ej126_11, ej126_12, ej126_13, ej126_97]
                      apply hK
                      clear hK K
                      simp only [andThen, leaves]
                      refine DWp.seq ?_
                      refine DWp.region fun K hK => ?_
                      simp [-aBin', -aBin, -aBinI, -aUn, -aNil, -flatV, n_fn, b_add, b_sub, b_mul, b_lt, b_le, b_gt, b_ge, b_eq, b_ne, u_not, ej126_0, ej126_1, ej126_2, ej126_3, ej126_4, ej126_10, ej126_11, ej126_12, ej126_13, ej126_97]
                      apply hK
                      clear hK K
                      simp only [andThen, leaves]
                      refine DWp.exit ?_
                      simp only [andThen, leaves, if_true, if_false, reduceIte, Nat.reduceEqDiff]
                      have S142 := S138.pick [0] (by decide) rfl
                      exact ⟨n1, Nat.lt_succ_self _, r8.2, r8.1, y1_2, s34.2, y1_10, y1_11, hL2, S142, A139, by simp [ej126_0, ej126_1, ej126_2, ej126_3, ej126_4, ej126_10, ej126_11, ej126_12, ej126_13, ej126_97], by simp [ej126_0, ej126_1, ej126_2, ej126_3, ej126_4, ej126_10, ej126_11, ej126_12, ej126_13, ej126_97], by simp [ej126_0, ej126_1, ej126_2, ej126_3, ej126_4, ej126_10, ej126_11, ej126_12, ej126_13, ej126_97], by simp [ej126_0, ej126_1, ej126_2, ej126_3, ej126_4, ej126_10, ej126_11, ej126_12, ej126_13, ej126_97], by simp [ej126_0, ej126_1, ej126_2, ej126_3, ej126_4, ej126_10, ej126_11, ej126_12, ej126_13, ej126_97], by simp [ej126_0, ej126_1, ej126_2, ej126_3, ej126_4, ej126_10, ej126_11, ej126_12, ej126_13, ej126_97], by simp [ej126_0, ej126_1, ej126_2, ej126_3, ej126_4, ej126_10, ej126_11, ej126_12, ej126_13, ej126_97]⟩
                    · replace hL2 := cd_f hb127 hL2
                      refine DWp.skip ?_
                      simp only [andThen, leaves]
                      refine DWp.seq ?_
                      obtain ⟨r9, hc143, hL2⟩ := bd_some hL2
                      refine DWp.region fun K hK => ?_
                      simp [-aBin', -aBin, -aBinI, -aUn, -aNil, -flatV, n_fn, b_add, b_sub, b_mul, b_lt, b_le, b_gt, b_ge, b_eq, b_ne, u_not, ej126_0, ej126_1, ej126_2, ej126_3, ej126_4, ej126_10, ej126_11, ej126_12, ej126_13, ej126_97, ((Sj126.slI (k := 0) rfl).tup)]
                      have S144 : Sep Gj126 B ([flatI v0 62 r6.2] ++ []) := Sj126.pick [0] (by decide) rfl
                      obtain ⟨B150, S145, U146, M147, R148, C149⟩ := S144.frame (hB.le Aj126.1)
                      refine CallD.t (F_slices_partitionCmpFunc_2_int_w (fu := fu) U146 S145 (fun G_ a_ => hx4 G_ (Aj126.trans (a_.mono M147))) hc143) ?_
                      rintro _ G152 ⟨a155, rfl, S156⟩
                      have A154 := Aj126.trans (a155.mono M147)
                      have S153 : Sep G152 B [flatI v0 62 r9.2.2] := C149 _ _ a155 S156
                      simp [-aBin', -aBin, -aBinI, -aUn, -aNil, -flatV, n_fn, b_add, b_sub, b_mul, b_lt, b_le, b_gt, b_ge, b_eq, b_ne, u_not, ej126_0, ej126_1, ej126_2, ej126_3, ej126_4, ej126_10, ej126_11, ej126_12, ej126_13, ej126_97]
                      apply hK
                      clear hK K
                      simp only [andThen, leaves]
                      refine DWp.seq ?_
                      refine DWp.region fun K hK => ?_
                      simp [-aBin', -aBin, -aBinI, -aUn, -aNil, -flatV, n_fn, b_add, b_sub, b_mul, b_lt, b_le, b_gt, b_ge, b_eq, b_ne, u_not, ej126_0, ej126_1, ej126_2, ej126_3, ej126_4, ej126_10, ej126_11, ej126_12, ej126_13, ej126_97]
                      apply hK
                      clear hK K
                      simp only [andThen, leaves]
                      refine DWp.seq ?_
                      refine DWp.region fun K hK => ?_
                      simp [-aBin', -aBin, -aBinI, -aUn, -aNil, -flatV, n_fn, b_add, b_sub, b_mul, b_lt, b_le, b_gt, b_ge, b_eq, b_ne, u_not, ej126_0, ej126_1, ej126_2, ej126_3, ej126_4, ej126_10, ej126_11, ej126_12, ej126_13, ej126_97]
                      apply hK
                      clear hK K
                      simp only [andThen, leaves]
                      refine DWp.seq ?_
                      have g157 : (8 : Int) ≠ 0 := by decide
                      refine DWp.region fun K hK => ?_
                      simp [-aBin', -aBin, -aBinI, -aUn, -aNil, -flatV, n_fn, b_add, b_sub, b_mul, b_lt, b_le, b_gt, b_ge, b_eq, b_ne, u_not, ej126_0, ej126_1, ej126_2, ej126_3, ej126_4, ej126_10, ej126_11, ej126_12, ej126_13, ej126_97, b_quo g157]
                      apply hK
                      clear hK K
                      simp only [andThen, leaves]
                      refine DWp.seq ?_
                      refine DWp.region fun K hK => ?_
                      simp [-aBin', -aBin, -aBinI, -aUn, -aNil, -flatV, n_fn, b_add, b_sub, b_mul, b_lt, b_le, b_gt, b_ge, b_eq, b_ne, u_not, ej126_0, ej126_1, ej126_2, ej126_3, ej126_4, ej126_10, ej126_11, ej126_12, ej126_13, ej126_97]
                      apply hK
                      clear hK K
                      simp only [andThen, leaves]
                      refine DWp.cond' (t := (ilt (isub .i64 r9.1 y1_1) (isub .i64 y1_2 r9.1))) (by simp [ej126_0, ej126_1, ej126_2, ej126_3, ej126_4, ej126_10, ej126_11, ej126_12, ej126_13, ej126_97]) (fun hb158 => ?_) (fun hb158 => ?_)
                      · replace hL2 := cd_t hb158 hL2
                        refine DWp.seq ?_
                        refine DWp.region fun K hK => ?_
                        simp [-aBin', -aBin, -aBinI, -aUn, -aNil, -flatV, n_fn, b_add, b_sub, b_mul, b_lt, b_le, b_gt, b_ge, b_eq, b_ne, u_not, ej126_0, ej126_1, ej126_2, ej126_3, ej126_4, ej126_10, ej126_11, ej126_12, ej126_13, ej126_97]
                        apply hK
                        clear hK K
                        simp only [andThen, leaves]
                        refine DWp.seq ?_
                        obtain ⟨r10, hc159, hL2⟩ := bd_some hL2
                        refine DWp.region fun K hK => ?_
                        simp [-aBin', -aBin, -aBinI, -aUn, -aNil, -flatV, n_fn, b_add, b_sub, b_mul, b_lt, b_le, b_gt, b_ge, b_eq, b_ne, u_not, ej126_0, ej126_1, ej126_2, ej126_3, ej126_4, ej126_10, ej126_11, ej126_12, ej126_13, ej126_97, ((S153.slI (k := 0) rfl).tup)]
                        have S160 : Sep G152 B ([flatI v0 62 r9.2.2] ++ []) := S153.pick [0] (by decide) rfl
                        obtain ⟨B166, S161, U162, M163, R164, C165⟩ := S160.frame (hB.le A154.1)
                        refine CallD.t (ih U162 S161 (fun G_ a_ => hx4 G_ (A154.trans (a_.mono M163))) hc159) ?_
                        rintro _ G168 ⟨a171, rfl, S172⟩
                        have A170 := A154.trans (a171.mono M163)
                        have S169 : Sep G168 B [flatI v0 62 r10] := C165 _ _ a171 S172
                        simp [-aBin', -aBin, -aBinI, -aUn, -aNil, -flatV, n_fn, b_add, b_sub, b_mul, b_lt, b_le, b_gt, b_ge, b_eq, b_ne, u_not, ej126_0, ej126_1, ej126_2, ej126_3, ej126_4, ej126_10, ej126_11, ej126_12, ej126_13, ej126_97]
                        apply hK
                        clear hK K
                        simp only [andThen, leaves]
                        refine DWp.region fun K hK => ?_
                        simp [-aBin', -aBin, -aBinI, -aUn, -aNil, -flatV, n_fn, b_add, b_sub, b_mul, b_lt, b_le, b_gt, b_ge, b_eq, b_ne, u_not, ej126_0, ej126_1, ej126_2, ej126_3, ej126_4, ej126_10, ej126_11, ej126_12, ej126_13, ej126_97]
                        apply hK
                        clear hK K
                        simp only [andThen, leaves]
                        have S173 := S169.pick [0] (by decide) rfl
                        exact ⟨n1, Nat.lt_succ_self _, r10, (iadd .i64 r9.1 1), y1_2, s34.2, (ile (iquo .i64 (isub .i64 y1_2 y1_1) 8) (isub .i64 r9.1 y1_1)), r9.2.1, hL2, S173, A170, by simp [ej126_0, ej126_1, ej126_2, ej126_3, ej126_4, ej126_10, ej126_11, ej126_12, ej126_13, ej126_97], by simp [ej126_0, ej126_1, ej126_2, ej126_3, ej126_4, ej126_10, ej126_11, ej126_12, ej126_13, ej126_97], by simp [ej126_0, ej126_1, ej126_2, ej126_3, ej126_4, ej126_10, ej126_11, ej126_12, ej126_13, ej126_97], by simp [ej126_0, ej126_1, ej126_2, ej126_3, ej126_4, ej126_10, ej126_11, ej126_12, ej126_13, ej126_97], by simp [ej126_0, ej126_1, ej126_2, ej126_3, ej126_4, ej126_10, ej126_11, ej126_12, ej126_13, ej126_97], by simp [ej126_0, ej126_1, ej126_2, ej126_3, ej126_4, ej126_10, ej126_11, ej126_12, ej126_13, ej126_97], by simp [ej126_0, ej126_1, ej126_2, ej126_3, ej126_4, ej126_10, ej126_11, ej126_12, ej126_13, ej126_97]⟩
                      · replace hL2 := cd_f hb158 hL2
                        refine DWp.seq ?_
                        refine DWp.region fun K hK => ?_
                        simp [-aBin', -aBin, -aBinI, -aUn, -aNil, -flatV, n_fn, b_add, b_sub, b_mul, b_lt, b_le, b_gt, b_ge, b_eq, b_ne, u_not, ej126_0, ej126_1, ej126_2, ej126_3, ej126_4, ej126_10, ej126_11, ej126_12, ej126_13, ej126_97]
                        apply hK
                        clear hK K
                        simp only [andThen, leaves]
                        refine DWp.seq ?_
                        obtain ⟨r11, hc174, hL2⟩ := bd_some hL2
                        refine DWp.region fun K hK => ?_
                        simp [-aBin', -aBin, -aBinI, -aUn, -aNil, -flatV, n_fn, b_add, b_sub, b_mul, b_lt, b_le, b_gt, b_ge, b_eq, b_ne, u_not, ej126_0, ej126_1, ej126_2, ej126_3, ej126_4, ej126_10, ej126_11, ej126_12, ej126_13, ej126_97, ((S153.slI (k := 0) rfl).tup)]
                        have S175 : Sep G152 B ([flatI v0 62 r9.2.2] ++ []) := S153.pick [0] (by decide) rfl
                        obtain ⟨B181, S176, U177, M178, R179, C180⟩ := S175.frame (hB.le A154.1)
                        refine CallD.t (ih U177 S176 (fun G_ a_ => hx4 G_ (A154.trans (a_.mono M178))) hc174) ?_
                        rintro _ G183 ⟨a186, rfl, S187⟩
                        have A185 := A154.trans (a186.mono M178)
                        have S184 : Sep G183 B [flatI v0 62 r11] := C180 _ _ a186 S187
                        simp [-aBin', -aBin, -aBinI, -aUn, -aNil, -flatV, n_fn, b_add, b_sub, b_mul, b_lt, b_le, b_gt, b_ge, b_eq, b_ne, u_not, ej126_0, ej126_1, ej126_2, ej126_3, ej126_4, ej126_10, ej126_11, ej126_12, ej126_13, ej126_97]
                        apply hK
                        clear hK K
                        simp only [andThen, leaves]
                        refine DWp.region fun K hK => ?_
                        simp [-aBin', -aBin, -aBinI, -aUn, -aNil, -flatV, n_fn, b_add, b_sub, b_mul, b_lt, b_le, b_gt, b_ge, b_eq, b_ne, u_not, ej126_0, ej126_1, ej126_2, ej126_3, ej126_4, ej126_10, ej126_11, ej126_12, ej126_13, ej126_97]
                        apply hK
                        clear hK K
                        simp only [andThen, leaves]
                        have S188 := S184.pick [0] (by decide) rfl
                        exact ⟨n1, Nat.lt_succ_self _, r11, y1_1, r9.1, s34.2, (ile (iquo .i64 (isub .i64 y1_2 y1_1) 8) (isub .i64 y1_2 r9.1)), r9.2.1, hL2, S188, A185, by simp [ej126_0, ej126_1, ej126_2, ej126_3, ej126_4, ej126_10, ej126_11, ej126_12, ej126_13, ej126_97], by simp [ej126_0, ej126_1, ej126_2, ej126_3, ej126_4, ej126_10, ej126_11, ej126_12, ej126_13, ej126_97], by simp [ej126_0, ej126_1, ej126_2, ej126_3, ej126_4, ej126_10, ej126_11, ej126_12, ej126_13, ej126_97], by simp [ej126_0, ej126_1, ej126_2, ej126_3, ej126_4, ej126_10, ej126_11, ej126_12, ej126_13, ej126_97], by simp [ej126_0, ej126_1, ej126_2, ej126_3, ej126_4, ej126_10, ej126_11, ej126_12, ej126_13, ej126_97], by simp [ej126_0, ej126_1, ej126_2, ej126_3, ej126_4, ej126_10, ej126_11, ej126_12, ej126_13, ej126_97], by simp [ej126_0, ej126_1, ej126_2, ej126_3, ej126_4, ej126_10, ej126_11, ej126_12, ej126_13, ej126_97]⟩
              · replace hL2 := cd_f hb92 hL2
                refine DWp.skip ?_
                simp only [andThen, leaves]
                refine DWp.seq ?_
                obtain ⟨s189, hL190, hL2⟩ := bd_some hL2
                refine DWp.seq (DWp.join (fun env G => Sep G B [flatI v0 62 s62.1] ∧ AgB B H G ∧ env 0 = some v0 ∧ env 1 = some (Value.int .i64 y1_1) ∧ env 2 = some (Value.int .i64 y1_2) ∧ env 3 = some (Value.int .i64 s34.2) ∧ env 4 = some (Value.func (.func f4) #[] c4.toArray) ∧ env 10 = some (Value.bool y1_10) ∧ env 11 = some (Value.bool y1_11) ∧ env 12 = some (Value.int .i64 (isub .i64 y1_2 y1_1)) ∧ env 13 = some (Value.int .i64 s62.2.1) ∧ env 97 = some (Value.bool s189)) ?_ ?_)
                ·
                  rcases Bool.eq_false_or_eq_true (ilt 0 y1_1) with hb192 | hb192
                  · replace hL190 := cd_t hb192 hL190
                    obtain ⟨g193, hL190⟩ := gd_some hL190
                    have q194 := (Sj91.slI (k := 0) rfl).idxG (P := Try.prog) (kk := .i64) el_58 sz_62 g193
                    have q195 := (Sj91.slI (k := 0) rfl).loadG (P := Try.prog) sz_62 ag_62 g193
                    obtain ⟨g196, hL190⟩ := gd_some hL190
                    have q197 := (Sj91.slI (k := 0) rfl).idxG (P := Try.prog) (kk := .i64) el_58 sz_62 g196
                    have q198 := (Sj91.slI (k := 0) rfl).loadG (P := Try.prog) sz_62 ag_62 g196
                    obtain ⟨r12, hc199, hL190⟩ := bd_some hL190
                    refine DWp.drawn (B := [0, 1, 3, 7, 7, 7, 39, 119, 247, 7, 7, 1543, 3591, 8191, 16383, 32767, 65535]) 17 mixed (by kernel_rfl) (by decide) fun K hK => ?_
                    simp [-aBin', -aBin, -aBinI, -aUn, -aNil, -flatV, n_fn, b_add, b_sub, b_mul, b_lt, b_le, b_gt, b_ge, b_eq, b_ne, u_not, ej91_0, ej91_1, ej91_2, ej91_3, ej91_4, ej91_10, ej91_11, ej91_12, ej91_13, ej91_75, hb192, q194, q195, q197, q198]
                    refine CallD.t (hx4 _ Aj91 ((gat i2 s62.1 (isub .i64 y1_1 1)).1) ((gat i2 s62.1 (isub .i64 y1_1 1)).2) ((gat i2 s62.1 s62.2.1).1) ((gat i2 s62.1 s62.2.1).2) _  hc199) ?_
                    rintro _ G200 ⟨a203, rfl, S204⟩
                    have A202 := Aj91.ext (hB.le Aj91.1) a203.agree
                    have S201 : Sep G200 B [flatI v0 62 s62.1] := Sj91.agree a203.agree
                    simp [-aBin', -aBin, -aBinI, -aUn, -aNil, -flatV, n_fn, b_add, b_sub, b_mul, b_lt, b_le, b_gt, b_ge, b_eq, b_ne, u_not, ej91_0, ej91_1, ej91_2, ej91_3, ej91_4, ej91_10, ej91_11, ej91_12, ej91_13, ej91_75, hb192, q194, q195, q197, q198, a203.pre]
                    apply hK
                    clear hK K
                    simp only [andThen, leaves]
                    have S205 := S201.pick [0] (by decide) rfl
                    obtain rfl := Option.some.inj hL190
                    exact ⟨S205, A202, by simp [ej91_0, ej91_1, ej91_2, ej91_3, ej91_4, ej91_10, ej91_11, ej91_12, ej91_13, ej91_75], by simp [ej91_0, ej91_1, ej91_2, ej91_3, ej91_4, ej91_10, ej91_11, ej91_12, ej91_13, ej91_75], by simp [ej91_0, ej91_1, ej91_2, ej91_3, ej91_4, ej91_10, ej91_11, ej91_12, ej91_13, ej91_75], by simp [ej91_0, ej91_1, ej91_2, ej91_3, ej91_4, ej91_10, ej91_11, ej91_12, ej91_13, ej91_75], by simp [ej91_0, ej91_1, ej91_2, ej91_3, ej91_4, ej91_10, ej91_11, ej91_12, ej91_13, ej91_75], by simp [ej91_0, ej91_1, ej91_2, ej91_3, ej91_4, ej91_10, ej91_11, ej91_12, ej91_13, ej91_75], by simp [ej91_0, ej91_1, ej91_2, ej91_3, ej91_4, ej91_10, ej91_11, ej91_12, ej91_13, ej91_75], by simp [ej91_0, ej91_1, ej91_2, ej91_3, ej91_4, ej91_10, ej91_11, ej91_12, ej91_13, ej91_75], by simp [ej91_0, ej91_1, ej91_2, ej91_3, ej91_4, ej91_10, ej91_11, ej91_12, ej91_13, ej91_75], by simp [ej91_0, ej91_1, ej91_2, ej91_3, ej91_4, ej91_10, ej91_11, ej91_12, ej91_13, ej91_75]⟩
                  · replace hL190 := cd_f hb192 hL190
                    refine DWp.drawn (B := [0, 1, 3, 7, 7, 7, 39, 119, 247, 7, 7, 1543, 3591, 8191, 16383, 32767, 65535]) 17 mixed (by kernel_rfl) (by decide) fun K hK => ?_
                    simp [-aBin', -aBin, -aBinI, -aUn, -aNil, -flatV, n_fn, b_add, b_sub, b_mul, b_lt, b_le, b_gt, b_ge, b_eq, b_ne, u_not, ej91_0, ej91_1, ej91_2, ej91_3, ej91_4, ej91_10, ej91_11, ej91_12, ej91_13, ej91_75, hb192]
                    apply hK
                    clear hK K
                    simp only [andThen, leaves]
                    have S206 := Sj91.pick [0] (by decide) rfl
                    obtain rfl := Option.some.inj hL190
                    exact ⟨S206, Aj91, by simp [ej91_0, ej91_1, ej91_2, ej91_3, ej91_4, ej91_10, ej91_11, ej91_12, ej91_13, ej91_75], by simp [ej91_0, ej91_1, ej91_2, ej91_3, ej91_4, ej91_10, ej91_11, ej91_12, ej91_13, ej91_75], by simp [ej91_0, ej91_1, ej91_2, ej91_3, ej91_4, ej91_10, ej91_11, ej91_12, ej91_13, ej91_75], by simp [ej91_0, ej91_1, ej91_2, ej91_3, ej91_4, ej91_10, ej91_11, ej91_12, ej91_13, ej91_75], by simp [ej91_0, ej91_1, ej91_2, ej91_3, ej91_4, ej91_10, ej91_11, ej91_12, ej91_13, ej91_75], by simp [ej91_0, ej91_1, ej91_2, ej91_3, ej91_4, ej91_10, ej91_11, ej91_12, ej91_13, ej91_75], by simp [ej91_0, ej91_1, ej91_2, ej91_3, ej91_4, ej91_10, ej91_11, ej91_12, ej91_13, ej91_75], by simp [ej91_0, ej91_1, ej91_2, ej91_3, ej91_4, ej91_10, ej91_11, ej91_12, ej91_13, ej91_75], by simp [ej91_0, ej91_1, ej91_2, ej91_3, ej91_4, ej91_10, ej91_11, ej91_12, ej91_13, ej91_75], by simp [ej91_0, ej91_1, ej91_2, ej91_3, ej91_4, ej91_10, ej91_11, ej91_12, ej91_13, ej91_75]⟩
                · rintro env Gj207 ⟨Sj207, Aj207, ej207_0, ej207_1, ej207_2, ej207_3, ej207_4, ej207_10, ej207_11, ej207_12, ej207_13, ej207_97⟩
                  refine DWp.cond' (t := s189) (by simp [ej207_0, ej207_1, ej207_2, ej207_3, ej207_4, ej207_10, ej207_11, ej207_12, ej207_13, ej207_97]) (fun hb208 => ?_) (fun hb208 => ?_)
                  · replace hL2 := cd_t hb208 hL2
                    refine DWp.seq ?_
                    obtain ⟨r13, hc209, hL2⟩ := bd_some hL2
                    refine DWp.region fun K hK => ?_
                    simp [-aBin', -aBin, -aBinI, -aUn, -aNil, -flatV, n_fn, b_add, b_sub, b_mul, b_lt, b_le, b_gt, b_ge, b_eq, b_ne, u_not, ej207_0, ej207_1, ej207_2, ej207_3, ej207_4, ej207_10, ej207_11, ej207_12, ej207_13, ej207_97, ((Sj207.slI (k := 0) rfl).tup)]
                    have S210 : Sep Gj207 B ([flatI v0 62 s62.1] ++ []) := Sj207.pick [0] (by decide) rfl
                    obtain ⟨B216, S211, U212, M213, R214, C215⟩ := S210.frame (hB.le Aj207.1)
                    refine CallD.t (F_slices_partitionEqualCmpFunc_2_int_w (fu := fu) U212 S211 (fun G_ a_ => hx4 G_ (Aj207.trans (a_.mono M213))) hc209) ?_
                    rintro _ G218 ⟨a221, rfl, S222⟩
                    have A220 := Aj207.trans (a221.mono M213)
                    have S219 : Sep G218 B [flatI v0 62 r13.2] := C215 _ _ a221 S222
                    simp [-aBin', -aBin, -aBinI, -aUn, -aNil, -flatV, n_fn, b_add, b_sub, b_mul, b_lt, b_le, b_gt, b_ge, b_eq, b_ne, u_not, ej207_0, ej207_1, ej207_2, ej207_3, ej207_4, ej207_10, ej207_11, ej207_12, ej207_13, ej207_97]
                    apply hK
                    clear hK K
                    simp only [andThen, leaves]
                    refine DWp.seq ?_
                    refine DWp.region fun K hK => ?_
                    simp [-aBin', -aBin, -aBinI, -aUn, -aNil, -flatV, n_fn, b_add, b_sub, b_mul, b_lt, b_le, b_gt, b_ge, b_eq, b_ne, u_not, ej207_0, ej207_1, ej207_2, ej207_3, ej207_4, ej207_10, ej207_11, ej207_12, ej207_13, ej207_97]
                    apply hK
                    clear hK K
                    simp only [andThen, leaves]
                    refine DWp.exit ?_
                    simp only [andThen, leaves, if_true, if_false, reduceIte, Nat.reduceEqDiff]
                    have S223 := S219.pick [0] (by decide) rfl
                    exact ⟨n1, Nat.lt_succ_self _, r13.2, r13.1, y1_2, s34.2, y1_10, y1_11, hL2, S223, A220, by simp [ej207_0, ej207_1, ej207_2, ej207_3, ej207_4, ej207_10, ej207_11, ej207_12, ej207_13, ej207_97], by simp [ej207_0, ej207_1, ej207_2, ej207_3, ej207_4, ej207_10, ej207_11, ej207_12, ej207_13, ej207_97], by simp [ej207_0, ej207_1, ej207_2, ej207_3, ej207_4, ej207_10, ej207_11, ej207_12, ej207_13, ej207_97], by simp [ej207_0, ej207_1, ej207_2, ej207_3, ej207_4, ej207_10, ej207_11, ej207_12, ej207_13, ej207_97], by simp [ej207_0, ej207_1, ej207_2, ej207_3, ej207_4, ej207_10, ej207_11, ej207_12, ej207_13, ej207_97], by simp [ej207_0, ej207_1, ej207_2, ej207_3, ej207_4, ej207_10, ej207_11, ej207_12, ej207_13, ej207_97], by simp [ej207_0, ej207_1, ej207_2, ej207_3, ej207_4, ej207_10, ej207_11, ej207_12, ej207_13, ej207_97]⟩
                  · replace hL2 := cd_f hb208 hL2
                    refine DWp.skip ?_
                    simp only [andThen, leaves]
                    refine DWp.seq ?_
                    obtain ⟨r14, hc224, hL2⟩ := bd_some hL2
                    refine DWp.region fun K hK => ?_
                    simp [-aBin', -aBin, -aBinI, -aUn, -aNil, -flatV, n_fn, b_add, b_sub, b_mul, b_lt, b_le, b_gt, b_ge, b_eq, b_ne, u_not, ej207_0, ej207_1, ej207_2, ej207_3, ej207_4, ej207_10, ej207_11, ej207_12, ej207_13, ej207_97, ((Sj207.slI (k := 0) rfl).tup)]
                    have S225 : Sep Gj207 B ([flatI v0 62 s62.1] ++ []) := Sj207.pick [0] (by decide) rfl
                    obtain ⟨B231, S226, U227, M228, R229, C230⟩ := S225.frame (hB.le Aj207.1)
                    refine CallD.t (F_slices_partitionCmpFunc_2_int_w (fu := fu) U227 S226 (fun G_ a_ => hx4 G_ (Aj207.trans (a_.mono M228))) hc224) ?_
                    rintro _ G233 ⟨a236, rfl, S237⟩
                    have A235 := Aj207.trans (a236.mono M228)
                    have S234 : Sep G233 B [flatI v0 62 r14.2.2] := C230 _ _ a236 S237
                    simp [-aBin', -aBin, -aBinI, -aUn, -aNil, -flatV, n_fn, b_add, b_sub, b_mul, b_lt, b_le, b_gt, b_ge, b_eq, b_ne, u_not, ej207_0, ej207_1, ej207_2, ej207_3, ej207_4, ej207_10, ej207_11, ej207_12, ej207_13, ej207_97]
                    apply hK
                    clear hK K
                    simp only [andThen, leaves]
                    refine DWp.seq ?_
                    refine DWp.region fun K hK => ?_
                    simp [-aBin', -aBin, -aBinI, -aUn, -aNil, -flatV, n_fn, b_add, b_sub, b_mul, b_lt, b_le, b_gt, b_ge, b_eq, b_ne, u_not, ej207_0, ej207_1, ej207_2, ej207_3, ej207_4, ej207_10, ej207_11, ej207_12, ej207_13, ej207_97]
                    apply hK
                    clear hK K
                    simp only [andThen, leaves]
                    refine DWp.seq ?_
                    refine DWp.region fun K hK => ?_
                    simp [-aBin', -aBin, -aBinI, -aUn, -aNil, -flatV, n_fn, b_add, b_sub, b_mul, b_lt, b_le, b_gt, b_ge, b_eq, b_ne, u_not, ej207_0, ej207_1, ej207_2, ej207_3, ej207_4, ej207_10, ej207_11, ej207_12, ej207_13, ej207_97]
                    apply hK
                    clear hK K
                    simp only [andThen, leaves]
                    refine DWp.seq ?_
                    have g238 : (8 : Int) ≠ 0 := by decide
                    refine DWp.region fun K hK => ?_
                    simp [-aBin', -aBin, -aBinI, -aUn, -aNil, -flatV, n_fn, b_add, b_sub, b_mul, b_lt, b_le, b_gt, b_ge, b_eq, b_ne, u_not, ej207_0, ej207_1, ej207_2, ej207_3, ej207_4, ej207_10, ej207_11, ej207_12, ej207_13, ej207_97, b_quo g238]
                    apply hK
                    clear hK K
                    simp only [andThen, leaves]
                    refine DWp.seq ?_
                    refine DWp.region fun K hK => ?_
                    simp [-aBin', -aBin, -aBinI, -aUn, -aNil, -flatV, n_fn, b_add, b_sub, b_mul, b_lt, b_le, b_gt, b_ge, b_eq, b_ne, u_not, ej207_0, ej207_1, ej207_2, ej207_3, ej207_4, ej207_10, ej207_11, ej207_12, ej207_13, ej207_97]
                    apply hK
                    clear hK K
                    simp only [andThen, leaves]
                    refine DWp.cond' (t := (ilt (isub .i64 r14.1 y1_1) (isub .i64 y1_2 r14.1))) (by simp [ej207_0, ej207_1, ej207_2, ej207_3, ej207_4, ej207_10, ej207_11, ej207_12, ej207_13, ej207_97]) (fun hb239 => ?_) (fun hb239 => ?_)
                    · replace hL2 := cd_t hb239 hL2
                      refine DWp.seq ?_
                      refine DWp.region fun K hK => ?_
                      simp [-aBin', -aBin, -aBinI, -aUn, -aNil, -flatV, n_fn, b_add, b_sub, b_mul, b_lt, b_le, b_gt, b_ge, b_eq, b_ne, u_not, ej207_0, ej207_1, ej207_2, ej207_3, ej207_4, ej207_10, ej207_11, ej207_12, ej207_13, ej207_97]
                      apply hK
                      clear hK K
                      simp only [andThen, leaves]
                      refine DWp.seq ?_
                      obtain ⟨r15, hc240, hL2⟩ := bd_some hL2
                      refine DWp.region fun K hK => ?_
                      simp [-aBin', -aBin, -aBinI, -aUn, -aNil, -flatV, n_fn, b_add, b_sub, b_mul, b_lt, b_le, b_gt, b_ge, b_eq, b_ne, u_not, ej207_0, ej207_1, ej207_2, ej207_3, ej207_4, ej207_10, ej207_11, ej207_12, ej207_13, ej207_97, ((S234.slI (k := 0) rfl).tup)]
                      have S241 : Sep G233 B ([flatI v0 62 r14.2.2] ++ []) := S234.pick [0] (by decide) rfl
                      obtain ⟨B247, S242, U243, M244, R245, C246⟩ := S241.frame (hB.le A235.1)
                      refine CallD.t (ih U243 S242 (fun G_ a_ => hx4 G_ (A235.trans (a_.mono M244))) hc240) ?_
                      rintro _ G249 ⟨a252, rfl, S253⟩
                      have A251 := A235.trans (a252.mono M244)
                      have S250 : Sep G249 B [flatI v0 62 r15] := C246 _ _ a252 S253
                      simp [-aBin', -aBin, -aBinI, -aUn, -aNil, -flatV, n_fn, b_add, b_sub, b_mul, b_lt, b_le, b_gt, b_ge, b_eq, b_ne, u_not, ej207_0, ej207_1, ej207_2, ej207_3, ej207_4, ej207_10, ej207_11, ej207_12, ej207_13, ej207_97]
                      apply hK
                      clear hK K
                      simp only [andThen, leaves]
                      refine DWp.region fun K hK => ?_
                      simp [-aBin', -aBin, -aBinI, -aUn, -aNil, -flatV, n_fn, b_add, b_sub, b_mul, b_lt, b_le, b_gt, b_ge, b_eq, b_ne, u_not, ej207_0, ej207_1, ej207_2, ej207_3, ej207_4, ej207_10, ej207_11, ej207_12, ej207_13, ej207_97]
                      apply hK
                      clear hK K
                      simp only [andThen, leaves]
                      have S254 := S250.pick [0] (by decide) rfl
                      exact ⟨n1, Nat.lt_succ_self _, r15, (iadd .i64 r14.1 1), y1_2, s34.2, (ile (iquo .i64 (isub .i64 y1_2 y1_1) 8) (isub .i64 r14.1 y1_1)), r14.2.1, hL2, S254, A251, by simp [ej207_0, ej207_1, ej207_2, ej207_3, ej207_4, ej207_10, ej207_11, ej207_12, ej207_13, ej207_97], by simp [ej207_0, ej207_1, ej207_2, ej207_3, ej207_4, ej207_10, ej207_11, ej207_12, ej207_13, ej207_97], by simp [ej207_0, ej207_1, ej207_2, ej207_3, ej207_4, ej207_10, ej207_11, ej207_12, ej207_13, ej207_97], by simp [ej207_0, ej207_1, ej207_2, ej207_3, ej207_4, ej207_10, ej207_11, ej207_12, ej207_13, ej207_97], by simp [ej207_0, ej207_1, ej207_2, ej207_3, ej207_4, ej207_10, ej207_11, ej207_12, ej207_13, ej207_97], by simp [ej207_0, ej207_1, ej207_2, ej207_3, ej207_4, ej207_10, ej207_11, ej207_12, ej207_13, ej207_97], by simp [ej207_0, ej207_1, ej207_2, ej207_3, ej207_4, ej207_10, ej207_11, ej207_12, ej207_13, ej207_97]⟩
                    · replace hL2 := cd_f hb239 hL2
                      refine DWp.seq ?_
                      refine DWp.region fun K hK => ?_
                      simp [-aBin', -aBin, -aBinI, -aUn, -aNil, -flatV, n_fn, b_add, b_sub, b_mul, b_lt, b_le, b_gt, b_ge, b_eq, b_ne, u_not, ej207_0, ej207_1, ej207_2, ej207_3, ej207_4, ej207_10, ej207_11, ej207_12, ej207_13, ej207_97]
                      apply hK
                      clear hK K
                      simp only [andThen, leaves]
                      refine DWp.seq ?_
                      obtain ⟨r16, hc255, hL2⟩ := bd_some hL2
                      refine DWp.region fun K hK => ?_
                      simp [-aBin', -aBin, -aBinI, -aUn, -aNil, -flatV, n_fn, b_add, b_sub, b_mul, b_lt, b_le, b_gt, b_ge, b_eq, b_ne, u_not, ej207_0, ej207_1, ej207_2, ej207_3, ej207_4, ej207_10, ej207_11, ej207_12, ej207_13, ej207_97, ((S234.slI (k := 0) rfl).tup)]
                      have S256 : Sep G233 B ([flatI v0 62 r14.2.2] ++ []) := S234.pick [0] (by decide) rfl
                      obtain ⟨B262, S257, U258, M259, R260, C261⟩ := S256.frame (hB.le A235.1)
                      refine CallD.t (ih U258 S257 (fun G_ a_ => hx4 G_ (A235.trans (a_.mono M259))) hc255) ?_
                      rintro _ G264 ⟨a267, rfl, S268⟩
                      have A266 := A235.trans (a267.mono M259)
                      have S265 : Sep G264 B [flatI v0 62 r16] := C261 _ _ a267 S268
                      simp [-aBin', -aBin, -aBinI, -aUn, -aNil, -flatV, n_fn, b_add, b_sub, b_mul, b_lt, b_le, b_gt, b_ge, b_eq, b_ne, u_not, ej207_0, ej207_1, ej207_2, ej207_3, ej207_4, ej207_10, ej207_11, ej207_12, ej207_13, ej207_97]
                      apply hK
                      clear hK K
                      simp only [andThen, leaves]
                      refine DWp.region fun K hK => ?_
                      simp [-aBin', -aBin, -aBinI, -aUn, -aNil, -flatV, n_fn, b_add, b_sub, b_mul, b_lt, b_le, b_gt, b_ge, b_eq, b_ne, u_not, ej207_0, ej207_1, ej207_2, ej207_3, ej207_4, ej207_10, ej207_11, ej207_12, ej207_13, ej207_97]
                      apply hK
                      clear hK K
                      simp only [andThen, leaves]
                      have S269 := S265.pick [0] (by decide) rfl
                      exact ⟨n1, Nat.lt_succ_self _, r16, y1_1, r14.1, s34.2, (ile (iquo .i64 (isub .i64 y1_2 y1_1) 8) (isub .i64 y1_2 r14.1)), r14.2.1, hL2, S269, A266, by simp [ej207_0, ej207_1, ej207_2, ej207_3, ej207_4, ej207_10, ej207_11, ej207_12, ej207_13, ej207_97], by simp [ej207_0, ej207_1, ej207_2, ej207_3, ej207_4, ej207_10, ej207_11, ej207_12, ej207_13, ej207_97], by simp [ej207_0, ej207_1, ej207_2, ej207_3, ej207_4, ej207_10, ej207_11, ej207_12, ej207_13, ej207_97], by simp [ej207_0, ej207_1, ej207_2, ej207_3, ej207_4, ej207_10, ej207_11, ej207_12, ej207_13, ej207_97], by simp [ej207_0, ej207_1, ej207_2, ej207_3, ej207_4, ej207_10, ej207_11, ej207_12, ej207_13, ej207_97], by simp [ej207_0, ej207_1, ej207_2, ej207_3, ej207_4, ej207_10, ej207_11, ej207_12, ej207_13, ej207_97], by simp [ej207_0, ej207_1, ej207_2, ej207_3, ej207_4, ej207_10, ej207_11, ej207_12, ej207_13, ej207_97]⟩
def F_slices_SortFunc_S_2_int (fu : Nat) (x0 : List (Int × Int)) (x1 : Int → Int → Int → Int → Option (Int)) : Option (List (Int × Int)) :=
  bd (F_math_bits_Len fu (iwr .u64 (llen x0))) fun r1 =>
  bd (F_slices_pdqsortCmpFunc_2_int fu x0 0 (llen x0) r1 x1) fun r2 =>
  some r2
theorem F_slices_SortFunc_S_2_int_w {fu : Nat} {H : AH} {B : Nat → Prop} {v0 : Value} {f1 : FuncId} {c1 : List Value} {x0 : List (Int × Int)} {x1 : Int → Int → Int → Int → Option (Int)} {r : (List (Int × Int))} (hB : Up B H.length) (S0 : Sep H B [flatI v0 62 x0]) (hx1 : ∀ (G : AH), AgB B H G → ∀ (y0_0 : Int) (y0_1 : Int) (y1_0 : Int) (y1_1 : Int) (q : (Int)), x1 y0_0 y0_1 y1_0 y1_1 = some q → ACallT Try.prog f1 ([(Value.agg #[(Value.int .i64 y0_0), (Value.int .i64 y0_1)]), (Value.agg #[(Value.int .i64 y1_0), (Value.int .i64 y1_1)])] ++ c1) G (fun u G' => AgB (Fr G) G G' ∧ u = (Value.int .i64 q) ∧ Sep G' (Fr G) [])) (hF : F_slices_SortFunc_S_2_int fu x0 x1 = some r) :
    ACallT Try.prog 93 [v0, (Value.func (.func f1) #[] c1.toArray)] H (fun u G => AgB B H G ∧ u = (Value.tuple #[]) ∧ Sep G B [flatI v0 62 r]) := by
  refine ACallT.of_body (nt := 14) (rs := []) Try.func93 rfl rfl rfl rfl ?_
  have A0 : AgB B H H := .refl _ _
  unfold F_slices_SortFunc_S_2_int at hF
  refine DWp.seq ?_
  have q1 := (S0.slI (k := 0) rfl).lenG (P := Try.prog) el_58
  refine DWp.region fun K hK => ?_
  simp [-aBin', -aBin, -aBinI, -aUn, -aNil, -flatV, n_fn, b_add, b_sub, b_mul, b_lt, b_le, b_gt, b_ge, b_eq, b_ne, u_not, q1]
  apply hK
  clear hK K
  simp only [andThen, leaves]
  obtain ⟨r1, hc2, hF⟩ := bd_some hF
  refine DWp.region fun K hK => ?_
  simp [-aBin', -aBin, -aBinI, -aUn, -aNil, -flatV, n_fn, b_add, b_sub, b_mul, b_lt, b_le, b_gt, b_ge, b_eq, b_ne, u_not, c_int un_3 un_93]
  refine CallD.t (F_math_bits_Len_w (fu := fu)  hc2) ?_
  rintro _ G4 ⟨a7, rfl, S8⟩
  have A6 := A0.ext (hB.le A0.1) a7.agree
  have S5 : Sep G4 B [flatI v0 62 x0] := S0.app a7.agree S8 (fun _ h => h) (hB.le A0.1)
  obtain ⟨r2, hc9, hF⟩ := bd_some hF
  simp [-aBin', -aBin, -aBinI, -aUn, -aNil, -flatV, n_fn, b_add, b_sub, b_mul, b_lt, b_le, b_gt, b_ge, b_eq, b_ne, u_not, c_int un_3 un_93, a7.pre, ((S5.slI (k := 0) rfl).tup)]
  have S10 : Sep G4 B ([flatI v0 62 x0] ++ []) := S5.pick [0] (by decide) rfl
  obtain ⟨B16, S11, U12, M13, R14, C15⟩ := S10.frame (hB.le A6.1)
  refine CallD.t (F_slices_pdqsortCmpFunc_2_int_w (fu := fu) U12 S11 (fun G_ a_ => hx1 G_ (A6.trans (a_.mono M13))) hc9) ?_
  rintro _ G18 ⟨a21, rfl, S22⟩
  have A20 := A6.trans (a21.mono M13)
  have S19 : Sep G18 B [flatI v0 62 r2] := C15 _ _ a21 S22
  simp [-aBin', -aBin, -aBinI, -aUn, -aNil, -flatV, n_fn, b_add, b_sub, b_mul, b_lt, b_le, b_gt, b_ge, b_eq, b_ne, u_not, c_int un_3 un_93, a7.pre]
  apply hK
  clear hK K
  obtain rfl := Option.some.inj hF
  exact ⟨by simp, [], by simp [], A20, rfl, S19.pick [0] (by decide) rfl⟩
def F_cmp_isNaN_int (fu : Nat) (x0 : Int) : Option (Bool) :=
  some (ine x0 x0)
theorem F_cmp_isNaN_int_w {fu : Nat} {H : AH}  {x0 : Int} {r : (Bool)}  (hF : F_cmp_isNaN_int fu x0 = some r) :
    ACallT Try.prog 132 [(Value.int .i64 x0)] H (fun u G => AgB (Fr H) H G ∧ u = (Value.bool r) ∧ Sep G (Fr H) []) := by
  refine ACallT.of_body (nt := 6) (rs := [.tmp 2]) Try.func132 rfl rfl rfl rfl ?_
  have A0 : AgB (Fr H) H H := .refl _ _
  have S0 : Sep H (Fr H) [] := .nil
  have hB := Fr.up H
  unfold F_cmp_isNaN_int at hF
  refine DWp.seq ?_
  refine DWp.region fun K hK => ?_
  simp [-aBin', -aBin, -aBinI, -aUn, -aNil, -flatV, n_fn, b_add, b_sub, b_mul, b_lt, b_le, b_gt, b_ge, b_eq, b_ne, u_not]
  apply hK
  clear hK K
  simp only [andThen, leaves]
  refine DWp.seq ?_
  refine DWp.region fun K hK => ?_
  simp [-aBin', -aBin, -aBinI, -aUn, -aNil, -flatV, n_fn, b_add, b_sub, b_mul, b_lt, b_le, b_gt, b_ge, b_eq, b_ne, u_not]
  apply hK
  clear hK K
  simp only [andThen, leaves]
  refine DWp.ret ?_
  obtain rfl := Option.some.inj hF
  exact ⟨by simp, [(Value.bool (ine x0 x0))], by simp [], A0, rfl, S0.pick [] (by decide) rfl⟩
def F_cmp_Compare_int (fu : Nat) (x0 : Int) (x1 : Int) : Option (Int) :=
  bd (F_cmp_isNaN_int fu x0) fun r1 =>
  bd (F_cmp_isNaN_int fu x1) fun r2 =>
  bif r1 then
    bif r2 then
      some 0
    else
      some (-1)
  else
    bif r2 then
      some 1
    else
      bif (ilt x0 x1) then
        some (-1)
      else
        bif (ilt x1 x0) then
          some 1
        else
          some 0
theorem F_cmp_Compare_int_w {fu : Nat} {H : AH}  {x0 : Int} {x1 : Int} {r : (Int)}  (hF : F_cmp_Compare_int fu x0 x1 = some r) :
    ACallT Try.prog 118 [(Value.int .i64 x0), (Value.int .i64 x1)] H (fun u G => AgB (Fr H) H G ∧ u = (Value.int .i64 r) ∧ Sep G (Fr H) []) := by
  refine ACallT.of_body (nt := 20) (rs := [.tmp 4]) Try.func118 rfl rfl rfl rfl ?_
  have A0 : AgB (Fr H) H H := .refl _ _
  have S0 : Sep H (Fr H) [] := .nil
  have hB := Fr.up H
  unfold F_cmp_Compare_int at hF
  refine DWp.seq ?_
  refine DWp.region fun K hK => ?_
  simp [-aBin', -aBin, -aBinI, -aUn, -aNil, -flatV, n_fn, b_add, b_sub, b_mul, b_lt, b_le, b_gt, b_ge, b_eq, b_ne, u_not]
  apply hK
  clear hK K
  simp only [andThen, leaves]
  refine DWp.seq ?_
  obtain ⟨r1, hc1, hF⟩ := bd_some hF
  refine DWp.region fun K hK => ?_
  simp [-aBin', -aBin, -aBinI, -aUn, -aNil, -flatV, n_fn, b_add, b_sub, b_mul, b_lt, b_le, b_gt, b_ge, b_eq, b_ne, u_not]
  refine CallD.t (F_cmp_isNaN_int_w (fu := fu)  hc1) ?_
  rintro _ G3 ⟨a6, rfl, S7⟩
  have A5 := A0.ext (hB.le A0.1) a6.agree
  have S4 : Sep G3 (Fr H) [] := S0.app a6.agree S7 (fun _ h => h) (hB.le A0.1)
  simp [-aBin', -aBin, -aBinI, -aUn, -aNil, -flatV, n_fn, b_add, b_sub, b_mul, b_lt, b_le, b_gt, b_ge, b_eq, b_ne, u_not, a6.pre]
  apply hK
  clear hK K
  simp only [andThen, leaves]
  refine DWp.seq ?_
  obtain ⟨r2, hc8, hF⟩ := bd_some hF
  refine DWp.region fun K hK => ?_
  simp [-aBin', -aBin, -aBinI, -aUn, -aNil, -flatV, n_fn, b_add, b_sub, b_mul, b_lt, b_le, b_gt, b_ge, b_eq, b_ne, u_not]
  refine CallD.t (F_cmp_isNaN_int_w (fu := fu)  hc8) ?_
  rintro _ G10 ⟨a13, rfl, S14⟩
  have A12 := A5.ext (hB.le A5.1) a13.agree
  have S11 : Sep G10 (Fr H) [] := S4.app a13.agree S14 (fun _ h => h) (hB.le A5.1)
  simp [-aBin', -aBin, -aBinI, -aUn, -aNil, -flatV, n_fn, b_add, b_sub, b_mul, b_lt, b_le, b_gt, b_ge, b_eq, b_ne, u_not, a13.pre]
  apply hK
  clear hK K
  simp only [andThen, leaves]
  refine DWp.seq ?_
  refine DWp.seq ?_
  refine DWp.region fun K hK => ?_
  simp [-aBin', -aBin, -aBinI, -aUn, -aNil, -flatV, n_fn, b_add, b_sub, b_mul, b_lt, b_le, b_gt, b_ge, b_eq, b_ne, u_not]
  apply hK
  clear hK K
  simp only [andThen, leaves]
  refine DWp.cond' (t := r1) (by simp []) (fun hb15 => ?_) (fun hb15 => ?_)
  · replace hF := cd_t hb15 hF
    refine DWp.seq ?_
    refine DWp.seq ?_
    refine DWp.region fun K hK => ?_
    simp [-aBin', -aBin, -aBinI, -aUn, -aNil, -flatV, n_fn, b_add, b_sub, b_mul, b_lt, b_le, b_gt, b_ge, b_eq, b_ne, u_not]
    apply hK
    clear hK K
    simp only [andThen, leaves]
    refine DWp.cond' (t := r2) (by simp []) (fun hb16 => ?_) (fun hb16 => ?_)
    · replace hF := cd_t hb16 hF
      refine DWp.seq ?_
      refine DWp.region fun K hK => ?_
      simp [-aBin', -aBin, -aBinI, -aUn, -aNil, -flatV, n_fn, b_add, b_sub, b_mul, b_lt, b_le, b_gt, b_ge, b_eq, b_ne, u_not]
      apply hK
      clear hK K
      simp only [andThen, leaves]
      refine DWp.ret ?_
      simp only [andThen, leaves]
      obtain rfl := Option.some.inj hF
      exact ⟨by simp, [(Value.int .i64 0)], by simp [], A12, rfl, S11.pick [] (by decide) rfl⟩
    · replace hF := cd_f hb16 hF
      refine DWp.skip ?_
      simp only [andThen, leaves]
      refine DWp.seq ?_
      refine DWp.region fun K hK => ?_
      simp [-aBin', -aBin, -aBinI, -aUn, -aNil, -flatV, n_fn, b_add, b_sub, b_mul, b_lt, b_le, b_gt, b_ge, b_eq, b_ne, u_not]
      apply hK
      clear hK K
      simp only [andThen, leaves]
      refine DWp.ret ?_
      simp only [andThen, leaves]
      obtain rfl := Option.some.inj hF
      exact ⟨by simp, [(Value.int .i64 (-1))], by simp [], A12, rfl, S11.pick [] (by decide) rfl⟩
  · replace hF := cd_f hb15 hF
    refine DWp.skip ?_
    simp only [andThen, leaves]
    refine DWp.seq ?_
    refine DWp.seq ?_
    refine DWp.region fun K hK => ?_
    simp [-aBin', -aBin, -aBinI, -aUn, -aNil, -flatV, n_fn, b_add, b_sub, b_mul, b_lt, b_le, b_gt, b_ge, b_eq, b_ne, u_not]
    apply hK
    clear hK K
    simp only [andThen, leaves]
    refine DWp.cond' (t := r2) (by simp []) (fun hb17 => ?_) (fun hb17 => ?_)
    · replace hF := cd_t hb17 hF
      refine DWp.seq ?_
      refine DWp.region fun K hK => ?_
      simp [-aBin', -aBin, -aBinI, -aUn, -aNil, -flatV, n_fn, b_add, b_sub, b_mul, b_lt, b_le, b_gt, b_ge, b_eq, b_ne, u_not]
      apply hK
      clear hK K
      simp only [andThen, leaves]
      refine DWp.ret ?_
      simp only [andThen, leaves]
      obtain rfl := Option.some.inj hF
      exact ⟨by simp, [(Value.int .i64 1)], by simp [], A12, rfl, S11.pick [] (by decide) rfl⟩
    · replace hF := cd_f hb17 hF
      refine DWp.skip ?_
      simp only [andThen, leaves]
      refine DWp.seq ?_
      refine DWp.seq ?_
      refine DWp.region fun K hK => ?_
      simp [-aBin', -aBin, -aBinI, -aUn, -aNil, -flatV, n_fn, b_add, b_sub, b_mul, b_lt, b_le, b_gt, b_ge, b_eq, b_ne, u_not]
      apply hK
      clear hK K
      simp only [andThen, leaves]
      refine DWp.cond' (t := (ilt x0 x1)) (by simp []) (fun hb18 => ?_) (fun hb18 => ?_)
      · replace hF := cd_t hb18 hF
        refine DWp.seq ?_
        refine DWp.region fun K hK => ?_
        simp [-aBin', -aBin, -aBinI, -aUn, -aNil, -flatV, n_fn, b_add, b_sub, b_mul, b_lt, b_le, b_gt, b_ge, b_eq, b_ne, u_not]
        apply hK
        clear hK K
        simp only [andThen, leaves]
        refine DWp.ret ?_
        simp only [andThen, leaves]
        obtain rfl := Option.some.inj hF
        exact ⟨by simp, [(Value.int .i64 (-1))], by simp [], A12, rfl, S11.pick [] (by decide) rfl⟩
      · replace hF := cd_f hb18 hF
        refine DWp.skip ?_
        simp only [andThen, leaves]
        refine DWp.seq ?_
        refine DWp.seq ?_
        refine DWp.region fun K hK => ?_
        simp [-aBin', -aBin, -aBinI, -aUn, -aNil, -flatV, n_fn, b_add, b_sub, b_mul, b_lt, b_le, b_gt, b_ge, b_eq, b_ne, u_not]
        apply hK
        clear hK K
        simp only [andThen, leaves]
        refine DWp.cond' (t := (ilt x1 x0)) (by simp []) (fun hb19 => ?_) (fun hb19 => ?_)
        · replace hF := cd_t hb19 hF
          refine DWp.seq ?_
          refine DWp.region fun K hK => ?_
          simp [-aBin', -aBin, -aBinI, -aUn, -aNil, -flatV, n_fn, b_add, b_sub, b_mul, b_lt, b_le, b_gt, b_ge, b_eq, b_ne, u_not]
          apply hK
          clear hK K
          simp only [andThen, leaves]
          refine DWp.ret ?_
          simp only [andThen, leaves]
          obtain rfl := Option.some.inj hF
          exact ⟨by simp, [(Value.int .i64 1)], by simp [], A12, rfl, S11.pick [] (by decide) rfl⟩
        · replace hF := cd_f hb19 hF
          refine DWp.skip ?_
          simp only [andThen, leaves]
          refine DWp.seq ?_
          refine DWp.region fun K hK => ?_
          simp [-aBin', -aBin, -aBinI, -aUn, -aNil, -flatV, n_fn, b_add, b_sub, b_mul, b_lt, b_le, b_gt, b_ge, b_eq, b_ne, u_not]
          apply hK
          clear hK K
          simp only [andThen, leaves]
          refine DWp.ret ?_
          obtain rfl := Option.some.inj hF
          exact ⟨by simp, [(Value.int .i64 0)], by simp [], A12, rfl, S11.pick [] (by decide) rfl⟩
def F_slices_Compare_Sint_L1 (fu : Nat) (k1_0 : List Int) (k1_1 : List Int) (k1_2 : Int) : Nat → Int → Option (LR (Int) (Int))
  | 0, _ => none
  | n + 1, y1_11 =>
    bif (ilt y1_11 k1_2) then
      gd (inL k1_0 y1_11) (
      bif (ile (llen k1_1) y1_11) then
        some (.ret 1)
      else
        gd (inL k1_1 y1_11) (
        bd (F_cmp_Compare_int fu (gat 0 k1_0 y1_11) (gat 0 k1_1 y1_11)) fun r1 =>
        bif (ine r1 0) then
          some (.ret r1)
        else
          F_slices_Compare_Sint_L1 fu k1_0 k1_1 k1_2 n (iadd .i64 y1_11 1)))
    else
      some (.brk y1_11)
def F_slices_Compare_Sint (fu : Nat) (x0 : List Int) (x1 : List Int) : Option (Int) :=
  bd (F_slices_Compare_Sint_L1 fu x0 x1 (llen x0) fu 0) fun s1 =>
  lr s1 fun s1 =>
  bif (ilt (llen x0) (llen x1)) then
    some (-1)
  else
    some 0
theorem F_slices_Compare_Sint_w {fu : Nat} {H : AH} {v0 : Value} {v1 : Value} {x0 : List Int} {x1 : List Int} {r : (Int)} (hx0 : Sl H v0 (ints x0)) (hx1 : Sl H v1 (ints x1)) (hF : F_slices_Compare_Sint fu x0 x1 = some r) :
    ACallT Try.prog 95 [v0, v1] H (fun u G => AgB (Fr H) H G ∧ u = (Value.int .i64 r) ∧ Sep G (Fr H) []) := by
  refine ACallT.of_body (nt := 36) (rs := [.tmp 4]) Try.func95 rfl rfl rfl rfl ?_
  have A0 : AgB (Fr H) H H := .refl _ _
  have S0 : Sep H (Fr H) [] := .nil
  have hB := Fr.up H
  unfold F_slices_Compare_Sint at hF
  refine DWp.seq ?_
  refine DWp.region fun K hK => ?_
  simp [-aBin', -aBin, -aBinI, -aUn, -aNil, -flatV, n_fn, b_add, b_sub, b_mul, b_lt, b_le, b_gt, b_ge, b_eq, b_ne, u_not]
  apply hK
  clear hK K
  simp only [andThen, leaves]
  refine DWp.seq ?_
  refine DWp.seq ?_
  have q1 := lenG (P := Try.prog) (hx0.agree A0.agree) el_22
  refine DWp.region fun K hK => ?_
  simp [-aBin', -aBin, -aBinI, -aUn, -aNil, -flatV, n_fn, b_add, b_sub, b_mul, b_lt, b_le, b_gt, b_ge, b_eq, b_ne, u_not, q1]
  apply hK
  clear hK K
  simp only [andThen, leaves]
  refine DWp.block ?_
  obtain ⟨s2, hL3, hF⟩ := bd_some hF
  have S4 := S0.pick [] (by decide) rfl
  refine DWp.loop (fun n env G => ∃ y1_11 : Int, F_slices_Compare_Sint_L1 fu x0 x1 (llen x0) n y1_11 = some s2 ∧ Sep G (Fr H) [] ∧ AgB (Fr H) H G ∧ env 0 = some v0 ∧ env 1 = some v1 ∧ env 9 = some v0 ∧ env 10 = some (Value.int .i64 (llen x0)) ∧ env 11 = some (Value.int .i64 y1_11)) fu ⟨0, hL3, S4, A0, by simp [], by simp [], by simp [], by simp [], by simp []⟩ ?_
  rintro n1 env1 G1_ ⟨y1_11, hL3, S1_, A1_, e1_0, e1_1, e1_9, e1_10, e1_11⟩
  cases n1 with
  | zero => cases hL3
  | succ n1 =>
    simp only [F_slices_Compare_Sint_L1] at hL3
    refine DWp.seq ?_
    refine DWp.region fun K hK => ?_
    simp [-aBin', -aBin, -aBinI, -aUn, -aNil, -flatV, n_fn, b_add, b_sub, b_mul, b_lt, b_le, b_gt, b_ge, b_eq, b_ne, u_not, e1_0, e1_1, e1_9, e1_10, e1_11]
    apply hK
    clear hK K
    simp only [andThen, leaves]
    refine DWp.seq ?_
    refine DWp.cond' (t := (ilt y1_11 (llen x0))) (by simp [e1_0, e1_1, e1_9, e1_10, e1_11]) (fun hb5 => ?_) (fun hb5 => ?_)
    · replace hL3 := cd_t hb5 hL3
      refine DWp.skip ?_
      simp only [andThen, leaves]
      refine DWp.seq ?_
      refine DWp.block ?_
      refine DWp.seq ?_
      obtain ⟨g6, hL3⟩ := gd_some hL3
      have q7 := idxG (P := Try.prog) (kk := .i64) (hx0.agree A1_.agree) el_22 sz_3 g6
      have q8 := loadG (P := Try.prog) (hx0.agree A1_.agree) sz_3 ag_3 g6 0
      refine DWp.region fun K hK => ?_
      simp [-aBin', -aBin, -aBinI, -aUn, -aNil, -flatV, n_fn, b_add, b_sub, b_mul, b_lt, b_le, b_gt, b_ge, b_eq, b_ne, u_not, e1_0, e1_1, e1_9, e1_10, e1_11, q7, q8]
      apply hK
      clear hK K
      simp only [andThen, leaves]
      refine DWp.seq ?_
      refine DWp.seq ?_
      have q9 := lenG (P := Try.prog) (hx1.agree A1_.agree) el_22
      refine DWp.region fun K hK => ?_
      simp [-aBin', -aBin, -aBinI, -aUn, -aNil, -flatV, n_fn, b_add, b_sub, b_mul, b_lt, b_le, b_gt, b_ge, b_eq, b_ne, u_not, e1_0, e1_1, e1_9, e1_10, e1_11, q9]
      apply hK
      clear hK K
      simp only [andThen, leaves]
      refine DWp.cond' (t := (ile (llen x1) y1_11)) (by simp [e1_0, e1_1, e1_9, e1_10, e1_11]) (fun hb10 => ?_) (fun hb10 => ?_)
      · replace hL3 := cd_t hb10 hL3
        refine DWp.seq ?_
        refine DWp.region fun K hK => ?_
        simp [-aBin', -aBin, -aBinI, -aUn, -aNil, -flatV, n_fn, b_add, b_sub, b_mul, b_lt, b_le, b_gt, b_ge, b_eq, b_ne, u_not, e1_0, e1_1, e1_9, e1_10, e1_11]
        apply hK
        clear hK K
        simp only [andThen, leaves]
        refine DWp.ret ?_
        simp only [andThen, leaves]
        obtain rfl := Option.some.inj hL3
        simp only [lr] at hF
        obtain rfl := Option.some.inj hF
        exact ⟨by simp, [(Value.int .i64 1)], by simp [e1_0, e1_1, e1_9, e1_10, e1_11], A1_, rfl, S1_.pick [] (by decide) rfl⟩
      · replace hL3 := cd_f hb10 hL3
        refine DWp.skip ?_
        simp only [andThen, leaves]
        refine DWp.seq ?_
        obtain ⟨g11, hL3⟩ := gd_some hL3
        have q12 := idxG (P := Try.prog) (kk := .i64) (hx1.agree A1_.agree) el_22 sz_3 g11
        have q13 := loadG (P := Try.prog) (hx1.agree A1_.agree) sz_3 ag_3 g11 0
        refine DWp.region fun K hK => ?_
        simp [-aBin', -aBin, -aBinI, -aUn, -aNil, -flatV, n_fn, b_add, b_sub, b_mul, b_lt, b_le, b_gt, b_ge, b_eq, b_ne, u_not, e1_0, e1_1, e1_9, e1_10, e1_11, q12, q13]
        apply hK
        clear hK K
        simp only [andThen, leaves]
        refine DWp.seq ?_
        obtain ⟨r1, hc14, hL3⟩ := bd_some hL3
        refine DWp.region fun K hK => ?_
        simp [-aBin', -aBin, -aBinI, -aUn, -aNil, -flatV, n_fn, b_add, b_sub, b_mul, b_lt, b_le, b_gt, b_ge, b_eq, b_ne, u_not, e1_0, e1_1, e1_9, e1_10, e1_11]
        refine CallD.t (F_cmp_Compare_int_w (fu := fu)  hc14) ?_
        rintro _ G16 ⟨a19, rfl, S20⟩
        have A18 := A1_.ext (hB.le A1_.1) a19.agree
        have S17 : Sep G16 (Fr H) [] := S1_.app a19.agree S20 (fun _ h => h) (hB.le A1_.1)
        simp [-aBin', -aBin, -aBinI, -aUn, -aNil, -flatV, n_fn, b_add, b_sub, b_mul, b_lt, b_le, b_gt, b_ge, b_eq, b_ne, u_not, e1_0, e1_1, e1_9, e1_10, e1_11, a19.pre]
        apply hK
        clear hK K
        simp only [andThen, leaves]
        refine DWp.seq ?_
        refine DWp.region fun K hK => ?_
        simp [-aBin', -aBin, -aBinI, -aUn, -aNil, -flatV, n_fn, b_add, b_sub, b_mul, b_lt, b_le, b_gt, b_ge, b_eq, b_ne, u_not, e1_0, e1_1, e1_9, e1_10, e1_11]
        apply hK
        clear hK K
        simp only [andThen, leaves]
        refine DWp.cond' (t := (ine r1 0)) (by simp [e1_0, e1_1, e1_9, e1_10, e1_11]) (fun hb21 => ?_) (fun hb21 => ?_)
        · replace hL3 := cd_t hb21 hL3
          refine DWp.seq ?_
          refine DWp.region fun K hK => ?_
          simp [-aBin', -aBin, -aBinI, -aUn, -aNil, -flatV, n_fn, b_add, b_sub, b_mul, b_lt, b_le, b_gt, b_ge, b_eq, b_ne, u_not, e1_0, e1_1, e1_9, e1_10, e1_11]
          apply hK
          clear hK K
          simp only [andThen, leaves]
          refine DWp.ret ?_
          simp only [andThen, leaves]
          obtain rfl := Option.some.inj hL3
          simp only [lr] at hF
          obtain rfl := Option.some.inj hF
          exact ⟨by simp, [(Value.int .i64 r1)], by simp [e1_0, e1_1, e1_9, e1_10, e1_11], A18, rfl, S17.pick [] (by decide) rfl⟩
        · replace hL3 := cd_f hb21 hL3
          refine DWp.skip ?_
          simp only [andThen, leaves]
          refine DWp.region fun K hK => ?_
          simp [-aBin', -aBin, -aBinI, -aUn, -aNil, -flatV, n_fn, b_add, b_sub, b_mul, b_lt, b_le, b_gt, b_ge, b_eq, b_ne, u_not, e1_0, e1_1, e1_9, e1_10, e1_11]
          apply hK
          clear hK K
          simp only [andThen, leaves]
          have S22 := S17.pick [] (by decide) rfl
          exact ⟨n1, Nat.lt_succ_self _, (iadd .i64 y1_11 1), hL3, S22, A18, by simp [e1_0, e1_1, e1_9, e1_10, e1_11], by simp [e1_0, e1_1, e1_9, e1_10, e1_11], by simp [e1_0, e1_1, e1_9, e1_10, e1_11], by simp [e1_0, e1_1, e1_9, e1_10, e1_11], by simp [e1_0, e1_1, e1_9, e1_10, e1_11]⟩
    · replace hL3 := cd_f hb5 hL3
      refine DWp.exit ?_
      simp only [andThen, leaves, if_true, if_false, reduceIte, Nat.reduceEqDiff]
      obtain rfl := Option.some.inj hL3
      simp only [lr] at hF
      refine DWp.seq ?_
      refine DWp.seq ?_
      have q23 := lenG (P := Try.prog) (hx0.agree A1_.agree) el_22
      have q24 := lenG (P := Try.prog) (hx1.agree A1_.agree) el_22
      refine DWp.region fun K hK => ?_
      simp [-aBin', -aBin, -aBinI, -aUn, -aNil, -flatV, n_fn, b_add, b_sub, b_mul, b_lt, b_le, b_gt, b_ge, b_eq, b_ne, u_not, e1_0, e1_1, e1_9, e1_10, e1_11, q23, q24]
      apply hK
      clear hK K
      simp only [andThen, leaves]
      refine DWp.cond' (t := (ilt (llen x0) (llen x1))) (by simp [e1_0, e1_1, e1_9, e1_10, e1_11]) (fun hb25 => ?_) (fun hb25 => ?_)
      · replace hF := cd_t hb25 hF
        refine DWp.seq ?_
        refine DWp.region fun K hK => ?_
        simp [-aBin', -aBin, -aBinI, -aUn, -aNil, -flatV, n_fn, b_add, b_sub, b_mul, b_lt, b_le, b_gt, b_ge, b_eq, b_ne, u_not, e1_0, e1_1, e1_9, e1_10, e1_11]
        apply hK
        clear hK K
        simp only [andThen, leaves]
        refine DWp.ret ?_
        simp only [andThen, leaves]
        obtain rfl := Option.some.inj hF
        exact ⟨by simp, [(Value.int .i64 (-1))], by simp [e1_0, e1_1, e1_9, e1_10, e1_11], A1_, rfl, S1_.pick [] (by decide) rfl⟩
      · replace hF := cd_f hb25 hF
        refine DWp.skip ?_
        simp only [andThen, leaves]
        refine DWp.seq ?_
        refine DWp.region fun K hK => ?_
        simp [-aBin', -aBin, -aBinI, -aUn, -aNil, -flatV, n_fn, b_add, b_sub, b_mul, b_lt, b_le, b_gt, b_ge, b_eq, b_ne, u_not, e1_0, e1_1, e1_9, e1_10, e1_11]
        apply hK
        clear hK K
        simp only [andThen, leaves]
        refine DWp.ret ?_
        obtain rfl := Option.some.inj hF
        exact ⟨by simp, [(Value.int .i64 0)], by simp [e1_0, e1_1, e1_9, e1_10, e1_11], A1_, rfl, S1_.pick [] (by decide) rfl⟩
def F_impl_couples_1 (fu : Nat) (x0_0 : Int) (x0_1 : Int) (x1_0 : Int) (x1_1 : Int) : Option (Int) :=
  bd (F_slices_Compare_Sint fu [x0_0, x0_1] [x1_0, x1_1]) fun r1 =>
  some r1
theorem F_impl_couples_1_w {fu : Nat} {H : AH}  {x0_0 : Int} {x0_1 : Int} {x1_0 : Int} {x1_1 : Int} {r : (Int)}  (hF : F_impl_couples_1 fu x0_0 x0_1 x1_0 x1_1 = some r) :
    ACallT Try.prog 94 [(Value.agg #[(Value.int .i64 x0_0), (Value.int .i64 x0_1)]), (Value.agg #[(Value.int .i64 x1_0), (Value.int .i64 x1_1)])] H (fun u G => AgB (Fr H) H G ∧ u = (Value.int .i64 r) ∧ Sep G (Fr H) []) := by
  refine ACallT.of_body (nt := 8) (rs := [.tmp 4]) Try.func94 rfl rfl rfl rfl ?_
  have A0 : AgB (Fr H) H H := .refl _ _
  have S0 : Sep H (Fr H) [] := .nil
  have hB := Fr.up H
  unfold F_impl_couples_1 at hF
  refine DWp.seq ?_
  obtain ⟨G2, p4, q5, q6, a7, S1⟩ := S0.boxT (hB.le A0.1) 62 [(Value.int .i64 x0_0), (Value.int .i64 x0_1)]
  have A3 := A0.ext (hB.le A0.1) a7
  replace S1 : Sep G2 (Fr H) [AL.box p4 [(Value.int .i64 x0_0), (Value.int .i64 x0_1)]] := S1
  obtain ⟨G9, p11, q12, q13, a14, S8⟩ := S1.boxT (hB.le A3.1) 62 [(Value.int .i64 x1_0), (Value.int .i64 x1_1)]
  have A10 := A3.ext (hB.le A3.1) a14
  replace S8 : Sep G9 (Fr H) [AL.box p4 [(Value.int .i64 x0_0), (Value.int .i64 x0_1)], AL.box p11 [(Value.int .i64 x1_0), (Value.int .i64 x1_1)]] := S8
  refine DWp.region fun K hK => ?_
  simp [-aBin', -aBin, -aBinI, -aUn, -aNil, -flatV, n_fn, b_add, b_sub, b_mul, b_lt, b_le, b_gt, b_ge, b_eq, b_ne, u_not, q5, q6, a7.to_pre, cells_agg, q12, q13, a14.to_pre]
  apply hK
  clear hK K
  simp only [andThen, leaves]
  refine DWp.seq ?_
  have q16 := (S8.arrS (P := Try.prog) (k := 0) rfl ua_62 sz_3 rfl).1
  have q18 := (S8.arrS (P := Try.prog) (k := 1) rfl ua_62 sz_3 rfl).1
  obtain ⟨r1, hc19, hF⟩ := bd_some hF
  refine DWp.drawn (B := [0, 0, 3, 7]) 4 mixed (by kernel_rfl) (by decide) fun K hK => ?_
  simp [-aBin', -aBin, -aBinI, -aUn, -aNil, -flatV, n_fn, b_add, b_sub, b_mul, b_lt, b_le, b_gt, b_ge, b_eq, b_ne, u_not, q16, ((show Sl _ _ (ints [x0_0, x0_1]) from (S8.arrS (P := Try.prog) (k := 0) rfl ua_62 sz_3 rfl).2).tup), q18, ((show Sl _ _ (ints [x1_0, x1_1]) from (S8.arrS (P := Try.prog) (k := 1) rfl ua_62 sz_3 rfl).2).tup)]
  refine CallD.t (F_slices_Compare_Sint_w (fu := fu) (show Sl _ _ (ints [x0_0, x0_1]) from (S8.arrS (P := Try.prog) (k := 0) rfl ua_62 sz_3 rfl).2) (show Sl _ _ (ints [x1_0, x1_1]) from (S8.arrS (P := Try.prog) (k := 1) rfl ua_62 sz_3 rfl).2) hc19) ?_
  rintro _ G21 ⟨a24, rfl, S25⟩
  have A23 := A10.ext (hB.le A10.1) a24.agree
  have S22 : Sep G21 (Fr H) [AL.box p4 [(Value.int .i64 x0_0), (Value.int .i64 x0_1)], AL.box p11 [(Value.int .i64 x1_0), (Value.int .i64 x1_1)]] := S8.app a24.agree S25 (fun _ h => h) (hB.le A10.1)
  simp [-aBin', -aBin, -aBinI, -aUn, -aNil, -flatV, n_fn, b_add, b_sub, b_mul, b_lt, b_le, b_gt, b_ge, b_eq, b_ne, u_not, q16, ((show Sl _ _ (ints [x0_0, x0_1]) from (S8.arrS (P := Try.prog) (k := 0) rfl ua_62 sz_3 rfl).2).tup), q18, ((show Sl _ _ (ints [x1_0, x1_1]) from (S8.arrS (P := Try.prog) (k := 1) rfl ua_62 sz_3 rfl).2).tup), a24.pre]
  apply hK
  clear hK K
  simp only [andThen, leaves]
  refine DWp.ret ?_
  obtain rfl := Option.some.inj hF
  exact ⟨by simp, [(Value.int .i64 r1)], by simp [], A23, rfl, S22.pick [] (by decide) rfl⟩
def F_impl_couples_L3 (fu : Nat) (k3_0 : List Int) (k3_1 : List (List Int)) (k3_2 : Int) (k3_3 : Int) (k3_4 : Int) (k3_5 : Int) (k3_6 : Int) (k3_7 : List Int) (k3_8 : Int) : Nat → List (Int × Int) → Int → Option (List (Int × Int) × Int)
  | 0, _, _ => none
  | n + 1, l3_0, y3_30 =>
    bif (ilt y3_30 k3_8) then
      gd (inL k3_7 y3_30) (
      gd (l3_0.length + 1 ≤ 4294967296) (
      F_impl_couples_L3 fu k3_0 k3_1 k3_2 k3_3 k3_4 k3_5 k3_6 k3_7 k3_8 n (lapp l3_0 [(k3_2, (gat 0 k3_7 y3_30))]) (iadd .i64 y3_30 1)))
    else
      some (l3_0, y3_30)
def F_impl_couples_L2 (fu : Nat) (k2_0 : List Int) (k2_1 : List (List Int)) (k2_2 : Int) (k2_3 : Int) (k2_4 : Int) : Nat → List (Int × Int) → Int → Option (List (Int × Int) × Int)
  | 0, _, _ => none
  | n + 1, l2_0, y2_20 =>
    bif (ilt y2_20 k2_4) then
      gd (inL k2_0 y2_20) (
      gd (subL k2_0 (iadd .i64 y2_20 1) (llen k2_0)) (
      bd (F_impl_couples_L3 fu k2_0 k2_1 (gat 0 k2_0 y2_20) k2_2 k2_3 k2_4 y2_20 (lsub k2_0 (iadd .i64 y2_20 1) (llen k2_0)) (llen (lsub k2_0 (iadd .i64 y2_20 1) (llen k2_0))) fu l2_0 0) fun s3 =>
      F_impl_couples_L2 fu k2_0 k2_1 k2_2 k2_3 k2_4 n s3.1 (iadd .i64 y2_20 1)))
    else
      some (l2_0, y2_20)
def F_impl_couples_L1 (fu : Nat) (k1_0 : List (List Int)) (k1_1 : Int) : Nat → List (Int × Int) → Int → Option (List (Int × Int) × Int)
  | 0, _, _ => none
  | n + 1, l1_0, y1_14 =>
    bif (ilt y1_14 k1_1) then
      gd (inL k1_0 y1_14) (
      bd (F_impl_couples_L2 fu (gat [] k1_0 y1_14) k1_0 k1_1 y1_14 (llen (gat [] k1_0 y1_14)) fu l1_0 0) fun s2 =>
      F_impl_couples_L1 fu k1_0 k1_1 n s2.1 (iadd .i64 y1_14 1))
    else
      some (l1_0, y1_14)
def F_impl_couples (fu : Nat) (x0 : List Int) : Option (List (Int × Int)) :=
  bd (F_impl_faces fu x0) fun r1 =>
  bd (F_impl_couples_L1 fu r1 (llen r1) fu (@List.nil (Int × Int)) 0) fun s1 =>
  bd (F_slices_SortFunc_S_2_int fu s1.1 (fun y0_0 y0_1 y1_0 y1_1 => F_impl_couples_1 fu y0_0 y0_1 y1_0 y1_1)) fun r2 =>
  some r2
theorem F_impl_couples_w {fu : Nat} {H : AH} {v0 : Value} {x0 : List Int} {r : (List (Int × Int))} (hx0 : Sl H v0 (ints x0)) (hF : F_impl_couples fu x0 = some r) :
    ACallT Try.prog 67 [v0] H (fun u G => AgB (Fr H) H G ∧ ∃ u0 : Value, u = u0 ∧ Sep G (Fr H) [flatI u0 62 r]) := by
  refine ACallT.of_body (nt := 46) (rs := [.tmp 2]) Try.func67 rfl rfl rfl rfl ?_
  have A0 : AgB (Fr H) H H := .refl _ _
  have S0 : Sep H (Fr H) [] := .nil
  have hB := Fr.up H
  unfold F_impl_couples at hF
  refine DWp.seq ?_
  refine DWp.region fun K hK => ?_
  simp [-aBin', -aBin, -aBinI, -aUn, -aNil, -flatV, n_fn, b_add, b_sub, b_mul, b_lt, b_le, b_gt, b_ge, b_eq, b_ne, u_not]
  apply hK
  clear hK K
  simp only [andThen, leaves]
  refine DWp.seq ?_
  obtain ⟨v1, G2, q3, S4, a6, _, _⟩ := S0.litI0 (P := Try.prog) (t := 58) (hB.le A0.1) el_58 ei_62 rfl
  have A5 := A0.ext (hB.le A0.1) a6
  replace S4 : Sep G2 (Fr H) [flatI v1 62 (@List.nil (Int × Int))] := S4
  refine DWp.region fun K hK => ?_
  simp [-aBin', -aBin, -aBinI, -aUn, -aNil, -flatV, n_fn, b_add, b_sub, b_mul, b_lt, b_le, b_gt, b_ge, b_eq, b_ne, u_not, q3, a6.to_pre]
  apply hK
  clear hK K
  simp only [andThen, leaves]
  refine DWp.seq ?_
  refine DWp.seq ?_
  obtain ⟨r1, hc7, hF⟩ := bd_some hF
  refine DWp.region fun K hK => ?_
  simp [-aBin', -aBin, -aBinI, -aUn, -aNil, -flatV, n_fn, b_add, b_sub, b_mul, b_lt, b_le, b_gt, b_ge, b_eq, b_ne, u_not, ((hx0.agree A5.agree).tup)]
  refine CallD.t (F_impl_faces_w (fu := fu) (hx0.agree A5.agree) hc7) ?_
  rintro c8_u0 G9 ⟨a12, _, c8_C0, rfl, S13⟩
  have A11 := A5.ext (hB.le A5.1) a12.agree
  have S10 : Sep G9 (Fr H) [flatI v1 62 (@List.nil (Int × Int)), rowsC c8_u0 22 3 c8_C0 (List.map ints r1)] := S4.app a12.agree S13 (fun _ h => h) (hB.le A5.1)
  have q14 := (S10.rd (k := 1) rfl).lenG (P := Try.prog) el_23
  simp [-aBin', -aBin, -aBinI, -aUn, -aNil, -flatV, n_fn, b_add, b_sub, b_mul, b_lt, b_le, b_gt, b_ge, b_eq, b_ne, u_not, a12.pre, q14]
  apply hK
  clear hK K
  simp only [andThen, leaves]
  refine DWp.block ?_
  obtain ⟨s15, hL16, hF⟩ := bd_some hF
  have S17 := S10.pick [0, 1] (by decide) rfl
  refine DWp.loop (fun n env G => ∃ l1_0 : List (Int × Int), ∃ y1_14 : Int, ∃ w1_0 : Value, F_impl_couples_L1 fu r1 (llen r1) n l1_0 y1_14 = some s15 ∧ Sep G (Fr H) [flatI w1_0 62 l1_0, rowsC c8_u0 22 3 c8_C0 (List.map ints r1)] ∧ AgB (Fr H) H G ∧ env 3 = some w1_0 ∧ env 12 = some c8_u0 ∧ env 13 = some (Value.int .i64 (llen r1)) ∧ env 14 = some (Value.int .i64 y1_14)) fu ⟨(@List.nil (Int × Int)), 0, v1, hL16, S17, A11, by simp [], by simp [], by simp [], by simp []⟩ ?_
  rintro n1 env1 G1_ ⟨l1_0, y1_14, w1_0, hL16, S1_, A1_, e1_3, e1_12, e1_13, e1_14⟩
  cases n1 with
  | zero => cases hL16
  | succ n1 =>
    simp only [F_impl_couples_L1] at hL16
    refine DWp.seq ?_
    refine DWp.region fun K hK => ?_
    simp [-aBin', -aBin, -aBinI, -aUn, -aNil, -flatV, n_fn, b_add, b_sub, b_mul, b_lt, b_le, b_gt, b_ge, b_eq, b_ne, u_not, e1_3, e1_12, e1_13, e1_14]
    apply hK
    clear hK K
    simp only [andThen, leaves]
    refine DWp.seq ?_
    refine DWp.cond' (t := (ilt y1_14 (llen r1))) (by simp [e1_3, e1_12, e1_13, e1_14]) (fun hb18 => ?_) (fun hb18 => ?_)
    · replace hL16 := cd_t hb18 hL16
      refine DWp.skip ?_
      simp only [andThen, leaves]
      refine DWp.seq ?_
      refine DWp.block ?_
      refine DWp.seq ?_
      obtain ⟨g19, hL16⟩ := gd_some hL16
      have q20 := (S1_.rd (k := 1) rfl).idxG (P := Try.prog) (kk := .i64) el_23 sz_22 g19
      have q21 := (S1_.rd (k := 1) rfl).loadG (P := Try.prog) sz_22 ag_22 g19
      refine DWp.region fun K hK => ?_
      simp [-aBin', -aBin, -aBinI, -aUn, -aNil, -flatV, n_fn, b_add, b_sub, b_mul, b_lt, b_le, b_gt, b_ge, b_eq, b_ne, u_not, e1_3, e1_12, e1_13, e1_14, q20, q21]
      apply hK
      clear hK K
      simp only [andThen, leaves]
      refine DWp.seq ?_
      have q22 := lenG (P := Try.prog) ((S1_.rd (k := 1) rfl).rowAt [] g19) el_22
      refine DWp.region fun K hK => ?_
      simp [-aBin', -aBin, -aBinI, -aUn, -aNil, -flatV, n_fn, b_add, b_sub, b_mul, b_lt, b_le, b_gt, b_ge, b_eq, b_ne, u_not, e1_3, e1_12, e1_13, e1_14, q22]
      apply hK
      clear hK K
      simp only [andThen, leaves]
      refine DWp.block ?_
      obtain ⟨s23, hL24, hL16⟩ := bd_some hL16
      have S25 := S1_.pick [0, 1] (by decide) rfl
      refine DWp.loop (fun n env G => ∃ l2_0 : List (Int × Int), ∃ y2_20 : Int, ∃ w2_0 : Value, F_impl_couples_L2 fu (gat [] r1 y1_14) r1 (llen r1) y1_14 (llen (gat [] r1 y1_14)) n l2_0 y2_20 = some s23 ∧ Sep G (Fr H) [flatI w2_0 62 l2_0, rowsC c8_u0 22 3 c8_C0 (List.map ints r1)] ∧ AgB (Fr H) H G ∧ env 3 = some w2_0 ∧ env 5 = some (gat nilV c8_C0 y1_14) ∧ env 12 = some c8_u0 ∧ env 13 = some (Value.int .i64 (llen r1)) ∧ env 14 = some (Value.int .i64 y1_14) ∧ env 18 = some (gat nilV c8_C0 y1_14) ∧ env 19 = some (Value.int .i64 (llen (gat [] r1 y1_14))) ∧ env 20 = some (Value.int .i64 y2_20)) fu ⟨l1_0, 0, w1_0, hL24, S25, A1_, by simp [e1_3, e1_12, e1_13, e1_14], by simp [e1_3, e1_12, e1_13, e1_14], by simp [e1_3, e1_12, e1_13, e1_14], by simp [e1_3, e1_12, e1_13, e1_14], by simp [e1_3, e1_12, e1_13, e1_14], by simp [e1_3, e1_12, e1_13, e1_14], by simp [e1_3, e1_12, e1_13, e1_14], by simp [e1_3, e1_12, e1_13, e1_14]⟩ ?_
      rintro n2 env2 G2_ ⟨l2_0, y2_20, w2_0, hL24, S2_, A2_, e2_3, e2_5, e2_12, e2_13, e2_14, e2_18, e2_19, e2_20⟩
      cases n2 with
      | zero => cases hL24
      | succ n2 =>
        simp only [F_impl_couples_L2] at hL24
        refine DWp.seq ?_
        refine DWp.region fun K hK => ?_
        simp [-aBin', -aBin, -aBinI, -aUn, -aNil, -flatV, n_fn, b_add, b_sub, b_mul, b_lt, b_le, b_gt, b_ge, b_eq, b_ne, u_not, e2_3, e2_5, e2_12, e2_13, e2_14, e2_18, e2_19, e2_20]
        apply hK
        clear hK K
        simp only [andThen, leaves]
        refine DWp.seq ?_
        refine DWp.cond' (t := (ilt y2_20 (llen (gat [] r1 y1_14)))) (by simp [e2_3, e2_5, e2_12, e2_13, e2_14, e2_18, e2_19, e2_20]) (fun hb26 => ?_) (fun hb26 => ?_)
        · replace hL24 := cd_t hb26 hL24
          refine DWp.skip ?_
          simp only [andThen, leaves]
          refine DWp.seq ?_
          refine DWp.block ?_
          refine DWp.seq ?_
          obtain ⟨g27, hL24⟩ := gd_some hL24
          have q28 := idxG (P := Try.prog) (kk := .i64) ((S2_.rd (k := 1) rfl).rowAt [] g19) el_22 sz_3 g27
          have q29 := loadG (P := Try.prog) ((S2_.rd (k := 1) rfl).rowAt [] g19) sz_3 ag_3 g27 0
          refine DWp.region fun K hK => ?_
          simp [-aBin', -aBin, -aBinI, -aUn, -aNil, -flatV, n_fn, b_add, b_sub, b_mul, b_lt, b_le, b_gt, b_ge, b_eq, b_ne, u_not, e2_3, e2_5, e2_12, e2_13, e2_14, e2_18, e2_19, e2_20, q28, q29]
          apply hK
          clear hK K
          simp only [andThen, leaves]
          refine DWp.seq ?_
          obtain ⟨g30, hL24⟩ := gd_some hL24
          have q31 := aSub10 (P := Try.prog) (t := 22) ((S2_.rd (k := 1) rfl).rowAt [] g19) el_22 sz_3 g30
          have q32 := lenG (P := Try.prog) (subSl ((S2_.rd (k := 1) rfl).rowAt [] g19) g30) el_22
          refine DWp.region fun K hK => ?_
          simp [-aBin', -aBin, -aBinI, -aUn, -aNil, -flatV, n_fn, b_add, b_sub, b_mul, b_lt, b_le, b_gt, b_ge, b_eq, b_ne, u_not, e2_3, e2_5, e2_12, e2_13, e2_14, e2_18, e2_19, e2_20, q31, ((subSl ((S2_.rd (k := 1) rfl).rowAt [] g19) g30).tup), q32]
          apply hK
          clear hK K
          simp only [andThen, leaves]
          refine DWp.block ?_
          obtain ⟨s33, hL34, hL24⟩ := bd_some hL24
          have S35 := S2_.pick [0, 1] (by decide) rfl
          refine DWp.loop (fun n env G => ∃ l3_0 : List (Int × Int), ∃ y3_30 : Int, ∃ w3_0 : Value, F_impl_couples_L3 fu (gat [] r1 y1_14) r1 (gat 0 (gat [] r1 y1_14) y2_20) (llen r1) y1_14 (llen (gat [] r1 y1_14)) y2_20 (lsub (gat [] r1 y1_14) (iadd .i64 y2_20 1) (llen (gat [] r1 y1_14))) (llen (lsub (gat [] r1 y1_14) (iadd .i64 y2_20 1) (llen (gat [] r1 y1_14)))) n l3_0 y3_30 = some s33 ∧ Sep G (Fr H) [flatI w3_0 62 l3_0, rowsC c8_u0 22 3 c8_C0 (List.map ints r1)] ∧ AgB (Fr H) H G ∧ env 3 = some w3_0 ∧ env 5 = some (gat nilV c8_C0 y1_14) ∧ env 7 = some (Value.int .i64 (gat 0 (gat [] r1 y1_14) y2_20)) ∧ env 12 = some c8_u0 ∧ env 13 = some (Value.int .i64 (llen r1)) ∧ env 14 = some (Value.int .i64 y1_14) ∧ env 18 = some (gat nilV c8_C0 y1_14) ∧ env 19 = some (Value.int .i64 (llen (gat [] r1 y1_14))) ∧ env 20 = some (Value.int .i64 y2_20) ∧ env 28 = some (subV (gat nilV c8_C0 y1_14) (iadd .i64 y2_20 1) (llen (gat [] r1 y1_14))) ∧ env 29 = some (Value.int .i64 (llen (lsub (gat [] r1 y1_14) (iadd .i64 y2_20 1) (llen (gat [] r1 y1_14))))) ∧ env 30 = some (Value.int .i64 y3_30)) fu ⟨l2_0, 0, w2_0, hL34, S35, A2_, by simp [e2_3, e2_5, e2_12, e2_13, e2_14, e2_18, e2_19, e2_20], by simp [e2_3, e2_5, e2_12, e2_13, e2_14, e2_18, e2_19, e2_20], by simp [e2_3, e2_5, e2_12, e2_13, e2_14, e2_18, e2_19, e2_20], by simp [e2_3, e2_5, e2_12, e2_13, e2_14, e2_18, e2_19, e2_20], by simp [e2_3, e2_5, e2_12, e2_13, e2_14, e2_18, e2_19, e2_20], by simp [e2_3, e2_5, e2_12, e2_13, e2_14, e2_18, e2_19, e2_20], by simp [e2_3, e2_5, e2_12, e2_13, e2_14, e2_18, e2_19, e2_20], by simp [e2_3, e2_5, e2_12, e2_13, e2_14, e2_18, e2_19, e2_20], by simp [e2_3, e2_5, e2_12, e2_13, e2_14, e2_18, e2_19, e2_20], by simp [e2_3, e2_5, e2_12, e2_13, e2_14, e2_18, e2_19, e2_20], by simp [e2_3, e2_5, e2_12, e2_13, e2_14, e2_18, e2_19, e2_20], by simp [e2_3, e2_5, e2_12, e2_13, e2_14, e2_18, e2_19, e2_20]⟩ ?_
          rintro n3 env3 G3_ ⟨l3_0, y3_30, w3_0, hL34, S3_, A3_, e3_3, e3_5, e3_7, e3_12, e3_13, e3_14, e3_18, e3_19, e3_20, e3_28, e3_29, e3_30⟩
          cases n3 with
          | zero => cases hL34
          | succ n3 =>
            simp only [F_impl_couples_L3] at hL34
            refine DWp.seq ?_
            refine DWp.region fun K hK => ?_
            simp [-aBin', -aBin, -aBinI, -aUn, -aNil, -flatV, n_fn, b_add, b_sub, b_mul, b_lt, b_le, b_gt, b_ge, b_eq, b_ne, u_not, e3_3, e3_5, e3_7, e3_12, e3_13, e3_14, e3_18, e3_19, e3_20, e3_28, e3_29, e3_30]
            apply hK
            clear hK K
            simp only [andThen, leaves]
            refine DWp.seq ?_
            refine DWp.cond' (t := (ilt y3_30 (llen (lsub (gat [] r1 y1_14) (iadd .i64 y2_20 1) (llen (gat [] r1 y1_14)))))) (by simp [e3_3, e3_5, e3_7, e3_12, e3_13, e3_14, e3_18, e3_19, e3_20, e3_28, e3_29, e3_30]) (fun hb36 => ?_) (fun hb36 => ?_)
            · replace hL34 := cd_t hb36 hL34
              refine DWp.skip ?_
              simp only [andThen, leaves]
              refine DWp.seq ?_
              refine DWp.block ?_
              refine DWp.seq ?_
              obtain ⟨g37, hL34⟩ := gd_some hL34
              have q38 := idxG (P := Try.prog) (kk := .i64) (subSl ((S3_.rd (k := 1) rfl).rowAt [] g19) g30) el_22 sz_3 g37
              have q39 := loadG (P := Try.prog) (subSl ((S3_.rd (k := 1) rfl).rowAt [] g19) g30) sz_3 ag_3 g37 0
              refine DWp.region fun K hK => ?_
              simp [-aBin', -aBin, -aBinI, -aUn, -aNil, -flatV, n_fn, b_add, b_sub, b_mul, b_lt, b_le, b_gt, b_ge, b_eq, b_ne, u_not, e3_3, e3_5, e3_7, e3_12, e3_13, e3_14, e3_18, e3_19, e3_20, e3_28, e3_29, e3_30, q38, q39]
              apply hK
              clear hK K
              simp only [andThen, leaves]
              obtain ⟨v40, G41, q42, S43, a45, _, _⟩ := S3_.litI1 (P := Try.prog) (t := 58) (hB.le A3_.1) el_58 ei_62 rfl (gat 0 (gat [] r1 y1_14) y2_20) (gat 0 (lsub (gat [] r1 y1_14) (iadd .i64 y2_20 1) (llen (gat [] r1 y1_14))) y3_30)
              have A44 := A3_.ext (hB.le A3_.1) a45
              replace S43 : Sep G41 (Fr H) [flatI w3_0 62 l3_0, rowsC c8_u0 22 3 c8_C0 (List.map ints r1), flatI v40 62 [((gat 0 (gat [] r1 y1_14) y2_20), (gat 0 (lsub (gat [] r1 y1_14) (iadd .i64 y2_20 1) (llen (gat [] r1 y1_14))) y3_30))]] := S43
              obtain ⟨g46, hL34⟩ := gd_some hL34
              obtain ⟨v52, G47, q48, S49, a51, q48t, _⟩ := S43.pushI (P := Try.prog) (t := 58) (t2 := 58) (k := 0) rfl (hB.le A44.1) el_58 el_58 ei_62 rfl (S43.slI (k := 2) rfl) (Nat.zero_lt_one) g46
              have A50 := A44.trans a51
              replace S49 : Sep G47 (Fr H) [flatI v52 62 (lapp l3_0 [((gat 0 (gat [] r1 y1_14) y2_20), (gat 0 (lsub (gat [] r1 y1_14) (iadd .i64 y2_20 1) (llen (gat [] r1 y1_14))) y3_30))]), rowsC c8_u0 22 3 c8_C0 (List.map ints r1), flatI v40 62 [((gat 0 (gat [] r1 y1_14) y2_20), (gat 0 (lsub (gat [] r1 y1_14) (iadd .i64 y2_20 1) (llen (gat [] r1 y1_14))) y3_30))]] := S49
              refine DWp.region fun K hK => ?_
              simp [-aBin', -aBin, -aBinI, -aUn, -aNil, -flatV, n_fn, b_add, b_sub, b_mul, b_lt, b_le, b_gt, b_ge, b_eq, b_ne, u_not, e3_3, e3_5, e3_7, e3_12, e3_13, e3_14, e3_18, e3_19, e3_20, e3_28, e3_29, e3_30, bu_62 (rfl : isTup (Value.int .i64 (gat 0 (gat [] r1 y1_14) y2_20)) = false) (rfl : (Value.int .i64 (gat 0 (gat [] r1 y1_14) y2_20)).cells = #[(Value.int .i64 (gat 0 (gat [] r1 y1_14) y2_20))]) (rfl : isTup (Value.int .i64 (gat 0 (lsub (gat [] r1 y1_14) (iadd .i64 y2_20 1) (llen (gat [] r1 y1_14))) y3_30)) = false) (rfl : (Value.int .i64 (gat 0 (lsub (gat [] r1 y1_14) (iadd .i64 y2_20 1) (llen (gat [] r1 y1_14))) y3_30)).cells = #[(Value.int .i64 (gat 0 (lsub (gat [] r1 y1_14) (iadd .i64 y2_20 1) (llen (gat [] r1 y1_14))) y3_30))]), q42, a45.to_pre, q48, q48t]
              apply hK
              clear hK K
              simp only [andThen, leaves]
              refine DWp.region fun K hK => ?_
              simp [-aBin', -aBin, -aBinI, -aUn, -aNil, -flatV, n_fn, b_add, b_sub, b_mul, b_lt, b_le, b_gt, b_ge, b_eq, b_ne, u_not, e3_3, e3_5, e3_7, e3_12, e3_13, e3_14, e3_18, e3_19, e3_20, e3_28, e3_29, e3_30]
              apply hK
              clear hK K
              simp only [andThen, leaves]
              have S53 := S49.pick [0, 1] (by decide) rfl
              exact ⟨n3, Nat.lt_succ_self _, (lapp l3_0 [((gat 0 (gat [] r1 y1_14) y2_20), (gat 0 (lsub (gat [] r1 y1_14) (iadd .i64 y2_20 1) (llen (gat [] r1 y1_14))) y3_30))]), (iadd .i64 y3_30 1), v52, hL34, S53, A50, by simp [e3_3, e3_5, e3_7, e3_12, e3_13, e3_14, e3_18, e3_19, e3_20, e3_28, e3_29, e3_30], by simp [e3_3, e3_5, e3_7, e3_12, e3_13, e3_14, e3_18, e3_19, e3_20, e3_28, e3_29, e3_30], by simp [e3_3, e3_5, e3_7, e3_12, e3_13, e3_14, e3_18, e3_19, e3_20, e3_28, e3_29, e3_30], by simp [e3_3, e3_5, e3_7, e3_12, e3_13, e3_14, e3_18, e3_19, e3_20, e3_28, e3_29, e3_30], by simp [e3_3, e3_5, e3_7, e3_12, e3_13, e3_14, e3_18, e3_19, e3_20, e3_28, e3_29, e3_30], by simp [e3_3, e3_5, e3_7, e3_12, e3_13, e3_14, e3_18, e3_19, e3_20, e3_28, e3_29, e3_30], by simp [e3_3, e3_5, e3_7, e3_12, e3_13, e3_14, e3_18, e3_19, e3_20, e3_28, e3_29, e3_30], by simp [e3_3, e3_5, e3_7, e3_12, e3_13, e3_14, e3_18, e3_19, e3_20, e3_28, e3_29, e3_30], by simp [e3_3, e3_5, e3_7, e3_12, e3_13, e3_14, e3_18, e3_19, e3_20, e3_28, e3_29, e3_30], by simp [e3_3, e3_5, e3_7, e3_12, e3_13, e3_14, e3_18, e3_19, e3_20, e3_28, e3_29, e3_30], by simp [e3_3, e3_5, e3_7, e3_12, e3_13, e3_14, e3_18, e3_19, e3_20, e3_28, e3_29, e3_30], by simp [e3_3, e3_5, e3_7, e3_12, e3_13, e3_14, e3_18, e3_19, e3_20, e3_28, e3_29, e3_30]⟩
            · replace hL34 := cd_f hb36 hL34
              refine DWp.exit ?_
              simp only [andThen, leaves, if_true, if_false, reduceIte, Nat.reduceEqDiff]
              obtain rfl := Option.some.inj hL34
              try dsimp only at hL24
              refine DWp.region fun K hK => ?_
              simp [-aBin', -aBin, -aBinI, -aUn, -aNil, -flatV, n_fn, b_add, b_sub, b_mul, b_lt, b_le, b_gt, b_ge, b_eq, b_ne, u_not, e3_3, e3_5, e3_7, e3_12, e3_13, e3_14, e3_18, e3_19, e3_20, e3_28, e3_29, e3_30]
              apply hK
              clear hK K
              simp only [andThen, leaves]
              have S54 := S3_.pick [0, 1] (by decide) rfl
              exact ⟨n2, Nat.lt_succ_self _, l3_0, (iadd .i64 y2_20 1), w3_0, hL24, S54, A3_, by simp [e3_3, e3_5, e3_7, e3_12, e3_13, e3_14, e3_18, e3_19, e3_20, e3_28, e3_29, e3_30], by simp [e3_3, e3_5, e3_7, e3_12, e3_13, e3_14, e3_18, e3_19, e3_20, e3_28, e3_29, e3_30], by simp [e3_3, e3_5, e3_7, e3_12, e3_13, e3_14, e3_18, e3_19, e3_20, e3_28, e3_29, e3_30], by simp [e3_3, e3_5, e3_7, e3_12, e3_13, e3_14, e3_18, e3_19, e3_20, e3_28, e3_29, e3_30], by simp [e3_3, e3_5, e3_7, e3_12, e3_13, e3_14, e3_18, e3_19, e3_20, e3_28, e3_29, e3_30], by simp [e3_3, e3_5, e3_7, e3_12, e3_13, e3_14, e3_18, e3_19, e3_20, e3_28, e3_29, e3_30], by simp [e3_3, e3_5, e3_7, e3_12, e3_13, e3_14, e3_18, e3_19, e3_20, e3_28, e3_29, e3_30], by simp [e3_3, e3_5, e3_7, e3_12, e3_13, e3_14, e3_18, e3_19, e3_20, e3_28, e3_29, e3_30]⟩
        · replace hL24 := cd_f hb26 hL24
          refine DWp.exit ?_
          simp only [andThen, leaves, if_true, if_false, reduceIte, Nat.reduceEqDiff]
          obtain rfl := Option.some.inj hL24
          try dsimp only at hL16
          refine DWp.region fun K hK => ?_
          simp [-aBin', -aBin, -aBinI, -aUn, -aNil, -flatV, n_fn, b_add, b_sub, b_mul, b_lt, b_le, b_gt, b_ge, b_eq, b_ne, u_not, e2_3, e2_5, e2_12, e2_13, e2_14, e2_18, e2_19, e2_20]
          apply hK
          clear hK K
          simp only [andThen, leaves]
          have S55 := S2_.pick [0, 1] (by decide) rfl
          exact ⟨n1, Nat.lt_succ_self _, l2_0, (iadd .i64 y1_14 1), w2_0, hL16, S55, A2_, by simp [e2_3, e2_5, e2_12, e2_13, e2_14, e2_18, e2_19, e2_20], by simp [e2_3, e2_5, e2_12, e2_13, e2_14, e2_18, e2_19, e2_20], by simp [e2_3, e2_5, e2_12, e2_13, e2_14, e2_18, e2_19, e2_20], by simp [e2_3, e2_5, e2_12, e2_13, e2_14, e2_18, e2_19, e2_20]⟩
    · replace hL16 := cd_f hb18 hL16
      refine DWp.exit ?_
      simp only [andThen, leaves, if_true, if_false, reduceIte, Nat.reduceEqDiff]
      obtain rfl := Option.some.inj hL16
      try dsimp only at hF
      refine DWp.seq ?_
      obtain ⟨r2, hc57, hF⟩ := bd_some hF
      refine DWp.region fun K hK => ?_
      simp [-aBin', -aBin, -aBinI, -aUn, -aNil, -flatV, n_fn, b_add, b_sub, b_mul, b_lt, b_le, b_gt, b_ge, b_eq, b_ne, u_not, e1_3, e1_12, e1_13, e1_14, ((S1_.slI (k := 0) rfl).tup)]
      have S58 : Sep G1_ (Fr H) ([flatI w1_0 62 l1_0] ++ [rowsC c8_u0 22 3 c8_C0 (List.map ints r1)]) := S1_.pick [0, 1] (by decide) rfl
      obtain ⟨B64, S59, U60, M61, R62, C63⟩ := S58.frame (hB.le A1_.1)
      refine CallD.t (F_slices_SortFunc_S_2_int_w (fu := fu) U60 S59 (fun G_ a_ y0_0 y0_1 y1_0 y1_1 q_ hq_ => F_impl_couples_1_w (fu := fu)  hq_) hc57) ?_
      rintro _ G66 ⟨a69, rfl, S70⟩
      have A68 := A1_.trans (a69.mono M61)
      have S67 : Sep G66 (Fr H) [flatI w1_0 62 r2, rowsC c8_u0 22 3 c8_C0 (List.map ints r1)] := C63 _ _ a69 S70
      simp [-aBin', -aBin, -aBinI, -aUn, -aNil, -flatV, n_fn, b_add, b_sub, b_mul, b_lt, b_le, b_gt, b_ge, b_eq, b_ne, u_not, e1_3, e1_12, e1_13, e1_14]
      apply hK
      clear hK K
      simp only [andThen, leaves]
      refine DWp.seq ?_
      refine DWp.region fun K hK => ?_
      simp [-aBin', -aBin, -aBinI, -aUn, -aNil, -flatV, n_fn, b_add, b_sub, b_mul, b_lt, b_le, b_gt, b_ge, b_eq, b_ne, u_not, e1_3, e1_12, e1_13, e1_14]
      apply hK
      clear hK K
      simp only [andThen, leaves]
      refine DWp.ret ?_
      obtain rfl := Option.some.inj hF
      exact ⟨by simp, [w1_0], by simp [e1_3, e1_12, e1_13, e1_14, ((S67.slI (k := 0) rfl).tup)], A68, w1_0, rfl, S67.pick [0] (by decide) rfl⟩
end Go.Proofs.Ytdghlhdpcmemjaa.AL

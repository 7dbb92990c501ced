/- The walks of functions, each with its Lean function: slices.siftDownCmpFunc[[]int], slices.heapSortCmpFunc[[]int], slices.breakPatternsCmpFunc[[]int], slices.order2CmpFunc[[]int], slices.medianCmpFunc[[]int], slices.medianAdjacentCmpFunc[[]int], slices.choosePivotCmpFunc[[]int], slices.reverseRangeCmpFunc[[]int], slices.partialInsertionSortCmpFunc[[]int], slices.partitionEqualCmpFunc[[]int]. No condition. -/
import Derived.Test.YtdghlhdpcmemjaaFBD
import Derived.Test.YtdghlhdpcmemjaaFBE
import Derived.Test.YtdghlhdpcmemjaaG1
import Derived.Test.YtdghlhdpcmemjaaG2
import Derived.Test.YtdghlhdpcmemjaaG3
import Derived.Test.YtdghlhdpcmemjaaG4
import Derived.Test.YtdghlhdpcmemjaaG5
import Derived.Test.YtdghlhdpcmemjaaALD
import Derived.Test.YtdghlhdpcmemjaaProg
import Derived.KernelRfl
namespace Go.Proofs.Ytdghlhdpcmemjaa.AL
open Go Go.RowKit
set_option linter.unusedVariables false
set_option linter.unusedSimpArgs false
set_option maxRecDepth 4096

def F_slices_siftDownCmpFunc_Sint_L1 (fu : Nat) (k1_0 : Int) (k1_1 : Int) (k1_2 : ((List Int) → (List Int) → Option (Int))) : Nat → List (List Int) → Int → Option (LR (List (List Int)) (List (List Int) × Int))
  | 0, _, _ => none
  | n + 1, l1_0, y1_10 =>
    bif (ile k1_0 (iadd .i64 (imul .i64 2 y1_10) 1)) then
      some (.brk (l1_0, y1_10))
    else
      bd (
        bif (ilt (iadd .i64 (iadd .i64 (imul .i64 2 y1_10) 1) 1) k1_0) then
          gd (inL l1_0 (iadd .i64 k1_1 (iadd .i64 (imul .i64 2 y1_10) 1))) (
          gd (inL l1_0 (iadd .i64 (iadd .i64 k1_1 (iadd .i64 (imul .i64 2 y1_10) 1)) 1)) (
          bd (k1_2 (gat [] l1_0 (iadd .i64 k1_1 (iadd .i64 (imul .i64 2 y1_10) 1))) (gat [] l1_0 (iadd .i64 (iadd .i64 k1_1 (iadd .i64 (imul .i64 2 y1_10) 1)) 1))) fun r1 =>
          bif (ilt r1 0) then
            some (iadd .i64 (iadd .i64 (imul .i64 2 y1_10) 1) 1)
          else
            some (iadd .i64 (imul .i64 2 y1_10) 1)))
        else
          some (iadd .i64 (imul .i64 2 y1_10) 1)) fun s5 =>
      gd (inL l1_0 (iadd .i64 k1_1 y1_10)) (
      gd (inL l1_0 (iadd .i64 k1_1 s5)) (
      bd (k1_2 (gat [] l1_0 (iadd .i64 k1_1 y1_10)) (gat [] l1_0 (iadd .i64 k1_1 s5))) fun r2 =>
      bif (bnot (ilt r2 0)) then
        some (.ret l1_0)
      else
        gd (inL l1_0 (iadd .i64 k1_1 s5)) (
        gd (inL l1_0 (iadd .i64 k1_1 y1_10)) (
        gd (inL l1_0 (iadd .i64 k1_1 y1_10)) (
        gd (inL l1_0 (iadd .i64 k1_1 s5)) (
        F_slices_siftDownCmpFunc_Sint_L1 fu k1_0 k1_1 k1_2 n (lset (lset l1_0 (iadd .i64 k1_1 y1_10) (gat [] l1_0 (iadd .i64 k1_1 s5))) (iadd .i64 k1_1 s5) (gat [] l1_0 (iadd .i64 k1_1 y1_10))) s5))))))
def F_slices_siftDownCmpFunc_Sint (fu : Nat) (x0 : List (List Int)) (x1 : Int) (x2 : Int) (x3 : Int) (x4 : (List Int) → (List Int) → Option (Int)) : Option (List (List Int)) :=
  bd (F_slices_siftDownCmpFunc_Sint_L1 fu x2 x3 x4 fu x0 x1) fun s1 =>
  lr s1 fun s1 =>
  some s1.1
theorem F_slices_siftDownCmpFunc_Sint_w {fu : Nat} {H : AH} {B : Nat → Prop} {v0 : Value} {C0 : List Value} {f4 : FuncId} {c4 : List Value} {x0 : List (List Int)} {x1 : Int} {x2 : Int} {x3 : Int} {x4 : (List Int) → (List Int) → Option (Int)} {r : (List (List Int))} (hB : Up B H.length) (S0 : Sep H B [rowsC v0 22 3 C0 (List.map ints x0)]) (hx4 : ∀ (G : AH), AgB B H G → ∀ (v0 : Value) (v1 : Value) (y0 : List Int) (y1 : List Int) (q : (Int)), Sl G v0 (ints y0) → Sl G v1 (ints y1) → x4 y0 y1 = some q → ACallT Try.prog f4 ([v0, v1] ++ c4) G (fun u G' => AgB (Fr G) G G' ∧ u = (Value.int .i64 q) ∧ Sep G' (Fr G) [])) (hF : F_slices_siftDownCmpFunc_Sint fu x0 x1 x2 x3 x4 = some r) :
    ACallT Try.prog 148 [v0, (Value.int .i64 x1), (Value.int .i64 x2), (Value.int .i64 x3), (Value.func (.func f4) #[] c4.toArray)] H (fun u G => AgB B H G ∧ ∃ Cz0 : List Value, u = (Value.tuple #[]) ∧ Sep G B [rowsC v0 22 3 Cz0 (List.map ints r)]) := by
  refine ACallT.of_body (nt := 82) (rs := []) Try.func148 rfl rfl rfl rfl ?_
  have A0 : AgB B H H := .refl _ _
  unfold F_slices_siftDownCmpFunc_Sint at hF
  refine DWp.seq ?_
  refine DWp.region fun K hK => ?_
  simp [-aBin', -aBin, -aBinI, -aUn, -aNil, -flatV, n_fn, b_add, b_sub, b_mul, b_lt, b_le, b_gt, b_ge, b_eq, b_ne, u_not]
  apply hK
  clear hK K
  simp only [andThen, leaves]
  refine DWp.block ?_
  obtain ⟨s1, hL2, hF⟩ := bd_some hF
  have S3 := S0.pick [0] (by decide) rfl
  refine DWp.loop (fun n env G => ∃ l1_0 : List (List Int), ∃ y1_10 : Int, ∃ D1_0 : List Value, F_slices_siftDownCmpFunc_Sint_L1 fu x2 x3 x4 n l1_0 y1_10 = some s1 ∧ Sep G B [rowsC v0 22 3 D1_0 (List.map ints l1_0)] ∧ AgB B H G ∧ env 0 = some v0 ∧ env 2 = some (Value.int .i64 x2) ∧ env 3 = some (Value.int .i64 x3) ∧ env 4 = some (Value.func (.func f4) #[] c4.toArray) ∧ env 10 = some (Value.int .i64 y1_10)) fu ⟨x0, x1, C0, hL2, S3, A0, by simp [], by simp [], by simp [], by simp [], by simp []⟩ ?_
  rintro n1 env1 G1_ ⟨l1_0, y1_10, D1_0, hL2, S1_, A1_, e1_0, e1_2, e1_3, e1_4, e1_10⟩
  cases n1 with
  | zero => cases hL2
  | succ n1 =>
    simp only [F_slices_siftDownCmpFunc_Sint_L1] at hL2
    refine DWp.block ?_
    refine DWp.seq ?_
    refine DWp.region fun K hK => ?_
    simp [-aBin', -aBin, -aBinI, -aUn, -aNil, -flatV, n_fn, b_add, b_sub, b_mul, b_lt, b_le, b_gt, b_ge, b_eq, b_ne, u_not, e1_0, e1_2, e1_3, e1_4, e1_10]
    apply hK
    clear hK K
    simp only [andThen, leaves]
    refine DWp.seq ?_
    refine DWp.seq ?_
    refine DWp.region fun K hK => ?_
    simp [-aBin', -aBin, -aBinI, -aUn, -aNil, -flatV, n_fn, b_add, b_sub, b_mul, b_lt, b_le, b_gt, b_ge, b_eq, b_ne, u_not, e1_0, e1_2, e1_3, e1_4, e1_10]
    apply hK
    clear hK K
    simp only [andThen, leaves]
    refine DWp.cond' (t := (ile x2 (iadd .i64 (imul .i64 2 y1_10) 1))) (by simp [e1_0, e1_2, e1_3, e1_4, e1_10]) (fun hb4 => ?_) (fun hb4 => ?_)
    · replace hL2 := cd_t hb4 hL2
      refine DWp.exit ?_
      simp only [andThen, leaves, if_true, if_false, reduceIte, Nat.reduceEqDiff]
      obtain rfl := Option.some.inj hL2
      simp only [lr] at hF
      obtain rfl := Option.some.inj hF
      exact ⟨by simp, [], by simp [e1_0, e1_2, e1_3, e1_4, e1_10], A1_, D1_0, rfl, S1_.pick [0] (by decide) rfl⟩
    · replace hL2 := cd_f hb4 hL2
      refine DWp.skip ?_
      simp only [andThen, leaves]
      obtain ⟨s5, hL6, hL2⟩ := bd_some hL2
      refine DWp.seq (DWp.join (fun env G => Sep G B [rowsC v0 22 3 D1_0 (List.map ints l1_0)] ∧ AgB B H G ∧ env 0 = some v0 ∧ env 2 = some (Value.int .i64 x2) ∧ env 3 = some (Value.int .i64 x3) ∧ env 4 = some (Value.func (.func f4) #[] c4.toArray) ∧ env 10 = some (Value.int .i64 y1_10) ∧ env 11 = some (Value.int .i64 s5)) ?_ ?_)
      ·
        refine DWp.seq ?_
        rcases Bool.eq_false_or_eq_true (ilt (iadd .i64 (iadd .i64 (imul .i64 2 y1_10) 1) 1) x2) with hb8 | hb8
        · replace hL6 := cd_t hb8 hL6
          obtain ⟨g9, hL6⟩ := gd_some hL6
          have q10 := (S1_.rd (k := 0) rfl).idxG (P := Try.prog) (kk := .i64) el_23 sz_22 g9
          have q11 := (S1_.rd (k := 0) rfl).loadG (P := Try.prog) sz_22 ag_22 g9
          obtain ⟨g12, hL6⟩ := gd_some hL6
          have q13 := (S1_.rd (k := 0) rfl).idxG (P := Try.prog) (kk := .i64) el_23 sz_22 g12
          have q14 := (S1_.rd (k := 0) rfl).loadG (P := Try.prog) sz_22 ag_22 g12
          obtain ⟨r1, hc15, hL6⟩ := bd_some hL6
          refine DWp.drawn (B := [0, 1, 0, 7, 15, 31, 31, 31, 31, 415, 991, 2015, 31, 31, 31, 24607, 57375, 127007, 258079, 524287, 1048575, 2097151]) 22 mixed (by kernel_rfl) (by decide) fun K hK => ?_
          simp [-aBin', -aBin, -aBinI, -aUn, -aNil, -flatV, n_fn, b_add, b_sub, b_mul, b_lt, b_le, b_gt, b_ge, b_eq, b_ne, u_not, e1_0, e1_2, e1_3, e1_4, e1_10, hb8, q10, q11, q13, q14, (((S1_.rd (k := 0) rfl).rowAt [] g9).tup), (((S1_.rd (k := 0) rfl).rowAt [] g12).tup)]
          refine CallD.t (hx4 _ A1_ (gat nilV D1_0 (iadd .i64 x3 (iadd .i64 (imul .i64 2 y1_10) 1))) (gat nilV D1_0 (iadd .i64 (iadd .i64 x3 (iadd .i64 (imul .i64 2 y1_10) 1)) 1)) (gat [] l1_0 (iadd .i64 x3 (iadd .i64 (imul .i64 2 y1_10) 1))) (gat [] l1_0 (iadd .i64 (iadd .i64 x3 (iadd .i64 (imul .i64 2 y1_10) 1)) 1)) _ ((S1_.rd (k := 0) rfl).rowAt [] g9) ((S1_.rd (k := 0) rfl).rowAt [] g12) hc15) ?_
          rintro _ G16 ⟨a19, rfl, S20⟩
          have A18 := A1_.ext (hB.le A1_.1) a19.agree
          have S17 : Sep G16 B [rowsC v0 22 3 D1_0 (List.map ints l1_0)] := S1_.agree a19.agree
          simp [-aBin', -aBin, -aBinI, -aUn, -aNil, -flatV, n_fn, b_add, b_sub, b_mul, b_lt, b_le, b_gt, b_ge, b_eq, b_ne, u_not, e1_0, e1_2, e1_3, e1_4, e1_10, hb8, q10, q11, q13, q14, a19.pre]
          apply hK
          clear hK K
          simp only [andThen, leaves]
          refine DWp.cond' (t := (ilt r1 0)) (by simp [e1_0, e1_2, e1_3, e1_4, e1_10]) (fun hb21 => ?_) (fun hb21 => ?_)
          · replace hL6 := cd_t hb21 hL6
            refine DWp.region fun K hK => ?_
            simp [-aBin', -aBin, -aBinI, -aUn, -aNil, -flatV, n_fn, b_add, b_sub, b_mul, b_lt, b_le, b_gt, b_ge, b_eq, b_ne, u_not, e1_0, e1_2, e1_3, e1_4, e1_10]
            apply hK
            clear hK K
            simp only [andThen, leaves]
            have S22 := S17.pick [0] (by decide) rfl
            obtain rfl := Option.some.inj hL6
            exact ⟨S22, A18, by simp [e1_0, e1_2, e1_3, e1_4, e1_10], by simp [e1_0, e1_2, e1_3, e1_4, e1_10], by simp [e1_0, e1_2, e1_3, e1_4, e1_10], by simp [e1_0, e1_2, e1_3, e1_4, e1_10], by simp [e1_0, e1_2, e1_3, e1_4, e1_10], by simp [e1_0, e1_2, e1_3, e1_4, e1_10]⟩
          · replace hL6 := cd_f hb21 hL6
            refine DWp.skip ?_
            simp only [andThen, leaves]
            have S23 := S17.pick [0] (by decide) rfl
            obtain rfl := Option.some.inj hL6
            exact ⟨S23, A18, by simp [e1_0, e1_2, e1_3, e1_4, e1_10], by simp [e1_0, e1_2, e1_3, e1_4, e1_10], by simp [e1_0, e1_2, e1_3, e1_4, e1_10], by simp [e1_0, e1_2, e1_3, e1_4, e1_10], by simp [e1_0, e1_2, e1_3, e1_4, e1_10], by simp [e1_0, e1_2, e1_3, e1_4, e1_10]⟩
        · replace hL6 := cd_f hb8 hL6
          refine DWp.drawn (B := [0, 1, 0, 7, 15, 31, 31, 31, 31, 415, 991, 2015, 31, 31, 31, 24607, 57375, 127007, 258079, 524287, 1048575, 2097151]) 22 mixed (by kernel_rfl) (by decide) fun K hK => ?_
          simp [-aBin', -aBin, -aBinI, -aUn, -aNil, -flatV, n_fn, b_add, b_sub, b_mul, b_lt, b_le, b_gt, b_ge, b_eq, b_ne, u_not, e1_0, e1_2, e1_3, e1_4, e1_10, hb8]
          apply hK
          clear hK K
          simp only [andThen, leaves]
          refine DWp.cf (by simp [e1_0, e1_2, e1_3, e1_4, e1_10, bnot]) ?_
          refine DWp.skip ?_
          simp only [andThen, leaves]
          have S24 := S1_.pick [0] (by decide) rfl
          obtain rfl := Option.some.inj hL6
          exact ⟨S24, A1_, by simp [e1_0, e1_2, e1_3, e1_4, e1_10], by simp [e1_0, e1_2, e1_3, e1_4, e1_10], by simp [e1_0, e1_2, e1_3, e1_4, e1_10], by simp [e1_0, e1_2, e1_3, e1_4, e1_10], by simp [e1_0, e1_2, e1_3, e1_4, e1_10], by simp [e1_0, e1_2, e1_3, e1_4, e1_10]⟩
      · rintro env Gj25 ⟨Sj25, Aj25, ej25_0, ej25_2, ej25_3, ej25_4, ej25_10, ej25_11⟩
        refine DWp.seq ?_
        refine DWp.seq ?_
        obtain ⟨g26, hL2⟩ := gd_some hL2
        have q27 := (Sj25.rd (k := 0) rfl).idxG (P := Try.prog) (kk := .i64) el_23 sz_22 g26
        have q28 := (Sj25.rd (k := 0) rfl).loadG (P := Try.prog) sz_22 ag_22 g26
        obtain ⟨g29, hL2⟩ := gd_some hL2
        have q30 := (Sj25.rd (k := 0) rfl).idxG (P := Try.prog) (kk := .i64) el_23 sz_22 g29
        have q31 := (Sj25.rd (k := 0) rfl).loadG (P := Try.prog) sz_22 ag_22 g29
        obtain ⟨r2, hc32, hL2⟩ := bd_some hL2
        refine DWp.drawn (B := [0, 0, 0, 0, 12, 30, 62, 0, 0, 0, 768, 1920, 3968, 8191, 16383, 32767]) 16 mixed (by kernel_rfl) (by decide) fun K hK => ?_
        simp [-aBin', -aBin, -aBinI, -aUn, -aNil, -flatV, n_fn, b_add, b_sub, b_mul, b_lt, b_le, b_gt, b_ge, b_eq, b_ne, u_not, ej25_0, ej25_2, ej25_3, ej25_4, ej25_10, ej25_11, q27, q28, q30, q31, (((Sj25.rd (k := 0) rfl).rowAt [] g26).tup), (((Sj25.rd (k := 0) rfl).rowAt [] g29).tup)]
        refine CallD.t (hx4 _ Aj25 (gat nilV D1_0 (iadd .i64 x3 y1_10)) (gat nilV D1_0 (iadd .i64 x3 s5)) (gat [] l1_0 (iadd .i64 x3 y1_10)) (gat [] l1_0 (iadd .i64 x3 s5)) _ ((Sj25.rd (k := 0) rfl).rowAt [] g26) ((Sj25.rd (k := 0) rfl).rowAt [] g29) hc32) ?_
        rintro _ G33 ⟨a36, rfl, S37⟩
        have A35 := Aj25.ext (hB.le Aj25.1) a36.agree
        have S34 : Sep G33 B [rowsC v0 22 3 D1_0 (List.map ints l1_0)] := Sj25.agree a36.agree
        simp [-aBin', -aBin, -aBinI, -aUn, -aNil, -flatV, n_fn, b_add, b_sub, b_mul, b_lt, b_le, b_gt, b_ge, b_eq, b_ne, u_not, ej25_0, ej25_2, ej25_3, ej25_4, ej25_10, ej25_11, q27, q28, q30, q31, a36.pre]
        apply hK
        clear hK K
        simp only [andThen, leaves]
        refine DWp.cond' (t := (bnot (ilt r2 0))) (by simp [ej25_0, ej25_2, ej25_3, ej25_4, ej25_10, ej25_11]) (fun hb38 => ?_) (fun hb38 => ?_)
        · replace hL2 := cd_t hb38 hL2
          refine DWp.ret ?_
          simp only [andThen, leaves]
          obtain rfl := Option.some.inj hL2
          simp only [lr] at hF
          obtain rfl := Option.some.inj hF
          exact ⟨by simp, [], by simp [ej25_0, ej25_2, ej25_3, ej25_4, ej25_10, ej25_11], A35, D1_0, rfl, S34.pick [0] (by decide) rfl⟩
        · replace hL2 := cd_f hb38 hL2
          refine DWp.skip ?_
          simp only [andThen, leaves]
          refine DWp.seq ?_
          obtain ⟨g39, hL2⟩ := gd_some hL2
          have q40 := (S34.rd (k := 0) rfl).idxG (P := Try.prog) (kk := .i64) el_23 sz_22 g39
          have q41 := (S34.rd (k := 0) rfl).loadG (P := Try.prog) sz_22 ag_22 g39
          obtain ⟨g42, hL2⟩ := gd_some hL2
          have q43 := (S34.rd (k := 0) rfl).idxG (P := Try.prog) (kk := .i64) el_23 sz_22 g42
          have q44 := (S34.rd (k := 0) rfl).loadG (P := Try.prog) sz_22 ag_22 g42
          obtain ⟨g45, hL2⟩ := gd_some hL2
          have q46 := (S34.rd (k := 0) rfl).idxG (P := Try.prog) (kk := .i64) el_23 sz_22 g45
          obtain ⟨G52, q53, S54, a56⟩ := S34.swap1 (fr := ints) (P := Try.prog) (k := 0) [] rfl (hB.le A35.1) sz_22 g45 g39
          have A55 := A35.trans a56
          replace S54 : Sep G52 B [rowsS v0 22 3 (lset D1_0 (iadd .i64 x3 y1_10) (gat nilV D1_0 (iadd .i64 x3 s5))) D1_0 (List.map ints l1_0)] := S54
          obtain ⟨g57, hL2⟩ := gd_some hL2
          have q58 := S54.idxS (P := Try.prog) (ki := .i64) (kk := 0) rfl el_23 sz_22 g57
          obtain ⟨G64, q65, S66, a68⟩ := S54.swap2 (fr := ints) (P := Try.prog) (k := 0) [] rfl (hB.le A55.1) sz_22 g45 g39
          have A67 := A55.trans a68
          replace S66 : Sep G64 B [rowsC v0 22 3 (lset (lset D1_0 (iadd .i64 x3 y1_10) (gat nilV D1_0 (iadd .i64 x3 s5))) (iadd .i64 x3 s5) (gat nilV D1_0 (iadd .i64 x3 y1_10))) (List.map ints (lset (lset l1_0 (iadd .i64 x3 y1_10) (gat [] l1_0 (iadd .i64 x3 s5))) (iadd .i64 x3 s5) (gat [] l1_0 (iadd .i64 x3 y1_10))))] := S66
          refine DWp.drawn (B := [0, 0, 0, 6, 0, 0, 0, 96, 0, 0, 0, 1536, 3840, 7936, 0, 0, 0, 98304, 245760, 507904, 1048335, 2096911, 4194303, 8388607]) 21 mixed (by kernel_rfl) (by decide) fun K hK => ?_
          simp [-aBin', -aBin, -aBinI, -aUn, -aNil, -flatV, n_fn, b_add, b_sub, b_mul, b_lt, b_le, b_gt, b_ge, b_eq, b_ne, u_not, ej25_0, ej25_2, ej25_3, ej25_4, ej25_10, ej25_11, q40, q41, q43, q44, q46, (((S34.rd (k := 0) rfl).rowAt [] g39).tup), q53, q58, q65]
          apply hK
          clear hK K
          simp only [andThen, leaves]
          refine DWp.region fun K hK => ?_
          simp [-aBin', -aBin, -aBinI, -aUn, -aNil, -flatV, n_fn, b_add, b_sub, b_mul, b_lt, b_le, b_gt, b_ge, b_eq, b_ne, u_not, ej25_0, ej25_2, ej25_3, ej25_4, ej25_10, ej25_11]
          apply hK
          clear hK K
          simp only [andThen, leaves]
          have S69 := S66.pick [0] (by decide) rfl
          exact ⟨n1, Nat.lt_succ_self _, (lset (lset l1_0 (iadd .i64 x3 y1_10) (gat [] l1_0 (iadd .i64 x3 s5))) (iadd .i64 x3 s5) (gat [] l1_0 (iadd .i64 x3 y1_10))), s5, (lset (lset D1_0 (iadd .i64 x3 y1_10) (gat nilV D1_0 (iadd .i64 x3 s5))) (iadd .i64 x3 s5) (gat nilV D1_0 (iadd .i64 x3 y1_10))), hL2, S69, A67, by simp [ej25_0, ej25_2, ej25_3, ej25_4, ej25_10, ej25_11], by simp [ej25_0, ej25_2, ej25_3, ej25_4, ej25_10, ej25_11], by simp [ej25_0, ej25_2, ej25_3, ej25_4, ej25_10, ej25_11], by simp [ej25_0, ej25_2, ej25_3, ej25_4, ej25_10, ej25_11], by simp [ej25_0, ej25_2, ej25_3, ej25_4, ej25_10, ej25_11]⟩
def F_slices_heapSortCmpFunc_Sint_L2 (fu : Nat) (k2_0 : ((List Int) → (List Int) → Option (Int))) (k2_1 : Int) : Nat → List (List Int) → Int → Option (List (List Int) × Int)
  | 0, _, _ => none
  | n + 1, l2_0, y2_12 =>
    bif (ile 0 y2_12) then
      gd (inL l2_0 (iadd .i64 k2_1 y2_12)) (
      gd (inL l2_0 k2_1) (
      gd (inL l2_0 k2_1) (
      gd (inL l2_0 (iadd .i64 k2_1 y2_12)) (
      bd (F_slices_siftDownCmpFunc_Sint fu (lset (lset l2_0 k2_1 (gat [] l2_0 (iadd .i64 k2_1 y2_12))) (iadd .i64 k2_1 y2_12) (gat [] l2_0 k2_1)) 0 y2_12 k2_1 k2_0) fun r2 =>
      F_slices_heapSortCmpFunc_Sint_L2 fu k2_0 k2_1 n r2 (isub .i64 y2_12 1)))))
    else
      some (l2_0, y2_12)
def F_slices_heapSortCmpFunc_Sint_L1 (fu : Nat) (k1_0 : ((List Int) → (List Int) → Option (Int))) (k1_1 : Int) (k1_2 : Int) : Nat → List (List Int) → Int → Option (List (List Int) × Int)
  | 0, _, _ => none
  | n + 1, l1_0, y1_11 =>
    bif (ile 0 y1_11) then
      bd (F_slices_siftDownCmpFunc_Sint fu l1_0 y1_11 k1_2 k1_1 k1_0) fun r1 =>
      F_slices_heapSortCmpFunc_Sint_L1 fu k1_0 k1_1 k1_2 n r1 (isub .i64 y1_11 1)
    else
      some (l1_0, y1_11)
def F_slices_heapSortCmpFunc_Sint (fu : Nat) (x0 : List (List Int)) (x1 : Int) (x2 : Int) (x3 : (List Int) → (List Int) → Option (Int)) : Option (List (List Int)) :=
  bd (F_slices_heapSortCmpFunc_Sint_L1 fu x3 x1 (isub .i64 x2 x1) fu x0 (iquo .i64 (isub .i64 (isub .i64 x2 x1) 1) 2)) fun s1 =>
  bd (F_slices_heapSortCmpFunc_Sint_L2 fu x3 x1 fu s1.1 (isub .i64 (isub .i64 x2 x1) 1)) fun s2 =>
  some s2.1
theorem F_slices_heapSortCmpFunc_Sint_w {fu : Nat} {H : AH} {B : Nat → Prop} {v0 : Value} {C0 : List Value} {f3 : FuncId} {c3 : List Value} {x0 : List (List Int)} {x1 : Int} {x2 : Int} {x3 : (List Int) → (List Int) → Option (Int)} {r : (List (List Int))} (hB : Up B H.length) (S0 : Sep H B [rowsC v0 22 3 C0 (List.map ints x0)]) (hx3 : ∀ (G : AH), AgB B H G → ∀ (v0 : Value) (v1 : Value) (y0 : List Int) (y1 : List Int) (q : (Int)), Sl G v0 (ints y0) → Sl G v1 (ints y1) → x3 y0 y1 = some q → ACallT Try.prog f3 ([v0, v1] ++ c3) G (fun u G' => AgB (Fr G) G G' ∧ u = (Value.int .i64 q) ∧ Sep G' (Fr G) [])) (hF : F_slices_heapSortCmpFunc_Sint fu x0 x1 x2 x3 = some r) :
    ACallT Try.prog 134 [v0, (Value.int .i64 x1), (Value.int .i64 x2), (Value.func (.func f3) #[] c3.toArray)] H (fun u G => AgB B H G ∧ ∃ Cz0 : List Value, u = (Value.tuple #[]) ∧ Sep G B [rowsC v0 22 3 Cz0 (List.map ints r)]) := by
  refine ACallT.of_body (nt := 60) (rs := []) Try.func134 rfl rfl rfl rfl ?_
  have A0 : AgB B H H := .refl _ _
  unfold F_slices_heapSortCmpFunc_Sint at hF
  refine DWp.seq ?_
  refine DWp.region fun K hK => ?_
  simp [-aBin', -aBin, -aBinI, -aUn, -aNil, -flatV, n_fn, b_add, b_sub, b_mul, b_lt, b_le, b_gt, b_ge, b_eq, b_ne, u_not]
  apply hK
  clear hK K
  simp only [andThen, leaves]
  refine DWp.seq ?_
  refine DWp.region fun K hK => ?_
  simp [-aBin', -aBin, -aBinI, -aUn, -aNil, -flatV, n_fn, b_add, b_sub, b_mul, b_lt, b_le, b_gt, b_ge, b_eq, b_ne, u_not]
  apply hK
  clear hK K
  simp only [andThen, leaves]
  refine DWp.seq ?_
  refine DWp.region fun K hK => ?_
  simp [-aBin', -aBin, -aBinI, -aUn, -aNil, -flatV, n_fn, b_add, b_sub, b_mul, b_lt, b_le, b_gt, b_ge, b_eq, b_ne, u_not]
  apply hK
  clear hK K
  simp only [andThen, leaves]
  refine DWp.seq ?_
  refine DWp.seq ?_
  have g1 : (2 : Int) ≠ 0 := by decide
  refine DWp.region fun K hK => ?_
  simp [-aBin', -aBin, -aBinI, -aUn, -aNil, -flatV, n_fn, b_add, b_sub, b_mul, b_lt, b_le, b_gt, b_ge, b_eq, b_ne, u_not, b_quo g1]
  apply hK
  clear hK K
  simp only [andThen, leaves]
  refine DWp.block ?_
  obtain ⟨s2, hL3, hF⟩ := bd_some hF
  have S4 := S0.pick [0] (by decide) rfl
  refine DWp.loop (fun n env G => ∃ l1_0 : List (List Int), ∃ y1_11 : Int, ∃ D1_0 : List Value, F_slices_heapSortCmpFunc_Sint_L1 fu x3 x1 (isub .i64 x2 x1) n l1_0 y1_11 = some s2 ∧ Sep G B [rowsC v0 22 3 D1_0 (List.map ints l1_0)] ∧ AgB B H G ∧ env 0 = some v0 ∧ env 3 = some (Value.func (.func f3) #[] c3.toArray) ∧ env 8 = some (Value.int .i64 x1) ∧ env 9 = some (Value.int .i64 0) ∧ env 10 = some (Value.int .i64 (isub .i64 x2 x1)) ∧ env 11 = some (Value.int .i64 y1_11)) fu ⟨x0, (iquo .i64 (isub .i64 (isub .i64 x2 x1) 1) 2), C0, hL3, S4, A0, by simp [], by simp [], by simp [], by simp [], by simp [], by simp []⟩ ?_
  rintro n1 env1 G1_ ⟨l1_0, y1_11, D1_0, hL3, S1_, A1_, e1_0, e1_3, e1_8, e1_9, e1_10, e1_11⟩
  cases n1 with
  | zero => cases hL3
  | succ n1 =>
    simp only [F_slices_heapSortCmpFunc_Sint_L1] at hL3
    refine DWp.seq ?_
    refine DWp.seq ?_
    refine DWp.region fun K hK => ?_
    simp [-aBin', -aBin, -aBinI, -aUn, -aNil, -flatV, n_fn, b_add, b_sub, b_mul, b_lt, b_le, b_gt, b_ge, b_eq, b_ne, u_not, e1_0, e1_3, e1_8, e1_9, e1_10, e1_11]
    apply hK
    clear hK K
    simp only [andThen, leaves]
    refine DWp.cond' (t := (ile 0 y1_11)) (by simp [e1_0, e1_3, e1_8, e1_9, e1_10, e1_11]) (fun hb5 => ?_) (fun hb5 => ?_)
    · replace hL3 := cd_t hb5 hL3
      refine DWp.skip ?_
      simp only [andThen, leaves]
      refine DWp.seq ?_
      refine DWp.block ?_
      obtain ⟨r1, hc6, hL3⟩ := bd_some hL3
      refine DWp.region fun K hK => ?_
      simp [-aBin', -aBin, -aBinI, -aUn, -aNil, -flatV, n_fn, b_add, b_sub, b_mul, b_lt, b_le, b_gt, b_ge, b_eq, b_ne, u_not, e1_0, e1_3, e1_8, e1_9, e1_10, e1_11, ((S1_.rd (k := 0) rfl).tup)]
      have S7 : Sep G1_ B ([rowsC v0 22 3 D1_0 (List.map ints l1_0)] ++ []) := S1_.pick [0] (by decide) rfl
      obtain ⟨B13, S8, U9, M10, R11, C12⟩ := S7.frame (hB.le A1_.1)
      refine CallD.t (F_slices_siftDownCmpFunc_Sint_w (fu := fu) U9 S8 (fun G_ a_ => hx3 G_ (A1_.trans (a_.mono M10))) hc6) ?_
      rintro _ G15 ⟨a18, c14_Cz0, rfl, S19⟩
      have A17 := A1_.trans (a18.mono M10)
      have S16 : Sep G15 B [rowsC v0 22 3 c14_Cz0 (List.map ints r1)] := C12 _ _ a18 S19
      simp [-aBin', -aBin, -aBinI, -aUn, -aNil, -flatV, n_fn, b_add, b_sub, b_mul, b_lt, b_le, b_gt, b_ge, b_eq, b_ne, u_not, e1_0, e1_3, e1_8, e1_9, e1_10, e1_11]
      apply hK
      clear hK K
      simp only [andThen, leaves]
      refine DWp.region fun K hK => ?_
      simp [-aBin', -aBin, -aBinI, -aUn, -aNil, -flatV, n_fn, b_add, b_sub, b_mul, b_lt, b_le, b_gt, b_ge, b_eq, b_ne, u_not, e1_0, e1_3, e1_8, e1_9, e1_10, e1_11]
      apply hK
      clear hK K
      simp only [andThen, leaves]
      have S20 := S16.pick [0] (by decide) rfl
      exact ⟨n1, Nat.lt_succ_self _, r1, (isub .i64 y1_11 1), c14_Cz0, hL3, S20, A17, by simp [e1_0, e1_3, e1_8, e1_9, e1_10, e1_11], by simp [e1_0, e1_3, e1_8, e1_9, e1_10, e1_11], by simp [e1_0, e1_3, e1_8, e1_9, e1_10, e1_11], by simp [e1_0, e1_3, e1_8, e1_9, e1_10, e1_11], by simp [e1_0, e1_3, e1_8, e1_9, e1_10, e1_11], by simp [e1_0, e1_3, e1_8, e1_9, e1_10, e1_11]⟩
    · replace hL3 := cd_f hb5 hL3
      refine DWp.exit ?_
      simp only [andThen, leaves, if_true, if_false, reduceIte, Nat.reduceEqDiff]
      obtain rfl := Option.some.inj hL3
      try dsimp only at hF
      refine DWp.seq ?_
      refine DWp.region fun K hK => ?_
      simp [-aBin', -aBin, -aBinI, -aUn, -aNil, -flatV, n_fn, b_add, b_sub, b_mul, b_lt, b_le, b_gt, b_ge, b_eq, b_ne, u_not, e1_0, e1_3, e1_8, e1_9, e1_10, e1_11]
      apply hK
      clear hK K
      simp only [andThen, leaves]
      refine DWp.block ?_
      obtain ⟨s21, hL22, hF⟩ := bd_some hF
      have S23 := S1_.pick [0] (by decide) rfl
      refine DWp.loop (fun n env G => ∃ l2_0 : List (List Int), ∃ y2_12 : Int, ∃ D2_0 : List Value, F_slices_heapSortCmpFunc_Sint_L2 fu x3 x1 n l2_0 y2_12 = some s21 ∧ Sep G B [rowsC v0 22 3 D2_0 (List.map ints l2_0)] ∧ AgB B H G ∧ env 0 = some v0 ∧ env 3 = some (Value.func (.func f3) #[] c3.toArray) ∧ env 8 = some (Value.int .i64 x1) ∧ env 9 = some (Value.int .i64 0) ∧ env 12 = some (Value.int .i64 y2_12)) fu ⟨l1_0, (isub .i64 (isub .i64 x2 x1) 1), D1_0, hL22, S23, A1_, by simp [e1_0, e1_3, e1_8, e1_9, e1_10, e1_11], by simp [e1_0, e1_3, e1_8, e1_9, e1_10, e1_11], by simp [e1_0, e1_3, e1_8, e1_9, e1_10, e1_11], by simp [e1_0, e1_3, e1_8, e1_9, e1_10, e1_11], by simp [e1_0, e1_3, e1_8, e1_9, e1_10, e1_11]⟩ ?_
      rintro n1 env1 G1_ ⟨l2_0, y2_12, D2_0, hL22, S1_, A1_, e1_0, e1_3, e1_8, e1_9, e1_12⟩
      cases n1 with
      | zero => cases hL22
      | succ n1 =>
        simp only [F_slices_heapSortCmpFunc_Sint_L2] at hL22
        refine DWp.seq ?_
        refine DWp.seq ?_
        refine DWp.region fun K hK => ?_
        simp [-aBin', -aBin, -aBinI, -aUn, -aNil, -flatV, n_fn, b_add, b_sub, b_mul, b_lt, b_le, b_gt, b_ge, b_eq, b_ne, u_not, e1_0, e1_3, e1_8, e1_9, e1_12]
        apply hK
        clear hK K
        simp only [andThen, leaves]
        refine DWp.cond' (t := (ile 0 y2_12)) (by simp [e1_0, e1_3, e1_8, e1_9, e1_12]) (fun hb24 => ?_) (fun hb24 => ?_)
        · replace hL22 := cd_t hb24 hL22
          refine DWp.skip ?_
          simp only [andThen, leaves]
          refine DWp.seq ?_
          refine DWp.block ?_
          refine DWp.seq ?_
          obtain ⟨g25, hL22⟩ := gd_some hL22
          have q26 := (S1_.rd (k := 0) rfl).idxG (P := Try.prog) (kk := .i64) el_23 sz_22 g25
          have q27 := (S1_.rd (k := 0) rfl).loadG (P := Try.prog) sz_22 ag_22 g25
          obtain ⟨g28, hL22⟩ := gd_some hL22
          have q29 := (S1_.rd (k := 0) rfl).idxG (P := Try.prog) (kk := .i64) el_23 sz_22 g28
          have q30 := (S1_.rd (k := 0) rfl).loadG (P := Try.prog) sz_22 ag_22 g28
          obtain ⟨g31, hL22⟩ := gd_some hL22
          have q32 := (S1_.rd (k := 0) rfl).idxG (P := Try.prog) (kk := .i64) el_23 sz_22 g31
          obtain ⟨G38, q39, S40, a42⟩ := S1_.swap1 (fr := ints) (P := Try.prog) (k := 0) [] rfl (hB.le A1_.1) sz_22 g31 g25
          have A41 := A1_.trans a42
          replace S40 : Sep G38 B [rowsS v0 22 3 (lset D2_0 x1 (gat nilV D2_0 (iadd .i64 x1 y2_12))) D2_0 (List.map ints l2_0)] := S40
          obtain ⟨g43, hL22⟩ := gd_some hL22
          have q44 := S40.idxS (P := Try.prog) (ki := .i64) (kk := 0) rfl el_23 sz_22 g43
          obtain ⟨G50, q51, S52, a54⟩ := S40.swap2 (fr := ints) (P := Try.prog) (k := 0) [] rfl (hB.le A41.1) sz_22 g31 g25
          have A53 := A41.trans a54
          replace S52 : Sep G50 B [rowsC v0 22 3 (lset (lset D2_0 x1 (gat nilV D2_0 (iadd .i64 x1 y2_12))) (iadd .i64 x1 y2_12) (gat nilV D2_0 x1)) (List.map ints (lset (lset l2_0 x1 (gat [] l2_0 (iadd .i64 x1 y2_12))) (iadd .i64 x1 y2_12) (gat [] l2_0 x1)))] := S52
          refine DWp.drawn (B := [0, 0, 0, 0, 0, 24, 0, 0, 0, 384, 960, 1984, 0, 0, 12288, 28672, 65475, 131011, 262143, 524287]) 17 mixed (by kernel_rfl) (by decide) fun K hK => ?_
          simp [-aBin', -aBin, -aBinI, -aUn, -aNil, -flatV, n_fn, b_add, b_sub, b_mul, b_lt, b_le, b_gt, b_ge, b_eq, b_ne, u_not, e1_0, e1_3, e1_8, e1_9, e1_12, q26, q27, q29, q30, q32, (((S1_.rd (k := 0) rfl).rowAt [] g25).tup), q39, q44, q51]
          apply hK
          clear hK K
          simp only [andThen, leaves]
          obtain ⟨r2, hc55, hL22⟩ := bd_some hL22
          refine DWp.region fun K hK => ?_
          simp [-aBin', -aBin, -aBinI, -aUn, -aNil, -flatV, n_fn, b_add, b_sub, b_mul, b_lt, b_le, b_gt, b_ge, b_eq, b_ne, u_not, e1_0, e1_3, e1_8, e1_9, e1_12, ((S52.rd (k := 0) rfl).tup)]
          have S56 : Sep G50 B ([rowsC v0 22 3 (lset (lset D2_0 x1 (gat nilV D2_0 (iadd .i64 x1 y2_12))) (iadd .i64 x1 y2_12) (gat nilV D2_0 x1)) (List.map ints (lset (lset l2_0 x1 (gat [] l2_0 (iadd .i64 x1 y2_12))) (iadd .i64 x1 y2_12) (gat [] l2_0 x1)))] ++ []) := S52.pick [0] (by decide) rfl
          obtain ⟨B62, S57, U58, M59, R60, C61⟩ := S56.frame (hB.le A53.1)
          refine CallD.t (F_slices_siftDownCmpFunc_Sint_w (fu := fu) U58 S57 (fun G_ a_ => hx3 G_ (A53.trans (a_.mono M59))) hc55) ?_
          rintro _ G64 ⟨a67, c63_Cz0, rfl, S68⟩
          have A66 := A53.trans (a67.mono M59)
          have S65 : Sep G64 B [rowsC v0 22 3 c63_Cz0 (List.map ints r2)] := C61 _ _ a67 S68
          simp [-aBin', -aBin, -aBinI, -aUn, -aNil, -flatV, n_fn, b_add, b_sub, b_mul, b_lt, b_le, b_gt, b_ge, b_eq, b_ne, u_not, e1_0, e1_3, e1_8, e1_9, e1_12]
          apply hK
          clear hK K
          simp only [andThen, leaves]
          refine DWp.region fun K hK => ?_
          simp [-aBin', -aBin, -aBinI, -aUn, -aNil, -flatV, n_fn, b_add, b_sub, b_mul, b_lt, b_le, b_gt, b_ge, b_eq, b_ne, u_not, e1_0, e1_3, e1_8, e1_9, e1_12]
          apply hK
          clear hK K
          simp only [andThen, leaves]
          have S69 := S65.pick [0] (by decide) rfl
          exact ⟨n1, Nat.lt_succ_self _, r2, (isub .i64 y2_12 1), c63_Cz0, hL22, S69, A66, by simp [e1_0, e1_3, e1_8, e1_9, e1_12], by simp [e1_0, e1_3, e1_8, e1_9, e1_12], by simp [e1_0, e1_3, e1_8, e1_9, e1_12], by simp [e1_0, e1_3, e1_8, e1_9, e1_12], by simp [e1_0, e1_3, e1_8, e1_9, e1_12]⟩
        · replace hL22 := cd_f hb24 hL22
          refine DWp.exit ?_
          simp only [andThen, leaves, if_true, if_false, reduceIte, Nat.reduceEqDiff]
          obtain rfl := Option.some.inj hL22
          try dsimp only at hF
          obtain rfl := Option.some.inj hF
          exact ⟨by simp, [], by simp [e1_0, e1_3, e1_8, e1_9, e1_12], A1_, D2_0, rfl, S1_.pick [0] (by decide) rfl⟩
def F_slices_breakPatternsCmpFunc_Sint_L1 (fu : Nat) (k1_0 : Int) (k1_1 : Int) (k1_2 : Int) : Nat → List (List Int) → Int → Int → Option (List (List Int) × Int × Int)
  | 0, _, _, _ => none
  | n + 1, l1_0, b1_1_0, y1_11 =>
    bif (ile y1_11 (iadd .i64 (iadd .i64 k1_0 (imul .i64 (iquo .i64 k1_1 4) 2)) 1)) then
      bd (F_slices_xorshift_Next fu b1_1_0) fun r2 =>
      bif (ile k1_1 (iwr .i64 (iand .u64 r2.1 (isub .u64 k1_2 1)))) then
        gd (inL l1_0 (iadd .i64 k1_0 (isub .i64 (iwr .i64 (iand .u64 r2.1 (isub .u64 k1_2 1))) k1_1))) (
        gd (inL l1_0 y1_11) (
        gd (inL l1_0 y1_11) (
        gd (inL l1_0 (iadd .i64 k1_0 (isub .i64 (iwr .i64 (iand .u64 r2.1 (isub .u64 k1_2 1))) k1_1))) (
        F_slices_breakPatternsCmpFunc_Sint_L1 fu k1_0 k1_1 k1_2 n (lset (lset l1_0 y1_11 (gat [] l1_0 (iadd .i64 k1_0 (isub .i64 (iwr .i64 (iand .u64 r2.1 (isub .u64 k1_2 1))) k1_1)))) (iadd .i64 k1_0 (isub .i64 (iwr .i64 (iand .u64 r2.1 (isub .u64 k1_2 1))) k1_1)) (gat [] l1_0 y1_11)) r2.2 (iadd .i64 y1_11 1)))))
      else
        gd (inL l1_0 (iadd .i64 k1_0 (iwr .i64 (iand .u64 r2.1 (isub .u64 k1_2 1))))) (
        gd (inL l1_0 y1_11) (
        gd (inL l1_0 y1_11) (
        gd (inL l1_0 (iadd .i64 k1_0 (iwr .i64 (iand .u64 r2.1 (isub .u64 k1_2 1))))) (
        F_slices_breakPatternsCmpFunc_Sint_L1 fu k1_0 k1_1 k1_2 n (lset (lset l1_0 y1_11 (gat [] l1_0 (iadd .i64 k1_0 (iwr .i64 (iand .u64 r2.1 (isub .u64 k1_2 1)))))) (iadd .i64 k1_0 (iwr .i64 (iand .u64 r2.1 (isub .u64 k1_2 1)))) (gat [] l1_0 y1_11)) r2.2 (iadd .i64 y1_11 1)))))
    else
      some (l1_0, b1_1_0, y1_11)
def F_slices_breakPatternsCmpFunc_Sint (fu : Nat) (x0 : List (List Int)) (x1 : Int) (x2 : Int) (x3 : (List Int) → (List Int) → Option (Int)) : Option (List (List Int)) :=
  bif (ile 8 (isub .i64 x2 x1)) then
    bd (F_slices_nextPowerOfTwo fu (isub .i64 x2 x1)) fun r1 =>
    bd (F_slices_breakPatternsCmpFunc_Sint_L1 fu x1 (isub .i64 x2 x1) r1 fu x0 (iwr .u64 (isub .i64 x2 x1)) (isub .i64 (iadd .i64 x1 (imul .i64 (iquo .i64 (isub .i64 x2 x1) 4) 2)) 1)) fun s1 =>
    some s1.1
  else
    some x0
theorem F_slices_breakPatternsCmpFunc_Sint_w {fu : Nat} {H : AH} {B : Nat → Prop} {v0 : Value} {C0 : List Value} {f3 : FuncId} {c3 : List Value} {x0 : List (List Int)} {x1 : Int} {x2 : Int} {x3 : (List Int) → (List Int) → Option (Int)} {r : (List (List Int))} (hB : Up B H.length) (S0 : Sep H B [rowsC v0 22 3 C0 (List.map ints x0)]) (hx3 : ∀ (G : AH), AgB B H G → ∀ (v0 : Value) (v1 : Value) (y0 : List Int) (y1 : List Int) (q : (Int)), Sl G v0 (ints y0) → Sl G v1 (ints y1) → x3 y0 y1 = some q → ACallT Try.prog f3 ([v0, v1] ++ c3) G (fun u G' => AgB (Fr G) G G' ∧ u = (Value.int .i64 q) ∧ Sep G' (Fr G) [])) (hF : F_slices_breakPatternsCmpFunc_Sint fu x0 x1 x2 x3 = some r) :
    ACallT Try.prog 135 [v0, (Value.int .i64 x1), (Value.int .i64 x2), (Value.func (.func f3) #[] c3.toArray)] H (fun u G => AgB B H G ∧ ∃ Cz0 : List Value, u = (Value.tuple #[]) ∧ Sep G B [rowsC v0 22 3 Cz0 (List.map ints r)]) := by
  refine ACallT.of_body (nt := 67) (rs := []) Try.func135 rfl rfl rfl rfl ?_
  have A0 : AgB B H H := .refl _ _
  unfold F_slices_breakPatternsCmpFunc_Sint at hF
  refine DWp.seq ?_
  refine DWp.region fun K hK => ?_
  simp [-aBin', -aBin, -aBinI, -aUn, -aNil, -flatV, n_fn, b_add, b_sub, b_mul, b_lt, b_le, b_gt, b_ge, b_eq, b_ne, u_not]
  apply hK
  clear hK K
  simp only [andThen, leaves]
  refine DWp.seq ?_
  refine DWp.region fun K hK => ?_
  simp [-aBin', -aBin, -aBinI, -aUn, -aNil, -flatV, n_fn, b_add, b_sub, b_mul, b_lt, b_le, b_gt, b_ge, b_eq, b_ne, u_not]
  apply hK
  clear hK K
  simp only [andThen, leaves]
  refine DWp.cond' (t := (ile 8 (isub .i64 x2 x1))) (by simp []) (fun hb1 => ?_) (fun hb1 => ?_)
  · replace hF := cd_t hb1 hF
    refine DWp.seq ?_
    obtain ⟨G3, p5, q6, q8, a7, S2⟩ := S0.allocT (P := Try.prog) (hB.le A0.1) ze_119 rfl
    have A4 := A0.ext (hB.le A0.1) a7
    replace S2 : Sep G3 B [rowsC v0 22 3 C0 (List.map ints x0), AL.box p5 [(Value.int .u64 0)]] := S2
    obtain ⟨G9, q10, S11, a13⟩ := S2.put0 (P := Try.prog) (k := 1) rfl (hB.le A4.1) sz_119 (rfl : isTup (Value.int .u64 (iwr .u64 (isub .i64 x2 x1))) = false) (rfl : (Value.int .u64 (iwr .u64 (isub .i64 x2 x1))).cells = #[(Value.int .u64 (iwr .u64 (isub .i64 x2 x1)))])
    have A12 := A4.trans a13
    replace S11 : Sep G9 B [rowsC v0 22 3 C0 (List.map ints x0), AL.box p5 [(Value.int .u64 (iwr .u64 (isub .i64 x2 x1)))]] := S11
    refine DWp.region fun K hK => ?_
    simp [-aBin', -aBin, -aBinI, -aUn, -aNil, -flatV, n_fn, b_add, b_sub, b_mul, b_lt, b_le, b_gt, b_ge, b_eq, b_ne, u_not, c_int un_3 un_119, q6, q8, a7.to_pre, q10]
    apply hK
    clear hK K
    simp only [andThen, leaves]
    refine DWp.seq ?_
    obtain ⟨r1, hc14, hF⟩ := bd_some hF
    refine DWp.region fun K hK => ?_
    simp [-aBin', -aBin, -aBinI, -aUn, -aNil, -flatV, n_fn, b_add, b_sub, b_mul, b_lt, b_le, b_gt, b_ge, b_eq, b_ne, u_not]
    refine CallD.t (F_slices_nextPowerOfTwo_w (fu := fu)  hc14) ?_
    rintro _ G16 ⟨a19, rfl, S20⟩
    have A18 := A12.ext (hB.le A12.1) a19.agree
    have S17 : Sep G16 B [rowsC v0 22 3 C0 (List.map ints x0), AL.box p5 [(Value.int .u64 (iwr .u64 (isub .i64 x2 x1)))]] := S11.app a19.agree S20 (fun _ h => h) (hB.le A12.1)
    simp [-aBin', -aBin, -aBinI, -aUn, -aNil, -flatV, n_fn, b_add, b_sub, b_mul, b_lt, b_le, b_gt, b_ge, b_eq, b_ne, u_not, a19.pre]
    apply hK
    clear hK K
    simp only [andThen, leaves]
    refine DWp.seq ?_
    have g21 : (4 : Int) ≠ 0 := by decide
    refine DWp.region fun K hK => ?_
    simp [-aBin', -aBin, -aBinI, -aUn, -aNil, -flatV, n_fn, b_add, b_sub, b_mul, b_lt, b_le, b_gt, b_ge, b_eq, b_ne, u_not, b_quo g21]
    apply hK
    clear hK K
    simp only [andThen, leaves]
    refine DWp.block ?_
    obtain ⟨s22, hL23, hF⟩ := bd_some hF
    have S24 := S17.pick [0, 1] (by decide) rfl
    refine DWp.loop (fun n env G => ∃ l1_0 : List (List Int), ∃ b1_1_0 : Int, ∃ y1_11 : Int, ∃ D1_0 : List Value, F_slices_breakPatternsCmpFunc_Sint_L1 fu x1 (isub .i64 x2 x1) r1 n l1_0 b1_1_0 y1_11 = some s22 ∧ Sep G B [rowsC v0 22 3 D1_0 (List.map ints l1_0), AL.box p5 [(Value.int .u64 b1_1_0)]] ∧ AgB B H G ∧ env 0 = some v0 ∧ env 1 = some (Value.int .i64 x1) ∧ env 8 = some (Value.int .i64 (isub .i64 x2 x1)) ∧ env 9 = some p5 ∧ env 10 = some (Value.int .u64 r1) ∧ env 11 = some (Value.int .i64 y1_11)) fu ⟨x0, (iwr .u64 (isub .i64 x2 x1)), (isub .i64 (iadd .i64 x1 (imul .i64 (iquo .i64 (isub .i64 x2 x1) 4) 2)) 1), C0, hL23, S24, A18, by simp [], by simp [], by simp [], by simp [], by simp [], by simp []⟩ ?_
    rintro n1 env1 G1_ ⟨l1_0, b1_1_0, y1_11, D1_0, hL23, S1_, A1_, e1_0, e1_1, e1_8, e1_9, e1_10, e1_11⟩
    cases n1 with
    | zero => cases hL23
    | succ n1 =>
      simp only [F_slices_breakPatternsCmpFunc_Sint_L1] at hL23
      refine DWp.seq ?_
      refine DWp.seq ?_
      have g25 : (4 : Int) ≠ 0 := by decide
      refine DWp.region fun K hK => ?_
      simp [-aBin', -aBin, -aBinI, -aUn, -aNil, -flatV, n_fn, b_add, b_sub, b_mul, b_lt, b_le, b_gt, b_ge, b_eq, b_ne, u_not, e1_0, e1_1, e1_8, e1_9, e1_10, e1_11, b_quo g25]
      apply hK
      clear hK K
      simp only [andThen, leaves]
      refine DWp.cond' (t := (ile y1_11 (iadd .i64 (iadd .i64 x1 (imul .i64 (iquo .i64 (isub .i64 x2 x1) 4) 2)) 1))) (by simp [e1_0, e1_1, e1_8, e1_9, e1_10, e1_11]) (fun hb26 => ?_) (fun hb26 => ?_)
      · replace hL23 := cd_t hb26 hL23
        refine DWp.skip ?_
        simp only [andThen, leaves]
        refine DWp.seq ?_
        refine DWp.block ?_
        refine DWp.seq ?_
        obtain ⟨r2, hc27, hL23⟩ := bd_some hL23
        refine DWp.region fun K hK => ?_
        simp [-aBin', -aBin, -aBinI, -aUn, -aNil, -flatV, n_fn, b_add, b_sub, b_mul, b_lt, b_le, b_gt, b_ge, b_eq, b_ne, u_not, e1_0, e1_1, e1_8, e1_9, e1_10, e1_11, (S1_.ptup (k := 1) rfl)]
        have S28 : Sep G1_ B ([AL.box p5 [(Value.int .u64 b1_1_0)]] ++ [rowsC v0 22 3 D1_0 (List.map ints l1_0)]) := S1_.pick [1, 0] (by decide) rfl
        obtain ⟨B34, S29, U30, M31, R32, C33⟩ := S28.frame (hB.le A1_.1)
        refine CallD.t (F_slices_xorshift_Next_w (fu := fu) U30 S29 hc27) ?_
        rintro _ G36 ⟨a39, rfl, S40⟩
        have A38 := A1_.trans (a39.mono M31)
        have S37 : Sep G36 B [AL.box p5 [(Value.int .u64 r2.2)], rowsC v0 22 3 D1_0 (List.map ints l1_0)] := C33 _ _ a39 S40
        simp [-aBin', -aBin, -aBinI, -aUn, -aNil, -flatV, n_fn, b_add, b_sub, b_mul, b_lt, b_le, b_gt, b_ge, b_eq, b_ne, u_not, e1_0, e1_1, e1_8, e1_9, e1_10, e1_11, b_and, c_int un_93 un_3]
        apply hK
        clear hK K
        simp only [andThen, leaves]
        refine DWp.seq ?_
        refine DWp.seq ?_
        refine DWp.region fun K hK => ?_
        simp [-aBin', -aBin, -aBinI, -aUn, -aNil, -flatV, n_fn, b_add, b_sub, b_mul, b_lt, b_le, b_gt, b_ge, b_eq, b_ne, u_not, e1_0, e1_1, e1_8, e1_9, e1_10, e1_11]
        apply hK
        clear hK K
        simp only [andThen, leaves]
        refine DWp.cond' (t := (ile (isub .i64 x2 x1) (iwr .i64 (iand .u64 r2.1 (isub .u64 r1 1))))) (by simp [e1_0, e1_1, e1_8, e1_9, e1_10, e1_11]) (fun hb41 => ?_) (fun hb41 => ?_)
        · replace hL23 := cd_t hb41 hL23
          refine DWp.region fun K hK => ?_
          simp [-aBin', -aBin, -aBinI, -aUn, -aNil, -flatV, n_fn, b_add, b_sub, b_mul, b_lt, b_le, b_gt, b_ge, b_eq, b_ne, u_not, e1_0, e1_1, e1_8, e1_9, e1_10, e1_11]
          apply hK
          clear hK K
          simp only [andThen, leaves]
          obtain ⟨g42, hL23⟩ := gd_some hL23
          have q43 := (S37.rd (k := 1) rfl).idxG (P := Try.prog) (kk := .i64) el_23 sz_22 g42
          have q44 := (S37.rd (k := 1) rfl).loadG (P := Try.prog) sz_22 ag_22 g42
          obtain ⟨g45, hL23⟩ := gd_some hL23
          have q46 := (S37.rd (k := 1) rfl).idxG (P := Try.prog) (kk := .i64) el_23 sz_22 g45
          have q47 := (S37.rd (k := 1) rfl).loadG (P := Try.prog) sz_22 ag_22 g45
          obtain ⟨g48, hL23⟩ := gd_some hL23
          have q49 := (S37.rd (k := 1) rfl).idxG (P := Try.prog) (kk := .i64) el_23 sz_22 g48
          obtain ⟨G55, q56, S57, a59⟩ := S37.swap1 (fr := ints) (P := Try.prog) (k := 1) [] rfl (hB.le A38.1) sz_22 g48 g42
          have A58 := A38.trans a59
          replace S57 : Sep G55 B [AL.box p5 [(Value.int .u64 r2.2)], rowsS v0 22 3 (lset D1_0 y1_11 (gat nilV D1_0 (iadd .i64 x1 (isub .i64 (iwr .i64 (iand .u64 r2.1 (isub .u64 r1 1))) (isub .i64 x2 x1))))) D1_0 (List.map ints l1_0)] := S57
          obtain ⟨g60, hL23⟩ := gd_some hL23
          have q61 := S57.idxS (P := Try.prog) (ki := .i64) (kk := 1) rfl el_23 sz_22 g60
          obtain ⟨G67, q68, S69, a71⟩ := S57.swap2 (fr := ints) (P := Try.prog) (k := 1) [] rfl (hB.le A58.1) sz_22 g48 g42
          have A70 := A58.trans a71
          replace S69 : Sep G67 B [AL.box p5 [(Value.int .u64 r2.2)], rowsC v0 22 3 (lset (lset D1_0 y1_11 (gat nilV D1_0 (iadd .i64 x1 (isub .i64 (iwr .i64 (iand .u64 r2.1 (isub .u64 r1 1))) (isub .i64 x2 x1))))) (iadd .i64 x1 (isub .i64 (iwr .i64 (iand .u64 r2.1 (isub .u64 r1 1))) (isub .i64 x2 x1))) (gat nilV D1_0 y1_11)) (List.map ints (lset (lset l1_0 y1_11 (gat [] l1_0 (iadd .i64 x1 (isub .i64 (iwr .i64 (iand .u64 r2.1 (isub .u64 r1 1))) (isub .i64 x2 x1))))) (iadd .i64 x1 (isub .i64 (iwr .i64 (iand .u64 r2.1 (isub .u64 r1 1))) (isub .i64 x2 x1))) (gat [] l1_0 y1_11)))] := S69
          refine DWp.drawn (B := [0, 0, 0, 0, 0, 24, 0, 0, 0, 384, 960, 1984, 0, 0, 12288, 28672, 65475, 131011, 262143, 524287]) 17 mixed (by kernel_rfl) (by decide) fun K hK => ?_
          simp [-aBin', -aBin, -aBinI, -aUn, -aNil, -flatV, n_fn, b_add, b_sub, b_mul, b_lt, b_le, b_gt, b_ge, b_eq, b_ne, u_not, e1_0, e1_1, e1_8, e1_9, e1_10, e1_11, q43, q44, q46, q47, q49, (((S37.rd (k := 1) rfl).rowAt [] g42).tup), q56, q61, q68]
          apply hK
          clear hK K
          simp only [andThen, leaves]
          refine DWp.region fun K hK => ?_
          simp [-aBin', -aBin, -aBinI, -aUn, -aNil, -flatV, n_fn, b_add, b_sub, b_mul, b_lt, b_le, b_gt, b_ge, b_eq, b_ne, u_not, e1_0, e1_1, e1_8, e1_9, e1_10, e1_11]
          apply hK
          clear hK K
          simp only [andThen, leaves]
          have S72 := S69.pick [1, 0] (by decide) rfl
          exact ⟨n1, Nat.lt_succ_self _, (lset (lset l1_0 y1_11 (gat [] l1_0 (iadd .i64 x1 (isub .i64 (iwr .i64 (iand .u64 r2.1 (isub .u64 r1 1))) (isub .i64 x2 x1))))) (iadd .i64 x1 (isub .i64 (iwr .i64 (iand .u64 r2.1 (isub .u64 r1 1))) (isub .i64 x2 x1))) (gat [] l1_0 y1_11)), r2.2, (iadd .i64 y1_11 1), (lset (lset D1_0 y1_11 (gat nilV D1_0 (iadd .i64 x1 (isub .i64 (iwr .i64 (iand .u64 r2.1 (isub .u64 r1 1))) (isub .i64 x2 x1))))) (iadd .i64 x1 (isub .i64 (iwr .i64 (iand .u64 r2.1 (isub .u64 r1 1))) (isub .i64 x2 x1))) (gat nilV D1_0 y1_11)), hL23, S72, A70, by simp [e1_0, e1_1, e1_8, e1_9, e1_10, e1_11], by simp [e1_0, e1_1, e1_8, e1_9, e1_10, e1_11], by simp [e1_0, e1_1, e1_8, e1_9, e1_10, e1_11], by simp [e1_0, e1_1, e1_8, e1_9, e1_10, e1_11], by simp [e1_0, e1_1, e1_8, e1_9, e1_10, e1_11], by simp [e1_0, e1_1, e1_8, e1_9, e1_10, e1_11]⟩
        · replace hL23 := cd_f hb41 hL23
          refine DWp.skip ?_
          simp only [andThen, leaves]
          obtain ⟨g73, hL23⟩ := gd_some hL23
          have q74 := (S37.rd (k := 1) rfl).idxG (P := Try.prog) (kk := .i64) el_23 sz_22 g73
          have q75 := (S37.rd (k := 1) rfl).loadG (P := Try.prog) sz_22 ag_22 g73
          obtain ⟨g76, hL23⟩ := gd_some hL23
          have q77 := (S37.rd (k := 1) rfl).idxG (P := Try.prog) (kk := .i64) el_23 sz_22 g76
          have q78 := (S37.rd (k := 1) rfl).loadG (P := Try.prog) sz_22 ag_22 g76
          obtain ⟨g79, hL23⟩ := gd_some hL23
          have q80 := (S37.rd (k := 1) rfl).idxG (P := Try.prog) (kk := .i64) el_23 sz_22 g79
          obtain ⟨G86, q87, S88, a90⟩ := S37.swap1 (fr := ints) (P := Try.prog) (k := 1) [] rfl (hB.le A38.1) sz_22 g79 g73
          have A89 := A38.trans a90
          replace S88 : Sep G86 B [AL.box p5 [(Value.int .u64 r2.2)], rowsS v0 22 3 (lset D1_0 y1_11 (gat nilV D1_0 (iadd .i64 x1 (iwr .i64 (iand .u64 r2.1 (isub .u64 r1 1)))))) D1_0 (List.map ints l1_0)] := S88
          obtain ⟨g91, hL23⟩ := gd_some hL23
          have q92 := S88.idxS (P := Try.prog) (ki := .i64) (kk := 1) rfl el_23 sz_22 g91
          obtain ⟨G98, q99, S100, a102⟩ := S88.swap2 (fr := ints) (P := Try.prog) (k := 1) [] rfl (hB.le A89.1) sz_22 g79 g73
          have A101 := A89.trans a102
          replace S100 : Sep G98 B [AL.box p5 [(Value.int .u64 r2.2)], rowsC v0 22 3 (lset (lset D1_0 y1_11 (gat nilV D1_0 (iadd .i64 x1 (iwr .i64 (iand .u64 r2.1 (isub .u64 r1 1)))))) (iadd .i64 x1 (iwr .i64 (iand .u64 r2.1 (isub .u64 r1 1)))) (gat nilV D1_0 y1_11)) (List.map ints (lset (lset l1_0 y1_11 (gat [] l1_0 (iadd .i64 x1 (iwr .i64 (iand .u64 r2.1 (isub .u64 r1 1)))))) (iadd .i64 x1 (iwr .i64 (iand .u64 r2.1 (isub .u64 r1 1)))) (gat [] l1_0 y1_11)))] := S100
          refine DWp.drawn (B := [0, 0, 0, 0, 0, 24, 0, 0, 0, 384, 960, 1984, 0, 0, 12288, 28672, 65475, 131011, 262143, 524287]) 17 mixed (by kernel_rfl) (by decide) fun K hK => ?_
          simp [-aBin', -aBin, -aBinI, -aUn, -aNil, -flatV, n_fn, b_add, b_sub, b_mul, b_lt, b_le, b_gt, b_ge, b_eq, b_ne, u_not, e1_0, e1_1, e1_8, e1_9, e1_10, e1_11, q74, q75, q77, q78, q80, (((S37.rd (k := 1) rfl).rowAt [] g73).tup), q87, q92, q99]
          apply hK
          clear hK K
          simp only [andThen, leaves]
          refine DWp.region fun K hK => ?_
          simp [-aBin', -aBin, -aBinI, -aUn, -aNil, -flatV, n_fn, b_add, b_sub, b_mul, b_lt, b_le, b_gt, b_ge, b_eq, b_ne, u_not, e1_0, e1_1, e1_8, e1_9, e1_10, e1_11]
          apply hK
          clear hK K
          simp only [andThen, leaves]
          have S103 := S100.pick [1, 0] (by decide) rfl
          exact ⟨n1, Nat.lt_succ_self _, (lset (lset l1_0 y1_11 (gat [] l1_0 (iadd .i64 x1 (iwr .i64 (iand .u64 r2.1 (isub .u64 r1 1)))))) (iadd .i64 x1 (iwr .i64 (iand .u64 r2.1 (isub .u64 r1 1)))) (gat [] l1_0 y1_11)), r2.2, (iadd .i64 y1_11 1), (lset (lset D1_0 y1_11 (gat nilV D1_0 (iadd .i64 x1 (iwr .i64 (iand .u64 r2.1 (isub .u64 r1 1)))))) (iadd .i64 x1 (iwr .i64 (iand .u64 r2.1 (isub .u64 r1 1)))) (gat nilV D1_0 y1_11)), hL23, S103, A101, by simp [e1_0, e1_1, e1_8, e1_9, e1_10, e1_11], by simp [e1_0, e1_1, e1_8, e1_9, e1_10, e1_11], by simp [e1_0, e1_1, e1_8, e1_9, e1_10, e1_11], by simp [e1_0, e1_1, e1_8, e1_9, e1_10, e1_11], by simp [e1_0, e1_1, e1_8, e1_9, e1_10, e1_11], by simp [e1_0, e1_1, e1_8, e1_9, e1_10, e1_11]⟩
      · replace hL23 := cd_f hb26 hL23
        refine DWp.exit ?_
        simp only [andThen, leaves, if_true, if_false, reduceIte, Nat.reduceEqDiff]
        obtain rfl := Option.some.inj hL23
        try dsimp only at hF
        obtain rfl := Option.some.inj hF
        exact ⟨by simp, [], by simp [e1_0, e1_1, e1_8, e1_9, e1_10, e1_11], A1_, D1_0, rfl, S1_.pick [0] (by decide) rfl⟩
  · replace hF := cd_f hb1 hF
    refine DWp.skip ?_
    obtain rfl := Option.some.inj hF
    exact ⟨by simp, [], by simp [], A0, C0, rfl, S0.pick [0] (by decide) rfl⟩
def F_slices_order2CmpFunc_Sint (fu : Nat) (x0 : List (List Int)) (x1 : Int) (x2 : Int) (x3 : Int) (x4 : (List Int) → (List Int) → Option (Int)) : Option (Int × Int × Int) :=
  gd (inL x0 x2) (
  gd (inL x0 x1) (
  bd (x4 (gat [] x0 x2) (gat [] x0 x1)) fun r1 =>
  bif (ilt r1 0) then
    some (x2, x1, (iadd .i64 x3 1))
  else
    some (x1, x2, x3)))
theorem F_slices_order2CmpFunc_Sint_w {fu : Nat} {H : AH} {B : Nat → Prop} {v0 : Value} {p3 : Value} {f4 : FuncId} {c4 : List Value} {x0 : List (List Int)} {x1 : Int} {x2 : Int} {x3 : Int} {x4 : (List Int) → (List Int) → Option (Int)} {r : (Int × Int × Int)} (hB : Up B H.length) (S0 : Sep H B [AL.box p3 [(Value.int .i64 x3)]]) (hx0 : RdB B H v0 (List.map ints x0)) (hx4 : ∀ (G : AH), AgB B H G → ∀ (v0 : Value) (v1 : Value) (y0 : List Int) (y1 : List Int) (q : (Int)), Sl G v0 (ints y0) → Sl G v1 (ints y1) → x4 y0 y1 = some q → ACallT Try.prog f4 ([v0, v1] ++ c4) G (fun u G' => AgB (Fr G) G G' ∧ u = (Value.int .i64 q) ∧ Sep G' (Fr G) [])) (hF : F_slices_order2CmpFunc_Sint fu x0 x1 x2 x3 x4 = some r) :
    ACallT Try.prog 152 [v0, (Value.int .i64 x1), (Value.int .i64 x2), p3, (Value.func (.func f4) #[] c4.toArray)] H (fun u G => AgB B H G ∧ u = (Value.tuple #[(Value.int .i64 r.1), (Value.int .i64 r.2.1)]) ∧ Sep G B [AL.box p3 [(Value.int .i64 r.2.2)]]) := by
  refine ACallT.of_body (nt := 32) (rs := [.tmp 10, .tmp 11]) Try.func152 rfl rfl rfl rfl ?_
  have A0 : AgB B H H := .refl _ _
  unfold F_slices_order2CmpFunc_Sint at hF
  obtain ⟨C0, hC0, hCv0, hCc0⟩ := hx0
  refine DWp.seq ?_
  refine DWp.region fun K hK => ?_
  simp [-aBin', -aBin, -aBinI, -aUn, -aNil, -flatV, n_fn, b_add, b_sub, b_mul, b_lt, b_le, b_gt, b_ge, b_eq, b_ne, u_not]
  apply hK
  clear hK K
  simp only [andThen, leaves]
  refine DWp.seq ?_
  refine DWp.seq ?_
  obtain ⟨g1, hF⟩ := gd_some hF
  have q2 := (hC0.agr hCv0 hCc0 A0).idxG (P := Try.prog) (kk := .i64) el_23 sz_22 g1
  have q3 := (hC0.agr hCv0 hCc0 A0).loadG (P := Try.prog) sz_22 ag_22 g1
  obtain ⟨g4, hF⟩ := gd_some hF
  have q5 := (hC0.agr hCv0 hCc0 A0).idxG (P := Try.prog) (kk := .i64) el_23 sz_22 g4
  have q6 := (hC0.agr hCv0 hCc0 A0).loadG (P := Try.prog) sz_22 ag_22 g4
  obtain ⟨r1, hc7, hF⟩ := bd_some hF
  refine DWp.drawn (B := [0, 0, 0, 6, 14, 0, 0, 96, 224, 511, 1023]) 11 mixed (by kernel_rfl) (by decide) fun K hK => ?_
  simp [-aBin', -aBin, -aBinI, -aUn, -aNil, -flatV, n_fn, b_add, b_sub, b_mul, b_lt, b_le, b_gt, b_ge, b_eq, b_ne, u_not, q2, q3, q5, q6, (((hC0.agr hCv0 hCc0 A0).rowAt [] g1).tup), (((hC0.agr hCv0 hCc0 A0).rowAt [] g4).tup)]
  refine CallD.t (hx4 _ A0 (gat nilV C0 x2) (gat nilV C0 x1) (gat [] x0 x2) (gat [] x0 x1) _ ((hC0.agr hCv0 hCc0 A0).rowAt [] g1) ((hC0.agr hCv0 hCc0 A0).rowAt [] g4) hc7) ?_
  rintro _ G8 ⟨a11, rfl, S12⟩
  have A10 := A0.ext (hB.le A0.1) a11.agree
  have S9 : Sep G8 B [AL.box p3 [(Value.int .i64 x3)]] := S0.agree a11.agree
  simp [-aBin', -aBin, -aBinI, -aUn, -aNil, -flatV, n_fn, b_add, b_sub, b_mul, b_lt, b_le, b_gt, b_ge, b_eq, b_ne, u_not, q2, q3, q5, q6, a11.pre]
  apply hK
  clear hK K
  simp only [andThen, leaves]
  refine DWp.cond' (t := (ilt r1 0)) (by simp []) (fun hb13 => ?_) (fun hb13 => ?_)
  · replace hF := cd_t hb13 hF
    refine DWp.seq ?_
    have q14 := S9.nilT (k := 0) rfl
    have q15 := S9.load0 (P := Try.prog) (k := 0) rfl sz_3 ag_3
    have q16 := S9.nilT (k := 0) rfl
    obtain ⟨G17, q18, S19, a21⟩ := S9.put0 (P := Try.prog) (k := 0) rfl (hB.le A10.1) sz_3 (rfl : isTup (Value.int .i64 (iadd .i64 x3 1)) = false) (rfl : (Value.int .i64 (iadd .i64 x3 1)).cells = #[(Value.int .i64 (iadd .i64 x3 1))])
    have A20 := A10.trans a21
    replace S19 : Sep G17 B [AL.box p3 [(Value.int .i64 (iadd .i64 x3 1))]] := S19
    refine DWp.region fun K hK => ?_
    simp [-aBin', -aBin, -aBinI, -aUn, -aNil, -flatV, n_fn, b_add, b_sub, b_mul, b_lt, b_le, b_gt, b_ge, b_eq, b_ne, u_not, q14, q15, q16, q18]
    apply hK
    clear hK K
    simp only [andThen, leaves]
    refine DWp.seq ?_
    refine DWp.region fun K hK => ?_
    simp [-aBin', -aBin, -aBinI, -aUn, -aNil, -flatV, n_fn, b_add, b_sub, b_mul, b_lt, b_le, b_gt, b_ge, b_eq, b_ne, u_not]
    apply hK
    clear hK K
    simp only [andThen, leaves]
    refine DWp.ret ?_
    simp only [andThen, leaves]
    obtain rfl := Option.some.inj hF
    exact ⟨by simp, [(Value.int .i64 x2), (Value.int .i64 x1)], by simp [], A20, rfl, S19.pick [0] (by decide) rfl⟩
  · replace hF := cd_f hb13 hF
    refine DWp.skip ?_
    simp only [andThen, leaves]
    refine DWp.seq ?_
    refine DWp.region fun K hK => ?_
    simp [-aBin', -aBin, -aBinI, -aUn, -aNil, -flatV, n_fn, b_add, b_sub, b_mul, b_lt, b_le, b_gt, b_ge, b_eq, b_ne, u_not]
    apply hK
    clear hK K
    simp only [andThen, leaves]
    refine DWp.ret ?_
    obtain rfl := Option.some.inj hF
    exact ⟨by simp, [(Value.int .i64 x1), (Value.int .i64 x2)], by simp [], A10, rfl, S9.pick [0] (by decide) rfl⟩
def F_slices_medianCmpFunc_Sint (fu : Nat) (x0 : List (List Int)) (x1 : Int) (x2 : Int) (x3 : Int) (x4 : Int) (x5 : (List Int) → (List Int) → Option (Int)) : Option (Int × Int) :=
  bd (F_slices_order2CmpFunc_Sint fu x0 x1 x2 x4 x5) fun r1 =>
  bd (F_slices_order2CmpFunc_Sint fu x0 r1.2.1 x3 r1.2.2 x5) fun r2 =>
  bd (F_slices_order2CmpFunc_Sint fu x0 r1.1 r2.1 r2.2.2 x5) fun r3 =>
  some (r3.2.1, r3.2.2)
theorem F_slices_medianCmpFunc_Sint_w {fu : Nat} {H : AH} {B : Nat → Prop} {v0 : Value} {p4 : Value} {f5 : FuncId} {c5 : List Value} {x0 : List (List Int)} {x1 : Int} {x2 : Int} {x3 : Int} {x4 : Int} {x5 : (List Int) → (List Int) → Option (Int)} {r : (Int × Int)} (hB : Up B H.length) (S0 : Sep H B [AL.box p4 [(Value.int .i64 x4)]]) (hx0 : RdB B H v0 (List.map ints x0)) (hx5 : ∀ (G : AH), AgB B H G → ∀ (v0 : Value) (v1 : Value) (y0 : List Int) (y1 : List Int) (q : (Int)), Sl G v0 (ints y0) → Sl G v1 (ints y1) → x5 y0 y1 = some q → ACallT Try.prog f5 ([v0, v1] ++ c5) G (fun u G' => AgB (Fr G) G G' ∧ u = (Value.int .i64 q) ∧ Sep G' (Fr G) [])) (hF : F_slices_medianCmpFunc_Sint fu x0 x1 x2 x3 x4 x5 = some r) :
    ACallT Try.prog 150 [v0, (Value.int .i64 x1), (Value.int .i64 x2), (Value.int .i64 x3), p4, (Value.func (.func f5) #[] c5.toArray)] H (fun u G => AgB B H G ∧ u = (Value.int .i64 r.1) ∧ Sep G B [AL.box p4 [(Value.int .i64 r.2)]]) := by
  refine ACallT.of_body (nt := 41) (rs := [.tmp 12]) Try.func150 rfl rfl rfl rfl ?_
  have A0 : AgB B H H := .refl _ _
  unfold F_slices_medianCmpFunc_Sint at hF
  obtain ⟨C0, hC0, hCv0, hCc0⟩ := hx0
  refine DWp.seq ?_
  refine DWp.region fun K hK => ?_
  simp [-aBin', -aBin, -aBinI, -aUn, -aNil, -flatV, n_fn, b_add, b_sub, b_mul, b_lt, b_le, b_gt, b_ge, b_eq, b_ne, u_not]
  apply hK
  clear hK K
  simp only [andThen, leaves]
  refine DWp.seq ?_
  obtain ⟨r1, hc1, hF⟩ := bd_some hF
  refine DWp.region fun K hK => ?_
  simp [-aBin', -aBin, -aBinI, -aUn, -aNil, -flatV, n_fn, b_add, b_sub, b_mul, b_lt, b_le, b_gt, b_ge, b_eq, b_ne, u_not, ((hC0.agr hCv0 hCc0 A0).tup), (S0.ptup (k := 0) rfl)]
  have S2 : Sep H B ([AL.box p4 [(Value.int .i64 x4)]] ++ []) := S0.pick [0] (by decide) rfl
  obtain ⟨B8, S3, U4, M5, R6, C7⟩ := S2.frame (hB.le A0.1)
  refine CallD.t (F_slices_order2CmpFunc_Sint_w (fu := fu) U4 S3 ⟨_, (hC0.agr hCv0 hCc0 A0), fun i_ hi_ hb_ => hCv0 i_ hi_ (M5 i_ hb_), fun c_ hc_ i_ hi_ hb_ => hCc0 c_ hc_ i_ hi_ (M5 i_ hb_)⟩ (fun G_ a_ => hx5 G_ (A0.trans (a_.mono M5))) hc1) ?_
  rintro _ G10 ⟨a13, rfl, S14⟩
  have A12 := A0.trans (a13.mono M5)
  have S11 : Sep G10 B [AL.box p4 [(Value.int .i64 r1.2.2)]] := C7 _ _ a13 S14
  simp [-aBin', -aBin, -aBinI, -aUn, -aNil, -flatV, n_fn, b_add, b_sub, b_mul, b_lt, b_le, b_gt, b_ge, b_eq, b_ne, u_not]
  apply hK
  clear hK K
  simp only [andThen, leaves]
  refine DWp.seq ?_
  obtain ⟨r2, hc15, hF⟩ := bd_some hF
  refine DWp.region fun K hK => ?_
  simp [-aBin', -aBin, -aBinI, -aUn, -aNil, -flatV, n_fn, b_add, b_sub, b_mul, b_lt, b_le, b_gt, b_ge, b_eq, b_ne, u_not, ((hC0.agr hCv0 hCc0 A12).tup), (S11.ptup (k := 0) rfl)]
  have S16 : Sep G10 B ([AL.box p4 [(Value.int .i64 r1.2.2)]] ++ []) := S11.pick [0] (by decide) rfl
  obtain ⟨B22, S17, U18, M19, R20, C21⟩ := S16.frame (hB.le A12.1)
  refine CallD.t (F_slices_order2CmpFunc_Sint_w (fu := fu) U18 S17 ⟨_, (hC0.agr hCv0 hCc0 A12), fun i_ hi_ hb_ => hCv0 i_ hi_ (M19 i_ hb_), fun c_ hc_ i_ hi_ hb_ => hCc0 c_ hc_ i_ hi_ (M19 i_ hb_)⟩ (fun G_ a_ => hx5 G_ (A12.trans (a_.mono M19))) hc15) ?_
  rintro _ G24 ⟨a27, rfl, S28⟩
  have A26 := A12.trans (a27.mono M19)
  have S25 : Sep G24 B [AL.box p4 [(Value.int .i64 r2.2.2)]] := C21 _ _ a27 S28
  simp [-aBin', -aBin, -aBinI, -aUn, -aNil, -flatV, n_fn, b_add, b_sub, b_mul, b_lt, b_le, b_gt, b_ge, b_eq, b_ne, u_not]
  apply hK
  clear hK K
  simp only [andThen, leaves]
  refine DWp.seq ?_
  obtain ⟨r3, hc29, hF⟩ := bd_some hF
  refine DWp.region fun K hK => ?_
  simp [-aBin', -aBin, -aBinI, -aUn, -aNil, -flatV, n_fn, b_add, b_sub, b_mul, b_lt, b_le, b_gt, b_ge, b_eq, b_ne, u_not, ((hC0.agr hCv0 hCc0 A26).tup), (S25.ptup (k := 0) rfl)]
  have S30 : Sep G24 B ([AL.box p4 [(Value.int .i64 r2.2.2)]] ++ []) := S25.pick [0] (by decide) rfl
  obtain ⟨B36, S31, U32, M33, R34, C35⟩ := S30.frame (hB.le A26.1)
  refine CallD.t (F_slices_order2CmpFunc_Sint_w (fu := fu) U32 S31 ⟨_, (hC0.agr hCv0 hCc0 A26), fun i_ hi_ hb_ => hCv0 i_ hi_ (M33 i_ hb_), fun c_ hc_ i_ hi_ hb_ => hCc0 c_ hc_ i_ hi_ (M33 i_ hb_)⟩ (fun G_ a_ => hx5 G_ (A26.trans (a_.mono M33))) hc29) ?_
  rintro _ G38 ⟨a41, rfl, S42⟩
  have A40 := A26.trans (a41.mono M33)
  have S39 : Sep G38 B [AL.box p4 [(Value.int .i64 r3.2.2)]] := C35 _ _ a41 S42
  simp [-aBin', -aBin, -aBinI, -aUn, -aNil, -flatV, n_fn, b_add, b_sub, b_mul, b_lt, b_le, b_gt, b_ge, b_eq, b_ne, u_not]
  apply hK
  clear hK K
  simp only [andThen, leaves]
  refine DWp.seq ?_
  refine DWp.region fun K hK => ?_
  simp [-aBin', -aBin, -aBinI, -aUn, -aNil, -flatV, n_fn, b_add, b_sub, b_mul, b_lt, b_le, b_gt, b_ge, b_eq, b_ne, u_not]
  apply hK
  clear hK K
  simp only [andThen, leaves]
  refine DWp.ret ?_
  obtain rfl := Option.some.inj hF
  exact ⟨by simp, [(Value.int .i64 r3.2.1)], by simp [], A40, rfl, S39.pick [0] (by decide) rfl⟩
def F_slices_medianAdjacentCmpFunc_Sint (fu : Nat) (x0 : List (List Int)) (x1 : Int) (x2 : Int) (x3 : (List Int) → (List Int) → Option (Int)) : Option (Int × Int) :=
  bd (F_slices_medianCmpFunc_Sint fu x0 (isub .i64 x1 1) x1 (iadd .i64 x1 1) x2 x3) fun r1 =>
  some (r1.1, r1.2)
theorem F_slices_medianAdjacentCmpFunc_Sint_w {fu : Nat} {H : AH} {B : Nat → Prop} {v0 : Value} {p2 : Value} {f3 : FuncId} {c3 : List Value} {x0 : List (List Int)} {x1 : Int} {x2 : Int} {x3 : (List Int) → (List Int) → Option (Int)} {r : (Int × Int)} (hB : Up B H.length) (S0 : Sep H B [AL.box p2 [(Value.int .i64 x2)]]) (hx0 : RdB B H v0 (List.map ints x0)) (hx3 : ∀ (G : AH), AgB B H G → ∀ (v0 : Value) (v1 : Value) (y0 : List Int) (y1 : List Int) (q : (Int)), Sl G v0 (ints y0) → Sl G v1 (ints y1) → x3 y0 y1 = some q → ACallT Try.prog f3 ([v0, v1] ++ c3) G (fun u G' => AgB (Fr G) G G' ∧ u = (Value.int .i64 q) ∧ Sep G' (Fr G) [])) (hF : F_slices_medianAdjacentCmpFunc_Sint fu x0 x1 x2 x3 = some r) :
    ACallT Try.prog 149 [v0, (Value.int .i64 x1), p2, (Value.func (.func f3) #[] c3.toArray)] H (fun u G => AgB B H G ∧ u = (Value.int .i64 r.1) ∧ Sep G B [AL.box p2 [(Value.int .i64 r.2)]]) := by
  refine ACallT.of_body (nt := 18) (rs := [.tmp 8]) Try.func149 rfl rfl rfl rfl ?_
  have A0 : AgB B H H := .refl _ _
  unfold F_slices_medianAdjacentCmpFunc_Sint at hF
  obtain ⟨C0, hC0, hCv0, hCc0⟩ := hx0
  refine DWp.seq ?_
  refine DWp.region fun K hK => ?_
  simp [-aBin', -aBin, -aBinI, -aUn, -aNil, -flatV, n_fn, b_add, b_sub, b_mul, b_lt, b_le, b_gt, b_ge, b_eq, b_ne, u_not]
  apply hK
  clear hK K
  simp only [andThen, leaves]
  refine DWp.seq ?_
  obtain ⟨r1, hc1, hF⟩ := bd_some hF
  refine DWp.region fun K hK => ?_
  simp [-aBin', -aBin, -aBinI, -aUn, -aNil, -flatV, n_fn, b_add, b_sub, b_mul, b_lt, b_le, b_gt, b_ge, b_eq, b_ne, u_not, ((hC0.agr hCv0 hCc0 A0).tup), (S0.ptup (k := 0) rfl)]
  have S2 : Sep H B ([AL.box p2 [(Value.int .i64 x2)]] ++ []) := S0.pick [0] (by decide) rfl
  obtain ⟨B8, S3, U4, M5, R6, C7⟩ := S2.frame (hB.le A0.1)
  refine CallD.t (F_slices_medianCmpFunc_Sint_w (fu := fu) U4 S3 ⟨_, (hC0.agr hCv0 hCc0 A0), fun i_ hi_ hb_ => hCv0 i_ hi_ (M5 i_ hb_), fun c_ hc_ i_ hi_ hb_ => hCc0 c_ hc_ i_ hi_ (M5 i_ hb_)⟩ (fun G_ a_ => hx3 G_ (A0.trans (a_.mono M5))) hc1) ?_
  rintro _ G10 ⟨a13, rfl, S14⟩
  have A12 := A0.trans (a13.mono M5)
  have S11 : Sep G10 B [AL.box p2 [(Value.int .i64 r1.2)]] := C7 _ _ a13 S14
  simp [-aBin', -aBin, -aBinI, -aUn, -aNil, -flatV, n_fn, b_add, b_sub, b_mul, b_lt, b_le, b_gt, b_ge, b_eq, b_ne, u_not]
  apply hK
  clear hK K
  simp only [andThen, leaves]
  refine DWp.ret ?_
  obtain rfl := Option.some.inj hF
  exact ⟨by simp, [(Value.int .i64 r1.1)], by simp [], A12, rfl, S11.pick [0] (by decide) rfl⟩
def F_slices_choosePivotCmpFunc_Sint (fu : Nat) (x0 : List (List Int)) (x1 : Int) (x2 : Int) (x3 : (List Int) → (List Int) → Option (Int)) : Option (Int × Int) :=
  bd (
    bif (ile 8 (isub .i64 x2 x1)) then
      bif (ile 50 (isub .i64 x2 x1)) then
        bd (F_slices_medianAdjacentCmpFunc_Sint fu x0 (iadd .i64 x1 (imul .i64 (iquo .i64 (isub .i64 x2 x1) 4) 1)) 0 x3) fun r1 =>
        bd (F_slices_medianAdjacentCmpFunc_Sint fu x0 (iadd .i64 x1 (imul .i64 (iquo .i64 (isub .i64 x2 x1) 4) 2)) r1.2 x3) fun r2 =>
        bd (F_slices_medianAdjacentCmpFunc_Sint fu x0 (iadd .i64 x1 (imul .i64 (iquo .i64 (isub .i64 x2 x1) 4) 3)) r2.2 x3) fun r3 =>
        bd (F_slices_medianCmpFunc_Sint fu x0 r1.1 r2.1 r3.1 r3.2 x3) fun r4 =>
        some (r4.2, r4.1)
      else
        bd (F_slices_medianCmpFunc_Sint fu x0 (iadd .i64 x1 (imul .i64 (iquo .i64 (isub .i64 x2 x1) 4) 1)) (iadd .i64 x1 (imul .i64 (iquo .i64 (isub .i64 x2 x1) 4) 2)) (iadd .i64 x1 (imul .i64 (iquo .i64 (isub .i64 x2 x1) 4) 3)) 0 x3) fun r5 =>
        some (r5.2, r5.1)
    else
      some (0, (iadd .i64 x1 (imul .i64 (iquo .i64 (isub .i64 x2 x1) 4) 2)))) fun s11 =>
  bif (ieq s11.1 0) then
    some (s11.2, 1)
  else
    bif (ieq s11.1 12) then
      some (s11.2, 2)
    else
      some (s11.2, 0)
theorem F_slices_choosePivotCmpFunc_Sint_w {fu : Nat} {H : AH} {v0 : Value} {f3 : FuncId} {c3 : List Value} {x0 : List (List Int)} {x1 : Int} {x2 : Int} {x3 : (List Int) → (List Int) → Option (Int)} {r : (Int × Int)} (hx0 : SlSl H v0 (List.map ints x0)) (hx3 : ∀ (G : AH), AgB (Fr H) H G → ∀ (v0 : Value) (v1 : Value) (y0 : List Int) (y1 : List Int) (q : (Int)), Sl G v0 (ints y0) → Sl G v1 (ints y1) → x3 y0 y1 = some q → ACallT Try.prog f3 ([v0, v1] ++ c3) G (fun u G' => AgB (Fr G) G G' ∧ u = (Value.int .i64 q) ∧ Sep G' (Fr G) [])) (hF : F_slices_choosePivotCmpFunc_Sint fu x0 x1 x2 x3 = some r) :
    ACallT Try.prog 136 [v0, (Value.int .i64 x1), (Value.int .i64 x2), (Value.func (.func f3) #[] c3.toArray)] H (fun u G => AgB (Fr H) H G ∧ u = (Value.tuple #[(Value.int .i64 r.1), (Value.int .i64 r.2)]) ∧ Sep G (Fr H) []) := by
  refine ACallT.of_body (nt := 63) (rs := [.tmp 8, .tmp 9]) Try.func136 rfl rfl rfl rfl ?_
  have A0 : AgB (Fr H) H H := .refl _ _
  have S0 : Sep H (Fr H) [] := .nil
  have hB := Fr.up H
  unfold F_slices_choosePivotCmpFunc_Sint at hF
  obtain ⟨C0, hC0⟩ := hx0.rd
  refine DWp.seq ?_
  refine DWp.region fun K hK => ?_
  simp [-aBin', -aBin, -aBinI, -aUn, -aNil, -flatV, n_fn, b_add, b_sub, b_mul, b_lt, b_le, b_gt, b_ge, b_eq, b_ne, u_not]
  apply hK
  clear hK K
  simp only [andThen, leaves]
  refine DWp.seq ?_
  refine DWp.region fun K hK => ?_
  simp [-aBin', -aBin, -aBinI, -aUn, -aNil, -flatV, n_fn, b_add, b_sub, b_mul, b_lt, b_le, b_gt, b_ge, b_eq, b_ne, u_not]
  apply hK
  clear hK K
  simp only [andThen, leaves]
  refine DWp.seq ?_
  obtain ⟨G2, p4, q5, q7, a6, S1⟩ := S0.allocT (P := Try.prog) (hB.le A0.1) ze_3 rfl
  have A3 := A0.ext (hB.le A0.1) a6
  replace S1 : Sep G2 (Fr H) [AL.box p4 [(Value.int .i64 0)]] := S1
  refine DWp.region fun K hK => ?_
  simp [-aBin', -aBin, -aBinI, -aUn, -aNil, -flatV, n_fn, b_add, b_sub, b_mul, b_lt, b_le, b_gt, b_ge, b_eq, b_ne, u_not, q5, q7, a6.to_pre]
  apply hK
  clear hK K
  simp only [andThen, leaves]
  refine DWp.seq ?_
  have g8 : (4 : Int) ≠ 0 := by decide
  refine DWp.region fun K hK => ?_
  simp [-aBin', -aBin, -aBinI, -aUn, -aNil, -flatV, n_fn, b_add, b_sub, b_mul, b_lt, b_le, b_gt, b_ge, b_eq, b_ne, u_not, b_quo g8]
  apply hK
  clear hK K
  simp only [andThen, leaves]
  refine DWp.seq ?_
  have g9 : (4 : Int) ≠ 0 := by decide
  refine DWp.region fun K hK => ?_
  simp [-aBin', -aBin, -aBinI, -aUn, -aNil, -flatV, n_fn, b_add, b_sub, b_mul, b_lt, b_le, b_gt, b_ge, b_eq, b_ne, u_not, b_quo g9]
  apply hK
  clear hK K
  simp only [andThen, leaves]
  refine DWp.seq ?_
  have g10 : (4 : Int) ≠ 0 := by decide
  refine DWp.region fun K hK => ?_
  simp [-aBin', -aBin, -aBinI, -aUn, -aNil, -flatV, n_fn, b_add, b_sub, b_mul, b_lt, b_le, b_gt, b_ge, b_eq, b_ne, u_not, b_quo g10]
  apply hK
  clear hK K
  simp only [andThen, leaves]
  obtain ⟨s11, hL12, hF⟩ := bd_some hF
  refine DWp.seq (DWp.join (fun env G => Sep G (Fr H) [AL.box p4 [(Value.int .i64 s11.1)]] ∧ AgB (Fr H) H G ∧ env 11 = some p4 ∧ env 13 = some (Value.int .i64 s11.2)) ?_ ?_)
  ·
    refine DWp.seq ?_
    refine DWp.region fun K hK => ?_
    simp [-aBin', -aBin, -aBinI, -aUn, -aNil, -flatV, n_fn, b_add, b_sub, b_mul, b_lt, b_le, b_gt, b_ge, b_eq, b_ne, u_not]
    apply hK
    clear hK K
    simp only [andThen, leaves]
    refine DWp.cond' (t := (ile 8 (isub .i64 x2 x1))) (by simp []) (fun hb14 => ?_) (fun hb14 => ?_)
    · replace hL12 := cd_t hb14 hL12
      refine DWp.seq ?_
      refine DWp.seq ?_
      refine DWp.region fun K hK => ?_
      simp [-aBin', -aBin, -aBinI, -aUn, -aNil, -flatV, n_fn, b_add, b_sub, b_mul, b_lt, b_le, b_gt, b_ge, b_eq, b_ne, u_not]
      apply hK
      clear hK K
      simp only [andThen, leaves]
      refine DWp.cond' (t := (ile 50 (isub .i64 x2 x1))) (by simp []) (fun hb15 => ?_) (fun hb15 => ?_)
      · replace hL12 := cd_t hb15 hL12
        refine DWp.seq ?_
        obtain ⟨r1, hc16, hL12⟩ := bd_some hL12
        refine DWp.region fun K hK => ?_
        simp [-aBin', -aBin, -aBinI, -aUn, -aNil, -flatV, n_fn, b_add, b_sub, b_mul, b_lt, b_le, b_gt, b_ge, b_eq, b_ne, u_not, ((hC0.agree A3.agree).tup), (S1.ptup (k := 0) rfl)]
        have S17 : Sep G2 (Fr H) ([AL.box p4 [(Value.int .i64 0)]] ++ []) := S1.pick [0] (by decide) rfl
        obtain ⟨B23, S18, U19, M20, R21, C22⟩ := S17.frame (hB.le A3.1)
        refine CallD.t (F_slices_medianAdjacentCmpFunc_Sint_w (fu := fu) U19 S18 ⟨_, (hC0.agree A3.agree), fun i_ hi_ hb_ => Nat.not_le.2 (hC0.out.id_lt hi_) (M20 i_ hb_), fun c_ hc_ i_ hi_ hb_ => Nat.not_le.2 (hC0.row_lt hc_ hi_) (M20 i_ hb_)⟩ (fun G_ a_ => hx3 G_ (A3.trans (a_.mono M20))) hc16) ?_
        rintro _ G25 ⟨a28, rfl, S29⟩
        have A27 := A3.trans (a28.mono M20)
        have S26 : Sep G25 (Fr H) [AL.box p4 [(Value.int .i64 r1.2)]] := C22 _ _ a28 S29
        simp [-aBin', -aBin, -aBinI, -aUn, -aNil, -flatV, n_fn, b_add, b_sub, b_mul, b_lt, b_le, b_gt, b_ge, b_eq, b_ne, u_not]
        apply hK
        clear hK K
        simp only [andThen, leaves]
        refine DWp.seq ?_
        obtain ⟨r2, hc30, hL12⟩ := bd_some hL12
        refine DWp.region fun K hK => ?_
        simp [-aBin', -aBin, -aBinI, -aUn, -aNil, -flatV, n_fn, b_add, b_sub, b_mul, b_lt, b_le, b_gt, b_ge, b_eq, b_ne, u_not, ((hC0.agree A27.agree).tup), (S26.ptup (k := 0) rfl)]
        have S31 : Sep G25 (Fr H) ([AL.box p4 [(Value.int .i64 r1.2)]] ++ []) := S26.pick [0] (by decide) rfl
        obtain ⟨B37, S32, U33, M34, R35, C36⟩ := S31.frame (hB.le A27.1)
        refine CallD.t (F_slices_medianAdjacentCmpFunc_Sint_w (fu := fu) U33 S32 ⟨_, (hC0.agree A27.agree), fun i_ hi_ hb_ => Nat.not_le.2 (hC0.out.id_lt hi_) (M34 i_ hb_), fun c_ hc_ i_ hi_ hb_ => Nat.not_le.2 (hC0.row_lt hc_ hi_) (M34 i_ hb_)⟩ (fun G_ a_ => hx3 G_ (A27.trans (a_.mono M34))) hc30) ?_
        rintro _ G39 ⟨a42, rfl, S43⟩
        have A41 := A27.trans (a42.mono M34)
        have S40 : Sep G39 (Fr H) [AL.box p4 [(Value.int .i64 r2.2)]] := C36 _ _ a42 S43
        simp [-aBin', -aBin, -aBinI, -aUn, -aNil, -flatV, n_fn, b_add, b_sub, b_mul, b_lt, b_le, b_gt, b_ge, b_eq, b_ne, u_not]
        apply hK
        clear hK K
        simp only [andThen, leaves]
        obtain ⟨r3, hc44, hL12⟩ := bd_some hL12
        refine DWp.region fun K hK => ?_
        simp [-aBin', -aBin, -aBinI, -aUn, -aNil, -flatV, n_fn, b_add, b_sub, b_mul, b_lt, b_le, b_gt, b_ge, b_eq, b_ne, u_not, ((hC0.agree A41.agree).tup), (S40.ptup (k := 0) rfl)]
        have S45 : Sep G39 (Fr H) ([AL.box p4 [(Value.int .i64 r2.2)]] ++ []) := S40.pick [0] (by decide) rfl
        obtain ⟨B51, S46, U47, M48, R49, C50⟩ := S45.frame (hB.le A41.1)
        refine CallD.t (F_slices_medianAdjacentCmpFunc_Sint_w (fu := fu) U47 S46 ⟨_, (hC0.agree A41.agree), fun i_ hi_ hb_ => Nat.not_le.2 (hC0.out.id_lt hi_) (M48 i_ hb_), fun c_ hc_ i_ hi_ hb_ => Nat.not_le.2 (hC0.row_lt hc_ hi_) (M48 i_ hb_)⟩ (fun G_ a_ => hx3 G_ (A41.trans (a_.mono M48))) hc44) ?_
        rintro _ G53 ⟨a56, rfl, S57⟩
        have A55 := A41.trans (a56.mono M48)
        have S54 : Sep G53 (Fr H) [AL.box p4 [(Value.int .i64 r3.2)]] := C50 _ _ a56 S57
        simp [-aBin', -aBin, -aBinI, -aUn, -aNil, -flatV, n_fn, b_add, b_sub, b_mul, b_lt, b_le, b_gt, b_ge, b_eq, b_ne, u_not]
        apply hK
        clear hK K
        simp only [andThen, leaves]
        obtain ⟨r4, hc58, hL12⟩ := bd_some hL12
        refine DWp.region fun K hK => ?_
        simp [-aBin', -aBin, -aBinI, -aUn, -aNil, -flatV, n_fn, b_add, b_sub, b_mul, b_lt, b_le, b_gt, b_ge, b_eq, b_ne, u_not, ((hC0.agree A55.agree).tup), (S54.ptup (k := 0) rfl)]
        have S59 : Sep G53 (Fr H) ([AL.box p4 [(Value.int .i64 r3.2)]] ++ []) := S54.pick [0] (by decide) rfl
        obtain ⟨B65, S60, U61, M62, R63, C64⟩ := S59.frame (hB.le A55.1)
        refine CallD.t (F_slices_medianCmpFunc_Sint_w (fu := fu) U61 S60 ⟨_, (hC0.agree A55.agree), fun i_ hi_ hb_ => Nat.not_le.2 (hC0.out.id_lt hi_) (M62 i_ hb_), fun c_ hc_ i_ hi_ hb_ => Nat.not_le.2 (hC0.row_lt hc_ hi_) (M62 i_ hb_)⟩ (fun G_ a_ => hx3 G_ (A55.trans (a_.mono M62))) hc58) ?_
        rintro _ G67 ⟨a70, rfl, S71⟩
        have A69 := A55.trans (a70.mono M62)
        have S68 : Sep G67 (Fr H) [AL.box p4 [(Value.int .i64 r4.2)]] := C64 _ _ a70 S71
        simp [-aBin', -aBin, -aBinI, -aUn, -aNil, -flatV, n_fn, b_add, b_sub, b_mul, b_lt, b_le, b_gt, b_ge, b_eq, b_ne, u_not]
        apply hK
        clear hK K
        simp only [andThen, leaves]
        have S72 := S68.pick [0] (by decide) rfl
        obtain rfl := Option.some.inj hL12
        exact ⟨S72, A69, by simp [], by simp []⟩
      · replace hL12 := cd_f hb15 hL12
        refine DWp.skip ?_
        simp only [andThen, leaves]
        obtain ⟨r5, hc73, hL12⟩ := bd_some hL12
        refine DWp.region fun K hK => ?_
        simp [-aBin', -aBin, -aBinI, -aUn, -aNil, -flatV, n_fn, b_add, b_sub, b_mul, b_lt, b_le, b_gt, b_ge, b_eq, b_ne, u_not, ((hC0.agree A3.agree).tup), (S1.ptup (k := 0) rfl)]
        have S74 : Sep G2 (Fr H) ([AL.box p4 [(Value.int .i64 0)]] ++ []) := S1.pick [0] (by decide) rfl
        obtain ⟨B80, S75, U76, M77, R78, C79⟩ := S74.frame (hB.le A3.1)
        refine CallD.t (F_slices_medianCmpFunc_Sint_w (fu := fu) U76 S75 ⟨_, (hC0.agree A3.agree), fun i_ hi_ hb_ => Nat.not_le.2 (hC0.out.id_lt hi_) (M77 i_ hb_), fun c_ hc_ i_ hi_ hb_ => Nat.not_le.2 (hC0.row_lt hc_ hi_) (M77 i_ hb_)⟩ (fun G_ a_ => hx3 G_ (A3.trans (a_.mono M77))) hc73) ?_
        rintro _ G82 ⟨a85, rfl, S86⟩
        have A84 := A3.trans (a85.mono M77)
        have S83 : Sep G82 (Fr H) [AL.box p4 [(Value.int .i64 r5.2)]] := C79 _ _ a85 S86
        simp [-aBin', -aBin, -aBinI, -aUn, -aNil, -flatV, n_fn, b_add, b_sub, b_mul, b_lt, b_le, b_gt, b_ge, b_eq, b_ne, u_not]
        apply hK
        clear hK K
        simp only [andThen, leaves]
        have S87 := S83.pick [0] (by decide) rfl
        obtain rfl := Option.some.inj hL12
        exact ⟨S87, A84, by simp [], by simp []⟩
    · replace hL12 := cd_f hb14 hL12
      refine DWp.skip ?_
      simp only [andThen, leaves]
      have S88 := S1.pick [0] (by decide) rfl
      obtain rfl := Option.some.inj hL12
      exact ⟨S88, A3, by simp [], by simp []⟩
  · rintro env Gj89 ⟨Sj89, Aj89, ej89_11, ej89_13⟩
    refine DWp.seq ?_
    have q90 := Sj89.load0 (P := Try.prog) (k := 0) rfl sz_3 ag_3
    refine DWp.region fun K hK => ?_
    simp [-aBin', -aBin, -aBinI, -aUn, -aNil, -flatV, n_fn, b_add, b_sub, b_mul, b_lt, b_le, b_gt, b_ge, b_eq, b_ne, u_not, ej89_11, ej89_13, q90]
    apply hK
    clear hK K
    simp only [andThen, leaves]
    refine DWp.block ?_
    refine DWp.seq ?_
    refine DWp.region fun K hK => ?_
    simp [-aBin', -aBin, -aBinI, -aUn, -aNil, -flatV, n_fn, b_add, b_sub, b_mul, b_lt, b_le, b_gt, b_ge, b_eq, b_ne, u_not, ej89_11, ej89_13]
    apply hK
    clear hK K
    simp only [andThen, leaves]
    refine DWp.cond' (t := (ieq s11.1 0)) (by simp [ej89_11, ej89_13]) (fun hb91 => ?_) (fun hb91 => ?_)
    · replace hF := cd_t hb91 hF
      refine DWp.seq ?_
      refine DWp.region fun K hK => ?_
      simp [-aBin', -aBin, -aBinI, -aUn, -aNil, -flatV, n_fn, b_add, b_sub, b_mul, b_lt, b_le, b_gt, b_ge, b_eq, b_ne, u_not, ej89_11, ej89_13]
      apply hK
      clear hK K
      simp only [andThen, leaves]
      refine DWp.ret ?_
      simp only [andThen, leaves]
      obtain rfl := Option.some.inj hF
      exact ⟨by simp, [(Value.int .i64 s11.2), (Value.int .i64 1)], by simp [ej89_11, ej89_13], Aj89, rfl, Sj89.pick [] (by decide) rfl⟩
    · replace hF := cd_f hb91 hF
      refine DWp.seq ?_
      refine DWp.region fun K hK => ?_
      simp [-aBin', -aBin, -aBinI, -aUn, -aNil, -flatV, n_fn, b_add, b_sub, b_mul, b_lt, b_le, b_gt, b_ge, b_eq, b_ne, u_not, ej89_11, ej89_13]
      apply hK
      clear hK K
      simp only [andThen, leaves]
      refine DWp.cond' (t := (ieq s11.1 12)) (by simp [ej89_11, ej89_13]) (fun hb92 => ?_) (fun hb92 => ?_)
      · replace hF := cd_t hb92 hF
        refine DWp.seq ?_
        refine DWp.region fun K hK => ?_
        simp [-aBin', -aBin, -aBinI, -aUn, -aNil, -flatV, n_fn, b_add, b_sub, b_mul, b_lt, b_le, b_gt, b_ge, b_eq, b_ne, u_not, ej89_11, ej89_13]
        apply hK
        clear hK K
        simp only [andThen, leaves]
        refine DWp.ret ?_
        simp only [andThen, leaves]
        obtain rfl := Option.some.inj hF
        exact ⟨by simp, [(Value.int .i64 s11.2), (Value.int .i64 2)], by simp [ej89_11, ej89_13], Aj89, rfl, Sj89.pick [] (by decide) rfl⟩
      · replace hF := cd_f hb92 hF
        refine DWp.seq ?_
        refine DWp.region fun K hK => ?_
        simp [-aBin', -aBin, -aBinI, -aUn, -aNil, -flatV, n_fn, b_add, b_sub, b_mul, b_lt, b_le, b_gt, b_ge, b_eq, b_ne, u_not, ej89_11, ej89_13]
        apply hK
        clear hK K
        simp only [andThen, leaves]
        refine DWp.ret ?_
        simp only [andThen, leaves]
        obtain rfl := Option.some.inj hF
        exact ⟨by simp, [(Value.int .i64 s11.2), (Value.int .i64 0)], by simp [ej89_11, ej89_13], Aj89, rfl, Sj89.pick [] (by decide) rfl⟩
def F_slices_reverseRangeCmpFunc_Sint_L1 (fu : Nat)  : Nat → List (List Int) → Int → Int → Option (List (List Int) × Int × Int)
  | 0, _, _, _ => none
  | n + 1, l1_0, y1_8, y1_9 =>
    bif (ilt y1_8 y1_9) then
      gd (inL l1_0 y1_9) (
      gd (inL l1_0 y1_8) (
      gd (inL l1_0 y1_8) (
      gd (inL l1_0 y1_9) (
      F_slices_reverseRangeCmpFunc_Sint_L1 fu n (lset (lset l1_0 y1_8 (gat [] l1_0 y1_9)) y1_9 (gat [] l1_0 y1_8)) (iadd .i64 y1_8 1) (isub .i64 y1_9 1)))))
    else
      some (l1_0, y1_8, y1_9)
def F_slices_reverseRangeCmpFunc_Sint (fu : Nat) (x0 : List (List Int)) (x1 : Int) (x2 : Int) (x3 : (List Int) → (List Int) → Option (Int)) : Option (List (List Int)) :=
  bd (F_slices_reverseRangeCmpFunc_Sint_L1 fu fu x0 x1 (isub .i64 x2 1)) fun s1 =>
  some s1.1
theorem F_slices_reverseRangeCmpFunc_Sint_w {fu : Nat} {H : AH} {B : Nat → Prop} {v0 : Value} {C0 : List Value} {f3 : FuncId} {c3 : List Value} {x0 : List (List Int)} {x1 : Int} {x2 : Int} {x3 : (List Int) → (List Int) → Option (Int)} {r : (List (List Int))} (hB : Up B H.length) (S0 : Sep H B [rowsC v0 22 3 C0 (List.map ints x0)]) (hx3 : ∀ (G : AH), AgB B H G → ∀ (v0 : Value) (v1 : Value) (y0 : List Int) (y1 : List Int) (q : (Int)), Sl G v0 (ints y0) → Sl G v1 (ints y1) → x3 y0 y1 = some q → ACallT Try.prog f3 ([v0, v1] ++ c3) G (fun u G' => AgB (Fr G) G G' ∧ u = (Value.int .i64 q) ∧ Sep G' (Fr G) [])) (hF : F_slices_reverseRangeCmpFunc_Sint fu x0 x1 x2 x3 = some r) :
    ACallT Try.prog 137 [v0, (Value.int .i64 x1), (Value.int .i64 x2), (Value.func (.func f3) #[] c3.toArray)] H (fun u G => AgB B H G ∧ ∃ Cz0 : List Value, u = (Value.tuple #[]) ∧ Sep G B [rowsC v0 22 3 Cz0 (List.map ints r)]) := by
  refine ACallT.of_body (nt := 34) (rs := []) Try.func137 rfl rfl rfl rfl ?_
  have A0 : AgB B H H := .refl _ _
  unfold F_slices_reverseRangeCmpFunc_Sint at hF
  refine DWp.seq ?_
  refine DWp.region fun K hK => ?_
  simp [-aBin', -aBin, -aBinI, -aUn, -aNil, -flatV, n_fn, b_add, b_sub, b_mul, b_lt, b_le, b_gt, b_ge, b_eq, b_ne, u_not]
  apply hK
  clear hK K
  simp only [andThen, leaves]
  refine DWp.seq ?_
  refine DWp.region fun K hK => ?_
  simp [-aBin', -aBin, -aBinI, -aUn, -aNil, -flatV, n_fn, b_add, b_sub, b_mul, b_lt, b_le, b_gt, b_ge, b_eq, b_ne, u_not]
  apply hK
  clear hK K
  simp only [andThen, leaves]
  refine DWp.block ?_
  obtain ⟨s1, hL2, hF⟩ := bd_some hF
  have S3 := S0.pick [0] (by decide) rfl
  refine DWp.loop (fun n env G => ∃ l1_0 : List (List Int), ∃ y1_8 : Int, ∃ y1_9 : Int, ∃ D1_0 : List Value, F_slices_reverseRangeCmpFunc_Sint_L1 fu n l1_0 y1_8 y1_9 = some s1 ∧ Sep G B [rowsC v0 22 3 D1_0 (List.map ints l1_0)] ∧ AgB B H G ∧ env 0 = some v0 ∧ env 8 = some (Value.int .i64 y1_8) ∧ env 9 = some (Value.int .i64 y1_9)) fu ⟨x0, x1, (isub .i64 x2 1), C0, hL2, S3, A0, by simp [], by simp [], by simp []⟩ ?_
  rintro n1 env1 G1_ ⟨l1_0, y1_8, y1_9, D1_0, hL2, S1_, A1_, e1_0, e1_8, e1_9⟩
  cases n1 with
  | zero => cases hL2
  | succ n1 =>
    simp only [F_slices_reverseRangeCmpFunc_Sint_L1] at hL2
    refine DWp.seq ?_
    refine DWp.seq ?_
    refine DWp.region fun K hK => ?_
    simp [-aBin', -aBin, -aBinI, -aUn, -aNil, -flatV, n_fn, b_add, b_sub, b_mul, b_lt, b_le, b_gt, b_ge, b_eq, b_ne, u_not, e1_0, e1_8, e1_9]
    apply hK
    clear hK K
    simp only [andThen, leaves]
    refine DWp.cond' (t := (ilt y1_8 y1_9)) (by simp [e1_0, e1_8, e1_9]) (fun hb4 => ?_) (fun hb4 => ?_)
    · replace hL2 := cd_t hb4 hL2
      refine DWp.skip ?_
      simp only [andThen, leaves]
      refine DWp.block ?_
      refine DWp.seq ?_
      obtain ⟨g5, hL2⟩ := gd_some hL2
      have q6 := (S1_.rd (k := 0) rfl).idxG (P := Try.prog) (kk := .i64) el_23 sz_22 g5
      have q7 := (S1_.rd (k := 0) rfl).loadG (P := Try.prog) sz_22 ag_22 g5
      obtain ⟨g8, hL2⟩ := gd_some hL2
      have q9 := (S1_.rd (k := 0) rfl).idxG (P := Try.prog) (kk := .i64) el_23 sz_22 g8
      have q10 := (S1_.rd (k := 0) rfl).loadG (P := Try.prog) sz_22 ag_22 g8
      obtain ⟨g11, hL2⟩ := gd_some hL2
      have q12 := (S1_.rd (k := 0) rfl).idxG (P := Try.prog) (kk := .i64) el_23 sz_22 g11
      obtain ⟨G18, q19, S20, a22⟩ := S1_.swap1 (fr := ints) (P := Try.prog) (k := 0) [] rfl (hB.le A1_.1) sz_22 g11 g5
      have A21 := A1_.trans a22
      replace S20 : Sep G18 B [rowsS v0 22 3 (lset D1_0 y1_8 (gat nilV D1_0 y1_9)) D1_0 (List.map ints l1_0)] := S20
      obtain ⟨g23, hL2⟩ := gd_some hL2
      have q24 := S20.idxS (P := Try.prog) (ki := .i64) (kk := 0) rfl el_23 sz_22 g23
      obtain ⟨G30, q31, S32, a34⟩ := S20.swap2 (fr := ints) (P := Try.prog) (k := 0) [] rfl (hB.le A21.1) sz_22 g11 g5
      have A33 := A21.trans a34
      replace S32 : Sep G30 B [rowsC v0 22 3 (lset (lset D1_0 y1_8 (gat nilV D1_0 y1_9)) y1_9 (gat nilV D1_0 y1_8)) (List.map ints (lset (lset l1_0 y1_8 (gat [] l1_0 y1_9)) y1_9 (gat [] l1_0 y1_8)))] := S32
      refine DWp.drawn (B := [0, 0, 0, 0, 0, 0, 48, 112, 0, 0, 768, 1792, 4083, 8179, 16383, 32767]) 13 mixed (by kernel_rfl) (by decide) fun K hK => ?_
      simp [-aBin', -aBin, -aBinI, -aUn, -aNil, -flatV, n_fn, b_add, b_sub, b_mul, b_lt, b_le, b_gt, b_ge, b_eq, b_ne, u_not, e1_0, e1_8, e1_9, q6, q7, q9, q10, q12, (((S1_.rd (k := 0) rfl).rowAt [] g5).tup), q19, q24, q31]
      apply hK
      clear hK K
      simp only [andThen, leaves]
      refine DWp.seq ?_
      refine DWp.region fun K hK => ?_
      simp [-aBin', -aBin, -aBinI, -aUn, -aNil, -flatV, n_fn, b_add, b_sub, b_mul, b_lt, b_le, b_gt, b_ge, b_eq, b_ne, u_not, e1_0, e1_8, e1_9]
      apply hK
      clear hK K
      simp only [andThen, leaves]
      refine DWp.region fun K hK => ?_
      simp [-aBin', -aBin, -aBinI, -aUn, -aNil, -flatV, n_fn, b_add, b_sub, b_mul, b_lt, b_le, b_gt, b_ge, b_eq, b_ne, u_not, e1_0, e1_8, e1_9]
      apply hK
      clear hK K
      simp only [andThen, leaves]
      have S35 := S32.pick [0] (by decide) rfl
      exact ⟨n1, Nat.lt_succ_self _, (lset (lset l1_0 y1_8 (gat [] l1_0 y1_9)) y1_9 (gat [] l1_0 y1_8)), (iadd .i64 y1_8 1), (isub .i64 y1_9 1), (lset (lset D1_0 y1_8 (gat nilV D1_0 y1_9)) y1_9 (gat nilV D1_0 y1_8)), hL2, S35, A33, by simp [e1_0, e1_8, e1_9], by simp [e1_0, e1_8, e1_9], by simp [e1_0, e1_8, e1_9]⟩
    · replace hL2 := cd_f hb4 hL2
      refine DWp.exit ?_
      simp only [andThen, leaves, if_true, if_false, reduceIte, Nat.reduceEqDiff]
      obtain rfl := Option.some.inj hL2
      try dsimp only at hF
      obtain rfl := Option.some.inj hF
      exact ⟨by simp, [], by simp [e1_0, e1_8, e1_9], A1_, D1_0, rfl, S1_.pick [0] (by decide) rfl⟩
def F_slices_partialInsertionSortCmpFunc_Sint_L2 (fu : Nat) (k2_0 : List (List Int)) (k2_1 : Int) (k2_2 : Int) (k2_3 : ((List Int) → (List Int) → Option (Int))) (k2_4 : Int) : Nat → Int → Option (Int)
  | 0, _ => none
  | n + 1, y2_9 =>
    bif (ilt y2_9 k2_2) then
      gd (inL k2_0 y2_9) (
      gd (inL k2_0 (isub .i64 y2_9 1)) (
      bd (k2_3 (gat [] k2_0 y2_9) (gat [] k2_0 (isub .i64 y2_9 1))) fun r1 =>
      bif (bnot (ilt r1 0)) then
        F_slices_partialInsertionSortCmpFunc_Sint_L2 fu k2_0 k2_1 k2_2 k2_3 k2_4 n (iadd .i64 y2_9 1)
      else
        some y2_9))
    else
      some y2_9
def F_slices_partialInsertionSortCmpFunc_Sint_L3 (fu : Nat) (k3_0 : Int) (k3_1 : Int) (k3_2 : ((List Int) → (List Int) → Option (Int))) (k3_3 : Int) (k3_4 : Int) : Nat → List (List Int) → Int → Option (List (List Int) × Int)
  | 0, _, _ => none
  | n + 1, l3_0, y3_11 =>
    bif (ile 1 y3_11) then
      gd (inL l3_0 y3_11) (
      gd (inL l3_0 (isub .i64 y3_11 1)) (
      bd (k3_2 (gat [] l3_0 y3_11) (gat [] l3_0 (isub .i64 y3_11 1))) fun r2 =>
      bif (bnot (ilt r2 0)) then
        some (l3_0, y3_11)
      else
        gd (inL l3_0 (isub .i64 y3_11 1)) (
        gd (inL l3_0 y3_11) (
        gd (inL l3_0 y3_11) (
        gd (inL l3_0 (isub .i64 y3_11 1)) (
        F_slices_partialInsertionSortCmpFunc_Sint_L3 fu k3_0 k3_1 k3_2 k3_3 k3_4 n (lset (lset l3_0 y3_11 (gat [] l3_0 (isub .i64 y3_11 1))) (isub .i64 y3_11 1) (gat [] l3_0 y3_11)) (isub .i64 y3_11 1)))))))
    else
      some (l3_0, y3_11)
def F_slices_partialInsertionSortCmpFunc_Sint_L4 (fu : Nat) (k4_0 : Int) (k4_1 : Int) (k4_2 : ((List Int) → (List Int) → Option (Int))) (k4_3 : Int) (k4_4 : Int) : Nat → List (List Int) → Int → Option (List (List Int) × Int)
  | 0, _, _ => none
  | n + 1, l4_0, y4_12 =>
    bif (ilt y4_12 k4_1) then
      gd (inL l4_0 y4_12) (
      gd (inL l4_0 (isub .i64 y4_12 1)) (
      bd (k4_2 (gat [] l4_0 y4_12) (gat [] l4_0 (isub .i64 y4_12 1))) fun r3 =>
      bif (bnot (ilt r3 0)) then
        some (l4_0, y4_12)
      else
        gd (inL l4_0 (isub .i64 y4_12 1)) (
        gd (inL l4_0 y4_12) (
        gd (inL l4_0 y4_12) (
        gd (inL l4_0 (isub .i64 y4_12 1)) (
        F_slices_partialInsertionSortCmpFunc_Sint_L4 fu k4_0 k4_1 k4_2 k4_3 k4_4 n (lset (lset l4_0 y4_12 (gat [] l4_0 (isub .i64 y4_12 1))) (isub .i64 y4_12 1) (gat [] l4_0 y4_12)) (iadd .i64 y4_12 1)))))))
    else
      some (l4_0, y4_12)
def F_slices_partialInsertionSortCmpFunc_Sint_L1 (fu : Nat) (k1_0 : Int) (k1_1 : Int) (k1_2 : ((List Int) → (List Int) → Option (Int))) : Nat → List (List Int) → Int → Int → Option (LR (Bool × List (List Int)) (List (List Int) × Int × Int))
  | 0, _, _, _ => none
  | n + 1, l1_0, y1_9, y1_10 =>
    bif (ilt y1_10 5) then
      bd (
        bd (F_slices_partialInsertionSortCmpFunc_Sint_L2 fu l1_0 k1_0 k1_1 k1_2 y1_10 fu y1_9) fun s2 =>
        some s2) fun s5 =>
      bif (ieq s5 k1_1) then
        some (.ret (true, l1_0))
      else
        bif (ilt (isub .i64 k1_1 k1_0) 50) then
          some (.ret (false, l1_0))
        else
          gd (inL l1_0 (isub .i64 s5 1)) (
          gd (inL l1_0 s5) (
          gd (inL l1_0 s5) (
          gd (inL l1_0 (isub .i64 s5 1)) (
          bd (
            bif (ile 2 (isub .i64 s5 k1_0)) then
              bd (F_slices_partialInsertionSortCmpFunc_Sint_L3 fu k1_0 k1_1 k1_2 s5 y1_10 fu (lset (lset l1_0 s5 (gat [] l1_0 (isub .i64 s5 1))) (isub .i64 s5 1) (gat [] l1_0 s5)) (isub .i64 s5 1)) fun s3 =>
              some s3.1
            else
              some (lset (lset l1_0 s5 (gat [] l1_0 (isub .i64 s5 1))) (isub .i64 s5 1) (gat [] l1_0 s5))) fun s60 =>
          bif (ile 2 (isub .i64 k1_1 s5)) then
            bd (F_slices_partialInsertionSortCmpFunc_Sint_L4 fu k1_0 k1_1 k1_2 s5 y1_10 fu s60 (iadd .i64 s5 1)) fun s4 =>
            F_slices_partialInsertionSortCmpFunc_Sint_L1 fu k1_0 k1_1 k1_2 n s4.1 s5 (iadd .i64 y1_10 1)
          else
            F_slices_partialInsertionSortCmpFunc_Sint_L1 fu k1_0 k1_1 k1_2 n s60 s5 (iadd .i64 y1_10 1)))))
    else
      some (.brk (l1_0, y1_9, y1_10))
def F_slices_partialInsertionSortCmpFunc_Sint (fu : Nat) (x0 : List (List Int)) (x1 : Int) (x2 : Int) (x3 : (List Int) → (List Int) → Option (Int)) : Option (Bool × List (List Int)) :=
  bd (F_slices_partialInsertionSortCmpFunc_Sint_L1 fu x1 x2 x3 fu x0 (iadd .i64 x1 1) 0) fun s1 =>
  lr s1 fun s1 =>
  some (false, s1.1)
theorem F_slices_partialInsertionSortCmpFunc_Sint_w {fu : Nat} {H : AH} {B : Nat → Prop} {v0 : Value} {C0 : List Value} {f3 : FuncId} {c3 : List Value} {x0 : List (List Int)} {x1 : Int} {x2 : Int} {x3 : (List Int) → (List Int) → Option (Int)} {r : (Bool × List (List Int))} (hB : Up B H.length) (S0 : Sep H B [rowsC v0 22 3 C0 (List.map ints x0)]) (hx3 : ∀ (G : AH), AgB B H G → ∀ (v0 : Value) (v1 : Value) (y0 : List Int) (y1 : List Int) (q : (Int)), Sl G v0 (ints y0) → Sl G v1 (ints y1) → x3 y0 y1 = some q → ACallT Try.prog f3 ([v0, v1] ++ c3) G (fun u G' => AgB (Fr G) G G' ∧ u = (Value.int .i64 q) ∧ Sep G' (Fr G) [])) (hF : F_slices_partialInsertionSortCmpFunc_Sint fu x0 x1 x2 x3 = some r) :
    ACallT Try.prog 138 [v0, (Value.int .i64 x1), (Value.int .i64 x2), (Value.func (.func f3) #[] c3.toArray)] H (fun u G => AgB B H G ∧ ∃ Cz0 : List Value, u = (Value.bool r.1) ∧ Sep G B [rowsC v0 22 3 Cz0 (List.map ints r.2)]) := by
  refine ACallT.of_body (nt := 141) (rs := [.tmp 8]) Try.func138 rfl rfl rfl rfl ?_
  have A0 : AgB B H H := .refl _ _
  unfold F_slices_partialInsertionSortCmpFunc_Sint at hF
  refine DWp.seq ?_
  refine DWp.region fun K hK => ?_
  simp [-aBin', -aBin, -aBinI, -aUn, -aNil, -flatV, n_fn, b_add, b_sub, b_mul, b_lt, b_le, b_gt, b_ge, b_eq, b_ne, u_not]
  apply hK
  clear hK K
  simp only [andThen, leaves]
  refine DWp.seq ?_
  refine DWp.region fun K hK => ?_
  simp [-aBin', -aBin, -aBinI, -aUn, -aNil, -flatV, n_fn, b_add, b_sub, b_mul, b_lt, b_le, b_gt, b_ge, b_eq, b_ne, u_not]
  apply hK
  clear hK K
  simp only [andThen, leaves]
  refine DWp.seq ?_
  refine DWp.seq ?_
  refine DWp.region fun K hK => ?_
  simp [-aBin', -aBin, -aBinI, -aUn, -aNil, -flatV, n_fn, b_add, b_sub, b_mul, b_lt, b_le, b_gt, b_ge, b_eq, b_ne, u_not]
  apply hK
  clear hK K
  simp only [andThen, leaves]
  refine DWp.block ?_
  obtain ⟨s1, hL2, hF⟩ := bd_some hF
  have S3 := S0.pick [0] (by decide) rfl
  refine DWp.loop (fun n env G => ∃ l1_0 : List (List Int), ∃ y1_9 : Int, ∃ y1_10 : Int, ∃ D1_0 : List Value, F_slices_partialInsertionSortCmpFunc_Sint_L1 fu x1 x2 x3 n l1_0 y1_9 y1_10 = some s1 ∧ Sep G B [rowsC v0 22 3 D1_0 (List.map ints l1_0)] ∧ AgB B H G ∧ env 0 = some v0 ∧ env 1 = some (Value.int .i64 x1) ∧ env 2 = some (Value.int .i64 x2) ∧ env 3 = some (Value.func (.func f3) #[] c3.toArray) ∧ env 9 = some (Value.int .i64 y1_9) ∧ env 10 = some (Value.int .i64 y1_10)) fu ⟨x0, (iadd .i64 x1 1), 0, C0, hL2, S3, A0, by simp [], by simp [], by simp [], by simp [], by simp [], by simp []⟩ ?_
  rintro n1 env1 G1_ ⟨l1_0, y1_9, y1_10, D1_0, hL2, S1_, A1_, e1_0, e1_1, e1_2, e1_3, e1_9, e1_10⟩
  cases n1 with
  | zero => cases hL2
  | succ n1 =>
    simp only [F_slices_partialInsertionSortCmpFunc_Sint_L1] at hL2
    refine DWp.seq ?_
    refine DWp.seq ?_
    refine DWp.region fun K hK => ?_
    simp [-aBin', -aBin, -aBinI, -aUn, -aNil, -flatV, n_fn, b_add, b_sub, b_mul, b_lt, b_le, b_gt, b_ge, b_eq, b_ne, u_not, e1_0, e1_1, e1_2, e1_3, e1_9, e1_10]
    apply hK
    clear hK K
    simp only [andThen, leaves]
    refine DWp.cond' (t := (ilt y1_10 5)) (by simp [e1_0, e1_1, e1_2, e1_3, e1_9, e1_10]) (fun hb4 => ?_) (fun hb4 => ?_)
    · replace hL2 := cd_t hb4 hL2
      refine DWp.skip ?_
      simp only [andThen, leaves]
      refine DWp.seq ?_
      refine DWp.block ?_
      obtain ⟨s5, hL6, hL2⟩ := bd_some hL2
      refine DWp.seq (DWp.join (fun env G => Sep G B [rowsC v0 22 3 D1_0 (List.map ints l1_0)] ∧ AgB B H G ∧ env 0 = some v0 ∧ env 1 = some (Value.int .i64 x1) ∧ env 2 = some (Value.int .i64 x2) ∧ env 3 = some (Value.func (.func f3) #[] c3.toArray) ∧ env 9 = some (Value.int .i64 s5) ∧ env 10 = some (Value.int .i64 y1_10)) ?_ ?_)
      ·
        refine DWp.block ?_
        obtain ⟨s8, hL9, hL6⟩ := bd_some hL6
        have S10 := S1_.pick [0] (by decide) rfl
        refine DWp.loop (fun n env G => ∃ y2_9 : Int, F_slices_partialInsertionSortCmpFunc_Sint_L2 fu l1_0 x1 x2 x3 y1_10 n y2_9 = some s8 ∧ Sep G B [rowsC v0 22 3 D1_0 (List.map ints l1_0)] ∧ AgB B H G ∧ env 0 = some v0 ∧ env 1 = some (Value.int .i64 x1) ∧ env 2 = some (Value.int .i64 x2) ∧ env 3 = some (Value.func (.func f3) #[] c3.toArray) ∧ env 9 = some (Value.int .i64 y2_9) ∧ env 10 = some (Value.int .i64 y1_10)) fu ⟨y1_9, hL9, S10, A1_, by simp [e1_0, e1_1, e1_2, e1_3, e1_9, e1_10], by simp [e1_0, e1_1, e1_2, e1_3, e1_9, e1_10], by simp [e1_0, e1_1, e1_2, e1_3, e1_9, e1_10], by simp [e1_0, e1_1, e1_2, e1_3, e1_9, e1_10], by simp [e1_0, e1_1, e1_2, e1_3, e1_9, e1_10], by simp [e1_0, e1_1, e1_2, e1_3, e1_9, e1_10]⟩ ?_
        rintro n3 env3 G3_ ⟨y2_9, hL9, S3_, A3_, e3_0, e3_1, e3_2, e3_3, e3_9, e3_10⟩
        cases n3 with
        | zero => cases hL9
        | succ n3 =>
          simp only [F_slices_partialInsertionSortCmpFunc_Sint_L2] at hL9
          refine DWp.seq ?_
          refine DWp.seq ?_
          rcases Bool.eq_false_or_eq_true (ilt y2_9 x2) with hb11 | hb11
          · replace hL9 := cd_t hb11 hL9
            obtain ⟨g12, hL9⟩ := gd_some hL9
            have q13 := (S3_.rd (k := 0) rfl).idxG (P := Try.prog) (kk := .i64) el_23 sz_22 g12
            have q14 := (S3_.rd (k := 0) rfl).loadG (P := Try.prog) sz_22 ag_22 g12
            obtain ⟨g15, hL9⟩ := gd_some hL9
            have q16 := (S3_.rd (k := 0) rfl).idxG (P := Try.prog) (kk := .i64) el_23 sz_22 g15
            have q17 := (S3_.rd (k := 0) rfl).loadG (P := Try.prog) sz_22 ag_22 g15
            obtain ⟨r1, hc18, hL9⟩ := bd_some hL9
            refine DWp.drawn (B := [0, 0, 3, 7, 15, 15, 15, 111, 239, 15, 15, 1039, 3599, 7695, 16383, 32767, 65535, 131071]) 18 mixed (by kernel_rfl) (by decide) fun K hK => ?_
            simp [-aBin', -aBin, -aBinI, -aUn, -aNil, -flatV, n_fn, b_add, b_sub, b_mul, b_lt, b_le, b_gt, b_ge, b_eq, b_ne, u_not, e3_0, e3_1, e3_2, e3_3, e3_9, e3_10, hb11, q13, q14, q16, q17, (((S3_.rd (k := 0) rfl).rowAt [] g12).tup), (((S3_.rd (k := 0) rfl).rowAt [] g15).tup)]
            refine CallD.t (hx3 _ A3_ (gat nilV D1_0 y2_9) (gat nilV D1_0 (isub .i64 y2_9 1)) (gat [] l1_0 y2_9) (gat [] l1_0 (isub .i64 y2_9 1)) _ ((S3_.rd (k := 0) rfl).rowAt [] g12) ((S3_.rd (k := 0) rfl).rowAt [] g15) hc18) ?_
            rintro _ G19 ⟨a22, rfl, S23⟩
            have A21 := A3_.ext (hB.le A3_.1) a22.agree
            have S20 : Sep G19 B [rowsC v0 22 3 D1_0 (List.map ints l1_0)] := S3_.agree a22.agree
            simp [-aBin', -aBin, -aBinI, -aUn, -aNil, -flatV, n_fn, b_add, b_sub, b_mul, b_lt, b_le, b_gt, b_ge, b_eq, b_ne, u_not, e3_0, e3_1, e3_2, e3_3, e3_9, e3_10, hb11, q13, q14, q16, q17, a22.pre]
            apply hK
            clear hK K
            simp only [andThen, leaves]
            refine DWp.cond' (t := (bnot (ilt r1 0))) (by simp [e3_0, e3_1, e3_2, e3_3, e3_9, e3_10]) (fun hb24 => ?_) (fun hb24 => ?_)
            · replace hL9 := cd_t hb24 hL9
              refine DWp.skip ?_
              simp only [andThen, leaves]
              refine DWp.block ?_
              refine DWp.region fun K hK => ?_
              simp [-aBin', -aBin, -aBinI, -aUn, -aNil, -flatV, n_fn, b_add, b_sub, b_mul, b_lt, b_le, b_gt, b_ge, b_eq, b_ne, u_not, e3_0, e3_1, e3_2, e3_3, e3_9, e3_10]
              apply hK
              clear hK K
              simp only [andThen, leaves]
              have S25 := S20.pick [0] (by decide) rfl
              exact ⟨n3, Nat.lt_succ_self _, (iadd .i64 y2_9 1), hL9, S25, A21, by simp [e3_0, e3_1, e3_2, e3_3, e3_9, e3_10], by simp [e3_0, e3_1, e3_2, e3_3, e3_9, e3_10], by simp [e3_0, e3_1, e3_2, e3_3, e3_9, e3_10], by simp [e3_0, e3_1, e3_2, e3_3, e3_9, e3_10], by simp [e3_0, e3_1, e3_2, e3_3, e3_9, e3_10], by simp [e3_0, e3_1, e3_2, e3_3, e3_9, e3_10]⟩
            · replace hL9 := cd_f hb24 hL9
              refine DWp.exit ?_
              simp only [andThen, leaves, if_true, if_false, reduceIte, Nat.reduceEqDiff]
              obtain rfl := Option.some.inj hL9
              have S26 := S20.pick [0] (by decide) rfl
              obtain rfl := Option.some.inj hL6
              exact ⟨S26, A21, by simp [e3_0, e3_1, e3_2, e3_3, e3_9, e3_10], by simp [e3_0, e3_1, e3_2, e3_3, e3_9, e3_10], by simp [e3_0, e3_1, e3_2, e3_3, e3_9, e3_10], by simp [e3_0, e3_1, e3_2, e3_3, e3_9, e3_10], by simp [e3_0, e3_1, e3_2, e3_3, e3_9, e3_10], by simp [e3_0, e3_1, e3_2, e3_3, e3_9, e3_10]⟩
          · replace hL9 := cd_f hb11 hL9
            refine DWp.drawn (B := [0, 0, 3, 7, 15, 15, 15, 111, 239, 15, 15, 1039, 3599, 7695, 16383, 32767, 65535, 131071]) 18 mixed (by kernel_rfl) (by decide) fun K hK => ?_
            simp [-aBin', -aBin, -aBinI, -aUn, -aNil, -flatV, n_fn, b_add, b_sub, b_mul, b_lt, b_le, b_gt, b_ge, b_eq, b_ne, u_not, e3_0, e3_1, e3_2, e3_3, e3_9, e3_10, hb11]
            apply hK
            clear hK K
            simp only [andThen, leaves]
            refine DWp.cf (by simp [e3_0, e3_1, e3_2, e3_3, e3_9, e3_10, bnot]) ?_
            refine DWp.exit ?_
            simp only [andThen, leaves, if_true, if_false, reduceIte, Nat.reduceEqDiff]
            obtain rfl := Option.some.inj hL9
            have S27 := S3_.pick [0] (by decide) rfl
            obtain rfl := Option.some.inj hL6
            exact ⟨S27, A3_, by simp [e3_0, e3_1, e3_2, e3_3, e3_9, e3_10], by simp [e3_0, e3_1, e3_2, e3_3, e3_9, e3_10], by simp [e3_0, e3_1, e3_2, e3_3, e3_9, e3_10], by simp [e3_0, e3_1, e3_2, e3_3, e3_9, e3_10], by simp [e3_0, e3_1, e3_2, e3_3, e3_9, e3_10], by simp [e3_0, e3_1, e3_2, e3_3, e3_9, e3_10]⟩
      · rintro env Gj28 ⟨Sj28, Aj28, ej28_0, ej28_1, ej28_2, ej28_3, ej28_9, ej28_10⟩
        refine DWp.seq ?_
        refine DWp.seq ?_
        refine DWp.region fun K hK => ?_
        simp [-aBin', -aBin, -aBinI, -aUn, -aNil, -flatV, n_fn, b_add, b_sub, b_mul, b_lt, b_le, b_gt, b_ge, b_eq, b_ne, u_not, ej28_0, ej28_1, ej28_2, ej28_3, ej28_9, ej28_10]
        apply hK
        clear hK K
        simp only [andThen, leaves]
        refine DWp.cond' (t := (ieq s5 x2)) (by simp [ej28_0, ej28_1, ej28_2, ej28_3, ej28_9, ej28_10]) (fun hb29 => ?_) (fun hb29 => ?_)
        · replace hL2 := cd_t hb29 hL2
          refine DWp.seq ?_
          refine DWp.region fun K hK => ?_
          simp [-aBin', -aBin, -aBinI, -aUn, -aNil, -flatV, n_fn, b_add, b_sub, b_mul, b_lt, b_le, b_gt, b_ge, b_eq, b_ne, u_not, ej28_0, ej28_1, ej28_2, ej28_3, ej28_9, ej28_10]
          apply hK
          clear hK K
          simp only [andThen, leaves]
          refine DWp.ret ?_
          simp only [andThen, leaves]
          obtain rfl := Option.some.inj hL2
          simp only [lr] at hF
          obtain rfl := Option.some.inj hF
          exact ⟨by simp, [(Value.bool true)], by simp [ej28_0, ej28_1, ej28_2, ej28_3, ej28_9, ej28_10], Aj28, D1_0, rfl, Sj28.pick [0] (by decide) rfl⟩
        · replace hL2 := cd_f hb29 hL2
          refine DWp.skip ?_
          simp only [andThen, leaves]
          refine DWp.seq ?_
          refine DWp.seq ?_
          refine DWp.region fun K hK => ?_
          simp [-aBin', -aBin, -aBinI, -aUn, -aNil, -flatV, n_fn, b_add, b_sub, b_mul, b_lt, b_le, b_gt, b_ge, b_eq, b_ne, u_not, ej28_0, ej28_1, ej28_2, ej28_3, ej28_9, ej28_10]
          apply hK
          clear hK K
          simp only [andThen, leaves]
          refine DWp.cond' (t := (ilt (isub .i64 x2 x1) 50)) (by simp [ej28_0, ej28_1, ej28_2, ej28_3, ej28_9, ej28_10]) (fun hb30 => ?_) (fun hb30 => ?_)
          · replace hL2 := cd_t hb30 hL2
            refine DWp.seq ?_
            refine DWp.region fun K hK => ?_
            simp [-aBin', -aBin, -aBinI, -aUn, -aNil, -flatV, n_fn, b_add, b_sub, b_mul, b_lt, b_le, b_gt, b_ge, b_eq, b_ne, u_not, ej28_0, ej28_1, ej28_2, ej28_3, ej28_9, ej28_10]
            apply hK
            clear hK K
            simp only [andThen, leaves]
            refine DWp.ret ?_
            simp only [andThen, leaves]
            obtain rfl := Option.some.inj hL2
            simp only [lr] at hF
            obtain rfl := Option.some.inj hF
            exact ⟨by simp, [(Value.bool false)], by simp [ej28_0, ej28_1, ej28_2, ej28_3, ej28_9, ej28_10], Aj28, D1_0, rfl, Sj28.pick [0] (by decide) rfl⟩
          · replace hL2 := cd_f hb30 hL2
            refine DWp.skip ?_
            simp only [andThen, leaves]
            refine DWp.seq ?_
            obtain ⟨g31, hL2⟩ := gd_some hL2
            have q32 := (Sj28.rd (k := 0) rfl).idxG (P := Try.prog) (kk := .i64) el_23 sz_22 g31
            have q33 := (Sj28.rd (k := 0) rfl).loadG (P := Try.prog) sz_22 ag_22 g31
            obtain ⟨g34, hL2⟩ := gd_some hL2
            have q35 := (Sj28.rd (k := 0) rfl).idxG (P := Try.prog) (kk := .i64) el_23 sz_22 g34
            have q36 := (Sj28.rd (k := 0) rfl).loadG (P := Try.prog) sz_22 ag_22 g34
            obtain ⟨g37, hL2⟩ := gd_some hL2
            have q38 := (Sj28.rd (k := 0) rfl).idxG (P := Try.prog) (kk := .i64) el_23 sz_22 g37
            obtain ⟨G44, q45, S46, a48⟩ := Sj28.swap1 (fr := ints) (P := Try.prog) (k := 0) [] rfl (hB.le Aj28.1) sz_22 g37 g31
            have A47 := Aj28.trans a48
            replace S46 : Sep G44 B [rowsS v0 22 3 (lset D1_0 s5 (gat nilV D1_0 (isub .i64 s5 1))) D1_0 (List.map ints l1_0)] := S46
            obtain ⟨g49, hL2⟩ := gd_some hL2
            have q50 := S46.idxS (P := Try.prog) (ki := .i64) (kk := 0) rfl el_23 sz_22 g49
            obtain ⟨G56, q57, S58, a60⟩ := S46.swap2 (fr := ints) (P := Try.prog) (k := 0) [] rfl (hB.le A47.1) sz_22 g37 g31
            have A59 := A47.trans a60
            replace S58 : Sep G56 B [rowsC v0 22 3 (lset (lset D1_0 s5 (gat nilV D1_0 (isub .i64 s5 1))) (isub .i64 s5 1) (gat nilV D1_0 s5)) (List.map ints (lset (lset l1_0 s5 (gat [] l1_0 (isub .i64 s5 1))) (isub .i64 s5 1) (gat [] l1_0 s5)))] := S58
            refine DWp.drawn (B := [0, 0, 0, 0, 8, 0, 0, 64, 224, 480, 0, 0, 3072, 7168, 16355, 32739, 65535, 131071]) 15 mixed (by kernel_rfl) (by decide) fun K hK => ?_
            simp [-aBin', -aBin, -aBinI, -aUn, -aNil, -flatV, n_fn, b_add, b_sub, b_mul, b_lt, b_le, b_gt, b_ge, b_eq, b_ne, u_not, ej28_0, ej28_1, ej28_2, ej28_3, ej28_9, ej28_10, q32, q33, q35, q36, q38, (((Sj28.rd (k := 0) rfl).rowAt [] g31).tup), q45, q50, q57]
            apply hK
            clear hK K
            simp only [andThen, leaves]
            obtain ⟨s61, hL62, hL2⟩ := bd_some hL2
            refine DWp.seq (DWp.join (fun env G => ∃ Dj2_0 : List Value, Sep G B [rowsC v0 22 3 Dj2_0 (List.map ints s61)] ∧ AgB B H G ∧ env 0 = some v0 ∧ env 1 = some (Value.int .i64 x1) ∧ env 2 = some (Value.int .i64 x2) ∧ env 3 = some (Value.func (.func f3) #[] c3.toArray) ∧ env 9 = some (Value.int .i64 s5) ∧ env 10 = some (Value.int .i64 y1_10)) ?_ ?_)
            ·
              refine DWp.seq ?_
              refine DWp.region fun K hK => ?_
              simp [-aBin', -aBin, -aBinI, -aUn, -aNil, -flatV, n_fn, b_add, b_sub, b_mul, b_lt, b_le, b_gt, b_ge, b_eq, b_ne, u_not, ej28_0, ej28_1, ej28_2, ej28_3, ej28_9, ej28_10]
              apply hK
              clear hK K
              simp only [andThen, leaves]
              refine DWp.cond' (t := (ile 2 (isub .i64 s5 x1))) (by simp [ej28_0, ej28_1, ej28_2, ej28_3, ej28_9, ej28_10]) (fun hb64 => ?_) (fun hb64 => ?_)
              · replace hL62 := cd_t hb64 hL62
                refine DWp.seq ?_
                refine DWp.region fun K hK => ?_
                simp [-aBin', -aBin, -aBinI, -aUn, -aNil, -flatV, n_fn, b_add, b_sub, b_mul, b_lt, b_le, b_gt, b_ge, b_eq, b_ne, u_not, ej28_0, ej28_1, ej28_2, ej28_3, ej28_9, ej28_10]
                apply hK
                clear hK K
                simp only [andThen, leaves]
                refine DWp.block ?_
                obtain ⟨s65, hL66, hL62⟩ := bd_some hL62
                have S67 := S58.pick [0] (by decide) rfl
                refine DWp.loop (fun n env G => ∃ l3_0 : List (List Int), ∃ y3_11 : Int, ∃ D3_0 : List Value, F_slices_partialInsertionSortCmpFunc_Sint_L3 fu x1 x2 x3 s5 y1_10 n l3_0 y3_11 = some s65 ∧ Sep G B [rowsC v0 22 3 D3_0 (List.map ints l3_0)] ∧ AgB B H G ∧ env 0 = some v0 ∧ env 1 = some (Value.int .i64 x1) ∧ env 2 = some (Value.int .i64 x2) ∧ env 3 = some (Value.func (.func f3) #[] c3.toArray) ∧ env 9 = some (Value.int .i64 s5) ∧ env 10 = some (Value.int .i64 y1_10) ∧ env 11 = some (Value.int .i64 y3_11)) fu ⟨(lset (lset l1_0 s5 (gat [] l1_0 (isub .i64 s5 1))) (isub .i64 s5 1) (gat [] l1_0 s5)), (isub .i64 s5 1), (lset (lset D1_0 s5 (gat nilV D1_0 (isub .i64 s5 1))) (isub .i64 s5 1) (gat nilV D1_0 s5)), hL66, S67, A59, by simp [ej28_0, ej28_1, ej28_2, ej28_3, ej28_9, ej28_10], by simp [ej28_0, ej28_1, ej28_2, ej28_3, ej28_9, ej28_10], by simp [ej28_0, ej28_1, ej28_2, ej28_3, ej28_9, ej28_10], by simp [ej28_0, ej28_1, ej28_2, ej28_3, ej28_9, ej28_10], by simp [ej28_0, ej28_1, ej28_2, ej28_3, ej28_9, ej28_10], by simp [ej28_0, ej28_1, ej28_2, ej28_3, ej28_9, ej28_10], by simp [ej28_0, ej28_1, ej28_2, ej28_3, ej28_9, ej28_10]⟩ ?_
                rintro n3 env3 G3_ ⟨l3_0, y3_11, D3_0, hL66, S3_, A3_, e3_0, e3_1, e3_2, e3_3, e3_9, e3_10, e3_11⟩
                cases n3 with
                | zero => cases hL66
                | succ n3 =>
                  simp only [F_slices_partialInsertionSortCmpFunc_Sint_L3] at hL66
                  refine DWp.seq ?_
                  refine DWp.seq ?_
                  refine DWp.region fun K hK => ?_
                  simp [-aBin', -aBin, -aBinI, -aUn, -aNil, -flatV, n_fn, b_add, b_sub, b_mul, b_lt, b_le, b_gt, b_ge, b_eq, b_ne, u_not, e3_0, e3_1, e3_2, e3_3, e3_9, e3_10, e3_11]
                  apply hK
                  clear hK K
                  simp only [andThen, leaves]
                  refine DWp.cond' (t := (ile 1 y3_11)) (by simp [e3_0, e3_1, e3_2, e3_3, e3_9, e3_10, e3_11]) (fun hb68 => ?_) (fun hb68 => ?_)
                  · replace hL66 := cd_t hb68 hL66
                    refine DWp.skip ?_
                    simp only [andThen, leaves]
                    refine DWp.seq ?_
                    refine DWp.block ?_
                    refine DWp.seq ?_
                    refine DWp.seq ?_
                    obtain ⟨g69, hL66⟩ := gd_some hL66
                    have q70 := (S3_.rd (k := 0) rfl).idxG (P := Try.prog) (kk := .i64) el_23 sz_22 g69
                    have q71 := (S3_.rd (k := 0) rfl).loadG (P := Try.prog) sz_22 ag_22 g69
                    obtain ⟨g72, hL66⟩ := gd_some hL66
                    have q73 := (S3_.rd (k := 0) rfl).idxG (P := Try.prog) (kk := .i64) el_23 sz_22 g72
                    have q74 := (S3_.rd (k := 0) rfl).loadG (P := Try.prog) sz_22 ag_22 g72
                    obtain ⟨r2, hc75, hL66⟩ := bd_some hL66
                    refine DWp.drawn (B := [0, 0, 0, 6, 14, 0, 0, 64, 224, 480, 1023, 2047, 4095]) 13 mixed (by kernel_rfl) (by decide) fun K hK => ?_
                    simp [-aBin', -aBin, -aBinI, -aUn, -aNil, -flatV, n_fn, b_add, b_sub, b_mul, b_lt, b_le, b_gt, b_ge, b_eq, b_ne, u_not, e3_0, e3_1, e3_2, e3_3, e3_9, e3_10, e3_11, q70, q71, q73, q74, (((S3_.rd (k := 0) rfl).rowAt [] g69).tup), (((S3_.rd (k := 0) rfl).rowAt [] g72).tup)]
                    refine CallD.t (hx3 _ A3_ (gat nilV D3_0 y3_11) (gat nilV D3_0 (isub .i64 y3_11 1)) (gat [] l3_0 y3_11) (gat [] l3_0 (isub .i64 y3_11 1)) _ ((S3_.rd (k := 0) rfl).rowAt [] g69) ((S3_.rd (k := 0) rfl).rowAt [] g72) hc75) ?_
                    rintro _ G76 ⟨a79, rfl, S80⟩
                    have A78 := A3_.ext (hB.le A3_.1) a79.agree
                    have S77 : Sep G76 B [rowsC v0 22 3 D3_0 (List.map ints l3_0)] := S3_.agree a79.agree
                    simp [-aBin', -aBin, -aBinI, -aUn, -aNil, -flatV, n_fn, b_add, b_sub, b_mul, b_lt, b_le, b_gt, b_ge, b_eq, b_ne, u_not, e3_0, e3_1, e3_2, e3_3, e3_9, e3_10, e3_11, q70, q71, q73, q74, a79.pre]
                    apply hK
                    clear hK K
                    simp only [andThen, leaves]
                    refine DWp.cond' (t := (bnot (ilt r2 0))) (by simp [e3_0, e3_1, e3_2, e3_3, e3_9, e3_10, e3_11]) (fun hb81 => ?_) (fun hb81 => ?_)
                    · replace hL66 := cd_t hb81 hL66
                      refine DWp.exit ?_
                      simp only [andThen, leaves, if_true, if_false, reduceIte, Nat.reduceEqDiff]
                      obtain rfl := Option.some.inj hL66
                      try dsimp only at hL62
                      have S82 := S77.pick [0] (by decide) rfl
                      obtain rfl := Option.some.inj hL62
                      exact ⟨D3_0, S82, A78, by simp [e3_0, e3_1, e3_2, e3_3, e3_9, e3_10, e3_11], by simp [e3_0, e3_1, e3_2, e3_3, e3_9, e3_10, e3_11], by simp [e3_0, e3_1, e3_2, e3_3, e3_9, e3_10, e3_11], by simp [e3_0, e3_1, e3_2, e3_3, e3_9, e3_10, e3_11], by simp [e3_0, e3_1, e3_2, e3_3, e3_9, e3_10, e3_11], by simp [e3_0, e3_1, e3_2, e3_3, e3_9, e3_10, e3_11]⟩
                    · replace hL66 := cd_f hb81 hL66
                      refine DWp.skip ?_
                      simp only [andThen, leaves]
                      obtain ⟨g83, hL66⟩ := gd_some hL66
                      have q84 := (S77.rd (k := 0) rfl).idxG (P := Try.prog) (kk := .i64) el_23 sz_22 g83
                      have q85 := (S77.rd (k := 0) rfl).loadG (P := Try.prog) sz_22 ag_22 g83
                      obtain ⟨g86, hL66⟩ := gd_some hL66
                      have q87 := (S77.rd (k := 0) rfl).idxG (P := Try.prog) (kk := .i64) el_23 sz_22 g86
                      have q88 := (S77.rd (k := 0) rfl).loadG (P := Try.prog) sz_22 ag_22 g86
                      obtain ⟨g89, hL66⟩ := gd_some hL66
                      have q90 := (S77.rd (k := 0) rfl).idxG (P := Try.prog) (kk := .i64) el_23 sz_22 g89
                      obtain ⟨G96, q97, S98, a100⟩ := S77.swap1 (fr := ints) (P := Try.prog) (k := 0) [] rfl (hB.le A78.1) sz_22 g89 g83
                      have A99 := A78.trans a100
                      replace S98 : Sep G96 B [rowsS v0 22 3 (lset D3_0 y3_11 (gat nilV D3_0 (isub .i64 y3_11 1))) D3_0 (List.map ints l3_0)] := S98
                      obtain ⟨g101, hL66⟩ := gd_some hL66
                      have q102 := S98.idxS (P := Try.prog) (ki := .i64) (kk := 0) rfl el_23 sz_22 g101
                      obtain ⟨G108, q109, S110, a112⟩ := S98.swap2 (fr := ints) (P := Try.prog) (k := 0) [] rfl (hB.le A99.1) sz_22 g89 g83
                      have A111 := A99.trans a112
                      replace S110 : Sep G108 B [rowsC v0 22 3 (lset (lset D3_0 y3_11 (gat nilV D3_0 (isub .i64 y3_11 1))) (isub .i64 y3_11 1) (gat nilV D3_0 y3_11)) (List.map ints (lset (lset l3_0 y3_11 (gat [] l3_0 (isub .i64 y3_11 1))) (isub .i64 y3_11 1) (gat [] l3_0 y3_11)))] := S110
                      refine DWp.drawn (B := [0, 0, 0, 0, 8, 0, 0, 64, 224, 480, 0, 0, 3072, 7168, 16355, 32739, 65535, 131071]) 15 mixed (by kernel_rfl) (by decide) fun K hK => ?_
                      simp [-aBin', -aBin, -aBinI, -aUn, -aNil, -flatV, n_fn, b_add, b_sub, b_mul, b_lt, b_le, b_gt, b_ge, b_eq, b_ne, u_not, e3_0, e3_1, e3_2, e3_3, e3_9, e3_10, e3_11, q84, q85, q87, q88, q90, (((S77.rd (k := 0) rfl).rowAt [] g83).tup), q97, q102, q109]
                      apply hK
                      clear hK K
                      simp only [andThen, leaves]
                      refine DWp.region fun K hK => ?_
                      simp [-aBin', -aBin, -aBinI, -aUn, -aNil, -flatV, n_fn, b_add, b_sub, b_mul, b_lt, b_le, b_gt, b_ge, b_eq, b_ne, u_not, e3_0, e3_1, e3_2, e3_3, e3_9, e3_10, e3_11]
                      apply hK
                      clear hK K
                      simp only [andThen, leaves]
                      have S113 := S110.pick [0] (by decide) rfl
                      exact ⟨n3, Nat.lt_succ_self _, (lset (lset l3_0 y3_11 (gat [] l3_0 (isub .i64 y3_11 1))) (isub .i64 y3_11 1) (gat [] l3_0 y3_11)), (isub .i64 y3_11 1), (lset (lset D3_0 y3_11 (gat nilV D3_0 (isub .i64 y3_11 1))) (isub .i64 y3_11 1) (gat nilV D3_0 y3_11)), hL66, S113, A111, by simp [e3_0, e3_1, e3_2, e3_3, e3_9, e3_10, e3_11], by simp [e3_0, e3_1, e3_2, e3_3, e3_9, e3_10, e3_11], by simp [e3_0, e3_1, e3_2, e3_3, e3_9, e3_10, e3_11], by simp [e3_0, e3_1, e3_2, e3_3, e3_9, e3_10, e3_11], by simp [e3_0, e3_1, e3_2, e3_3, e3_9, e3_10, e3_11], by simp [e3_0, e3_1, e3_2, e3_3, e3_9, e3_10, e3_11], by simp [e3_0, e3_1, e3_2, e3_3, e3_9, e3_10, e3_11]⟩
                  · replace hL66 := cd_f hb68 hL66
                    refine DWp.exit ?_
                    simp only [andThen, leaves, if_true, if_false, reduceIte, Nat.reduceEqDiff]
                    obtain rfl := Option.some.inj hL66
                    try dsimp only at hL62
                    have S114 := S3_.pick [0] (by decide) rfl
                    obtain rfl := Option.some.inj hL62
                    exact ⟨D3_0, S114, A3_, by simp [e3_0, e3_1, e3_2, e3_3, e3_9, e3_10, e3_11], by simp [e3_0, e3_1, e3_2, e3_3, e3_9, e3_10, e3_11], by simp [e3_0, e3_1, e3_2, e3_3, e3_9, e3_10, e3_11], by simp [e3_0, e3_1, e3_2, e3_3, e3_9, e3_10, e3_11], by simp [e3_0, e3_1, e3_2, e3_3, e3_9, e3_10, e3_11], by simp [e3_0, e3_1, e3_2, e3_3, e3_9, e3_10, e3_11]⟩
              · replace hL62 := cd_f hb64 hL62
                refine DWp.skip ?_
                simp only [andThen, leaves]
                have S115 := S58.pick [0] (by decide) rfl
                obtain rfl := Option.some.inj hL62
                exact ⟨(lset (lset D1_0 s5 (gat nilV D1_0 (isub .i64 s5 1))) (isub .i64 s5 1) (gat nilV D1_0 s5)), S115, A59, by simp [ej28_0, ej28_1, ej28_2, ej28_3, ej28_9, ej28_10], by simp [ej28_0, ej28_1, ej28_2, ej28_3, ej28_9, ej28_10], by simp [ej28_0, ej28_1, ej28_2, ej28_3, ej28_9, ej28_10], by simp [ej28_0, ej28_1, ej28_2, ej28_3, ej28_9, ej28_10], by simp [ej28_0, ej28_1, ej28_2, ej28_3, ej28_9, ej28_10], by simp [ej28_0, ej28_1, ej28_2, ej28_3, ej28_9, ej28_10]⟩
            · rintro env Gj116 ⟨Dj2_0, Sj116, Aj116, ej116_0, ej116_1, ej116_2, ej116_3, ej116_9, ej116_10⟩
              refine DWp.seq ?_
              refine DWp.region fun K hK => ?_
              simp [-aBin', -aBin, -aBinI, -aUn, -aNil, -flatV, n_fn, b_add, b_sub, b_mul, b_lt, b_le, b_gt, b_ge, b_eq, b_ne, u_not, ej116_0, ej116_1, ej116_2, ej116_3, ej116_9, ej116_10]
              apply hK
              clear hK K
              simp only [andThen, leaves]
              refine DWp.cond' (t := (ile 2 (isub .i64 x2 s5))) (by simp [ej116_0, ej116_1, ej116_2, ej116_3, ej116_9, ej116_10]) (fun hb117 => ?_) (fun hb117 => ?_)
              · replace hL2 := cd_t hb117 hL2
                refine DWp.seq ?_
                refine DWp.region fun K hK => ?_
                simp [-aBin', -aBin, -aBinI, -aUn, -aNil, -flatV, n_fn, b_add, b_sub, b_mul, b_lt, b_le, b_gt, b_ge, b_eq, b_ne, u_not, ej116_0, ej116_1, ej116_2, ej116_3, ej116_9, ej116_10]
                apply hK
                clear hK K
                simp only [andThen, leaves]
                refine DWp.block ?_
                obtain ⟨s118, hL119, hL2⟩ := bd_some hL2
                have S120 := Sj116.pick [0] (by decide) rfl
                refine DWp.loop (fun n env G => ∃ l4_0 : List (List Int), ∃ y4_12 : Int, ∃ D4_0 : List Value, F_slices_partialInsertionSortCmpFunc_Sint_L4 fu x1 x2 x3 s5 y1_10 n l4_0 y4_12 = some s118 ∧ Sep G B [rowsC v0 22 3 D4_0 (List.map ints l4_0)] ∧ AgB B H G ∧ env 0 = some v0 ∧ env 1 = some (Value.int .i64 x1) ∧ env 2 = some (Value.int .i64 x2) ∧ env 3 = some (Value.func (.func f3) #[] c3.toArray) ∧ env 9 = some (Value.int .i64 s5) ∧ env 10 = some (Value.int .i64 y1_10) ∧ env 12 = some (Value.int .i64 y4_12)) fu ⟨s61, (iadd .i64 s5 1), Dj2_0, hL119, S120, Aj116, by simp [ej116_0, ej116_1, ej116_2, ej116_3, ej116_9, ej116_10], by simp [ej116_0, ej116_1, ej116_2, ej116_3, ej116_9, ej116_10], by simp [ej116_0, ej116_1, ej116_2, ej116_3, ej116_9, ej116_10], by simp [ej116_0, ej116_1, ej116_2, ej116_3, ej116_9, ej116_10], by simp [ej116_0, ej116_1, ej116_2, ej116_3, ej116_9, ej116_10], by simp [ej116_0, ej116_1, ej116_2, ej116_3, ej116_9, ej116_10], by simp [ej116_0, ej116_1, ej116_2, ej116_3, ej116_9, ej116_10]⟩ ?_
                rintro n2 env2 G2_ ⟨l4_0, y4_12, D4_0, hL119, S2_, A2_, e2_0, e2_1, e2_2, e2_3, e2_9, e2_10, e2_12⟩
                cases n2 with
                | zero => cases hL119
                | succ n2 =>
                  simp only [F_slices_partialInsertionSortCmpFunc_Sint_L4] at hL119
                  refine DWp.seq ?_
                  refine DWp.seq ?_
                  refine DWp.region fun K hK => ?_
                  simp [-aBin', -aBin, -aBinI, -aUn, -aNil, -flatV, n_fn, b_add, b_sub, b_mul, b_lt, b_le, b_gt, b_ge, b_eq, b_ne, u_not, e2_0, e2_1, e2_2, e2_3, e2_9, e2_10, e2_12]
                  apply hK
                  clear hK K
                  simp only [andThen, leaves]
                  refine DWp.cond' (t := (ilt y4_12 x2)) (by simp [e2_0, e2_1, e2_2, e2_3, e2_9, e2_10, e2_12]) (fun hb121 => ?_) (fun hb121 => ?_)
                  · replace hL119 := cd_t hb121 hL119
                    refine DWp.skip ?_
                    simp only [andThen, leaves]
                    refine DWp.seq ?_
                    refine DWp.block ?_
                    refine DWp.seq ?_
                    refine DWp.seq ?_
                    obtain ⟨g122, hL119⟩ := gd_some hL119
                    have q123 := (S2_.rd (k := 0) rfl).idxG (P := Try.prog) (kk := .i64) el_23 sz_22 g122
                    have q124 := (S2_.rd (k := 0) rfl).loadG (P := Try.prog) sz_22 ag_22 g122
                    obtain ⟨g125, hL119⟩ := gd_some hL119
                    have q126 := (S2_.rd (k := 0) rfl).idxG (P := Try.prog) (kk := .i64) el_23 sz_22 g125
                    have q127 := (S2_.rd (k := 0) rfl).loadG (P := Try.prog) sz_22 ag_22 g125
                    obtain ⟨r3, hc128, hL119⟩ := bd_some hL119
                    refine DWp.drawn (B := [0, 0, 0, 6, 14, 0, 0, 64, 224, 480, 1023, 2047, 4095]) 13 mixed (by kernel_rfl) (by decide) fun K hK => ?_
                    simp [-aBin', -aBin, -aBinI, -aUn, -aNil, -flatV, n_fn, b_add, b_sub, b_mul, b_lt, b_le, b_gt, b_ge, b_eq, b_ne, u_not, e2_0, e2_1, e2_2, e2_3, e2_9, e2_10, e2_12, q123, q124, q126, q127, (((S2_.rd (k := 0) rfl).rowAt [] g122).tup), (((S2_.rd (k := 0) rfl).rowAt [] g125).tup)]
                    refine CallD.t (hx3 _ A2_ (gat nilV D4_0 y4_12) (gat nilV D4_0 (isub .i64 y4_12 1)) (gat [] l4_0 y4_12) (gat [] l4_0 (isub .i64 y4_12 1)) _ ((S2_.rd (k := 0) rfl).rowAt [] g122) ((S2_.rd (k := 0) rfl).rowAt [] g125) hc128) ?_
                    rintro _ G129 ⟨a132, rfl, S133⟩
                    have A131 := A2_.ext (hB.le A2_.1) a132.agree
                    have S130 : Sep G129 B [rowsC v0 22 3 D4_0 (List.map ints l4_0)] := S2_.agree a132.agree
                    simp [-aBin', -aBin, -aBinI, -aUn, -aNil, -flatV, n_fn, b_add, b_sub, b_mul, b_lt, b_le, b_gt, b_ge, b_eq, b_ne, u_not, e2_0, e2_1, e2_2, e2_3, e2_9, e2_10, e2_12, q123, q124, q126, q127, a132.pre]
                    apply hK
                    clear hK K
                    simp only [andThen, leaves]
                    refine DWp.cond' (t := (bnot (ilt r3 0))) (by simp [e2_0, e2_1, e2_2, e2_3, e2_9, e2_10, e2_12]) (fun hb134 => ?_) (fun hb134 => ?_)
                    · replace hL119 := cd_t hb134 hL119
                      refine DWp.exit ?_
                      simp only [andThen, leaves, if_true, if_false, reduceIte, Nat.reduceEqDiff]
                      obtain rfl := Option.some.inj hL119
                      try dsimp only at hL2
                      refine DWp.region fun K hK => ?_
                      simp [-aBin', -aBin, -aBinI, -aUn, -aNil, -flatV, n_fn, b_add, b_sub, b_mul, b_lt, b_le, b_gt, b_ge, b_eq, b_ne, u_not, e2_0, e2_1, e2_2, e2_3, e2_9, e2_10, e2_12]
                      apply hK
                      clear hK K
                      simp only [andThen, leaves]
                      have S135 := S130.pick [0] (by decide) rfl
                      exact ⟨n1, Nat.lt_succ_self _, l4_0, s5, (iadd .i64 y1_10 1), D4_0, hL2, S135, A131, by simp [e2_0, e2_1, e2_2, e2_3, e2_9, e2_10, e2_12], by simp [e2_0, e2_1, e2_2, e2_3, e2_9, e2_10, e2_12], by simp [e2_0, e2_1, e2_2, e2_3, e2_9, e2_10, e2_12], by simp [e2_0, e2_1, e2_2, e2_3, e2_9, e2_10, e2_12], by simp [e2_0, e2_1, e2_2, e2_3, e2_9, e2_10, e2_12], by simp [e2_0, e2_1, e2_2, e2_3, e2_9, e2_10, e2_12]⟩
                    · replace hL119 := cd_f hb134 hL119
                      refine DWp.skip ?_
                      simp only [andThen, leaves]
                      obtain ⟨g136, hL119⟩ := gd_some hL119
                      have q137 := (S130.rd (k := 0) rfl).idxG (P := Try.prog) (kk := .i64) el_23 sz_22 g136
                      have q138 := (S130.rd (k := 0) rfl).loadG (P := Try.prog) sz_22 ag_22 g136
                      obtain ⟨g139, hL119⟩ := gd_some hL119
                      have q140 := (S130.rd (k := 0) rfl).idxG (P := Try.prog) (kk := .i64) el_23 sz_22 g139
                      have q141 := (S130.rd (k := 0) rfl).loadG (P := Try.prog) sz_22 ag_22 g139
                      obtain ⟨g142, hL119⟩ := gd_some hL119
                      have q143 := (S130.rd (k := 0) rfl).idxG (P := Try.prog) (kk := .i64) el_23 sz_22 g142
                      obtain ⟨G149, q150, S151, a153⟩ := S130.swap1 (fr := ints) (P := Try.prog) (k := 0) [] rfl (hB.le A131.1) sz_22 g142 g136
                      have A152 := A131.trans a153
                      replace S151 : Sep G149 B [rowsS v0 22 3 (lset D4_0 y4_12 (gat nilV D4_0 (isub .i64 y4_12 1))) D4_0 (List.map ints l4_0)] := S151
                      obtain ⟨g154, hL119⟩ := gd_some hL119
                      have q155 := S151.idxS (P := Try.prog) (ki := .i64) (kk := 0) rfl el_23 sz_22 g154
                      obtain ⟨G161, q162, S163, a165⟩ := S151.swap2 (fr := ints) (P := Try.prog) (k := 0) [] rfl (hB.le A152.1) sz_22 g142 g136
                      have A164 := A152.trans a165
                      replace S163 : Sep G161 B [rowsC v0 22 3 (lset (lset D4_0 y4_12 (gat nilV D4_0 (isub .i64 y4_12 1))) (isub .i64 y4_12 1) (gat nilV D4_0 y4_12)) (List.map ints (lset (lset l4_0 y4_12 (gat [] l4_0 (isub .i64 y4_12 1))) (isub .i64 y4_12 1) (gat [] l4_0 y4_12)))] := S163
                      refine DWp.drawn (B := [0, 0, 0, 0, 8, 0, 0, 64, 224, 480, 0, 0, 3072, 7168, 16355, 32739, 65535, 131071]) 15 mixed (by kernel_rfl) (by decide) fun K hK => ?_
                      simp [-aBin', -aBin, -aBinI, -aUn, -aNil, -flatV, n_fn, b_add, b_sub, b_mul, b_lt, b_le, b_gt, b_ge, b_eq, b_ne, u_not, e2_0, e2_1, e2_2, e2_3, e2_9, e2_10, e2_12, q137, q138, q140, q141, q143, (((S130.rd (k := 0) rfl).rowAt [] g136).tup), q150, q155, q162]
                      apply hK
                      clear hK K
                      simp only [andThen, leaves]
                      refine DWp.region fun K hK => ?_
                      simp [-aBin', -aBin, -aBinI, -aUn, -aNil, -flatV, n_fn, b_add, b_sub, b_mul, b_lt, b_le, b_gt, b_ge, b_eq, b_ne, u_not, e2_0, e2_1, e2_2, e2_3, e2_9, e2_10, e2_12]
                      apply hK
                      clear hK K
                      simp only [andThen, leaves]
                      have S166 := S163.pick [0] (by decide) rfl
                      exact ⟨n2, Nat.lt_succ_self _, (lset (lset l4_0 y4_12 (gat [] l4_0 (isub .i64 y4_12 1))) (isub .i64 y4_12 1) (gat [] l4_0 y4_12)), (iadd .i64 y4_12 1), (lset (lset D4_0 y4_12 (gat nilV D4_0 (isub .i64 y4_12 1))) (isub .i64 y4_12 1) (gat nilV D4_0 y4_12)), hL119, S166, A164, by simp [e2_0, e2_1, e2_2, e2_3, e2_9, e2_10, e2_12], by simp [e2_0, e2_1, e2_2, e2_3, e2_9, e2_10, e2_12], by simp [e2_0, e2_1, e2_2, e2_3, e2_9, e2_10, e2_12], by simp [e2_0, e2_1, e2_2, e2_3, e2_9, e2_10, e2_12], by simp [e2_0, e2_1, e2_2, e2_3, e2_9, e2_10, e2_12], by simp [e2_0, e2_1, e2_2, e2_3, e2_9, e2_10, e2_12], by simp [e2_0, e2_1, e2_2, e2_3, e2_9, e2_10, e2_12]⟩
                  · replace hL119 := cd_f hb121 hL119
                    refine DWp.exit ?_
                    simp only [andThen, leaves, if_true, if_false, reduceIte, Nat.reduceEqDiff]
                    obtain rfl := Option.some.inj hL119
                    try dsimp only at hL2
                    refine DWp.region fun K hK => ?_
                    simp [-aBin', -aBin, -aBinI, -aUn, -aNil, -flatV, n_fn, b_add, b_sub, b_mul, b_lt, b_le, b_gt, b_ge, b_eq, b_ne, u_not, e2_0, e2_1, e2_2, e2_3, e2_9, e2_10, e2_12]
                    apply hK
                    clear hK K
                    simp only [andThen, leaves]
                    have S167 := S2_.pick [0] (by decide) rfl
                    exact ⟨n1, Nat.lt_succ_self _, l4_0, s5, (iadd .i64 y1_10 1), D4_0, hL2, S167, A2_, by simp [e2_0, e2_1, e2_2, e2_3, e2_9, e2_10, e2_12], by simp [e2_0, e2_1, e2_2, e2_3, e2_9, e2_10, e2_12], by simp [e2_0, e2_1, e2_2, e2_3, e2_9, e2_10, e2_12], by simp [e2_0, e2_1, e2_2, e2_3, e2_9, e2_10, e2_12], by simp [e2_0, e2_1, e2_2, e2_3, e2_9, e2_10, e2_12], by simp [e2_0, e2_1, e2_2, e2_3, e2_9, e2_10, e2_12]⟩
              · replace hL2 := cd_f hb117 hL2
                refine DWp.skip ?_
                simp only [andThen, leaves]
                refine DWp.region fun K hK => ?_
                simp [-aBin', -aBin, -aBinI, -aUn, -aNil, -flatV, n_fn, b_add, b_sub, b_mul, b_lt, b_le, b_gt, b_ge, b_eq, b_ne, u_not, ej116_0, ej116_1, ej116_2, ej116_3, ej116_9, ej116_10]
                apply hK
                clear hK K
                simp only [andThen, leaves]
                have S168 := Sj116.pick [0] (by decide) rfl
                exact ⟨n1, Nat.lt_succ_self _, s61, s5, (iadd .i64 y1_10 1), Dj2_0, hL2, S168, Aj116, by simp [ej116_0, ej116_1, ej116_2, ej116_3, ej116_9, ej116_10], by simp [ej116_0, ej116_1, ej116_2, ej116_3, ej116_9, ej116_10], by simp [ej116_0, ej116_1, ej116_2, ej116_3, ej116_9, ej116_10], by simp [ej116_0, ej116_1, ej116_2, ej116_3, ej116_9, ej116_10], by simp [ej116_0, ej116_1, ej116_2, ej116_3, ej116_9, ej116_10], by simp [ej116_0, ej116_1, ej116_2, ej116_3, ej116_9, ej116_10]⟩
    · replace hL2 := cd_f hb4 hL2
      refine DWp.exit ?_
      simp only [andThen, leaves, if_true, if_false, reduceIte, Nat.reduceEqDiff]
      obtain rfl := Option.some.inj hL2
      simp only [lr] at hF
      refine DWp.seq ?_
      refine DWp.region fun K hK => ?_
      simp [-aBin', -aBin, -aBinI, -aUn, -aNil, -flatV, n_fn, b_add, b_sub, b_mul, b_lt, b_le, b_gt, b_ge, b_eq, b_ne, u_not, e1_0, e1_1, e1_2, e1_3, e1_9, e1_10]
      apply hK
      clear hK K
      simp only [andThen, leaves]
      refine DWp.ret ?_
      obtain rfl := Option.some.inj hF
      exact ⟨by simp, [(Value.bool false)], by simp [e1_0, e1_1, e1_2, e1_3, e1_9, e1_10], A1_, D1_0, rfl, S1_.pick [0] (by decide) rfl⟩
def F_slices_partitionEqualCmpFunc_Sint_L2 (fu : Nat) (k2_0 : List (List Int)) (k2_1 : Int) (k2_2 : ((List Int) → (List Int) → Option (Int))) (k2_3 : Int) : Nat → Int → Option (Int)
  | 0, _ => none
  | n + 1, y2_11 =>
    bif (ile y2_11 k2_3) then
      gd (inL k2_0 k2_1) (
      gd (inL k2_0 y2_11) (
      bd (k2_2 (gat [] k2_0 k2_1) (gat [] k2_0 y2_11)) fun r1 =>
      bif (bnot (ilt r1 0)) then
        F_slices_partitionEqualCmpFunc_Sint_L2 fu k2_0 k2_1 k2_2 k2_3 n (iadd .i64 y2_11 1)
      else
        some y2_11))
    else
      some y2_11
def F_slices_partitionEqualCmpFunc_Sint_L3 (fu : Nat) (k3_0 : List (List Int)) (k3_1 : Int) (k3_2 : ((List Int) → (List Int) → Option (Int))) (k3_3 : Int) : Nat → Int → Option (Int)
  | 0, _ => none
  | n + 1, y3_12 =>
    bif (ile k3_3 y3_12) then
      gd (inL k3_0 k3_1) (
      gd (inL k3_0 y3_12) (
      bd (k3_2 (gat [] k3_0 k3_1) (gat [] k3_0 y3_12)) fun r2 =>
      bif (ilt r2 0) then
        F_slices_partitionEqualCmpFunc_Sint_L3 fu k3_0 k3_1 k3_2 k3_3 n (isub .i64 y3_12 1)
      else
        some y3_12))
    else
      some y3_12
def F_slices_partitionEqualCmpFunc_Sint_L1 (fu : Nat) (k1_0 : Int) (k1_1 : ((List Int) → (List Int) → Option (Int))) : Nat → List (List Int) → Int → Int → Option (List (List Int) × Int × Int)
  | 0, _, _, _ => none
  | n + 1, l1_0, y1_11, y1_12 =>
    bd (
      bd (F_slices_partitionEqualCmpFunc_Sint_L2 fu l1_0 k1_0 k1_1 y1_12 fu y1_11) fun s2 =>
      some s2) fun s34 =>
    bd (
      bd (F_slices_partitionEqualCmpFunc_Sint_L3 fu l1_0 k1_0 k1_1 s34 fu y1_12) fun s3 =>
      some s3) fun s57 =>
    bif (ilt s57 s34) then
      some (l1_0, s34, s57)
    else
      gd (inL l1_0 s57) (
      gd (inL l1_0 s34) (
      gd (inL l1_0 s34) (
      gd (inL l1_0 s57) (
      F_slices_partitionEqualCmpFunc_Sint_L1 fu k1_0 k1_1 n (lset (lset l1_0 s34 (gat [] l1_0 s57)) s57 (gat [] l1_0 s34)) (iadd .i64 s34 1) (isub .i64 s57 1)))))
def F_slices_partitionEqualCmpFunc_Sint (fu : Nat) (x0 : List (List Int)) (x1 : Int) (x2 : Int) (x3 : Int) (x4 : (List Int) → (List Int) → Option (Int)) : Option (Int × List (List Int)) :=
  gd (inL x0 x3) (
  gd (inL x0 x1) (
  gd (inL x0 x1) (
  gd (inL x0 x3) (
  bd (F_slices_partitionEqualCmpFunc_Sint_L1 fu x1 x4 fu (lset (lset x0 x1 (gat [] x0 x3)) x3 (gat [] x0 x1)) (iadd .i64 x1 1) (isub .i64 x2 1)) fun s1 =>
  some (s1.2.1, s1.1)))))
theorem F_slices_partitionEqualCmpFunc_Sint_w {fu : Nat} {H : AH} {B : Nat → Prop} {v0 : Value} {C0 : List Value} {f4 : FuncId} {c4 : List Value} {x0 : List (List Int)} {x1 : Int} {x2 : Int} {x3 : Int} {x4 : (List Int) → (List Int) → Option (Int)} {r : (Int × List (List Int))} (hB : Up B H.length) (S0 : Sep H B [rowsC v0 22 3 C0 (List.map ints x0)]) (hx4 : ∀ (G : AH), AgB B H G → ∀ (v0 : Value) (v1 : Value) (y0 : List Int) (y1 : List Int) (q : (Int)), Sl G v0 (ints y0) → Sl G v1 (ints y1) → x4 y0 y1 = some q → ACallT Try.prog f4 ([v0, v1] ++ c4) G (fun u G' => AgB (Fr G) G G' ∧ u = (Value.int .i64 q) ∧ Sep G' (Fr G) [])) (hF : F_slices_partitionEqualCmpFunc_Sint fu x0 x1 x2 x3 x4 = some r) :
    ACallT Try.prog 139 [v0, (Value.int .i64 x1), (Value.int .i64 x2), (Value.int .i64 x3), (Value.func (.func f4) #[] c4.toArray)] H (fun u G => AgB B H G ∧ ∃ Cz0 : List Value, u = (Value.int .i64 r.1) ∧ Sep G B [rowsC v0 22 3 Cz0 (List.map ints r.2)]) := by
  refine ACallT.of_body (nt := 90) (rs := [.tmp 10]) Try.func139 rfl rfl rfl rfl ?_
  have A0 : AgB B H H := .refl _ _
  unfold F_slices_partitionEqualCmpFunc_Sint at hF
  refine DWp.seq ?_
  refine DWp.region fun K hK => ?_
  simp [-aBin', -aBin, -aBinI, -aUn, -aNil, -flatV, n_fn, b_add, b_sub, b_mul, b_lt, b_le, b_gt, b_ge, b_eq, b_ne, u_not]
  apply hK
  clear hK K
  simp only [andThen, leaves]
  refine DWp.seq ?_
  obtain ⟨g1, hF⟩ := gd_some hF
  have q2 := (S0.rd (k := 0) rfl).idxG (P := Try.prog) (kk := .i64) el_23 sz_22 g1
  have q3 := (S0.rd (k := 0) rfl).loadG (P := Try.prog) sz_22 ag_22 g1
  obtain ⟨g4, hF⟩ := gd_some hF
  have q5 := (S0.rd (k := 0) rfl).idxG (P := Try.prog) (kk := .i64) el_23 sz_22 g4
  have q6 := (S0.rd (k := 0) rfl).loadG (P := Try.prog) sz_22 ag_22 g4
  obtain ⟨g7, hF⟩ := gd_some hF
  have q8 := (S0.rd (k := 0) rfl).idxG (P := Try.prog) (kk := .i64) el_23 sz_22 g7
  obtain ⟨G14, q15, S16, a18⟩ := S0.swap1 (fr := ints) (P := Try.prog) (k := 0) [] rfl (hB.le A0.1) sz_22 g7 g1
  have A17 := A0.trans a18
  replace S16 : Sep G14 B [rowsS v0 22 3 (lset C0 x1 (gat nilV C0 x3)) C0 (List.map ints x0)] := S16
  obtain ⟨g19, hF⟩ := gd_some hF
  have q20 := S16.idxS (P := Try.prog) (ki := .i64) (kk := 0) rfl el_23 sz_22 g19
  obtain ⟨G26, q27, S28, a30⟩ := S16.swap2 (fr := ints) (P := Try.prog) (k := 0) [] rfl (hB.le A17.1) sz_22 g7 g1
  have A29 := A17.trans a30
  replace S28 : Sep G26 B [rowsC v0 22 3 (lset (lset C0 x1 (gat nilV C0 x3)) x3 (gat nilV C0 x1)) (List.map ints (lset (lset x0 x1 (gat [] x0 x3)) x3 (gat [] x0 x1)))] := S28
  refine DWp.drawn (B := [0, 0, 0, 0, 0, 0, 48, 112, 0, 0, 768, 1792, 4083, 8179, 16383, 32767]) 13 mixed (by kernel_rfl) (by decide) fun K hK => ?_
  simp [-aBin', -aBin, -aBinI, -aUn, -aNil, -flatV, n_fn, b_add, b_sub, b_mul, b_lt, b_le, b_gt, b_ge, b_eq, b_ne, u_not, q2, q3, q5, q6, q8, (((S0.rd (k := 0) rfl).rowAt [] g1).tup), q15, q20, q27]
  apply hK
  clear hK K
  simp only [andThen, leaves]
  refine DWp.seq ?_
  refine DWp.region fun K hK => ?_
  simp [-aBin', -aBin, -aBinI, -aUn, -aNil, -flatV, n_fn, b_add, b_sub, b_mul, b_lt, b_le, b_gt, b_ge, b_eq, b_ne, u_not]
  apply hK
  clear hK K
  simp only [andThen, leaves]
  refine DWp.seq ?_
  refine DWp.block ?_
  obtain ⟨s31, hL32, hF⟩ := bd_some hF
  have S33 := S28.pick [0] (by decide) rfl
  refine DWp.loop (fun n env G => ∃ l1_0 : List (List Int), ∃ y1_11 : Int, ∃ y1_12 : Int, ∃ D1_0 : List Value, F_slices_partitionEqualCmpFunc_Sint_L1 fu x1 x4 n l1_0 y1_11 y1_12 = some s31 ∧ Sep G B [rowsC v0 22 3 D1_0 (List.map ints l1_0)] ∧ AgB B H G ∧ env 0 = some v0 ∧ env 1 = some (Value.int .i64 x1) ∧ env 4 = some (Value.func (.func f4) #[] c4.toArray) ∧ env 11 = some (Value.int .i64 y1_11) ∧ env 12 = some (Value.int .i64 y1_12)) fu ⟨(lset (lset x0 x1 (gat [] x0 x3)) x3 (gat [] x0 x1)), (iadd .i64 x1 1), (isub .i64 x2 1), (lset (lset C0 x1 (gat nilV C0 x3)) x3 (gat nilV C0 x1)), hL32, S33, A29, by simp [], by simp [], by simp [], by simp [], by simp []⟩ ?_
  rintro n1 env1 G1_ ⟨l1_0, y1_11, y1_12, D1_0, hL32, S1_, A1_, e1_0, e1_1, e1_4, e1_11, e1_12⟩
  cases n1 with
  | zero => cases hL32
  | succ n1 =>
    simp only [F_slices_partitionEqualCmpFunc_Sint_L1] at hL32
    refine DWp.block ?_
    obtain ⟨s34, hL35, hL32⟩ := bd_some hL32
    refine DWp.seq (DWp.join (fun env G => Sep G B [rowsC v0 22 3 D1_0 (List.map ints l1_0)] ∧ AgB B H G ∧ env 0 = some v0 ∧ env 1 = some (Value.int .i64 x1) ∧ env 4 = some (Value.func (.func f4) #[] c4.toArray) ∧ env 11 = some (Value.int .i64 s34) ∧ env 12 = some (Value.int .i64 y1_12)) ?_ ?_)
    ·
      refine DWp.block ?_
      obtain ⟨s37, hL38, hL35⟩ := bd_some hL35
      have S39 := S1_.pick [0] (by decide) rfl
      refine DWp.loop (fun n env G => ∃ y2_11 : Int, F_slices_partitionEqualCmpFunc_Sint_L2 fu l1_0 x1 x4 y1_12 n y2_11 = some s37 ∧ Sep G B [rowsC v0 22 3 D1_0 (List.map ints l1_0)] ∧ AgB B H G ∧ env 0 = some v0 ∧ env 1 = some (Value.int .i64 x1) ∧ env 4 = some (Value.func (.func f4) #[] c4.toArray) ∧ env 11 = some (Value.int .i64 y2_11) ∧ env 12 = some (Value.int .i64 y1_12)) fu ⟨y1_11, hL38, S39, A1_, by simp [e1_0, e1_1, e1_4, e1_11, e1_12], by simp [e1_0, e1_1, e1_4, e1_11, e1_12], by simp [e1_0, e1_1, e1_4, e1_11, e1_12], by simp [e1_0, e1_1, e1_4, e1_11, e1_12], by simp [e1_0, e1_1, e1_4, e1_11, e1_12]⟩ ?_
      rintro n3 env3 G3_ ⟨y2_11, hL38, S3_, A3_, e3_0, e3_1, e3_4, e3_11, e3_12⟩
      cases n3 with
      | zero => cases hL38
      | succ n3 =>
        simp only [F_slices_partitionEqualCmpFunc_Sint_L2] at hL38
        refine DWp.seq ?_
        refine DWp.seq ?_
        rcases Bool.eq_false_or_eq_true (ile y2_11 y1_12) with hb40 | hb40
        · replace hL38 := cd_t hb40 hL38
          obtain ⟨g41, hL38⟩ := gd_some hL38
          have q42 := (S3_.rd (k := 0) rfl).idxG (P := Try.prog) (kk := .i64) el_23 sz_22 g41
          have q43 := (S3_.rd (k := 0) rfl).loadG (P := Try.prog) sz_22 ag_22 g41
          obtain ⟨g44, hL38⟩ := gd_some hL38
          have q45 := (S3_.rd (k := 0) rfl).idxG (P := Try.prog) (kk := .i64) el_23 sz_22 g44
          have q46 := (S3_.rd (k := 0) rfl).loadG (P := Try.prog) sz_22 ag_22 g44
          obtain ⟨r1, hc47, hL38⟩ := bd_some hL38
          refine DWp.drawn (B := [0, 0, 3, 7, 15, 15, 15, 111, 239, 15, 15, 1551, 3599, 8191, 16383, 32767, 65535]) 17 mixed (by kernel_rfl) (by decide) fun K hK => ?_
          simp [-aBin', -aBin, -aBinI, -aUn, -aNil, -flatV, n_fn, b_add, b_sub, b_mul, b_lt, b_le, b_gt, b_ge, b_eq, b_ne, u_not, e3_0, e3_1, e3_4, e3_11, e3_12, hb40, q42, q43, q45, q46, (((S3_.rd (k := 0) rfl).rowAt [] g41).tup), (((S3_.rd (k := 0) rfl).rowAt [] g44).tup)]
          refine CallD.t (hx4 _ A3_ (gat nilV D1_0 x1) (gat nilV D1_0 y2_11) (gat [] l1_0 x1) (gat [] l1_0 y2_11) _ ((S3_.rd (k := 0) rfl).rowAt [] g41) ((S3_.rd (k := 0) rfl).rowAt [] g44) hc47) ?_
          rintro _ G48 ⟨a51, rfl, S52⟩
          have A50 := A3_.ext (hB.le A3_.1) a51.agree
          have S49 : Sep G48 B [rowsC v0 22 3 D1_0 (List.map ints l1_0)] := S3_.agree a51.agree
          simp [-aBin', -aBin, -aBinI, -aUn, -aNil, -flatV, n_fn, b_add, b_sub, b_mul, b_lt, b_le, b_gt, b_ge, b_eq, b_ne, u_not, e3_0, e3_1, e3_4, e3_11, e3_12, hb40, q42, q43, q45, q46, a51.pre]
          apply hK
          clear hK K
          simp only [andThen, leaves]
          refine DWp.cond' (t := (bnot (ilt r1 0))) (by simp [e3_0, e3_1, e3_4, e3_11, e3_12]) (fun hb53 => ?_) (fun hb53 => ?_)
          · replace hL38 := cd_t hb53 hL38
            refine DWp.skip ?_
            simp only [andThen, leaves]
            refine DWp.block ?_
            refine DWp.region fun K hK => ?_
            simp [-aBin', -aBin, -aBinI, -aUn, -aNil, -flatV, n_fn, b_add, b_sub, b_mul, b_lt, b_le, b_gt, b_ge, b_eq, b_ne, u_not, e3_0, e3_1, e3_4, e3_11, e3_12]
            apply hK
            clear hK K
            simp only [andThen, leaves]
            have S54 := S49.pick [0] (by decide) rfl
            exact ⟨n3, Nat.lt_succ_self _, (iadd .i64 y2_11 1), hL38, S54, A50, by simp [e3_0, e3_1, e3_4, e3_11, e3_12], by simp [e3_0, e3_1, e3_4, e3_11, e3_12], by simp [e3_0, e3_1, e3_4, e3_11, e3_12], by simp [e3_0, e3_1, e3_4, e3_11, e3_12], by simp [e3_0, e3_1, e3_4, e3_11, e3_12]⟩
          · replace hL38 := cd_f hb53 hL38
            refine DWp.exit ?_
            simp only [andThen, leaves, if_true, if_false, reduceIte, Nat.reduceEqDiff]
            obtain rfl := Option.some.inj hL38
            have S55 := S49.pick [0] (by decide) rfl
            obtain rfl := Option.some.inj hL35
            exact ⟨S55, A50, by simp [e3_0, e3_1, e3_4, e3_11, e3_12], by simp [e3_0, e3_1, e3_4, e3_11, e3_12], by simp [e3_0, e3_1, e3_4, e3_11, e3_12], by simp [e3_0, e3_1, e3_4, e3_11, e3_12], by simp [e3_0, e3_1, e3_4, e3_11, e3_12]⟩
        · replace hL38 := cd_f hb40 hL38
          refine DWp.drawn (B := [0, 0, 3, 7, 15, 15, 15, 111, 239, 15, 15, 1551, 3599, 8191, 16383, 32767, 65535]) 17 mixed (by kernel_rfl) (by decide) fun K hK => ?_
          simp [-aBin', -aBin, -aBinI, -aUn, -aNil, -flatV, n_fn, b_add, b_sub, b_mul, b_lt, b_le, b_gt, b_ge, b_eq, b_ne, u_not, e3_0, e3_1, e3_4, e3_11, e3_12, hb40]
          apply hK
          clear hK K
          simp only [andThen, leaves]
          refine DWp.cf (by simp [e3_0, e3_1, e3_4, e3_11, e3_12, bnot]) ?_
          refine DWp.exit ?_
          simp only [andThen, leaves, if_true, if_false, reduceIte, Nat.reduceEqDiff]
          obtain rfl := Option.some.inj hL38
          have S56 := S3_.pick [0] (by decide) rfl
          obtain rfl := Option.some.inj hL35
          exact ⟨S56, A3_, by simp [e3_0, e3_1, e3_4, e3_11, e3_12], by simp [e3_0, e3_1, e3_4, e3_11, e3_12], by simp [e3_0, e3_1, e3_4, e3_11, e3_12], by simp [e3_0, e3_1, e3_4, e3_11, e3_12], by simp [e3_0, e3_1, e3_4, e3_11, e3_12]⟩
    · rintro env Gj57 ⟨Sj57, Aj57, ej57_0, ej57_1, ej57_4, ej57_11, ej57_12⟩
      obtain ⟨s58, hL59, hL32⟩ := bd_some hL32
      refine DWp.seq (DWp.join (fun env G => Sep G B [rowsC v0 22 3 D1_0 (List.map ints l1_0)] ∧ AgB B H G ∧ env 0 = some v0 ∧ env 1 = some (Value.int .i64 x1) ∧ env 4 = some (Value.func (.func f4) #[] c4.toArray) ∧ env 11 = some (Value.int .i64 s34) ∧ env 12 = some (Value.int .i64 s58)) ?_ ?_)
      ·
        refine DWp.block ?_
        obtain ⟨s61, hL62, hL59⟩ := bd_some hL59
        have S63 := Sj57.pick [0] (by decide) rfl
        refine DWp.loop (fun n env G => ∃ y3_12 : Int, F_slices_partitionEqualCmpFunc_Sint_L3 fu l1_0 x1 x4 s34 n y3_12 = some s61 ∧ Sep G B [rowsC v0 22 3 D1_0 (List.map ints l1_0)] ∧ AgB B H G ∧ env 0 = some v0 ∧ env 1 = some (Value.int .i64 x1) ∧ env 4 = some (Value.func (.func f4) #[] c4.toArray) ∧ env 11 = some (Value.int .i64 s34) ∧ env 12 = some (Value.int .i64 y3_12)) fu ⟨y1_12, hL62, S63, Aj57, by simp [ej57_0, ej57_1, ej57_4, ej57_11, ej57_12], by simp [ej57_0, ej57_1, ej57_4, ej57_11, ej57_12], by simp [ej57_0, ej57_1, ej57_4, ej57_11, ej57_12], by simp [ej57_0, ej57_1, ej57_4, ej57_11, ej57_12], by simp [ej57_0, ej57_1, ej57_4, ej57_11, ej57_12]⟩ ?_
        rintro n3 env3 G3_ ⟨y3_12, hL62, S3_, A3_, e3_0, e3_1, e3_4, e3_11, e3_12⟩
        cases n3 with
        | zero => cases hL62
        | succ n3 =>
          simp only [F_slices_partitionEqualCmpFunc_Sint_L3] at hL62
          refine DWp.seq ?_
          refine DWp.seq ?_
          rcases Bool.eq_false_or_eq_true (ile s34 y3_12) with hb64 | hb64
          · replace hL62 := cd_t hb64 hL62
            obtain ⟨g65, hL62⟩ := gd_some hL62
            have q66 := (S3_.rd (k := 0) rfl).idxG (P := Try.prog) (kk := .i64) el_23 sz_22 g65
            have q67 := (S3_.rd (k := 0) rfl).loadG (P := Try.prog) sz_22 ag_22 g65
            obtain ⟨g68, hL62⟩ := gd_some hL62
            have q69 := (S3_.rd (k := 0) rfl).idxG (P := Try.prog) (kk := .i64) el_23 sz_22 g68
            have q70 := (S3_.rd (k := 0) rfl).loadG (P := Try.prog) sz_22 ag_22 g68
            obtain ⟨r2, hc71, hL62⟩ := bd_some hL62
            refine DWp.drawn (B := [0, 0, 3, 7, 15, 15, 15, 111, 239, 15, 15, 1551, 3599, 8191, 16383, 32767]) 16 mixed (by kernel_rfl) (by decide) fun K hK => ?_
            simp [-aBin', -aBin, -aBinI, -aUn, -aNil, -flatV, n_fn, b_add, b_sub, b_mul, b_lt, b_le, b_gt, b_ge, b_eq, b_ne, u_not, e3_0, e3_1, e3_4, e3_11, e3_12, hb64, q66, q67, q69, q70, (((S3_.rd (k := 0) rfl).rowAt [] g65).tup), (((S3_.rd (k := 0) rfl).rowAt [] g68).tup)]
            refine CallD.t (hx4 _ A3_ (gat nilV D1_0 x1) (gat nilV D1_0 y3_12) (gat [] l1_0 x1) (gat [] l1_0 y3_12) _ ((S3_.rd (k := 0) rfl).rowAt [] g65) ((S3_.rd (k := 0) rfl).rowAt [] g68) hc71) ?_
            rintro _ G72 ⟨a75, rfl, S76⟩
            have A74 := A3_.ext (hB.le A3_.1) a75.agree
            have S73 : Sep G72 B [rowsC v0 22 3 D1_0 (List.map ints l1_0)] := S3_.agree a75.agree
            simp [-aBin', -aBin, -aBinI, -aUn, -aNil, -flatV, n_fn, b_add, b_sub, b_mul, b_lt, b_le, b_gt, b_ge, b_eq, b_ne, u_not, e3_0, e3_1, e3_4, e3_11, e3_12, hb64, q66, q67, q69, q70, a75.pre]
            apply hK
            clear hK K
            simp only [andThen, leaves]
            refine DWp.cond' (t := (ilt r2 0)) (by simp [e3_0, e3_1, e3_4, e3_11, e3_12]) (fun hb77 => ?_) (fun hb77 => ?_)
            · replace hL62 := cd_t hb77 hL62
              refine DWp.skip ?_
              simp only [andThen, leaves]
              refine DWp.block ?_
              refine DWp.region fun K hK => ?_
              simp [-aBin', -aBin, -aBinI, -aUn, -aNil, -flatV, n_fn, b_add, b_sub, b_mul, b_lt, b_le, b_gt, b_ge, b_eq, b_ne, u_not, e3_0, e3_1, e3_4, e3_11, e3_12]
              apply hK
              clear hK K
              simp only [andThen, leaves]
              have S78 := S73.pick [0] (by decide) rfl
              exact ⟨n3, Nat.lt_succ_self _, (isub .i64 y3_12 1), hL62, S78, A74, by simp [e3_0, e3_1, e3_4, e3_11, e3_12], by simp [e3_0, e3_1, e3_4, e3_11, e3_12], by simp [e3_0, e3_1, e3_4, e3_11, e3_12], by simp [e3_0, e3_1, e3_4, e3_11, e3_12], by simp [e3_0, e3_1, e3_4, e3_11, e3_12]⟩
            · replace hL62 := cd_f hb77 hL62
              refine DWp.exit ?_
              simp only [andThen, leaves, if_true, if_false, reduceIte, Nat.reduceEqDiff]
              obtain rfl := Option.some.inj hL62
              have S79 := S73.pick [0] (by decide) rfl
              obtain rfl := Option.some.inj hL59
              exact ⟨S79, A74, by simp [e3_0, e3_1, e3_4, e3_11, e3_12], by simp [e3_0, e3_1, e3_4, e3_11, e3_12], by simp [e3_0, e3_1, e3_4, e3_11, e3_12], by simp [e3_0, e3_1, e3_4, e3_11, e3_12], by simp [e3_0, e3_1, e3_4, e3_11, e3_12]⟩
          · replace hL62 := cd_f hb64 hL62
            refine DWp.drawn (B := [0, 0, 3, 7, 15, 15, 15, 111, 239, 15, 15, 1551, 3599, 8191, 16383, 32767]) 16 mixed (by kernel_rfl) (by decide) fun K hK => ?_
            simp [-aBin', -aBin, -aBinI, -aUn, -aNil, -flatV, n_fn, b_add, b_sub, b_mul, b_lt, b_le, b_gt, b_ge, b_eq, b_ne, u_not, e3_0, e3_1, e3_4, e3_11, e3_12, hb64]
            apply hK
            clear hK K
            simp only [andThen, leaves]
            refine DWp.cf (by simp [e3_0, e3_1, e3_4, e3_11, e3_12, bnot]) ?_
            refine DWp.exit ?_
            simp only [andThen, leaves, if_true, if_false, reduceIte, Nat.reduceEqDiff]
            obtain rfl := Option.some.inj hL62
            have S80 := S3_.pick [0] (by decide) rfl
            obtain rfl := Option.some.inj hL59
            exact ⟨S80, A3_, by simp [e3_0, e3_1, e3_4, e3_11, e3_12], by simp [e3_0, e3_1, e3_4, e3_11, e3_12], by simp [e3_0, e3_1, e3_4, e3_11, e3_12], by simp [e3_0, e3_1, e3_4, e3_11, e3_12], by simp [e3_0, e3_1, e3_4, e3_11, e3_12]⟩
      · rintro env Gj81 ⟨Sj81, Aj81, ej81_0, ej81_1, ej81_4, ej81_11, ej81_12⟩
        refine DWp.seq ?_
        refine DWp.seq ?_
        refine DWp.region fun K hK => ?_
        simp [-aBin', -aBin, -aBinI, -aUn, -aNil, -flatV, n_fn, b_add, b_sub, b_mul, b_lt, b_le, b_gt, b_ge, b_eq, b_ne, u_not, ej81_0, ej81_1, ej81_4, ej81_11, ej81_12]
        apply hK
        clear hK K
        simp only [andThen, leaves]
        refine DWp.cond' (t := (ilt s58 s34)) (by simp [ej81_0, ej81_1, ej81_4, ej81_11, ej81_12]) (fun hb82 => ?_) (fun hb82 => ?_)
        · replace hL32 := cd_t hb82 hL32
          refine DWp.exit ?_
          simp only [andThen, leaves, if_true, if_false, reduceIte, Nat.reduceEqDiff]
          obtain rfl := Option.some.inj hL32
          try dsimp only at hF
          refine DWp.seq ?_
          refine DWp.region fun K hK => ?_
          simp [-aBin', -aBin, -aBinI, -aUn, -aNil, -flatV, n_fn, b_add, b_sub, b_mul, b_lt, b_le, b_gt, b_ge, b_eq, b_ne, u_not, ej81_0, ej81_1, ej81_4, ej81_11, ej81_12]
          apply hK
          clear hK K
          simp only [andThen, leaves]
          refine DWp.ret ?_
          obtain rfl := Option.some.inj hF
          exact ⟨by simp, [(Value.int .i64 s34)], by simp [ej81_0, ej81_1, ej81_4, ej81_11, ej81_12], Aj81, D1_0, rfl, Sj81.pick [0] (by decide) rfl⟩
        · replace hL32 := cd_f hb82 hL32
          refine DWp.skip ?_
          simp only [andThen, leaves]
          refine DWp.seq ?_
          obtain ⟨g83, hL32⟩ := gd_some hL32
          have q84 := (Sj81.rd (k := 0) rfl).idxG (P := Try.prog) (kk := .i64) el_23 sz_22 g83
          have q85 := (Sj81.rd (k := 0) rfl).loadG (P := Try.prog) sz_22 ag_22 g83
          obtain ⟨g86, hL32⟩ := gd_some hL32
          have q87 := (Sj81.rd (k := 0) rfl).idxG (P := Try.prog) (kk := .i64) el_23 sz_22 g86
          have q88 := (Sj81.rd (k := 0) rfl).loadG (P := Try.prog) sz_22 ag_22 g86
          obtain ⟨g89, hL32⟩ := gd_some hL32
          have q90 := (Sj81.rd (k := 0) rfl).idxG (P := Try.prog) (kk := .i64) el_23 sz_22 g89
          obtain ⟨G96, q97, S98, a100⟩ := Sj81.swap1 (fr := ints) (P := Try.prog) (k := 0) [] rfl (hB.le Aj81.1) sz_22 g89 g83
          have A99 := Aj81.trans a100
          replace S98 : Sep G96 B [rowsS v0 22 3 (lset D1_0 s34 (gat nilV D1_0 s58)) D1_0 (List.map ints l1_0)] := S98
          obtain ⟨g101, hL32⟩ := gd_some hL32
          have q102 := S98.idxS (P := Try.prog) (ki := .i64) (kk := 0) rfl el_23 sz_22 g101
          obtain ⟨G108, q109, S110, a112⟩ := S98.swap2 (fr := ints) (P := Try.prog) (k := 0) [] rfl (hB.le A99.1) sz_22 g89 g83
          have A111 := A99.trans a112
          replace S110 : Sep G108 B [rowsC v0 22 3 (lset (lset D1_0 s34 (gat nilV D1_0 s58)) s58 (gat nilV D1_0 s34)) (List.map ints (lset (lset l1_0 s34 (gat [] l1_0 s58)) s58 (gat [] l1_0 s34)))] := S110
          refine DWp.drawn (B := [0, 0, 0, 0, 0, 0, 48, 112, 0, 0, 768, 1792, 4083, 8179, 16383, 32767]) 13 mixed (by kernel_rfl) (by decide) fun K hK => ?_
          simp [-aBin', -aBin, -aBinI, -aUn, -aNil, -flatV, n_fn, b_add, b_sub, b_mul, b_lt, b_le, b_gt, b_ge, b_eq, b_ne, u_not, ej81_0, ej81_1, ej81_4, ej81_11, ej81_12, q84, q85, q87, q88, q90, (((Sj81.rd (k := 0) rfl).rowAt [] g83).tup), q97, q102, q109]
          apply hK
          clear hK K
          simp only [andThen, leaves]
          refine DWp.seq ?_
          refine DWp.region fun K hK => ?_
          simp [-aBin', -aBin, -aBinI, -aUn, -aNil, -flatV, n_fn, b_add, b_sub, b_mul, b_lt, b_le, b_gt, b_ge, b_eq, b_ne, u_not, ej81_0, ej81_1, ej81_4, ej81_11, ej81_12]
          apply hK
          clear hK K
          simp only [andThen, leaves]
          refine DWp.region fun K hK => ?_
          simp [-aBin', -aBin, -aBinI, -aUn, -aNil, -flatV, n_fn, b_add, b_sub, b_mul, b_lt, b_le, b_gt, b_ge, b_eq, b_ne, u_not, ej81_0, ej81_1, ej81_4, ej81_11, ej81_12]
          apply hK
          clear hK K
          simp only [andThen, leaves]
          have S113 := S110.pick [0] (by decide) rfl
          exact ⟨n1, Nat.lt_succ_self _, (lset (lset l1_0 s34 (gat [] l1_0 s58)) s58 (gat [] l1_0 s34)), (iadd .i64 s34 1), (isub .i64 s58 1), (lset (lset D1_0 s34 (gat nilV D1_0 s58)) s58 (gat nilV D1_0 s34)), hL32, S113, A111, by simp [ej81_0, ej81_1, ej81_4, ej81_11, ej81_12], by simp [ej81_0, ej81_1, ej81_4, ej81_11, ej81_12], by simp [ej81_0, ej81_1, ej81_4, ej81_11, ej81_12], by simp [ej81_0, ej81_1, ej81_4, ej81_11, ej81_12], by simp [ej81_0, ej81_1, ej81_4, ej81_11, ej81_12]⟩
end Go.Proofs.Ytdghlhdpcmemjaa.AL

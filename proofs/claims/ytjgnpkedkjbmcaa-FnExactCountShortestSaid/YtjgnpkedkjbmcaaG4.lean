/- The walks of functions, each with its Lean function: slices.partialInsertionSortCmpFunc[[]int], slices.partitionEqualCmpFunc[[]int], slices.partitionCmpFunc[[]int], slices.pdqsortCmpFunc[[]int], slices.SortFunc[[][]int,[]int], cmp.isNaN[int], cmp.Compare[int], slices.Compare[[]int,int], impl.systems, slices.BinarySearchFunc[[][]int,[]int,[]int]. No condition. -/
import Derived.Test.YtjgnpkedkjbmcaaG1
import Derived.Test.YtjgnpkedkjbmcaaG2
import Derived.Test.YtjgnpkedkjbmcaaG3
import Derived.Test.YtjgnpkedkjbmcaaALD
import Derived.Test.YtjgnpkedkjbmcaaProg
import Derived.KernelRfl
namespace Go.Proofs.Ytjgnpkedkjbmcaa.AL
open Go Go.RowKit
set_option linter.unusedVariables false
set_option linter.unusedSimpArgs false
set_option maxRecDepth 4096
attribute [local simp] n_fn b_add b_sub b_mul b_lt b_le b_gt b_ge b_eq b_ne u_not
theorem ei_22 : einfo Try.prog 22 = some ⟨1, 24, .slice none 0 0⟩ := by kernel_rfl
def F_slices_partialInsertionSortCmpFunc_Sint_L2 (fu : Nat) (k2_0 : List (List Int)) (k2_1 : Int) (k2_2 : Int) (k2_3 : ((List Int) → (List Int) → Option (Int))) (k2_4 : Int) : Nat → Int → Option (Int)
  | 0, _ => none
  | n + 1, y2_9 =>
    bif (ilt y2_9 k2_2) then
      gd (inL k2_0 y2_9) (
      gd (inL k2_0 (isub .i64 y2_9 1)) (
      bd (k2_3 (gat [] k2_0 y2_9) (gat [] k2_0 (isub .i64 y2_9 1))) fun r1 =>
      bif (bnot (ilt r1 0)) then
        F_slices_partialInsertionSortCmpFunc_Sint_L2 fu k2_0 k2_1 k2_2 k2_3 k2_4 n (iadd .i64 y2_9 1)
      else
        some y2_9))
    else
      some y2_9
def F_slices_partialInsertionSortCmpFunc_Sint_L3 (fu : Nat) (k3_0 : Int) (k3_1 : Int) (k3_2 : ((List Int) → (List Int) → Option (Int))) (k3_3 : Int) (k3_4 : Int) : Nat → List (List Int) → Int → Option (List (List Int) × Int)
  | 0, _, _ => none
  | n + 1, l3_0, y3_11 =>
    bif (ile 1 y3_11) then
      gd (inL l3_0 y3_11) (
      gd (inL l3_0 (isub .i64 y3_11 1)) (
      bd (k3_2 (gat [] l3_0 y3_11) (gat [] l3_0 (isub .i64 y3_11 1))) fun r2 =>
      bif (bnot (ilt r2 0)) then
        some (l3_0, y3_11)
      else
        gd (inL l3_0 (isub .i64 y3_11 1)) (
        gd (inL l3_0 y3_11) (
        gd (inL l3_0 y3_11) (
        gd (inL l3_0 (isub .i64 y3_11 1)) (
        F_slices_partialInsertionSortCmpFunc_Sint_L3 fu k3_0 k3_1 k3_2 k3_3 k3_4 n (lset (lset l3_0 y3_11 (gat [] l3_0 (isub .i64 y3_11 1))) (isub .i64 y3_11 1) (gat [] l3_0 y3_11)) (isub .i64 y3_11 1)))))))
    else
      some (l3_0, y3_11)
def F_slices_partialInsertionSortCmpFunc_Sint_L4 (fu : Nat) (k4_0 : Int) (k4_1 : Int) (k4_2 : ((List Int) → (List Int) → Option (Int))) (k4_3 : Int) (k4_4 : Int) : Nat → List (List Int) → Int → Option (List (List Int) × Int)
  | 0, _, _ => none
  | n + 1, l4_0, y4_12 =>
    bif (ilt y4_12 k4_1) then
      gd (inL l4_0 y4_12) (
      gd (inL l4_0 (isub .i64 y4_12 1)) (
      bd (k4_2 (gat [] l4_0 y4_12) (gat [] l4_0 (isub .i64 y4_12 1))) fun r3 =>
      bif (bnot (ilt r3 0)) then
        some (l4_0, y4_12)
      else
        gd (inL l4_0 (isub .i64 y4_12 1)) (
        gd (inL l4_0 y4_12) (
        gd (inL l4_0 y4_12) (
        gd (inL l4_0 (isub .i64 y4_12 1)) (
        F_slices_partialInsertionSortCmpFunc_Sint_L4 fu k4_0 k4_1 k4_2 k4_3 k4_4 n (lset (lset l4_0 y4_12 (gat [] l4_0 (isub .i64 y4_12 1))) (isub .i64 y4_12 1) (gat [] l4_0 y4_12)) (iadd .i64 y4_12 1)))))))
    else
      some (l4_0, y4_12)
def F_slices_partialInsertionSortCmpFunc_Sint_L1 (fu : Nat) (k1_0 : Int) (k1_1 : Int) (k1_2 : ((List Int) → (List Int) → Option (Int))) : Nat → List (List Int) → Int → Int → Option (LR (Bool × List (List Int)) (List (List Int) × Int × Int))
  | 0, _, _, _ => none
  | n + 1, l1_0, y1_9, y1_10 =>
    bif (ilt y1_10 5) then
      bd (
        bd (F_slices_partialInsertionSortCmpFunc_Sint_L2 fu l1_0 k1_0 k1_1 k1_2 y1_10 fu y1_9) fun s2 =>
        some s2) fun s5 =>
      bif (ieq s5 k1_1) then
        some (.ret (true, l1_0))
      else
        bif (ilt (isub .i64 k1_1 k1_0) 50) then
          some (.ret (false, l1_0))
        else
          gd (inL l1_0 (isub .i64 s5 1)) (
          gd (inL l1_0 s5) (
          gd (inL l1_0 s5) (
          gd (inL l1_0 (isub .i64 s5 1)) (
          bd (
            bif (ile 2 (isub .i64 s5 k1_0)) then
              bd (F_slices_partialInsertionSortCmpFunc_Sint_L3 fu k1_0 k1_1 k1_2 s5 y1_10 fu (lset (lset l1_0 s5 (gat [] l1_0 (isub .i64 s5 1))) (isub .i64 s5 1) (gat [] l1_0 s5)) (isub .i64 s5 1)) fun s3 =>
              some s3.1
            else
              some (lset (lset l1_0 s5 (gat [] l1_0 (isub .i64 s5 1))) (isub .i64 s5 1) (gat [] l1_0 s5))) fun s60 =>
          bif (ile 2 (isub .i64 k1_1 s5)) then
            bd (F_slices_partialInsertionSortCmpFunc_Sint_L4 fu k1_0 k1_1 k1_2 s5 y1_10 fu s60 (iadd .i64 s5 1)) fun s4 =>
            F_slices_partialInsertionSortCmpFunc_Sint_L1 fu k1_0 k1_1 k1_2 n s4.1 s5 (iadd .i64 y1_10 1)
          else
            F_slices_partialInsertionSortCmpFunc_Sint_L1 fu k1_0 k1_1 k1_2 n s60 s5 (iadd .i64 y1_10 1)))))
    else
      some (.brk (l1_0, y1_9, y1_10))
def F_slices_partialInsertionSortCmpFunc_Sint (fu : Nat) (x0 : List (List Int)) (x1 : Int) (x2 : Int) (x3 : (List Int) → (List Int) → Option (Int)) : Option (Bool × List (List Int)) :=
  bd (F_slices_partialInsertionSortCmpFunc_Sint_L1 fu x1 x2 x3 fu x0 (iadd .i64 x1 1) 0) fun s1 =>
  lr s1 fun s1 =>
  some (false, s1.1)
theorem F_slices_partialInsertionSortCmpFunc_Sint_w {fu : Nat} {H : AH} {B : Nat → Prop} {v0 : Value} {C0 : List Value} {f3 : FuncId} {c3 : List Value} {x0 : List (List Int)} {x1 : Int} {x2 : Int} {x3 : (List Int) → (List Int) → Option (Int)} {r : (Bool × List (List Int))} (hB : Up B H.length) (S0 : Sep H B [rowsC v0 22 3 C0 (List.map ints x0)]) (hx3 : ∀ (G : AH), AgB B H G → ∀ (v0 : Value) (v1 : Value) (y0 : List Int) (y1 : List Int) (q : (Int)), Sl G v0 (ints y0) → Sl G v1 (ints y1) → x3 y0 y1 = some q → ACallT Try.prog f3 ([v0, v1] ++ c3) G (fun u G' => AgB (Fr G) G G' ∧ u = (Value.int .i64 q) ∧ Sep G' (Fr G) [])) (hF : F_slices_partialInsertionSortCmpFunc_Sint fu x0 x1 x2 x3 = some r) :
    ACallT Try.prog 60 [v0, (Value.int .i64 x1), (Value.int .i64 x2), (Value.func (.func f3) #[] c3.toArray)] H (fun u G => AgB B H G ∧ ∃ Cz0 : List Value, u = (Value.bool r.1) ∧ Sep G B [rowsC v0 22 3 Cz0 (List.map ints r.2)]) := by
 refine ACallT.of_body (nt := 141) (rs := [.tmp 8]) Try.func60 rfl rfl rfl rfl ?_;have A0 : AgB B H H := .refl _ _;unfold F_slices_partialInsertionSortCmpFunc_Sint at hF;refine .sr fun K hK => ?_;simp [];apply hK;clear hK K;refine .sr fun K hK => ?_;simp [];apply hK;clear hK K;refine .seq ?_;refine .sr fun K hK => ?_;simp [];apply hK;clear hK K;refine .block ?_;obtain ⟨s1, hL2, hF⟩ := bd_some hF;have S3 := S0.pick [0] (by decide) rfl;refine DWp.loop (fun n env G => ∃ l1_0 : List (List Int), ∃ y1_9 : Int, ∃ y1_10 : Int, ∃ D1_0 : List Value, F_slices_partialInsertionSortCmpFunc_Sint_L1 fu x1 x2 x3 n l1_0 y1_9 y1_10 = some s1 ∧ Sep G B [rowsC v0 22 3 D1_0 (List.map ints l1_0)] ∧ AgB B H G ∧ env 0 = some v0 ∧ env 1 = some (Value.int .i64 x1) ∧ env 2 = some (Value.int .i64 x2) ∧ env 3 = some (Value.func (.func f3) #[] c3.toArray) ∧ env 9 = some (Value.int .i64 y1_9) ∧ env 10 = some (Value.int .i64 y1_10)) fu ⟨x0, (iadd .i64 x1 1), 0, C0, hL2, S3, A0, by simp []⟩ ?_;rintro n1 env1 G1_ ⟨l1_0, y1_9, y1_10, D1_0, hL2, S1_, A1_, e1_⟩;cases n1 with
 | zero => cases hL2
 | succ n1 =>
  simp only [F_slices_partialInsertionSortCmpFunc_Sint_L1] at hL2;refine .seq ?_;refine .sr fun K hK => ?_;simp [e1_];apply hK;clear hK K;refine DWp.cond' (t := (ilt y1_10 5)) (by simp [e1_]) (fun hb4 => ?_) (fun hb4 => ?_)
  ·replace hL2 := cd_t hb4 hL2;refine DWp.skip ?_;simp only [andThen, leaves];refine .seq ?_;refine .block ?_;obtain ⟨s5, hL6, hL2⟩ := bd_some hL2;refine DWp.seq (DWp.join (fun env G => Sep G B [rowsC v0 22 3 D1_0 (List.map ints l1_0)] ∧ AgB B H G ∧ env 0 = some v0 ∧ env 1 = some (Value.int .i64 x1) ∧ env 2 = some (Value.int .i64 x2) ∧ env 3 = some (Value.func (.func f3) #[] c3.toArray) ∧ env 9 = some (Value.int .i64 s5) ∧ env 10 = some (Value.int .i64 y1_10)) ?_ ?_)
   ·
    refine .block ?_;obtain ⟨s8, hL9, hL6⟩ := bd_some hL6;have S10 := S1_.pick [0] (by decide) rfl;refine DWp.loop (fun n env G => ∃ y2_9 : Int, F_slices_partialInsertionSortCmpFunc_Sint_L2 fu l1_0 x1 x2 x3 y1_10 n y2_9 = some s8 ∧ Sep G B [rowsC v0 22 3 D1_0 (List.map ints l1_0)] ∧ AgB B H G ∧ env 0 = some v0 ∧ env 1 = some (Value.int .i64 x1) ∧ env 2 = some (Value.int .i64 x2) ∧ env 3 = some (Value.func (.func f3) #[] c3.toArray) ∧ env 9 = some (Value.int .i64 y2_9) ∧ env 10 = some (Value.int .i64 y1_10)) fu ⟨y1_9, hL9, S10, A1_, by simp [e1_]⟩ ?_;rintro n3 env3 G3_ ⟨y2_9, hL9, S3_, A3_, e3_⟩;cases n3 with
    | zero => cases hL9
    | succ n3 =>
     simp only [F_slices_partialInsertionSortCmpFunc_Sint_L2] at hL9;refine .seq ?_;rcases Bool.eq_false_or_eq_true (ilt y2_9 x2) with hb11 | hb11
     ·replace hL9 := cd_t hb11 hL9;obtain ⟨g12, hL9⟩ := gd_some hL9;have q13 := (S3_.rd (k := 0) rfl).idxG (P := Try.prog) (kk := .i64) el_30 sz_22 g12;have q14 := (S3_.rd (k := 0) rfl).loadG (P := Try.prog) sz_22 ag_22 g12;obtain ⟨g15, hL9⟩ := gd_some hL9;have q16 := (S3_.rd (k := 0) rfl).idxG (P := Try.prog) (kk := .i64) el_30 sz_22 g15;have q17 := (S3_.rd (k := 0) rfl).loadG (P := Try.prog) sz_22 ag_22 g15;obtain ⟨r1, hc18, hL9⟩ := bd_some hL9;refine .sd (B := [0, 0, 3, 7, 15, 15, 15, 111, 239, 15, 15, 1039, 3599, 7695, 16383, 32767, 65535, 131071]) 18 mixed (by kernel_rfl) (by decide) fun K hK => ?_;simp [e3_, hb11, q13, q14, q16, q17, (((S3_.rd (k := 0) rfl).rowAt [] g12).tup), (((S3_.rd (k := 0) rfl).rowAt [] g15).tup)];refine CallD.t (hx3 _ A3_ (gat nilV D1_0 y2_9) (gat nilV D1_0 (isub .i64 y2_9 1)) (gat [] l1_0 y2_9) (gat [] l1_0 (isub .i64 y2_9 1)) _ ((S3_.rd (k := 0) rfl).rowAt [] g12) ((S3_.rd (k := 0) rfl).rowAt [] g15) hc18) ?_;rintro _ G19 ⟨a22, rfl, S23⟩;have A21 := A3_.ext (hB.le A3_.1) a22.agree;have S20 : Sep G19 B [rowsC v0 22 3 D1_0 (List.map ints l1_0)] := S3_.agree a22.agree;simp [e3_, hb11, q13, q14, q16, q17, a22.pre];apply hK;clear hK K;refine DWp.cond' (t := (bnot (ilt r1 0))) (by simp [e3_]) (fun hb24 => ?_) (fun hb24 => ?_)
      ·replace hL9 := cd_t hb24 hL9;refine DWp.skip ?_;simp only [andThen, leaves];refine .block ?_;refine .region fun K hK => ?_;simp [e3_];apply hK;clear hK K;simp only [andThen, leaves];have S25 := S20.pick [0] (by decide) rfl;exact ⟨n3, Nat.lt_succ_self _, (iadd .i64 y2_9 1), hL9, S25, A21, by simp [e3_]⟩
      ·replace hL9 := cd_f hb24 hL9;refine DWp.exit ?_;simp only [andThen, leaves, if_true, if_false, reduceIte, Nat.reduceEqDiff];obtain rfl := Option.some.inj hL9;have S26 := S20.pick [0] (by decide) rfl;obtain rfl := Option.some.inj hL6;exact ⟨S26, A21, by simp [e3_]⟩
     ·replace hL9 := cd_f hb11 hL9;refine .sd (B := [0, 0, 3, 7, 15, 15, 15, 111, 239, 15, 15, 1039, 3599, 7695, 16383, 32767, 65535, 131071]) 18 mixed (by kernel_rfl) (by decide) fun K hK => ?_;simp [e3_, hb11];apply hK;clear hK K;refine DWp.cf (by simp [e3_, bnot]) ?_;refine DWp.exit ?_;simp only [andThen, leaves, if_true, if_false, reduceIte, Nat.reduceEqDiff];obtain rfl := Option.some.inj hL9;have S27 := S3_.pick [0] (by decide) rfl;obtain rfl := Option.some.inj hL6;exact ⟨S27, A3_, by simp [e3_]⟩
   ·rintro env Gj28 ⟨Sj28, Aj28, ej28_⟩;refine .seq ?_;refine .sr fun K hK => ?_;simp [ej28_];apply hK;clear hK K;refine DWp.cond' (t := (ieq s5 x2)) (by simp [ej28_]) (fun hb29 => ?_) (fun hb29 => ?_)
    ·replace hL2 := cd_t hb29 hL2;refine .sr fun K hK => ?_;simp [ej28_];apply hK;clear hK K;refine DWp.ret ?_;simp only [andThen, leaves];obtain rfl := Option.some.inj hL2;simp only [lr] at hF;obtain rfl := Option.some.inj hF;exact ⟨by simp, [(Value.bool true)], by simp [ej28_], Aj28, D1_0, rfl, Sj28.pick [0] (by decide) rfl⟩
    ·replace hL2 := cd_f hb29 hL2;refine DWp.skip ?_;simp only [andThen, leaves];refine .seq ?_;refine .sr fun K hK => ?_;simp [ej28_];apply hK;clear hK K;refine DWp.cond' (t := (ilt (isub .i64 x2 x1) 50)) (by simp [ej28_]) (fun hb30 => ?_) (fun hb30 => ?_)
     ·replace hL2 := cd_t hb30 hL2;refine .sr fun K hK => ?_;simp [ej28_];apply hK;clear hK K;refine DWp.ret ?_;simp only [andThen, leaves];obtain rfl := Option.some.inj hL2;simp only [lr] at hF;obtain rfl := Option.some.inj hF;exact ⟨by simp, [(Value.bool false)], by simp [ej28_], Aj28, D1_0, rfl, Sj28.pick [0] (by decide) rfl⟩
     ·replace hL2 := cd_f hb30 hL2;refine DWp.skip ?_;simp only [andThen, leaves];obtain ⟨g31, hL2⟩ := gd_some hL2;have q32 := (Sj28.rd (k := 0) rfl).idxG (P := Try.prog) (kk := .i64) el_30 sz_22 g31;have q33 := (Sj28.rd (k := 0) rfl).loadG (P := Try.prog) sz_22 ag_22 g31;obtain ⟨g34, hL2⟩ := gd_some hL2;have q35 := (Sj28.rd (k := 0) rfl).idxG (P := Try.prog) (kk := .i64) el_30 sz_22 g34;have q36 := (Sj28.rd (k := 0) rfl).loadG (P := Try.prog) sz_22 ag_22 g34;obtain ⟨g37, hL2⟩ := gd_some hL2;have q38 := (Sj28.rd (k := 0) rfl).idxG (P := Try.prog) (kk := .i64) el_30 sz_22 g37;obtain ⟨G44, q45, S46, a48⟩ := Sj28.swap1 (fr := ints) (P := Try.prog) (k := 0) [] rfl (hB.le Aj28.1) sz_22 g37 g31;have A47 := Aj28.trans a48;replace S46 : Sep G44 B [rowsS v0 22 3 (lset D1_0 s5 (gat nilV D1_0 (isub .i64 s5 1))) D1_0 (List.map ints l1_0)] := S46;obtain ⟨g49, hL2⟩ := gd_some hL2;have q50 := S46.idxS (P := Try.prog) (ki := .i64) (kk := 0) rfl el_30 sz_22 g49;obtain ⟨G56, q57, S58, a60⟩ := S46.swap2 (fr := ints) (P := Try.prog) (k := 0) [] rfl (hB.le A47.1) sz_22 g37 g31;have A59 := A47.trans a60;replace S58 : Sep G56 B [rowsC v0 22 3 (lset (lset D1_0 s5 (gat nilV D1_0 (isub .i64 s5 1))) (isub .i64 s5 1) (gat nilV D1_0 s5)) (List.map ints (lset (lset l1_0 s5 (gat [] l1_0 (isub .i64 s5 1))) (isub .i64 s5 1) (gat [] l1_0 s5)))] := S58;refine .sd (B := [0, 0, 0, 0, 8, 0, 0, 64, 224, 480, 0, 0, 3072, 7168, 16355, 32739, 65535, 131071]) 15 mixed (by kernel_rfl) (by decide) fun K hK => ?_;simp [ej28_, q32, q33, q35, q36, q38, (((Sj28.rd (k := 0) rfl).rowAt [] g31).tup), q45, q50, q57];apply hK;clear hK K;obtain ⟨s61, hL62, hL2⟩ := bd_some hL2
      refine DWp.seq (DWp.join (fun env G => ∃ Dj2_0 : List Value, Sep G B [rowsC v0 22 3 Dj2_0 (List.map ints s61)] ∧ AgB B H G ∧ env 0 = some v0 ∧ env 1 = some (Value.int .i64 x1) ∧ env 2 = some (Value.int .i64 x2) ∧ env 3 = some (Value.func (.func f3) #[] c3.toArray) ∧ env 9 = some (Value.int .i64 s5) ∧ env 10 = some (Value.int .i64 y1_10)) ?_ ?_)
      ·
       refine .sr fun K hK => ?_;simp [ej28_];apply hK;clear hK K;refine DWp.cond' (t := (ile 2 (isub .i64 s5 x1))) (by simp [ej28_]) (fun hb64 => ?_) (fun hb64 => ?_)
       ·replace hL62 := cd_t hb64 hL62;refine .sr fun K hK => ?_;simp [ej28_];apply hK;clear hK K;refine .block ?_;obtain ⟨s65, hL66, hL62⟩ := bd_some hL62;have S67 := S58.pick [0] (by decide) rfl;refine DWp.loop (fun n env G => ∃ l3_0 : List (List Int), ∃ y3_11 : Int, ∃ D3_0 : List Value, F_slices_partialInsertionSortCmpFunc_Sint_L3 fu x1 x2 x3 s5 y1_10 n l3_0 y3_11 = some s65 ∧ Sep G B [rowsC v0 22 3 D3_0 (List.map ints l3_0)] ∧ AgB B H G ∧ env 0 = some v0 ∧ env 1 = some (Value.int .i64 x1) ∧ env 2 = some (Value.int .i64 x2) ∧ env 3 = some (Value.func (.func f3) #[] c3.toArray) ∧ env 9 = some (Value.int .i64 s5) ∧ env 10 = some (Value.int .i64 y1_10) ∧ env 11 = some (Value.int .i64 y3_11)) fu ⟨(lset (lset l1_0 s5 (gat [] l1_0 (isub .i64 s5 1))) (isub .i64 s5 1) (gat [] l1_0 s5)), (isub .i64 s5 1), (lset (lset D1_0 s5 (gat nilV D1_0 (isub .i64 s5 1))) (isub .i64 s5 1) (gat nilV D1_0 s5)), hL66, S67, A59, by simp [ej28_]⟩ ?_;rintro n3 env3 G3_ ⟨l3_0, y3_11, D3_0, hL66, S3_, A3_, e3_⟩;cases n3 with
        | zero => cases hL66
        | succ n3 =>
         simp only [F_slices_partialInsertionSortCmpFunc_Sint_L3] at hL66;refine .seq ?_;refine .sr fun K hK => ?_;simp [e3_];apply hK;clear hK K;refine DWp.cond' (t := (ile 1 y3_11)) (by simp [e3_]) (fun hb68 => ?_) (fun hb68 => ?_)
         ·replace hL66 := cd_t hb68 hL66;refine DWp.skip ?_;simp only [andThen, leaves];refine .seq ?_;refine .block ?_;refine .seq ?_;obtain ⟨g69, hL66⟩ := gd_some hL66;have q70 := (S3_.rd (k := 0) rfl).idxG (P := Try.prog) (kk := .i64) el_30 sz_22 g69;have q71 := (S3_.rd (k := 0) rfl).loadG (P := Try.prog) sz_22 ag_22 g69;obtain ⟨g72, hL66⟩ := gd_some hL66;have q73 := (S3_.rd (k := 0) rfl).idxG (P := Try.prog) (kk := .i64) el_30 sz_22 g72;have q74 := (S3_.rd (k := 0) rfl).loadG (P := Try.prog) sz_22 ag_22 g72;obtain ⟨r2, hc75, hL66⟩ := bd_some hL66;refine .sd (B := [0, 0, 0, 6, 14, 0, 0, 64, 224, 480, 1023, 2047, 4095]) 13 mixed (by kernel_rfl) (by decide) fun K hK => ?_;simp [e3_, q70, q71, q73, q74, (((S3_.rd (k := 0) rfl).rowAt [] g69).tup), (((S3_.rd (k := 0) rfl).rowAt [] g72).tup)];refine CallD.t (hx3 _ A3_ (gat nilV D3_0 y3_11) (gat nilV D3_0 (isub .i64 y3_11 1)) (gat [] l3_0 y3_11) (gat [] l3_0 (isub .i64 y3_11 1)) _ ((S3_.rd (k := 0) rfl).rowAt [] g69) ((S3_.rd (k := 0) rfl).rowAt [] g72) hc75) ?_;rintro _ G76 ⟨a79, rfl, S80⟩;have A78 := A3_.ext (hB.le A3_.1) a79.agree;have S77 : Sep G76 B [rowsC v0 22 3 D3_0 (List.map ints l3_0)] := S3_.agree a79.agree;simp [e3_, q70, q71, q73, q74, a79.pre];apply hK;clear hK K;refine DWp.cond' (t := (bnot (ilt r2 0))) (by simp [e3_]) (fun hb81 => ?_) (fun hb81 => ?_)
          ·replace hL66 := cd_t hb81 hL66;refine DWp.exit ?_;simp only [andThen, leaves, if_true, if_false, reduceIte, Nat.reduceEqDiff];obtain rfl := Option.some.inj hL66;try dsimp only at hL62
           have S82 := S77.pick [0] (by decide) rfl;obtain rfl := Option.some.inj hL62;exact ⟨D3_0, S82, A78, by simp [e3_]⟩
          ·replace hL66 := cd_f hb81 hL66;refine DWp.skip ?_;simp only [andThen, leaves];obtain ⟨g83, hL66⟩ := gd_some hL66;have q84 := (S77.rd (k := 0) rfl).idxG (P := Try.prog) (kk := .i64) el_30 sz_22 g83;have q85 := (S77.rd (k := 0) rfl).loadG (P := Try.prog) sz_22 ag_22 g83;obtain ⟨g86, hL66⟩ := gd_some hL66;have q87 := (S77.rd (k := 0) rfl).idxG (P := Try.prog) (kk := .i64) el_30 sz_22 g86;have q88 := (S77.rd (k := 0) rfl).loadG (P := Try.prog) sz_22 ag_22 g86;obtain ⟨g89, hL66⟩ := gd_some hL66;have q90 := (S77.rd (k := 0) rfl).idxG (P := Try.prog) (kk := .i64) el_30 sz_22 g89;obtain ⟨G96, q97, S98, a100⟩ := S77.swap1 (fr := ints) (P := Try.prog) (k := 0) [] rfl (hB.le A78.1) sz_22 g89 g83;have A99 := A78.trans a100;replace S98 : Sep G96 B [rowsS v0 22 3 (lset D3_0 y3_11 (gat nilV D3_0 (isub .i64 y3_11 1))) D3_0 (List.map ints l3_0)] := S98;obtain ⟨g101, hL66⟩ := gd_some hL66;have q102 := S98.idxS (P := Try.prog) (ki := .i64) (kk := 0) rfl el_30 sz_22 g101;obtain ⟨G108, q109, S110, a112⟩ := S98.swap2 (fr := ints) (P := Try.prog) (k := 0) [] rfl (hB.le A99.1) sz_22 g89 g83;have A111 := A99.trans a112;replace S110 : Sep G108 B [rowsC v0 22 3 (lset (lset D3_0 y3_11 (gat nilV D3_0 (isub .i64 y3_11 1))) (isub .i64 y3_11 1) (gat nilV D3_0 y3_11)) (List.map ints (lset (lset l3_0 y3_11 (gat [] l3_0 (isub .i64 y3_11 1))) (isub .i64 y3_11 1) (gat [] l3_0 y3_11)))] := S110;refine .drawn (B := [0, 0, 0, 0, 8, 0, 0, 64, 224, 480, 0, 0, 3072, 7168, 16355, 32739, 65535, 131071]) 15 mixed (by kernel_rfl) (by decide) fun K hK => ?_;simp [e3_, q84, q85, q87, q88, q90, (((S77.rd (k := 0) rfl).rowAt [] g83).tup), q97, q102, q109];apply hK;clear hK K;simp only [andThen, leaves];refine .region fun K hK => ?_;simp [e3_];apply hK;clear hK K;simp only [andThen, leaves]
           have S113 := S110.pick [0] (by decide) rfl;exact ⟨n3, Nat.lt_succ_self _, (lset (lset l3_0 y3_11 (gat [] l3_0 (isub .i64 y3_11 1))) (isub .i64 y3_11 1) (gat [] l3_0 y3_11)), (isub .i64 y3_11 1), (lset (lset D3_0 y3_11 (gat nilV D3_0 (isub .i64 y3_11 1))) (isub .i64 y3_11 1) (gat nilV D3_0 y3_11)), hL66, S113, A111, by simp [e3_]⟩
         ·replace hL66 := cd_f hb68 hL66;refine DWp.exit ?_;simp only [andThen, leaves, if_true, if_false, reduceIte, Nat.reduceEqDiff];obtain rfl := Option.some.inj hL66;try dsimp only at hL62
          have S114 := S3_.pick [0] (by decide) rfl;obtain rfl := Option.some.inj hL62;exact ⟨D3_0, S114, A3_, by simp [e3_]⟩
       ·replace hL62 := cd_f hb64 hL62;refine DWp.skip ?_;simp only [andThen, leaves];have S115 := S58.pick [0] (by decide) rfl;obtain rfl := Option.some.inj hL62;exact ⟨(lset (lset D1_0 s5 (gat nilV D1_0 (isub .i64 s5 1))) (isub .i64 s5 1) (gat nilV D1_0 s5)), S115, A59, by simp [ej28_]⟩
      ·rintro env Gj116 ⟨Dj2_0, Sj116, Aj116, ej116_⟩;refine .sr fun K hK => ?_;simp [ej116_];apply hK;clear hK K;refine DWp.cond' (t := (ile 2 (isub .i64 x2 s5))) (by simp [ej116_]) (fun hb117 => ?_) (fun hb117 => ?_)
       ·replace hL2 := cd_t hb117 hL2;refine .sr fun K hK => ?_;simp [ej116_];apply hK;clear hK K;refine .block ?_;obtain ⟨s118, hL119, hL2⟩ := bd_some hL2;have S120 := Sj116.pick [0] (by decide) rfl;refine DWp.loop (fun n env G => ∃ l4_0 : List (List Int), ∃ y4_12 : Int, ∃ D4_0 : List Value, F_slices_partialInsertionSortCmpFunc_Sint_L4 fu x1 x2 x3 s5 y1_10 n l4_0 y4_12 = some s118 ∧ Sep G B [rowsC v0 22 3 D4_0 (List.map ints l4_0)] ∧ AgB B H G ∧ env 0 = some v0 ∧ env 1 = some (Value.int .i64 x1) ∧ env 2 = some (Value.int .i64 x2) ∧ env 3 = some (Value.func (.func f3) #[] c3.toArray) ∧ env 9 = some (Value.int .i64 s5) ∧ env 10 = some (Value.int .i64 y1_10) ∧ env 12 = some (Value.int .i64 y4_12)) fu ⟨s61, (iadd .i64 s5 1), Dj2_0, hL119, S120, Aj116, by simp [ej116_]⟩ ?_;rintro n2 env2 G2_ ⟨l4_0, y4_12, D4_0, hL119, S2_, A2_, e2_⟩;cases n2 with
        | zero => cases hL119
        | succ n2 =>
         simp only [F_slices_partialInsertionSortCmpFunc_Sint_L4] at hL119;refine .seq ?_;refine .sr fun K hK => ?_;simp [e2_];apply hK;clear hK K;refine DWp.cond' (t := (ilt y4_12 x2)) (by simp [e2_]) (fun hb121 => ?_) (fun hb121 => ?_)
         ·replace hL119 := cd_t hb121 hL119;refine DWp.skip ?_;simp only [andThen, leaves];refine .seq ?_;refine .block ?_;refine .seq ?_;obtain ⟨g122, hL119⟩ := gd_some hL119;have q123 := (S2_.rd (k := 0) rfl).idxG (P := Try.prog) (kk := .i64) el_30 sz_22 g122;have q124 := (S2_.rd (k := 0) rfl).loadG (P := Try.prog) sz_22 ag_22 g122;obtain ⟨g125, hL119⟩ := gd_some hL119;have q126 := (S2_.rd (k := 0) rfl).idxG (P := Try.prog) (kk := .i64) el_30 sz_22 g125;have q127 := (S2_.rd (k := 0) rfl).loadG (P := Try.prog) sz_22 ag_22 g125;obtain ⟨r3, hc128, hL119⟩ := bd_some hL119;refine .sd (B := [0, 0, 0, 6, 14, 0, 0, 64, 224, 480, 1023, 2047, 4095]) 13 mixed (by kernel_rfl) (by decide) fun K hK => ?_;simp [e2_, q123, q124, q126, q127, (((S2_.rd (k := 0) rfl).rowAt [] g122).tup), (((S2_.rd (k := 0) rfl).rowAt [] g125).tup)];refine CallD.t (hx3 _ A2_ (gat nilV D4_0 y4_12) (gat nilV D4_0 (isub .i64 y4_12 1)) (gat [] l4_0 y4_12) (gat [] l4_0 (isub .i64 y4_12 1)) _ ((S2_.rd (k := 0) rfl).rowAt [] g122) ((S2_.rd (k := 0) rfl).rowAt [] g125) hc128) ?_;rintro _ G129 ⟨a132, rfl, S133⟩;have A131 := A2_.ext (hB.le A2_.1) a132.agree;have S130 : Sep G129 B [rowsC v0 22 3 D4_0 (List.map ints l4_0)] := S2_.agree a132.agree;simp [e2_, q123, q124, q126, q127, a132.pre];apply hK;clear hK K;refine DWp.cond' (t := (bnot (ilt r3 0))) (by simp [e2_]) (fun hb134 => ?_) (fun hb134 => ?_)
          ·replace hL119 := cd_t hb134 hL119;refine DWp.exit ?_;simp only [andThen, leaves, if_true, if_false, reduceIte, Nat.reduceEqDiff];obtain rfl := Option.some.inj hL119;try dsimp only at hL2
           refine .region fun K hK => ?_;simp [e2_];apply hK;clear hK K;simp only [andThen, leaves];have S135 := S130.pick [0] (by decide) rfl;exact ⟨n1, Nat.lt_succ_self _, l4_0, s5, (iadd .i64 y1_10 1), D4_0, hL2, S135, A131, by simp [e2_]⟩
          ·replace hL119 := cd_f hb134 hL119;refine DWp.skip ?_;simp only [andThen, leaves];obtain ⟨g136, hL119⟩ := gd_some hL119;have q137 := (S130.rd (k := 0) rfl).idxG (P := Try.prog) (kk := .i64) el_30 sz_22 g136;have q138 := (S130.rd (k := 0) rfl).loadG (P := Try.prog) sz_22 ag_22 g136;obtain ⟨g139, hL119⟩ := gd_some hL119;have q140 := (S130.rd (k := 0) rfl).idxG (P := Try.prog) (kk := .i64) el_30 sz_22 g139;have q141 := (S130.rd (k := 0) rfl).loadG (P := Try.prog) sz_22 ag_22 g139;obtain ⟨g142, hL119⟩ := gd_some hL119;have q143 := (S130.rd (k := 0) rfl).idxG (P := Try.prog) (kk := .i64) el_30 sz_22 g142;obtain ⟨G149, q150, S151, a153⟩ := S130.swap1 (fr := ints) (P := Try.prog) (k := 0) [] rfl (hB.le A131.1) sz_22 g142 g136;have A152 := A131.trans a153;replace S151 : Sep G149 B [rowsS v0 22 3 (lset D4_0 y4_12 (gat nilV D4_0 (isub .i64 y4_12 1))) D4_0 (List.map ints l4_0)] := S151;obtain ⟨g154, hL119⟩ := gd_some hL119;have q155 := S151.idxS (P := Try.prog) (ki := .i64) (kk := 0) rfl el_30 sz_22 g154;obtain ⟨G161, q162, S163, a165⟩ := S151.swap2 (fr := ints) (P := Try.prog) (k := 0) [] rfl (hB.le A152.1) sz_22 g142 g136;have A164 := A152.trans a165;replace S163 : Sep G161 B [rowsC v0 22 3 (lset (lset D4_0 y4_12 (gat nilV D4_0 (isub .i64 y4_12 1))) (isub .i64 y4_12 1) (gat nilV D4_0 y4_12)) (List.map ints (lset (lset l4_0 y4_12 (gat [] l4_0 (isub .i64 y4_12 1))) (isub .i64 y4_12 1) (gat [] l4_0 y4_12)))] := S163;refine .drawn (B := [0, 0, 0, 0, 8, 0, 0, 64, 224, 480, 0, 0, 3072, 7168, 16355, 32739, 65535, 131071]) 15 mixed (by kernel_rfl) (by decide) fun K hK => ?_;simp [e2_, q137, q138, q140, q141, q143, (((S130.rd (k := 0) rfl).rowAt [] g136).tup), q150, q155, q162];apply hK;clear hK K;simp only [andThen, leaves];refine .region fun K hK => ?_;simp [e2_];apply hK
           clear hK K;simp only [andThen, leaves];have S166 := S163.pick [0] (by decide) rfl;exact ⟨n2, Nat.lt_succ_self _, (lset (lset l4_0 y4_12 (gat [] l4_0 (isub .i64 y4_12 1))) (isub .i64 y4_12 1) (gat [] l4_0 y4_12)), (iadd .i64 y4_12 1), (lset (lset D4_0 y4_12 (gat nilV D4_0 (isub .i64 y4_12 1))) (isub .i64 y4_12 1) (gat nilV D4_0 y4_12)), hL119, S166, A164, by simp [e2_]⟩
         ·replace hL119 := cd_f hb121 hL119;refine DWp.exit ?_;simp only [andThen, leaves, if_true, if_false, reduceIte, Nat.reduceEqDiff];obtain rfl := Option.some.inj hL119;try dsimp only at hL2
          refine .region fun K hK => ?_;simp [e2_];apply hK;clear hK K;simp only [andThen, leaves];have S167 := S2_.pick [0] (by decide) rfl;exact ⟨n1, Nat.lt_succ_self _, l4_0, s5, (iadd .i64 y1_10 1), D4_0, hL2, S167, A2_, by simp [e2_]⟩
       ·replace hL2 := cd_f hb117 hL2;refine DWp.skip ?_;simp only [andThen, leaves];refine .region fun K hK => ?_;simp [ej116_];apply hK;clear hK K;simp only [andThen, leaves];have S168 := Sj116.pick [0] (by decide) rfl;exact ⟨n1, Nat.lt_succ_self _, s61, s5, (iadd .i64 y1_10 1), Dj2_0, hL2, S168, Aj116, by simp [ej116_]⟩
  ·replace hL2 := cd_f hb4 hL2;refine DWp.exit ?_;simp only [andThen, leaves, if_true, if_false, reduceIte, Nat.reduceEqDiff];obtain rfl := Option.some.inj hL2;simp only [lr] at hF;refine .sr fun K hK => ?_;simp [e1_];apply hK;clear hK K;refine DWp.ret ?_;obtain rfl := Option.some.inj hF;exact ⟨by simp, [(Value.bool false)], by simp [e1_], A1_, D1_0, rfl, S1_.pick [0] (by decide) rfl⟩
def F_slices_partitionCmpFunc_Sint_L1 (fu : Nat) (k1_0 : List (List Int)) (k1_1 : Int) (k1_2 : ((List Int) → (List Int) → Option (Int))) (k1_3 : Int) : Nat → Int → Option (Int)
  | 0, _ => none
  | n + 1, y1_12 =>
    bif (ile y1_12 k1_3) then
      gd (inL k1_0 y1_12) (
      gd (inL k1_0 k1_1) (
      bd (k1_2 (gat [] k1_0 y1_12) (gat [] k1_0 k1_1)) fun r1 =>
      bif (ilt r1 0) then
        F_slices_partitionCmpFunc_Sint_L1 fu k1_0 k1_1 k1_2 k1_3 n (iadd .i64 y1_12 1)
      else
        some y1_12))
    else
      some y1_12
def F_slices_partitionCmpFunc_Sint_L2 (fu : Nat) (k2_0 : List (List Int)) (k2_1 : Int) (k2_2 : ((List Int) → (List Int) → Option (Int))) (k2_3 : Int) : Nat → Int → Option (Int)
  | 0, _ => none
  | n + 1, y2_13 =>
    bif (ile k2_3 y2_13) then
      gd (inL k2_0 y2_13) (
      gd (inL k2_0 k2_1) (
      bd (k2_2 (gat [] k2_0 y2_13) (gat [] k2_0 k2_1)) fun r2 =>
      bif (bnot (ilt r2 0)) then
        F_slices_partitionCmpFunc_Sint_L2 fu k2_0 k2_1 k2_2 k2_3 n (isub .i64 y2_13 1)
      else
        some y2_13))
    else
      some y2_13
def F_slices_partitionCmpFunc_Sint_L4 (fu : Nat) (k4_0 : List (List Int)) (k4_1 : Int) (k4_2 : ((List Int) → (List Int) → Option (Int))) (k4_3 : Int) : Nat → Int → Option (Int)
  | 0, _ => none
  | n + 1, y4_12 =>
    bif (ile y4_12 k4_3) then
      gd (inL k4_0 y4_12) (
      gd (inL k4_0 k4_1) (
      bd (k4_2 (gat [] k4_0 y4_12) (gat [] k4_0 k4_1)) fun r3 =>
      bif (ilt r3 0) then
        F_slices_partitionCmpFunc_Sint_L4 fu k4_0 k4_1 k4_2 k4_3 n (iadd .i64 y4_12 1)
      else
        some y4_12))
    else
      some y4_12
def F_slices_partitionCmpFunc_Sint_L5 (fu : Nat) (k5_0 : List (List Int)) (k5_1 : Int) (k5_2 : ((List Int) → (List Int) → Option (Int))) (k5_3 : Int) : Nat → Int → Option (Int)
  | 0, _ => none
  | n + 1, y5_13 =>
    bif (ile k5_3 y5_13) then
      gd (inL k5_0 y5_13) (
      gd (inL k5_0 k5_1) (
      bd (k5_2 (gat [] k5_0 y5_13) (gat [] k5_0 k5_1)) fun r4 =>
      bif (bnot (ilt r4 0)) then
        F_slices_partitionCmpFunc_Sint_L5 fu k5_0 k5_1 k5_2 k5_3 n (isub .i64 y5_13 1)
      else
        some y5_13))
    else
      some y5_13
def F_slices_partitionCmpFunc_Sint_L3 (fu : Nat) (k3_0 : Int) (k3_1 : ((List Int) → (List Int) → Option (Int))) : Nat → List (List Int) → Int → Int → Option (List (List Int) × Int × Int)
  | 0, _, _, _ => none
  | n + 1, l3_0, y3_12, y3_13 =>
    bd (
      bd (F_slices_partitionCmpFunc_Sint_L4 fu l3_0 k3_0 k3_1 y3_13 fu y3_12) fun s4 =>
      some s4) fun s141 =>
    bd (
      bd (F_slices_partitionCmpFunc_Sint_L5 fu l3_0 k3_0 k3_1 s141 fu y3_13) fun s5 =>
      some s5) fun s164 =>
    bif (ilt s164 s141) then
      some (l3_0, s141, s164)
    else
      gd (inL l3_0 s164) (
      gd (inL l3_0 s141) (
      gd (inL l3_0 s141) (
      gd (inL l3_0 s164) (
      F_slices_partitionCmpFunc_Sint_L3 fu k3_0 k3_1 n (lset (lset l3_0 s141 (gat [] l3_0 s164)) s164 (gat [] l3_0 s141)) (iadd .i64 s141 1) (isub .i64 s164 1)))))
def F_slices_partitionCmpFunc_Sint (fu : Nat) (x0 : List (List Int)) (x1 : Int) (x2 : Int) (x3 : Int) (x4 : (List Int) → (List Int) → Option (Int)) : Option (Int × Bool × List (List Int)) :=
  gd (inL x0 x3) (
  gd (inL x0 x1) (
  gd (inL x0 x1) (
  gd (inL x0 x3) (
  bd (
    bd (F_slices_partitionCmpFunc_Sint_L1 fu (lset (lset x0 x1 (gat [] x0 x3)) x3 (gat [] x0 x1)) x1 x4 (isub .i64 x2 1) fu (iadd .i64 x1 1)) fun s1 =>
    some s1) fun s31 =>
  bd (
    bd (F_slices_partitionCmpFunc_Sint_L2 fu (lset (lset x0 x1 (gat [] x0 x3)) x3 (gat [] x0 x1)) x1 x4 s31 fu (isub .i64 x2 1)) fun s2 =>
    some s2) fun s54 =>
  bif (ilt s54 s31) then
    gd (inL (lset (lset x0 x1 (gat [] x0 x3)) x3 (gat [] x0 x1)) x1) (
    gd (inL (lset (lset x0 x1 (gat [] x0 x3)) x3 (gat [] x0 x1)) s54) (
    gd (inL (lset (lset x0 x1 (gat [] x0 x3)) x3 (gat [] x0 x1)) s54) (
    gd (inL (lset (lset x0 x1 (gat [] x0 x3)) x3 (gat [] x0 x1)) x1) (
    some (s54, true, (lset (lset (lset (lset x0 x1 (gat [] x0 x3)) x3 (gat [] x0 x1)) s54 (gat [] (lset (lset x0 x1 (gat [] x0 x3)) x3 (gat [] x0 x1)) x1)) x1 (gat [] (lset (lset x0 x1 (gat [] x0 x3)) x3 (gat [] x0 x1)) s54)))))))
  else
    gd (inL (lset (lset x0 x1 (gat [] x0 x3)) x3 (gat [] x0 x1)) s54) (
    gd (inL (lset (lset x0 x1 (gat [] x0 x3)) x3 (gat [] x0 x1)) s31) (
    gd (inL (lset (lset x0 x1 (gat [] x0 x3)) x3 (gat [] x0 x1)) s31) (
    gd (inL (lset (lset x0 x1 (gat [] x0 x3)) x3 (gat [] x0 x1)) s54) (
    bd (F_slices_partitionCmpFunc_Sint_L3 fu x1 x4 fu (lset (lset (lset (lset x0 x1 (gat [] x0 x3)) x3 (gat [] x0 x1)) s31 (gat [] (lset (lset x0 x1 (gat [] x0 x3)) x3 (gat [] x0 x1)) s54)) s54 (gat [] (lset (lset x0 x1 (gat [] x0 x3)) x3 (gat [] x0 x1)) s31)) (iadd .i64 s31 1) (isub .i64 s54 1)) fun s3 =>
    gd (inL s3.1 x1) (
    gd (inL s3.1 s3.2.2) (
    gd (inL s3.1 s3.2.2) (
    gd (inL s3.1 x1) (
    some (s3.2.2, false, (lset (lset s3.1 s3.2.2 (gat [] s3.1 x1)) x1 (gat [] s3.1 s3.2.2)))))))))))))))
theorem F_slices_partitionCmpFunc_Sint_w {fu : Nat} {H : AH} {B : Nat → Prop} {v0 : Value} {C0 : List Value} {f4 : FuncId} {c4 : List Value} {x0 : List (List Int)} {x1 : Int} {x2 : Int} {x3 : Int} {x4 : (List Int) → (List Int) → Option (Int)} {r : (Int × Bool × List (List Int))} (hB : Up B H.length) (S0 : Sep H B [rowsC v0 22 3 C0 (List.map ints x0)]) (hx4 : ∀ (G : AH), AgB B H G → ∀ (v0 : Value) (v1 : Value) (y0 : List Int) (y1 : List Int) (q : (Int)), Sl G v0 (ints y0) → Sl G v1 (ints y1) → x4 y0 y1 = some q → ACallT Try.prog f4 ([v0, v1] ++ c4) G (fun u G' => AgB (Fr G) G G' ∧ u = (Value.int .i64 q) ∧ Sep G' (Fr G) [])) (hF : F_slices_partitionCmpFunc_Sint fu x0 x1 x2 x3 x4 = some r) :
    ACallT Try.prog 62 [v0, (Value.int .i64 x1), (Value.int .i64 x2), (Value.int .i64 x3), (Value.func (.func f4) #[] c4.toArray)] H (fun u G => AgB B H G ∧ ∃ Cz0 : List Value, u = (Value.tuple #[(Value.int .i64 r.1), (Value.bool r.2.1)]) ∧ Sep G B [rowsC v0 22 3 Cz0 (List.map ints r.2.2)]) := by
 refine ACallT.of_body (nt := 178) (rs := [.tmp 10, .tmp 11]) Try.func62 rfl rfl rfl rfl ?_;have A0 : AgB B H H := .refl _ _;unfold F_slices_partitionCmpFunc_Sint at hF;refine .sr fun K hK => ?_;simp [];apply hK;clear hK K;obtain ⟨g1, hF⟩ := gd_some hF;have q2 := (S0.rd (k := 0) rfl).idxG (P := Try.prog) (kk := .i64) el_30 sz_22 g1;have q3 := (S0.rd (k := 0) rfl).loadG (P := Try.prog) sz_22 ag_22 g1;obtain ⟨g4, hF⟩ := gd_some hF;have q5 := (S0.rd (k := 0) rfl).idxG (P := Try.prog) (kk := .i64) el_30 sz_22 g4;have q6 := (S0.rd (k := 0) rfl).loadG (P := Try.prog) sz_22 ag_22 g4;obtain ⟨g7, hF⟩ := gd_some hF;have q8 := (S0.rd (k := 0) rfl).idxG (P := Try.prog) (kk := .i64) el_30 sz_22 g7;obtain ⟨G14, q15, S16, a18⟩ := S0.swap1 (fr := ints) (P := Try.prog) (k := 0) [] rfl (hB.le A0.1) sz_22 g7 g1;have A17 := A0.trans a18;replace S16 : Sep G14 B [rowsS v0 22 3 (lset C0 x1 (gat nilV C0 x3)) C0 (List.map ints x0)] := S16;obtain ⟨g19, hF⟩ := gd_some hF;have q20 := S16.idxS (P := Try.prog) (ki := .i64) (kk := 0) rfl el_30 sz_22 g19;obtain ⟨G26, q27, S28, a30⟩ := S16.swap2 (fr := ints) (P := Try.prog) (k := 0) [] rfl (hB.le A17.1) sz_22 g7 g1;have A29 := A17.trans a30;replace S28 : Sep G26 B [rowsC v0 22 3 (lset (lset C0 x1 (gat nilV C0 x3)) x3 (gat nilV C0 x1)) (List.map ints (lset (lset x0 x1 (gat [] x0 x3)) x3 (gat [] x0 x1)))] := S28;refine .sd (B := [0, 0, 0, 0, 0, 0, 48, 112, 0, 0, 768, 1792, 4083, 8179, 16383, 32767]) 13 mixed (by kernel_rfl) (by decide) fun K hK => ?_;simp [q2, q3, q5, q6, q8, (((S0.rd (k := 0) rfl).rowAt [] g1).tup), q15, q20, q27];apply hK;clear hK K;refine .sr fun K hK => ?_;simp [];apply hK;clear hK K;obtain ⟨s31, hL32, hF⟩ := bd_some hF
 refine DWp.seq (DWp.join (fun env G => Sep G B [rowsC v0 22 3 (lset (lset C0 x1 (gat nilV C0 x3)) x3 (gat nilV C0 x1)) (List.map ints (lset (lset x0 x1 (gat [] x0 x3)) x3 (gat [] x0 x1)))] ∧ AgB B H G ∧ env 0 = some v0 ∧ env 1 = some (Value.int .i64 x1) ∧ env 4 = some (Value.func (.func f4) #[] c4.toArray) ∧ env 12 = some (Value.int .i64 s31) ∧ env 13 = some (Value.int .i64 (isub .i64 x2 1))) ?_ ?_)
 ·
  refine .block ?_;obtain ⟨s34, hL35, hL32⟩ := bd_some hL32;have S36 := S28.pick [0] (by decide) rfl;refine DWp.loop (fun n env G => ∃ y1_12 : Int, F_slices_partitionCmpFunc_Sint_L1 fu (lset (lset x0 x1 (gat [] x0 x3)) x3 (gat [] x0 x1)) x1 x4 (isub .i64 x2 1) n y1_12 = some s34 ∧ Sep G B [rowsC v0 22 3 (lset (lset C0 x1 (gat nilV C0 x3)) x3 (gat nilV C0 x1)) (List.map ints (lset (lset x0 x1 (gat [] x0 x3)) x3 (gat [] x0 x1)))] ∧ AgB B H G ∧ env 0 = some v0 ∧ env 1 = some (Value.int .i64 x1) ∧ env 4 = some (Value.func (.func f4) #[] c4.toArray) ∧ env 12 = some (Value.int .i64 y1_12) ∧ env 13 = some (Value.int .i64 (isub .i64 x2 1))) fu ⟨(iadd .i64 x1 1), hL35, S36, A29, by simp []⟩ ?_;rintro n2 env2 G2_ ⟨y1_12, hL35, S2_, A2_, e2_⟩;cases n2 with
  | zero => cases hL35
  | succ n2 =>
   simp only [F_slices_partitionCmpFunc_Sint_L1] at hL35;refine .seq ?_;rcases Bool.eq_false_or_eq_true (ile y1_12 (isub .i64 x2 1)) with hb37 | hb37
   ·replace hL35 := cd_t hb37 hL35;obtain ⟨g38, hL35⟩ := gd_some hL35;have q39 := (S2_.rd (k := 0) rfl).idxG (P := Try.prog) (kk := .i64) el_30 sz_22 g38;have q40 := (S2_.rd (k := 0) rfl).loadG (P := Try.prog) sz_22 ag_22 g38;obtain ⟨g41, hL35⟩ := gd_some hL35;have q42 := (S2_.rd (k := 0) rfl).idxG (P := Try.prog) (kk := .i64) el_30 sz_22 g41;have q43 := (S2_.rd (k := 0) rfl).loadG (P := Try.prog) sz_22 ag_22 g41;obtain ⟨r1, hc44, hL35⟩ := bd_some hL35;refine .sd (B := [0, 0, 3, 7, 15, 15, 15, 111, 239, 15, 15, 1551, 3599, 8191, 16383, 32767]) 16 mixed (by kernel_rfl) (by decide) fun K hK => ?_;simp [e2_, hb37, q39, q40, q42, q43, (((S2_.rd (k := 0) rfl).rowAt [] g38).tup), (((S2_.rd (k := 0) rfl).rowAt [] g41).tup)];refine CallD.t (hx4 _ A2_ (gat nilV (lset (lset C0 x1 (gat nilV C0 x3)) x3 (gat nilV C0 x1)) y1_12) (gat nilV (lset (lset C0 x1 (gat nilV C0 x3)) x3 (gat nilV C0 x1)) x1) (gat [] (lset (lset x0 x1 (gat [] x0 x3)) x3 (gat [] x0 x1)) y1_12) (gat [] (lset (lset x0 x1 (gat [] x0 x3)) x3 (gat [] x0 x1)) x1) _ ((S2_.rd (k := 0) rfl).rowAt [] g38) ((S2_.rd (k := 0) rfl).rowAt [] g41) hc44) ?_;rintro _ G45 ⟨a48, rfl, S49⟩;have A47 := A2_.ext (hB.le A2_.1) a48.agree;have S46 : Sep G45 B [rowsC v0 22 3 (lset (lset C0 x1 (gat nilV C0 x3)) x3 (gat nilV C0 x1)) (List.map ints (lset (lset x0 x1 (gat [] x0 x3)) x3 (gat [] x0 x1)))] := S2_.agree a48.agree;simp [e2_, hb37, q39, q40, q42, q43, a48.pre];apply hK;clear hK K;refine DWp.cond' (t := (ilt r1 0)) (by simp [e2_]) (fun hb50 => ?_) (fun hb50 => ?_)
    ·replace hL35 := cd_t hb50 hL35;refine DWp.skip ?_;simp only [andThen, leaves];refine .block ?_;refine .region fun K hK => ?_;simp [e2_];apply hK;clear hK K;simp only [andThen, leaves];have S51 := S46.pick [0] (by decide) rfl;exact ⟨n2, Nat.lt_succ_self _, (iadd .i64 y1_12 1), hL35, S51, A47, by simp [e2_]⟩
    ·replace hL35 := cd_f hb50 hL35;refine DWp.exit ?_;simp only [andThen, leaves, if_true, if_false, reduceIte, Nat.reduceEqDiff];obtain rfl := Option.some.inj hL35;have S52 := S46.pick [0] (by decide) rfl;obtain rfl := Option.some.inj hL32;exact ⟨S52, A47, by simp [e2_]⟩
   ·replace hL35 := cd_f hb37 hL35;refine .sd (B := [0, 0, 3, 7, 15, 15, 15, 111, 239, 15, 15, 1551, 3599, 8191, 16383, 32767]) 16 mixed (by kernel_rfl) (by decide) fun K hK => ?_;simp [e2_, hb37];apply hK;clear hK K;refine DWp.cf (by simp [e2_, bnot]) ?_;refine DWp.exit ?_;simp only [andThen, leaves, if_true, if_false, reduceIte, Nat.reduceEqDiff];obtain rfl := Option.some.inj hL35;have S53 := S2_.pick [0] (by decide) rfl;obtain rfl := Option.some.inj hL32;exact ⟨S53, A2_, by simp [e2_]⟩
 ·rintro env Gj54 ⟨Sj54, Aj54, ej54_⟩;obtain ⟨s55, hL56, hF⟩ := bd_some hF;refine DWp.seq (DWp.join (fun env G => Sep G B [rowsC v0 22 3 (lset (lset C0 x1 (gat nilV C0 x3)) x3 (gat nilV C0 x1)) (List.map ints (lset (lset x0 x1 (gat [] x0 x3)) x3 (gat [] x0 x1)))] ∧ AgB B H G ∧ env 0 = some v0 ∧ env 1 = some (Value.int .i64 x1) ∧ env 4 = some (Value.func (.func f4) #[] c4.toArray) ∧ env 12 = some (Value.int .i64 s31) ∧ env 13 = some (Value.int .i64 s55)) ?_ ?_)
  ·
   refine .block ?_;obtain ⟨s58, hL59, hL56⟩ := bd_some hL56;have S60 := Sj54.pick [0] (by decide) rfl;refine DWp.loop (fun n env G => ∃ y2_13 : Int, F_slices_partitionCmpFunc_Sint_L2 fu (lset (lset x0 x1 (gat [] x0 x3)) x3 (gat [] x0 x1)) x1 x4 s31 n y2_13 = some s58 ∧ Sep G B [rowsC v0 22 3 (lset (lset C0 x1 (gat nilV C0 x3)) x3 (gat nilV C0 x1)) (List.map ints (lset (lset x0 x1 (gat [] x0 x3)) x3 (gat [] x0 x1)))] ∧ AgB B H G ∧ env 0 = some v0 ∧ env 1 = some (Value.int .i64 x1) ∧ env 4 = some (Value.func (.func f4) #[] c4.toArray) ∧ env 12 = some (Value.int .i64 s31) ∧ env 13 = some (Value.int .i64 y2_13)) fu ⟨(isub .i64 x2 1), hL59, S60, Aj54, by simp [ej54_]⟩ ?_;rintro n2 env2 G2_ ⟨y2_13, hL59, S2_, A2_, e2_⟩;cases n2 with
   | zero => cases hL59
   | succ n2 =>
    simp only [F_slices_partitionCmpFunc_Sint_L2] at hL59;refine .seq ?_;rcases Bool.eq_false_or_eq_true (ile s31 y2_13) with hb61 | hb61
    ·replace hL59 := cd_t hb61 hL59;obtain ⟨g62, hL59⟩ := gd_some hL59;have q63 := (S2_.rd (k := 0) rfl).idxG (P := Try.prog) (kk := .i64) el_30 sz_22 g62;have q64 := (S2_.rd (k := 0) rfl).loadG (P := Try.prog) sz_22 ag_22 g62;obtain ⟨g65, hL59⟩ := gd_some hL59;have q66 := (S2_.rd (k := 0) rfl).idxG (P := Try.prog) (kk := .i64) el_30 sz_22 g65;have q67 := (S2_.rd (k := 0) rfl).loadG (P := Try.prog) sz_22 ag_22 g65;obtain ⟨r2, hc68, hL59⟩ := bd_some hL59;refine .sd (B := [0, 0, 3, 7, 15, 15, 15, 111, 239, 15, 15, 1551, 3599, 8191, 16383, 32767, 65535]) 17 mixed (by kernel_rfl) (by decide) fun K hK => ?_;simp [e2_, hb61, q63, q64, q66, q67, (((S2_.rd (k := 0) rfl).rowAt [] g62).tup), (((S2_.rd (k := 0) rfl).rowAt [] g65).tup)];refine CallD.t (hx4 _ A2_ (gat nilV (lset (lset C0 x1 (gat nilV C0 x3)) x3 (gat nilV C0 x1)) y2_13) (gat nilV (lset (lset C0 x1 (gat nilV C0 x3)) x3 (gat nilV C0 x1)) x1) (gat [] (lset (lset x0 x1 (gat [] x0 x3)) x3 (gat [] x0 x1)) y2_13) (gat [] (lset (lset x0 x1 (gat [] x0 x3)) x3 (gat [] x0 x1)) x1) _ ((S2_.rd (k := 0) rfl).rowAt [] g62) ((S2_.rd (k := 0) rfl).rowAt [] g65) hc68) ?_;rintro _ G69 ⟨a72, rfl, S73⟩;have A71 := A2_.ext (hB.le A2_.1) a72.agree;have S70 : Sep G69 B [rowsC v0 22 3 (lset (lset C0 x1 (gat nilV C0 x3)) x3 (gat nilV C0 x1)) (List.map ints (lset (lset x0 x1 (gat [] x0 x3)) x3 (gat [] x0 x1)))] := S2_.agree a72.agree;simp [e2_, hb61, q63, q64, q66, q67, a72.pre];apply hK;clear hK K;refine DWp.cond' (t := (bnot (ilt r2 0))) (by simp [e2_]) (fun hb74 => ?_) (fun hb74 => ?_)
     ·replace hL59 := cd_t hb74 hL59;refine DWp.skip ?_;simp only [andThen, leaves];refine .block ?_;refine .region fun K hK => ?_;simp [e2_];apply hK;clear hK K;simp only [andThen, leaves];have S75 := S70.pick [0] (by decide) rfl;exact ⟨n2, Nat.lt_succ_self _, (isub .i64 y2_13 1), hL59, S75, A71, by simp [e2_]⟩
     ·replace hL59 := cd_f hb74 hL59;refine DWp.exit ?_;simp only [andThen, leaves, if_true, if_false, reduceIte, Nat.reduceEqDiff];obtain rfl := Option.some.inj hL59;have S76 := S70.pick [0] (by decide) rfl;obtain rfl := Option.some.inj hL56;exact ⟨S76, A71, by simp [e2_]⟩
    ·replace hL59 := cd_f hb61 hL59;refine .sd (B := [0, 0, 3, 7, 15, 15, 15, 111, 239, 15, 15, 1551, 3599, 8191, 16383, 32767, 65535]) 17 mixed (by kernel_rfl) (by decide) fun K hK => ?_;simp [e2_, hb61];apply hK;clear hK K;refine DWp.cf (by simp [e2_, bnot]) ?_;refine DWp.exit ?_;simp only [andThen, leaves, if_true, if_false, reduceIte, Nat.reduceEqDiff];obtain rfl := Option.some.inj hL59;have S77 := S2_.pick [0] (by decide) rfl;obtain rfl := Option.some.inj hL56;exact ⟨S77, A2_, by simp [e2_]⟩
  ·rintro env Gj78 ⟨Sj78, Aj78, ej78_⟩;refine .seq ?_;refine .sr fun K hK => ?_;simp [ej78_];apply hK;clear hK K;refine DWp.cond' (t := (ilt s55 s31)) (by simp [ej78_]) (fun hb79 => ?_) (fun hb79 => ?_)
   ·replace hF := cd_t hb79 hF;obtain ⟨g80, hF⟩ := gd_some hF;have q81 := (Sj78.rd (k := 0) rfl).idxG (P := Try.prog) (kk := .i64) el_30 sz_22 g80;have q82 := (Sj78.rd (k := 0) rfl).loadG (P := Try.prog) sz_22 ag_22 g80;obtain ⟨g83, hF⟩ := gd_some hF;have q84 := (Sj78.rd (k := 0) rfl).idxG (P := Try.prog) (kk := .i64) el_30 sz_22 g83;have q85 := (Sj78.rd (k := 0) rfl).loadG (P := Try.prog) sz_22 ag_22 g83;obtain ⟨g86, hF⟩ := gd_some hF;have q87 := (Sj78.rd (k := 0) rfl).idxG (P := Try.prog) (kk := .i64) el_30 sz_22 g86;obtain ⟨G93, q94, S95, a97⟩ := Sj78.swap1 (fr := ints) (P := Try.prog) (k := 0) [] rfl (hB.le Aj78.1) sz_22 g86 g80;have A96 := Aj78.trans a97;replace S95 : Sep G93 B [rowsS v0 22 3 (lset (lset (lset C0 x1 (gat nilV C0 x3)) x3 (gat nilV C0 x1)) s55 (gat nilV (lset (lset C0 x1 (gat nilV C0 x3)) x3 (gat nilV C0 x1)) x1)) (lset (lset C0 x1 (gat nilV C0 x3)) x3 (gat nilV C0 x1)) (List.map ints (lset (lset x0 x1 (gat [] x0 x3)) x3 (gat [] x0 x1)))] := S95;obtain ⟨g98, hF⟩ := gd_some hF;have q99 := S95.idxS (P := Try.prog) (ki := .i64) (kk := 0) rfl el_30 sz_22 g98;obtain ⟨G105, q106, S107, a109⟩ := S95.swap2 (fr := ints) (P := Try.prog) (k := 0) [] rfl (hB.le A96.1) sz_22 g86 g80;have A108 := A96.trans a109;replace S107 : Sep G105 B [rowsC v0 22 3 (lset (lset (lset (lset C0 x1 (gat nilV C0 x3)) x3 (gat nilV C0 x1)) s55 (gat nilV (lset (lset C0 x1 (gat nilV C0 x3)) x3 (gat nilV C0 x1)) x1)) x1 (gat nilV (lset (lset C0 x1 (gat nilV C0 x3)) x3 (gat nilV C0 x1)) s55)) (List.map ints (lset (lset (lset (lset x0 x1 (gat [] x0 x3)) x3 (gat [] x0 x1)) s55 (gat [] (lset (lset x0 x1 (gat [] x0 x3)) x3 (gat [] x0 x1)) x1)) x1 (gat [] (lset (lset x0 x1 (gat [] x0 x3)) x3 (gat [] x0 x1)) s55)))] := S107
    refine .sd (B := [0, 0, 0, 0, 0, 0, 48, 112, 0, 0, 768, 1792, 4083, 8179, 16383, 32767]) 13 mixed (by kernel_rfl) (by decide) fun K hK => ?_;simp [ej78_, q81, q82, q84, q85, q87, (((Sj78.rd (k := 0) rfl).rowAt [] g80).tup), q94, q99, q106];apply hK;clear hK K;refine .sr fun K hK => ?_;simp [ej78_];apply hK;clear hK K;refine DWp.ret ?_;simp only [andThen, leaves];obtain rfl := Option.some.inj hF;exact ⟨by simp, [(Value.int .i64 s55), (Value.bool true)], by simp [ej78_], A108, (lset (lset (lset (lset C0 x1 (gat nilV C0 x3)) x3 (gat nilV C0 x1)) s55 (gat nilV (lset (lset C0 x1 (gat nilV C0 x3)) x3 (gat nilV C0 x1)) x1)) x1 (gat nilV (lset (lset C0 x1 (gat nilV C0 x3)) x3 (gat nilV C0 x1)) s55)), rfl, S107.pick [0] (by decide) rfl⟩
   ·replace hF := cd_f hb79 hF;refine DWp.skip ?_;simp only [andThen, leaves];obtain ⟨g110, hF⟩ := gd_some hF;have q111 := (Sj78.rd (k := 0) rfl).idxG (P := Try.prog) (kk := .i64) el_30 sz_22 g110;have q112 := (Sj78.rd (k := 0) rfl).loadG (P := Try.prog) sz_22 ag_22 g110;obtain ⟨g113, hF⟩ := gd_some hF;have q114 := (Sj78.rd (k := 0) rfl).idxG (P := Try.prog) (kk := .i64) el_30 sz_22 g113;have q115 := (Sj78.rd (k := 0) rfl).loadG (P := Try.prog) sz_22 ag_22 g113;obtain ⟨g116, hF⟩ := gd_some hF;have q117 := (Sj78.rd (k := 0) rfl).idxG (P := Try.prog) (kk := .i64) el_30 sz_22 g116;obtain ⟨G123, q124, S125, a127⟩ := Sj78.swap1 (fr := ints) (P := Try.prog) (k := 0) [] rfl (hB.le Aj78.1) sz_22 g116 g110;have A126 := Aj78.trans a127;replace S125 : Sep G123 B [rowsS v0 22 3 (lset (lset (lset C0 x1 (gat nilV C0 x3)) x3 (gat nilV C0 x1)) s31 (gat nilV (lset (lset C0 x1 (gat nilV C0 x3)) x3 (gat nilV C0 x1)) s55)) (lset (lset C0 x1 (gat nilV C0 x3)) x3 (gat nilV C0 x1)) (List.map ints (lset (lset x0 x1 (gat [] x0 x3)) x3 (gat [] x0 x1)))] := S125;obtain ⟨g128, hF⟩ := gd_some hF;have q129 := S125.idxS (P := Try.prog) (ki := .i64) (kk := 0) rfl el_30 sz_22 g128;obtain ⟨G135, q136, S137, a139⟩ := S125.swap2 (fr := ints) (P := Try.prog) (k := 0) [] rfl (hB.le A126.1) sz_22 g116 g110;have A138 := A126.trans a139
    replace S137 : Sep G135 B [rowsC v0 22 3 (lset (lset (lset (lset C0 x1 (gat nilV C0 x3)) x3 (gat nilV C0 x1)) s31 (gat nilV (lset (lset C0 x1 (gat nilV C0 x3)) x3 (gat nilV C0 x1)) s55)) s55 (gat nilV (lset (lset C0 x1 (gat nilV C0 x3)) x3 (gat nilV C0 x1)) s31)) (List.map ints (lset (lset (lset (lset x0 x1 (gat [] x0 x3)) x3 (gat [] x0 x1)) s31 (gat [] (lset (lset x0 x1 (gat [] x0 x3)) x3 (gat [] x0 x1)) s55)) s55 (gat [] (lset (lset x0 x1 (gat [] x0 x3)) x3 (gat [] x0 x1)) s31)))] := S137;refine .sd (B := [0, 0, 0, 0, 0, 0, 48, 112, 0, 0, 768, 1792, 4083, 8179, 16383, 32767]) 13 mixed (by kernel_rfl) (by decide) fun K hK => ?_;simp [ej78_, q111, q112, q114, q115, q117, (((Sj78.rd (k := 0) rfl).rowAt [] g110).tup), q124, q129, q136];apply hK;clear hK K;refine .sr fun K hK => ?_;simp [ej78_];apply hK;clear hK K;refine .sr fun K hK => ?_;simp [ej78_];apply hK;clear hK K;refine .seq ?_;refine .block ?_;obtain ⟨s140, hL141, hF⟩ := bd_some hF;have S142 := S137.pick [0] (by decide) rfl
    refine DWp.loop (fun n env G => ∃ l3_0 : List (List Int), ∃ y3_12 : Int, ∃ y3_13 : Int, ∃ D3_0 : List Value, F_slices_partitionCmpFunc_Sint_L3 fu x1 x4 n l3_0 y3_12 y3_13 = some s140 ∧ Sep G B [rowsC v0 22 3 D3_0 (List.map ints l3_0)] ∧ AgB B H G ∧ env 0 = some v0 ∧ env 1 = some (Value.int .i64 x1) ∧ env 4 = some (Value.func (.func f4) #[] c4.toArray) ∧ env 12 = some (Value.int .i64 y3_12) ∧ env 13 = some (Value.int .i64 y3_13)) fu ⟨(lset (lset (lset (lset x0 x1 (gat [] x0 x3)) x3 (gat [] x0 x1)) s31 (gat [] (lset (lset x0 x1 (gat [] x0 x3)) x3 (gat [] x0 x1)) s55)) s55 (gat [] (lset (lset x0 x1 (gat [] x0 x3)) x3 (gat [] x0 x1)) s31)), (iadd .i64 s31 1), (isub .i64 s55 1), (lset (lset (lset (lset C0 x1 (gat nilV C0 x3)) x3 (gat nilV C0 x1)) s31 (gat nilV (lset (lset C0 x1 (gat nilV C0 x3)) x3 (gat nilV C0 x1)) s55)) s55 (gat nilV (lset (lset C0 x1 (gat nilV C0 x3)) x3 (gat nilV C0 x1)) s31)), hL141, S142, A138, by simp [ej78_]⟩ ?_;rintro n1 env1 G1_ ⟨l3_0, y3_12, y3_13, D3_0, hL141, S1_, A1_, e1_⟩;cases n1 with
    | zero => cases hL141
    | succ n1 =>
     simp only [F_slices_partitionCmpFunc_Sint_L3] at hL141;refine .block ?_;obtain ⟨s143, hL144, hL141⟩ := bd_some hL141;refine DWp.seq (DWp.join (fun env G => Sep G B [rowsC v0 22 3 D3_0 (List.map ints l3_0)] ∧ AgB B H G ∧ env 0 = some v0 ∧ env 1 = some (Value.int .i64 x1) ∧ env 4 = some (Value.func (.func f4) #[] c4.toArray) ∧ env 12 = some (Value.int .i64 s143) ∧ env 13 = some (Value.int .i64 y3_13)) ?_ ?_)
     ·
      refine .block ?_;obtain ⟨s146, hL147, hL144⟩ := bd_some hL144;have S148 := S1_.pick [0] (by decide) rfl;refine DWp.loop (fun n env G => ∃ y4_12 : Int, F_slices_partitionCmpFunc_Sint_L4 fu l3_0 x1 x4 y3_13 n y4_12 = some s146 ∧ Sep G B [rowsC v0 22 3 D3_0 (List.map ints l3_0)] ∧ AgB B H G ∧ env 0 = some v0 ∧ env 1 = some (Value.int .i64 x1) ∧ env 4 = some (Value.func (.func f4) #[] c4.toArray) ∧ env 12 = some (Value.int .i64 y4_12) ∧ env 13 = some (Value.int .i64 y3_13)) fu ⟨y3_12, hL147, S148, A1_, by simp [e1_]⟩ ?_;rintro n3 env3 G3_ ⟨y4_12, hL147, S3_, A3_, e3_⟩;cases n3 with
      | zero => cases hL147
      | succ n3 =>
       simp only [F_slices_partitionCmpFunc_Sint_L4] at hL147;refine .seq ?_;rcases Bool.eq_false_or_eq_true (ile y4_12 y3_13) with hb149 | hb149
       ·replace hL147 := cd_t hb149 hL147;obtain ⟨g150, hL147⟩ := gd_some hL147;have q151 := (S3_.rd (k := 0) rfl).idxG (P := Try.prog) (kk := .i64) el_30 sz_22 g150;have q152 := (S3_.rd (k := 0) rfl).loadG (P := Try.prog) sz_22 ag_22 g150;obtain ⟨g153, hL147⟩ := gd_some hL147;have q154 := (S3_.rd (k := 0) rfl).idxG (P := Try.prog) (kk := .i64) el_30 sz_22 g153;have q155 := (S3_.rd (k := 0) rfl).loadG (P := Try.prog) sz_22 ag_22 g153;obtain ⟨r3, hc156, hL147⟩ := bd_some hL147;refine .sd (B := [0, 0, 3, 7, 15, 15, 15, 111, 239, 15, 15, 1551, 3599, 8191, 16383, 32767]) 16 mixed (by kernel_rfl) (by decide) fun K hK => ?_;simp [e3_, hb149, q151, q152, q154, q155, (((S3_.rd (k := 0) rfl).rowAt [] g150).tup), (((S3_.rd (k := 0) rfl).rowAt [] g153).tup)];refine CallD.t (hx4 _ A3_ (gat nilV D3_0 y4_12) (gat nilV D3_0 x1) (gat [] l3_0 y4_12) (gat [] l3_0 x1) _ ((S3_.rd (k := 0) rfl).rowAt [] g150) ((S3_.rd (k := 0) rfl).rowAt [] g153) hc156) ?_;rintro _ G157 ⟨a160, rfl, S161⟩;have A159 := A3_.ext (hB.le A3_.1) a160.agree;have S158 : Sep G157 B [rowsC v0 22 3 D3_0 (List.map ints l3_0)] := S3_.agree a160.agree;simp [e3_, hb149, q151, q152, q154, q155, a160.pre];apply hK;clear hK K;refine DWp.cond' (t := (ilt r3 0)) (by simp [e3_]) (fun hb162 => ?_) (fun hb162 => ?_)
        ·replace hL147 := cd_t hb162 hL147;refine DWp.skip ?_;simp only [andThen, leaves];refine .block ?_;refine .region fun K hK => ?_;simp [e3_];apply hK;clear hK K;simp only [andThen, leaves];have S163 := S158.pick [0] (by decide) rfl;exact ⟨n3, Nat.lt_succ_self _, (iadd .i64 y4_12 1), hL147, S163, A159, by simp [e3_]⟩
        ·replace hL147 := cd_f hb162 hL147;refine DWp.exit ?_;simp only [andThen, leaves, if_true, if_false, reduceIte, Nat.reduceEqDiff];obtain rfl := Option.some.inj hL147;have S164 := S158.pick [0] (by decide) rfl;obtain rfl := Option.some.inj hL144;exact ⟨S164, A159, by simp [e3_]⟩
       ·replace hL147 := cd_f hb149 hL147;refine .sd (B := [0, 0, 3, 7, 15, 15, 15, 111, 239, 15, 15, 1551, 3599, 8191, 16383, 32767]) 16 mixed (by kernel_rfl) (by decide) fun K hK => ?_;simp [e3_, hb149];apply hK;clear hK K;refine DWp.cf (by simp [e3_, bnot]) ?_;refine DWp.exit ?_;simp only [andThen, leaves, if_true, if_false, reduceIte, Nat.reduceEqDiff];obtain rfl := Option.some.inj hL147;have S165 := S3_.pick [0] (by decide) rfl;obtain rfl := Option.some.inj hL144;exact ⟨S165, A3_, by simp [e3_]⟩
     ·rintro env Gj166 ⟨Sj166, Aj166, ej166_⟩;obtain ⟨s167, hL168, hL141⟩ := bd_some hL141;refine DWp.seq (DWp.join (fun env G => Sep G B [rowsC v0 22 3 D3_0 (List.map ints l3_0)] ∧ AgB B H G ∧ env 0 = some v0 ∧ env 1 = some (Value.int .i64 x1) ∧ env 4 = some (Value.func (.func f4) #[] c4.toArray) ∧ env 12 = some (Value.int .i64 s143) ∧ env 13 = some (Value.int .i64 s167)) ?_ ?_)
      ·
       refine .block ?_;obtain ⟨s170, hL171, hL168⟩ := bd_some hL168;have S172 := Sj166.pick [0] (by decide) rfl;refine DWp.loop (fun n env G => ∃ y5_13 : Int, F_slices_partitionCmpFunc_Sint_L5 fu l3_0 x1 x4 s143 n y5_13 = some s170 ∧ Sep G B [rowsC v0 22 3 D3_0 (List.map ints l3_0)] ∧ AgB B H G ∧ env 0 = some v0 ∧ env 1 = some (Value.int .i64 x1) ∧ env 4 = some (Value.func (.func f4) #[] c4.toArray) ∧ env 12 = some (Value.int .i64 s143) ∧ env 13 = some (Value.int .i64 y5_13)) fu ⟨y3_13, hL171, S172, Aj166, by simp [ej166_]⟩ ?_;rintro n3 env3 G3_ ⟨y5_13, hL171, S3_, A3_, e3_⟩;cases n3 with
       | zero => cases hL171
       | succ n3 =>
        simp only [F_slices_partitionCmpFunc_Sint_L5] at hL171;refine .seq ?_;rcases Bool.eq_false_or_eq_true (ile s143 y5_13) with hb173 | hb173
        ·replace hL171 := cd_t hb173 hL171;obtain ⟨g174, hL171⟩ := gd_some hL171;have q175 := (S3_.rd (k := 0) rfl).idxG (P := Try.prog) (kk := .i64) el_30 sz_22 g174;have q176 := (S3_.rd (k := 0) rfl).loadG (P := Try.prog) sz_22 ag_22 g174;obtain ⟨g177, hL171⟩ := gd_some hL171;have q178 := (S3_.rd (k := 0) rfl).idxG (P := Try.prog) (kk := .i64) el_30 sz_22 g177;have q179 := (S3_.rd (k := 0) rfl).loadG (P := Try.prog) sz_22 ag_22 g177;obtain ⟨r4, hc180, hL171⟩ := bd_some hL171;refine .sd (B := [0, 0, 3, 7, 15, 15, 15, 111, 239, 15, 15, 1551, 3599, 8191, 16383, 32767, 65535]) 17 mixed (by kernel_rfl) (by decide) fun K hK => ?_;simp [e3_, hb173, q175, q176, q178, q179, (((S3_.rd (k := 0) rfl).rowAt [] g174).tup), (((S3_.rd (k := 0) rfl).rowAt [] g177).tup)];refine CallD.t (hx4 _ A3_ (gat nilV D3_0 y5_13) (gat nilV D3_0 x1) (gat [] l3_0 y5_13) (gat [] l3_0 x1) _ ((S3_.rd (k := 0) rfl).rowAt [] g174) ((S3_.rd (k := 0) rfl).rowAt [] g177) hc180) ?_;rintro _ G181 ⟨a184, rfl, S185⟩;have A183 := A3_.ext (hB.le A3_.1) a184.agree;have S182 : Sep G181 B [rowsC v0 22 3 D3_0 (List.map ints l3_0)] := S3_.agree a184.agree;simp [e3_, hb173, q175, q176, q178, q179, a184.pre];apply hK;clear hK K;refine DWp.cond' (t := (bnot (ilt r4 0))) (by simp [e3_]) (fun hb186 => ?_) (fun hb186 => ?_)
         ·replace hL171 := cd_t hb186 hL171;refine DWp.skip ?_;simp only [andThen, leaves];refine .block ?_;refine .region fun K hK => ?_;simp [e3_];apply hK;clear hK K;simp only [andThen, leaves];have S187 := S182.pick [0] (by decide) rfl;exact ⟨n3, Nat.lt_succ_self _, (isub .i64 y5_13 1), hL171, S187, A183, by simp [e3_]⟩
         ·replace hL171 := cd_f hb186 hL171;refine DWp.exit ?_;simp only [andThen, leaves, if_true, if_false, reduceIte, Nat.reduceEqDiff];obtain rfl := Option.some.inj hL171;have S188 := S182.pick [0] (by decide) rfl;obtain rfl := Option.some.inj hL168;exact ⟨S188, A183, by simp [e3_]⟩
        ·replace hL171 := cd_f hb173 hL171;refine .sd (B := [0, 0, 3, 7, 15, 15, 15, 111, 239, 15, 15, 1551, 3599, 8191, 16383, 32767, 65535]) 17 mixed (by kernel_rfl) (by decide) fun K hK => ?_;simp [e3_, hb173];apply hK;clear hK K;refine DWp.cf (by simp [e3_, bnot]) ?_;refine DWp.exit ?_;simp only [andThen, leaves, if_true, if_false, reduceIte, Nat.reduceEqDiff];obtain rfl := Option.some.inj hL171;have S189 := S3_.pick [0] (by decide) rfl;obtain rfl := Option.some.inj hL168;exact ⟨S189, A3_, by simp [e3_]⟩
      ·rintro env Gj190 ⟨Sj190, Aj190, ej190_⟩;refine .seq ?_;refine .sr fun K hK => ?_;simp [ej190_];apply hK;clear hK K;refine DWp.cond' (t := (ilt s167 s143)) (by simp [ej190_]) (fun hb191 => ?_) (fun hb191 => ?_)
       ·replace hL141 := cd_t hb191 hL141;refine DWp.exit ?_;simp only [andThen, leaves, if_true, if_false, reduceIte, Nat.reduceEqDiff];obtain rfl := Option.some.inj hL141;try dsimp only at hF
        obtain ⟨g192, hF⟩ := gd_some hF;have q193 := (Sj190.rd (k := 0) rfl).idxG (P := Try.prog) (kk := .i64) el_30 sz_22 g192;have q194 := (Sj190.rd (k := 0) rfl).loadG (P := Try.prog) sz_22 ag_22 g192;obtain ⟨g195, hF⟩ := gd_some hF;have q196 := (Sj190.rd (k := 0) rfl).idxG (P := Try.prog) (kk := .i64) el_30 sz_22 g195;have q197 := (Sj190.rd (k := 0) rfl).loadG (P := Try.prog) sz_22 ag_22 g195;obtain ⟨g198, hF⟩ := gd_some hF;have q199 := (Sj190.rd (k := 0) rfl).idxG (P := Try.prog) (kk := .i64) el_30 sz_22 g198;obtain ⟨G205, q206, S207, a209⟩ := Sj190.swap1 (fr := ints) (P := Try.prog) (k := 0) [] rfl (hB.le Aj190.1) sz_22 g198 g192;have A208 := Aj190.trans a209;replace S207 : Sep G205 B [rowsS v0 22 3 (lset D3_0 s167 (gat nilV D3_0 x1)) D3_0 (List.map ints l3_0)] := S207;obtain ⟨g210, hF⟩ := gd_some hF;have q211 := S207.idxS (P := Try.prog) (ki := .i64) (kk := 0) rfl el_30 sz_22 g210;obtain ⟨G217, q218, S219, a221⟩ := S207.swap2 (fr := ints) (P := Try.prog) (k := 0) [] rfl (hB.le A208.1) sz_22 g198 g192;have A220 := A208.trans a221;replace S219 : Sep G217 B [rowsC v0 22 3 (lset (lset D3_0 s167 (gat nilV D3_0 x1)) x1 (gat nilV D3_0 s167)) (List.map ints (lset (lset l3_0 s167 (gat [] l3_0 x1)) x1 (gat [] l3_0 s167)))] := S219;refine .sd (B := [0, 0, 0, 0, 0, 0, 48, 112, 0, 0, 768, 1792, 4083, 8179, 16383, 32767]) 13 mixed (by kernel_rfl) (by decide) fun K hK => ?_;simp [ej190_, q193, q194, q196, q197, q199, (((Sj190.rd (k := 0) rfl).rowAt [] g192).tup), q206, q211, q218];apply hK;clear hK K;refine .sr fun K hK => ?_;simp [ej190_];apply hK;clear hK K;refine DWp.ret ?_;obtain rfl := Option.some.inj hF
        exact ⟨by simp, [(Value.int .i64 s167), (Value.bool false)], by simp [ej190_], A220, (lset (lset D3_0 s167 (gat nilV D3_0 x1)) x1 (gat nilV D3_0 s167)), rfl, S219.pick [0] (by decide) rfl⟩
       ·replace hL141 := cd_f hb191 hL141;refine DWp.skip ?_;simp only [andThen, leaves];obtain ⟨g222, hL141⟩ := gd_some hL141;have q223 := (Sj190.rd (k := 0) rfl).idxG (P := Try.prog) (kk := .i64) el_30 sz_22 g222;have q224 := (Sj190.rd (k := 0) rfl).loadG (P := Try.prog) sz_22 ag_22 g222;obtain ⟨g225, hL141⟩ := gd_some hL141;have q226 := (Sj190.rd (k := 0) rfl).idxG (P := Try.prog) (kk := .i64) el_30 sz_22 g225;have q227 := (Sj190.rd (k := 0) rfl).loadG (P := Try.prog) sz_22 ag_22 g225;obtain ⟨g228, hL141⟩ := gd_some hL141;have q229 := (Sj190.rd (k := 0) rfl).idxG (P := Try.prog) (kk := .i64) el_30 sz_22 g228;obtain ⟨G235, q236, S237, a239⟩ := Sj190.swap1 (fr := ints) (P := Try.prog) (k := 0) [] rfl (hB.le Aj190.1) sz_22 g228 g222;have A238 := Aj190.trans a239;replace S237 : Sep G235 B [rowsS v0 22 3 (lset D3_0 s143 (gat nilV D3_0 s167)) D3_0 (List.map ints l3_0)] := S237;obtain ⟨g240, hL141⟩ := gd_some hL141;have q241 := S237.idxS (P := Try.prog) (ki := .i64) (kk := 0) rfl el_30 sz_22 g240;obtain ⟨G247, q248, S249, a251⟩ := S237.swap2 (fr := ints) (P := Try.prog) (k := 0) [] rfl (hB.le A238.1) sz_22 g228 g222;have A250 := A238.trans a251;replace S249 : Sep G247 B [rowsC v0 22 3 (lset (lset D3_0 s143 (gat nilV D3_0 s167)) s167 (gat nilV D3_0 s143)) (List.map ints (lset (lset l3_0 s143 (gat [] l3_0 s167)) s167 (gat [] l3_0 s143)))] := S249;refine .sd (B := [0, 0, 0, 0, 0, 0, 48, 112, 0, 0, 768, 1792, 4083, 8179, 16383, 32767]) 13 mixed (by kernel_rfl) (by decide) fun K hK => ?_;simp [ej190_, q223, q224, q226, q227, q229, (((Sj190.rd (k := 0) rfl).rowAt [] g222).tup), q236, q241, q248];apply hK;clear hK K;refine .sr fun K hK => ?_;simp [ej190_];apply hK;clear hK K;refine .region fun K hK => ?_;simp [ej190_];apply hK;clear hK K;simp only [andThen, leaves]
        have S252 := S249.pick [0] (by decide) rfl;exact ⟨n1, Nat.lt_succ_self _, (lset (lset l3_0 s143 (gat [] l3_0 s167)) s167 (gat [] l3_0 s143)), (iadd .i64 s143 1), (isub .i64 s167 1), (lset (lset D3_0 s143 (gat nilV D3_0 s167)) s167 (gat nilV D3_0 s143)), hL141, S252, A250, by simp [ej190_]⟩
def F_slices_pdqsortCmpFunc_Sint_L1 (fu : Nat) (self_ : (List (List Int)) → Int → Int → Int → ((List Int) → (List Int) → Option (Int)) → Option (List (List Int))) (k1_0 : ((List Int) → (List Int) → Option (Int))) : Nat → List (List Int) → Int → Int → Int → Bool → Bool → Option (LR (List (List Int)) (List (List Int) × Int × Int × Int × Bool × Bool))
  | 0, _, _, _, _, _, _ => none
  | n + 1, l1_0, y1_1, y1_2, y1_3, y1_10, y1_11 =>
    bif (ile (isub .i64 y1_2 y1_1) 12) then
      bd (F_slices_insertionSortCmpFunc_Sint fu l1_0 y1_1 y1_2 k1_0) fun r1 =>
      some (.ret r1)
    else
      bif (ieq y1_3 0) then
        none
      else
        bd (
          bif (bnot y1_10) then
            none
          else
            some (l1_0, y1_3)) fun s20 =>
        bd (F_slices_choosePivotCmpFunc_Sint fu s20.1 y1_1 y1_2 k1_0) fun r2 =>
        bd (
          bif (ieq r2.2 2) then
            bd (F_slices_reverseRangeCmpFunc_Sint fu s20.1 y1_1 y1_2 k1_0) fun r3 =>
            some (r3, (isub .i64 (isub .i64 y1_2 1) (isub .i64 r2.1 y1_1)), 1)
          else
            some (s20.1, r2.1, r2.2)) fun s33 =>
        bd (
          bif y1_10 then
            bif y1_11 then
              some (ieq s33.2.2 1)
            else
              some false
          else
            some false) fun s54 =>
        bif s54 then
          bd (F_slices_partialInsertionSortCmpFunc_Sint fu s33.1 y1_1 y1_2 k1_0) fun r4 =>
          bif r4.1 then
            some (.ret r4.2)
          else
            bd (
              bif (ilt 0 y1_1) then
                gd (inL r4.2 (isub .i64 y1_1 1)) (
                gd (inL r4.2 s33.2.1) (
                bd (k1_0 (gat [] r4.2 (isub .i64 y1_1 1)) (gat [] r4.2 s33.2.1)) fun r5 =>
                some (bnot (ilt r5 0))))
              else
                some false) fun s79 =>
            bif s79 then
              none
            else
              bd (F_slices_partitionCmpFunc_Sint fu r4.2 y1_1 y1_2 s33.2.1 k1_0) fun r6 =>
              bif (ilt (isub .i64 r6.1 y1_1) (isub .i64 y1_2 r6.1)) then
                bd (self_ r6.2.2 y1_1 r6.1 s20.2 k1_0) fun r7 =>
                F_slices_pdqsortCmpFunc_Sint_L1 fu self_ k1_0 n r7 (iadd .i64 r6.1 1) y1_2 s20.2 (ile (iquo .i64 (isub .i64 y1_2 y1_1) 8) (isub .i64 r6.1 y1_1)) r6.2.1
              else
                bd (self_ r6.2.2 (iadd .i64 r6.1 1) y1_2 s20.2 k1_0) fun r8 =>
                F_slices_pdqsortCmpFunc_Sint_L1 fu self_ k1_0 n r8 y1_1 r6.1 s20.2 (ile (iquo .i64 (isub .i64 y1_2 y1_1) 8) (isub .i64 y1_2 r6.1)) r6.2.1
        else
          bd (
            bif (ilt 0 y1_1) then
              gd (inL s33.1 (isub .i64 y1_1 1)) (
              gd (inL s33.1 s33.2.1) (
              bd (k1_0 (gat [] s33.1 (isub .i64 y1_1 1)) (gat [] s33.1 s33.2.1)) fun r9 =>
              some (bnot (ilt r9 0))))
            else
              some false) fun s145 =>
          bif s145 then
            none
          else
            bd (F_slices_partitionCmpFunc_Sint fu s33.1 y1_1 y1_2 s33.2.1 k1_0) fun r10 =>
            bif (ilt (isub .i64 r10.1 y1_1) (isub .i64 y1_2 r10.1)) then
              bd (self_ r10.2.2 y1_1 r10.1 s20.2 k1_0) fun r11 =>
              F_slices_pdqsortCmpFunc_Sint_L1 fu self_ k1_0 n r11 (iadd .i64 r10.1 1) y1_2 s20.2 (ile (iquo .i64 (isub .i64 y1_2 y1_1) 8) (isub .i64 r10.1 y1_1)) r10.2.1
            else
              bd (self_ r10.2.2 (iadd .i64 r10.1 1) y1_2 s20.2 k1_0) fun r12 =>
              F_slices_pdqsortCmpFunc_Sint_L1 fu self_ k1_0 n r12 y1_1 r10.1 s20.2 (ile (iquo .i64 (isub .i64 y1_2 y1_1) 8) (isub .i64 y1_2 r10.1)) r10.2.1
def F_slices_pdqsortCmpFunc_Sint : Nat → (List (List Int)) → Int → Int → Int → ((List Int) → (List Int) → Option (Int)) → Option (List (List Int))
  | 0, _, _, _, _, _ => none
  | fu + 1, x0, x1, x2, x3, x4 =>
    bd (F_slices_pdqsortCmpFunc_Sint_L1 fu (F_slices_pdqsortCmpFunc_Sint fu) x4 fu x0 x1 x2 x3 true true) fun s1 => lr s1 fun _ => none
theorem F_slices_pdqsortCmpFunc_Sint_w : ∀ {fu : Nat} {H : AH} {B : Nat → Prop} {v0 : Value} {C0 : List Value} {f4 : FuncId} {c4 : List Value} {x0 : List (List Int)} {x1 : Int} {x2 : Int} {x3 : Int} {x4 : (List Int) → (List Int) → Option (Int)} {r : (List (List Int))} (hB : Up B H.length) (S0 : Sep H B [rowsC v0 22 3 C0 (List.map ints x0)]) (hx4 : ∀ (G : AH), AgB B H G → ∀ (v0 : Value) (v1 : Value) (y0 : List Int) (y1 : List Int) (q : (Int)), Sl G v0 (ints y0) → Sl G v1 (ints y1) → x4 y0 y1 = some q → ACallT Try.prog f4 ([v0, v1] ++ c4) G (fun u G' => AgB (Fr G) G G' ∧ u = (Value.int .i64 q) ∧ Sep G' (Fr G) [])) (hF : F_slices_pdqsortCmpFunc_Sint fu x0 x1 x2 x3 x4 = some r),
    ACallT Try.prog 45 [v0, (Value.int .i64 x1), (Value.int .i64 x2), (Value.int .i64 x3), (Value.func (.func f4) #[] c4.toArray)] H (fun u G => AgB B H G ∧ ∃ Cz0 : List Value, u = (Value.tuple #[]) ∧ Sep G B [rowsC v0 22 3 Cz0 (List.map ints r)]) := by
 intro fu;induction fu with
 | zero => intros; rename_i hF; cases hF
 | succ fu ih =>
 intro H B v0 C0 f4 c4 x0 x1 x2 x3 x4 r hB S0 hx4 hF;simp only [F_slices_pdqsortCmpFunc_Sint] at hF;refine ACallT.of_body (nt := 148) (rs := []) Try.func45 rfl rfl rfl rfl ?_;have A0 : AgB B H H := .refl _ _;refine .sr fun K hK => ?_;simp [];apply hK;clear hK K;refine .sr fun K hK => ?_;simp [];apply hK;clear hK K;refine .block ?_;obtain ⟨s1, hL2, hF⟩ := bd_some hF;have S3 := S0.pick [0] (by decide) rfl;refine DWp.loop (fun n env G => ∃ l1_0 : List (List Int), ∃ y1_1 : Int, ∃ y1_2 : Int, ∃ y1_3 : Int, ∃ y1_10 : Bool, ∃ y1_11 : Bool, ∃ D1_0 : List Value, F_slices_pdqsortCmpFunc_Sint_L1 fu (F_slices_pdqsortCmpFunc_Sint fu) x4 n l1_0 y1_1 y1_2 y1_3 y1_10 y1_11 = some s1 ∧ Sep G B [rowsC v0 22 3 D1_0 (List.map ints l1_0)] ∧ AgB B H G ∧ env 0 = some v0 ∧ env 1 = some (Value.int .i64 y1_1) ∧ env 2 = some (Value.int .i64 y1_2) ∧ env 3 = some (Value.int .i64 y1_3) ∧ env 4 = some (Value.func (.func f4) #[] c4.toArray) ∧ env 10 = some (Value.bool y1_10) ∧ env 11 = some (Value.bool y1_11)) fu ⟨x0, x1, x2, x3, true, true, C0, hL2, S3, A0, by simp []⟩ ?_;rintro n1 env1 G1_ ⟨l1_0, y1_1, y1_2, y1_3, y1_10, y1_11, D1_0, hL2, S1_, A1_, e1_⟩;cases n1 with
 | zero => cases hL2
 | succ n1 =>
  simp only [F_slices_pdqsortCmpFunc_Sint_L1] at hL2;refine .block ?_;refine .sr fun K hK => ?_;simp [e1_];apply hK;clear hK K;refine .seq ?_;refine .sr fun K hK => ?_;simp [e1_];apply hK;clear hK K;refine DWp.cond' (t := (ile (isub .i64 y1_2 y1_1) 12)) (by simp [e1_]) (fun hb4 => ?_) (fun hb4 => ?_)
  ·replace hL2 := cd_t hb4 hL2;obtain ⟨r1, hc5, hL2⟩ := bd_some hL2;refine .sr fun K hK => ?_;simp [e1_, ((S1_.rd (k := 0) rfl).tup)];have S6 : Sep G1_ B ([rowsC v0 22 3 D1_0 (List.map ints l1_0)] ++ []) := S1_.pick [0] (by decide) rfl;obtain ⟨B12, S7, U8, M9, R10, C11⟩ := S6.frame (hB.le A1_.1);refine CallD.t (F_slices_insertionSortCmpFunc_Sint_w (fu := fu) U8 S7 (fun G_ a_ => hx4 G_ (A1_.trans (a_.mono M9))) hc5) ?_;rintro _ G14 ⟨a17, c13_Cz0, rfl, S18⟩;have A16 := A1_.trans (a17.mono M9);have S15 : Sep G14 B [rowsC v0 22 3 c13_Cz0 (List.map ints r1)] := C11 _ _ a17 S18;simp [e1_];apply hK;clear hK K;refine DWp.ret ?_;simp only [andThen, leaves];obtain rfl := Option.some.inj hL2;simp only [lr] at hF;obtain rfl := Option.some.inj hF;exact ⟨by simp, [], by simp [e1_], A16, c13_Cz0, rfl, S15.pick [0] (by decide) rfl⟩
  ·replace hL2 := cd_f hb4 hL2;refine DWp.skip ?_;simp only [andThen, leaves];refine .seq ?_;refine .sr fun K hK => ?_;simp [e1_];apply hK;clear hK K;refine DWp.cond' (t := (ieq y1_3 0)) (by simp [e1_]) (fun hb19 => ?_) (fun hb19 => ?_)
   ·replace hL2 := cd_t hb19 hL2;cases hL2
   ·replace hL2 := cd_f hb19 hL2;refine DWp.skip ?_;simp only [andThen, leaves];obtain ⟨s20, hL21, hL2⟩ := bd_some hL2;refine DWp.seq (DWp.join (fun env G => ∃ Dj1_0 : List Value, Sep G B [rowsC v0 22 3 Dj1_0 (List.map ints s20.1)] ∧ AgB B H G ∧ env 0 = some v0 ∧ env 1 = some (Value.int .i64 y1_1) ∧ env 2 = some (Value.int .i64 y1_2) ∧ env 3 = some (Value.int .i64 s20.2) ∧ env 4 = some (Value.func (.func f4) #[] c4.toArray) ∧ env 10 = some (Value.bool y1_10) ∧ env 11 = some (Value.bool y1_11) ∧ env 12 = some (Value.int .i64 (isub .i64 y1_2 y1_1))) ?_ ?_)
    ·
     refine .sr fun K hK => ?_;simp [e1_];apply hK;clear hK K;refine DWp.cond' (t := (bnot y1_10)) (by simp [e1_]) (fun hb23 => ?_) (fun hb23 => ?_)
     ·replace hL21 := cd_t hb23 hL21;cases hL21
     ·replace hL21 := cd_f hb23 hL21;refine DWp.skip ?_;simp only [andThen, leaves];have S24 := S1_.pick [0] (by decide) rfl;obtain rfl := Option.some.inj hL21;exact ⟨D1_0, S24, A1_, by simp [e1_]⟩
    ·rintro env Gj25 ⟨Dj1_0, Sj25, Aj25, ej25_⟩;obtain ⟨r2, hc26, hL2⟩ := bd_some hL2;refine .sr fun K hK => ?_;simp [ej25_, ((Sj25.rd (k := 0) rfl).tup)];refine CallD.t (F_slices_choosePivotCmpFunc_Sint_w (fu := fu) ((Sj25.rd (k := 0) rfl).slsl) (fun (G_ : AH) (a_ : AgB (Fr Gj25) Gj25 G_) => hx4 G_ (Aj25.ext (hB.le Aj25.1) a_.agree)) hc26) ?_;rintro _ G28 ⟨a31, rfl, S32⟩;have A30 := Aj25.ext (hB.le Aj25.1) a31.agree;have S29 : Sep G28 B [rowsC v0 22 3 Dj1_0 (List.map ints s20.1)] := Sj25.app a31.agree S32 (fun _ h => h) (hB.le Aj25.1);simp [ej25_, a31.pre];apply hK;clear hK K;obtain ⟨s33, hL34, hL2⟩ := bd_some hL2;refine DWp.seq (DWp.join (fun env G => ∃ Dj2_0 : List Value, Sep G B [rowsC v0 22 3 Dj2_0 (List.map ints s33.1)] ∧ AgB B H G ∧ env 0 = some v0 ∧ env 1 = some (Value.int .i64 y1_1) ∧ env 2 = some (Value.int .i64 y1_2) ∧ env 3 = some (Value.int .i64 s20.2) ∧ env 4 = some (Value.func (.func f4) #[] c4.toArray) ∧ env 10 = some (Value.bool y1_10) ∧ env 11 = some (Value.bool y1_11) ∧ env 12 = some (Value.int .i64 (isub .i64 y1_2 y1_1)) ∧ env 13 = some (Value.int .i64 s33.2.1) ∧ env 14 = some (Value.int .i64 s33.2.2)) ?_ ?_)
     ·
      refine .sr fun K hK => ?_;simp [ej25_];apply hK;clear hK K;refine DWp.cond' (t := (ieq r2.2 2)) (by simp [ej25_]) (fun hb36 => ?_) (fun hb36 => ?_)
      ·replace hL34 := cd_t hb36 hL34;obtain ⟨r3, hc37, hL34⟩ := bd_some hL34;refine .sr fun K hK => ?_;simp [ej25_, ((S29.rd (k := 0) rfl).tup)];have S38 : Sep G28 B ([rowsC v0 22 3 Dj1_0 (List.map ints s20.1)] ++ []) := S29.pick [0] (by decide) rfl;obtain ⟨B44, S39, U40, M41, R42, C43⟩ := S38.frame (hB.le A30.1);refine CallD.t (F_slices_reverseRangeCmpFunc_Sint_w (fu := fu) U40 S39 (fun G_ a_ => hx4 G_ (A30.trans (a_.mono M41))) hc37) ?_;rintro _ G46 ⟨a49, c45_Cz0, rfl, S50⟩;have A48 := A30.trans (a49.mono M41);have S47 : Sep G46 B [rowsC v0 22 3 c45_Cz0 (List.map ints r3)] := C43 _ _ a49 S50;simp [ej25_];apply hK;clear hK K;refine .sr fun K hK => ?_;simp [ej25_];apply hK;clear hK K;refine .region fun K hK => ?_;simp [ej25_];apply hK;clear hK K;simp only [andThen, leaves];have S51 := S47.pick [0] (by decide) rfl;obtain rfl := Option.some.inj hL34;exact ⟨c45_Cz0, S51, A48, by simp [ej25_]⟩
      ·replace hL34 := cd_f hb36 hL34;refine DWp.skip ?_;simp only [andThen, leaves];have S52 := S29.pick [0] (by decide) rfl;obtain rfl := Option.some.inj hL34;exact ⟨Dj1_0, S52, A30, by simp [ej25_]⟩
     ·rintro env Gj53 ⟨Dj2_0, Sj53, Aj53, ej53_⟩;refine .seq ?_;obtain ⟨s54, hL55, hL2⟩ := bd_some hL2;refine DWp.seq (DWp.join (fun env G => Sep G B [rowsC v0 22 3 Dj2_0 (List.map ints s33.1)] ∧ AgB B H G ∧ env 0 = some v0 ∧ env 1 = some (Value.int .i64 y1_1) ∧ env 2 = some (Value.int .i64 y1_2) ∧ env 3 = some (Value.int .i64 s20.2) ∧ env 4 = some (Value.func (.func f4) #[] c4.toArray) ∧ env 10 = some (Value.bool y1_10) ∧ env 11 = some (Value.bool y1_11) ∧ env 12 = some (Value.int .i64 (isub .i64 y1_2 y1_1)) ∧ env 13 = some (Value.int .i64 s33.2.1) ∧ env 75 = some (Value.bool s54)) ?_ ?_)
      ·
       rcases Bool.eq_false_or_eq_true y1_10 with hb57 | hb57
       ·replace hL55 := cd_t hb57 hL55;rcases Bool.eq_false_or_eq_true y1_11 with hb58 | hb58
        ·replace hL55 := cd_t hb58 hL55;refine .region fun K hK => ?_;simp [ej53_, hb57, hb58];apply hK;clear hK K;simp only [andThen, leaves];have S59 := Sj53.pick [0] (by decide) rfl;obtain rfl := Option.some.inj hL55;exact ⟨S59, Aj53, by simp [ej53_]⟩
        ·replace hL55 := cd_f hb58 hL55;refine .region fun K hK => ?_;simp [ej53_, hb57, hb58];apply hK;clear hK K;simp only [andThen, leaves];have S60 := Sj53.pick [0] (by decide) rfl;obtain rfl := Option.some.inj hL55;exact ⟨S60, Aj53, by simp [ej53_]⟩
       ·replace hL55 := cd_f hb57 hL55;refine .region fun K hK => ?_;simp [ej53_, hb57];apply hK;clear hK K;simp only [andThen, leaves];have S61 := Sj53.pick [0] (by decide) rfl;obtain rfl := Option.some.inj hL55;exact ⟨S61, Aj53, by simp [ej53_]⟩
      ·rintro env Gj62 ⟨Sj62, Aj62, ej62_⟩;refine DWp.cond' (t := s54) (by simp [ej62_]) (fun hb63 => ?_) (fun hb63 => ?_)
       ·replace hL2 := cd_t hb63 hL2;obtain ⟨r4, hc64, hL2⟩ := bd_some hL2;refine .sr fun K hK => ?_;simp [ej62_, ((Sj62.rd (k := 0) rfl).tup)];have S65 : Sep Gj62 B ([rowsC v0 22 3 Dj2_0 (List.map ints s33.1)] ++ []) := Sj62.pick [0] (by decide) rfl;obtain ⟨B71, S66, U67, M68, R69, C70⟩ := S65.frame (hB.le Aj62.1);refine CallD.t (F_slices_partialInsertionSortCmpFunc_Sint_w (fu := fu) U67 S66 (fun G_ a_ => hx4 G_ (Aj62.trans (a_.mono M68))) hc64) ?_;rintro _ G73 ⟨a76, c72_Cz0, rfl, S77⟩;have A75 := Aj62.trans (a76.mono M68);have S74 : Sep G73 B [rowsC v0 22 3 c72_Cz0 (List.map ints r4.2)] := C70 _ _ a76 S77;simp [ej62_];apply hK;clear hK K;refine DWp.cond' (t := r4.1) (by simp [ej62_]) (fun hb78 => ?_) (fun hb78 => ?_)
        ·replace hL2 := cd_t hb78 hL2;refine DWp.ret ?_;simp only [andThen, leaves];obtain rfl := Option.some.inj hL2;simp only [lr] at hF;obtain rfl := Option.some.inj hF;exact ⟨by simp, [], by simp [ej62_], A75, c72_Cz0, rfl, S74.pick [0] (by decide) rfl⟩
        ·replace hL2 := cd_f hb78 hL2;refine DWp.skip ?_;simp only [andThen, leaves];refine .seq ?_;obtain ⟨s79, hL80, hL2⟩ := bd_some hL2;refine DWp.seq (DWp.join (fun env G => Sep G B [rowsC v0 22 3 c72_Cz0 (List.map ints r4.2)] ∧ AgB B H G ∧ env 0 = some v0 ∧ env 1 = some (Value.int .i64 y1_1) ∧ env 2 = some (Value.int .i64 y1_2) ∧ env 3 = some (Value.int .i64 s20.2) ∧ env 4 = some (Value.func (.func f4) #[] c4.toArray) ∧ env 10 = some (Value.bool y1_10) ∧ env 11 = some (Value.bool y1_11) ∧ env 12 = some (Value.int .i64 (isub .i64 y1_2 y1_1)) ∧ env 13 = some (Value.int .i64 s33.2.1) ∧ env 97 = some (Value.bool s79)) ?_ ?_)
         ·
          rcases Bool.eq_false_or_eq_true (ilt 0 y1_1) with hb82 | hb82
          ·replace hL80 := cd_t hb82 hL80;obtain ⟨g83, hL80⟩ := gd_some hL80;have q84 := (S74.rd (k := 0) rfl).idxG (P := Try.prog) (kk := .i64) el_30 sz_22 g83;have q85 := (S74.rd (k := 0) rfl).loadG (P := Try.prog) sz_22 ag_22 g83;obtain ⟨g86, hL80⟩ := gd_some hL80;have q87 := (S74.rd (k := 0) rfl).idxG (P := Try.prog) (kk := .i64) el_30 sz_22 g86;have q88 := (S74.rd (k := 0) rfl).loadG (P := Try.prog) sz_22 ag_22 g86;obtain ⟨r5, hc89, hL80⟩ := bd_some hL80;refine .drawn (B := [0, 1, 3, 7, 7, 7, 39, 119, 247, 7, 7, 1543, 3591, 8191, 16383, 32767, 65535]) 17 mixed (by kernel_rfl) (by decide) fun K hK => ?_;simp [ej62_, hb82, q84, q85, q87, q88, (((S74.rd (k := 0) rfl).rowAt [] g83).tup), (((S74.rd (k := 0) rfl).rowAt [] g86).tup)];refine CallD.t (hx4 _ A75 (gat nilV c72_Cz0 (isub .i64 y1_1 1)) (gat nilV c72_Cz0 s33.2.1) (gat [] r4.2 (isub .i64 y1_1 1)) (gat [] r4.2 s33.2.1) _ ((S74.rd (k := 0) rfl).rowAt [] g83) ((S74.rd (k := 0) rfl).rowAt [] g86) hc89) ?_;rintro _ G90 ⟨a93, rfl, S94⟩;have A92 := A75.ext (hB.le A75.1) a93.agree;have S91 : Sep G90 B [rowsC v0 22 3 c72_Cz0 (List.map ints r4.2)] := S74.agree a93.agree;simp [ej62_, hb82, q84, q85, q87, q88, a93.pre];apply hK;clear hK K;simp only [andThen, leaves];have S95 := S91.pick [0] (by decide) rfl;obtain rfl := Option.some.inj hL80;exact ⟨S95, A92, by simp [ej62_]⟩
          ·replace hL80 := cd_f hb82 hL80;refine .drawn (B := [0, 1, 3, 7, 7, 7, 39, 119, 247, 7, 7, 1543, 3591, 8191, 16383, 32767, 65535]) 17 mixed (by kernel_rfl) (by decide) fun K hK => ?_;simp [ej62_, hb82];apply hK;clear hK K;simp only [andThen, leaves];have S96 := S74.pick [0] (by decide) rfl;obtain rfl := Option.some.inj hL80;exact ⟨S96, A75, by simp [ej62_]⟩
         ·rintro env Gj97 ⟨Sj97, Aj97, ej97_⟩;refine DWp.cond' (t := s79) (by simp [ej97_]) (fun hb98 => ?_) (fun hb98 => ?_)
          ·replace hL2 := cd_t hb98 hL2;cases hL2
          ·replace hL2 := cd_f hb98 hL2;refine DWp.skip ?_;simp only [andThen, leaves];obtain ⟨r6, hc99, hL2⟩ := bd_some hL2;refine .sr fun K hK => ?_;simp [ej97_, ((Sj97.rd (k := 0) rfl).tup)];have S100 : Sep Gj97 B ([rowsC v0 22 3 c72_Cz0 (List.map ints r4.2)] ++ []) := Sj97.pick [0] (by decide) rfl;obtain ⟨B106, S101, U102, M103, R104, C105⟩ := S100.frame (hB.le Aj97.1);refine CallD.t (F_slices_partitionCmpFunc_Sint_w (fu := fu) U102 S101 (fun G_ a_ => hx4 G_ (Aj97.trans (a_.mono M103))) hc99) ?_;rintro _ G108 ⟨a111, c107_Cz0, rfl, S112⟩;have A110 := Aj97.trans (a111.mono M103);have S109 : Sep G108 B [rowsC v0 22 3 c107_Cz0 (List.map ints r6.2.2)] := C105 _ _ a111 S112;simp [ej97_];apply hK;clear hK K;refine .sr fun K hK => ?_;simp [ej97_];apply hK;clear hK K;refine .sr fun K hK => ?_;simp [ej97_];apply hK;clear hK K;have g113 : (8 : Int) ≠ 0 := by decide
           refine .sr fun K hK => ?_;simp [ej97_, b_quo g113];apply hK;clear hK K;refine .sr fun K hK => ?_;simp [ej97_];apply hK;clear hK K;refine DWp.cond' (t := (ilt (isub .i64 r6.1 y1_1) (isub .i64 y1_2 r6.1))) (by simp [ej97_]) (fun hb114 => ?_) (fun hb114 => ?_)
           ·replace hL2 := cd_t hb114 hL2;refine .sr fun K hK => ?_;simp [ej97_];apply hK;clear hK K;obtain ⟨r7, hc115, hL2⟩ := bd_some hL2;refine .sr fun K hK => ?_;simp [ej97_, ((S109.rd (k := 0) rfl).tup)];have S116 : Sep G108 B ([rowsC v0 22 3 c107_Cz0 (List.map ints r6.2.2)] ++ []) := S109.pick [0] (by decide) rfl;obtain ⟨B122, S117, U118, M119, R120, C121⟩ := S116.frame (hB.le A110.1);refine CallD.t (ih U118 S117 (fun G_ a_ => hx4 G_ (A110.trans (a_.mono M119))) hc115) ?_;rintro _ G124 ⟨a127, c123_Cz0, rfl, S128⟩;have A126 := A110.trans (a127.mono M119);have S125 : Sep G124 B [rowsC v0 22 3 c123_Cz0 (List.map ints r7)] := C121 _ _ a127 S128;simp [ej97_];apply hK;clear hK K;refine .region fun K hK => ?_;simp [ej97_];apply hK;clear hK K;simp only [andThen, leaves];have S129 := S125.pick [0] (by decide) rfl;exact ⟨n1, Nat.lt_succ_self _, r7, (iadd .i64 r6.1 1), y1_2, s20.2, (ile (iquo .i64 (isub .i64 y1_2 y1_1) 8) (isub .i64 r6.1 y1_1)), r6.2.1, c123_Cz0, hL2, S129, A126, by simp [ej97_]⟩
           ·replace hL2 := cd_f hb114 hL2;refine .sr fun K hK => ?_;simp [ej97_];apply hK;clear hK K;obtain ⟨r8, hc130, hL2⟩ := bd_some hL2;refine .sr fun K hK => ?_;simp [ej97_, ((S109.rd (k := 0) rfl).tup)];have S131 : Sep G108 B ([rowsC v0 22 3 c107_Cz0 (List.map ints r6.2.2)] ++ []) := S109.pick [0] (by decide) rfl;obtain ⟨B137, S132, U133, M134, R135, C136⟩ := S131.frame (hB.le A110.1);refine CallD.t (ih U133 S132 (fun G_ a_ => hx4 G_ (A110.trans (a_.mono M134))) hc130) ?_;rintro _ G139 ⟨a142, c138_Cz0, rfl, S143⟩;have A141 := A110.trans (a142.mono M134);have S140 : Sep G139 B [rowsC v0 22 3 c138_Cz0 (List.map ints r8)] := C136 _ _ a142 S143;simp [ej97_];apply hK;clear hK K;refine .region fun K hK => ?_;simp [ej97_];apply hK;clear hK K;simp only [andThen, leaves];have S144 := S140.pick [0] (by decide) rfl;exact ⟨n1, Nat.lt_succ_self _, r8, y1_1, r6.1, s20.2, (ile (iquo .i64 (isub .i64 y1_2 y1_1) 8) (isub .i64 y1_2 r6.1)), r6.2.1, c138_Cz0, hL2, S144, A141, by simp [ej97_]⟩
       ·replace hL2 := cd_f hb63 hL2;refine DWp.skip ?_;simp only [andThen, leaves];refine .seq ?_;obtain ⟨s145, hL146, hL2⟩ := bd_some hL2;refine DWp.seq (DWp.join (fun env G => Sep G B [rowsC v0 22 3 Dj2_0 (List.map ints s33.1)] ∧ AgB B H G ∧ env 0 = some v0 ∧ env 1 = some (Value.int .i64 y1_1) ∧ env 2 = some (Value.int .i64 y1_2) ∧ env 3 = some (Value.int .i64 s20.2) ∧ env 4 = some (Value.func (.func f4) #[] c4.toArray) ∧ env 10 = some (Value.bool y1_10) ∧ env 11 = some (Value.bool y1_11) ∧ env 12 = some (Value.int .i64 (isub .i64 y1_2 y1_1)) ∧ env 13 = some (Value.int .i64 s33.2.1) ∧ env 97 = some (Value.bool s145)) ?_ ?_)
        ·
         rcases Bool.eq_false_or_eq_true (ilt 0 y1_1) with hb148 | hb148
         ·replace hL146 := cd_t hb148 hL146;obtain ⟨g149, hL146⟩ := gd_some hL146;have q150 := (Sj62.rd (k := 0) rfl).idxG (P := Try.prog) (kk := .i64) el_30 sz_22 g149;have q151 := (Sj62.rd (k := 0) rfl).loadG (P := Try.prog) sz_22 ag_22 g149;obtain ⟨g152, hL146⟩ := gd_some hL146;have q153 := (Sj62.rd (k := 0) rfl).idxG (P := Try.prog) (kk := .i64) el_30 sz_22 g152;have q154 := (Sj62.rd (k := 0) rfl).loadG (P := Try.prog) sz_22 ag_22 g152;obtain ⟨r9, hc155, hL146⟩ := bd_some hL146;refine .drawn (B := [0, 1, 3, 7, 7, 7, 39, 119, 247, 7, 7, 1543, 3591, 8191, 16383, 32767, 65535]) 17 mixed (by kernel_rfl) (by decide) fun K hK => ?_;simp [ej62_, hb148, q150, q151, q153, q154, (((Sj62.rd (k := 0) rfl).rowAt [] g149).tup), (((Sj62.rd (k := 0) rfl).rowAt [] g152).tup)];refine CallD.t (hx4 _ Aj62 (gat nilV Dj2_0 (isub .i64 y1_1 1)) (gat nilV Dj2_0 s33.2.1) (gat [] s33.1 (isub .i64 y1_1 1)) (gat [] s33.1 s33.2.1) _ ((Sj62.rd (k := 0) rfl).rowAt [] g149) ((Sj62.rd (k := 0) rfl).rowAt [] g152) hc155) ?_;rintro _ G156 ⟨a159, rfl, S160⟩;have A158 := Aj62.ext (hB.le Aj62.1) a159.agree;have S157 : Sep G156 B [rowsC v0 22 3 Dj2_0 (List.map ints s33.1)] := Sj62.agree a159.agree;simp [ej62_, hb148, q150, q151, q153, q154, a159.pre];apply hK;clear hK K;simp only [andThen, leaves];have S161 := S157.pick [0] (by decide) rfl;obtain rfl := Option.some.inj hL146;exact ⟨S161, A158, by simp [ej62_]⟩
         ·replace hL146 := cd_f hb148 hL146;refine .drawn (B := [0, 1, 3, 7, 7, 7, 39, 119, 247, 7, 7, 1543, 3591, 8191, 16383, 32767, 65535]) 17 mixed (by kernel_rfl) (by decide) fun K hK => ?_;simp [ej62_, hb148];apply hK;clear hK K;simp only [andThen, leaves];have S162 := Sj62.pick [0] (by decide) rfl;obtain rfl := Option.some.inj hL146;exact ⟨S162, Aj62, by simp [ej62_]⟩
        ·rintro env Gj163 ⟨Sj163, Aj163, ej163_⟩;refine DWp.cond' (t := s145) (by simp [ej163_]) (fun hb164 => ?_) (fun hb164 => ?_)
         ·replace hL2 := cd_t hb164 hL2;cases hL2
         ·replace hL2 := cd_f hb164 hL2;refine DWp.skip ?_;simp only [andThen, leaves];obtain ⟨r10, hc165, hL2⟩ := bd_some hL2;refine .sr fun K hK => ?_;simp [ej163_, ((Sj163.rd (k := 0) rfl).tup)];have S166 : Sep Gj163 B ([rowsC v0 22 3 Dj2_0 (List.map ints s33.1)] ++ []) := Sj163.pick [0] (by decide) rfl;obtain ⟨B172, S167, U168, M169, R170, C171⟩ := S166.frame (hB.le Aj163.1);refine CallD.t (F_slices_partitionCmpFunc_Sint_w (fu := fu) U168 S167 (fun G_ a_ => hx4 G_ (Aj163.trans (a_.mono M169))) hc165) ?_;rintro _ G174 ⟨a177, c173_Cz0, rfl, S178⟩;have A176 := Aj163.trans (a177.mono M169);have S175 : Sep G174 B [rowsC v0 22 3 c173_Cz0 (List.map ints r10.2.2)] := C171 _ _ a177 S178;simp [ej163_];apply hK;clear hK K;refine .sr fun K hK => ?_;simp [ej163_];apply hK;clear hK K;refine .sr fun K hK => ?_;simp [ej163_];apply hK;clear hK K;have g179 : (8 : Int) ≠ 0 := by decide
          refine .sr fun K hK => ?_;simp [ej163_, b_quo g179];apply hK;clear hK K;refine .sr fun K hK => ?_;simp [ej163_];apply hK;clear hK K;refine DWp.cond' (t := (ilt (isub .i64 r10.1 y1_1) (isub .i64 y1_2 r10.1))) (by simp [ej163_]) (fun hb180 => ?_) (fun hb180 => ?_)
          ·replace hL2 := cd_t hb180 hL2;refine .sr fun K hK => ?_;simp [ej163_];apply hK;clear hK K;obtain ⟨r11, hc181, hL2⟩ := bd_some hL2;refine .sr fun K hK => ?_;simp [ej163_, ((S175.rd (k := 0) rfl).tup)];have S182 : Sep G174 B ([rowsC v0 22 3 c173_Cz0 (List.map ints r10.2.2)] ++ []) := S175.pick [0] (by decide) rfl;obtain ⟨B188, S183, U184, M185, R186, C187⟩ := S182.frame (hB.le A176.1);refine CallD.t (ih U184 S183 (fun G_ a_ => hx4 G_ (A176.trans (a_.mono M185))) hc181) ?_;rintro _ G190 ⟨a193, c189_Cz0, rfl, S194⟩;have A192 := A176.trans (a193.mono M185);have S191 : Sep G190 B [rowsC v0 22 3 c189_Cz0 (List.map ints r11)] := C187 _ _ a193 S194;simp [ej163_];apply hK;clear hK K;refine .region fun K hK => ?_;simp [ej163_];apply hK;clear hK K;simp only [andThen, leaves];have S195 := S191.pick [0] (by decide) rfl;exact ⟨n1, Nat.lt_succ_self _, r11, (iadd .i64 r10.1 1), y1_2, s20.2, (ile (iquo .i64 (isub .i64 y1_2 y1_1) 8) (isub .i64 r10.1 y1_1)), r10.2.1, c189_Cz0, hL2, S195, A192, by simp [ej163_]⟩
          ·replace hL2 := cd_f hb180 hL2;refine .sr fun K hK => ?_;simp [ej163_];apply hK;clear hK K;obtain ⟨r12, hc196, hL2⟩ := bd_some hL2;refine .sr fun K hK => ?_;simp [ej163_, ((S175.rd (k := 0) rfl).tup)];have S197 : Sep G174 B ([rowsC v0 22 3 c173_Cz0 (List.map ints r10.2.2)] ++ []) := S175.pick [0] (by decide) rfl;obtain ⟨B203, S198, U199, M200, R201, C202⟩ := S197.frame (hB.le A176.1);refine CallD.t (ih U199 S198 (fun G_ a_ => hx4 G_ (A176.trans (a_.mono M200))) hc196) ?_;rintro _ G205 ⟨a208, c204_Cz0, rfl, S209⟩;have A207 := A176.trans (a208.mono M200);have S206 : Sep G205 B [rowsC v0 22 3 c204_Cz0 (List.map ints r12)] := C202 _ _ a208 S209;simp [ej163_];apply hK;clear hK K;refine .region fun K hK => ?_;simp [ej163_];apply hK;clear hK K;simp only [andThen, leaves];have S210 := S206.pick [0] (by decide) rfl;exact ⟨n1, Nat.lt_succ_self _, r12, y1_1, r10.1, s20.2, (ile (iquo .i64 (isub .i64 y1_2 y1_1) 8) (isub .i64 y1_2 r10.1)), r10.2.1, c204_Cz0, hL2, S210, A207, by simp [ej163_]⟩
def F_slices_SortFunc_SSint (fu : Nat) (x0 : List (List Int)) (x1 : (List Int) → (List Int) → Option (Int)) : Option (List (List Int)) :=
  bd (F_math_bits_Len fu (iwr .u64 (llen x0))) fun r1 =>
  bd (F_slices_pdqsortCmpFunc_Sint fu x0 0 (llen x0) r1 x1) fun r2 =>
  some r2
theorem F_slices_SortFunc_SSint_w {fu : Nat} {H : AH} {B : Nat → Prop} {v0 : Value} {C0 : List Value} {f1 : FuncId} {c1 : List Value} {x0 : List (List Int)} {x1 : (List Int) → (List Int) → Option (Int)} {r : (List (List Int))} (hB : Up B H.length) (S0 : Sep H B [rowsC v0 22 3 C0 (List.map ints x0)]) (hx1 : ∀ (G : AH), AgB B H G → ∀ (v0 : Value) (v1 : Value) (y0 : List Int) (y1 : List Int) (q : (Int)), Sl G v0 (ints y0) → Sl G v1 (ints y1) → x1 y0 y1 = some q → ACallT Try.prog f1 ([v0, v1] ++ c1) G (fun u G' => AgB (Fr G) G G' ∧ u = (Value.int .i64 q) ∧ Sep G' (Fr G) [])) (hF : F_slices_SortFunc_SSint fu x0 x1 = some r) :
    ACallT Try.prog 31 [v0, (Value.func (.func f1) #[] c1.toArray)] H (fun u G => AgB B H G ∧ ∃ Cz0 : List Value, u = (Value.tuple #[]) ∧ Sep G B [rowsC v0 22 3 Cz0 (List.map ints r)]) := by
 refine ACallT.of_body (nt := 14) (rs := []) Try.func31 rfl rfl rfl rfl ?_;have A0 : AgB B H H := .refl _ _;unfold F_slices_SortFunc_SSint at hF;have q1 := (S0.rd (k := 0) rfl).lenG (P := Try.prog) el_30;refine .sr fun K hK => ?_;simp [q1];apply hK;clear hK K;obtain ⟨r1, hc2, hF⟩ := bd_some hF;refine .region fun K hK => ?_;simp [c_int un_3 un_50];refine CallD.t (F_math_bits_Len_w (fu := fu)  hc2) ?_;rintro _ G4 ⟨a7, rfl, S8⟩;have A6 := A0.ext (hB.le A0.1) a7.agree;have S5 : Sep G4 B [rowsC v0 22 3 C0 (List.map ints x0)] := S0.app a7.agree S8 (fun _ h => h) (hB.le A0.1);obtain ⟨r2, hc9, hF⟩ := bd_some hF;simp [c_int un_3 un_50, a7.pre, ((S5.rd (k := 0) rfl).tup)];have S10 : Sep G4 B ([rowsC v0 22 3 C0 (List.map ints x0)] ++ []) := S5.pick [0] (by decide) rfl;obtain ⟨B16, S11, U12, M13, R14, C15⟩ := S10.frame (hB.le A6.1);refine CallD.t (F_slices_pdqsortCmpFunc_Sint_w (fu := fu) U12 S11 (fun G_ a_ => hx1 G_ (A6.trans (a_.mono M13))) hc9) ?_;rintro _ G18 ⟨a21, c17_Cz0, rfl, S22⟩;have A20 := A6.trans (a21.mono M13);have S19 : Sep G18 B [rowsC v0 22 3 c17_Cz0 (List.map ints r2)] := C15 _ _ a21 S22;simp [c_int un_3 un_50, a7.pre];apply hK;clear hK K;obtain rfl := Option.some.inj hF;exact ⟨by simp, [], by simp [], A20, c17_Cz0, rfl, S19.pick [0] (by decide) rfl⟩
def F_cmp_isNaN_int (fu : Nat) (x0 : Int) : Option (Bool) :=
  some (ine x0 x0)
theorem F_cmp_isNaN_int_w {fu : Nat} {H : AH}  {x0 : Int} {r : (Bool)}  (hF : F_cmp_isNaN_int fu x0 = some r) :
    ACallT Try.prog 52 [(Value.int .i64 x0)] H (fun u G => AgB (Fr H) H G ∧ u = (Value.bool r) ∧ Sep G (Fr H) []) := by
 refine ACallT.of_body (nt := 6) (rs := [.tmp 2]) Try.func52 rfl rfl rfl rfl ?_;have A0 : AgB (Fr H) H H := .refl _ _;have S0 : Sep H (Fr H) [] := .nil;have hB := Fr.up H;unfold F_cmp_isNaN_int at hF;refine .sr fun K hK => ?_;simp [];apply hK;clear hK K;refine .sr fun K hK => ?_;simp [];apply hK;clear hK K;refine DWp.ret ?_;obtain rfl := Option.some.inj hF;exact ⟨by simp, [(Value.bool (ine x0 x0))], by simp [], A0, rfl, S0.pick [] (by decide) rfl⟩
def F_cmp_Compare_int (fu : Nat) (x0 : Int) (x1 : Int) : Option (Int) :=
  bd (F_cmp_isNaN_int fu x0) fun r1 =>
  bd (F_cmp_isNaN_int fu x1) fun r2 =>
  bif r1 then
    bif r2 then
      some 0
    else
      some (-1)
  else
    bif r2 then
      some 1
    else
      bif (ilt x0 x1) then
        some (-1)
      else
        bif (ilt x1 x0) then
          some 1
        else
          some 0
theorem F_cmp_Compare_int_w {fu : Nat} {H : AH}  {x0 : Int} {x1 : Int} {r : (Int)}  (hF : F_cmp_Compare_int fu x0 x1 = some r) :
    ACallT Try.prog 39 [(Value.int .i64 x0), (Value.int .i64 x1)] H (fun u G => AgB (Fr H) H G ∧ u = (Value.int .i64 r) ∧ Sep G (Fr H) []) := by
 refine ACallT.of_body (nt := 20) (rs := [.tmp 4]) Try.func39 rfl rfl rfl rfl ?_;have A0 : AgB (Fr H) H H := .refl _ _;have S0 : Sep H (Fr H) [] := .nil;have hB := Fr.up H;unfold F_cmp_Compare_int at hF;refine .sr fun K hK => ?_;simp [];apply hK;clear hK K;obtain ⟨r1, hc1, hF⟩ := bd_some hF;refine .sr fun K hK => ?_;simp [];refine CallD.t (F_cmp_isNaN_int_w (fu := fu)  hc1) ?_;rintro _ G3 ⟨a6, rfl, S7⟩;have A5 := A0.ext (hB.le A0.1) a6.agree;have S4 : Sep G3 (Fr H) [] := S0.app a6.agree S7 (fun _ h => h) (hB.le A0.1);simp [a6.pre];apply hK;clear hK K;obtain ⟨r2, hc8, hF⟩ := bd_some hF;refine .sr fun K hK => ?_;simp [];refine CallD.t (F_cmp_isNaN_int_w (fu := fu)  hc8) ?_;rintro _ G10 ⟨a13, rfl, S14⟩;have A12 := A5.ext (hB.le A5.1) a13.agree;have S11 : Sep G10 (Fr H) [] := S4.app a13.agree S14 (fun _ h => h) (hB.le A5.1);simp [a13.pre];apply hK;clear hK K;refine .seq ?_;refine .sr fun K hK => ?_;simp [];apply hK;clear hK K;refine DWp.cond' (t := r1) (by simp []) (fun hb15 => ?_) (fun hb15 => ?_)
 ·replace hF := cd_t hb15 hF;refine .seq ?_;refine .sr fun K hK => ?_;simp [];apply hK;clear hK K;refine DWp.cond' (t := r2) (by simp []) (fun hb16 => ?_) (fun hb16 => ?_)
  ·replace hF := cd_t hb16 hF;refine .sr fun K hK => ?_;simp [];apply hK;clear hK K;refine DWp.ret ?_;simp only [andThen, leaves];obtain rfl := Option.some.inj hF;exact ⟨by simp, [(Value.int .i64 0)], by simp [], A12, rfl, S11.pick [] (by decide) rfl⟩
  ·replace hF := cd_f hb16 hF;refine DWp.skip ?_;simp only [andThen, leaves];refine .sr fun K hK => ?_;simp [];apply hK;clear hK K;refine DWp.ret ?_;simp only [andThen, leaves];obtain rfl := Option.some.inj hF;exact ⟨by simp, [(Value.int .i64 (-1))], by simp [], A12, rfl, S11.pick [] (by decide) rfl⟩
 ·replace hF := cd_f hb15 hF;refine DWp.skip ?_;simp only [andThen, leaves];refine .seq ?_;refine .sr fun K hK => ?_;simp [];apply hK;clear hK K;refine DWp.cond' (t := r2) (by simp []) (fun hb17 => ?_) (fun hb17 => ?_)
  ·replace hF := cd_t hb17 hF;refine .sr fun K hK => ?_;simp [];apply hK;clear hK K;refine DWp.ret ?_;simp only [andThen, leaves];obtain rfl := Option.some.inj hF;exact ⟨by simp, [(Value.int .i64 1)], by simp [], A12, rfl, S11.pick [] (by decide) rfl⟩
  ·replace hF := cd_f hb17 hF;refine DWp.skip ?_;simp only [andThen, leaves];refine .seq ?_;refine .sr fun K hK => ?_;simp [];apply hK;clear hK K;refine DWp.cond' (t := (ilt x0 x1)) (by simp []) (fun hb18 => ?_) (fun hb18 => ?_)
   ·replace hF := cd_t hb18 hF;refine .sr fun K hK => ?_;simp [];apply hK;clear hK K;refine DWp.ret ?_;simp only [andThen, leaves];obtain rfl := Option.some.inj hF;exact ⟨by simp, [(Value.int .i64 (-1))], by simp [], A12, rfl, S11.pick [] (by decide) rfl⟩
   ·replace hF := cd_f hb18 hF;refine DWp.skip ?_;simp only [andThen, leaves];refine .seq ?_;refine .sr fun K hK => ?_;simp [];apply hK;clear hK K;refine DWp.cond' (t := (ilt x1 x0)) (by simp []) (fun hb19 => ?_) (fun hb19 => ?_)
    ·replace hF := cd_t hb19 hF;refine .sr fun K hK => ?_;simp [];apply hK;clear hK K;refine DWp.ret ?_;simp only [andThen, leaves];obtain rfl := Option.some.inj hF;exact ⟨by simp, [(Value.int .i64 1)], by simp [], A12, rfl, S11.pick [] (by decide) rfl⟩
    ·replace hF := cd_f hb19 hF;refine DWp.skip ?_;simp only [andThen, leaves];refine .sr fun K hK => ?_;simp [];apply hK;clear hK K;refine DWp.ret ?_;obtain rfl := Option.some.inj hF;exact ⟨by simp, [(Value.int .i64 0)], by simp [], A12, rfl, S11.pick [] (by decide) rfl⟩
def F_slices_Compare_Sint_L1 (fu : Nat) (k1_0 : List Int) (k1_1 : List Int) (k1_2 : Int) : Nat → Int → Option (LR (Int) (Int))
  | 0, _ => none
  | n + 1, y1_11 =>
    bif (ilt y1_11 k1_2) then
      gd (inL k1_0 y1_11) (
      bif (ile (llen k1_1) y1_11) then
        some (.ret 1)
      else
        gd (inL k1_1 y1_11) (
        bd (F_cmp_Compare_int fu (gat 0 k1_0 y1_11) (gat 0 k1_1 y1_11)) fun r1 =>
        bif (ine r1 0) then
          some (.ret r1)
        else
          F_slices_Compare_Sint_L1 fu k1_0 k1_1 k1_2 n (iadd .i64 y1_11 1)))
    else
      some (.brk y1_11)
def F_slices_Compare_Sint (fu : Nat) (x0 : List Int) (x1 : List Int) : Option (Int) :=
  bd (F_slices_Compare_Sint_L1 fu x0 x1 (llen x0) fu 0) fun s1 =>
  lr s1 fun s1 =>
  bif (ilt (llen x0) (llen x1)) then
    some (-1)
  else
    some 0
theorem F_slices_Compare_Sint_w {fu : Nat} {H : AH} {v0 : Value} {v1 : Value} {x0 : List Int} {x1 : List Int} {r : (Int)} (hx0 : Sl H v0 (ints x0)) (hx1 : Sl H v1 (ints x1)) (hF : F_slices_Compare_Sint fu x0 x1 = some r) :
    ACallT Try.prog 28 [v0, v1] H (fun u G => AgB (Fr H) H G ∧ u = (Value.int .i64 r) ∧ Sep G (Fr H) []) := by
 refine ACallT.of_body (nt := 36) (rs := [.tmp 4]) Try.func28 rfl rfl rfl rfl ?_;have A0 : AgB (Fr H) H H := .refl _ _;have S0 : Sep H (Fr H) [] := .nil;have hB := Fr.up H;unfold F_slices_Compare_Sint at hF;refine .sr fun K hK => ?_;simp [];apply hK;clear hK K;refine .seq ?_;have q1 := lenG (P := Try.prog) (hx0.agree A0.agree) el_22;refine .sr fun K hK => ?_;simp [q1];apply hK;clear hK K;refine .block ?_;obtain ⟨s2, hL3, hF⟩ := bd_some hF;have S4 := S0.pick [] (by decide) rfl;refine DWp.loop (fun n env G => ∃ y1_11 : Int, F_slices_Compare_Sint_L1 fu x0 x1 (llen x0) n y1_11 = some s2 ∧ Sep G (Fr H) [] ∧ AgB (Fr H) H G ∧ env 0 = some v0 ∧ env 1 = some v1 ∧ env 9 = some v0 ∧ env 10 = some (Value.int .i64 (llen x0)) ∧ env 11 = some (Value.int .i64 y1_11)) fu ⟨0, hL3, S4, A0, by simp []⟩ ?_;rintro n1 env1 G1_ ⟨y1_11, hL3, S1_, A1_, e1_⟩;cases n1 with
 | zero => cases hL3
 | succ n1 =>
  simp only [F_slices_Compare_Sint_L1] at hL3;refine .sr fun K hK => ?_;simp [e1_];apply hK;clear hK K;refine .seq ?_;refine DWp.cond' (t := (ilt y1_11 (llen x0))) (by simp [e1_]) (fun hb5 => ?_) (fun hb5 => ?_)
  ·replace hL3 := cd_t hb5 hL3;refine DWp.skip ?_;simp only [andThen, leaves];refine .seq ?_;refine .block ?_;obtain ⟨g6, hL3⟩ := gd_some hL3;have q7 := idxG (P := Try.prog) (kk := .i64) (hx0.agree A1_.agree) el_22 sz_3 g6;have q8 := loadG (P := Try.prog) (hx0.agree A1_.agree) sz_3 ag_3 g6 0;refine .sr fun K hK => ?_;simp [e1_, q7, q8];apply hK;clear hK K;refine .seq ?_;have q9 := lenG (P := Try.prog) (hx1.agree A1_.agree) el_22;refine .sr fun K hK => ?_;simp [e1_, q9];apply hK;clear hK K;refine DWp.cond' (t := (ile (llen x1) y1_11)) (by simp [e1_]) (fun hb10 => ?_) (fun hb10 => ?_)
   ·replace hL3 := cd_t hb10 hL3;refine .sr fun K hK => ?_;simp [e1_];apply hK;clear hK K;refine DWp.ret ?_;simp only [andThen, leaves];obtain rfl := Option.some.inj hL3;simp only [lr] at hF;obtain rfl := Option.some.inj hF;exact ⟨by simp, [(Value.int .i64 1)], by simp [e1_], A1_, rfl, S1_.pick [] (by decide) rfl⟩
   ·replace hL3 := cd_f hb10 hL3;refine DWp.skip ?_;simp only [andThen, leaves];obtain ⟨g11, hL3⟩ := gd_some hL3;have q12 := idxG (P := Try.prog) (kk := .i64) (hx1.agree A1_.agree) el_22 sz_3 g11;have q13 := loadG (P := Try.prog) (hx1.agree A1_.agree) sz_3 ag_3 g11 0;refine .sr fun K hK => ?_;simp [e1_, q12, q13];apply hK;clear hK K;obtain ⟨r1, hc14, hL3⟩ := bd_some hL3;refine .sr fun K hK => ?_;simp [e1_];refine CallD.t (F_cmp_Compare_int_w (fu := fu)  hc14) ?_;rintro _ G16 ⟨a19, rfl, S20⟩;have A18 := A1_.ext (hB.le A1_.1) a19.agree;have S17 : Sep G16 (Fr H) [] := S1_.app a19.agree S20 (fun _ h => h) (hB.le A1_.1);simp [e1_, a19.pre];apply hK;clear hK K;refine .sr fun K hK => ?_;simp [e1_];apply hK;clear hK K;refine DWp.cond' (t := (ine r1 0)) (by simp [e1_]) (fun hb21 => ?_) (fun hb21 => ?_)
    ·replace hL3 := cd_t hb21 hL3;refine .sr fun K hK => ?_;simp [e1_];apply hK;clear hK K;refine DWp.ret ?_;simp only [andThen, leaves];obtain rfl := Option.some.inj hL3;simp only [lr] at hF;obtain rfl := Option.some.inj hF;exact ⟨by simp, [(Value.int .i64 r1)], by simp [e1_], A18, rfl, S17.pick [] (by decide) rfl⟩
    ·replace hL3 := cd_f hb21 hL3;refine DWp.skip ?_;simp only [andThen, leaves];refine .region fun K hK => ?_;simp [e1_];apply hK;clear hK K;simp only [andThen, leaves];have S22 := S17.pick [] (by decide) rfl;exact ⟨n1, Nat.lt_succ_self _, (iadd .i64 y1_11 1), hL3, S22, A18, by simp [e1_]⟩
  ·replace hL3 := cd_f hb5 hL3;refine DWp.exit ?_;simp only [andThen, leaves, if_true, if_false, reduceIte, Nat.reduceEqDiff];obtain rfl := Option.some.inj hL3;simp only [lr] at hF;refine .seq ?_;have q23 := lenG (P := Try.prog) (hx0.agree A1_.agree) el_22;have q24 := lenG (P := Try.prog) (hx1.agree A1_.agree) el_22;refine .sr fun K hK => ?_;simp [e1_, q23, q24];apply hK;clear hK K;refine DWp.cond' (t := (ilt (llen x0) (llen x1))) (by simp [e1_]) (fun hb25 => ?_) (fun hb25 => ?_)
   ·replace hF := cd_t hb25 hF;refine .sr fun K hK => ?_;simp [e1_];apply hK;clear hK K;refine DWp.ret ?_;simp only [andThen, leaves];obtain rfl := Option.some.inj hF;exact ⟨by simp, [(Value.int .i64 (-1))], by simp [e1_], A1_, rfl, S1_.pick [] (by decide) rfl⟩
   ·replace hF := cd_f hb25 hF;refine DWp.skip ?_;simp only [andThen, leaves];refine .sr fun K hK => ?_;simp [e1_];apply hK;clear hK K;refine DWp.ret ?_;obtain rfl := Option.some.inj hF;exact ⟨by simp, [(Value.int .i64 0)], by simp [e1_], A1_, rfl, S1_.pick [] (by decide) rfl⟩
def F_impl_systems_L3 (fu : Nat) (self_ : Int → Option (List (List Int))) (k3_0 : Int) (k3_1 : Int) (k3_2 : List Int) (k3_3 : List (List Int)) (k3_4 : Int) (k3_5 : Int) (k3_6 : List (List Int)) (k3_7 : Int) : Nat → List (List Int) → Int → Option (List (List Int) × Int)
  | 0, _, _ => none
  | n + 1, l3_0, y3_31 =>
    bif (ilt y3_31 k3_7) then
      gd (inL k3_6 y3_31) (
      bd (F_impl_covered fu k3_2) fun r3 =>
      bd (F_impl_joined fu r3 (gat [] k3_6 y3_31)) fun r4 =>
      gd (l3_0.length + 1 ≤ 4294967296) (
      F_impl_systems_L3 fu self_ k3_0 k3_1 k3_2 k3_3 k3_4 k3_5 k3_6 k3_7 n (lapp l3_0 [r4]) (iadd .i64 y3_31 1)))
    else
      some (l3_0, y3_31)
def F_impl_systems_L2 (fu : Nat) (self_ : Int → Option (List (List Int))) (k2_0 : Int) (k2_1 : Int) (k2_2 : List (List Int)) (k2_3 : Int) : Nat → List (List Int) → Int → Option (List (List Int) × Int)
  | 0, _, _ => none
  | n + 1, l2_0, y2_21 =>
    bif (ilt y2_21 k2_3) then
      gd (inL k2_2 y2_21) (
      bd (self_ (isub .i64 (isub .i64 k2_0 1) k2_1)) fun r2 =>
      bd (F_impl_systems_L3 fu self_ k2_0 k2_1 (gat [] k2_2 y2_21) k2_2 k2_3 y2_21 r2 (llen r2) fu l2_0 0) fun s3 =>
      F_impl_systems_L2 fu self_ k2_0 k2_1 k2_2 k2_3 n s3.1 (iadd .i64 y2_21 1))
    else
      some (l2_0, y2_21)
def F_impl_systems_L1 (fu : Nat) (self_ : Int → Option (List (List Int))) (k1_0 : Int) : Nat → List (List Int) → Int → Option (List (List Int) × Int)
  | 0, _, _ => none
  | n + 1, l1_0, y1_15 =>
    bif (ilt y1_15 k1_0) then
      bd (self_ y1_15) fun r1 =>
      bd (F_impl_systems_L2 fu self_ k1_0 y1_15 r1 (llen r1) fu l1_0 0) fun s2 =>
      F_impl_systems_L1 fu self_ k1_0 n s2.1 (iadd .i64 y1_15 1)
    else
      some (l1_0, y1_15)
def F_impl_systems : Nat → Int → Option (List (List Int))
  | 0, _ => none
  | fu + 1, x0 =>
    bif (ieq x0 0) then
      some [(@List.nil Int)]
    else
      bd (F_impl_systems_L1 fu (F_impl_systems fu) x0 fu [] 0) fun s1 =>
      bd (F_slices_SortFunc_SSint fu s1.1 (fun y0 y1 => F_slices_Compare_Sint fu y0 y1)) fun r5 =>
      some r5
theorem F_impl_systems_w : ∀ {fu : Nat} {H : AH}  {x0 : Int} {r : (List (List Int))}  (hF : F_impl_systems fu x0 = some r),
    ACallT Try.prog 27 [(Value.int .i64 x0)] H (fun u G => AgB (Fr H) H G ∧ ∃ u0 : Value, ∃ C0 : List Value, u = u0 ∧ Sep G (Fr H) [rowsC u0 22 3 C0 (List.map ints r)]) := by
 intro fu;induction fu with
 | zero => intros; rename_i hF; cases hF
 | succ fu ih =>
 intro H  x0 r  hF;simp only [F_impl_systems] at hF;refine ACallT.of_body (nt := 48) (rs := [.tmp 2]) Try.func27 rfl rfl rfl rfl ?_;have A0 : AgB (Fr H) H H := .refl _ _;have S0 : Sep H (Fr H) [] := .nil;have hB := Fr.up H;refine .sr fun K hK => ?_;simp [];apply hK;clear hK K;refine .seq ?_;refine .sr fun K hK => ?_;simp [];apply hK;clear hK K;refine DWp.cond' (t := (ieq x0 0)) (by simp []) (fun hb1 => ?_) (fun hb1 => ?_)
 ·replace hF := cd_t hb1 hF;obtain ⟨v2, G3, q4, S5, a7, _, _⟩ := S0.lit0 (P := Try.prog) (t := 22) (hB.le A0.1) el_22 ei_3 rfl;have A6 := A0.ext (hB.le A0.1) a7;replace S5 : Sep G3 (Fr H) [flat1 v2 3 (ints (@List.nil Int))] := S5;obtain ⟨v9, G10, q11, S12, a14, _, _⟩ := S5.lit1 (P := Try.prog) (t := 30) (hB.le A6.1) el_30 ei_22 rfl v2 ((S5.sl1 (k := 0) rfl).tup) ((S5.sl1 (k := 0) rfl).one);have A13 := A6.ext (hB.le A6.1) a14;replace S12 : Sep G10 (Fr H) [flat1 v2 3 (ints (@List.nil Int)), flat1 v9 22 [v2]] := S12;refine .sr fun K hK => ?_;simp [q4, a7.to_pre, q11, a14.to_pre, ((S5.sl1 (k := 0) rfl).tup)];apply hK;clear hK K;refine DWp.ret ?_;simp only [andThen, leaves];have S15 := S12.weak (k := 0) rfl;have S16 : Sep G10 (Fr H) [emp, rowsC v9 22 3 [v2] (List.map ints [(@List.nil Int)])] := S15.rowsOf1 (j := 1) (k := 0) (by decide) rfl rfl;obtain rfl := Option.some.inj hF;exact ⟨by simp, [v9], by simp [((S16.rd (k := 1) rfl).tup)], A13, v9, [v2], rfl, S16.pick [1] (by decide) rfl⟩
 ·replace hF := cd_f hb1 hF;refine DWp.skip ?_;simp only [andThen, leaves];obtain ⟨v17, G18, q19, S20, a22, _, _⟩ := S0.lit0 (P := Try.prog) (t := 30) (hB.le A0.1) el_30 ei_22 rfl;have A21 := A0.ext (hB.le A0.1) a22;replace S20 : Sep G18 (Fr H) [flat1 v17 22 []] := S20;have S23 : Sep G18 (Fr H) [rowsC v17 22 3 [] (List.map ints [])] := S20.rowsOf0 (k := 0) rfl 3;refine .sr fun K hK => ?_;simp [q19, a22.to_pre];apply hK;clear hK K;refine .seq ?_;refine .sr fun K hK => ?_;simp [];apply hK;clear hK K;refine .block ?_;obtain ⟨s24, hL25, hF⟩ := bd_some hF;have S26 := S23.pick [0] (by decide) rfl;refine DWp.loop (fun n env G => ∃ l1_0 : List (List Int), ∃ y1_15 : Int, ∃ w1_0 : Value, ∃ D1_0 : List Value, F_impl_systems_L1 fu (F_impl_systems fu) x0 n l1_0 y1_15 = some s24 ∧ Sep G (Fr H) [rowsC w1_0 22 3 D1_0 (List.map ints l1_0)] ∧ AgB (Fr H) H G ∧ env 0 = some (Value.int .i64 x0) ∧ env 3 = some w1_0 ∧ env 14 = some (Value.int .i64 x0) ∧ env 15 = some (Value.int .i64 y1_15)) fu ⟨[], 0, v17, [], hL25, S26, A21, by simp []⟩ ?_;rintro n1 env1 G1_ ⟨l1_0, y1_15, w1_0, D1_0, hL25, S1_, A1_, e1_⟩;cases n1 with
  | zero => cases hL25
  | succ n1 =>
   simp only [F_impl_systems_L1] at hL25;refine .sr fun K hK => ?_;simp [e1_];apply hK;clear hK K;refine .seq ?_;refine DWp.cond' (t := (ilt y1_15 x0)) (by simp [e1_]) (fun hb27 => ?_) (fun hb27 => ?_)
   ·replace hL25 := cd_t hb27 hL25;refine DWp.skip ?_;simp only [andThen, leaves];refine .seq ?_;refine .block ?_;refine .sr fun K hK => ?_;simp [e1_];apply hK;clear hK K;obtain ⟨r1, hc28, hL25⟩ := bd_some hL25;refine .sr fun K hK => ?_;simp [e1_];refine CallD.t (ih  hc28) ?_;rintro c29_u0 G30 ⟨a33, _, c29_C0, rfl, S34⟩;have A32 := A1_.ext (hB.le A1_.1) a33.agree;have S31 : Sep G30 (Fr H) [rowsC w1_0 22 3 D1_0 (List.map ints l1_0), rowsC c29_u0 22 3 c29_C0 (List.map ints r1)] := S1_.app a33.agree S34 (fun _ h => h) (hB.le A1_.1);have q35 := (S31.rd (k := 1) rfl).lenG (P := Try.prog) el_30;simp [e1_, a33.pre, q35];apply hK;clear hK K;refine .block ?_;obtain ⟨s36, hL37, hL25⟩ := bd_some hL25;have S38 := S31.pick [0, 1] (by decide) rfl;refine DWp.loop (fun n env G => ∃ l2_0 : List (List Int), ∃ y2_21 : Int, ∃ w2_0 : Value, ∃ D2_0 : List Value, F_impl_systems_L2 fu (F_impl_systems fu) x0 y1_15 r1 (llen r1) n l2_0 y2_21 = some s36 ∧ Sep G (Fr H) [rowsC w2_0 22 3 D2_0 (List.map ints l2_0), rowsC c29_u0 22 3 c29_C0 (List.map ints r1)] ∧ AgB (Fr H) H G ∧ env 0 = some (Value.int .i64 x0) ∧ env 3 = some w2_0 ∧ env 4 = some (Value.int .i64 y1_15) ∧ env 14 = some (Value.int .i64 x0) ∧ env 15 = some (Value.int .i64 y1_15) ∧ env 19 = some c29_u0 ∧ env 20 = some (Value.int .i64 (llen r1)) ∧ env 21 = some (Value.int .i64 y2_21)) fu ⟨l1_0, 0, w1_0, D1_0, hL37, S38, A32, by simp [e1_]⟩ ?_;rintro n2 env2 G2_ ⟨l2_0, y2_21, w2_0, D2_0, hL37, S2_, A2_, e2_⟩;cases n2 with
    | zero => cases hL37
    | succ n2 =>
     simp only [F_impl_systems_L2] at hL37;refine .sr fun K hK => ?_;simp [e2_];apply hK;clear hK K;refine .seq ?_;refine DWp.cond' (t := (ilt y2_21 (llen r1))) (by simp [e2_]) (fun hb39 => ?_) (fun hb39 => ?_)
     ·replace hL37 := cd_t hb39 hL37;refine DWp.skip ?_;simp only [andThen, leaves];refine .seq ?_;refine .block ?_;obtain ⟨g40, hL37⟩ := gd_some hL37;have q41 := (S2_.rd (k := 1) rfl).idxG (P := Try.prog) (kk := .i64) el_30 sz_22 g40;have q42 := (S2_.rd (k := 1) rfl).loadG (P := Try.prog) sz_22 ag_22 g40;refine .sr fun K hK => ?_;simp [e2_, q41, q42];apply hK;clear hK K;obtain ⟨r2, hc43, hL37⟩ := bd_some hL37;refine .sr fun K hK => ?_;simp [e2_];refine CallD.t (ih  hc43) ?_;rintro c44_u0 G45 ⟨a48, _, c44_C0, rfl, S49⟩;have A47 := A2_.ext (hB.le A2_.1) a48.agree;have S46 : Sep G45 (Fr H) [rowsC w2_0 22 3 D2_0 (List.map ints l2_0), rowsC c29_u0 22 3 c29_C0 (List.map ints r1), rowsC c44_u0 22 3 c44_C0 (List.map ints r2)] := S2_.app a48.agree S49 (fun _ h => h) (hB.le A2_.1);have q50 := (S46.rd (k := 2) rfl).lenG (P := Try.prog) el_30;simp [e2_, a48.pre, q50];apply hK;clear hK K;refine .block ?_;obtain ⟨s51, hL52, hL37⟩ := bd_some hL37;have S53 := S46.pick [0, 1, 2] (by decide) rfl
      refine DWp.loop (fun n env G => ∃ l3_0 : List (List Int), ∃ y3_31 : Int, ∃ w3_0 : Value, ∃ D3_0 : List Value, F_impl_systems_L3 fu (F_impl_systems fu) x0 y1_15 (gat [] r1 y2_21) r1 (llen r1) y2_21 r2 (llen r2) n l3_0 y3_31 = some s51 ∧ Sep G (Fr H) [rowsC w3_0 22 3 D3_0 (List.map ints l3_0), rowsC c29_u0 22 3 c29_C0 (List.map ints r1), rowsC c44_u0 22 3 c44_C0 (List.map ints r2)] ∧ AgB (Fr H) H G ∧ env 0 = some (Value.int .i64 x0) ∧ env 3 = some w3_0 ∧ env 4 = some (Value.int .i64 y1_15) ∧ env 6 = some (gat nilV c29_C0 y2_21) ∧ env 14 = some (Value.int .i64 x0) ∧ env 15 = some (Value.int .i64 y1_15) ∧ env 19 = some c29_u0 ∧ env 20 = some (Value.int .i64 (llen r1)) ∧ env 21 = some (Value.int .i64 y2_21) ∧ env 29 = some c44_u0 ∧ env 30 = some (Value.int .i64 (llen r2)) ∧ env 31 = some (Value.int .i64 y3_31)) fu ⟨l2_0, 0, w2_0, D2_0, hL52, S53, A47, by simp [e2_]⟩ ?_;rintro n3 env3 G3_ ⟨l3_0, y3_31, w3_0, D3_0, hL52, S3_, A3_, e3_⟩;cases n3 with
      | zero => cases hL52
      | succ n3 =>
       simp only [F_impl_systems_L3] at hL52;refine .sr fun K hK => ?_;simp [e3_];apply hK;clear hK K;refine .seq ?_;refine DWp.cond' (t := (ilt y3_31 (llen r2))) (by simp [e3_]) (fun hb54 => ?_) (fun hb54 => ?_)
       ·replace hL52 := cd_t hb54 hL52;refine DWp.skip ?_;simp only [andThen, leaves];refine .seq ?_;refine .block ?_;obtain ⟨g55, hL52⟩ := gd_some hL52;have q56 := (S3_.rd (k := 2) rfl).idxG (P := Try.prog) (kk := .i64) el_30 sz_22 g55;have q57 := (S3_.rd (k := 2) rfl).loadG (P := Try.prog) sz_22 ag_22 g55;refine .sr fun K hK => ?_;simp [e3_, q56, q57];apply hK;clear hK K;obtain ⟨r3, hc58, hL52⟩ := bd_some hL52;refine .region fun K hK => ?_;simp [e3_, (((S3_.rd (k := 1) rfl).rowAt [] g40).tup)];refine CallD.t (F_impl_covered_w (fu := fu) ((S3_.rd (k := 1) rfl).rowAt [] g40) hc58) ?_;rintro c59_u0 G60 ⟨a63, _, rfl, S64⟩;have A62 := A3_.ext (hB.le A3_.1) a63.agree;have S61 : Sep G60 (Fr H) [rowsC w3_0 22 3 D3_0 (List.map ints l3_0), rowsC c29_u0 22 3 c29_C0 (List.map ints r1), rowsC c44_u0 22 3 c44_C0 (List.map ints r2), flat c59_u0 3 (ints r3)] := S3_.app a63.agree S64 (fun _ h => h) (hB.le A3_.1);obtain ⟨r4, hc65, hL52⟩ := bd_some hL52;simp [e3_, a63.pre, ((S61.sl (k := 3) rfl).tup), (((S61.rd (k := 2) rfl).rowAt [] g55).tup)];refine CallD.t (F_impl_joined_w (fu := fu) (S61.sl (k := 3) rfl) ((S61.rd (k := 2) rfl).rowAt [] g55) hc65) ?_;rintro c66_u0 G67 ⟨a70, _, rfl, S71⟩;have A69 := A62.ext (hB.le A62.1) a70.agree;have S68 : Sep G67 (Fr H) [rowsC w3_0 22 3 D3_0 (List.map ints l3_0), rowsC c29_u0 22 3 c29_C0 (List.map ints r1), rowsC c44_u0 22 3 c44_C0 (List.map ints r2), flat c59_u0 3 (ints r3), flat c66_u0 3 (ints r4)] := S61.app a70.agree S71 (fun _ h => h) (hB.le A62.1);obtain ⟨v72, G73, q74, S75, a77, _, _⟩ := S68.lit1 (P := Try.prog) (t := 30) (hB.le A69.1) el_30 ei_22 rfl c66_u0 ((S68.sl (k := 4) rfl).tup) ((S68.sl (k := 4) rfl).one);have A76 := A69.ext (hB.le A69.1) a77
        replace S75 : Sep G73 (Fr H) [rowsC w3_0 22 3 D3_0 (List.map ints l3_0), rowsC c29_u0 22 3 c29_C0 (List.map ints r1), rowsC c44_u0 22 3 c44_C0 (List.map ints r2), flat c59_u0 3 (ints r3), flat c66_u0 3 (ints r4), flat1 v72 22 [c66_u0]] := S75;obtain ⟨g78, hL52⟩ := gd_some hL52;obtain ⟨v84, G79, q80, S81, a83, q80t, _⟩ := S75.pushRow (u := w3_0) (fr := ints) (X := l3_0) (y := r4) (P := Try.prog) (t := 30) (t2 := 30) (j := 0) (k := 4) (by decide) rfl rfl (hB.le A76.1) el_30 el_30 ei_22 rfl (S75.sl1 (k := 5) rfl) g78;have A82 := A76.trans a83;replace S81 : Sep G79 (Fr H) [rowsC v84 22 3 (D3_0 ++ [c66_u0]) (List.map ints (lapp l3_0 [r4])), rowsC c29_u0 22 3 c29_C0 (List.map ints r1), rowsC c44_u0 22 3 c44_C0 (List.map ints r2), flat c59_u0 3 (ints r3), emp, flat1 v72 22 [c66_u0]] := S81;have q85 := S81.lastV (fr := ints) (k := 0) rfl;try simp only [List.cons_append, List.nil_append] at q85
        simp [e3_, q85, a63.pre, a70.pre, q74, a77.to_pre, ((S68.sl (k := 4) rfl).tup), q80, q80t];apply hK;clear hK K;simp only [andThen, leaves];refine .region fun K hK => ?_;simp [e3_, q85];apply hK;clear hK K;simp only [andThen, leaves];have S86 := S81.pick [0, 1, 2] (by decide) rfl;exact ⟨n3, Nat.lt_succ_self _, (lapp l3_0 [r4]), (iadd .i64 y3_31 1), v84, (D3_0 ++ [c66_u0]), hL52, S86, A82, by simp [e3_, q85]⟩
       ·replace hL52 := cd_f hb54 hL52;refine DWp.exit ?_;simp only [andThen, leaves, if_true, if_false, reduceIte, Nat.reduceEqDiff];obtain rfl := Option.some.inj hL52;try dsimp only at hL37
        refine .region fun K hK => ?_;simp [e3_];apply hK;clear hK K;simp only [andThen, leaves];have S87 := S3_.pick [0, 1] (by decide) rfl;exact ⟨n2, Nat.lt_succ_self _, l3_0, (iadd .i64 y2_21 1), w3_0, D3_0, hL37, S87, A3_, by simp [e3_]⟩
     ·replace hL37 := cd_f hb39 hL37;refine DWp.exit ?_;simp only [andThen, leaves, if_true, if_false, reduceIte, Nat.reduceEqDiff];obtain rfl := Option.some.inj hL37;try dsimp only at hL25
      refine .region fun K hK => ?_;simp [e2_];apply hK;clear hK K;simp only [andThen, leaves];have S88 := S2_.pick [0] (by decide) rfl;exact ⟨n1, Nat.lt_succ_self _, l2_0, (iadd .i64 y1_15 1), w2_0, D2_0, hL25, S88, A2_, by simp [e2_]⟩
   ·replace hL25 := cd_f hb27 hL25;refine DWp.exit ?_;simp only [andThen, leaves, if_true, if_false, reduceIte, Nat.reduceEqDiff];obtain rfl := Option.some.inj hL25;try dsimp only at hF
    obtain ⟨r5, hc90, hF⟩ := bd_some hF;refine .sr fun K hK => ?_;simp [e1_, ((S1_.rd (k := 0) rfl).tup)];have S91 : Sep G1_ (Fr H) ([rowsC w1_0 22 3 D1_0 (List.map ints l1_0)] ++ []) := S1_.pick [0] (by decide) rfl;obtain ⟨B97, S92, U93, M94, R95, C96⟩ := S91.frame (hB.le A1_.1);refine CallD.t (F_slices_SortFunc_SSint_w (fu := fu) U93 S92 (fun G_ a_ v0 v1 y0 y1 q_ hy0 hy1 hq_ => F_slices_Compare_Sint_w (fu := fu) hy0 hy1 hq_) hc90) ?_;rintro _ G99 ⟨a102, c98_Cz0, rfl, S103⟩;have A101 := A1_.trans (a102.mono M94);have S100 : Sep G99 (Fr H) [rowsC w1_0 22 3 c98_Cz0 (List.map ints r5)] := C96 _ _ a102 S103;simp [e1_];apply hK;clear hK K;refine .sr fun K hK => ?_;simp [e1_];apply hK;clear hK K;refine DWp.ret ?_;obtain rfl := Option.some.inj hF;exact ⟨by simp, [w1_0], by simp [e1_, ((S100.rd (k := 0) rfl).tup)], A101, w1_0, c98_Cz0, rfl, S100.pick [0] (by decide) rfl⟩
def F_slices_BinarySearchFunc_SSint_L1 (fu : Nat) (k1_0 : List (List Int)) (k1_1 : List Int) (k1_2 : ((List Int) → (List Int) → Option (Int))) (k1_3 : Int) : Nat → Int → Int → Option (Int × Int)
  | 0, _, _ => none
  | n + 1, y1_9, y1_10 =>
    bif (ilt y1_9 y1_10) then
      gd (inL k1_0 (iwr .i64 (ishr .u64 (iwr .u64 (iadd .i64 y1_9 y1_10)) 1))) (
      bd (k1_2 (gat [] k1_0 (iwr .i64 (ishr .u64 (iwr .u64 (iadd .i64 y1_9 y1_10)) 1))) k1_1) fun r1 =>
      bif (ilt r1 0) then
        F_slices_BinarySearchFunc_SSint_L1 fu k1_0 k1_1 k1_2 k1_3 n (iadd .i64 (iwr .i64 (ishr .u64 (iwr .u64 (iadd .i64 y1_9 y1_10)) 1)) 1) y1_10
      else
        F_slices_BinarySearchFunc_SSint_L1 fu k1_0 k1_1 k1_2 k1_3 n y1_9 (iwr .i64 (ishr .u64 (iwr .u64 (iadd .i64 y1_9 y1_10)) 1)))
    else
      some (y1_9, y1_10)
def F_slices_BinarySearchFunc_SSint (fu : Nat) (x0 : List (List Int)) (x1 : List Int) (x2 : (List Int) → (List Int) → Option (Int)) : Option (Int × Bool) :=
  bd (F_slices_BinarySearchFunc_SSint_L1 fu x0 x1 x2 (llen x0) fu 0 (llen x0)) fun s1 =>
  bif (ilt s1.1 (llen x0)) then
    gd (inL x0 s1.1) (
    bd (x2 (gat [] x0 s1.1) x1) fun r2 =>
    some (s1.1, (ieq r2 0)))
  else
    some (s1.1, false)
theorem F_slices_BinarySearchFunc_SSint_w {fu : Nat} {H : AH} {v0 : Value} {v1 : Value} {f2 : FuncId} {c2 : List Value} {x0 : List (List Int)} {x1 : List Int} {x2 : (List Int) → (List Int) → Option (Int)} {r : (Int × Bool)} (hx0 : SlSl H v0 (List.map ints x0)) (hx1 : Sl H v1 (ints x1)) (hx2 : ∀ (G : AH), AgB (Fr H) H G → ∀ (v0 : Value) (v1 : Value) (y0 : List Int) (y1 : List Int) (q : (Int)), Sl G v0 (ints y0) → Sl G v1 (ints y1) → x2 y0 y1 = some q → ACallT Try.prog f2 ([v0, v1] ++ c2) G (fun u G' => AgB (Fr G) G G' ∧ u = (Value.int .i64 q) ∧ Sep G' (Fr G) [])) (hF : F_slices_BinarySearchFunc_SSint fu x0 x1 x2 = some r) :
    ACallT Try.prog 26 [v0, v1, (Value.func (.func f2) #[] c2.toArray)] H (fun u G => AgB (Fr H) H G ∧ u = (Value.tuple #[(Value.int .i64 r.1), (Value.bool r.2)]) ∧ Sep G (Fr H) []) := by
 refine ACallT.of_body (nt := 49) (rs := [.tmp 6, .tmp 7]) Try.func26 rfl rfl rfl rfl ?_;have A0 : AgB (Fr H) H H := .refl _ _;have S0 : Sep H (Fr H) [] := .nil;have hB := Fr.up H;unfold F_slices_BinarySearchFunc_SSint at hF;obtain ⟨C0, hC0⟩ := hx0.rd;refine .sr fun K hK => ?_;simp [];apply hK;clear hK K;have q1 := (hC0.agree A0.agree).lenG (P := Try.prog) el_30;refine .sr fun K hK => ?_;simp [q1];apply hK;clear hK K;refine .sr fun K hK => ?_;simp [];apply hK;clear hK K;refine .seq ?_;refine .block ?_;obtain ⟨s2, hL3, hF⟩ := bd_some hF;have S4 := S0.pick [] (by decide) rfl;refine DWp.loop (fun n env G => ∃ y1_9 : Int, ∃ y1_10 : Int, F_slices_BinarySearchFunc_SSint_L1 fu x0 x1 x2 (llen x0) n y1_9 y1_10 = some s2 ∧ Sep G (Fr H) [] ∧ AgB (Fr H) H G ∧ env 0 = some v0 ∧ env 1 = some v1 ∧ env 2 = some (Value.func (.func f2) #[] c2.toArray) ∧ env 8 = some (Value.int .i64 (llen x0)) ∧ env 9 = some (Value.int .i64 y1_9) ∧ env 10 = some (Value.int .i64 y1_10)) fu ⟨0, (llen x0), hL3, S4, A0, by simp []⟩ ?_;rintro n1 env1 G1_ ⟨y1_9, y1_10, hL3, S1_, A1_, e1_⟩;cases n1 with
 | zero => cases hL3
 | succ n1 =>
  simp only [F_slices_BinarySearchFunc_SSint_L1] at hL3;refine .seq ?_;refine .sr fun K hK => ?_;simp [e1_];apply hK;clear hK K;refine DWp.cond' (t := (ilt y1_9 y1_10)) (by simp [e1_]) (fun hb5 => ?_) (fun hb5 => ?_)
  ·replace hL3 := cd_t hb5 hL3;refine DWp.skip ?_;simp only [andThen, leaves];refine .block ?_;have g6 : ¬ ((1 : Int) < 0) := by decide
   refine .sr fun K hK => ?_;simp [e1_, c_int un_3 un_50, b_shr g6, c_int un_50 un_3];apply hK;clear hK K;obtain ⟨g7, hL3⟩ := gd_some hL3;have q8 := (hC0.agree A1_.agree).idxG (P := Try.prog) (kk := .i64) el_30 sz_22 g7;have q9 := (hC0.agree A1_.agree).loadG (P := Try.prog) sz_22 ag_22 g7;obtain ⟨r1, hc10, hL3⟩ := bd_some hL3;refine .sr fun K hK => ?_;simp [e1_, q8, q9, (((hC0.agree A1_.agree).rowAt [] g7).tup), ((hx1.agree A1_.agree).tup)];refine CallD.t (hx2 _ A1_ (gat nilV C0 (iwr .i64 (ishr .u64 (iwr .u64 (iadd .i64 y1_9 y1_10)) 1))) v1 (gat [] x0 (iwr .i64 (ishr .u64 (iwr .u64 (iadd .i64 y1_9 y1_10)) 1))) x1 _ ((hC0.agree A1_.agree).rowAt [] g7) (hx1.agree A1_.agree) hc10) ?_;rintro _ G11 ⟨a14, rfl, S15⟩;have A13 := A1_.ext (hB.le A1_.1) a14.agree;have S12 : Sep G11 (Fr H) [] := S1_.agree a14.agree;simp [e1_, q8, q9, a14.pre];apply hK;clear hK K;refine DWp.cond' (t := (ilt r1 0)) (by simp [e1_]) (fun hb16 => ?_) (fun hb16 => ?_)
   ·replace hL3 := cd_t hb16 hL3;refine .region fun K hK => ?_;simp [e1_];apply hK;clear hK K;simp only [andThen, leaves];have S17 := S12.pick [] (by decide) rfl;exact ⟨n1, Nat.lt_succ_self _, (iadd .i64 (iwr .i64 (ishr .u64 (iwr .u64 (iadd .i64 y1_9 y1_10)) 1)) 1), y1_10, hL3, S17, A13, by simp [e1_]⟩
   ·replace hL3 := cd_f hb16 hL3;refine .region fun K hK => ?_;simp [e1_];apply hK;clear hK K;simp only [andThen, leaves];have S18 := S12.pick [] (by decide) rfl;exact ⟨n1, Nat.lt_succ_self _, y1_9, (iwr .i64 (ishr .u64 (iwr .u64 (iadd .i64 y1_9 y1_10)) 1)), hL3, S18, A13, by simp [e1_]⟩
  ·replace hL3 := cd_f hb5 hL3;refine DWp.exit ?_;simp only [andThen, leaves, if_true, if_false, reduceIte, Nat.reduceEqDiff];obtain rfl := Option.some.inj hL3;try dsimp only at hF
   rcases Bool.eq_false_or_eq_true (ilt y1_9 (llen x0)) with hb19 | hb19
   ·replace hF := cd_t hb19 hF;obtain ⟨g20, hF⟩ := gd_some hF;have q21 := (hC0.agree A1_.agree).idxG (P := Try.prog) (kk := .i64) el_30 sz_22 g20;have q22 := (hC0.agree A1_.agree).loadG (P := Try.prog) sz_22 ag_22 g20;obtain ⟨r2, hc23, hF⟩ := bd_some hF;refine .sr fun K hK => ?_;simp [e1_, hb19, q21, q22, (((hC0.agree A1_.agree).rowAt [] g20).tup), ((hx1.agree A1_.agree).tup)];refine CallD.t (hx2 _ A1_ (gat nilV C0 y1_9) v1 (gat [] x0 y1_9) x1 _ ((hC0.agree A1_.agree).rowAt [] g20) (hx1.agree A1_.agree) hc23) ?_;rintro _ G24 ⟨a27, rfl, S28⟩;have A26 := A1_.ext (hB.le A1_.1) a27.agree;have S25 : Sep G24 (Fr H) [] := S1_.agree a27.agree;simp [e1_, hb19, q21, q22, a27.pre];apply hK;clear hK K;refine DWp.ret ?_;obtain rfl := Option.some.inj hF;exact ⟨by simp, [(Value.int .i64 y1_9), (Value.bool (ieq r2 0))], by simp [e1_], A26, rfl, S25.pick [] (by decide) rfl⟩
   ·replace hF := cd_f hb19 hF;refine .sr fun K hK => ?_;simp [e1_, hb19];apply hK;clear hK K;refine DWp.ret ?_;obtain rfl := Option.some.inj hF;exact ⟨by simp, [(Value.int .i64 y1_9), (Value.bool false)], by simp [e1_], A1_, rfl, S1_.pick [] (by decide) rfl⟩
end Go.Proofs.Ytjgnpkedkjbmcaa.AL

/- The walks of functions, each with its Lean function: bits.Len, slices.insertionSortCmpFunc[[]int], slices.siftDownCmpFunc[[]int], slices.heapSortCmpFunc[[]int], slices.nextPowerOfTwo, (*slices.xorshift).Next, slices.breakPatternsCmpFunc[[]int], slices.order2CmpFunc[[]int], slices.medianCmpFunc[[]int], slices.medianAdjacentCmpFunc[[]int]. No condition. -/
import Derived.Test.YtdghlhdpcmemjaaFBD
import Derived.Test.YtdghlhdpcmemjaaG1
import Derived.Test.YtdghlhdpcmemjaaALD
import Derived.Test.YtdghlhdpcmemjaaProg
import Derived.KernelRfl
namespace Go.Proofs.Ytdghlhdpcmemjaa.AL
open Go Go.RowKit
set_option linter.unusedVariables false
set_option linter.unusedSimpArgs false
set_option maxRecDepth 4096
theorem ag_119 : aggT Try.prog 119 = some false := by kernel_rfl
theorem sz_119 : sizeT Try.prog 119 = some 1 := by kernel_rfl
theorem un_119 : Try.prog.underlying 119 = some (.int .u64) := by kernel_rfl
theorem un_93 : Try.prog.underlying 93 = some (.int .u64) := by kernel_rfl
theorem ze_119 : zeroT Try.prog 119 = some (.int .u64 0) := by kernel_rfl
def F_math_bits_Len (fu : Nat) (x0 : Int) : Option (Int) :=
  bd (F_math_bits_Len64 fu x0) fun r1 =>
  some r1
theorem F_math_bits_Len_w {fu : Nat} {H : AH}  {x0 : Int} {r : (Int)}  (hF : F_math_bits_Len fu x0 = some r) :
    ACallT Try.prog 117 [(Value.int .u64 x0)] H (fun u G => AgB (Fr H) H G ∧ u = (Value.int .i64 r) ∧ Sep G (Fr H) []) := by
  refine ACallT.of_body (nt := 8) (rs := [.tmp 2]) Try.func117 rfl rfl rfl rfl ?_
  have A0 : AgB (Fr H) H H := .refl _ _
  have S0 : Sep H (Fr H) [] := .nil
  have hB := Fr.up H
  unfold F_math_bits_Len at hF
  refine DWp.seq ?_
  refine DWp.region fun K hK => ?_
  simp [-aBin', -aBin, -aBinI, -aUn, -aNil, -flatV, n_fn, b_add, b_sub, b_mul, b_lt, b_le, b_gt, b_ge, b_eq, b_ne, u_not]
  apply hK
  clear hK K
  simp only [andThen, leaves]
  refine DWp.seq ?_
  refine DWp.cf (by simp [bnot]) ?_
  refine DWp.skip ?_
  simp only [andThen, leaves]
  refine DWp.seq ?_
  obtain ⟨r1, hc1, hF⟩ := bd_some hF
  refine DWp.region fun K hK => ?_
  simp [-aBin', -aBin, -aBinI, -aUn, -aNil, -flatV, n_fn, b_add, b_sub, b_mul, b_lt, b_le, b_gt, b_ge, b_eq, b_ne, u_not]
  refine CallD.t (F_math_bits_Len64_w (fu := fu)  hc1) ?_
  rintro _ G3 ⟨a6, rfl, S7⟩
  have A5 := A0.ext (hB.le A0.1) a6.agree
  have S4 : Sep G3 (Fr H) [] := S0.app a6.agree S7 (fun _ h => h) (hB.le A0.1)
  simp [-aBin', -aBin, -aBinI, -aUn, -aNil, -flatV, n_fn, b_add, b_sub, b_mul, b_lt, b_le, b_gt, b_ge, b_eq, b_ne, u_not, a6.pre]
  apply hK
  clear hK K
  simp only [andThen, leaves]
  refine DWp.ret ?_
  obtain rfl := Option.some.inj hF
  exact ⟨by simp, [(Value.int .i64 r1)], by simp [], A5, rfl, S4.pick [] (by decide) rfl⟩
def F_slices_insertionSortCmpFunc_Sint_L2 (fu : Nat) (k2_0 : Int) (k2_1 : Int) (k2_2 : ((List Int) → (List Int) → Option (Int))) (k2_3 : Int) : Nat → List (List Int) → Int → Option (List (List Int) × Int)
  | 0, _, _ => none
  | n + 1, l2_0, y2_9 =>
    bd (
      bif (ilt k2_0 y2_9) then
        gd (inL l2_0 y2_9) (
        gd (inL l2_0 (isub .i64 y2_9 1)) (
        bd (k2_2 (gat [] l2_0 y2_9) (gat [] l2_0 (isub .i64 y2_9 1))) fun r1 =>
        some (ilt r1 0)))
      else
        some false) fun s8 =>
    bif s8 then
      gd (inL l2_0 (isub .i64 y2_9 1)) (
      gd (inL l2_0 y2_9) (
      gd (inL l2_0 y2_9) (
      gd (inL l2_0 (isub .i64 y2_9 1)) (
      F_slices_insertionSortCmpFunc_Sint_L2 fu k2_0 k2_1 k2_2 k2_3 n (lset (lset l2_0 y2_9 (gat [] l2_0 (isub .i64 y2_9 1))) (isub .i64 y2_9 1) (gat [] l2_0 y2_9)) (isub .i64 y2_9 1)))))
    else
      some (l2_0, y2_9)
def F_slices_insertionSortCmpFunc_Sint_L1 (fu : Nat) (k1_0 : Int) (k1_1 : Int) (k1_2 : ((List Int) → (List Int) → Option (Int))) : Nat → List (List Int) → Int → Option (List (List Int) × Int)
  | 0, _, _ => none
  | n + 1, l1_0, y1_8 =>
    bif (ilt y1_8 k1_1) then
      bd (F_slices_insertionSortCmpFunc_Sint_L2 fu k1_0 k1_1 k1_2 y1_8 fu l1_0 y1_8) fun s2 =>
      F_slices_insertionSortCmpFunc_Sint_L1 fu k1_0 k1_1 k1_2 n s2.1 (iadd .i64 y1_8 1)
    else
      some (l1_0, y1_8)
def F_slices_insertionSortCmpFunc_Sint (fu : Nat) (x0 : List (List Int)) (x1 : Int) (x2 : Int) (x3 : (List Int) → (List Int) → Option (Int)) : Option (List (List Int)) :=
  bd (F_slices_insertionSortCmpFunc_Sint_L1 fu x1 x2 x3 fu x0 (iadd .i64 x1 1)) fun s1 =>
  some s1.1
theorem F_slices_insertionSortCmpFunc_Sint_w {fu : Nat} {H : AH} {B : Nat → Prop} {v0 : Value} {C0 : List Value} {f3 : FuncId} {c3 : List Value} {x0 : List (List Int)} {x1 : Int} {x2 : Int} {x3 : (List Int) → (List Int) → Option (Int)} {r : (List (List Int))} (hB : Up B H.length) (S0 : Sep H B [rowsC v0 22 3 C0 (List.map ints x0)]) (hx3 : ∀ (G : AH), AgB B H G → ∀ (v0 : Value) (v1 : Value) (y0 : List Int) (y1 : List Int) (q : (Int)), Sl G v0 (ints y0) → Sl G v1 (ints y1) → x3 y0 y1 = some q → ACallT Try.prog f3 ([v0, v1] ++ c3) G (fun u G' => AgB (Fr G) G G' ∧ u = (Value.int .i64 q) ∧ Sep G' (Fr G) [])) (hF : F_slices_insertionSortCmpFunc_Sint fu x0 x1 x2 x3 = some r) :
    ACallT Try.prog 133 [v0, (Value.int .i64 x1), (Value.int .i64 x2), (Value.func (.func f3) #[] c3.toArray)] H (fun u G => AgB B H G ∧ ∃ Cz0 : List Value, u = (Value.tuple #[]) ∧ Sep G B [rowsC v0 22 3 Cz0 (List.map ints r)]) := by
  refine ACallT.of_body (nt := 53) (rs := []) Try.func133 rfl rfl rfl rfl ?_
  have A0 : AgB B H H := .refl _ _
  unfold F_slices_insertionSortCmpFunc_Sint at hF
  refine DWp.seq ?_
  refine DWp.region fun K hK => ?_
  simp [-aBin', -aBin, -aBinI, -aUn, -aNil, -flatV, n_fn, b_add, b_sub, b_mul, b_lt, b_le, b_gt, b_ge, b_eq, b_ne, u_not]
  apply hK
  clear hK K
  simp only [andThen, leaves]
  refine DWp.block ?_
  obtain ⟨s1, hL2, hF⟩ := bd_some hF
  have S3 := S0.pick [0] (by decide) rfl
  refine DWp.loop (fun n env G => ∃ l1_0 : List (List Int), ∃ y1_8 : Int, ∃ D1_0 : List Value, F_slices_insertionSortCmpFunc_Sint_L1 fu x1 x2 x3 n l1_0 y1_8 = some s1 ∧ Sep G B [rowsC v0 22 3 D1_0 (List.map ints l1_0)] ∧ AgB B H G ∧ env 0 = some v0 ∧ env 1 = some (Value.int .i64 x1) ∧ env 2 = some (Value.int .i64 x2) ∧ env 3 = some (Value.func (.func f3) #[] c3.toArray) ∧ env 8 = some (Value.int .i64 y1_8)) fu ⟨x0, (iadd .i64 x1 1), C0, hL2, S3, A0, by simp [], by simp [], by simp [], by simp [], by simp []⟩ ?_
  rintro n1 env1 G1_ ⟨l1_0, y1_8, D1_0, hL2, S1_, A1_, e1_0, e1_1, e1_2, e1_3, e1_8⟩
  cases n1 with
  | zero => cases hL2
  | succ n1 =>
    simp only [F_slices_insertionSortCmpFunc_Sint_L1] at hL2
    refine DWp.seq ?_
    refine DWp.seq ?_
    refine DWp.region fun K hK => ?_
    simp [-aBin', -aBin, -aBinI, -aUn, -aNil, -flatV, n_fn, b_add, b_sub, b_mul, b_lt, b_le, b_gt, b_ge, b_eq, b_ne, u_not, e1_0, e1_1, e1_2, e1_3, e1_8]
    apply hK
    clear hK K
    simp only [andThen, leaves]
    refine DWp.cond' (t := (ilt y1_8 x2)) (by simp [e1_0, e1_1, e1_2, e1_3, e1_8]) (fun hb4 => ?_) (fun hb4 => ?_)
    · replace hL2 := cd_t hb4 hL2
      refine DWp.skip ?_
      simp only [andThen, leaves]
      refine DWp.seq ?_
      refine DWp.block ?_
      refine DWp.seq ?_
      refine DWp.region fun K hK => ?_
      simp [-aBin', -aBin, -aBinI, -aUn, -aNil, -flatV, n_fn, b_add, b_sub, b_mul, b_lt, b_le, b_gt, b_ge, b_eq, b_ne, u_not, e1_0, e1_1, e1_2, e1_3, e1_8]
      apply hK
      clear hK K
      simp only [andThen, leaves]
      refine DWp.block ?_
      obtain ⟨s5, hL6, hL2⟩ := bd_some hL2
      have S7 := S1_.pick [0] (by decide) rfl
      refine DWp.loop (fun n env G => ∃ l2_0 : List (List Int), ∃ y2_9 : Int, ∃ D2_0 : List Value, F_slices_insertionSortCmpFunc_Sint_L2 fu x1 x2 x3 y1_8 n l2_0 y2_9 = some s5 ∧ Sep G B [rowsC v0 22 3 D2_0 (List.map ints l2_0)] ∧ AgB B H G ∧ env 0 = some v0 ∧ env 1 = some (Value.int .i64 x1) ∧ env 2 = some (Value.int .i64 x2) ∧ env 3 = some (Value.func (.func f3) #[] c3.toArray) ∧ env 8 = some (Value.int .i64 y1_8) ∧ env 9 = some (Value.int .i64 y2_9)) fu ⟨l1_0, y1_8, D1_0, hL6, S7, A1_, by simp [e1_0, e1_1, e1_2, e1_3, e1_8], by simp [e1_0, e1_1, e1_2, e1_3, e1_8], by simp [e1_0, e1_1, e1_2, e1_3, e1_8], by simp [e1_0, e1_1, e1_2, e1_3, e1_8], by simp [e1_0, e1_1, e1_2, e1_3, e1_8], by simp [e1_0, e1_1, e1_2, e1_3, e1_8]⟩ ?_
      rintro n2 env2 G2_ ⟨l2_0, y2_9, D2_0, hL6, S2_, A2_, e2_0, e2_1, e2_2, e2_3, e2_8, e2_9⟩
      cases n2 with
      | zero => cases hL6
      | succ n2 =>
        simp only [F_slices_insertionSortCmpFunc_Sint_L2] at hL6
        refine DWp.seq ?_
        obtain ⟨s8, hL9, hL6⟩ := bd_some hL6
        refine DWp.seq (DWp.join (fun env G => Sep G B [rowsC v0 22 3 D2_0 (List.map ints l2_0)] ∧ AgB B H G ∧ env 0 = some v0 ∧ env 1 = some (Value.int .i64 x1) ∧ env 2 = some (Value.int .i64 x2) ∧ env 3 = some (Value.func (.func f3) #[] c3.toArray) ∧ env 8 = some (Value.int .i64 y1_8) ∧ env 9 = some (Value.int .i64 y2_9) ∧ env 34 = some (Value.bool s8)) ?_ ?_)
        ·
          rcases Bool.eq_false_or_eq_true (ilt x1 y2_9) with hb11 | hb11
          · replace hL9 := cd_t hb11 hL9
            obtain ⟨g12, hL9⟩ := gd_some hL9
            have q13 := (S2_.rd (k := 0) rfl).idxG (P := Try.prog) (kk := .i64) el_23 sz_22 g12
            have q14 := (S2_.rd (k := 0) rfl).loadG (P := Try.prog) sz_22 ag_22 g12
            obtain ⟨g15, hL9⟩ := gd_some hL9
            have q16 := (S2_.rd (k := 0) rfl).idxG (P := Try.prog) (kk := .i64) el_23 sz_22 g15
            have q17 := (S2_.rd (k := 0) rfl).loadG (P := Try.prog) sz_22 ag_22 g15
            obtain ⟨r1, hc18, hL9⟩ := bd_some hL9
            refine DWp.drawn (B := [0, 0, 3, 7, 15, 15, 15, 111, 239, 15, 15, 1039, 3599, 7695, 16383, 32767, 65535]) 17 mixed (by kernel_rfl) (by decide) fun K hK => ?_
            simp [-aBin', -aBin, -aBinI, -aUn, -aNil, -flatV, n_fn, b_add, b_sub, b_mul, b_lt, b_le, b_gt, b_ge, b_eq, b_ne, u_not, e2_0, e2_1, e2_2, e2_3, e2_8, e2_9, hb11, q13, q14, q16, q17, (((S2_.rd (k := 0) rfl).rowAt [] g12).tup), (((S2_.rd (k := 0) rfl).rowAt [] g15).tup)]
            refine CallD.t (hx3 _ A2_ (gat nilV D2_0 y2_9) (gat nilV D2_0 (isub .i64 y2_9 1)) (gat [] l2_0 y2_9) (gat [] l2_0 (isub .i64 y2_9 1)) _ ((S2_.rd (k := 0) rfl).rowAt [] g12) ((S2_.rd (k := 0) rfl).rowAt [] g15) hc18) ?_
            rintro _ G19 ⟨a22, rfl, S23⟩
            have A21 := A2_.ext (hB.le A2_.1) a22.agree
            have S20 : Sep G19 B [rowsC v0 22 3 D2_0 (List.map ints l2_0)] := S2_.agree a22.agree
            simp [-aBin', -aBin, -aBinI, -aUn, -aNil, -flatV, n_fn, b_add, b_sub, b_mul, b_lt, b_le, b_gt, b_ge, b_eq, b_ne, u_not, e2_0, e2_1, e2_2, e2_3, e2_8, e2_9, hb11, q13, q14, q16, q17, a22.pre]
            apply hK
            clear hK K
            simp only [andThen, leaves]
            have S24 := S20.pick [0] (by decide) rfl
            obtain rfl := Option.some.inj hL9
            exact ⟨S24, A21, by simp [e2_0, e2_1, e2_2, e2_3, e2_8, e2_9], by simp [e2_0, e2_1, e2_2, e2_3, e2_8, e2_9], by simp [e2_0, e2_1, e2_2, e2_3, e2_8, e2_9], by simp [e2_0, e2_1, e2_2, e2_3, e2_8, e2_9], by simp [e2_0, e2_1, e2_2, e2_3, e2_8, e2_9], by simp [e2_0, e2_1, e2_2, e2_3, e2_8, e2_9], by simp [e2_0, e2_1, e2_2, e2_3, e2_8, e2_9]⟩
          · replace hL9 := cd_f hb11 hL9
            refine DWp.drawn (B := [0, 0, 3, 7, 15, 15, 15, 111, 239, 15, 15, 1039, 3599, 7695, 16383, 32767, 65535]) 17 mixed (by kernel_rfl) (by decide) fun K hK => ?_
            simp [-aBin', -aBin, -aBinI, -aUn, -aNil, -flatV, n_fn, b_add, b_sub, b_mul, b_lt, b_le, b_gt, b_ge, b_eq, b_ne, u_not, e2_0, e2_1, e2_2, e2_3, e2_8, e2_9, hb11]
            apply hK
            clear hK K
            simp only [andThen, leaves]
            have S25 := S2_.pick [0] (by decide) rfl
            obtain rfl := Option.some.inj hL9
            exact ⟨S25, A2_, by simp [e2_0, e2_1, e2_2, e2_3, e2_8, e2_9], by simp [e2_0, e2_1, e2_2, e2_3, e2_8, e2_9], by simp [e2_0, e2_1, e2_2, e2_3, e2_8, e2_9], by simp [e2_0, e2_1, e2_2, e2_3, e2_8, e2_9], by simp [e2_0, e2_1, e2_2, e2_3, e2_8, e2_9], by simp [e2_0, e2_1, e2_2, e2_3, e2_8, e2_9], by simp [e2_0, e2_1, e2_2, e2_3, e2_8, e2_9]⟩
        · rintro env Gj26 ⟨Sj26, Aj26, ej26_0, ej26_1, ej26_2, ej26_3, ej26_8, ej26_9, ej26_34⟩
          refine DWp.cond' (t := s8) (by simp [ej26_0, ej26_1, ej26_2, ej26_3, ej26_8, ej26_9, ej26_34]) (fun hb27 => ?_) (fun hb27 => ?_)
          · replace hL6 := cd_t hb27 hL6
            refine DWp.skip ?_
            simp only [andThen, leaves]
            refine DWp.seq ?_
            refine DWp.block ?_
            obtain ⟨g28, hL6⟩ := gd_some hL6
            have q29 := (Sj26.rd (k := 0) rfl).idxG (P := Try.prog) (kk := .i64) el_23 sz_22 g28
            have q30 := (Sj26.rd (k := 0) rfl).loadG (P := Try.prog) sz_22 ag_22 g28
            obtain ⟨g31, hL6⟩ := gd_some hL6
            have q32 := (Sj26.rd (k := 0) rfl).idxG (P := Try.prog) (kk := .i64) el_23 sz_22 g31
            have q33 := (Sj26.rd (k := 0) rfl).loadG (P := Try.prog) sz_22 ag_22 g31
            obtain ⟨g34, hL6⟩ := gd_some hL6
            have q35 := (Sj26.rd (k := 0) rfl).idxG (P := Try.prog) (kk := .i64) el_23 sz_22 g34
            obtain ⟨G41, q42, S43, a45⟩ := Sj26.swap1 (fr := ints) (P := Try.prog) (k := 0) [] rfl (hB.le Aj26.1) sz_22 g34 g28
            have A44 := Aj26.trans a45
            replace S43 : Sep G41 B [rowsS v0 22 3 (lset D2_0 y2_9 (gat nilV D2_0 (isub .i64 y2_9 1))) D2_0 (List.map ints l2_0)] := S43
            obtain ⟨g46, hL6⟩ := gd_some hL6
            have q47 := S43.idxS (P := Try.prog) (ki := .i64) (kk := 0) rfl el_23 sz_22 g46
            obtain ⟨G53, q54, S55, a57⟩ := S43.swap2 (fr := ints) (P := Try.prog) (k := 0) [] rfl (hB.le A44.1) sz_22 g34 g28
            have A56 := A44.trans a57
            replace S55 : Sep G53 B [rowsC v0 22 3 (lset (lset D2_0 y2_9 (gat nilV D2_0 (isub .i64 y2_9 1))) (isub .i64 y2_9 1) (gat nilV D2_0 y2_9)) (List.map ints (lset (lset l2_0 y2_9 (gat [] l2_0 (isub .i64 y2_9 1))) (isub .i64 y2_9 1) (gat [] l2_0 y2_9)))] := S55
            refine DWp.drawn (B := [0, 0, 0, 0, 8, 0, 0, 64, 224, 480, 0, 0, 3072, 7168, 16355, 32739, 65535, 131071]) 15 mixed (by kernel_rfl) (by decide) fun K hK => ?_
            simp [-aBin', -aBin, -aBinI, -aUn, -aNil, -flatV, n_fn, b_add, b_sub, b_mul, b_lt, b_le, b_gt, b_ge, b_eq, b_ne, u_not, ej26_0, ej26_1, ej26_2, ej26_3, ej26_8, ej26_9, ej26_34, q29, q30, q32, q33, q35, (((Sj26.rd (k := 0) rfl).rowAt [] g28).tup), q42, q47, q54]
            apply hK
            clear hK K
            simp only [andThen, leaves]
            refine DWp.region fun K hK => ?_
            simp [-aBin', -aBin, -aBinI, -aUn, -aNil, -flatV, n_fn, b_add, b_sub, b_mul, b_lt, b_le, b_gt, b_ge, b_eq, b_ne, u_not, ej26_0, ej26_1, ej26_2, ej26_3, ej26_8, ej26_9, ej26_34]
            apply hK
            clear hK K
            simp only [andThen, leaves]
            have S58 := S55.pick [0] (by decide) rfl
            exact ⟨n2, Nat.lt_succ_self _, (lset (lset l2_0 y2_9 (gat [] l2_0 (isub .i64 y2_9 1))) (isub .i64 y2_9 1) (gat [] l2_0 y2_9)), (isub .i64 y2_9 1), (lset (lset D2_0 y2_9 (gat nilV D2_0 (isub .i64 y2_9 1))) (isub .i64 y2_9 1) (gat nilV D2_0 y2_9)), hL6, S58, A56, by simp [ej26_0, ej26_1, ej26_2, ej26_3, ej26_8, ej26_9, ej26_34], by simp [ej26_0, ej26_1, ej26_2, ej26_3, ej26_8, ej26_9, ej26_34], by simp [ej26_0, ej26_1, ej26_2, ej26_3, ej26_8, ej26_9, ej26_34], by simp [ej26_0, ej26_1, ej26_2, ej26_3, ej26_8, ej26_9, ej26_34], by simp [ej26_0, ej26_1, ej26_2, ej26_3, ej26_8, ej26_9, ej26_34], by simp [ej26_0, ej26_1, ej26_2, ej26_3, ej26_8, ej26_9, ej26_34]⟩
          · replace hL6 := cd_f hb27 hL6
            refine DWp.exit ?_
            simp only [andThen, leaves, if_true, if_false, reduceIte, Nat.reduceEqDiff]
            obtain rfl := Option.some.inj hL6
            try dsimp only at hL2
            refine DWp.region fun K hK => ?_
            simp [-aBin', -aBin, -aBinI, -aUn, -aNil, -flatV, n_fn, b_add, b_sub, b_mul, b_lt, b_le, b_gt, b_ge, b_eq, b_ne, u_not, ej26_0, ej26_1, ej26_2, ej26_3, ej26_8, ej26_9, ej26_34]
            apply hK
            clear hK K
            simp only [andThen, leaves]
            have S59 := Sj26.pick [0] (by decide) rfl
            exact ⟨n1, Nat.lt_succ_self _, l2_0, (iadd .i64 y1_8 1), D2_0, hL2, S59, Aj26, by simp [ej26_0, ej26_1, ej26_2, ej26_3, ej26_8, ej26_9, ej26_34], by simp [ej26_0, ej26_1, ej26_2, ej26_3, ej26_8, ej26_9, ej26_34], by simp [ej26_0, ej26_1, ej26_2, ej26_3, ej26_8, ej26_9, ej26_34], by simp [ej26_0, ej26_1, ej26_2, ej26_3, ej26_8, ej26_9, ej26_34], by simp [ej26_0, ej26_1, ej26_2, ej26_3, ej26_8, ej26_9, ej26_34]⟩
    · replace hL2 := cd_f hb4 hL2
      refine DWp.exit ?_
      simp only [andThen, leaves, if_true, if_false, reduceIte, Nat.reduceEqDiff]
      obtain rfl := Option.some.inj hL2
      try dsimp only at hF
      obtain rfl := Option.some.inj hF
      exact ⟨by simp, [], by simp [e1_0, e1_1, e1_2, e1_3, e1_8], A1_, D1_0, rfl, S1_.pick [0] (by decide) rfl⟩
def F_slices_siftDownCmpFunc_Sint_L1 (fu : Nat) (k1_0 : Int) (k1_1 : Int) (k1_2 : ((List Int) → (List Int) → Option (Int))) : Nat → List (List Int) → Int → Option (LR (List (List Int)) (List (List Int) × Int))
  | 0, _, _ => none
  | n + 1, l1_0, y1_10 =>
    bif (ile k1_0 (iadd .i64 (imul .i64 2 y1_10) 1)) then
      some (.brk (l1_0, y1_10))
    else
      bd (
        bif (ilt (iadd .i64 (iadd .i64 (imul .i64 2 y1_10) 1) 1) k1_0) then
          gd (inL l1_0 (iadd .i64 k1_1 (iadd .i64 (imul .i64 2 y1_10) 1))) (
          gd (inL l1_0 (iadd .i64 (iadd .i64 k1_1 (iadd .i64 (imul .i64 2 y1_10) 1)) 1)) (
          bd (k1_2 (gat [] l1_0 (iadd .i64 k1_1 (iadd .i64 (imul .i64 2 y1_10) 1))) (gat [] l1_0 (iadd .i64 (iadd .i64 k1_1 (iadd .i64 (imul .i64 2 y1_10) 1)) 1))) fun r1 =>
          bif (ilt r1 0) then
            some (iadd .i64 (iadd .i64 (imul .i64 2 y1_10) 1) 1)
          else
            some (iadd .i64 (imul .i64 2 y1_10) 1)))
        else
          some (iadd .i64 (imul .i64 2 y1_10) 1)) fun s5 =>
      gd (inL l1_0 (iadd .i64 k1_1 y1_10)) (
      gd (inL l1_0 (iadd .i64 k1_1 s5)) (
      bd (k1_2 (gat [] l1_0 (iadd .i64 k1_1 y1_10)) (gat [] l1_0 (iadd .i64 k1_1 s5))) fun r2 =>
      bif (bnot (ilt r2 0)) then
        some (.ret l1_0)
      else
        gd (inL l1_0 (iadd .i64 k1_1 s5)) (
        gd (inL l1_0 (iadd .i64 k1_1 y1_10)) (
        gd (inL l1_0 (iadd .i64 k1_1 y1_10)) (
        gd (inL l1_0 (iadd .i64 k1_1 s5)) (
        F_slices_siftDownCmpFunc_Sint_L1 fu k1_0 k1_1 k1_2 n (lset (lset l1_0 (iadd .i64 k1_1 y1_10) (gat [] l1_0 (iadd .i64 k1_1 s5))) (iadd .i64 k1_1 s5) (gat [] l1_0 (iadd .i64 k1_1 y1_10))) s5))))))
def F_slices_siftDownCmpFunc_Sint (fu : Nat) (x0 : List (List Int)) (x1 : Int) (x2 : Int) (x3 : Int) (x4 : (List Int) → (List Int) → Option (Int)) : Option (List (List Int)) :=
  bd (F_slices_siftDownCmpFunc_Sint_L1 fu x2 x3 x4 fu x0 x1) fun s1 =>
  lr s1 fun s1 =>
  some s1.1
theorem F_slices_siftDownCmpFunc_Sint_w {fu : Nat} {H : AH} {B : Nat → Prop} {v0 : Value} {C0 : List Value} {f4 : FuncId} {c4 : List Value} {x0 : List (List Int)} {x1 : Int} {x2 : Int} {x3 : Int} {x4 : (List Int) → (List Int) → Option (Int)} {r : (List (List Int))} (hB : Up B H.length) (S0 : Sep H B [rowsC v0 22 3 C0 (List.map ints x0)]) (hx4 : ∀ (G : AH), AgB B H G → ∀ (v0 : Value) (v1 : Value) (y0 : List Int) (y1 : List Int) (q : (Int)), Sl G v0 (ints y0) → Sl G v1 (ints y1) → x4 y0 y1 = some q → ACallT Try.prog f4 ([v0, v1] ++ c4) G (fun u G' => AgB (Fr G) G G' ∧ u = (Value.int .i64 q) ∧ Sep G' (Fr G) [])) (hF : F_slices_siftDownCmpFunc_Sint fu x0 x1 x2 x3 x4 = some r) :
    ACallT Try.prog 148 [v0, (Value.int .i64 x1), (Value.int .i64 x2), (Value.int .i64 x3), (Value.func (.func f4) #[] c4.toArray)] H (fun u G => AgB B H G ∧ ∃ Cz0 : List Value, u = (Value.tuple #[]) ∧ Sep G B [rowsC v0 22 3 Cz0 (List.map ints r)]) := by
  refine ACallT.of_body (nt := 82) (rs := []) Try.func148 rfl rfl rfl rfl ?_
  have A0 : AgB B H H := .refl _ _
  unfold F_slices_siftDownCmpFunc_Sint at hF
  refine DWp.seq ?_
  refine DWp.region fun K hK => ?_
  simp [-aBin', -aBin, -aBinI, -aUn, -aNil, -flatV, n_fn, b_add, b_sub, b_mul, b_lt, b_le, b_gt, b_ge, b_eq, b_ne, u_not]
  apply hK
  clear hK K
  simp only [andThen, leaves]
  refine DWp.block ?_
  obtain ⟨s1, hL2, hF⟩ := bd_some hF
  have S3 := S0.pick [0] (by decide) rfl
  refine DWp.loop (fun n env G => ∃ l1_0 : List (List Int), ∃ y1_10 : Int, ∃ D1_0 : List Value, F_slices_siftDownCmpFunc_Sint_L1 fu x2 x3 x4 n l1_0 y1_10 = some s1 ∧ Sep G B [rowsC v0 22 3 D1_0 (List.map ints l1_0)] ∧ AgB B H G ∧ env 0 = some v0 ∧ env 2 = some (Value.int .i64 x2) ∧ env 3 = some (Value.int .i64 x3) ∧ env 4 = some (Value.func (.func f4) #[] c4.toArray) ∧ env 10 = some (Value.int .i64 y1_10)) fu ⟨x0, x1, C0, hL2, S3, A0, by simp [], by simp [], by simp [], by simp [], by simp []⟩ ?_
  rintro n1 env1 G1_ ⟨l1_0, y1_10, D1_0, hL2, S1_, A1_, e1_0, e1_2, e1_3, e1_4, e1_10⟩
  cases n1 with
  | zero => cases hL2
  | succ n1 =>
    simp only [F_slices_siftDownCmpFunc_Sint_L1] at hL2
    refine DWp.block ?_
    refine DWp.seq ?_
    refine DWp.region fun K hK => ?_
    simp [-aBin', -aBin, -aBinI, -aUn, -aNil, -flatV, n_fn, b_add, b_sub, b_mul, b_lt, b_le, b_gt, b_ge, b_eq, b_ne, u_not, e1_0, e1_2, e1_3, e1_4, e1_10]
    apply hK
    clear hK K
    simp only [andThen, leaves]
    refine DWp.seq ?_
    refine DWp.seq ?_
    refine DWp.region fun K hK => ?_
    simp [-aBin', -aBin, -aBinI, -aUn, -aNil, -flatV, n_fn, b_add, b_sub, b_mul, b_lt, b_le, b_gt, b_ge, b_eq, b_ne, u_not, e1_0, e1_2, e1_3, e1_4, e1_10]
    apply hK
    clear hK K
    simp only [andThen, leaves]
    refine DWp.cond' (t := (ile x2 (iadd .i64 (imul .i64 2 y1_10) 1))) (by simp [e1_0, e1_2, e1_3, e1_4, e1_10]) (fun hb4 => ?_) (fun hb4 => ?_)
    · replace hL2 := cd_t hb4 hL2
      refine DWp.exit ?_
      simp only [andThen, leaves, if_true, if_false, reduceIte, Nat.reduceEqDiff]
      obtain rfl := Option.some.inj hL2
      simp only [lr] at hF
      obtain rfl := Option.some.inj hF
      exact ⟨by simp, [], by simp [e1_0, e1_2, e1_3, e1_4, e1_10], A1_, D1_0, rfl, S1_.pick [0] (by decide) rfl⟩
    · replace hL2 := cd_f hb4 hL2
      refine DWp.skip ?_
      simp only [andThen, leaves]
      obtain ⟨s5, hL6, hL2⟩ := bd_some hL2
      refine DWp.seq (DWp.join (fun env G => Sep G B [rowsC v0 22 3 D1_0 (List.map ints l1_0)] ∧ AgB B H G ∧ env 0 = some v0 ∧ env 2 = some (Value.int .i64 x2) ∧ env 3 = some (Value.int .i64 x3) ∧ env 4 = some (Value.func (.func f4) #[] c4.toArray) ∧ env 10 = some (Value.int .i64 y1_10) ∧ env 11 = some (Value.int .i64 s5)) ?_ ?_)
      ·
        refine DWp.seq ?_
        rcases Bool.eq_false_or_eq_true (ilt (iadd .i64 (iadd .i64 (imul .i64 2 y1_10) 1) 1) x2) with hb8 | hb8
        · replace hL6 := cd_t hb8 hL6
          obtain ⟨g9, hL6⟩ := gd_some hL6
          have q10 := (S1_.rd (k := 0) rfl).idxG (P := Try.prog) (kk := .i64) el_23 sz_22 g9
          have q11 := (S1_.rd (k := 0) rfl).loadG (P := Try.prog) sz_22 ag_22 g9
          obtain ⟨g12, hL6⟩ := gd_some hL6
          have q13 := (S1_.rd (k := 0) rfl).idxG (P := Try.prog) (kk := .i64) el_23 sz_22 g12
          have q14 := (S1_.rd (k := 0) rfl).loadG (P := Try.prog) sz_22 ag_22 g12
          obtain ⟨r1, hc15, hL6⟩ := bd_some hL6
          refine DWp.drawn (B := [0, 1, 0, 7, 15, 31, 31, 31, 31, 415, 991, 2015, 31, 31, 31, 24607, 57375, 127007, 258079, 524287, 1048575, 2097151]) 22 mixed (by kernel_rfl) (by decide) fun K hK => ?_
          simp [-aBin', -aBin, -aBinI, -aUn, -aNil, -flatV, n_fn, b_add, b_sub, b_mul, b_lt, b_le, b_gt, b_ge, b_eq, b_ne, u_not, e1_0, e1_2, e1_3, e1_4, e1_10, hb8, q10, q11, q13, q14, (((S1_.rd (k := 0) rfl).rowAt [] g9).tup), (((S1_.rd (k := 0) rfl).rowAt [] g12).tup)]
          refine CallD.t (hx4 _ A1_ (gat nilV D1_0 (iadd .i64 x3 (iadd .i64 (imul .i64 2 y1_10) 1))) (gat nilV D1_0 (iadd .i64 (iadd .i64 x3 (iadd .i64 (imul .i64 2 y1_10) 1)) 1)) (gat [] l1_0 (iadd .i64 x3 (iadd .i64 (imul .i64 2 y1_10) 1))) (gat [] l1_0 (iadd .i64 (iadd .i64 x3 (iadd .i64 (imul .i64 2 y1_10) 1)) 1)) _ ((S1_.rd (k := 0) rfl).rowAt [] g9) ((S1_.rd (k := 0) rfl).rowAt [] g12) hc15) ?_
          rintro _ G16 ⟨a19, rfl, S20⟩
          have A18 := A1_.ext (hB.le A1_.1) a19.agree
          have S17 : Sep G16 B [rowsC v0 22 3 D1_0 (List.map ints l1_0)] := S1_.agree a19.agree
          simp [-aBin', -aBin, -aBinI, -aUn, -aNil, -flatV, n_fn, b_add, b_sub, b_mul, b_lt, b_le, b_gt, b_ge, b_eq, b_ne, u_not, e1_0, e1_2, e1_3, e1_4, e1_10, hb8, q10, q11, q13, q14, a19.pre]
          apply hK
          clear hK K
          simp only [andThen, leaves]
          refine DWp.cond' (t := (ilt r1 0)) (by simp [e1_0, e1_2, e1_3, e1_4, e1_10]) (fun hb21 => ?_) (fun hb21 => ?_)
          · replace hL6 := cd_t hb21 hL6
            refine DWp.region fun K hK => ?_
            simp [-aBin', -aBin, -aBinI, -aUn, -aNil, -flatV, n_fn, b_add, b_sub, b_mul, b_lt, b_le, b_gt, b_ge, b_eq, b_ne, u_not, e1_0, e1_2, e1_3, e1_4, e1_10]
            apply hK
            clear hK K
            simp only [andThen, leaves]
            have S22 := S17.pick [0] (by decide) rfl
            obtain rfl := Option.some.inj hL6
            exact ⟨S22, A18, by simp [e1_0, e1_2, e1_3, e1_4, e1_10], by simp [e1_0, e1_2, e1_3, e1_4, e1_10], by simp [e1_0, e1_2, e1_3, e1_4, e1_10], by simp [e1_0, e1_2, e1_3, e1_4, e1_10], by simp [e1_0, e1_2, e1_3, e1_4, e1_10], by simp [e1_0, e1_2, e1_3, e1_4, e1_10]⟩
          · replace hL6 := cd_f hb21 hL6
            refine DWp.skip ?_
            simp only [andThen, leaves]
            have S23 := S17.pick [0] (by decide) rfl
            obtain rfl := Option.some.inj hL6
            exact ⟨S23, A18, by simp [e1_0, e1_2, e1_3, e1_4, e1_10], by simp [e1_0, e1_2, e1_3, e1_4, e1_10], by simp [e1_0, e1_2, e1_3, e1_4, e1_10], by simp [e1_0, e1_2, e1_3, e1_4, e1_10], by simp [e1_0, e1_2, e1_3, e1_4, e1_10], by simp [e1_0, e1_2, e1_3, e1_4, e1_10]⟩
        · replace hL6 := cd_f hb8 hL6
          refine DWp.drawn (B := [0, 1, 0, 7, 15, 31, 31, 31, 31, 415, 991, 2015, 31, 31, 31, 24607, 57375, 127007, 258079, 524287, 1048575, 2097151]) 22 mixed (by kernel_rfl) (by decide) fun K hK => ?_
          simp [-aBin', -aBin, -aBinI, -aUn, -aNil, -flatV, n_fn, b_add, b_sub, b_mul, b_lt, b_le, b_gt, b_ge, b_eq, b_ne, u_not, e1_0, e1_2, e1_3, e1_4, e1_10, hb8]
          apply hK
          clear hK K
          simp only [andThen, leaves]
          refine DWp.cf (by simp [e1_0, e1_2, e1_3, e1_4, e1_10, bnot]) ?_
          refine DWp.skip ?_
          simp only [andThen, leaves]
          have S24 := S1_.pick [0] (by decide) rfl
          obtain rfl := Option.some.inj hL6
          exact ⟨S24, A1_, by simp [e1_0, e1_2, e1_3, e1_4, e1_10], by simp [e1_0, e1_2, e1_3, e1_4, e1_10], by simp [e1_0, e1_2, e1_3, e1_4, e1_10], by simp [e1_0, e1_2, e1_3, e1_4, e1_10], by simp [e1_0, e1_2, e1_3, e1_4, e1_10], by simp [e1_0, e1_2, e1_3, e1_4, e1_10]⟩
      · rintro env Gj25 ⟨Sj25, Aj25, ej25_0, ej25_2, ej25_3, ej25_4, ej25_10, ej25_11⟩
        refine DWp.seq ?_
        refine DWp.seq ?_
        obtain ⟨g26, hL2⟩ := gd_some hL2
        have q27 := (Sj25.rd (k := 0) rfl).idxG (P := Try.prog) (kk := .i64) el_23 sz_22 g26
        have q28 := (Sj25.rd (k := 0) rfl).loadG (P := Try.prog) sz_22 ag_22 g26
        obtain ⟨g29, hL2⟩ := gd_some hL2
        have q30 := (Sj25.rd (k := 0) rfl).idxG (P := Try.prog) (kk := .i64) el_23 sz_22 g29
        have q31 := (Sj25.rd (k := 0) rfl).loadG (P := Try.prog) sz_22 ag_22 g29
        obtain ⟨r2, hc32, hL2⟩ := bd_some hL2
        refine DWp.drawn (B := [0, 0, 0, 0, 12, 30, 62, 0, 0, 0, 768, 1920, 3968, 8191, 16383, 32767]) 16 mixed (by kernel_rfl) (by decide) fun K hK => ?_
        simp [-aBin', -aBin, -aBinI, -aUn, -aNil, -flatV, n_fn, b_add, b_sub, b_mul, b_lt, b_le, b_gt, b_ge, b_eq, b_ne, u_not, ej25_0, ej25_2, ej25_3, ej25_4, ej25_10, ej25_11, q27, q28, q30, q31, (((Sj25.rd (k := 0) rfl).rowAt [] g26).tup), (((Sj25.rd (k := 0) rfl).rowAt [] g29).tup)]
        refine CallD.t (hx4 _ Aj25 (gat nilV D1_0 (iadd .i64 x3 y1_10)) (gat nilV D1_0 (iadd .i64 x3 s5)) (gat [] l1_0 (iadd .i64 x3 y1_10)) (gat [] l1_0 (iadd .i64 x3 s5)) _ ((Sj25.rd (k := 0) rfl).rowAt [] g26) ((Sj25.rd (k := 0) rfl).rowAt [] g29) hc32) ?_
        rintro _ G33 ⟨a36, rfl, S37⟩
        have A35 := Aj25.ext (hB.le Aj25.1) a36.agree
        have S34 : Sep G33 B [rowsC v0 22 3 D1_0 (List.map ints l1_0)] := Sj25.agree a36.agree
        simp [-aBin', -aBin, -aBinI, -aUn, -aNil, -flatV, n_fn, b_add, b_sub, b_mul, b_lt, b_le, b_gt, b_ge, b_eq, b_ne, u_not, ej25_0, ej25_2, ej25_3, ej25_4, ej25_10, ej25_11, q27, q28, q30, q31, a36.pre]
        apply hK
        clear hK K
        simp only [andThen, leaves]
        refine DWp.cond' (t := (bnot (ilt r2 0))) (by simp [ej25_0, ej25_2, ej25_3, ej25_4, ej25_10, ej25_11]) (fun hb38 => ?_) (fun hb38 => ?_)
        · replace hL2 := cd_t hb38 hL2
          refine DWp.ret ?_
          simp only [andThen, leaves]
          obtain rfl := Option.some.inj hL2
          simp only [lr] at hF
          obtain rfl := Option.some.inj hF
          exact ⟨by simp, [], by simp [ej25_0, ej25_2, ej25_3, ej25_4, ej25_10, ej25_11], A35, D1_0, rfl, S34.pick [0] (by decide) rfl⟩
        · replace hL2 := cd_f hb38 hL2
          refine DWp.skip ?_
          simp only [andThen, leaves]
          refine DWp.seq ?_
          obtain ⟨g39, hL2⟩ := gd_some hL2
          have q40 := (S34.rd (k := 0) rfl).idxG (P := Try.prog) (kk := .i64) el_23 sz_22 g39
          have q41 := (S34.rd (k := 0) rfl).loadG (P := Try.prog) sz_22 ag_22 g39
          obtain ⟨g42, hL2⟩ := gd_some hL2
          have q43 := (S34.rd (k := 0) rfl).idxG (P := Try.prog) (kk := .i64) el_23 sz_22 g42
          have q44 := (S34.rd (k := 0) rfl).loadG (P := Try.prog) sz_22 ag_22 g42
          obtain ⟨g45, hL2⟩ := gd_some hL2
          have q46 := (S34.rd (k := 0) rfl).idxG (P := Try.prog) (kk := .i64) el_23 sz_22 g45
          obtain ⟨G52, q53, S54, a56⟩ := S34.swap1 (fr := ints) (P := Try.prog) (k := 0) [] rfl (hB.le A35.1) sz_22 g45 g39
          have A55 := A35.trans a56
          replace S54 : Sep G52 B [rowsS v0 22 3 (lset D1_0 (iadd .i64 x3 y1_10) (gat nilV D1_0 (iadd .i64 x3 s5))) D1_0 (List.map ints l1_0)] := S54
          obtain ⟨g57, hL2⟩ := gd_some hL2
          have q58 := S54.idxS (P := Try.prog) (ki := .i64) (kk := 0) rfl el_23 sz_22 g57
          obtain ⟨G64, q65, S66, a68⟩ := S54.swap2 (fr := ints) (P := Try.prog) (k := 0) [] rfl (hB.le A55.1) sz_22 g45 g39
          have A67 := A55.trans a68
          replace S66 : Sep G64 B [rowsC v0 22 3 (lset (lset D1_0 (iadd .i64 x3 y1_10) (gat nilV D1_0 (iadd .i64 x3 s5))) (iadd .i64 x3 s5) (gat nilV D1_0 (iadd .i64 x3 y1_10))) (List.map ints (lset (lset l1_0 (iadd .i64 x3 y1_10) (gat [] l1_0 (iadd .i64 x3 s5))) (iadd .i64 x3 s5) (gat [] l1_0 (iadd .i64 x3 y1_10))))] := S66
          refine DWp.drawn (B := [0, 0, 0, 6, 0, 0, 0, 96, 0, 0, 0, 1536, 3840, 7936, 0, 0, 0, 98304, 245760, 507904, 1048335, 2096911, 4194303, 8388607]) 21 mixed (by kernel_rfl) (by decide) fun K hK => ?_
          simp [-aBin', -aBin, -aBinI, -aUn, -aNil, -flatV, n_fn, b_add, b_sub, b_mul, b_lt, b_le, b_gt, b_ge, b_eq, b_ne, u_not, ej25_0, ej25_2, ej25_3, ej25_4, ej25_10, ej25_11, q40, q41, q43, q44, q46, (((S34.rd (k := 0) rfl).rowAt [] g39).tup), q53, q58, q65]
          apply hK
          clear hK K
          simp only [andThen, leaves]
          refine DWp.region fun K hK => ?_
          simp [-aBin', -aBin, -aBinI, -aUn, -aNil, -flatV, n_fn, b_add, b_sub, b_mul, b_lt, b_le, b_gt, b_ge, b_eq, b_ne, u_not, ej25_0, ej25_2, ej25_3, ej25_4, ej25_10, ej25_11]
          apply hK
          clear hK K
          simp only [andThen, leaves]
          have S69 := S66.pick [0] (by decide) rfl
          exact ⟨n1, Nat.lt_succ_self _, (lset (lset l1_0 (iadd .i64 x3 y1_10) (gat [] l1_0 (iadd .i64 x3 s5))) (iadd .i64 x3 s5) (gat [] l1_0 (iadd .i64 x3 y1_10))), s5, (lset (lset D1_0 (iadd .i64 x3 y1_10) (gat nilV D1_0 (iadd .i64 x3 s5))) (iadd .i64 x3 s5) (gat nilV D1_0 (iadd .i64 x3 y1_10))), hL2, S69, A67, by simp [ej25_0, ej25_2, ej25_3, ej25_4, ej25_10, ej25_11], by simp [ej25_0, ej25_2, ej25_3, ej25_4, ej25_10, ej25_11], by simp [ej25_0, ej25_2, ej25_3, ej25_4, ej25_10, ej25_11], by simp [ej25_0, ej25_2, ej25_3, ej25_4, ej25_10, ej25_11], by simp [ej25_0, ej25_2, ej25_3, ej25_4, ej25_10, ej25_11]⟩
def F_slices_heapSortCmpFunc_Sint_L2 (fu : Nat) (k2_0 : ((List Int) → (List Int) → Option (Int))) (k2_1 : Int) : Nat → List (List Int) → Int → Option (List (List Int) × Int)
  | 0, _, _ => none
  | n + 1, l2_0, y2_12 =>
    bif (ile 0 y2_12) then
      gd (inL l2_0 (iadd .i64 k2_1 y2_12)) (
      gd (inL l2_0 k2_1) (
      gd (inL l2_0 k2_1) (
      gd (inL l2_0 (iadd .i64 k2_1 y2_12)) (
      bd (F_slices_siftDownCmpFunc_Sint fu (lset (lset l2_0 k2_1 (gat [] l2_0 (iadd .i64 k2_1 y2_12))) (iadd .i64 k2_1 y2_12) (gat [] l2_0 k2_1)) 0 y2_12 k2_1 k2_0) fun r2 =>
      F_slices_heapSortCmpFunc_Sint_L2 fu k2_0 k2_1 n r2 (isub .i64 y2_12 1)))))
    else
      some (l2_0, y2_12)
def F_slices_heapSortCmpFunc_Sint_L1 (fu : Nat) (k1_0 : ((List Int) → (List Int) → Option (Int))) (k1_1 : Int) (k1_2 : Int) : Nat → List (List Int) → Int → Option (List (List Int) × Int)
  | 0, _, _ => none
  | n + 1, l1_0, y1_11 =>
    bif (ile 0 y1_11) then
      bd (F_slices_siftDownCmpFunc_Sint fu l1_0 y1_11 k1_2 k1_1 k1_0) fun r1 =>
      F_slices_heapSortCmpFunc_Sint_L1 fu k1_0 k1_1 k1_2 n r1 (isub .i64 y1_11 1)
    else
      some (l1_0, y1_11)
def F_slices_heapSortCmpFunc_Sint (fu : Nat) (x0 : List (List Int)) (x1 : Int) (x2 : Int) (x3 : (List Int) → (List Int) → Option (Int)) : Option (List (List Int)) :=
  bd (F_slices_heapSortCmpFunc_Sint_L1 fu x3 x1 (isub .i64 x2 x1) fu x0 (iquo .i64 (isub .i64 (isub .i64 x2 x1) 1) 2)) fun s1 =>
  bd (F_slices_heapSortCmpFunc_Sint_L2 fu x3 x1 fu s1.1 (isub .i64 (isub .i64 x2 x1) 1)) fun s2 =>
  some s2.1
theorem F_slices_heapSortCmpFunc_Sint_w {fu : Nat} {H : AH} {B : Nat → Prop} {v0 : Value} {C0 : List Value} {f3 : FuncId} {c3 : List Value} {x0 : List (List Int)} {x1 : Int} {x2 : Int} {x3 : (List Int) → (List Int) → Option (Int)} {r : (List (List Int))} (hB : Up B H.length) (S0 : Sep H B [rowsC v0 22 3 C0 (List.map ints x0)]) (hx3 : ∀ (G : AH), AgB B H G → ∀ (v0 : Value) (v1 : Value) (y0 : List Int) (y1 : List Int) (q : (Int)), Sl G v0 (ints y0) → Sl G v1 (ints y1) → x3 y0 y1 = some q → ACallT Try.prog f3 ([v0, v1] ++ c3) G (fun u G' => AgB (Fr G) G G' ∧ u = (Value.int .i64 q) ∧ Sep G' (Fr G) [])) (hF : F_slices_heapSortCmpFunc_Sint fu x0 x1 x2 x3 = some r) :
    ACallT Try.prog 134 [v0, (Value.int .i64 x1), (Value.int .i64 x2), (Value.func (.func f3) #[] c3.toArray)] H (fun u G => AgB B H G ∧ ∃ Cz0 : List Value, u = (Value.tuple #[]) ∧ Sep G B [rowsC v0 22 3 Cz0 (List.map ints r)]) := by
  refine ACallT.of_body (nt := 60) (rs := []) Try.func134 rfl rfl rfl rfl ?_
  have A0 : AgB B H H := .refl _ _
  unfold F_slices_heapSortCmpFunc_Sint at hF
  refine DWp.seq ?_
  refine DWp.region fun K hK => ?_
  simp [-aBin', -aBin, -aBinI, -aUn, -aNil, -flatV, n_fn, b_add, b_sub, b_mul, b_lt, b_le, b_gt, b_ge, b_eq, b_ne, u_not]
  apply hK
  clear hK K
  simp only [andThen, leaves]
  refine DWp.seq ?_
  refine DWp.region fun K hK => ?_
  simp [-aBin', -aBin, -aBinI, -aUn, -aNil, -flatV, n_fn, b_add, b_sub, b_mul, b_lt, b_le, b_gt, b_ge, b_eq, b_ne, u_not]
  apply hK
  clear hK K
  simp only [andThen, leaves]
  refine DWp.seq ?_
  refine DWp.region fun K hK => ?_
  simp [-aBin', -aBin, -aBinI, -aUn, -aNil, -flatV, n_fn, b_add, b_sub, b_mul, b_lt, b_le, b_gt, b_ge, b_eq, b_ne, u_not]
  apply hK
  clear hK K
  simp only [andThen, leaves]
  refine DWp.seq ?_
  refine DWp.seq ?_
  have g1 : (2 : Int) ≠ 0 := by decide
  refine DWp.region fun K hK => ?_
  simp [-aBin', -aBin, -aBinI, -aUn, -aNil, -flatV, n_fn, b_add, b_sub, b_mul, b_lt, b_le, b_gt, b_ge, b_eq, b_ne, u_not, b_quo g1]
  apply hK
  clear hK K
  simp only [andThen, leaves]
  refine DWp.block ?_
  obtain ⟨s2, hL3, hF⟩ := bd_some hF
  have S4 := S0.pick [0] (by decide) rfl
  refine DWp.loop (fun n env G => ∃ l1_0 : List (List Int), ∃ y1_11 : Int, ∃ D1_0 : List Value, F_slices_heapSortCmpFunc_Sint_L1 fu x3 x1 (isub .i64 x2 x1) n l1_0 y1_11 = some s2 ∧ Sep G B [rowsC v0 22 3 D1_0 (List.map ints l1_0)] ∧ AgB B H G ∧ env 0 = some v0 ∧ env 3 = some (Value.func (.func f3) #[] c3.toArray) ∧ env 8 = some (Value.int .i64 x1) ∧ env 9 = some (Value.int .i64 0) ∧ env 10 = some (Value.int .i64 (isub .i64 x2 x1)) ∧ env 11 = some (Value.int .i64 y1_11)) fu ⟨x0, (iquo .i64 (isub .i64 (isub .i64 x2 x1) 1) 2), C0, hL3, S4, A0, by simp [], by simp [], by simp [], by simp [], by simp [], by simp []⟩ ?_
  rintro n1 env1 G1_ ⟨l1_0, y1_11, D1_0, hL3, S1_, A1_, e1_0, e1_3, e1_8, e1_9, e1_10, e1_11⟩
  cases n1 with
  | zero => cases hL3
  | succ n1 =>
    simp only [F_slices_heapSortCmpFunc_Sint_L1] at hL3
    refine DWp.seq ?_
    refine DWp.seq ?_
    refine DWp.region fun K hK => ?_
    simp [-aBin', -aBin, -aBinI, -aUn, -aNil, -flatV, n_fn, b_add, b_sub, b_mul, b_lt, b_le, b_gt, b_ge, b_eq, b_ne, u_not, e1_0, e1_3, e1_8, e1_9, e1_10, e1_11]
    apply hK
    clear hK K
    simp only [andThen, leaves]
    refine DWp.cond' (t := (ile 0 y1_11)) (by simp [e1_0, e1_3, e1_8, e1_9, e1_10, e1_11]) (fun hb5 => ?_) (fun hb5 => ?_)
    · replace hL3 := cd_t hb5 hL3
      refine DWp.skip ?_
      simp only [andThen, leaves]
      refine DWp.seq ?_
      refine DWp.block ?_
      obtain ⟨r1, hc6, hL3⟩ := bd_some hL3
      refine DWp.region fun K hK => ?_
      simp [-aBin', -aBin, -aBinI, -aUn, -aNil, -flatV, n_fn, b_add, b_sub, b_mul, b_lt, b_le, b_gt, b_ge, b_eq, b_ne, u_not, e1_0, e1_3, e1_8, e1_9, e1_10, e1_11, ((S1_.rd (k := 0) rfl).tup)]
      have S7 : Sep G1_ B ([rowsC v0 22 3 D1_0 (List.map ints l1_0)] ++ []) := S1_.pick [0] (by decide) rfl
      obtain ⟨B13, S8, U9, M10, R11, C12⟩ := S7.frame (hB.le A1_.1)
      refine CallD.t (F_slices_siftDownCmpFunc_Sint_w (fu := fu) U9 S8 (fun G_ a_ => hx3 G_ (A1_.trans (a_.mono M10))) hc6) ?_
      rintro _ G15 ⟨a18, c14_Cz0, rfl, S19⟩
      have A17 := A1_.trans (a18.mono M10)
      have S16 : Sep G15 B [rowsC v0 22 3 c14_Cz0 (List.map ints r1)] := C12 _ _ a18 S19
      simp [-aBin', -aBin, -aBinI, -aUn, -aNil, -flatV, n_fn, b_add, b_sub, b_mul, b_lt, b_le, b_gt, b_ge, b_eq, b_ne, u_not, e1_0, e1_3, e1_8, e1_9, e1_10, e1_11]
      apply hK
      clear hK K
      simp only [andThen, leaves]
      refine DWp.region fun K hK => ?_
      simp [-aBin', -aBin, -aBinI, -aUn, -aNil, -flatV, n_fn, b_add, b_sub, b_mul, b_lt, b_le, b_gt, b_ge, b_eq, b_ne, u_not, e1_0, e1_3, e1_8, e1_9, e1_10, e1_11]
      apply hK
      clear hK K
      simp only [andThen, leaves]
      have S20 := S16.pick [0] (by decide) rfl
      exact ⟨n1, Nat.lt_succ_self _, r1, (isub .i64 y1_11 1), c14_Cz0, hL3, S20, A17, by simp [e1_0, e1_3, e1_8, e1_9, e1_10, e1_11], by simp [e1_0, e1_3, e1_8, e1_9, e1_10, e1_11], by simp [e1_0, e1_3, e1_8, e1_9, e1_10, e1_11], by simp [e1_0, e1_3, e1_8, e1_9, e1_10, e1_11], by simp [e1_0, e1_3, e1_8, e1_9, e1_10, e1_11], by simp [e1_0, e1_3, e1_8, e1_9, e1_10, e1_11]⟩
    · replace hL3 := cd_f hb5 hL3
      refine DWp.exit ?_
      simp only [andThen, leaves, if_true, if_false, reduceIte, Nat.reduceEqDiff]
      obtain rfl := Option.some.inj hL3
      try dsimp only at hF
      refine DWp.seq ?_
      refine DWp.region fun K hK => ?_
      simp [-aBin', -aBin, -aBinI, -aUn, -aNil, -flatV, n_fn, b_add, b_sub, b_mul, b_lt, b_le, b_gt, b_ge, b_eq, b_ne, u_not, e1_0, e1_3, e1_8, e1_9, e1_10, e1_11]
      apply hK
      clear hK K
      simp only [andThen, leaves]
      refine DWp.block ?_
      obtain ⟨s21, hL22, hF⟩ := bd_some hF
      have S23 := S1_.pick [0] (by decide) rfl
      refine DWp.loop (fun n env G => ∃ l2_0 : List (List Int), ∃ y2_12 : Int, ∃ D2_0 : List Value, F_slices_heapSortCmpFunc_Sint_L2 fu x3 x1 n l2_0 y2_12 = some s21 ∧ Sep G B [rowsC v0 22 3 D2_0 (List.map ints l2_0)] ∧ AgB B H G ∧ env 0 = some v0 ∧ env 3 = some (Value.func (.func f3) #[] c3.toArray) ∧ env 8 = some (Value.int .i64 x1) ∧ env 9 = some (Value.int .i64 0) ∧ env 12 = some (Value.int .i64 y2_12)) fu ⟨l1_0, (isub .i64 (isub .i64 x2 x1) 1), D1_0, hL22, S23, A1_, by simp [e1_0, e1_3, e1_8, e1_9, e1_10, e1_11], by simp [e1_0, e1_3, e1_8, e1_9, e1_10, e1_11], by simp [e1_0, e1_3, e1_8, e1_9, e1_10, e1_11], by simp [e1_0, e1_3, e1_8, e1_9, e1_10, e1_11], by simp [e1_0, e1_3, e1_8, e1_9, e1_10, e1_11]⟩ ?_
      rintro n1 env1 G1_ ⟨l2_0, y2_12, D2_0, hL22, S1_, A1_, e1_0, e1_3, e1_8, e1_9, e1_12⟩
      cases n1 with
      | zero => cases hL22
      | succ n1 =>
        simp only [F_slices_heapSortCmpFunc_Sint_L2] at hL22
        refine DWp.seq ?_
        refine DWp.seq ?_
        refine DWp.region fun K hK => ?_
        simp [-aBin', -aBin, -aBinI, -aUn, -aNil, -flatV, n_fn, b_add, b_sub, b_mul, b_lt, b_le, b_gt, b_ge, b_eq, b_ne, u_not, e1_0, e1_3, e1_8, e1_9, e1_12]
        apply hK
        clear hK K
        simp only [andThen, leaves]
        refine DWp.cond' (t := (ile 0 y2_12)) (by simp [e1_0, e1_3, e1_8, e1_9, e1_12]) (fun hb24 => ?_) (fun hb24 => ?_)
        · replace hL22 := cd_t hb24 hL22
          refine DWp.skip ?_
          simp only [andThen, leaves]
          refine DWp.seq ?_
          refine DWp.block ?_
          refine DWp.seq ?_
          obtain ⟨g25, hL22⟩ := gd_some hL22
          have q26 := (S1_.rd (k := 0) rfl).idxG (P := Try.prog) (kk := .i64) el_23 sz_22 g25
          have q27 := (S1_.rd (k := 0) rfl).loadG (P := Try.prog) sz_22 ag_22 g25
          obtain ⟨g28, hL22⟩ := gd_some hL22
          have q29 := (S1_.rd (k := 0) rfl).idxG (P := Try.prog) (kk := .i64) el_23 sz_22 g28
          have q30 := (S1_.rd (k := 0) rfl).loadG (P := Try.prog) sz_22 ag_22 g28
          obtain ⟨g31, hL22⟩ := gd_some hL22
          have q32 := (S1_.rd (k := 0) rfl).idxG (P := Try.prog) (kk := .i64) el_23 sz_22 g31
          obtain ⟨G38, q39, S40, a42⟩ := S1_.swap1 (fr := ints) (P := Try.prog) (k := 0) [] rfl (hB.le A1_.1) sz_22 g31 g25
          have A41 := A1_.trans a42
          replace S40 : Sep G38 B [rowsS v0 22 3 (lset D2_0 x1 (gat nilV D2_0 (iadd .i64 x1 y2_12))) D2_0 (List.map ints l2_0)] := S40
          obtain ⟨g43, hL22⟩ := gd_some hL22
          have q44 := S40.idxS (P := Try.prog) (ki := .i64) (kk := 0) rfl el_23 sz_22 g43
          obtain ⟨G50, q51, S52, a54⟩ := S40.swap2 (fr := ints) (P := Try.prog) (k := 0) [] rfl (hB.le A41.1) sz_22 g31 g25
          have A53 := A41.trans a54
          replace S52 : Sep G50 B [rowsC v0 22 3 (lset (lset D2_0 x1 (gat nilV D2_0 (iadd .i64 x1 y2_12))) (iadd .i64 x1 y2_12) (gat nilV D2_0 x1)) (List.map ints (lset (lset l2_0 x1 (gat [] l2_0 (iadd .i64 x1 y2_12))) (iadd .i64 x1 y2_12) (gat [] l2_0 x1)))] := S52
          refine DWp.drawn (B := [0, 0, 0, 0, 0, 24, 0, 0, 0, 384, 960, 1984, 0, 0, 12288, 28672, 65475, 131011, 262143, 524287]) 17 mixed (by kernel_rfl) (by decide) fun K hK => ?_
          simp [-aBin', -aBin, -aBinI, -aUn, -aNil, -flatV, n_fn, b_add, b_sub, b_mul, b_lt, b_le, b_gt, b_ge, b_eq, b_ne, u_not, e1_0, e1_3, e1_8, e1_9, e1_12, q26, q27, q29, q30, q32, (((S1_.rd (k := 0) rfl).rowAt [] g25).tup), q39, q44, q51]
          apply hK
          clear hK K
          simp only [andThen, leaves]
          obtain ⟨r2, hc55, hL22⟩ := bd_some hL22
          refine DWp.region fun K hK => ?_
          simp [-aBin', -aBin, -aBinI, -aUn, -aNil, -flatV, n_fn, b_add, b_sub, b_mul, b_lt, b_le, b_gt, b_ge, b_eq, b_ne, u_not, e1_0, e1_3, e1_8, e1_9, e1_12, ((S52.rd (k := 0) rfl).tup)]
          have S56 : Sep G50 B ([rowsC v0 22 3 (lset (lset D2_0 x1 (gat nilV D2_0 (iadd .i64 x1 y2_12))) (iadd .i64 x1 y2_12) (gat nilV D2_0 x1)) (List.map ints (lset (lset l2_0 x1 (gat [] l2_0 (iadd .i64 x1 y2_12))) (iadd .i64 x1 y2_12) (gat [] l2_0 x1)))] ++ []) := S52.pick [0] (by decide) rfl
          obtain ⟨B62, S57, U58, M59, R60, C61⟩ := S56.frame (hB.le A53.1)
          refine CallD.t (F_slices_siftDownCmpFunc_Sint_w (fu := fu) U58 S57 (fun G_ a_ => hx3 G_ (A53.trans (a_.mono M59))) hc55) ?_
          rintro _ G64 ⟨a67, c63_Cz0, rfl, S68⟩
          have A66 := A53.trans (a67.mono M59)
          have S65 : Sep G64 B [rowsC v0 22 3 c63_Cz0 (List.map ints r2)] := C61 _ _ a67 S68
          simp [-aBin', -aBin, -aBinI, -aUn, -aNil, -flatV, n_fn, b_add, b_sub, b_mul, b_lt, b_le, b_gt, b_ge, b_eq, b_ne, u_not, e1_0, e1_3, e1_8, e1_9, e1_12]
          apply hK
          clear hK K
          simp only [andThen, leaves]
          refine DWp.region fun K hK => ?_
          simp [-aBin', -aBin, -aBinI, -aUn, -aNil, -flatV, n_fn, b_add, b_sub, b_mul, b_lt, b_le, b_gt, b_ge, b_eq, b_ne, u_not, e1_0, e1_3, e1_8, e1_9, e1_12]
          apply hK
          clear hK K
          simp only [andThen, leaves]
          have S69 := S65.pick [0] (by decide) rfl
          exact ⟨n1, Nat.lt_succ_self _, r2, (isub .i64 y2_12 1), c63_Cz0, hL22, S69, A66, by simp [e1_0, e1_3, e1_8, e1_9, e1_12], by simp [e1_0, e1_3, e1_8, e1_9, e1_12], by simp [e1_0, e1_3, e1_8, e1_9, e1_12], by simp [e1_0, e1_3, e1_8, e1_9, e1_12], by simp [e1_0, e1_3, e1_8, e1_9, e1_12]⟩
        · replace hL22 := cd_f hb24 hL22
          refine DWp.exit ?_
          simp only [andThen, leaves, if_true, if_false, reduceIte, Nat.reduceEqDiff]
          obtain rfl := Option.some.inj hL22
          try dsimp only at hF
          obtain rfl := Option.some.inj hF
          exact ⟨by simp, [], by simp [e1_0, e1_3, e1_8, e1_9, e1_12], A1_, D2_0, rfl, S1_.pick [0] (by decide) rfl⟩
def F_slices_nextPowerOfTwo (fu : Nat) (x0 : Int) : Option (Int) :=
  bd (F_math_bits_Len fu (iwr .u64 x0)) fun r1 =>
  gd (¬ (r1 < 0)) (
  some (ishl .u64 1 r1))
theorem F_slices_nextPowerOfTwo_w {fu : Nat} {H : AH}  {x0 : Int} {r : (Int)}  (hF : F_slices_nextPowerOfTwo fu x0 = some r) :
    ACallT Try.prog 144 [(Value.int .i64 x0)] H (fun u G => AgB (Fr H) H G ∧ u = (Value.int .u64 r) ∧ Sep G (Fr H) []) := by
  refine ACallT.of_body (nt := 7) (rs := [.tmp 2]) Try.func144 rfl rfl rfl rfl ?_
  have A0 : AgB (Fr H) H H := .refl _ _
  have S0 : Sep H (Fr H) [] := .nil
  have hB := Fr.up H
  unfold F_slices_nextPowerOfTwo at hF
  refine DWp.seq ?_
  refine DWp.region fun K hK => ?_
  simp [-aBin', -aBin, -aBinI, -aUn, -aNil, -flatV, n_fn, b_add, b_sub, b_mul, b_lt, b_le, b_gt, b_ge, b_eq, b_ne, u_not]
  apply hK
  clear hK K
  simp only [andThen, leaves]
  refine DWp.seq ?_
  obtain ⟨r1, hc1, hF⟩ := bd_some hF
  refine DWp.region fun K hK => ?_
  simp [-aBin', -aBin, -aBinI, -aUn, -aNil, -flatV, n_fn, b_add, b_sub, b_mul, b_lt, b_le, b_gt, b_ge, b_eq, b_ne, u_not, c_int un_3 un_93]
  refine CallD.t (F_math_bits_Len_w (fu := fu)  hc1) ?_
  rintro _ G3 ⟨a6, rfl, S7⟩
  have A5 := A0.ext (hB.le A0.1) a6.agree
  have S4 : Sep G3 (Fr H) [] := S0.app a6.agree S7 (fun _ h => h) (hB.le A0.1)
  obtain ⟨g8, hF⟩ := gd_some hF
  simp [-aBin', -aBin, -aBinI, -aUn, -aNil, -flatV, n_fn, b_add, b_sub, b_mul, b_lt, b_le, b_gt, b_ge, b_eq, b_ne, u_not, c_int un_3 un_93, a6.pre, b_shl g8]
  apply hK
  clear hK K
  simp only [andThen, leaves]
  refine DWp.ret ?_
  obtain rfl := Option.some.inj hF
  exact ⟨by simp, [(Value.int .u64 (ishl .u64 1 r1))], by simp [], A5, rfl, S4.pick [] (by decide) rfl⟩
def F_slices_xorshift_Next (fu : Nat) (x0 : Int) : Option (Int × Int) :=
  some ((ixor .u64 (ixor .u64 (ixor .u64 x0 (ishl .u64 x0 13)) (ishr .u64 (ixor .u64 x0 (ishl .u64 x0 13)) 7)) (ishl .u64 (ixor .u64 (ixor .u64 x0 (ishl .u64 x0 13)) (ishr .u64 (ixor .u64 x0 (ishl .u64 x0 13)) 7)) 17)), (ixor .u64 (ixor .u64 (ixor .u64 x0 (ishl .u64 x0 13)) (ishr .u64 (ixor .u64 x0 (ishl .u64 x0 13)) 7)) (ishl .u64 (ixor .u64 (ixor .u64 x0 (ishl .u64 x0 13)) (ishr .u64 (ixor .u64 x0 (ishl .u64 x0 13)) 7)) 17)))
theorem F_slices_xorshift_Next_w {fu : Nat} {H : AH} {B : Nat → Prop} {p0 : Value} {x0 : Int} {r : (Int × Int)} (hB : Up B H.length) (S0 : Sep H B [AL.box p0 [(Value.int .u64 x0)]]) (hF : F_slices_xorshift_Next fu x0 = some r) :
    ACallT Try.prog 145 [p0] H (fun u G => AgB B H G ∧ u = (Value.int .u64 r.1) ∧ Sep G B [AL.box p0 [(Value.int .u64 r.2)]]) := by
  refine ACallT.of_body (nt := 33) (rs := [.tmp 2]) Try.func145 rfl rfl rfl rfl ?_
  have A0 : AgB B H H := .refl _ _
  unfold F_slices_xorshift_Next at hF
  refine DWp.seq ?_
  refine DWp.region fun K hK => ?_
  simp [-aBin', -aBin, -aBinI, -aUn, -aNil, -flatV, n_fn, b_add, b_sub, b_mul, b_lt, b_le, b_gt, b_ge, b_eq, b_ne, u_not]
  apply hK
  clear hK K
  simp only [andThen, leaves]
  refine DWp.seq ?_
  have q1 := S0.nilT (k := 0) rfl
  have q2 := S0.load0 (P := Try.prog) (k := 0) rfl sz_119 ag_119
  have q3 := S0.nilT (k := 0) rfl
  have q4 := S0.load0 (P := Try.prog) (k := 0) rfl sz_119 ag_119
  have g5 : ¬ ((13 : Int) < 0) := by decide
  have q6 := S0.nilT (k := 0) rfl
  obtain ⟨G7, q8, S9, a11⟩ := S0.put0 (P := Try.prog) (k := 0) rfl (hB.le A0.1) sz_119 (rfl : isTup (Value.int .u64 (ixor .u64 x0 (ishl .u64 x0 13))) = false) (rfl : (Value.int .u64 (ixor .u64 x0 (ishl .u64 x0 13))).cells = #[(Value.int .u64 (ixor .u64 x0 (ishl .u64 x0 13)))])
  have A10 := A0.trans a11
  replace S9 : Sep G7 B [AL.box p0 [(Value.int .u64 (ixor .u64 x0 (ishl .u64 x0 13)))]] := S9
  refine DWp.drawn (B := [0, 1, 3, 0, 8, 24, 56, 127, 255, 511]) 9 mixed (by kernel_rfl) (by decide) fun K hK => ?_
  simp [-aBin', -aBin, -aBinI, -aUn, -aNil, -flatV, n_fn, b_add, b_sub, b_mul, b_lt, b_le, b_gt, b_ge, b_eq, b_ne, u_not, q1, q2, q3, q4, b_shl g5, b_xor, q6, q8]
  apply hK
  clear hK K
  simp only [andThen, leaves]
  refine DWp.seq ?_
  have q12 := S9.nilT (k := 0) rfl
  have q13 := S9.load0 (P := Try.prog) (k := 0) rfl sz_119 ag_119
  have q14 := S9.nilT (k := 0) rfl
  have q15 := S9.load0 (P := Try.prog) (k := 0) rfl sz_119 ag_119
  have g16 : ¬ ((7 : Int) < 0) := by decide
  have q17 := S9.nilT (k := 0) rfl
  obtain ⟨G18, q19, S20, a22⟩ := S9.put0 (P := Try.prog) (k := 0) rfl (hB.le A10.1) sz_119 (rfl : isTup (Value.int .u64 (ixor .u64 (ixor .u64 x0 (ishl .u64 x0 13)) (ishr .u64 (ixor .u64 x0 (ishl .u64 x0 13)) 7))) = false) (rfl : (Value.int .u64 (ixor .u64 (ixor .u64 x0 (ishl .u64 x0 13)) (ishr .u64 (ixor .u64 x0 (ishl .u64 x0 13)) 7))).cells = #[(Value.int .u64 (ixor .u64 (ixor .u64 x0 (ishl .u64 x0 13)) (ishr .u64 (ixor .u64 x0 (ishl .u64 x0 13)) 7)))])
  have A21 := A10.trans a22
  replace S20 : Sep G18 B [AL.box p0 [(Value.int .u64 (ixor .u64 (ixor .u64 x0 (ishl .u64 x0 13)) (ishr .u64 (ixor .u64 x0 (ishl .u64 x0 13)) 7)))]] := S20
  refine DWp.drawn (B := [0, 1, 3, 0, 8, 24, 56, 127, 255, 511]) 9 mixed (by kernel_rfl) (by decide) fun K hK => ?_
  simp [-aBin', -aBin, -aBinI, -aUn, -aNil, -flatV, n_fn, b_add, b_sub, b_mul, b_lt, b_le, b_gt, b_ge, b_eq, b_ne, u_not, q12, q13, q14, q15, b_shr g16, b_xor, q17, q19]
  apply hK
  clear hK K
  simp only [andThen, leaves]
  refine DWp.seq ?_
  have q23 := S20.nilT (k := 0) rfl
  have q24 := S20.load0 (P := Try.prog) (k := 0) rfl sz_119 ag_119
  have q25 := S20.nilT (k := 0) rfl
  have q26 := S20.load0 (P := Try.prog) (k := 0) rfl sz_119 ag_119
  have g27 : ¬ ((17 : Int) < 0) := by decide
  have q28 := S20.nilT (k := 0) rfl
  obtain ⟨G29, q30, S31, a33⟩ := S20.put0 (P := Try.prog) (k := 0) rfl (hB.le A21.1) sz_119 (rfl : isTup (Value.int .u64 (ixor .u64 (ixor .u64 (ixor .u64 x0 (ishl .u64 x0 13)) (ishr .u64 (ixor .u64 x0 (ishl .u64 x0 13)) 7)) (ishl .u64 (ixor .u64 (ixor .u64 x0 (ishl .u64 x0 13)) (ishr .u64 (ixor .u64 x0 (ishl .u64 x0 13)) 7)) 17))) = false) (rfl : (Value.int .u64 (ixor .u64 (ixor .u64 (ixor .u64 x0 (ishl .u64 x0 13)) (ishr .u64 (ixor .u64 x0 (ishl .u64 x0 13)) 7)) (ishl .u64 (ixor .u64 (ixor .u64 x0 (ishl .u64 x0 13)) (ishr .u64 (ixor .u64 x0 (ishl .u64 x0 13)) 7)) 17))).cells = #[(Value.int .u64 (ixor .u64 (ixor .u64 (ixor .u64 x0 (ishl .u64 x0 13)) (ishr .u64 (ixor .u64 x0 (ishl .u64 x0 13)) 7)) (ishl .u64 (ixor .u64 (ixor .u64 x0 (ishl .u64 x0 13)) (ishr .u64 (ixor .u64 x0 (ishl .u64 x0 13)) 7)) 17)))])
  have A32 := A21.trans a33
  replace S31 : Sep G29 B [AL.box p0 [(Value.int .u64 (ixor .u64 (ixor .u64 (ixor .u64 x0 (ishl .u64 x0 13)) (ishr .u64 (ixor .u64 x0 (ishl .u64 x0 13)) 7)) (ishl .u64 (ixor .u64 (ixor .u64 x0 (ishl .u64 x0 13)) (ishr .u64 (ixor .u64 x0 (ishl .u64 x0 13)) 7)) 17)))]] := S31
  refine DWp.drawn (B := [0, 1, 3, 0, 8, 24, 56, 127, 255, 511]) 9 mixed (by kernel_rfl) (by decide) fun K hK => ?_
  simp [-aBin', -aBin, -aBinI, -aUn, -aNil, -flatV, n_fn, b_add, b_sub, b_mul, b_lt, b_le, b_gt, b_ge, b_eq, b_ne, u_not, q23, q24, q25, q26, b_shl g27, b_xor, q28, q30]
  apply hK
  clear hK K
  simp only [andThen, leaves]
  refine DWp.seq ?_
  have q34 := S31.nilT (k := 0) rfl
  have q35 := S31.load0 (P := Try.prog) (k := 0) rfl sz_119 ag_119
  refine DWp.region fun K hK => ?_
  simp [-aBin', -aBin, -aBinI, -aUn, -aNil, -flatV, n_fn, b_add, b_sub, b_mul, b_lt, b_le, b_gt, b_ge, b_eq, b_ne, u_not, q34, q35]
  apply hK
  clear hK K
  simp only [andThen, leaves]
  refine DWp.ret ?_
  obtain rfl := Option.some.inj hF
  exact ⟨by simp, [(Value.int .u64 (ixor .u64 (ixor .u64 (ixor .u64 x0 (ishl .u64 x0 13)) (ishr .u64 (ixor .u64 x0 (ishl .u64 x0 13)) 7)) (ishl .u64 (ixor .u64 (ixor .u64 x0 (ishl .u64 x0 13)) (ishr .u64 (ixor .u64 x0 (ishl .u64 x0 13)) 7)) 17)))], by simp [], A32, rfl, S31.pick [0] (by decide) rfl⟩
def F_slices_breakPatternsCmpFunc_Sint_L1 (fu : Nat) (k1_0 : Int) (k1_1 : Int) (k1_2 : Int) : Nat → List (List Int) → Int → Int → Option (List (List Int) × Int × Int)
  | 0, _, _, _ => none
  | n + 1, l1_0, b1_1_0, y1_11 =>
    bif (ile y1_11 (iadd .i64 (iadd .i64 k1_0 (imul .i64 (iquo .i64 k1_1 4) 2)) 1)) then
      bd (F_slices_xorshift_Next fu b1_1_0) fun r2 =>
      bif (ile k1_1 (iwr .i64 (iand .u64 r2.1 (isub .u64 k1_2 1)))) then
        gd (inL l1_0 (iadd .i64 k1_0 (isub .i64 (iwr .i64 (iand .u64 r2.1 (isub .u64 k1_2 1))) k1_1))) (
        gd (inL l1_0 y1_11) (
        gd (inL l1_0 y1_11) (
        gd (inL l1_0 (iadd .i64 k1_0 (isub .i64 (iwr .i64 (iand .u64 r2.1 (isub .u64 k1_2 1))) k1_1))) (
        F_slices_breakPatternsCmpFunc_Sint_L1 fu k1_0 k1_1 k1_2 n (lset (lset l1_0 y1_11 (gat [] l1_0 (iadd .i64 k1_0 (isub .i64 (iwr .i64 (iand .u64 r2.1 (isub .u64 k1_2 1))) k1_1)))) (iadd .i64 k1_0 (isub .i64 (iwr .i64 (iand .u64 r2.1 (isub .u64 k1_2 1))) k1_1)) (gat [] l1_0 y1_11)) r2.2 (iadd .i64 y1_11 1)))))
      else
        gd (inL l1_0 (iadd .i64 k1_0 (iwr .i64 (iand .u64 r2.1 (isub .u64 k1_2 1))))) (
        gd (inL l1_0 y1_11) (
        gd (inL l1_0 y1_11) (
        gd (inL l1_0 (iadd .i64 k1_0 (iwr .i64 (iand .u64 r2.1 (isub .u64 k1_2 1))))) (
        F_slices_breakPatternsCmpFunc_Sint_L1 fu k1_0 k1_1 k1_2 n (lset (lset l1_0 y1_11 (gat [] l1_0 (iadd .i64 k1_0 (iwr .i64 (iand .u64 r2.1 (isub .u64 k1_2 1)))))) (iadd .i64 k1_0 (iwr .i64 (iand .u64 r2.1 (isub .u64 k1_2 1)))) (gat [] l1_0 y1_11)) r2.2 (iadd .i64 y1_11 1)))))
    else
      some (l1_0, b1_1_0, y1_11)
def F_slices_breakPatternsCmpFunc_Sint (fu : Nat) (x0 : List (List Int)) (x1 : Int) (x2 : Int) (x3 : (List Int) → (List Int) → Option (Int)) : Option (List (List Int)) :=
  bif (ile 8 (isub .i64 x2 x1)) then
    bd (F_slices_nextPowerOfTwo fu (isub .i64 x2 x1)) fun r1 =>
    bd (F_slices_breakPatternsCmpFunc_Sint_L1 fu x1 (isub .i64 x2 x1) r1 fu x0 (iwr .u64 (isub .i64 x2 x1)) (isub .i64 (iadd .i64 x1 (imul .i64 (iquo .i64 (isub .i64 x2 x1) 4) 2)) 1)) fun s1 =>
    some s1.1
  else
    some x0
theorem F_slices_breakPatternsCmpFunc_Sint_w {fu : Nat} {H : AH} {B : Nat → Prop} {v0 : Value} {C0 : List Value} {f3 : FuncId} {c3 : List Value} {x0 : List (List Int)} {x1 : Int} {x2 : Int} {x3 : (List Int) → (List Int) → Option (Int)} {r : (List (List Int))} (hB : Up B H.length) (S0 : Sep H B [rowsC v0 22 3 C0 (List.map ints x0)]) (hx3 : ∀ (G : AH), AgB B H G → ∀ (v0 : Value) (v1 : Value) (y0 : List Int) (y1 : List Int) (q : (Int)), Sl G v0 (ints y0) → Sl G v1 (ints y1) → x3 y0 y1 = some q → ACallT Try.prog f3 ([v0, v1] ++ c3) G (fun u G' => AgB (Fr G) G G' ∧ u = (Value.int .i64 q) ∧ Sep G' (Fr G) [])) (hF : F_slices_breakPatternsCmpFunc_Sint fu x0 x1 x2 x3 = some r) :
    ACallT Try.prog 135 [v0, (Value.int .i64 x1), (Value.int .i64 x2), (Value.func (.func f3) #[] c3.toArray)] H (fun u G => AgB B H G ∧ ∃ Cz0 : List Value, u = (Value.tuple #[]) ∧ Sep G B [rowsC v0 22 3 Cz0 (List.map ints r)]) := by
  refine ACallT.of_body (nt := 67) (rs := []) Try.func135 rfl rfl rfl rfl ?_
  have A0 : AgB B H H := .refl _ _
  unfold F_slices_breakPatternsCmpFunc_Sint at hF
  refine DWp.seq ?_
  refine DWp.region fun K hK => ?_
  simp [-aBin', -aBin, -aBinI, -aUn, -aNil, -flatV, n_fn, b_add, b_sub, b_mul, b_lt, b_le, b_gt, b_ge, b_eq, b_ne, u_not]
  apply hK
  clear hK K
  simp only [andThen, leaves]
  refine DWp.seq ?_
  refine DWp.region fun K hK => ?_
  simp [-aBin', -aBin, -aBinI, -aUn, -aNil, -flatV, n_fn, b_add, b_sub, b_mul, b_lt, b_le, b_gt, b_ge, b_eq, b_ne, u_not]
  apply hK
  clear hK K
  simp only [andThen, leaves]
  refine DWp.cond' (t := (ile 8 (isub .i64 x2 x1))) (by simp []) (fun hb1 => ?_) (fun hb1 => ?_)
  · replace hF := cd_t hb1 hF
    refine DWp.seq ?_
    obtain ⟨G3, p5, q6, q8, a7, S2⟩ := S0.allocT (P := Try.prog) (hB.le A0.1) ze_119 rfl
    have A4 := A0.ext (hB.le A0.1) a7
    replace S2 : Sep G3 B [rowsC v0 22 3 C0 (List.map ints x0), AL.box p5 [(Value.int .u64 0)]] := S2
    obtain ⟨G9, q10, S11, a13⟩ := S2.put0 (P := Try.prog) (k := 1) rfl (hB.le A4.1) sz_119 (rfl : isTup (Value.int .u64 (iwr .u64 (isub .i64 x2 x1))) = false) (rfl : (Value.int .u64 (iwr .u64 (isub .i64 x2 x1))).cells = #[(Value.int .u64 (iwr .u64 (isub .i64 x2 x1)))])
    have A12 := A4.trans a13
    replace S11 : Sep G9 B [rowsC v0 22 3 C0 (List.map ints x0), AL.box p5 [(Value.int .u64 (iwr .u64 (isub .i64 x2 x1)))]] := S11
    refine DWp.region fun K hK => ?_
    simp [-aBin', -aBin, -aBinI, -aUn, -aNil, -flatV, n_fn, b_add, b_sub, b_mul, b_lt, b_le, b_gt, b_ge, b_eq, b_ne, u_not, c_int un_3 un_119, q6, q8, a7.to_pre, q10]
    apply hK
    clear hK K
    simp only [andThen, leaves]
    refine DWp.seq ?_
    obtain ⟨r1, hc14, hF⟩ := bd_some hF
    refine DWp.region fun K hK => ?_
    simp [-aBin', -aBin, -aBinI, -aUn, -aNil, -flatV, n_fn, b_add, b_sub, b_mul, b_lt, b_le, b_gt, b_ge, b_eq, b_ne, u_not]
    refine CallD.t (F_slices_nextPowerOfTwo_w (fu := fu)  hc14) ?_
    rintro _ G16 ⟨a19, rfl, S20⟩
    have A18 := A12.ext (hB.le A12.1) a19.agree
    have S17 : Sep G16 B [rowsC v0 22 3 C0 (List.map ints x0), AL.box p5 [(Value.int .u64 (iwr .u64 (isub .i64 x2 x1)))]] := S11.app a19.agree S20 (fun _ h => h) (hB.le A12.1)
    simp [-aBin', -aBin, -aBinI, -aUn, -aNil, -flatV, n_fn, b_add, b_sub, b_mul, b_lt, b_le, b_gt, b_ge, b_eq, b_ne, u_not, a19.pre]
    apply hK
    clear hK K
    simp only [andThen, leaves]
    refine DWp.seq ?_
    have g21 : (4 : Int) ≠ 0 := by decide
    refine DWp.region fun K hK => ?_
    simp [-aBin', -aBin, -aBinI, -aUn, -aNil, -flatV, n_fn, b_add, b_sub, b_mul, b_lt, b_le, b_gt, b_ge, b_eq, b_ne, u_not, b_quo g21]
    apply hK
    clear hK K
    simp only [andThen, leaves]
    refine DWp.block ?_
    obtain ⟨s22, hL23, hF⟩ := bd_some hF
    have S24 := S17.pick [0, 1] (by decide) rfl
    refine DWp.loop (fun n env G => ∃ l1_0 : List (List Int), ∃ b1_1_0 : Int, ∃ y1_11 : Int, ∃ D1_0 : List Value, F_slices_breakPatternsCmpFunc_Sint_L1 fu x1 (isub .i64 x2 x1) r1 n l1_0 b1_1_0 y1_11 = some s22 ∧ Sep G B [rowsC v0 22 3 D1_0 (List.map ints l1_0), AL.box p5 [(Value.int .u64 b1_1_0)]] ∧ AgB B H G ∧ env 0 = some v0 ∧ env 1 = some (Value.int .i64 x1) ∧ env 8 = some (Value.int .i64 (isub .i64 x2 x1)) ∧ env 9 = some p5 ∧ env 10 = some (Value.int .u64 r1) ∧ env 11 = some (Value.int .i64 y1_11)) fu ⟨x0, (iwr .u64 (isub .i64 x2 x1)), (isub .i64 (iadd .i64 x1 (imul .i64 (iquo .i64 (isub .i64 x2 x1) 4) 2)) 1), C0, hL23, S24, A18, by simp [], by simp [], by simp [], by simp [], by simp [], by simp []⟩ ?_
    rintro n1 env1 G1_ ⟨l1_0, b1_1_0, y1_11, D1_0, hL23, S1_, A1_, e1_0, e1_1, e1_8, e1_9, e1_10, e1_11⟩
    cases n1 with
    | zero => cases hL23
    | succ n1 =>
      simp only [F_slices_breakPatternsCmpFunc_Sint_L1] at hL23
      refine DWp.seq ?_
      refine DWp.seq ?_
      have g25 : (4 : Int) ≠ 0 := by decide
      refine DWp.region fun K hK => ?_
      simp [-aBin', -aBin, -aBinI, -aUn, -aNil, -flatV, n_fn, b_add, b_sub, b_mul, b_lt, b_le, b_gt, b_ge, b_eq, b_ne, u_not, e1_0, e1_1, e1_8, e1_9, e1_10, e1_11, b_quo g25]
      apply hK
      clear hK K
      simp only [andThen, leaves]
      refine DWp.cond' (t := (ile y1_11 (iadd .i64 (iadd .i64 x1 (imul .i64 (iquo .i64 (isub .i64 x2 x1) 4) 2)) 1))) (by simp [e1_0, e1_1, e1_8, e1_9, e1_10, e1_11]) (fun hb26 => ?_) (fun hb26 => ?_)
      · replace hL23 := cd_t hb26 hL23
        refine DWp.skip ?_
        simp only [andThen, leaves]
        refine DWp.seq ?_
        refine DWp.block ?_
        refine DWp.seq ?_
        obtain ⟨r2, hc27, hL23⟩ := bd_some hL23
        refine DWp.region fun K hK => ?_
        simp [-aBin', -aBin, -aBinI, -aUn, -aNil, -flatV, n_fn, b_add, b_sub, b_mul, b_lt, b_le, b_gt, b_ge, b_eq, b_ne, u_not, e1_0, e1_1, e1_8, e1_9, e1_10, e1_11, (S1_.ptup (k := 1) rfl)]
        have S28 : Sep G1_ B ([AL.box p5 [(Value.int .u64 b1_1_0)]] ++ [rowsC v0 22 3 D1_0 (List.map ints l1_0)]) := S1_.pick [1, 0] (by decide) rfl
        obtain ⟨B34, S29, U30, M31, R32, C33⟩ := S28.frame (hB.le A1_.1)
        refine CallD.t (F_slices_xorshift_Next_w (fu := fu) U30 S29 hc27) ?_
        rintro _ G36 ⟨a39, rfl, S40⟩
        have A38 := A1_.trans (a39.mono M31)
        have S37 : Sep G36 B [AL.box p5 [(Value.int .u64 r2.2)], rowsC v0 22 3 D1_0 (List.map ints l1_0)] := C33 _ _ a39 S40
        simp [-aBin', -aBin, -aBinI, -aUn, -aNil, -flatV, n_fn, b_add, b_sub, b_mul, b_lt, b_le, b_gt, b_ge, b_eq, b_ne, u_not, e1_0, e1_1, e1_8, e1_9, e1_10, e1_11, b_and, c_int un_93 un_3]
        apply hK
        clear hK K
        simp only [andThen, leaves]
        refine DWp.seq ?_
        refine DWp.seq ?_
        refine DWp.region fun K hK => ?_
        simp [-aBin', -aBin, -aBinI, -aUn, -aNil, -flatV, n_fn, b_add, b_sub, b_mul, b_lt, b_le, b_gt, b_ge, b_eq, b_ne, u_not, e1_0, e1_1, e1_8, e1_9, e1_10, e1_11]
        apply hK
        clear hK K
        simp only [andThen, leaves]
        refine DWp.cond' (t := (ile (isub .i64 x2 x1) (iwr .i64 (iand .u64 r2.1 (isub .u64 r1 1))))) (by simp [e1_0, e1_1, e1_8, e1_9, e1_10, e1_11]) (fun hb41 => ?_) (fun hb41 => ?_)
        · replace hL23 := cd_t hb41 hL23
          refine DWp.region fun K hK => ?_
          simp [-aBin', -aBin, -aBinI, -aUn, -aNil, -flatV, n_fn, b_add, b_sub, b_mul, b_lt, b_le, b_gt, b_ge, b_eq, b_ne, u_not, e1_0, e1_1, e1_8, e1_9, e1_10, e1_11]
          apply hK
          clear hK K
          simp only [andThen, leaves]
          obtain ⟨g42, hL23⟩ := gd_some hL23
          have q43 := (S37.rd (k := 1) rfl).idxG (P := Try.prog) (kk := .i64) el_23 sz_22 g42
          have q44 := (S37.rd (k := 1) rfl).loadG (P := Try.prog) sz_22 ag_22 g42
          obtain ⟨g45, hL23⟩ := gd_some hL23
          have q46 := (S37.rd (k := 1) rfl).idxG (P := Try.prog) (kk := .i64) el_23 sz_22 g45
          have q47 := (S37.rd (k := 1) rfl).loadG (P := Try.prog) sz_22 ag_22 g45
          obtain ⟨g48, hL23⟩ := gd_some hL23
          have q49 := (S37.rd (k := 1) rfl).idxG (P := Try.prog) (kk := .i64) el_23 sz_22 g48
          obtain ⟨G55, q56, S57, a59⟩ := S37.swap1 (fr := ints) (P := Try.prog) (k := 1) [] rfl (hB.le A38.1) sz_22 g48 g42
          have A58 := A38.trans a59
          replace S57 : Sep G55 B [AL.box p5 [(Value.int .u64 r2.2)], rowsS v0 22 3 (lset D1_0 y1_11 (gat nilV D1_0 (iadd .i64 x1 (isub .i64 (iwr .i64 (iand .u64 r2.1 (isub .u64 r1 1))) (isub .i64 x2 x1))))) D1_0 (List.map ints l1_0)] := S57
          obtain ⟨g60, hL23⟩ := gd_some hL23
          have q61 := S57.idxS (P := Try.prog) (ki := .i64) (kk := 1) rfl el_23 sz_22 g60
          obtain ⟨G67, q68, S69, a71⟩ := S57.swap2 (fr := ints) (P := Try.prog) (k := 1) [] rfl (hB.le A58.1) sz_22 g48 g42
          have A70 := A58.trans a71
          replace S69 : Sep G67 B [AL.box p5 [(Value.int .u64 r2.2)], rowsC v0 22 3 (lset (lset D1_0 y1_11 (gat nilV D1_0 (iadd .i64 x1 (isub .i64 (iwr .i64 (iand .u64 r2.1 (isub .u64 r1 1))) (isub .i64 x2 x1))))) (iadd .i64 x1 (isub .i64 (iwr .i64 (iand .u64 r2.1 (isub .u64 r1 1))) (isub .i64 x2 x1))) (gat nilV D1_0 y1_11)) (List.map ints (lset (lset l1_0 y1_11 (gat [] l1_0 (iadd .i64 x1 (isub .i64 (iwr .i64 (iand .u64 r2.1 (isub .u64 r1 1))) (isub .i64 x2 x1))))) (iadd .i64 x1 (isub .i64 (iwr .i64 (iand .u64 r2.1 (isub .u64 r1 1))) (isub .i64 x2 x1))) (gat [] l1_0 y1_11)))] := S69
          refine DWp.drawn (B := [0, 0, 0, 0, 0, 24, 0, 0, 0, 384, 960, 1984, 0, 0, 12288, 28672, 65475, 131011, 262143, 524287]) 17 mixed (by kernel_rfl) (by decide) fun K hK => ?_
          simp [-aBin', -aBin, -aBinI, -aUn, -aNil, -flatV, n_fn, b_add, b_sub, b_mul, b_lt, b_le, b_gt, b_ge, b_eq, b_ne, u_not, e1_0, e1_1, e1_8, e1_9, e1_10, e1_11, q43, q44, q46, q47, q49, (((S37.rd (k := 1) rfl).rowAt [] g42).tup), q56, q61, q68]
          apply hK
          clear hK K
          simp only [andThen, leaves]
          refine DWp.region fun K hK => ?_
          simp [-aBin', -aBin, -aBinI, -aUn, -aNil, -flatV, n_fn, b_add, b_sub, b_mul, b_lt, b_le, b_gt, b_ge, b_eq, b_ne, u_not, e1_0, e1_1, e1_8, e1_9, e1_10, e1_11]
          apply hK
          clear hK K
          simp only [andThen, leaves]
          have S72 := S69.pick [1, 0] (by decide) rfl
          exact ⟨n1, Nat.lt_succ_self _, (lset (lset l1_0 y1_11 (gat [] l1_0 (iadd .i64 x1 (isub .i64 (iwr .i64 (iand .u64 r2.1 (isub .u64 r1 1))) (isub .i64 x2 x1))))) (iadd .i64 x1 (isub .i64 (iwr .i64 (iand .u64 r2.1 (isub .u64 r1 1))) (isub .i64 x2 x1))) (gat [] l1_0 y1_11)), r2.2, (iadd .i64 y1_11 1), (lset (lset D1_0 y1_11 (gat nilV D1_0 (iadd .i64 x1 (isub .i64 (iwr .i64 (iand .u64 r2.1 (isub .u64 r1 1))) (isub .i64 x2 x1))))) (iadd .i64 x1 (isub .i64 (iwr .i64 (iand .u64 r2.1 (isub .u64 r1 1))) (isub .i64 x2 x1))) (gat nilV D1_0 y1_11)), hL23, S72, A70, by simp [e1_0, e1_1, e1_8, e1_9, e1_10, e1_11], by simp [e1_0, e1_1, e1_8, e1_9, e1_10, e1_11], by simp [e1_0, e1_1, e1_8, e1_9, e1_10, e1_11], by simp [e1_0, e1_1, e1_8, e1_9, e1_10, e1_11], by simp [e1_0, e1_1, e1_8, e1_9, e1_10, e1_11], by simp [e1_0, e1_1, e1_8, e1_9, e1_10, e1_11]⟩
        · replace hL23 := cd_f hb41 hL23
          refine DWp.skip ?_
          simp only [andThen, leaves]
          obtain ⟨g73, hL23⟩ := gd_some hL23
          have q74 := (S37.rd (k := 1) rfl).idxG (P := Try.prog) (kk := .i64) el_23 sz_22 g73
          have q75 := (S37.rd (k := 1) rfl).loadG (P := Try.prog) sz_22 ag_22 g73
          obtain ⟨g76, hL23⟩ := gd_some hL23
          have q77 := (S37.rd (k := 1) rfl).idxG (P := Try.prog) (kk := .i64) el_23 sz_22 g76
          have q78 := (S37.rd (k := 1) rfl).loadG (P := Try.prog) sz_22 ag_22 g76
          obtain ⟨g79, hL23⟩ := gd_some hL23
          have q80 := (S37.rd (k := 1) rfl).idxG (P := Try.prog) (kk := .i64) el_23 sz_22 g79
          obtain ⟨G86, q87, S88, a90⟩ := S37.swap1 (fr := ints) (P := Try.prog) (k := 1) [] rfl (hB.le A38.1) sz_22 g79 g73
          have A89 := A38.trans a90
          replace S88 : Sep G86 B [AL.box p5 [(Value.int .u64 r2.2)], rowsS v0 22 3 (lset D1_0 y1_11 (gat nilV D1_0 (iadd .i64 x1 (iwr .i64 (iand .u64 r2.1 (isub .u64 r1 1)))))) D1_0 (List.map ints l1_0)] := S88
          obtain ⟨g91, hL23⟩ := gd_some hL23
          have q92 := S88.idxS (P := Try.prog) (ki := .i64) (kk := 1) rfl el_23 sz_22 g91
          obtain ⟨G98, q99, S100, a102⟩ := S88.swap2 (fr := ints) (P := Try.prog) (k := 1) [] rfl (hB.le A89.1) sz_22 g79 g73
          have A101 := A89.trans a102
          replace S100 : Sep G98 B [AL.box p5 [(Value.int .u64 r2.2)], rowsC v0 22 3 (lset (lset D1_0 y1_11 (gat nilV D1_0 (iadd .i64 x1 (iwr .i64 (iand .u64 r2.1 (isub .u64 r1 1)))))) (iadd .i64 x1 (iwr .i64 (iand .u64 r2.1 (isub .u64 r1 1)))) (gat nilV D1_0 y1_11)) (List.map ints (lset (lset l1_0 y1_11 (gat [] l1_0 (iadd .i64 x1 (iwr .i64 (iand .u64 r2.1 (isub .u64 r1 1)))))) (iadd .i64 x1 (iwr .i64 (iand .u64 r2.1 (isub .u64 r1 1)))) (gat [] l1_0 y1_11)))] := S100
          refine DWp.drawn (B := [0, 0, 0, 0, 0, 24, 0, 0, 0, 384, 960, 1984, 0, 0, 12288, 28672, 65475, 131011, 262143, 524287]) 17 mixed (by kernel_rfl) (by decide) fun K hK => ?_
          simp [-aBin', -aBin, -aBinI, -aUn, -aNil, -flatV, n_fn, b_add, b_sub, b_mul, b_lt, b_le, b_gt, b_ge, b_eq, b_ne, u_not, e1_0, e1_1, e1_8, e1_9, e1_10, e1_11, q74, q75, q77, q78, q80, (((S37.rd (k := 1) rfl).rowAt [] g73).tup), q87, q92, q99]
          apply hK
          clear hK K
          simp only [andThen, leaves]
          refine DWp.region fun K hK => ?_
          simp [-aBin', -aBin, -aBinI, -aUn, -aNil, -flatV, n_fn, b_add, b_sub, b_mul, b_lt, b_le, b_gt, b_ge, b_eq, b_ne, u_not, e1_0, e1_1, e1_8, e1_9, e1_10, e1_11]
          apply hK
          clear hK K
          simp only [andThen, leaves]
          have S103 := S100.pick [1, 0] (by decide) rfl
          exact ⟨n1, Nat.lt_succ_self _, (lset (lset l1_0 y1_11 (gat [] l1_0 (iadd .i64 x1 (iwr .i64 (iand .u64 r2.1 (isub .u64 r1 1)))))) (iadd .i64 x1 (iwr .i64 (iand .u64 r2.1 (isub .u64 r1 1)))) (gat [] l1_0 y1_11)), r2.2, (iadd .i64 y1_11 1), (lset (lset D1_0 y1_11 (gat nilV D1_0 (iadd .i64 x1 (iwr .i64 (iand .u64 r2.1 (isub .u64 r1 1)))))) (iadd .i64 x1 (iwr .i64 (iand .u64 r2.1 (isub .u64 r1 1)))) (gat nilV D1_0 y1_11)), hL23, S103, A101, by simp [e1_0, e1_1, e1_8, e1_9, e1_10, e1_11], by simp [e1_0, e1_1, e1_8, e1_9, e1_10, e1_11], by simp [e1_0, e1_1, e1_8, e1_9, e1_10, e1_11], by simp [e1_0, e1_1, e1_8, e1_9, e1_10, e1_11], by simp [e1_0, e1_1, e1_8, e1_9, e1_10, e1_11], by simp [e1_0, e1_1, e1_8, e1_9, e1_10, e1_11]⟩
      · replace hL23 := cd_f hb26 hL23
        refine DWp.exit ?_
        simp only [andThen, leaves, if_true, if_false, reduceIte, Nat.reduceEqDiff]
        obtain rfl := Option.some.inj hL23
        try dsimp only at hF
        obtain rfl := Option.some.inj hF
        exact ⟨by simp, [], by simp [e1_0, e1_1, e1_8, e1_9, e1_10, e1_11], A1_, D1_0, rfl, S1_.pick [0] (by decide) rfl⟩
  · replace hF := cd_f hb1 hF
    refine DWp.skip ?_
    obtain rfl := Option.some.inj hF
    exact ⟨by simp, [], by simp [], A0, C0, rfl, S0.pick [0] (by decide) rfl⟩
def F_slices_order2CmpFunc_Sint (fu : Nat) (x0 : List (List Int)) (x1 : Int) (x2 : Int) (x3 : Int) (x4 : (List Int) → (List Int) → Option (Int)) : Option (Int × Int × Int) :=
  gd (inL x0 x2) (
  gd (inL x0 x1) (
  bd (x4 (gat [] x0 x2) (gat [] x0 x1)) fun r1 =>
  bif (ilt r1 0) then
    some (x2, x1, (iadd .i64 x3 1))
  else
    some (x1, x2, x3)))
theorem F_slices_order2CmpFunc_Sint_w {fu : Nat} {H : AH} {B : Nat → Prop} {v0 : Value} {p3 : Value} {f4 : FuncId} {c4 : List Value} {x0 : List (List Int)} {x1 : Int} {x2 : Int} {x3 : Int} {x4 : (List Int) → (List Int) → Option (Int)} {r : (Int × Int × Int)} (hB : Up B H.length) (S0 : Sep H B [AL.box p3 [(Value.int .i64 x3)]]) (hx0 : RdB B H v0 (List.map ints x0)) (hx4 : ∀ (G : AH), AgB B H G → ∀ (v0 : Value) (v1 : Value) (y0 : List Int) (y1 : List Int) (q : (Int)), Sl G v0 (ints y0) → Sl G v1 (ints y1) → x4 y0 y1 = some q → ACallT Try.prog f4 ([v0, v1] ++ c4) G (fun u G' => AgB (Fr G) G G' ∧ u = (Value.int .i64 q) ∧ Sep G' (Fr G) [])) (hF : F_slices_order2CmpFunc_Sint fu x0 x1 x2 x3 x4 = some r) :
    ACallT Try.prog 152 [v0, (Value.int .i64 x1), (Value.int .i64 x2), p3, (Value.func (.func f4) #[] c4.toArray)] H (fun u G => AgB B H G ∧ u = (Value.tuple #[(Value.int .i64 r.1), (Value.int .i64 r.2.1)]) ∧ Sep G B [AL.box p3 [(Value.int .i64 r.2.2)]]) := by
  refine ACallT.of_body (nt := 32) (rs := [.tmp 10, .tmp 11]) Try.func152 rfl rfl rfl rfl ?_
  have A0 : AgB B H H := .refl _ _
  unfold F_slices_order2CmpFunc_Sint at hF
  obtain ⟨C0, hC0, hCv0, hCc0⟩ := hx0
  refine DWp.seq ?_
  refine DWp.region fun K hK => ?_
  simp [-aBin', -aBin, -aBinI, -aUn, -aNil, -flatV, n_fn, b_add, b_sub, b_mul, b_lt, b_le, b_gt, b_ge, b_eq, b_ne, u_not]
  apply hK
  clear hK K
  simp only [andThen, leaves]
  refine DWp.seq ?_
  refine DWp.seq ?_
  obtain ⟨g1, hF⟩ := gd_some hF
  have q2 := (hC0.agr hCv0 hCc0 A0).idxG (P := Try.prog) (kk := .i64) el_23 sz_22 g1
  have q3 := (hC0.agr hCv0 hCc0 A0).loadG (P := Try.prog) sz_22 ag_22 g1
  obtain ⟨g4, hF⟩ := gd_some hF
  have q5 := (hC0.agr hCv0 hCc0 A0).idxG (P := Try.prog) (kk := .i64) el_23 sz_22 g4
  have q6 := (hC0.agr hCv0 hCc0 A0).loadG (P := Try.prog) sz_22 ag_22 g4
  obtain ⟨r1, hc7, hF⟩ := bd_some hF
  refine DWp.drawn (B := [0, 0, 0, 6, 14, 0, 0, 96, 224, 511, 1023]) 11 mixed (by kernel_rfl) (by decide) fun K hK => ?_
  simp [-aBin', -aBin, -aBinI, -aUn, -aNil, -flatV, n_fn, b_add, b_sub, b_mul, b_lt, b_le, b_gt, b_ge, b_eq, b_ne, u_not, q2, q3, q5, q6, (((hC0.agr hCv0 hCc0 A0).rowAt [] g1).tup), (((hC0.agr hCv0 hCc0 A0).rowAt [] g4).tup)]
  refine CallD.t (hx4 _ A0 (gat nilV C0 x2) (gat nilV C0 x1) (gat [] x0 x2) (gat [] x0 x1) _ ((hC0.agr hCv0 hCc0 A0).rowAt [] g1) ((hC0.agr hCv0 hCc0 A0).rowAt [] g4) hc7) ?_
  rintro _ G8 ⟨a11, rfl, S12⟩
  have A10 := A0.ext (hB.le A0.1) a11.agree
  have S9 : Sep G8 B [AL.box p3 [(Value.int .i64 x3)]] := S0.agree a11.agree
  simp [-aBin', -aBin, -aBinI, -aUn, -aNil, -flatV, n_fn, b_add, b_sub, b_mul, b_lt, b_le, b_gt, b_ge, b_eq, b_ne, u_not, q2, q3, q5, q6, a11.pre]
  apply hK
  clear hK K
  simp only [andThen, leaves]
  refine DWp.cond' (t := (ilt r1 0)) (by simp []) (fun hb13 => ?_) (fun hb13 => ?_)
  · replace hF := cd_t hb13 hF
    refine DWp.seq ?_
    have q14 := S9.nilT (k := 0) rfl
    have q15 := S9.load0 (P := Try.prog) (k := 0) rfl sz_3 ag_3
    have q16 := S9.nilT (k := 0) rfl
    obtain ⟨G17, q18, S19, a21⟩ := S9.put0 (P := Try.prog) (k := 0) rfl (hB.le A10.1) sz_3 (rfl : isTup (Value.int .i64 (iadd .i64 x3 1)) = false) (rfl : (Value.int .i64 (iadd .i64 x3 1)).cells = #[(Value.int .i64 (iadd .i64 x3 1))])
    have A20 := A10.trans a21
    replace S19 : Sep G17 B [AL.box p3 [(Value.int .i64 (iadd .i64 x3 1))]] := S19
    refine DWp.region fun K hK => ?_
    simp [-aBin', -aBin, -aBinI, -aUn, -aNil, -flatV, n_fn, b_add, b_sub, b_mul, b_lt, b_le, b_gt, b_ge, b_eq, b_ne, u_not, q14, q15, q16, q18]
    apply hK
    clear hK K
    simp only [andThen, leaves]
    refine DWp.seq ?_
    refine DWp.region fun K hK => ?_
    simp [-aBin', -aBin, -aBinI, -aUn, -aNil, -flatV, n_fn, b_add, b_sub, b_mul, b_lt, b_le, b_gt, b_ge, b_eq, b_ne, u_not]
    apply hK
    clear hK K
    simp only [andThen, leaves]
    refine DWp.ret ?_
    simp only [andThen, leaves]
    obtain rfl := Option.some.inj hF
    exact ⟨by simp, [(Value.int .i64 x2), (Value.int .i64 x1)], by simp [], A20, rfl, S19.pick [0] (by decide) rfl⟩
  · replace hF := cd_f hb13 hF
    refine DWp.skip ?_
    simp only [andThen, leaves]
    refine DWp.seq ?_
    refine DWp.region fun K hK => ?_
    simp [-aBin', -aBin, -aBinI, -aUn, -aNil, -flatV, n_fn, b_add, b_sub, b_mul, b_lt, b_le, b_gt, b_ge, b_eq, b_ne, u_not]
    apply hK
    clear hK K
    simp only [andThen, leaves]
    refine DWp.ret ?_
    obtain rfl := Option.some.inj hF
    exact ⟨by simp, [(Value.int .i64 x1), (Value.int .i64 x2)], by simp [], A10, rfl, S9.pick [0] (by decide) rfl⟩
def F_slices_medianCmpFunc_Sint (fu : Nat) (x0 : List (List Int)) (x1 : Int) (x2 : Int) (x3 : Int) (x4 : Int) (x5 : (List Int) → (List Int) → Option (Int)) : Option (Int × Int) :=
  bd (F_slices_order2CmpFunc_Sint fu x0 x1 x2 x4 x5) fun r1 =>
  bd (F_slices_order2CmpFunc_Sint fu x0 r1.2.1 x3 r1.2.2 x5) fun r2 =>
  bd (F_slices_order2CmpFunc_Sint fu x0 r1.1 r2.1 r2.2.2 x5) fun r3 =>
  some (r3.2.1, r3.2.2)
theorem F_slices_medianCmpFunc_Sint_w {fu : Nat} {H : AH} {B : Nat → Prop} {v0 : Value} {p4 : Value} {f5 : FuncId} {c5 : List Value} {x0 : List (List Int)} {x1 : Int} {x2 : Int} {x3 : Int} {x4 : Int} {x5 : (List Int) → (List Int) → Option (Int)} {r : (Int × Int)} (hB : Up B H.length) (S0 : Sep H B [AL.box p4 [(Value.int .i64 x4)]]) (hx0 : RdB B H v0 (List.map ints x0)) (hx5 : ∀ (G : AH), AgB B H G → ∀ (v0 : Value) (v1 : Value) (y0 : List Int) (y1 : List Int) (q : (Int)), Sl G v0 (ints y0) → Sl G v1 (ints y1) → x5 y0 y1 = some q → ACallT Try.prog f5 ([v0, v1] ++ c5) G (fun u G' => AgB (Fr G) G G' ∧ u = (Value.int .i64 q) ∧ Sep G' (Fr G) [])) (hF : F_slices_medianCmpFunc_Sint fu x0 x1 x2 x3 x4 x5 = some r) :
    ACallT Try.prog 150 [v0, (Value.int .i64 x1), (Value.int .i64 x2), (Value.int .i64 x3), p4, (Value.func (.func f5) #[] c5.toArray)] H (fun u G => AgB B H G ∧ u = (Value.int .i64 r.1) ∧ Sep G B [AL.box p4 [(Value.int .i64 r.2)]]) := by
  refine ACallT.of_body (nt := 41) (rs := [.tmp 12]) Try.func150 rfl rfl rfl rfl ?_
  have A0 : AgB B H H := .refl _ _
  unfold F_slices_medianCmpFunc_Sint at hF
  obtain ⟨C0, hC0, hCv0, hCc0⟩ := hx0
  refine DWp.seq ?_
  refine DWp.region fun K hK => ?_
  simp [-aBin', -aBin, -aBinI, -aUn, -aNil, -flatV, n_fn, b_add, b_sub, b_mul, b_lt, b_le, b_gt, b_ge, b_eq, b_ne, u_not]
  apply hK
  clear hK K
  simp only [andThen, leaves]
  refine DWp.seq ?_
  obtain ⟨r1, hc1, hF⟩ := bd_some hF
  refine DWp.region fun K hK => ?_
  simp [-aBin', -aBin, -aBinI, -aUn, -aNil, -flatV, n_fn, b_add, b_sub, b_mul, b_lt, b_le, b_gt, b_ge, b_eq, b_ne, u_not, ((hC0.agr hCv0 hCc0 A0).tup), (S0.ptup (k := 0) rfl)]
  have S2 : Sep H B ([AL.box p4 [(Value.int .i64 x4)]] ++ []) := S0.pick [0] (by decide) rfl
  obtain ⟨B8, S3, U4, M5, R6, C7⟩ := S2.frame (hB.le A0.1)
  refine CallD.t (F_slices_order2CmpFunc_Sint_w (fu := fu) U4 S3 ⟨_, (hC0.agr hCv0 hCc0 A0), fun i_ hi_ hb_ => hCv0 i_ hi_ (M5 i_ hb_), fun c_ hc_ i_ hi_ hb_ => hCc0 c_ hc_ i_ hi_ (M5 i_ hb_)⟩ (fun G_ a_ => hx5 G_ (A0.trans (a_.mono M5))) hc1) ?_
  rintro _ G10 ⟨a13, rfl, S14⟩
  have A12 := A0.trans (a13.mono M5)
  have S11 : Sep G10 B [AL.box p4 [(Value.int .i64 r1.2.2)]] := C7 _ _ a13 S14
  simp [-aBin', -aBin, -aBinI, -aUn, -aNil, -flatV, n_fn, b_add, b_sub, b_mul, b_lt, b_le, b_gt, b_ge, b_eq, b_ne, u_not]
  apply hK
  clear hK K
  simp only [andThen, leaves]
  refine DWp.seq ?_
  obtain ⟨r2, hc15, hF⟩ := bd_some hF
  refine DWp.region fun K hK => ?_
  simp [-aBin', -aBin, -aBinI, -aUn, -aNil, -flatV, n_fn, b_add, b_sub, b_mul, b_lt, b_le, b_gt, b_ge, b_eq, b_ne, u_not, ((hC0.agr hCv0 hCc0 A12).tup), (S11.ptup (k := 0) rfl)]
  have S16 : Sep G10 B ([AL.box p4 [(Value.int .i64 r1.2.2)]] ++ []) := S11.pick [0] (by decide) rfl
  obtain ⟨B22, S17, U18, M19, R20, C21⟩ := S16.frame (hB.le A12.1)
  refine CallD.t (F_slices_order2CmpFunc_Sint_w (fu := fu) U18 S17 ⟨_, (hC0.agr hCv0 hCc0 A12), fun i_ hi_ hb_ => hCv0 i_ hi_ (M19 i_ hb_), fun c_ hc_ i_ hi_ hb_ => hCc0 c_ hc_ i_ hi_ (M19 i_ hb_)⟩ (fun G_ a_ => hx5 G_ (A12.trans (a_.mono M19))) hc15) ?_
  rintro _ G24 ⟨a27, rfl, S28⟩
  have A26 := A12.trans (a27.mono M19)
  have S25 : Sep G24 B [AL.box p4 [(Value.int .i64 r2.2.2)]] := C21 _ _ a27 S28
  simp [-aBin', -aBin, -aBinI, -aUn, -aNil, -flatV, n_fn, b_add, b_sub, b_mul, b_lt, b_le, b_gt, b_ge, b_eq, b_ne, u_not]
  apply hK
  clear hK K
  simp only [andThen, leaves]
  refine DWp.seq ?_
  obtain ⟨r3, hc29, hF⟩ := bd_some hF
  refine DWp.region fun K hK => ?_
  simp [-aBin', -aBin, -aBinI, -aUn, -aNil, -flatV, n_fn, b_add, b_sub, b_mul, b_lt, b_le, b_gt, b_ge, b_eq, b_ne, u_not, ((hC0.agr hCv0 hCc0 A26).tup), (S25.ptup (k := 0) rfl)]
  have S30 : Sep G24 B ([AL.box p4 [(Value.int .i64 r2.2.2)]] ++ []) := S25.pick [0] (by decide) rfl
  obtain ⟨B36, S31, U32, M33, R34, C35⟩ := S30.frame (hB.le A26.1)
  refine CallD.t (F_slices_order2CmpFunc_Sint_w (fu := fu) U32 S31 ⟨_, (hC0.agr hCv0 hCc0 A26), fun i_ hi_ hb_ => hCv0 i_ hi_ (M33 i_ hb_), fun c_ hc_ i_ hi_ hb_ => hCc0 c_ hc_ i_ hi_ (M33 i_ hb_)⟩ (fun G_ a_ => hx5 G_ (A26.trans (a_.mono M33))) hc29) ?_
  rintro _ G38 ⟨a41, rfl, S42⟩
  have A40 := A26.trans (a41.mono M33)
  have S39 : Sep G38 B [AL.box p4 [(Value.int .i64 r3.2.2)]] := C35 _ _ a41 S42
  simp [-aBin', -aBin, -aBinI, -aUn, -aNil, -flatV, n_fn, b_add, b_sub, b_mul, b_lt, b_le, b_gt, b_ge, b_eq, b_ne, u_not]
  apply hK
  clear hK K
  simp only [andThen, leaves]
  refine DWp.seq ?_
  refine DWp.region fun K hK => ?_
  simp [-aBin', -aBin, -aBinI, -aUn, -aNil, -flatV, n_fn, b_add, b_sub, b_mul, b_lt, b_le, b_gt, b_ge, b_eq, b_ne, u_not]
  apply hK
  clear hK K
  simp only [andThen, leaves]
  refine DWp.ret ?_
  obtain rfl := Option.some.inj hF
  exact ⟨by simp, [(Value.int .i64 r3.2.1)], by simp [], A40, rfl, S39.pick [0] (by decide) rfl⟩
def F_slices_medianAdjacentCmpFunc_Sint (fu : Nat) (x0 : List (List Int)) (x1 : Int) (x2 : Int) (x3 : (List Int) → (List Int) → Option (Int)) : Option (Int × Int) :=
  bd (F_slices_medianCmpFunc_Sint fu x0 (isub .i64 x1 1) x1 (iadd .i64 x1 1) x2 x3) fun r1 =>
  some (r1.1, r1.2)
theorem F_slices_medianAdjacentCmpFunc_Sint_w {fu : Nat} {H : AH} {B : Nat → Prop} {v0 : Value} {p2 : Value} {f3 : FuncId} {c3 : List Value} {x0 : List (List Int)} {x1 : Int} {x2 : Int} {x3 : (List Int) → (List Int) → Option (Int)} {r : (Int × Int)} (hB : Up B H.length) (S0 : Sep H B [AL.box p2 [(Value.int .i64 x2)]]) (hx0 : RdB B H v0 (List.map ints x0)) (hx3 : ∀ (G : AH), AgB B H G → ∀ (v0 : Value) (v1 : Value) (y0 : List Int) (y1 : List Int) (q : (Int)), Sl G v0 (ints y0) → Sl G v1 (ints y1) → x3 y0 y1 = some q → ACallT Try.prog f3 ([v0, v1] ++ c3) G (fun u G' => AgB (Fr G) G G' ∧ u = (Value.int .i64 q) ∧ Sep G' (Fr G) [])) (hF : F_slices_medianAdjacentCmpFunc_Sint fu x0 x1 x2 x3 = some r) :
    ACallT Try.prog 149 [v0, (Value.int .i64 x1), p2, (Value.func (.func f3) #[] c3.toArray)] H (fun u G => AgB B H G ∧ u = (Value.int .i64 r.1) ∧ Sep G B [AL.box p2 [(Value.int .i64 r.2)]]) := by
  refine ACallT.of_body (nt := 18) (rs := [.tmp 8]) Try.func149 rfl rfl rfl rfl ?_
  have A0 : AgB B H H := .refl _ _
  unfold F_slices_medianAdjacentCmpFunc_Sint at hF
  obtain ⟨C0, hC0, hCv0, hCc0⟩ := hx0
  refine DWp.seq ?_
  refine DWp.region fun K hK => ?_
  simp [-aBin', -aBin, -aBinI, -aUn, -aNil, -flatV, n_fn, b_add, b_sub, b_mul, b_lt, b_le, b_gt, b_ge, b_eq, b_ne, u_not]
  apply hK
  clear hK K
  simp only [andThen, leaves]
  refine DWp.seq ?_
  obtain ⟨r1, hc1, hF⟩ := bd_some hF
  refine DWp.region fun K hK => ?_
  simp [-aBin', -aBin, -aBinI, -aUn, -aNil, -flatV, n_fn, b_add, b_sub, b_mul, b_lt, b_le, b_gt, b_ge, b_eq, b_ne, u_not, ((hC0.agr hCv0 hCc0 A0).tup), (S0.ptup (k := 0) rfl)]
  have S2 : Sep H B ([AL.box p2 [(Value.int .i64 x2)]] ++ []) := S0.pick [0] (by decide) rfl
  obtain ⟨B8, S3, U4, M5, R6, C7⟩ := S2.frame (hB.le A0.1)
  refine CallD.t (F_slices_medianCmpFunc_Sint_w (fu := fu) U4 S3 ⟨_, (hC0.agr hCv0 hCc0 A0), fun i_ hi_ hb_ => hCv0 i_ hi_ (M5 i_ hb_), fun c_ hc_ i_ hi_ hb_ => hCc0 c_ hc_ i_ hi_ (M5 i_ hb_)⟩ (fun G_ a_ => hx3 G_ (A0.trans (a_.mono M5))) hc1) ?_
  rintro _ G10 ⟨a13, rfl, S14⟩
  have A12 := A0.trans (a13.mono M5)
  have S11 : Sep G10 B [AL.box p2 [(Value.int .i64 r1.2)]] := C7 _ _ a13 S14
  simp [-aBin', -aBin, -aBinI, -aUn, -aNil, -flatV, n_fn, b_add, b_sub, b_mul, b_lt, b_le, b_gt, b_ge, b_eq, b_ne, u_not]
  apply hK
  clear hK K
  simp only [andThen, leaves]
  refine DWp.ret ?_
  obtain rfl := Option.some.inj hF
  exact ⟨by simp, [(Value.int .i64 r1.1)], by simp [], A12, rfl, S11.pick [0] (by decide) rfl⟩
end Go.Proofs.Ytdghlhdpcmemjaa.AL

/- The walks of functions, each with its Lean function: slices.breakPatternsOrdered[string], slices.order2Ordered[string], slices.medianOrdered[string], slices.medianAdjacentOrdered[string], slices.choosePivotOrdered[string], slices.reverseRangeOrdered[string], slices.partialInsertionSortOrdered[string], slices.partitionEqualOrdered[string], slices.partitionOrdered[string], slices.pdqsortOrdered[string]. No condition. -/
import Derived.Test.YtbckijeffiofdaaG1
import Derived.Test.YtbckijeffiofdaaG10
import Derived.Test.YtbckijeffiofdaaG11
import Derived.Test.YtbckijeffiofdaaG12
import Derived.Test.YtbckijeffiofdaaG13
import Derived.Test.YtbckijeffiofdaaG2
import Derived.Test.YtbckijeffiofdaaG3
import Derived.Test.YtbckijeffiofdaaG4
import Derived.Test.YtbckijeffiofdaaG5
import Derived.Test.YtbckijeffiofdaaG6
import Derived.Test.YtbckijeffiofdaaG7
import Derived.Test.YtbckijeffiofdaaG8
import Derived.Test.YtbckijeffiofdaaG9
import Derived.Test.YtbckijeffiofdaaALD
import Derived.Test.YtbckijeffiofdaaProg
import Derived.KernelRfl
namespace Go.Proofs.Ytbckijeffiofdaa.AL
open Go Go.RowKit
set_option linter.unusedVariables false
set_option linter.unusedSimpArgs false
set_option maxRecDepth 4096

def F_slices_breakPatternsOrdered_string_L1 (fu : Nat) (k1_0 : Int) (k1_1 : Int) (k1_2 : Int) : Nat → List ByteArray → Int → Int → Option (List ByteArray × Int × Int)
  | 0, _, _, _ => none
  | n + 1, l1_0, b1_1_0, y1_9 =>
    bif (ile y1_9 (iadd .i64 (iadd .i64 k1_0 (imul .i64 (iquo .i64 k1_1 4) 2)) 1)) then
      bd (F_slices_xorshift_Next fu b1_1_0) fun r2 =>
      bif (ile k1_1 (iwr .i64 (iand .u64 r2.1 (isub .u64 k1_2 1)))) then
        gd (inL l1_0 (iadd .i64 k1_0 (isub .i64 (iwr .i64 (iand .u64 r2.1 (isub .u64 k1_2 1))) k1_1))) (
        gd (inL l1_0 y1_9) (
        gd (inL l1_0 y1_9) (
        gd (inL (lset l1_0 y1_9 (gat (ByteArray.mk #[]) l1_0 (iadd .i64 k1_0 (isub .i64 (iwr .i64 (iand .u64 r2.1 (isub .u64 k1_2 1))) k1_1)))) (iadd .i64 k1_0 (isub .i64 (iwr .i64 (iand .u64 r2.1 (isub .u64 k1_2 1))) k1_1))) (
        F_slices_breakPatternsOrdered_string_L1 fu k1_0 k1_1 k1_2 n (lset (lset l1_0 y1_9 (gat (ByteArray.mk #[]) l1_0 (iadd .i64 k1_0 (isub .i64 (iwr .i64 (iand .u64 r2.1 (isub .u64 k1_2 1))) k1_1)))) (iadd .i64 k1_0 (isub .i64 (iwr .i64 (iand .u64 r2.1 (isub .u64 k1_2 1))) k1_1)) (gat (ByteArray.mk #[]) l1_0 y1_9)) r2.2 (iadd .i64 y1_9 1)))))
      else
        gd (inL l1_0 (iadd .i64 k1_0 (iwr .i64 (iand .u64 r2.1 (isub .u64 k1_2 1))))) (
        gd (inL l1_0 y1_9) (
        gd (inL l1_0 y1_9) (
        gd (inL (lset l1_0 y1_9 (gat (ByteArray.mk #[]) l1_0 (iadd .i64 k1_0 (iwr .i64 (iand .u64 r2.1 (isub .u64 k1_2 1)))))) (iadd .i64 k1_0 (iwr .i64 (iand .u64 r2.1 (isub .u64 k1_2 1))))) (
        F_slices_breakPatternsOrdered_string_L1 fu k1_0 k1_1 k1_2 n (lset (lset l1_0 y1_9 (gat (ByteArray.mk #[]) l1_0 (iadd .i64 k1_0 (iwr .i64 (iand .u64 r2.1 (isub .u64 k1_2 1)))))) (iadd .i64 k1_0 (iwr .i64 (iand .u64 r2.1 (isub .u64 k1_2 1)))) (gat (ByteArray.mk #[]) l1_0 y1_9)) r2.2 (iadd .i64 y1_9 1)))))
    else
      some (l1_0, b1_1_0, y1_9)
def F_slices_breakPatternsOrdered_string (fu : Nat) (x0 : List ByteArray) (x1 : Int) (x2 : Int) : Option (List ByteArray) :=
  bif (ile 8 (isub .i64 x2 x1)) then
    bd (F_slices_nextPowerOfTwo fu (isub .i64 x2 x1)) fun r1 =>
    bd (F_slices_breakPatternsOrdered_string_L1 fu x1 (isub .i64 x2 x1) r1 fu x0 (iwr .u64 (isub .i64 x2 x1)) (isub .i64 (iadd .i64 x1 (imul .i64 (iquo .i64 (isub .i64 x2 x1) 4) 2)) 1)) fun s1 =>
    some s1.1
  else
    some x0
theorem F_slices_breakPatternsOrdered_string_w {fu : Nat} {H : AH} {B : Nat → Prop} {v0 : Value} {x0 : List ByteArray} {x1 : Int} {x2 : Int} {r : (List ByteArray)} (hB : Up B H.length) (S0 : Sep H B [flat v0 9 (strs x0)]) (hF : F_slices_breakPatternsOrdered_string fu x0 x1 x2 = some r) :
    ACallT Try.prog 167 [v0, (Value.int .i64 x1), (Value.int .i64 x2)] H (fun u G => AgB B H G ∧ u = (Value.tuple #[]) ∧ Sep G B [flat v0 9 (strs r)]) := by
  refine ACallT.of_body (nt := 65) (rs := []) Try.func167 rfl rfl rfl rfl ?_
  have A0 : AgB B H H := .refl _ _
  unfold F_slices_breakPatternsOrdered_string at hF
  refine DWp.seq ?_
  refine DWp.region fun K hK => ?_
  simp [-aBin', -aBin, -aBinI, -aUn, -aNil, -flatV, n_fn, b_add, b_sub, b_mul, b_lt, b_le, b_gt, b_ge, b_eq, b_ne, u_not]
  apply hK
  clear hK K
  simp only [andThen, leaves]
  refine DWp.seq ?_
  refine DWp.region fun K hK => ?_
  simp [-aBin', -aBin, -aBinI, -aUn, -aNil, -flatV, n_fn, b_add, b_sub, b_mul, b_lt, b_le, b_gt, b_ge, b_eq, b_ne, u_not]
  apply hK
  clear hK K
  simp only [andThen, leaves]
  refine DWp.cond' (t := (ile 8 (isub .i64 x2 x1))) (by simp []) (fun hb1 => ?_) (fun hb1 => ?_)
  · replace hF := cd_t hb1 hF
    refine DWp.seq ?_
    obtain ⟨G3, p5, q6, q8, a7, S2⟩ := S0.allocT (P := Try.prog) (hB.le A0.1) ze_138 rfl
    have A4 := A0.ext (hB.le A0.1) a7
    replace S2 : Sep G3 B [flat v0 9 (strs x0), AL.box p5 [(Value.int .u64 0)]] := S2
    obtain ⟨G9, q10, S11, a13⟩ := S2.put0 (P := Try.prog) (k := 1) rfl (hB.le A4.1) sz_138 (rfl : isTup (Value.int .u64 (iwr .u64 (isub .i64 x2 x1))) = false) (rfl : (Value.int .u64 (iwr .u64 (isub .i64 x2 x1))).cells = #[(Value.int .u64 (iwr .u64 (isub .i64 x2 x1)))])
    have A12 := A4.trans a13
    replace S11 : Sep G9 B [flat v0 9 (strs x0), AL.box p5 [(Value.int .u64 (iwr .u64 (isub .i64 x2 x1)))]] := S11
    refine DWp.region fun K hK => ?_
    simp [-aBin', -aBin, -aBinI, -aUn, -aNil, -flatV, n_fn, b_add, b_sub, b_mul, b_lt, b_le, b_gt, b_ge, b_eq, b_ne, u_not, c_int un_3 un_138, q6, q8, a7.to_pre, q10]
    apply hK
    clear hK K
    simp only [andThen, leaves]
    refine DWp.seq ?_
    obtain ⟨r1, hc14, hF⟩ := bd_some hF
    refine DWp.region fun K hK => ?_
    simp [-aBin', -aBin, -aBinI, -aUn, -aNil, -flatV, n_fn, b_add, b_sub, b_mul, b_lt, b_le, b_gt, b_ge, b_eq, b_ne, u_not]
    refine CallD.t (F_slices_nextPowerOfTwo_w (fu := fu)  hc14) ?_
    rintro _ G16 ⟨a19, rfl, S20⟩
    have A18 := A12.ext (hB.le A12.1) a19.agree
    have S17 : Sep G16 B [flat v0 9 (strs x0), AL.box p5 [(Value.int .u64 (iwr .u64 (isub .i64 x2 x1)))]] := S11.app a19.agree S20 (fun _ h => h) (hB.le A12.1)
    simp [-aBin', -aBin, -aBinI, -aUn, -aNil, -flatV, n_fn, b_add, b_sub, b_mul, b_lt, b_le, b_gt, b_ge, b_eq, b_ne, u_not, a19.pre]
    apply hK
    clear hK K
    simp only [andThen, leaves]
    refine DWp.seq ?_
    have g21 : (4 : Int) ≠ 0 := by decide
    refine DWp.region fun K hK => ?_
    simp [-aBin', -aBin, -aBinI, -aUn, -aNil, -flatV, n_fn, b_add, b_sub, b_mul, b_lt, b_le, b_gt, b_ge, b_eq, b_ne, u_not, b_quo g21]
    apply hK
    clear hK K
    simp only [andThen, leaves]
    refine DWp.block ?_
    obtain ⟨s22, hL23, hF⟩ := bd_some hF
    have S24 := S17.pick [0, 1] (by decide) rfl
    refine DWp.loop (fun n env G => ∃ l1_0 : List ByteArray, ∃ b1_1_0 : Int, ∃ y1_9 : Int, F_slices_breakPatternsOrdered_string_L1 fu x1 (isub .i64 x2 x1) r1 n l1_0 b1_1_0 y1_9 = some s22 ∧ Sep G B [flat v0 9 (strs l1_0), AL.box p5 [(Value.int .u64 b1_1_0)]] ∧ AgB B H G ∧ env 0 = some v0 ∧ env 1 = some (Value.int .i64 x1) ∧ env 6 = some (Value.int .i64 (isub .i64 x2 x1)) ∧ env 7 = some p5 ∧ env 8 = some (Value.int .u64 r1) ∧ env 9 = some (Value.int .i64 y1_9)) fu ⟨x0, (iwr .u64 (isub .i64 x2 x1)), (isub .i64 (iadd .i64 x1 (imul .i64 (iquo .i64 (isub .i64 x2 x1) 4) 2)) 1), hL23, S24, A18, by simp [], by simp [], by simp [], by simp [], by simp [], by simp []⟩ ?_
    rintro n1 env1 G1_ ⟨l1_0, b1_1_0, y1_9, hL23, S1_, A1_, e1_0, e1_1, e1_6, e1_7, e1_8, e1_9⟩
    cases n1 with
    | zero => cases hL23
    | succ n1 =>
      simp only [F_slices_breakPatternsOrdered_string_L1] at hL23
      refine DWp.seq ?_
      refine DWp.seq ?_
      have g25 : (4 : Int) ≠ 0 := by decide
      refine DWp.region fun K hK => ?_
      simp [-aBin', -aBin, -aBinI, -aUn, -aNil, -flatV, n_fn, b_add, b_sub, b_mul, b_lt, b_le, b_gt, b_ge, b_eq, b_ne, u_not, e1_0, e1_1, e1_6, e1_7, e1_8, e1_9, b_quo g25]
      apply hK
      clear hK K
      simp only [andThen, leaves]
      refine DWp.cond' (t := (ile y1_9 (iadd .i64 (iadd .i64 x1 (imul .i64 (iquo .i64 (isub .i64 x2 x1) 4) 2)) 1))) (by simp [e1_0, e1_1, e1_6, e1_7, e1_8, e1_9]) (fun hb26 => ?_) (fun hb26 => ?_)
      · replace hL23 := cd_t hb26 hL23
        refine DWp.skip ?_
        simp only [andThen, leaves]
        refine DWp.seq ?_
        refine DWp.block ?_
        refine DWp.seq ?_
        obtain ⟨r2, hc27, hL23⟩ := bd_some hL23
        refine DWp.region fun K hK => ?_
        simp [-aBin', -aBin, -aBinI, -aUn, -aNil, -flatV, n_fn, b_add, b_sub, b_mul, b_lt, b_le, b_gt, b_ge, b_eq, b_ne, u_not, e1_0, e1_1, e1_6, e1_7, e1_8, e1_9, (S1_.ptup (k := 1) rfl)]
        have S28 : Sep G1_ B ([AL.box p5 [(Value.int .u64 b1_1_0)]] ++ [flat v0 9 (strs l1_0)]) := S1_.pick [1, 0] (by decide) rfl
        obtain ⟨B34, S29, U30, M31, R32, C33⟩ := S28.frame (hB.le A1_.1)
        refine CallD.t (F_slices_xorshift_Next_w (fu := fu) U30 S29 hc27) ?_
        rintro _ G36 ⟨a39, rfl, S40⟩
        have A38 := A1_.trans (a39.mono M31)
        have S37 : Sep G36 B [AL.box p5 [(Value.int .u64 r2.2)], flat v0 9 (strs l1_0)] := C33 _ _ a39 S40
        simp [-aBin', -aBin, -aBinI, -aUn, -aNil, -flatV, n_fn, b_add, b_sub, b_mul, b_lt, b_le, b_gt, b_ge, b_eq, b_ne, u_not, e1_0, e1_1, e1_6, e1_7, e1_8, e1_9, b_and, c_int un_114 un_3]
        apply hK
        clear hK K
        simp only [andThen, leaves]
        refine DWp.seq ?_
        refine DWp.seq ?_
        refine DWp.region fun K hK => ?_
        simp [-aBin', -aBin, -aBinI, -aUn, -aNil, -flatV, n_fn, b_add, b_sub, b_mul, b_lt, b_le, b_gt, b_ge, b_eq, b_ne, u_not, e1_0, e1_1, e1_6, e1_7, e1_8, e1_9]
        apply hK
        clear hK K
        simp only [andThen, leaves]
        refine DWp.cond' (t := (ile (isub .i64 x2 x1) (iwr .i64 (iand .u64 r2.1 (isub .u64 r1 1))))) (by simp [e1_0, e1_1, e1_6, e1_7, e1_8, e1_9]) (fun hb41 => ?_) (fun hb41 => ?_)
        · replace hL23 := cd_t hb41 hL23
          refine DWp.region fun K hK => ?_
          simp [-aBin', -aBin, -aBinI, -aUn, -aNil, -flatV, n_fn, b_add, b_sub, b_mul, b_lt, b_le, b_gt, b_ge, b_eq, b_ne, u_not, e1_0, e1_1, e1_6, e1_7, e1_8, e1_9]
          apply hK
          clear hK K
          simp only [andThen, leaves]
          obtain ⟨g42, hL23⟩ := gd_some hL23
          have q43 := idxG (P := Try.prog) (kk := .i64) (S37.sl (k := 1) rfl) el_59 sz_9 g42
          have q44 := loadG (P := Try.prog) (S37.sl (k := 1) rfl) sz_9 ag_9 g42 (ByteArray.mk #[])
          obtain ⟨g45, hL23⟩ := gd_some hL23
          have q46 := idxG (P := Try.prog) (kk := .i64) (S37.sl (k := 1) rfl) el_59 sz_9 g45
          have q47 := loadG (P := Try.prog) (S37.sl (k := 1) rfl) sz_9 ag_9 g45 (ByteArray.mk #[])
          obtain ⟨g48, hL23⟩ := gd_some hL23
          have q49 := idxG (P := Try.prog) (kk := .i64) (S37.sl (k := 1) rfl) el_59 sz_9 g48
          obtain ⟨G50, q51, S52, a54⟩ := S37.storeG (f := Value.string) (P := Try.prog) (k := 1) (x := (gat (ByteArray.mk #[]) l1_0 (iadd .i64 x1 (isub .i64 (iwr .i64 (iand .u64 r2.1 (isub .u64 r1 1))) (isub .i64 x2 x1))))) rfl (hB.le A38.1) sz_9 g48 rfl rfl
          have A53 := A38.trans a54
          replace S52 : Sep G50 B [AL.box p5 [(Value.int .u64 r2.2)], flat v0 9 (strs (lset l1_0 y1_9 (gat (ByteArray.mk #[]) l1_0 (iadd .i64 x1 (isub .i64 (iwr .i64 (iand .u64 r2.1 (isub .u64 r1 1))) (isub .i64 x2 x1))))))] := S52
          obtain ⟨g55, hL23⟩ := gd_some hL23
          have q56 := idxG (P := Try.prog) (kk := .i64) (S52.sl (k := 1) rfl) el_59 sz_9 g55
          obtain ⟨G57, q58, S59, a61⟩ := S52.storeG (f := Value.string) (P := Try.prog) (k := 1) (x := (gat (ByteArray.mk #[]) l1_0 y1_9)) rfl (hB.le A53.1) sz_9 g55 rfl rfl
          have A60 := A53.trans a61
          replace S59 : Sep G57 B [AL.box p5 [(Value.int .u64 r2.2)], flat v0 9 (strs (lset (lset l1_0 y1_9 (gat (ByteArray.mk #[]) l1_0 (iadd .i64 x1 (isub .i64 (iwr .i64 (iand .u64 r2.1 (isub .u64 r1 1))) (isub .i64 x2 x1))))) (iadd .i64 x1 (isub .i64 (iwr .i64 (iand .u64 r2.1 (isub .u64 r1 1))) (isub .i64 x2 x1))) (gat (ByteArray.mk #[]) l1_0 y1_9)))] := S59
          refine DWp.drawn (B := [0, 0, 0, 0, 0, 24, 0, 0, 0, 384, 960, 1984, 0, 0, 12288, 28672, 65475, 131011, 262143, 524287]) 17 mixed (by kernel_rfl) (by decide) fun K hK => ?_
          simp [-aBin', -aBin, -aBinI, -aUn, -aNil, -flatV, n_fn, b_add, b_sub, b_mul, b_lt, b_le, b_gt, b_ge, b_eq, b_ne, u_not, e1_0, e1_1, e1_6, e1_7, e1_8, e1_9, q43, q44, q46, q47, q49, q51, q56, q58]
          apply hK
          clear hK K
          simp only [andThen, leaves]
          refine DWp.region fun K hK => ?_
          simp [-aBin', -aBin, -aBinI, -aUn, -aNil, -flatV, n_fn, b_add, b_sub, b_mul, b_lt, b_le, b_gt, b_ge, b_eq, b_ne, u_not, e1_0, e1_1, e1_6, e1_7, e1_8, e1_9]
          apply hK
          clear hK K
          simp only [andThen, leaves]
          have S62 := S59.pick [1, 0] (by decide) rfl
          exact ⟨n1, Nat.lt_succ_self _, (lset (lset l1_0 y1_9 (gat (ByteArray.mk #[]) l1_0 (iadd .i64 x1 (isub .i64 (iwr .i64 (iand .u64 r2.1 (isub .u64 r1 1))) (isub .i64 x2 x1))))) (iadd .i64 x1 (isub .i64 (iwr .i64 (iand .u64 r2.1 (isub .u64 r1 1))) (isub .i64 x2 x1))) (gat (ByteArray.mk #[]) l1_0 y1_9)), r2.2, (iadd .i64 y1_9 1), hL23, S62, A60, by simp [e1_0, e1_1, e1_6, e1_7, e1_8, e1_9], by simp [e1_0, e1_1, e1_6, e1_7, e1_8, e1_9], by simp [e1_0, e1_1, e1_6, e1_7, e1_8, e1_9], by simp [e1_0, e1_1, e1_6, e1_7, e1_8, e1_9], by simp [e1_0, e1_1, e1_6, e1_7, e1_8, e1_9], by simp [e1_0, e1_1, e1_6, e1_7, e1_8, e1_9]⟩
        · replace hL23 := cd_f hb41 hL23
          refine DWp.skip ?_
          simp only [andThen, leaves]
          obtain ⟨g63, hL23⟩ := gd_some hL23
          have q64 := idxG (P := Try.prog) (kk := .i64) (S37.sl (k := 1) rfl) el_59 sz_9 g63
          have q65 := loadG (P := Try.prog) (S37.sl (k := 1) rfl) sz_9 ag_9 g63 (ByteArray.mk #[])
          obtain ⟨g66, hL23⟩ := gd_some hL23
          have q67 := idxG (P := Try.prog) (kk := .i64) (S37.sl (k := 1) rfl) el_59 sz_9 g66
          have q68 := loadG (P := Try.prog) (S37.sl (k := 1) rfl) sz_9 ag_9 g66 (ByteArray.mk #[])
          obtain ⟨g69, hL23⟩ := gd_some hL23
          have q70 := idxG (P := Try.prog) (kk := .i64) (S37.sl (k := 1) rfl) el_59 sz_9 g69
          obtain ⟨G71, q72, S73, a75⟩ := S37.storeG (f := Value.string) (P := Try.prog) (k := 1) (x := (gat (ByteArray.mk #[]) l1_0 (iadd .i64 x1 (iwr .i64 (iand .u64 r2.1 (isub .u64 r1 1)))))) rfl (hB.le A38.1) sz_9 g69 rfl rfl
          have A74 := A38.trans a75
          replace S73 : Sep G71 B [AL.box p5 [(Value.int .u64 r2.2)], flat v0 9 (strs (lset l1_0 y1_9 (gat (ByteArray.mk #[]) l1_0 (iadd .i64 x1 (iwr .i64 (iand .u64 r2.1 (isub .u64 r1 1)))))))] := S73
          obtain ⟨g76, hL23⟩ := gd_some hL23
          have q77 := idxG (P := Try.prog) (kk := .i64) (S73.sl (k := 1) rfl) el_59 sz_9 g76
          obtain ⟨G78, q79, S80, a82⟩ := S73.storeG (f := Value.string) (P := Try.prog) (k := 1) (x := (gat (ByteArray.mk #[]) l1_0 y1_9)) rfl (hB.le A74.1) sz_9 g76 rfl rfl
          have A81 := A74.trans a82
          replace S80 : Sep G78 B [AL.box p5 [(Value.int .u64 r2.2)], flat v0 9 (strs (lset (lset l1_0 y1_9 (gat (ByteArray.mk #[]) l1_0 (iadd .i64 x1 (iwr .i64 (iand .u64 r2.1 (isub .u64 r1 1)))))) (iadd .i64 x1 (iwr .i64 (iand .u64 r2.1 (isub .u64 r1 1)))) (gat (ByteArray.mk #[]) l1_0 y1_9)))] := S80
          refine DWp.drawn (B := [0, 0, 0, 0, 0, 24, 0, 0, 0, 384, 960, 1984, 0, 0, 12288, 28672, 65475, 131011, 262143, 524287]) 17 mixed (by kernel_rfl) (by decide) fun K hK => ?_
          simp [-aBin', -aBin, -aBinI, -aUn, -aNil, -flatV, n_fn, b_add, b_sub, b_mul, b_lt, b_le, b_gt, b_ge, b_eq, b_ne, u_not, e1_0, e1_1, e1_6, e1_7, e1_8, e1_9, q64, q65, q67, q68, q70, q72, q77, q79]
          apply hK
          clear hK K
          simp only [andThen, leaves]
          refine DWp.region fun K hK => ?_
          simp [-aBin', -aBin, -aBinI, -aUn, -aNil, -flatV, n_fn, b_add, b_sub, b_mul, b_lt, b_le, b_gt, b_ge, b_eq, b_ne, u_not, e1_0, e1_1, e1_6, e1_7, e1_8, e1_9]
          apply hK
          clear hK K
          simp only [andThen, leaves]
          have S83 := S80.pick [1, 0] (by decide) rfl
          exact ⟨n1, Nat.lt_succ_self _, (lset (lset l1_0 y1_9 (gat (ByteArray.mk #[]) l1_0 (iadd .i64 x1 (iwr .i64 (iand .u64 r2.1 (isub .u64 r1 1)))))) (iadd .i64 x1 (iwr .i64 (iand .u64 r2.1 (isub .u64 r1 1)))) (gat (ByteArray.mk #[]) l1_0 y1_9)), r2.2, (iadd .i64 y1_9 1), hL23, S83, A81, by simp [e1_0, e1_1, e1_6, e1_7, e1_8, e1_9], by simp [e1_0, e1_1, e1_6, e1_7, e1_8, e1_9], by simp [e1_0, e1_1, e1_6, e1_7, e1_8, e1_9], by simp [e1_0, e1_1, e1_6, e1_7, e1_8, e1_9], by simp [e1_0, e1_1, e1_6, e1_7, e1_8, e1_9], by simp [e1_0, e1_1, e1_6, e1_7, e1_8, e1_9]⟩
      · replace hL23 := cd_f hb26 hL23
        refine DWp.exit ?_
        simp only [andThen, leaves, if_true, if_false, reduceIte, Nat.reduceEqDiff]
        obtain rfl := Option.some.inj hL23
        try dsimp only at hF
        obtain rfl := Option.some.inj hF
        exact ⟨by simp, [], by simp [e1_0, e1_1, e1_6, e1_7, e1_8, e1_9], A1_, rfl, S1_.pick [0] (by decide) rfl⟩
  · replace hF := cd_f hb1 hF
    refine DWp.skip ?_
    obtain rfl := Option.some.inj hF
    exact ⟨by simp, [], by simp [], A0, rfl, S0.pick [0] (by decide) rfl⟩
def F_slices_order2Ordered_string (fu : Nat) (x0 : List ByteArray) (x1 : Int) (x2 : Int) (x3 : Int) : Option (Int × Int × Int) :=
  gd (inL x0 x2) (
  gd (inL x0 x1) (
  bd (F_cmp_Less_string fu (gat (ByteArray.mk #[]) x0 x2) (gat (ByteArray.mk #[]) x0 x1)) fun r1 =>
  bif r1 then
    some (x2, x1, (iadd .i64 x3 1))
  else
    some (x1, x2, x3)))
theorem F_slices_order2Ordered_string_w {fu : Nat} {H : AH} {B : Nat → Prop} {v0 : Value} {p3 : Value} {x0 : List ByteArray} {x1 : Int} {x2 : Int} {x3 : Int} {r : (Int × Int × Int)} (hB : Up B H.length) (S0 : Sep H B [AL.box p3 [(Value.int .i64 x3)]]) (hx0 : Sl H v0 (strs x0)) (hdx0 : ∀ i, idOf v0 = some i → ¬ B i) (hF : F_slices_order2Ordered_string fu x0 x1 x2 x3 = some r) :
    ACallT Try.prog 197 [v0, (Value.int .i64 x1), (Value.int .i64 x2), p3] H (fun u G => AgB B H G ∧ u = (Value.tuple #[(Value.int .i64 r.1), (Value.int .i64 r.2.1)]) ∧ Sep G B [AL.box p3 [(Value.int .i64 r.2.2)]]) := by
  refine ACallT.of_body (nt := 28) (rs := [.tmp 8, .tmp 9]) Try.func197 rfl rfl rfl rfl ?_
  have A0 : AgB B H H := .refl _ _
  unfold F_slices_order2Ordered_string at hF
  refine DWp.seq ?_
  refine DWp.region fun K hK => ?_
  simp [-aBin', -aBin, -aBinI, -aUn, -aNil, -flatV, n_fn, b_add, b_sub, b_mul, b_lt, b_le, b_gt, b_ge, b_eq, b_ne, u_not]
  apply hK
  clear hK K
  simp only [andThen, leaves]
  refine DWp.seq ?_
  refine DWp.seq ?_
  obtain ⟨g1, hF⟩ := gd_some hF
  have q2 := idxG (P := Try.prog) (kk := .i64) (hx0.agr A0 hdx0) el_59 sz_9 g1
  have q3 := loadG (P := Try.prog) (hx0.agr A0 hdx0) sz_9 ag_9 g1 (ByteArray.mk #[])
  obtain ⟨g4, hF⟩ := gd_some hF
  have q5 := idxG (P := Try.prog) (kk := .i64) (hx0.agr A0 hdx0) el_59 sz_9 g4
  have q6 := loadG (P := Try.prog) (hx0.agr A0 hdx0) sz_9 ag_9 g4 (ByteArray.mk #[])
  obtain ⟨r1, hc7, hF⟩ := bd_some hF
  refine DWp.drawn (B := [0, 0, 3, 7, 0, 0, 48, 112, 255]) 9 mixed (by kernel_rfl) (by decide) fun K hK => ?_
  simp [-aBin', -aBin, -aBinI, -aUn, -aNil, -flatV, n_fn, b_add, b_sub, b_mul, b_lt, b_le, b_gt, b_ge, b_eq, b_ne, u_not, q2, q3, q5, q6]
  refine CallD.t (F_cmp_Less_string_w (fu := fu)  hc7) ?_
  rintro _ G9 ⟨a12, rfl, S13⟩
  have A11 := A0.ext (hB.le A0.1) a12.agree
  have S10 : Sep G9 B [AL.box p3 [(Value.int .i64 x3)]] := S0.app a12.agree S13 (fun _ h => h) (hB.le A0.1)
  simp [-aBin', -aBin, -aBinI, -aUn, -aNil, -flatV, n_fn, b_add, b_sub, b_mul, b_lt, b_le, b_gt, b_ge, b_eq, b_ne, u_not, q2, q3, q5, q6, a12.pre]
  apply hK
  clear hK K
  simp only [andThen, leaves]
  refine DWp.cond' (t := r1) (by simp []) (fun hb14 => ?_) (fun hb14 => ?_)
  · replace hF := cd_t hb14 hF
    refine DWp.seq ?_
    have q15 := S10.nilT (k := 0) rfl
    have q16 := S10.load0 (P := Try.prog) (k := 0) rfl sz_3 ag_3
    have q17 := S10.nilT (k := 0) rfl
    obtain ⟨G18, q19, S20, a22⟩ := S10.put0 (P := Try.prog) (k := 0) rfl (hB.le A11.1) sz_3 (rfl : isTup (Value.int .i64 (iadd .i64 x3 1)) = false) (rfl : (Value.int .i64 (iadd .i64 x3 1)).cells = #[(Value.int .i64 (iadd .i64 x3 1))])
    have A21 := A11.trans a22
    replace S20 : Sep G18 B [AL.box p3 [(Value.int .i64 (iadd .i64 x3 1))]] := S20
    refine DWp.region fun K hK => ?_
    simp [-aBin', -aBin, -aBinI, -aUn, -aNil, -flatV, n_fn, b_add, b_sub, b_mul, b_lt, b_le, b_gt, b_ge, b_eq, b_ne, u_not, q15, q16, q17, q19]
    apply hK
    clear hK K
    simp only [andThen, leaves]
    refine DWp.seq ?_
    refine DWp.region fun K hK => ?_
    simp [-aBin', -aBin, -aBinI, -aUn, -aNil, -flatV, n_fn, b_add, b_sub, b_mul, b_lt, b_le, b_gt, b_ge, b_eq, b_ne, u_not]
    apply hK
    clear hK K
    simp only [andThen, leaves]
    refine DWp.ret ?_
    simp only [andThen, leaves]
    obtain rfl := Option.some.inj hF
    exact ⟨by simp, [(Value.int .i64 x2), (Value.int .i64 x1)], by simp [], A21, rfl, S20.pick [0] (by decide) rfl⟩
  · replace hF := cd_f hb14 hF
    refine DWp.skip ?_
    simp only [andThen, leaves]
    refine DWp.seq ?_
    refine DWp.region fun K hK => ?_
    simp [-aBin', -aBin, -aBinI, -aUn, -aNil, -flatV, n_fn, b_add, b_sub, b_mul, b_lt, b_le, b_gt, b_ge, b_eq, b_ne, u_not]
    apply hK
    clear hK K
    simp only [andThen, leaves]
    refine DWp.ret ?_
    obtain rfl := Option.some.inj hF
    exact ⟨by simp, [(Value.int .i64 x1), (Value.int .i64 x2)], by simp [], A11, rfl, S10.pick [0] (by decide) rfl⟩
def F_slices_medianOrdered_string (fu : Nat) (x0 : List ByteArray) (x1 : Int) (x2 : Int) (x3 : Int) (x4 : Int) : Option (Int × Int) :=
  bd (F_slices_order2Ordered_string fu x0 x1 x2 x4) fun r1 =>
  bd (F_slices_order2Ordered_string fu x0 r1.2.1 x3 r1.2.2) fun r2 =>
  bd (F_slices_order2Ordered_string fu x0 r1.1 r2.1 r2.2.2) fun r3 =>
  some (r3.2.1, r3.2.2)
theorem F_slices_medianOrdered_string_w {fu : Nat} {H : AH} {B : Nat → Prop} {v0 : Value} {p4 : Value} {x0 : List ByteArray} {x1 : Int} {x2 : Int} {x3 : Int} {x4 : Int} {r : (Int × Int)} (hB : Up B H.length) (S0 : Sep H B [AL.box p4 [(Value.int .i64 x4)]]) (hx0 : Sl H v0 (strs x0)) (hdx0 : ∀ i, idOf v0 = some i → ¬ B i) (hF : F_slices_medianOrdered_string fu x0 x1 x2 x3 x4 = some r) :
    ACallT Try.prog 185 [v0, (Value.int .i64 x1), (Value.int .i64 x2), (Value.int .i64 x3), p4] H (fun u G => AgB B H G ∧ u = (Value.int .i64 r.1) ∧ Sep G B [AL.box p4 [(Value.int .i64 r.2)]]) := by
  refine ACallT.of_body (nt := 36) (rs := [.tmp 10]) Try.func185 rfl rfl rfl rfl ?_
  have A0 : AgB B H H := .refl _ _
  unfold F_slices_medianOrdered_string at hF
  refine DWp.seq ?_
  refine DWp.region fun K hK => ?_
  simp [-aBin', -aBin, -aBinI, -aUn, -aNil, -flatV, n_fn, b_add, b_sub, b_mul, b_lt, b_le, b_gt, b_ge, b_eq, b_ne, u_not]
  apply hK
  clear hK K
  simp only [andThen, leaves]
  refine DWp.seq ?_
  obtain ⟨r1, hc1, hF⟩ := bd_some hF
  refine DWp.region fun K hK => ?_
  simp [-aBin', -aBin, -aBinI, -aUn, -aNil, -flatV, n_fn, b_add, b_sub, b_mul, b_lt, b_le, b_gt, b_ge, b_eq, b_ne, u_not, ((hx0.agr A0 hdx0).tup), (S0.ptup (k := 0) rfl)]
  have S2 : Sep H B ([AL.box p4 [(Value.int .i64 x4)]] ++ []) := S0.pick [0] (by decide) rfl
  obtain ⟨B8, S3, U4, M5, R6, C7⟩ := S2.frame (hB.le A0.1)
  refine CallD.t (F_slices_order2Ordered_string_w (fu := fu) U4 S3 (hx0.agr A0 hdx0) (fun i_ hi_ hb_ => hdx0 i_ hi_ (M5 i_ hb_)) hc1) ?_
  rintro _ G10 ⟨a13, rfl, S14⟩
  have A12 := A0.trans (a13.mono M5)
  have S11 : Sep G10 B [AL.box p4 [(Value.int .i64 r1.2.2)]] := C7 _ _ a13 S14
  simp [-aBin', -aBin, -aBinI, -aUn, -aNil, -flatV, n_fn, b_add, b_sub, b_mul, b_lt, b_le, b_gt, b_ge, b_eq, b_ne, u_not]
  apply hK
  clear hK K
  simp only [andThen, leaves]
  refine DWp.seq ?_
  obtain ⟨r2, hc15, hF⟩ := bd_some hF
  refine DWp.region fun K hK => ?_
  simp [-aBin', -aBin, -aBinI, -aUn, -aNil, -flatV, n_fn, b_add, b_sub, b_mul, b_lt, b_le, b_gt, b_ge, b_eq, b_ne, u_not, ((hx0.agr A12 hdx0).tup), (S11.ptup (k := 0) rfl)]
  have S16 : Sep G10 B ([AL.box p4 [(Value.int .i64 r1.2.2)]] ++ []) := S11.pick [0] (by decide) rfl
  obtain ⟨B22, S17, U18, M19, R20, C21⟩ := S16.frame (hB.le A12.1)
  refine CallD.t (F_slices_order2Ordered_string_w (fu := fu) U18 S17 (hx0.agr A12 hdx0) (fun i_ hi_ hb_ => hdx0 i_ hi_ (M19 i_ hb_)) hc15) ?_
  rintro _ G24 ⟨a27, rfl, S28⟩
  have A26 := A12.trans (a27.mono M19)
  have S25 : Sep G24 B [AL.box p4 [(Value.int .i64 r2.2.2)]] := C21 _ _ a27 S28
  simp [-aBin', -aBin, -aBinI, -aUn, -aNil, -flatV, n_fn, b_add, b_sub, b_mul, b_lt, b_le, b_gt, b_ge, b_eq, b_ne, u_not]
  apply hK
  clear hK K
  simp only [andThen, leaves]
  refine DWp.seq ?_
  obtain ⟨r3, hc29, hF⟩ := bd_some hF
  refine DWp.region fun K hK => ?_
  simp [-aBin', -aBin, -aBinI, -aUn, -aNil, -flatV, n_fn, b_add, b_sub, b_mul, b_lt, b_le, b_gt, b_ge, b_eq, b_ne, u_not, ((hx0.agr A26 hdx0).tup), (S25.ptup (k := 0) rfl)]
  have S30 : Sep G24 B ([AL.box p4 [(Value.int .i64 r2.2.2)]] ++ []) := S25.pick [0] (by decide) rfl
  obtain ⟨B36, S31, U32, M33, R34, C35⟩ := S30.frame (hB.le A26.1)
  refine CallD.t (F_slices_order2Ordered_string_w (fu := fu) U32 S31 (hx0.agr A26 hdx0) (fun i_ hi_ hb_ => hdx0 i_ hi_ (M33 i_ hb_)) hc29) ?_
  rintro _ G38 ⟨a41, rfl, S42⟩
  have A40 := A26.trans (a41.mono M33)
  have S39 : Sep G38 B [AL.box p4 [(Value.int .i64 r3.2.2)]] := C35 _ _ a41 S42
  simp [-aBin', -aBin, -aBinI, -aUn, -aNil, -flatV, n_fn, b_add, b_sub, b_mul, b_lt, b_le, b_gt, b_ge, b_eq, b_ne, u_not]
  apply hK
  clear hK K
  simp only [andThen, leaves]
  refine DWp.seq ?_
  refine DWp.region fun K hK => ?_
  simp [-aBin', -aBin, -aBinI, -aUn, -aNil, -flatV, n_fn, b_add, b_sub, b_mul, b_lt, b_le, b_gt, b_ge, b_eq, b_ne, u_not]
  apply hK
  clear hK K
  simp only [andThen, leaves]
  refine DWp.ret ?_
  obtain rfl := Option.some.inj hF
  exact ⟨by simp, [(Value.int .i64 r3.2.1)], by simp [], A40, rfl, S39.pick [0] (by decide) rfl⟩
def F_slices_medianAdjacentOrdered_string (fu : Nat) (x0 : List ByteArray) (x1 : Int) (x2 : Int) : Option (Int × Int) :=
  bd (F_slices_medianOrdered_string fu x0 (isub .i64 x1 1) x1 (iadd .i64 x1 1) x2) fun r1 =>
  some (r1.1, r1.2)
theorem F_slices_medianAdjacentOrdered_string_w {fu : Nat} {H : AH} {B : Nat → Prop} {v0 : Value} {p2 : Value} {x0 : List ByteArray} {x1 : Int} {x2 : Int} {r : (Int × Int)} (hB : Up B H.length) (S0 : Sep H B [AL.box p2 [(Value.int .i64 x2)]]) (hx0 : Sl H v0 (strs x0)) (hdx0 : ∀ i, idOf v0 = some i → ¬ B i) (hF : F_slices_medianAdjacentOrdered_string fu x0 x1 x2 = some r) :
    ACallT Try.prog 184 [v0, (Value.int .i64 x1), p2] H (fun u G => AgB B H G ∧ u = (Value.int .i64 r.1) ∧ Sep G B [AL.box p2 [(Value.int .i64 r.2)]]) := by
  refine ACallT.of_body (nt := 15) (rs := [.tmp 6]) Try.func184 rfl rfl rfl rfl ?_
  have A0 : AgB B H H := .refl _ _
  unfold F_slices_medianAdjacentOrdered_string at hF
  refine DWp.seq ?_
  refine DWp.region fun K hK => ?_
  simp [-aBin', -aBin, -aBinI, -aUn, -aNil, -flatV, n_fn, b_add, b_sub, b_mul, b_lt, b_le, b_gt, b_ge, b_eq, b_ne, u_not]
  apply hK
  clear hK K
  simp only [andThen, leaves]
  refine DWp.seq ?_
  obtain ⟨r1, hc1, hF⟩ := bd_some hF
  refine DWp.region fun K hK => ?_
  simp [-aBin', -aBin, -aBinI, -aUn, -aNil, -flatV, n_fn, b_add, b_sub, b_mul, b_lt, b_le, b_gt, b_ge, b_eq, b_ne, u_not, ((hx0.agr A0 hdx0).tup), (S0.ptup (k := 0) rfl)]
  have S2 : Sep H B ([AL.box p2 [(Value.int .i64 x2)]] ++ []) := S0.pick [0] (by decide) rfl
  obtain ⟨B8, S3, U4, M5, R6, C7⟩ := S2.frame (hB.le A0.1)
  refine CallD.t (F_slices_medianOrdered_string_w (fu := fu) U4 S3 (hx0.agr A0 hdx0) (fun i_ hi_ hb_ => hdx0 i_ hi_ (M5 i_ hb_)) hc1) ?_
  rintro _ G10 ⟨a13, rfl, S14⟩
  have A12 := A0.trans (a13.mono M5)
  have S11 : Sep G10 B [AL.box p2 [(Value.int .i64 r1.2)]] := C7 _ _ a13 S14
  simp [-aBin', -aBin, -aBinI, -aUn, -aNil, -flatV, n_fn, b_add, b_sub, b_mul, b_lt, b_le, b_gt, b_ge, b_eq, b_ne, u_not]
  apply hK
  clear hK K
  simp only [andThen, leaves]
  refine DWp.ret ?_
  obtain rfl := Option.some.inj hF
  exact ⟨by simp, [(Value.int .i64 r1.1)], by simp [], A12, rfl, S11.pick [0] (by decide) rfl⟩
def F_slices_choosePivotOrdered_string (fu : Nat) (x0 : List ByteArray) (x1 : Int) (x2 : Int) : Option (Int × Int) :=
  bd (
    bif (ile 8 (isub .i64 x2 x1)) then
      bif (ile 50 (isub .i64 x2 x1)) then
        bd (F_slices_medianAdjacentOrdered_string fu x0 (iadd .i64 x1 (imul .i64 (iquo .i64 (isub .i64 x2 x1) 4) 1)) 0) fun r1 =>
        bd (F_slices_medianAdjacentOrdered_string fu x0 (iadd .i64 x1 (imul .i64 (iquo .i64 (isub .i64 x2 x1) 4) 2)) r1.2) fun r2 =>
        bd (F_slices_medianAdjacentOrdered_string fu x0 (iadd .i64 x1 (imul .i64 (iquo .i64 (isub .i64 x2 x1) 4) 3)) r2.2) fun r3 =>
        bd (F_slices_medianOrdered_string fu x0 r1.1 r2.1 r3.1 r3.2) fun r4 =>
        some (r4.2, r4.1)
      else
        bd (F_slices_medianOrdered_string fu x0 (iadd .i64 x1 (imul .i64 (iquo .i64 (isub .i64 x2 x1) 4) 1)) (iadd .i64 x1 (imul .i64 (iquo .i64 (isub .i64 x2 x1) 4) 2)) (iadd .i64 x1 (imul .i64 (iquo .i64 (isub .i64 x2 x1) 4) 3)) 0) fun r5 =>
        some (r5.2, r5.1)
    else
      some (0, (iadd .i64 x1 (imul .i64 (iquo .i64 (isub .i64 x2 x1) 4) 2)))) fun s11 =>
  bif (ieq s11.1 0) then
    some (s11.2, 1)
  else
    bif (ieq s11.1 12) then
      some (s11.2, 2)
    else
      some (s11.2, 0)
theorem F_slices_choosePivotOrdered_string_w {fu : Nat} {H : AH} {v0 : Value} {x0 : List ByteArray} {x1 : Int} {x2 : Int} {r : (Int × Int)} (hx0 : Sl H v0 (strs x0)) (hF : F_slices_choosePivotOrdered_string fu x0 x1 x2 = some r) :
    ACallT Try.prog 168 [v0, (Value.int .i64 x1), (Value.int .i64 x2)] H (fun u G => AgB (Fr H) H G ∧ u = (Value.tuple #[(Value.int .i64 r.1), (Value.int .i64 r.2)]) ∧ Sep G (Fr H) []) := by
  refine ACallT.of_body (nt := 57) (rs := [.tmp 6, .tmp 7]) Try.func168 rfl rfl rfl rfl ?_
  have A0 : AgB (Fr H) H H := .refl _ _
  have S0 : Sep H (Fr H) [] := .nil
  have hB := Fr.up H
  unfold F_slices_choosePivotOrdered_string at hF
  refine DWp.seq ?_
  refine DWp.region fun K hK => ?_
  simp [-aBin', -aBin, -aBinI, -aUn, -aNil, -flatV, n_fn, b_add, b_sub, b_mul, b_lt, b_le, b_gt, b_ge, b_eq, b_ne, u_not]
  apply hK
  clear hK K
  simp only [andThen, leaves]
  refine DWp.seq ?_
  refine DWp.region fun K hK => ?_
  simp [-aBin', -aBin, -aBinI, -aUn, -aNil, -flatV, n_fn, b_add, b_sub, b_mul, b_lt, b_le, b_gt, b_ge, b_eq, b_ne, u_not]
  apply hK
  clear hK K
  simp only [andThen, leaves]
  refine DWp.seq ?_
  obtain ⟨G2, p4, q5, q7, a6, S1⟩ := S0.allocT (P := Try.prog) (hB.le A0.1) ze_3 rfl
  have A3 := A0.ext (hB.le A0.1) a6
  replace S1 : Sep G2 (Fr H) [AL.box p4 [(Value.int .i64 0)]] := S1
  refine DWp.region fun K hK => ?_
  simp [-aBin', -aBin, -aBinI, -aUn, -aNil, -flatV, n_fn, b_add, b_sub, b_mul, b_lt, b_le, b_gt, b_ge, b_eq, b_ne, u_not, q5, q7, a6.to_pre]
  apply hK
  clear hK K
  simp only [andThen, leaves]
  refine DWp.seq ?_
  have g8 : (4 : Int) ≠ 0 := by decide
  refine DWp.region fun K hK => ?_
  simp [-aBin', -aBin, -aBinI, -aUn, -aNil, -flatV, n_fn, b_add, b_sub, b_mul, b_lt, b_le, b_gt, b_ge, b_eq, b_ne, u_not, b_quo g8]
  apply hK
  clear hK K
  simp only [andThen, leaves]
  refine DWp.seq ?_
  have g9 : (4 : Int) ≠ 0 := by decide
  refine DWp.region fun K hK => ?_
  simp [-aBin', -aBin, -aBinI, -aUn, -aNil, -flatV, n_fn, b_add, b_sub, b_mul, b_lt, b_le, b_gt, b_ge, b_eq, b_ne, u_not, b_quo g9]
  apply hK
  clear hK K
  simp only [andThen, leaves]
  refine DWp.seq ?_
  have g10 : (4 : Int) ≠ 0 := by decide
  refine DWp.region fun K hK => ?_
  simp [-aBin', -aBin, -aBinI, -aUn, -aNil, -flatV, n_fn, b_add, b_sub, b_mul, b_lt, b_le, b_gt, b_ge, b_eq, b_ne, u_not, b_quo g10]
  apply hK
  clear hK K
  simp only [andThen, leaves]
  obtain ⟨s11, hL12, hF⟩ := bd_some hF
  refine DWp.seq (DWp.join (fun env G => Sep G (Fr H) [AL.box p4 [(Value.int .i64 s11.1)]] ∧ AgB (Fr H) H G ∧ env 9 = some p4 ∧ env 11 = some (Value.int .i64 s11.2)) ?_ ?_)
  ·
    refine DWp.seq ?_
    refine DWp.region fun K hK => ?_
    simp [-aBin', -aBin, -aBinI, -aUn, -aNil, -flatV, n_fn, b_add, b_sub, b_mul, b_lt, b_le, b_gt, b_ge, b_eq, b_ne, u_not]
    apply hK
    clear hK K
    simp only [andThen, leaves]
    refine DWp.cond' (t := (ile 8 (isub .i64 x2 x1))) (by simp []) (fun hb14 => ?_) (fun hb14 => ?_)
    · replace hL12 := cd_t hb14 hL12
      refine DWp.seq ?_
      refine DWp.seq ?_
      refine DWp.region fun K hK => ?_
      simp [-aBin', -aBin, -aBinI, -aUn, -aNil, -flatV, n_fn, b_add, b_sub, b_mul, b_lt, b_le, b_gt, b_ge, b_eq, b_ne, u_not]
      apply hK
      clear hK K
      simp only [andThen, leaves]
      refine DWp.cond' (t := (ile 50 (isub .i64 x2 x1))) (by simp []) (fun hb15 => ?_) (fun hb15 => ?_)
      · replace hL12 := cd_t hb15 hL12
        refine DWp.seq ?_
        obtain ⟨r1, hc16, hL12⟩ := bd_some hL12
        refine DWp.region fun K hK => ?_
        simp [-aBin', -aBin, -aBinI, -aUn, -aNil, -flatV, n_fn, b_add, b_sub, b_mul, b_lt, b_le, b_gt, b_ge, b_eq, b_ne, u_not, ((hx0.agree A3.agree).tup), (S1.ptup (k := 0) rfl)]
        have S17 : Sep G2 (Fr H) ([AL.box p4 [(Value.int .i64 0)]] ++ []) := S1.pick [0] (by decide) rfl
        obtain ⟨B23, S18, U19, M20, R21, C22⟩ := S17.frame (hB.le A3.1)
        refine CallD.t (F_slices_medianAdjacentOrdered_string_w (fu := fu) U19 S18 (hx0.agree A3.agree) (fun i_ hi_ hb_ => Nat.not_le.2 (hx0.id_lt hi_) (M20 i_ hb_)) hc16) ?_
        rintro _ G25 ⟨a28, rfl, S29⟩
        have A27 := A3.trans (a28.mono M20)
        have S26 : Sep G25 (Fr H) [AL.box p4 [(Value.int .i64 r1.2)]] := C22 _ _ a28 S29
        simp [-aBin', -aBin, -aBinI, -aUn, -aNil, -flatV, n_fn, b_add, b_sub, b_mul, b_lt, b_le, b_gt, b_ge, b_eq, b_ne, u_not]
        apply hK
        clear hK K
        simp only [andThen, leaves]
        refine DWp.seq ?_
        obtain ⟨r2, hc30, hL12⟩ := bd_some hL12
        refine DWp.region fun K hK => ?_
        simp [-aBin', -aBin, -aBinI, -aUn, -aNil, -flatV, n_fn, b_add, b_sub, b_mul, b_lt, b_le, b_gt, b_ge, b_eq, b_ne, u_not, ((hx0.agree A27.agree).tup), (S26.ptup (k := 0) rfl)]
        have S31 : Sep G25 (Fr H) ([AL.box p4 [(Value.int .i64 r1.2)]] ++ []) := S26.pick [0] (by decide) rfl
        obtain ⟨B37, S32, U33, M34, R35, C36⟩ := S31.frame (hB.le A27.1)
        refine CallD.t (F_slices_medianAdjacentOrdered_string_w (fu := fu) U33 S32 (hx0.agree A27.agree) (fun i_ hi_ hb_ => Nat.not_le.2 (hx0.id_lt hi_) (M34 i_ hb_)) hc30) ?_
        rintro _ G39 ⟨a42, rfl, S43⟩
        have A41 := A27.trans (a42.mono M34)
        have S40 : Sep G39 (Fr H) [AL.box p4 [(Value.int .i64 r2.2)]] := C36 _ _ a42 S43
        simp [-aBin', -aBin, -aBinI, -aUn, -aNil, -flatV, n_fn, b_add, b_sub, b_mul, b_lt, b_le, b_gt, b_ge, b_eq, b_ne, u_not]
        apply hK
        clear hK K
        simp only [andThen, leaves]
        obtain ⟨r3, hc44, hL12⟩ := bd_some hL12
        refine DWp.region fun K hK => ?_
        simp [-aBin', -aBin, -aBinI, -aUn, -aNil, -flatV, n_fn, b_add, b_sub, b_mul, b_lt, b_le, b_gt, b_ge, b_eq, b_ne, u_not, ((hx0.agree A41.agree).tup), (S40.ptup (k := 0) rfl)]
        have S45 : Sep G39 (Fr H) ([AL.box p4 [(Value.int .i64 r2.2)]] ++ []) := S40.pick [0] (by decide) rfl
        obtain ⟨B51, S46, U47, M48, R49, C50⟩ := S45.frame (hB.le A41.1)
        refine CallD.t (F_slices_medianAdjacentOrdered_string_w (fu := fu) U47 S46 (hx0.agree A41.agree) (fun i_ hi_ hb_ => Nat.not_le.2 (hx0.id_lt hi_) (M48 i_ hb_)) hc44) ?_
        rintro _ G53 ⟨a56, rfl, S57⟩
        have A55 := A41.trans (a56.mono M48)
        have S54 : Sep G53 (Fr H) [AL.box p4 [(Value.int .i64 r3.2)]] := C50 _ _ a56 S57
        simp [-aBin', -aBin, -aBinI, -aUn, -aNil, -flatV, n_fn, b_add, b_sub, b_mul, b_lt, b_le, b_gt, b_ge, b_eq, b_ne, u_not]
        apply hK
        clear hK K
        simp only [andThen, leaves]
        obtain ⟨r4, hc58, hL12⟩ := bd_some hL12
        refine DWp.region fun K hK => ?_
        simp [-aBin', -aBin, -aBinI, -aUn, -aNil, -flatV, n_fn, b_add, b_sub, b_mul, b_lt, b_le, b_gt, b_ge, b_eq, b_ne, u_not, ((hx0.agree A55.agree).tup), (S54.ptup (k := 0) rfl)]
        have S59 : Sep G53 (Fr H) ([AL.box p4 [(Value.int .i64 r3.2)]] ++ []) := S54.pick [0] (by decide) rfl
        obtain ⟨B65, S60, U61, M62, R63, C64⟩ := S59.frame (hB.le A55.1)
        refine CallD.t (F_slices_medianOrdered_string_w (fu := fu) U61 S60 (hx0.agree A55.agree) (fun i_ hi_ hb_ => Nat.not_le.2 (hx0.id_lt hi_) (M62 i_ hb_)) hc58) ?_
        rintro _ G67 ⟨a70, rfl, S71⟩
        have A69 := A55.trans (a70.mono M62)
        have S68 : Sep G67 (Fr H) [AL.box p4 [(Value.int .i64 r4.2)]] := C64 _ _ a70 S71
        simp [-aBin', -aBin, -aBinI, -aUn, -aNil, -flatV, n_fn, b_add, b_sub, b_mul, b_lt, b_le, b_gt, b_ge, b_eq, b_ne, u_not]
        apply hK
        clear hK K
        simp only [andThen, leaves]
        have S72 := S68.pick [0] (by decide) rfl
        obtain rfl := Option.some.inj hL12
        exact ⟨S72, A69, by simp [], by simp []⟩
      · replace hL12 := cd_f hb15 hL12
        refine DWp.skip ?_
        simp only [andThen, leaves]
        obtain ⟨r5, hc73, hL12⟩ := bd_some hL12
        refine DWp.region fun K hK => ?_
        simp [-aBin', -aBin, -aBinI, -aUn, -aNil, -flatV, n_fn, b_add, b_sub, b_mul, b_lt, b_le, b_gt, b_ge, b_eq, b_ne, u_not, ((hx0.agree A3.agree).tup), (S1.ptup (k := 0) rfl)]
        have S74 : Sep G2 (Fr H) ([AL.box p4 [(Value.int .i64 0)]] ++ []) := S1.pick [0] (by decide) rfl
        obtain ⟨B80, S75, U76, M77, R78, C79⟩ := S74.frame (hB.le A3.1)
        refine CallD.t (F_slices_medianOrdered_string_w (fu := fu) U76 S75 (hx0.agree A3.agree) (fun i_ hi_ hb_ => Nat.not_le.2 (hx0.id_lt hi_) (M77 i_ hb_)) hc73) ?_
        rintro _ G82 ⟨a85, rfl, S86⟩
        have A84 := A3.trans (a85.mono M77)
        have S83 : Sep G82 (Fr H) [AL.box p4 [(Value.int .i64 r5.2)]] := C79 _ _ a85 S86
        simp [-aBin', -aBin, -aBinI, -aUn, -aNil, -flatV, n_fn, b_add, b_sub, b_mul, b_lt, b_le, b_gt, b_ge, b_eq, b_ne, u_not]
        apply hK
        clear hK K
        simp only [andThen, leaves]
        have S87 := S83.pick [0] (by decide) rfl
        obtain rfl := Option.some.inj hL12
        exact ⟨S87, A84, by simp [], by simp []⟩
    · replace hL12 := cd_f hb14 hL12
      refine DWp.skip ?_
      simp only [andThen, leaves]
      have S88 := S1.pick [0] (by decide) rfl
      obtain rfl := Option.some.inj hL12
      exact ⟨S88, A3, by simp [], by simp []⟩
  · rintro env Gj89 ⟨Sj89, Aj89, ej89_9, ej89_11⟩
    refine DWp.seq ?_
    have q90 := Sj89.load0 (P := Try.prog) (k := 0) rfl sz_3 ag_3
    refine DWp.region fun K hK => ?_
    simp [-aBin', -aBin, -aBinI, -aUn, -aNil, -flatV, n_fn, b_add, b_sub, b_mul, b_lt, b_le, b_gt, b_ge, b_eq, b_ne, u_not, ej89_9, ej89_11, q90]
    apply hK
    clear hK K
    simp only [andThen, leaves]
    refine DWp.block ?_
    refine DWp.seq ?_
    refine DWp.region fun K hK => ?_
    simp [-aBin', -aBin, -aBinI, -aUn, -aNil, -flatV, n_fn, b_add, b_sub, b_mul, b_lt, b_le, b_gt, b_ge, b_eq, b_ne, u_not, ej89_9, ej89_11]
    apply hK
    clear hK K
    simp only [andThen, leaves]
    refine DWp.cond' (t := (ieq s11.1 0)) (by simp [ej89_9, ej89_11]) (fun hb91 => ?_) (fun hb91 => ?_)
    · replace hF := cd_t hb91 hF
      refine DWp.seq ?_
      refine DWp.region fun K hK => ?_
      simp [-aBin', -aBin, -aBinI, -aUn, -aNil, -flatV, n_fn, b_add, b_sub, b_mul, b_lt, b_le, b_gt, b_ge, b_eq, b_ne, u_not, ej89_9, ej89_11]
      apply hK
      clear hK K
      simp only [andThen, leaves]
      refine DWp.ret ?_
      simp only [andThen, leaves]
      obtain rfl := Option.some.inj hF
      exact ⟨by simp, [(Value.int .i64 s11.2), (Value.int .i64 1)], by simp [ej89_9, ej89_11], Aj89, rfl, Sj89.pick [] (by decide) rfl⟩
    · replace hF := cd_f hb91 hF
      refine DWp.seq ?_
      refine DWp.region fun K hK => ?_
      simp [-aBin', -aBin, -aBinI, -aUn, -aNil, -flatV, n_fn, b_add, b_sub, b_mul, b_lt, b_le, b_gt, b_ge, b_eq, b_ne, u_not, ej89_9, ej89_11]
      apply hK
      clear hK K
      simp only [andThen, leaves]
      refine DWp.cond' (t := (ieq s11.1 12)) (by simp [ej89_9, ej89_11]) (fun hb92 => ?_) (fun hb92 => ?_)
      · replace hF := cd_t hb92 hF
        refine DWp.seq ?_
        refine DWp.region fun K hK => ?_
        simp [-aBin', -aBin, -aBinI, -aUn, -aNil, -flatV, n_fn, b_add, b_sub, b_mul, b_lt, b_le, b_gt, b_ge, b_eq, b_ne, u_not, ej89_9, ej89_11]
        apply hK
        clear hK K
        simp only [andThen, leaves]
        refine DWp.ret ?_
        simp only [andThen, leaves]
        obtain rfl := Option.some.inj hF
        exact ⟨by simp, [(Value.int .i64 s11.2), (Value.int .i64 2)], by simp [ej89_9, ej89_11], Aj89, rfl, Sj89.pick [] (by decide) rfl⟩
      · replace hF := cd_f hb92 hF
        refine DWp.seq ?_
        refine DWp.region fun K hK => ?_
        simp [-aBin', -aBin, -aBinI, -aUn, -aNil, -flatV, n_fn, b_add, b_sub, b_mul, b_lt, b_le, b_gt, b_ge, b_eq, b_ne, u_not, ej89_9, ej89_11]
        apply hK
        clear hK K
        simp only [andThen, leaves]
        refine DWp.ret ?_
        simp only [andThen, leaves]
        obtain rfl := Option.some.inj hF
        exact ⟨by simp, [(Value.int .i64 s11.2), (Value.int .i64 0)], by simp [ej89_9, ej89_11], Aj89, rfl, Sj89.pick [] (by decide) rfl⟩
def F_slices_reverseRangeOrdered_string_L1 (fu : Nat)  : Nat → List ByteArray → Int → Int → Option (List ByteArray × Int × Int)
  | 0, _, _, _ => none
  | n + 1, l1_0, y1_6, y1_7 =>
    bif (ilt y1_6 y1_7) then
      gd (inL l1_0 y1_7) (
      gd (inL l1_0 y1_6) (
      gd (inL l1_0 y1_6) (
      gd (inL (lset l1_0 y1_6 (gat (ByteArray.mk #[]) l1_0 y1_7)) y1_7) (
      F_slices_reverseRangeOrdered_string_L1 fu n (lset (lset l1_0 y1_6 (gat (ByteArray.mk #[]) l1_0 y1_7)) y1_7 (gat (ByteArray.mk #[]) l1_0 y1_6)) (iadd .i64 y1_6 1) (isub .i64 y1_7 1)))))
    else
      some (l1_0, y1_6, y1_7)
def F_slices_reverseRangeOrdered_string (fu : Nat) (x0 : List ByteArray) (x1 : Int) (x2 : Int) : Option (List ByteArray) :=
  bd (F_slices_reverseRangeOrdered_string_L1 fu fu x0 x1 (isub .i64 x2 1)) fun s1 =>
  some s1.1
theorem F_slices_reverseRangeOrdered_string_w {fu : Nat} {H : AH} {B : Nat → Prop} {v0 : Value} {x0 : List ByteArray} {x1 : Int} {x2 : Int} {r : (List ByteArray)} (hB : Up B H.length) (S0 : Sep H B [flat v0 9 (strs x0)]) (hF : F_slices_reverseRangeOrdered_string fu x0 x1 x2 = some r) :
    ACallT Try.prog 169 [v0, (Value.int .i64 x1), (Value.int .i64 x2)] H (fun u G => AgB B H G ∧ u = (Value.tuple #[]) ∧ Sep G B [flat v0 9 (strs r)]) := by
  refine ACallT.of_body (nt := 32) (rs := []) Try.func169 rfl rfl rfl rfl ?_
  have A0 : AgB B H H := .refl _ _
  unfold F_slices_reverseRangeOrdered_string at hF
  refine DWp.seq ?_
  refine DWp.region fun K hK => ?_
  simp [-aBin', -aBin, -aBinI, -aUn, -aNil, -flatV, n_fn, b_add, b_sub, b_mul, b_lt, b_le, b_gt, b_ge, b_eq, b_ne, u_not]
  apply hK
  clear hK K
  simp only [andThen, leaves]
  refine DWp.seq ?_
  refine DWp.region fun K hK => ?_
  simp [-aBin', -aBin, -aBinI, -aUn, -aNil, -flatV, n_fn, b_add, b_sub, b_mul, b_lt, b_le, b_gt, b_ge, b_eq, b_ne, u_not]
  apply hK
  clear hK K
  simp only [andThen, leaves]
  refine DWp.block ?_
  obtain ⟨s1, hL2, hF⟩ := bd_some hF
  have S3 := S0.pick [0] (by decide) rfl
  refine DWp.loop (fun n env G => ∃ l1_0 : List ByteArray, ∃ y1_6 : Int, ∃ y1_7 : Int, F_slices_reverseRangeOrdered_string_L1 fu n l1_0 y1_6 y1_7 = some s1 ∧ Sep G B [flat v0 9 (strs l1_0)] ∧ AgB B H G ∧ env 0 = some v0 ∧ env 6 = some (Value.int .i64 y1_6) ∧ env 7 = some (Value.int .i64 y1_7)) fu ⟨x0, x1, (isub .i64 x2 1), hL2, S3, A0, by simp [], by simp [], by simp []⟩ ?_
  rintro n1 env1 G1_ ⟨l1_0, y1_6, y1_7, hL2, S1_, A1_, e1_0, e1_6, e1_7⟩
  cases n1 with
  | zero => cases hL2
  | succ n1 =>
    simp only [F_slices_reverseRangeOrdered_string_L1] at hL2
    refine DWp.seq ?_
    refine DWp.seq ?_
    refine DWp.region fun K hK => ?_
    simp [-aBin', -aBin, -aBinI, -aUn, -aNil, -flatV, n_fn, b_add, b_sub, b_mul, b_lt, b_le, b_gt, b_ge, b_eq, b_ne, u_not, e1_0, e1_6, e1_7]
    apply hK
    clear hK K
    simp only [andThen, leaves]
    refine DWp.cond' (t := (ilt y1_6 y1_7)) (by simp [e1_0, e1_6, e1_7]) (fun hb4 => ?_) (fun hb4 => ?_)
    · replace hL2 := cd_t hb4 hL2
      refine DWp.skip ?_
      simp only [andThen, leaves]
      refine DWp.block ?_
      refine DWp.seq ?_
      obtain ⟨g5, hL2⟩ := gd_some hL2
      have q6 := idxG (P := Try.prog) (kk := .i64) (S1_.sl (k := 0) rfl) el_59 sz_9 g5
      have q7 := loadG (P := Try.prog) (S1_.sl (k := 0) rfl) sz_9 ag_9 g5 (ByteArray.mk #[])
      obtain ⟨g8, hL2⟩ := gd_some hL2
      have q9 := idxG (P := Try.prog) (kk := .i64) (S1_.sl (k := 0) rfl) el_59 sz_9 g8
      have q10 := loadG (P := Try.prog) (S1_.sl (k := 0) rfl) sz_9 ag_9 g8 (ByteArray.mk #[])
      obtain ⟨g11, hL2⟩ := gd_some hL2
      have q12 := idxG (P := Try.prog) (kk := .i64) (S1_.sl (k := 0) rfl) el_59 sz_9 g11
      obtain ⟨G13, q14, S15, a17⟩ := S1_.storeG (f := Value.string) (P := Try.prog) (k := 0) (x := (gat (ByteArray.mk #[]) l1_0 y1_7)) rfl (hB.le A1_.1) sz_9 g11 rfl rfl
      have A16 := A1_.trans a17
      replace S15 : Sep G13 B [flat v0 9 (strs (lset l1_0 y1_6 (gat (ByteArray.mk #[]) l1_0 y1_7)))] := S15
      obtain ⟨g18, hL2⟩ := gd_some hL2
      have q19 := idxG (P := Try.prog) (kk := .i64) (S15.sl (k := 0) rfl) el_59 sz_9 g18
      obtain ⟨G20, q21, S22, a24⟩ := S15.storeG (f := Value.string) (P := Try.prog) (k := 0) (x := (gat (ByteArray.mk #[]) l1_0 y1_6)) rfl (hB.le A16.1) sz_9 g18 rfl rfl
      have A23 := A16.trans a24
      replace S22 : Sep G20 B [flat v0 9 (strs (lset (lset l1_0 y1_6 (gat (ByteArray.mk #[]) l1_0 y1_7)) y1_7 (gat (ByteArray.mk #[]) l1_0 y1_6)))] := S22
      refine DWp.drawn (B := [0, 0, 0, 0, 0, 0, 48, 112, 0, 0, 768, 1792, 4083, 8179, 16383, 32767]) 13 mixed (by kernel_rfl) (by decide) fun K hK => ?_
      simp [-aBin', -aBin, -aBinI, -aUn, -aNil, -flatV, n_fn, b_add, b_sub, b_mul, b_lt, b_le, b_gt, b_ge, b_eq, b_ne, u_not, e1_0, e1_6, e1_7, q6, q7, q9, q10, q12, q14, q19, q21]
      apply hK
      clear hK K
      simp only [andThen, leaves]
      refine DWp.seq ?_
      refine DWp.region fun K hK => ?_
      simp [-aBin', -aBin, -aBinI, -aUn, -aNil, -flatV, n_fn, b_add, b_sub, b_mul, b_lt, b_le, b_gt, b_ge, b_eq, b_ne, u_not, e1_0, e1_6, e1_7]
      apply hK
      clear hK K
      simp only [andThen, leaves]
      refine DWp.region fun K hK => ?_
      simp [-aBin', -aBin, -aBinI, -aUn, -aNil, -flatV, n_fn, b_add, b_sub, b_mul, b_lt, b_le, b_gt, b_ge, b_eq, b_ne, u_not, e1_0, e1_6, e1_7]
      apply hK
      clear hK K
      simp only [andThen, leaves]
      have S25 := S22.pick [0] (by decide) rfl
      exact ⟨n1, Nat.lt_succ_self _, (lset (lset l1_0 y1_6 (gat (ByteArray.mk #[]) l1_0 y1_7)) y1_7 (gat (ByteArray.mk #[]) l1_0 y1_6)), (iadd .i64 y1_6 1), (isub .i64 y1_7 1), hL2, S25, A23, by simp [e1_0, e1_6, e1_7], by simp [e1_0, e1_6, e1_7], by simp [e1_0, e1_6, e1_7]⟩
    · replace hL2 := cd_f hb4 hL2
      refine DWp.exit ?_
      simp only [andThen, leaves, if_true, if_false, reduceIte, Nat.reduceEqDiff]
      obtain rfl := Option.some.inj hL2
      try dsimp only at hF
      obtain rfl := Option.some.inj hF
      exact ⟨by simp, [], by simp [e1_0, e1_6, e1_7], A1_, rfl, S1_.pick [0] (by decide) rfl⟩
def F_slices_partialInsertionSortOrdered_string_L2 (fu : Nat) (k2_0 : List ByteArray) (k2_1 : Int) (k2_2 : Int) (k2_3 : Int) : Nat → Int → Option (Int)
  | 0, _ => none
  | n + 1, y2_7 =>
    bif (ilt y2_7 k2_2) then
      gd (inL k2_0 y2_7) (
      gd (inL k2_0 (isub .i64 y2_7 1)) (
      bd (F_cmp_Less_string fu (gat (ByteArray.mk #[]) k2_0 y2_7) (gat (ByteArray.mk #[]) k2_0 (isub .i64 y2_7 1))) fun r1 =>
      bif (bnot r1) then
        F_slices_partialInsertionSortOrdered_string_L2 fu k2_0 k2_1 k2_2 k2_3 n (iadd .i64 y2_7 1)
      else
        some y2_7))
    else
      some y2_7
def F_slices_partialInsertionSortOrdered_string_L3 (fu : Nat) (k3_0 : Int) (k3_1 : Int) (k3_2 : Int) (k3_3 : Int) : Nat → List ByteArray → Int → Option (List ByteArray × Int)
  | 0, _, _ => none
  | n + 1, l3_0, y3_9 =>
    bif (ile 1 y3_9) then
      gd (inL l3_0 y3_9) (
      gd (inL l3_0 (isub .i64 y3_9 1)) (
      bd (F_cmp_Less_string fu (gat (ByteArray.mk #[]) l3_0 y3_9) (gat (ByteArray.mk #[]) l3_0 (isub .i64 y3_9 1))) fun r2 =>
      bif (bnot r2) then
        some (l3_0, y3_9)
      else
        gd (inL l3_0 (isub .i64 y3_9 1)) (
        gd (inL l3_0 y3_9) (
        gd (inL l3_0 y3_9) (
        gd (inL (lset l3_0 y3_9 (gat (ByteArray.mk #[]) l3_0 (isub .i64 y3_9 1))) (isub .i64 y3_9 1)) (
        F_slices_partialInsertionSortOrdered_string_L3 fu k3_0 k3_1 k3_2 k3_3 n (lset (lset l3_0 y3_9 (gat (ByteArray.mk #[]) l3_0 (isub .i64 y3_9 1))) (isub .i64 y3_9 1) (gat (ByteArray.mk #[]) l3_0 y3_9)) (isub .i64 y3_9 1)))))))
    else
      some (l3_0, y3_9)
def F_slices_partialInsertionSortOrdered_string_L4 (fu : Nat) (k4_0 : Int) (k4_1 : Int) (k4_2 : Int) (k4_3 : Int) : Nat → List ByteArray → Int → Option (List ByteArray × Int)
  | 0, _, _ => none
  | n + 1, l4_0, y4_10 =>
    bif (ilt y4_10 k4_1) then
      gd (inL l4_0 y4_10) (
      gd (inL l4_0 (isub .i64 y4_10 1)) (
      bd (F_cmp_Less_string fu (gat (ByteArray.mk #[]) l4_0 y4_10) (gat (ByteArray.mk #[]) l4_0 (isub .i64 y4_10 1))) fun r3 =>
      bif (bnot r3) then
        some (l4_0, y4_10)
      else
        gd (inL l4_0 (isub .i64 y4_10 1)) (
        gd (inL l4_0 y4_10) (
        gd (inL l4_0 y4_10) (
        gd (inL (lset l4_0 y4_10 (gat (ByteArray.mk #[]) l4_0 (isub .i64 y4_10 1))) (isub .i64 y4_10 1)) (
        F_slices_partialInsertionSortOrdered_string_L4 fu k4_0 k4_1 k4_2 k4_3 n (lset (lset l4_0 y4_10 (gat (ByteArray.mk #[]) l4_0 (isub .i64 y4_10 1))) (isub .i64 y4_10 1) (gat (ByteArray.mk #[]) l4_0 y4_10)) (iadd .i64 y4_10 1)))))))
    else
      some (l4_0, y4_10)
def F_slices_partialInsertionSortOrdered_string_L1 (fu : Nat) (k1_0 : Int) (k1_1 : Int) : Nat → List ByteArray → Int → Int → Option (LR (Bool × List ByteArray) (List ByteArray × Int × Int))
  | 0, _, _, _ => none
  | n + 1, l1_0, y1_7, y1_8 =>
    bif (ilt y1_8 5) then
      bd (
        bd (F_slices_partialInsertionSortOrdered_string_L2 fu l1_0 k1_0 k1_1 y1_8 fu y1_7) fun s2 =>
        some s2) fun s5 =>
      bif (ieq s5 k1_1) then
        some (.ret (true, l1_0))
      else
        bif (ilt (isub .i64 k1_1 k1_0) 50) then
          some (.ret (false, l1_0))
        else
          gd (inL l1_0 (isub .i64 s5 1)) (
          gd (inL l1_0 s5) (
          gd (inL l1_0 s5) (
          gd (inL (lset l1_0 s5 (gat (ByteArray.mk #[]) l1_0 (isub .i64 s5 1))) (isub .i64 s5 1)) (
          bd (
            bif (ile 2 (isub .i64 s5 k1_0)) then
              bd (F_slices_partialInsertionSortOrdered_string_L3 fu k1_0 k1_1 s5 y1_8 fu (lset (lset l1_0 s5 (gat (ByteArray.mk #[]) l1_0 (isub .i64 s5 1))) (isub .i64 s5 1) (gat (ByteArray.mk #[]) l1_0 s5)) (isub .i64 s5 1)) fun s3 =>
              some s3.1
            else
              some (lset (lset l1_0 s5 (gat (ByteArray.mk #[]) l1_0 (isub .i64 s5 1))) (isub .i64 s5 1) (gat (ByteArray.mk #[]) l1_0 s5))) fun s51 =>
          bif (ile 2 (isub .i64 k1_1 s5)) then
            bd (F_slices_partialInsertionSortOrdered_string_L4 fu k1_0 k1_1 s5 y1_8 fu s51 (iadd .i64 s5 1)) fun s4 =>
            F_slices_partialInsertionSortOrdered_string_L1 fu k1_0 k1_1 n s4.1 s5 (iadd .i64 y1_8 1)
          else
            F_slices_partialInsertionSortOrdered_string_L1 fu k1_0 k1_1 n s51 s5 (iadd .i64 y1_8 1)))))
    else
      some (.brk (l1_0, y1_7, y1_8))
def F_slices_partialInsertionSortOrdered_string (fu : Nat) (x0 : List ByteArray) (x1 : Int) (x2 : Int) : Option (Bool × List ByteArray) :=
  bd (F_slices_partialInsertionSortOrdered_string_L1 fu x1 x2 fu x0 (iadd .i64 x1 1) 0) fun s1 =>
  lr s1 fun s1 =>
  some (false, s1.1)
theorem F_slices_partialInsertionSortOrdered_string_w {fu : Nat} {H : AH} {B : Nat → Prop} {v0 : Value} {x0 : List ByteArray} {x1 : Int} {x2 : Int} {r : (Bool × List ByteArray)} (hB : Up B H.length) (S0 : Sep H B [flat v0 9 (strs x0)]) (hF : F_slices_partialInsertionSortOrdered_string fu x0 x1 x2 = some r) :
    ACallT Try.prog 170 [v0, (Value.int .i64 x1), (Value.int .i64 x2)] H (fun u G => AgB B H G ∧ u = (Value.bool r.1) ∧ Sep G B [flat v0 9 (strs r.2)]) := by
  refine ACallT.of_body (nt := 133) (rs := [.tmp 6]) Try.func170 rfl rfl rfl rfl ?_
  have A0 : AgB B H H := .refl _ _
  unfold F_slices_partialInsertionSortOrdered_string at hF
  refine DWp.seq ?_
  refine DWp.region fun K hK => ?_
  simp [-aBin', -aBin, -aBinI, -aUn, -aNil, -flatV, n_fn, b_add, b_sub, b_mul, b_lt, b_le, b_gt, b_ge, b_eq, b_ne, u_not]
  apply hK
  clear hK K
  simp only [andThen, leaves]
  refine DWp.seq ?_
  refine DWp.region fun K hK => ?_
  simp [-aBin', -aBin, -aBinI, -aUn, -aNil, -flatV, n_fn, b_add, b_sub, b_mul, b_lt, b_le, b_gt, b_ge, b_eq, b_ne, u_not]
  apply hK
  clear hK K
  simp only [andThen, leaves]
  refine DWp.seq ?_
  refine DWp.seq ?_
  refine DWp.region fun K hK => ?_
  simp [-aBin', -aBin, -aBinI, -aUn, -aNil, -flatV, n_fn, b_add, b_sub, b_mul, b_lt, b_le, b_gt, b_ge, b_eq, b_ne, u_not]
  apply hK
  clear hK K
  simp only [andThen, leaves]
  refine DWp.block ?_
  obtain ⟨s1, hL2, hF⟩ := bd_some hF
  have S3 := S0.pick [0] (by decide) rfl
  refine DWp.loop (fun n env G => ∃ l1_0 : List ByteArray, ∃ y1_7 : Int, ∃ y1_8 : Int, F_slices_partialInsertionSortOrdered_string_L1 fu x1 x2 n l1_0 y1_7 y1_8 = some s1 ∧ Sep G B [flat v0 9 (strs l1_0)] ∧ AgB B H G ∧ env 0 = some v0 ∧ env 1 = some (Value.int .i64 x1) ∧ env 2 = some (Value.int .i64 x2) ∧ env 7 = some (Value.int .i64 y1_7) ∧ env 8 = some (Value.int .i64 y1_8)) fu ⟨x0, (iadd .i64 x1 1), 0, hL2, S3, A0, by simp [], by simp [], by simp [], by simp [], by simp []⟩ ?_
  rintro n1 env1 G1_ ⟨l1_0, y1_7, y1_8, hL2, S1_, A1_, e1_0, e1_1, e1_2, e1_7, e1_8⟩
  cases n1 with
  | zero => cases hL2
  | succ n1 =>
    simp only [F_slices_partialInsertionSortOrdered_string_L1] at hL2
    refine DWp.seq ?_
    refine DWp.seq ?_
    refine DWp.region fun K hK => ?_
    simp [-aBin', -aBin, -aBinI, -aUn, -aNil, -flatV, n_fn, b_add, b_sub, b_mul, b_lt, b_le, b_gt, b_ge, b_eq, b_ne, u_not, e1_0, e1_1, e1_2, e1_7, e1_8]
    apply hK
    clear hK K
    simp only [andThen, leaves]
    refine DWp.cond' (t := (ilt y1_8 5)) (by simp [e1_0, e1_1, e1_2, e1_7, e1_8]) (fun hb4 => ?_) (fun hb4 => ?_)
    · replace hL2 := cd_t hb4 hL2
      refine DWp.skip ?_
      simp only [andThen, leaves]
      refine DWp.seq ?_
      refine DWp.block ?_
      obtain ⟨s5, hL6, hL2⟩ := bd_some hL2
      refine DWp.seq (DWp.join (fun env G => Sep G B [flat v0 9 (strs l1_0)] ∧ AgB B H G ∧ env 0 = some v0 ∧ env 1 = some (Value.int .i64 x1) ∧ env 2 = some (Value.int .i64 x2) ∧ env 7 = some (Value.int .i64 s5) ∧ env 8 = some (Value.int .i64 y1_8)) ?_ ?_)
      ·
        refine DWp.block ?_
        obtain ⟨s8, hL9, hL6⟩ := bd_some hL6
        have S10 := S1_.pick [0] (by decide) rfl
        refine DWp.loop (fun n env G => ∃ y2_7 : Int, F_slices_partialInsertionSortOrdered_string_L2 fu l1_0 x1 x2 y1_8 n y2_7 = some s8 ∧ Sep G B [flat v0 9 (strs l1_0)] ∧ AgB B H G ∧ env 0 = some v0 ∧ env 1 = some (Value.int .i64 x1) ∧ env 2 = some (Value.int .i64 x2) ∧ env 7 = some (Value.int .i64 y2_7) ∧ env 8 = some (Value.int .i64 y1_8)) fu ⟨y1_7, hL9, S10, A1_, by simp [e1_0, e1_1, e1_2, e1_7, e1_8], by simp [e1_0, e1_1, e1_2, e1_7, e1_8], by simp [e1_0, e1_1, e1_2, e1_7, e1_8], by simp [e1_0, e1_1, e1_2, e1_7, e1_8], by simp [e1_0, e1_1, e1_2, e1_7, e1_8]⟩ ?_
        rintro n3 env3 G3_ ⟨y2_7, hL9, S3_, A3_, e3_0, e3_1, e3_2, e3_7, e3_8⟩
        cases n3 with
        | zero => cases hL9
        | succ n3 =>
          simp only [F_slices_partialInsertionSortOrdered_string_L2] at hL9
          refine DWp.seq ?_
          refine DWp.seq ?_
          rcases Bool.eq_false_or_eq_true (ilt y2_7 x2) with hb11 | hb11
          · replace hL9 := cd_t hb11 hL9
            obtain ⟨g12, hL9⟩ := gd_some hL9
            have q13 := idxG (P := Try.prog) (kk := .i64) (S3_.sl (k := 0) rfl) el_59 sz_9 g12
            have q14 := loadG (P := Try.prog) (S3_.sl (k := 0) rfl) sz_9 ag_9 g12 (ByteArray.mk #[])
            obtain ⟨g15, hL9⟩ := gd_some hL9
            have q16 := idxG (P := Try.prog) (kk := .i64) (S3_.sl (k := 0) rfl) el_59 sz_9 g15
            have q17 := loadG (P := Try.prog) (S3_.sl (k := 0) rfl) sz_9 ag_9 g15 (ByteArray.mk #[])
            obtain ⟨r1, hc18, hL9⟩ := bd_some hL9
            refine DWp.drawn (B := [0, 0, 3, 7, 15, 15, 63, 127, 15, 15, 527, 1807, 3855, 8191, 16383, 32767]) 16 mixed (by kernel_rfl) (by decide) fun K hK => ?_
            simp [-aBin', -aBin, -aBinI, -aUn, -aNil, -flatV, n_fn, b_add, b_sub, b_mul, b_lt, b_le, b_gt, b_ge, b_eq, b_ne, u_not, e3_0, e3_1, e3_2, e3_7, e3_8, hb11, q13, q14, q16, q17]
            refine CallD.t (F_cmp_Less_string_w (fu := fu)  hc18) ?_
            rintro _ G20 ⟨a23, rfl, S24⟩
            have A22 := A3_.ext (hB.le A3_.1) a23.agree
            have S21 : Sep G20 B [flat v0 9 (strs l1_0)] := S3_.app a23.agree S24 (fun _ h => h) (hB.le A3_.1)
            simp [-aBin', -aBin, -aBinI, -aUn, -aNil, -flatV, n_fn, b_add, b_sub, b_mul, b_lt, b_le, b_gt, b_ge, b_eq, b_ne, u_not, e3_0, e3_1, e3_2, e3_7, e3_8, hb11, q13, q14, q16, q17, a23.pre]
            apply hK
            clear hK K
            simp only [andThen, leaves]
            refine DWp.cond' (t := (bnot r1)) (by simp [e3_0, e3_1, e3_2, e3_7, e3_8]) (fun hb25 => ?_) (fun hb25 => ?_)
            · replace hL9 := cd_t hb25 hL9
              refine DWp.skip ?_
              simp only [andThen, leaves]
              refine DWp.block ?_
              refine DWp.region fun K hK => ?_
              simp [-aBin', -aBin, -aBinI, -aUn, -aNil, -flatV, n_fn, b_add, b_sub, b_mul, b_lt, b_le, b_gt, b_ge, b_eq, b_ne, u_not, e3_0, e3_1, e3_2, e3_7, e3_8]
              apply hK
              clear hK K
              simp only [andThen, leaves]
              have S26 := S21.pick [0] (by decide) rfl
              exact ⟨n3, Nat.lt_succ_self _, (iadd .i64 y2_7 1), hL9, S26, A22, by simp [e3_0, e3_1, e3_2, e3_7, e3_8], by simp [e3_0, e3_1, e3_2, e3_7, e3_8], by simp [e3_0, e3_1, e3_2, e3_7, e3_8], by simp [e3_0, e3_1, e3_2, e3_7, e3_8], by simp [e3_0, e3_1, e3_2, e3_7, e3_8]⟩
            · replace hL9 := cd_f hb25 hL9
              refine DWp.exit ?_
              simp only [andThen, leaves, if_true, if_false, reduceIte, Nat.reduceEqDiff]
              obtain rfl := Option.some.inj hL9
              have S27 := S21.pick [0] (by decide) rfl
              obtain rfl := Option.some.inj hL6
              exact ⟨S27, A22, by simp [e3_0, e3_1, e3_2, e3_7, e3_8], by simp [e3_0, e3_1, e3_2, e3_7, e3_8], by simp [e3_0, e3_1, e3_2, e3_7, e3_8], by simp [e3_0, e3_1, e3_2, e3_7, e3_8], by simp [e3_0, e3_1, e3_2, e3_7, e3_8]⟩
          · replace hL9 := cd_f hb11 hL9
            refine DWp.drawn (B := [0, 0, 3, 7, 15, 15, 63, 127, 15, 15, 527, 1807, 3855, 8191, 16383, 32767]) 16 mixed (by kernel_rfl) (by decide) fun K hK => ?_
            simp [-aBin', -aBin, -aBinI, -aUn, -aNil, -flatV, n_fn, b_add, b_sub, b_mul, b_lt, b_le, b_gt, b_ge, b_eq, b_ne, u_not, e3_0, e3_1, e3_2, e3_7, e3_8, hb11]
            apply hK
            clear hK K
            simp only [andThen, leaves]
            refine DWp.cf (by simp [e3_0, e3_1, e3_2, e3_7, e3_8, bnot]) ?_
            refine DWp.exit ?_
            simp only [andThen, leaves, if_true, if_false, reduceIte, Nat.reduceEqDiff]
            obtain rfl := Option.some.inj hL9
            have S28 := S3_.pick [0] (by decide) rfl
            obtain rfl := Option.some.inj hL6
            exact ⟨S28, A3_, by simp [e3_0, e3_1, e3_2, e3_7, e3_8], by simp [e3_0, e3_1, e3_2, e3_7, e3_8], by simp [e3_0, e3_1, e3_2, e3_7, e3_8], by simp [e3_0, e3_1, e3_2, e3_7, e3_8], by simp [e3_0, e3_1, e3_2, e3_7, e3_8]⟩
      · rintro env Gj29 ⟨Sj29, Aj29, ej29_0, ej29_1, ej29_2, ej29_7, ej29_8⟩
        refine DWp.seq ?_
        refine DWp.seq ?_
        refine DWp.region fun K hK => ?_
        simp [-aBin', -aBin, -aBinI, -aUn, -aNil, -flatV, n_fn, b_add, b_sub, b_mul, b_lt, b_le, b_gt, b_ge, b_eq, b_ne, u_not, ej29_0, ej29_1, ej29_2, ej29_7, ej29_8]
        apply hK
        clear hK K
        simp only [andThen, leaves]
        refine DWp.cond' (t := (ieq s5 x2)) (by simp [ej29_0, ej29_1, ej29_2, ej29_7, ej29_8]) (fun hb30 => ?_) (fun hb30 => ?_)
        · replace hL2 := cd_t hb30 hL2
          refine DWp.seq ?_
          refine DWp.region fun K hK => ?_
          simp [-aBin', -aBin, -aBinI, -aUn, -aNil, -flatV, n_fn, b_add, b_sub, b_mul, b_lt, b_le, b_gt, b_ge, b_eq, b_ne, u_not, ej29_0, ej29_1, ej29_2, ej29_7, ej29_8]
          apply hK
          clear hK K
          simp only [andThen, leaves]
          refine DWp.ret ?_
          simp only [andThen, leaves]
          obtain rfl := Option.some.inj hL2
          simp only [lr] at hF
          obtain rfl := Option.some.inj hF
          exact ⟨by simp, [(Value.bool true)], by simp [ej29_0, ej29_1, ej29_2, ej29_7, ej29_8], Aj29, rfl, Sj29.pick [0] (by decide) rfl⟩
        · replace hL2 := cd_f hb30 hL2
          refine DWp.skip ?_
          simp only [andThen, leaves]
          refine DWp.seq ?_
          refine DWp.seq ?_
          refine DWp.region fun K hK => ?_
          simp [-aBin', -aBin, -aBinI, -aUn, -aNil, -flatV, n_fn, b_add, b_sub, b_mul, b_lt, b_le, b_gt, b_ge, b_eq, b_ne, u_not, ej29_0, ej29_1, ej29_2, ej29_7, ej29_8]
          apply hK
          clear hK K
          simp only [andThen, leaves]
          refine DWp.cond' (t := (ilt (isub .i64 x2 x1) 50)) (by simp [ej29_0, ej29_1, ej29_2, ej29_7, ej29_8]) (fun hb31 => ?_) (fun hb31 => ?_)
          · replace hL2 := cd_t hb31 hL2
            refine DWp.seq ?_
            refine DWp.region fun K hK => ?_
            simp [-aBin', -aBin, -aBinI, -aUn, -aNil, -flatV, n_fn, b_add, b_sub, b_mul, b_lt, b_le, b_gt, b_ge, b_eq, b_ne, u_not, ej29_0, ej29_1, ej29_2, ej29_7, ej29_8]
            apply hK
            clear hK K
            simp only [andThen, leaves]
            refine DWp.ret ?_
            simp only [andThen, leaves]
            obtain rfl := Option.some.inj hL2
            simp only [lr] at hF
            obtain rfl := Option.some.inj hF
            exact ⟨by simp, [(Value.bool false)], by simp [ej29_0, ej29_1, ej29_2, ej29_7, ej29_8], Aj29, rfl, Sj29.pick [0] (by decide) rfl⟩
          · replace hL2 := cd_f hb31 hL2
            refine DWp.skip ?_
            simp only [andThen, leaves]
            refine DWp.seq ?_
            obtain ⟨g32, hL2⟩ := gd_some hL2
            have q33 := idxG (P := Try.prog) (kk := .i64) (Sj29.sl (k := 0) rfl) el_59 sz_9 g32
            have q34 := loadG (P := Try.prog) (Sj29.sl (k := 0) rfl) sz_9 ag_9 g32 (ByteArray.mk #[])
            obtain ⟨g35, hL2⟩ := gd_some hL2
            have q36 := idxG (P := Try.prog) (kk := .i64) (Sj29.sl (k := 0) rfl) el_59 sz_9 g35
            have q37 := loadG (P := Try.prog) (Sj29.sl (k := 0) rfl) sz_9 ag_9 g35 (ByteArray.mk #[])
            obtain ⟨g38, hL2⟩ := gd_some hL2
            have q39 := idxG (P := Try.prog) (kk := .i64) (Sj29.sl (k := 0) rfl) el_59 sz_9 g38
            obtain ⟨G40, q41, S42, a44⟩ := Sj29.storeG (f := Value.string) (P := Try.prog) (k := 0) (x := (gat (ByteArray.mk #[]) l1_0 (isub .i64 s5 1))) rfl (hB.le Aj29.1) sz_9 g38 rfl rfl
            have A43 := Aj29.trans a44
            replace S42 : Sep G40 B [flat v0 9 (strs (lset l1_0 s5 (gat (ByteArray.mk #[]) l1_0 (isub .i64 s5 1))))] := S42
            obtain ⟨g45, hL2⟩ := gd_some hL2
            have q46 := idxG (P := Try.prog) (kk := .i64) (S42.sl (k := 0) rfl) el_59 sz_9 g45
            obtain ⟨G47, q48, S49, a51⟩ := S42.storeG (f := Value.string) (P := Try.prog) (k := 0) (x := (gat (ByteArray.mk #[]) l1_0 s5)) rfl (hB.le A43.1) sz_9 g45 rfl rfl
            have A50 := A43.trans a51
            replace S49 : Sep G47 B [flat v0 9 (strs (lset (lset l1_0 s5 (gat (ByteArray.mk #[]) l1_0 (isub .i64 s5 1))) (isub .i64 s5 1) (gat (ByteArray.mk #[]) l1_0 s5)))] := S49
            refine DWp.drawn (B := [0, 0, 0, 0, 8, 0, 0, 64, 224, 480, 0, 0, 3072, 7168, 16355, 32739, 65535, 131071]) 15 mixed (by kernel_rfl) (by decide) fun K hK => ?_
            simp [-aBin', -aBin, -aBinI, -aUn, -aNil, -flatV, n_fn, b_add, b_sub, b_mul, b_lt, b_le, b_gt, b_ge, b_eq, b_ne, u_not, ej29_0, ej29_1, ej29_2, ej29_7, ej29_8, q33, q34, q36, q37, q39, q41, q46, q48]
            apply hK
            clear hK K
            simp only [andThen, leaves]
            obtain ⟨s52, hL53, hL2⟩ := bd_some hL2
            refine DWp.seq (DWp.join (fun env G => Sep G B [flat v0 9 (strs s52)] ∧ AgB B H G ∧ env 0 = some v0 ∧ env 1 = some (Value.int .i64 x1) ∧ env 2 = some (Value.int .i64 x2) ∧ env 7 = some (Value.int .i64 s5) ∧ env 8 = some (Value.int .i64 y1_8)) ?_ ?_)
            ·
              refine DWp.seq ?_
              refine DWp.region fun K hK => ?_
              simp [-aBin', -aBin, -aBinI, -aUn, -aNil, -flatV, n_fn, b_add, b_sub, b_mul, b_lt, b_le, b_gt, b_ge, b_eq, b_ne, u_not, ej29_0, ej29_1, ej29_2, ej29_7, ej29_8]
              apply hK
              clear hK K
              simp only [andThen, leaves]
              refine DWp.cond' (t := (ile 2 (isub .i64 s5 x1))) (by simp [ej29_0, ej29_1, ej29_2, ej29_7, ej29_8]) (fun hb55 => ?_) (fun hb55 => ?_)
              · replace hL53 := cd_t hb55 hL53
                refine DWp.seq ?_
                refine DWp.region fun K hK => ?_
                simp [-aBin', -aBin, -aBinI, -aUn, -aNil, -flatV, n_fn, b_add, b_sub, b_mul, b_lt, b_le, b_gt, b_ge, b_eq, b_ne, u_not, ej29_0, ej29_1, ej29_2, ej29_7, ej29_8]
                apply hK
                clear hK K
                simp only [andThen, leaves]
                refine DWp.block ?_
                obtain ⟨s56, hL57, hL53⟩ := bd_some hL53
                have S58 := S49.pick [0] (by decide) rfl
                refine DWp.loop (fun n env G => ∃ l3_0 : List ByteArray, ∃ y3_9 : Int, F_slices_partialInsertionSortOrdered_string_L3 fu x1 x2 s5 y1_8 n l3_0 y3_9 = some s56 ∧ Sep G B [flat v0 9 (strs l3_0)] ∧ AgB B H G ∧ env 0 = some v0 ∧ env 1 = some (Value.int .i64 x1) ∧ env 2 = some (Value.int .i64 x2) ∧ env 7 = some (Value.int .i64 s5) ∧ env 8 = some (Value.int .i64 y1_8) ∧ env 9 = some (Value.int .i64 y3_9)) fu ⟨(lset (lset l1_0 s5 (gat (ByteArray.mk #[]) l1_0 (isub .i64 s5 1))) (isub .i64 s5 1) (gat (ByteArray.mk #[]) l1_0 s5)), (isub .i64 s5 1), hL57, S58, A50, by simp [ej29_0, ej29_1, ej29_2, ej29_7, ej29_8], by simp [ej29_0, ej29_1, ej29_2, ej29_7, ej29_8], by simp [ej29_0, ej29_1, ej29_2, ej29_7, ej29_8], by simp [ej29_0, ej29_1, ej29_2, ej29_7, ej29_8], by simp [ej29_0, ej29_1, ej29_2, ej29_7, ej29_8], by simp [ej29_0, ej29_1, ej29_2, ej29_7, ej29_8]⟩ ?_
                rintro n3 env3 G3_ ⟨l3_0, y3_9, hL57, S3_, A3_, e3_0, e3_1, e3_2, e3_7, e3_8, e3_9⟩
                cases n3 with
                | zero => cases hL57
                | succ n3 =>
                  simp only [F_slices_partialInsertionSortOrdered_string_L3] at hL57
                  refine DWp.seq ?_
                  refine DWp.seq ?_
                  refine DWp.region fun K hK => ?_
                  simp [-aBin', -aBin, -aBinI, -aUn, -aNil, -flatV, n_fn, b_add, b_sub, b_mul, b_lt, b_le, b_gt, b_ge, b_eq, b_ne, u_not, e3_0, e3_1, e3_2, e3_7, e3_8, e3_9]
                  apply hK
                  clear hK K
                  simp only [andThen, leaves]
                  refine DWp.cond' (t := (ile 1 y3_9)) (by simp [e3_0, e3_1, e3_2, e3_7, e3_8, e3_9]) (fun hb59 => ?_) (fun hb59 => ?_)
                  · replace hL57 := cd_t hb59 hL57
                    refine DWp.skip ?_
                    simp only [andThen, leaves]
                    refine DWp.seq ?_
                    refine DWp.block ?_
                    refine DWp.seq ?_
                    refine DWp.seq ?_
                    obtain ⟨g60, hL57⟩ := gd_some hL57
                    have q61 := idxG (P := Try.prog) (kk := .i64) (S3_.sl (k := 0) rfl) el_59 sz_9 g60
                    have q62 := loadG (P := Try.prog) (S3_.sl (k := 0) rfl) sz_9 ag_9 g60 (ByteArray.mk #[])
                    obtain ⟨g63, hL57⟩ := gd_some hL57
                    have q64 := idxG (P := Try.prog) (kk := .i64) (S3_.sl (k := 0) rfl) el_59 sz_9 g63
                    have q65 := loadG (P := Try.prog) (S3_.sl (k := 0) rfl) sz_9 ag_9 g63 (ByteArray.mk #[])
                    obtain ⟨r2, hc66, hL57⟩ := bd_some hL57
                    refine DWp.drawn (B := [0, 0, 3, 7, 0, 0, 32, 112, 240, 511, 1023]) 11 mixed (by kernel_rfl) (by decide) fun K hK => ?_
                    simp [-aBin', -aBin, -aBinI, -aUn, -aNil, -flatV, n_fn, b_add, b_sub, b_mul, b_lt, b_le, b_gt, b_ge, b_eq, b_ne, u_not, e3_0, e3_1, e3_2, e3_7, e3_8, e3_9, q61, q62, q64, q65]
                    refine CallD.t (F_cmp_Less_string_w (fu := fu)  hc66) ?_
                    rintro _ G68 ⟨a71, rfl, S72⟩
                    have A70 := A3_.ext (hB.le A3_.1) a71.agree
                    have S69 : Sep G68 B [flat v0 9 (strs l3_0)] := S3_.app a71.agree S72 (fun _ h => h) (hB.le A3_.1)
                    simp [-aBin', -aBin, -aBinI, -aUn, -aNil, -flatV, n_fn, b_add, b_sub, b_mul, b_lt, b_le, b_gt, b_ge, b_eq, b_ne, u_not, e3_0, e3_1, e3_2, e3_7, e3_8, e3_9, q61, q62, q64, q65, a71.pre]
                    apply hK
                    clear hK K
                    simp only [andThen, leaves]
                    refine DWp.cond' (t := (bnot r2)) (by simp [e3_0, e3_1, e3_2, e3_7, e3_8, e3_9]) (fun hb73 => ?_) (fun hb73 => ?_)
                    · replace hL57 := cd_t hb73 hL57
                      refine DWp.exit ?_
                      simp only [andThen, leaves, if_true, if_false, reduceIte, Nat.reduceEqDiff]
                      obtain rfl := Option.some.inj hL57
                      try dsimp only at hL53
                      have S74 := S69.pick [0] (by decide) rfl
                      obtain rfl := Option.some.inj hL53
                      exact ⟨S74, A70, by simp [e3_0, e3_1, e3_2, e3_7, e3_8, e3_9], by simp [e3_0, e3_1, e3_2, e3_7, e3_8, e3_9], by simp [e3_0, e3_1, e3_2, e3_7, e3_8, e3_9], by simp [e3_0, e3_1, e3_2, e3_7, e3_8, e3_9], by simp [e3_0, e3_1, e3_2, e3_7, e3_8, e3_9]⟩
                    · replace hL57 := cd_f hb73 hL57
                      refine DWp.skip ?_
                      simp only [andThen, leaves]
                      obtain ⟨g75, hL57⟩ := gd_some hL57
                      have q76 := idxG (P := Try.prog) (kk := .i64) (S69.sl (k := 0) rfl) el_59 sz_9 g75
                      have q77 := loadG (P := Try.prog) (S69.sl (k := 0) rfl) sz_9 ag_9 g75 (ByteArray.mk #[])
                      obtain ⟨g78, hL57⟩ := gd_some hL57
                      have q79 := idxG (P := Try.prog) (kk := .i64) (S69.sl (k := 0) rfl) el_59 sz_9 g78
                      have q80 := loadG (P := Try.prog) (S69.sl (k := 0) rfl) sz_9 ag_9 g78 (ByteArray.mk #[])
                      obtain ⟨g81, hL57⟩ := gd_some hL57
                      have q82 := idxG (P := Try.prog) (kk := .i64) (S69.sl (k := 0) rfl) el_59 sz_9 g81
                      obtain ⟨G83, q84, S85, a87⟩ := S69.storeG (f := Value.string) (P := Try.prog) (k := 0) (x := (gat (ByteArray.mk #[]) l3_0 (isub .i64 y3_9 1))) rfl (hB.le A70.1) sz_9 g81 rfl rfl
                      have A86 := A70.trans a87
                      replace S85 : Sep G83 B [flat v0 9 (strs (lset l3_0 y3_9 (gat (ByteArray.mk #[]) l3_0 (isub .i64 y3_9 1))))] := S85
                      obtain ⟨g88, hL57⟩ := gd_some hL57
                      have q89 := idxG (P := Try.prog) (kk := .i64) (S85.sl (k := 0) rfl) el_59 sz_9 g88
                      obtain ⟨G90, q91, S92, a94⟩ := S85.storeG (f := Value.string) (P := Try.prog) (k := 0) (x := (gat (ByteArray.mk #[]) l3_0 y3_9)) rfl (hB.le A86.1) sz_9 g88 rfl rfl
                      have A93 := A86.trans a94
                      replace S92 : Sep G90 B [flat v0 9 (strs (lset (lset l3_0 y3_9 (gat (ByteArray.mk #[]) l3_0 (isub .i64 y3_9 1))) (isub .i64 y3_9 1) (gat (ByteArray.mk #[]) l3_0 y3_9)))] := S92
                      refine DWp.drawn (B := [0, 0, 0, 0, 8, 0, 0, 64, 224, 480, 0, 0, 3072, 7168, 16355, 32739, 65535, 131071]) 15 mixed (by kernel_rfl) (by decide) fun K hK => ?_
                      simp [-aBin', -aBin, -aBinI, -aUn, -aNil, -flatV, n_fn, b_add, b_sub, b_mul, b_lt, b_le, b_gt, b_ge, b_eq, b_ne, u_not, e3_0, e3_1, e3_2, e3_7, e3_8, e3_9, q76, q77, q79, q80, q82, q84, q89, q91]
                      apply hK
                      clear hK K
                      simp only [andThen, leaves]
                      refine DWp.region fun K hK => ?_
                      simp [-aBin', -aBin, -aBinI, -aUn, -aNil, -flatV, n_fn, b_add, b_sub, b_mul, b_lt, b_le, b_gt, b_ge, b_eq, b_ne, u_not, e3_0, e3_1, e3_2, e3_7, e3_8, e3_9]
                      apply hK
                      clear hK K
                      simp only [andThen, leaves]
                      have S95 := S92.pick [0] (by decide) rfl
                      exact ⟨n3, Nat.lt_succ_self _, (lset (lset l3_0 y3_9 (gat (ByteArray.mk #[]) l3_0 (isub .i64 y3_9 1))) (isub .i64 y3_9 1) (gat (ByteArray.mk #[]) l3_0 y3_9)), (isub .i64 y3_9 1), hL57, S95, A93, by simp [e3_0, e3_1, e3_2, e3_7, e3_8, e3_9], by simp [e3_0, e3_1, e3_2, e3_7, e3_8, e3_9], by simp [e3_0, e3_1, e3_2, e3_7, e3_8, e3_9], by simp [e3_0, e3_1, e3_2, e3_7, e3_8, e3_9], by simp [e3_0, e3_1, e3_2, e3_7, e3_8, e3_9], by simp [e3_0, e3_1, e3_2, e3_7, e3_8, e3_9]⟩
                  · replace hL57 := cd_f hb59 hL57
                    refine DWp.exit ?_
                    simp only [andThen, leaves, if_true, if_false, reduceIte, Nat.reduceEqDiff]
                    obtain rfl := Option.some.inj hL57
                    try dsimp only at hL53
                    have S96 := S3_.pick [0] (by decide) rfl
                    obtain rfl := Option.some.inj hL53
                    exact ⟨S96, A3_, by simp [e3_0, e3_1, e3_2, e3_7, e3_8, e3_9], by simp [e3_0, e3_1, e3_2, e3_7, e3_8, e3_9], by simp [e3_0, e3_1, e3_2, e3_7, e3_8, e3_9], by simp [e3_0, e3_1, e3_2, e3_7, e3_8, e3_9], by simp [e3_0, e3_1, e3_2, e3_7, e3_8, e3_9]⟩
              · replace hL53 := cd_f hb55 hL53
                refine DWp.skip ?_
                simp only [andThen, leaves]
                have S97 := S49.pick [0] (by decide) rfl
                obtain rfl := Option.some.inj hL53
                exact ⟨S97, A50, by simp [ej29_0, ej29_1, ej29_2, ej29_7, ej29_8], by simp [ej29_0, ej29_1, ej29_2, ej29_7, ej29_8], by simp [ej29_0, ej29_1, ej29_2, ej29_7, ej29_8], by simp [ej29_0, ej29_1, ej29_2, ej29_7, ej29_8], by simp [ej29_0, ej29_1, ej29_2, ej29_7, ej29_8]⟩
            · rintro env Gj98 ⟨Sj98, Aj98, ej98_0, ej98_1, ej98_2, ej98_7, ej98_8⟩
              refine DWp.seq ?_
              refine DWp.region fun K hK => ?_
              simp [-aBin', -aBin, -aBinI, -aUn, -aNil, -flatV, n_fn, b_add, b_sub, b_mul, b_lt, b_le, b_gt, b_ge, b_eq, b_ne, u_not, ej98_0, ej98_1, ej98_2, ej98_7, ej98_8]
              apply hK
              clear hK K
              simp only [andThen, leaves]
              refine DWp.cond' (t := (ile 2 (isub .i64 x2 s5))) (by simp [ej98_0, ej98_1, ej98_2, ej98_7, ej98_8]) (fun hb99 => ?_) (fun hb99 => ?_)
              · replace hL2 := cd_t hb99 hL2
                refine DWp.seq ?_
                refine DWp.region fun K hK => ?_
                simp [-aBin', -aBin, -aBinI, -aUn, -aNil, -flatV, n_fn, b_add, b_sub, b_mul, b_lt, b_le, b_gt, b_ge, b_eq, b_ne, u_not, ej98_0, ej98_1, ej98_2, ej98_7, ej98_8]
                apply hK
                clear hK K
                simp only [andThen, leaves]
                refine DWp.block ?_
                obtain ⟨s100, hL101, hL2⟩ := bd_some hL2
                have S102 := Sj98.pick [0] (by decide) rfl
                refine DWp.loop (fun n env G => ∃ l4_0 : List ByteArray, ∃ y4_10 : Int, F_slices_partialInsertionSortOrdered_string_L4 fu x1 x2 s5 y1_8 n l4_0 y4_10 = some s100 ∧ Sep G B [flat v0 9 (strs l4_0)] ∧ AgB B H G ∧ env 0 = some v0 ∧ env 1 = some (Value.int .i64 x1) ∧ env 2 = some (Value.int .i64 x2) ∧ env 7 = some (Value.int .i64 s5) ∧ env 8 = some (Value.int .i64 y1_8) ∧ env 10 = some (Value.int .i64 y4_10)) fu ⟨s52, (iadd .i64 s5 1), hL101, S102, Aj98, by simp [ej98_0, ej98_1, ej98_2, ej98_7, ej98_8], by simp [ej98_0, ej98_1, ej98_2, ej98_7, ej98_8], by simp [ej98_0, ej98_1, ej98_2, ej98_7, ej98_8], by simp [ej98_0, ej98_1, ej98_2, ej98_7, ej98_8], by simp [ej98_0, ej98_1, ej98_2, ej98_7, ej98_8], by simp [ej98_0, ej98_1, ej98_2, ej98_7, ej98_8]⟩ ?_
                rintro n2 env2 G2_ ⟨l4_0, y4_10, hL101, S2_, A2_, e2_0, e2_1, e2_2, e2_7, e2_8, e2_10⟩
                cases n2 with
                | zero => cases hL101
                | succ n2 =>
                  simp only [F_slices_partialInsertionSortOrdered_string_L4] at hL101
                  refine DWp.seq ?_
                  refine DWp.seq ?_
                  refine DWp.region fun K hK => ?_
                  simp [-aBin', -aBin, -aBinI, -aUn, -aNil, -flatV, n_fn, b_add, b_sub, b_mul, b_lt, b_le, b_gt, b_ge, b_eq, b_ne, u_not, e2_0, e2_1, e2_2, e2_7, e2_8, e2_10]
                  apply hK
                  clear hK K
                  simp only [andThen, leaves]
                  refine DWp.cond' (t := (ilt y4_10 x2)) (by simp [e2_0, e2_1, e2_2, e2_7, e2_8, e2_10]) (fun hb103 => ?_) (fun hb103 => ?_)
                  · replace hL101 := cd_t hb103 hL101
                    refine DWp.skip ?_
                    simp only [andThen, leaves]
                    refine DWp.seq ?_
                    refine DWp.block ?_
                    refine DWp.seq ?_
                    refine DWp.seq ?_
                    obtain ⟨g104, hL101⟩ := gd_some hL101
                    have q105 := idxG (P := Try.prog) (kk := .i64) (S2_.sl (k := 0) rfl) el_59 sz_9 g104
                    have q106 := loadG (P := Try.prog) (S2_.sl (k := 0) rfl) sz_9 ag_9 g104 (ByteArray.mk #[])
                    obtain ⟨g107, hL101⟩ := gd_some hL101
                    have q108 := idxG (P := Try.prog) (kk := .i64) (S2_.sl (k := 0) rfl) el_59 sz_9 g107
                    have q109 := loadG (P := Try.prog) (S2_.sl (k := 0) rfl) sz_9 ag_9 g107 (ByteArray.mk #[])
                    obtain ⟨r3, hc110, hL101⟩ := bd_some hL101
                    refine DWp.drawn (B := [0, 0, 3, 7, 0, 0, 32, 112, 240, 511, 1023]) 11 mixed (by kernel_rfl) (by decide) fun K hK => ?_
                    simp [-aBin', -aBin, -aBinI, -aUn, -aNil, -flatV, n_fn, b_add, b_sub, b_mul, b_lt, b_le, b_gt, b_ge, b_eq, b_ne, u_not, e2_0, e2_1, e2_2, e2_7, e2_8, e2_10, q105, q106, q108, q109]
                    refine CallD.t (F_cmp_Less_string_w (fu := fu)  hc110) ?_
                    rintro _ G112 ⟨a115, rfl, S116⟩
                    have A114 := A2_.ext (hB.le A2_.1) a115.agree
                    have S113 : Sep G112 B [flat v0 9 (strs l4_0)] := S2_.app a115.agree S116 (fun _ h => h) (hB.le A2_.1)
                    simp [-aBin', -aBin, -aBinI, -aUn, -aNil, -flatV, n_fn, b_add, b_sub, b_mul, b_lt, b_le, b_gt, b_ge, b_eq, b_ne, u_not, e2_0, e2_1, e2_2, e2_7, e2_8, e2_10, q105, q106, q108, q109, a115.pre]
                    apply hK
                    clear hK K
                    simp only [andThen, leaves]
                    refine DWp.cond' (t := (bnot r3)) (by simp [e2_0, e2_1, e2_2, e2_7, e2_8, e2_10]) (fun hb117 => ?_) (fun hb117 => ?_)
                    · replace hL101 := cd_t hb117 hL101
                      refine DWp.exit ?_
                      simp only [andThen, leaves, if_true, if_false, reduceIte, Nat.reduceEqDiff]
                      obtain rfl := Option.some.inj hL101
                      try dsimp only at hL2
                      refine DWp.region fun K hK => ?_
                      simp [-aBin', -aBin, -aBinI, -aUn, -aNil, -flatV, n_fn, b_add, b_sub, b_mul, b_lt, b_le, b_gt, b_ge, b_eq, b_ne, u_not, e2_0, e2_1, e2_2, e2_7, e2_8, e2_10]
                      apply hK
                      clear hK K
                      simp only [andThen, leaves]
                      have S118 := S113.pick [0] (by decide) rfl
                      exact ⟨n1, Nat.lt_succ_self _, l4_0, s5, (iadd .i64 y1_8 1), hL2, S118, A114, by simp [e2_0, e2_1, e2_2, e2_7, e2_8, e2_10], by simp [e2_0, e2_1, e2_2, e2_7, e2_8, e2_10], by simp [e2_0, e2_1, e2_2, e2_7, e2_8, e2_10], by simp [e2_0, e2_1, e2_2, e2_7, e2_8, e2_10], by simp [e2_0, e2_1, e2_2, e2_7, e2_8, e2_10]⟩
                    · replace hL101 := cd_f hb117 hL101
                      refine DWp.skip ?_
                      simp only [andThen, leaves]
                      obtain ⟨g119, hL101⟩ := gd_some hL101
                      have q120 := idxG (P := Try.prog) (kk := .i64) (S113.sl (k := 0) rfl) el_59 sz_9 g119
                      have q121 := loadG (P := Try.prog) (S113.sl (k := 0) rfl) sz_9 ag_9 g119 (ByteArray.mk #[])
                      obtain ⟨g122, hL101⟩ := gd_some hL101
                      have q123 := idxG (P := Try.prog) (kk := .i64) (S113.sl (k := 0) rfl) el_59 sz_9 g122
                      have q124 := loadG (P := Try.prog) (S113.sl (k := 0) rfl) sz_9 ag_9 g122 (ByteArray.mk #[])
                      obtain ⟨g125, hL101⟩ := gd_some hL101
                      have q126 := idxG (P := Try.prog) (kk := .i64) (S113.sl (k := 0) rfl) el_59 sz_9 g125
                      obtain ⟨G127, q128, S129, a131⟩ := S113.storeG (f := Value.string) (P := Try.prog) (k := 0) (x := (gat (ByteArray.mk #[]) l4_0 (isub .i64 y4_10 1))) rfl (hB.le A114.1) sz_9 g125 rfl rfl
                      have A130 := A114.trans a131
                      replace S129 : Sep G127 B [flat v0 9 (strs (lset l4_0 y4_10 (gat (ByteArray.mk #[]) l4_0 (isub .i64 y4_10 1))))] := S129
                      obtain ⟨g132, hL101⟩ := gd_some hL101
                      have q133 := idxG (P := Try.prog) (kk := .i64) (S129.sl (k := 0) rfl) el_59 sz_9 g132
                      obtain ⟨G134, q135, S136, a138⟩ := S129.storeG (f := Value.string) (P := Try.prog) (k := 0) (x := (gat (ByteArray.mk #[]) l4_0 y4_10)) rfl (hB.le A130.1) sz_9 g132 rfl rfl
                      have A137 := A130.trans a138
                      replace S136 : Sep G134 B [flat v0 9 (strs (lset (lset l4_0 y4_10 (gat (ByteArray.mk #[]) l4_0 (isub .i64 y4_10 1))) (isub .i64 y4_10 1) (gat (ByteArray.mk #[]) l4_0 y4_10)))] := S136
                      refine DWp.drawn (B := [0, 0, 0, 0, 8, 0, 0, 64, 224, 480, 0, 0, 3072, 7168, 16355, 32739, 65535, 131071]) 15 mixed (by kernel_rfl) (by decide) fun K hK => ?_
                      simp [-aBin', -aBin, -aBinI, -aUn, -aNil, -flatV, n_fn, b_add, b_sub, b_mul, b_lt, b_le, b_gt, b_ge, b_eq, b_ne, u_not, e2_0, e2_1, e2_2, e2_7, e2_8, e2_10, q120, q121, q123, q124, q126, q128, q133, q135]
                      apply hK
                      clear hK K
                      simp only [andThen, leaves]
                      refine DWp.region fun K hK => ?_
                      simp [-aBin', -aBin, -aBinI, -aUn, -aNil, -flatV, n_fn, b_add, b_sub, b_mul, b_lt, b_le, b_gt, b_ge, b_eq, b_ne, u_not, e2_0, e2_1, e2_2, e2_7, e2_8, e2_10]
                      apply hK
                      clear hK K
                      simp only [andThen, leaves]
                      have S139 := S136.pick [0] (by decide) rfl
                      exact ⟨n2, Nat.lt_succ_self _, (lset (lset l4_0 y4_10 (gat (ByteArray.mk #[]) l4_0 (isub .i64 y4_10 1))) (isub .i64 y4_10 1) (gat (ByteArray.mk #[]) l4_0 y4_10)), (iadd .i64 y4_10 1), hL101, S139, A137, by simp [e2_0, e2_1, e2_2, e2_7, e2_8, e2_10], by simp [e2_0, e2_1, e2_2, e2_7, e2_8, e2_10], by simp [e2_0, e2_1, e2_2, e2_7, e2_8, e2_10], by simp [e2_0, e2_1, e2_2, e2_7, e2_8, e2_10], by simp [e2_0, e2_1, e2_2, e2_7, e2_8, e2_10], by simp [e2_0, e2_1, e2_2, e2_7, e2_8, e2_10]⟩
                  · replace hL101 := cd_f hb103 hL101
                    refine DWp.exit ?_
                    simp only [andThen, leaves, if_true, if_false, reduceIte, Nat.reduceEqDiff]
                    obtain rfl := Option.some.inj hL101
                    try dsimp only at hL2
                    refine DWp.region fun K hK => ?_
                    simp [-aBin', -aBin, -aBinI, -aUn, -aNil, -flatV, n_fn, b_add, b_sub, b_mul, b_lt, b_le, b_gt, b_ge, b_eq, b_ne, u_not, e2_0, e2_1, e2_2, e2_7, e2_8, e2_10]
                    apply hK
                    clear hK K
                    simp only [andThen, leaves]
                    have S140 := S2_.pick [0] (by decide) rfl
                    exact ⟨n1, Nat.lt_succ_self _, l4_0, s5, (iadd .i64 y1_8 1), hL2, S140, A2_, by simp [e2_0, e2_1, e2_2, e2_7, e2_8, e2_10], by simp [e2_0, e2_1, e2_2, e2_7, e2_8, e2_10], by simp [e2_0, e2_1, e2_2, e2_7, e2_8, e2_10], by simp [e2_0, e2_1, e2_2, e2_7, e2_8, e2_10], by simp [e2_0, e2_1, e2_2, e2_7, e2_8, e2_10]⟩
              · replace hL2 := cd_f hb99 hL2
                refine DWp.skip ?_
                simp only [andThen, leaves]
                refine DWp.region fun K hK => ?_
                simp [-aBin', -aBin, -aBinI, -aUn, -aNil, -flatV, n_fn, b_add, b_sub, b_mul, b_lt, b_le, b_gt, b_ge, b_eq, b_ne, u_not, ej98_0, ej98_1, ej98_2, ej98_7, ej98_8]
                apply hK
                clear hK K
                simp only [andThen, leaves]
                have S141 := Sj98.pick [0] (by decide) rfl
                exact ⟨n1, Nat.lt_succ_self _, s52, s5, (iadd .i64 y1_8 1), hL2, S141, Aj98, by simp [ej98_0, ej98_1, ej98_2, ej98_7, ej98_8], by simp [ej98_0, ej98_1, ej98_2, ej98_7, ej98_8], by simp [ej98_0, ej98_1, ej98_2, ej98_7, ej98_8], by simp [ej98_0, ej98_1, ej98_2, ej98_7, ej98_8], by simp [ej98_0, ej98_1, ej98_2, ej98_7, ej98_8]⟩
    · replace hL2 := cd_f hb4 hL2
      refine DWp.exit ?_
      simp only [andThen, leaves, if_true, if_false, reduceIte, Nat.reduceEqDiff]
      obtain rfl := Option.some.inj hL2
      simp only [lr] at hF
      refine DWp.seq ?_
      refine DWp.region fun K hK => ?_
      simp [-aBin', -aBin, -aBinI, -aUn, -aNil, -flatV, n_fn, b_add, b_sub, b_mul, b_lt, b_le, b_gt, b_ge, b_eq, b_ne, u_not, e1_0, e1_1, e1_2, e1_7, e1_8]
      apply hK
      clear hK K
      simp only [andThen, leaves]
      refine DWp.ret ?_
      obtain rfl := Option.some.inj hF
      exact ⟨by simp, [(Value.bool false)], by simp [e1_0, e1_1, e1_2, e1_7, e1_8], A1_, rfl, S1_.pick [0] (by decide) rfl⟩
def F_slices_partitionEqualOrdered_string_L2 (fu : Nat) (k2_0 : List ByteArray) (k2_1 : Int) (k2_2 : Int) : Nat → Int → Option (Int)
  | 0, _ => none
  | n + 1, y2_9 =>
    bif (ile y2_9 k2_2) then
      gd (inL k2_0 k2_1) (
      gd (inL k2_0 y2_9) (
      bd (F_cmp_Less_string fu (gat (ByteArray.mk #[]) k2_0 k2_1) (gat (ByteArray.mk #[]) k2_0 y2_9)) fun r1 =>
      bif (bnot r1) then
        F_slices_partitionEqualOrdered_string_L2 fu k2_0 k2_1 k2_2 n (iadd .i64 y2_9 1)
      else
        some y2_9))
    else
      some y2_9
def F_slices_partitionEqualOrdered_string_L3 (fu : Nat) (k3_0 : List ByteArray) (k3_1 : Int) (k3_2 : Int) : Nat → Int → Option (Int)
  | 0, _ => none
  | n + 1, y3_10 =>
    bif (ile k3_2 y3_10) then
      gd (inL k3_0 k3_1) (
      gd (inL k3_0 y3_10) (
      bd (F_cmp_Less_string fu (gat (ByteArray.mk #[]) k3_0 k3_1) (gat (ByteArray.mk #[]) k3_0 y3_10)) fun r2 =>
      bif r2 then
        F_slices_partitionEqualOrdered_string_L3 fu k3_0 k3_1 k3_2 n (isub .i64 y3_10 1)
      else
        some y3_10))
    else
      some y3_10
def F_slices_partitionEqualOrdered_string_L1 (fu : Nat) (k1_0 : Int) : Nat → List ByteArray → Int → Int → Option (List ByteArray × Int × Int)
  | 0, _, _, _ => none
  | n + 1, l1_0, y1_9, y1_10 =>
    bd (
      bd (F_slices_partitionEqualOrdered_string_L2 fu l1_0 k1_0 y1_10 fu y1_9) fun s2 =>
      some s2) fun s24 =>
    bd (
      bd (F_slices_partitionEqualOrdered_string_L3 fu l1_0 k1_0 s24 fu y1_10) fun s3 =>
      some s3) fun s48 =>
    bif (ilt s48 s24) then
      some (l1_0, s24, s48)
    else
      gd (inL l1_0 s48) (
      gd (inL l1_0 s24) (
      gd (inL l1_0 s24) (
      gd (inL (lset l1_0 s24 (gat (ByteArray.mk #[]) l1_0 s48)) s48) (
      F_slices_partitionEqualOrdered_string_L1 fu k1_0 n (lset (lset l1_0 s24 (gat (ByteArray.mk #[]) l1_0 s48)) s48 (gat (ByteArray.mk #[]) l1_0 s24)) (iadd .i64 s24 1) (isub .i64 s48 1)))))
def F_slices_partitionEqualOrdered_string (fu : Nat) (x0 : List ByteArray) (x1 : Int) (x2 : Int) (x3 : Int) : Option (Int × List ByteArray) :=
  gd (inL x0 x3) (
  gd (inL x0 x1) (
  gd (inL x0 x1) (
  gd (inL (lset x0 x1 (gat (ByteArray.mk #[]) x0 x3)) x3) (
  bd (F_slices_partitionEqualOrdered_string_L1 fu x1 fu (lset (lset x0 x1 (gat (ByteArray.mk #[]) x0 x3)) x3 (gat (ByteArray.mk #[]) x0 x1)) (iadd .i64 x1 1) (isub .i64 x2 1)) fun s1 =>
  some (s1.2.1, s1.1)))))
theorem F_slices_partitionEqualOrdered_string_w {fu : Nat} {H : AH} {B : Nat → Prop} {v0 : Value} {x0 : List ByteArray} {x1 : Int} {x2 : Int} {x3 : Int} {r : (Int × List ByteArray)} (hB : Up B H.length) (S0 : Sep H B [flat v0 9 (strs x0)]) (hF : F_slices_partitionEqualOrdered_string fu x0 x1 x2 x3 = some r) :
    ACallT Try.prog 172 [v0, (Value.int .i64 x1), (Value.int .i64 x2), (Value.int .i64 x3)] H (fun u G => AgB B H G ∧ u = (Value.int .i64 r.1) ∧ Sep G B [flat v0 9 (strs r.2)]) := by
  refine ACallT.of_body (nt := 84) (rs := [.tmp 8]) Try.func172 rfl rfl rfl rfl ?_
  have A0 : AgB B H H := .refl _ _
  unfold F_slices_partitionEqualOrdered_string at hF
  refine DWp.seq ?_
  refine DWp.region fun K hK => ?_
  simp [-aBin', -aBin, -aBinI, -aUn, -aNil, -flatV, n_fn, b_add, b_sub, b_mul, b_lt, b_le, b_gt, b_ge, b_eq, b_ne, u_not]
  apply hK
  clear hK K
  simp only [andThen, leaves]
  refine DWp.seq ?_
  obtain ⟨g1, hF⟩ := gd_some hF
  have q2 := idxG (P := Try.prog) (kk := .i64) (S0.sl (k := 0) rfl) el_59 sz_9 g1
  have q3 := loadG (P := Try.prog) (S0.sl (k := 0) rfl) sz_9 ag_9 g1 (ByteArray.mk #[])
  obtain ⟨g4, hF⟩ := gd_some hF
  have q5 := idxG (P := Try.prog) (kk := .i64) (S0.sl (k := 0) rfl) el_59 sz_9 g4
  have q6 := loadG (P := Try.prog) (S0.sl (k := 0) rfl) sz_9 ag_9 g4 (ByteArray.mk #[])
  obtain ⟨g7, hF⟩ := gd_some hF
  have q8 := idxG (P := Try.prog) (kk := .i64) (S0.sl (k := 0) rfl) el_59 sz_9 g7
  obtain ⟨G9, q10, S11, a13⟩ := S0.storeG (f := Value.string) (P := Try.prog) (k := 0) (x := (gat (ByteArray.mk #[]) x0 x3)) rfl (hB.le A0.1) sz_9 g7 rfl rfl
  have A12 := A0.trans a13
  replace S11 : Sep G9 B [flat v0 9 (strs (lset x0 x1 (gat (ByteArray.mk #[]) x0 x3)))] := S11
  obtain ⟨g14, hF⟩ := gd_some hF
  have q15 := idxG (P := Try.prog) (kk := .i64) (S11.sl (k := 0) rfl) el_59 sz_9 g14
  obtain ⟨G16, q17, S18, a20⟩ := S11.storeG (f := Value.string) (P := Try.prog) (k := 0) (x := (gat (ByteArray.mk #[]) x0 x1)) rfl (hB.le A12.1) sz_9 g14 rfl rfl
  have A19 := A12.trans a20
  replace S18 : Sep G16 B [flat v0 9 (strs (lset (lset x0 x1 (gat (ByteArray.mk #[]) x0 x3)) x3 (gat (ByteArray.mk #[]) x0 x1)))] := S18
  refine DWp.drawn (B := [0, 0, 0, 0, 0, 0, 48, 112, 0, 0, 768, 1792, 4083, 8179, 16383, 32767]) 13 mixed (by kernel_rfl) (by decide) fun K hK => ?_
  simp [-aBin', -aBin, -aBinI, -aUn, -aNil, -flatV, n_fn, b_add, b_sub, b_mul, b_lt, b_le, b_gt, b_ge, b_eq, b_ne, u_not, q2, q3, q5, q6, q8, q10, q15, q17]
  apply hK
  clear hK K
  simp only [andThen, leaves]
  refine DWp.seq ?_
  refine DWp.region fun K hK => ?_
  simp [-aBin', -aBin, -aBinI, -aUn, -aNil, -flatV, n_fn, b_add, b_sub, b_mul, b_lt, b_le, b_gt, b_ge, b_eq, b_ne, u_not]
  apply hK
  clear hK K
  simp only [andThen, leaves]
  refine DWp.seq ?_
  refine DWp.block ?_
  obtain ⟨s21, hL22, hF⟩ := bd_some hF
  have S23 := S18.pick [0] (by decide) rfl
  refine DWp.loop (fun n env G => ∃ l1_0 : List ByteArray, ∃ y1_9 : Int, ∃ y1_10 : Int, F_slices_partitionEqualOrdered_string_L1 fu x1 n l1_0 y1_9 y1_10 = some s21 ∧ Sep G B [flat v0 9 (strs l1_0)] ∧ AgB B H G ∧ env 0 = some v0 ∧ env 1 = some (Value.int .i64 x1) ∧ env 9 = some (Value.int .i64 y1_9) ∧ env 10 = some (Value.int .i64 y1_10)) fu ⟨(lset (lset x0 x1 (gat (ByteArray.mk #[]) x0 x3)) x3 (gat (ByteArray.mk #[]) x0 x1)), (iadd .i64 x1 1), (isub .i64 x2 1), hL22, S23, A19, by simp [], by simp [], by simp [], by simp []⟩ ?_
  rintro n1 env1 G1_ ⟨l1_0, y1_9, y1_10, hL22, S1_, A1_, e1_0, e1_1, e1_9, e1_10⟩
  cases n1 with
  | zero => cases hL22
  | succ n1 =>
    simp only [F_slices_partitionEqualOrdered_string_L1] at hL22
    refine DWp.block ?_
    obtain ⟨s24, hL25, hL22⟩ := bd_some hL22
    refine DWp.seq (DWp.join (fun env G => Sep G B [flat v0 9 (strs l1_0)] ∧ AgB B H G ∧ env 0 = some v0 ∧ env 1 = some (Value.int .i64 x1) ∧ env 9 = some (Value.int .i64 s24) ∧ env 10 = some (Value.int .i64 y1_10)) ?_ ?_)
    ·
      refine DWp.block ?_
      obtain ⟨s27, hL28, hL25⟩ := bd_some hL25
      have S29 := S1_.pick [0] (by decide) rfl
      refine DWp.loop (fun n env G => ∃ y2_9 : Int, F_slices_partitionEqualOrdered_string_L2 fu l1_0 x1 y1_10 n y2_9 = some s27 ∧ Sep G B [flat v0 9 (strs l1_0)] ∧ AgB B H G ∧ env 0 = some v0 ∧ env 1 = some (Value.int .i64 x1) ∧ env 9 = some (Value.int .i64 y2_9) ∧ env 10 = some (Value.int .i64 y1_10)) fu ⟨y1_9, hL28, S29, A1_, by simp [e1_0, e1_1, e1_9, e1_10], by simp [e1_0, e1_1, e1_9, e1_10], by simp [e1_0, e1_1, e1_9, e1_10], by simp [e1_0, e1_1, e1_9, e1_10]⟩ ?_
      rintro n3 env3 G3_ ⟨y2_9, hL28, S3_, A3_, e3_0, e3_1, e3_9, e3_10⟩
      cases n3 with
      | zero => cases hL28
      | succ n3 =>
        simp only [F_slices_partitionEqualOrdered_string_L2] at hL28
        refine DWp.seq ?_
        refine DWp.seq ?_
        rcases Bool.eq_false_or_eq_true (ile y2_9 y1_10) with hb30 | hb30
        · replace hL28 := cd_t hb30 hL28
          obtain ⟨g31, hL28⟩ := gd_some hL28
          have q32 := idxG (P := Try.prog) (kk := .i64) (S3_.sl (k := 0) rfl) el_59 sz_9 g31
          have q33 := loadG (P := Try.prog) (S3_.sl (k := 0) rfl) sz_9 ag_9 g31 (ByteArray.mk #[])
          obtain ⟨g34, hL28⟩ := gd_some hL28
          have q35 := idxG (P := Try.prog) (kk := .i64) (S3_.sl (k := 0) rfl) el_59 sz_9 g34
          have q36 := loadG (P := Try.prog) (S3_.sl (k := 0) rfl) sz_9 ag_9 g34 (ByteArray.mk #[])
          obtain ⟨r1, hc37, hL28⟩ := bd_some hL28
          refine DWp.drawn (B := [0, 0, 3, 7, 15, 15, 63, 127, 15, 15, 783, 1807, 4095, 8191, 16383]) 15 mixed (by kernel_rfl) (by decide) fun K hK => ?_
          simp [-aBin', -aBin, -aBinI, -aUn, -aNil, -flatV, n_fn, b_add, b_sub, b_mul, b_lt, b_le, b_gt, b_ge, b_eq, b_ne, u_not, e3_0, e3_1, e3_9, e3_10, hb30, q32, q33, q35, q36]
          refine CallD.t (F_cmp_Less_string_w (fu := fu)  hc37) ?_
          rintro _ G39 ⟨a42, rfl, S43⟩
          have A41 := A3_.ext (hB.le A3_.1) a42.agree
          have S40 : Sep G39 B [flat v0 9 (strs l1_0)] := S3_.app a42.agree S43 (fun _ h => h) (hB.le A3_.1)
          simp [-aBin', -aBin, -aBinI, -aUn, -aNil, -flatV, n_fn, b_add, b_sub, b_mul, b_lt, b_le, b_gt, b_ge, b_eq, b_ne, u_not, e3_0, e3_1, e3_9, e3_10, hb30, q32, q33, q35, q36, a42.pre]
          apply hK
          clear hK K
          simp only [andThen, leaves]
          refine DWp.cond' (t := (bnot r1)) (by simp [e3_0, e3_1, e3_9, e3_10]) (fun hb44 => ?_) (fun hb44 => ?_)
          · replace hL28 := cd_t hb44 hL28
            refine DWp.skip ?_
            simp only [andThen, leaves]
            refine DWp.block ?_
            refine DWp.region fun K hK => ?_
            simp [-aBin', -aBin, -aBinI, -aUn, -aNil, -flatV, n_fn, b_add, b_sub, b_mul, b_lt, b_le, b_gt, b_ge, b_eq, b_ne, u_not, e3_0, e3_1, e3_9, e3_10]
            apply hK
            clear hK K
            simp only [andThen, leaves]
            have S45 := S40.pick [0] (by decide) rfl
            exact ⟨n3, Nat.lt_succ_self _, (iadd .i64 y2_9 1), hL28, S45, A41, by simp [e3_0, e3_1, e3_9, e3_10], by simp [e3_0, e3_1, e3_9, e3_10], by simp [e3_0, e3_1, e3_9, e3_10], by simp [e3_0, e3_1, e3_9, e3_10]⟩
          · replace hL28 := cd_f hb44 hL28
            refine DWp.exit ?_
            simp only [andThen, leaves, if_true, if_false, reduceIte, Nat.reduceEqDiff]
            obtain rfl := Option.some.inj hL28
            have S46 := S40.pick [0] (by decide) rfl
            obtain rfl := Option.some.inj hL25
            exact ⟨S46, A41, by simp [e3_0, e3_1, e3_9, e3_10], by simp [e3_0, e3_1, e3_9, e3_10], by simp [e3_0, e3_1, e3_9, e3_10], by simp [e3_0, e3_1, e3_9, e3_10]⟩
        · replace hL28 := cd_f hb30 hL28
          refine DWp.drawn (B := [0, 0, 3, 7, 15, 15, 63, 127, 15, 15, 783, 1807, 4095, 8191, 16383]) 15 mixed (by kernel_rfl) (by decide) fun K hK => ?_
          simp [-aBin', -aBin, -aBinI, -aUn, -aNil, -flatV, n_fn, b_add, b_sub, b_mul, b_lt, b_le, b_gt, b_ge, b_eq, b_ne, u_not, e3_0, e3_1, e3_9, e3_10, hb30]
          apply hK
          clear hK K
          simp only [andThen, leaves]
          refine DWp.cf (by simp [e3_0, e3_1, e3_9, e3_10, bnot]) ?_
          refine DWp.exit ?_
          simp only [andThen, leaves, if_true, if_false, reduceIte, Nat.reduceEqDiff]
          obtain rfl := Option.some.inj hL28
          have S47 := S3_.pick [0] (by decide) rfl
          obtain rfl := Option.some.inj hL25
          exact ⟨S47, A3_, by simp [e3_0, e3_1, e3_9, e3_10], by simp [e3_0, e3_1, e3_9, e3_10], by simp [e3_0, e3_1, e3_9, e3_10], by simp [e3_0, e3_1, e3_9, e3_10]⟩
    · rintro env Gj48 ⟨Sj48, Aj48, ej48_0, ej48_1, ej48_9, ej48_10⟩
      obtain ⟨s49, hL50, hL22⟩ := bd_some hL22
      refine DWp.seq (DWp.join (fun env G => Sep G B [flat v0 9 (strs l1_0)] ∧ AgB B H G ∧ env 0 = some v0 ∧ env 1 = some (Value.int .i64 x1) ∧ env 9 = some (Value.int .i64 s24) ∧ env 10 = some (Value.int .i64 s49)) ?_ ?_)
      ·
        refine DWp.block ?_
        obtain ⟨s52, hL53, hL50⟩ := bd_some hL50
        have S54 := Sj48.pick [0] (by decide) rfl
        refine DWp.loop (fun n env G => ∃ y3_10 : Int, F_slices_partitionEqualOrdered_string_L3 fu l1_0 x1 s24 n y3_10 = some s52 ∧ Sep G B [flat v0 9 (strs l1_0)] ∧ AgB B H G ∧ env 0 = some v0 ∧ env 1 = some (Value.int .i64 x1) ∧ env 9 = some (Value.int .i64 s24) ∧ env 10 = some (Value.int .i64 y3_10)) fu ⟨y1_10, hL53, S54, Aj48, by simp [ej48_0, ej48_1, ej48_9, ej48_10], by simp [ej48_0, ej48_1, ej48_9, ej48_10], by simp [ej48_0, ej48_1, ej48_9, ej48_10], by simp [ej48_0, ej48_1, ej48_9, ej48_10]⟩ ?_
        rintro n3 env3 G3_ ⟨y3_10, hL53, S3_, A3_, e3_0, e3_1, e3_9, e3_10⟩
        cases n3 with
        | zero => cases hL53
        | succ n3 =>
          simp only [F_slices_partitionEqualOrdered_string_L3] at hL53
          refine DWp.seq ?_
          refine DWp.seq ?_
          rcases Bool.eq_false_or_eq_true (ile s24 y3_10) with hb55 | hb55
          · replace hL53 := cd_t hb55 hL53
            obtain ⟨g56, hL53⟩ := gd_some hL53
            have q57 := idxG (P := Try.prog) (kk := .i64) (S3_.sl (k := 0) rfl) el_59 sz_9 g56
            have q58 := loadG (P := Try.prog) (S3_.sl (k := 0) rfl) sz_9 ag_9 g56 (ByteArray.mk #[])
            obtain ⟨g59, hL53⟩ := gd_some hL53
            have q60 := idxG (P := Try.prog) (kk := .i64) (S3_.sl (k := 0) rfl) el_59 sz_9 g59
            have q61 := loadG (P := Try.prog) (S3_.sl (k := 0) rfl) sz_9 ag_9 g59 (ByteArray.mk #[])
            obtain ⟨r2, hc62, hL53⟩ := bd_some hL53
            refine DWp.drawn (B := [0, 0, 3, 7, 15, 15, 63, 127, 15, 15, 783, 1807, 4095, 8191]) 14 mixed (by kernel_rfl) (by decide) fun K hK => ?_
            simp [-aBin', -aBin, -aBinI, -aUn, -aNil, -flatV, n_fn, b_add, b_sub, b_mul, b_lt, b_le, b_gt, b_ge, b_eq, b_ne, u_not, e3_0, e3_1, e3_9, e3_10, hb55, q57, q58, q60, q61]
            refine CallD.t (F_cmp_Less_string_w (fu := fu)  hc62) ?_
            rintro _ G64 ⟨a67, rfl, S68⟩
            have A66 := A3_.ext (hB.le A3_.1) a67.agree
            have S65 : Sep G64 B [flat v0 9 (strs l1_0)] := S3_.app a67.agree S68 (fun _ h => h) (hB.le A3_.1)
            simp [-aBin', -aBin, -aBinI, -aUn, -aNil, -flatV, n_fn, b_add, b_sub, b_mul, b_lt, b_le, b_gt, b_ge, b_eq, b_ne, u_not, e3_0, e3_1, e3_9, e3_10, hb55, q57, q58, q60, q61, a67.pre]
            apply hK
            clear hK K
            simp only [andThen, leaves]
            refine DWp.cond' (t := r2) (by simp [e3_0, e3_1, e3_9, e3_10]) (fun hb69 => ?_) (fun hb69 => ?_)
            · replace hL53 := cd_t hb69 hL53
              refine DWp.skip ?_
              simp only [andThen, leaves]
              refine DWp.block ?_
              refine DWp.region fun K hK => ?_
              simp [-aBin', -aBin, -aBinI, -aUn, -aNil, -flatV, n_fn, b_add, b_sub, b_mul, b_lt, b_le, b_gt, b_ge, b_eq, b_ne, u_not, e3_0, e3_1, e3_9, e3_10]
              apply hK
              clear hK K
              simp only [andThen, leaves]
              have S70 := S65.pick [0] (by decide) rfl
              exact ⟨n3, Nat.lt_succ_self _, (isub .i64 y3_10 1), hL53, S70, A66, by simp [e3_0, e3_1, e3_9, e3_10], by simp [e3_0, e3_1, e3_9, e3_10], by simp [e3_0, e3_1, e3_9, e3_10], by simp [e3_0, e3_1, e3_9, e3_10]⟩
            · replace hL53 := cd_f hb69 hL53
              refine DWp.exit ?_
              simp only [andThen, leaves, if_true, if_false, reduceIte, Nat.reduceEqDiff]
              obtain rfl := Option.some.inj hL53
              have S71 := S65.pick [0] (by decide) rfl
              obtain rfl := Option.some.inj hL50
              exact ⟨S71, A66, by simp [e3_0, e3_1, e3_9, e3_10], by simp [e3_0, e3_1, e3_9, e3_10], by simp [e3_0, e3_1, e3_9, e3_10], by simp [e3_0, e3_1, e3_9, e3_10]⟩
          · replace hL53 := cd_f hb55 hL53
            refine DWp.drawn (B := [0, 0, 3, 7, 15, 15, 63, 127, 15, 15, 783, 1807, 4095, 8191]) 14 mixed (by kernel_rfl) (by decide) fun K hK => ?_
            simp [-aBin', -aBin, -aBinI, -aUn, -aNil, -flatV, n_fn, b_add, b_sub, b_mul, b_lt, b_le, b_gt, b_ge, b_eq, b_ne, u_not, e3_0, e3_1, e3_9, e3_10, hb55]
            apply hK
            clear hK K
            simp only [andThen, leaves]
            refine DWp.cf (by simp [e3_0, e3_1, e3_9, e3_10, bnot]) ?_
            refine DWp.exit ?_
            simp only [andThen, leaves, if_true, if_false, reduceIte, Nat.reduceEqDiff]
            obtain rfl := Option.some.inj hL53
            have S72 := S3_.pick [0] (by decide) rfl
            obtain rfl := Option.some.inj hL50
            exact ⟨S72, A3_, by simp [e3_0, e3_1, e3_9, e3_10], by simp [e3_0, e3_1, e3_9, e3_10], by simp [e3_0, e3_1, e3_9, e3_10], by simp [e3_0, e3_1, e3_9, e3_10]⟩
      · rintro env Gj73 ⟨Sj73, Aj73, ej73_0, ej73_1, ej73_9, ej73_10⟩
        refine DWp.seq ?_
        refine DWp.seq ?_
        refine DWp.region fun K hK => ?_
        simp [-aBin', -aBin, -aBinI, -aUn, -aNil, -flatV, n_fn, b_add, b_sub, b_mul, b_lt, b_le, b_gt, b_ge, b_eq, b_ne, u_not, ej73_0, ej73_1, ej73_9, ej73_10]
        apply hK
        clear hK K
        simp only [andThen, leaves]
        refine DWp.cond' (t := (ilt s49 s24)) (by simp [ej73_0, ej73_1, ej73_9, ej73_10]) (fun hb74 => ?_) (fun hb74 => ?_)
        · replace hL22 := cd_t hb74 hL22
          refine DWp.exit ?_
          simp only [andThen, leaves, if_true, if_false, reduceIte, Nat.reduceEqDiff]
          obtain rfl := Option.some.inj hL22
          try dsimp only at hF
          refine DWp.seq ?_
          refine DWp.region fun K hK => ?_
          simp [-aBin', -aBin, -aBinI, -aUn, -aNil, -flatV, n_fn, b_add, b_sub, b_mul, b_lt, b_le, b_gt, b_ge, b_eq, b_ne, u_not, ej73_0, ej73_1, ej73_9, ej73_10]
          apply hK
          clear hK K
          simp only [andThen, leaves]
          refine DWp.ret ?_
          obtain rfl := Option.some.inj hF
          exact ⟨by simp, [(Value.int .i64 s24)], by simp [ej73_0, ej73_1, ej73_9, ej73_10], Aj73, rfl, Sj73.pick [0] (by decide) rfl⟩
        · replace hL22 := cd_f hb74 hL22
          refine DWp.skip ?_
          simp only [andThen, leaves]
          refine DWp.seq ?_
          obtain ⟨g75, hL22⟩ := gd_some hL22
          have q76 := idxG (P := Try.prog) (kk := .i64) (Sj73.sl (k := 0) rfl) el_59 sz_9 g75
          have q77 := loadG (P := Try.prog) (Sj73.sl (k := 0) rfl) sz_9 ag_9 g75 (ByteArray.mk #[])
          obtain ⟨g78, hL22⟩ := gd_some hL22
          have q79 := idxG (P := Try.prog) (kk := .i64) (Sj73.sl (k := 0) rfl) el_59 sz_9 g78
          have q80 := loadG (P := Try.prog) (Sj73.sl (k := 0) rfl) sz_9 ag_9 g78 (ByteArray.mk #[])
          obtain ⟨g81, hL22⟩ := gd_some hL22
          have q82 := idxG (P := Try.prog) (kk := .i64) (Sj73.sl (k := 0) rfl) el_59 sz_9 g81
          obtain ⟨G83, q84, S85, a87⟩ := Sj73.storeG (f := Value.string) (P := Try.prog) (k := 0) (x := (gat (ByteArray.mk #[]) l1_0 s49)) rfl (hB.le Aj73.1) sz_9 g81 rfl rfl
          have A86 := Aj73.trans a87
          replace S85 : Sep G83 B [flat v0 9 (strs (lset l1_0 s24 (gat (ByteArray.mk #[]) l1_0 s49)))] := S85
          obtain ⟨g88, hL22⟩ := gd_some hL22
          have q89 := idxG (P := Try.prog) (kk := .i64) (S85.sl (k := 0) rfl) el_59 sz_9 g88
          obtain ⟨G90, q91, S92, a94⟩ := S85.storeG (f := Value.string) (P := Try.prog) (k := 0) (x := (gat (ByteArray.mk #[]) l1_0 s24)) rfl (hB.le A86.1) sz_9 g88 rfl rfl
          have A93 := A86.trans a94
          replace S92 : Sep G90 B [flat v0 9 (strs (lset (lset l1_0 s24 (gat (ByteArray.mk #[]) l1_0 s49)) s49 (gat (ByteArray.mk #[]) l1_0 s24)))] := S92
          refine DWp.drawn (B := [0, 0, 0, 0, 0, 0, 48, 112, 0, 0, 768, 1792, 4083, 8179, 16383, 32767]) 13 mixed (by kernel_rfl) (by decide) fun K hK => ?_
          simp [-aBin', -aBin, -aBinI, -aUn, -aNil, -flatV, n_fn, b_add, b_sub, b_mul, b_lt, b_le, b_gt, b_ge, b_eq, b_ne, u_not, ej73_0, ej73_1, ej73_9, ej73_10, q76, q77, q79, q80, q82, q84, q89, q91]
          apply hK
          clear hK K
          simp only [andThen, leaves]
          refine DWp.seq ?_
          refine DWp.region fun K hK => ?_
          simp [-aBin', -aBin, -aBinI, -aUn, -aNil, -flatV, n_fn, b_add, b_sub, b_mul, b_lt, b_le, b_gt, b_ge, b_eq, b_ne, u_not, ej73_0, ej73_1, ej73_9, ej73_10]
          apply hK
          clear hK K
          simp only [andThen, leaves]
          refine DWp.region fun K hK => ?_
          simp [-aBin', -aBin, -aBinI, -aUn, -aNil, -flatV, n_fn, b_add, b_sub, b_mul, b_lt, b_le, b_gt, b_ge, b_eq, b_ne, u_not, ej73_0, ej73_1, ej73_9, ej73_10]
          apply hK
          clear hK K
          simp only [andThen, leaves]
          have S95 := S92.pick [0] (by decide) rfl
          exact ⟨n1, Nat.lt_succ_self _, (lset (lset l1_0 s24 (gat (ByteArray.mk #[]) l1_0 s49)) s49 (gat (ByteArray.mk #[]) l1_0 s24)), (iadd .i64 s24 1), (isub .i64 s49 1), hL22, S95, A93, by simp [ej73_0, ej73_1, ej73_9, ej73_10], by simp [ej73_0, ej73_1, ej73_9, ej73_10], by simp [ej73_0, ej73_1, ej73_9, ej73_10], by simp [ej73_0, ej73_1, ej73_9, ej73_10]⟩
def F_slices_partitionOrdered_string_L1 (fu : Nat) (k1_0 : List ByteArray) (k1_1 : Int) (k1_2 : Int) : Nat → Int → Option (Int)
  | 0, _ => none
  | n + 1, y1_10 =>
    bif (ile y1_10 k1_2) then
      gd (inL k1_0 y1_10) (
      gd (inL k1_0 k1_1) (
      bd (F_cmp_Less_string fu (gat (ByteArray.mk #[]) k1_0 y1_10) (gat (ByteArray.mk #[]) k1_0 k1_1)) fun r1 =>
      bif r1 then
        F_slices_partitionOrdered_string_L1 fu k1_0 k1_1 k1_2 n (iadd .i64 y1_10 1)
      else
        some y1_10))
    else
      some y1_10
def F_slices_partitionOrdered_string_L2 (fu : Nat) (k2_0 : List ByteArray) (k2_1 : Int) (k2_2 : Int) : Nat → Int → Option (Int)
  | 0, _ => none
  | n + 1, y2_11 =>
    bif (ile k2_2 y2_11) then
      gd (inL k2_0 y2_11) (
      gd (inL k2_0 k2_1) (
      bd (F_cmp_Less_string fu (gat (ByteArray.mk #[]) k2_0 y2_11) (gat (ByteArray.mk #[]) k2_0 k2_1)) fun r2 =>
      bif (bnot r2) then
        F_slices_partitionOrdered_string_L2 fu k2_0 k2_1 k2_2 n (isub .i64 y2_11 1)
      else
        some y2_11))
    else
      some y2_11
def F_slices_partitionOrdered_string_L4 (fu : Nat) (k4_0 : List ByteArray) (k4_1 : Int) (k4_2 : Int) : Nat → Int → Option (Int)
  | 0, _ => none
  | n + 1, y4_10 =>
    bif (ile y4_10 k4_2) then
      gd (inL k4_0 y4_10) (
      gd (inL k4_0 k4_1) (
      bd (F_cmp_Less_string fu (gat (ByteArray.mk #[]) k4_0 y4_10) (gat (ByteArray.mk #[]) k4_0 k4_1)) fun r3 =>
      bif r3 then
        F_slices_partitionOrdered_string_L4 fu k4_0 k4_1 k4_2 n (iadd .i64 y4_10 1)
      else
        some y4_10))
    else
      some y4_10
def F_slices_partitionOrdered_string_L5 (fu : Nat) (k5_0 : List ByteArray) (k5_1 : Int) (k5_2 : Int) : Nat → Int → Option (Int)
  | 0, _ => none
  | n + 1, y5_11 =>
    bif (ile k5_2 y5_11) then
      gd (inL k5_0 y5_11) (
      gd (inL k5_0 k5_1) (
      bd (F_cmp_Less_string fu (gat (ByteArray.mk #[]) k5_0 y5_11) (gat (ByteArray.mk #[]) k5_0 k5_1)) fun r4 =>
      bif (bnot r4) then
        F_slices_partitionOrdered_string_L5 fu k5_0 k5_1 k5_2 n (isub .i64 y5_11 1)
      else
        some y5_11))
    else
      some y5_11
def F_slices_partitionOrdered_string_L3 (fu : Nat) (k3_0 : Int) : Nat → List ByteArray → Int → Int → Option (List ByteArray × Int × Int)
  | 0, _, _, _ => none
  | n + 1, l3_0, y3_10, y3_11 =>
    bd (
      bd (F_slices_partitionOrdered_string_L4 fu l3_0 k3_0 y3_11 fu y3_10) fun s4 =>
      some s4) fun s113 =>
    bd (
      bd (F_slices_partitionOrdered_string_L5 fu l3_0 k3_0 s113 fu y3_11) fun s5 =>
      some s5) fun s137 =>
    bif (ilt s137 s113) then
      some (l3_0, s113, s137)
    else
      gd (inL l3_0 s137) (
      gd (inL l3_0 s113) (
      gd (inL l3_0 s113) (
      gd (inL (lset l3_0 s113 (gat (ByteArray.mk #[]) l3_0 s137)) s137) (
      F_slices_partitionOrdered_string_L3 fu k3_0 n (lset (lset l3_0 s113 (gat (ByteArray.mk #[]) l3_0 s137)) s137 (gat (ByteArray.mk #[]) l3_0 s113)) (iadd .i64 s113 1) (isub .i64 s137 1)))))
def F_slices_partitionOrdered_string (fu : Nat) (x0 : List ByteArray) (x1 : Int) (x2 : Int) (x3 : Int) : Option (Int × Bool × List ByteArray) :=
  gd (inL x0 x3) (
  gd (inL x0 x1) (
  gd (inL x0 x1) (
  gd (inL (lset x0 x1 (gat (ByteArray.mk #[]) x0 x3)) x3) (
  bd (
    bd (F_slices_partitionOrdered_string_L1 fu (lset (lset x0 x1 (gat (ByteArray.mk #[]) x0 x3)) x3 (gat (ByteArray.mk #[]) x0 x1)) x1 (isub .i64 x2 1) fu (iadd .i64 x1 1)) fun s1 =>
    some s1) fun s21 =>
  bd (
    bd (F_slices_partitionOrdered_string_L2 fu (lset (lset x0 x1 (gat (ByteArray.mk #[]) x0 x3)) x3 (gat (ByteArray.mk #[]) x0 x1)) x1 s21 fu (isub .i64 x2 1)) fun s2 =>
    some s2) fun s45 =>
  bif (ilt s45 s21) then
    gd (inL (lset (lset x0 x1 (gat (ByteArray.mk #[]) x0 x3)) x3 (gat (ByteArray.mk #[]) x0 x1)) x1) (
    gd (inL (lset (lset x0 x1 (gat (ByteArray.mk #[]) x0 x3)) x3 (gat (ByteArray.mk #[]) x0 x1)) s45) (
    gd (inL (lset (lset x0 x1 (gat (ByteArray.mk #[]) x0 x3)) x3 (gat (ByteArray.mk #[]) x0 x1)) s45) (
    gd (inL (lset (lset (lset x0 x1 (gat (ByteArray.mk #[]) x0 x3)) x3 (gat (ByteArray.mk #[]) x0 x1)) s45 (gat (ByteArray.mk #[]) (lset (lset x0 x1 (gat (ByteArray.mk #[]) x0 x3)) x3 (gat (ByteArray.mk #[]) x0 x1)) x1)) x1) (
    some (s45, true, (lset (lset (lset (lset x0 x1 (gat (ByteArray.mk #[]) x0 x3)) x3 (gat (ByteArray.mk #[]) x0 x1)) s45 (gat (ByteArray.mk #[]) (lset (lset x0 x1 (gat (ByteArray.mk #[]) x0 x3)) x3 (gat (ByteArray.mk #[]) x0 x1)) x1)) x1 (gat (ByteArray.mk #[]) (lset (lset x0 x1 (gat (ByteArray.mk #[]) x0 x3)) x3 (gat (ByteArray.mk #[]) x0 x1)) s45)))))))
  else
    gd (inL (lset (lset x0 x1 (gat (ByteArray.mk #[]) x0 x3)) x3 (gat (ByteArray.mk #[]) x0 x1)) s45) (
    gd (inL (lset (lset x0 x1 (gat (ByteArray.mk #[]) x0 x3)) x3 (gat (ByteArray.mk #[]) x0 x1)) s21) (
    gd (inL (lset (lset x0 x1 (gat (ByteArray.mk #[]) x0 x3)) x3 (gat (ByteArray.mk #[]) x0 x1)) s21) (
    gd (inL (lset (lset (lset x0 x1 (gat (ByteArray.mk #[]) x0 x3)) x3 (gat (ByteArray.mk #[]) x0 x1)) s21 (gat (ByteArray.mk #[]) (lset (lset x0 x1 (gat (ByteArray.mk #[]) x0 x3)) x3 (gat (ByteArray.mk #[]) x0 x1)) s45)) s45) (
    bd (F_slices_partitionOrdered_string_L3 fu x1 fu (lset (lset (lset (lset x0 x1 (gat (ByteArray.mk #[]) x0 x3)) x3 (gat (ByteArray.mk #[]) x0 x1)) s21 (gat (ByteArray.mk #[]) (lset (lset x0 x1 (gat (ByteArray.mk #[]) x0 x3)) x3 (gat (ByteArray.mk #[]) x0 x1)) s45)) s45 (gat (ByteArray.mk #[]) (lset (lset x0 x1 (gat (ByteArray.mk #[]) x0 x3)) x3 (gat (ByteArray.mk #[]) x0 x1)) s21)) (iadd .i64 s21 1) (isub .i64 s45 1)) fun s3 =>
    gd (inL s3.1 x1) (
    gd (inL s3.1 s3.2.2) (
    gd (inL s3.1 s3.2.2) (
    gd (inL (lset s3.1 s3.2.2 (gat (ByteArray.mk #[]) s3.1 x1)) x1) (
    some (s3.2.2, false, (lset (lset s3.1 s3.2.2 (gat (ByteArray.mk #[]) s3.1 x1)) x1 (gat (ByteArray.mk #[]) s3.1 s3.2.2)))))))))))))))
theorem F_slices_partitionOrdered_string_w {fu : Nat} {H : AH} {B : Nat → Prop} {v0 : Value} {x0 : List ByteArray} {x1 : Int} {x2 : Int} {x3 : Int} {r : (Int × Bool × List ByteArray)} (hB : Up B H.length) (S0 : Sep H B [flat v0 9 (strs x0)]) (hF : F_slices_partitionOrdered_string fu x0 x1 x2 x3 = some r) :
    ACallT Try.prog 173 [v0, (Value.int .i64 x1), (Value.int .i64 x2), (Value.int .i64 x3)] H (fun u G => AgB B H G ∧ u = (Value.tuple #[(Value.int .i64 r.1), (Value.bool r.2.1)]) ∧ Sep G B [flat v0 9 (strs r.2.2)]) := by
  refine ACallT.of_body (nt := 168) (rs := [.tmp 8, .tmp 9]) Try.func173 rfl rfl rfl rfl ?_
  have A0 : AgB B H H := .refl _ _
  unfold F_slices_partitionOrdered_string at hF
  refine DWp.seq ?_
  refine DWp.region fun K hK => ?_
  simp [-aBin', -aBin, -aBinI, -aUn, -aNil, -flatV, n_fn, b_add, b_sub, b_mul, b_lt, b_le, b_gt, b_ge, b_eq, b_ne, u_not]
  apply hK
  clear hK K
  simp only [andThen, leaves]
  refine DWp.seq ?_
  obtain ⟨g1, hF⟩ := gd_some hF
  have q2 := idxG (P := Try.prog) (kk := .i64) (S0.sl (k := 0) rfl) el_59 sz_9 g1
  have q3 := loadG (P := Try.prog) (S0.sl (k := 0) rfl) sz_9 ag_9 g1 (ByteArray.mk #[])
  obtain ⟨g4, hF⟩ := gd_some hF
  have q5 := idxG (P := Try.prog) (kk := .i64) (S0.sl (k := 0) rfl) el_59 sz_9 g4
  have q6 := loadG (P := Try.prog) (S0.sl (k := 0) rfl) sz_9 ag_9 g4 (ByteArray.mk #[])
  obtain ⟨g7, hF⟩ := gd_some hF
  have q8 := idxG (P := Try.prog) (kk := .i64) (S0.sl (k := 0) rfl) el_59 sz_9 g7
  obtain ⟨G9, q10, S11, a13⟩ := S0.storeG (f := Value.string) (P := Try.prog) (k := 0) (x := (gat (ByteArray.mk #[]) x0 x3)) rfl (hB.le A0.1) sz_9 g7 rfl rfl
  have A12 := A0.trans a13
  replace S11 : Sep G9 B [flat v0 9 (strs (lset x0 x1 (gat (ByteArray.mk #[]) x0 x3)))] := S11
  obtain ⟨g14, hF⟩ := gd_some hF
  have q15 := idxG (P := Try.prog) (kk := .i64) (S11.sl (k := 0) rfl) el_59 sz_9 g14
  obtain ⟨G16, q17, S18, a20⟩ := S11.storeG (f := Value.string) (P := Try.prog) (k := 0) (x := (gat (ByteArray.mk #[]) x0 x1)) rfl (hB.le A12.1) sz_9 g14 rfl rfl
  have A19 := A12.trans a20
  replace S18 : Sep G16 B [flat v0 9 (strs (lset (lset x0 x1 (gat (ByteArray.mk #[]) x0 x3)) x3 (gat (ByteArray.mk #[]) x0 x1)))] := S18
  refine DWp.drawn (B := [0, 0, 0, 0, 0, 0, 48, 112, 0, 0, 768, 1792, 4083, 8179, 16383, 32767]) 13 mixed (by kernel_rfl) (by decide) fun K hK => ?_
  simp [-aBin', -aBin, -aBinI, -aUn, -aNil, -flatV, n_fn, b_add, b_sub, b_mul, b_lt, b_le, b_gt, b_ge, b_eq, b_ne, u_not, q2, q3, q5, q6, q8, q10, q15, q17]
  apply hK
  clear hK K
  simp only [andThen, leaves]
  refine DWp.seq ?_
  refine DWp.region fun K hK => ?_
  simp [-aBin', -aBin, -aBinI, -aUn, -aNil, -flatV, n_fn, b_add, b_sub, b_mul, b_lt, b_le, b_gt, b_ge, b_eq, b_ne, u_not]
  apply hK
  clear hK K
  simp only [andThen, leaves]
  obtain ⟨s21, hL22, hF⟩ := bd_some hF
  refine DWp.seq (DWp.join (fun env G => Sep G B [flat v0 9 (strs (lset (lset x0 x1 (gat (ByteArray.mk #[]) x0 x3)) x3 (gat (ByteArray.mk #[]) x0 x1)))] ∧ AgB B H G ∧ env 0 = some v0 ∧ env 1 = some (Value.int .i64 x1) ∧ env 10 = some (Value.int .i64 s21) ∧ env 11 = some (Value.int .i64 (isub .i64 x2 1))) ?_ ?_)
  ·
    refine DWp.block ?_
    obtain ⟨s24, hL25, hL22⟩ := bd_some hL22
    have S26 := S18.pick [0] (by decide) rfl
    refine DWp.loop (fun n env G => ∃ y1_10 : Int, F_slices_partitionOrdered_string_L1 fu (lset (lset x0 x1 (gat (ByteArray.mk #[]) x0 x3)) x3 (gat (ByteArray.mk #[]) x0 x1)) x1 (isub .i64 x2 1) n y1_10 = some s24 ∧ Sep G B [flat v0 9 (strs (lset (lset x0 x1 (gat (ByteArray.mk #[]) x0 x3)) x3 (gat (ByteArray.mk #[]) x0 x1)))] ∧ AgB B H G ∧ env 0 = some v0 ∧ env 1 = some (Value.int .i64 x1) ∧ env 10 = some (Value.int .i64 y1_10) ∧ env 11 = some (Value.int .i64 (isub .i64 x2 1))) fu ⟨(iadd .i64 x1 1), hL25, S26, A19, by simp [], by simp [], by simp [], by simp []⟩ ?_
    rintro n2 env2 G2_ ⟨y1_10, hL25, S2_, A2_, e2_0, e2_1, e2_10, e2_11⟩
    cases n2 with
    | zero => cases hL25
    | succ n2 =>
      simp only [F_slices_partitionOrdered_string_L1] at hL25
      refine DWp.seq ?_
      refine DWp.seq ?_
      rcases Bool.eq_false_or_eq_true (ile y1_10 (isub .i64 x2 1)) with hb27 | hb27
      · replace hL25 := cd_t hb27 hL25
        obtain ⟨g28, hL25⟩ := gd_some hL25
        have q29 := idxG (P := Try.prog) (kk := .i64) (S2_.sl (k := 0) rfl) el_59 sz_9 g28
        have q30 := loadG (P := Try.prog) (S2_.sl (k := 0) rfl) sz_9 ag_9 g28 (ByteArray.mk #[])
        obtain ⟨g31, hL25⟩ := gd_some hL25
        have q32 := idxG (P := Try.prog) (kk := .i64) (S2_.sl (k := 0) rfl) el_59 sz_9 g31
        have q33 := loadG (P := Try.prog) (S2_.sl (k := 0) rfl) sz_9 ag_9 g31 (ByteArray.mk #[])
        obtain ⟨r1, hc34, hL25⟩ := bd_some hL25
        refine DWp.drawn (B := [0, 0, 3, 7, 15, 15, 63, 127, 15, 15, 783, 1807, 4095, 8191]) 14 mixed (by kernel_rfl) (by decide) fun K hK => ?_
        simp [-aBin', -aBin, -aBinI, -aUn, -aNil, -flatV, n_fn, b_add, b_sub, b_mul, b_lt, b_le, b_gt, b_ge, b_eq, b_ne, u_not, e2_0, e2_1, e2_10, e2_11, hb27, q29, q30, q32, q33]
        refine CallD.t (F_cmp_Less_string_w (fu := fu)  hc34) ?_
        rintro _ G36 ⟨a39, rfl, S40⟩
        have A38 := A2_.ext (hB.le A2_.1) a39.agree
        have S37 : Sep G36 B [flat v0 9 (strs (lset (lset x0 x1 (gat (ByteArray.mk #[]) x0 x3)) x3 (gat (ByteArray.mk #[]) x0 x1)))] := S2_.app a39.agree S40 (fun _ h => h) (hB.le A2_.1)
        simp [-aBin', -aBin, -aBinI, -aUn, -aNil, -flatV, n_fn, b_add, b_sub, b_mul, b_lt, b_le, b_gt, b_ge, b_eq, b_ne, u_not, e2_0, e2_1, e2_10, e2_11, hb27, q29, q30, q32, q33, a39.pre]
        apply hK
        clear hK K
        simp only [andThen, leaves]
        refine DWp.cond' (t := r1) (by simp [e2_0, e2_1, e2_10, e2_11]) (fun hb41 => ?_) (fun hb41 => ?_)
        · replace hL25 := cd_t hb41 hL25
          refine DWp.skip ?_
          simp only [andThen, leaves]
          refine DWp.block ?_
          refine DWp.region fun K hK => ?_
          simp [-aBin', -aBin, -aBinI, -aUn, -aNil, -flatV, n_fn, b_add, b_sub, b_mul, b_lt, b_le, b_gt, b_ge, b_eq, b_ne, u_not, e2_0, e2_1, e2_10, e2_11]
          apply hK
          clear hK K
          simp only [andThen, leaves]
          have S42 := S37.pick [0] (by decide) rfl
          exact ⟨n2, Nat.lt_succ_self _, (iadd .i64 y1_10 1), hL25, S42, A38, by simp [e2_0, e2_1, e2_10, e2_11], by simp [e2_0, e2_1, e2_10, e2_11], by simp [e2_0, e2_1, e2_10, e2_11], by simp [e2_0, e2_1, e2_10, e2_11]⟩
        · replace hL25 := cd_f hb41 hL25
          refine DWp.exit ?_
          simp only [andThen, leaves, if_true, if_false, reduceIte, Nat.reduceEqDiff]
          obtain rfl := Option.some.inj hL25
          have S43 := S37.pick [0] (by decide) rfl
          obtain rfl := Option.some.inj hL22
          exact ⟨S43, A38, by simp [e2_0, e2_1, e2_10, e2_11], by simp [e2_0, e2_1, e2_10, e2_11], by simp [e2_0, e2_1, e2_10, e2_11], by simp [e2_0, e2_1, e2_10, e2_11]⟩
      · replace hL25 := cd_f hb27 hL25
        refine DWp.drawn (B := [0, 0, 3, 7, 15, 15, 63, 127, 15, 15, 783, 1807, 4095, 8191]) 14 mixed (by kernel_rfl) (by decide) fun K hK => ?_
        simp [-aBin', -aBin, -aBinI, -aUn, -aNil, -flatV, n_fn, b_add, b_sub, b_mul, b_lt, b_le, b_gt, b_ge, b_eq, b_ne, u_not, e2_0, e2_1, e2_10, e2_11, hb27]
        apply hK
        clear hK K
        simp only [andThen, leaves]
        refine DWp.cf (by simp [e2_0, e2_1, e2_10, e2_11, bnot]) ?_
        refine DWp.exit ?_
        simp only [andThen, leaves, if_true, if_false, reduceIte, Nat.reduceEqDiff]
        obtain rfl := Option.some.inj hL25
        have S44 := S2_.pick [0] (by decide) rfl
        obtain rfl := Option.some.inj hL22
        exact ⟨S44, A2_, by simp [e2_0, e2_1, e2_10, e2_11], by simp [e2_0, e2_1, e2_10, e2_11], by simp [e2_0, e2_1, e2_10, e2_11], by simp [e2_0, e2_1, e2_10, e2_11]⟩
  · rintro env Gj45 ⟨Sj45, Aj45, ej45_0, ej45_1, ej45_10, ej45_11⟩
    obtain ⟨s46, hL47, hF⟩ := bd_some hF
    refine DWp.seq (DWp.join (fun env G => Sep G B [flat v0 9 (strs (lset (lset x0 x1 (gat (ByteArray.mk #[]) x0 x3)) x3 (gat (ByteArray.mk #[]) x0 x1)))] ∧ AgB B H G ∧ env 0 = some v0 ∧ env 1 = some (Value.int .i64 x1) ∧ env 10 = some (Value.int .i64 s21) ∧ env 11 = some (Value.int .i64 s46)) ?_ ?_)
    ·
      refine DWp.block ?_
      obtain ⟨s49, hL50, hL47⟩ := bd_some hL47
      have S51 := Sj45.pick [0] (by decide) rfl
      refine DWp.loop (fun n env G => ∃ y2_11 : Int, F_slices_partitionOrdered_string_L2 fu (lset (lset x0 x1 (gat (ByteArray.mk #[]) x0 x3)) x3 (gat (ByteArray.mk #[]) x0 x1)) x1 s21 n y2_11 = some s49 ∧ Sep G B [flat v0 9 (strs (lset (lset x0 x1 (gat (ByteArray.mk #[]) x0 x3)) x3 (gat (ByteArray.mk #[]) x0 x1)))] ∧ AgB B H G ∧ env 0 = some v0 ∧ env 1 = some (Value.int .i64 x1) ∧ env 10 = some (Value.int .i64 s21) ∧ env 11 = some (Value.int .i64 y2_11)) fu ⟨(isub .i64 x2 1), hL50, S51, Aj45, by simp [ej45_0, ej45_1, ej45_10, ej45_11], by simp [ej45_0, ej45_1, ej45_10, ej45_11], by simp [ej45_0, ej45_1, ej45_10, ej45_11], by simp [ej45_0, ej45_1, ej45_10, ej45_11]⟩ ?_
      rintro n2 env2 G2_ ⟨y2_11, hL50, S2_, A2_, e2_0, e2_1, e2_10, e2_11⟩
      cases n2 with
      | zero => cases hL50
      | succ n2 =>
        simp only [F_slices_partitionOrdered_string_L2] at hL50
        refine DWp.seq ?_
        refine DWp.seq ?_
        rcases Bool.eq_false_or_eq_true (ile s21 y2_11) with hb52 | hb52
        · replace hL50 := cd_t hb52 hL50
          obtain ⟨g53, hL50⟩ := gd_some hL50
          have q54 := idxG (P := Try.prog) (kk := .i64) (S2_.sl (k := 0) rfl) el_59 sz_9 g53
          have q55 := loadG (P := Try.prog) (S2_.sl (k := 0) rfl) sz_9 ag_9 g53 (ByteArray.mk #[])
          obtain ⟨g56, hL50⟩ := gd_some hL50
          have q57 := idxG (P := Try.prog) (kk := .i64) (S2_.sl (k := 0) rfl) el_59 sz_9 g56
          have q58 := loadG (P := Try.prog) (S2_.sl (k := 0) rfl) sz_9 ag_9 g56 (ByteArray.mk #[])
          obtain ⟨r2, hc59, hL50⟩ := bd_some hL50
          refine DWp.drawn (B := [0, 0, 3, 7, 15, 15, 63, 127, 15, 15, 783, 1807, 4095, 8191, 16383]) 15 mixed (by kernel_rfl) (by decide) fun K hK => ?_
          simp [-aBin', -aBin, -aBinI, -aUn, -aNil, -flatV, n_fn, b_add, b_sub, b_mul, b_lt, b_le, b_gt, b_ge, b_eq, b_ne, u_not, e2_0, e2_1, e2_10, e2_11, hb52, q54, q55, q57, q58]
          refine CallD.t (F_cmp_Less_string_w (fu := fu)  hc59) ?_
          rintro _ G61 ⟨a64, rfl, S65⟩
          have A63 := A2_.ext (hB.le A2_.1) a64.agree
          have S62 : Sep G61 B [flat v0 9 (strs (lset (lset x0 x1 (gat (ByteArray.mk #[]) x0 x3)) x3 (gat (ByteArray.mk #[]) x0 x1)))] := S2_.app a64.agree S65 (fun _ h => h) (hB.le A2_.1)
          simp [-aBin', -aBin, -aBinI, -aUn, -aNil, -flatV, n_fn, b_add, b_sub, b_mul, b_lt, b_le, b_gt, b_ge, b_eq, b_ne, u_not, e2_0, e2_1, e2_10, e2_11, hb52, q54, q55, q57, q58, a64.pre]
          apply hK
          clear hK K
          simp only [andThen, leaves]
          refine DWp.cond' (t := (bnot r2)) (by simp [e2_0, e2_1, e2_10, e2_11]) (fun hb66 => ?_) (fun hb66 => ?_)
          · replace hL50 := cd_t hb66 hL50
            refine DWp.skip ?_
            simp only [andThen, leaves]
            refine DWp.block ?_
            refine DWp.region fun K hK => ?_
            simp [-aBin', -aBin, -aBinI, -aUn, -aNil, -flatV, n_fn, b_add, b_sub, b_mul, b_lt, b_le, b_gt, b_ge, b_eq, b_ne, u_not, e2_0, e2_1, e2_10, e2_11]
            apply hK
            clear hK K
            simp only [andThen, leaves]
            have S67 := S62.pick [0] (by decide) rfl
            exact ⟨n2, Nat.lt_succ_self _, (isub .i64 y2_11 1), hL50, S67, A63, by simp [e2_0, e2_1, e2_10, e2_11], by simp [e2_0, e2_1, e2_10, e2_11], by simp [e2_0, e2_1, e2_10, e2_11], by simp [e2_0, e2_1, e2_10, e2_11]⟩
          · replace hL50 := cd_f hb66 hL50
            refine DWp.exit ?_
            simp only [andThen, leaves, if_true, if_false, reduceIte, Nat.reduceEqDiff]
            obtain rfl := Option.some.inj hL50
            have S68 := S62.pick [0] (by decide) rfl
            obtain rfl := Option.some.inj hL47
            exact ⟨S68, A63, by simp [e2_0, e2_1, e2_10, e2_11], by simp [e2_0, e2_1, e2_10, e2_11], by simp [e2_0, e2_1, e2_10, e2_11], by simp [e2_0, e2_1, e2_10, e2_11]⟩
        · replace hL50 := cd_f hb52 hL50
          refine DWp.drawn (B := [0, 0, 3, 7, 15, 15, 63, 127, 15, 15, 783, 1807, 4095, 8191, 16383]) 15 mixed (by kernel_rfl) (by decide) fun K hK => ?_
          simp [-aBin', -aBin, -aBinI, -aUn, -aNil, -flatV, n_fn, b_add, b_sub, b_mul, b_lt, b_le, b_gt, b_ge, b_eq, b_ne, u_not, e2_0, e2_1, e2_10, e2_11, hb52]
          apply hK
          clear hK K
          simp only [andThen, leaves]
          refine DWp.cf (by simp [e2_0, e2_1, e2_10, e2_11, bnot]) ?_
          refine DWp.exit ?_
          simp only [andThen, leaves, if_true, if_false, reduceIte, Nat.reduceEqDiff]
          obtain rfl := Option.some.inj hL50
          have S69 := S2_.pick [0] (by decide) rfl
          obtain rfl := Option.some.inj hL47
          exact ⟨S69, A2_, by simp [e2_0, e2_1, e2_10, e2_11], by simp [e2_0, e2_1, e2_10, e2_11], by simp [e2_0, e2_1, e2_10, e2_11], by simp [e2_0, e2_1, e2_10, e2_11]⟩
    · rintro env Gj70 ⟨Sj70, Aj70, ej70_0, ej70_1, ej70_10, ej70_11⟩
      refine DWp.seq ?_
      refine DWp.seq ?_
      refine DWp.region fun K hK => ?_
      simp [-aBin', -aBin, -aBinI, -aUn, -aNil, -flatV, n_fn, b_add, b_sub, b_mul, b_lt, b_le, b_gt, b_ge, b_eq, b_ne, u_not, ej70_0, ej70_1, ej70_10, ej70_11]
      apply hK
      clear hK K
      simp only [andThen, leaves]
      refine DWp.cond' (t := (ilt s46 s21)) (by simp [ej70_0, ej70_1, ej70_10, ej70_11]) (fun hb71 => ?_) (fun hb71 => ?_)
      · replace hF := cd_t hb71 hF
        refine DWp.seq ?_
        obtain ⟨g72, hF⟩ := gd_some hF
        have q73 := idxG (P := Try.prog) (kk := .i64) (Sj70.sl (k := 0) rfl) el_59 sz_9 g72
        have q74 := loadG (P := Try.prog) (Sj70.sl (k := 0) rfl) sz_9 ag_9 g72 (ByteArray.mk #[])
        obtain ⟨g75, hF⟩ := gd_some hF
        have q76 := idxG (P := Try.prog) (kk := .i64) (Sj70.sl (k := 0) rfl) el_59 sz_9 g75
        have q77 := loadG (P := Try.prog) (Sj70.sl (k := 0) rfl) sz_9 ag_9 g75 (ByteArray.mk #[])
        obtain ⟨g78, hF⟩ := gd_some hF
        have q79 := idxG (P := Try.prog) (kk := .i64) (Sj70.sl (k := 0) rfl) el_59 sz_9 g78
        obtain ⟨G80, q81, S82, a84⟩ := Sj70.storeG (f := Value.string) (P := Try.prog) (k := 0) (x := (gat (ByteArray.mk #[]) (lset (lset x0 x1 (gat (ByteArray.mk #[]) x0 x3)) x3 (gat (ByteArray.mk #[]) x0 x1)) x1)) rfl (hB.le Aj70.1) sz_9 g78 rfl rfl
        have A83 := Aj70.trans a84
        replace S82 : Sep G80 B [flat v0 9 (strs (lset (lset (lset x0 x1 (gat (ByteArray.mk #[]) x0 x3)) x3 (gat (ByteArray.mk #[]) x0 x1)) s46 (gat (ByteArray.mk #[]) (lset (lset x0 x1 (gat (ByteArray.mk #[]) x0 x3)) x3 (gat (ByteArray.mk #[]) x0 x1)) x1)))] := S82
        obtain ⟨g85, hF⟩ := gd_some hF
        have q86 := idxG (P := Try.prog) (kk := .i64) (S82.sl (k := 0) rfl) el_59 sz_9 g85
        obtain ⟨G87, q88, S89, a91⟩ := S82.storeG (f := Value.string) (P := Try.prog) (k := 0) (x := (gat (ByteArray.mk #[]) (lset (lset x0 x1 (gat (ByteArray.mk #[]) x0 x3)) x3 (gat (ByteArray.mk #[]) x0 x1)) s46)) rfl (hB.le A83.1) sz_9 g85 rfl rfl
        have A90 := A83.trans a91
        replace S89 : Sep G87 B [flat v0 9 (strs (lset (lset (lset (lset x0 x1 (gat (ByteArray.mk #[]) x0 x3)) x3 (gat (ByteArray.mk #[]) x0 x1)) s46 (gat (ByteArray.mk #[]) (lset (lset x0 x1 (gat (ByteArray.mk #[]) x0 x3)) x3 (gat (ByteArray.mk #[]) x0 x1)) x1)) x1 (gat (ByteArray.mk #[]) (lset (lset x0 x1 (gat (ByteArray.mk #[]) x0 x3)) x3 (gat (ByteArray.mk #[]) x0 x1)) s46)))] := S89
        refine DWp.drawn (B := [0, 0, 0, 0, 0, 0, 48, 112, 0, 0, 768, 1792, 4083, 8179, 16383, 32767]) 13 mixed (by kernel_rfl) (by decide) fun K hK => ?_
        simp [-aBin', -aBin, -aBinI, -aUn, -aNil, -flatV, n_fn, b_add, b_sub, b_mul, b_lt, b_le, b_gt, b_ge, b_eq, b_ne, u_not, ej70_0, ej70_1, ej70_10, ej70_11, q73, q74, q76, q77, q79, q81, q86, q88]
        apply hK
        clear hK K
        simp only [andThen, leaves]
        refine DWp.seq ?_
        refine DWp.region fun K hK => ?_
        simp [-aBin', -aBin, -aBinI, -aUn, -aNil, -flatV, n_fn, b_add, b_sub, b_mul, b_lt, b_le, b_gt, b_ge, b_eq, b_ne, u_not, ej70_0, ej70_1, ej70_10, ej70_11]
        apply hK
        clear hK K
        simp only [andThen, leaves]
        refine DWp.ret ?_
        simp only [andThen, leaves]
        obtain rfl := Option.some.inj hF
        exact ⟨by simp, [(Value.int .i64 s46), (Value.bool true)], by simp [ej70_0, ej70_1, ej70_10, ej70_11], A90, rfl, S89.pick [0] (by decide) rfl⟩
      · replace hF := cd_f hb71 hF
        refine DWp.skip ?_
        simp only [andThen, leaves]
        refine DWp.seq ?_
        obtain ⟨g92, hF⟩ := gd_some hF
        have q93 := idxG (P := Try.prog) (kk := .i64) (Sj70.sl (k := 0) rfl) el_59 sz_9 g92
        have q94 := loadG (P := Try.prog) (Sj70.sl (k := 0) rfl) sz_9 ag_9 g92 (ByteArray.mk #[])
        obtain ⟨g95, hF⟩ := gd_some hF
        have q96 := idxG (P := Try.prog) (kk := .i64) (Sj70.sl (k := 0) rfl) el_59 sz_9 g95
        have q97 := loadG (P := Try.prog) (Sj70.sl (k := 0) rfl) sz_9 ag_9 g95 (ByteArray.mk #[])
        obtain ⟨g98, hF⟩ := gd_some hF
        have q99 := idxG (P := Try.prog) (kk := .i64) (Sj70.sl (k := 0) rfl) el_59 sz_9 g98
        obtain ⟨G100, q101, S102, a104⟩ := Sj70.storeG (f := Value.string) (P := Try.prog) (k := 0) (x := (gat (ByteArray.mk #[]) (lset (lset x0 x1 (gat (ByteArray.mk #[]) x0 x3)) x3 (gat (ByteArray.mk #[]) x0 x1)) s46)) rfl (hB.le Aj70.1) sz_9 g98 rfl rfl
        have A103 := Aj70.trans a104
        replace S102 : Sep G100 B [flat v0 9 (strs (lset (lset (lset x0 x1 (gat (ByteArray.mk #[]) x0 x3)) x3 (gat (ByteArray.mk #[]) x0 x1)) s21 (gat (ByteArray.mk #[]) (lset (lset x0 x1 (gat (ByteArray.mk #[]) x0 x3)) x3 (gat (ByteArray.mk #[]) x0 x1)) s46)))] := S102
        obtain ⟨g105, hF⟩ := gd_some hF
        have q106 := idxG (P := Try.prog) (kk := .i64) (S102.sl (k := 0) rfl) el_59 sz_9 g105
        obtain ⟨G107, q108, S109, a111⟩ := S102.storeG (f := Value.string) (P := Try.prog) (k := 0) (x := (gat (ByteArray.mk #[]) (lset (lset x0 x1 (gat (ByteArray.mk #[]) x0 x3)) x3 (gat (ByteArray.mk #[]) x0 x1)) s21)) rfl (hB.le A103.1) sz_9 g105 rfl rfl
        have A110 := A103.trans a111
        replace S109 : Sep G107 B [flat v0 9 (strs (lset (lset (lset (lset x0 x1 (gat (ByteArray.mk #[]) x0 x3)) x3 (gat (ByteArray.mk #[]) x0 x1)) s21 (gat (ByteArray.mk #[]) (lset (lset x0 x1 (gat (ByteArray.mk #[]) x0 x3)) x3 (gat (ByteArray.mk #[]) x0 x1)) s46)) s46 (gat (ByteArray.mk #[]) (lset (lset x0 x1 (gat (ByteArray.mk #[]) x0 x3)) x3 (gat (ByteArray.mk #[]) x0 x1)) s21)))] := S109
        refine DWp.drawn (B := [0, 0, 0, 0, 0, 0, 48, 112, 0, 0, 768, 1792, 4083, 8179, 16383, 32767]) 13 mixed (by kernel_rfl) (by decide) fun K hK => ?_
        simp [-aBin', -aBin, -aBinI, -aUn, -aNil, -flatV, n_fn, b_add, b_sub, b_mul, b_lt, b_le, b_gt, b_ge, b_eq, b_ne, u_not, ej70_0, ej70_1, ej70_10, ej70_11, q93, q94, q96, q97, q99, q101, q106, q108]
        apply hK
        clear hK K
        simp only [andThen, leaves]
        refine DWp.seq ?_
        refine DWp.region fun K hK => ?_
        simp [-aBin', -aBin, -aBinI, -aUn, -aNil, -flatV, n_fn, b_add, b_sub, b_mul, b_lt, b_le, b_gt, b_ge, b_eq, b_ne, u_not, ej70_0, ej70_1, ej70_10, ej70_11]
        apply hK
        clear hK K
        simp only [andThen, leaves]
        refine DWp.seq ?_
        refine DWp.region fun K hK => ?_
        simp [-aBin', -aBin, -aBinI, -aUn, -aNil, -flatV, n_fn, b_add, b_sub, b_mul, b_lt, b_le, b_gt, b_ge, b_eq, b_ne, u_not, ej70_0, ej70_1, ej70_10, ej70_11]
        apply hK
        clear hK K
        simp only [andThen, leaves]
        refine DWp.seq ?_
        refine DWp.block ?_
        obtain ⟨s112, hL113, hF⟩ := bd_some hF
        have S114 := S109.pick [0] (by decide) rfl
        refine DWp.loop (fun n env G => ∃ l3_0 : List ByteArray, ∃ y3_10 : Int, ∃ y3_11 : Int, F_slices_partitionOrdered_string_L3 fu x1 n l3_0 y3_10 y3_11 = some s112 ∧ Sep G B [flat v0 9 (strs l3_0)] ∧ AgB B H G ∧ env 0 = some v0 ∧ env 1 = some (Value.int .i64 x1) ∧ env 10 = some (Value.int .i64 y3_10) ∧ env 11 = some (Value.int .i64 y3_11)) fu ⟨(lset (lset (lset (lset x0 x1 (gat (ByteArray.mk #[]) x0 x3)) x3 (gat (ByteArray.mk #[]) x0 x1)) s21 (gat (ByteArray.mk #[]) (lset (lset x0 x1 (gat (ByteArray.mk #[]) x0 x3)) x3 (gat (ByteArray.mk #[]) x0 x1)) s46)) s46 (gat (ByteArray.mk #[]) (lset (lset x0 x1 (gat (ByteArray.mk #[]) x0 x3)) x3 (gat (ByteArray.mk #[]) x0 x1)) s21)), (iadd .i64 s21 1), (isub .i64 s46 1), hL113, S114, A110, by simp [ej70_0, ej70_1, ej70_10, ej70_11], by simp [ej70_0, ej70_1, ej70_10, ej70_11], by simp [ej70_0, ej70_1, ej70_10, ej70_11], by simp [ej70_0, ej70_1, ej70_10, ej70_11]⟩ ?_
        rintro n1 env1 G1_ ⟨l3_0, y3_10, y3_11, hL113, S1_, A1_, e1_0, e1_1, e1_10, e1_11⟩
        cases n1 with
        | zero => cases hL113
        | succ n1 =>
          simp only [F_slices_partitionOrdered_string_L3] at hL113
          refine DWp.block ?_
          obtain ⟨s115, hL116, hL113⟩ := bd_some hL113
          refine DWp.seq (DWp.join (fun env G => Sep G B [flat v0 9 (strs l3_0)] ∧ AgB B H G ∧ env 0 = some v0 ∧ env 1 = some (Value.int .i64 x1) ∧ env 10 = some (Value.int .i64 s115) ∧ env 11 = some (Value.int .i64 y3_11)) ?_ ?_)
          ·
            refine DWp.block ?_
            obtain ⟨s118, hL119, hL116⟩ := bd_some hL116
            have S120 := S1_.pick [0] (by decide) rfl
            refine DWp.loop (fun n env G => ∃ y4_10 : Int, F_slices_partitionOrdered_string_L4 fu l3_0 x1 y3_11 n y4_10 = some s118 ∧ Sep G B [flat v0 9 (strs l3_0)] ∧ AgB B H G ∧ env 0 = some v0 ∧ env 1 = some (Value.int .i64 x1) ∧ env 10 = some (Value.int .i64 y4_10) ∧ env 11 = some (Value.int .i64 y3_11)) fu ⟨y3_10, hL119, S120, A1_, by simp [e1_0, e1_1, e1_10, e1_11], by simp [e1_0, e1_1, e1_10, e1_11], by simp [e1_0, e1_1, e1_10, e1_11], by simp [e1_0, e1_1, e1_10, e1_11]⟩ ?_
            rintro n3 env3 G3_ ⟨y4_10, hL119, S3_, A3_, e3_0, e3_1, e3_10, e3_11⟩
            cases n3 with
            | zero => cases hL119
            | succ n3 =>
              simp only [F_slices_partitionOrdered_string_L4] at hL119
              refine DWp.seq ?_
              refine DWp.seq ?_
              rcases Bool.eq_false_or_eq_true (ile y4_10 y3_11) with hb121 | hb121
              · replace hL119 := cd_t hb121 hL119
                obtain ⟨g122, hL119⟩ := gd_some hL119
                have q123 := idxG (P := Try.prog) (kk := .i64) (S3_.sl (k := 0) rfl) el_59 sz_9 g122
                have q124 := loadG (P := Try.prog) (S3_.sl (k := 0) rfl) sz_9 ag_9 g122 (ByteArray.mk #[])
                obtain ⟨g125, hL119⟩ := gd_some hL119
                have q126 := idxG (P := Try.prog) (kk := .i64) (S3_.sl (k := 0) rfl) el_59 sz_9 g125
                have q127 := loadG (P := Try.prog) (S3_.sl (k := 0) rfl) sz_9 ag_9 g125 (ByteArray.mk #[])
                obtain ⟨r3, hc128, hL119⟩ := bd_some hL119
                refine DWp.drawn (B := [0, 0, 3, 7, 15, 15, 63, 127, 15, 15, 783, 1807, 4095, 8191]) 14 mixed (by kernel_rfl) (by decide) fun K hK => ?_
                simp [-aBin', -aBin, -aBinI, -aUn, -aNil, -flatV, n_fn, b_add, b_sub, b_mul, b_lt, b_le, b_gt, b_ge, b_eq, b_ne, u_not, e3_0, e3_1, e3_10, e3_11, hb121, q123, q124, q126, q127]
                refine CallD.t (F_cmp_Less_string_w (fu := fu)  hc128) ?_
                rintro _ G130 ⟨a133, rfl, S134⟩
                have A132 := A3_.ext (hB.le A3_.1) a133.agree
                have S131 : Sep G130 B [flat v0 9 (strs l3_0)] := S3_.app a133.agree S134 (fun _ h => h) (hB.le A3_.1)
                simp [-aBin', -aBin, -aBinI, -aUn, -aNil, -flatV, n_fn, b_add, b_sub, b_mul, b_lt, b_le, b_gt, b_ge, b_eq, b_ne, u_not, e3_0, e3_1, e3_10, e3_11, hb121, q123, q124, q126, q127, a133.pre]
                apply hK
                clear hK K
                simp only [andThen, leaves]
                refine DWp.cond' (t := r3) (by simp [e3_0, e3_1, e3_10, e3_11]) (fun hb135 => ?_) (fun hb135 => ?_)
                · replace hL119 := cd_t hb135 hL119
                  refine DWp.skip ?_
                  simp only [andThen, leaves]
                  refine DWp.block ?_
                  refine DWp.region fun K hK => ?_
                  simp [-aBin', -aBin, -aBinI, -aUn, -aNil, -flatV, n_fn, b_add, b_sub, b_mul, b_lt, b_le, b_gt, b_ge, b_eq, b_ne, u_not, e3_0, e3_1, e3_10, e3_11]
                  apply hK
                  clear hK K
                  simp only [andThen, leaves]
                  have S136 := S131.pick [0] (by decide) rfl
                  exact ⟨n3, Nat.lt_succ_self _, (iadd .i64 y4_10 1), hL119, S136, A132, by simp [e3_0, e3_1, e3_10, e3_11], by simp [e3_0, e3_1, e3_10, e3_11], by simp [e3_0, e3_1, e3_10, e3_11], by simp [e3_0, e3_1, e3_10, e3_11]⟩
                · replace hL119 := cd_f hb135 hL119
                  refine DWp.exit ?_
                  simp only [andThen, leaves, if_true, if_false, reduceIte, Nat.reduceEqDiff]
                  obtain rfl := Option.some.inj hL119
                  have S137 := S131.pick [0] (by decide) rfl
                  obtain rfl := Option.some.inj hL116
                  exact ⟨S137, A132, by simp [e3_0, e3_1, e3_10, e3_11], by simp [e3_0, e3_1, e3_10, e3_11], by simp [e3_0, e3_1, e3_10, e3_11], by simp [e3_0, e3_1, e3_10, e3_11]⟩
              · replace hL119 := cd_f hb121 hL119
                refine DWp.drawn (B := [0, 0, 3, 7, 15, 15, 63, 127, 15, 15, 783, 1807, 4095, 8191]) 14 mixed (by kernel_rfl) (by decide) fun K hK => ?_
                simp [-aBin', -aBin, -aBinI, -aUn, -aNil, -flatV, n_fn, b_add, b_sub, b_mul, b_lt, b_le, b_gt, b_ge, b_eq, b_ne, u_not, e3_0, e3_1, e3_10, e3_11, hb121]
                apply hK
                clear hK K
                simp only [andThen, leaves]
                refine DWp.cf (by simp [e3_0, e3_1, e3_10, e3_11, bnot]) ?_
                refine DWp.exit ?_
                simp only [andThen, leaves, if_true, if_false, reduceIte, Nat.reduceEqDiff]
                obtain rfl := Option.some.inj hL119
                have S138 := S3_.pick [0] (by decide) rfl
                obtain rfl := Option.some.inj hL116
                exact ⟨S138, A3_, by simp [e3_0, e3_1, e3_10, e3_11], by simp [e3_0, e3_1, e3_10, e3_11], by simp [e3_0, e3_1, e3_10, e3_11], by simp [e3_0, e3_1, e3_10, e3_11]⟩
          · rintro env Gj139 ⟨Sj139, Aj139, ej139_0, ej139_1, ej139_10, ej139_11⟩
            obtain ⟨s140, hL141, hL113⟩ := bd_some hL113
            refine DWp.seq (DWp.join (fun env G => Sep G B [flat v0 9 (strs l3_0)] ∧ AgB B H G ∧ env 0 = some v0 ∧ env 1 = some (Value.int .i64 x1) ∧ env 10 = some (Value.int .i64 s115) ∧ env 11 = some (Value.int .i64 s140)) ?_ ?_)
            ·
              refine DWp.block ?_
              obtain ⟨s143, hL144, hL141⟩ := bd_some hL141
              have S145 := Sj139.pick [0] (by decide) rfl
              refine DWp.loop (fun n env G => ∃ y5_11 : Int, F_slices_partitionOrdered_string_L5 fu l3_0 x1 s115 n y5_11 = some s143 ∧ Sep G B [flat v0 9 (strs l3_0)] ∧ AgB B H G ∧ env 0 = some v0 ∧ env 1 = some (Value.int .i64 x1) ∧ env 10 = some (Value.int .i64 s115) ∧ env 11 = some (Value.int .i64 y5_11)) fu ⟨y3_11, hL144, S145, Aj139, by simp [ej139_0, ej139_1, ej139_10, ej139_11], by simp [ej139_0, ej139_1, ej139_10, ej139_11], by simp [ej139_0, ej139_1, ej139_10, ej139_11], by simp [ej139_0, ej139_1, ej139_10, ej139_11]⟩ ?_
              rintro n3 env3 G3_ ⟨y5_11, hL144, S3_, A3_, e3_0, e3_1, e3_10, e3_11⟩
              cases n3 with
              | zero => cases hL144
              | succ n3 =>
                simp only [F_slices_partitionOrdered_string_L5] at hL144
                refine DWp.seq ?_
                refine DWp.seq ?_
                rcases Bool.eq_false_or_eq_true (ile s115 y5_11) with hb146 | hb146
                · replace hL144 := cd_t hb146 hL144
                  obtain ⟨g147, hL144⟩ := gd_some hL144
                  have q148 := idxG (P := Try.prog) (kk := .i64) (S3_.sl (k := 0) rfl) el_59 sz_9 g147
                  have q149 := loadG (P := Try.prog) (S3_.sl (k := 0) rfl) sz_9 ag_9 g147 (ByteArray.mk #[])
                  obtain ⟨g150, hL144⟩ := gd_some hL144
                  have q151 := idxG (P := Try.prog) (kk := .i64) (S3_.sl (k := 0) rfl) el_59 sz_9 g150
                  have q152 := loadG (P := Try.prog) (S3_.sl (k := 0) rfl) sz_9 ag_9 g150 (ByteArray.mk #[])
                  obtain ⟨r4, hc153, hL144⟩ := bd_some hL144
                  refine DWp.drawn (B := [0, 0, 3, 7, 15, 15, 63, 127, 15, 15, 783, 1807, 4095, 8191, 16383]) 15 mixed (by kernel_rfl) (by decide) fun K hK => ?_
                  simp [-aBin', -aBin, -aBinI, -aUn, -aNil, -flatV, n_fn, b_add, b_sub, b_mul, b_lt, b_le, b_gt, b_ge, b_eq, b_ne, u_not, e3_0, e3_1, e3_10, e3_11, hb146, q148, q149, q151, q152]
                  refine CallD.t (F_cmp_Less_string_w (fu := fu)  hc153) ?_
                  rintro _ G155 ⟨a158, rfl, S159⟩
                  have A157 := A3_.ext (hB.le A3_.1) a158.agree
                  have S156 : Sep G155 B [flat v0 9 (strs l3_0)] := S3_.app a158.agree S159 (fun _ h => h) (hB.le A3_.1)
                  simp [-aBin', -aBin, -aBinI, -aUn, -aNil, -flatV, n_fn, b_add, b_sub, b_mul, b_lt, b_le, b_gt, b_ge, b_eq, b_ne, u_not, e3_0, e3_1, e3_10, e3_11, hb146, q148, q149, q151, q152, a158.pre]
                  apply hK
                  clear hK K
                  simp only [andThen, leaves]
                  refine DWp.cond' (t := (bnot r4)) (by simp [e3_0, e3_1, e3_10, e3_11]) (fun hb160 => ?_) (fun hb160 => ?_)
                  · replace hL144 := cd_t hb160 hL144
                    refine DWp.skip ?_
                    simp only [andThen, leaves]
                    refine DWp.block ?_
                    refine DWp.region fun K hK => ?_
                    simp [-aBin', -aBin, -aBinI, -aUn, -aNil, -flatV, n_fn, b_add, b_sub, b_mul, b_lt, b_le, b_gt, b_ge, b_eq, b_ne, u_not, e3_0, e3_1, e3_10, e3_11]
                    apply hK
                    clear hK K
                    simp only [andThen, leaves]
                    have S161 := S156.pick [0] (by decide) rfl
                    exact ⟨n3, Nat.lt_succ_self _, (isub .i64 y5_11 1), hL144, S161, A157, by simp [e3_0, e3_1, e3_10, e3_11], by simp [e3_0, e3_1, e3_10, e3_11], by simp [e3_0, e3_1, e3_10, e3_11], by simp [e3_0, e3_1, e3_10, e3_11]⟩
                  · replace hL144 := cd_f hb160 hL144
                    refine DWp.exit ?_
                    simp only [andThen, leaves, if_true, if_false, reduceIte, Nat.reduceEqDiff]
                    obtain rfl := Option.some.inj hL144
                    have S162 := S156.pick [0] (by decide) rfl
                    obtain rfl := Option.some.inj hL141
                    exact ⟨S162, A157, by simp [e3_0, e3_1, e3_10, e3_11], by simp [e3_0, e3_1, e3_10, e3_11], by simp [e3_0, e3_1, e3_10, e3_11], by simp [e3_0, e3_1, e3_10, e3_11]⟩
                · replace hL144 := cd_f hb146 hL144
                  refine DWp.drawn (B := [0, 0, 3, 7, 15, 15, 63, 127, 15, 15, 783, 1807, 4095, 8191, 16383]) 15 mixed (by kernel_rfl) (by decide) fun K hK => ?_
                  simp [-aBin', -aBin, -aBinI, -aUn, -aNil, -flatV, n_fn, b_add, b_sub, b_mul, b_lt, b_le, b_gt, b_ge, b_eq, b_ne, u_not, e3_0, e3_1, e3_10, e3_11, hb146]
                  apply hK
                  clear hK K
                  simp only [andThen, leaves]
                  refine DWp.cf (by simp [e3_0, e3_1, e3_10, e3_11, bnot]) ?_
                  refine DWp.exit ?_
                  simp only [andThen, leaves, if_true, if_false, reduceIte, Nat.reduceEqDiff]
                  obtain rfl := Option.some.inj hL144
                  have S163 := S3_.pick [0] (by decide) rfl
                  obtain rfl := Option.some.inj hL141
                  exact ⟨S163, A3_, by simp [e3_0, e3_1, e3_10, e3_11], by simp [e3_0, e3_1, e3_10, e3_11], by simp [e3_0, e3_1, e3_10, e3_11], by simp [e3_0, e3_1, e3_10, e3_11]⟩
            · rintro env Gj164 ⟨Sj164, Aj164, ej164_0, ej164_1, ej164_10, ej164_11⟩
              refine DWp.seq ?_
              refine DWp.seq ?_
              refine DWp.region fun K hK => ?_
              simp [-aBin', -aBin, -aBinI, -aUn, -aNil, -flatV, n_fn, b_add, b_sub, b_mul, b_lt, b_le, b_gt, b_ge, b_eq, b_ne, u_not, ej164_0, ej164_1, ej164_10, ej164_11]
              apply hK
              clear hK K
              simp only [andThen, leaves]
              refine DWp.cond' (t := (ilt s140 s115)) (by simp [ej164_0, ej164_1, ej164_10, ej164_11]) (fun hb165 => ?_) (fun hb165 => ?_)
              · replace hL113 := cd_t hb165 hL113
                refine DWp.exit ?_
                simp only [andThen, leaves, if_true, if_false, reduceIte, Nat.reduceEqDiff]
                obtain rfl := Option.some.inj hL113
                try dsimp only at hF
                refine DWp.seq ?_
                obtain ⟨g166, hF⟩ := gd_some hF
                have q167 := idxG (P := Try.prog) (kk := .i64) (Sj164.sl (k := 0) rfl) el_59 sz_9 g166
                have q168 := loadG (P := Try.prog) (Sj164.sl (k := 0) rfl) sz_9 ag_9 g166 (ByteArray.mk #[])
                obtain ⟨g169, hF⟩ := gd_some hF
                have q170 := idxG (P := Try.prog) (kk := .i64) (Sj164.sl (k := 0) rfl) el_59 sz_9 g169
                have q171 := loadG (P := Try.prog) (Sj164.sl (k := 0) rfl) sz_9 ag_9 g169 (ByteArray.mk #[])
                obtain ⟨g172, hF⟩ := gd_some hF
                have q173 := idxG (P := Try.prog) (kk := .i64) (Sj164.sl (k := 0) rfl) el_59 sz_9 g172
                obtain ⟨G174, q175, S176, a178⟩ := Sj164.storeG (f := Value.string) (P := Try.prog) (k := 0) (x := (gat (ByteArray.mk #[]) l3_0 x1)) rfl (hB.le Aj164.1) sz_9 g172 rfl rfl
                have A177 := Aj164.trans a178
                replace S176 : Sep G174 B [flat v0 9 (strs (lset l3_0 s140 (gat (ByteArray.mk #[]) l3_0 x1)))] := S176
                obtain ⟨g179, hF⟩ := gd_some hF
                have q180 := idxG (P := Try.prog) (kk := .i64) (S176.sl (k := 0) rfl) el_59 sz_9 g179
                obtain ⟨G181, q182, S183, a185⟩ := S176.storeG (f := Value.string) (P := Try.prog) (k := 0) (x := (gat (ByteArray.mk #[]) l3_0 s140)) rfl (hB.le A177.1) sz_9 g179 rfl rfl
                have A184 := A177.trans a185
                replace S183 : Sep G181 B [flat v0 9 (strs (lset (lset l3_0 s140 (gat (ByteArray.mk #[]) l3_0 x1)) x1 (gat (ByteArray.mk #[]) l3_0 s140)))] := S183
                refine DWp.drawn (B := [0, 0, 0, 0, 0, 0, 48, 112, 0, 0, 768, 1792, 4083, 8179, 16383, 32767]) 13 mixed (by kernel_rfl) (by decide) fun K hK => ?_
                simp [-aBin', -aBin, -aBinI, -aUn, -aNil, -flatV, n_fn, b_add, b_sub, b_mul, b_lt, b_le, b_gt, b_ge, b_eq, b_ne, u_not, ej164_0, ej164_1, ej164_10, ej164_11, q167, q168, q170, q171, q173, q175, q180, q182]
                apply hK
                clear hK K
                simp only [andThen, leaves]
                refine DWp.seq ?_
                refine DWp.region fun K hK => ?_
                simp [-aBin', -aBin, -aBinI, -aUn, -aNil, -flatV, n_fn, b_add, b_sub, b_mul, b_lt, b_le, b_gt, b_ge, b_eq, b_ne, u_not, ej164_0, ej164_1, ej164_10, ej164_11]
                apply hK
                clear hK K
                simp only [andThen, leaves]
                refine DWp.ret ?_
                obtain rfl := Option.some.inj hF
                exact ⟨by simp, [(Value.int .i64 s140), (Value.bool false)], by simp [ej164_0, ej164_1, ej164_10, ej164_11], A184, rfl, S183.pick [0] (by decide) rfl⟩
              · replace hL113 := cd_f hb165 hL113
                refine DWp.skip ?_
                simp only [andThen, leaves]
                refine DWp.seq ?_
                obtain ⟨g186, hL113⟩ := gd_some hL113
                have q187 := idxG (P := Try.prog) (kk := .i64) (Sj164.sl (k := 0) rfl) el_59 sz_9 g186
                have q188 := loadG (P := Try.prog) (Sj164.sl (k := 0) rfl) sz_9 ag_9 g186 (ByteArray.mk #[])
                obtain ⟨g189, hL113⟩ := gd_some hL113
                have q190 := idxG (P := Try.prog) (kk := .i64) (Sj164.sl (k := 0) rfl) el_59 sz_9 g189
                have q191 := loadG (P := Try.prog) (Sj164.sl (k := 0) rfl) sz_9 ag_9 g189 (ByteArray.mk #[])
                obtain ⟨g192, hL113⟩ := gd_some hL113
                have q193 := idxG (P := Try.prog) (kk := .i64) (Sj164.sl (k := 0) rfl) el_59 sz_9 g192
                obtain ⟨G194, q195, S196, a198⟩ := Sj164.storeG (f := Value.string) (P := Try.prog) (k := 0) (x := (gat (ByteArray.mk #[]) l3_0 s140)) rfl (hB.le Aj164.1) sz_9 g192 rfl rfl
                have A197 := Aj164.trans a198
                replace S196 : Sep G194 B [flat v0 9 (strs (lset l3_0 s115 (gat (ByteArray.mk #[]) l3_0 s140)))] := S196
                obtain ⟨g199, hL113⟩ := gd_some hL113
                have q200 := idxG (P := Try.prog) (kk := .i64) (S196.sl (k := 0) rfl) el_59 sz_9 g199
                obtain ⟨G201, q202, S203, a205⟩ := S196.storeG (f := Value.string) (P := Try.prog) (k := 0) (x := (gat (ByteArray.mk #[]) l3_0 s115)) rfl (hB.le A197.1) sz_9 g199 rfl rfl
                have A204 := A197.trans a205
                replace S203 : Sep G201 B [flat v0 9 (strs (lset (lset l3_0 s115 (gat (ByteArray.mk #[]) l3_0 s140)) s140 (gat (ByteArray.mk #[]) l3_0 s115)))] := S203
                refine DWp.drawn (B := [0, 0, 0, 0, 0, 0, 48, 112, 0, 0, 768, 1792, 4083, 8179, 16383, 32767]) 13 mixed (by kernel_rfl) (by decide) fun K hK => ?_
                simp [-aBin', -aBin, -aBinI, -aUn, -aNil, -flatV, n_fn, b_add, b_sub, b_mul, b_lt, b_le, b_gt, b_ge, b_eq, b_ne, u_not, ej164_0, ej164_1, ej164_10, ej164_11, q187, q188, q190, q191, q193, q195, q200, q202]
                apply hK
                clear hK K
                simp only [andThen, leaves]
                refine DWp.seq ?_
                refine DWp.region fun K hK => ?_
                simp [-aBin', -aBin, -aBinI, -aUn, -aNil, -flatV, n_fn, b_add, b_sub, b_mul, b_lt, b_le, b_gt, b_ge, b_eq, b_ne, u_not, ej164_0, ej164_1, ej164_10, ej164_11]
                apply hK
                clear hK K
                simp only [andThen, leaves]
                refine DWp.region fun K hK => ?_
                simp [-aBin', -aBin, -aBinI, -aUn, -aNil, -flatV, n_fn, b_add, b_sub, b_mul, b_lt, b_le, b_gt, b_ge, b_eq, b_ne, u_not, ej164_0, ej164_1, ej164_10, ej164_11]
                apply hK
                clear hK K
                simp only [andThen, leaves]
                have S206 := S203.pick [0] (by decide) rfl
                exact ⟨n1, Nat.lt_succ_self _, (lset (lset l3_0 s115 (gat (ByteArray.mk #[]) l3_0 s140)) s140 (gat (ByteArray.mk #[]) l3_0 s115)), (iadd .i64 s115 1), (isub .i64 s140 1), hL113, S206, A204, by simp [ej164_0, ej164_1, ej164_10, ej164_11], by simp [ej164_0, ej164_1, ej164_10, ej164_11], by simp [ej164_0, ej164_1, ej164_10, ej164_11], by simp [ej164_0, ej164_1, ej164_10, ej164_11]⟩
def F_slices_pdqsortOrdered_string_L1 (fu : Nat) (self_ : (List ByteArray) → Int → Int → Int → Option (List ByteArray))  : Nat → List ByteArray → Int → Int → Int → Bool → Bool → Option (LR (List ByteArray) (List ByteArray × Int × Int × Int × Bool × Bool))
  | 0, _, _, _, _, _, _ => none
  | n + 1, l1_0, y1_1, y1_2, y1_3, y1_8, y1_9 =>
    bif (ile (isub .i64 y1_2 y1_1) 12) then
      bd (F_slices_insertionSortOrdered_string fu l1_0 y1_1 y1_2) fun r1 =>
      some (.ret r1)
    else
      bif (ieq y1_3 0) then
        bd (F_slices_heapSortOrdered_string fu l1_0 y1_1 y1_2) fun r2 =>
        some (.ret r2)
      else
        bd (
          bif (bnot y1_8) then
            bd (F_slices_breakPatternsOrdered_string fu l1_0 y1_1 y1_2) fun r3 =>
            some (r3, (isub .i64 y1_3 1))
          else
            some (l1_0, y1_3)) fun s34 =>
        bd (F_slices_choosePivotOrdered_string fu s34.1 y1_1 y1_2) fun r4 =>
        bd (
          bif (ieq r4.2 2) then
            bd (F_slices_reverseRangeOrdered_string fu s34.1 y1_1 y1_2) fun r5 =>
            some (r5, (isub .i64 (isub .i64 y1_2 1) (isub .i64 r4.1 y1_1)), 1)
          else
            some (s34.1, r4.1, r4.2)) fun s62 =>
        bd (
          bif y1_8 then
            bif y1_9 then
              some (ieq s62.2.2 1)
            else
              some false
          else
            some false) fun s83 =>
        bif s83 then
          bd (F_slices_partialInsertionSortOrdered_string fu s62.1 y1_1 y1_2) fun r6 =>
          bif r6.1 then
            some (.ret r6.2)
          else
            bd (
              bif (ilt 0 y1_1) then
                gd (inL r6.2 (isub .i64 y1_1 1)) (
                gd (inL r6.2 s62.2.1) (
                bd (F_cmp_Less_string fu (gat (ByteArray.mk #[]) r6.2 (isub .i64 y1_1 1)) (gat (ByteArray.mk #[]) r6.2 s62.2.1)) fun r7 =>
                some (bnot r7)))
              else
                some false) fun s108 =>
            bif s108 then
              bd (F_slices_partitionEqualOrdered_string fu r6.2 y1_1 y1_2 s62.2.1) fun r8 =>
              F_slices_pdqsortOrdered_string_L1 fu self_ n r8.2 r8.1 y1_2 s34.2 y1_8 y1_9
            else
              bd (F_slices_partitionOrdered_string fu r6.2 y1_1 y1_2 s62.2.1) fun r9 =>
              bif (ilt (isub .i64 r9.1 y1_1) (isub .i64 y1_2 r9.1)) then
                bd (self_ r9.2.2 y1_1 r9.1 s34.2) fun r10 =>
                F_slices_pdqsortOrdered_string_L1 fu self_ n r10 (iadd .i64 r9.1 1) y1_2 s34.2 (ile (iquo .i64 (isub .i64 y1_2 y1_1) 8) (isub .i64 r9.1 y1_1)) r9.2.1
              else
                bd (self_ r9.2.2 (iadd .i64 r9.1 1) y1_2 s34.2) fun r11 =>
                F_slices_pdqsortOrdered_string_L1 fu self_ n r11 y1_1 r9.1 s34.2 (ile (iquo .i64 (isub .i64 y1_2 y1_1) 8) (isub .i64 y1_2 r9.1)) r9.2.1
        else
          bd (
            bif (ilt 0 y1_1) then
              gd (inL s62.1 (isub .i64 y1_1 1)) (
              gd (inL s62.1 s62.2.1) (
              bd (F_cmp_Less_string fu (gat (ByteArray.mk #[]) s62.1 (isub .i64 y1_1 1)) (gat (ByteArray.mk #[]) s62.1 s62.2.1)) fun r12 =>
              some (bnot r12)))
            else
              some false) fun s190 =>
          bif s190 then
            bd (F_slices_partitionEqualOrdered_string fu s62.1 y1_1 y1_2 s62.2.1) fun r13 =>
            F_slices_pdqsortOrdered_string_L1 fu self_ n r13.2 r13.1 y1_2 s34.2 y1_8 y1_9
          else
            bd (F_slices_partitionOrdered_string fu s62.1 y1_1 y1_2 s62.2.1) fun r14 =>
            bif (ilt (isub .i64 r14.1 y1_1) (isub .i64 y1_2 r14.1)) then
              bd (self_ r14.2.2 y1_1 r14.1 s34.2) fun r15 =>
              F_slices_pdqsortOrdered_string_L1 fu self_ n r15 (iadd .i64 r14.1 1) y1_2 s34.2 (ile (iquo .i64 (isub .i64 y1_2 y1_1) 8) (isub .i64 r14.1 y1_1)) r14.2.1
            else
              bd (self_ r14.2.2 (iadd .i64 r14.1 1) y1_2 s34.2) fun r16 =>
              F_slices_pdqsortOrdered_string_L1 fu self_ n r16 y1_1 r14.1 s34.2 (ile (iquo .i64 (isub .i64 y1_2 y1_1) 8) (isub .i64 y1_2 r14.1)) r14.2.1
def F_slices_pdqsortOrdered_string : Nat → (List ByteArray) → Int → Int → Int → Option (List ByteArray)
  | 0, _, _, _, _ => none
  | fu + 1, x0, x1, x2, x3 =>
    bd (F_slices_pdqsortOrdered_string_L1 fu (F_slices_pdqsortOrdered_string fu) fu x0 x1 x2 x3 true true) fun s1 => lr s1 fun _ => none
theorem F_slices_pdqsortOrdered_string_w : ∀ {fu : Nat} {H : AH} {B : Nat → Prop} {v0 : Value} {x0 : List ByteArray} {x1 : Int} {x2 : Int} {x3 : Int} {r : (List ByteArray)} (hB : Up B H.length) (S0 : Sep H B [flat v0 9 (strs x0)]) (hF : F_slices_pdqsortOrdered_string fu x0 x1 x2 x3 = some r),
    ACallT Try.prog 148 [v0, (Value.int .i64 x1), (Value.int .i64 x2), (Value.int .i64 x3)] H (fun u G => AgB B H G ∧ u = (Value.tuple #[]) ∧ Sep G B [flat v0 9 (strs r)]) := by
  intro fu
  induction fu with
  | zero => intros; rename_i hF; cases hF
  | succ fu ih =>
  intro H B v0 x0 x1 x2 x3 r hB S0 hF
  simp only [F_slices_pdqsortOrdered_string] at hF
  refine ACallT.of_body (nt := 134) (rs := []) Try.func148 rfl rfl rfl rfl ?_
  have A0 : AgB B H H := .refl _ _
  refine DWp.seq ?_
  refine DWp.region fun K hK => ?_
  simp [-aBin', -aBin, -aBinI, -aUn, -aNil, -flatV, n_fn, b_add, b_sub, b_mul, b_lt, b_le, b_gt, b_ge, b_eq, b_ne, u_not]
  apply hK
  clear hK K
  simp only [andThen, leaves]
  refine DWp.seq ?_
  refine DWp.region fun K hK => ?_
  simp [-aBin', -aBin, -aBinI, -aUn, -aNil, -flatV, n_fn, b_add, b_sub, b_mul, b_lt, b_le, b_gt, b_ge, b_eq, b_ne, u_not]
  apply hK
  clear hK K
  simp only [andThen, leaves]
  refine DWp.block ?_
  obtain ⟨s1, hL2, hF⟩ := bd_some hF
  have S3 := S0.pick [0] (by decide) rfl
  refine DWp.loop (fun n env G => ∃ l1_0 : List ByteArray, ∃ y1_1 : Int, ∃ y1_2 : Int, ∃ y1_3 : Int, ∃ y1_8 : Bool, ∃ y1_9 : Bool, F_slices_pdqsortOrdered_string_L1 fu (F_slices_pdqsortOrdered_string fu) n l1_0 y1_1 y1_2 y1_3 y1_8 y1_9 = some s1 ∧ Sep G B [flat v0 9 (strs l1_0)] ∧ AgB B H G ∧ env 0 = some v0 ∧ env 1 = some (Value.int .i64 y1_1) ∧ env 2 = some (Value.int .i64 y1_2) ∧ env 3 = some (Value.int .i64 y1_3) ∧ env 8 = some (Value.bool y1_8) ∧ env 9 = some (Value.bool y1_9)) fu ⟨x0, x1, x2, x3, true, true, hL2, S3, A0, by simp [], by simp [], by simp [], by simp [], by simp [], by simp []⟩ ?_
  rintro n1 env1 G1_ ⟨l1_0, y1_1, y1_2, y1_3, y1_8, y1_9, hL2, S1_, A1_, e1_0, e1_1, e1_2, e1_3, e1_8, e1_9⟩
  cases n1 with
  | zero => cases hL2
  | succ n1 =>
    simp only [F_slices_pdqsortOrdered_string_L1] at hL2
    refine DWp.block ?_
    refine DWp.seq ?_
    refine DWp.region fun K hK => ?_
    simp [-aBin', -aBin, -aBinI, -aUn, -aNil, -flatV, n_fn, b_add, b_sub, b_mul, b_lt, b_le, b_gt, b_ge, b_eq, b_ne, u_not, e1_0, e1_1, e1_2, e1_3, e1_8, e1_9]
    apply hK
    clear hK K
    simp only [andThen, leaves]
    refine DWp.seq ?_
    refine DWp.seq ?_
    refine DWp.region fun K hK => ?_
    simp [-aBin', -aBin, -aBinI, -aUn, -aNil, -flatV, n_fn, b_add, b_sub, b_mul, b_lt, b_le, b_gt, b_ge, b_eq, b_ne, u_not, e1_0, e1_1, e1_2, e1_3, e1_8, e1_9]
    apply hK
    clear hK K
    simp only [andThen, leaves]
    refine DWp.cond' (t := (ile (isub .i64 y1_2 y1_1) 12)) (by simp [e1_0, e1_1, e1_2, e1_3, e1_8, e1_9]) (fun hb4 => ?_) (fun hb4 => ?_)
    · replace hL2 := cd_t hb4 hL2
      refine DWp.seq ?_
      obtain ⟨r1, hc5, hL2⟩ := bd_some hL2
      refine DWp.region fun K hK => ?_
      simp [-aBin', -aBin, -aBinI, -aUn, -aNil, -flatV, n_fn, b_add, b_sub, b_mul, b_lt, b_le, b_gt, b_ge, b_eq, b_ne, u_not, e1_0, e1_1, e1_2, e1_3, e1_8, e1_9, ((S1_.sl (k := 0) rfl).tup)]
      have S6 : Sep G1_ B ([flat v0 9 (strs l1_0)] ++ []) := S1_.pick [0] (by decide) rfl
      obtain ⟨B12, S7, U8, M9, R10, C11⟩ := S6.frame (hB.le A1_.1)
      refine CallD.t (F_slices_insertionSortOrdered_string_w (fu := fu) U8 S7 hc5) ?_
      rintro _ G14 ⟨a17, rfl, S18⟩
      have A16 := A1_.trans (a17.mono M9)
      have S15 : Sep G14 B [flat v0 9 (strs r1)] := C11 _ _ a17 S18
      simp [-aBin', -aBin, -aBinI, -aUn, -aNil, -flatV, n_fn, b_add, b_sub, b_mul, b_lt, b_le, b_gt, b_ge, b_eq, b_ne, u_not, e1_0, e1_1, e1_2, e1_3, e1_8, e1_9]
      apply hK
      clear hK K
      simp only [andThen, leaves]
      refine DWp.ret ?_
      simp only [andThen, leaves]
      obtain rfl := Option.some.inj hL2
      simp only [lr] at hF
      obtain rfl := Option.some.inj hF
      exact ⟨by simp, [], by simp [e1_0, e1_1, e1_2, e1_3, e1_8, e1_9], A16, rfl, S15.pick [0] (by decide) rfl⟩
    · replace hL2 := cd_f hb4 hL2
      refine DWp.skip ?_
      simp only [andThen, leaves]
      refine DWp.seq ?_
      refine DWp.seq ?_
      refine DWp.region fun K hK => ?_
      simp [-aBin', -aBin, -aBinI, -aUn, -aNil, -flatV, n_fn, b_add, b_sub, b_mul, b_lt, b_le, b_gt, b_ge, b_eq, b_ne, u_not, e1_0, e1_1, e1_2, e1_3, e1_8, e1_9]
      apply hK
      clear hK K
      simp only [andThen, leaves]
      refine DWp.cond' (t := (ieq y1_3 0)) (by simp [e1_0, e1_1, e1_2, e1_3, e1_8, e1_9]) (fun hb19 => ?_) (fun hb19 => ?_)
      · replace hL2 := cd_t hb19 hL2
        refine DWp.seq ?_
        obtain ⟨r2, hc20, hL2⟩ := bd_some hL2
        refine DWp.region fun K hK => ?_
        simp [-aBin', -aBin, -aBinI, -aUn, -aNil, -flatV, n_fn, b_add, b_sub, b_mul, b_lt, b_le, b_gt, b_ge, b_eq, b_ne, u_not, e1_0, e1_1, e1_2, e1_3, e1_8, e1_9, ((S1_.sl (k := 0) rfl).tup)]
        have S21 : Sep G1_ B ([flat v0 9 (strs l1_0)] ++ []) := S1_.pick [0] (by decide) rfl
        obtain ⟨B27, S22, U23, M24, R25, C26⟩ := S21.frame (hB.le A1_.1)
        refine CallD.t (F_slices_heapSortOrdered_string_w (fu := fu) U23 S22 hc20) ?_
        rintro _ G29 ⟨a32, rfl, S33⟩
        have A31 := A1_.trans (a32.mono M24)
        have S30 : Sep G29 B [flat v0 9 (strs r2)] := C26 _ _ a32 S33
        simp [-aBin', -aBin, -aBinI, -aUn, -aNil, -flatV, n_fn, b_add, b_sub, b_mul, b_lt, b_le, b_gt, b_ge, b_eq, b_ne, u_not, e1_0, e1_1, e1_2, e1_3, e1_8, e1_9]
        apply hK
        clear hK K
        simp only [andThen, leaves]
        refine DWp.ret ?_
        simp only [andThen, leaves]
        obtain rfl := Option.some.inj hL2
        simp only [lr] at hF
        obtain rfl := Option.some.inj hF
        exact ⟨by simp, [], by simp [e1_0, e1_1, e1_2, e1_3, e1_8, e1_9], A31, rfl, S30.pick [0] (by decide) rfl⟩
      · replace hL2 := cd_f hb19 hL2
        refine DWp.skip ?_
        simp only [andThen, leaves]
        obtain ⟨s34, hL35, hL2⟩ := bd_some hL2
        refine DWp.seq (DWp.join (fun env G => Sep G B [flat v0 9 (strs s34.1)] ∧ AgB B H G ∧ env 0 = some v0 ∧ env 1 = some (Value.int .i64 y1_1) ∧ env 2 = some (Value.int .i64 y1_2) ∧ env 3 = some (Value.int .i64 s34.2) ∧ env 8 = some (Value.bool y1_8) ∧ env 9 = some (Value.bool y1_9) ∧ env 10 = some (Value.int .i64 (isub .i64 y1_2 y1_1))) ?_ ?_)
        ·
          refine DWp.seq ?_
          refine DWp.region fun K hK => ?_
          simp [-aBin', -aBin, -aBinI, -aUn, -aNil, -flatV, n_fn, b_add, b_sub, b_mul, b_lt, b_le, b_gt, b_ge, b_eq, b_ne, u_not, e1_0, e1_1, e1_2, e1_3, e1_8, e1_9]
          apply hK
          clear hK K
          simp only [andThen, leaves]
          refine DWp.cond' (t := (bnot y1_8)) (by simp [e1_0, e1_1, e1_2, e1_3, e1_8, e1_9]) (fun hb37 => ?_) (fun hb37 => ?_)
          · replace hL35 := cd_t hb37 hL35
            refine DWp.seq ?_
            obtain ⟨r3, hc38, hL35⟩ := bd_some hL35
            refine DWp.region fun K hK => ?_
            simp [-aBin', -aBin, -aBinI, -aUn, -aNil, -flatV, n_fn, b_add, b_sub, b_mul, b_lt, b_le, b_gt, b_ge, b_eq, b_ne, u_not, e1_0, e1_1, e1_2, e1_3, e1_8, e1_9, ((S1_.sl (k := 0) rfl).tup)]
            have S39 : Sep G1_ B ([flat v0 9 (strs l1_0)] ++ []) := S1_.pick [0] (by decide) rfl
            obtain ⟨B45, S40, U41, M42, R43, C44⟩ := S39.frame (hB.le A1_.1)
            refine CallD.t (F_slices_breakPatternsOrdered_string_w (fu := fu) U41 S40 hc38) ?_
            rintro _ G47 ⟨a50, rfl, S51⟩
            have A49 := A1_.trans (a50.mono M42)
            have S48 : Sep G47 B [flat v0 9 (strs r3)] := C44 _ _ a50 S51
            simp [-aBin', -aBin, -aBinI, -aUn, -aNil, -flatV, n_fn, b_add, b_sub, b_mul, b_lt, b_le, b_gt, b_ge, b_eq, b_ne, u_not, e1_0, e1_1, e1_2, e1_3, e1_8, e1_9]
            apply hK
            clear hK K
            simp only [andThen, leaves]
            refine DWp.region fun K hK => ?_
            simp [-aBin', -aBin, -aBinI, -aUn, -aNil, -flatV, n_fn, b_add, b_sub, b_mul, b_lt, b_le, b_gt, b_ge, b_eq, b_ne, u_not, e1_0, e1_1, e1_2, e1_3, e1_8, e1_9]
            apply hK
            clear hK K
            simp only [andThen, leaves]
            have S52 := S48.pick [0] (by decide) rfl
            obtain rfl := Option.some.inj hL35
            exact ⟨S52, A49, by simp [e1_0, e1_1, e1_2, e1_3, e1_8, e1_9], by simp [e1_0, e1_1, e1_2, e1_3, e1_8, e1_9], by simp [e1_0, e1_1, e1_2, e1_3, e1_8, e1_9], by simp [e1_0, e1_1, e1_2, e1_3, e1_8, e1_9], by simp [e1_0, e1_1, e1_2, e1_3, e1_8, e1_9], by simp [e1_0, e1_1, e1_2, e1_3, e1_8, e1_9], by simp [e1_0, e1_1, e1_2, e1_3, e1_8, e1_9]⟩
          · replace hL35 := cd_f hb37 hL35
            refine DWp.skip ?_
            simp only [andThen, leaves]
            have S53 := S1_.pick [0] (by decide) rfl
            obtain rfl := Option.some.inj hL35
            exact ⟨S53, A1_, by simp [e1_0, e1_1, e1_2, e1_3, e1_8, e1_9], by simp [e1_0, e1_1, e1_2, e1_3, e1_8, e1_9], by simp [e1_0, e1_1, e1_2, e1_3, e1_8, e1_9], by simp [e1_0, e1_1, e1_2, e1_3, e1_8, e1_9], by simp [e1_0, e1_1, e1_2, e1_3, e1_8, e1_9], by simp [e1_0, e1_1, e1_2, e1_3, e1_8, e1_9], by simp [e1_0, e1_1, e1_2, e1_3, e1_8, e1_9]⟩
        · rintro env Gj54 ⟨Sj54, Aj54, ej54_0, ej54_1, ej54_2, ej54_3, ej54_8, ej54_9, ej54_10⟩
          refine DWp.seq ?_
          obtain ⟨r4, hc55, hL2⟩ := bd_some hL2
          refine DWp.region fun K hK => ?_
          simp [-aBin', -aBin, -aBinI, -aUn, -aNil, -flatV, n_fn, b_add, b_sub, b_mul, b_lt, b_le, b_gt, b_ge, b_eq, b_ne, u_not, ej54_0, ej54_1, ej54_2, ej54_3, ej54_8, ej54_9, ej54_10, ((Sj54.sl (k := 0) rfl).tup)]
          refine CallD.t (F_slices_choosePivotOrdered_string_w (fu := fu) (Sj54.sl (k := 0) rfl) hc55) ?_
          rintro _ G57 ⟨a60, rfl, S61⟩
          have A59 := Aj54.ext (hB.le Aj54.1) a60.agree
          have S58 : Sep G57 B [flat v0 9 (strs s34.1)] := Sj54.app a60.agree S61 (fun _ h => h) (hB.le Aj54.1)
          simp [-aBin', -aBin, -aBinI, -aUn, -aNil, -flatV, n_fn, b_add, b_sub, b_mul, b_lt, b_le, b_gt, b_ge, b_eq, b_ne, u_not, ej54_0, ej54_1, ej54_2, ej54_3, ej54_8, ej54_9, ej54_10, a60.pre]
          apply hK
          clear hK K
          simp only [andThen, leaves]
          obtain ⟨s62, hL63, hL2⟩ := bd_some hL2
          refine DWp.seq (DWp.join (fun env G => Sep G B [flat v0 9 (strs s62.1)] ∧ AgB B H G ∧ env 0 = some v0 ∧ env 1 = some (Value.int .i64 y1_1) ∧ env 2 = some (Value.int .i64 y1_2) ∧ env 3 = some (Value.int .i64 s34.2) ∧ env 8 = some (Value.bool y1_8) ∧ env 9 = some (Value.bool y1_9) ∧ env 10 = some (Value.int .i64 (isub .i64 y1_2 y1_1)) ∧ env 11 = some (Value.int .i64 s62.2.1) ∧ env 12 = some (Value.int .i64 s62.2.2)) ?_ ?_)
          ·
            refine DWp.seq ?_
            refine DWp.region fun K hK => ?_
            simp [-aBin', -aBin, -aBinI, -aUn, -aNil, -flatV, n_fn, b_add, b_sub, b_mul, b_lt, b_le, b_gt, b_ge, b_eq, b_ne, u_not, ej54_0, ej54_1, ej54_2, ej54_3, ej54_8, ej54_9, ej54_10]
            apply hK
            clear hK K
            simp only [andThen, leaves]
            refine DWp.cond' (t := (ieq r4.2 2)) (by simp [ej54_0, ej54_1, ej54_2, ej54_3, ej54_8, ej54_9, ej54_10]) (fun hb65 => ?_) (fun hb65 => ?_)
            · replace hL63 := cd_t hb65 hL63
              refine DWp.seq ?_
              obtain ⟨r5, hc66, hL63⟩ := bd_some hL63
              refine DWp.region fun K hK => ?_
              simp [-aBin', -aBin, -aBinI, -aUn, -aNil, -flatV, n_fn, b_add, b_sub, b_mul, b_lt, b_le, b_gt, b_ge, b_eq, b_ne, u_not, ej54_0, ej54_1, ej54_2, ej54_3, ej54_8, ej54_9, ej54_10, ((S58.sl (k := 0) rfl).tup)]
              have S67 : Sep G57 B ([flat v0 9 (strs s34.1)] ++ []) := S58.pick [0] (by decide) rfl
              obtain ⟨B73, S68, U69, M70, R71, C72⟩ := S67.frame (hB.le A59.1)
              refine CallD.t (F_slices_reverseRangeOrdered_string_w (fu := fu) U69 S68 hc66) ?_
              rintro _ G75 ⟨a78, rfl, S79⟩
              have A77 := A59.trans (a78.mono M70)
              have S76 : Sep G75 B [flat v0 9 (strs r5)] := C72 _ _ a78 S79
              simp [-aBin', -aBin, -aBinI, -aUn, -aNil, -flatV, n_fn, b_add, b_sub, b_mul, b_lt, b_le, b_gt, b_ge, b_eq, b_ne, u_not, ej54_0, ej54_1, ej54_2, ej54_3, ej54_8, ej54_9, ej54_10]
              apply hK
              clear hK K
              simp only [andThen, leaves]
              refine DWp.seq ?_
              refine DWp.region fun K hK => ?_
              simp [-aBin', -aBin, -aBinI, -aUn, -aNil, -flatV, n_fn, b_add, b_sub, b_mul, b_lt, b_le, b_gt, b_ge, b_eq, b_ne, u_not, ej54_0, ej54_1, ej54_2, ej54_3, ej54_8, ej54_9, ej54_10]
              apply hK
              clear hK K
              simp only [andThen, leaves]
              refine DWp.region fun K hK => ?_
              simp [-aBin', -aBin, -aBinI, -aUn, -aNil, -flatV, n_fn, b_add, b_sub, b_mul, b_lt, b_le, b_gt, b_ge, b_eq, b_ne, u_not, ej54_0, ej54_1, ej54_2, ej54_3, ej54_8, ej54_9, ej54_10]
              apply hK
              clear hK K
              simp only [andThen, leaves]
              have S80 := S76.pick [0] (by decide) rfl
              obtain rfl := Option.some.inj hL63
              exact ⟨S80, A77, by simp [ej54_0, ej54_1, ej54_2, ej54_3, ej54_8, ej54_9, ej54_10], by simp [ej54_0, ej54_1, ej54_2, ej54_3, ej54_8, ej54_9, ej54_10], by simp [ej54_0, ej54_1, ej54_2, ej54_3, ej54_8, ej54_9, ej54_10], by simp [ej54_0, ej54_1, ej54_2, ej54_3, ej54_8, ej54_9, ej54_10], by simp [ej54_0, ej54_1, ej54_2, ej54_3, ej54_8, ej54_9, ej54_10], by simp [ej54_0, ej54_1, ej54_2, ej54_3, ej54_8, ej54_9, ej54_10], by simp [ej54_0, ej54_1, ej54_2, ej54_3, ej54_8, ej54_9, ej54_10], by simp [ej54_0, ej54_1, ej54_2, ej54_3, ej54_8, ej54_9, ej54_10], by simp [ej54_0, ej54_1, ej54_2, ej54_3, ej54_8, ej54_9, ej54_10]⟩
            · replace hL63 := cd_f hb65 hL63
              refine DWp.skip ?_
              simp only [andThen, leaves]
              have S81 := S58.pick [0] (by decide) rfl
              obtain rfl := Option.some.inj hL63
              exact ⟨S81, A59, by simp [ej54_0, ej54_1, ej54_2, ej54_3, ej54_8, ej54_9, ej54_10], by simp [ej54_0, ej54_1, ej54_2, ej54_3, ej54_8, ej54_9, ej54_10], by simp [ej54_0, ej54_1, ej54_2, ej54_3, ej54_8, ej54_9, ej54_10], by simp [ej54_0, ej54_1, ej54_2, ej54_3, ej54_8, ej54_9, ej54_10], by simp [ej54_0, ej54_1, ej54_2, ej54_3, ej54_8, ej54_9, ej54_10], by simp [ej54_0, ej54_1, ej54_2, ej54_3, ej54_8, ej54_9, ej54_10], by simp [ej54_0, ej54_1, ej54_2, ej54_3, ej54_8, ej54_9, ej54_10], by simp [ej54_0, ej54_1, ej54_2, ej54_3, ej54_8, ej54_9, ej54_10], by simp [ej54_0, ej54_1, ej54_2, ej54_3, ej54_8, ej54_9, ej54_10]⟩
          · rintro env Gj82 ⟨Sj82, Aj82, ej82_0, ej82_1, ej82_2, ej82_3, ej82_8, ej82_9, ej82_10, ej82_11, ej82_12⟩
            refine DWp.seq ?_
            obtain ⟨s83, hL84, hL2⟩ := bd_some hL2
            refine DWp.seq (DWp.join (fun env G => Sep G B [flat v0 9 (strs s62.1)] ∧ AgB B H G ∧ env 0 = some v0 ∧ env 1 = some (Value.int .i64 y1_1) ∧ env 2 = some (Value.int .i64 y1_2) ∧ env 3 = some (Value.int .i64 s34.2) ∧ env 8 = some (Value.bool y1_8) ∧ env 9 = some (Value.bool y1_9) ∧ env 10 = some (Value.int .i64 (isub .i64 y1_2 y1_1)) ∧ env 11 = some (Value.int .i64 s62.2.1) ∧ env 68 = some (Value.bool s83)) ?_ ?_)
            ·
              rcases Bool.eq_false_or_eq_true y1_8 with hb86 | hb86
              · replace hL84 := cd_t hb86 hL84
                rcases Bool.eq_false_or_eq_true y1_9 with hb87 | hb87
                · replace hL84 := cd_t hb87 hL84
                  refine DWp.region fun K hK => ?_
                  simp [-aBin', -aBin, -aBinI, -aUn, -aNil, -flatV, n_fn, b_add, b_sub, b_mul, b_lt, b_le, b_gt, b_ge, b_eq, b_ne, u_not, ej82_0, ej82_1, ej82_2, ej82_3, ej82_8, ej82_9, ej82_10, ej82_11, ej82_12, hb86, hb87]
                  apply hK
                  clear hK K
                  simp only [andThen, leaves]
                  have S88 := Sj82.pick [0] (by decide) rfl
                  obtain rfl := Option.some.inj hL84
                  exact ⟨S88, Aj82, by simp [ej82_0, ej82_1, ej82_2, ej82_3, ej82_8, ej82_9, ej82_10, ej82_11, ej82_12], by simp [ej82_0, ej82_1, ej82_2, ej82_3, ej82_8, ej82_9, ej82_10, ej82_11, ej82_12], by simp [ej82_0, ej82_1, ej82_2, ej82_3, ej82_8, ej82_9, ej82_10, ej82_11, ej82_12], by simp [ej82_0, ej82_1, ej82_2, ej82_3, ej82_8, ej82_9, ej82_10, ej82_11, ej82_12], by simp [ej82_0, ej82_1, ej82_2, ej82_3, ej82_8, ej82_9, ej82_10, ej82_11, ej82_12], by simp [ej82_0, ej82_1, ej82_2, ej82_3, ej82_8, ej82_9, ej82_10, ej82_11, ej82_12], by simp [ej82_0, ej82_1, ej82_2, ej82_3, ej82_8, ej82_9, ej82_10, ej82_11, ej82_12], by simp [ej82_0, ej82_1, ej82_2, ej82_3, ej82_8, ej82_9, ej82_10, ej82_11, ej82_12], by simp [ej82_0, ej82_1, ej82_2, ej82_3, ej82_8, ej82_9, ej82_10, ej82_11, ej82_12]⟩
                · replace hL84 := cd_f hb87 hL84
                  refine DWp.region fun K hK => ?_
                  simp [-aBin', -aBin, -aBinI, -aUn, -aNil, -flatV, n_fn, b_add, b_sub, b_mul, b_lt, b_le, b_gt, b_ge, b_eq, b_ne, u_not, ej82_0, ej82_1, ej82_2, ej82_3, ej82_8, ej82_9, ej82_10, ej82_11, ej82_12, hb86, hb87]
                  apply hK
                  clear hK K
                  simp only [andThen, leaves]
                  have S89 := Sj82.pick [0] (by decide) rfl
                  obtain rfl := Option.some.inj hL84
                  exact ⟨S89, Aj82, by simp [ej82_0, ej82_1, ej82_2, ej82_3, ej82_8, ej82_9, ej82_10, ej82_11, ej82_12], by simp [ej82_0, ej82_1, ej82_2, ej82_3, ej82_8, ej82_9, ej82_10, ej82_11, ej82_12], by simp [ej82_0, ej82_1, ej82_2, ej82_3, ej82_8, ej82_9, ej82_10, ej82_11, ej82_12], by simp [ej82_0, ej82_1, ej82_2, ej82_3, ej82_8, ej82_9, ej82_10, ej82_11, ej82_12], by simp [ej82_0, ej82_1, ej82_2, ej82_3, ej82_8, ej82_9, ej82_10, ej82_11, ej82_12], by simp [ej82_0, ej82_1, ej82_2, ej82_3, ej82_8, ej82_9, ej82_10, ej82_11, ej82_12], by simp [ej82_0, ej82_1, ej82_2, ej82_3, ej82_8, ej82_9, ej82_10, ej82_11, ej82_12], by simp [ej82_0, ej82_1, ej82_2, ej82_3, ej82_8, ej82_9, ej82_10, ej82_11, ej82_12], by simp [ej82_0, ej82_1, ej82_2, ej82_3, ej82_8, ej82_9, ej82_10, ej82_11, ej82_12]⟩
              · replace hL84 := cd_f hb86 hL84
                refine DWp.region fun K hK => ?_
                simp [-aBin', -aBin, -aBinI, -aUn, -aNil, -flatV, n_fn, b_add, b_sub, b_mul, b_lt, b_le, b_gt, b_ge, b_eq, b_ne, u_not, ej82_0, ej82_1, ej82_2, ej82_3, ej82_8, ej82_9, ej82_10, ej82_11, ej82_12, hb86]
                apply hK
                clear hK K
                simp only [andThen, leaves]
                have S90 := Sj82.pick [0] (by decide) rfl
                obtain rfl := Option.some.inj hL84
                exact ⟨S90, Aj82, by simp [ej82_0, ej82_1, ej82_2, ej82_3, ej82_8, ej82_9, ej82_10, ej82_11, ej82_12], by simp [ej82_0, ej82_1, ej82_2, ej82_3, ej82_8, ej82_9, ej82_10, ej82_11, ej82_12], by simp [ej82_0, ej82_1, ej82_2, ej82_3, ej82_8, ej82_9, ej82_10, ej82_11, ej82_12], by simp [ej82_0, ej82_1, ej82_2, ej82_3, ej82_8, ej82_9, ej82_10, ej82_11, ej82_12], by simp [ej82_0, ej82_1, ej82_2, ej82_3, ej82_8, ej82_9, ej82_10, ej82_11, ej82_12], by simp [ej82_0, ej82_1, ej82_2, ej82_3, ej82_8, ej82_9, ej82_10, ej82_11, ej82_12], by simp [ej82_0, ej82_1, ej82_2, ej82_3, ej82_8, ej82_9, ej82_10, ej82_11, ej82_12], by simp [ej82_0, ej82_1, ej82_2, ej82_3, ej82_8, ej82_9, ej82_10, ej82_11, ej82_12], by simp [ej82_0, ej82_1, ej82_2, ej82_3, ej82_8, ej82_9, ej82_10, ej82_11, ej82_12]⟩
            · rintro env Gj91 ⟨Sj91, Aj91, ej91_0, ej91_1, ej91_2, ej91_3, ej91_8, ej91_9, ej91_10, ej91_11, ej91_68⟩
              refine DWp.cond' (t := s83) (by simp [ej91_0, ej91_1, ej91_2, ej91_3, ej91_8, ej91_9, ej91_10, ej91_11, ej91_68]) (fun hb92 => ?_) (fun hb92 => ?_)
              · replace hL2 := cd_t hb92 hL2
                refine DWp.seq ?_
                obtain ⟨r6, hc93, hL2⟩ := bd_some hL2
                refine DWp.region fun K hK => ?_
                simp [-aBin', -aBin, -aBinI, -aUn, -aNil, -flatV, n_fn, b_add, b_sub, b_mul, b_lt, b_le, b_gt, b_ge, b_eq, b_ne, u_not, ej91_0, ej91_1, ej91_2, ej91_3, ej91_8, ej91_9, ej91_10, ej91_11, ej91_68, ((Sj91.sl (k := 0) rfl).tup)]
                have S94 : Sep Gj91 B ([flat v0 9 (strs s62.1)] ++ []) := Sj91.pick [0] (by decide) rfl
                obtain ⟨B100, S95, U96, M97, R98, C99⟩ := S94.frame (hB.le Aj91.1)
                refine CallD.t (F_slices_partialInsertionSortOrdered_string_w (fu := fu) U96 S95 hc93) ?_
                rintro _ G102 ⟨a105, rfl, S106⟩
                have A104 := Aj91.trans (a105.mono M97)
                have S103 : Sep G102 B [flat v0 9 (strs r6.2)] := C99 _ _ a105 S106
                simp [-aBin', -aBin, -aBinI, -aUn, -aNil, -flatV, n_fn, b_add, b_sub, b_mul, b_lt, b_le, b_gt, b_ge, b_eq, b_ne, u_not, ej91_0, ej91_1, ej91_2, ej91_3, ej91_8, ej91_9, ej91_10, ej91_11, ej91_68]
                apply hK
                clear hK K
                simp only [andThen, leaves]
                refine DWp.cond' (t := r6.1) (by simp [ej91_0, ej91_1, ej91_2, ej91_3, ej91_8, ej91_9, ej91_10, ej91_11, ej91_68]) (fun hb107 => ?_) (fun hb107 => ?_)
                · replace hL2 := cd_t hb107 hL2
                  refine DWp.ret ?_
                  simp only [andThen, leaves]
                  obtain rfl := Option.some.inj hL2
                  simp only [lr] at hF
                  obtain rfl := Option.some.inj hF
                  exact ⟨by simp, [], by simp [ej91_0, ej91_1, ej91_2, ej91_3, ej91_8, ej91_9, ej91_10, ej91_11, ej91_68], A104, rfl, S103.pick [0] (by decide) rfl⟩
                · replace hL2 := cd_f hb107 hL2
                  refine DWp.skip ?_
                  simp only [andThen, leaves]
                  refine DWp.seq ?_
                  obtain ⟨s108, hL109, hL2⟩ := bd_some hL2
                  refine DWp.seq (DWp.join (fun env G => Sep G B [flat v0 9 (strs r6.2)] ∧ AgB B H G ∧ env 0 = some v0 ∧ env 1 = some (Value.int .i64 y1_1) ∧ env 2 = some (Value.int .i64 y1_2) ∧ env 3 = some (Value.int .i64 s34.2) ∧ env 8 = some (Value.bool y1_8) ∧ env 9 = some (Value.bool y1_9) ∧ env 10 = some (Value.int .i64 (isub .i64 y1_2 y1_1)) ∧ env 11 = some (Value.int .i64 s62.2.1) ∧ env 87 = some (Value.bool s108)) ?_ ?_)
                  ·
                    rcases Bool.eq_false_or_eq_true (ilt 0 y1_1) with hb111 | hb111
                    · replace hL109 := cd_t hb111 hL109
                      obtain ⟨g112, hL109⟩ := gd_some hL109
                      have q113 := idxG (P := Try.prog) (kk := .i64) (S103.sl (k := 0) rfl) el_59 sz_9 g112
                      have q114 := loadG (P := Try.prog) (S103.sl (k := 0) rfl) sz_9 ag_9 g112 (ByteArray.mk #[])
                      obtain ⟨g115, hL109⟩ := gd_some hL109
                      have q116 := idxG (P := Try.prog) (kk := .i64) (S103.sl (k := 0) rfl) el_59 sz_9 g115
                      have q117 := loadG (P := Try.prog) (S103.sl (k := 0) rfl) sz_9 ag_9 g115 (ByteArray.mk #[])
                      obtain ⟨r7, hc118, hL109⟩ := bd_some hL109
                      refine DWp.drawn (B := [0, 1, 3, 7, 7, 23, 63, 127, 7, 7, 775, 1799, 4095, 8191, 16383]) 15 mixed (by kernel_rfl) (by decide) fun K hK => ?_
                      simp [-aBin', -aBin, -aBinI, -aUn, -aNil, -flatV, n_fn, b_add, b_sub, b_mul, b_lt, b_le, b_gt, b_ge, b_eq, b_ne, u_not, ej91_0, ej91_1, ej91_2, ej91_3, ej91_8, ej91_9, ej91_10, ej91_11, ej91_68, hb111, q113, q114, q116, q117]
                      refine CallD.t (F_cmp_Less_string_w (fu := fu)  hc118) ?_
                      rintro _ G120 ⟨a123, rfl, S124⟩
                      have A122 := A104.ext (hB.le A104.1) a123.agree
                      have S121 : Sep G120 B [flat v0 9 (strs r6.2)] := S103.app a123.agree S124 (fun _ h => h) (hB.le A104.1)
                      simp [-aBin', -aBin, -aBinI, -aUn, -aNil, -flatV, n_fn, b_add, b_sub, b_mul, b_lt, b_le, b_gt, b_ge, b_eq, b_ne, u_not, ej91_0, ej91_1, ej91_2, ej91_3, ej91_8, ej91_9, ej91_10, ej91_11, ej91_68, hb111, q113, q114, q116, q117, a123.pre]
                      apply hK
                      clear hK K
                      simp only [andThen, leaves]
                      have S125 := S121.pick [0] (by decide) rfl
                      obtain rfl := Option.some.inj hL109
                      exact ⟨S125, A122, by simp [ej91_0, ej91_1, ej91_2, ej91_3, ej91_8, ej91_9, ej91_10, ej91_11, ej91_68], by simp [ej91_0, ej91_1, ej91_2, ej91_3, ej91_8, ej91_9, ej91_10, ej91_11, ej91_68], by simp [ej91_0, ej91_1, ej91_2, ej91_3, ej91_8, ej91_9, ej91_10, ej91_11, ej91_68], by simp [ej91_0, ej91_1, ej91_2, ej91_3, ej91_8, ej91_9, ej91_10, ej91_11, ej91_68], by simp [ej91_0, ej91_1, ej91_2, ej91_3, ej91_8, ej91_9, ej91_10, ej91_11, ej91_68], by simp [ej91_0, ej91_1, ej91_2, ej91_3, ej91_8, ej91_9, ej91_10, ej91_11, ej91_68], by simp [ej91_0, ej91_1, ej91_2, ej91_3, ej91_8, ej91_9, ej91_10, ej91_11, ej91_68], by simp [ej91_0, ej91_1, ej91_2, ej91_3, ej91_8, ej91_9, ej91_10, ej91_11, ej91_68], by simp [ej91_0, ej91_1, ej91_2, ej91_3, ej91_8, ej91_9, ej91_10, ej91_11, ej91_68]⟩
                    · replace hL109 := cd_f hb111 hL109
                      refine DWp.drawn (B := [0, 1, 3, 7, 7, 23, 63, 127, 7, 7, 775, 1799, 4095, 8191, 16383]) 15 mixed (by kernel_rfl) (by decide) fun K hK => ?_
                      simp [-aBin', -aBin, -aBinI, -aUn, -aNil, -flatV, n_fn, b_add, b_sub, b_mul, b_lt, b_le, b_gt, b_ge, b_eq, b_ne, u_not, ej91_0, ej91_1, ej91_2, ej91_3, ej91_8, ej91_9, ej91_10, ej91_11, ej91_68, hb111]
                      apply hK
                      clear hK K
                      simp only [andThen, leaves]
                      have S126 := S103.pick [0] (by decide) rfl
                      obtain rfl := Option.some.inj hL109
                      exact ⟨S126, A104, by simp [ej91_0, ej91_1, ej91_2, ej91_3, ej91_8, ej91_9, ej91_10, ej91_11, ej91_68], by simp [ej91_0, ej91_1, ej91_2, ej91_3, ej91_8, ej91_9, ej91_10, ej91_11, ej91_68], by simp [ej91_0, ej91_1, ej91_2, ej91_3, ej91_8, ej91_9, ej91_10, ej91_11, ej91_68], by simp [ej91_0, ej91_1, ej91_2, ej91_3, ej91_8, ej91_9, ej91_10, ej91_11, ej91_68], by simp [ej91_0, ej91_1, ej91_2, ej91_3, ej91_8, ej91_9, ej91_10, ej91_11, ej91_68], by simp [ej91_0, ej91_1, ej91_2, ej91_3, ej91_8, ej91_9, ej91_10, ej91_11, ej91_68], by simp [ej91_0, ej91_1, ej91_2, ej91_3, ej91_8, ej91_9, ej91_10, ej91_11, ej91_68], by simp [ej91_0, ej91_1, ej91_2, ej91_3, ej91_8, ej91_9, ej91_10, ej91_11, ej91_68], by simp [ej91_0, ej91_1, ej91_2, ej91_3, ej91_8, ej91_9, ej91_10, ej91_11, ej91_68]⟩
                  · rintro env Gj127 ⟨Sj127, Aj127, ej127_0, ej127_1, ej127_2, ej127_3, ej127_8, ej127_9, ej127_10, ej127_11, ej127_87⟩
                    refine DWp.cond' (t := s108) (by simp [ej127_0, ej127_1, ej127_2, ej127_3, ej127_8, ej127_9, ej127_10, ej127_11, ej127_87]) (fun hb128 => ?_) (fun hb128 => ?_)
                    · replace hL2 := cd_t hb128 hL2
                      refine DWp.seq ?_
                      obtain ⟨r8, hc129, hL2⟩ := bd_some hL2
                      refine DWp.region fun K hK => ?_
                      simp [-aBin', -aBin, -aBinI, -aUn, -aNil, -flatV, n_fn, b_add, b_sub, b_mul, b_lt, b_le, b_gt, b_ge, b_eq, b_ne, u_not, ej127_0, ej127_1, ej127_2, ej127_3, ej127_8, ej127_9, ej127_10, ej127_11, ej127_87, ((Sj127.sl (k := 0) rfl).tup)]
                      have S130 : Sep Gj127 B ([flat v0 9 (strs r6.2)] ++ []) := Sj127.pick [0] (by decide) rfl
                      obtain ⟨B136, S131, U132, M133, R134, C135⟩ := S130.frame (hB.le Aj127.1)
                      refine CallD.t (F_slices_partitionEqualOrdered_string_w (fu := fu) U132 S131 hc129) ?_
                      rintro _ G138 ⟨a141, rfl, S142⟩
                      have A140 := Aj127.trans (a141.mono M133)
                      have S139 : Sep G138 B [flat v0 9 (strs r8.2)] := C135 _ _ a141 S142
                      simp [-aBin', -aBin, -aBinI, -aUn, -aNil, -flatV, n_fn, b_add, b_sub, b_mul, b_lt, b_le, b_gt, b_ge, b_eq, b_ne, u_not, ej127_0, ej127_1, ej127_2, ej127_3, ej127_8, ej127_9, ej127_10, ej127_11, ej127_87]
                      apply hK
                      clear hK K
                      simp only [andThen, leaves]
                      refine DWp.seq ?_
                      refine DWp.region fun K hK => ?_
                      simp [-aBin', -aBin, -aBinI, -aUn, -aNil, -flatV, n_fn, b_add, b_sub, b_mul, b_lt, b_le, b_gt, b_ge, b_eq, b_ne, u_not, ej127_0, ej127_1, ej127_2, ej127_3, ej127_8, ej127_9, ej127_10, ej127_11, ej127_87]
                      apply hK
                      clear hK K
                      simp only [andThen, leaves]
                      refine DWp.exit ?_
                      simp only [andThen, leaves, if_true, if_false, reduceIte, Nat.reduceEqDiff]
                      have S143 := S139.pick [0] (by decide) rfl
                      exact ⟨n1, Nat.lt_succ_self _, r8.2, r8.1, y1_2, s34.2, y1_8, y1_9, hL2, S143, A140, by simp [ej127_0, ej127_1, ej127_2, ej127_3, ej127_8, ej127_9, ej127_10, ej127_11, ej127_87], by simp [ej127_0, ej127_1, ej127_2, ej127_3, ej127_8, ej127_9, ej127_10, ej127_11, ej127_87], by simp [ej127_0, ej127_1, ej127_2, ej127_3, ej127_8, ej127_9, ej127_10, ej127_11, ej127_87], by simp [ej127_0, ej127_1, ej127_2, ej127_3, ej127_8, ej127_9, ej127_10, ej127_11, ej127_87], by simp [ej127_0, ej127_1, ej127_2, ej127_3, ej127_8, ej127_9, ej127_10, ej127_11, ej127_87], by simp [ej127_0, ej127_1, ej127_2, ej127_3, ej127_8, ej127_9, ej127_10, ej127_11, ej127_87]⟩
                    · replace hL2 := cd_f hb128 hL2
                      refine DWp.skip ?_
                      simp only [andThen, leaves]
                      refine DWp.seq ?_
                      obtain ⟨r9, hc144, hL2⟩ := bd_some hL2
                      refine DWp.region fun K hK => ?_
                      simp [-aBin', -aBin, -aBinI, -aUn, -aNil, -flatV, n_fn, b_add, b_sub, b_mul, b_lt, b_le, b_gt, b_ge, b_eq, b_ne, u_not, ej127_0, ej127_1, ej127_2, ej127_3, ej127_8, ej127_9, ej127_10, ej127_11, ej127_87, ((Sj127.sl (k := 0) rfl).tup)]
                      have S145 : Sep Gj127 B ([flat v0 9 (strs r6.2)] ++ []) := Sj127.pick [0] (by decide) rfl
                      obtain ⟨B151, S146, U147, M148, R149, C150⟩ := S145.frame (hB.le Aj127.1)
                      refine CallD.t (F_slices_partitionOrdered_string_w (fu := fu) U147 S146 hc144) ?_
                      rintro _ G153 ⟨a156, rfl, S157⟩
                      have A155 := Aj127.trans (a156.mono M148)
                      have S154 : Sep G153 B [flat v0 9 (strs r9.2.2)] := C150 _ _ a156 S157
                      simp [-aBin', -aBin, -aBinI, -aUn, -aNil, -flatV, n_fn, b_add, b_sub, b_mul, b_lt, b_le, b_gt, b_ge, b_eq, b_ne, u_not, ej127_0, ej127_1, ej127_2, ej127_3, ej127_8, ej127_9, ej127_10, ej127_11, ej127_87]
                      apply hK
                      clear hK K
                      simp only [andThen, leaves]
                      refine DWp.seq ?_
                      refine DWp.region fun K hK => ?_
                      simp [-aBin', -aBin, -aBinI, -aUn, -aNil, -flatV, n_fn, b_add, b_sub, b_mul, b_lt, b_le, b_gt, b_ge, b_eq, b_ne, u_not, ej127_0, ej127_1, ej127_2, ej127_3, ej127_8, ej127_9, ej127_10, ej127_11, ej127_87]
                      apply hK
                      clear hK K
                      simp only [andThen, leaves]
                      refine DWp.seq ?_
                      refine DWp.region fun K hK => ?_
                      simp [-aBin', -aBin, -aBinI, -aUn, -aNil, -flatV, n_fn, b_add, b_sub, b_mul, b_lt, b_le, b_gt, b_ge, b_eq, b_ne, u_not, ej127_0, ej127_1, ej127_2, ej127_3, ej127_8, ej127_9, ej127_10, ej127_11, ej127_87]
                      apply hK
                      clear hK K
                      simp only [andThen, leaves]
                      refine DWp.seq ?_
                      have g158 : (8 : Int) ≠ 0 := by decide
                      refine DWp.region fun K hK => ?_
                      simp [-aBin', -aBin, -aBinI, -aUn, -aNil, -flatV, n_fn, b_add, b_sub, b_mul, b_lt, b_le, b_gt, b_ge, b_eq, b_ne, u_not, ej127_0, ej127_1, ej127_2, ej127_3, ej127_8, ej127_9, ej127_10, ej127_11, ej127_87, b_quo g158]
                      apply hK
                      clear hK K
                      simp only [andThen, leaves]
                      refine DWp.seq ?_
                      refine DWp.region fun K hK => ?_
                      simp [-aBin', -aBin, -aBinI, -aUn, -aNil, -flatV, n_fn, b_add, b_sub, b_mul, b_lt, b_le, b_gt, b_ge, b_eq, b_ne, u_not, ej127_0, ej127_1, ej127_2, ej127_3, ej127_8, ej127_9, ej127_10, ej127_11, ej127_87]
                      apply hK
                      clear hK K
                      simp only [andThen, leaves]
                      refine DWp.cond' (t := (ilt (isub .i64 r9.1 y1_1) (isub .i64 y1_2 r9.1))) (by simp [ej127_0, ej127_1, ej127_2, ej127_3, ej127_8, ej127_9, ej127_10, ej127_11, ej127_87]) (fun hb159 => ?_) (fun hb159 => ?_)
                      · replace hL2 := cd_t hb159 hL2
                        refine DWp.seq ?_
                        refine DWp.region fun K hK => ?_
                        simp [-aBin', -aBin, -aBinI, -aUn, -aNil, -flatV, n_fn, b_add, b_sub, b_mul, b_lt, b_le, b_gt, b_ge, b_eq, b_ne, u_not, ej127_0, ej127_1, ej127_2, ej127_3, ej127_8, ej127_9, ej127_10, ej127_11, ej127_87]
                        apply hK
                        clear hK K
                        simp only [andThen, leaves]
                        refine DWp.seq ?_
                        obtain ⟨r10, hc160, hL2⟩ := bd_some hL2
                        refine DWp.region fun K hK => ?_
                        simp [-aBin', -aBin, -aBinI, -aUn, -aNil, -flatV, n_fn, b_add, b_sub, b_mul, b_lt, b_le, b_gt, b_ge, b_eq, b_ne, u_not, ej127_0, ej127_1, ej127_2, ej127_3, ej127_8, ej127_9, ej127_10, ej127_11, ej127_87, ((S154.sl (k := 0) rfl).tup)]
                        have S161 : Sep G153 B ([flat v0 9 (strs r9.2.2)] ++ []) := S154.pick [0] (by decide) rfl
                        obtain ⟨B167, S162, U163, M164, R165, C166⟩ := S161.frame (hB.le A155.1)
                        refine CallD.t (ih U163 S162 hc160) ?_
                        rintro _ G169 ⟨a172, rfl, S173⟩
                        have A171 := A155.trans (a172.mono M164)
                        have S170 : Sep G169 B [flat v0 9 (strs r10)] := C166 _ _ a172 S173
                        simp [-aBin', -aBin, -aBinI, -aUn, -aNil, -flatV, n_fn, b_add, b_sub, b_mul, b_lt, b_le, b_gt, b_ge, b_eq, b_ne, u_not, ej127_0, ej127_1, ej127_2, ej127_3, ej127_8, ej127_9, ej127_10, ej127_11, ej127_87]
                        apply hK
                        clear hK K
                        simp only [andThen, leaves]
                        refine DWp.region fun K hK => ?_
                        simp [-aBin', -aBin, -aBinI, -aUn, -aNil, -flatV, n_fn, b_add, b_sub, b_mul, b_lt, b_le, b_gt, b_ge, b_eq, b_ne, u_not, ej127_0, ej127_1, ej127_2, ej127_3, ej127_8, ej127_9, ej127_10, ej127_11, ej127_87]
                        apply hK
                        clear hK K
                        simp only [andThen, leaves]
                        have S174 := S170.pick [0] (by decide) rfl
                        exact ⟨n1, Nat.lt_succ_self _, r10, (iadd .i64 r9.1 1), y1_2, s34.2, (ile (iquo .i64 (isub .i64 y1_2 y1_1) 8) (isub .i64 r9.1 y1_1)), r9.2.1, hL2, S174, A171, by simp [ej127_0, ej127_1, ej127_2, ej127_3, ej127_8, ej127_9, ej127_10, ej127_11, ej127_87], by simp [ej127_0, ej127_1, ej127_2, ej127_3, ej127_8, ej127_9, ej127_10, ej127_11, ej127_87], by simp [ej127_0, ej127_1, ej127_2, ej127_3, ej127_8, ej127_9, ej127_10, ej127_11, ej127_87], by simp [ej127_0, ej127_1, ej127_2, ej127_3, ej127_8, ej127_9, ej127_10, ej127_11, ej127_87], by simp [ej127_0, ej127_1, ej127_2, ej127_3, ej127_8, ej127_9, ej127_10, ej127_11, ej127_87], by simp [ej127_0, ej127_1, ej127_2, ej127_3, ej127_8, ej127_9, ej127_10, ej127_11, ej127_87]⟩
                      · replace hL2 := cd_f hb159 hL2
                        refine DWp.seq ?_
                        refine DWp.region fun K hK => ?_
                        simp [-aBin', -aBin, -aBinI, -aUn, -aNil, -flatV, n_fn, b_add, b_sub, b_mul, b_lt, b_le, b_gt, b_ge, b_eq, b_ne, u_not, ej127_0, ej127_1, ej127_2, ej127_3, ej127_8, ej127_9, ej127_10, ej127_11, ej127_87]
                        apply hK
                        clear hK K
                        simp only [andThen, leaves]
                        refine DWp.seq ?_
                        obtain ⟨r11, hc175, hL2⟩ := bd_some hL2
                        refine DWp.region fun K hK => ?_
                        simp [-aBin', -aBin, -aBinI, -aUn, -aNil, -flatV, n_fn, b_add, b_sub, b_mul, b_lt, b_le, b_gt, b_ge, b_eq, b_ne, u_not, ej127_0, ej127_1, ej127_2, ej127_3, ej127_8, ej127_9, ej127_10, ej127_11, ej127_87, ((S154.sl (k := 0) rfl).tup)]
                        have S176 : Sep G153 B ([flat v0 9 (strs r9.2.2)] ++ []) := S154.pick [0] (by decide) rfl
                        obtain ⟨B182, S177, U178, M179, R180, C181⟩ := S176.frame (hB.le A155.1)
                        refine CallD.t (ih U178 S177 hc175) ?_
                        rintro _ G184 ⟨a187, rfl, S188⟩
                        have A186 := A155.trans (a187.mono M179)
                        have S185 : Sep G184 B [flat v0 9 (strs r11)] := C181 _ _ a187 S188
                        simp [-aBin', -aBin, -aBinI, -aUn, -aNil, -flatV, n_fn, b_add, b_sub, b_mul, b_lt, b_le, b_gt, b_ge, b_eq, b_ne, u_not, ej127_0, ej127_1, ej127_2, ej127_3, ej127_8, ej127_9, ej127_10, ej127_11, ej127_87]
                        apply hK
                        clear hK K
                        simp only [andThen, leaves]
                        refine DWp.region fun K hK => ?_
                        simp [-aBin', -aBin, -aBinI, -aUn, -aNil, -flatV, n_fn, b_add, b_sub, b_mul, b_lt, b_le, b_gt, b_ge, b_eq, b_ne, u_not, ej127_0, ej127_1, ej127_2, ej127_3, ej127_8, ej127_9, ej127_10, ej127_11, ej127_87]
                        apply hK
                        clear hK K
                        simp only [andThen, leaves]
                        have S189 := S185.pick [0] (by decide) rfl
                        exact ⟨n1, Nat.lt_succ_self _, r11, y1_1, r9.1, s34.2, (ile (iquo .i64 (isub .i64 y1_2 y1_1) 8) (isub .i64 y1_2 r9.1)), r9.2.1, hL2, S189, A186, by simp [ej127_0, ej127_1, ej127_2, ej127_3, ej127_8, ej127_9, ej127_10, ej127_11, ej127_87], by simp [ej127_0, ej127_1, ej127_2, ej127_3, ej127_8, ej127_9, ej127_10, ej127_11, ej127_87], by simp [ej127_0, ej127_1, ej127_2, ej127_3, ej127_8, ej127_9, ej127_10, ej127_11, ej127_87], by simp [ej127_0, ej127_1, ej127_2, ej127_3, ej127_8, ej127_9, ej127_10, ej127_11, ej127_87], by simp [ej127_0, ej127_1, ej127_2, ej127_3, ej127_8, ej127_9, ej127_10, ej127_11, ej127_87], by simp [ej127_0, ej127_1, ej127_2, ej127_3, ej127_8, ej127_9, ej127_10, ej127_11, ej127_87]⟩
              · replace hL2 := cd_f hb92 hL2
                refine DWp.skip ?_
                simp only [andThen, leaves]
                refine DWp.seq ?_
                obtain ⟨s190, hL191, hL2⟩ := bd_some hL2
                refine DWp.seq (DWp.join (fun env G => Sep G B [flat v0 9 (strs s62.1)] ∧ AgB B H G ∧ env 0 = some v0 ∧ env 1 = some (Value.int .i64 y1_1) ∧ env 2 = some (Value.int .i64 y1_2) ∧ env 3 = some (Value.int .i64 s34.2) ∧ env 8 = some (Value.bool y1_8) ∧ env 9 = some (Value.bool y1_9) ∧ env 10 = some (Value.int .i64 (isub .i64 y1_2 y1_1)) ∧ env 11 = some (Value.int .i64 s62.2.1) ∧ env 87 = some (Value.bool s190)) ?_ ?_)
                ·
                  rcases Bool.eq_false_or_eq_true (ilt 0 y1_1) with hb193 | hb193
                  · replace hL191 := cd_t hb193 hL191
                    obtain ⟨g194, hL191⟩ := gd_some hL191
                    have q195 := idxG (P := Try.prog) (kk := .i64) (Sj91.sl (k := 0) rfl) el_59 sz_9 g194
                    have q196 := loadG (P := Try.prog) (Sj91.sl (k := 0) rfl) sz_9 ag_9 g194 (ByteArray.mk #[])
                    obtain ⟨g197, hL191⟩ := gd_some hL191
                    have q198 := idxG (P := Try.prog) (kk := .i64) (Sj91.sl (k := 0) rfl) el_59 sz_9 g197
                    have q199 := loadG (P := Try.prog) (Sj91.sl (k := 0) rfl) sz_9 ag_9 g197 (ByteArray.mk #[])
                    obtain ⟨r12, hc200, hL191⟩ := bd_some hL191
                    refine DWp.drawn (B := [0, 1, 3, 7, 7, 23, 63, 127, 7, 7, 775, 1799, 4095, 8191, 16383]) 15 mixed (by kernel_rfl) (by decide) fun K hK => ?_
                    simp [-aBin', -aBin, -aBinI, -aUn, -aNil, -flatV, n_fn, b_add, b_sub, b_mul, b_lt, b_le, b_gt, b_ge, b_eq, b_ne, u_not, ej91_0, ej91_1, ej91_2, ej91_3, ej91_8, ej91_9, ej91_10, ej91_11, ej91_68, hb193, q195, q196, q198, q199]
                    refine CallD.t (F_cmp_Less_string_w (fu := fu)  hc200) ?_
                    rintro _ G202 ⟨a205, rfl, S206⟩
                    have A204 := Aj91.ext (hB.le Aj91.1) a205.agree
                    have S203 : Sep G202 B [flat v0 9 (strs s62.1)] := Sj91.app a205.agree S206 (fun _ h => h) (hB.le Aj91.1)
                    simp [-aBin', -aBin, -aBinI, -aUn, -aNil, -flatV, n_fn, b_add, b_sub, b_mul, b_lt, b_le, b_gt, b_ge, b_eq, b_ne, u_not, ej91_0, ej91_1, ej91_2, ej91_3, ej91_8, ej91_9, ej91_10, ej91_11, ej91_68, hb193, q195, q196, q198, q199, a205.pre]
                    apply hK
                    clear hK K
                    simp only [andThen, leaves]
                    have S207 := S203.pick [0] (by decide) rfl
                    obtain rfl := Option.some.inj hL191
                    exact ⟨S207, A204, by simp [ej91_0, ej91_1, ej91_2, ej91_3, ej91_8, ej91_9, ej91_10, ej91_11, ej91_68], by simp [ej91_0, ej91_1, ej91_2, ej91_3, ej91_8, ej91_9, ej91_10, ej91_11, ej91_68], by simp [ej91_0, ej91_1, ej91_2, ej91_3, ej91_8, ej91_9, ej91_10, ej91_11, ej91_68], by simp [ej91_0, ej91_1, ej91_2, ej91_3, ej91_8, ej91_9, ej91_10, ej91_11, ej91_68], by simp [ej91_0, ej91_1, ej91_2, ej91_3, ej91_8, ej91_9, ej91_10, ej91_11, ej91_68], by simp [ej91_0, ej91_1, ej91_2, ej91_3, ej91_8, ej91_9, ej91_10, ej91_11, ej91_68], by simp [ej91_0, ej91_1, ej91_2, ej91_3, ej91_8, ej91_9, ej91_10, ej91_11, ej91_68], by simp [ej91_0, ej91_1, ej91_2, ej91_3, ej91_8, ej91_9, ej91_10, ej91_11, ej91_68], by simp [ej91_0, ej91_1, ej91_2, ej91_3, ej91_8, ej91_9, ej91_10, ej91_11, ej91_68]⟩
                  · replace hL191 := cd_f hb193 hL191
                    refine DWp.drawn (B := [0, 1, 3, 7, 7, 23, 63, 127, 7, 7, 775, 1799, 4095, 8191, 16383]) 15 mixed (by kernel_rfl) (by decide) fun K hK => ?_
                    simp [-aBin', -aBin, -aBinI, -aUn, -aNil, -flatV, n_fn, b_add, b_sub, b_mul, b_lt, b_le, b_gt, b_ge, b_eq, b_ne, u_not, ej91_0, ej91_1, ej91_2, ej91_3, ej91_8, ej91_9, ej91_10, ej91_11, ej91_68, hb193]
                    apply hK
                    clear hK K
                    simp only [andThen, leaves]
                    have S208 := Sj91.pick [0] (by decide) rfl
                    obtain rfl := Option.some.inj hL191
                    exact ⟨S208, Aj91, by simp [ej91_0, ej91_1, ej91_2, ej91_3, ej91_8, ej91_9, ej91_10, ej91_11, ej91_68], by simp [ej91_0, ej91_1, ej91_2, ej91_3, ej91_8, ej91_9, ej91_10, ej91_11, ej91_68], by simp [ej91_0, ej91_1, ej91_2, ej91_3, ej91_8, ej91_9, ej91_10, ej91_11, ej91_68], by simp [ej91_0, ej91_1, ej91_2, ej91_3, ej91_8, ej91_9, ej91_10, ej91_11, ej91_68], by simp [ej91_0, ej91_1, ej91_2, ej91_3, ej91_8, ej91_9, ej91_10, ej91_11, ej91_68], by simp [ej91_0, ej91_1, ej91_2, ej91_3, ej91_8, ej91_9, ej91_10, ej91_11, ej91_68], by simp [ej91_0, ej91_1, ej91_2, ej91_3, ej91_8, ej91_9, ej91_10, ej91_11, ej91_68], by simp [ej91_0, ej91_1, ej91_2, ej91_3, ej91_8, ej91_9, ej91_10, ej91_11, ej91_68], by simp [ej91_0, ej91_1, ej91_2, ej91_3, ej91_8, ej91_9, ej91_10, ej91_11, ej91_68]⟩
                · rintro env Gj209 ⟨Sj209, Aj209, ej209_0, ej209_1, ej209_2, ej209_3, ej209_8, ej209_9, ej209_10, ej209_11, ej209_87⟩
                  refine DWp.cond' (t := s190) (by simp [ej209_0, ej209_1, ej209_2, ej209_3, ej209_8, ej209_9, ej209_10, ej209_11, ej209_87]) (fun hb210 => ?_) (fun hb210 => ?_)
                  · replace hL2 := cd_t hb210 hL2
                    refine DWp.seq ?_
                    obtain ⟨r13, hc211, hL2⟩ := bd_some hL2
                    refine DWp.region fun K hK => ?_
                    simp [-aBin', -aBin, -aBinI, -aUn, -aNil, -flatV, n_fn, b_add, b_sub, b_mul, b_lt, b_le, b_gt, b_ge, b_eq, b_ne, u_not, ej209_0, ej209_1, ej209_2, ej209_3, ej209_8, ej209_9, ej209_10, ej209_11, ej209_87, ((Sj209.sl (k := 0) rfl).tup)]
                    have S212 : Sep Gj209 B ([flat v0 9 (strs s62.1)] ++ []) := Sj209.pick [0] (by decide) rfl
                    obtain ⟨B218, S213, U214, M215, R216, C217⟩ := S212.frame (hB.le Aj209.1)
                    refine CallD.t (F_slices_partitionEqualOrdered_string_w (fu := fu) U214 S213 hc211) ?_
                    rintro _ G220 ⟨a223, rfl, S224⟩
                    have A222 := Aj209.trans (a223.mono M215)
                    have S221 : Sep G220 B [flat v0 9 (strs r13.2)] := C217 _ _ a223 S224
                    simp [-aBin', -aBin, -aBinI, -aUn, -aNil, -flatV, n_fn, b_add, b_sub, b_mul, b_lt, b_le, b_gt, b_ge, b_eq, b_ne, u_not, ej209_0, ej209_1, ej209_2, ej209_3, ej209_8, ej209_9, ej209_10, ej209_11, ej209_87]
                    apply hK
                    clear hK K
                    simp only [andThen, leaves]
                    refine DWp.seq ?_
                    refine DWp.region fun K hK => ?_
                    simp [-aBin', -aBin, -aBinI, -aUn, -aNil, -flatV, n_fn, b_add, b_sub, b_mul, b_lt, b_le, b_gt, b_ge, b_eq, b_ne, u_not, ej209_0, ej209_1, ej209_2, ej209_3, ej209_8, ej209_9, ej209_10, ej209_11, ej209_87]
                    apply hK
                    clear hK K
                    simp only [andThen, leaves]
                    refine DWp.exit ?_
                    simp only [andThen, leaves, if_true, if_false, reduceIte, Nat.reduceEqDiff]
                    have S225 := S221.pick [0] (by decide) rfl
                    exact ⟨n1, Nat.lt_succ_self _, r13.2, r13.1, y1_2, s34.2, y1_8, y1_9, hL2, S225, A222, by simp [ej209_0, ej209_1, ej209_2, ej209_3, ej209_8, ej209_9, ej209_10, ej209_11, ej209_87], by simp [ej209_0, ej209_1, ej209_2, ej209_3, ej209_8, ej209_9, ej209_10, ej209_11, ej209_87], by simp [ej209_0, ej209_1, ej209_2, ej209_3, ej209_8, ej209_9, ej209_10, ej209_11, ej209_87], by simp [ej209_0, ej209_1, ej209_2, ej209_3, ej209_8, ej209_9, ej209_10, ej209_11, ej209_87], by simp [ej209_0, ej209_1, ej209_2, ej209_3, ej209_8, ej209_9, ej209_10, ej209_11, ej209_87], by simp [ej209_0, ej209_1, ej209_2, ej209_3, ej209_8, ej209_9, ej209_10, ej209_11, ej209_87]⟩
                  · replace hL2 := cd_f hb210 hL2
                    refine DWp.skip ?_
                    simp only [andThen, leaves]
                    refine DWp.seq ?_
                    obtain ⟨r14, hc226, hL2⟩ := bd_some hL2
                    refine DWp.region fun K hK => ?_
                    simp [-aBin', -aBin, -aBinI, -aUn, -aNil, -flatV, n_fn, b_add, b_sub, b_mul, b_lt, b_le, b_gt, b_ge, b_eq, b_ne, u_not, ej209_0, ej209_1, ej209_2, ej209_3, ej209_8, ej209_9, ej209_10, ej209_11, ej209_87, ((Sj209.sl (k := 0) rfl).tup)]
                    have S227 : Sep Gj209 B ([flat v0 9 (strs s62.1)] ++ []) := Sj209.pick [0] (by decide) rfl
                    obtain ⟨B233, S228, U229, M230, R231, C232⟩ := S227.frame (hB.le Aj209.1)
                    refine CallD.t (F_slices_partitionOrdered_string_w (fu := fu) U229 S228 hc226) ?_
                    rintro _ G235 ⟨a238, rfl, S239⟩
                    have A237 := Aj209.trans (a238.mono M230)
                    have S236 : Sep G235 B [flat v0 9 (strs r14.2.2)] := C232 _ _ a238 S239
                    simp [-aBin', -aBin, -aBinI, -aUn, -aNil, -flatV, n_fn, b_add, b_sub, b_mul, b_lt, b_le, b_gt, b_ge, b_eq, b_ne, u_not, ej209_0, ej209_1, ej209_2, ej209_3, ej209_8, ej209_9, ej209_10, ej209_11, ej209_87]
                    apply hK
                    clear hK K
                    simp only [andThen, leaves]
                    refine DWp.seq ?_
                    refine DWp.region fun K hK => ?_
                    simp [-aBin', -aBin, -aBinI, -aUn, -aNil, -flatV, n_fn, b_add, b_sub, b_mul, b_lt, b_le, b_gt, b_ge, b_eq, b_ne, u_not, ej209_0, ej209_1, ej209_2, ej209_3, ej209_8, ej209_9, ej209_10, ej209_11, ej209_87]
                    apply hK
                    clear hK K
                    simp only [andThen, leaves]
                    refine DWp.seq ?_
                    refine DWp.region fun K hK => ?_
                    simp [-aBin', -aBin, -aBinI, -aUn, -aNil, -flatV, n_fn, b_add, b_sub, b_mul, b_lt, b_le, b_gt, b_ge, b_eq, b_ne, u_not, ej209_0, ej209_1, ej209_2, ej209_3, ej209_8, ej209_9, ej209_10, ej209_11, ej209_87]
                    apply hK
                    clear hK K
                    simp only [andThen, leaves]
                    refine DWp.seq ?_
                    have g240 : (8 : Int) ≠ 0 := by decide
                    refine DWp.region fun K hK => ?_
                    simp [-aBin', -aBin, -aBinI, -aUn, -aNil, -flatV, n_fn, b_add, b_sub, b_mul, b_lt, b_le, b_gt, b_ge, b_eq, b_ne, u_not, ej209_0, ej209_1, ej209_2, ej209_3, ej209_8, ej209_9, ej209_10, ej209_11, ej209_87, b_quo g240]
                    apply hK
                    clear hK K
                    simp only [andThen, leaves]
                    refine DWp.seq ?_
                    refine DWp.region fun K hK => ?_
                    simp [-aBin', -aBin, -aBinI, -aUn, -aNil, -flatV, n_fn, b_add, b_sub, b_mul, b_lt, b_le, b_gt, b_ge, b_eq, b_ne, u_not, ej209_0, ej209_1, ej209_2, ej209_3, ej209_8, ej209_9, ej209_10, ej209_11, ej209_87]
                    apply hK
                    clear hK K
                    simp only [andThen, leaves]
                    refine DWp.cond' (t := (ilt (isub .i64 r14.1 y1_1) (isub .i64 y1_2 r14.1))) (by simp [ej209_0, ej209_1, ej209_2, ej209_3, ej209_8, ej209_9, ej209_10, ej209_11, ej209_87]) (fun hb241 => ?_) (fun hb241 => ?_)
                    · replace hL2 := cd_t hb241 hL2
                      refine DWp.seq ?_
                      refine DWp.region fun K hK => ?_
                      simp [-aBin', -aBin, -aBinI, -aUn, -aNil, -flatV, n_fn, b_add, b_sub, b_mul, b_lt, b_le, b_gt, b_ge, b_eq, b_ne, u_not, ej209_0, ej209_1, ej209_2, ej209_3, ej209_8, ej209_9, ej209_10, ej209_11, ej209_87]
                      apply hK
                      clear hK K
                      simp only [andThen, leaves]
                      refine DWp.seq ?_
                      obtain ⟨r15, hc242, hL2⟩ := bd_some hL2
                      refine DWp.region fun K hK => ?_
                      simp [-aBin', -aBin, -aBinI, -aUn, -aNil, -flatV, n_fn, b_add, b_sub, b_mul, b_lt, b_le, b_gt, b_ge, b_eq, b_ne, u_not, ej209_0, ej209_1, ej209_2, ej209_3, ej209_8, ej209_9, ej209_10, ej209_11, ej209_87, ((S236.sl (k := 0) rfl).tup)]
                      have S243 : Sep G235 B ([flat v0 9 (strs r14.2.2)] ++ []) := S236.pick [0] (by decide) rfl
                      obtain ⟨B249, S244, U245, M246, R247, C248⟩ := S243.frame (hB.le A237.1)
                      refine CallD.t (ih U245 S244 hc242) ?_
                      rintro _ G251 ⟨a254, rfl, S255⟩
                      have A253 := A237.trans (a254.mono M246)
                      have S252 : Sep G251 B [flat v0 9 (strs r15)] := C248 _ _ a254 S255
                      simp [-aBin', -aBin, -aBinI, -aUn, -aNil, -flatV, n_fn, b_add, b_sub, b_mul, b_lt, b_le, b_gt, b_ge, b_eq, b_ne, u_not, ej209_0, ej209_1, ej209_2, ej209_3, ej209_8, ej209_9, ej209_10, ej209_11, ej209_87]
                      apply hK
                      clear hK K
                      simp only [andThen, leaves]
                      refine DWp.region fun K hK => ?_
                      simp [-aBin', -aBin, -aBinI, -aUn, -aNil, -flatV, n_fn, b_add, b_sub, b_mul, b_lt, b_le, b_gt, b_ge, b_eq, b_ne, u_not, ej209_0, ej209_1, ej209_2, ej209_3, ej209_8, ej209_9, ej209_10, ej209_11, ej209_87]
                      apply hK
                      clear hK K
                      simp only [andThen, leaves]
                      have S256 := S252.pick [0] (by decide) rfl
                      exact ⟨n1, Nat.lt_succ_self _, r15, (iadd .i64 r14.1 1), y1_2, s34.2, (ile (iquo .i64 (isub .i64 y1_2 y1_1) 8) (isub .i64 r14.1 y1_1)), r14.2.1, hL2, S256, A253, by simp [ej209_0, ej209_1, ej209_2, ej209_3, ej209_8, ej209_9, ej209_10, ej209_11, ej209_87], by simp [ej209_0, ej209_1, ej209_2, ej209_3, ej209_8, ej209_9, ej209_10, ej209_11, ej209_87], by simp [ej209_0, ej209_1, ej209_2, ej209_3, ej209_8, ej209_9, ej209_10, ej209_11, ej209_87], by simp [ej209_0, ej209_1, ej209_2, ej209_3, ej209_8, ej209_9, ej209_10, ej209_11, ej209_87], by simp [ej209_0, ej209_1, ej209_2, ej209_3, ej209_8, ej209_9, ej209_10, ej209_11, ej209_87], by simp [ej209_0, ej209_1, ej209_2, ej209_3, ej209_8, ej209_9, ej209_10, ej209_11, ej209_87]⟩
                    · replace hL2 := cd_f hb241 hL2
                      refine DWp.seq ?_
                      refine DWp.region fun K hK => ?_
                      simp [-aBin', -aBin, -aBinI, -aUn, -aNil, -flatV, n_fn, b_add, b_sub, b_mul, b_lt, b_le, b_gt, b_ge, b_eq, b_ne, u_not, ej209_0, ej209_1, ej209_2, ej209_3, ej209_8, ej209_9, ej209_10, ej209_11, ej209_87]
                      apply hK
                      clear hK K
                      simp only [andThen, leaves]
                      refine DWp.seq ?_
                      obtain ⟨r16, hc257, hL2⟩ := bd_some hL2
                      refine DWp.region fun K hK => ?_
                      simp [-aBin', -aBin, -aBinI, -aUn, -aNil, -flatV, n_fn, b_add, b_sub, b_mul, b_lt, b_le, b_gt, b_ge, b_eq, b_ne, u_not, ej209_0, ej209_1, ej209_2, ej209_3, ej209_8, ej209_9, ej209_10, ej209_11, ej209_87, ((S236.sl (k := 0) rfl).tup)]
                      have S258 : Sep G235 B ([flat v0 9 (strs r14.2.2)] ++ []) := S236.pick [0] (by decide) rfl
                      obtain ⟨B264, S259, U260, M261, R262, C263⟩ := S258.frame (hB.le A237.1)
                      refine CallD.t (ih U260 S259 hc257) ?_
                      rintro _ G266 ⟨a269, rfl, S270⟩
                      have A268 := A237.trans (a269.mono M261)
                      have S267 : Sep G266 B [flat v0 9 (strs r16)] := C263 _ _ a269 S270
                      simp [-aBin', -aBin, -aBinI, -aUn, -aNil, -flatV, n_fn, b_add, b_sub, b_mul, b_lt, b_le, b_gt, b_ge, b_eq, b_ne, u_not, ej209_0, ej209_1, ej209_2, ej209_3, ej209_8, ej209_9, ej209_10, ej209_11, ej209_87]
                      apply hK
                      clear hK K
                      simp only [andThen, leaves]
                      refine DWp.region fun K hK => ?_
                      simp [-aBin', -aBin, -aBinI, -aUn, -aNil, -flatV, n_fn, b_add, b_sub, b_mul, b_lt, b_le, b_gt, b_ge, b_eq, b_ne, u_not, ej209_0, ej209_1, ej209_2, ej209_3, ej209_8, ej209_9, ej209_10, ej209_11, ej209_87]
                      apply hK
                      clear hK K
                      simp only [andThen, leaves]
                      have S271 := S267.pick [0] (by decide) rfl
                      exact ⟨n1, Nat.lt_succ_self _, r16, y1_1, r14.1, s34.2, (ile (iquo .i64 (isub .i64 y1_2 y1_1) 8) (isub .i64 y1_2 r14.1)), r14.2.1, hL2, S271, A268, by simp [ej209_0, ej209_1, ej209_2, ej209_3, ej209_8, ej209_9, ej209_10, ej209_11, ej209_87], by simp [ej209_0, ej209_1, ej209_2, ej209_3, ej209_8, ej209_9, ej209_10, ej209_11, ej209_87], by simp [ej209_0, ej209_1, ej209_2, ej209_3, ej209_8, ej209_9, ej209_10, ej209_11, ej209_87], by simp [ej209_0, ej209_1, ej209_2, ej209_3, ej209_8, ej209_9, ej209_10, ej209_11, ej209_87], by simp [ej209_0, ej209_1, ej209_2, ej209_3, ej209_8, ej209_9, ej209_10, ej209_11, ej209_87], by simp [ej209_0, ej209_1, ej209_2, ej209_3, ej209_8, ej209_9, ej209_10, ej209_11, ej209_87]⟩
end Go.Proofs.Ytbckijeffiofdaa.AL

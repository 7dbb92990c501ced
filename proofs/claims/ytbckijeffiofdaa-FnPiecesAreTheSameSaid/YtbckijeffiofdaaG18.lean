/- The walks of functions, each with its Lean function: slices.medianOrdered[string], slices.medianAdjacentOrdered[string], slices.choosePivotOrdered[string], slices.reverseRangeOrdered[string], slices.partialInsertionSortOrdered[string], slices.partitionEqualOrdered[string], slices.partitionOrdered[string], slices.pdqsortOrdered[string], slices.Sort[[]string,string], impl.PieceTexts. No condition. -/
import Derived.Test.YtbckijeffiofdaaG1
import Derived.Test.YtbckijeffiofdaaG10
import Derived.Test.YtbckijeffiofdaaG11
import Derived.Test.YtbckijeffiofdaaG12
import Derived.Test.YtbckijeffiofdaaG13
import Derived.Test.YtbckijeffiofdaaG14
import Derived.Test.YtbckijeffiofdaaG15
import Derived.Test.YtbckijeffiofdaaG16
import Derived.Test.YtbckijeffiofdaaG17
import Derived.Test.YtbckijeffiofdaaG2
import Derived.Test.YtbckijeffiofdaaG3
import Derived.Test.YtbckijeffiofdaaG4
import Derived.Test.YtbckijeffiofdaaG5
import Derived.Test.YtbckijeffiofdaaG6
import Derived.Test.YtbckijeffiofdaaG7
import Derived.Test.YtbckijeffiofdaaG8
import Derived.Test.YtbckijeffiofdaaG9
import Derived.Test.YtbckijeffiofdaaALD
import Derived.Test.YtbckijeffiofdaaProg
import Derived.KernelRfl
namespace Go.Proofs.Ytbckijeffiofdaa.AL
open Go Go.RowKit
set_option linter.unusedVariables false
set_option linter.unusedSimpArgs false
set_option maxRecDepth 4096
attribute [local simp] n_fn b_add b_sub b_mul b_lt b_le b_gt b_ge b_eq b_ne u_not
theorem ei_9 : einfo Try.prog 9 = some ⟨1, 16, .string (ByteArray.mk #[])⟩ := by kernel_rfl
def F_slices_pdqsortOrdered_string_L1 (fu : Nat) (self_ : (List ByteArray) → Int → Int → Int → Option (List ByteArray))  : Nat → List ByteArray → Int → Int → Int → Bool → Bool → Option (LR (List ByteArray) (List ByteArray × Int × Int × Int × Bool × Bool))
  | 0, _, _, _, _, _, _ => none
  | n + 1, l1_0, y1_1, y1_2, y1_3, y1_8, y1_9 =>
    bif (ile (isub .i64 y1_2 y1_1) 12) then
      bd (F_slices_insertionSortOrdered_string fu l1_0 y1_1 y1_2) fun r1 =>
      some (.ret r1)
    else
      bif (ieq y1_3 0) then
        none
      else
        bd (
          bif (bnot y1_8) then
            none
          else
            some (l1_0, y1_3)) fun s20 =>
        none
def F_slices_pdqsortOrdered_string : Nat → (List ByteArray) → Int → Int → Int → Option (List ByteArray)
  | 0, _, _, _, _ => none
  | fu + 1, x0, x1, x2, x3 =>
    bd (F_slices_pdqsortOrdered_string_L1 fu (F_slices_pdqsortOrdered_string fu) fu x0 x1 x2 x3 true true) fun s1 => lr s1 fun _ => none
theorem F_slices_pdqsortOrdered_string_w : ∀ {fu : Nat} {H : AH} {B : Nat → Prop} {v0 : Value} {x0 : List ByteArray} {x1 : Int} {x2 : Int} {x3 : Int} {r : (List ByteArray)} (hB : Up B H.length) (S0 : Sep H B [flat v0 9 (strs x0)]) (hF : F_slices_pdqsortOrdered_string fu x0 x1 x2 x3 = some r),
    ACallT Try.prog 148 [v0, (Value.int .i64 x1), (Value.int .i64 x2), (Value.int .i64 x3)] H (fun u G => AgB B H G ∧ u = (Value.tuple #[]) ∧ Sep G B [flat v0 9 (strs r)]) := by
 intro fu;induction fu with
 | zero => intros; rename_i hF; cases hF
 | succ fu ih =>
 intro H B v0 x0 x1 x2 x3 r hB S0 hF;simp only [F_slices_pdqsortOrdered_string] at hF;refine ACallT.of_body (nt := 134) (rs := []) Try.func148 rfl rfl rfl rfl ?_;have A0 : AgB B H H := .refl _ _;refine .sr fun K hK => ?_;simp [];apply hK;clear hK K;refine .sr fun K hK => ?_;simp [];apply hK;clear hK K;refine .block ?_;obtain ⟨s1, hL2, hF⟩ := bd_some hF;have S3 := S0.pick [0] (by decide) rfl;refine DWp.loop (fun n env G => ∃ l1_0 : List ByteArray, ∃ y1_1 : Int, ∃ y1_2 : Int, ∃ y1_3 : Int, ∃ y1_8 : Bool, ∃ y1_9 : Bool, F_slices_pdqsortOrdered_string_L1 fu (F_slices_pdqsortOrdered_string fu) n l1_0 y1_1 y1_2 y1_3 y1_8 y1_9 = some s1 ∧ Sep G B [flat v0 9 (strs l1_0)] ∧ AgB B H G ∧ env 0 = some v0 ∧ env 1 = some (Value.int .i64 y1_1) ∧ env 2 = some (Value.int .i64 y1_2) ∧ env 3 = some (Value.int .i64 y1_3) ∧ env 8 = some (Value.bool y1_8) ∧ env 9 = some (Value.bool y1_9)) fu ⟨x0, x1, x2, x3, true, true, hL2, S3, A0, by simp []⟩ ?_;rintro n1 env1 G1_ ⟨l1_0, y1_1, y1_2, y1_3, y1_8, y1_9, hL2, S1_, A1_, e1_0, e1_1, e1_2, e1_3, e1_8, e1_9⟩;cases n1 with
 | zero => cases hL2
 | succ n1 =>
  simp only [F_slices_pdqsortOrdered_string_L1] at hL2;refine .block ?_;refine .sr fun K hK => ?_;simp [e1_0, e1_1, e1_2, e1_3, e1_8, e1_9];apply hK;clear hK K;refine .seq ?_;refine .sr fun K hK => ?_;simp [e1_0, e1_1, e1_2, e1_3, e1_8, e1_9];apply hK;clear hK K;refine DWp.cond' (t := (ile (isub .i64 y1_2 y1_1) 12)) (by simp [e1_0, e1_1, e1_2, e1_3, e1_8, e1_9]) (fun hb4 => ?_) (fun hb4 => ?_)
  ·replace hL2 := cd_t hb4 hL2;obtain ⟨r1, hc5, hL2⟩ := bd_some hL2;refine .sr fun K hK => ?_;simp [e1_0, e1_1, e1_2, e1_3, e1_8, e1_9, ((S1_.sl (k := 0) rfl).tup)];have S6 : Sep G1_ B ([flat v0 9 (strs l1_0)] ++ []) := S1_.pick [0] (by decide) rfl;obtain ⟨B12, S7, U8, M9, R10, C11⟩ := S6.frame (hB.le A1_.1);refine CallD.t (F_slices_insertionSortOrdered_string_w (fu := fu) U8 S7 hc5) ?_;rintro _ G14 ⟨a17, rfl, S18⟩;have A16 := A1_.trans (a17.mono M9);have S15 : Sep G14 B [flat v0 9 (strs r1)] := C11 _ _ a17 S18;simp [e1_0, e1_1, e1_2, e1_3, e1_8, e1_9];apply hK;clear hK K;refine DWp.ret ?_;simp only [andThen, leaves];obtain rfl := Option.some.inj hL2;simp only [lr] at hF;obtain rfl := Option.some.inj hF;exact ⟨by simp, [], by simp [e1_0, e1_1, e1_2, e1_3, e1_8, e1_9], A16, rfl, S15.pick [0] (by decide) rfl⟩
  ·replace hL2 := cd_f hb4 hL2;refine DWp.skip ?_;simp only [andThen, leaves];refine .seq ?_;refine .sr fun K hK => ?_;simp [e1_0, e1_1, e1_2, e1_3, e1_8, e1_9];apply hK;clear hK K;refine DWp.cond' (t := (ieq y1_3 0)) (by simp [e1_0, e1_1, e1_2, e1_3, e1_8, e1_9]) (fun hb19 => ?_) (fun hb19 => ?_)
   ·replace hL2 := cd_t hb19 hL2;cases hL2
   ·replace hL2 := cd_f hb19 hL2;refine DWp.skip ?_;simp only [andThen, leaves];obtain ⟨s20, hL21, hL2⟩ := bd_some hL2;refine DWp.seq (DWp.join (fun env G => Sep G B [flat v0 9 (strs s20.1)] ∧ AgB B H G ∧ env 0 = some v0 ∧ env 1 = some (Value.int .i64 y1_1) ∧ env 2 = some (Value.int .i64 y1_2) ∧ env 3 = some (Value.int .i64 s20.2) ∧ env 8 = some (Value.bool y1_8) ∧ env 9 = some (Value.bool y1_9) ∧ env 10 = some (Value.int .i64 (isub .i64 y1_2 y1_1))) ?_ ?_)
    ·
     refine .sr fun K hK => ?_;simp [e1_0, e1_1, e1_2, e1_3, e1_8, e1_9];apply hK;clear hK K;refine DWp.cond' (t := (bnot y1_8)) (by simp [e1_0, e1_1, e1_2, e1_3, e1_8, e1_9]) (fun hb23 => ?_) (fun hb23 => ?_)
     ·replace hL21 := cd_t hb23 hL21;cases hL21
     ·replace hL21 := cd_f hb23 hL21;refine DWp.skip ?_;simp only [andThen, leaves];have S24 := S1_.pick [0] (by decide) rfl;obtain rfl := Option.some.inj hL21;exact ⟨S24, A1_, by simp [e1_0, e1_1, e1_2, e1_3, e1_8, e1_9]⟩
    ·rintro env Gj25 ⟨Sj25, Aj25, ej25_0, ej25_1, ej25_2, ej25_3, ej25_8, ej25_9, ej25_10⟩;cases hL2
def F_slices_Sort_Sstring (fu : Nat) (x0 : List ByteArray) : Option (List ByteArray) :=
  bd (F_math_bits_Len fu (iwr .u64 (llen x0))) fun r1 =>
  bd (F_slices_pdqsortOrdered_string fu x0 0 (llen x0) r1) fun r2 =>
  some r2
theorem F_slices_Sort_Sstring_w {fu : Nat} {H : AH} {B : Nat → Prop} {v0 : Value} {x0 : List ByteArray} {r : (List ByteArray)} (hB : Up B H.length) (S0 : Sep H B [flat v0 9 (strs x0)]) (hF : F_slices_Sort_Sstring fu x0 = some r) :
    ACallT Try.prog 122 [v0] H (fun u G => AgB B H G ∧ u = (Value.tuple #[]) ∧ Sep G B [flat v0 9 (strs r)]) := by
 refine ACallT.of_body (nt := 11) (rs := []) Try.func122 rfl rfl rfl rfl ?_;have A0 : AgB B H H := .refl _ _;unfold F_slices_Sort_Sstring at hF;have q1 := lenG (P := Try.prog) (S0.sl (k := 0) rfl) el_59;refine .sr fun K hK => ?_;simp [q1];apply hK;clear hK K;obtain ⟨r1, hc2, hF⟩ := bd_some hF;refine .region fun K hK => ?_;simp [c_int un_3 un_114];refine CallD.t (F_math_bits_Len_w (fu := fu)  hc2) ?_;rintro _ G4 ⟨a7, rfl, S8⟩;have A6 := A0.ext (hB.le A0.1) a7.agree;have S5 : Sep G4 B [flat v0 9 (strs x0)] := S0.app a7.agree S8 (fun _ h => h) (hB.le A0.1);obtain ⟨r2, hc9, hF⟩ := bd_some hF;simp [c_int un_3 un_114, a7.pre, ((S5.sl (k := 0) rfl).tup)];have S10 : Sep G4 B ([flat v0 9 (strs x0)] ++ []) := S5.pick [0] (by decide) rfl;obtain ⟨B16, S11, U12, M13, R14, C15⟩ := S10.frame (hB.le A6.1);refine CallD.t (F_slices_pdqsortOrdered_string_w (fu := fu) U12 S11 hc9) ?_;rintro _ G18 ⟨a21, rfl, S22⟩;have A20 := A6.trans (a21.mono M13);have S19 : Sep G18 B [flat v0 9 (strs r2)] := C15 _ _ a21 S22;simp [c_int un_3 un_114, a7.pre];apply hK;clear hK K;obtain rfl := Option.some.inj hF;exact ⟨by simp, [], by simp [], A20, rfl, S19.pick [0] (by decide) rfl⟩
def F_impl_PieceTexts_L1 (fu : Nat) (k1_0 : List (List Int × List Int)) (k1_1 : Int) : Nat → List ByteArray → Int → Option (List ByteArray × Int)
  | 0, _, _ => none
  | n + 1, l1_0, y1_14 =>
    bif (ilt y1_14 k1_1) then
      gd (inL k1_0 y1_14) (
      bd (F_impl_meanderText fu ((gat pnil k1_0 y1_14).1) ((gat pnil k1_0 y1_14).2)) fun r3 =>
      gd (l1_0.length + [r3].length ≤ 4294967296) (
      F_impl_PieceTexts_L1 fu k1_0 k1_1 n (lapp l1_0 [r3]) (iadd .i64 y1_14 1)))
    else
      some (l1_0, y1_14)
def F_impl_PieceTexts (fu : Nat) (x0_0 : List Int) (x0_1 : List Int) : Option (List ByteArray × Bool) :=
  bd (F_impl_isCut fu x0_0 x0_1) fun r1 =>
  bif (bnot r1) then
    some ([], false)
  else
    bd (F_impl_Meander_pieces fu x0_0 x0_1 false) fun r2 =>
    bd (F_impl_PieceTexts_L1 fu r2 (llen r2) fu (@List.nil ByteArray) 0) fun s1 =>
    bd (F_slices_Sort_Sstring fu s1.1) fun r4 =>
    some (r4, true)
theorem F_impl_PieceTexts_w {fu : Nat} {H : AH} {v0_0 : Value} {v0_1 : Value} {x0_0 : List Int} {x0_1 : List Int} {r : (List ByteArray × Bool)} (hx0_0 : Sl H v0_0 (ints x0_0)) (hx0_1 : Sl H v0_1 (ints x0_1)) (hF : F_impl_PieceTexts fu x0_0 x0_1 = some r) :
    ACallT Try.prog 64 [(Value.agg #[v0_0, v0_1])] H (fun u G => AgB (Fr H) H G ∧ ∃ u0 : Value, u = (Value.tuple #[u0, (Value.bool r.2)]) ∧ Sep G (Fr H) [flat u0 9 (strs r.1)]) := by
 refine ACallT.of_body (nt := 27) (rs := [.tmp 2, .tmp 3]) Try.func64 rfl rfl rfl rfl ?_;have A0 : AgB (Fr H) H H := .refl _ _;have S0 : Sep H (Fr H) [] := .nil;have hB := Fr.up H;unfold F_impl_PieceTexts at hF;obtain ⟨G2, p4, q5, q6, a7, S1⟩ := S0.boxT (hB.le A0.1) 28 [v0_0, v0_1];have A3 := A0.ext (hB.le A0.1) a7;replace S1 : Sep G2 (Fr H) [AL.box p4 [v0_0, v0_1]] := S1;refine .sr fun K hK => ?_;simp [q5, q6, a7.to_pre, cells_agg];apply hK;clear hK K;refine .seq ?_;have q8 := S1.loadAgg (P := Try.prog) (k := 0) rfl sz_28 ag_28 rfl;obtain ⟨r1, hc9, hF⟩ := bd_some hF;refine .sr fun K hK => ?_;simp [q8, ((hx0_0.agree A3.agree).tup), ((hx0_1.agree A3.agree).tup)];refine CallD.t (F_impl_isCut_w (fu := fu) (hx0_0.agree A3.agree) (hx0_1.agree A3.agree) hc9) ?_;rintro _ G11 ⟨a14, rfl, S15⟩;have A13 := A3.ext (hB.le A3.1) a14.agree;have S12 : Sep G11 (Fr H) [AL.box p4 [v0_0, v0_1]] := S1.app a14.agree S15 (fun _ h => h) (hB.le A3.1);simp [q8, a14.pre];apply hK;clear hK K;refine DWp.cond' (t := (bnot r1)) (by simp []) (fun hb16 => ?_) (fun hb16 => ?_)
 ·replace hF := cd_t hb16 hF;refine .sr fun K hK => ?_;simp [];apply hK;clear hK K;refine DWp.ret ?_;simp only [andThen, leaves];have S17 := S12.nilItem (hB.le A13.1) 9;obtain rfl := Option.some.inj hF;exact ⟨by simp, [(Value.slice none 0 0), (Value.bool false)], by simp [], A13, (Value.slice none 0 0), rfl, S17.pick [1] (by decide) rfl⟩
 ·replace hF := cd_f hb16 hF;refine DWp.skip ?_;simp only [andThen, leaves];obtain ⟨v18, G19, q20, S21, a23, _, _⟩ := S12.lit0 (P := Try.prog) (t := 59) (hB.le A13.1) el_59 ei_9 rfl;have A22 := A13.ext (hB.le A13.1) a23;replace S21 : Sep G19 (Fr H) [AL.box p4 [v0_0, v0_1], flat1 v18 9 (strs (@List.nil ByteArray))] := S21;refine .sr fun K hK => ?_;simp [q20, a23.to_pre];apply hK;clear hK K;refine .seq ?_;have q25 := S21.loadAgg (P := Try.prog) (k := 0) rfl sz_28 ag_28 rfl;obtain ⟨r2, hc26, hF⟩ := bd_some hF;refine .sr fun K hK => ?_;simp [q25, ((hx0_0.agree A22.agree).tup), ((hx0_1.agree A22.agree).tup)];refine CallD.t (F_impl_Meander_pieces_w (fu := fu) (hx0_0.agree A22.agree) (hx0_1.agree A22.agree) hc26) ?_;rintro c27_u0 G28 ⟨a31, _, c27_C0, rfl, S32⟩;have A30 := A22.ext (hB.le A22.1) a31.agree;have S29 : Sep G28 (Fr H) [AL.box p4 [v0_0, v0_1], flat1 v18 9 (strs (@List.nil ByteArray)), rowsP c27_u0 28 3 c27_C0 r2] := S21.app a31.agree S32 (fun _ h => h) (hB.le A22.1);have q33 := (S29.rdP (k := 2) rfl).lenG (P := Try.prog) el_46;simp [q25, a31.pre, q33];apply hK;clear hK K;refine .block ?_;obtain ⟨s34, hL35, hF⟩ := bd_some hF;have S36 := S29.pick [1, 2] (by decide) rfl;have S37 := S36.weak (k := 0) rfl;refine DWp.loop (fun n env G => ∃ l1_0 : List ByteArray, ∃ y1_14 : Int, ∃ w1_0 : Value, F_impl_PieceTexts_L1 fu r2 (llen r2) n l1_0 y1_14 = some s34 ∧ Sep G (Fr H) [flat w1_0 9 (strs l1_0), rowsP c27_u0 28 3 c27_C0 r2] ∧ AgB (Fr H) H G ∧ env 4 = some w1_0 ∧ env 12 = some c27_u0 ∧ env 13 = some (Value.int .i64 (llen r2)) ∧ env 14 = some (Value.int .i64 y1_14)) fu ⟨(@List.nil ByteArray), 0, v18, hL35, S37, A30, by simp []⟩ ?_;rintro n1 env1 G1_ ⟨l1_0, y1_14, w1_0, hL35, S1_, A1_, e1_4, e1_12, e1_13, e1_14⟩;cases n1 with
  | zero => cases hL35
  | succ n1 =>
   simp only [F_impl_PieceTexts_L1] at hL35;refine .sr fun K hK => ?_;simp [e1_4, e1_12, e1_13, e1_14];apply hK;clear hK K;refine .seq ?_;refine DWp.cond' (t := (ilt y1_14 (llen r2))) (by simp [e1_4, e1_12, e1_13, e1_14]) (fun hb38 => ?_) (fun hb38 => ?_)
   ·replace hL35 := cd_t hb38 hL35;refine DWp.skip ?_;simp only [andThen, leaves];refine .seq ?_;refine .block ?_;obtain ⟨g39, hL35⟩ := gd_some hL35;have q40 := (S1_.rdP (k := 1) rfl).idxG (P := Try.prog) (kk := .i64) el_46 sz_28 g39;have q41 := (S1_.rdP (k := 1) rfl).loadG (P := Try.prog) sz_28 ag_28 g39;obtain ⟨G43, p45, q46, q48, a47, S42⟩ := S1_.allocT (P := Try.prog) (hB.le A1_.1) ze_28 rfl;have A44 := A1_.ext (hB.le A1_.1) a47;replace S42 : Sep G43 (Fr H) [flat w1_0 9 (strs l1_0), rowsP c27_u0 28 3 c27_C0 r2, AL.box p45 [(Value.slice none 0 0), (Value.slice none 0 0)]] := S42;obtain ⟨G49, q50, S51, a53⟩ := S42.putAgg (P := Try.prog) (k := 2) (xs := [(pc c27_C0 y1_14 0), (pc c27_C0 y1_14 1)]) rfl (hB.le A44.1) sz_28 rfl rfl;have A52 := A44.trans a53;replace S51 : Sep G49 (Fr H) [flat w1_0 9 (strs l1_0), rowsP c27_u0 28 3 c27_C0 r2, AL.box p45 [(pc c27_C0 y1_14 0), (pc c27_C0 y1_14 1)]] := S51;refine .sr fun K hK => ?_;simp [e1_4, e1_12, e1_13, e1_14, q40, q41, q46, q48, a47.to_pre, q50];apply hK;clear hK K;have q54 := S51.loadAgg (P := Try.prog) (k := 2) rfl sz_28 ag_28 rfl;obtain ⟨r3, hc55, hL35⟩ := bd_some hL35;refine .region fun K hK => ?_;simp [e1_4, e1_12, e1_13, e1_14, q54, (((S51.rdP (k := 1) rfl).row0 g39).tup), (((S51.rdP (k := 1) rfl).row1 g39).tup)];refine CallD.t (F_impl_meanderText_w (fu := fu) ((S51.rdP (k := 1) rfl).row0 g39) ((S51.rdP (k := 1) rfl).row1 g39) hc55) ?_;rintro _ G57 ⟨a60, rfl, S61⟩;have A59 := A52.ext (hB.le A52.1) a60.agree;have S58 : Sep G57 (Fr H) [flat w1_0 9 (strs l1_0), rowsP c27_u0 28 3 c27_C0 r2, AL.box p45 [(pc c27_C0 y1_14 0), (pc c27_C0 y1_14 1)]] := S51.app a60.agree S61 (fun _ h => h) (hB.le A52.1)
    obtain ⟨v62, G63, q64, S65, a67, _, _⟩ := S58.lit1 (P := Try.prog) (t := 59) (hB.le A59.1) el_59 ei_9 rfl (Value.string r3) rfl rfl;have A66 := A59.ext (hB.le A59.1) a67;replace S65 : Sep G63 (Fr H) [flat w1_0 9 (strs l1_0), rowsP c27_u0 28 3 c27_C0 r2, AL.box p45 [(pc c27_C0 y1_14 0), (pc c27_C0 y1_14 1)], flat1 v62 9 (strs [r3])] := S65;obtain ⟨g69, hL35⟩ := gd_some hL35;obtain ⟨v75, G70, q71, S72, a74, _, _⟩ := S65.appendG (f := Value.string) (xs := l1_0) (ys := [r3]) (P := Try.prog) (t := 59) (t2 := 59) (k := 0) rfl (hB.le A66.1) el_59 el_59 ei_9 rfl (S65.sl1 (k := 3) rfl) g69;have A73 := A66.trans a74;replace S72 : Sep G70 (Fr H) [flat v75 9 (strs (lapp l1_0 [r3])), rowsP c27_u0 28 3 c27_C0 r2, AL.box p45 [(pc c27_C0 y1_14 0), (pc c27_C0 y1_14 1)], flat1 v62 9 (strs [r3])] := S72;simp [e1_4, e1_12, e1_13, e1_14, q54, a60.pre, q64, a67.to_pre, q71];apply hK;clear hK K;simp only [andThen, leaves];refine .region fun K hK => ?_;simp [e1_4, e1_12, e1_13, e1_14];apply hK;clear hK K;simp only [andThen, leaves];have S76 := S72.pick [0, 1] (by decide) rfl;exact ⟨n1, Nat.lt_succ_self _, (lapp l1_0 [r3]), (iadd .i64 y1_14 1), v75, hL35, S76, A73, by simp [e1_4, e1_12, e1_13, e1_14]⟩
   ·replace hL35 := cd_f hb38 hL35;refine DWp.exit ?_;simp only [andThen, leaves, if_true, if_false, reduceIte, Nat.reduceEqDiff];obtain rfl := Option.some.inj hL35;try dsimp only at hF
    obtain ⟨r4, hc77, hF⟩ := bd_some hF;refine .sr fun K hK => ?_;simp [e1_4, e1_12, e1_13, e1_14, ((S1_.sl (k := 0) rfl).tup)];have S78 : Sep G1_ (Fr H) ([flat w1_0 9 (strs l1_0)] ++ [rowsP c27_u0 28 3 c27_C0 r2]) := S1_.pick [0, 1] (by decide) rfl;obtain ⟨B84, S79, U80, M81, R82, C83⟩ := S78.frame (hB.le A1_.1);refine CallD.t (F_slices_Sort_Sstring_w (fu := fu) U80 S79 hc77) ?_;rintro _ G86 ⟨a89, rfl, S90⟩;have A88 := A1_.trans (a89.mono M81);have S87 : Sep G86 (Fr H) [flat w1_0 9 (strs r4), rowsP c27_u0 28 3 c27_C0 r2] := C83 _ _ a89 S90;simp [e1_4, e1_12, e1_13, e1_14];apply hK;clear hK K;refine .sr fun K hK => ?_;simp [e1_4, e1_12, e1_13, e1_14];apply hK;clear hK K;refine DWp.ret ?_;obtain rfl := Option.some.inj hF;exact ⟨by simp, [w1_0, (Value.bool true)], by simp [e1_4, e1_12, e1_13, e1_14, ((S87.sl (k := 0) rfl).tup)], A88, w1_0, rfl, S87.pick [0] (by decide) rfl⟩
end Go.Proofs.Ytbckijeffiofdaa.AL

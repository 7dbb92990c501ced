/- The walks of functions, each with its Lean function: slices.Sort[[]string,string], impl.PieceTexts, laws.eqStringS, laws.markText, laws.markStringS, laws.heldStringS, laws.FnExactPieceTexts. No condition. -/
import Derived.Test.YtbckijeffiofdaaG1
import Derived.Test.YtbckijeffiofdaaG10
import Derived.Test.YtbckijeffiofdaaG11
import Derived.Test.YtbckijeffiofdaaG12
import Derived.Test.YtbckijeffiofdaaG13
import Derived.Test.YtbckijeffiofdaaG14
import Derived.Test.YtbckijeffiofdaaG2
import Derived.Test.YtbckijeffiofdaaG3
import Derived.Test.YtbckijeffiofdaaG4
import Derived.Test.YtbckijeffiofdaaG5
import Derived.Test.YtbckijeffiofdaaG6
import Derived.Test.YtbckijeffiofdaaG7
import Derived.Test.YtbckijeffiofdaaG8
import Derived.Test.YtbckijeffiofdaaG9
import Derived.Test.YtbckijeffiofdaaALD
import Derived.Test.YtbckijeffiofdaaProg
import Derived.KernelRfl
namespace Go.Proofs.Ytbckijeffiofdaa.AL
open Go Go.RowKit
set_option linter.unusedVariables false
set_option linter.unusedSimpArgs false
set_option maxRecDepth 4096

def F_slices_Sort_Sstring (fu : Nat) (x0 : List ByteArray) : Option (List ByteArray) :=
  bd (F_math_bits_Len fu (iwr .u64 (llen x0))) fun r1 =>
  bd (F_slices_pdqsortOrdered_string fu x0 0 (llen x0) r1) fun r2 =>
  some r2
theorem F_slices_Sort_Sstring_w {fu : Nat} {H : AH} {B : Nat → Prop} {v0 : Value} {x0 : List ByteArray} {r : (List ByteArray)} (hB : Up B H.length) (S0 : Sep H B [flat v0 9 (strs x0)]) (hF : F_slices_Sort_Sstring fu x0 = some r) :
    ACallT Try.prog 122 [v0] H (fun u G => AgB B H G ∧ u = (Value.tuple #[]) ∧ Sep G B [flat v0 9 (strs r)]) := by
  refine ACallT.of_body (nt := 11) (rs := []) Try.func122 rfl rfl rfl rfl ?_
  have A0 : AgB B H H := .refl _ _
  unfold F_slices_Sort_Sstring at hF
  refine DWp.seq ?_
  have q1 := lenG (P := Try.prog) (S0.sl (k := 0) rfl) el_59
  refine DWp.region fun K hK => ?_
  simp [-aBin', -aBin, -aBinI, -aUn, -aNil, -flatV, n_fn, b_add, b_sub, b_mul, b_lt, b_le, b_gt, b_ge, b_eq, b_ne, u_not, q1]
  apply hK
  clear hK K
  simp only [andThen, leaves]
  obtain ⟨r1, hc2, hF⟩ := bd_some hF
  refine DWp.region fun K hK => ?_
  simp [-aBin', -aBin, -aBinI, -aUn, -aNil, -flatV, n_fn, b_add, b_sub, b_mul, b_lt, b_le, b_gt, b_ge, b_eq, b_ne, u_not, c_int un_3 un_114]
  refine CallD.t (F_math_bits_Len_w (fu := fu)  hc2) ?_
  rintro _ G4 ⟨a7, rfl, S8⟩
  have A6 := A0.ext (hB.le A0.1) a7.agree
  have S5 : Sep G4 B [flat v0 9 (strs x0)] := S0.app a7.agree S8 (fun _ h => h) (hB.le A0.1)
  obtain ⟨r2, hc9, hF⟩ := bd_some hF
  simp [-aBin', -aBin, -aBinI, -aUn, -aNil, -flatV, n_fn, b_add, b_sub, b_mul, b_lt, b_le, b_gt, b_ge, b_eq, b_ne, u_not, c_int un_3 un_114, a7.pre, ((S5.sl (k := 0) rfl).tup)]
  have S10 : Sep G4 B ([flat v0 9 (strs x0)] ++ []) := S5.pick [0] (by decide) rfl
  obtain ⟨B16, S11, U12, M13, R14, C15⟩ := S10.frame (hB.le A6.1)
  refine CallD.t (F_slices_pdqsortOrdered_string_w (fu := fu) U12 S11 hc9) ?_
  rintro _ G18 ⟨a21, rfl, S22⟩
  have A20 := A6.trans (a21.mono M13)
  have S19 : Sep G18 B [flat v0 9 (strs r2)] := C15 _ _ a21 S22
  simp [-aBin', -aBin, -aBinI, -aUn, -aNil, -flatV, n_fn, b_add, b_sub, b_mul, b_lt, b_le, b_gt, b_ge, b_eq, b_ne, u_not, c_int un_3 un_114, a7.pre]
  apply hK
  clear hK K
  obtain rfl := Option.some.inj hF
  exact ⟨by simp, [], by simp [], A20, rfl, S19.pick [0] (by decide) rfl⟩
def F_impl_PieceTexts_L1 (fu : Nat) (k1_0 : List (List Int × List Int)) (k1_1 : Int) : Nat → List ByteArray → Int → Option (List ByteArray × Int)
  | 0, _, _ => none
  | n + 1, l1_0, y1_14 =>
    bif (ilt y1_14 k1_1) then
      gd (inL k1_0 y1_14) (
      bd (F_impl_meanderText fu ((gat pnil k1_0 y1_14).1) ((gat pnil k1_0 y1_14).2)) fun r3 =>
      gd (l1_0.length + [r3].length ≤ 4294967296) (
      F_impl_PieceTexts_L1 fu k1_0 k1_1 n (lapp l1_0 [r3]) (iadd .i64 y1_14 1)))
    else
      some (l1_0, y1_14)
def F_impl_PieceTexts (fu : Nat) (x0_0 : List Int) (x0_1 : List Int) : Option (List ByteArray × Bool) :=
  bd (F_impl_isCut fu x0_0 x0_1) fun r1 =>
  bif (bnot r1) then
    some ([], false)
  else
    bd (F_impl_Meander_pieces fu x0_0 x0_1 false) fun r2 =>
    bd (F_impl_PieceTexts_L1 fu r2 (llen r2) fu (@List.nil ByteArray) 0) fun s1 =>
    bd (F_slices_Sort_Sstring fu s1.1) fun r4 =>
    some (r4, true)
theorem F_impl_PieceTexts_w {fu : Nat} {H : AH} {v0_0 : Value} {v0_1 : Value} {x0_0 : List Int} {x0_1 : List Int} {r : (List ByteArray × Bool)} (hx0_0 : Sl H v0_0 (ints x0_0)) (hx0_1 : Sl H v0_1 (ints x0_1)) (hF : F_impl_PieceTexts fu x0_0 x0_1 = some r) :
    ACallT Try.prog 64 [(Value.agg #[v0_0, v0_1])] H (fun u G => AgB (Fr H) H G ∧ ∃ u0 : Value, u = (Value.tuple #[u0, (Value.bool r.2)]) ∧ Sep G (Fr H) [flat u0 9 (strs r.1)]) := by
  refine ACallT.of_body (nt := 27) (rs := [.tmp 2, .tmp 3]) Try.func64 rfl rfl rfl rfl ?_
  have A0 : AgB (Fr H) H H := .refl _ _
  have S0 : Sep H (Fr H) [] := .nil
  have hB := Fr.up H
  unfold F_impl_PieceTexts at hF
  refine DWp.seq ?_
  obtain ⟨G2, p4, q5, q6, a7, S1⟩ := S0.boxT (hB.le A0.1) 28 [v0_0, v0_1]
  have A3 := A0.ext (hB.le A0.1) a7
  replace S1 : Sep G2 (Fr H) [AL.box p4 [v0_0, v0_1]] := S1
  refine DWp.region fun K hK => ?_
  simp [-aBin', -aBin, -aBinI, -aUn, -aNil, -flatV, n_fn, b_add, b_sub, b_mul, b_lt, b_le, b_gt, b_ge, b_eq, b_ne, u_not, q5, q6, a7.to_pre, cells_agg]
  apply hK
  clear hK K
  simp only [andThen, leaves]
  refine DWp.seq ?_
  refine DWp.seq ?_
  have q8 := S1.loadAgg (P := Try.prog) (k := 0) rfl sz_28 ag_28 rfl
  obtain ⟨r1, hc9, hF⟩ := bd_some hF
  refine DWp.region fun K hK => ?_
  simp [-aBin', -aBin, -aBinI, -aUn, -aNil, -flatV, n_fn, b_add, b_sub, b_mul, b_lt, b_le, b_gt, b_ge, b_eq, b_ne, u_not, q8, ((hx0_0.agree A3.agree).tup), ((hx0_1.agree A3.agree).tup)]
  refine CallD.t (F_impl_isCut_w (fu := fu) (hx0_0.agree A3.agree) (hx0_1.agree A3.agree) hc9) ?_
  rintro _ G11 ⟨a14, rfl, S15⟩
  have A13 := A3.ext (hB.le A3.1) a14.agree
  have S12 : Sep G11 (Fr H) [AL.box p4 [v0_0, v0_1]] := S1.app a14.agree S15 (fun _ h => h) (hB.le A3.1)
  simp [-aBin', -aBin, -aBinI, -aUn, -aNil, -flatV, n_fn, b_add, b_sub, b_mul, b_lt, b_le, b_gt, b_ge, b_eq, b_ne, u_not, q8, a14.pre]
  apply hK
  clear hK K
  simp only [andThen, leaves]
  refine DWp.cond' (t := (bnot r1)) (by simp []) (fun hb16 => ?_) (fun hb16 => ?_)
  · replace hF := cd_t hb16 hF
    refine DWp.seq ?_
    refine DWp.region fun K hK => ?_
    simp [-aBin', -aBin, -aBinI, -aUn, -aNil, -flatV, n_fn, b_add, b_sub, b_mul, b_lt, b_le, b_gt, b_ge, b_eq, b_ne, u_not]
    apply hK
    clear hK K
    simp only [andThen, leaves]
    refine DWp.ret ?_
    simp only [andThen, leaves]
    have S17 := S12.nilItem (hB.le A13.1) 9
    obtain rfl := Option.some.inj hF
    exact ⟨by simp, [(Value.slice none 0 0), (Value.bool false)], by simp [], A13, (Value.slice none 0 0), rfl, S17.pick [1] (by decide) rfl⟩
  · replace hF := cd_f hb16 hF
    refine DWp.skip ?_
    simp only [andThen, leaves]
    refine DWp.seq ?_
    obtain ⟨v18, G19, q20, S21, a23, _, _⟩ := S12.lit0 (P := Try.prog) (t := 59) (hB.le A13.1) el_59 ei_9 rfl
    have A22 := A13.ext (hB.le A13.1) a23
    replace S21 : Sep G19 (Fr H) [AL.box p4 [v0_0, v0_1], flat1 v18 9 (strs (@List.nil ByteArray))] := S21
    refine DWp.region fun K hK => ?_
    simp [-aBin', -aBin, -aBinI, -aUn, -aNil, -flatV, n_fn, b_add, b_sub, b_mul, b_lt, b_le, b_gt, b_ge, b_eq, b_ne, u_not, q20, a23.to_pre]
    apply hK
    clear hK K
    simp only [andThen, leaves]
    refine DWp.seq ?_
    refine DWp.seq ?_
    have q25 := S21.loadAgg (P := Try.prog) (k := 0) rfl sz_28 ag_28 rfl
    obtain ⟨r2, hc26, hF⟩ := bd_some hF
    refine DWp.region fun K hK => ?_
    simp [-aBin', -aBin, -aBinI, -aUn, -aNil, -flatV, n_fn, b_add, b_sub, b_mul, b_lt, b_le, b_gt, b_ge, b_eq, b_ne, u_not, q25, ((hx0_0.agree A22.agree).tup), ((hx0_1.agree A22.agree).tup)]
    refine CallD.t (F_impl_Meander_pieces_w (fu := fu) (hx0_0.agree A22.agree) (hx0_1.agree A22.agree) hc26) ?_
    rintro c27_u0 G28 ⟨a31, _, c27_C0, rfl, S32⟩
    have A30 := A22.ext (hB.le A22.1) a31.agree
    have S29 : Sep G28 (Fr H) [AL.box p4 [v0_0, v0_1], flat1 v18 9 (strs (@List.nil ByteArray)), rowsP c27_u0 28 3 c27_C0 r2] := S21.app a31.agree S32 (fun _ h => h) (hB.le A22.1)
    have q33 := (S29.rdP (k := 2) rfl).lenG (P := Try.prog) el_46
    simp [-aBin', -aBin, -aBinI, -aUn, -aNil, -flatV, n_fn, b_add, b_sub, b_mul, b_lt, b_le, b_gt, b_ge, b_eq, b_ne, u_not, q25, a31.pre, q33]
    apply hK
    clear hK K
    simp only [andThen, leaves]
    refine DWp.block ?_
    obtain ⟨s34, hL35, hF⟩ := bd_some hF
    have S36 := S29.pick [1, 2] (by decide) rfl
    have S37 := S36.weak (k := 0) rfl
    refine DWp.loop (fun n env G => ∃ l1_0 : List ByteArray, ∃ y1_14 : Int, ∃ w1_0 : Value, F_impl_PieceTexts_L1 fu r2 (llen r2) n l1_0 y1_14 = some s34 ∧ Sep G (Fr H) [flat w1_0 9 (strs l1_0), rowsP c27_u0 28 3 c27_C0 r2] ∧ AgB (Fr H) H G ∧ env 4 = some w1_0 ∧ env 12 = some c27_u0 ∧ env 13 = some (Value.int .i64 (llen r2)) ∧ env 14 = some (Value.int .i64 y1_14)) fu ⟨(@List.nil ByteArray), 0, v18, hL35, S37, A30, by simp [], by simp [], by simp [], by simp []⟩ ?_
    rintro n1 env1 G1_ ⟨l1_0, y1_14, w1_0, hL35, S1_, A1_, e1_4, e1_12, e1_13, e1_14⟩
    cases n1 with
    | zero => cases hL35
    | succ n1 =>
      simp only [F_impl_PieceTexts_L1] at hL35
      refine DWp.seq ?_
      refine DWp.region fun K hK => ?_
      simp [-aBin', -aBin, -aBinI, -aUn, -aNil, -flatV, n_fn, b_add, b_sub, b_mul, b_lt, b_le, b_gt, b_ge, b_eq, b_ne, u_not, e1_4, e1_12, e1_13, e1_14]
      apply hK
      clear hK K
      simp only [andThen, leaves]
      refine DWp.seq ?_
      refine DWp.cond' (t := (ilt y1_14 (llen r2))) (by simp [e1_4, e1_12, e1_13, e1_14]) (fun hb38 => ?_) (fun hb38 => ?_)
      · replace hL35 := cd_t hb38 hL35
        refine DWp.skip ?_
        simp only [andThen, leaves]
        refine DWp.seq ?_
        refine DWp.block ?_
        refine DWp.seq ?_
        obtain ⟨g39, hL35⟩ := gd_some hL35
        have q40 := (S1_.rdP (k := 1) rfl).idxG (P := Try.prog) (kk := .i64) el_46 sz_28 g39
        have q41 := (S1_.rdP (k := 1) rfl).loadG (P := Try.prog) sz_28 ag_28 g39
        obtain ⟨G43, p45, q46, q48, a47, S42⟩ := S1_.allocT (P := Try.prog) (hB.le A1_.1) ze_28 rfl
        have A44 := A1_.ext (hB.le A1_.1) a47
        replace S42 : Sep G43 (Fr H) [flat w1_0 9 (strs l1_0), rowsP c27_u0 28 3 c27_C0 r2, AL.box p45 [(Value.slice none 0 0), (Value.slice none 0 0)]] := S42
        obtain ⟨G49, q50, S51, a53⟩ := S42.putAgg (P := Try.prog) (k := 2) (xs := [(pc c27_C0 y1_14 0), (pc c27_C0 y1_14 1)]) rfl (hB.le A44.1) sz_28 rfl rfl
        have A52 := A44.trans a53
        replace S51 : Sep G49 (Fr H) [flat w1_0 9 (strs l1_0), rowsP c27_u0 28 3 c27_C0 r2, AL.box p45 [(pc c27_C0 y1_14 0), (pc c27_C0 y1_14 1)]] := S51
        refine DWp.region fun K hK => ?_
        simp [-aBin', -aBin, -aBinI, -aUn, -aNil, -flatV, n_fn, b_add, b_sub, b_mul, b_lt, b_le, b_gt, b_ge, b_eq, b_ne, u_not, e1_4, e1_12, e1_13, e1_14, q40, q41, q46, q48, a47.to_pre, q50]
        apply hK
        clear hK K
        simp only [andThen, leaves]
        have q54 := S51.loadAgg (P := Try.prog) (k := 2) rfl sz_28 ag_28 rfl
        obtain ⟨r3, hc55, hL35⟩ := bd_some hL35
        refine DWp.region fun K hK => ?_
        simp [-aBin', -aBin, -aBinI, -aUn, -aNil, -flatV, n_fn, b_add, b_sub, b_mul, b_lt, b_le, b_gt, b_ge, b_eq, b_ne, u_not, e1_4, e1_12, e1_13, e1_14, q54, (((S51.rdP (k := 1) rfl).row0 g39).tup), (((S51.rdP (k := 1) rfl).row1 g39).tup)]
        refine CallD.t (F_impl_meanderText_w (fu := fu) ((S51.rdP (k := 1) rfl).row0 g39) ((S51.rdP (k := 1) rfl).row1 g39) hc55) ?_
        rintro _ G57 ⟨a60, rfl, S61⟩
        have A59 := A52.ext (hB.le A52.1) a60.agree
        have S58 : Sep G57 (Fr H) [flat w1_0 9 (strs l1_0), rowsP c27_u0 28 3 c27_C0 r2, AL.box p45 [(pc c27_C0 y1_14 0), (pc c27_C0 y1_14 1)]] := S51.app a60.agree S61 (fun _ h => h) (hB.le A52.1)
        obtain ⟨v62, G63, q64, S65, a67, _, _⟩ := S58.lit1 (P := Try.prog) (t := 59) (hB.le A59.1) el_59 ei_9 rfl (Value.string r3) rfl rfl
        have A66 := A59.ext (hB.le A59.1) a67
        replace S65 : Sep G63 (Fr H) [flat w1_0 9 (strs l1_0), rowsP c27_u0 28 3 c27_C0 r2, AL.box p45 [(pc c27_C0 y1_14 0), (pc c27_C0 y1_14 1)], flat1 v62 9 (strs [r3])] := S65
        obtain ⟨g69, hL35⟩ := gd_some hL35
        obtain ⟨v75, G70, q71, S72, a74, _, _⟩ := S65.appendG (f := Value.string) (xs := l1_0) (ys := [r3]) (P := Try.prog) (t := 59) (t2 := 59) (k := 0) rfl (hB.le A66.1) el_59 el_59 ei_9 rfl (S65.sl1 (k := 3) rfl) g69
        have A73 := A66.trans a74
        replace S72 : Sep G70 (Fr H) [flat v75 9 (strs (lapp l1_0 [r3])), rowsP c27_u0 28 3 c27_C0 r2, AL.box p45 [(pc c27_C0 y1_14 0), (pc c27_C0 y1_14 1)], flat1 v62 9 (strs [r3])] := S72
        simp [-aBin', -aBin, -aBinI, -aUn, -aNil, -flatV, n_fn, b_add, b_sub, b_mul, b_lt, b_le, b_gt, b_ge, b_eq, b_ne, u_not, e1_4, e1_12, e1_13, e1_14, q54, a60.pre, q64, a67.to_pre, q71]
        apply hK
        clear hK K
        simp only [andThen, leaves]
        refine DWp.region fun K hK => ?_
        simp [-aBin', -aBin, -aBinI, -aUn, -aNil, -flatV, n_fn, b_add, b_sub, b_mul, b_lt, b_le, b_gt, b_ge, b_eq, b_ne, u_not, e1_4, e1_12, e1_13, e1_14]
        apply hK
        clear hK K
        simp only [andThen, leaves]
        have S76 := S72.pick [0, 1] (by decide) rfl
        exact ⟨n1, Nat.lt_succ_self _, (lapp l1_0 [r3]), (iadd .i64 y1_14 1), v75, hL35, S76, A73, by simp [e1_4, e1_12, e1_13, e1_14], by simp [e1_4, e1_12, e1_13, e1_14], by simp [e1_4, e1_12, e1_13, e1_14], by simp [e1_4, e1_12, e1_13, e1_14]⟩
      · replace hL35 := cd_f hb38 hL35
        refine DWp.exit ?_
        simp only [andThen, leaves, if_true, if_false, reduceIte, Nat.reduceEqDiff]
        obtain rfl := Option.some.inj hL35
        try dsimp only at hF
        refine DWp.seq ?_
        obtain ⟨r4, hc77, hF⟩ := bd_some hF
        refine DWp.region fun K hK => ?_
        simp [-aBin', -aBin, -aBinI, -aUn, -aNil, -flatV, n_fn, b_add, b_sub, b_mul, b_lt, b_le, b_gt, b_ge, b_eq, b_ne, u_not, e1_4, e1_12, e1_13, e1_14, ((S1_.sl (k := 0) rfl).tup)]
        have S78 : Sep G1_ (Fr H) ([flat w1_0 9 (strs l1_0)] ++ [rowsP c27_u0 28 3 c27_C0 r2]) := S1_.pick [0, 1] (by decide) rfl
        obtain ⟨B84, S79, U80, M81, R82, C83⟩ := S78.frame (hB.le A1_.1)
        refine CallD.t (F_slices_Sort_Sstring_w (fu := fu) U80 S79 hc77) ?_
        rintro _ G86 ⟨a89, rfl, S90⟩
        have A88 := A1_.trans (a89.mono M81)
        have S87 : Sep G86 (Fr H) [flat w1_0 9 (strs r4), rowsP c27_u0 28 3 c27_C0 r2] := C83 _ _ a89 S90
        simp [-aBin', -aBin, -aBinI, -aUn, -aNil, -flatV, n_fn, b_add, b_sub, b_mul, b_lt, b_le, b_gt, b_ge, b_eq, b_ne, u_not, e1_4, e1_12, e1_13, e1_14]
        apply hK
        clear hK K
        simp only [andThen, leaves]
        refine DWp.seq ?_
        refine DWp.region fun K hK => ?_
        simp [-aBin', -aBin, -aBinI, -aUn, -aNil, -flatV, n_fn, b_add, b_sub, b_mul, b_lt, b_le, b_gt, b_ge, b_eq, b_ne, u_not, e1_4, e1_12, e1_13, e1_14]
        apply hK
        clear hK K
        simp only [andThen, leaves]
        refine DWp.ret ?_
        obtain rfl := Option.some.inj hF
        exact ⟨by simp, [w1_0, (Value.bool true)], by simp [e1_4, e1_12, e1_13, e1_14, ((S87.sl (k := 0) rfl).tup)], A88, w1_0, rfl, S87.pick [0] (by decide) rfl⟩
def F_laws_eqStringS_L1 (fu : Nat) (k1_0 : List ByteArray) (k1_1 : List ByteArray) : Nat → Int → Option (LR (Bool) (Int))
  | 0, _ => none
  | n + 1, y1_5 =>
    bif (ilt y1_5 (llen k1_0)) then
      gd (inL k1_0 y1_5) (
      gd (inL k1_1 y1_5) (
      bif (sne' (gat (ByteArray.mk #[]) k1_0 y1_5) (gat (ByteArray.mk #[]) k1_1 y1_5)) then
        some (.ret false)
      else
        F_laws_eqStringS_L1 fu k1_0 k1_1 n (iadd .i64 y1_5 1)))
    else
      some (.brk y1_5)
def F_laws_eqStringS (fu : Nat) (x0 : List ByteArray) (x1 : List ByteArray) : Option (Bool) :=
  bif (ine (llen x0) (llen x1)) then
    some false
  else
    bd (F_laws_eqStringS_L1 fu x0 x1 fu 0) fun s1 =>
    lr s1 fun s1 =>
    some true
theorem F_laws_eqStringS_w {fu : Nat} {H : AH} {v0 : Value} {v1 : Value} {x0 : List ByteArray} {x1 : List ByteArray} {r : (Bool)} (hx0 : Sl H v0 (strs x0)) (hx1 : Sl H v1 (strs x1)) (hF : F_laws_eqStringS fu x0 x1 = some r) :
    ACallT Try.prog 65 [v0, v1] H (fun u G => AgB (Fr H) H G ∧ u = (Value.bool r) ∧ Sep G (Fr H) []) := by
  refine ACallT.of_body (nt := 26) (rs := [.tmp 4]) Try.func65 rfl rfl rfl rfl ?_
  have A0 : AgB (Fr H) H H := .refl _ _
  have S0 : Sep H (Fr H) [] := .nil
  have hB := Fr.up H
  unfold F_laws_eqStringS at hF
  refine DWp.seq ?_
  refine DWp.region fun K hK => ?_
  simp [-aBin', -aBin, -aBinI, -aUn, -aNil, -flatV, n_fn, b_add, b_sub, b_mul, b_lt, b_le, b_gt, b_ge, b_eq, b_ne, u_not]
  apply hK
  clear hK K
  simp only [andThen, leaves]
  refine DWp.seq ?_
  refine DWp.seq ?_
  have q1 := lenG (P := Try.prog) (hx0.agree A0.agree) el_59
  have q2 := lenG (P := Try.prog) (hx1.agree A0.agree) el_59
  refine DWp.region fun K hK => ?_
  simp [-aBin', -aBin, -aBinI, -aUn, -aNil, -flatV, n_fn, b_add, b_sub, b_mul, b_lt, b_le, b_gt, b_ge, b_eq, b_ne, u_not, q1, q2]
  apply hK
  clear hK K
  simp only [andThen, leaves]
  refine DWp.cond' (t := (ine (llen x0) (llen x1))) (by simp []) (fun hb3 => ?_) (fun hb3 => ?_)
  · replace hF := cd_t hb3 hF
    refine DWp.seq ?_
    refine DWp.region fun K hK => ?_
    simp [-aBin', -aBin, -aBinI, -aUn, -aNil, -flatV, n_fn, b_add, b_sub, b_mul, b_lt, b_le, b_gt, b_ge, b_eq, b_ne, u_not]
    apply hK
    clear hK K
    simp only [andThen, leaves]
    refine DWp.ret ?_
    simp only [andThen, leaves]
    obtain rfl := Option.some.inj hF
    exact ⟨by simp, [(Value.bool false)], by simp [], A0, rfl, S0.pick [] (by decide) rfl⟩
  · replace hF := cd_f hb3 hF
    refine DWp.skip ?_
    simp only [andThen, leaves]
    refine DWp.seq ?_
    refine DWp.seq ?_
    refine DWp.region fun K hK => ?_
    simp [-aBin', -aBin, -aBinI, -aUn, -aNil, -flatV, n_fn, b_add, b_sub, b_mul, b_lt, b_le, b_gt, b_ge, b_eq, b_ne, u_not]
    apply hK
    clear hK K
    simp only [andThen, leaves]
    refine DWp.block ?_
    obtain ⟨s4, hL5, hF⟩ := bd_some hF
    have S6 := S0.pick [] (by decide) rfl
    refine DWp.loop (fun n env G => ∃ y1_5 : Int, F_laws_eqStringS_L1 fu x0 x1 n y1_5 = some s4 ∧ Sep G (Fr H) [] ∧ AgB (Fr H) H G ∧ env 0 = some v0 ∧ env 1 = some v1 ∧ env 5 = some (Value.int .i64 y1_5)) fu ⟨0, hL5, S6, A0, by simp [], by simp [], by simp []⟩ ?_
    rintro n1 env1 G1_ ⟨y1_5, hL5, S1_, A1_, e1_0, e1_1, e1_5⟩
    cases n1 with
    | zero => cases hL5
    | succ n1 =>
      simp only [F_laws_eqStringS_L1] at hL5
      refine DWp.seq ?_
      refine DWp.seq ?_
      have q7 := lenG (P := Try.prog) (hx0.agree A1_.agree) el_59
      refine DWp.region fun K hK => ?_
      simp [-aBin', -aBin, -aBinI, -aUn, -aNil, -flatV, n_fn, b_add, b_sub, b_mul, b_lt, b_le, b_gt, b_ge, b_eq, b_ne, u_not, e1_0, e1_1, e1_5, q7]
      apply hK
      clear hK K
      simp only [andThen, leaves]
      refine DWp.cond' (t := (ilt y1_5 (llen x0))) (by simp [e1_0, e1_1, e1_5]) (fun hb8 => ?_) (fun hb8 => ?_)
      · replace hL5 := cd_t hb8 hL5
        refine DWp.skip ?_
        simp only [andThen, leaves]
        refine DWp.seq ?_
        refine DWp.block ?_
        refine DWp.seq ?_
        obtain ⟨g9, hL5⟩ := gd_some hL5
        have q10 := idxG (P := Try.prog) (kk := .i64) (hx0.agree A1_.agree) el_59 sz_9 g9
        have q11 := loadG (P := Try.prog) (hx0.agree A1_.agree) sz_9 ag_9 g9 (ByteArray.mk #[])
        obtain ⟨g12, hL5⟩ := gd_some hL5
        have q13 := idxG (P := Try.prog) (kk := .i64) (hx1.agree A1_.agree) el_59 sz_9 g12
        have q14 := loadG (P := Try.prog) (hx1.agree A1_.agree) sz_9 ag_9 g12 (ByteArray.mk #[])
        refine DWp.drawn (B := [0, 0, 3, 7, 0, 0, 48, 112, 255]) 9 mixed (by kernel_rfl) (by decide) fun K hK => ?_
        simp [-aBin', -aBin, -aBinI, -aUn, -aNil, -flatV, n_fn, b_add, b_sub, b_mul, b_lt, b_le, b_gt, b_ge, b_eq, b_ne, u_not, e1_0, e1_1, e1_5, q10, q11, q13, q14, s_ne]
        apply hK
        clear hK K
        simp only [andThen, leaves]
        refine DWp.cond' (t := (sne' (gat (ByteArray.mk #[]) x0 y1_5) (gat (ByteArray.mk #[]) x1 y1_5))) (by simp [e1_0, e1_1, e1_5]) (fun hb15 => ?_) (fun hb15 => ?_)
        · replace hL5 := cd_t hb15 hL5
          refine DWp.seq ?_
          refine DWp.region fun K hK => ?_
          simp [-aBin', -aBin, -aBinI, -aUn, -aNil, -flatV, n_fn, b_add, b_sub, b_mul, b_lt, b_le, b_gt, b_ge, b_eq, b_ne, u_not, e1_0, e1_1, e1_5]
          apply hK
          clear hK K
          simp only [andThen, leaves]
          refine DWp.ret ?_
          simp only [andThen, leaves]
          obtain rfl := Option.some.inj hL5
          simp only [lr] at hF
          obtain rfl := Option.some.inj hF
          exact ⟨by simp, [(Value.bool false)], by simp [e1_0, e1_1, e1_5], A1_, rfl, S1_.pick [] (by decide) rfl⟩
        · replace hL5 := cd_f hb15 hL5
          refine DWp.skip ?_
          simp only [andThen, leaves]
          refine DWp.region fun K hK => ?_
          simp [-aBin', -aBin, -aBinI, -aUn, -aNil, -flatV, n_fn, b_add, b_sub, b_mul, b_lt, b_le, b_gt, b_ge, b_eq, b_ne, u_not, e1_0, e1_1, e1_5]
          apply hK
          clear hK K
          simp only [andThen, leaves]
          have S16 := S1_.pick [] (by decide) rfl
          exact ⟨n1, Nat.lt_succ_self _, (iadd .i64 y1_5 1), hL5, S16, A1_, by simp [e1_0, e1_1, e1_5], by simp [e1_0, e1_1, e1_5], by simp [e1_0, e1_1, e1_5]⟩
      · replace hL5 := cd_f hb8 hL5
        refine DWp.exit ?_
        simp only [andThen, leaves, if_true, if_false, reduceIte, Nat.reduceEqDiff]
        obtain rfl := Option.some.inj hL5
        simp only [lr] at hF
        refine DWp.seq ?_
        refine DWp.region fun K hK => ?_
        simp [-aBin', -aBin, -aBinI, -aUn, -aNil, -flatV, n_fn, b_add, b_sub, b_mul, b_lt, b_le, b_gt, b_ge, b_eq, b_ne, u_not, e1_0, e1_1, e1_5]
        apply hK
        clear hK K
        simp only [andThen, leaves]
        refine DWp.ret ?_
        obtain rfl := Option.some.inj hF
        exact ⟨by simp, [(Value.bool true)], by simp [e1_0, e1_1, e1_5], A1_, rfl, S1_.pick [] (by decide) rfl⟩
def F_laws_markText_L1 (fu : Nat)  : Nat → Int → ByteArray → Option (Int × ByteArray)
  | 0, _, _ => none
  | n + 1, y1_0, y1_3 =>
    bif (ilt 0 y1_0) then
      gd ((bstr [(iwr .u8 (iadd .i64 48 (irem y1_0 10)))]).size + y1_3.size ≤ 9223372036854775807) (
      F_laws_markText_L1 fu n (iquo .i64 y1_0 10) (sapp (bstr [(iwr .u8 (iadd .i64 48 (irem y1_0 10)))]) y1_3))
    else
      some (y1_0, y1_3)
def F_laws_markText (fu : Nat) (x0 : Int) : Option (ByteArray) :=
  bif (ile x0 0) then
    some (ByteArray.mk #[109, 48])
  else
    bd (F_laws_markText_L1 fu fu x0 (ByteArray.mk #[])) fun s1 =>
    gd ((ByteArray.mk #[109]).size + s1.2.size ≤ 9223372036854775807) (
    some (sapp (ByteArray.mk #[109]) s1.2))
theorem F_laws_markText_w {fu : Nat} {H : AH}  {x0 : Int} {r : (ByteArray)}  (hF : F_laws_markText fu x0 = some r) :
    ACallT Try.prog 123 [(Value.int .i64 x0)] H (fun u G => AgB (Fr H) H G ∧ u = (Value.string r) ∧ Sep G (Fr H) []) := by
  refine ACallT.of_body (nt := 20) (rs := [.tmp 2]) Try.func123 rfl rfl rfl rfl ?_
  have A0 : AgB (Fr H) H H := .refl _ _
  have S0 : Sep H (Fr H) [] := .nil
  have hB := Fr.up H
  unfold F_laws_markText at hF
  refine DWp.seq ?_
  refine DWp.region fun K hK => ?_
  simp [-aBin', -aBin, -aBinI, -aUn, -aNil, -flatV, n_fn, b_add, b_sub, b_mul, b_lt, b_le, b_gt, b_ge, b_eq, b_ne, u_not]
  apply hK
  clear hK K
  simp only [andThen, leaves]
  refine DWp.seq ?_
  refine DWp.seq ?_
  refine DWp.region fun K hK => ?_
  simp [-aBin', -aBin, -aBinI, -aUn, -aNil, -flatV, n_fn, b_add, b_sub, b_mul, b_lt, b_le, b_gt, b_ge, b_eq, b_ne, u_not]
  apply hK
  clear hK K
  simp only [andThen, leaves]
  refine DWp.cond' (t := (ile x0 0)) (by simp []) (fun hb1 => ?_) (fun hb1 => ?_)
  · replace hF := cd_t hb1 hF
    refine DWp.seq ?_
    refine DWp.region fun K hK => ?_
    simp [-aBin', -aBin, -aBinI, -aUn, -aNil, -flatV, n_fn, b_add, b_sub, b_mul, b_lt, b_le, b_gt, b_ge, b_eq, b_ne, u_not]
    apply hK
    clear hK K
    simp only [andThen, leaves]
    refine DWp.ret ?_
    simp only [andThen, leaves]
    obtain rfl := Option.some.inj hF
    exact ⟨by simp, [(Value.string (ByteArray.mk #[109, 48]))], by simp [], A0, rfl, S0.pick [] (by decide) rfl⟩
  · replace hF := cd_f hb1 hF
    refine DWp.skip ?_
    simp only [andThen, leaves]
    refine DWp.seq ?_
    refine DWp.region fun K hK => ?_
    simp [-aBin', -aBin, -aBinI, -aUn, -aNil, -flatV, n_fn, b_add, b_sub, b_mul, b_lt, b_le, b_gt, b_ge, b_eq, b_ne, u_not]
    apply hK
    clear hK K
    simp only [andThen, leaves]
    refine DWp.seq ?_
    refine DWp.block ?_
    obtain ⟨s2, hL3, hF⟩ := bd_some hF
    have S4 := S0.pick [] (by decide) rfl
    refine DWp.loop (fun n env G => ∃ y1_0 : Int, ∃ y1_3 : ByteArray, F_laws_markText_L1 fu n y1_0 y1_3 = some s2 ∧ Sep G (Fr H) [] ∧ AgB (Fr H) H G ∧ env 0 = some (Value.int .i64 y1_0) ∧ env 3 = some (Value.string y1_3)) fu ⟨x0, (ByteArray.mk #[]), hL3, S4, A0, by simp [], by simp []⟩ ?_
    rintro n1 env1 G1_ ⟨y1_0, y1_3, hL3, S1_, A1_, e1_0, e1_3⟩
    cases n1 with
    | zero => cases hL3
    | succ n1 =>
      simp only [F_laws_markText_L1] at hL3
      refine DWp.seq ?_
      refine DWp.seq ?_
      refine DWp.region fun K hK => ?_
      simp [-aBin', -aBin, -aBinI, -aUn, -aNil, -flatV, n_fn, b_add, b_sub, b_mul, b_lt, b_le, b_gt, b_ge, b_eq, b_ne, u_not, e1_0, e1_3]
      apply hK
      clear hK K
      simp only [andThen, leaves]
      refine DWp.cond' (t := (ilt 0 y1_0)) (by simp [e1_0, e1_3]) (fun hb5 => ?_) (fun hb5 => ?_)
      · replace hL3 := cd_t hb5 hL3
        refine DWp.skip ?_
        simp only [andThen, leaves]
        refine DWp.block ?_
        refine DWp.seq ?_
        have g6 : (10 : Int) ≠ 0 := by decide
        obtain ⟨v7, G8, q9, S10, a12, _, _⟩ := S1_.lit1 (P := Try.prog) (t := 64) (hB.le A1_.1) el_64 ei_5 rfl (Value.int .u8 (iwr .u8 (iadd .i64 48 (irem y1_0 10)))) rfl rfl
        have A11 := A1_.ext (hB.le A1_.1) a12
        replace S10 : Sep G8 (Fr H) [flat1 v7 5 (u8s [(iwr .u8 (iadd .i64 48 (irem y1_0 10)))])] := S10
        have q14 := c_bytes (P := Try.prog) us_64 un_5 un_9 (S10.sl1 (k := 0) rfl)
        obtain ⟨g15, hL3⟩ := gd_some hL3
        refine DWp.region fun K hK => ?_
        simp [-aBin', -aBin, -aBinI, -aUn, -aNil, -flatV, n_fn, b_add, b_sub, b_mul, b_lt, b_le, b_gt, b_ge, b_eq, b_ne, u_not, e1_0, e1_3, b_rem g6, c_int un_3 un_5, q9, a12.to_pre, q14, s_add g15]
        apply hK
        clear hK K
        simp only [andThen, leaves]
        have g16 : (10 : Int) ≠ 0 := by decide
        refine DWp.region fun K hK => ?_
        simp [-aBin', -aBin, -aBinI, -aUn, -aNil, -flatV, n_fn, b_add, b_sub, b_mul, b_lt, b_le, b_gt, b_ge, b_eq, b_ne, u_not, e1_0, e1_3, b_quo g16]
        apply hK
        clear hK K
        simp only [andThen, leaves]
        have S17 := S10.pick [] (by decide) rfl
        exact ⟨n1, Nat.lt_succ_self _, (iquo .i64 y1_0 10), (sapp (bstr [(iwr .u8 (iadd .i64 48 (irem y1_0 10)))]) y1_3), hL3, S17, A11, by simp [e1_0, e1_3], by simp [e1_0, e1_3]⟩
      · replace hL3 := cd_f hb5 hL3
        refine DWp.exit ?_
        simp only [andThen, leaves, if_true, if_false, reduceIte, Nat.reduceEqDiff]
        obtain rfl := Option.some.inj hL3
        try dsimp only at hF
        refine DWp.seq ?_
        obtain ⟨g18, hF⟩ := gd_some hF
        refine DWp.region fun K hK => ?_
        simp [-aBin', -aBin, -aBinI, -aUn, -aNil, -flatV, n_fn, b_add, b_sub, b_mul, b_lt, b_le, b_gt, b_ge, b_eq, b_ne, u_not, e1_0, e1_3, s_add g18]
        apply hK
        clear hK K
        simp only [andThen, leaves]
        refine DWp.ret ?_
        obtain rfl := Option.some.inj hF
        exact ⟨by simp, [(Value.string (sapp (ByteArray.mk #[109]) y1_3))], by simp [e1_0, e1_3], A1_, rfl, S1_.pick [] (by decide) rfl⟩
def F_laws_markStringS_L1 (fu : Nat)  : Nat → List ByteArray → Int → Int → Option (List ByteArray × Int × Int)
  | 0, _, _, _ => none
  | n + 1, l1_0, y1_1, y1_5 =>
    bif (ilt y1_5 (llen l1_0)) then
      bd (F_laws_markText fu y1_1) fun r1 =>
      gd (inL l1_0 y1_5) (
      F_laws_markStringS_L1 fu n (lset l1_0 y1_5 r1) (iadd .i64 y1_1 1) (iadd .i64 y1_5 1))
    else
      some (l1_0, y1_1, y1_5)
def F_laws_markStringS (fu : Nat) (x0 : List ByteArray) (x1 : Int) : Option (Int × List ByteArray) :=
  bd (F_laws_markStringS_L1 fu fu x0 x1 0) fun s1 =>
  some (s1.2.1, s1.1)
theorem F_laws_markStringS_w {fu : Nat} {H : AH} {B : Nat → Prop} {v0 : Value} {x0 : List ByteArray} {x1 : Int} {r : (Int × List ByteArray)} (hB : Up B H.length) (S0 : Sep H B [flat v0 9 (strs x0)]) (hF : F_laws_markStringS fu x0 x1 = some r) :
    ACallT Try.prog 66 [v0, (Value.int .i64 x1)] H (fun u G => AgB B H G ∧ u = (Value.int .i64 r.1) ∧ Sep G B [flat v0 9 (strs r.2)]) := by
  refine ACallT.of_body (nt := 20) (rs := [.tmp 4]) Try.func66 rfl rfl rfl rfl ?_
  have A0 : AgB B H H := .refl _ _
  unfold F_laws_markStringS at hF
  refine DWp.seq ?_
  refine DWp.region fun K hK => ?_
  simp [-aBin', -aBin, -aBinI, -aUn, -aNil, -flatV, n_fn, b_add, b_sub, b_mul, b_lt, b_le, b_gt, b_ge, b_eq, b_ne, u_not]
  apply hK
  clear hK K
  simp only [andThen, leaves]
  refine DWp.seq ?_
  refine DWp.seq ?_
  refine DWp.region fun K hK => ?_
  simp [-aBin', -aBin, -aBinI, -aUn, -aNil, -flatV, n_fn, b_add, b_sub, b_mul, b_lt, b_le, b_gt, b_ge, b_eq, b_ne, u_not]
  apply hK
  clear hK K
  simp only [andThen, leaves]
  refine DWp.block ?_
  obtain ⟨s1, hL2, hF⟩ := bd_some hF
  have S3 := S0.pick [0] (by decide) rfl
  refine DWp.loop (fun n env G => ∃ l1_0 : List ByteArray, ∃ y1_1 : Int, ∃ y1_5 : Int, F_laws_markStringS_L1 fu n l1_0 y1_1 y1_5 = some s1 ∧ Sep G B [flat v0 9 (strs l1_0)] ∧ AgB B H G ∧ env 0 = some v0 ∧ env 1 = some (Value.int .i64 y1_1) ∧ env 5 = some (Value.int .i64 y1_5)) fu ⟨x0, x1, 0, hL2, S3, A0, by simp [], by simp [], by simp []⟩ ?_
  rintro n1 env1 G1_ ⟨l1_0, y1_1, y1_5, hL2, S1_, A1_, e1_0, e1_1, e1_5⟩
  cases n1 with
  | zero => cases hL2
  | succ n1 =>
    simp only [F_laws_markStringS_L1] at hL2
    refine DWp.seq ?_
    refine DWp.seq ?_
    have q4 := lenG (P := Try.prog) (S1_.sl (k := 0) rfl) el_59
    refine DWp.region fun K hK => ?_
    simp [-aBin', -aBin, -aBinI, -aUn, -aNil, -flatV, n_fn, b_add, b_sub, b_mul, b_lt, b_le, b_gt, b_ge, b_eq, b_ne, u_not, e1_0, e1_1, e1_5, q4]
    apply hK
    clear hK K
    simp only [andThen, leaves]
    refine DWp.cond' (t := (ilt y1_5 (llen l1_0))) (by simp [e1_0, e1_1, e1_5]) (fun hb5 => ?_) (fun hb5 => ?_)
    · replace hL2 := cd_t hb5 hL2
      refine DWp.skip ?_
      simp only [andThen, leaves]
      refine DWp.seq ?_
      refine DWp.block ?_
      refine DWp.seq ?_
      obtain ⟨r1, hc6, hL2⟩ := bd_some hL2
      refine DWp.region fun K hK => ?_
      simp [-aBin', -aBin, -aBinI, -aUn, -aNil, -flatV, n_fn, b_add, b_sub, b_mul, b_lt, b_le, b_gt, b_ge, b_eq, b_ne, u_not, e1_0, e1_1, e1_5]
      refine CallD.t (F_laws_markText_w (fu := fu)  hc6) ?_
      rintro _ G8 ⟨a11, rfl, S12⟩
      have A10 := A1_.ext (hB.le A1_.1) a11.agree
      have S9 : Sep G8 B [flat v0 9 (strs l1_0)] := S1_.app a11.agree S12 (fun _ h => h) (hB.le A1_.1)
      obtain ⟨g13, hL2⟩ := gd_some hL2
      have q14 := idxG (P := Try.prog) (kk := .i64) (S9.sl (k := 0) rfl) el_59 sz_9 g13
      obtain ⟨G15, q16, S17, a19⟩ := S9.storeG (f := Value.string) (P := Try.prog) (k := 0) (x := r1) rfl (hB.le A10.1) sz_9 g13 rfl rfl
      have A18 := A10.trans a19
      replace S17 : Sep G15 B [flat v0 9 (strs (lset l1_0 y1_5 r1))] := S17
      simp [-aBin', -aBin, -aBinI, -aUn, -aNil, -flatV, n_fn, b_add, b_sub, b_mul, b_lt, b_le, b_gt, b_ge, b_eq, b_ne, u_not, e1_0, e1_1, e1_5, a11.pre, q14, q16]
      apply hK
      clear hK K
      simp only [andThen, leaves]
      refine DWp.region fun K hK => ?_
      simp [-aBin', -aBin, -aBinI, -aUn, -aNil, -flatV, n_fn, b_add, b_sub, b_mul, b_lt, b_le, b_gt, b_ge, b_eq, b_ne, u_not, e1_0, e1_1, e1_5]
      apply hK
      clear hK K
      simp only [andThen, leaves]
      refine DWp.region fun K hK => ?_
      simp [-aBin', -aBin, -aBinI, -aUn, -aNil, -flatV, n_fn, b_add, b_sub, b_mul, b_lt, b_le, b_gt, b_ge, b_eq, b_ne, u_not, e1_0, e1_1, e1_5]
      apply hK
      clear hK K
      simp only [andThen, leaves]
      have S20 := S17.pick [0] (by decide) rfl
      exact ⟨n1, Nat.lt_succ_self _, (lset l1_0 y1_5 r1), (iadd .i64 y1_1 1), (iadd .i64 y1_5 1), hL2, S20, A18, by simp [e1_0, e1_1, e1_5], by simp [e1_0, e1_1, e1_5], by simp [e1_0, e1_1, e1_5]⟩
    · replace hL2 := cd_f hb5 hL2
      refine DWp.exit ?_
      simp only [andThen, leaves, if_true, if_false, reduceIte, Nat.reduceEqDiff]
      obtain rfl := Option.some.inj hL2
      try dsimp only at hF
      refine DWp.seq ?_
      refine DWp.region fun K hK => ?_
      simp [-aBin', -aBin, -aBinI, -aUn, -aNil, -flatV, n_fn, b_add, b_sub, b_mul, b_lt, b_le, b_gt, b_ge, b_eq, b_ne, u_not, e1_0, e1_1, e1_5]
      apply hK
      clear hK K
      simp only [andThen, leaves]
      refine DWp.ret ?_
      obtain rfl := Option.some.inj hF
      exact ⟨by simp, [(Value.int .i64 y1_1)], by simp [e1_0, e1_1, e1_5], A1_, rfl, S1_.pick [0] (by decide) rfl⟩
def F_laws_heldStringS_L1 (fu : Nat) (k1_0 : List ByteArray) : Nat → Int → Int → Option (LR (Int) (Int × Int))
  | 0, _, _ => none
  | n + 1, y1_1, y1_5 =>
    bif (ilt y1_5 (llen k1_0)) then
      gd (inL k1_0 y1_5) (
      bd (F_laws_markText fu y1_1) fun r1 =>
      bif (sne' (gat (ByteArray.mk #[]) k1_0 y1_5) r1) then
        some (.ret (-1))
      else
        F_laws_heldStringS_L1 fu k1_0 n (iadd .i64 y1_1 1) (iadd .i64 y1_5 1))
    else
      some (.brk (y1_1, y1_5))
def F_laws_heldStringS (fu : Nat) (x0 : List ByteArray) (x1 : Int) : Option (Int) :=
  bd (F_laws_heldStringS_L1 fu x0 fu x1 0) fun s1 =>
  lr s1 fun s1 =>
  some s1.1
theorem F_laws_heldStringS_w {fu : Nat} {H : AH} {v0 : Value} {x0 : List ByteArray} {x1 : Int} {r : (Int)} (hx0 : Sl H v0 (strs x0)) (hF : F_laws_heldStringS fu x0 x1 = some r) :
    ACallT Try.prog 67 [v0, (Value.int .i64 x1)] H (fun u G => AgB (Fr H) H G ∧ u = (Value.int .i64 r) ∧ Sep G (Fr H) []) := by
  refine ACallT.of_body (nt := 22) (rs := [.tmp 4]) Try.func67 rfl rfl rfl rfl ?_
  have A0 : AgB (Fr H) H H := .refl _ _
  have S0 : Sep H (Fr H) [] := .nil
  have hB := Fr.up H
  unfold F_laws_heldStringS at hF
  refine DWp.seq ?_
  refine DWp.region fun K hK => ?_
  simp [-aBin', -aBin, -aBinI, -aUn, -aNil, -flatV, n_fn, b_add, b_sub, b_mul, b_lt, b_le, b_gt, b_ge, b_eq, b_ne, u_not]
  apply hK
  clear hK K
  simp only [andThen, leaves]
  refine DWp.seq ?_
  refine DWp.seq ?_
  refine DWp.region fun K hK => ?_
  simp [-aBin', -aBin, -aBinI, -aUn, -aNil, -flatV, n_fn, b_add, b_sub, b_mul, b_lt, b_le, b_gt, b_ge, b_eq, b_ne, u_not]
  apply hK
  clear hK K
  simp only [andThen, leaves]
  refine DWp.block ?_
  obtain ⟨s1, hL2, hF⟩ := bd_some hF
  have S3 := S0.pick [] (by decide) rfl
  refine DWp.loop (fun n env G => ∃ y1_1 : Int, ∃ y1_5 : Int, F_laws_heldStringS_L1 fu x0 n y1_1 y1_5 = some s1 ∧ Sep G (Fr H) [] ∧ AgB (Fr H) H G ∧ env 0 = some v0 ∧ env 1 = some (Value.int .i64 y1_1) ∧ env 5 = some (Value.int .i64 y1_5)) fu ⟨x1, 0, hL2, S3, A0, by simp [], by simp [], by simp []⟩ ?_
  rintro n1 env1 G1_ ⟨y1_1, y1_5, hL2, S1_, A1_, e1_0, e1_1, e1_5⟩
  cases n1 with
  | zero => cases hL2
  | succ n1 =>
    simp only [F_laws_heldStringS_L1] at hL2
    refine DWp.seq ?_
    refine DWp.seq ?_
    have q4 := lenG (P := Try.prog) (hx0.agree A1_.agree) el_59
    refine DWp.region fun K hK => ?_
    simp [-aBin', -aBin, -aBinI, -aUn, -aNil, -flatV, n_fn, b_add, b_sub, b_mul, b_lt, b_le, b_gt, b_ge, b_eq, b_ne, u_not, e1_0, e1_1, e1_5, q4]
    apply hK
    clear hK K
    simp only [andThen, leaves]
    refine DWp.cond' (t := (ilt y1_5 (llen x0))) (by simp [e1_0, e1_1, e1_5]) (fun hb5 => ?_) (fun hb5 => ?_)
    · replace hL2 := cd_t hb5 hL2
      refine DWp.skip ?_
      simp only [andThen, leaves]
      refine DWp.seq ?_
      refine DWp.block ?_
      refine DWp.seq ?_
      refine DWp.seq ?_
      obtain ⟨g6, hL2⟩ := gd_some hL2
      have q7 := idxG (P := Try.prog) (kk := .i64) (hx0.agree A1_.agree) el_59 sz_9 g6
      have q8 := loadG (P := Try.prog) (hx0.agree A1_.agree) sz_9 ag_9 g6 (ByteArray.mk #[])
      obtain ⟨r1, hc9, hL2⟩ := bd_some hL2
      refine DWp.drawn (B := [0, 0, 3, 7, 0, 16, 63]) 7 mixed (by kernel_rfl) (by decide) fun K hK => ?_
      simp [-aBin', -aBin, -aBinI, -aUn, -aNil, -flatV, n_fn, b_add, b_sub, b_mul, b_lt, b_le, b_gt, b_ge, b_eq, b_ne, u_not, e1_0, e1_1, e1_5, q7, q8]
      refine CallD.t (F_laws_markText_w (fu := fu)  hc9) ?_
      rintro _ G11 ⟨a14, rfl, S15⟩
      have A13 := A1_.ext (hB.le A1_.1) a14.agree
      have S12 : Sep G11 (Fr H) [] := S1_.app a14.agree S15 (fun _ h => h) (hB.le A1_.1)
      simp [-aBin', -aBin, -aBinI, -aUn, -aNil, -flatV, n_fn, b_add, b_sub, b_mul, b_lt, b_le, b_gt, b_ge, b_eq, b_ne, u_not, e1_0, e1_1, e1_5, q7, q8, a14.pre, s_ne]
      apply hK
      clear hK K
      simp only [andThen, leaves]
      refine DWp.cond' (t := (sne' (gat (ByteArray.mk #[]) x0 y1_5) r1)) (by simp [e1_0, e1_1, e1_5]) (fun hb16 => ?_) (fun hb16 => ?_)
      · replace hL2 := cd_t hb16 hL2
        refine DWp.seq ?_
        refine DWp.region fun K hK => ?_
        simp [-aBin', -aBin, -aBinI, -aUn, -aNil, -flatV, n_fn, b_add, b_sub, b_mul, b_lt, b_le, b_gt, b_ge, b_eq, b_ne, u_not, e1_0, e1_1, e1_5]
        apply hK
        clear hK K
        simp only [andThen, leaves]
        refine DWp.ret ?_
        simp only [andThen, leaves]
        obtain rfl := Option.some.inj hL2
        simp only [lr] at hF
        obtain rfl := Option.some.inj hF
        exact ⟨by simp, [(Value.int .i64 (-1))], by simp [e1_0, e1_1, e1_5], A13, rfl, S12.pick [] (by decide) rfl⟩
      · replace hL2 := cd_f hb16 hL2
        refine DWp.skip ?_
        simp only [andThen, leaves]
        refine DWp.region fun K hK => ?_
        simp [-aBin', -aBin, -aBinI, -aUn, -aNil, -flatV, n_fn, b_add, b_sub, b_mul, b_lt, b_le, b_gt, b_ge, b_eq, b_ne, u_not, e1_0, e1_1, e1_5]
        apply hK
        clear hK K
        simp only [andThen, leaves]
        refine DWp.region fun K hK => ?_
        simp [-aBin', -aBin, -aBinI, -aUn, -aNil, -flatV, n_fn, b_add, b_sub, b_mul, b_lt, b_le, b_gt, b_ge, b_eq, b_ne, u_not, e1_0, e1_1, e1_5]
        apply hK
        clear hK K
        simp only [andThen, leaves]
        have S17 := S12.pick [] (by decide) rfl
        exact ⟨n1, Nat.lt_succ_self _, (iadd .i64 y1_1 1), (iadd .i64 y1_5 1), hL2, S17, A13, by simp [e1_0, e1_1, e1_5], by simp [e1_0, e1_1, e1_5], by simp [e1_0, e1_1, e1_5]⟩
    · replace hL2 := cd_f hb5 hL2
      refine DWp.exit ?_
      simp only [andThen, leaves, if_true, if_false, reduceIte, Nat.reduceEqDiff]
      obtain rfl := Option.some.inj hL2
      simp only [lr] at hF
      refine DWp.seq ?_
      refine DWp.region fun K hK => ?_
      simp [-aBin', -aBin, -aBinI, -aUn, -aNil, -flatV, n_fn, b_add, b_sub, b_mul, b_lt, b_le, b_gt, b_ge, b_eq, b_ne, u_not, e1_0, e1_1, e1_5]
      apply hK
      clear hK K
      simp only [andThen, leaves]
      refine DWp.ret ?_
      obtain rfl := Option.some.inj hF
      exact ⟨by simp, [(Value.int .i64 y1_1)], by simp [e1_0, e1_1, e1_5], A1_, rfl, S1_.pick [] (by decide) rfl⟩
def F_laws_FnExactPieceTexts (fu : Nat) (x0_0 : List Int) (x0_1 : List Int) : Option (Bool) :=
  bd (F_laws_szMeander fu x0_0 x0_1 1048576) fun r1 =>
  bif (ilt r1 0) then
    some true
  else
    bd (F_laws_toMeander fu x0_0 x0_1) fun r2 =>
    bd (F_spec_PieceTexts fu r2.1 r2.2) fun r3 =>
    bd (F_laws_toMeander fu x0_0 x0_1) fun r4 =>
    bd (F_impl_PieceTexts fu r4.1 r4.2) fun r5 =>
    bd (
      bd (F_laws_eqStringS fu r5.1 r3.1) fun r6 =>
      bif (bnot r6) then
        some true
      else
        some (bne' r5.2 r3.2)) fun s60 =>
    bif s60 then
      some false
    else
      bd (F_laws_toMeander fu x0_0 x0_1) fun r7 =>
      bd (F_laws_eqMeander fu r4.1 r4.2 r7.1 r7.2) fun r8 =>
      bif (bnot r8) then
        some false
      else
        bd (F_laws_markMeander fu r4.1 r4.2 1) fun r9 =>
        bd (
          bif (ilt r9.1 0) then
            some true
          else
            bd (F_laws_eqStringS fu r5.1 r3.1) fun r10 =>
            bif (bnot r10) then
              some true
            else
              some (bne' r5.2 r3.2)) fun s107 =>
        bif s107 then
          some false
        else
          bd (F_laws_markStringS fu r5.1 1) fun r11 =>
          bd (F_laws_heldStringS fu r11.2 1) fun r12 =>
          bif (ilt r12 0) then
            some false
          else
            bif (ine r12 r11.1) then
              some false
            else
              bd (F_laws_toMeander fu x0_0 x0_1) fun r13 =>
              bd (F_impl_PieceTexts fu r13.1 r13.2) fun r14 =>
              bd (
                bd (F_laws_eqStringS fu r14.1 r3.1) fun r15 =>
                bif (bnot r15) then
                  some true
                else
                  some (bne' r14.2 r3.2)) fun s162 =>
              bif s162 then
                some false
              else
                bd (F_laws_heldStringS fu r11.2 1) fun r16 =>
                bif (ilt r16 0) then
                  some false
                else
                  bif (ine r16 r11.1) then
                    some false
                  else
                    some true
theorem F_laws_FnExactPieceTexts_w {fu : Nat} {H : AH} {v0_0 : Value} {v0_1 : Value} {x0_0 : List Int} {x0_1 : List Int} {r : (Bool)} (hx0_0 : Sl H v0_0 (ints x0_0)) (hx0_1 : Sl H v0_1 (ints x0_1)) (hF : F_laws_FnExactPieceTexts fu x0_0 x0_1 = some r) :
    ACallT Try.prog 17 [(Value.agg #[v0_0, v0_1])] H (fun u G => AgB (Fr H) H G ∧ u = (Value.bool r) ∧ Sep G (Fr H) []) := by
  refine ACallT.of_body (nt := 96) (rs := [.tmp 2]) Try.func17 rfl rfl rfl rfl ?_
  have A0 : AgB (Fr H) H H := .refl _ _
  have S0 : Sep H (Fr H) [] := .nil
  have hB := Fr.up H
  unfold F_laws_FnExactPieceTexts at hF
  refine DWp.seq ?_
  obtain ⟨G2, p4, q5, q6, a7, S1⟩ := S0.boxT (hB.le A0.1) 24 [v0_0, v0_1]
  have A3 := A0.ext (hB.le A0.1) a7
  replace S1 : Sep G2 (Fr H) [AL.box p4 [v0_0, v0_1]] := S1
  refine DWp.region fun K hK => ?_
  simp [-aBin', -aBin, -aBinI, -aUn, -aNil, -flatV, n_fn, b_add, b_sub, b_mul, b_lt, b_le, b_gt, b_ge, b_eq, b_ne, u_not, q5, q6, a7.to_pre, cells_agg]
  apply hK
  clear hK K
  simp only [andThen, leaves]
  refine DWp.seq ?_
  refine DWp.region fun K hK => ?_
  simp [-aBin', -aBin, -aBinI, -aUn, -aNil, -flatV, n_fn, b_add, b_sub, b_mul, b_lt, b_le, b_gt, b_ge, b_eq, b_ne, u_not]
  apply hK
  clear hK K
  simp only [andThen, leaves]
  refine DWp.seq ?_
  have q8 := S1.loadAgg (P := Try.prog) (k := 0) rfl sz_24 ag_24 rfl
  obtain ⟨r1, hc9, hF⟩ := bd_some hF
  refine DWp.region fun K hK => ?_
  simp [-aBin', -aBin, -aBinI, -aUn, -aNil, -flatV, n_fn, b_add, b_sub, b_mul, b_lt, b_le, b_gt, b_ge, b_eq, b_ne, u_not, q8, ((hx0_0.agree A3.agree).tup), ((hx0_1.agree A3.agree).tup)]
  refine CallD.t (F_laws_szMeander_w (fu := fu) (hx0_0.agree A3.agree) (hx0_1.agree A3.agree) hc9) ?_
  rintro _ G11 ⟨a14, rfl, S15⟩
  have A13 := A3.ext (hB.le A3.1) a14.agree
  have S12 : Sep G11 (Fr H) [AL.box p4 [v0_0, v0_1]] := S1.app a14.agree S15 (fun _ h => h) (hB.le A3.1)
  simp [-aBin', -aBin, -aBinI, -aUn, -aNil, -flatV, n_fn, b_add, b_sub, b_mul, b_lt, b_le, b_gt, b_ge, b_eq, b_ne, u_not, q8, a14.pre]
  apply hK
  clear hK K
  simp only [andThen, leaves]
  refine DWp.seq ?_
  refine DWp.seq ?_
  refine DWp.region fun K hK => ?_
  simp [-aBin', -aBin, -aBinI, -aUn, -aNil, -flatV, n_fn, b_add, b_sub, b_mul, b_lt, b_le, b_gt, b_ge, b_eq, b_ne, u_not]
  apply hK
  clear hK K
  simp only [andThen, leaves]
  refine DWp.cond' (t := (ilt r1 0)) (by simp []) (fun hb16 => ?_) (fun hb16 => ?_)
  · replace hF := cd_t hb16 hF
    refine DWp.seq ?_
    refine DWp.region fun K hK => ?_
    simp [-aBin', -aBin, -aBinI, -aUn, -aNil, -flatV, n_fn, b_add, b_sub, b_mul, b_lt, b_le, b_gt, b_ge, b_eq, b_ne, u_not]
    apply hK
    clear hK K
    simp only [andThen, leaves]
    refine DWp.ret ?_
    simp only [andThen, leaves]
    obtain rfl := Option.some.inj hF
    exact ⟨by simp, [(Value.bool true)], by simp [], A13, rfl, S12.pick [] (by decide) rfl⟩
  · replace hF := cd_f hb16 hF
    refine DWp.skip ?_
    simp only [andThen, leaves]
    refine DWp.seq ?_
    have q17 := S12.loadAgg (P := Try.prog) (k := 0) rfl sz_24 ag_24 rfl
    obtain ⟨r2, hc18, hF⟩ := bd_some hF
    refine DWp.region fun K hK => ?_
    simp [-aBin', -aBin, -aBinI, -aUn, -aNil, -flatV, n_fn, b_add, b_sub, b_mul, b_lt, b_le, b_gt, b_ge, b_eq, b_ne, u_not, q17, ((hx0_0.agree A13.agree).tup), ((hx0_1.agree A13.agree).tup)]
    refine CallD.t (F_laws_toMeander_w (fu := fu) (hx0_0.agree A13.agree) (hx0_1.agree A13.agree) hc18) ?_
    rintro _ G20 ⟨a23, c19_u0, c19_u1, rfl, S24⟩
    have A22 := A13.ext (hB.le A13.1) a23.agree
    have S21 : Sep G20 (Fr H) [AL.box p4 [v0_0, v0_1], flat c19_u0 3 (ints r2.1), flat c19_u1 3 (ints r2.2)] := S12.app a23.agree S24 (fun _ h => h) (hB.le A13.1)
    obtain ⟨r3, hc25, hF⟩ := bd_some hF
    simp [-aBin', -aBin, -aBinI, -aUn, -aNil, -flatV, n_fn, b_add, b_sub, b_mul, b_lt, b_le, b_gt, b_ge, b_eq, b_ne, u_not, q17, a23.pre, ((S21.sl (k := 1) rfl).tup), ((S21.sl (k := 2) rfl).tup)]
    refine CallD.t (F_spec_PieceTexts_w (fu := fu) (S21.sl (k := 1) rfl) (S21.sl (k := 2) rfl) hc25) ?_
    rintro _ G27 ⟨a30, c26_u0, rfl, S31⟩
    have A29 := A22.ext (hB.le A22.1) a30.agree
    have S28 : Sep G27 (Fr H) [AL.box p4 [v0_0, v0_1], flat c19_u0 3 (ints r2.1), flat c19_u1 3 (ints r2.2), flat c26_u0 9 (strs r3.1)] := S21.app a30.agree S31 (fun _ h => h) (hB.le A22.1)
    simp [-aBin', -aBin, -aBinI, -aUn, -aNil, -flatV, n_fn, b_add, b_sub, b_mul, b_lt, b_le, b_gt, b_ge, b_eq, b_ne, u_not, q17, a23.pre, a30.pre]
    apply hK
    clear hK K
    simp only [andThen, leaves]
    refine DWp.seq ?_
    have q32 := S28.loadAgg (P := Try.prog) (k := 0) rfl sz_24 ag_24 rfl
    obtain ⟨r4, hc33, hF⟩ := bd_some hF
    refine DWp.region fun K hK => ?_
    simp [-aBin', -aBin, -aBinI, -aUn, -aNil, -flatV, n_fn, b_add, b_sub, b_mul, b_lt, b_le, b_gt, b_ge, b_eq, b_ne, u_not, q32, ((hx0_0.agree A29.agree).tup), ((hx0_1.agree A29.agree).tup)]
    refine CallD.t (F_laws_toMeander_w (fu := fu) (hx0_0.agree A29.agree) (hx0_1.agree A29.agree) hc33) ?_
    rintro _ G35 ⟨a38, c34_u0, c34_u1, rfl, S39⟩
    have A37 := A29.ext (hB.le A29.1) a38.agree
    have S36 : Sep G35 (Fr H) [AL.box p4 [v0_0, v0_1], flat c19_u0 3 (ints r2.1), flat c19_u1 3 (ints r2.2), flat c26_u0 9 (strs r3.1), flat c34_u0 3 (ints r4.1), flat c34_u1 3 (ints r4.2)] := S28.app a38.agree S39 (fun _ h => h) (hB.le A29.1)
    obtain ⟨G41, p43, q44, q46, a45, S40⟩ := S36.allocT (P := Try.prog) (hB.le A37.1) ze_28 rfl
    have A42 := A37.ext (hB.le A37.1) a45
    replace S40 : Sep G41 (Fr H) [AL.box p4 [v0_0, v0_1], flat c19_u0 3 (ints r2.1), flat c19_u1 3 (ints r2.2), flat c26_u0 9 (strs r3.1), flat c34_u0 3 (ints r4.1), flat c34_u1 3 (ints r4.2), AL.box p43 [(Value.slice none 0 0), (Value.slice none 0 0)]] := S40
    obtain ⟨G47, q48, S49, a51⟩ := S40.putAgg (P := Try.prog) (k := 6) (xs := [c34_u0, c34_u1]) rfl (hB.le A42.1) sz_28 rfl rfl
    have A50 := A42.trans a51
    replace S49 : Sep G47 (Fr H) [AL.box p4 [v0_0, v0_1], flat c19_u0 3 (ints r2.1), flat c19_u1 3 (ints r2.2), flat c26_u0 9 (strs r3.1), flat c34_u0 3 (ints r4.1), flat c34_u1 3 (ints r4.2), AL.box p43 [c34_u0, c34_u1]] := S49
    simp [-aBin', -aBin, -aBinI, -aUn, -aNil, -flatV, n_fn, b_add, b_sub, b_mul, b_lt, b_le, b_gt, b_ge, b_eq, b_ne, u_not, q32, a38.pre, q44, q46, a45.to_pre, q48]
    apply hK
    clear hK K
    simp only [andThen, leaves]
    refine DWp.seq ?_
    have q52 := S49.loadAgg (P := Try.prog) (k := 6) rfl sz_28 ag_28 rfl
    obtain ⟨r5, hc53, hF⟩ := bd_some hF
    refine DWp.region fun K hK => ?_
    simp [-aBin', -aBin, -aBinI, -aUn, -aNil, -flatV, n_fn, b_add, b_sub, b_mul, b_lt, b_le, b_gt, b_ge, b_eq, b_ne, u_not, q52, ((S49.sl (k := 4) rfl).tup), ((S49.sl (k := 5) rfl).tup)]
    refine CallD.t (F_impl_PieceTexts_w (fu := fu) (S49.sl (k := 4) rfl) (S49.sl (k := 5) rfl) hc53) ?_
    rintro _ G55 ⟨a58, c54_u0, rfl, S59⟩
    have A57 := A50.ext (hB.le A50.1) a58.agree
    have S56 : Sep G55 (Fr H) [AL.box p4 [v0_0, v0_1], flat c19_u0 3 (ints r2.1), flat c19_u1 3 (ints r2.2), flat c26_u0 9 (strs r3.1), flat c34_u0 3 (ints r4.1), flat c34_u1 3 (ints r4.2), AL.box p43 [c34_u0, c34_u1], flat c54_u0 9 (strs r5.1)] := S49.app a58.agree S59 (fun _ h => h) (hB.le A50.1)
    simp [-aBin', -aBin, -aBinI, -aUn, -aNil, -flatV, n_fn, b_add, b_sub, b_mul, b_lt, b_le, b_gt, b_ge, b_eq, b_ne, u_not, q52, a58.pre]
    apply hK
    clear hK K
    simp only [andThen, leaves]
    refine DWp.seq ?_
    obtain ⟨s60, hL61, hF⟩ := bd_some hF
    refine DWp.seq (DWp.join (fun env G => Sep G (Fr H) [AL.box p4 [v0_0, v0_1], flat c26_u0 9 (strs r3.1), AL.box p43 [c34_u0, c34_u1], flat c34_u0 3 (ints r4.1), flat c34_u1 3 (ints r4.2), flat c54_u0 9 (strs r5.1)] ∧ AgB (Fr H) H G ∧ env 1 = some p4 ∧ env 4 = some c26_u0 ∧ env 5 = some (Value.bool r3.2) ∧ env 6 = some p43 ∧ env 7 = some c54_u0 ∧ env 8 = some (Value.bool r5.2) ∧ env 40 = some (Value.bool s60)) ?_ ?_)
    ·
      obtain ⟨r6, hc63, hL61⟩ := bd_some hL61
      refine DWp.region fun K hK => ?_
      simp [-aBin', -aBin, -aBinI, -aUn, -aNil, -flatV, n_fn, b_add, b_sub, b_mul, b_lt, b_le, b_gt, b_ge, b_eq, b_ne, u_not, ((S56.sl (k := 7) rfl).tup), ((S56.sl (k := 3) rfl).tup)]
      refine CallD.t (F_laws_eqStringS_w (fu := fu) (S56.sl (k := 7) rfl) (S56.sl (k := 3) rfl) hc63) ?_
      rintro _ G65 ⟨a68, rfl, S69⟩
      have A67 := A57.ext (hB.le A57.1) a68.agree
      have S66 : Sep G65 (Fr H) [AL.box p4 [v0_0, v0_1], flat c19_u0 3 (ints r2.1), flat c19_u1 3 (ints r2.2), flat c26_u0 9 (strs r3.1), flat c34_u0 3 (ints r4.1), flat c34_u1 3 (ints r4.2), AL.box p43 [c34_u0, c34_u1], flat c54_u0 9 (strs r5.1)] := S56.app a68.agree S69 (fun _ h => h) (hB.le A57.1)
      rcases Bool.eq_false_or_eq_true (bnot r6) with hb70 | hb70
      · replace hL61 := cd_t hb70 hL61
        simp [-aBin', -aBin, -aBinI, -aUn, -aNil, -flatV, n_fn, b_add, b_sub, b_mul, b_lt, b_le, b_gt, b_ge, b_eq, b_ne, u_not, hb70, a68.pre]
        apply hK
        clear hK K
        simp only [andThen, leaves]
        have S71 := S66.pick [0, 3, 6, 4, 5, 7] (by decide) rfl
        obtain rfl := Option.some.inj hL61
        exact ⟨S71, A67, by simp [], by simp [], by simp [], by simp [], by simp [], by simp [], by simp []⟩
      · replace hL61 := cd_f hb70 hL61
        simp [-aBin', -aBin, -aBinI, -aUn, -aNil, -flatV, n_fn, b_add, b_sub, b_mul, b_lt, b_le, b_gt, b_ge, b_eq, b_ne, u_not, hb70, a68.pre, b_bne un_4]
        apply hK
        clear hK K
        simp only [andThen, leaves]
        have S72 := S66.pick [0, 3, 6, 4, 5, 7] (by decide) rfl
        obtain rfl := Option.some.inj hL61
        exact ⟨S72, A67, by simp [], by simp [], by simp [], by simp [], by simp [], by simp [], by simp []⟩
    · rintro env Gj73 ⟨Sj73, Aj73, ej73_1, ej73_4, ej73_5, ej73_6, ej73_7, ej73_8, ej73_40⟩
      refine DWp.cond' (t := s60) (by simp [ej73_1, ej73_4, ej73_5, ej73_6, ej73_7, ej73_8, ej73_40]) (fun hb74 => ?_) (fun hb74 => ?_)
      · replace hF := cd_t hb74 hF
        refine DWp.seq ?_
        refine DWp.region fun K hK => ?_
        simp [-aBin', -aBin, -aBinI, -aUn, -aNil, -flatV, n_fn, b_add, b_sub, b_mul, b_lt, b_le, b_gt, b_ge, b_eq, b_ne, u_not, ej73_1, ej73_4, ej73_5, ej73_6, ej73_7, ej73_8, ej73_40]
        apply hK
        clear hK K
        simp only [andThen, leaves]
        refine DWp.ret ?_
        simp only [andThen, leaves]
        obtain rfl := Option.some.inj hF
        exact ⟨by simp, [(Value.bool false)], by simp [ej73_1, ej73_4, ej73_5, ej73_6, ej73_7, ej73_8, ej73_40], Aj73, rfl, Sj73.pick [] (by decide) rfl⟩
      · replace hF := cd_f hb74 hF
        refine DWp.skip ?_
        simp only [andThen, leaves]
        refine DWp.seq ?_
        refine DWp.seq ?_
        have q75 := Sj73.loadAgg (P := Try.prog) (k := 2) rfl sz_28 ag_28 rfl
        have q76 := Sj73.loadAgg (P := Try.prog) (k := 0) rfl sz_24 ag_24 rfl
        obtain ⟨r7, hc77, hF⟩ := bd_some hF
        refine DWp.drawn (B := [0, 0, 2, 7, 15]) 5 mixed (by kernel_rfl) (by decide) fun K hK => ?_
        simp [-aBin', -aBin, -aBinI, -aUn, -aNil, -flatV, n_fn, b_add, b_sub, b_mul, b_lt, b_le, b_gt, b_ge, b_eq, b_ne, u_not, ej73_1, ej73_4, ej73_5, ej73_6, ej73_7, ej73_8, ej73_40, q75, q76, ((hx0_0.agree Aj73.agree).tup), ((hx0_1.agree Aj73.agree).tup)]
        refine CallD.t (F_laws_toMeander_w (fu := fu) (hx0_0.agree Aj73.agree) (hx0_1.agree Aj73.agree) hc77) ?_
        rintro _ G79 ⟨a82, c78_u0, c78_u1, rfl, S83⟩
        have A81 := Aj73.ext (hB.le Aj73.1) a82.agree
        have S80 : Sep G79 (Fr H) [AL.box p4 [v0_0, v0_1], flat c26_u0 9 (strs r3.1), AL.box p43 [c34_u0, c34_u1], flat c34_u0 3 (ints r4.1), flat c34_u1 3 (ints r4.2), flat c54_u0 9 (strs r5.1), flat c78_u0 3 (ints r7.1), flat c78_u1 3 (ints r7.2)] := Sj73.app a82.agree S83 (fun _ h => h) (hB.le Aj73.1)
        obtain ⟨r8, hc84, hF⟩ := bd_some hF
        simp [-aBin', -aBin, -aBinI, -aUn, -aNil, -flatV, n_fn, b_add, b_sub, b_mul, b_lt, b_le, b_gt, b_ge, b_eq, b_ne, u_not, ej73_1, ej73_4, ej73_5, ej73_6, ej73_7, ej73_8, ej73_40, q75, q76, a82.pre, ((S80.sl (k := 3) rfl).tup), ((S80.sl (k := 4) rfl).tup), ((S80.sl (k := 6) rfl).tup), ((S80.sl (k := 7) rfl).tup)]
        refine CallD.t (F_laws_eqMeander_w (fu := fu) (S80.sl (k := 3) rfl) (S80.sl (k := 4) rfl) (S80.sl (k := 6) rfl) (S80.sl (k := 7) rfl) hc84) ?_
        rintro _ G86 ⟨a89, rfl, S90⟩
        have A88 := A81.ext (hB.le A81.1) a89.agree
        have S87 : Sep G86 (Fr H) [AL.box p4 [v0_0, v0_1], flat c26_u0 9 (strs r3.1), AL.box p43 [c34_u0, c34_u1], flat c34_u0 3 (ints r4.1), flat c34_u1 3 (ints r4.2), flat c54_u0 9 (strs r5.1), flat c78_u0 3 (ints r7.1), flat c78_u1 3 (ints r7.2)] := S80.app a89.agree S90 (fun _ h => h) (hB.le A81.1)
        simp [-aBin', -aBin, -aBinI, -aUn, -aNil, -flatV, n_fn, b_add, b_sub, b_mul, b_lt, b_le, b_gt, b_ge, b_eq, b_ne, u_not, ej73_1, ej73_4, ej73_5, ej73_6, ej73_7, ej73_8, ej73_40, q75, q76, a82.pre, a89.pre]
        apply hK
        clear hK K
        simp only [andThen, leaves]
        refine DWp.cond' (t := (bnot r8)) (by simp [ej73_1, ej73_4, ej73_5, ej73_6, ej73_7, ej73_8, ej73_40]) (fun hb91 => ?_) (fun hb91 => ?_)
        · replace hF := cd_t hb91 hF
          refine DWp.seq ?_
          refine DWp.region fun K hK => ?_
          simp [-aBin', -aBin, -aBinI, -aUn, -aNil, -flatV, n_fn, b_add, b_sub, b_mul, b_lt, b_le, b_gt, b_ge, b_eq, b_ne, u_not, ej73_1, ej73_4, ej73_5, ej73_6, ej73_7, ej73_8, ej73_40]
          apply hK
          clear hK K
          simp only [andThen, leaves]
          refine DWp.ret ?_
          simp only [andThen, leaves]
          obtain rfl := Option.some.inj hF
          exact ⟨by simp, [(Value.bool false)], by simp [ej73_1, ej73_4, ej73_5, ej73_6, ej73_7, ej73_8, ej73_40], A88, rfl, S87.pick [] (by decide) rfl⟩
        · replace hF := cd_f hb91 hF
          refine DWp.skip ?_
          simp only [andThen, leaves]
          refine DWp.seq ?_
          refine DWp.region fun K hK => ?_
          simp [-aBin', -aBin, -aBinI, -aUn, -aNil, -flatV, n_fn, b_add, b_sub, b_mul, b_lt, b_le, b_gt, b_ge, b_eq, b_ne, u_not, ej73_1, ej73_4, ej73_5, ej73_6, ej73_7, ej73_8, ej73_40]
          apply hK
          clear hK K
          simp only [andThen, leaves]
          refine DWp.seq ?_
          have q92 := S87.loadAgg (P := Try.prog) (k := 2) rfl sz_28 ag_28 rfl
          obtain ⟨r9, hc93, hF⟩ := bd_some hF
          refine DWp.region fun K hK => ?_
          simp [-aBin', -aBin, -aBinI, -aUn, -aNil, -flatV, n_fn, b_add, b_sub, b_mul, b_lt, b_le, b_gt, b_ge, b_eq, b_ne, u_not, ej73_1, ej73_4, ej73_5, ej73_6, ej73_7, ej73_8, ej73_40, q92, ((S87.sl (k := 3) rfl).tup), ((S87.sl (k := 4) rfl).tup)]
          have S94 : Sep G86 (Fr H) ([flat c34_u0 3 (ints r4.1), flat c34_u1 3 (ints r4.2)] ++ [AL.box p4 [v0_0, v0_1], flat c26_u0 9 (strs r3.1), AL.box p43 [c34_u0, c34_u1], flat c54_u0 9 (strs r5.1), flat c78_u0 3 (ints r7.1), flat c78_u1 3 (ints r7.2)]) := S87.pick [3, 4, 0, 1, 2, 5, 6, 7] (by decide) rfl
          obtain ⟨B100, S95, U96, M97, R98, C99⟩ := S94.frame (hB.le A88.1)
          refine CallD.t (F_laws_markMeander_w (fu := fu) U96 S95 hc93) ?_
          rintro _ G102 ⟨a105, rfl, S106⟩
          have A104 := A88.trans (a105.mono M97)
          have S103 : Sep G102 (Fr H) [flat c34_u0 3 (ints r9.2.1), flat c34_u1 3 (ints r9.2.2), AL.box p4 [v0_0, v0_1], flat c26_u0 9 (strs r3.1), AL.box p43 [c34_u0, c34_u1], flat c54_u0 9 (strs r5.1), flat c78_u0 3 (ints r7.1), flat c78_u1 3 (ints r7.2)] := C99 _ _ a105 S106
          simp [-aBin', -aBin, -aBinI, -aUn, -aNil, -flatV, n_fn, b_add, b_sub, b_mul, b_lt, b_le, b_gt, b_ge, b_eq, b_ne, u_not, ej73_1, ej73_4, ej73_5, ej73_6, ej73_7, ej73_8, ej73_40, q92]
          apply hK
          clear hK K
          simp only [andThen, leaves]
          refine DWp.seq ?_
          obtain ⟨s107, hL108, hF⟩ := bd_some hF
          refine DWp.seq (DWp.join (fun env G => Sep G (Fr H) [AL.box p4 [v0_0, v0_1], flat c26_u0 9 (strs r3.1), flat c54_u0 9 (strs r5.1)] ∧ AgB (Fr H) H G ∧ env 1 = some p4 ∧ env 4 = some c26_u0 ∧ env 5 = some (Value.bool r3.2) ∧ env 7 = some c54_u0 ∧ env 61 = some (Value.bool s107)) ?_ ?_)
          ·
            rcases Bool.eq_false_or_eq_true (ilt r9.1 0) with hb110 | hb110
            · replace hL108 := cd_t hb110 hL108
              refine DWp.region fun K hK => ?_
              simp [-aBin', -aBin, -aBinI, -aUn, -aNil, -flatV, n_fn, b_add, b_sub, b_mul, b_lt, b_le, b_gt, b_ge, b_eq, b_ne, u_not, ej73_1, ej73_4, ej73_5, ej73_6, ej73_7, ej73_8, ej73_40, hb110]
              apply hK
              clear hK K
              simp only [andThen, leaves]
              have S111 := S103.pick [2, 3, 5] (by decide) rfl
              obtain rfl := Option.some.inj hL108
              exact ⟨S111, A104, by simp [ej73_1, ej73_4, ej73_5, ej73_6, ej73_7, ej73_8, ej73_40], by simp [ej73_1, ej73_4, ej73_5, ej73_6, ej73_7, ej73_8, ej73_40], by simp [ej73_1, ej73_4, ej73_5, ej73_6, ej73_7, ej73_8, ej73_40], by simp [ej73_1, ej73_4, ej73_5, ej73_6, ej73_7, ej73_8, ej73_40], by simp [ej73_1, ej73_4, ej73_5, ej73_6, ej73_7, ej73_8, ej73_40]⟩
            · replace hL108 := cd_f hb110 hL108
              obtain ⟨r10, hc112, hL108⟩ := bd_some hL108
              refine DWp.region fun K hK => ?_
              simp [-aBin', -aBin, -aBinI, -aUn, -aNil, -flatV, n_fn, b_add, b_sub, b_mul, b_lt, b_le, b_gt, b_ge, b_eq, b_ne, u_not, ej73_1, ej73_4, ej73_5, ej73_6, ej73_7, ej73_8, ej73_40, hb110, ((S103.sl (k := 5) rfl).tup), ((S103.sl (k := 3) rfl).tup)]
              refine CallD.t (F_laws_eqStringS_w (fu := fu) (S103.sl (k := 5) rfl) (S103.sl (k := 3) rfl) hc112) ?_
              rintro _ G114 ⟨a117, rfl, S118⟩
              have A116 := A104.ext (hB.le A104.1) a117.agree
              have S115 : Sep G114 (Fr H) [flat c34_u0 3 (ints r9.2.1), flat c34_u1 3 (ints r9.2.2), AL.box p4 [v0_0, v0_1], flat c26_u0 9 (strs r3.1), AL.box p43 [c34_u0, c34_u1], flat c54_u0 9 (strs r5.1), flat c78_u0 3 (ints r7.1), flat c78_u1 3 (ints r7.2)] := S103.app a117.agree S118 (fun _ h => h) (hB.le A104.1)
              rcases Bool.eq_false_or_eq_true (bnot r10) with hb119 | hb119
              · replace hL108 := cd_t hb119 hL108
                simp [-aBin', -aBin, -aBinI, -aUn, -aNil, -flatV, n_fn, b_add, b_sub, b_mul, b_lt, b_le, b_gt, b_ge, b_eq, b_ne, u_not, ej73_1, ej73_4, ej73_5, ej73_6, ej73_7, ej73_8, ej73_40, hb110, hb119, a117.pre]
                apply hK
                clear hK K
                simp only [andThen, leaves]
                have S120 := S115.pick [2, 3, 5] (by decide) rfl
                obtain rfl := Option.some.inj hL108
                exact ⟨S120, A116, by simp [ej73_1, ej73_4, ej73_5, ej73_6, ej73_7, ej73_8, ej73_40], by simp [ej73_1, ej73_4, ej73_5, ej73_6, ej73_7, ej73_8, ej73_40], by simp [ej73_1, ej73_4, ej73_5, ej73_6, ej73_7, ej73_8, ej73_40], by simp [ej73_1, ej73_4, ej73_5, ej73_6, ej73_7, ej73_8, ej73_40], by simp [ej73_1, ej73_4, ej73_5, ej73_6, ej73_7, ej73_8, ej73_40]⟩
              · replace hL108 := cd_f hb119 hL108
                simp [-aBin', -aBin, -aBinI, -aUn, -aNil, -flatV, n_fn, b_add, b_sub, b_mul, b_lt, b_le, b_gt, b_ge, b_eq, b_ne, u_not, ej73_1, ej73_4, ej73_5, ej73_6, ej73_7, ej73_8, ej73_40, hb110, hb119, a117.pre, b_bne un_4]
                apply hK
                clear hK K
                simp only [andThen, leaves]
                have S121 := S115.pick [2, 3, 5] (by decide) rfl
                obtain rfl := Option.some.inj hL108
                exact ⟨S121, A116, by simp [ej73_1, ej73_4, ej73_5, ej73_6, ej73_7, ej73_8, ej73_40], by simp [ej73_1, ej73_4, ej73_5, ej73_6, ej73_7, ej73_8, ej73_40], by simp [ej73_1, ej73_4, ej73_5, ej73_6, ej73_7, ej73_8, ej73_40], by simp [ej73_1, ej73_4, ej73_5, ej73_6, ej73_7, ej73_8, ej73_40], by simp [ej73_1, ej73_4, ej73_5, ej73_6, ej73_7, ej73_8, ej73_40]⟩
          · rintro env Gj122 ⟨Sj122, Aj122, ej122_1, ej122_4, ej122_5, ej122_7, ej122_61⟩
            refine DWp.cond' (t := s107) (by simp [ej122_1, ej122_4, ej122_5, ej122_7, ej122_61]) (fun hb123 => ?_) (fun hb123 => ?_)
            · replace hF := cd_t hb123 hF
              refine DWp.seq ?_
              refine DWp.region fun K hK => ?_
              simp [-aBin', -aBin, -aBinI, -aUn, -aNil, -flatV, n_fn, b_add, b_sub, b_mul, b_lt, b_le, b_gt, b_ge, b_eq, b_ne, u_not, ej122_1, ej122_4, ej122_5, ej122_7, ej122_61]
              apply hK
              clear hK K
              simp only [andThen, leaves]
              refine DWp.ret ?_
              simp only [andThen, leaves]
              obtain rfl := Option.some.inj hF
              exact ⟨by simp, [(Value.bool false)], by simp [ej122_1, ej122_4, ej122_5, ej122_7, ej122_61], Aj122, rfl, Sj122.pick [] (by decide) rfl⟩
            · replace hF := cd_f hb123 hF
              refine DWp.skip ?_
              simp only [andThen, leaves]
              refine DWp.seq ?_
              refine DWp.region fun K hK => ?_
              simp [-aBin', -aBin, -aBinI, -aUn, -aNil, -flatV, n_fn, b_add, b_sub, b_mul, b_lt, b_le, b_gt, b_ge, b_eq, b_ne, u_not, ej122_1, ej122_4, ej122_5, ej122_7, ej122_61]
              apply hK
              clear hK K
              simp only [andThen, leaves]
              refine DWp.seq ?_
              obtain ⟨r11, hc124, hF⟩ := bd_some hF
              refine DWp.region fun K hK => ?_
              simp [-aBin', -aBin, -aBinI, -aUn, -aNil, -flatV, n_fn, b_add, b_sub, b_mul, b_lt, b_le, b_gt, b_ge, b_eq, b_ne, u_not, ej122_1, ej122_4, ej122_5, ej122_7, ej122_61, ((Sj122.sl (k := 2) rfl).tup)]
              have S125 : Sep Gj122 (Fr H) ([flat c54_u0 9 (strs r5.1)] ++ [AL.box p4 [v0_0, v0_1], flat c26_u0 9 (strs r3.1)]) := Sj122.pick [2, 0, 1] (by decide) rfl
              obtain ⟨B131, S126, U127, M128, R129, C130⟩ := S125.frame (hB.le Aj122.1)
              refine CallD.t (F_laws_markStringS_w (fu := fu) U127 S126 hc124) ?_
              rintro _ G133 ⟨a136, rfl, S137⟩
              have A135 := Aj122.trans (a136.mono M128)
              have S134 : Sep G133 (Fr H) [flat c54_u0 9 (strs r11.2), AL.box p4 [v0_0, v0_1], flat c26_u0 9 (strs r3.1)] := C130 _ _ a136 S137
              simp [-aBin', -aBin, -aBinI, -aUn, -aNil, -flatV, n_fn, b_add, b_sub, b_mul, b_lt, b_le, b_gt, b_ge, b_eq, b_ne, u_not, ej122_1, ej122_4, ej122_5, ej122_7, ej122_61]
              apply hK
              clear hK K
              simp only [andThen, leaves]
              refine DWp.seq ?_
              refine DWp.region fun K hK => ?_
              simp [-aBin', -aBin, -aBinI, -aUn, -aNil, -flatV, n_fn, b_add, b_sub, b_mul, b_lt, b_le, b_gt, b_ge, b_eq, b_ne, u_not, ej122_1, ej122_4, ej122_5, ej122_7, ej122_61]
              apply hK
              clear hK K
              simp only [andThen, leaves]
              refine DWp.seq ?_
              obtain ⟨r12, hc138, hF⟩ := bd_some hF
              refine DWp.region fun K hK => ?_
              simp [-aBin', -aBin, -aBinI, -aUn, -aNil, -flatV, n_fn, b_add, b_sub, b_mul, b_lt, b_le, b_gt, b_ge, b_eq, b_ne, u_not, ej122_1, ej122_4, ej122_5, ej122_7, ej122_61, ((S134.sl (k := 0) rfl).tup)]
              refine CallD.t (F_laws_heldStringS_w (fu := fu) (S134.sl (k := 0) rfl) hc138) ?_
              rintro _ G140 ⟨a143, rfl, S144⟩
              have A142 := A135.ext (hB.le A135.1) a143.agree
              have S141 : Sep G140 (Fr H) [flat c54_u0 9 (strs r11.2), AL.box p4 [v0_0, v0_1], flat c26_u0 9 (strs r3.1)] := S134.app a143.agree S144 (fun _ h => h) (hB.le A135.1)
              simp [-aBin', -aBin, -aBinI, -aUn, -aNil, -flatV, n_fn, b_add, b_sub, b_mul, b_lt, b_le, b_gt, b_ge, b_eq, b_ne, u_not, ej122_1, ej122_4, ej122_5, ej122_7, ej122_61, a143.pre]
              apply hK
              clear hK K
              simp only [andThen, leaves]
              refine DWp.seq ?_
              refine DWp.seq ?_
              refine DWp.region fun K hK => ?_
              simp [-aBin', -aBin, -aBinI, -aUn, -aNil, -flatV, n_fn, b_add, b_sub, b_mul, b_lt, b_le, b_gt, b_ge, b_eq, b_ne, u_not, ej122_1, ej122_4, ej122_5, ej122_7, ej122_61]
              apply hK
              clear hK K
              simp only [andThen, leaves]
              refine DWp.cond' (t := (ilt r12 0)) (by simp [ej122_1, ej122_4, ej122_5, ej122_7, ej122_61]) (fun hb145 => ?_) (fun hb145 => ?_)
              · replace hF := cd_t hb145 hF
                refine DWp.seq ?_
                refine DWp.region fun K hK => ?_
                simp [-aBin', -aBin, -aBinI, -aUn, -aNil, -flatV, n_fn, b_add, b_sub, b_mul, b_lt, b_le, b_gt, b_ge, b_eq, b_ne, u_not, ej122_1, ej122_4, ej122_5, ej122_7, ej122_61]
                apply hK
                clear hK K
                simp only [andThen, leaves]
                refine DWp.ret ?_
                simp only [andThen, leaves]
                obtain rfl := Option.some.inj hF
                exact ⟨by simp, [(Value.bool false)], by simp [ej122_1, ej122_4, ej122_5, ej122_7, ej122_61], A142, rfl, S141.pick [] (by decide) rfl⟩
              · replace hF := cd_f hb145 hF
                refine DWp.skip ?_
                simp only [andThen, leaves]
                refine DWp.seq ?_
                refine DWp.seq ?_
                refine DWp.region fun K hK => ?_
                simp [-aBin', -aBin, -aBinI, -aUn, -aNil, -flatV, n_fn, b_add, b_sub, b_mul, b_lt, b_le, b_gt, b_ge, b_eq, b_ne, u_not, ej122_1, ej122_4, ej122_5, ej122_7, ej122_61]
                apply hK
                clear hK K
                simp only [andThen, leaves]
                refine DWp.cond' (t := (ine r12 r11.1)) (by simp [ej122_1, ej122_4, ej122_5, ej122_7, ej122_61]) (fun hb146 => ?_) (fun hb146 => ?_)
                · replace hF := cd_t hb146 hF
                  refine DWp.seq ?_
                  refine DWp.region fun K hK => ?_
                  simp [-aBin', -aBin, -aBinI, -aUn, -aNil, -flatV, n_fn, b_add, b_sub, b_mul, b_lt, b_le, b_gt, b_ge, b_eq, b_ne, u_not, ej122_1, ej122_4, ej122_5, ej122_7, ej122_61]
                  apply hK
                  clear hK K
                  simp only [andThen, leaves]
                  refine DWp.ret ?_
                  simp only [andThen, leaves]
                  obtain rfl := Option.some.inj hF
                  exact ⟨by simp, [(Value.bool false)], by simp [ej122_1, ej122_4, ej122_5, ej122_7, ej122_61], A142, rfl, S141.pick [] (by decide) rfl⟩
                · replace hF := cd_f hb146 hF
                  refine DWp.skip ?_
                  simp only [andThen, leaves]
                  refine DWp.seq ?_
                  have q147 := S141.loadAgg (P := Try.prog) (k := 1) rfl sz_24 ag_24 rfl
                  obtain ⟨r13, hc148, hF⟩ := bd_some hF
                  refine DWp.region fun K hK => ?_
                  simp [-aBin', -aBin, -aBinI, -aUn, -aNil, -flatV, n_fn, b_add, b_sub, b_mul, b_lt, b_le, b_gt, b_ge, b_eq, b_ne, u_not, ej122_1, ej122_4, ej122_5, ej122_7, ej122_61, q147, ((hx0_0.agree A142.agree).tup), ((hx0_1.agree A142.agree).tup)]
                  refine CallD.t (F_laws_toMeander_w (fu := fu) (hx0_0.agree A142.agree) (hx0_1.agree A142.agree) hc148) ?_
                  rintro _ G150 ⟨a153, c149_u0, c149_u1, rfl, S154⟩
                  have A152 := A142.ext (hB.le A142.1) a153.agree
                  have S151 : Sep G150 (Fr H) [flat c54_u0 9 (strs r11.2), AL.box p4 [v0_0, v0_1], flat c26_u0 9 (strs r3.1), flat c149_u0 3 (ints r13.1), flat c149_u1 3 (ints r13.2)] := S141.app a153.agree S154 (fun _ h => h) (hB.le A142.1)
                  obtain ⟨r14, hc155, hF⟩ := bd_some hF
                  simp [-aBin', -aBin, -aBinI, -aUn, -aNil, -flatV, n_fn, b_add, b_sub, b_mul, b_lt, b_le, b_gt, b_ge, b_eq, b_ne, u_not, ej122_1, ej122_4, ej122_5, ej122_7, ej122_61, q147, a153.pre, ((S151.sl (k := 3) rfl).tup), ((S151.sl (k := 4) rfl).tup)]
                  refine CallD.t (F_impl_PieceTexts_w (fu := fu) (S151.sl (k := 3) rfl) (S151.sl (k := 4) rfl) hc155) ?_
                  rintro _ G157 ⟨a160, c156_u0, rfl, S161⟩
                  have A159 := A152.ext (hB.le A152.1) a160.agree
                  have S158 : Sep G157 (Fr H) [flat c54_u0 9 (strs r11.2), AL.box p4 [v0_0, v0_1], flat c26_u0 9 (strs r3.1), flat c149_u0 3 (ints r13.1), flat c149_u1 3 (ints r13.2), flat c156_u0 9 (strs r14.1)] := S151.app a160.agree S161 (fun _ h => h) (hB.le A152.1)
                  simp [-aBin', -aBin, -aBinI, -aUn, -aNil, -flatV, n_fn, b_add, b_sub, b_mul, b_lt, b_le, b_gt, b_ge, b_eq, b_ne, u_not, ej122_1, ej122_4, ej122_5, ej122_7, ej122_61, q147, a153.pre, a160.pre]
                  apply hK
                  clear hK K
                  simp only [andThen, leaves]
                  refine DWp.seq ?_
                  obtain ⟨s162, hL163, hF⟩ := bd_some hF
                  refine DWp.seq (DWp.join (fun env G => Sep G (Fr H) [flat c54_u0 9 (strs r11.2)] ∧ AgB (Fr H) H G ∧ env 7 = some c54_u0 ∧ env 10 = some (Value.int .i64 r11.1) ∧ env 87 = some (Value.bool s162)) ?_ ?_)
                  ·
                    obtain ⟨r15, hc165, hL163⟩ := bd_some hL163
                    refine DWp.region fun K hK => ?_
                    simp [-aBin', -aBin, -aBinI, -aUn, -aNil, -flatV, n_fn, b_add, b_sub, b_mul, b_lt, b_le, b_gt, b_ge, b_eq, b_ne, u_not, ej122_1, ej122_4, ej122_5, ej122_7, ej122_61, ((S158.sl (k := 5) rfl).tup), ((S158.sl (k := 2) rfl).tup)]
                    refine CallD.t (F_laws_eqStringS_w (fu := fu) (S158.sl (k := 5) rfl) (S158.sl (k := 2) rfl) hc165) ?_
                    rintro _ G167 ⟨a170, rfl, S171⟩
                    have A169 := A159.ext (hB.le A159.1) a170.agree
                    have S168 : Sep G167 (Fr H) [flat c54_u0 9 (strs r11.2), AL.box p4 [v0_0, v0_1], flat c26_u0 9 (strs r3.1), flat c149_u0 3 (ints r13.1), flat c149_u1 3 (ints r13.2), flat c156_u0 9 (strs r14.1)] := S158.app a170.agree S171 (fun _ h => h) (hB.le A159.1)
                    rcases Bool.eq_false_or_eq_true (bnot r15) with hb172 | hb172
                    · replace hL163 := cd_t hb172 hL163
                      simp [-aBin', -aBin, -aBinI, -aUn, -aNil, -flatV, n_fn, b_add, b_sub, b_mul, b_lt, b_le, b_gt, b_ge, b_eq, b_ne, u_not, ej122_1, ej122_4, ej122_5, ej122_7, ej122_61, hb172, a170.pre]
                      apply hK
                      clear hK K
                      simp only [andThen, leaves]
                      have S173 := S168.pick [0] (by decide) rfl
                      obtain rfl := Option.some.inj hL163
                      exact ⟨S173, A169, by simp [ej122_1, ej122_4, ej122_5, ej122_7, ej122_61], by simp [ej122_1, ej122_4, ej122_5, ej122_7, ej122_61], by simp [ej122_1, ej122_4, ej122_5, ej122_7, ej122_61]⟩
                    · replace hL163 := cd_f hb172 hL163
                      simp [-aBin', -aBin, -aBinI, -aUn, -aNil, -flatV, n_fn, b_add, b_sub, b_mul, b_lt, b_le, b_gt, b_ge, b_eq, b_ne, u_not, ej122_1, ej122_4, ej122_5, ej122_7, ej122_61, hb172, a170.pre, b_bne un_4]
                      apply hK
                      clear hK K
                      simp only [andThen, leaves]
                      have S174 := S168.pick [0] (by decide) rfl
                      obtain rfl := Option.some.inj hL163
                      exact ⟨S174, A169, by simp [ej122_1, ej122_4, ej122_5, ej122_7, ej122_61], by simp [ej122_1, ej122_4, ej122_5, ej122_7, ej122_61], by simp [ej122_1, ej122_4, ej122_5, ej122_7, ej122_61]⟩
                  · rintro env Gj175 ⟨Sj175, Aj175, ej175_7, ej175_10, ej175_87⟩
                    refine DWp.cond' (t := s162) (by simp [ej175_7, ej175_10, ej175_87]) (fun hb176 => ?_) (fun hb176 => ?_)
                    · replace hF := cd_t hb176 hF
                      refine DWp.seq ?_
                      refine DWp.region fun K hK => ?_
                      simp [-aBin', -aBin, -aBinI, -aUn, -aNil, -flatV, n_fn, b_add, b_sub, b_mul, b_lt, b_le, b_gt, b_ge, b_eq, b_ne, u_not, ej175_7, ej175_10, ej175_87]
                      apply hK
                      clear hK K
                      simp only [andThen, leaves]
                      refine DWp.ret ?_
                      simp only [andThen, leaves]
                      obtain rfl := Option.some.inj hF
                      exact ⟨by simp, [(Value.bool false)], by simp [ej175_7, ej175_10, ej175_87], Aj175, rfl, Sj175.pick [] (by decide) rfl⟩
                    · replace hF := cd_f hb176 hF
                      refine DWp.skip ?_
                      simp only [andThen, leaves]
                      refine DWp.seq ?_
                      refine DWp.region fun K hK => ?_
                      simp [-aBin', -aBin, -aBinI, -aUn, -aNil, -flatV, n_fn, b_add, b_sub, b_mul, b_lt, b_le, b_gt, b_ge, b_eq, b_ne, u_not, ej175_7, ej175_10, ej175_87]
                      apply hK
                      clear hK K
                      simp only [andThen, leaves]
                      refine DWp.seq ?_
                      obtain ⟨r16, hc177, hF⟩ := bd_some hF
                      refine DWp.region fun K hK => ?_
                      simp [-aBin', -aBin, -aBinI, -aUn, -aNil, -flatV, n_fn, b_add, b_sub, b_mul, b_lt, b_le, b_gt, b_ge, b_eq, b_ne, u_not, ej175_7, ej175_10, ej175_87, ((Sj175.sl (k := 0) rfl).tup)]
                      refine CallD.t (F_laws_heldStringS_w (fu := fu) (Sj175.sl (k := 0) rfl) hc177) ?_
                      rintro _ G179 ⟨a182, rfl, S183⟩
                      have A181 := Aj175.ext (hB.le Aj175.1) a182.agree
                      have S180 : Sep G179 (Fr H) [flat c54_u0 9 (strs r11.2)] := Sj175.app a182.agree S183 (fun _ h => h) (hB.le Aj175.1)
                      simp [-aBin', -aBin, -aBinI, -aUn, -aNil, -flatV, n_fn, b_add, b_sub, b_mul, b_lt, b_le, b_gt, b_ge, b_eq, b_ne, u_not, ej175_7, ej175_10, ej175_87, a182.pre]
                      apply hK
                      clear hK K
                      simp only [andThen, leaves]
                      refine DWp.seq ?_
                      refine DWp.seq ?_
                      refine DWp.region fun K hK => ?_
                      simp [-aBin', -aBin, -aBinI, -aUn, -aNil, -flatV, n_fn, b_add, b_sub, b_mul, b_lt, b_le, b_gt, b_ge, b_eq, b_ne, u_not, ej175_7, ej175_10, ej175_87]
                      apply hK
                      clear hK K
                      simp only [andThen, leaves]
                      refine DWp.cond' (t := (ilt r16 0)) (by simp [ej175_7, ej175_10, ej175_87]) (fun hb184 => ?_) (fun hb184 => ?_)
                      · replace hF := cd_t hb184 hF
                        refine DWp.seq ?_
                        refine DWp.region fun K hK => ?_
                        simp [-aBin', -aBin, -aBinI, -aUn, -aNil, -flatV, n_fn, b_add, b_sub, b_mul, b_lt, b_le, b_gt, b_ge, b_eq, b_ne, u_not, ej175_7, ej175_10, ej175_87]
                        apply hK
                        clear hK K
                        simp only [andThen, leaves]
                        refine DWp.ret ?_
                        simp only [andThen, leaves]
                        obtain rfl := Option.some.inj hF
                        exact ⟨by simp, [(Value.bool false)], by simp [ej175_7, ej175_10, ej175_87], A181, rfl, S180.pick [] (by decide) rfl⟩
                      · replace hF := cd_f hb184 hF
                        refine DWp.skip ?_
                        simp only [andThen, leaves]
                        refine DWp.seq ?_
                        refine DWp.seq ?_
                        refine DWp.region fun K hK => ?_
                        simp [-aBin', -aBin, -aBinI, -aUn, -aNil, -flatV, n_fn, b_add, b_sub, b_mul, b_lt, b_le, b_gt, b_ge, b_eq, b_ne, u_not, ej175_7, ej175_10, ej175_87]
                        apply hK
                        clear hK K
                        simp only [andThen, leaves]
                        refine DWp.cond' (t := (ine r16 r11.1)) (by simp [ej175_7, ej175_10, ej175_87]) (fun hb185 => ?_) (fun hb185 => ?_)
                        · replace hF := cd_t hb185 hF
                          refine DWp.seq ?_
                          refine DWp.region fun K hK => ?_
                          simp [-aBin', -aBin, -aBinI, -aUn, -aNil, -flatV, n_fn, b_add, b_sub, b_mul, b_lt, b_le, b_gt, b_ge, b_eq, b_ne, u_not, ej175_7, ej175_10, ej175_87]
                          apply hK
                          clear hK K
                          simp only [andThen, leaves]
                          refine DWp.ret ?_
                          simp only [andThen, leaves]
                          obtain rfl := Option.some.inj hF
                          exact ⟨by simp, [(Value.bool false)], by simp [ej175_7, ej175_10, ej175_87], A181, rfl, S180.pick [] (by decide) rfl⟩
                        · replace hF := cd_f hb185 hF
                          refine DWp.skip ?_
                          simp only [andThen, leaves]
                          refine DWp.seq ?_
                          refine DWp.region fun K hK => ?_
                          simp [-aBin', -aBin, -aBinI, -aUn, -aNil, -flatV, n_fn, b_add, b_sub, b_mul, b_lt, b_le, b_gt, b_ge, b_eq, b_ne, u_not, ej175_7, ej175_10, ej175_87]
                          apply hK
                          clear hK K
                          simp only [andThen, leaves]
                          refine DWp.ret ?_
                          obtain rfl := Option.some.inj hF
                          exact ⟨by simp, [(Value.bool true)], by simp [ej175_7, ej175_10, ej175_87], A181, rfl, S180.pick [] (by decide) rfl⟩
end Go.Proofs.Ytbckijeffiofdaa.AL

/- The walks of functions, each with its Lean function: spec.ahText, spec.meText, spec.PieceTexts, impl.systemText, impl.meanderText, cmp.isNaN[string], cmp.Less[string], slices.insertionSortOrdered[string], slices.siftDownOrdered[string], slices.heapSortOrdered[string]. No condition. -/
import Derived.Test.YtbckijeffiofdaaG1
import Derived.Test.YtbckijeffiofdaaG10
import Derived.Test.YtbckijeffiofdaaG11
import Derived.Test.YtbckijeffiofdaaG12
import Derived.Test.YtbckijeffiofdaaG2
import Derived.Test.YtbckijeffiofdaaG3
import Derived.Test.YtbckijeffiofdaaG4
import Derived.Test.YtbckijeffiofdaaG5
import Derived.Test.YtbckijeffiofdaaG6
import Derived.Test.YtbckijeffiofdaaG7
import Derived.Test.YtbckijeffiofdaaG8
import Derived.Test.YtbckijeffiofdaaG9
import Derived.Test.YtbckijeffiofdaaALD
import Derived.Test.YtbckijeffiofdaaProg
import Derived.KernelRfl
namespace Go.Proofs.Ytbckijeffiofdaa.AL
open Go Go.RowKit
set_option linter.unusedVariables false
set_option linter.unusedSimpArgs false
set_option maxRecDepth 4096
theorem ag_9 : aggT Try.prog 9 = some false := by kernel_rfl
theorem ei_5 : einfo Try.prog 5 = some ⟨1, 1, .int .u8 0⟩ := by kernel_rfl
theorem ei_9 : einfo Try.prog 9 = some ⟨1, 16, .string (ByteArray.mk #[])⟩ := by kernel_rfl
theorem el_59 : elemT Try.prog 59 = some 9 := by kernel_rfl
theorem el_64 : elemT Try.prog 64 = some 5 := by kernel_rfl
theorem sz_9 : sizeT Try.prog 9 = some 1 := by kernel_rfl
theorem us_64 : Try.prog.underlying 64 = some (.slice 5) := by kernel_rfl
def F_spec_ahText_L1 (fu : Nat) (k1_0 : List Int) (k1_1 : Int) : Nat → ByteArray → Int → Option (ByteArray × Int)
  | 0, _, _ => none
  | n + 1, y1_3, y1_8 =>
    bif (ilt y1_8 k1_1) then
      gd (inL k1_0 y1_8) (
      bif (ilt y1_8 (gat 0 k1_0 y1_8)) then
        gd (y1_3.size + (ByteArray.mk #[40]).size ≤ 9223372036854775807) (
        F_spec_ahText_L1 fu k1_0 k1_1 n (sapp y1_3 (ByteArray.mk #[40])) (iadd .i64 y1_8 1))
      else
        gd (y1_3.size + (ByteArray.mk #[41]).size ≤ 9223372036854775807) (
        F_spec_ahText_L1 fu k1_0 k1_1 n (sapp y1_3 (ByteArray.mk #[41])) (iadd .i64 y1_8 1)))
    else
      some (y1_3, y1_8)
def F_spec_ahText (fu : Nat) (x0 : List Int) : Option (ByteArray) :=
  bd (F_spec_ahText_L1 fu x0 (llen x0) fu (ByteArray.mk #[]) 0) fun s1 =>
  some s1.1
theorem F_spec_ahText_w {fu : Nat} {H : AH} {v0 : Value} {x0 : List Int} {r : (ByteArray)} (hx0 : Sl H v0 (ints x0)) (hF : F_spec_ahText fu x0 = some r) :
    ACallT Try.prog 146 [v0] H (fun u G => AgB (Fr H) H G ∧ u = (Value.string r) ∧ Sep G (Fr H) []) := by
  refine ACallT.of_body (nt := 22) (rs := [.tmp 2]) Try.func146 rfl rfl rfl rfl ?_
  have A0 : AgB (Fr H) H H := .refl _ _
  have S0 : Sep H (Fr H) [] := .nil
  have hB := Fr.up H
  unfold F_spec_ahText at hF
  refine DWp.seq ?_
  refine DWp.region fun K hK => ?_
  simp [-aBin', -aBin, -aBinI, -aUn, -aNil, -flatV, n_fn, b_add, b_sub, b_mul, b_lt, b_le, b_gt, b_ge, b_eq, b_ne, u_not]
  apply hK
  clear hK K
  simp only [andThen, leaves]
  refine DWp.seq ?_
  refine DWp.region fun K hK => ?_
  simp [-aBin', -aBin, -aBinI, -aUn, -aNil, -flatV, n_fn, b_add, b_sub, b_mul, b_lt, b_le, b_gt, b_ge, b_eq, b_ne, u_not]
  apply hK
  clear hK K
  simp only [andThen, leaves]
  refine DWp.seq ?_
  refine DWp.seq ?_
  have q1 := lenG (P := Try.prog) (hx0.agree A0.agree) el_22
  refine DWp.region fun K hK => ?_
  simp [-aBin', -aBin, -aBinI, -aUn, -aNil, -flatV, n_fn, b_add, b_sub, b_mul, b_lt, b_le, b_gt, b_ge, b_eq, b_ne, u_not, q1]
  apply hK
  clear hK K
  simp only [andThen, leaves]
  refine DWp.block ?_
  obtain ⟨s2, hL3, hF⟩ := bd_some hF
  have S4 := S0.pick [] (by decide) rfl
  refine DWp.loop (fun n env G => ∃ y1_3 : ByteArray, ∃ y1_8 : Int, F_spec_ahText_L1 fu x0 (llen x0) n y1_3 y1_8 = some s2 ∧ Sep G (Fr H) [] ∧ AgB (Fr H) H G ∧ env 3 = some (Value.string y1_3) ∧ env 6 = some v0 ∧ env 7 = some (Value.int .i64 (llen x0)) ∧ env 8 = some (Value.int .i64 y1_8)) fu ⟨(ByteArray.mk #[]), 0, hL3, S4, A0, by simp [], by simp [], by simp [], by simp []⟩ ?_
  rintro n1 env1 G1_ ⟨y1_3, y1_8, hL3, S1_, A1_, e1_3, e1_6, e1_7, e1_8⟩
  cases n1 with
  | zero => cases hL3
  | succ n1 =>
    simp only [F_spec_ahText_L1] at hL3
    refine DWp.seq ?_
    refine DWp.region fun K hK => ?_
    simp [-aBin', -aBin, -aBinI, -aUn, -aNil, -flatV, n_fn, b_add, b_sub, b_mul, b_lt, b_le, b_gt, b_ge, b_eq, b_ne, u_not, e1_3, e1_6, e1_7, e1_8]
    apply hK
    clear hK K
    simp only [andThen, leaves]
    refine DWp.seq ?_
    refine DWp.cond' (t := (ilt y1_8 (llen x0))) (by simp [e1_3, e1_6, e1_7, e1_8]) (fun hb5 => ?_) (fun hb5 => ?_)
    · replace hL3 := cd_t hb5 hL3
      refine DWp.skip ?_
      simp only [andThen, leaves]
      refine DWp.seq ?_
      refine DWp.block ?_
      refine DWp.seq ?_
      obtain ⟨g6, hL3⟩ := gd_some hL3
      have q7 := idxG (P := Try.prog) (kk := .i64) (hx0.agree A1_.agree) el_22 sz_3 g6
      have q8 := loadG (P := Try.prog) (hx0.agree A1_.agree) sz_3 ag_3 g6 0
      refine DWp.region fun K hK => ?_
      simp [-aBin', -aBin, -aBinI, -aUn, -aNil, -flatV, n_fn, b_add, b_sub, b_mul, b_lt, b_le, b_gt, b_ge, b_eq, b_ne, u_not, e1_3, e1_6, e1_7, e1_8, q7, q8]
      apply hK
      clear hK K
      simp only [andThen, leaves]
      refine DWp.seq ?_
      refine DWp.region fun K hK => ?_
      simp [-aBin', -aBin, -aBinI, -aUn, -aNil, -flatV, n_fn, b_add, b_sub, b_mul, b_lt, b_le, b_gt, b_ge, b_eq, b_ne, u_not, e1_3, e1_6, e1_7, e1_8]
      apply hK
      clear hK K
      simp only [andThen, leaves]
      refine DWp.cond' (t := (ilt y1_8 (gat 0 x0 y1_8))) (by simp [e1_3, e1_6, e1_7, e1_8]) (fun hb9 => ?_) (fun hb9 => ?_)
      · replace hL3 := cd_t hb9 hL3
        obtain ⟨g10, hL3⟩ := gd_some hL3
        refine DWp.region fun K hK => ?_
        simp [-aBin', -aBin, -aBinI, -aUn, -aNil, -flatV, n_fn, b_add, b_sub, b_mul, b_lt, b_le, b_gt, b_ge, b_eq, b_ne, u_not, e1_3, e1_6, e1_7, e1_8, s_add g10]
        apply hK
        clear hK K
        simp only [andThen, leaves]
        refine DWp.region fun K hK => ?_
        simp [-aBin', -aBin, -aBinI, -aUn, -aNil, -flatV, n_fn, b_add, b_sub, b_mul, b_lt, b_le, b_gt, b_ge, b_eq, b_ne, u_not, e1_3, e1_6, e1_7, e1_8]
        apply hK
        clear hK K
        simp only [andThen, leaves]
        have S11 := S1_.pick [] (by decide) rfl
        exact ⟨n1, Nat.lt_succ_self _, (sapp y1_3 (ByteArray.mk #[40])), (iadd .i64 y1_8 1), hL3, S11, A1_, by simp [e1_3, e1_6, e1_7, e1_8], by simp [e1_3, e1_6, e1_7, e1_8], by simp [e1_3, e1_6, e1_7, e1_8], by simp [e1_3, e1_6, e1_7, e1_8]⟩
      · replace hL3 := cd_f hb9 hL3
        obtain ⟨g12, hL3⟩ := gd_some hL3
        refine DWp.region fun K hK => ?_
        simp [-aBin', -aBin, -aBinI, -aUn, -aNil, -flatV, n_fn, b_add, b_sub, b_mul, b_lt, b_le, b_gt, b_ge, b_eq, b_ne, u_not, e1_3, e1_6, e1_7, e1_8, s_add g12]
        apply hK
        clear hK K
        simp only [andThen, leaves]
        refine DWp.region fun K hK => ?_
        simp [-aBin', -aBin, -aBinI, -aUn, -aNil, -flatV, n_fn, b_add, b_sub, b_mul, b_lt, b_le, b_gt, b_ge, b_eq, b_ne, u_not, e1_3, e1_6, e1_7, e1_8]
        apply hK
        clear hK K
        simp only [andThen, leaves]
        have S13 := S1_.pick [] (by decide) rfl
        exact ⟨n1, Nat.lt_succ_self _, (sapp y1_3 (ByteArray.mk #[41])), (iadd .i64 y1_8 1), hL3, S13, A1_, by simp [e1_3, e1_6, e1_7, e1_8], by simp [e1_3, e1_6, e1_7, e1_8], by simp [e1_3, e1_6, e1_7, e1_8], by simp [e1_3, e1_6, e1_7, e1_8]⟩
    · replace hL3 := cd_f hb5 hL3
      refine DWp.exit ?_
      simp only [andThen, leaves, if_true, if_false, reduceIte, Nat.reduceEqDiff]
      obtain rfl := Option.some.inj hL3
      try dsimp only at hF
      refine DWp.seq ?_
      refine DWp.region fun K hK => ?_
      simp [-aBin', -aBin, -aBinI, -aUn, -aNil, -flatV, n_fn, b_add, b_sub, b_mul, b_lt, b_le, b_gt, b_ge, b_eq, b_ne, u_not, e1_3, e1_6, e1_7, e1_8]
      apply hK
      clear hK K
      simp only [andThen, leaves]
      refine DWp.ret ?_
      obtain rfl := Option.some.inj hF
      exact ⟨by simp, [(Value.string y1_3)], by simp [e1_3, e1_6, e1_7, e1_8], A1_, rfl, S1_.pick [] (by decide) rfl⟩
def F_spec_meText (fu : Nat) (x0_0 : List Int) (x0_1 : List Int) : Option (ByteArray) :=
  bd (F_spec_ahText fu x0_0) fun r1 =>
  gd (r1.size + (ByteArray.mk #[124]).size ≤ 9223372036854775807) (
  bd (F_spec_ahText fu x0_1) fun r2 =>
  gd ((sapp r1 (ByteArray.mk #[124])).size + r2.size ≤ 9223372036854775807) (
  some (sapp (sapp r1 (ByteArray.mk #[124])) r2)))
theorem F_spec_meText_w {fu : Nat} {H : AH} {v0_0 : Value} {v0_1 : Value} {x0_0 : List Int} {x0_1 : List Int} {r : (ByteArray)} (hx0_0 : Sl H v0_0 (ints x0_0)) (hx0_1 : Sl H v0_1 (ints x0_1)) (hF : F_spec_meText fu x0_0 x0_1 = some r) :
    ACallT Try.prog 120 [(Value.agg #[v0_0, v0_1])] H (fun u G => AgB (Fr H) H G ∧ u = (Value.string r) ∧ Sep G (Fr H) []) := by
  refine ACallT.of_body (nt := 11) (rs := [.tmp 2]) Try.func120 rfl rfl rfl rfl ?_
  have A0 : AgB (Fr H) H H := .refl _ _
  have S0 : Sep H (Fr H) [] := .nil
  have hB := Fr.up H
  unfold F_spec_meText at hF
  refine DWp.seq ?_
  obtain ⟨G2, p4, q5, q6, a7, S1⟩ := S0.boxT (hB.le A0.1) 28 [v0_0, v0_1]
  have A3 := A0.ext (hB.le A0.1) a7
  replace S1 : Sep G2 (Fr H) [AL.box p4 [v0_0, v0_1]] := S1
  refine DWp.region fun K hK => ?_
  simp [-aBin', -aBin, -aBinI, -aUn, -aNil, -flatV, n_fn, b_add, b_sub, b_mul, b_lt, b_le, b_gt, b_ge, b_eq, b_ne, u_not, q5, q6, a7.to_pre, cells_agg]
  apply hK
  clear hK K
  simp only [andThen, leaves]
  refine DWp.seq ?_
  have q8 := S1.fieldT (P := Try.prog) (k := 0) rfl fa_28_0
  have q9 := S1.loadF (P := Try.prog) (k := 0) rfl sz_22 ag_22 (off := 0) rfl
  obtain ⟨r1, hc10, hF⟩ := bd_some hF
  refine DWp.drawn (B := [0, 1, 3, 7, 0, 16, 55, 127, 255]) 9 mixed (by kernel_rfl) (by decide) fun K hK => ?_
  simp [-aBin', -aBin, -aBinI, -aUn, -aNil, -flatV, n_fn, b_add, b_sub, b_mul, b_lt, b_le, b_gt, b_ge, b_eq, b_ne, u_not, q8, q9, ((hx0_0.agree A3.agree).tup)]
  refine CallD.t (F_spec_ahText_w (fu := fu) (hx0_0.agree A3.agree) hc10) ?_
  rintro _ G12 ⟨a15, rfl, S16⟩
  have A14 := A3.ext (hB.le A3.1) a15.agree
  have S13 : Sep G12 (Fr H) [AL.box p4 [v0_0, v0_1]] := S1.app a15.agree S16 (fun _ h => h) (hB.le A3.1)
  obtain ⟨g17, hF⟩ := gd_some hF
  have q18 := S13.fieldT (P := Try.prog) (k := 0) rfl fa_28_1
  have q19 := S13.loadF (P := Try.prog) (k := 0) rfl sz_22 ag_22 (off := 1) rfl
  obtain ⟨r2, hc20, hF⟩ := bd_some hF
  simp [-aBin', -aBin, -aBinI, -aUn, -aNil, -flatV, n_fn, b_add, b_sub, b_mul, b_lt, b_le, b_gt, b_ge, b_eq, b_ne, u_not, q8, q9, a15.pre, s_add g17, q18, q19, ((hx0_1.agree A14.agree).tup)]
  refine CallD.t (F_spec_ahText_w (fu := fu) (hx0_1.agree A14.agree) hc20) ?_
  rintro _ G22 ⟨a25, rfl, S26⟩
  have A24 := A14.ext (hB.le A14.1) a25.agree
  have S23 : Sep G22 (Fr H) [AL.box p4 [v0_0, v0_1]] := S13.app a25.agree S26 (fun _ h => h) (hB.le A14.1)
  obtain ⟨g27, hF⟩ := gd_some hF
  simp [-aBin', -aBin, -aBinI, -aUn, -aNil, -flatV, n_fn, b_add, b_sub, b_mul, b_lt, b_le, b_gt, b_ge, b_eq, b_ne, u_not, q8, q9, a15.pre, s_add g17, q18, q19, a25.pre, s_add g27]
  apply hK
  clear hK K
  simp only [andThen, leaves]
  refine DWp.ret ?_
  obtain rfl := Option.some.inj hF
  exact ⟨by simp, [(Value.string (sapp (sapp r1 (ByteArray.mk #[124])) r2))], by simp [], A24, rfl, S23.pick [] (by decide) rfl⟩
def F_spec_PieceTexts_L2 (fu : Nat) (k2_0 : List ByteArray) (k2_1 : ByteArray) (k2_2 : List (List Int × List Int)) (k2_3 : Int) (k2_4 : Int) : Nat → Int → Option (Int)
  | 0, _ => none
  | n + 1, y2_8 =>
    bif (ilt y2_8 (llen k2_0)) then
      gd (inL k2_0 y2_8) (
      bif (sle' (gat (ByteArray.mk #[]) k2_0 y2_8) k2_1) then
        F_spec_PieceTexts_L2 fu k2_0 k2_1 k2_2 k2_3 k2_4 n (iadd .i64 y2_8 1)
      else
        some y2_8)
    else
      some y2_8
def F_spec_PieceTexts_L1 (fu : Nat) (k1_0 : List (List Int × List Int)) (k1_1 : Int) : Nat → List ByteArray → Int → Option (List ByteArray × Int)
  | 0, _, _ => none
  | n + 1, l1_0, y1_22 =>
    bif (ilt y1_22 k1_1) then
      gd (inL k1_0 y1_22) (
      bd (F_spec_meText fu ((gat pnil k1_0 y1_22).1) ((gat pnil k1_0 y1_22).2)) fun r3 =>
      bd (
        bd (F_spec_PieceTexts_L2 fu l1_0 r3 k1_0 k1_1 y1_22 fu 0) fun s2 =>
        some s2) fun s65 =>
      gd (subL l1_0 0 s65) (
      gd ((@List.nil ByteArray).length + (lsub l1_0 0 s65).length ≤ 4294967296) (
      gd ((lapp (@List.nil ByteArray) (lsub l1_0 0 s65)).length + [r3].length ≤ 4294967296) (
      gd (subL l1_0 s65 (llen l1_0)) (
      gd ((lapp (lapp (@List.nil ByteArray) (lsub l1_0 0 s65)) [r3]).length + (lsub l1_0 s65 (llen l1_0)).length ≤ 4294967296) (
      F_spec_PieceTexts_L1 fu k1_0 k1_1 n (lapp (lapp (lapp (@List.nil ByteArray) (lsub l1_0 0 s65)) [r3]) (lsub l1_0 s65 (llen l1_0))) (iadd .i64 y1_22 1)))))))
    else
      some (l1_0, y1_22)
def F_spec_PieceTexts (fu : Nat) (x0_0 : List Int) (x0_1 : List Int) : Option (List ByteArray × Bool) :=
  bd (
    bd (F_spec_mePair fu x0_0 x0_1) fun r1 =>
    bif (bnot r1) then
      some true
    else
      some (ieq (llen x0_0) 0)) fun s8 =>
  bif s8 then
    some ([], false)
  else
    bd (F_spec_siPieces fu x0_0 x0_1 false) fun r2 =>
    bd (F_spec_PieceTexts_L1 fu r2 (llen r2) fu (@List.nil ByteArray) 0) fun s1 =>
    some (s1.1, true)
theorem F_spec_PieceTexts_w {fu : Nat} {H : AH} {v0_0 : Value} {v0_1 : Value} {x0_0 : List Int} {x0_1 : List Int} {r : (List ByteArray × Bool)} (hx0_0 : Sl H v0_0 (ints x0_0)) (hx0_1 : Sl H v0_1 (ints x0_1)) (hF : F_spec_PieceTexts fu x0_0 x0_1 = some r) :
    ACallT Try.prog 63 [(Value.agg #[v0_0, v0_1])] H (fun u G => AgB (Fr H) H G ∧ ∃ u0 : Value, u = (Value.tuple #[u0, (Value.bool r.2)]) ∧ Sep G (Fr H) [flat u0 9 (strs r.1)]) := by
  refine ACallT.of_body (nt := 57) (rs := [.tmp 2, .tmp 3]) Try.func63 rfl rfl rfl rfl ?_
  have A0 : AgB (Fr H) H H := .refl _ _
  have S0 : Sep H (Fr H) [] := .nil
  have hB := Fr.up H
  unfold F_spec_PieceTexts at hF
  refine DWp.seq ?_
  obtain ⟨G2, p4, q5, q6, a7, S1⟩ := S0.boxT (hB.le A0.1) 28 [v0_0, v0_1]
  have A3 := A0.ext (hB.le A0.1) a7
  replace S1 : Sep G2 (Fr H) [AL.box p4 [v0_0, v0_1]] := S1
  refine DWp.region fun K hK => ?_
  simp [-aBin', -aBin, -aBinI, -aUn, -aNil, -flatV, n_fn, b_add, b_sub, b_mul, b_lt, b_le, b_gt, b_ge, b_eq, b_ne, u_not, q5, q6, a7.to_pre, cells_agg]
  apply hK
  clear hK K
  simp only [andThen, leaves]
  refine DWp.seq ?_
  obtain ⟨s8, hL9, hF⟩ := bd_some hF
  refine DWp.seq (DWp.join (fun env G => Sep G (Fr H) [AL.box p4 [v0_0, v0_1]] ∧ AgB (Fr H) H G ∧ env 1 = some p4 ∧ env 18 = some (Value.bool s8)) ?_ ?_)
  ·
    have q11 := S1.loadAgg (P := Try.prog) (k := 0) rfl sz_28 ag_28 rfl
    obtain ⟨r1, hc12, hL9⟩ := bd_some hL9
    refine DWp.region fun K hK => ?_
    simp [-aBin', -aBin, -aBinI, -aUn, -aNil, -flatV, n_fn, b_add, b_sub, b_mul, b_lt, b_le, b_gt, b_ge, b_eq, b_ne, u_not, q11, ((hx0_0.agree A3.agree).tup), ((hx0_1.agree A3.agree).tup)]
    refine CallD.t (F_spec_mePair_w (fu := fu) (hx0_0.agree A3.agree) (hx0_1.agree A3.agree) hc12) ?_
    rintro _ G14 ⟨a17, rfl, S18⟩
    have A16 := A3.ext (hB.le A3.1) a17.agree
    have S15 : Sep G14 (Fr H) [AL.box p4 [v0_0, v0_1]] := S1.app a17.agree S18 (fun _ h => h) (hB.le A3.1)
    rcases Bool.eq_false_or_eq_true (bnot r1) with hb19 | hb19
    · replace hL9 := cd_t hb19 hL9
      simp [-aBin', -aBin, -aBinI, -aUn, -aNil, -flatV, n_fn, b_add, b_sub, b_mul, b_lt, b_le, b_gt, b_ge, b_eq, b_ne, u_not, hb19, q11, a17.pre]
      apply hK
      clear hK K
      simp only [andThen, leaves]
      have S20 := S15.pick [0] (by decide) rfl
      obtain rfl := Option.some.inj hL9
      exact ⟨S20, A16, by simp [], by simp []⟩
    · replace hL9 := cd_f hb19 hL9
      have q21 := S15.fieldT (P := Try.prog) (k := 0) rfl fa_28_0
      have q22 := S15.loadF (P := Try.prog) (k := 0) rfl sz_22 ag_22 (off := 0) rfl
      have q23 := lenG (P := Try.prog) (hx0_0.agree A16.agree) el_22
      simp [-aBin', -aBin, -aBinI, -aUn, -aNil, -flatV, n_fn, b_add, b_sub, b_mul, b_lt, b_le, b_gt, b_ge, b_eq, b_ne, u_not, hb19, q11, a17.pre, q21, q22, q23]
      apply hK
      clear hK K
      simp only [andThen, leaves]
      have S24 := S15.pick [0] (by decide) rfl
      obtain rfl := Option.some.inj hL9
      exact ⟨S24, A16, by simp [], by simp []⟩
  · rintro env Gj25 ⟨Sj25, Aj25, ej25_1, ej25_18⟩
    refine DWp.cond' (t := s8) (by simp [ej25_1, ej25_18]) (fun hb26 => ?_) (fun hb26 => ?_)
    · replace hF := cd_t hb26 hF
      refine DWp.seq ?_
      refine DWp.region fun K hK => ?_
      simp [-aBin', -aBin, -aBinI, -aUn, -aNil, -flatV, n_fn, b_add, b_sub, b_mul, b_lt, b_le, b_gt, b_ge, b_eq, b_ne, u_not, ej25_1, ej25_18]
      apply hK
      clear hK K
      simp only [andThen, leaves]
      refine DWp.ret ?_
      simp only [andThen, leaves]
      have S27 := Sj25.nilItem (hB.le Aj25.1) 9
      obtain rfl := Option.some.inj hF
      exact ⟨by simp, [(Value.slice none 0 0), (Value.bool false)], by simp [ej25_1, ej25_18], Aj25, (Value.slice none 0 0), rfl, S27.pick [1] (by decide) rfl⟩
    · replace hF := cd_f hb26 hF
      refine DWp.skip ?_
      simp only [andThen, leaves]
      refine DWp.seq ?_
      refine DWp.region fun K hK => ?_
      simp [-aBin', -aBin, -aBinI, -aUn, -aNil, -flatV, n_fn, b_add, b_sub, b_mul, b_lt, b_le, b_gt, b_ge, b_eq, b_ne, u_not, ej25_1, ej25_18]
      apply hK
      clear hK K
      simp only [andThen, leaves]
      refine DWp.seq ?_
      refine DWp.seq ?_
      have q28 := Sj25.loadAgg (P := Try.prog) (k := 0) rfl sz_28 ag_28 rfl
      obtain ⟨r2, hc29, hF⟩ := bd_some hF
      refine DWp.region fun K hK => ?_
      simp [-aBin', -aBin, -aBinI, -aUn, -aNil, -flatV, n_fn, b_add, b_sub, b_mul, b_lt, b_le, b_gt, b_ge, b_eq, b_ne, u_not, ej25_1, ej25_18, q28, ((hx0_0.agree Aj25.agree).tup), ((hx0_1.agree Aj25.agree).tup)]
      refine CallD.t (F_spec_siPieces_w (fu := fu) (hx0_0.agree Aj25.agree) (hx0_1.agree Aj25.agree) hc29) ?_
      rintro c30_u0 G31 ⟨a34, _, c30_C0, rfl, S35⟩
      have A33 := Aj25.ext (hB.le Aj25.1) a34.agree
      have S32 : Sep G31 (Fr H) [AL.box p4 [v0_0, v0_1], rowsP c30_u0 28 3 c30_C0 r2] := Sj25.app a34.agree S35 (fun _ h => h) (hB.le Aj25.1)
      have q36 := (S32.rdP (k := 1) rfl).lenG (P := Try.prog) el_46
      simp [-aBin', -aBin, -aBinI, -aUn, -aNil, -flatV, n_fn, b_add, b_sub, b_mul, b_lt, b_le, b_gt, b_ge, b_eq, b_ne, u_not, ej25_1, ej25_18, q28, a34.pre, q36]
      apply hK
      clear hK K
      simp only [andThen, leaves]
      refine DWp.block ?_
      have S37 := S32.nilItem (hB.le A33.1) 9
      obtain ⟨s38, hL39, hF⟩ := bd_some hF
      have S40 := S37.pick [2, 1] (by decide) rfl
      refine DWp.loop (fun n env G => ∃ l1_0 : List ByteArray, ∃ y1_22 : Int, ∃ w1_0 : Value, F_spec_PieceTexts_L1 fu r2 (llen r2) n l1_0 y1_22 = some s38 ∧ Sep G (Fr H) [flat w1_0 9 (strs l1_0), rowsP c30_u0 28 3 c30_C0 r2] ∧ AgB (Fr H) H G ∧ env 4 = some w1_0 ∧ env 20 = some c30_u0 ∧ env 21 = some (Value.int .i64 (llen r2)) ∧ env 22 = some (Value.int .i64 y1_22)) fu ⟨(@List.nil ByteArray), 0, (Value.slice none 0 0), hL39, S40, A33, by simp [ej25_1, ej25_18], by simp [ej25_1, ej25_18], by simp [ej25_1, ej25_18], by simp [ej25_1, ej25_18]⟩ ?_
      rintro n1 env1 G1_ ⟨l1_0, y1_22, w1_0, hL39, S1_, A1_, e1_4, e1_20, e1_21, e1_22⟩
      cases n1 with
      | zero => cases hL39
      | succ n1 =>
        simp only [F_spec_PieceTexts_L1] at hL39
        refine DWp.seq ?_
        refine DWp.region fun K hK => ?_
        simp [-aBin', -aBin, -aBinI, -aUn, -aNil, -flatV, n_fn, b_add, b_sub, b_mul, b_lt, b_le, b_gt, b_ge, b_eq, b_ne, u_not, e1_4, e1_20, e1_21, e1_22]
        apply hK
        clear hK K
        simp only [andThen, leaves]
        refine DWp.seq ?_
        refine DWp.cond' (t := (ilt y1_22 (llen r2))) (by simp [e1_4, e1_20, e1_21, e1_22]) (fun hb41 => ?_) (fun hb41 => ?_)
        · replace hL39 := cd_t hb41 hL39
          refine DWp.skip ?_
          simp only [andThen, leaves]
          refine DWp.seq ?_
          refine DWp.block ?_
          refine DWp.seq ?_
          obtain ⟨g42, hL39⟩ := gd_some hL39
          have q43 := (S1_.rdP (k := 1) rfl).idxG (P := Try.prog) (kk := .i64) el_46 sz_28 g42
          have q44 := (S1_.rdP (k := 1) rfl).loadG (P := Try.prog) sz_28 ag_28 g42
          obtain ⟨G46, p48, q49, q51, a50, S45⟩ := S1_.allocT (P := Try.prog) (hB.le A1_.1) ze_28 rfl
          have A47 := A1_.ext (hB.le A1_.1) a50
          replace S45 : Sep G46 (Fr H) [flat w1_0 9 (strs l1_0), rowsP c30_u0 28 3 c30_C0 r2, AL.box p48 [(Value.slice none 0 0), (Value.slice none 0 0)]] := S45
          obtain ⟨G52, q53, S54, a56⟩ := S45.putAgg (P := Try.prog) (k := 2) (xs := [(pc c30_C0 y1_22 0), (pc c30_C0 y1_22 1)]) rfl (hB.le A47.1) sz_28 rfl rfl
          have A55 := A47.trans a56
          replace S54 : Sep G52 (Fr H) [flat w1_0 9 (strs l1_0), rowsP c30_u0 28 3 c30_C0 r2, AL.box p48 [(pc c30_C0 y1_22 0), (pc c30_C0 y1_22 1)]] := S54
          refine DWp.region fun K hK => ?_
          simp [-aBin', -aBin, -aBinI, -aUn, -aNil, -flatV, n_fn, b_add, b_sub, b_mul, b_lt, b_le, b_gt, b_ge, b_eq, b_ne, u_not, e1_4, e1_20, e1_21, e1_22, q43, q44, q49, q51, a50.to_pre, q53]
          apply hK
          clear hK K
          simp only [andThen, leaves]
          refine DWp.seq ?_
          have q57 := S54.loadAgg (P := Try.prog) (k := 2) rfl sz_28 ag_28 rfl
          obtain ⟨r3, hc58, hL39⟩ := bd_some hL39
          refine DWp.region fun K hK => ?_
          simp [-aBin', -aBin, -aBinI, -aUn, -aNil, -flatV, n_fn, b_add, b_sub, b_mul, b_lt, b_le, b_gt, b_ge, b_eq, b_ne, u_not, e1_4, e1_20, e1_21, e1_22, q57, (((S54.rdP (k := 1) rfl).row0 g42).tup), (((S54.rdP (k := 1) rfl).row1 g42).tup)]
          refine CallD.t (F_spec_meText_w (fu := fu) ((S54.rdP (k := 1) rfl).row0 g42) ((S54.rdP (k := 1) rfl).row1 g42) hc58) ?_
          rintro _ G60 ⟨a63, rfl, S64⟩
          have A62 := A55.ext (hB.le A55.1) a63.agree
          have S61 : Sep G60 (Fr H) [flat w1_0 9 (strs l1_0), rowsP c30_u0 28 3 c30_C0 r2, AL.box p48 [(pc c30_C0 y1_22 0), (pc c30_C0 y1_22 1)]] := S54.app a63.agree S64 (fun _ h => h) (hB.le A55.1)
          simp [-aBin', -aBin, -aBinI, -aUn, -aNil, -flatV, n_fn, b_add, b_sub, b_mul, b_lt, b_le, b_gt, b_ge, b_eq, b_ne, u_not, e1_4, e1_20, e1_21, e1_22, q57, a63.pre]
          apply hK
          clear hK K
          simp only [andThen, leaves]
          refine DWp.seq ?_
          refine DWp.region fun K hK => ?_
          simp [-aBin', -aBin, -aBinI, -aUn, -aNil, -flatV, n_fn, b_add, b_sub, b_mul, b_lt, b_le, b_gt, b_ge, b_eq, b_ne, u_not, e1_4, e1_20, e1_21, e1_22]
          apply hK
          clear hK K
          simp only [andThen, leaves]
          obtain ⟨s65, hL66, hL39⟩ := bd_some hL39
          refine DWp.seq (DWp.join (fun env G => Sep G (Fr H) [flat w1_0 9 (strs l1_0), rowsP c30_u0 28 3 c30_C0 r2] ∧ AgB (Fr H) H G ∧ env 4 = some w1_0 ∧ env 7 = some (Value.string r3) ∧ env 8 = some (Value.int .i64 s65) ∧ env 20 = some c30_u0 ∧ env 21 = some (Value.int .i64 (llen r2)) ∧ env 22 = some (Value.int .i64 y1_22)) ?_ ?_)
          ·
            refine DWp.block ?_
            obtain ⟨s68, hL69, hL66⟩ := bd_some hL66
            have S70 := S61.pick [0, 1] (by decide) rfl
            refine DWp.loop (fun n env G => ∃ y2_8 : Int, F_spec_PieceTexts_L2 fu l1_0 r3 r2 (llen r2) y1_22 n y2_8 = some s68 ∧ Sep G (Fr H) [flat w1_0 9 (strs l1_0), rowsP c30_u0 28 3 c30_C0 r2] ∧ AgB (Fr H) H G ∧ env 4 = some w1_0 ∧ env 7 = some (Value.string r3) ∧ env 8 = some (Value.int .i64 y2_8) ∧ env 20 = some c30_u0 ∧ env 21 = some (Value.int .i64 (llen r2)) ∧ env 22 = some (Value.int .i64 y1_22)) fu ⟨0, hL69, S70, A62, by simp [e1_4, e1_20, e1_21, e1_22], by simp [e1_4, e1_20, e1_21, e1_22], by simp [e1_4, e1_20, e1_21, e1_22], by simp [e1_4, e1_20, e1_21, e1_22], by simp [e1_4, e1_20, e1_21, e1_22], by simp [e1_4, e1_20, e1_21, e1_22]⟩ ?_
            rintro n3 env3 G3_ ⟨y2_8, hL69, S3_, A3_, e3_4, e3_7, e3_8, e3_20, e3_21, e3_22⟩
            cases n3 with
            | zero => cases hL69
            | succ n3 =>
              simp only [F_spec_PieceTexts_L2] at hL69
              refine DWp.seq ?_
              refine DWp.seq ?_
              have q71 := lenG (P := Try.prog) (S3_.sl (k := 0) rfl) el_59
              rcases Bool.eq_false_or_eq_true (ilt y2_8 (llen l1_0)) with hb72 | hb72
              · replace hL69 := cd_t hb72 hL69
                obtain ⟨g73, hL69⟩ := gd_some hL69
                have q74 := idxG (P := Try.prog) (kk := .i64) (S3_.sl (k := 0) rfl) el_59 sz_9 g73
                have q75 := loadG (P := Try.prog) (S3_.sl (k := 0) rfl) sz_9 ag_9 g73 (ByteArray.mk #[])
                refine DWp.region fun K hK => ?_
                simp [-aBin', -aBin, -aBinI, -aUn, -aNil, -flatV, n_fn, b_add, b_sub, b_mul, b_lt, b_le, b_gt, b_ge, b_eq, b_ne, u_not, e3_4, e3_7, e3_8, e3_20, e3_21, e3_22, hb72, q71, q74, q75, s_le]
                apply hK
                clear hK K
                simp only [andThen, leaves]
                refine DWp.cond' (t := (sle' (gat (ByteArray.mk #[]) l1_0 y2_8) r3)) (by simp [e3_4, e3_7, e3_8, e3_20, e3_21, e3_22]) (fun hb76 => ?_) (fun hb76 => ?_)
                · replace hL69 := cd_t hb76 hL69
                  refine DWp.skip ?_
                  simp only [andThen, leaves]
                  refine DWp.block ?_
                  refine DWp.region fun K hK => ?_
                  simp [-aBin', -aBin, -aBinI, -aUn, -aNil, -flatV, n_fn, b_add, b_sub, b_mul, b_lt, b_le, b_gt, b_ge, b_eq, b_ne, u_not, e3_4, e3_7, e3_8, e3_20, e3_21, e3_22]
                  apply hK
                  clear hK K
                  simp only [andThen, leaves]
                  have S77 := S3_.pick [0, 1] (by decide) rfl
                  exact ⟨n3, Nat.lt_succ_self _, (iadd .i64 y2_8 1), hL69, S77, A3_, by simp [e3_4, e3_7, e3_8, e3_20, e3_21, e3_22], by simp [e3_4, e3_7, e3_8, e3_20, e3_21, e3_22], by simp [e3_4, e3_7, e3_8, e3_20, e3_21, e3_22], by simp [e3_4, e3_7, e3_8, e3_20, e3_21, e3_22], by simp [e3_4, e3_7, e3_8, e3_20, e3_21, e3_22], by simp [e3_4, e3_7, e3_8, e3_20, e3_21, e3_22]⟩
                · replace hL69 := cd_f hb76 hL69
                  refine DWp.exit ?_
                  simp only [andThen, leaves, if_true, if_false, reduceIte, Nat.reduceEqDiff]
                  obtain rfl := Option.some.inj hL69
                  have S78 := S3_.pick [0, 1] (by decide) rfl
                  obtain rfl := Option.some.inj hL66
                  exact ⟨S78, A3_, by simp [e3_4, e3_7, e3_8, e3_20, e3_21, e3_22], by simp [e3_4, e3_7, e3_8, e3_20, e3_21, e3_22], by simp [e3_4, e3_7, e3_8, e3_20, e3_21, e3_22], by simp [e3_4, e3_7, e3_8, e3_20, e3_21, e3_22], by simp [e3_4, e3_7, e3_8, e3_20, e3_21, e3_22], by simp [e3_4, e3_7, e3_8, e3_20, e3_21, e3_22]⟩
              · replace hL69 := cd_f hb72 hL69
                refine DWp.region fun K hK => ?_
                simp [-aBin', -aBin, -aBinI, -aUn, -aNil, -flatV, n_fn, b_add, b_sub, b_mul, b_lt, b_le, b_gt, b_ge, b_eq, b_ne, u_not, e3_4, e3_7, e3_8, e3_20, e3_21, e3_22, hb72, q71]
                apply hK
                clear hK K
                simp only [andThen, leaves]
                refine DWp.cf (by simp [e3_4, e3_7, e3_8, e3_20, e3_21, e3_22, bnot]) ?_
                refine DWp.exit ?_
                simp only [andThen, leaves, if_true, if_false, reduceIte, Nat.reduceEqDiff]
                obtain rfl := Option.some.inj hL69
                have S79 := S3_.pick [0, 1] (by decide) rfl
                obtain rfl := Option.some.inj hL66
                exact ⟨S79, A3_, by simp [e3_4, e3_7, e3_8, e3_20, e3_21, e3_22], by simp [e3_4, e3_7, e3_8, e3_20, e3_21, e3_22], by simp [e3_4, e3_7, e3_8, e3_20, e3_21, e3_22], by simp [e3_4, e3_7, e3_8, e3_20, e3_21, e3_22], by simp [e3_4, e3_7, e3_8, e3_20, e3_21, e3_22], by simp [e3_4, e3_7, e3_8, e3_20, e3_21, e3_22]⟩
          · rintro env Gj80 ⟨Sj80, Aj80, ej80_4, ej80_7, ej80_8, ej80_20, ej80_21, ej80_22⟩
            refine DWp.seq ?_
            obtain ⟨v81, G82, q83, S84, a86, _, _⟩ := Sj80.lit0 (P := Try.prog) (t := 59) (hB.le Aj80.1) el_59 ei_9 rfl
            have A85 := Aj80.ext (hB.le Aj80.1) a86
            replace S84 : Sep G82 (Fr H) [flat w1_0 9 (strs l1_0), rowsP c30_u0 28 3 c30_C0 r2, flat1 v81 9 (strs (@List.nil ByteArray))] := S84
            obtain ⟨g88, hL39⟩ := gd_some hL39
            have q89 := aSub01 (P := Try.prog) (t := 59) (S84.sl (k := 0) rfl) el_59 sz_9 g88
            obtain ⟨g90, hL39⟩ := gd_some hL39
            obtain ⟨v96, G91, q92, S93, a95, _, _⟩ := S84.append1 (f := Value.string) (xs := (@List.nil ByteArray)) (ys := (lsub l1_0 0 s65)) (P := Try.prog) (t := 59) (t2 := 59) (k := 2) rfl (hB.le A85.1) el_59 el_59 ei_9 rfl (subSl (S84.sl (k := 0) rfl) g88) g90
            have A94 := A85.trans a95
            replace S93 : Sep G91 (Fr H) [flat w1_0 9 (strs l1_0), rowsP c30_u0 28 3 c30_C0 r2, flat v96 9 (strs (lapp (@List.nil ByteArray) (lsub l1_0 0 s65)))] := S93
            obtain ⟨v97, G98, q99, S100, a102, _, _⟩ := S93.lit1 (P := Try.prog) (t := 59) (hB.le A94.1) el_59 ei_9 rfl (Value.string r3) rfl rfl
            have A101 := A94.ext (hB.le A94.1) a102
            replace S100 : Sep G98 (Fr H) [flat w1_0 9 (strs l1_0), rowsP c30_u0 28 3 c30_C0 r2, flat v96 9 (strs (lapp (@List.nil ByteArray) (lsub l1_0 0 s65))), flat1 v97 9 (strs [r3])] := S100
            obtain ⟨g104, hL39⟩ := gd_some hL39
            obtain ⟨v110, G105, q106, S107, a109, _, _⟩ := S100.appendG (f := Value.string) (xs := (lapp (@List.nil ByteArray) (lsub l1_0 0 s65))) (ys := [r3]) (P := Try.prog) (t := 59) (t2 := 59) (k := 2) rfl (hB.le A101.1) el_59 el_59 ei_9 rfl (S100.sl1 (k := 3) rfl) g104
            have A108 := A101.trans a109
            replace S107 : Sep G105 (Fr H) [flat w1_0 9 (strs l1_0), rowsP c30_u0 28 3 c30_C0 r2, flat v110 9 (strs (lapp (lapp (@List.nil ByteArray) (lsub l1_0 0 s65)) [r3])), flat1 v97 9 (strs [r3])] := S107
            refine DWp.region fun K hK => ?_
            simp [-aBin', -aBin, -aBinI, -aUn, -aNil, -flatV, n_fn, b_add, b_sub, b_mul, b_lt, b_le, b_gt, b_ge, b_eq, b_ne, u_not, ej80_4, ej80_7, ej80_8, ej80_20, ej80_21, ej80_22, q83, a86.to_pre, q89, ((subSl (S84.sl (k := 0) rfl) g88).tup), q92, q99, a102.to_pre, q106]
            apply hK
            clear hK K
            simp only [andThen, leaves]
            obtain ⟨g111, hL39⟩ := gd_some hL39
            have q112 := aSub10 (P := Try.prog) (t := 59) (S107.sl (k := 0) rfl) el_59 sz_9 g111
            obtain ⟨g113, hL39⟩ := gd_some hL39
            obtain ⟨v119, G114, q115, S116, a118, _, _⟩ := S107.appendG (f := Value.string) (xs := (lapp (lapp (@List.nil ByteArray) (lsub l1_0 0 s65)) [r3])) (ys := (lsub l1_0 s65 (llen l1_0))) (P := Try.prog) (t := 59) (t2 := 59) (k := 2) rfl (hB.le A108.1) el_59 el_59 ei_9 rfl (subSl (S107.sl (k := 0) rfl) g111) g113
            have A117 := A108.trans a118
            replace S116 : Sep G114 (Fr H) [flat w1_0 9 (strs l1_0), rowsP c30_u0 28 3 c30_C0 r2, flat v119 9 (strs (lapp (lapp (lapp (@List.nil ByteArray) (lsub l1_0 0 s65)) [r3]) (lsub l1_0 s65 (llen l1_0)))), flat1 v97 9 (strs [r3])] := S116
            refine DWp.region fun K hK => ?_
            simp [-aBin', -aBin, -aBinI, -aUn, -aNil, -flatV, n_fn, b_add, b_sub, b_mul, b_lt, b_le, b_gt, b_ge, b_eq, b_ne, u_not, ej80_4, ej80_7, ej80_8, ej80_20, ej80_21, ej80_22, q112, ((subSl (S107.sl (k := 0) rfl) g111).tup), q115]
            apply hK
            clear hK K
            simp only [andThen, leaves]
            refine DWp.region fun K hK => ?_
            simp [-aBin', -aBin, -aBinI, -aUn, -aNil, -flatV, n_fn, b_add, b_sub, b_mul, b_lt, b_le, b_gt, b_ge, b_eq, b_ne, u_not, ej80_4, ej80_7, ej80_8, ej80_20, ej80_21, ej80_22]
            apply hK
            clear hK K
            simp only [andThen, leaves]
            have S120 := S116.pick [2, 1] (by decide) rfl
            exact ⟨n1, Nat.lt_succ_self _, (lapp (lapp (lapp (@List.nil ByteArray) (lsub l1_0 0 s65)) [r3]) (lsub l1_0 s65 (llen l1_0))), (iadd .i64 y1_22 1), v119, hL39, S120, A117, by simp [ej80_4, ej80_7, ej80_8, ej80_20, ej80_21, ej80_22], by simp [ej80_4, ej80_7, ej80_8, ej80_20, ej80_21, ej80_22], by simp [ej80_4, ej80_7, ej80_8, ej80_20, ej80_21, ej80_22], by simp [ej80_4, ej80_7, ej80_8, ej80_20, ej80_21, ej80_22]⟩
        · replace hL39 := cd_f hb41 hL39
          refine DWp.exit ?_
          simp only [andThen, leaves, if_true, if_false, reduceIte, Nat.reduceEqDiff]
          obtain rfl := Option.some.inj hL39
          try dsimp only at hF
          refine DWp.seq ?_
          refine DWp.region fun K hK => ?_
          simp [-aBin', -aBin, -aBinI, -aUn, -aNil, -flatV, n_fn, b_add, b_sub, b_mul, b_lt, b_le, b_gt, b_ge, b_eq, b_ne, u_not, e1_4, e1_20, e1_21, e1_22]
          apply hK
          clear hK K
          simp only [andThen, leaves]
          refine DWp.ret ?_
          obtain rfl := Option.some.inj hF
          exact ⟨by simp, [w1_0, (Value.bool true)], by simp [e1_4, e1_20, e1_21, e1_22, ((S1_.sl (k := 0) rfl).tup)], A1_, w1_0, rfl, S1_.pick [0] (by decide) rfl⟩
def F_impl_systemText_L1 (fu : Nat) (k1_0 : List Int) (k1_1 : Int) : Nat → List Int → Int → Option (List Int × Int)
  | 0, _, _ => none
  | n + 1, l1_0, y1_9 =>
    bif (ilt y1_9 k1_1) then
      gd (inL k1_0 y1_9) (
      bif (ilt y1_9 (gat 0 k1_0 y1_9)) then
        gd (l1_0.length + [40].length ≤ 4294967296) (
        F_impl_systemText_L1 fu k1_0 k1_1 n (lapp l1_0 [40]) (iadd .i64 y1_9 1))
      else
        gd (l1_0.length + [41].length ≤ 4294967296) (
        F_impl_systemText_L1 fu k1_0 k1_1 n (lapp l1_0 [41]) (iadd .i64 y1_9 1)))
    else
      some (l1_0, y1_9)
def F_impl_systemText (fu : Nat) (x0 : List Int) : Option (ByteArray) :=
  bd (F_impl_systemText_L1 fu x0 (llen x0) fu (@List.nil Int) 0) fun s1 =>
  some (bstr s1.1)
theorem F_impl_systemText_w {fu : Nat} {H : AH} {v0 : Value} {x0 : List Int} {r : (ByteArray)} (hx0 : Sl H v0 (ints x0)) (hF : F_impl_systemText fu x0 = some r) :
    ACallT Try.prog 147 [v0] H (fun u G => AgB (Fr H) H G ∧ u = (Value.string r) ∧ Sep G (Fr H) []) := by
  refine ACallT.of_body (nt := 26) (rs := [.tmp 2]) Try.func147 rfl rfl rfl rfl ?_
  have A0 : AgB (Fr H) H H := .refl _ _
  have S0 : Sep H (Fr H) [] := .nil
  have hB := Fr.up H
  unfold F_impl_systemText at hF
  refine DWp.seq ?_
  refine DWp.region fun K hK => ?_
  simp [-aBin', -aBin, -aBinI, -aUn, -aNil, -flatV, n_fn, b_add, b_sub, b_mul, b_lt, b_le, b_gt, b_ge, b_eq, b_ne, u_not]
  apply hK
  clear hK K
  simp only [andThen, leaves]
  refine DWp.seq ?_
  obtain ⟨v1, G2, q3, S4, a6, _, _⟩ := S0.lit0 (P := Try.prog) (t := 64) (hB.le A0.1) el_64 ei_5 rfl
  have A5 := A0.ext (hB.le A0.1) a6
  replace S4 : Sep G2 (Fr H) [flat1 v1 5 (u8s (@List.nil Int))] := S4
  refine DWp.region fun K hK => ?_
  simp [-aBin', -aBin, -aBinI, -aUn, -aNil, -flatV, n_fn, b_add, b_sub, b_mul, b_lt, b_le, b_gt, b_ge, b_eq, b_ne, u_not, q3, a6.to_pre]
  apply hK
  clear hK K
  simp only [andThen, leaves]
  refine DWp.seq ?_
  refine DWp.seq ?_
  have q8 := lenG (P := Try.prog) (hx0.agree A5.agree) el_22
  refine DWp.region fun K hK => ?_
  simp [-aBin', -aBin, -aBinI, -aUn, -aNil, -flatV, n_fn, b_add, b_sub, b_mul, b_lt, b_le, b_gt, b_ge, b_eq, b_ne, u_not, q8]
  apply hK
  clear hK K
  simp only [andThen, leaves]
  refine DWp.block ?_
  obtain ⟨s9, hL10, hF⟩ := bd_some hF
  have S11 := S4.pick [0] (by decide) rfl
  have S12 := S11.weak (k := 0) rfl
  refine DWp.loop (fun n env G => ∃ l1_0 : List Int, ∃ y1_9 : Int, ∃ w1_0 : Value, F_impl_systemText_L1 fu x0 (llen x0) n l1_0 y1_9 = some s9 ∧ Sep G (Fr H) [flat w1_0 5 (u8s l1_0)] ∧ AgB (Fr H) H G ∧ env 3 = some w1_0 ∧ env 7 = some v0 ∧ env 8 = some (Value.int .i64 (llen x0)) ∧ env 9 = some (Value.int .i64 y1_9)) fu ⟨(@List.nil Int), 0, v1, hL10, S12, A5, by simp [], by simp [], by simp [], by simp []⟩ ?_
  rintro n1 env1 G1_ ⟨l1_0, y1_9, w1_0, hL10, S1_, A1_, e1_3, e1_7, e1_8, e1_9⟩
  cases n1 with
  | zero => cases hL10
  | succ n1 =>
    simp only [F_impl_systemText_L1] at hL10
    refine DWp.seq ?_
    refine DWp.region fun K hK => ?_
    simp [-aBin', -aBin, -aBinI, -aUn, -aNil, -flatV, n_fn, b_add, b_sub, b_mul, b_lt, b_le, b_gt, b_ge, b_eq, b_ne, u_not, e1_3, e1_7, e1_8, e1_9]
    apply hK
    clear hK K
    simp only [andThen, leaves]
    refine DWp.seq ?_
    refine DWp.cond' (t := (ilt y1_9 (llen x0))) (by simp [e1_3, e1_7, e1_8, e1_9]) (fun hb13 => ?_) (fun hb13 => ?_)
    · replace hL10 := cd_t hb13 hL10
      refine DWp.skip ?_
      simp only [andThen, leaves]
      refine DWp.seq ?_
      refine DWp.block ?_
      refine DWp.seq ?_
      obtain ⟨g14, hL10⟩ := gd_some hL10
      have q15 := idxG (P := Try.prog) (kk := .i64) (hx0.agree A1_.agree) el_22 sz_3 g14
      have q16 := loadG (P := Try.prog) (hx0.agree A1_.agree) sz_3 ag_3 g14 0
      refine DWp.region fun K hK => ?_
      simp [-aBin', -aBin, -aBinI, -aUn, -aNil, -flatV, n_fn, b_add, b_sub, b_mul, b_lt, b_le, b_gt, b_ge, b_eq, b_ne, u_not, e1_3, e1_7, e1_8, e1_9, q15, q16]
      apply hK
      clear hK K
      simp only [andThen, leaves]
      refine DWp.seq ?_
      refine DWp.region fun K hK => ?_
      simp [-aBin', -aBin, -aBinI, -aUn, -aNil, -flatV, n_fn, b_add, b_sub, b_mul, b_lt, b_le, b_gt, b_ge, b_eq, b_ne, u_not, e1_3, e1_7, e1_8, e1_9]
      apply hK
      clear hK K
      simp only [andThen, leaves]
      refine DWp.cond' (t := (ilt y1_9 (gat 0 x0 y1_9))) (by simp [e1_3, e1_7, e1_8, e1_9]) (fun hb17 => ?_) (fun hb17 => ?_)
      · replace hL10 := cd_t hb17 hL10
        obtain ⟨v18, G19, q20, S21, a23, _, _⟩ := S1_.lit1 (P := Try.prog) (t := 64) (hB.le A1_.1) el_64 ei_5 rfl (Value.int .u8 40) rfl rfl
        have A22 := A1_.ext (hB.le A1_.1) a23
        replace S21 : Sep G19 (Fr H) [flat w1_0 5 (u8s l1_0), flat1 v18 5 (u8s [40])] := S21
        obtain ⟨g25, hL10⟩ := gd_some hL10
        obtain ⟨v31, G26, q27, S28, a30, _, _⟩ := S21.appendG (f := (Value.int .u8)) (xs := l1_0) (ys := [40]) (P := Try.prog) (t := 64) (t2 := 64) (k := 0) rfl (hB.le A22.1) el_64 el_64 ei_5 rfl (S21.sl1 (k := 1) rfl) g25
        have A29 := A22.trans a30
        replace S28 : Sep G26 (Fr H) [flat v31 5 (u8s (lapp l1_0 [40])), flat1 v18 5 (u8s [40])] := S28
        refine DWp.region fun K hK => ?_
        simp [-aBin', -aBin, -aBinI, -aUn, -aNil, -flatV, n_fn, b_add, b_sub, b_mul, b_lt, b_le, b_gt, b_ge, b_eq, b_ne, u_not, e1_3, e1_7, e1_8, e1_9, q20, a23.to_pre, q27]
        apply hK
        clear hK K
        simp only [andThen, leaves]
        refine DWp.region fun K hK => ?_
        simp [-aBin', -aBin, -aBinI, -aUn, -aNil, -flatV, n_fn, b_add, b_sub, b_mul, b_lt, b_le, b_gt, b_ge, b_eq, b_ne, u_not, e1_3, e1_7, e1_8, e1_9]
        apply hK
        clear hK K
        simp only [andThen, leaves]
        have S32 := S28.pick [0] (by decide) rfl
        exact ⟨n1, Nat.lt_succ_self _, (lapp l1_0 [40]), (iadd .i64 y1_9 1), v31, hL10, S32, A29, by simp [e1_3, e1_7, e1_8, e1_9], by simp [e1_3, e1_7, e1_8, e1_9], by simp [e1_3, e1_7, e1_8, e1_9], by simp [e1_3, e1_7, e1_8, e1_9]⟩
      · replace hL10 := cd_f hb17 hL10
        obtain ⟨v33, G34, q35, S36, a38, _, _⟩ := S1_.lit1 (P := Try.prog) (t := 64) (hB.le A1_.1) el_64 ei_5 rfl (Value.int .u8 41) rfl rfl
        have A37 := A1_.ext (hB.le A1_.1) a38
        replace S36 : Sep G34 (Fr H) [flat w1_0 5 (u8s l1_0), flat1 v33 5 (u8s [41])] := S36
        obtain ⟨g40, hL10⟩ := gd_some hL10
        obtain ⟨v46, G41, q42, S43, a45, _, _⟩ := S36.appendG (f := (Value.int .u8)) (xs := l1_0) (ys := [41]) (P := Try.prog) (t := 64) (t2 := 64) (k := 0) rfl (hB.le A37.1) el_64 el_64 ei_5 rfl (S36.sl1 (k := 1) rfl) g40
        have A44 := A37.trans a45
        replace S43 : Sep G41 (Fr H) [flat v46 5 (u8s (lapp l1_0 [41])), flat1 v33 5 (u8s [41])] := S43
        refine DWp.region fun K hK => ?_
        simp [-aBin', -aBin, -aBinI, -aUn, -aNil, -flatV, n_fn, b_add, b_sub, b_mul, b_lt, b_le, b_gt, b_ge, b_eq, b_ne, u_not, e1_3, e1_7, e1_8, e1_9, q35, a38.to_pre, q42]
        apply hK
        clear hK K
        simp only [andThen, leaves]
        refine DWp.region fun K hK => ?_
        simp [-aBin', -aBin, -aBinI, -aUn, -aNil, -flatV, n_fn, b_add, b_sub, b_mul, b_lt, b_le, b_gt, b_ge, b_eq, b_ne, u_not, e1_3, e1_7, e1_8, e1_9]
        apply hK
        clear hK K
        simp only [andThen, leaves]
        have S47 := S43.pick [0] (by decide) rfl
        exact ⟨n1, Nat.lt_succ_self _, (lapp l1_0 [41]), (iadd .i64 y1_9 1), v46, hL10, S47, A44, by simp [e1_3, e1_7, e1_8, e1_9], by simp [e1_3, e1_7, e1_8, e1_9], by simp [e1_3, e1_7, e1_8, e1_9], by simp [e1_3, e1_7, e1_8, e1_9]⟩
    · replace hL10 := cd_f hb13 hL10
      refine DWp.exit ?_
      simp only [andThen, leaves, if_true, if_false, reduceIte, Nat.reduceEqDiff]
      obtain rfl := Option.some.inj hL10
      try dsimp only at hF
      refine DWp.seq ?_
      have q48 := c_bytes (P := Try.prog) us_64 un_5 un_9 (S1_.sl (k := 0) rfl)
      refine DWp.region fun K hK => ?_
      simp [-aBin', -aBin, -aBinI, -aUn, -aNil, -flatV, n_fn, b_add, b_sub, b_mul, b_lt, b_le, b_gt, b_ge, b_eq, b_ne, u_not, e1_3, e1_7, e1_8, e1_9, q48]
      apply hK
      clear hK K
      simp only [andThen, leaves]
      refine DWp.ret ?_
      obtain rfl := Option.some.inj hF
      exact ⟨by simp, [(Value.string (bstr l1_0))], by simp [e1_3, e1_7, e1_8, e1_9], A1_, rfl, S1_.pick [] (by decide) rfl⟩
def F_impl_meanderText (fu : Nat) (x0_0 : List Int) (x0_1 : List Int) : Option (ByteArray) :=
  bd (F_impl_systemText fu x0_0) fun r1 =>
  gd (r1.size + (ByteArray.mk #[124]).size ≤ 9223372036854775807) (
  bd (F_impl_systemText fu x0_1) fun r2 =>
  gd ((sapp r1 (ByteArray.mk #[124])).size + r2.size ≤ 9223372036854775807) (
  some (sapp (sapp r1 (ByteArray.mk #[124])) r2)))
theorem F_impl_meanderText_w {fu : Nat} {H : AH} {v0_0 : Value} {v0_1 : Value} {x0_0 : List Int} {x0_1 : List Int} {r : (ByteArray)} (hx0_0 : Sl H v0_0 (ints x0_0)) (hx0_1 : Sl H v0_1 (ints x0_1)) (hF : F_impl_meanderText fu x0_0 x0_1 = some r) :
    ACallT Try.prog 121 [(Value.agg #[v0_0, v0_1])] H (fun u G => AgB (Fr H) H G ∧ u = (Value.string r) ∧ Sep G (Fr H) []) := by
  refine ACallT.of_body (nt := 11) (rs := [.tmp 2]) Try.func121 rfl rfl rfl rfl ?_
  have A0 : AgB (Fr H) H H := .refl _ _
  have S0 : Sep H (Fr H) [] := .nil
  have hB := Fr.up H
  unfold F_impl_meanderText at hF
  refine DWp.seq ?_
  obtain ⟨G2, p4, q5, q6, a7, S1⟩ := S0.boxT (hB.le A0.1) 28 [v0_0, v0_1]
  have A3 := A0.ext (hB.le A0.1) a7
  replace S1 : Sep G2 (Fr H) [AL.box p4 [v0_0, v0_1]] := S1
  refine DWp.region fun K hK => ?_
  simp [-aBin', -aBin, -aBinI, -aUn, -aNil, -flatV, n_fn, b_add, b_sub, b_mul, b_lt, b_le, b_gt, b_ge, b_eq, b_ne, u_not, q5, q6, a7.to_pre, cells_agg]
  apply hK
  clear hK K
  simp only [andThen, leaves]
  refine DWp.seq ?_
  have q8 := S1.fieldT (P := Try.prog) (k := 0) rfl fa_28_0
  have q9 := S1.loadF (P := Try.prog) (k := 0) rfl sz_22 ag_22 (off := 0) rfl
  obtain ⟨r1, hc10, hF⟩ := bd_some hF
  refine DWp.drawn (B := [0, 1, 3, 7, 0, 16, 55, 127, 255]) 9 mixed (by kernel_rfl) (by decide) fun K hK => ?_
  simp [-aBin', -aBin, -aBinI, -aUn, -aNil, -flatV, n_fn, b_add, b_sub, b_mul, b_lt, b_le, b_gt, b_ge, b_eq, b_ne, u_not, q8, q9, ((hx0_0.agree A3.agree).tup)]
  refine CallD.t (F_impl_systemText_w (fu := fu) (hx0_0.agree A3.agree) hc10) ?_
  rintro _ G12 ⟨a15, rfl, S16⟩
  have A14 := A3.ext (hB.le A3.1) a15.agree
  have S13 : Sep G12 (Fr H) [AL.box p4 [v0_0, v0_1]] := S1.app a15.agree S16 (fun _ h => h) (hB.le A3.1)
  obtain ⟨g17, hF⟩ := gd_some hF
  have q18 := S13.fieldT (P := Try.prog) (k := 0) rfl fa_28_1
  have q19 := S13.loadF (P := Try.prog) (k := 0) rfl sz_22 ag_22 (off := 1) rfl
  obtain ⟨r2, hc20, hF⟩ := bd_some hF
  simp [-aBin', -aBin, -aBinI, -aUn, -aNil, -flatV, n_fn, b_add, b_sub, b_mul, b_lt, b_le, b_gt, b_ge, b_eq, b_ne, u_not, q8, q9, a15.pre, s_add g17, q18, q19, ((hx0_1.agree A14.agree).tup)]
  refine CallD.t (F_impl_systemText_w (fu := fu) (hx0_1.agree A14.agree) hc20) ?_
  rintro _ G22 ⟨a25, rfl, S26⟩
  have A24 := A14.ext (hB.le A14.1) a25.agree
  have S23 : Sep G22 (Fr H) [AL.box p4 [v0_0, v0_1]] := S13.app a25.agree S26 (fun _ h => h) (hB.le A14.1)
  obtain ⟨g27, hF⟩ := gd_some hF
  simp [-aBin', -aBin, -aBinI, -aUn, -aNil, -flatV, n_fn, b_add, b_sub, b_mul, b_lt, b_le, b_gt, b_ge, b_eq, b_ne, u_not, q8, q9, a15.pre, s_add g17, q18, q19, a25.pre, s_add g27]
  apply hK
  clear hK K
  simp only [andThen, leaves]
  refine DWp.ret ?_
  obtain rfl := Option.some.inj hF
  exact ⟨by simp, [(Value.string (sapp (sapp r1 (ByteArray.mk #[124])) r2))], by simp [], A24, rfl, S23.pick [] (by decide) rfl⟩
def F_cmp_isNaN_string (fu : Nat) (x0 : ByteArray) : Option (Bool) :=
  some (sne' x0 x0)
theorem F_cmp_isNaN_string_w {fu : Nat} {H : AH}  {x0 : ByteArray} {r : (Bool)}  (hF : F_cmp_isNaN_string fu x0 = some r) :
    ACallT Try.prog 186 [(Value.string x0)] H (fun u G => AgB (Fr H) H G ∧ u = (Value.bool r) ∧ Sep G (Fr H) []) := by
  refine ACallT.of_body (nt := 6) (rs := [.tmp 2]) Try.func186 rfl rfl rfl rfl ?_
  have A0 : AgB (Fr H) H H := .refl _ _
  have S0 : Sep H (Fr H) [] := .nil
  have hB := Fr.up H
  unfold F_cmp_isNaN_string at hF
  refine DWp.seq ?_
  refine DWp.region fun K hK => ?_
  simp [-aBin', -aBin, -aBinI, -aUn, -aNil, -flatV, n_fn, b_add, b_sub, b_mul, b_lt, b_le, b_gt, b_ge, b_eq, b_ne, u_not]
  apply hK
  clear hK K
  simp only [andThen, leaves]
  refine DWp.seq ?_
  refine DWp.region fun K hK => ?_
  simp [-aBin', -aBin, -aBinI, -aUn, -aNil, -flatV, n_fn, b_add, b_sub, b_mul, b_lt, b_le, b_gt, b_ge, b_eq, b_ne, u_not, s_ne]
  apply hK
  clear hK K
  simp only [andThen, leaves]
  refine DWp.ret ?_
  obtain rfl := Option.some.inj hF
  exact ⟨by simp, [(Value.bool (sne' x0 x0))], by simp [], A0, rfl, S0.pick [] (by decide) rfl⟩
def F_cmp_Less_string (fu : Nat) (x0 : ByteArray) (x1 : ByteArray) : Option (Bool) :=
  bd (F_cmp_isNaN_string fu x0) fun r1 =>
  bif r1 then
    bd (F_cmp_isNaN_string fu x1) fun r2 =>
    bif (bnot r2) then
      some true
    else
      some (slt' x0 x1)
  else
    some (slt' x0 x1)
theorem F_cmp_Less_string_w {fu : Nat} {H : AH}  {x0 : ByteArray} {x1 : ByteArray} {r : (Bool)}  (hF : F_cmp_Less_string fu x0 x1 = some r) :
    ACallT Try.prog 171 [(Value.string x0), (Value.string x1)] H (fun u G => AgB (Fr H) H G ∧ u = (Value.bool r) ∧ Sep G (Fr H) []) := by
  refine ACallT.of_body (nt := 17) (rs := [.tmp 4]) Try.func171 rfl rfl rfl rfl ?_
  have A0 : AgB (Fr H) H H := .refl _ _
  have S0 : Sep H (Fr H) [] := .nil
  have hB := Fr.up H
  unfold F_cmp_Less_string at hF
  refine DWp.seq ?_
  refine DWp.region fun K hK => ?_
  simp [-aBin', -aBin, -aBinI, -aUn, -aNil, -flatV, n_fn, b_add, b_sub, b_mul, b_lt, b_le, b_gt, b_ge, b_eq, b_ne, u_not]
  apply hK
  clear hK K
  simp only [andThen, leaves]
  refine DWp.seq ?_
  obtain ⟨r1, hc1, hF⟩ := bd_some hF
  refine DWp.region fun K hK => ?_
  simp [-aBin', -aBin, -aBinI, -aUn, -aNil, -flatV, n_fn, b_add, b_sub, b_mul, b_lt, b_le, b_gt, b_ge, b_eq, b_ne, u_not]
  refine CallD.t (F_cmp_isNaN_string_w (fu := fu)  hc1) ?_
  rintro _ G3 ⟨a6, rfl, S7⟩
  have A5 := A0.ext (hB.le A0.1) a6.agree
  have S4 : Sep G3 (Fr H) [] := S0.app a6.agree S7 (fun _ h => h) (hB.le A0.1)
  rcases Bool.eq_false_or_eq_true r1 with hb8 | hb8
  · replace hF := cd_t hb8 hF
    obtain ⟨r2, hc9, hF⟩ := bd_some hF
    simp [-aBin', -aBin, -aBinI, -aUn, -aNil, -flatV, n_fn, b_add, b_sub, b_mul, b_lt, b_le, b_gt, b_ge, b_eq, b_ne, u_not, hb8, a6.pre]
    refine CallD.t (F_cmp_isNaN_string_w (fu := fu)  hc9) ?_
    rintro _ G11 ⟨a14, rfl, S15⟩
    have A13 := A5.ext (hB.le A5.1) a14.agree
    have S12 : Sep G11 (Fr H) [] := S4.app a14.agree S15 (fun _ h => h) (hB.le A5.1)
    rcases Bool.eq_false_or_eq_true (bnot r2) with hb16 | hb16
    · replace hF := cd_t hb16 hF
      simp [-aBin', -aBin, -aBinI, -aUn, -aNil, -flatV, n_fn, b_add, b_sub, b_mul, b_lt, b_le, b_gt, b_ge, b_eq, b_ne, u_not, hb8, hb16, a6.pre, a14.pre]
      apply hK
      clear hK K
      simp only [andThen, leaves]
      refine DWp.ret ?_
      obtain rfl := Option.some.inj hF
      exact ⟨by simp, [(Value.bool true)], by simp [], A13, rfl, S12.pick [] (by decide) rfl⟩
    · replace hF := cd_f hb16 hF
      simp [-aBin', -aBin, -aBinI, -aUn, -aNil, -flatV, n_fn, b_add, b_sub, b_mul, b_lt, b_le, b_gt, b_ge, b_eq, b_ne, u_not, hb8, hb16, a6.pre, a14.pre, s_lt]
      apply hK
      clear hK K
      simp only [andThen, leaves]
      refine DWp.ret ?_
      obtain rfl := Option.some.inj hF
      exact ⟨by simp, [(Value.bool (slt' x0 x1))], by simp [], A13, rfl, S12.pick [] (by decide) rfl⟩
  · replace hF := cd_f hb8 hF
    simp [-aBin', -aBin, -aBinI, -aUn, -aNil, -flatV, n_fn, b_add, b_sub, b_mul, b_lt, b_le, b_gt, b_ge, b_eq, b_ne, u_not, hb8, a6.pre, s_lt]
    apply hK
    clear hK K
    simp only [andThen, leaves]
    refine DWp.ret ?_
    obtain rfl := Option.some.inj hF
    exact ⟨by simp, [(Value.bool (slt' x0 x1))], by simp [], A5, rfl, S4.pick [] (by decide) rfl⟩
def F_slices_insertionSortOrdered_string_L2 (fu : Nat) (k2_0 : Int) (k2_1 : Int) (k2_2 : Int) : Nat → List ByteArray → Int → Option (List ByteArray × Int)
  | 0, _, _ => none
  | n + 1, l2_0, y2_7 =>
    bd (
      bif (ilt k2_0 y2_7) then
        gd (inL l2_0 y2_7) (
        gd (inL l2_0 (isub .i64 y2_7 1)) (
        bd (F_cmp_Less_string fu (gat (ByteArray.mk #[]) l2_0 y2_7) (gat (ByteArray.mk #[]) l2_0 (isub .i64 y2_7 1))) fun r1 =>
        some r1))
      else
        some false) fun s8 =>
    bif s8 then
      gd (inL l2_0 (isub .i64 y2_7 1)) (
      gd (inL l2_0 y2_7) (
      gd (inL l2_0 y2_7) (
      gd (inL (lset l2_0 y2_7 (gat (ByteArray.mk #[]) l2_0 (isub .i64 y2_7 1))) (isub .i64 y2_7 1)) (
      F_slices_insertionSortOrdered_string_L2 fu k2_0 k2_1 k2_2 n (lset (lset l2_0 y2_7 (gat (ByteArray.mk #[]) l2_0 (isub .i64 y2_7 1))) (isub .i64 y2_7 1) (gat (ByteArray.mk #[]) l2_0 y2_7)) (isub .i64 y2_7 1)))))
    else
      some (l2_0, y2_7)
def F_slices_insertionSortOrdered_string_L1 (fu : Nat) (k1_0 : Int) (k1_1 : Int) : Nat → List ByteArray → Int → Option (List ByteArray × Int)
  | 0, _, _ => none
  | n + 1, l1_0, y1_6 =>
    bif (ilt y1_6 k1_1) then
      bd (F_slices_insertionSortOrdered_string_L2 fu k1_0 k1_1 y1_6 fu l1_0 y1_6) fun s2 =>
      F_slices_insertionSortOrdered_string_L1 fu k1_0 k1_1 n s2.1 (iadd .i64 y1_6 1)
    else
      some (l1_0, y1_6)
def F_slices_insertionSortOrdered_string (fu : Nat) (x0 : List ByteArray) (x1 : Int) (x2 : Int) : Option (List ByteArray) :=
  bd (F_slices_insertionSortOrdered_string_L1 fu x1 x2 fu x0 (iadd .i64 x1 1)) fun s1 =>
  some s1.1
theorem F_slices_insertionSortOrdered_string_w {fu : Nat} {H : AH} {B : Nat → Prop} {v0 : Value} {x0 : List ByteArray} {x1 : Int} {x2 : Int} {r : (List ByteArray)} (hB : Up B H.length) (S0 : Sep H B [flat v0 9 (strs x0)]) (hF : F_slices_insertionSortOrdered_string fu x0 x1 x2 = some r) :
    ACallT Try.prog 165 [v0, (Value.int .i64 x1), (Value.int .i64 x2)] H (fun u G => AgB B H G ∧ u = (Value.tuple #[]) ∧ Sep G B [flat v0 9 (strs r)]) := by
  refine ACallT.of_body (nt := 49) (rs := []) Try.func165 rfl rfl rfl rfl ?_
  have A0 : AgB B H H := .refl _ _
  unfold F_slices_insertionSortOrdered_string at hF
  refine DWp.seq ?_
  refine DWp.region fun K hK => ?_
  simp [-aBin', -aBin, -aBinI, -aUn, -aNil, -flatV, n_fn, b_add, b_sub, b_mul, b_lt, b_le, b_gt, b_ge, b_eq, b_ne, u_not]
  apply hK
  clear hK K
  simp only [andThen, leaves]
  refine DWp.block ?_
  obtain ⟨s1, hL2, hF⟩ := bd_some hF
  have S3 := S0.pick [0] (by decide) rfl
  refine DWp.loop (fun n env G => ∃ l1_0 : List ByteArray, ∃ y1_6 : Int, F_slices_insertionSortOrdered_string_L1 fu x1 x2 n l1_0 y1_6 = some s1 ∧ Sep G B [flat v0 9 (strs l1_0)] ∧ AgB B H G ∧ env 0 = some v0 ∧ env 1 = some (Value.int .i64 x1) ∧ env 2 = some (Value.int .i64 x2) ∧ env 6 = some (Value.int .i64 y1_6)) fu ⟨x0, (iadd .i64 x1 1), hL2, S3, A0, by simp [], by simp [], by simp [], by simp []⟩ ?_
  rintro n1 env1 G1_ ⟨l1_0, y1_6, hL2, S1_, A1_, e1_0, e1_1, e1_2, e1_6⟩
  cases n1 with
  | zero => cases hL2
  | succ n1 =>
    simp only [F_slices_insertionSortOrdered_string_L1] at hL2
    refine DWp.seq ?_
    refine DWp.seq ?_
    refine DWp.region fun K hK => ?_
    simp [-aBin', -aBin, -aBinI, -aUn, -aNil, -flatV, n_fn, b_add, b_sub, b_mul, b_lt, b_le, b_gt, b_ge, b_eq, b_ne, u_not, e1_0, e1_1, e1_2, e1_6]
    apply hK
    clear hK K
    simp only [andThen, leaves]
    refine DWp.cond' (t := (ilt y1_6 x2)) (by simp [e1_0, e1_1, e1_2, e1_6]) (fun hb4 => ?_) (fun hb4 => ?_)
    · replace hL2 := cd_t hb4 hL2
      refine DWp.skip ?_
      simp only [andThen, leaves]
      refine DWp.seq ?_
      refine DWp.block ?_
      refine DWp.seq ?_
      refine DWp.region fun K hK => ?_
      simp [-aBin', -aBin, -aBinI, -aUn, -aNil, -flatV, n_fn, b_add, b_sub, b_mul, b_lt, b_le, b_gt, b_ge, b_eq, b_ne, u_not, e1_0, e1_1, e1_2, e1_6]
      apply hK
      clear hK K
      simp only [andThen, leaves]
      refine DWp.block ?_
      obtain ⟨s5, hL6, hL2⟩ := bd_some hL2
      have S7 := S1_.pick [0] (by decide) rfl
      refine DWp.loop (fun n env G => ∃ l2_0 : List ByteArray, ∃ y2_7 : Int, F_slices_insertionSortOrdered_string_L2 fu x1 x2 y1_6 n l2_0 y2_7 = some s5 ∧ Sep G B [flat v0 9 (strs l2_0)] ∧ AgB B H G ∧ env 0 = some v0 ∧ env 1 = some (Value.int .i64 x1) ∧ env 2 = some (Value.int .i64 x2) ∧ env 6 = some (Value.int .i64 y1_6) ∧ env 7 = some (Value.int .i64 y2_7)) fu ⟨l1_0, y1_6, hL6, S7, A1_, by simp [e1_0, e1_1, e1_2, e1_6], by simp [e1_0, e1_1, e1_2, e1_6], by simp [e1_0, e1_1, e1_2, e1_6], by simp [e1_0, e1_1, e1_2, e1_6], by simp [e1_0, e1_1, e1_2, e1_6]⟩ ?_
      rintro n2 env2 G2_ ⟨l2_0, y2_7, hL6, S2_, A2_, e2_0, e2_1, e2_2, e2_6, e2_7⟩
      cases n2 with
      | zero => cases hL6
      | succ n2 =>
        simp only [F_slices_insertionSortOrdered_string_L2] at hL6
        refine DWp.seq ?_
        obtain ⟨s8, hL9, hL6⟩ := bd_some hL6
        refine DWp.seq (DWp.join (fun env G => Sep G B [flat v0 9 (strs l2_0)] ∧ AgB B H G ∧ env 0 = some v0 ∧ env 1 = some (Value.int .i64 x1) ∧ env 2 = some (Value.int .i64 x2) ∧ env 6 = some (Value.int .i64 y1_6) ∧ env 7 = some (Value.int .i64 y2_7) ∧ env 30 = some (Value.bool s8)) ?_ ?_)
        ·
          rcases Bool.eq_false_or_eq_true (ilt x1 y2_7) with hb11 | hb11
          · replace hL9 := cd_t hb11 hL9
            obtain ⟨g12, hL9⟩ := gd_some hL9
            have q13 := idxG (P := Try.prog) (kk := .i64) (S2_.sl (k := 0) rfl) el_59 sz_9 g12
            have q14 := loadG (P := Try.prog) (S2_.sl (k := 0) rfl) sz_9 ag_9 g12 (ByteArray.mk #[])
            obtain ⟨g15, hL9⟩ := gd_some hL9
            have q16 := idxG (P := Try.prog) (kk := .i64) (S2_.sl (k := 0) rfl) el_59 sz_9 g15
            have q17 := loadG (P := Try.prog) (S2_.sl (k := 0) rfl) sz_9 ag_9 g15 (ByteArray.mk #[])
            obtain ⟨r1, hc18, hL9⟩ := bd_some hL9
            refine DWp.drawn (B := [0, 0, 3, 7, 15, 15, 63, 127, 15, 15, 527, 1807, 3855, 8191, 16383]) 15 mixed (by kernel_rfl) (by decide) fun K hK => ?_
            simp [-aBin', -aBin, -aBinI, -aUn, -aNil, -flatV, n_fn, b_add, b_sub, b_mul, b_lt, b_le, b_gt, b_ge, b_eq, b_ne, u_not, e2_0, e2_1, e2_2, e2_6, e2_7, hb11, q13, q14, q16, q17]
            refine CallD.t (F_cmp_Less_string_w (fu := fu)  hc18) ?_
            rintro _ G20 ⟨a23, rfl, S24⟩
            have A22 := A2_.ext (hB.le A2_.1) a23.agree
            have S21 : Sep G20 B [flat v0 9 (strs l2_0)] := S2_.app a23.agree S24 (fun _ h => h) (hB.le A2_.1)
            simp [-aBin', -aBin, -aBinI, -aUn, -aNil, -flatV, n_fn, b_add, b_sub, b_mul, b_lt, b_le, b_gt, b_ge, b_eq, b_ne, u_not, e2_0, e2_1, e2_2, e2_6, e2_7, hb11, q13, q14, q16, q17, a23.pre]
            apply hK
            clear hK K
            simp only [andThen, leaves]
            have S25 := S21.pick [0] (by decide) rfl
            obtain rfl := Option.some.inj hL9
            exact ⟨S25, A22, by simp [e2_0, e2_1, e2_2, e2_6, e2_7], by simp [e2_0, e2_1, e2_2, e2_6, e2_7], by simp [e2_0, e2_1, e2_2, e2_6, e2_7], by simp [e2_0, e2_1, e2_2, e2_6, e2_7], by simp [e2_0, e2_1, e2_2, e2_6, e2_7], by simp [e2_0, e2_1, e2_2, e2_6, e2_7]⟩
          · replace hL9 := cd_f hb11 hL9
            refine DWp.drawn (B := [0, 0, 3, 7, 15, 15, 63, 127, 15, 15, 527, 1807, 3855, 8191, 16383]) 15 mixed (by kernel_rfl) (by decide) fun K hK => ?_
            simp [-aBin', -aBin, -aBinI, -aUn, -aNil, -flatV, n_fn, b_add, b_sub, b_mul, b_lt, b_le, b_gt, b_ge, b_eq, b_ne, u_not, e2_0, e2_1, e2_2, e2_6, e2_7, hb11]
            apply hK
            clear hK K
            simp only [andThen, leaves]
            have S26 := S2_.pick [0] (by decide) rfl
            obtain rfl := Option.some.inj hL9
            exact ⟨S26, A2_, by simp [e2_0, e2_1, e2_2, e2_6, e2_7], by simp [e2_0, e2_1, e2_2, e2_6, e2_7], by simp [e2_0, e2_1, e2_2, e2_6, e2_7], by simp [e2_0, e2_1, e2_2, e2_6, e2_7], by simp [e2_0, e2_1, e2_2, e2_6, e2_7], by simp [e2_0, e2_1, e2_2, e2_6, e2_7]⟩
        · rintro env Gj27 ⟨Sj27, Aj27, ej27_0, ej27_1, ej27_2, ej27_6, ej27_7, ej27_30⟩
          refine DWp.cond' (t := s8) (by simp [ej27_0, ej27_1, ej27_2, ej27_6, ej27_7, ej27_30]) (fun hb28 => ?_) (fun hb28 => ?_)
          · replace hL6 := cd_t hb28 hL6
            refine DWp.skip ?_
            simp only [andThen, leaves]
            refine DWp.seq ?_
            refine DWp.block ?_
            obtain ⟨g29, hL6⟩ := gd_some hL6
            have q30 := idxG (P := Try.prog) (kk := .i64) (Sj27.sl (k := 0) rfl) el_59 sz_9 g29
            have q31 := loadG (P := Try.prog) (Sj27.sl (k := 0) rfl) sz_9 ag_9 g29 (ByteArray.mk #[])
            obtain ⟨g32, hL6⟩ := gd_some hL6
            have q33 := idxG (P := Try.prog) (kk := .i64) (Sj27.sl (k := 0) rfl) el_59 sz_9 g32
            have q34 := loadG (P := Try.prog) (Sj27.sl (k := 0) rfl) sz_9 ag_9 g32 (ByteArray.mk #[])
            obtain ⟨g35, hL6⟩ := gd_some hL6
            have q36 := idxG (P := Try.prog) (kk := .i64) (Sj27.sl (k := 0) rfl) el_59 sz_9 g35
            obtain ⟨G37, q38, S39, a41⟩ := Sj27.storeG (f := Value.string) (P := Try.prog) (k := 0) (x := (gat (ByteArray.mk #[]) l2_0 (isub .i64 y2_7 1))) rfl (hB.le Aj27.1) sz_9 g35 rfl rfl
            have A40 := Aj27.trans a41
            replace S39 : Sep G37 B [flat v0 9 (strs (lset l2_0 y2_7 (gat (ByteArray.mk #[]) l2_0 (isub .i64 y2_7 1))))] := S39
            obtain ⟨g42, hL6⟩ := gd_some hL6
            have q43 := idxG (P := Try.prog) (kk := .i64) (S39.sl (k := 0) rfl) el_59 sz_9 g42
            obtain ⟨G44, q45, S46, a48⟩ := S39.storeG (f := Value.string) (P := Try.prog) (k := 0) (x := (gat (ByteArray.mk #[]) l2_0 y2_7)) rfl (hB.le A40.1) sz_9 g42 rfl rfl
            have A47 := A40.trans a48
            replace S46 : Sep G44 B [flat v0 9 (strs (lset (lset l2_0 y2_7 (gat (ByteArray.mk #[]) l2_0 (isub .i64 y2_7 1))) (isub .i64 y2_7 1) (gat (ByteArray.mk #[]) l2_0 y2_7)))] := S46
            refine DWp.drawn (B := [0, 0, 0, 0, 8, 0, 0, 64, 224, 480, 0, 0, 3072, 7168, 16355, 32739, 65535, 131071]) 15 mixed (by kernel_rfl) (by decide) fun K hK => ?_
            simp [-aBin', -aBin, -aBinI, -aUn, -aNil, -flatV, n_fn, b_add, b_sub, b_mul, b_lt, b_le, b_gt, b_ge, b_eq, b_ne, u_not, ej27_0, ej27_1, ej27_2, ej27_6, ej27_7, ej27_30, q30, q31, q33, q34, q36, q38, q43, q45]
            apply hK
            clear hK K
            simp only [andThen, leaves]
            refine DWp.region fun K hK => ?_
            simp [-aBin', -aBin, -aBinI, -aUn, -aNil, -flatV, n_fn, b_add, b_sub, b_mul, b_lt, b_le, b_gt, b_ge, b_eq, b_ne, u_not, ej27_0, ej27_1, ej27_2, ej27_6, ej27_7, ej27_30]
            apply hK
            clear hK K
            simp only [andThen, leaves]
            have S49 := S46.pick [0] (by decide) rfl
            exact ⟨n2, Nat.lt_succ_self _, (lset (lset l2_0 y2_7 (gat (ByteArray.mk #[]) l2_0 (isub .i64 y2_7 1))) (isub .i64 y2_7 1) (gat (ByteArray.mk #[]) l2_0 y2_7)), (isub .i64 y2_7 1), hL6, S49, A47, by simp [ej27_0, ej27_1, ej27_2, ej27_6, ej27_7, ej27_30], by simp [ej27_0, ej27_1, ej27_2, ej27_6, ej27_7, ej27_30], by simp [ej27_0, ej27_1, ej27_2, ej27_6, ej27_7, ej27_30], by simp [ej27_0, ej27_1, ej27_2, ej27_6, ej27_7, ej27_30], by simp [ej27_0, ej27_1, ej27_2, ej27_6, ej27_7, ej27_30]⟩
          · replace hL6 := cd_f hb28 hL6
            refine DWp.exit ?_
            simp only [andThen, leaves, if_true, if_false, reduceIte, Nat.reduceEqDiff]
            obtain rfl := Option.some.inj hL6
            try dsimp only at hL2
            refine DWp.region fun K hK => ?_
            simp [-aBin', -aBin, -aBinI, -aUn, -aNil, -flatV, n_fn, b_add, b_sub, b_mul, b_lt, b_le, b_gt, b_ge, b_eq, b_ne, u_not, ej27_0, ej27_1, ej27_2, ej27_6, ej27_7, ej27_30]
            apply hK
            clear hK K
            simp only [andThen, leaves]
            have S50 := Sj27.pick [0] (by decide) rfl
            exact ⟨n1, Nat.lt_succ_self _, l2_0, (iadd .i64 y1_6 1), hL2, S50, Aj27, by simp [ej27_0, ej27_1, ej27_2, ej27_6, ej27_7, ej27_30], by simp [ej27_0, ej27_1, ej27_2, ej27_6, ej27_7, ej27_30], by simp [ej27_0, ej27_1, ej27_2, ej27_6, ej27_7, ej27_30], by simp [ej27_0, ej27_1, ej27_2, ej27_6, ej27_7, ej27_30]⟩
    · replace hL2 := cd_f hb4 hL2
      refine DWp.exit ?_
      simp only [andThen, leaves, if_true, if_false, reduceIte, Nat.reduceEqDiff]
      obtain rfl := Option.some.inj hL2
      try dsimp only at hF
      obtain rfl := Option.some.inj hF
      exact ⟨by simp, [], by simp [e1_0, e1_1, e1_2, e1_6], A1_, rfl, S1_.pick [0] (by decide) rfl⟩
def F_slices_siftDownOrdered_string_L1 (fu : Nat) (k1_0 : Int) (k1_1 : Int) : Nat → List ByteArray → Int → Option (LR (List ByteArray) (List ByteArray × Int))
  | 0, _, _ => none
  | n + 1, l1_0, y1_8 =>
    bif (ile k1_0 (iadd .i64 (imul .i64 2 y1_8) 1)) then
      some (.brk (l1_0, y1_8))
    else
      bd (
        bif (ilt (iadd .i64 (iadd .i64 (imul .i64 2 y1_8) 1) 1) k1_0) then
          gd (inL l1_0 (iadd .i64 k1_1 (iadd .i64 (imul .i64 2 y1_8) 1))) (
          gd (inL l1_0 (iadd .i64 (iadd .i64 k1_1 (iadd .i64 (imul .i64 2 y1_8) 1)) 1)) (
          bd (F_cmp_Less_string fu (gat (ByteArray.mk #[]) l1_0 (iadd .i64 k1_1 (iadd .i64 (imul .i64 2 y1_8) 1))) (gat (ByteArray.mk #[]) l1_0 (iadd .i64 (iadd .i64 k1_1 (iadd .i64 (imul .i64 2 y1_8) 1)) 1))) fun r1 =>
          bif r1 then
            some (iadd .i64 (iadd .i64 (imul .i64 2 y1_8) 1) 1)
          else
            some (iadd .i64 (imul .i64 2 y1_8) 1)))
        else
          some (iadd .i64 (imul .i64 2 y1_8) 1)) fun s5 =>
      gd (inL l1_0 (iadd .i64 k1_1 y1_8)) (
      gd (inL l1_0 (iadd .i64 k1_1 s5)) (
      bd (F_cmp_Less_string fu (gat (ByteArray.mk #[]) l1_0 (iadd .i64 k1_1 y1_8)) (gat (ByteArray.mk #[]) l1_0 (iadd .i64 k1_1 s5))) fun r2 =>
      bif (bnot r2) then
        some (.ret l1_0)
      else
        gd (inL l1_0 (iadd .i64 k1_1 s5)) (
        gd (inL l1_0 (iadd .i64 k1_1 y1_8)) (
        gd (inL l1_0 (iadd .i64 k1_1 y1_8)) (
        gd (inL (lset l1_0 (iadd .i64 k1_1 y1_8) (gat (ByteArray.mk #[]) l1_0 (iadd .i64 k1_1 s5))) (iadd .i64 k1_1 s5)) (
        F_slices_siftDownOrdered_string_L1 fu k1_0 k1_1 n (lset (lset l1_0 (iadd .i64 k1_1 y1_8) (gat (ByteArray.mk #[]) l1_0 (iadd .i64 k1_1 s5))) (iadd .i64 k1_1 s5) (gat (ByteArray.mk #[]) l1_0 (iadd .i64 k1_1 y1_8))) s5))))))
def F_slices_siftDownOrdered_string (fu : Nat) (x0 : List ByteArray) (x1 : Int) (x2 : Int) (x3 : Int) : Option (List ByteArray) :=
  bd (F_slices_siftDownOrdered_string_L1 fu x2 x3 fu x0 x1) fun s1 =>
  lr s1 fun s1 =>
  some s1.1
theorem F_slices_siftDownOrdered_string_w {fu : Nat} {H : AH} {B : Nat → Prop} {v0 : Value} {x0 : List ByteArray} {x1 : Int} {x2 : Int} {x3 : Int} {r : (List ByteArray)} (hB : Up B H.length) (S0 : Sep H B [flat v0 9 (strs x0)]) (hF : F_slices_siftDownOrdered_string fu x0 x1 x2 x3 = some r) :
    ACallT Try.prog 181 [v0, (Value.int .i64 x1), (Value.int .i64 x2), (Value.int .i64 x3)] H (fun u G => AgB B H G ∧ u = (Value.tuple #[]) ∧ Sep G B [flat v0 9 (strs r)]) := by
  refine ACallT.of_body (nt := 76) (rs := []) Try.func181 rfl rfl rfl rfl ?_
  have A0 : AgB B H H := .refl _ _
  unfold F_slices_siftDownOrdered_string at hF
  refine DWp.seq ?_
  refine DWp.region fun K hK => ?_
  simp [-aBin', -aBin, -aBinI, -aUn, -aNil, -flatV, n_fn, b_add, b_sub, b_mul, b_lt, b_le, b_gt, b_ge, b_eq, b_ne, u_not]
  apply hK
  clear hK K
  simp only [andThen, leaves]
  refine DWp.block ?_
  obtain ⟨s1, hL2, hF⟩ := bd_some hF
  have S3 := S0.pick [0] (by decide) rfl
  refine DWp.loop (fun n env G => ∃ l1_0 : List ByteArray, ∃ y1_8 : Int, F_slices_siftDownOrdered_string_L1 fu x2 x3 n l1_0 y1_8 = some s1 ∧ Sep G B [flat v0 9 (strs l1_0)] ∧ AgB B H G ∧ env 0 = some v0 ∧ env 2 = some (Value.int .i64 x2) ∧ env 3 = some (Value.int .i64 x3) ∧ env 8 = some (Value.int .i64 y1_8)) fu ⟨x0, x1, hL2, S3, A0, by simp [], by simp [], by simp [], by simp []⟩ ?_
  rintro n1 env1 G1_ ⟨l1_0, y1_8, hL2, S1_, A1_, e1_0, e1_2, e1_3, e1_8⟩
  cases n1 with
  | zero => cases hL2
  | succ n1 =>
    simp only [F_slices_siftDownOrdered_string_L1] at hL2
    refine DWp.block ?_
    refine DWp.seq ?_
    refine DWp.region fun K hK => ?_
    simp [-aBin', -aBin, -aBinI, -aUn, -aNil, -flatV, n_fn, b_add, b_sub, b_mul, b_lt, b_le, b_gt, b_ge, b_eq, b_ne, u_not, e1_0, e1_2, e1_3, e1_8]
    apply hK
    clear hK K
    simp only [andThen, leaves]
    refine DWp.seq ?_
    refine DWp.seq ?_
    refine DWp.region fun K hK => ?_
    simp [-aBin', -aBin, -aBinI, -aUn, -aNil, -flatV, n_fn, b_add, b_sub, b_mul, b_lt, b_le, b_gt, b_ge, b_eq, b_ne, u_not, e1_0, e1_2, e1_3, e1_8]
    apply hK
    clear hK K
    simp only [andThen, leaves]
    refine DWp.cond' (t := (ile x2 (iadd .i64 (imul .i64 2 y1_8) 1))) (by simp [e1_0, e1_2, e1_3, e1_8]) (fun hb4 => ?_) (fun hb4 => ?_)
    · replace hL2 := cd_t hb4 hL2
      refine DWp.exit ?_
      simp only [andThen, leaves, if_true, if_false, reduceIte, Nat.reduceEqDiff]
      obtain rfl := Option.some.inj hL2
      simp only [lr] at hF
      obtain rfl := Option.some.inj hF
      exact ⟨by simp, [], by simp [e1_0, e1_2, e1_3, e1_8], A1_, rfl, S1_.pick [0] (by decide) rfl⟩
    · replace hL2 := cd_f hb4 hL2
      refine DWp.skip ?_
      simp only [andThen, leaves]
      obtain ⟨s5, hL6, hL2⟩ := bd_some hL2
      refine DWp.seq (DWp.join (fun env G => Sep G B [flat v0 9 (strs l1_0)] ∧ AgB B H G ∧ env 0 = some v0 ∧ env 2 = some (Value.int .i64 x2) ∧ env 3 = some (Value.int .i64 x3) ∧ env 8 = some (Value.int .i64 y1_8) ∧ env 9 = some (Value.int .i64 s5)) ?_ ?_)
      ·
        refine DWp.seq ?_
        rcases Bool.eq_false_or_eq_true (ilt (iadd .i64 (iadd .i64 (imul .i64 2 y1_8) 1) 1) x2) with hb8 | hb8
        · replace hL6 := cd_t hb8 hL6
          obtain ⟨g9, hL6⟩ := gd_some hL6
          have q10 := idxG (P := Try.prog) (kk := .i64) (S1_.sl (k := 0) rfl) el_59 sz_9 g9
          have q11 := loadG (P := Try.prog) (S1_.sl (k := 0) rfl) sz_9 ag_9 g9 (ByteArray.mk #[])
          obtain ⟨g12, hL6⟩ := gd_some hL6
          have q13 := idxG (P := Try.prog) (kk := .i64) (S1_.sl (k := 0) rfl) el_59 sz_9 g12
          have q14 := loadG (P := Try.prog) (S1_.sl (k := 0) rfl) sz_9 ag_9 g12 (ByteArray.mk #[])
          obtain ⟨r1, hc15, hL6⟩ := bd_some hL6
          refine DWp.drawn (B := [0, 1, 0, 7, 15, 31, 31, 31, 223, 511, 1023, 31, 31, 31, 12319, 28703, 63519, 129055, 262143, 524287]) 20 mixed (by kernel_rfl) (by decide) fun K hK => ?_
          simp [-aBin', -aBin, -aBinI, -aUn, -aNil, -flatV, n_fn, b_add, b_sub, b_mul, b_lt, b_le, b_gt, b_ge, b_eq, b_ne, u_not, e1_0, e1_2, e1_3, e1_8, hb8, q10, q11, q13, q14]
          refine CallD.t (F_cmp_Less_string_w (fu := fu)  hc15) ?_
          rintro _ G17 ⟨a20, rfl, S21⟩
          have A19 := A1_.ext (hB.le A1_.1) a20.agree
          have S18 : Sep G17 B [flat v0 9 (strs l1_0)] := S1_.app a20.agree S21 (fun _ h => h) (hB.le A1_.1)
          simp [-aBin', -aBin, -aBinI, -aUn, -aNil, -flatV, n_fn, b_add, b_sub, b_mul, b_lt, b_le, b_gt, b_ge, b_eq, b_ne, u_not, e1_0, e1_2, e1_3, e1_8, hb8, q10, q11, q13, q14, a20.pre]
          apply hK
          clear hK K
          simp only [andThen, leaves]
          refine DWp.cond' (t := r1) (by simp [e1_0, e1_2, e1_3, e1_8]) (fun hb22 => ?_) (fun hb22 => ?_)
          · replace hL6 := cd_t hb22 hL6
            refine DWp.region fun K hK => ?_
            simp [-aBin', -aBin, -aBinI, -aUn, -aNil, -flatV, n_fn, b_add, b_sub, b_mul, b_lt, b_le, b_gt, b_ge, b_eq, b_ne, u_not, e1_0, e1_2, e1_3, e1_8]
            apply hK
            clear hK K
            simp only [andThen, leaves]
            have S23 := S18.pick [0] (by decide) rfl
            obtain rfl := Option.some.inj hL6
            exact ⟨S23, A19, by simp [e1_0, e1_2, e1_3, e1_8], by simp [e1_0, e1_2, e1_3, e1_8], by simp [e1_0, e1_2, e1_3, e1_8], by simp [e1_0, e1_2, e1_3, e1_8], by simp [e1_0, e1_2, e1_3, e1_8]⟩
          · replace hL6 := cd_f hb22 hL6
            refine DWp.skip ?_
            simp only [andThen, leaves]
            have S24 := S18.pick [0] (by decide) rfl
            obtain rfl := Option.some.inj hL6
            exact ⟨S24, A19, by simp [e1_0, e1_2, e1_3, e1_8], by simp [e1_0, e1_2, e1_3, e1_8], by simp [e1_0, e1_2, e1_3, e1_8], by simp [e1_0, e1_2, e1_3, e1_8], by simp [e1_0, e1_2, e1_3, e1_8]⟩
        · replace hL6 := cd_f hb8 hL6
          refine DWp.drawn (B := [0, 1, 0, 7, 15, 31, 31, 31, 223, 511, 1023, 31, 31, 31, 12319, 28703, 63519, 129055, 262143, 524287]) 20 mixed (by kernel_rfl) (by decide) fun K hK => ?_
          simp [-aBin', -aBin, -aBinI, -aUn, -aNil, -flatV, n_fn, b_add, b_sub, b_mul, b_lt, b_le, b_gt, b_ge, b_eq, b_ne, u_not, e1_0, e1_2, e1_3, e1_8, hb8]
          apply hK
          clear hK K
          simp only [andThen, leaves]
          refine DWp.cf (by simp [e1_0, e1_2, e1_3, e1_8, bnot]) ?_
          refine DWp.skip ?_
          simp only [andThen, leaves]
          have S25 := S1_.pick [0] (by decide) rfl
          obtain rfl := Option.some.inj hL6
          exact ⟨S25, A1_, by simp [e1_0, e1_2, e1_3, e1_8], by simp [e1_0, e1_2, e1_3, e1_8], by simp [e1_0, e1_2, e1_3, e1_8], by simp [e1_0, e1_2, e1_3, e1_8], by simp [e1_0, e1_2, e1_3, e1_8]⟩
      · rintro env Gj26 ⟨Sj26, Aj26, ej26_0, ej26_2, ej26_3, ej26_8, ej26_9⟩
        refine DWp.seq ?_
        refine DWp.seq ?_
        obtain ⟨g27, hL2⟩ := gd_some hL2
        have q28 := idxG (P := Try.prog) (kk := .i64) (Sj26.sl (k := 0) rfl) el_59 sz_9 g27
        have q29 := loadG (P := Try.prog) (Sj26.sl (k := 0) rfl) sz_9 ag_9 g27 (ByteArray.mk #[])
        obtain ⟨g30, hL2⟩ := gd_some hL2
        have q31 := idxG (P := Try.prog) (kk := .i64) (Sj26.sl (k := 0) rfl) el_59 sz_9 g30
        have q32 := loadG (P := Try.prog) (Sj26.sl (k := 0) rfl) sz_9 ag_9 g30 (ByteArray.mk #[])
        obtain ⟨r2, hc33, hL2⟩ := bd_some hL2
        refine DWp.drawn (B := [0, 0, 0, 6, 15, 31, 0, 0, 0, 384, 960, 1984, 4095, 8191]) 14 mixed (by kernel_rfl) (by decide) fun K hK => ?_
        simp [-aBin', -aBin, -aBinI, -aUn, -aNil, -flatV, n_fn, b_add, b_sub, b_mul, b_lt, b_le, b_gt, b_ge, b_eq, b_ne, u_not, ej26_0, ej26_2, ej26_3, ej26_8, ej26_9, q28, q29, q31, q32]
        refine CallD.t (F_cmp_Less_string_w (fu := fu)  hc33) ?_
        rintro _ G35 ⟨a38, rfl, S39⟩
        have A37 := Aj26.ext (hB.le Aj26.1) a38.agree
        have S36 : Sep G35 B [flat v0 9 (strs l1_0)] := Sj26.app a38.agree S39 (fun _ h => h) (hB.le Aj26.1)
        simp [-aBin', -aBin, -aBinI, -aUn, -aNil, -flatV, n_fn, b_add, b_sub, b_mul, b_lt, b_le, b_gt, b_ge, b_eq, b_ne, u_not, ej26_0, ej26_2, ej26_3, ej26_8, ej26_9, q28, q29, q31, q32, a38.pre]
        apply hK
        clear hK K
        simp only [andThen, leaves]
        refine DWp.cond' (t := (bnot r2)) (by simp [ej26_0, ej26_2, ej26_3, ej26_8, ej26_9]) (fun hb40 => ?_) (fun hb40 => ?_)
        · replace hL2 := cd_t hb40 hL2
          refine DWp.ret ?_
          simp only [andThen, leaves]
          obtain rfl := Option.some.inj hL2
          simp only [lr] at hF
          obtain rfl := Option.some.inj hF
          exact ⟨by simp, [], by simp [ej26_0, ej26_2, ej26_3, ej26_8, ej26_9], A37, rfl, S36.pick [0] (by decide) rfl⟩
        · replace hL2 := cd_f hb40 hL2
          refine DWp.skip ?_
          simp only [andThen, leaves]
          refine DWp.seq ?_
          obtain ⟨g41, hL2⟩ := gd_some hL2
          have q42 := idxG (P := Try.prog) (kk := .i64) (S36.sl (k := 0) rfl) el_59 sz_9 g41
          have q43 := loadG (P := Try.prog) (S36.sl (k := 0) rfl) sz_9 ag_9 g41 (ByteArray.mk #[])
          obtain ⟨g44, hL2⟩ := gd_some hL2
          have q45 := idxG (P := Try.prog) (kk := .i64) (S36.sl (k := 0) rfl) el_59 sz_9 g44
          have q46 := loadG (P := Try.prog) (S36.sl (k := 0) rfl) sz_9 ag_9 g44 (ByteArray.mk #[])
          obtain ⟨g47, hL2⟩ := gd_some hL2
          have q48 := idxG (P := Try.prog) (kk := .i64) (S36.sl (k := 0) rfl) el_59 sz_9 g47
          obtain ⟨G49, q50, S51, a53⟩ := S36.storeG (f := Value.string) (P := Try.prog) (k := 0) (x := (gat (ByteArray.mk #[]) l1_0 (iadd .i64 x3 s5))) rfl (hB.le A37.1) sz_9 g47 rfl rfl
          have A52 := A37.trans a53
          replace S51 : Sep G49 B [flat v0 9 (strs (lset l1_0 (iadd .i64 x3 y1_8) (gat (ByteArray.mk #[]) l1_0 (iadd .i64 x3 s5))))] := S51
          obtain ⟨g54, hL2⟩ := gd_some hL2
          have q55 := idxG (P := Try.prog) (kk := .i64) (S51.sl (k := 0) rfl) el_59 sz_9 g54
          obtain ⟨G56, q57, S58, a60⟩ := S51.storeG (f := Value.string) (P := Try.prog) (k := 0) (x := (gat (ByteArray.mk #[]) l1_0 (iadd .i64 x3 y1_8))) rfl (hB.le A52.1) sz_9 g54 rfl rfl
          have A59 := A52.trans a60
          replace S58 : Sep G56 B [flat v0 9 (strs (lset (lset l1_0 (iadd .i64 x3 y1_8) (gat (ByteArray.mk #[]) l1_0 (iadd .i64 x3 s5))) (iadd .i64 x3 s5) (gat (ByteArray.mk #[]) l1_0 (iadd .i64 x3 y1_8))))] := S58
          refine DWp.drawn (B := [0, 0, 0, 6, 0, 0, 0, 96, 0, 0, 0, 1536, 3840, 7936, 0, 0, 0, 98304, 245760, 507904, 1048335, 2096911, 4194303, 8388607]) 21 mixed (by kernel_rfl) (by decide) fun K hK => ?_
          simp [-aBin', -aBin, -aBinI, -aUn, -aNil, -flatV, n_fn, b_add, b_sub, b_mul, b_lt, b_le, b_gt, b_ge, b_eq, b_ne, u_not, ej26_0, ej26_2, ej26_3, ej26_8, ej26_9, q42, q43, q45, q46, q48, q50, q55, q57]
          apply hK
          clear hK K
          simp only [andThen, leaves]
          refine DWp.region fun K hK => ?_
          simp [-aBin', -aBin, -aBinI, -aUn, -aNil, -flatV, n_fn, b_add, b_sub, b_mul, b_lt, b_le, b_gt, b_ge, b_eq, b_ne, u_not, ej26_0, ej26_2, ej26_3, ej26_8, ej26_9]
          apply hK
          clear hK K
          simp only [andThen, leaves]
          have S61 := S58.pick [0] (by decide) rfl
          exact ⟨n1, Nat.lt_succ_self _, (lset (lset l1_0 (iadd .i64 x3 y1_8) (gat (ByteArray.mk #[]) l1_0 (iadd .i64 x3 s5))) (iadd .i64 x3 s5) (gat (ByteArray.mk #[]) l1_0 (iadd .i64 x3 y1_8))), s5, hL2, S61, A59, by simp [ej26_0, ej26_2, ej26_3, ej26_8, ej26_9], by simp [ej26_0, ej26_2, ej26_3, ej26_8, ej26_9], by simp [ej26_0, ej26_2, ej26_3, ej26_8, ej26_9], by simp [ej26_0, ej26_2, ej26_3, ej26_8, ej26_9]⟩
def F_slices_heapSortOrdered_string_L2 (fu : Nat) (k2_0 : Int) : Nat → List ByteArray → Int → Option (List ByteArray × Int)
  | 0, _, _ => none
  | n + 1, l2_0, y2_10 =>
    bif (ile 0 y2_10) then
      gd (inL l2_0 (iadd .i64 k2_0 y2_10)) (
      gd (inL l2_0 k2_0) (
      gd (inL l2_0 k2_0) (
      gd (inL (lset l2_0 k2_0 (gat (ByteArray.mk #[]) l2_0 (iadd .i64 k2_0 y2_10))) (iadd .i64 k2_0 y2_10)) (
      bd (F_slices_siftDownOrdered_string fu (lset (lset l2_0 k2_0 (gat (ByteArray.mk #[]) l2_0 (iadd .i64 k2_0 y2_10))) (iadd .i64 k2_0 y2_10) (gat (ByteArray.mk #[]) l2_0 k2_0)) 0 y2_10 k2_0) fun r2 =>
      F_slices_heapSortOrdered_string_L2 fu k2_0 n r2 (isub .i64 y2_10 1)))))
    else
      some (l2_0, y2_10)
def F_slices_heapSortOrdered_string_L1 (fu : Nat) (k1_0 : Int) (k1_1 : Int) : Nat → List ByteArray → Int → Option (List ByteArray × Int)
  | 0, _, _ => none
  | n + 1, l1_0, y1_9 =>
    bif (ile 0 y1_9) then
      bd (F_slices_siftDownOrdered_string fu l1_0 y1_9 k1_1 k1_0) fun r1 =>
      F_slices_heapSortOrdered_string_L1 fu k1_0 k1_1 n r1 (isub .i64 y1_9 1)
    else
      some (l1_0, y1_9)
def F_slices_heapSortOrdered_string (fu : Nat) (x0 : List ByteArray) (x1 : Int) (x2 : Int) : Option (List ByteArray) :=
  bd (F_slices_heapSortOrdered_string_L1 fu x1 (isub .i64 x2 x1) fu x0 (iquo .i64 (isub .i64 (isub .i64 x2 x1) 1) 2)) fun s1 =>
  bd (F_slices_heapSortOrdered_string_L2 fu x1 fu s1.1 (isub .i64 (isub .i64 x2 x1) 1)) fun s2 =>
  some s2.1
theorem F_slices_heapSortOrdered_string_w {fu : Nat} {H : AH} {B : Nat → Prop} {v0 : Value} {x0 : List ByteArray} {x1 : Int} {x2 : Int} {r : (List ByteArray)} (hB : Up B H.length) (S0 : Sep H B [flat v0 9 (strs x0)]) (hF : F_slices_heapSortOrdered_string fu x0 x1 x2 = some r) :
    ACallT Try.prog 166 [v0, (Value.int .i64 x1), (Value.int .i64 x2)] H (fun u G => AgB B H G ∧ u = (Value.tuple #[]) ∧ Sep G B [flat v0 9 (strs r)]) := by
  refine ACallT.of_body (nt := 56) (rs := []) Try.func166 rfl rfl rfl rfl ?_
  have A0 : AgB B H H := .refl _ _
  unfold F_slices_heapSortOrdered_string at hF
  refine DWp.seq ?_
  refine DWp.region fun K hK => ?_
  simp [-aBin', -aBin, -aBinI, -aUn, -aNil, -flatV, n_fn, b_add, b_sub, b_mul, b_lt, b_le, b_gt, b_ge, b_eq, b_ne, u_not]
  apply hK
  clear hK K
  simp only [andThen, leaves]
  refine DWp.seq ?_
  refine DWp.region fun K hK => ?_
  simp [-aBin', -aBin, -aBinI, -aUn, -aNil, -flatV, n_fn, b_add, b_sub, b_mul, b_lt, b_le, b_gt, b_ge, b_eq, b_ne, u_not]
  apply hK
  clear hK K
  simp only [andThen, leaves]
  refine DWp.seq ?_
  refine DWp.region fun K hK => ?_
  simp [-aBin', -aBin, -aBinI, -aUn, -aNil, -flatV, n_fn, b_add, b_sub, b_mul, b_lt, b_le, b_gt, b_ge, b_eq, b_ne, u_not]
  apply hK
  clear hK K
  simp only [andThen, leaves]
  refine DWp.seq ?_
  refine DWp.seq ?_
  have g1 : (2 : Int) ≠ 0 := by decide
  refine DWp.region fun K hK => ?_
  simp [-aBin', -aBin, -aBinI, -aUn, -aNil, -flatV, n_fn, b_add, b_sub, b_mul, b_lt, b_le, b_gt, b_ge, b_eq, b_ne, u_not, b_quo g1]
  apply hK
  clear hK K
  simp only [andThen, leaves]
  refine DWp.block ?_
  obtain ⟨s2, hL3, hF⟩ := bd_some hF
  have S4 := S0.pick [0] (by decide) rfl
  refine DWp.loop (fun n env G => ∃ l1_0 : List ByteArray, ∃ y1_9 : Int, F_slices_heapSortOrdered_string_L1 fu x1 (isub .i64 x2 x1) n l1_0 y1_9 = some s2 ∧ Sep G B [flat v0 9 (strs l1_0)] ∧ AgB B H G ∧ env 0 = some v0 ∧ env 6 = some (Value.int .i64 x1) ∧ env 7 = some (Value.int .i64 0) ∧ env 8 = some (Value.int .i64 (isub .i64 x2 x1)) ∧ env 9 = some (Value.int .i64 y1_9)) fu ⟨x0, (iquo .i64 (isub .i64 (isub .i64 x2 x1) 1) 2), hL3, S4, A0, by simp [], by simp [], by simp [], by simp [], by simp []⟩ ?_
  rintro n1 env1 G1_ ⟨l1_0, y1_9, hL3, S1_, A1_, e1_0, e1_6, e1_7, e1_8, e1_9⟩
  cases n1 with
  | zero => cases hL3
  | succ n1 =>
    simp only [F_slices_heapSortOrdered_string_L1] at hL3
    refine DWp.seq ?_
    refine DWp.seq ?_
    refine DWp.region fun K hK => ?_
    simp [-aBin', -aBin, -aBinI, -aUn, -aNil, -flatV, n_fn, b_add, b_sub, b_mul, b_lt, b_le, b_gt, b_ge, b_eq, b_ne, u_not, e1_0, e1_6, e1_7, e1_8, e1_9]
    apply hK
    clear hK K
    simp only [andThen, leaves]
    refine DWp.cond' (t := (ile 0 y1_9)) (by simp [e1_0, e1_6, e1_7, e1_8, e1_9]) (fun hb5 => ?_) (fun hb5 => ?_)
    · replace hL3 := cd_t hb5 hL3
      refine DWp.skip ?_
      simp only [andThen, leaves]
      refine DWp.seq ?_
      refine DWp.block ?_
      obtain ⟨r1, hc6, hL3⟩ := bd_some hL3
      refine DWp.region fun K hK => ?_
      simp [-aBin', -aBin, -aBinI, -aUn, -aNil, -flatV, n_fn, b_add, b_sub, b_mul, b_lt, b_le, b_gt, b_ge, b_eq, b_ne, u_not, e1_0, e1_6, e1_7, e1_8, e1_9, ((S1_.sl (k := 0) rfl).tup)]
      have S7 : Sep G1_ B ([flat v0 9 (strs l1_0)] ++ []) := S1_.pick [0] (by decide) rfl
      obtain ⟨B13, S8, U9, M10, R11, C12⟩ := S7.frame (hB.le A1_.1)
      refine CallD.t (F_slices_siftDownOrdered_string_w (fu := fu) U9 S8 hc6) ?_
      rintro _ G15 ⟨a18, rfl, S19⟩
      have A17 := A1_.trans (a18.mono M10)
      have S16 : Sep G15 B [flat v0 9 (strs r1)] := C12 _ _ a18 S19
      simp [-aBin', -aBin, -aBinI, -aUn, -aNil, -flatV, n_fn, b_add, b_sub, b_mul, b_lt, b_le, b_gt, b_ge, b_eq, b_ne, u_not, e1_0, e1_6, e1_7, e1_8, e1_9]
      apply hK
      clear hK K
      simp only [andThen, leaves]
      refine DWp.region fun K hK => ?_
      simp [-aBin', -aBin, -aBinI, -aUn, -aNil, -flatV, n_fn, b_add, b_sub, b_mul, b_lt, b_le, b_gt, b_ge, b_eq, b_ne, u_not, e1_0, e1_6, e1_7, e1_8, e1_9]
      apply hK
      clear hK K
      simp only [andThen, leaves]
      have S20 := S16.pick [0] (by decide) rfl
      exact ⟨n1, Nat.lt_succ_self _, r1, (isub .i64 y1_9 1), hL3, S20, A17, by simp [e1_0, e1_6, e1_7, e1_8, e1_9], by simp [e1_0, e1_6, e1_7, e1_8, e1_9], by simp [e1_0, e1_6, e1_7, e1_8, e1_9], by simp [e1_0, e1_6, e1_7, e1_8, e1_9], by simp [e1_0, e1_6, e1_7, e1_8, e1_9]⟩
    · replace hL3 := cd_f hb5 hL3
      refine DWp.exit ?_
      simp only [andThen, leaves, if_true, if_false, reduceIte, Nat.reduceEqDiff]
      obtain rfl := Option.some.inj hL3
      try dsimp only at hF
      refine DWp.seq ?_
      refine DWp.region fun K hK => ?_
      simp [-aBin', -aBin, -aBinI, -aUn, -aNil, -flatV, n_fn, b_add, b_sub, b_mul, b_lt, b_le, b_gt, b_ge, b_eq, b_ne, u_not, e1_0, e1_6, e1_7, e1_8, e1_9]
      apply hK
      clear hK K
      simp only [andThen, leaves]
      refine DWp.block ?_
      obtain ⟨s21, hL22, hF⟩ := bd_some hF
      have S23 := S1_.pick [0] (by decide) rfl
      refine DWp.loop (fun n env G => ∃ l2_0 : List ByteArray, ∃ y2_10 : Int, F_slices_heapSortOrdered_string_L2 fu x1 n l2_0 y2_10 = some s21 ∧ Sep G B [flat v0 9 (strs l2_0)] ∧ AgB B H G ∧ env 0 = some v0 ∧ env 6 = some (Value.int .i64 x1) ∧ env 7 = some (Value.int .i64 0) ∧ env 10 = some (Value.int .i64 y2_10)) fu ⟨l1_0, (isub .i64 (isub .i64 x2 x1) 1), hL22, S23, A1_, by simp [e1_0, e1_6, e1_7, e1_8, e1_9], by simp [e1_0, e1_6, e1_7, e1_8, e1_9], by simp [e1_0, e1_6, e1_7, e1_8, e1_9], by simp [e1_0, e1_6, e1_7, e1_8, e1_9]⟩ ?_
      rintro n1 env1 G1_ ⟨l2_0, y2_10, hL22, S1_, A1_, e1_0, e1_6, e1_7, e1_10⟩
      cases n1 with
      | zero => cases hL22
      | succ n1 =>
        simp only [F_slices_heapSortOrdered_string_L2] at hL22
        refine DWp.seq ?_
        refine DWp.seq ?_
        refine DWp.region fun K hK => ?_
        simp [-aBin', -aBin, -aBinI, -aUn, -aNil, -flatV, n_fn, b_add, b_sub, b_mul, b_lt, b_le, b_gt, b_ge, b_eq, b_ne, u_not, e1_0, e1_6, e1_7, e1_10]
        apply hK
        clear hK K
        simp only [andThen, leaves]
        refine DWp.cond' (t := (ile 0 y2_10)) (by simp [e1_0, e1_6, e1_7, e1_10]) (fun hb24 => ?_) (fun hb24 => ?_)
        · replace hL22 := cd_t hb24 hL22
          refine DWp.skip ?_
          simp only [andThen, leaves]
          refine DWp.seq ?_
          refine DWp.block ?_
          refine DWp.seq ?_
          obtain ⟨g25, hL22⟩ := gd_some hL22
          have q26 := idxG (P := Try.prog) (kk := .i64) (S1_.sl (k := 0) rfl) el_59 sz_9 g25
          have q27 := loadG (P := Try.prog) (S1_.sl (k := 0) rfl) sz_9 ag_9 g25 (ByteArray.mk #[])
          obtain ⟨g28, hL22⟩ := gd_some hL22
          have q29 := idxG (P := Try.prog) (kk := .i64) (S1_.sl (k := 0) rfl) el_59 sz_9 g28
          have q30 := loadG (P := Try.prog) (S1_.sl (k := 0) rfl) sz_9 ag_9 g28 (ByteArray.mk #[])
          obtain ⟨g31, hL22⟩ := gd_some hL22
          have q32 := idxG (P := Try.prog) (kk := .i64) (S1_.sl (k := 0) rfl) el_59 sz_9 g31
          obtain ⟨G33, q34, S35, a37⟩ := S1_.storeG (f := Value.string) (P := Try.prog) (k := 0) (x := (gat (ByteArray.mk #[]) l2_0 (iadd .i64 x1 y2_10))) rfl (hB.le A1_.1) sz_9 g31 rfl rfl
          have A36 := A1_.trans a37
          replace S35 : Sep G33 B [flat v0 9 (strs (lset l2_0 x1 (gat (ByteArray.mk #[]) l2_0 (iadd .i64 x1 y2_10))))] := S35
          obtain ⟨g38, hL22⟩ := gd_some hL22
          have q39 := idxG (P := Try.prog) (kk := .i64) (S35.sl (k := 0) rfl) el_59 sz_9 g38
          obtain ⟨G40, q41, S42, a44⟩ := S35.storeG (f := Value.string) (P := Try.prog) (k := 0) (x := (gat (ByteArray.mk #[]) l2_0 x1)) rfl (hB.le A36.1) sz_9 g38 rfl rfl
          have A43 := A36.trans a44
          replace S42 : Sep G40 B [flat v0 9 (strs (lset (lset l2_0 x1 (gat (ByteArray.mk #[]) l2_0 (iadd .i64 x1 y2_10))) (iadd .i64 x1 y2_10) (gat (ByteArray.mk #[]) l2_0 x1)))] := S42
          refine DWp.drawn (B := [0, 0, 0, 0, 0, 24, 0, 0, 0, 384, 960, 1984, 0, 0, 12288, 28672, 65475, 131011, 262143, 524287]) 17 mixed (by kernel_rfl) (by decide) fun K hK => ?_
          simp [-aBin', -aBin, -aBinI, -aUn, -aNil, -flatV, n_fn, b_add, b_sub, b_mul, b_lt, b_le, b_gt, b_ge, b_eq, b_ne, u_not, e1_0, e1_6, e1_7, e1_10, q26, q27, q29, q30, q32, q34, q39, q41]
          apply hK
          clear hK K
          simp only [andThen, leaves]
          obtain ⟨r2, hc45, hL22⟩ := bd_some hL22
          refine DWp.region fun K hK => ?_
          simp [-aBin', -aBin, -aBinI, -aUn, -aNil, -flatV, n_fn, b_add, b_sub, b_mul, b_lt, b_le, b_gt, b_ge, b_eq, b_ne, u_not, e1_0, e1_6, e1_7, e1_10, ((S42.sl (k := 0) rfl).tup)]
          have S46 : Sep G40 B ([flat v0 9 (strs (lset (lset l2_0 x1 (gat (ByteArray.mk #[]) l2_0 (iadd .i64 x1 y2_10))) (iadd .i64 x1 y2_10) (gat (ByteArray.mk #[]) l2_0 x1)))] ++ []) := S42.pick [0] (by decide) rfl
          obtain ⟨B52, S47, U48, M49, R50, C51⟩ := S46.frame (hB.le A43.1)
          refine CallD.t (F_slices_siftDownOrdered_string_w (fu := fu) U48 S47 hc45) ?_
          rintro _ G54 ⟨a57, rfl, S58⟩
          have A56 := A43.trans (a57.mono M49)
          have S55 : Sep G54 B [flat v0 9 (strs r2)] := C51 _ _ a57 S58
          simp [-aBin', -aBin, -aBinI, -aUn, -aNil, -flatV, n_fn, b_add, b_sub, b_mul, b_lt, b_le, b_gt, b_ge, b_eq, b_ne, u_not, e1_0, e1_6, e1_7, e1_10]
          apply hK
          clear hK K
          simp only [andThen, leaves]
          refine DWp.region fun K hK => ?_
          simp [-aBin', -aBin, -aBinI, -aUn, -aNil, -flatV, n_fn, b_add, b_sub, b_mul, b_lt, b_le, b_gt, b_ge, b_eq, b_ne, u_not, e1_0, e1_6, e1_7, e1_10]
          apply hK
          clear hK K
          simp only [andThen, leaves]
          have S59 := S55.pick [0] (by decide) rfl
          exact ⟨n1, Nat.lt_succ_self _, r2, (isub .i64 y2_10 1), hL22, S59, A56, by simp [e1_0, e1_6, e1_7, e1_10], by simp [e1_0, e1_6, e1_7, e1_10], by simp [e1_0, e1_6, e1_7, e1_10], by simp [e1_0, e1_6, e1_7, e1_10]⟩
        · replace hL22 := cd_f hb24 hL22
          refine DWp.exit ?_
          simp only [andThen, leaves, if_true, if_false, reduceIte, Nat.reduceEqDiff]
          obtain rfl := Option.some.inj hL22
          try dsimp only at hF
          obtain rfl := Option.some.inj hF
          exact ⟨by simp, [], by simp [e1_0, e1_6, e1_7, e1_10], A1_, rfl, S1_.pick [0] (by decide) rfl⟩
end Go.Proofs.Ytbckijeffiofdaa.AL

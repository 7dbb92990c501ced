/- The walks of functions, each with its Lean function: laws.toIntS, spec.exFaces, spec.exPairs, spec.CountExchanges, impl.under, impl.faces, bits.Len32, bits.Len64, bits.Len, slices.insertionSortCmpFunc[[2]int]. No condition. -/
import Derived.Test.YtdghlhdpcmemjaaFBD
import Derived.Test.YtdghlhdpcmemjaaFBE
import Derived.Test.YtdghlhdpcmemjaaALD
import Derived.Test.YtdghlhdpcmemjaaProg
import Derived.KernelRfl
namespace Go.Proofs.Ytdghlhdpcmemjaa.AL
open Go Go.RowKit
set_option linter.unusedVariables false
set_option linter.unusedSimpArgs false
set_option maxRecDepth 4096
theorem ag_22 : aggT Try.prog 22 = some false := by kernel_rfl
theorem ag_3 : aggT Try.prog 3 = some false := by kernel_rfl
theorem ag_62 : aggT Try.prog 62 = some true := by kernel_rfl
theorem ei_22 : einfo Try.prog 22 = some ⟨1, 24, .slice none 0 0⟩ := by kernel_rfl
theorem ei_3 : einfo Try.prog 3 = some ⟨1, 8, .int .i64 0⟩ := by kernel_rfl
theorem el_22 : elemT Try.prog 22 = some 3 := by kernel_rfl
theorem el_23 : elemT Try.prog 23 = some 22 := by kernel_rfl
theorem el_58 : elemT Try.prog 58 = some 62 := by kernel_rfl
theorem sz_22 : sizeT Try.prog 22 = some 1 := by kernel_rfl
theorem sz_3 : sizeT Try.prog 3 = some 1 := by kernel_rfl
theorem sz_62 : sizeT Try.prog 62 = some 2 := by kernel_rfl
theorem un_108 : Try.prog.underlying 108 = some (.int .u64) := by kernel_rfl
theorem un_3 : Try.prog.underlying 3 = some (.int .i64) := by kernel_rfl
theorem un_5 : Try.prog.underlying 5 = some (.int .u8) := by kernel_rfl
theorem un_9 : Try.prog.underlying 9 = some .string := by kernel_rfl
def F_laws_toIntS_L1 (fu : Nat) (k1_0 : List Int) : Nat → List Int → Int → Option (List Int × Int)
  | 0, _, _ => none
  | n + 1, l1_0, y1_4 =>
    bif (ilt y1_4 (llen k1_0)) then
      gd (inL k1_0 y1_4) (
      gd (inL l1_0 y1_4) (
      F_laws_toIntS_L1 fu k1_0 n (lset l1_0 y1_4 (gat 0 k1_0 y1_4)) (iadd .i64 y1_4 1)))
    else
      some (l1_0, y1_4)
def F_laws_toIntS (fu : Nat) (x0 : List Int) : Option (List Int) :=
  gd (0 ≤ (llen x0) ∧ (llen x0) ≤ 4294967296) (
  bd (F_laws_toIntS_L1 fu x0 fu (lrep (llen x0) (0 : Int)) 0) fun s1 =>
  some s1.1)
theorem F_laws_toIntS_w {fu : Nat} {H : AH} {v0 : Value} {x0 : List Int} {r : (List Int)} (hx0 : Sl H v0 (ints x0)) (hF : F_laws_toIntS fu x0 = some r) :
    ACallT Try.prog 16 [v0] H (fun u G => AgB (Fr H) H G ∧ ∃ u0 : Value, u = u0 ∧ Sep G (Fr H) [flat u0 3 (ints r)]) := by
  refine ACallT.of_body (nt := 22) (rs := [.tmp 2]) Try.func16 rfl rfl rfl rfl ?_
  have A0 : AgB (Fr H) H H := .refl _ _
  have S0 : Sep H (Fr H) [] := .nil
  have hB := Fr.up H
  unfold F_laws_toIntS at hF
  refine DWp.seq ?_
  refine DWp.region fun K hK => ?_
  simp [-aBin', -aBin, -aBinI, -aUn, -aNil, -flatV, n_fn, b_add, b_sub, b_mul, b_lt, b_le, b_gt, b_ge, b_eq, b_ne, u_not]
  apply hK
  clear hK K
  simp only [andThen, leaves]
  refine DWp.seq ?_
  have q1 := lenG (P := Try.prog) (hx0.agree A0.agree) el_22
  obtain ⟨g2, hF⟩ := gd_some hF
  obtain ⟨v3, G4, q5, S6, a8, _⟩ := S0.make (f := (Value.int .i64)) (P := Try.prog) (t := 22) (hB.le A0.1) el_22 ei_3 rfl 0 rfl g2
  have A7 := A0.ext (hB.le A0.1) a8
  replace S6 : Sep G4 (Fr H) [flat v3 3 (ints (lrep (llen x0) (0 : Int)))] := S6
  refine DWp.region fun K hK => ?_
  simp [-aBin', -aBin, -aBinI, -aUn, -aNil, -flatV, n_fn, b_add, b_sub, b_mul, b_lt, b_le, b_gt, b_ge, b_eq, b_ne, u_not, q1, q5, a8.to_pre]
  apply hK
  clear hK K
  simp only [andThen, leaves]
  refine DWp.seq ?_
  refine DWp.seq ?_
  refine DWp.region fun K hK => ?_
  simp [-aBin', -aBin, -aBinI, -aUn, -aNil, -flatV, n_fn, b_add, b_sub, b_mul, b_lt, b_le, b_gt, b_ge, b_eq, b_ne, u_not]
  apply hK
  clear hK K
  simp only [andThen, leaves]
  refine DWp.block ?_
  obtain ⟨s9, hL10, hF⟩ := bd_some hF
  have S11 := S6.pick [0] (by decide) rfl
  refine DWp.loop (fun n env G => ∃ l1_0 : List Int, ∃ y1_4 : Int, F_laws_toIntS_L1 fu x0 n l1_0 y1_4 = some s9 ∧ Sep G (Fr H) [flat v3 3 (ints l1_0)] ∧ AgB (Fr H) H G ∧ env 0 = some v0 ∧ env 3 = some v3 ∧ env 4 = some (Value.int .i64 y1_4)) fu ⟨(lrep (llen x0) (0 : Int)), 0, hL10, S11, A7, by simp [], by simp [], by simp []⟩ ?_
  rintro n1 env1 G1_ ⟨l1_0, y1_4, hL10, S1_, A1_, e1_0, e1_3, e1_4⟩
  cases n1 with
  | zero => cases hL10
  | succ n1 =>
    simp only [F_laws_toIntS_L1] at hL10
    refine DWp.seq ?_
    refine DWp.seq ?_
    have q12 := lenG (P := Try.prog) (hx0.agree A1_.agree) el_22
    refine DWp.region fun K hK => ?_
    simp [-aBin', -aBin, -aBinI, -aUn, -aNil, -flatV, n_fn, b_add, b_sub, b_mul, b_lt, b_le, b_gt, b_ge, b_eq, b_ne, u_not, e1_0, e1_3, e1_4, q12]
    apply hK
    clear hK K
    simp only [andThen, leaves]
    refine DWp.cond' (t := (ilt y1_4 (llen x0))) (by simp [e1_0, e1_3, e1_4]) (fun hb13 => ?_) (fun hb13 => ?_)
    · replace hL10 := cd_t hb13 hL10
      refine DWp.skip ?_
      simp only [andThen, leaves]
      refine DWp.seq ?_
      refine DWp.block ?_
      obtain ⟨g14, hL10⟩ := gd_some hL10
      have q15 := idxG (P := Try.prog) (kk := .i64) (hx0.agree A1_.agree) el_22 sz_3 g14
      have q16 := loadG (P := Try.prog) (hx0.agree A1_.agree) sz_3 ag_3 g14 0
      obtain ⟨g17, hL10⟩ := gd_some hL10
      have q18 := idxG (P := Try.prog) (kk := .i64) (S1_.sl (k := 0) rfl) el_22 sz_3 g17
      obtain ⟨G19, q20, S21, a23⟩ := S1_.storeG (f := (Value.int .i64)) (P := Try.prog) (k := 0) (x := (gat 0 x0 y1_4)) rfl (hB.le A1_.1) sz_3 g17 rfl rfl
      have A22 := A1_.trans a23
      replace S21 : Sep G19 (Fr H) [flat v3 3 (ints (lset l1_0 y1_4 (gat 0 x0 y1_4)))] := S21
      refine DWp.region fun K hK => ?_
      simp [-aBin', -aBin, -aBinI, -aUn, -aNil, -flatV, n_fn, b_add, b_sub, b_mul, b_lt, b_le, b_gt, b_ge, b_eq, b_ne, u_not, e1_0, e1_3, e1_4, q15, q16, q18, q20]
      apply hK
      clear hK K
      simp only [andThen, leaves]
      refine DWp.region fun K hK => ?_
      simp [-aBin', -aBin, -aBinI, -aUn, -aNil, -flatV, n_fn, b_add, b_sub, b_mul, b_lt, b_le, b_gt, b_ge, b_eq, b_ne, u_not, e1_0, e1_3, e1_4]
      apply hK
      clear hK K
      simp only [andThen, leaves]
      have S24 := S21.pick [0] (by decide) rfl
      exact ⟨n1, Nat.lt_succ_self _, (lset l1_0 y1_4 (gat 0 x0 y1_4)), (iadd .i64 y1_4 1), hL10, S24, A22, by simp [e1_0, e1_3, e1_4], by simp [e1_0, e1_3, e1_4], by simp [e1_0, e1_3, e1_4]⟩
    · replace hL10 := cd_f hb13 hL10
      refine DWp.exit ?_
      simp only [andThen, leaves, if_true, if_false, reduceIte, Nat.reduceEqDiff]
      obtain rfl := Option.some.inj hL10
      try dsimp only at hF
      refine DWp.seq ?_
      refine DWp.region fun K hK => ?_
      simp [-aBin', -aBin, -aBinI, -aUn, -aNil, -flatV, n_fn, b_add, b_sub, b_mul, b_lt, b_le, b_gt, b_ge, b_eq, b_ne, u_not, e1_0, e1_3, e1_4]
      apply hK
      clear hK K
      simp only [andThen, leaves]
      refine DWp.ret ?_
      obtain rfl := Option.some.inj hF
      exact ⟨by simp, [v3], by simp [e1_0, e1_3, e1_4, ((S1_.sl (k := 0) rfl).tup)], A1_, v3, rfl, S1_.pick [0] (by decide) rfl⟩
def F_spec_exFaces_L3 (fu : Nat) (k3_0 : List Int) (k3_1 : List (List Int)) (k3_2 : Int) (k3_3 : Int) (k3_4 : Int) : Nat → List Int → Int → Option (List Int × Int)
  | 0, _, _ => none
  | n + 1, l3_1, y3_9 =>
    bif (ilt y3_9 k3_2) then
      gd (l3_1.length + [y3_9].length ≤ 4294967296) (
      gd (inL k3_0 y3_9) (
      F_spec_exFaces_L3 fu k3_0 k3_1 k3_2 k3_3 k3_4 n (lapp l3_1 [y3_9]) (iadd .i64 (gat 0 k3_0 y3_9) 1)))
    else
      some (l3_1, y3_9)
def F_spec_exFaces_L2 (fu : Nat) (k2_0 : List Int) (k2_1 : Int) : Nat → List (List Int) → Int → Option (List (List Int) × Int)
  | 0, _, _ => none
  | n + 1, l2_0, y2_27 =>
    bif (ilt y2_27 k2_1) then
      gd (inL k2_0 y2_27) (
      bif (ilt (gat 0 k2_0 y2_27) y2_27) then
        F_spec_exFaces_L2 fu k2_0 k2_1 n l2_0 (iadd .i64 y2_27 1)
      else
        bd (F_spec_exFaces_L3 fu k2_0 l2_0 (gat 0 k2_0 y2_27) k2_1 y2_27 fu [y2_27] (iadd .i64 y2_27 1)) fun s3 =>
        gd (l2_0.length + 1 ≤ 4294967296) (
        F_spec_exFaces_L2 fu k2_0 k2_1 n (lapp l2_0 [s3.1]) (iadd .i64 y2_27 1)))
    else
      some (l2_0, y2_27)
def F_spec_exFaces_L1 (fu : Nat) (k1_0 : List Int) : Nat → List Int → Int → Option (List Int × Int)
  | 0, _, _ => none
  | n + 1, l1_0, y1_4 =>
    bif (ilt y1_4 (llen k1_0)) then
      gd (l1_0.length + [y1_4].length ≤ 4294967296) (
      gd (inL k1_0 y1_4) (
      F_spec_exFaces_L1 fu k1_0 n (lapp l1_0 [y1_4]) (iadd .i64 (gat 0 k1_0 y1_4) 1)))
    else
      some (l1_0, y1_4)
def F_spec_exFaces (fu : Nat) (x0 : List Int) : Option (List (List Int)) :=
  bd (F_spec_exFaces_L1 fu x0 fu (@List.nil Int) 0) fun s1 =>
  bd (F_spec_exFaces_L2 fu x0 (llen x0) fu [s1.1] 0) fun s2 =>
  some s2.1
theorem F_spec_exFaces_w {fu : Nat} {H : AH} {v0 : Value} {x0 : List Int} {r : (List (List Int))} (hx0 : Sl H v0 (ints x0)) (hF : F_spec_exFaces fu x0 = some r) :
    ACallT Try.prog 54 [v0] H (fun u G => AgB (Fr H) H G ∧ ∃ u0 : Value, ∃ C0 : List Value, u = u0 ∧ Sep G (Fr H) [rowsC u0 22 3 C0 (List.map ints r)]) := by
  refine ACallT.of_body (nt := 57) (rs := [.tmp 2]) Try.func54 rfl rfl rfl rfl ?_
  have A0 : AgB (Fr H) H H := .refl _ _
  have S0 : Sep H (Fr H) [] := .nil
  have hB := Fr.up H
  unfold F_spec_exFaces at hF
  refine DWp.seq ?_
  refine DWp.region fun K hK => ?_
  simp [-aBin', -aBin, -aBinI, -aUn, -aNil, -flatV, n_fn, b_add, b_sub, b_mul, b_lt, b_le, b_gt, b_ge, b_eq, b_ne, u_not]
  apply hK
  clear hK K
  simp only [andThen, leaves]
  refine DWp.seq ?_
  refine DWp.region fun K hK => ?_
  simp [-aBin', -aBin, -aBinI, -aUn, -aNil, -flatV, n_fn, b_add, b_sub, b_mul, b_lt, b_le, b_gt, b_ge, b_eq, b_ne, u_not]
  apply hK
  clear hK K
  simp only [andThen, leaves]
  refine DWp.seq ?_
  refine DWp.seq ?_
  refine DWp.region fun K hK => ?_
  simp [-aBin', -aBin, -aBinI, -aUn, -aNil, -flatV, n_fn, b_add, b_sub, b_mul, b_lt, b_le, b_gt, b_ge, b_eq, b_ne, u_not]
  apply hK
  clear hK K
  simp only [andThen, leaves]
  refine DWp.block ?_
  have S1 := S0.nilItem (hB.le A0.1) 3
  obtain ⟨s2, hL3, hF⟩ := bd_some hF
  have S4 := S1.pick [0] (by decide) rfl
  refine DWp.loop (fun n env G => ∃ l1_0 : List Int, ∃ y1_4 : Int, ∃ w1_0 : Value, F_spec_exFaces_L1 fu x0 n l1_0 y1_4 = some s2 ∧ Sep G (Fr H) [flat w1_0 3 (ints l1_0)] ∧ AgB (Fr H) H G ∧ env 0 = some v0 ∧ env 3 = some w1_0 ∧ env 4 = some (Value.int .i64 y1_4)) fu ⟨(@List.nil Int), 0, (Value.slice none 0 0), hL3, S4, A0, by simp [], by simp [], by simp []⟩ ?_
  rintro n1 env1 G1_ ⟨l1_0, y1_4, w1_0, hL3, S1_, A1_, e1_0, e1_3, e1_4⟩
  cases n1 with
  | zero => cases hL3
  | succ n1 =>
    simp only [F_spec_exFaces_L1] at hL3
    refine DWp.seq ?_
    refine DWp.seq ?_
    have q5 := lenG (P := Try.prog) (hx0.agree A1_.agree) el_22
    refine DWp.region fun K hK => ?_
    simp [-aBin', -aBin, -aBinI, -aUn, -aNil, -flatV, n_fn, b_add, b_sub, b_mul, b_lt, b_le, b_gt, b_ge, b_eq, b_ne, u_not, e1_0, e1_3, e1_4, q5]
    apply hK
    clear hK K
    simp only [andThen, leaves]
    refine DWp.cond' (t := (ilt y1_4 (llen x0))) (by simp [e1_0, e1_3, e1_4]) (fun hb6 => ?_) (fun hb6 => ?_)
    · replace hL3 := cd_t hb6 hL3
      refine DWp.skip ?_
      simp only [andThen, leaves]
      refine DWp.seq ?_
      refine DWp.block ?_
      obtain ⟨v7, G8, q9, S10, a12, _, _⟩ := S1_.lit1 (P := Try.prog) (t := 22) (hB.le A1_.1) el_22 ei_3 rfl (Value.int .i64 y1_4) rfl rfl
      have A11 := A1_.ext (hB.le A1_.1) a12
      replace S10 : Sep G8 (Fr H) [flat w1_0 3 (ints l1_0), flat1 v7 3 (ints [y1_4])] := S10
      obtain ⟨g14, hL3⟩ := gd_some hL3
      obtain ⟨v20, G15, q16, S17, a19, _, _⟩ := S10.appendG (f := (Value.int .i64)) (xs := l1_0) (ys := [y1_4]) (P := Try.prog) (t := 22) (t2 := 22) (k := 0) rfl (hB.le A11.1) el_22 el_22 ei_3 rfl (S10.sl1 (k := 1) rfl) g14
      have A18 := A11.trans a19
      replace S17 : Sep G15 (Fr H) [flat v20 3 (ints (lapp l1_0 [y1_4])), flat1 v7 3 (ints [y1_4])] := S17
      refine DWp.region fun K hK => ?_
      simp [-aBin', -aBin, -aBinI, -aUn, -aNil, -flatV, n_fn, b_add, b_sub, b_mul, b_lt, b_le, b_gt, b_ge, b_eq, b_ne, u_not, e1_0, e1_3, e1_4, q9, a12.to_pre, q16]
      apply hK
      clear hK K
      simp only [andThen, leaves]
      obtain ⟨g21, hL3⟩ := gd_some hL3
      have q22 := idxG (P := Try.prog) (kk := .i64) (hx0.agree A18.agree) el_22 sz_3 g21
      have q23 := loadG (P := Try.prog) (hx0.agree A18.agree) sz_3 ag_3 g21 0
      refine DWp.region fun K hK => ?_
      simp [-aBin', -aBin, -aBinI, -aUn, -aNil, -flatV, n_fn, b_add, b_sub, b_mul, b_lt, b_le, b_gt, b_ge, b_eq, b_ne, u_not, e1_0, e1_3, e1_4, q22, q23]
      apply hK
      clear hK K
      simp only [andThen, leaves]
      have S24 := S17.pick [0] (by decide) rfl
      exact ⟨n1, Nat.lt_succ_self _, (lapp l1_0 [y1_4]), (iadd .i64 (gat 0 x0 y1_4) 1), v20, hL3, S24, A18, by simp [e1_0, e1_3, e1_4], by simp [e1_0, e1_3, e1_4], by simp [e1_0, e1_3, e1_4]⟩
    · replace hL3 := cd_f hb6 hL3
      refine DWp.exit ?_
      simp only [andThen, leaves, if_true, if_false, reduceIte, Nat.reduceEqDiff]
      obtain rfl := Option.some.inj hL3
      try dsimp only at hF
      refine DWp.seq ?_
      obtain ⟨v25, G26, q27, S28, a30, _, _⟩ := S1_.lit1 (P := Try.prog) (t := 23) (hB.le A1_.1) el_23 ei_22 rfl w1_0 ((S1_.sl (k := 0) rfl).tup) ((S1_.sl (k := 0) rfl).one)
      have A29 := A1_.ext (hB.le A1_.1) a30
      replace S28 : Sep G26 (Fr H) [flat w1_0 3 (ints l1_0), flat1 v25 22 [w1_0]] := S28
      refine DWp.region fun K hK => ?_
      simp [-aBin', -aBin, -aBinI, -aUn, -aNil, -flatV, n_fn, b_add, b_sub, b_mul, b_lt, b_le, b_gt, b_ge, b_eq, b_ne, u_not, e1_0, e1_3, e1_4, q27, a30.to_pre, ((S1_.sl (k := 0) rfl).tup)]
      apply hK
      clear hK K
      simp only [andThen, leaves]
      refine DWp.seq ?_
      refine DWp.seq ?_
      have q31 := lenG (P := Try.prog) (hx0.agree A29.agree) el_22
      refine DWp.region fun K hK => ?_
      simp [-aBin', -aBin, -aBinI, -aUn, -aNil, -flatV, n_fn, b_add, b_sub, b_mul, b_lt, b_le, b_gt, b_ge, b_eq, b_ne, u_not, e1_0, e1_3, e1_4, q31]
      apply hK
      clear hK K
      simp only [andThen, leaves]
      refine DWp.block ?_
      have S32 : Sep G26 (Fr H) [emp, rowsC v25 22 3 [w1_0] (List.map ints [l1_0])] := S28.rowsOf1 (j := 1) (k := 0) (by decide) rfl rfl
      obtain ⟨s33, hL34, hF⟩ := bd_some hF
      have S35 := S32.pick [1] (by decide) rfl
      refine DWp.loop (fun n env G => ∃ l2_0 : List (List Int), ∃ y2_27 : Int, ∃ w2_0 : Value, ∃ D2_0 : List Value, F_spec_exFaces_L2 fu x0 (llen x0) n l2_0 y2_27 = some s33 ∧ Sep G (Fr H) [rowsC w2_0 22 3 D2_0 (List.map ints l2_0)] ∧ AgB (Fr H) H G ∧ env 0 = some v0 ∧ env 5 = some w2_0 ∧ env 25 = some v0 ∧ env 26 = some (Value.int .i64 (llen x0)) ∧ env 27 = some (Value.int .i64 y2_27)) fu ⟨[l1_0], 0, v25, [w1_0], hL34, S35, A29, by simp [e1_0, e1_3, e1_4], by simp [e1_0, e1_3, e1_4], by simp [e1_0, e1_3, e1_4], by simp [e1_0, e1_3, e1_4], by simp [e1_0, e1_3, e1_4]⟩ ?_
      rintro n1 env1 G1_ ⟨l2_0, y2_27, w2_0, D2_0, hL34, S1_, A1_, e1_0, e1_5, e1_25, e1_26, e1_27⟩
      cases n1 with
      | zero => cases hL34
      | succ n1 =>
        simp only [F_spec_exFaces_L2] at hL34
        refine DWp.seq ?_
        refine DWp.region fun K hK => ?_
        simp [-aBin', -aBin, -aBinI, -aUn, -aNil, -flatV, n_fn, b_add, b_sub, b_mul, b_lt, b_le, b_gt, b_ge, b_eq, b_ne, u_not, e1_0, e1_5, e1_25, e1_26, e1_27]
        apply hK
        clear hK K
        simp only [andThen, leaves]
        refine DWp.seq ?_
        refine DWp.cond' (t := (ilt y2_27 (llen x0))) (by simp [e1_0, e1_5, e1_25, e1_26, e1_27]) (fun hb36 => ?_) (fun hb36 => ?_)
        · replace hL34 := cd_t hb36 hL34
          refine DWp.skip ?_
          simp only [andThen, leaves]
          refine DWp.seq ?_
          refine DWp.block ?_
          refine DWp.seq ?_
          obtain ⟨g37, hL34⟩ := gd_some hL34
          have q38 := idxG (P := Try.prog) (kk := .i64) (hx0.agree A1_.agree) el_22 sz_3 g37
          have q39 := loadG (P := Try.prog) (hx0.agree A1_.agree) sz_3 ag_3 g37 0
          refine DWp.region fun K hK => ?_
          simp [-aBin', -aBin, -aBinI, -aUn, -aNil, -flatV, n_fn, b_add, b_sub, b_mul, b_lt, b_le, b_gt, b_ge, b_eq, b_ne, u_not, e1_0, e1_5, e1_25, e1_26, e1_27, q38, q39]
          apply hK
          clear hK K
          simp only [andThen, leaves]
          refine DWp.seq ?_
          refine DWp.seq ?_
          refine DWp.region fun K hK => ?_
          simp [-aBin', -aBin, -aBinI, -aUn, -aNil, -flatV, n_fn, b_add, b_sub, b_mul, b_lt, b_le, b_gt, b_ge, b_eq, b_ne, u_not, e1_0, e1_5, e1_25, e1_26, e1_27]
          apply hK
          clear hK K
          simp only [andThen, leaves]
          refine DWp.cond' (t := (ilt (gat 0 x0 y2_27) y2_27)) (by simp [e1_0, e1_5, e1_25, e1_26, e1_27]) (fun hb40 => ?_) (fun hb40 => ?_)
          · replace hL34 := cd_t hb40 hL34
            refine DWp.exit ?_
            simp only [andThen, leaves, if_true, if_false, reduceIte, Nat.reduceEqDiff]
            refine DWp.region fun K hK => ?_
            simp [-aBin', -aBin, -aBinI, -aUn, -aNil, -flatV, n_fn, b_add, b_sub, b_mul, b_lt, b_le, b_gt, b_ge, b_eq, b_ne, u_not, e1_0, e1_5, e1_25, e1_26, e1_27]
            apply hK
            clear hK K
            simp only [andThen, leaves]
            have S41 := S1_.pick [0] (by decide) rfl
            exact ⟨n1, Nat.lt_succ_self _, l2_0, (iadd .i64 y2_27 1), w2_0, D2_0, hL34, S41, A1_, by simp [e1_0, e1_5, e1_25, e1_26, e1_27], by simp [e1_0, e1_5, e1_25, e1_26, e1_27], by simp [e1_0, e1_5, e1_25, e1_26, e1_27], by simp [e1_0, e1_5, e1_25, e1_26, e1_27], by simp [e1_0, e1_5, e1_25, e1_26, e1_27]⟩
          · replace hL34 := cd_f hb40 hL34
            refine DWp.skip ?_
            simp only [andThen, leaves]
            refine DWp.seq ?_
            obtain ⟨v42, G43, q44, S45, a47, _, _⟩ := S1_.lit1 (P := Try.prog) (t := 22) (hB.le A1_.1) el_22 ei_3 rfl (Value.int .i64 y2_27) rfl rfl
            have A46 := A1_.ext (hB.le A1_.1) a47
            replace S45 : Sep G43 (Fr H) [rowsC w2_0 22 3 D2_0 (List.map ints l2_0), flat1 v42 3 (ints [y2_27])] := S45
            refine DWp.region fun K hK => ?_
            simp [-aBin', -aBin, -aBinI, -aUn, -aNil, -flatV, n_fn, b_add, b_sub, b_mul, b_lt, b_le, b_gt, b_ge, b_eq, b_ne, u_not, e1_0, e1_5, e1_25, e1_26, e1_27, q44, a47.to_pre]
            apply hK
            clear hK K
            simp only [andThen, leaves]
            refine DWp.seq ?_
            refine DWp.seq ?_
            refine DWp.region fun K hK => ?_
            simp [-aBin', -aBin, -aBinI, -aUn, -aNil, -flatV, n_fn, b_add, b_sub, b_mul, b_lt, b_le, b_gt, b_ge, b_eq, b_ne, u_not, e1_0, e1_5, e1_25, e1_26, e1_27]
            apply hK
            clear hK K
            simp only [andThen, leaves]
            refine DWp.block ?_
            obtain ⟨s49, hL50, hL34⟩ := bd_some hL34
            have S51 := S45.pick [0, 1] (by decide) rfl
            have S52 := S51.weak (k := 1) rfl
            refine DWp.loop (fun n env G => ∃ l3_1 : List Int, ∃ y3_9 : Int, ∃ w3_1 : Value, F_spec_exFaces_L3 fu x0 l2_0 (gat 0 x0 y2_27) (llen x0) y2_27 n l3_1 y3_9 = some s49 ∧ Sep G (Fr H) [rowsC w2_0 22 3 D2_0 (List.map ints l2_0), flat w3_1 3 (ints l3_1)] ∧ AgB (Fr H) H G ∧ env 0 = some v0 ∧ env 5 = some w2_0 ∧ env 7 = some (Value.int .i64 (gat 0 x0 y2_27)) ∧ env 8 = some w3_1 ∧ env 9 = some (Value.int .i64 y3_9) ∧ env 25 = some v0 ∧ env 26 = some (Value.int .i64 (llen x0)) ∧ env 27 = some (Value.int .i64 y2_27)) fu ⟨[y2_27], (iadd .i64 y2_27 1), v42, hL50, S52, A46, by simp [e1_0, e1_5, e1_25, e1_26, e1_27], by simp [e1_0, e1_5, e1_25, e1_26, e1_27], by simp [e1_0, e1_5, e1_25, e1_26, e1_27], by simp [e1_0, e1_5, e1_25, e1_26, e1_27], by simp [e1_0, e1_5, e1_25, e1_26, e1_27], by simp [e1_0, e1_5, e1_25, e1_26, e1_27], by simp [e1_0, e1_5, e1_25, e1_26, e1_27], by simp [e1_0, e1_5, e1_25, e1_26, e1_27]⟩ ?_
            rintro n2 env2 G2_ ⟨l3_1, y3_9, w3_1, hL50, S2_, A2_, e2_0, e2_5, e2_7, e2_8, e2_9, e2_25, e2_26, e2_27⟩
            cases n2 with
            | zero => cases hL50
            | succ n2 =>
              simp only [F_spec_exFaces_L3] at hL50
              refine DWp.seq ?_
              refine DWp.seq ?_
              refine DWp.region fun K hK => ?_
              simp [-aBin', -aBin, -aBinI, -aUn, -aNil, -flatV, n_fn, b_add, b_sub, b_mul, b_lt, b_le, b_gt, b_ge, b_eq, b_ne, u_not, e2_0, e2_5, e2_7, e2_8, e2_9, e2_25, e2_26, e2_27]
              apply hK
              clear hK K
              simp only [andThen, leaves]
              refine DWp.cond' (t := (ilt y3_9 (gat 0 x0 y2_27))) (by simp [e2_0, e2_5, e2_7, e2_8, e2_9, e2_25, e2_26, e2_27]) (fun hb53 => ?_) (fun hb53 => ?_)
              · replace hL50 := cd_t hb53 hL50
                refine DWp.skip ?_
                simp only [andThen, leaves]
                refine DWp.seq ?_
                refine DWp.block ?_
                obtain ⟨v54, G55, q56, S57, a59, _, _⟩ := S2_.lit1 (P := Try.prog) (t := 22) (hB.le A2_.1) el_22 ei_3 rfl (Value.int .i64 y3_9) rfl rfl
                have A58 := A2_.ext (hB.le A2_.1) a59
                replace S57 : Sep G55 (Fr H) [rowsC w2_0 22 3 D2_0 (List.map ints l2_0), flat w3_1 3 (ints l3_1), flat1 v54 3 (ints [y3_9])] := S57
                obtain ⟨g61, hL50⟩ := gd_some hL50
                obtain ⟨v67, G62, q63, S64, a66, _, _⟩ := S57.appendG (f := (Value.int .i64)) (xs := l3_1) (ys := [y3_9]) (P := Try.prog) (t := 22) (t2 := 22) (k := 1) rfl (hB.le A58.1) el_22 el_22 ei_3 rfl (S57.sl1 (k := 2) rfl) g61
                have A65 := A58.trans a66
                replace S64 : Sep G62 (Fr H) [rowsC w2_0 22 3 D2_0 (List.map ints l2_0), flat v67 3 (ints (lapp l3_1 [y3_9])), flat1 v54 3 (ints [y3_9])] := S64
                refine DWp.region fun K hK => ?_
                simp [-aBin', -aBin, -aBinI, -aUn, -aNil, -flatV, n_fn, b_add, b_sub, b_mul, b_lt, b_le, b_gt, b_ge, b_eq, b_ne, u_not, e2_0, e2_5, e2_7, e2_8, e2_9, e2_25, e2_26, e2_27, q56, a59.to_pre, q63]
                apply hK
                clear hK K
                simp only [andThen, leaves]
                obtain ⟨g68, hL50⟩ := gd_some hL50
                have q69 := idxG (P := Try.prog) (kk := .i64) (hx0.agree A65.agree) el_22 sz_3 g68
                have q70 := loadG (P := Try.prog) (hx0.agree A65.agree) sz_3 ag_3 g68 0
                refine DWp.region fun K hK => ?_
                simp [-aBin', -aBin, -aBinI, -aUn, -aNil, -flatV, n_fn, b_add, b_sub, b_mul, b_lt, b_le, b_gt, b_ge, b_eq, b_ne, u_not, e2_0, e2_5, e2_7, e2_8, e2_9, e2_25, e2_26, e2_27, q69, q70]
                apply hK
                clear hK K
                simp only [andThen, leaves]
                have S71 := S64.pick [0, 1] (by decide) rfl
                exact ⟨n2, Nat.lt_succ_self _, (lapp l3_1 [y3_9]), (iadd .i64 (gat 0 x0 y3_9) 1), v67, hL50, S71, A65, by simp [e2_0, e2_5, e2_7, e2_8, e2_9, e2_25, e2_26, e2_27], by simp [e2_0, e2_5, e2_7, e2_8, e2_9, e2_25, e2_26, e2_27], by simp [e2_0, e2_5, e2_7, e2_8, e2_9, e2_25, e2_26, e2_27], by simp [e2_0, e2_5, e2_7, e2_8, e2_9, e2_25, e2_26, e2_27], by simp [e2_0, e2_5, e2_7, e2_8, e2_9, e2_25, e2_26, e2_27], by simp [e2_0, e2_5, e2_7, e2_8, e2_9, e2_25, e2_26, e2_27], by simp [e2_0, e2_5, e2_7, e2_8, e2_9, e2_25, e2_26, e2_27], by simp [e2_0, e2_5, e2_7, e2_8, e2_9, e2_25, e2_26, e2_27]⟩
              · replace hL50 := cd_f hb53 hL50
                refine DWp.exit ?_
                simp only [andThen, leaves, if_true, if_false, reduceIte, Nat.reduceEqDiff]
                obtain rfl := Option.some.inj hL50
                try dsimp only at hL34
                obtain ⟨v72, G73, q74, S75, a77, _, _⟩ := S2_.lit1 (P := Try.prog) (t := 23) (hB.le A2_.1) el_23 ei_22 rfl w3_1 ((S2_.sl (k := 1) rfl).tup) ((S2_.sl (k := 1) rfl).one)
                have A76 := A2_.ext (hB.le A2_.1) a77
                replace S75 : Sep G73 (Fr H) [rowsC w2_0 22 3 D2_0 (List.map ints l2_0), flat w3_1 3 (ints l3_1), flat1 v72 22 [w3_1]] := S75
                obtain ⟨g78, hL34⟩ := gd_some hL34
                obtain ⟨v84, G79, q80, S81, a83, q80t, _⟩ := S75.pushRow (u := w2_0) (fr := ints) (X := l2_0) (y := l3_1) (P := Try.prog) (t := 23) (t2 := 23) (j := 0) (k := 1) (by decide) rfl rfl (hB.le A76.1) el_23 el_23 ei_22 rfl (S75.sl1 (k := 2) rfl) g78
                have A82 := A76.trans a83
                replace S81 : Sep G79 (Fr H) [rowsC v84 22 3 (D2_0 ++ [w3_1]) (List.map ints (lapp l2_0 [l3_1])), emp, flat1 v72 22 [w3_1]] := S81
                have q85 := S81.lastV (fr := ints) (k := 0) rfl
                try simp only [List.cons_append, List.nil_append] at q85
                refine DWp.region fun K hK => ?_
                simp [-aBin', -aBin, -aBinI, -aUn, -aNil, -flatV, n_fn, b_add, b_sub, b_mul, b_lt, b_le, b_gt, b_ge, b_eq, b_ne, u_not, e2_0, e2_5, e2_7, e2_8, e2_9, e2_25, e2_26, e2_27, q85, q74, a77.to_pre, ((S2_.sl (k := 1) rfl).tup), q80, q80t]
                apply hK
                clear hK K
                simp only [andThen, leaves]
                refine DWp.region fun K hK => ?_
                simp [-aBin', -aBin, -aBinI, -aUn, -aNil, -flatV, n_fn, b_add, b_sub, b_mul, b_lt, b_le, b_gt, b_ge, b_eq, b_ne, u_not, e2_0, e2_5, e2_7, e2_8, e2_9, e2_25, e2_26, e2_27, q85]
                apply hK
                clear hK K
                simp only [andThen, leaves]
                have S86 := S81.pick [0] (by decide) rfl
                exact ⟨n1, Nat.lt_succ_self _, (lapp l2_0 [l3_1]), (iadd .i64 y2_27 1), v84, (D2_0 ++ [w3_1]), hL34, S86, A82, by simp [e2_0, e2_5, e2_7, e2_8, e2_9, e2_25, e2_26, e2_27, q85], by simp [e2_0, e2_5, e2_7, e2_8, e2_9, e2_25, e2_26, e2_27, q85], by simp [e2_0, e2_5, e2_7, e2_8, e2_9, e2_25, e2_26, e2_27, q85], by simp [e2_0, e2_5, e2_7, e2_8, e2_9, e2_25, e2_26, e2_27, q85], by simp [e2_0, e2_5, e2_7, e2_8, e2_9, e2_25, e2_26, e2_27, q85]⟩
        · replace hL34 := cd_f hb36 hL34
          refine DWp.exit ?_
          simp only [andThen, leaves, if_true, if_false, reduceIte, Nat.reduceEqDiff]
          obtain rfl := Option.some.inj hL34
          try dsimp only at hF
          refine DWp.seq ?_
          refine DWp.region fun K hK => ?_
          simp [-aBin', -aBin, -aBinI, -aUn, -aNil, -flatV, n_fn, b_add, b_sub, b_mul, b_lt, b_le, b_gt, b_ge, b_eq, b_ne, u_not, e1_0, e1_5, e1_25, e1_26, e1_27]
          apply hK
          clear hK K
          simp only [andThen, leaves]
          refine DWp.ret ?_
          obtain rfl := Option.some.inj hF
          exact ⟨by simp, [w2_0], by simp [e1_0, e1_5, e1_25, e1_26, e1_27, ((S1_.rd (k := 0) rfl).tup)], A1_, w2_0, D2_0, rfl, S1_.pick [0] (by decide) rfl⟩
def F_spec_exPairs_L4 (fu : Nat) (k4_0 : List (List Int)) (k4_1 : List Int) (k4_2 : List (List Int)) (k4_3 : Int) (k4_4 : Int) (k4_5 : Int) (k4_6 : Int) (k4_7 : Int) (k4_8 : Int) (k4_9 : List Int) (k4_10 : Int) (k4_11 : Int) : Nat → Int → Option (Int)
  | 0, _ => none
  | n + 1, y4_10 =>
    bif (ilt 0 y4_10) then
      gd (inL k4_0 (isub .i64 y4_10 1)) (
      gd (inL (gat [] k4_0 (isub .i64 y4_10 1)) 0) (
      bif (ilt k4_4 (gat 0 (gat [] k4_0 (isub .i64 y4_10 1)) 0)) then
        F_spec_exPairs_L4 fu k4_0 k4_1 k4_2 k4_3 k4_4 k4_5 k4_6 k4_7 k4_8 k4_9 k4_10 k4_11 n (isub .i64 y4_10 1)
      else
        gd (inL k4_0 (isub .i64 y4_10 1)) (
        gd (inL (gat [] k4_0 (isub .i64 y4_10 1)) 0) (
        bif (ieq (gat 0 (gat [] k4_0 (isub .i64 y4_10 1)) 0) k4_4) then
          gd (inL k4_0 (isub .i64 y4_10 1)) (
          gd (inL (gat [] k4_0 (isub .i64 y4_10 1)) 1) (
          bif (ilt k4_3 (gat 0 (gat [] k4_0 (isub .i64 y4_10 1)) 1)) then
            F_spec_exPairs_L4 fu k4_0 k4_1 k4_2 k4_3 k4_4 k4_5 k4_6 k4_7 k4_8 k4_9 k4_10 k4_11 n (isub .i64 y4_10 1)
          else
            some y4_10))
        else
          some y4_10))))
    else
      some y4_10
def F_spec_exPairs_L3 (fu : Nat) (k3_0 : List Int) (k3_1 : List (List Int)) (k3_2 : Int) (k3_3 : Int) (k3_4 : Int) (k3_5 : Int) (k3_6 : Int) (k3_7 : List Int) (k3_8 : Int) : Nat → List (List Int) → Int → Option (List (List Int) × Int)
  | 0, _, _ => none
  | n + 1, l3_0, y3_30 =>
    bif (ilt y3_30 k3_8) then
      gd (inL k3_7 y3_30) (
      bd (
        bd (F_spec_exPairs_L4 fu l3_0 k3_0 k3_1 k3_2 (gat 0 k3_7 y3_30) k3_3 k3_4 k3_5 k3_6 k3_7 k3_8 y3_30 fu (llen l3_0)) fun s4 =>
        some s4) fun s36 =>
      gd (subL l3_0 0 s36) (
      gd (l3_0.length + 1 ≤ 4294967296) (
      gd (subL l3_0 s36 (llen l3_0)) (
      F_spec_exPairs_L3 fu k3_0 k3_1 k3_2 k3_3 k3_4 k3_5 k3_6 k3_7 k3_8 n (lins l3_0 s36 [(gat 0 k3_7 y3_30), k3_2]) (iadd .i64 y3_30 1)))))
    else
      some (l3_0, y3_30)
def F_spec_exPairs_L2 (fu : Nat) (k2_0 : List Int) (k2_1 : List (List Int)) (k2_2 : Int) (k2_3 : Int) (k2_4 : Int) : Nat → List (List Int) → Int → Option (List (List Int) × Int)
  | 0, _, _ => none
  | n + 1, l2_0, y2_21 =>
    bif (ilt y2_21 k2_4) then
      gd (inL k2_0 y2_21) (
      gd (subL k2_0 0 y2_21) (
      bd (F_spec_exPairs_L3 fu k2_0 k2_1 (gat 0 k2_0 y2_21) k2_2 k2_3 k2_4 y2_21 (lsub k2_0 0 y2_21) (llen (lsub k2_0 0 y2_21)) fu l2_0 0) fun s3 =>
      F_spec_exPairs_L2 fu k2_0 k2_1 k2_2 k2_3 k2_4 n s3.1 (iadd .i64 y2_21 1)))
    else
      some (l2_0, y2_21)
def F_spec_exPairs_L1 (fu : Nat) (k1_0 : List (List Int)) (k1_1 : Int) : Nat → List (List Int) → Int → Option (List (List Int) × Int)
  | 0, _, _ => none
  | n + 1, l1_0, y1_15 =>
    bif (ilt y1_15 k1_1) then
      gd (inL k1_0 y1_15) (
      bd (F_spec_exPairs_L2 fu (gat [] k1_0 y1_15) k1_0 k1_1 y1_15 (llen (gat [] k1_0 y1_15)) fu l1_0 0) fun s2 =>
      F_spec_exPairs_L1 fu k1_0 k1_1 n s2.1 (iadd .i64 y1_15 1))
    else
      some (l1_0, y1_15)
def F_spec_exPairs (fu : Nat) (x0 : List Int) : Option (List (List Int)) :=
  bd (F_spec_exFaces fu x0) fun r1 =>
  bd (F_spec_exPairs_L1 fu r1 (llen r1) fu (@List.nil (List Int)) 0) fun s1 =>
  some s1.1
theorem F_spec_exPairs_w {fu : Nat} {H : AH} {v0 : Value} {x0 : List Int} {r : (List (List Int))} (hx0 : Sl H v0 (ints x0)) (hF : F_spec_exPairs fu x0 = some r) :
    ACallT Try.prog 66 [v0] H (fun u G => AgB (Fr H) H G ∧ ∃ u0 : Value, ∃ C0 : List Value, u = u0 ∧ Sep G (Fr H) [rowsC u0 22 3 C0 (List.map ints r)]) := by
  refine ACallT.of_body (nt := 92) (rs := [.tmp 2]) Try.func66 rfl rfl rfl rfl ?_
  have A0 : AgB (Fr H) H H := .refl _ _
  have S0 : Sep H (Fr H) [] := .nil
  have hB := Fr.up H
  unfold F_spec_exPairs at hF
  refine DWp.seq ?_
  refine DWp.region fun K hK => ?_
  simp [-aBin', -aBin, -aBinI, -aUn, -aNil, -flatV, n_fn, b_add, b_sub, b_mul, b_lt, b_le, b_gt, b_ge, b_eq, b_ne, u_not]
  apply hK
  clear hK K
  simp only [andThen, leaves]
  refine DWp.seq ?_
  refine DWp.region fun K hK => ?_
  simp [-aBin', -aBin, -aBinI, -aUn, -aNil, -flatV, n_fn, b_add, b_sub, b_mul, b_lt, b_le, b_gt, b_ge, b_eq, b_ne, u_not]
  apply hK
  clear hK K
  simp only [andThen, leaves]
  refine DWp.seq ?_
  refine DWp.seq ?_
  obtain ⟨r1, hc1, hF⟩ := bd_some hF
  refine DWp.region fun K hK => ?_
  simp [-aBin', -aBin, -aBinI, -aUn, -aNil, -flatV, n_fn, b_add, b_sub, b_mul, b_lt, b_le, b_gt, b_ge, b_eq, b_ne, u_not, ((hx0.agree A0.agree).tup)]
  refine CallD.t (F_spec_exFaces_w (fu := fu) (hx0.agree A0.agree) hc1) ?_
  rintro c2_u0 G3 ⟨a6, _, c2_C0, rfl, S7⟩
  have A5 := A0.ext (hB.le A0.1) a6.agree
  have S4 : Sep G3 (Fr H) [rowsC c2_u0 22 3 c2_C0 (List.map ints r1)] := S0.app a6.agree S7 (fun _ h => h) (hB.le A0.1)
  have q8 := (S4.rd (k := 0) rfl).lenG (P := Try.prog) el_23
  simp [-aBin', -aBin, -aBinI, -aUn, -aNil, -flatV, n_fn, b_add, b_sub, b_mul, b_lt, b_le, b_gt, b_ge, b_eq, b_ne, u_not, a6.pre, q8]
  apply hK
  clear hK K
  simp only [andThen, leaves]
  refine DWp.block ?_
  have S9 := S4.rowsNil (hB.le A5.1) 22 3
  obtain ⟨s10, hL11, hF⟩ := bd_some hF
  have S12 := S9.pick [1, 0] (by decide) rfl
  refine DWp.loop (fun n env G => ∃ l1_0 : List (List Int), ∃ y1_15 : Int, ∃ w1_0 : Value, ∃ D1_0 : List Value, F_spec_exPairs_L1 fu r1 (llen r1) n l1_0 y1_15 = some s10 ∧ Sep G (Fr H) [rowsC w1_0 22 3 D1_0 (List.map ints l1_0), rowsC c2_u0 22 3 c2_C0 (List.map ints r1)] ∧ AgB (Fr H) H G ∧ env 3 = some w1_0 ∧ env 13 = some c2_u0 ∧ env 14 = some (Value.int .i64 (llen r1)) ∧ env 15 = some (Value.int .i64 y1_15)) fu ⟨(@List.nil (List Int)), 0, (Value.slice none 0 0), [], hL11, S12, A5, by simp [], by simp [], by simp [], by simp []⟩ ?_
  rintro n1 env1 G1_ ⟨l1_0, y1_15, w1_0, D1_0, hL11, S1_, A1_, e1_3, e1_13, e1_14, e1_15⟩
  cases n1 with
  | zero => cases hL11
  | succ n1 =>
    simp only [F_spec_exPairs_L1] at hL11
    refine DWp.seq ?_
    refine DWp.region fun K hK => ?_
    simp [-aBin', -aBin, -aBinI, -aUn, -aNil, -flatV, n_fn, b_add, b_sub, b_mul, b_lt, b_le, b_gt, b_ge, b_eq, b_ne, u_not, e1_3, e1_13, e1_14, e1_15]
    apply hK
    clear hK K
    simp only [andThen, leaves]
    refine DWp.seq ?_
    refine DWp.cond' (t := (ilt y1_15 (llen r1))) (by simp [e1_3, e1_13, e1_14, e1_15]) (fun hb13 => ?_) (fun hb13 => ?_)
    · replace hL11 := cd_t hb13 hL11
      refine DWp.skip ?_
      simp only [andThen, leaves]
      refine DWp.seq ?_
      refine DWp.block ?_
      refine DWp.seq ?_
      obtain ⟨g14, hL11⟩ := gd_some hL11
      have q15 := (S1_.rd (k := 1) rfl).idxG (P := Try.prog) (kk := .i64) el_23 sz_22 g14
      have q16 := (S1_.rd (k := 1) rfl).loadG (P := Try.prog) sz_22 ag_22 g14
      refine DWp.region fun K hK => ?_
      simp [-aBin', -aBin, -aBinI, -aUn, -aNil, -flatV, n_fn, b_add, b_sub, b_mul, b_lt, b_le, b_gt, b_ge, b_eq, b_ne, u_not, e1_3, e1_13, e1_14, e1_15, q15, q16]
      apply hK
      clear hK K
      simp only [andThen, leaves]
      refine DWp.seq ?_
      have q17 := lenG (P := Try.prog) ((S1_.rd (k := 1) rfl).rowAt [] g14) el_22
      refine DWp.region fun K hK => ?_
      simp [-aBin', -aBin, -aBinI, -aUn, -aNil, -flatV, n_fn, b_add, b_sub, b_mul, b_lt, b_le, b_gt, b_ge, b_eq, b_ne, u_not, e1_3, e1_13, e1_14, e1_15, q17]
      apply hK
      clear hK K
      simp only [andThen, leaves]
      refine DWp.block ?_
      obtain ⟨s18, hL19, hL11⟩ := bd_some hL11
      have S20 := S1_.pick [0, 1] (by decide) rfl
      refine DWp.loop (fun n env G => ∃ l2_0 : List (List Int), ∃ y2_21 : Int, ∃ w2_0 : Value, ∃ D2_0 : List Value, F_spec_exPairs_L2 fu (gat [] r1 y1_15) r1 (llen r1) y1_15 (llen (gat [] r1 y1_15)) n l2_0 y2_21 = some s18 ∧ Sep G (Fr H) [rowsC w2_0 22 3 D2_0 (List.map ints l2_0), rowsC c2_u0 22 3 c2_C0 (List.map ints r1)] ∧ AgB (Fr H) H G ∧ env 3 = some w2_0 ∧ env 5 = some (gat nilV c2_C0 y1_15) ∧ env 13 = some c2_u0 ∧ env 14 = some (Value.int .i64 (llen r1)) ∧ env 15 = some (Value.int .i64 y1_15) ∧ env 19 = some (gat nilV c2_C0 y1_15) ∧ env 20 = some (Value.int .i64 (llen (gat [] r1 y1_15))) ∧ env 21 = some (Value.int .i64 y2_21)) fu ⟨l1_0, 0, w1_0, D1_0, hL19, S20, A1_, by simp [e1_3, e1_13, e1_14, e1_15], by simp [e1_3, e1_13, e1_14, e1_15], by simp [e1_3, e1_13, e1_14, e1_15], by simp [e1_3, e1_13, e1_14, e1_15], by simp [e1_3, e1_13, e1_14, e1_15], by simp [e1_3, e1_13, e1_14, e1_15], by simp [e1_3, e1_13, e1_14, e1_15], by simp [e1_3, e1_13, e1_14, e1_15]⟩ ?_
      rintro n2 env2 G2_ ⟨l2_0, y2_21, w2_0, D2_0, hL19, S2_, A2_, e2_3, e2_5, e2_13, e2_14, e2_15, e2_19, e2_20, e2_21⟩
      cases n2 with
      | zero => cases hL19
      | succ n2 =>
        simp only [F_spec_exPairs_L2] at hL19
        refine DWp.seq ?_
        refine DWp.region fun K hK => ?_
        simp [-aBin', -aBin, -aBinI, -aUn, -aNil, -flatV, n_fn, b_add, b_sub, b_mul, b_lt, b_le, b_gt, b_ge, b_eq, b_ne, u_not, e2_3, e2_5, e2_13, e2_14, e2_15, e2_19, e2_20, e2_21]
        apply hK
        clear hK K
        simp only [andThen, leaves]
        refine DWp.seq ?_
        refine DWp.cond' (t := (ilt y2_21 (llen (gat [] r1 y1_15)))) (by simp [e2_3, e2_5, e2_13, e2_14, e2_15, e2_19, e2_20, e2_21]) (fun hb21 => ?_) (fun hb21 => ?_)
        · replace hL19 := cd_t hb21 hL19
          refine DWp.skip ?_
          simp only [andThen, leaves]
          refine DWp.seq ?_
          refine DWp.block ?_
          refine DWp.seq ?_
          obtain ⟨g22, hL19⟩ := gd_some hL19
          have q23 := idxG (P := Try.prog) (kk := .i64) ((S2_.rd (k := 1) rfl).rowAt [] g14) el_22 sz_3 g22
          have q24 := loadG (P := Try.prog) ((S2_.rd (k := 1) rfl).rowAt [] g14) sz_3 ag_3 g22 0
          refine DWp.region fun K hK => ?_
          simp [-aBin', -aBin, -aBinI, -aUn, -aNil, -flatV, n_fn, b_add, b_sub, b_mul, b_lt, b_le, b_gt, b_ge, b_eq, b_ne, u_not, e2_3, e2_5, e2_13, e2_14, e2_15, e2_19, e2_20, e2_21, q23, q24]
          apply hK
          clear hK K
          simp only [andThen, leaves]
          refine DWp.seq ?_
          obtain ⟨g25, hL19⟩ := gd_some hL19
          have q26 := aSub01 (P := Try.prog) (t := 22) ((S2_.rd (k := 1) rfl).rowAt [] g14) el_22 sz_3 g25
          have q27 := lenG (P := Try.prog) (subSl ((S2_.rd (k := 1) rfl).rowAt [] g14) g25) el_22
          refine DWp.region fun K hK => ?_
          simp [-aBin', -aBin, -aBinI, -aUn, -aNil, -flatV, n_fn, b_add, b_sub, b_mul, b_lt, b_le, b_gt, b_ge, b_eq, b_ne, u_not, e2_3, e2_5, e2_13, e2_14, e2_15, e2_19, e2_20, e2_21, q26, ((subSl ((S2_.rd (k := 1) rfl).rowAt [] g14) g25).tup), q27]
          apply hK
          clear hK K
          simp only [andThen, leaves]
          refine DWp.block ?_
          obtain ⟨s28, hL29, hL19⟩ := bd_some hL19
          have S30 := S2_.pick [0, 1] (by decide) rfl
          refine DWp.loop (fun n env G => ∃ l3_0 : List (List Int), ∃ y3_30 : Int, ∃ w3_0 : Value, ∃ D3_0 : List Value, F_spec_exPairs_L3 fu (gat [] r1 y1_15) r1 (gat 0 (gat [] r1 y1_15) y2_21) (llen r1) y1_15 (llen (gat [] r1 y1_15)) y2_21 (lsub (gat [] r1 y1_15) 0 y2_21) (llen (lsub (gat [] r1 y1_15) 0 y2_21)) n l3_0 y3_30 = some s28 ∧ Sep G (Fr H) [rowsC w3_0 22 3 D3_0 (List.map ints l3_0), rowsC c2_u0 22 3 c2_C0 (List.map ints r1)] ∧ AgB (Fr H) H G ∧ env 3 = some w3_0 ∧ env 5 = some (gat nilV c2_C0 y1_15) ∧ env 7 = some (Value.int .i64 (gat 0 (gat [] r1 y1_15) y2_21)) ∧ env 13 = some c2_u0 ∧ env 14 = some (Value.int .i64 (llen r1)) ∧ env 15 = some (Value.int .i64 y1_15) ∧ env 19 = some (gat nilV c2_C0 y1_15) ∧ env 20 = some (Value.int .i64 (llen (gat [] r1 y1_15))) ∧ env 21 = some (Value.int .i64 y2_21) ∧ env 28 = some (subV (gat nilV c2_C0 y1_15) 0 y2_21) ∧ env 29 = some (Value.int .i64 (llen (lsub (gat [] r1 y1_15) 0 y2_21))) ∧ env 30 = some (Value.int .i64 y3_30)) fu ⟨l2_0, 0, w2_0, D2_0, hL29, S30, A2_, by simp [e2_3, e2_5, e2_13, e2_14, e2_15, e2_19, e2_20, e2_21], by simp [e2_3, e2_5, e2_13, e2_14, e2_15, e2_19, e2_20, e2_21], by simp [e2_3, e2_5, e2_13, e2_14, e2_15, e2_19, e2_20, e2_21], by simp [e2_3, e2_5, e2_13, e2_14, e2_15, e2_19, e2_20, e2_21], by simp [e2_3, e2_5, e2_13, e2_14, e2_15, e2_19, e2_20, e2_21], by simp [e2_3, e2_5, e2_13, e2_14, e2_15, e2_19, e2_20, e2_21], by simp [e2_3, e2_5, e2_13, e2_14, e2_15, e2_19, e2_20, e2_21], by simp [e2_3, e2_5, e2_13, e2_14, e2_15, e2_19, e2_20, e2_21], by simp [e2_3, e2_5, e2_13, e2_14, e2_15, e2_19, e2_20, e2_21], by simp [e2_3, e2_5, e2_13, e2_14, e2_15, e2_19, e2_20, e2_21], by simp [e2_3, e2_5, e2_13, e2_14, e2_15, e2_19, e2_20, e2_21], by simp [e2_3, e2_5, e2_13, e2_14, e2_15, e2_19, e2_20, e2_21]⟩ ?_
          rintro n3 env3 G3_ ⟨l3_0, y3_30, w3_0, D3_0, hL29, S3_, A3_, e3_3, e3_5, e3_7, e3_13, e3_14, e3_15, e3_19, e3_20, e3_21, e3_28, e3_29, e3_30⟩
          cases n3 with
          | zero => cases hL29
          | succ n3 =>
            simp only [F_spec_exPairs_L3] at hL29
            refine DWp.seq ?_
            refine DWp.region fun K hK => ?_
            simp [-aBin', -aBin, -aBinI, -aUn, -aNil, -flatV, n_fn, b_add, b_sub, b_mul, b_lt, b_le, b_gt, b_ge, b_eq, b_ne, u_not, e3_3, e3_5, e3_7, e3_13, e3_14, e3_15, e3_19, e3_20, e3_21, e3_28, e3_29, e3_30]
            apply hK
            clear hK K
            simp only [andThen, leaves]
            refine DWp.seq ?_
            refine DWp.cond' (t := (ilt y3_30 (llen (lsub (gat [] r1 y1_15) 0 y2_21)))) (by simp [e3_3, e3_5, e3_7, e3_13, e3_14, e3_15, e3_19, e3_20, e3_21, e3_28, e3_29, e3_30]) (fun hb31 => ?_) (fun hb31 => ?_)
            · replace hL29 := cd_t hb31 hL29
              refine DWp.skip ?_
              simp only [andThen, leaves]
              refine DWp.seq ?_
              refine DWp.block ?_
              refine DWp.seq ?_
              obtain ⟨g32, hL29⟩ := gd_some hL29
              have q33 := idxG (P := Try.prog) (kk := .i64) (subSl ((S3_.rd (k := 1) rfl).rowAt [] g14) g25) el_22 sz_3 g32
              have q34 := loadG (P := Try.prog) (subSl ((S3_.rd (k := 1) rfl).rowAt [] g14) g25) sz_3 ag_3 g32 0
              refine DWp.region fun K hK => ?_
              simp [-aBin', -aBin, -aBinI, -aUn, -aNil, -flatV, n_fn, b_add, b_sub, b_mul, b_lt, b_le, b_gt, b_ge, b_eq, b_ne, u_not, e3_3, e3_5, e3_7, e3_13, e3_14, e3_15, e3_19, e3_20, e3_21, e3_28, e3_29, e3_30, q33, q34]
              apply hK
              clear hK K
              simp only [andThen, leaves]
              refine DWp.seq ?_
              have q35 := (S3_.rd (k := 0) rfl).lenG (P := Try.prog) el_23
              refine DWp.region fun K hK => ?_
              simp [-aBin', -aBin, -aBinI, -aUn, -aNil, -flatV, n_fn, b_add, b_sub, b_mul, b_lt, b_le, b_gt, b_ge, b_eq, b_ne, u_not, e3_3, e3_5, e3_7, e3_13, e3_14, e3_15, e3_19, e3_20, e3_21, e3_28, e3_29, e3_30, q35]
              apply hK
              clear hK K
              simp only [andThen, leaves]
              obtain ⟨s36, hL37, hL29⟩ := bd_some hL29
              refine DWp.seq (DWp.join (fun env G => Sep G (Fr H) [rowsC w3_0 22 3 D3_0 (List.map ints l3_0), rowsC c2_u0 22 3 c2_C0 (List.map ints r1)] ∧ AgB (Fr H) H G ∧ env 3 = some w3_0 ∧ env 5 = some (gat nilV c2_C0 y1_15) ∧ env 7 = some (Value.int .i64 (gat 0 (gat [] r1 y1_15) y2_21)) ∧ env 9 = some (Value.int .i64 (gat 0 (lsub (gat [] r1 y1_15) 0 y2_21) y3_30)) ∧ env 10 = some (Value.int .i64 s36) ∧ env 13 = some c2_u0 ∧ env 14 = some (Value.int .i64 (llen r1)) ∧ env 15 = some (Value.int .i64 y1_15) ∧ env 19 = some (gat nilV c2_C0 y1_15) ∧ env 20 = some (Value.int .i64 (llen (gat [] r1 y1_15))) ∧ env 21 = some (Value.int .i64 y2_21) ∧ env 28 = some (subV (gat nilV c2_C0 y1_15) 0 y2_21) ∧ env 29 = some (Value.int .i64 (llen (lsub (gat [] r1 y1_15) 0 y2_21))) ∧ env 30 = some (Value.int .i64 y3_30)) ?_ ?_)
              ·
                refine DWp.block ?_
                obtain ⟨s39, hL40, hL37⟩ := bd_some hL37
                have S41 := S3_.pick [0, 1] (by decide) rfl
                refine DWp.loop (fun n env G => ∃ y4_10 : Int, F_spec_exPairs_L4 fu l3_0 (gat [] r1 y1_15) r1 (gat 0 (gat [] r1 y1_15) y2_21) (gat 0 (lsub (gat [] r1 y1_15) 0 y2_21) y3_30) (llen r1) y1_15 (llen (gat [] r1 y1_15)) y2_21 (lsub (gat [] r1 y1_15) 0 y2_21) (llen (lsub (gat [] r1 y1_15) 0 y2_21)) y3_30 n y4_10 = some s39 ∧ Sep G (Fr H) [rowsC w3_0 22 3 D3_0 (List.map ints l3_0), rowsC c2_u0 22 3 c2_C0 (List.map ints r1)] ∧ AgB (Fr H) H G ∧ env 3 = some w3_0 ∧ env 5 = some (gat nilV c2_C0 y1_15) ∧ env 7 = some (Value.int .i64 (gat 0 (gat [] r1 y1_15) y2_21)) ∧ env 9 = some (Value.int .i64 (gat 0 (lsub (gat [] r1 y1_15) 0 y2_21) y3_30)) ∧ env 10 = some (Value.int .i64 y4_10) ∧ env 13 = some c2_u0 ∧ env 14 = some (Value.int .i64 (llen r1)) ∧ env 15 = some (Value.int .i64 y1_15) ∧ env 19 = some (gat nilV c2_C0 y1_15) ∧ env 20 = some (Value.int .i64 (llen (gat [] r1 y1_15))) ∧ env 21 = some (Value.int .i64 y2_21) ∧ env 28 = some (subV (gat nilV c2_C0 y1_15) 0 y2_21) ∧ env 29 = some (Value.int .i64 (llen (lsub (gat [] r1 y1_15) 0 y2_21))) ∧ env 30 = some (Value.int .i64 y3_30)) fu ⟨(llen l3_0), hL40, S41, A3_, by simp [e3_3, e3_5, e3_7, e3_13, e3_14, e3_15, e3_19, e3_20, e3_21, e3_28, e3_29, e3_30], by simp [e3_3, e3_5, e3_7, e3_13, e3_14, e3_15, e3_19, e3_20, e3_21, e3_28, e3_29, e3_30], by simp [e3_3, e3_5, e3_7, e3_13, e3_14, e3_15, e3_19, e3_20, e3_21, e3_28, e3_29, e3_30], by simp [e3_3, e3_5, e3_7, e3_13, e3_14, e3_15, e3_19, e3_20, e3_21, e3_28, e3_29, e3_30], by simp [e3_3, e3_5, e3_7, e3_13, e3_14, e3_15, e3_19, e3_20, e3_21, e3_28, e3_29, e3_30], by simp [e3_3, e3_5, e3_7, e3_13, e3_14, e3_15, e3_19, e3_20, e3_21, e3_28, e3_29, e3_30], by simp [e3_3, e3_5, e3_7, e3_13, e3_14, e3_15, e3_19, e3_20, e3_21, e3_28, e3_29, e3_30], by simp [e3_3, e3_5, e3_7, e3_13, e3_14, e3_15, e3_19, e3_20, e3_21, e3_28, e3_29, e3_30], by simp [e3_3, e3_5, e3_7, e3_13, e3_14, e3_15, e3_19, e3_20, e3_21, e3_28, e3_29, e3_30], by simp [e3_3, e3_5, e3_7, e3_13, e3_14, e3_15, e3_19, e3_20, e3_21, e3_28, e3_29, e3_30], by simp [e3_3, e3_5, e3_7, e3_13, e3_14, e3_15, e3_19, e3_20, e3_21, e3_28, e3_29, e3_30], by simp [e3_3, e3_5, e3_7, e3_13, e3_14, e3_15, e3_19, e3_20, e3_21, e3_28, e3_29, e3_30], by simp [e3_3, e3_5, e3_7, e3_13, e3_14, e3_15, e3_19, e3_20, e3_21, e3_28, e3_29, e3_30], by simp [e3_3, e3_5, e3_7, e3_13, e3_14, e3_15, e3_19, e3_20, e3_21, e3_28, e3_29, e3_30]⟩ ?_
                rintro n5 env5 G5_ ⟨y4_10, hL40, S5_, A5_, e5_3, e5_5, e5_7, e5_9, e5_10, e5_13, e5_14, e5_15, e5_19, e5_20, e5_21, e5_28, e5_29, e5_30⟩
                cases n5 with
                | zero => cases hL40
                | succ n5 =>
                  simp only [F_spec_exPairs_L4] at hL40
                  refine DWp.seq ?_
                  refine DWp.seq ?_
                  rcases Bool.eq_false_or_eq_true (ilt 0 y4_10) with hb42 | hb42
                  · replace hL40 := cd_t hb42 hL40
                    obtain ⟨g43, hL40⟩ := gd_some hL40
                    have q44 := (S5_.rd (k := 0) rfl).idxG (P := Try.prog) (kk := .i64) el_23 sz_22 g43
                    have q45 := (S5_.rd (k := 0) rfl).loadG (P := Try.prog) sz_22 ag_22 g43
                    obtain ⟨g46, hL40⟩ := gd_some hL40
                    have q47 := idxG (P := Try.prog) (kk := .i64) ((S5_.rd (k := 0) rfl).rowAt [] g43) el_22 sz_3 g46
                    replace q47 : aIndexAddr Try.prog G5_ 22 (gat nilV D3_0 (isub .i64 y4_10 1)) (Value.int .i64 0) = some (elP (gat nilV D3_0 (isub .i64 y4_10 1)) 0) := q47
                    have q48 := loadG (P := Try.prog) ((S5_.rd (k := 0) rfl).rowAt [] g43) sz_3 ag_3 g46 0
                    replace q48 : aLoad Try.prog G5_ 3 (elP (gat nilV D3_0 (isub .i64 y4_10 1)) 0) = some (Value.int .i64 (gat 0 (gat [] l3_0 (isub .i64 y4_10 1)) 0)) := q48
                    rcases Bool.eq_false_or_eq_true (ilt (gat 0 (lsub (gat [] r1 y1_15) 0 y2_21) y3_30) (gat 0 (gat [] l3_0 (isub .i64 y4_10 1)) 0)) with hb49 | hb49
                    · replace hL40 := cd_t hb49 hL40
                      refine DWp.region fun K hK => ?_
                      simp [-aBin', -aBin, -aBinI, -aUn, -aNil, -flatV, n_fn, b_add, b_sub, b_mul, b_lt, b_le, b_gt, b_ge, b_eq, b_ne, u_not, e5_3, e5_5, e5_7, e5_9, e5_10, e5_13, e5_14, e5_15, e5_19, e5_20, e5_21, e5_28, e5_29, e5_30, hb42, hb49, q44, q45, q47, q48, undef]
                      apply hK
                      clear hK K
                      simp only [andThen, leaves]
                      refine DWp.ct (by simp [e5_3, e5_5, e5_7, e5_9, e5_10, e5_13, e5_14, e5_15, e5_19, e5_20, e5_21, e5_28, e5_29, e5_30, bnot]) ?_
                      refine DWp.skip ?_
                      simp only [andThen, leaves]
                      refine DWp.block ?_
                      refine DWp.region fun K hK => ?_
                      simp [-aBin', -aBin, -aBinI, -aUn, -aNil, -flatV, n_fn, b_add, b_sub, b_mul, b_lt, b_le, b_gt, b_ge, b_eq, b_ne, u_not, e5_3, e5_5, e5_7, e5_9, e5_10, e5_13, e5_14, e5_15, e5_19, e5_20, e5_21, e5_28, e5_29, e5_30]
                      apply hK
                      clear hK K
                      simp only [andThen, leaves]
                      have S50 := S5_.pick [0, 1] (by decide) rfl
                      exact ⟨n5, Nat.lt_succ_self _, (isub .i64 y4_10 1), hL40, S50, A5_, by simp [e5_3, e5_5, e5_7, e5_9, e5_10, e5_13, e5_14, e5_15, e5_19, e5_20, e5_21, e5_28, e5_29, e5_30], by simp [e5_3, e5_5, e5_7, e5_9, e5_10, e5_13, e5_14, e5_15, e5_19, e5_20, e5_21, e5_28, e5_29, e5_30], by simp [e5_3, e5_5, e5_7, e5_9, e5_10, e5_13, e5_14, e5_15, e5_19, e5_20, e5_21, e5_28, e5_29, e5_30], by simp [e5_3, e5_5, e5_7, e5_9, e5_10, e5_13, e5_14, e5_15, e5_19, e5_20, e5_21, e5_28, e5_29, e5_30], by simp [e5_3, e5_5, e5_7, e5_9, e5_10, e5_13, e5_14, e5_15, e5_19, e5_20, e5_21, e5_28, e5_29, e5_30], by simp [e5_3, e5_5, e5_7, e5_9, e5_10, e5_13, e5_14, e5_15, e5_19, e5_20, e5_21, e5_28, e5_29, e5_30], by simp [e5_3, e5_5, e5_7, e5_9, e5_10, e5_13, e5_14, e5_15, e5_19, e5_20, e5_21, e5_28, e5_29, e5_30], by simp [e5_3, e5_5, e5_7, e5_9, e5_10, e5_13, e5_14, e5_15, e5_19, e5_20, e5_21, e5_28, e5_29, e5_30], by simp [e5_3, e5_5, e5_7, e5_9, e5_10, e5_13, e5_14, e5_15, e5_19, e5_20, e5_21, e5_28, e5_29, e5_30], by simp [e5_3, e5_5, e5_7, e5_9, e5_10, e5_13, e5_14, e5_15, e5_19, e5_20, e5_21, e5_28, e5_29, e5_30], by simp [e5_3, e5_5, e5_7, e5_9, e5_10, e5_13, e5_14, e5_15, e5_19, e5_20, e5_21, e5_28, e5_29, e5_30], by simp [e5_3, e5_5, e5_7, e5_9, e5_10, e5_13, e5_14, e5_15, e5_19, e5_20, e5_21, e5_28, e5_29, e5_30], by simp [e5_3, e5_5, e5_7, e5_9, e5_10, e5_13, e5_14, e5_15, e5_19, e5_20, e5_21, e5_28, e5_29, e5_30], by simp [e5_3, e5_5, e5_7, e5_9, e5_10, e5_13, e5_14, e5_15, e5_19, e5_20, e5_21, e5_28, e5_29, e5_30]⟩
                    · replace hL40 := cd_f hb49 hL40
                      obtain ⟨g51, hL40⟩ := gd_some hL40
                      have q52 := (S5_.rd (k := 0) rfl).idxG (P := Try.prog) (kk := .i64) el_23 sz_22 g51
                      have q53 := (S5_.rd (k := 0) rfl).loadG (P := Try.prog) sz_22 ag_22 g51
                      obtain ⟨g54, hL40⟩ := gd_some hL40
                      have q55 := idxG (P := Try.prog) (kk := .i64) ((S5_.rd (k := 0) rfl).rowAt [] g51) el_22 sz_3 g54
                      replace q55 : aIndexAddr Try.prog G5_ 22 (gat nilV D3_0 (isub .i64 y4_10 1)) (Value.int .i64 0) = some (elP (gat nilV D3_0 (isub .i64 y4_10 1)) 0) := q55
                      have q56 := loadG (P := Try.prog) ((S5_.rd (k := 0) rfl).rowAt [] g51) sz_3 ag_3 g54 0
                      replace q56 : aLoad Try.prog G5_ 3 (elP (gat nilV D3_0 (isub .i64 y4_10 1)) 0) = some (Value.int .i64 (gat 0 (gat [] l3_0 (isub .i64 y4_10 1)) 0)) := q56
                      rcases Bool.eq_false_or_eq_true (ieq (gat 0 (gat [] l3_0 (isub .i64 y4_10 1)) 0) (gat 0 (lsub (gat [] r1 y1_15) 0 y2_21) y3_30)) with hb57 | hb57
                      · replace hL40 := cd_t hb57 hL40
                        obtain ⟨g58, hL40⟩ := gd_some hL40
                        have q59 := (S5_.rd (k := 0) rfl).idxG (P := Try.prog) (kk := .i64) el_23 sz_22 g58
                        have q60 := (S5_.rd (k := 0) rfl).loadG (P := Try.prog) sz_22 ag_22 g58
                        obtain ⟨g61, hL40⟩ := gd_some hL40
                        have q62 := idxG (P := Try.prog) (kk := .i64) ((S5_.rd (k := 0) rfl).rowAt [] g58) el_22 sz_3 g61
                        replace q62 : aIndexAddr Try.prog G5_ 22 (gat nilV D3_0 (isub .i64 y4_10 1)) (Value.int .i64 1) = some (elP (gat nilV D3_0 (isub .i64 y4_10 1)) 1) := q62
                        have q63 := loadG (P := Try.prog) ((S5_.rd (k := 0) rfl).rowAt [] g58) sz_3 ag_3 g61 0
                        replace q63 : aLoad Try.prog G5_ 3 (elP (gat nilV D3_0 (isub .i64 y4_10 1)) 1) = some (Value.int .i64 (gat 0 (gat [] l3_0 (isub .i64 y4_10 1)) 1)) := q63
                        refine DWp.region fun K hK => ?_
                        simp [-aBin', -aBin, -aBinI, -aUn, -aNil, -flatV, n_fn, b_add, b_sub, b_mul, b_lt, b_le, b_gt, b_ge, b_eq, b_ne, u_not, e5_3, e5_5, e5_7, e5_9, e5_10, e5_13, e5_14, e5_15, e5_19, e5_20, e5_21, e5_28, e5_29, e5_30, hb42, hb49, hb57, q44, q45, q47, q48, q52, q53, q55, q56, q59, q60, q62, q63]
                        apply hK
                        clear hK K
                        simp only [andThen, leaves]
                        refine DWp.cond' (t := (ilt (gat 0 (gat [] r1 y1_15) y2_21) (gat 0 (gat [] l3_0 (isub .i64 y4_10 1)) 1))) (by simp [e5_3, e5_5, e5_7, e5_9, e5_10, e5_13, e5_14, e5_15, e5_19, e5_20, e5_21, e5_28, e5_29, e5_30]) (fun hb64 => ?_) (fun hb64 => ?_)
                        · replace hL40 := cd_t hb64 hL40
                          refine DWp.skip ?_
                          simp only [andThen, leaves]
                          refine DWp.block ?_
                          refine DWp.region fun K hK => ?_
                          simp [-aBin', -aBin, -aBinI, -aUn, -aNil, -flatV, n_fn, b_add, b_sub, b_mul, b_lt, b_le, b_gt, b_ge, b_eq, b_ne, u_not, e5_3, e5_5, e5_7, e5_9, e5_10, e5_13, e5_14, e5_15, e5_19, e5_20, e5_21, e5_28, e5_29, e5_30]
                          apply hK
                          clear hK K
                          simp only [andThen, leaves]
                          have S65 := S5_.pick [0, 1] (by decide) rfl
                          exact ⟨n5, Nat.lt_succ_self _, (isub .i64 y4_10 1), hL40, S65, A5_, by simp [e5_3, e5_5, e5_7, e5_9, e5_10, e5_13, e5_14, e5_15, e5_19, e5_20, e5_21, e5_28, e5_29, e5_30], by simp [e5_3, e5_5, e5_7, e5_9, e5_10, e5_13, e5_14, e5_15, e5_19, e5_20, e5_21, e5_28, e5_29, e5_30], by simp [e5_3, e5_5, e5_7, e5_9, e5_10, e5_13, e5_14, e5_15, e5_19, e5_20, e5_21, e5_28, e5_29, e5_30], by simp [e5_3, e5_5, e5_7, e5_9, e5_10, e5_13, e5_14, e5_15, e5_19, e5_20, e5_21, e5_28, e5_29, e5_30], by simp [e5_3, e5_5, e5_7, e5_9, e5_10, e5_13, e5_14, e5_15, e5_19, e5_20, e5_21, e5_28, e5_29, e5_30], by simp [e5_3, e5_5, e5_7, e5_9, e5_10, e5_13, e5_14, e5_15, e5_19, e5_20, e5_21, e5_28, e5_29, e5_30], by simp [e5_3, e5_5, e5_7, e5_9, e5_10, e5_13, e5_14, e5_15, e5_19, e5_20, e5_21, e5_28, e5_29, e5_30], by simp [e5_3, e5_5, e5_7, e5_9, e5_10, e5_13, e5_14, e5_15, e5_19, e5_20, e5_21, e5_28, e5_29, e5_30], by simp [e5_3, e5_5, e5_7, e5_9, e5_10, e5_13, e5_14, e5_15, e5_19, e5_20, e5_21, e5_28, e5_29, e5_30], by simp [e5_3, e5_5, e5_7, e5_9, e5_10, e5_13, e5_14, e5_15, e5_19, e5_20, e5_21, e5_28, e5_29, e5_30], by simp [e5_3, e5_5, e5_7, e5_9, e5_10, e5_13, e5_14, e5_15, e5_19, e5_20, e5_21, e5_28, e5_29, e5_30], by simp [e5_3, e5_5, e5_7, e5_9, e5_10, e5_13, e5_14, e5_15, e5_19, e5_20, e5_21, e5_28, e5_29, e5_30], by simp [e5_3, e5_5, e5_7, e5_9, e5_10, e5_13, e5_14, e5_15, e5_19, e5_20, e5_21, e5_28, e5_29, e5_30], by simp [e5_3, e5_5, e5_7, e5_9, e5_10, e5_13, e5_14, e5_15, e5_19, e5_20, e5_21, e5_28, e5_29, e5_30]⟩
                        · replace hL40 := cd_f hb64 hL40
                          refine DWp.exit ?_
                          simp only [andThen, leaves, if_true, if_false, reduceIte, Nat.reduceEqDiff]
                          obtain rfl := Option.some.inj hL40
                          have S66 := S5_.pick [0, 1] (by decide) rfl
                          obtain rfl := Option.some.inj hL37
                          exact ⟨S66, A5_, by simp [e5_3, e5_5, e5_7, e5_9, e5_10, e5_13, e5_14, e5_15, e5_19, e5_20, e5_21, e5_28, e5_29, e5_30], by simp [e5_3, e5_5, e5_7, e5_9, e5_10, e5_13, e5_14, e5_15, e5_19, e5_20, e5_21, e5_28, e5_29, e5_30], by simp [e5_3, e5_5, e5_7, e5_9, e5_10, e5_13, e5_14, e5_15, e5_19, e5_20, e5_21, e5_28, e5_29, e5_30], by simp [e5_3, e5_5, e5_7, e5_9, e5_10, e5_13, e5_14, e5_15, e5_19, e5_20, e5_21, e5_28, e5_29, e5_30], by simp [e5_3, e5_5, e5_7, e5_9, e5_10, e5_13, e5_14, e5_15, e5_19, e5_20, e5_21, e5_28, e5_29, e5_30], by simp [e5_3, e5_5, e5_7, e5_9, e5_10, e5_13, e5_14, e5_15, e5_19, e5_20, e5_21, e5_28, e5_29, e5_30], by simp [e5_3, e5_5, e5_7, e5_9, e5_10, e5_13, e5_14, e5_15, e5_19, e5_20, e5_21, e5_28, e5_29, e5_30], by simp [e5_3, e5_5, e5_7, e5_9, e5_10, e5_13, e5_14, e5_15, e5_19, e5_20, e5_21, e5_28, e5_29, e5_30], by simp [e5_3, e5_5, e5_7, e5_9, e5_10, e5_13, e5_14, e5_15, e5_19, e5_20, e5_21, e5_28, e5_29, e5_30], by simp [e5_3, e5_5, e5_7, e5_9, e5_10, e5_13, e5_14, e5_15, e5_19, e5_20, e5_21, e5_28, e5_29, e5_30], by simp [e5_3, e5_5, e5_7, e5_9, e5_10, e5_13, e5_14, e5_15, e5_19, e5_20, e5_21, e5_28, e5_29, e5_30], by simp [e5_3, e5_5, e5_7, e5_9, e5_10, e5_13, e5_14, e5_15, e5_19, e5_20, e5_21, e5_28, e5_29, e5_30], by simp [e5_3, e5_5, e5_7, e5_9, e5_10, e5_13, e5_14, e5_15, e5_19, e5_20, e5_21, e5_28, e5_29, e5_30], by simp [e5_3, e5_5, e5_7, e5_9, e5_10, e5_13, e5_14, e5_15, e5_19, e5_20, e5_21, e5_28, e5_29, e5_30]⟩
                      · replace hL40 := cd_f hb57 hL40
                        refine DWp.region fun K hK => ?_
                        simp [-aBin', -aBin, -aBinI, -aUn, -aNil, -flatV, n_fn, b_add, b_sub, b_mul, b_lt, b_le, b_gt, b_ge, b_eq, b_ne, u_not, e5_3, e5_5, e5_7, e5_9, e5_10, e5_13, e5_14, e5_15, e5_19, e5_20, e5_21, e5_28, e5_29, e5_30, hb42, hb49, hb57, q44, q45, q47, q48, q52, q53, q55, q56]
                        apply hK
                        clear hK K
                        simp only [andThen, leaves]
                        refine DWp.cf (by simp [e5_3, e5_5, e5_7, e5_9, e5_10, e5_13, e5_14, e5_15, e5_19, e5_20, e5_21, e5_28, e5_29, e5_30, bnot]) ?_
                        refine DWp.exit ?_
                        simp only [andThen, leaves, if_true, if_false, reduceIte, Nat.reduceEqDiff]
                        obtain rfl := Option.some.inj hL40
                        have S67 := S5_.pick [0, 1] (by decide) rfl
                        obtain rfl := Option.some.inj hL37
                        exact ⟨S67, A5_, by simp [e5_3, e5_5, e5_7, e5_9, e5_10, e5_13, e5_14, e5_15, e5_19, e5_20, e5_21, e5_28, e5_29, e5_30], by simp [e5_3, e5_5, e5_7, e5_9, e5_10, e5_13, e5_14, e5_15, e5_19, e5_20, e5_21, e5_28, e5_29, e5_30], by simp [e5_3, e5_5, e5_7, e5_9, e5_10, e5_13, e5_14, e5_15, e5_19, e5_20, e5_21, e5_28, e5_29, e5_30], by simp [e5_3, e5_5, e5_7, e5_9, e5_10, e5_13, e5_14, e5_15, e5_19, e5_20, e5_21, e5_28, e5_29, e5_30], by simp [e5_3, e5_5, e5_7, e5_9, e5_10, e5_13, e5_14, e5_15, e5_19, e5_20, e5_21, e5_28, e5_29, e5_30], by simp [e5_3, e5_5, e5_7, e5_9, e5_10, e5_13, e5_14, e5_15, e5_19, e5_20, e5_21, e5_28, e5_29, e5_30], by simp [e5_3, e5_5, e5_7, e5_9, e5_10, e5_13, e5_14, e5_15, e5_19, e5_20, e5_21, e5_28, e5_29, e5_30], by simp [e5_3, e5_5, e5_7, e5_9, e5_10, e5_13, e5_14, e5_15, e5_19, e5_20, e5_21, e5_28, e5_29, e5_30], by simp [e5_3, e5_5, e5_7, e5_9, e5_10, e5_13, e5_14, e5_15, e5_19, e5_20, e5_21, e5_28, e5_29, e5_30], by simp [e5_3, e5_5, e5_7, e5_9, e5_10, e5_13, e5_14, e5_15, e5_19, e5_20, e5_21, e5_28, e5_29, e5_30], by simp [e5_3, e5_5, e5_7, e5_9, e5_10, e5_13, e5_14, e5_15, e5_19, e5_20, e5_21, e5_28, e5_29, e5_30], by simp [e5_3, e5_5, e5_7, e5_9, e5_10, e5_13, e5_14, e5_15, e5_19, e5_20, e5_21, e5_28, e5_29, e5_30], by simp [e5_3, e5_5, e5_7, e5_9, e5_10, e5_13, e5_14, e5_15, e5_19, e5_20, e5_21, e5_28, e5_29, e5_30], by simp [e5_3, e5_5, e5_7, e5_9, e5_10, e5_13, e5_14, e5_15, e5_19, e5_20, e5_21, e5_28, e5_29, e5_30]⟩
                  · replace hL40 := cd_f hb42 hL40
                    refine DWp.region fun K hK => ?_
                    simp [-aBin', -aBin, -aBinI, -aUn, -aNil, -flatV, n_fn, b_add, b_sub, b_mul, b_lt, b_le, b_gt, b_ge, b_eq, b_ne, u_not, e5_3, e5_5, e5_7, e5_9, e5_10, e5_13, e5_14, e5_15, e5_19, e5_20, e5_21, e5_28, e5_29, e5_30, hb42, undef]
                    apply hK
                    clear hK K
                    simp only [andThen, leaves]
                    refine DWp.cf (by simp [e5_3, e5_5, e5_7, e5_9, e5_10, e5_13, e5_14, e5_15, e5_19, e5_20, e5_21, e5_28, e5_29, e5_30, bnot]) ?_
                    refine DWp.exit ?_
                    simp only [andThen, leaves, if_true, if_false, reduceIte, Nat.reduceEqDiff]
                    obtain rfl := Option.some.inj hL40
                    have S68 := S5_.pick [0, 1] (by decide) rfl
                    obtain rfl := Option.some.inj hL37
                    exact ⟨S68, A5_, by simp [e5_3, e5_5, e5_7, e5_9, e5_10, e5_13, e5_14, e5_15, e5_19, e5_20, e5_21, e5_28, e5_29, e5_30], by simp [e5_3, e5_5, e5_7, e5_9, e5_10, e5_13, e5_14, e5_15, e5_19, e5_20, e5_21, e5_28, e5_29, e5_30], by simp [e5_3, e5_5, e5_7, e5_9, e5_10, e5_13, e5_14, e5_15, e5_19, e5_20, e5_21, e5_28, e5_29, e5_30], by simp [e5_3, e5_5, e5_7, e5_9, e5_10, e5_13, e5_14, e5_15, e5_19, e5_20, e5_21, e5_28, e5_29, e5_30], by simp [e5_3, e5_5, e5_7, e5_9, e5_10, e5_13, e5_14, e5_15, e5_19, e5_20, e5_21, e5_28, e5_29, e5_30], by simp [e5_3, e5_5, e5_7, e5_9, e5_10, e5_13, e5_14, e5_15, e5_19, e5_20, e5_21, e5_28, e5_29, e5_30], by simp [e5_3, e5_5, e5_7, e5_9, e5_10, e5_13, e5_14, e5_15, e5_19, e5_20, e5_21, e5_28, e5_29, e5_30], by simp [e5_3, e5_5, e5_7, e5_9, e5_10, e5_13, e5_14, e5_15, e5_19, e5_20, e5_21, e5_28, e5_29, e5_30], by simp [e5_3, e5_5, e5_7, e5_9, e5_10, e5_13, e5_14, e5_15, e5_19, e5_20, e5_21, e5_28, e5_29, e5_30], by simp [e5_3, e5_5, e5_7, e5_9, e5_10, e5_13, e5_14, e5_15, e5_19, e5_20, e5_21, e5_28, e5_29, e5_30], by simp [e5_3, e5_5, e5_7, e5_9, e5_10, e5_13, e5_14, e5_15, e5_19, e5_20, e5_21, e5_28, e5_29, e5_30], by simp [e5_3, e5_5, e5_7, e5_9, e5_10, e5_13, e5_14, e5_15, e5_19, e5_20, e5_21, e5_28, e5_29, e5_30], by simp [e5_3, e5_5, e5_7, e5_9, e5_10, e5_13, e5_14, e5_15, e5_19, e5_20, e5_21, e5_28, e5_29, e5_30], by simp [e5_3, e5_5, e5_7, e5_9, e5_10, e5_13, e5_14, e5_15, e5_19, e5_20, e5_21, e5_28, e5_29, e5_30]⟩
              · rintro env Gj69 ⟨Sj69, Aj69, ej69_3, ej69_5, ej69_7, ej69_9, ej69_10, ej69_13, ej69_14, ej69_15, ej69_19, ej69_20, ej69_21, ej69_28, ej69_29, ej69_30⟩
                refine DWp.seq ?_
                obtain ⟨v70, G71, q72, S73, a75, _, _⟩ := Sj69.lit0 (P := Try.prog) (t := 23) (hB.le Aj69.1) el_23 ei_22 rfl
                have A74 := Aj69.ext (hB.le Aj69.1) a75
                replace S73 : Sep G71 (Fr H) [rowsC w3_0 22 3 D3_0 (List.map ints l3_0), rowsC c2_u0 22 3 c2_C0 (List.map ints r1), flat1 v70 22 []] := S73
                have S76 : Sep G71 (Fr H) [rowsC w3_0 22 3 D3_0 (List.map ints l3_0), rowsC c2_u0 22 3 c2_C0 (List.map ints r1), rowsC v70 22 3 [] (List.map ints [])] := S73.rowsOf0 (k := 2) rfl 3
                obtain ⟨g77, hL29⟩ := gd_some hL29
                have q78 := ((S76.rd (k := 0) rfl).raw01 (P := Try.prog) el_23 sz_22 g77).1
                have S85 := S76.rawOf0 (k := 2) rfl
                obtain ⟨g86, hL29⟩ := gd_some hL29
                obtain ⟨v84, G79, q80, S81, a83, q80t, _⟩ := S85.ins1 (P := Try.prog) (t := 23) (t2 := 23) (k := 2) (j := 0) (fr := ints) (X := l3_0) (C := D3_0) (b := s36) rfl rfl (hB.le A74.1) el_23 el_23 ei_22 rfl ((S85.rd (k := 0) rfl).raw01 (P := Try.prog) el_23 sz_22 g77).2 g86
                have A82 := A74.trans a83
                replace S81 : Sep G79 (Fr H) [rowsC w3_0 22 3 D3_0 (List.map ints l3_0), rowsC c2_u0 22 3 c2_C0 (List.map ints r1), flat v84 22 (D3_0.take (s36).toNat)] := S81
                refine DWp.region fun K hK => ?_
                simp [-aBin', -aBin, -aBinI, -aUn, -aNil, -flatV, n_fn, b_add, b_sub, b_mul, b_lt, b_le, b_gt, b_ge, b_eq, b_ne, u_not, ej69_3, ej69_5, ej69_7, ej69_9, ej69_10, ej69_13, ej69_14, ej69_15, ej69_19, ej69_20, ej69_21, ej69_28, ej69_29, ej69_30, q72, a75.to_pre, q78, (((S76.rd (k := 0) rfl).raw01 (P := Try.prog) el_23 sz_22 g77).2.tup), q80, q80t]
                apply hK
                clear hK K
                simp only [andThen, leaves]
                obtain ⟨v87, G88, q89, S90, a92, fl93⟩ := S81.lit2E (P := Try.prog) (t := 22) (hB.le A82.1) el_22 ei_3 rfl (Value.int .i64 (gat 0 (lsub (gat [] r1 y1_15) 0 y2_21) y3_30)) (Value.int .i64 (gat 0 (gat [] r1 y1_15) y2_21)) rfl rfl rfl rfl
                have A91 := A82.ext (hB.le A82.1) a92
                replace S90 : Sep G88 (Fr H) [rowsC w3_0 22 3 D3_0 (List.map ints l3_0), rowsC c2_u0 22 3 c2_C0 (List.map ints r1), flat v84 22 (D3_0.take (s36).toNat), flat1 v87 3 (ints [(gat 0 (lsub (gat [] r1 y1_15) 0 y2_21) y3_30), (gat 0 (gat [] r1 y1_15) y2_21)])] := S90
                obtain ⟨v94, G95, q96, S97, a99, _, _⟩ := S90.lit1 (P := Try.prog) (t := 23) (hB.le A91.1) el_23 ei_22 rfl v87 ((S90.sl1 (k := 3) rfl).tup) ((S90.sl1 (k := 3) rfl).one)
                have A98 := A91.ext (hB.le A91.1) a99
                replace S97 : Sep G95 (Fr H) [rowsC w3_0 22 3 D3_0 (List.map ints l3_0), rowsC c2_u0 22 3 c2_C0 (List.map ints r1), flat v84 22 (D3_0.take (s36).toNat), flat1 v87 3 (ints [(gat 0 (lsub (gat [] r1 y1_15) 0 y2_21) y3_30), (gat 0 (gat [] r1 y1_15) y2_21)]), flat1 v94 22 [v87]] := S97
                have q100 : RefK (kpl [w3_0]) G95.length w3_0 := refK_sl (S97.rd (k := 0) rfl).out (by simp)
                obtain ⟨g101, hL29⟩ := gd_some hL29
                have q102 := ((S97.rd (k := 0) rfl).raw10 (P := Try.prog) el_23 sz_22 g101).1
                have S109 := S97.weak (k := 3) rfl
                obtain ⟨v108, G103, q104, S105, a107, q104t, _⟩ := S109.ins2 (P := Try.prog) (t := 23) (t2 := 23) (k := 2) (j := 0) (fr := ints) (X := l3_0) (C := D3_0) (b := s36) rfl rfl (hB.le A98.1) el_23 el_23 ei_22 rfl (S109.sl1 (k := 4) rfl) g86
                have t110 : Stand (kpl [w3_0]) G95 G103 := stand_kpl (append_same q104) (by
                  simp only [List.mem_cons, List.not_mem_nil, or_false, forall_eq_or_imp, forall_eq, false_imp_iff, implies_true]
                  exact S109.ids_apartR (k := 2) (j := 0) rfl rfl (by decide))
                have A106 := A98.trans a107
                replace S105 : Sep G103 (Fr H) [rowsC w3_0 22 3 D3_0 (List.map ints l3_0), rowsC c2_u0 22 3 c2_C0 (List.map ints r1), flat v108 22 (D3_0.take (s36).toNat ++ [v87]), flat v87 3 (ints [(gat 0 (lsub (gat [] r1 y1_15) 0 y2_21) y3_30), (gat 0 (gat [] r1 y1_15) y2_21)]), flat1 v94 22 [v87]] := S105
                obtain ⟨v116, G111, q112, S113, a115, q112t, _⟩ := S105.ins3 (P := Try.prog) (t := 23) (t2 := 23) (k := 2) (j := 0) (fr := ints) (X := l3_0) (C := D3_0) (b := s36) (c := v87) rfl rfl (hB.le A106.1) el_23 el_23 ei_22 rfl ((S105.rd (k := 0) rfl).raw10 (P := Try.prog) el_23 sz_22 g101).2 g86
                have t117 : Stand (kpl [w3_0]) G103 G111 := stand_kpl (append_same q112) (by
                  simp only [List.mem_cons, List.not_mem_nil, or_false, forall_eq_or_imp, forall_eq, false_imp_iff, implies_true]
                  exact S105.ids_apartR (k := 2) (j := 0) rfl rfl (by decide))
                have A114 := A106.trans a115
                replace S113 : Sep G111 (Fr H) [rowsC w3_0 22 3 D3_0 (List.map ints l3_0), rowsC c2_u0 22 3 c2_C0 (List.map ints r1), flat v116 22 (cins D3_0 s36 v87), flat v87 3 (ints [(gat 0 (lsub (gat [] r1 y1_15) 0 y2_21) y3_30), (gat 0 (gat [] r1 y1_15) y2_21)]), flat1 v94 22 [v87]] := S113
                have S118 : Sep G111 (Fr H) [emp, rowsC c2_u0 22 3 c2_C0 (List.map ints r1), rowsC v116 22 3 (cins D3_0 s36 v87) (List.map ints (lins l3_0 s36 [(gat 0 (lsub (gat [] r1 y1_15) 0 y2_21) y3_30), (gat 0 (gat [] r1 y1_15) y2_21)])), emp, flat1 v94 22 [v87]] := S113.rowsIns (fr := ints) (w := 2) (j := 0) (k := 3) (by decide) (by decide) (by decide) rfl rfl rfl g77
                have t119 : Stand (kN G103.length) G95 G103 := stand_top a107.1
                have t120 : Stand (kN G103.length) G103 G111 := stand_top (Nat.le_refl _)
                refine DWp.drawn0 (B := [0, 0, 0, 6, 14, 0, 0, 96, 31, 511, 1023]) (X0 := [7]) (π := [0, 1, 2, 3, 4, 6, 7, 8, 5, 9, 10]) (σ := [0, 1, 2, 3, 4, 8, 5, 6, 7, 9, 10]) 8 (kpl [w3_0]) G103.length mixed (by kernel_rfl) (by kernel_rfl) (by decide) fun K hK => ?_
                simp only [rl0, rlb0, List.filterMap_cons, List.filterMap_nil, List.getElem?_cons_zero, List.getElem?_cons_succ, Option.map_some, Option.map_none]
                simp (config := { maxSteps := 4000000 }) [-aBin', -aBin, -aBinI, -aUn, -aNil, -flatV, n_fn, b_add, b_sub, b_mul, b_lt, b_le, b_gt, b_ge, b_eq, b_ne, u_not, ej69_3, ej69_5, ej69_7, ej69_9, ej69_10, ej69_13, ej69_14, ej69_15, ej69_19, ej69_20, ej69_21, ej69_28, ej69_29, ej69_30, q89, a92.to_pre, q96, a99.to_pre, ((S90.sl1 (k := 3) rfl).tup), q100, q102, (((S97.rd (k := 0) rfl).raw10 (P := Try.prog) el_23 sz_22 g101).2.tup), t110, q104, q104t, t117, q112, q112t, t119, t120]
                apply hK
                clear hK K
                simp only [andThen, leaves]
                refine DWp.region fun K hK => ?_
                simp [-aBin', -aBin, -aBinI, -aUn, -aNil, -flatV, n_fn, b_add, b_sub, b_mul, b_lt, b_le, b_gt, b_ge, b_eq, b_ne, u_not, ej69_3, ej69_5, ej69_7, ej69_9, ej69_10, ej69_13, ej69_14, ej69_15, ej69_19, ej69_20, ej69_21, ej69_28, ej69_29, ej69_30]
                apply hK
                clear hK K
                simp only [andThen, leaves]
                have S121 := S118.pick [2, 1] (by decide) rfl
                exact ⟨n3, Nat.lt_succ_self _, (lins l3_0 s36 [(gat 0 (lsub (gat [] r1 y1_15) 0 y2_21) y3_30), (gat 0 (gat [] r1 y1_15) y2_21)]), (iadd .i64 y3_30 1), v116, (cins D3_0 s36 v87), hL29, S121, A114, by simp [ej69_3, ej69_5, ej69_7, ej69_9, ej69_10, ej69_13, ej69_14, ej69_15, ej69_19, ej69_20, ej69_21, ej69_28, ej69_29, ej69_30], by simp [ej69_3, ej69_5, ej69_7, ej69_9, ej69_10, ej69_13, ej69_14, ej69_15, ej69_19, ej69_20, ej69_21, ej69_28, ej69_29, ej69_30], by simp [ej69_3, ej69_5, ej69_7, ej69_9, ej69_10, ej69_13, ej69_14, ej69_15, ej69_19, ej69_20, ej69_21, ej69_28, ej69_29, ej69_30], by simp [ej69_3, ej69_5, ej69_7, ej69_9, ej69_10, ej69_13, ej69_14, ej69_15, ej69_19, ej69_20, ej69_21, ej69_28, ej69_29, ej69_30], by simp [ej69_3, ej69_5, ej69_7, ej69_9, ej69_10, ej69_13, ej69_14, ej69_15, ej69_19, ej69_20, ej69_21, ej69_28, ej69_29, ej69_30], by simp [ej69_3, ej69_5, ej69_7, ej69_9, ej69_10, ej69_13, ej69_14, ej69_15, ej69_19, ej69_20, ej69_21, ej69_28, ej69_29, ej69_30], by simp [ej69_3, ej69_5, ej69_7, ej69_9, ej69_10, ej69_13, ej69_14, ej69_15, ej69_19, ej69_20, ej69_21, ej69_28, ej69_29, ej69_30], by simp [ej69_3, ej69_5, ej69_7, ej69_9, ej69_10, ej69_13, ej69_14, ej69_15, ej69_19, ej69_20, ej69_21, ej69_28, ej69_29, ej69_30], by simp [ej69_3, ej69_5, ej69_7, ej69_9, ej69_10, ej69_13, ej69_14, ej69_15, ej69_19, ej69_20, ej69_21, ej69_28, ej69_29, ej69_30], by simp [ej69_3, ej69_5, ej69_7, ej69_9, ej69_10, ej69_13, ej69_14, ej69_15, ej69_19, ej69_20, ej69_21, ej69_28, ej69_29, ej69_30], by simp [ej69_3, ej69_5, ej69_7, ej69_9, ej69_10, ej69_13, ej69_14, ej69_15, ej69_19, ej69_20, ej69_21, ej69_28, ej69_29, ej69_30], by simp [ej69_3, ej69_5, ej69_7, ej69_9, ej69_10, ej69_13, ej69_14, ej69_15, ej69_19, ej69_20, ej69_21, ej69_28, ej69_29, ej69_30]⟩
            · replace hL29 := cd_f hb31 hL29
              refine DWp.exit ?_
              simp only [andThen, leaves, if_true, if_false, reduceIte, Nat.reduceEqDiff]
              obtain rfl := Option.some.inj hL29
              try dsimp only at hL19
              refine DWp.region fun K hK => ?_
              simp [-aBin', -aBin, -aBinI, -aUn, -aNil, -flatV, n_fn, b_add, b_sub, b_mul, b_lt, b_le, b_gt, b_ge, b_eq, b_ne, u_not, e3_3, e3_5, e3_7, e3_13, e3_14, e3_15, e3_19, e3_20, e3_21, e3_28, e3_29, e3_30]
              apply hK
              clear hK K
              simp only [andThen, leaves]
              have S122 := S3_.pick [0, 1] (by decide) rfl
              exact ⟨n2, Nat.lt_succ_self _, l3_0, (iadd .i64 y2_21 1), w3_0, D3_0, hL19, S122, A3_, by simp [e3_3, e3_5, e3_7, e3_13, e3_14, e3_15, e3_19, e3_20, e3_21, e3_28, e3_29, e3_30], by simp [e3_3, e3_5, e3_7, e3_13, e3_14, e3_15, e3_19, e3_20, e3_21, e3_28, e3_29, e3_30], by simp [e3_3, e3_5, e3_7, e3_13, e3_14, e3_15, e3_19, e3_20, e3_21, e3_28, e3_29, e3_30], by simp [e3_3, e3_5, e3_7, e3_13, e3_14, e3_15, e3_19, e3_20, e3_21, e3_28, e3_29, e3_30], by simp [e3_3, e3_5, e3_7, e3_13, e3_14, e3_15, e3_19, e3_20, e3_21, e3_28, e3_29, e3_30], by simp [e3_3, e3_5, e3_7, e3_13, e3_14, e3_15, e3_19, e3_20, e3_21, e3_28, e3_29, e3_30], by simp [e3_3, e3_5, e3_7, e3_13, e3_14, e3_15, e3_19, e3_20, e3_21, e3_28, e3_29, e3_30], by simp [e3_3, e3_5, e3_7, e3_13, e3_14, e3_15, e3_19, e3_20, e3_21, e3_28, e3_29, e3_30]⟩
        · replace hL19 := cd_f hb21 hL19
          refine DWp.exit ?_
          simp only [andThen, leaves, if_true, if_false, reduceIte, Nat.reduceEqDiff]
          obtain rfl := Option.some.inj hL19
          try dsimp only at hL11
          refine DWp.region fun K hK => ?_
          simp [-aBin', -aBin, -aBinI, -aUn, -aNil, -flatV, n_fn, b_add, b_sub, b_mul, b_lt, b_le, b_gt, b_ge, b_eq, b_ne, u_not, e2_3, e2_5, e2_13, e2_14, e2_15, e2_19, e2_20, e2_21]
          apply hK
          clear hK K
          simp only [andThen, leaves]
          have S123 := S2_.pick [0, 1] (by decide) rfl
          exact ⟨n1, Nat.lt_succ_self _, l2_0, (iadd .i64 y1_15 1), w2_0, D2_0, hL11, S123, A2_, by simp [e2_3, e2_5, e2_13, e2_14, e2_15, e2_19, e2_20, e2_21], by simp [e2_3, e2_5, e2_13, e2_14, e2_15, e2_19, e2_20, e2_21], by simp [e2_3, e2_5, e2_13, e2_14, e2_15, e2_19, e2_20, e2_21], by simp [e2_3, e2_5, e2_13, e2_14, e2_15, e2_19, e2_20, e2_21]⟩
    · replace hL11 := cd_f hb13 hL11
      refine DWp.exit ?_
      simp only [andThen, leaves, if_true, if_false, reduceIte, Nat.reduceEqDiff]
      obtain rfl := Option.some.inj hL11
      try dsimp only at hF
      refine DWp.seq ?_
      refine DWp.region fun K hK => ?_
      simp [-aBin', -aBin, -aBinI, -aUn, -aNil, -flatV, n_fn, b_add, b_sub, b_mul, b_lt, b_le, b_gt, b_ge, b_eq, b_ne, u_not, e1_3, e1_13, e1_14, e1_15]
      apply hK
      clear hK K
      simp only [andThen, leaves]
      refine DWp.ret ?_
      obtain rfl := Option.some.inj hF
      exact ⟨by simp, [w1_0], by simp [e1_3, e1_13, e1_14, e1_15, ((S1_.rd (k := 0) rfl).tup)], A1_, w1_0, D1_0, rfl, S1_.pick [0] (by decide) rfl⟩
def F_impl_under_L1 (fu : Nat) (k1_0 : List Int) (k1_1 : Int) : Nat → List Int → Int → Option (List Int × Int)
  | 0, _, _ => none
  | n + 1, l1_0, y1_8 =>
    bif (ilt y1_8 k1_1) then
      gd (l1_0.length + [y1_8].length ≤ 4294967296) (
      gd (inL k1_0 y1_8) (
      F_impl_under_L1 fu k1_0 k1_1 n (lapp l1_0 [y1_8]) (iadd .i64 (gat 0 k1_0 y1_8) 1)))
    else
      some (l1_0, y1_8)
def F_impl_under (fu : Nat) (x0 : List Int) (x1 : Int) (x2 : Int) : Option (List Int) :=
  bd (F_impl_under_L1 fu x0 x2 fu (@List.nil Int) x1) fun s1 =>
  some s1.1
theorem F_impl_under_w {fu : Nat} {H : AH} {v0 : Value} {x0 : List Int} {x1 : Int} {x2 : Int} {r : (List Int)} (hx0 : Sl H v0 (ints x0)) (hF : F_impl_under fu x0 x1 x2 = some r) :
    ACallT Try.prog 88 [v0, (Value.int .i64 x1), (Value.int .i64 x2)] H (fun u G => AgB (Fr H) H G ∧ ∃ u0 : Value, u = u0 ∧ Sep G (Fr H) [flat u0 3 (ints r)]) := by
  refine ACallT.of_body (nt := 24) (rs := [.tmp 6]) Try.func88 rfl rfl rfl rfl ?_
  have A0 : AgB (Fr H) H H := .refl _ _
  have S0 : Sep H (Fr H) [] := .nil
  have hB := Fr.up H
  unfold F_impl_under at hF
  refine DWp.seq ?_
  refine DWp.region fun K hK => ?_
  simp [-aBin', -aBin, -aBinI, -aUn, -aNil, -flatV, n_fn, b_add, b_sub, b_mul, b_lt, b_le, b_gt, b_ge, b_eq, b_ne, u_not]
  apply hK
  clear hK K
  simp only [andThen, leaves]
  refine DWp.seq ?_
  obtain ⟨v1, G2, q3, S4, a6, _, _⟩ := S0.lit0 (P := Try.prog) (t := 22) (hB.le A0.1) el_22 ei_3 rfl
  have A5 := A0.ext (hB.le A0.1) a6
  replace S4 : Sep G2 (Fr H) [flat1 v1 3 (ints (@List.nil Int))] := S4
  refine DWp.region fun K hK => ?_
  simp [-aBin', -aBin, -aBinI, -aUn, -aNil, -flatV, n_fn, b_add, b_sub, b_mul, b_lt, b_le, b_gt, b_ge, b_eq, b_ne, u_not, q3, a6.to_pre]
  apply hK
  clear hK K
  simp only [andThen, leaves]
  refine DWp.seq ?_
  refine DWp.seq ?_
  refine DWp.region fun K hK => ?_
  simp [-aBin', -aBin, -aBinI, -aUn, -aNil, -flatV, n_fn, b_add, b_sub, b_mul, b_lt, b_le, b_gt, b_ge, b_eq, b_ne, u_not]
  apply hK
  clear hK K
  simp only [andThen, leaves]
  refine DWp.block ?_
  obtain ⟨s8, hL9, hF⟩ := bd_some hF
  have S10 := S4.pick [0] (by decide) rfl
  have S11 := S10.weak (k := 0) rfl
  refine DWp.loop (fun n env G => ∃ l1_0 : List Int, ∃ y1_8 : Int, ∃ w1_0 : Value, F_impl_under_L1 fu x0 x2 n l1_0 y1_8 = some s8 ∧ Sep G (Fr H) [flat w1_0 3 (ints l1_0)] ∧ AgB (Fr H) H G ∧ env 0 = some v0 ∧ env 2 = some (Value.int .i64 x2) ∧ env 7 = some w1_0 ∧ env 8 = some (Value.int .i64 y1_8)) fu ⟨(@List.nil Int), x1, v1, hL9, S11, A5, by simp [], by simp [], by simp [], by simp []⟩ ?_
  rintro n1 env1 G1_ ⟨l1_0, y1_8, w1_0, hL9, S1_, A1_, e1_0, e1_2, e1_7, e1_8⟩
  cases n1 with
  | zero => cases hL9
  | succ n1 =>
    simp only [F_impl_under_L1] at hL9
    refine DWp.seq ?_
    refine DWp.seq ?_
    refine DWp.region fun K hK => ?_
    simp [-aBin', -aBin, -aBinI, -aUn, -aNil, -flatV, n_fn, b_add, b_sub, b_mul, b_lt, b_le, b_gt, b_ge, b_eq, b_ne, u_not, e1_0, e1_2, e1_7, e1_8]
    apply hK
    clear hK K
    simp only [andThen, leaves]
    refine DWp.cond' (t := (ilt y1_8 x2)) (by simp [e1_0, e1_2, e1_7, e1_8]) (fun hb12 => ?_) (fun hb12 => ?_)
    · replace hL9 := cd_t hb12 hL9
      refine DWp.skip ?_
      simp only [andThen, leaves]
      refine DWp.seq ?_
      refine DWp.block ?_
      obtain ⟨v13, G14, q15, S16, a18, _, _⟩ := S1_.lit1 (P := Try.prog) (t := 22) (hB.le A1_.1) el_22 ei_3 rfl (Value.int .i64 y1_8) rfl rfl
      have A17 := A1_.ext (hB.le A1_.1) a18
      replace S16 : Sep G14 (Fr H) [flat w1_0 3 (ints l1_0), flat1 v13 3 (ints [y1_8])] := S16
      obtain ⟨g20, hL9⟩ := gd_some hL9
      obtain ⟨v26, G21, q22, S23, a25, _, _⟩ := S16.appendG (f := (Value.int .i64)) (xs := l1_0) (ys := [y1_8]) (P := Try.prog) (t := 22) (t2 := 22) (k := 0) rfl (hB.le A17.1) el_22 el_22 ei_3 rfl (S16.sl1 (k := 1) rfl) g20
      have A24 := A17.trans a25
      replace S23 : Sep G21 (Fr H) [flat v26 3 (ints (lapp l1_0 [y1_8])), flat1 v13 3 (ints [y1_8])] := S23
      refine DWp.region fun K hK => ?_
      simp [-aBin', -aBin, -aBinI, -aUn, -aNil, -flatV, n_fn, b_add, b_sub, b_mul, b_lt, b_le, b_gt, b_ge, b_eq, b_ne, u_not, e1_0, e1_2, e1_7, e1_8, q15, a18.to_pre, q22]
      apply hK
      clear hK K
      simp only [andThen, leaves]
      obtain ⟨g27, hL9⟩ := gd_some hL9
      have q28 := idxG (P := Try.prog) (kk := .i64) (hx0.agree A24.agree) el_22 sz_3 g27
      have q29 := loadG (P := Try.prog) (hx0.agree A24.agree) sz_3 ag_3 g27 0
      refine DWp.region fun K hK => ?_
      simp [-aBin', -aBin, -aBinI, -aUn, -aNil, -flatV, n_fn, b_add, b_sub, b_mul, b_lt, b_le, b_gt, b_ge, b_eq, b_ne, u_not, e1_0, e1_2, e1_7, e1_8, q28, q29]
      apply hK
      clear hK K
      simp only [andThen, leaves]
      have S30 := S23.pick [0] (by decide) rfl
      exact ⟨n1, Nat.lt_succ_self _, (lapp l1_0 [y1_8]), (iadd .i64 (gat 0 x0 y1_8) 1), v26, hL9, S30, A24, by simp [e1_0, e1_2, e1_7, e1_8], by simp [e1_0, e1_2, e1_7, e1_8], by simp [e1_0, e1_2, e1_7, e1_8], by simp [e1_0, e1_2, e1_7, e1_8]⟩
    · replace hL9 := cd_f hb12 hL9
      refine DWp.exit ?_
      simp only [andThen, leaves, if_true, if_false, reduceIte, Nat.reduceEqDiff]
      obtain rfl := Option.some.inj hL9
      try dsimp only at hF
      refine DWp.seq ?_
      refine DWp.region fun K hK => ?_
      simp [-aBin', -aBin, -aBinI, -aUn, -aNil, -flatV, n_fn, b_add, b_sub, b_mul, b_lt, b_le, b_gt, b_ge, b_eq, b_ne, u_not, e1_0, e1_2, e1_7, e1_8]
      apply hK
      clear hK K
      simp only [andThen, leaves]
      refine DWp.ret ?_
      obtain rfl := Option.some.inj hF
      exact ⟨by simp, [w1_0], by simp [e1_0, e1_2, e1_7, e1_8, ((S1_.sl (k := 0) rfl).tup)], A1_, w1_0, rfl, S1_.pick [0] (by decide) rfl⟩
def F_impl_faces_L1 (fu : Nat) (k1_0 : List Int) (k1_1 : Int) : Nat → List (List Int) → Int → Option (List (List Int) × Int)
  | 0, _, _ => none
  | n + 1, l1_0, y1_13 =>
    bif (ilt y1_13 k1_1) then
      gd (inL k1_0 y1_13) (
      bif (ilt y1_13 (gat 0 k1_0 y1_13)) then
        bd (F_impl_under fu k1_0 (iadd .i64 y1_13 1) (gat 0 k1_0 y1_13)) fun r2 =>
        gd ([y1_13].length + r2.length ≤ 4294967296) (
        gd (l1_0.length + 1 ≤ 4294967296) (
        F_impl_faces_L1 fu k1_0 k1_1 n (lapp l1_0 [(lapp [y1_13] r2)]) (iadd .i64 y1_13 1)))
      else
        F_impl_faces_L1 fu k1_0 k1_1 n l1_0 (iadd .i64 y1_13 1))
    else
      some (l1_0, y1_13)
def F_impl_faces (fu : Nat) (x0 : List Int) : Option (List (List Int)) :=
  bd (F_impl_under fu x0 0 (llen x0)) fun r1 =>
  bd (F_impl_faces_L1 fu x0 (llen x0) fu [r1] 0) fun s1 =>
  some s1.1
theorem F_impl_faces_w {fu : Nat} {H : AH} {v0 : Value} {x0 : List Int} {r : (List (List Int))} (hx0 : Sl H v0 (ints x0)) (hF : F_impl_faces fu x0 = some r) :
    ACallT Try.prog 56 [v0] H (fun u G => AgB (Fr H) H G ∧ ∃ u0 : Value, ∃ C0 : List Value, u = u0 ∧ Sep G (Fr H) [rowsC u0 22 3 C0 (List.map ints r)]) := by
  refine ACallT.of_body (nt := 34) (rs := [.tmp 2]) Try.func56 rfl rfl rfl rfl ?_
  have A0 : AgB (Fr H) H H := .refl _ _
  have S0 : Sep H (Fr H) [] := .nil
  have hB := Fr.up H
  unfold F_impl_faces at hF
  refine DWp.seq ?_
  refine DWp.region fun K hK => ?_
  simp [-aBin', -aBin, -aBinI, -aUn, -aNil, -flatV, n_fn, b_add, b_sub, b_mul, b_lt, b_le, b_gt, b_ge, b_eq, b_ne, u_not]
  apply hK
  clear hK K
  simp only [andThen, leaves]
  refine DWp.seq ?_
  have q1 := lenG (P := Try.prog) (hx0.agree A0.agree) el_22
  obtain ⟨r1, hc2, hF⟩ := bd_some hF
  refine DWp.region fun K hK => ?_
  simp [-aBin', -aBin, -aBinI, -aUn, -aNil, -flatV, n_fn, b_add, b_sub, b_mul, b_lt, b_le, b_gt, b_ge, b_eq, b_ne, u_not, q1, ((hx0.agree A0.agree).tup)]
  refine CallD.t (F_impl_under_w (fu := fu) (hx0.agree A0.agree) hc2) ?_
  rintro c3_u0 G4 ⟨a7, _, rfl, S8⟩
  have A6 := A0.ext (hB.le A0.1) a7.agree
  have S5 : Sep G4 (Fr H) [flat c3_u0 3 (ints r1)] := S0.app a7.agree S8 (fun _ h => h) (hB.le A0.1)
  obtain ⟨v9, G10, q11, S12, a14, _, _⟩ := S5.lit1 (P := Try.prog) (t := 23) (hB.le A6.1) el_23 ei_22 rfl c3_u0 ((S5.sl (k := 0) rfl).tup) ((S5.sl (k := 0) rfl).one)
  have A13 := A6.ext (hB.le A6.1) a14
  replace S12 : Sep G10 (Fr H) [flat c3_u0 3 (ints r1), flat1 v9 22 [c3_u0]] := S12
  simp [-aBin', -aBin, -aBinI, -aUn, -aNil, -flatV, n_fn, b_add, b_sub, b_mul, b_lt, b_le, b_gt, b_ge, b_eq, b_ne, u_not, q1, a7.pre, q11, a14.to_pre, ((S5.sl (k := 0) rfl).tup)]
  apply hK
  clear hK K
  simp only [andThen, leaves]
  refine DWp.seq ?_
  refine DWp.seq ?_
  have q15 := lenG (P := Try.prog) (hx0.agree A13.agree) el_22
  refine DWp.region fun K hK => ?_
  simp [-aBin', -aBin, -aBinI, -aUn, -aNil, -flatV, n_fn, b_add, b_sub, b_mul, b_lt, b_le, b_gt, b_ge, b_eq, b_ne, u_not, q15]
  apply hK
  clear hK K
  simp only [andThen, leaves]
  refine DWp.block ?_
  have S16 : Sep G10 (Fr H) [emp, rowsC v9 22 3 [c3_u0] (List.map ints [r1])] := S12.rowsOf1 (j := 1) (k := 0) (by decide) rfl rfl
  obtain ⟨s17, hL18, hF⟩ := bd_some hF
  have S19 := S16.pick [1] (by decide) rfl
  refine DWp.loop (fun n env G => ∃ l1_0 : List (List Int), ∃ y1_13 : Int, ∃ w1_0 : Value, ∃ D1_0 : List Value, F_impl_faces_L1 fu x0 (llen x0) n l1_0 y1_13 = some s17 ∧ Sep G (Fr H) [rowsC w1_0 22 3 D1_0 (List.map ints l1_0)] ∧ AgB (Fr H) H G ∧ env 0 = some v0 ∧ env 3 = some w1_0 ∧ env 11 = some v0 ∧ env 12 = some (Value.int .i64 (llen x0)) ∧ env 13 = some (Value.int .i64 y1_13)) fu ⟨[r1], 0, v9, [c3_u0], hL18, S19, A13, by simp [], by simp [], by simp [], by simp [], by simp []⟩ ?_
  rintro n1 env1 G1_ ⟨l1_0, y1_13, w1_0, D1_0, hL18, S1_, A1_, e1_0, e1_3, e1_11, e1_12, e1_13⟩
  cases n1 with
  | zero => cases hL18
  | succ n1 =>
    simp only [F_impl_faces_L1] at hL18
    refine DWp.seq ?_
    refine DWp.region fun K hK => ?_
    simp [-aBin', -aBin, -aBinI, -aUn, -aNil, -flatV, n_fn, b_add, b_sub, b_mul, b_lt, b_le, b_gt, b_ge, b_eq, b_ne, u_not, e1_0, e1_3, e1_11, e1_12, e1_13]
    apply hK
    clear hK K
    simp only [andThen, leaves]
    refine DWp.seq ?_
    refine DWp.cond' (t := (ilt y1_13 (llen x0))) (by simp [e1_0, e1_3, e1_11, e1_12, e1_13]) (fun hb20 => ?_) (fun hb20 => ?_)
    · replace hL18 := cd_t hb20 hL18
      refine DWp.skip ?_
      simp only [andThen, leaves]
      refine DWp.seq ?_
      refine DWp.block ?_
      refine DWp.seq ?_
      obtain ⟨g21, hL18⟩ := gd_some hL18
      have q22 := idxG (P := Try.prog) (kk := .i64) (hx0.agree A1_.agree) el_22 sz_3 g21
      have q23 := loadG (P := Try.prog) (hx0.agree A1_.agree) sz_3 ag_3 g21 0
      refine DWp.region fun K hK => ?_
      simp [-aBin', -aBin, -aBinI, -aUn, -aNil, -flatV, n_fn, b_add, b_sub, b_mul, b_lt, b_le, b_gt, b_ge, b_eq, b_ne, u_not, e1_0, e1_3, e1_11, e1_12, e1_13, q22, q23]
      apply hK
      clear hK K
      simp only [andThen, leaves]
      refine DWp.seq ?_
      refine DWp.region fun K hK => ?_
      simp [-aBin', -aBin, -aBinI, -aUn, -aNil, -flatV, n_fn, b_add, b_sub, b_mul, b_lt, b_le, b_gt, b_ge, b_eq, b_ne, u_not, e1_0, e1_3, e1_11, e1_12, e1_13]
      apply hK
      clear hK K
      simp only [andThen, leaves]
      refine DWp.cond' (t := (ilt y1_13 (gat 0 x0 y1_13))) (by simp [e1_0, e1_3, e1_11, e1_12, e1_13]) (fun hb24 => ?_) (fun hb24 => ?_)
      · replace hL18 := cd_t hb24 hL18
        obtain ⟨v25, G26, q27, S28, a30, _, _⟩ := S1_.lit1 (P := Try.prog) (t := 22) (hB.le A1_.1) el_22 ei_3 rfl (Value.int .i64 y1_13) rfl rfl
        have A29 := A1_.ext (hB.le A1_.1) a30
        replace S28 : Sep G26 (Fr H) [rowsC w1_0 22 3 D1_0 (List.map ints l1_0), flat1 v25 3 (ints [y1_13])] := S28
        obtain ⟨r2, hc32, hL18⟩ := bd_some hL18
        refine DWp.region fun K hK => ?_
        simp [-aBin', -aBin, -aBinI, -aUn, -aNil, -flatV, n_fn, b_add, b_sub, b_mul, b_lt, b_le, b_gt, b_ge, b_eq, b_ne, u_not, e1_0, e1_3, e1_11, e1_12, e1_13, q27, a30.to_pre, ((hx0.agree A29.agree).tup)]
        refine CallD.t (F_impl_under_w (fu := fu) (hx0.agree A29.agree) hc32) ?_
        rintro c33_u0 G34 ⟨a37, _, rfl, S38⟩
        have A36 := A29.ext (hB.le A29.1) a37.agree
        have S35 : Sep G34 (Fr H) [rowsC w1_0 22 3 D1_0 (List.map ints l1_0), flat1 v25 3 (ints [y1_13]), flat c33_u0 3 (ints r2)] := S28.app a37.agree S38 (fun _ h => h) (hB.le A29.1)
        obtain ⟨g39, hL18⟩ := gd_some hL18
        obtain ⟨v45, G40, q41, S42, a44, _, _⟩ := S35.append1 (f := (Value.int .i64)) (xs := [y1_13]) (ys := r2) (P := Try.prog) (t := 22) (t2 := 22) (k := 1) rfl (hB.le A36.1) el_22 el_22 ei_3 rfl (S35.sl (k := 2) rfl) g39
        have A43 := A36.trans a44
        replace S42 : Sep G40 (Fr H) [rowsC w1_0 22 3 D1_0 (List.map ints l1_0), flat v45 3 (ints (lapp [y1_13] r2)), flat c33_u0 3 (ints r2)] := S42
        obtain ⟨v46, G47, q48, S49, a51, _, _⟩ := S42.lit1 (P := Try.prog) (t := 23) (hB.le A43.1) el_23 ei_22 rfl v45 ((S42.sl (k := 1) rfl).tup) ((S42.sl (k := 1) rfl).one)
        have A50 := A43.ext (hB.le A43.1) a51
        replace S49 : Sep G47 (Fr H) [rowsC w1_0 22 3 D1_0 (List.map ints l1_0), flat v45 3 (ints (lapp [y1_13] r2)), flat c33_u0 3 (ints r2), flat1 v46 22 [v45]] := S49
        obtain ⟨g52, hL18⟩ := gd_some hL18
        obtain ⟨v58, G53, q54, S55, a57, q54t, _⟩ := S49.pushRow (u := w1_0) (fr := ints) (X := l1_0) (y := (lapp [y1_13] r2)) (P := Try.prog) (t := 23) (t2 := 23) (j := 0) (k := 1) (by decide) rfl rfl (hB.le A50.1) el_23 el_23 ei_22 rfl (S49.sl1 (k := 3) rfl) g52
        have A56 := A50.trans a57
        replace S55 : Sep G53 (Fr H) [rowsC v58 22 3 (D1_0 ++ [v45]) (List.map ints (lapp l1_0 [(lapp [y1_13] r2)])), emp, flat c33_u0 3 (ints r2), flat1 v46 22 [v45]] := S55
        have q59 := S55.lastV (fr := ints) (k := 0) rfl
        try simp only [List.cons_append, List.nil_append] at q59
        simp [-aBin', -aBin, -aBinI, -aUn, -aNil, -flatV, n_fn, b_add, b_sub, b_mul, b_lt, b_le, b_gt, b_ge, b_eq, b_ne, u_not, e1_0, e1_3, e1_11, e1_12, e1_13, q59, q27, a30.to_pre, a37.pre, q41, q48, a51.to_pre, ((S42.sl (k := 1) rfl).tup), q54, q54t]
        apply hK
        clear hK K
        simp only [andThen, leaves]
        refine DWp.region fun K hK => ?_
        simp [-aBin', -aBin, -aBinI, -aUn, -aNil, -flatV, n_fn, b_add, b_sub, b_mul, b_lt, b_le, b_gt, b_ge, b_eq, b_ne, u_not, e1_0, e1_3, e1_11, e1_12, e1_13, q59]
        apply hK
        clear hK K
        simp only [andThen, leaves]
        have S60 := S55.pick [0] (by decide) rfl
        exact ⟨n1, Nat.lt_succ_self _, (lapp l1_0 [(lapp [y1_13] r2)]), (iadd .i64 y1_13 1), v58, (D1_0 ++ [v45]), hL18, S60, A56, by simp [e1_0, e1_3, e1_11, e1_12, e1_13, q59], by simp [e1_0, e1_3, e1_11, e1_12, e1_13, q59], by simp [e1_0, e1_3, e1_11, e1_12, e1_13, q59], by simp [e1_0, e1_3, e1_11, e1_12, e1_13, q59], by simp [e1_0, e1_3, e1_11, e1_12, e1_13, q59]⟩
      · replace hL18 := cd_f hb24 hL18
        refine DWp.skip ?_
        simp only [andThen, leaves]
        refine DWp.region fun K hK => ?_
        simp [-aBin', -aBin, -aBinI, -aUn, -aNil, -flatV, n_fn, b_add, b_sub, b_mul, b_lt, b_le, b_gt, b_ge, b_eq, b_ne, u_not, e1_0, e1_3, e1_11, e1_12, e1_13]
        apply hK
        clear hK K
        simp only [andThen, leaves]
        have S61 := S1_.pick [0] (by decide) rfl
        exact ⟨n1, Nat.lt_succ_self _, l1_0, (iadd .i64 y1_13 1), w1_0, D1_0, hL18, S61, A1_, by simp [e1_0, e1_3, e1_11, e1_12, e1_13], by simp [e1_0, e1_3, e1_11, e1_12, e1_13], by simp [e1_0, e1_3, e1_11, e1_12, e1_13], by simp [e1_0, e1_3, e1_11, e1_12, e1_13], by simp [e1_0, e1_3, e1_11, e1_12, e1_13]⟩
    · replace hL18 := cd_f hb20 hL18
      refine DWp.exit ?_
      simp only [andThen, leaves, if_true, if_false, reduceIte, Nat.reduceEqDiff]
      obtain rfl := Option.some.inj hL18
      try dsimp only at hF
      refine DWp.seq ?_
      refine DWp.region fun K hK => ?_
      simp [-aBin', -aBin, -aBinI, -aUn, -aNil, -flatV, n_fn, b_add, b_sub, b_mul, b_lt, b_le, b_gt, b_ge, b_eq, b_ne, u_not, e1_0, e1_3, e1_11, e1_12, e1_13]
      apply hK
      clear hK K
      simp only [andThen, leaves]
      refine DWp.ret ?_
      obtain rfl := Option.some.inj hF
      exact ⟨by simp, [w1_0], by simp [e1_0, e1_3, e1_11, e1_12, e1_13, ((S1_.rd (k := 0) rfl).tup)], A1_, w1_0, D1_0, rfl, S1_.pick [0] (by decide) rfl⟩
def F_math_bits_Len64 (fu : Nat) (x0 : Int) : Option (Int) :=
  bd (
    bif (ile 4294967296 x0) then
      some ((ishr .u64 x0 32), 32)
    else
      some (x0, 0)) fun s1 =>
  bd (
    bif (ile 65536 s1.1) then
      some ((ishr .u64 s1.1 16), (iadd .i64 s1.2 16))
    else
      some (s1.1, s1.2)) fun s9 =>
  bif (ile 256 s9.1) then
    gd (inS (ByteArray.mk #[0, 1, 2, 2, 3, 3, 3, 3, 4, 4, 4, 4, 4, 4, 4, 4, 5, 5, 5, 5, 5, 5, 5, 5, 5, 5, 5, 5, 5, 5, 5, 5, 6, 6, 6, 6, 6, 6, 6, 6, 6, 6, 6, 6, 6, 6, 6, 6, 6, 6, 6, 6, 6, 6, 6, 6, 6, 6, 6, 6, 6, 6, 6, 6, 7, 7, 7, 7, 7, 7, 7, 7, 7, 7, 7, 7, 7, 7, 7, 7, 7, 7, 7, 7, 7, 7, 7, 7, 7, 7, 7, 7, 7, 7, 7, 7, 7, 7, 7, 7, 7, 7, 7, 7, 7, 7, 7, 7, 7, 7, 7, 7, 7, 7, 7, 7, 7, 7, 7, 7, 7, 7, 7, 7, 7, 7, 7, 7, 8, 8, 8, 8, 8, 8, 8, 8, 8, 8, 8, 8, 8, 8, 8, 8, 8, 8, 8, 8, 8, 8, 8, 8, 8, 8, 8, 8, 8, 8, 8, 8, 8, 8, 8, 8, 8, 8, 8, 8, 8, 8, 8, 8, 8, 8, 8, 8, 8, 8, 8, 8, 8, 8, 8, 8, 8, 8, 8, 8, 8, 8, 8, 8, 8, 8, 8, 8, 8, 8, 8, 8, 8, 8, 8, 8, 8, 8, 8, 8, 8, 8, 8, 8, 8, 8, 8, 8, 8, 8, 8, 8, 8, 8, 8, 8, 8, 8, 8, 8, 8, 8, 8, 8, 8, 8, 8, 8, 8, 8, 8, 8, 8, 8, 8, 8, 8, 8, 8, 8, 8, 8, 8, 8, 8, 8, 8, 8]) (iwr .u8 (ishr .u64 s9.1 8))) (
    some (iadd .i64 (iadd .i64 s9.2 8) (iwr .i64 (sat (ByteArray.mk #[0, 1, 2, 2, 3, 3, 3, 3, 4, 4, 4, 4, 4, 4, 4, 4, 5, 5, 5, 5, 5, 5, 5, 5, 5, 5, 5, 5, 5, 5, 5, 5, 6, 6, 6, 6, 6, 6, 6, 6, 6, 6, 6, 6, 6, 6, 6, 6, 6, 6, 6, 6, 6, 6, 6, 6, 6, 6, 6, 6, 6, 6, 6, 6, 7, 7, 7, 7, 7, 7, 7, 7, 7, 7, 7, 7, 7, 7, 7, 7, 7, 7, 7, 7, 7, 7, 7, 7, 7, 7, 7, 7, 7, 7, 7, 7, 7, 7, 7, 7, 7, 7, 7, 7, 7, 7, 7, 7, 7, 7, 7, 7, 7, 7, 7, 7, 7, 7, 7, 7, 7, 7, 7, 7, 7, 7, 7, 7, 8, 8, 8, 8, 8, 8, 8, 8, 8, 8, 8, 8, 8, 8, 8, 8, 8, 8, 8, 8, 8, 8, 8, 8, 8, 8, 8, 8, 8, 8, 8, 8, 8, 8, 8, 8, 8, 8, 8, 8, 8, 8, 8, 8, 8, 8, 8, 8, 8, 8, 8, 8, 8, 8, 8, 8, 8, 8, 8, 8, 8, 8, 8, 8, 8, 8, 8, 8, 8, 8, 8, 8, 8, 8, 8, 8, 8, 8, 8, 8, 8, 8, 8, 8, 8, 8, 8, 8, 8, 8, 8, 8, 8, 8, 8, 8, 8, 8, 8, 8, 8, 8, 8, 8, 8, 8, 8, 8, 8, 8, 8, 8, 8, 8, 8, 8, 8, 8, 8, 8, 8, 8, 8, 8, 8, 8, 8, 8]) (iwr .u8 (ishr .u64 s9.1 8))))))
  else
    gd (inS (ByteArray.mk #[0, 1, 2, 2, 3, 3, 3, 3, 4, 4, 4, 4, 4, 4, 4, 4, 5, 5, 5, 5, 5, 5, 5, 5, 5, 5, 5, 5, 5, 5, 5, 5, 6, 6, 6, 6, 6, 6, 6, 6, 6, 6, 6, 6, 6, 6, 6, 6, 6, 6, 6, 6, 6, 6, 6, 6, 6, 6, 6, 6, 6, 6, 6, 6, 7, 7, 7, 7, 7, 7, 7, 7, 7, 7, 7, 7, 7, 7, 7, 7, 7, 7, 7, 7, 7, 7, 7, 7, 7, 7, 7, 7, 7, 7, 7, 7, 7, 7, 7, 7, 7, 7, 7, 7, 7, 7, 7, 7, 7, 7, 7, 7, 7, 7, 7, 7, 7, 7, 7, 7, 7, 7, 7, 7, 7, 7, 7, 7, 8, 8, 8, 8, 8, 8, 8, 8, 8, 8, 8, 8, 8, 8, 8, 8, 8, 8, 8, 8, 8, 8, 8, 8, 8, 8, 8, 8, 8, 8, 8, 8, 8, 8, 8, 8, 8, 8, 8, 8, 8, 8, 8, 8, 8, 8, 8, 8, 8, 8, 8, 8, 8, 8, 8, 8, 8, 8, 8, 8, 8, 8, 8, 8, 8, 8, 8, 8, 8, 8, 8, 8, 8, 8, 8, 8, 8, 8, 8, 8, 8, 8, 8, 8, 8, 8, 8, 8, 8, 8, 8, 8, 8, 8, 8, 8, 8, 8, 8, 8, 8, 8, 8, 8, 8, 8, 8, 8, 8, 8, 8, 8, 8, 8, 8, 8, 8, 8, 8, 8, 8, 8, 8, 8, 8, 8, 8, 8]) (iwr .u8 s9.1)) (
    some (iadd .i64 s9.2 (iwr .i64 (sat (ByteArray.mk #[0, 1, 2, 2, 3, 3, 3, 3, 4, 4, 4, 4, 4, 4, 4, 4, 5, 5, 5, 5, 5, 5, 5, 5, 5, 5, 5, 5, 5, 5, 5, 5, 6, 6, 6, 6, 6, 6, 6, 6, 6, 6, 6, 6, 6, 6, 6, 6, 6, 6, 6, 6, 6, 6, 6, 6, 6, 6, 6, 6, 6, 6, 6, 6, 7, 7, 7, 7, 7, 7, 7, 7, 7, 7, 7, 7, 7, 7, 7, 7, 7, 7, 7, 7, 7, 7, 7, 7, 7, 7, 7, 7, 7, 7, 7, 7, 7, 7, 7, 7, 7, 7, 7, 7, 7, 7, 7, 7, 7, 7, 7, 7, 7, 7, 7, 7, 7, 7, 7, 7, 7, 7, 7, 7, 7, 7, 7, 7, 8, 8, 8, 8, 8, 8, 8, 8, 8, 8, 8, 8, 8, 8, 8, 8, 8, 8, 8, 8, 8, 8, 8, 8, 8, 8, 8, 8, 8, 8, 8, 8, 8, 8, 8, 8, 8, 8, 8, 8, 8, 8, 8, 8, 8, 8, 8, 8, 8, 8, 8, 8, 8, 8, 8, 8, 8, 8, 8, 8, 8, 8, 8, 8, 8, 8, 8, 8, 8, 8, 8, 8, 8, 8, 8, 8, 8, 8, 8, 8, 8, 8, 8, 8, 8, 8, 8, 8, 8, 8, 8, 8, 8, 8, 8, 8, 8, 8, 8, 8, 8, 8, 8, 8, 8, 8, 8, 8, 8, 8, 8, 8, 8, 8, 8, 8, 8, 8, 8, 8, 8, 8, 8, 8, 8, 8, 8, 8]) (iwr .u8 s9.1)))))
theorem F_math_bits_Len64_w {fu : Nat} {H : AH}  {x0 : Int} {r : (Int)}  (hF : F_math_bits_Len64 fu x0 = some r) :
    ACallT Try.prog 131 [(Value.int .u64 x0)] H (fun u G => AgB (Fr H) H G ∧ u = (Value.int .i64 r) ∧ Sep G (Fr H) []) := by
  refine ACallT.of_body (nt := 25) (rs := [.tmp 2]) Try.func131 rfl rfl rfl rfl ?_
  have A0 : AgB (Fr H) H H := .refl _ _
  have S0 : Sep H (Fr H) [] := .nil
  have hB := Fr.up H
  unfold F_math_bits_Len64 at hF
  refine DWp.seq ?_
  refine DWp.region fun K hK => ?_
  simp [-aBin', -aBin, -aBinI, -aUn, -aNil, -flatV, n_fn, b_add, b_sub, b_mul, b_lt, b_le, b_gt, b_ge, b_eq, b_ne, u_not]
  apply hK
  clear hK K
  simp only [andThen, leaves]
  obtain ⟨s1, hL2, hF⟩ := bd_some hF
  refine DWp.seq (DWp.join (fun env G => Sep G (Fr H) [] ∧ AgB (Fr H) H G ∧ env 0 = some (Value.int .u64 s1.1) ∧ env 2 = some (Value.int .i64 s1.2)) ?_ ?_)
  ·
    refine DWp.seq ?_
    refine DWp.region fun K hK => ?_
    simp [-aBin', -aBin, -aBinI, -aUn, -aNil, -flatV, n_fn, b_add, b_sub, b_mul, b_lt, b_le, b_gt, b_ge, b_eq, b_ne, u_not]
    apply hK
    clear hK K
    simp only [andThen, leaves]
    refine DWp.cond' (t := (ile 4294967296 x0)) (by simp []) (fun hb4 => ?_) (fun hb4 => ?_)
    · replace hL2 := cd_t hb4 hL2
      refine DWp.seq ?_
      have g5 : ¬ ((32 : Int) < 0) := by decide
      refine DWp.region fun K hK => ?_
      simp [-aBin', -aBin, -aBinI, -aUn, -aNil, -flatV, n_fn, b_add, b_sub, b_mul, b_lt, b_le, b_gt, b_ge, b_eq, b_ne, u_not, b_shr g5]
      apply hK
      clear hK K
      simp only [andThen, leaves]
      refine DWp.region fun K hK => ?_
      simp [-aBin', -aBin, -aBinI, -aUn, -aNil, -flatV, n_fn, b_add, b_sub, b_mul, b_lt, b_le, b_gt, b_ge, b_eq, b_ne, u_not]
      apply hK
      clear hK K
      simp only [andThen, leaves]
      have S6 := S0.pick [] (by decide) rfl
      obtain rfl := Option.some.inj hL2
      exact ⟨S6, A0, by simp [], by simp []⟩
    · replace hL2 := cd_f hb4 hL2
      refine DWp.skip ?_
      simp only [andThen, leaves]
      have S7 := S0.pick [] (by decide) rfl
      obtain rfl := Option.some.inj hL2
      exact ⟨S7, A0, by simp [], by simp []⟩
  · rintro env Gj8 ⟨Sj8, Aj8, ej8_0, ej8_2⟩
    obtain ⟨s9, hL10, hF⟩ := bd_some hF
    refine DWp.seq (DWp.join (fun env G => Sep G (Fr H) [] ∧ AgB (Fr H) H G ∧ env 0 = some (Value.int .u64 s9.1) ∧ env 2 = some (Value.int .i64 s9.2)) ?_ ?_)
    ·
      refine DWp.seq ?_
      refine DWp.region fun K hK => ?_
      simp [-aBin', -aBin, -aBinI, -aUn, -aNil, -flatV, n_fn, b_add, b_sub, b_mul, b_lt, b_le, b_gt, b_ge, b_eq, b_ne, u_not, ej8_0, ej8_2]
      apply hK
      clear hK K
      simp only [andThen, leaves]
      refine DWp.cond' (t := (ile 65536 s1.1)) (by simp [ej8_0, ej8_2]) (fun hb12 => ?_) (fun hb12 => ?_)
      · replace hL10 := cd_t hb12 hL10
        refine DWp.seq ?_
        have g13 : ¬ ((16 : Int) < 0) := by decide
        refine DWp.region fun K hK => ?_
        simp [-aBin', -aBin, -aBinI, -aUn, -aNil, -flatV, n_fn, b_add, b_sub, b_mul, b_lt, b_le, b_gt, b_ge, b_eq, b_ne, u_not, ej8_0, ej8_2, b_shr g13]
        apply hK
        clear hK K
        simp only [andThen, leaves]
        refine DWp.region fun K hK => ?_
        simp [-aBin', -aBin, -aBinI, -aUn, -aNil, -flatV, n_fn, b_add, b_sub, b_mul, b_lt, b_le, b_gt, b_ge, b_eq, b_ne, u_not, ej8_0, ej8_2]
        apply hK
        clear hK K
        simp only [andThen, leaves]
        have S14 := Sj8.pick [] (by decide) rfl
        obtain rfl := Option.some.inj hL10
        exact ⟨S14, Aj8, by simp [ej8_0, ej8_2], by simp [ej8_0, ej8_2]⟩
      · replace hL10 := cd_f hb12 hL10
        refine DWp.skip ?_
        simp only [andThen, leaves]
        have S15 := Sj8.pick [] (by decide) rfl
        obtain rfl := Option.some.inj hL10
        exact ⟨S15, Aj8, by simp [ej8_0, ej8_2], by simp [ej8_0, ej8_2]⟩
    · rintro env Gj16 ⟨Sj16, Aj16, ej16_0, ej16_2⟩
      refine DWp.seq ?_
      refine DWp.seq ?_
      refine DWp.region fun K hK => ?_
      simp [-aBin', -aBin, -aBinI, -aUn, -aNil, -flatV, n_fn, b_add, b_sub, b_mul, b_lt, b_le, b_gt, b_ge, b_eq, b_ne, u_not, ej16_0, ej16_2]
      apply hK
      clear hK K
      simp only [andThen, leaves]
      refine DWp.cond' (t := (ile 256 s9.1)) (by simp [ej16_0, ej16_2]) (fun hb17 => ?_) (fun hb17 => ?_)
      · replace hF := cd_t hb17 hF
        refine DWp.seq ?_
        have g18 : ¬ ((8 : Int) < 0) := by decide
        refine DWp.region fun K hK => ?_
        simp [-aBin', -aBin, -aBinI, -aUn, -aNil, -flatV, n_fn, b_add, b_sub, b_mul, b_lt, b_le, b_gt, b_ge, b_eq, b_ne, u_not, ej16_0, ej16_2, b_shr g18]
        apply hK
        clear hK K
        simp only [andThen, leaves]
        refine DWp.region fun K hK => ?_
        simp [-aBin', -aBin, -aBinI, -aUn, -aNil, -flatV, n_fn, b_add, b_sub, b_mul, b_lt, b_le, b_gt, b_ge, b_eq, b_ne, u_not, ej16_0, ej16_2]
        apply hK
        clear hK K
        simp only [andThen, leaves]
        refine DWp.seq ?_
        obtain ⟨g19, hF⟩ := gd_some hF
        have q20 := strIdx (P := Try.prog) (kk := .u8) un_9 g19
        refine DWp.region fun K hK => ?_
        simp [-aBin', -aBin, -aBinI, -aUn, -aNil, -flatV, n_fn, b_add, b_sub, b_mul, b_lt, b_le, b_gt, b_ge, b_eq, b_ne, u_not, ej16_0, ej16_2, c_int un_108 un_5, q20, c_int un_5 un_3]
        apply hK
        clear hK K
        simp only [andThen, leaves]
        refine DWp.ret ?_
        obtain rfl := Option.some.inj hF
        exact ⟨by simp, [(Value.int .i64 (iadd .i64 (iadd .i64 s9.2 8) (iwr .i64 (sat (ByteArray.mk #[0, 1, 2, 2, 3, 3, 3, 3, 4, 4, 4, 4, 4, 4, 4, 4, 5, 5, 5, 5, 5, 5, 5, 5, 5, 5, 5, 5, 5, 5, 5, 5, 6, 6, 6, 6, 6, 6, 6, 6, 6, 6, 6, 6, 6, 6, 6, 6, 6, 6, 6, 6, 6, 6, 6, 6, 6, 6, 6, 6, 6, 6, 6, 6, 7, 7, 7, 7, 7, 7, 7, 7, 7, 7, 7, 7, 7, 7, 7, 7, 7, 7, 7, 7, 7, 7, 7, 7, 7, 7, 7, 7, 7, 7, 7, 7, 7, 7, 7, 7, 7, 7, 7, 7, 7, 7, 7, 7, 7, 7, 7, 7, 7, 7, 7, 7, 7, 7, 7, 7, 7, 7, 7, 7, 7, 7, 7, 7, 8, 8, 8, 8, 8, 8, 8, 8, 8, 8, 8, 8, 8, 8, 8, 8, 8, 8, 8, 8, 8, 8, 8, 8, 8, 8, 8, 8, 8, 8, 8, 8, 8, 8, 8, 8, 8, 8, 8, 8, 8, 8, 8, 8, 8, 8, 8, 8, 8, 8, 8, 8, 8, 8, 8, 8, 8, 8, 8, 8, 8, 8, 8, 8, 8, 8, 8, 8, 8, 8, 8, 8, 8, 8, 8, 8, 8, 8, 8, 8, 8, 8, 8, 8, 8, 8, 8, 8, 8, 8, 8, 8, 8, 8, 8, 8, 8, 8, 8, 8, 8, 8, 8, 8, 8, 8, 8, 8, 8, 8, 8, 8, 8, 8, 8, 8, 8, 8, 8, 8, 8, 8, 8, 8, 8, 8, 8, 8]) (iwr .u8 (ishr .u64 s9.1 8))))))], by simp [ej16_0, ej16_2], Aj16, rfl, Sj16.pick [] (by decide) rfl⟩
      · replace hF := cd_f hb17 hF
        refine DWp.skip ?_
        simp only [andThen, leaves]
        refine DWp.seq ?_
        obtain ⟨g21, hF⟩ := gd_some hF
        have q22 := strIdx (P := Try.prog) (kk := .u8) un_9 g21
        refine DWp.region fun K hK => ?_
        simp [-aBin', -aBin, -aBinI, -aUn, -aNil, -flatV, n_fn, b_add, b_sub, b_mul, b_lt, b_le, b_gt, b_ge, b_eq, b_ne, u_not, ej16_0, ej16_2, c_int un_108 un_5, q22, c_int un_5 un_3]
        apply hK
        clear hK K
        simp only [andThen, leaves]
        refine DWp.ret ?_
        obtain rfl := Option.some.inj hF
        exact ⟨by simp, [(Value.int .i64 (iadd .i64 s9.2 (iwr .i64 (sat (ByteArray.mk #[0, 1, 2, 2, 3, 3, 3, 3, 4, 4, 4, 4, 4, 4, 4, 4, 5, 5, 5, 5, 5, 5, 5, 5, 5, 5, 5, 5, 5, 5, 5, 5, 6, 6, 6, 6, 6, 6, 6, 6, 6, 6, 6, 6, 6, 6, 6, 6, 6, 6, 6, 6, 6, 6, 6, 6, 6, 6, 6, 6, 6, 6, 6, 6, 7, 7, 7, 7, 7, 7, 7, 7, 7, 7, 7, 7, 7, 7, 7, 7, 7, 7, 7, 7, 7, 7, 7, 7, 7, 7, 7, 7, 7, 7, 7, 7, 7, 7, 7, 7, 7, 7, 7, 7, 7, 7, 7, 7, 7, 7, 7, 7, 7, 7, 7, 7, 7, 7, 7, 7, 7, 7, 7, 7, 7, 7, 7, 7, 8, 8, 8, 8, 8, 8, 8, 8, 8, 8, 8, 8, 8, 8, 8, 8, 8, 8, 8, 8, 8, 8, 8, 8, 8, 8, 8, 8, 8, 8, 8, 8, 8, 8, 8, 8, 8, 8, 8, 8, 8, 8, 8, 8, 8, 8, 8, 8, 8, 8, 8, 8, 8, 8, 8, 8, 8, 8, 8, 8, 8, 8, 8, 8, 8, 8, 8, 8, 8, 8, 8, 8, 8, 8, 8, 8, 8, 8, 8, 8, 8, 8, 8, 8, 8, 8, 8, 8, 8, 8, 8, 8, 8, 8, 8, 8, 8, 8, 8, 8, 8, 8, 8, 8, 8, 8, 8, 8, 8, 8, 8, 8, 8, 8, 8, 8, 8, 8, 8, 8, 8, 8, 8, 8, 8, 8, 8, 8]) (iwr .u8 s9.1)))))], by simp [ej16_0, ej16_2], Aj16, rfl, Sj16.pick [] (by decide) rfl⟩
def F_math_bits_Len (fu : Nat) (x0 : Int) : Option (Int) :=
  bd (F_math_bits_Len64 fu x0) fun r1 =>
  some r1
theorem F_math_bits_Len_w {fu : Nat} {H : AH}  {x0 : Int} {r : (Int)}  (hF : F_math_bits_Len fu x0 = some r) :
    ACallT Try.prog 117 [(Value.int .u64 x0)] H (fun u G => AgB (Fr H) H G ∧ u = (Value.int .i64 r) ∧ Sep G (Fr H) []) := by
  refine ACallT.of_body (nt := 8) (rs := [.tmp 2]) Try.func117 rfl rfl rfl rfl ?_
  have A0 : AgB (Fr H) H H := .refl _ _
  have S0 : Sep H (Fr H) [] := .nil
  have hB := Fr.up H
  unfold F_math_bits_Len at hF
  refine DWp.seq ?_
  refine DWp.region fun K hK => ?_
  simp [-aBin', -aBin, -aBinI, -aUn, -aNil, -flatV, n_fn, b_add, b_sub, b_mul, b_lt, b_le, b_gt, b_ge, b_eq, b_ne, u_not]
  apply hK
  clear hK K
  simp only [andThen, leaves]
  refine DWp.seq ?_
  refine DWp.cf (by simp [bnot]) ?_
  refine DWp.skip ?_
  simp only [andThen, leaves]
  refine DWp.seq ?_
  obtain ⟨r1, hc1, hF⟩ := bd_some hF
  refine DWp.region fun K hK => ?_
  simp [-aBin', -aBin, -aBinI, -aUn, -aNil, -flatV, n_fn, b_add, b_sub, b_mul, b_lt, b_le, b_gt, b_ge, b_eq, b_ne, u_not]
  refine CallD.t (F_math_bits_Len64_w (fu := fu)  hc1) ?_
  rintro _ G3 ⟨a6, rfl, S7⟩
  have A5 := A0.ext (hB.le A0.1) a6.agree
  have S4 : Sep G3 (Fr H) [] := S0.app a6.agree S7 (fun _ h => h) (hB.le A0.1)
  simp [-aBin', -aBin, -aBinI, -aUn, -aNil, -flatV, n_fn, b_add, b_sub, b_mul, b_lt, b_le, b_gt, b_ge, b_eq, b_ne, u_not, a6.pre]
  apply hK
  clear hK K
  simp only [andThen, leaves]
  refine DWp.ret ?_
  obtain rfl := Option.some.inj hF
  exact ⟨by simp, [(Value.int .i64 r1)], by simp [], A5, rfl, S4.pick [] (by decide) rfl⟩
def F_slices_insertionSortCmpFunc_2_int_L2 (fu : Nat) (k2_0 : Int) (k2_1 : Int) (k2_2 : (Int → Int → Int → Int → Option (Int))) (k2_3 : Int) : Nat → List (Int × Int) → Int → Option (List (Int × Int) × Int)
  | 0, _, _ => none
  | n + 1, l2_0, y2_9 =>
    bd (
      bif (ilt k2_0 y2_9) then
        gd (inL l2_0 y2_9) (
        gd (inL l2_0 (isub .i64 y2_9 1)) (
        bd (k2_2 ((gat i2 l2_0 y2_9).1) ((gat i2 l2_0 y2_9).2) ((gat i2 l2_0 (isub .i64 y2_9 1)).1) ((gat i2 l2_0 (isub .i64 y2_9 1)).2)) fun r1 =>
        some (ilt r1 0)))
      else
        some false) fun s8 =>
    bif s8 then
      gd (inL l2_0 (isub .i64 y2_9 1)) (
      gd (inL l2_0 y2_9) (
      gd (inL l2_0 y2_9) (
      gd (inL (lset l2_0 y2_9 ((gat i2 l2_0 (isub .i64 y2_9 1)).1, (gat i2 l2_0 (isub .i64 y2_9 1)).2)) (isub .i64 y2_9 1)) (
      F_slices_insertionSortCmpFunc_2_int_L2 fu k2_0 k2_1 k2_2 k2_3 n (lset (lset l2_0 y2_9 ((gat i2 l2_0 (isub .i64 y2_9 1)).1, (gat i2 l2_0 (isub .i64 y2_9 1)).2)) (isub .i64 y2_9 1) ((gat i2 l2_0 y2_9).1, (gat i2 l2_0 y2_9).2)) (isub .i64 y2_9 1)))))
    else
      some (l2_0, y2_9)
def F_slices_insertionSortCmpFunc_2_int_L1 (fu : Nat) (k1_0 : Int) (k1_1 : Int) (k1_2 : (Int → Int → Int → Int → Option (Int))) : Nat → List (Int × Int) → Int → Option (List (Int × Int) × Int)
  | 0, _, _ => none
  | n + 1, l1_0, y1_8 =>
    bif (ilt y1_8 k1_1) then
      bd (F_slices_insertionSortCmpFunc_2_int_L2 fu k1_0 k1_1 k1_2 y1_8 fu l1_0 y1_8) fun s2 =>
      F_slices_insertionSortCmpFunc_2_int_L1 fu k1_0 k1_1 k1_2 n s2.1 (iadd .i64 y1_8 1)
    else
      some (l1_0, y1_8)
def F_slices_insertionSortCmpFunc_2_int (fu : Nat) (x0 : List (Int × Int)) (x1 : Int) (x2 : Int) (x3 : Int → Int → Int → Int → Option (Int)) : Option (List (Int × Int)) :=
  bd (F_slices_insertionSortCmpFunc_2_int_L1 fu x1 x2 x3 fu x0 (iadd .i64 x1 1)) fun s1 =>
  some s1.1
theorem F_slices_insertionSortCmpFunc_2_int_w {fu : Nat} {H : AH} {B : Nat → Prop} {v0 : Value} {f3 : FuncId} {c3 : List Value} {x0 : List (Int × Int)} {x1 : Int} {x2 : Int} {x3 : Int → Int → Int → Int → Option (Int)} {r : (List (Int × Int))} (hB : Up B H.length) (S0 : Sep H B [flatI v0 62 x0]) (hx3 : ∀ (G : AH), AgB B H G → ∀ (y0_0 : Int) (y0_1 : Int) (y1_0 : Int) (y1_1 : Int) (q : (Int)), x3 y0_0 y0_1 y1_0 y1_1 = some q → ACallT Try.prog f3 ([(Value.agg #[(Value.int .i64 y0_0), (Value.int .i64 y0_1)]), (Value.agg #[(Value.int .i64 y1_0), (Value.int .i64 y1_1)])] ++ c3) G (fun u G' => AgB (Fr G) G G' ∧ u = (Value.int .i64 q) ∧ Sep G' (Fr G) [])) (hF : F_slices_insertionSortCmpFunc_2_int fu x0 x1 x2 x3 = some r) :
    ACallT Try.prog 122 [v0, (Value.int .i64 x1), (Value.int .i64 x2), (Value.func (.func f3) #[] c3.toArray)] H (fun u G => AgB B H G ∧ u = (Value.tuple #[]) ∧ Sep G B [flatI v0 62 r]) := by
  refine ACallT.of_body (nt := 53) (rs := []) Try.func122 rfl rfl rfl rfl ?_
  have A0 : AgB B H H := .refl _ _
  unfold F_slices_insertionSortCmpFunc_2_int at hF
  refine DWp.seq ?_
  refine DWp.region fun K hK => ?_
  simp [-aBin', -aBin, -aBinI, -aUn, -aNil, -flatV, n_fn, b_add, b_sub, b_mul, b_lt, b_le, b_gt, b_ge, b_eq, b_ne, u_not]
  apply hK
  clear hK K
  simp only [andThen, leaves]
  refine DWp.block ?_
  obtain ⟨s1, hL2, hF⟩ := bd_some hF
  have S3 := S0.pick [0] (by decide) rfl
  refine DWp.loop (fun n env G => ∃ l1_0 : List (Int × Int), ∃ y1_8 : Int, F_slices_insertionSortCmpFunc_2_int_L1 fu x1 x2 x3 n l1_0 y1_8 = some s1 ∧ Sep G B [flatI v0 62 l1_0] ∧ AgB B H G ∧ env 0 = some v0 ∧ env 1 = some (Value.int .i64 x1) ∧ env 2 = some (Value.int .i64 x2) ∧ env 3 = some (Value.func (.func f3) #[] c3.toArray) ∧ env 8 = some (Value.int .i64 y1_8)) fu ⟨x0, (iadd .i64 x1 1), hL2, S3, A0, by simp [], by simp [], by simp [], by simp [], by simp []⟩ ?_
  rintro n1 env1 G1_ ⟨l1_0, y1_8, hL2, S1_, A1_, e1_0, e1_1, e1_2, e1_3, e1_8⟩
  cases n1 with
  | zero => cases hL2
  | succ n1 =>
    simp only [F_slices_insertionSortCmpFunc_2_int_L1] at hL2
    refine DWp.seq ?_
    refine DWp.seq ?_
    refine DWp.region fun K hK => ?_
    simp [-aBin', -aBin, -aBinI, -aUn, -aNil, -flatV, n_fn, b_add, b_sub, b_mul, b_lt, b_le, b_gt, b_ge, b_eq, b_ne, u_not, e1_0, e1_1, e1_2, e1_3, e1_8]
    apply hK
    clear hK K
    simp only [andThen, leaves]
    refine DWp.cond' (t := (ilt y1_8 x2)) (by simp [e1_0, e1_1, e1_2, e1_3, e1_8]) (fun hb4 => ?_) (fun hb4 => ?_)
    · replace hL2 := cd_t hb4 hL2
      refine DWp.skip ?_
      simp only [andThen, leaves]
      refine DWp.seq ?_
      refine DWp.block ?_
      refine DWp.seq ?_
      refine DWp.region fun K hK => ?_
      simp [-aBin', -aBin, -aBinI, -aUn, -aNil, -flatV, n_fn, b_add, b_sub, b_mul, b_lt, b_le, b_gt, b_ge, b_eq, b_ne, u_not, e1_0, e1_1, e1_2, e1_3, e1_8]
      apply hK
      clear hK K
      simp only [andThen, leaves]
      refine DWp.block ?_
      obtain ⟨s5, hL6, hL2⟩ := bd_some hL2
      have S7 := S1_.pick [0] (by decide) rfl
      refine DWp.loop (fun n env G => ∃ l2_0 : List (Int × Int), ∃ y2_9 : Int, F_slices_insertionSortCmpFunc_2_int_L2 fu x1 x2 x3 y1_8 n l2_0 y2_9 = some s5 ∧ Sep G B [flatI v0 62 l2_0] ∧ AgB B H G ∧ env 0 = some v0 ∧ env 1 = some (Value.int .i64 x1) ∧ env 2 = some (Value.int .i64 x2) ∧ env 3 = some (Value.func (.func f3) #[] c3.toArray) ∧ env 8 = some (Value.int .i64 y1_8) ∧ env 9 = some (Value.int .i64 y2_9)) fu ⟨l1_0, y1_8, hL6, S7, A1_, by simp [e1_0, e1_1, e1_2, e1_3, e1_8], by simp [e1_0, e1_1, e1_2, e1_3, e1_8], by simp [e1_0, e1_1, e1_2, e1_3, e1_8], by simp [e1_0, e1_1, e1_2, e1_3, e1_8], by simp [e1_0, e1_1, e1_2, e1_3, e1_8], by simp [e1_0, e1_1, e1_2, e1_3, e1_8]⟩ ?_
      rintro n2 env2 G2_ ⟨l2_0, y2_9, hL6, S2_, A2_, e2_0, e2_1, e2_2, e2_3, e2_8, e2_9⟩
      cases n2 with
      | zero => cases hL6
      | succ n2 =>
        simp only [F_slices_insertionSortCmpFunc_2_int_L2] at hL6
        refine DWp.seq ?_
        obtain ⟨s8, hL9, hL6⟩ := bd_some hL6
        refine DWp.seq (DWp.join (fun env G => Sep G B [flatI v0 62 l2_0] ∧ AgB B H G ∧ env 0 = some v0 ∧ env 1 = some (Value.int .i64 x1) ∧ env 2 = some (Value.int .i64 x2) ∧ env 3 = some (Value.func (.func f3) #[] c3.toArray) ∧ env 8 = some (Value.int .i64 y1_8) ∧ env 9 = some (Value.int .i64 y2_9) ∧ env 34 = some (Value.bool s8)) ?_ ?_)
        ·
          rcases Bool.eq_false_or_eq_true (ilt x1 y2_9) with hb11 | hb11
          · replace hL9 := cd_t hb11 hL9
            obtain ⟨g12, hL9⟩ := gd_some hL9
            have q13 := (S2_.slI (k := 0) rfl).idxG (P := Try.prog) (kk := .i64) el_58 sz_62 g12
            have q14 := (S2_.slI (k := 0) rfl).loadG (P := Try.prog) sz_62 ag_62 g12
            obtain ⟨g15, hL9⟩ := gd_some hL9
            have q16 := (S2_.slI (k := 0) rfl).idxG (P := Try.prog) (kk := .i64) el_58 sz_62 g15
            have q17 := (S2_.slI (k := 0) rfl).loadG (P := Try.prog) sz_62 ag_62 g15
            obtain ⟨r1, hc18, hL9⟩ := bd_some hL9
            refine DWp.drawn (B := [0, 0, 3, 7, 15, 15, 15, 111, 239, 15, 15, 1039, 3599, 7695, 16383, 32767, 65535]) 17 mixed (by kernel_rfl) (by decide) fun K hK => ?_
            simp [-aBin', -aBin, -aBinI, -aUn, -aNil, -flatV, n_fn, b_add, b_sub, b_mul, b_lt, b_le, b_gt, b_ge, b_eq, b_ne, u_not, e2_0, e2_1, e2_2, e2_3, e2_8, e2_9, hb11, q13, q14, q16, q17]
            refine CallD.t (hx3 _ A2_ ((gat i2 l2_0 y2_9).1) ((gat i2 l2_0 y2_9).2) ((gat i2 l2_0 (isub .i64 y2_9 1)).1) ((gat i2 l2_0 (isub .i64 y2_9 1)).2) _  hc18) ?_
            rintro _ G19 ⟨a22, rfl, S23⟩
            have A21 := A2_.ext (hB.le A2_.1) a22.agree
            have S20 : Sep G19 B [flatI v0 62 l2_0] := S2_.agree a22.agree
            simp [-aBin', -aBin, -aBinI, -aUn, -aNil, -flatV, n_fn, b_add, b_sub, b_mul, b_lt, b_le, b_gt, b_ge, b_eq, b_ne, u_not, e2_0, e2_1, e2_2, e2_3, e2_8, e2_9, hb11, q13, q14, q16, q17, a22.pre]
            apply hK
            clear hK K
            simp only [andThen, leaves]
            have S24 := S20.pick [0] (by decide) rfl
            obtain rfl := Option.some.inj hL9
            exact ⟨S24, A21, by simp [e2_0, e2_1, e2_2, e2_3, e2_8, e2_9], by simp [e2_0, e2_1, e2_2, e2_3, e2_8, e2_9], by simp [e2_0, e2_1, e2_2, e2_3, e2_8, e2_9], by simp [e2_0, e2_1, e2_2, e2_3, e2_8, e2_9], by simp [e2_0, e2_1, e2_2, e2_3, e2_8, e2_9], by simp [e2_0, e2_1, e2_2, e2_3, e2_8, e2_9], by simp [e2_0, e2_1, e2_2, e2_3, e2_8, e2_9]⟩
          · replace hL9 := cd_f hb11 hL9
            refine DWp.drawn (B := [0, 0, 3, 7, 15, 15, 15, 111, 239, 15, 15, 1039, 3599, 7695, 16383, 32767, 65535]) 17 mixed (by kernel_rfl) (by decide) fun K hK => ?_
            simp [-aBin', -aBin, -aBinI, -aUn, -aNil, -flatV, n_fn, b_add, b_sub, b_mul, b_lt, b_le, b_gt, b_ge, b_eq, b_ne, u_not, e2_0, e2_1, e2_2, e2_3, e2_8, e2_9, hb11]
            apply hK
            clear hK K
            simp only [andThen, leaves]
            have S25 := S2_.pick [0] (by decide) rfl
            obtain rfl := Option.some.inj hL9
            exact ⟨S25, A2_, by simp [e2_0, e2_1, e2_2, e2_3, e2_8, e2_9], by simp [e2_0, e2_1, e2_2, e2_3, e2_8, e2_9], by simp [e2_0, e2_1, e2_2, e2_3, e2_8, e2_9], by simp [e2_0, e2_1, e2_2, e2_3, e2_8, e2_9], by simp [e2_0, e2_1, e2_2, e2_3, e2_8, e2_9], by simp [e2_0, e2_1, e2_2, e2_3, e2_8, e2_9], by simp [e2_0, e2_1, e2_2, e2_3, e2_8, e2_9]⟩
        · rintro env Gj26 ⟨Sj26, Aj26, ej26_0, ej26_1, ej26_2, ej26_3, ej26_8, ej26_9, ej26_34⟩
          refine DWp.cond' (t := s8) (by simp [ej26_0, ej26_1, ej26_2, ej26_3, ej26_8, ej26_9, ej26_34]) (fun hb27 => ?_) (fun hb27 => ?_)
          · replace hL6 := cd_t hb27 hL6
            refine DWp.skip ?_
            simp only [andThen, leaves]
            refine DWp.seq ?_
            refine DWp.block ?_
            obtain ⟨g28, hL6⟩ := gd_some hL6
            have q29 := (Sj26.slI (k := 0) rfl).idxG (P := Try.prog) (kk := .i64) el_58 sz_62 g28
            have q30 := (Sj26.slI (k := 0) rfl).loadG (P := Try.prog) sz_62 ag_62 g28
            obtain ⟨g31, hL6⟩ := gd_some hL6
            have q32 := (Sj26.slI (k := 0) rfl).idxG (P := Try.prog) (kk := .i64) el_58 sz_62 g31
            have q33 := (Sj26.slI (k := 0) rfl).loadG (P := Try.prog) sz_62 ag_62 g31
            obtain ⟨g34, hL6⟩ := gd_some hL6
            have q35 := (Sj26.slI (k := 0) rfl).idxG (P := Try.prog) (kk := .i64) el_58 sz_62 g34
            obtain ⟨G36, q37, S38, a40⟩ := Sj26.putI (P := Try.prog) (k := 0) (a := (gat i2 l2_0 (isub .i64 y2_9 1)).1) (b := (gat i2 l2_0 (isub .i64 y2_9 1)).2) rfl (hB.le Aj26.1) sz_62 g34
            have A39 := Aj26.trans a40
            replace S38 : Sep G36 B [flatI v0 62 (lset l2_0 y2_9 ((gat i2 l2_0 (isub .i64 y2_9 1)).1, (gat i2 l2_0 (isub .i64 y2_9 1)).2))] := S38
            obtain ⟨g41, hL6⟩ := gd_some hL6
            have q42 := (S38.slI (k := 0) rfl).idxG (P := Try.prog) (kk := .i64) el_58 sz_62 g41
            obtain ⟨G43, q44, S45, a47⟩ := S38.putI (P := Try.prog) (k := 0) (a := (gat i2 l2_0 y2_9).1) (b := (gat i2 l2_0 y2_9).2) rfl (hB.le A39.1) sz_62 g41
            have A46 := A39.trans a47
            replace S45 : Sep G43 B [flatI v0 62 (lset (lset l2_0 y2_9 ((gat i2 l2_0 (isub .i64 y2_9 1)).1, (gat i2 l2_0 (isub .i64 y2_9 1)).2)) (isub .i64 y2_9 1) ((gat i2 l2_0 y2_9).1, (gat i2 l2_0 y2_9).2))] := S45
            refine DWp.drawn (B := [0, 0, 0, 0, 8, 0, 0, 64, 224, 480, 0, 0, 3072, 7168, 16355, 32739, 65535, 131071]) 15 mixed (by kernel_rfl) (by decide) fun K hK => ?_
            simp [-aBin', -aBin, -aBinI, -aUn, -aNil, -flatV, n_fn, b_add, b_sub, b_mul, b_lt, b_le, b_gt, b_ge, b_eq, b_ne, u_not, ej26_0, ej26_1, ej26_2, ej26_3, ej26_8, ej26_9, ej26_34, q29, q30, q32, q33, q35, q37, q42, q44]
            apply hK
            clear hK K
            simp only [andThen, leaves]
            refine DWp.region fun K hK => ?_
            simp [-aBin', -aBin, -aBinI, -aUn, -aNil, -flatV, n_fn, b_add, b_sub, b_mul, b_lt, b_le, b_gt, b_ge, b_eq, b_ne, u_not, ej26_0, ej26_1, ej26_2, ej26_3, ej26_8, ej26_9, ej26_34]
            apply hK
            clear hK K
            simp only [andThen, leaves]
            have S48 := S45.pick [0] (by decide) rfl
            exact ⟨n2, Nat.lt_succ_self _, (lset (lset l2_0 y2_9 ((gat i2 l2_0 (isub .i64 y2_9 1)).1, (gat i2 l2_0 (isub .i64 y2_9 1)).2)) (isub .i64 y2_9 1) ((gat i2 l2_0 y2_9).1, (gat i2 l2_0 y2_9).2)), (isub .i64 y2_9 1), hL6, S48, A46, by simp [ej26_0, ej26_1, ej26_2, ej26_3, ej26_8, ej26_9, ej26_34], by simp [ej26_0, ej26_1, ej26_2, ej26_3, ej26_8, ej26_9, ej26_34], by simp [ej26_0, ej26_1, ej26_2, ej26_3, ej26_8, ej26_9, ej26_34], by simp [ej26_0, ej26_1, ej26_2, ej26_3, ej26_8, ej26_9, ej26_34], by simp [ej26_0, ej26_1, ej26_2, ej26_3, ej26_8, ej26_9, ej26_34], by simp [ej26_0, ej26_1, ej26_2, ej26_3, ej26_8, ej26_9, ej26_34]⟩
          · replace hL6 := cd_f hb27 hL6
            refine DWp.exit ?_
            simp only [andThen, leaves, if_true, if_false, reduceIte, Nat.reduceEqDiff]
            obtain rfl := Option.some.inj hL6
            try dsimp only at hL2
            refine DWp.region fun K hK => ?_
            simp [-aBin', -aBin, -aBinI, -aUn, -aNil, -flatV, n_fn, b_add, b_sub, b_mul, b_lt, b_le, b_gt, b_ge, b_eq, b_ne, u_not, ej26_0, ej26_1, ej26_2, ej26_3, ej26_8, ej26_9, ej26_34]
            apply hK
            clear hK K
            simp only [andThen, leaves]
            have S49 := Sj26.pick [0] (by decide) rfl
            exact ⟨n1, Nat.lt_succ_self _, l2_0, (iadd .i64 y1_8 1), hL2, S49, Aj26, by simp [ej26_0, ej26_1, ej26_2, ej26_3, ej26_8, ej26_9, ej26_34], by simp [ej26_0, ej26_1, ej26_2, ej26_3, ej26_8, ej26_9, ej26_34], by simp [ej26_0, ej26_1, ej26_2, ej26_3, ej26_8, ej26_9, ej26_34], by simp [ej26_0, ej26_1, ej26_2, ej26_3, ej26_8, ej26_9, ej26_34], by simp [ej26_0, ej26_1, ej26_2, ej26_3, ej26_8, ej26_9, ej26_34]⟩
    · replace hL2 := cd_f hb4 hL2
      refine DWp.exit ?_
      simp only [andThen, leaves, if_true, if_false, reduceIte, Nat.reduceEqDiff]
      obtain rfl := Option.some.inj hL2
      try dsimp only at hF
      obtain rfl := Option.some.inj hF
      exact ⟨by simp, [], by simp [e1_0, e1_1, e1_2, e1_3, e1_8], A1_, rfl, S1_.pick [0] (by decide) rfl⟩
end Go.Proofs.Ytdghlhdpcmemjaa.AL

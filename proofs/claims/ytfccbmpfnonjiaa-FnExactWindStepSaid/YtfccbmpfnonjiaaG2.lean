/- The walks of functions, each with its Lean function: impl.sum, impl.areParts, impl.arcs, impl.Seaweed).groups, impl.Seaweed).index, impl.indexFor, impl.IndexOfThree, laws.FnExactIndexOfThree, spec.IndexOfTwo, impl.IndexOfTwo. No condition. -/
import Derived.Test.YtfccbmpfnonjiaaG1
import Derived.Test.YtfccbmpfnonjiaaGSort
import Derived.Test.YtfccbmpfnonjiaaAL31
import Derived.Test.YtfccbmpfnonjiaaProg
import Derived.KernelRfl
namespace Go.Proofs.Ytfccbmpfnonjiaa.AL
open Go Go.RowKit
set_option linter.unusedVariables false
set_option linter.unusedSimpArgs false
set_option maxRecDepth 4096
theorem ag_22 : aggT Try.prog 22 = some false := by kernel_rfl
theorem ag_26 : aggT Try.prog 26 = some true := by kernel_rfl
theorem ag_4 : aggT Try.prog 4 = some false := by kernel_rfl
theorem ei_22 : einfo Try.prog 22 = some ⟨1, 24, .slice none 0 0⟩ := by kernel_rfl
theorem ei_4 : einfo Try.prog 4 = some ⟨1, 1, .bool false⟩ := by kernel_rfl
theorem el_46 : elemT Try.prog 46 = some 22 := by kernel_rfl
theorem el_87 : elemT Try.prog 87 = some 4 := by kernel_rfl
theorem fa_26_0 : fldT Try.prog 26 0 = some 0 := by kernel_rfl
theorem fa_26_1 : fldT Try.prog 26 1 = some 1 := by kernel_rfl
theorem pl_26 : placeT Try.prog 26 = some (.agg #[.slice none 0 0, .slice none 0 0], fun i => [(0, 1), (1, 1)].toArray[i]?) := by kernel_rfl
theorem sz_22 : sizeT Try.prog 22 = some 1 := by kernel_rfl
theorem sz_26 : sizeT Try.prog 26 = some 2 := by kernel_rfl
theorem sz_4 : sizeT Try.prog 4 = some 1 := by kernel_rfl
theorem un_4 : Try.prog.underlying 4 = some .bool := by kernel_rfl
theorem bu_26 {a0 a1 : Value} (t0 : isTup a0 = false) (c0 : a0.cells = #[a0]) (t1 : isTup a1 = false) (c1 : a1.cells = #[a1]) : aBuild Try.prog 26 [(0, a0), (1, a1)] = some (.agg #[a0, a1]) := buildT2 pl_26 rfl rfl t0 c0 t1 c1
/-! loop.example/g01126/impl.sum -/
def F_impl_sum_L1 (fu : Nat) (k1_0 : List Int) (k1_1 : Int) : Nat → Int → Int → Option (Int × Int)
  | 0, _, _ => none
  | n + 1, y1_3, y1_8 =>
    bif (ilt y1_8 k1_1) then
      gd (inL k1_0 y1_8) (
      F_impl_sum_L1 fu k1_0 k1_1 n (iadd .i64 y1_3 (gat 0 k1_0 y1_8)) (iadd .i64 y1_8 1))
    else
      some (y1_3, y1_8)
def F_impl_sum (fu : Nat) (x0 : List Int) : Option (Int) :=
  bd (F_impl_sum_L1 fu x0 (llen x0) fu 0 0) fun s1 =>
  some s1.1
theorem F_impl_sum_w {fu : Nat} {H : AH} {v0 : Value} {x0 : List Int} {r : (Int)} (hx0 : Sl H v0 (ints x0)) (hF : F_impl_sum fu x0 = some r) :
    ACallT Try.prog 81 [v0] H (fun u G => AgB (Fr H) H G ∧ u = (Value.int .i64 r) ∧ Sep G (Fr H) []) := by
  refine ACallT.of_body (nt := 17) (rs := [.tmp 2]) Try.func81 rfl rfl rfl rfl ?_
  have A0 : AgB (Fr H) H H := .refl _ _
  have S0 : Sep H (Fr H) [] := .nil
  have hB := Fr.up H
  unfold F_impl_sum at hF
  refine DWp.seq ?_
  refine DWp.region fun K hK => ?_
  simp [-aBin', -aBin, -aBinI, -aUn, -aNil, -flatV, n_fn, b_add, b_sub, b_mul, b_lt, b_le, b_gt, b_ge, b_eq, b_ne, u_not]
  apply hK
  clear hK K
  simp only [andThen, leaves]
  refine DWp.seq ?_
  refine DWp.region fun K hK => ?_
  simp [-aBin', -aBin, -aBinI, -aUn, -aNil, -flatV, n_fn, b_add, b_sub, b_mul, b_lt, b_le, b_gt, b_ge, b_eq, b_ne, u_not]
  apply hK
  clear hK K
  simp only [andThen, leaves]
  refine DWp.seq ?_
  refine DWp.seq ?_
  have q1 := lenG (P := Try.prog) (hx0.agree A0.agree) el_22
  refine DWp.region fun K hK => ?_
  simp [-aBin', -aBin, -aBinI, -aUn, -aNil, -flatV, n_fn, b_add, b_sub, b_mul, b_lt, b_le, b_gt, b_ge, b_eq, b_ne, u_not, q1]
  apply hK
  clear hK K
  simp only [andThen, leaves]
  refine DWp.block ?_
  obtain ⟨s2, hL3, hF⟩ := bd_some hF
  have S4 := S0.pick [] (by decide) rfl
  refine DWp.loop (fun n env G => ∃ y1_3 : Int, ∃ y1_8 : Int, F_impl_sum_L1 fu x0 (llen x0) n y1_3 y1_8 = some s2 ∧ Sep G (Fr H) [] ∧ AgB (Fr H) H G ∧ env 3 = some (Value.int .i64 y1_3) ∧ env 6 = some v0 ∧ env 7 = some (Value.int .i64 (llen x0)) ∧ env 8 = some (Value.int .i64 y1_8)) fu ⟨0, 0, hL3, S4, A0, by simp [], by simp [], by simp [], by simp []⟩ ?_
  rintro n1 env1 G1_ ⟨y1_3, y1_8, hL3, S1_, A1_, e1_3, e1_6, e1_7, e1_8⟩
  cases n1 with
  | zero => cases hL3
  | succ n1 =>
    simp only [F_impl_sum_L1] at hL3
    refine DWp.seq ?_
    refine DWp.region fun K hK => ?_
    simp [-aBin', -aBin, -aBinI, -aUn, -aNil, -flatV, n_fn, b_add, b_sub, b_mul, b_lt, b_le, b_gt, b_ge, b_eq, b_ne, u_not, e1_3, e1_6, e1_7, e1_8]
    apply hK
    clear hK K
    simp only [andThen, leaves]
    refine DWp.seq ?_
    refine DWp.cond' (t := (ilt y1_8 (llen x0))) (by simp [e1_3, e1_6, e1_7, e1_8]) (fun hb5 => ?_) (fun hb5 => ?_)
    · replace hL3 := cd_t hb5 hL3
      refine DWp.skip ?_
      simp only [andThen, leaves]
      refine DWp.seq ?_
      refine DWp.block ?_
      refine DWp.seq ?_
      obtain ⟨g6, hL3⟩ := gd_some hL3
      have q7 := idxG (P := Try.prog) (kk := .i64) (hx0.agree A1_.agree) el_22 sz_3 g6
      have q8 := loadG (P := Try.prog) (hx0.agree A1_.agree) sz_3 ag_3 g6 0
      refine DWp.region fun K hK => ?_
      simp [-aBin', -aBin, -aBinI, -aUn, -aNil, -flatV, n_fn, b_add, b_sub, b_mul, b_lt, b_le, b_gt, b_ge, b_eq, b_ne, u_not, e1_3, e1_6, e1_7, e1_8, q7, q8]
      apply hK
      clear hK K
      simp only [andThen, leaves]
      refine DWp.region fun K hK => ?_
      simp [-aBin', -aBin, -aBinI, -aUn, -aNil, -flatV, n_fn, b_add, b_sub, b_mul, b_lt, b_le, b_gt, b_ge, b_eq, b_ne, u_not, e1_3, e1_6, e1_7, e1_8]
      apply hK
      clear hK K
      simp only [andThen, leaves]
      refine DWp.region fun K hK => ?_
      simp [-aBin', -aBin, -aBinI, -aUn, -aNil, -flatV, n_fn, b_add, b_sub, b_mul, b_lt, b_le, b_gt, b_ge, b_eq, b_ne, u_not, e1_3, e1_6, e1_7, e1_8]
      apply hK
      clear hK K
      simp only [andThen, leaves]
      have S9 := S1_.pick [] (by decide) rfl
      exact ⟨n1, Nat.lt_succ_self _, (iadd .i64 y1_3 (gat 0 x0 y1_8)), (iadd .i64 y1_8 1), hL3, S9, A1_, by simp [e1_3, e1_6, e1_7, e1_8], by simp [e1_3, e1_6, e1_7, e1_8], by simp [e1_3, e1_6, e1_7, e1_8], by simp [e1_3, e1_6, e1_7, e1_8]⟩
    · replace hL3 := cd_f hb5 hL3
      refine DWp.exit ?_
      simp only [andThen, leaves, if_true, if_false, reduceIte, Nat.reduceEqDiff]
      obtain rfl := Option.some.inj hL3
      try dsimp only at hF
      refine DWp.seq ?_
      refine DWp.region fun K hK => ?_
      simp [-aBin', -aBin, -aBinI, -aUn, -aNil, -flatV, n_fn, b_add, b_sub, b_mul, b_lt, b_le, b_gt, b_ge, b_eq, b_ne, u_not, e1_3, e1_6, e1_7, e1_8]
      apply hK
      clear hK K
      simp only [andThen, leaves]
      refine DWp.ret ?_
      obtain rfl := Option.some.inj hF
      exact ⟨by simp, [(Value.int .i64 y1_3)], by simp [e1_3, e1_6, e1_7, e1_8], A1_, rfl, S1_.pick [] (by decide) rfl⟩
/-! loop.example/g01126/impl.areParts -/
def F_impl_areParts (fu : Nat) (x0 : List Int) : Option (Bool) :=
  bif (ile (llen x0) 20) then
    bd (F_slices_ContainsFunc_Sint fu x0 (fun y0 => F_impl_areParts_1 fu y0)) fun r1 =>
    bif (bnot r1) then
      bd (F_impl_sum fu x0) fun r2 =>
      some (ile r2 20)
    else
      some false
  else
    some false
theorem F_impl_areParts_w {fu : Nat} {H : AH} {v0 : Value} {x0 : List Int} {r : (Bool)} (hx0 : Sl H v0 (ints x0)) (hF : F_impl_areParts fu x0 = some r) :
    ACallT Try.prog 80 [v0] H (fun u G => AgB (Fr H) H G ∧ u = (Value.bool r) ∧ Sep G (Fr H) []) := by
  refine ACallT.of_body (nt := 16) (rs := [.tmp 2]) Try.func80 rfl rfl rfl rfl ?_
  have A0 : AgB (Fr H) H H := .refl _ _
  have S0 : Sep H (Fr H) [] := .nil
  have hB := Fr.up H
  unfold F_impl_areParts at hF
  refine DWp.seq ?_
  refine DWp.region fun K hK => ?_
  simp [-aBin', -aBin, -aBinI, -aUn, -aNil, -flatV, n_fn, b_add, b_sub, b_mul, b_lt, b_le, b_gt, b_ge, b_eq, b_ne, u_not]
  apply hK
  clear hK K
  simp only [andThen, leaves]
  refine DWp.seq ?_
  have q1 := lenG (P := Try.prog) (hx0.agree A0.agree) el_22
  rcases Bool.eq_false_or_eq_true (ile (llen x0) 20) with hb2 | hb2
  · replace hF := cd_t hb2 hF
    obtain ⟨r1, hc4, hF⟩ := bd_some hF
    refine DWp.region fun K hK => ?_
    simp [-aBin', -aBin, -aBinI, -aUn, -aNil, -flatV, n_fn, b_add, b_sub, b_mul, b_lt, b_le, b_gt, b_ge, b_eq, b_ne, u_not, hb2, q1, ((hx0.agree A0.agree).tup)]
    refine CallD.t (F_slices_ContainsFunc_Sint_w (fu := fu) (hx0.agree A0.agree) (fun G_ a_ y0 q_ hq_ => F_impl_areParts_1_w (fu := fu)  hq_) hc4) ?_
    rintro _ G6 ⟨a9, rfl, S10⟩
    have A8 := A0.ext (hB.le A0.1) a9.agree
    have S7 : Sep G6 (Fr H) [] := S0.app a9.agree S10 (fun _ h => h) (hB.le A0.1)
    rcases Bool.eq_false_or_eq_true (bnot r1) with hb11 | hb11
    · replace hF := cd_t hb11 hF
      obtain ⟨r2, hc12, hF⟩ := bd_some hF
      simp [-aBin', -aBin, -aBinI, -aUn, -aNil, -flatV, n_fn, b_add, b_sub, b_mul, b_lt, b_le, b_gt, b_ge, b_eq, b_ne, u_not, hb2, hb11, q1, a9.pre, ((hx0.agree A8.agree).tup)]
      refine CallD.t (F_impl_sum_w (fu := fu) (hx0.agree A8.agree) hc12) ?_
      rintro _ G14 ⟨a17, rfl, S18⟩
      have A16 := A8.ext (hB.le A8.1) a17.agree
      have S15 : Sep G14 (Fr H) [] := S7.app a17.agree S18 (fun _ h => h) (hB.le A8.1)
      simp [-aBin', -aBin, -aBinI, -aUn, -aNil, -flatV, n_fn, b_add, b_sub, b_mul, b_lt, b_le, b_gt, b_ge, b_eq, b_ne, u_not, hb2, hb11, q1, a9.pre, a17.pre]
      apply hK
      clear hK K
      simp only [andThen, leaves]
      refine DWp.ret ?_
      obtain rfl := Option.some.inj hF
      exact ⟨by simp, [(Value.bool (ile r2 20))], by simp [], A16, rfl, S15.pick [] (by decide) rfl⟩
    · replace hF := cd_f hb11 hF
      simp [-aBin', -aBin, -aBinI, -aUn, -aNil, -flatV, n_fn, b_add, b_sub, b_mul, b_lt, b_le, b_gt, b_ge, b_eq, b_ne, u_not, hb2, hb11, q1, a9.pre]
      apply hK
      clear hK K
      simp only [andThen, leaves]
      refine DWp.ret ?_
      obtain rfl := Option.some.inj hF
      exact ⟨by simp, [(Value.bool false)], by simp [], A8, rfl, S7.pick [] (by decide) rfl⟩
  · replace hF := cd_f hb2 hF
    refine DWp.region fun K hK => ?_
    simp [-aBin', -aBin, -aBinI, -aUn, -aNil, -flatV, n_fn, b_add, b_sub, b_mul, b_lt, b_le, b_gt, b_ge, b_eq, b_ne, u_not, hb2, q1]
    apply hK
    clear hK K
    simp only [andThen, leaves]
    refine DWp.ret ?_
    obtain rfl := Option.some.inj hF
    exact ⟨by simp, [(Value.bool false)], by simp [], A0, rfl, S0.pick [] (by decide) rfl⟩
/-! loop.example/g01126/impl.arcs -/
def F_impl_arcs_L2 (fu : Nat) (k2_0 : Int) (k2_1 : Int) (k2_2 : List Int) (k2_3 : Int) (k2_4 : Int) : Nat → List Int → Int → Option (List Int × Int)
  | 0, _, _ => none
  | n + 1, l2_0, y2_18 =>
    bif (ilt y2_18 k2_0) then
      gd (l2_0.length + [(isub .i64 (isub .i64 (iadd .i64 k2_1 k2_0) 1) y2_18)].length ≤ 4294967296) (
      F_impl_arcs_L2 fu k2_0 k2_1 k2_2 k2_3 k2_4 n (lapp l2_0 [(isub .i64 (isub .i64 (iadd .i64 k2_1 k2_0) 1) y2_18)]) (iadd .i64 y2_18 1))
    else
      some (l2_0, y2_18)
def F_impl_arcs_L1 (fu : Nat) (k1_0 : List Int) (k1_1 : Int) : Nat → List Int → Int → Option (List Int × Int)
  | 0, _, _ => none
  | n + 1, l1_0, y1_11 =>
    bif (ilt y1_11 k1_1) then
      gd (inL k1_0 y1_11) (
      bd (F_impl_arcs_L2 fu (gat 0 k1_0 y1_11) (llen l1_0) k1_0 k1_1 y1_11 fu l1_0 0) fun s2 =>
      F_impl_arcs_L1 fu k1_0 k1_1 n s2.1 (iadd .i64 y1_11 1))
    else
      some (l1_0, y1_11)
def F_impl_arcs (fu : Nat) (x0 : List Int) : Option (List Int) :=
  bd (F_impl_arcs_L1 fu x0 (llen x0) fu (@List.nil Int) 0) fun s1 =>
  some s1.1
theorem F_impl_arcs_w {fu : Nat} {H : AH} {v0 : Value} {x0 : List Int} {r : (List Int)} (hx0 : Sl H v0 (ints x0)) (hF : F_impl_arcs fu x0 = some r) :
    ACallT Try.prog 84 [v0] H (fun u G => AgB (Fr H) H G ∧ ∃ u0 : Value, u = u0 ∧ Sep G (Fr H) [flat u0 3 (ints r)]) := by
  refine ACallT.of_body (nt := 33) (rs := [.tmp 2]) Try.func84 rfl rfl rfl rfl ?_
  have A0 : AgB (Fr H) H H := .refl _ _
  have S0 : Sep H (Fr H) [] := .nil
  have hB := Fr.up H
  unfold F_impl_arcs at hF
  refine DWp.seq ?_
  refine DWp.region fun K hK => ?_
  simp [-aBin', -aBin, -aBinI, -aUn, -aNil, -flatV, n_fn, b_add, b_sub, b_mul, b_lt, b_le, b_gt, b_ge, b_eq, b_ne, u_not]
  apply hK
  clear hK K
  simp only [andThen, leaves]
  refine DWp.seq ?_
  obtain ⟨v1, G2, q3, S4, a6, _, _⟩ := S0.lit0 (P := Try.prog) (t := 22) (hB.le A0.1) el_22 ei_3 rfl
  have A5 := A0.ext (hB.le A0.1) a6
  replace S4 : Sep G2 (Fr H) [flat1 v1 3 (ints (@List.nil Int))] := S4
  refine DWp.region fun K hK => ?_
  simp [-aBin', -aBin, -aBinI, -aUn, -aNil, -flatV, n_fn, b_add, b_sub, b_mul, b_lt, b_le, b_gt, b_ge, b_eq, b_ne, u_not, q3, a6.to_pre]
  apply hK
  clear hK K
  simp only [andThen, leaves]
  refine DWp.seq ?_
  refine DWp.seq ?_
  have q8 := lenG (P := Try.prog) (hx0.agree A5.agree) el_22
  refine DWp.region fun K hK => ?_
  simp [-aBin', -aBin, -aBinI, -aUn, -aNil, -flatV, n_fn, b_add, b_sub, b_mul, b_lt, b_le, b_gt, b_ge, b_eq, b_ne, u_not, q8]
  apply hK
  clear hK K
  simp only [andThen, leaves]
  refine DWp.block ?_
  obtain ⟨s9, hL10, hF⟩ := bd_some hF
  have S11 := S4.pick [0] (by decide) rfl
  have S12 := S11.weak (k := 0) rfl
  refine DWp.loop (fun n env G => ∃ l1_0 : List Int, ∃ y1_11 : Int, ∃ w1_0 : Value, F_impl_arcs_L1 fu x0 (llen x0) n l1_0 y1_11 = some s9 ∧ Sep G (Fr H) [flat w1_0 3 (ints l1_0)] ∧ AgB (Fr H) H G ∧ env 3 = some w1_0 ∧ env 9 = some v0 ∧ env 10 = some (Value.int .i64 (llen x0)) ∧ env 11 = some (Value.int .i64 y1_11)) fu ⟨(@List.nil Int), 0, v1, hL10, S12, A5, by simp [], by simp [], by simp [], by simp []⟩ ?_
  rintro n1 env1 G1_ ⟨l1_0, y1_11, w1_0, hL10, S1_, A1_, e1_3, e1_9, e1_10, e1_11⟩
  cases n1 with
  | zero => cases hL10
  | succ n1 =>
    simp only [F_impl_arcs_L1] at hL10
    refine DWp.seq ?_
    refine DWp.region fun K hK => ?_
    simp [-aBin', -aBin, -aBinI, -aUn, -aNil, -flatV, n_fn, b_add, b_sub, b_mul, b_lt, b_le, b_gt, b_ge, b_eq, b_ne, u_not, e1_3, e1_9, e1_10, e1_11]
    apply hK
    clear hK K
    simp only [andThen, leaves]
    refine DWp.seq ?_
    refine DWp.cond' (t := (ilt y1_11 (llen x0))) (by simp [e1_3, e1_9, e1_10, e1_11]) (fun hb13 => ?_) (fun hb13 => ?_)
    · replace hL10 := cd_t hb13 hL10
      refine DWp.skip ?_
      simp only [andThen, leaves]
      refine DWp.seq ?_
      refine DWp.block ?_
      refine DWp.seq ?_
      obtain ⟨g14, hL10⟩ := gd_some hL10
      have q15 := idxG (P := Try.prog) (kk := .i64) (hx0.agree A1_.agree) el_22 sz_3 g14
      have q16 := loadG (P := Try.prog) (hx0.agree A1_.agree) sz_3 ag_3 g14 0
      refine DWp.region fun K hK => ?_
      simp [-aBin', -aBin, -aBinI, -aUn, -aNil, -flatV, n_fn, b_add, b_sub, b_mul, b_lt, b_le, b_gt, b_ge, b_eq, b_ne, u_not, e1_3, e1_9, e1_10, e1_11, q15, q16]
      apply hK
      clear hK K
      simp only [andThen, leaves]
      refine DWp.seq ?_
      have q17 := lenG (P := Try.prog) (S1_.sl (k := 0) rfl) el_22
      refine DWp.region fun K hK => ?_
      simp [-aBin', -aBin, -aBinI, -aUn, -aNil, -flatV, n_fn, b_add, b_sub, b_mul, b_lt, b_le, b_gt, b_ge, b_eq, b_ne, u_not, e1_3, e1_9, e1_10, e1_11, q17]
      apply hK
      clear hK K
      simp only [andThen, leaves]
      refine DWp.seq ?_
      refine DWp.region fun K hK => ?_
      simp [-aBin', -aBin, -aBinI, -aUn, -aNil, -flatV, n_fn, b_add, b_sub, b_mul, b_lt, b_le, b_gt, b_ge, b_eq, b_ne, u_not, e1_3, e1_9, e1_10, e1_11]
      apply hK
      clear hK K
      simp only [andThen, leaves]
      refine DWp.block ?_
      obtain ⟨s18, hL19, hL10⟩ := bd_some hL10
      have S20 := S1_.pick [0] (by decide) rfl
      refine DWp.loop (fun n env G => ∃ l2_0 : List Int, ∃ y2_18 : Int, ∃ w2_0 : Value, F_impl_arcs_L2 fu (gat 0 x0 y1_11) (llen l1_0) x0 (llen x0) y1_11 n l2_0 y2_18 = some s18 ∧ Sep G (Fr H) [flat w2_0 3 (ints l2_0)] ∧ AgB (Fr H) H G ∧ env 3 = some w2_0 ∧ env 5 = some (Value.int .i64 (gat 0 x0 y1_11)) ∧ env 6 = some (Value.int .i64 (llen l1_0)) ∧ env 9 = some v0 ∧ env 10 = some (Value.int .i64 (llen x0)) ∧ env 11 = some (Value.int .i64 y1_11) ∧ env 17 = some (Value.int .i64 (gat 0 x0 y1_11)) ∧ env 18 = some (Value.int .i64 y2_18)) fu ⟨l1_0, 0, w1_0, hL19, S20, A1_, by simp [e1_3, e1_9, e1_10, e1_11], by simp [e1_3, e1_9, e1_10, e1_11], by simp [e1_3, e1_9, e1_10, e1_11], by simp [e1_3, e1_9, e1_10, e1_11], by simp [e1_3, e1_9, e1_10, e1_11], by simp [e1_3, e1_9, e1_10, e1_11], by simp [e1_3, e1_9, e1_10, e1_11], by simp [e1_3, e1_9, e1_10, e1_11]⟩ ?_
      rintro n2 env2 G2_ ⟨l2_0, y2_18, w2_0, hL19, S2_, A2_, e2_3, e2_5, e2_6, e2_9, e2_10, e2_11, e2_17, e2_18⟩
      cases n2 with
      | zero => cases hL19
      | succ n2 =>
        simp only [F_impl_arcs_L2] at hL19
        refine DWp.seq ?_
        refine DWp.region fun K hK => ?_
        simp [-aBin', -aBin, -aBinI, -aUn, -aNil, -flatV, n_fn, b_add, b_sub, b_mul, b_lt, b_le, b_gt, b_ge, b_eq, b_ne, u_not, e2_3, e2_5, e2_6, e2_9, e2_10, e2_11, e2_17, e2_18]
        apply hK
        clear hK K
        simp only [andThen, leaves]
        refine DWp.seq ?_
        refine DWp.cond' (t := (ilt y2_18 (gat 0 x0 y1_11))) (by simp [e2_3, e2_5, e2_6, e2_9, e2_10, e2_11, e2_17, e2_18]) (fun hb21 => ?_) (fun hb21 => ?_)
        · replace hL19 := cd_t hb21 hL19
          refine DWp.skip ?_
          simp only [andThen, leaves]
          refine DWp.seq ?_
          refine DWp.block ?_
          refine DWp.seq ?_
          refine DWp.region fun K hK => ?_
          simp [-aBin', -aBin, -aBinI, -aUn, -aNil, -flatV, n_fn, b_add, b_sub, b_mul, b_lt, b_le, b_gt, b_ge, b_eq, b_ne, u_not, e2_3, e2_5, e2_6, e2_9, e2_10, e2_11, e2_17, e2_18]
          apply hK
          clear hK K
          simp only [andThen, leaves]
          obtain ⟨v22, G23, q24, S25, a27, _, _⟩ := S2_.lit1 (P := Try.prog) (t := 22) (hB.le A2_.1) el_22 ei_3 rfl (Value.int .i64 (isub .i64 (isub .i64 (iadd .i64 (llen l1_0) (gat 0 x0 y1_11)) 1) y2_18)) rfl rfl
          have A26 := A2_.ext (hB.le A2_.1) a27
          replace S25 : Sep G23 (Fr H) [flat w2_0 3 (ints l2_0), flat1 v22 3 (ints [(isub .i64 (isub .i64 (iadd .i64 (llen l1_0) (gat 0 x0 y1_11)) 1) y2_18)])] := S25
          obtain ⟨g29, hL19⟩ := gd_some hL19
          obtain ⟨v35, G30, q31, S32, a34, _, _⟩ := S25.appendG (f := (Value.int .i64)) (xs := l2_0) (ys := [(isub .i64 (isub .i64 (iadd .i64 (llen l1_0) (gat 0 x0 y1_11)) 1) y2_18)]) (P := Try.prog) (t := 22) (t2 := 22) (k := 0) rfl (hB.le A26.1) el_22 el_22 ei_3 rfl (S25.sl1 (k := 1) rfl) g29
          have A33 := A26.trans a34
          replace S32 : Sep G30 (Fr H) [flat v35 3 (ints (lapp l2_0 [(isub .i64 (isub .i64 (iadd .i64 (llen l1_0) (gat 0 x0 y1_11)) 1) y2_18)])), flat1 v22 3 (ints [(isub .i64 (isub .i64 (iadd .i64 (llen l1_0) (gat 0 x0 y1_11)) 1) y2_18)])] := S32
          refine DWp.region fun K hK => ?_
          simp [-aBin', -aBin, -aBinI, -aUn, -aNil, -flatV, n_fn, b_add, b_sub, b_mul, b_lt, b_le, b_gt, b_ge, b_eq, b_ne, u_not, e2_3, e2_5, e2_6, e2_9, e2_10, e2_11, e2_17, e2_18, q24, a27.to_pre, q31]
          apply hK
          clear hK K
          simp only [andThen, leaves]
          refine DWp.region fun K hK => ?_
          simp [-aBin', -aBin, -aBinI, -aUn, -aNil, -flatV, n_fn, b_add, b_sub, b_mul, b_lt, b_le, b_gt, b_ge, b_eq, b_ne, u_not, e2_3, e2_5, e2_6, e2_9, e2_10, e2_11, e2_17, e2_18]
          apply hK
          clear hK K
          simp only [andThen, leaves]
          have S36 := S32.pick [0] (by decide) rfl
          exact ⟨n2, Nat.lt_succ_self _, (lapp l2_0 [(isub .i64 (isub .i64 (iadd .i64 (llen l1_0) (gat 0 x0 y1_11)) 1) y2_18)]), (iadd .i64 y2_18 1), v35, hL19, S36, A33, by simp [e2_3, e2_5, e2_6, e2_9, e2_10, e2_11, e2_17, e2_18], by simp [e2_3, e2_5, e2_6, e2_9, e2_10, e2_11, e2_17, e2_18], by simp [e2_3, e2_5, e2_6, e2_9, e2_10, e2_11, e2_17, e2_18], by simp [e2_3, e2_5, e2_6, e2_9, e2_10, e2_11, e2_17, e2_18], by simp [e2_3, e2_5, e2_6, e2_9, e2_10, e2_11, e2_17, e2_18], by simp [e2_3, e2_5, e2_6, e2_9, e2_10, e2_11, e2_17, e2_18], by simp [e2_3, e2_5, e2_6, e2_9, e2_10, e2_11, e2_17, e2_18], by simp [e2_3, e2_5, e2_6, e2_9, e2_10, e2_11, e2_17, e2_18]⟩
        · replace hL19 := cd_f hb21 hL19
          refine DWp.exit ?_
          simp only [andThen, leaves, if_true, if_false, reduceIte, Nat.reduceEqDiff]
          obtain rfl := Option.some.inj hL19
          try dsimp only at hL10
          refine DWp.region fun K hK => ?_
          simp [-aBin', -aBin, -aBinI, -aUn, -aNil, -flatV, n_fn, b_add, b_sub, b_mul, b_lt, b_le, b_gt, b_ge, b_eq, b_ne, u_not, e2_3, e2_5, e2_6, e2_9, e2_10, e2_11, e2_17, e2_18]
          apply hK
          clear hK K
          simp only [andThen, leaves]
          have S37 := S2_.pick [0] (by decide) rfl
          exact ⟨n1, Nat.lt_succ_self _, l2_0, (iadd .i64 y1_11 1), w2_0, hL10, S37, A2_, by simp [e2_3, e2_5, e2_6, e2_9, e2_10, e2_11, e2_17, e2_18], by simp [e2_3, e2_5, e2_6, e2_9, e2_10, e2_11, e2_17, e2_18], by simp [e2_3, e2_5, e2_6, e2_9, e2_10, e2_11, e2_17, e2_18], by simp [e2_3, e2_5, e2_6, e2_9, e2_10, e2_11, e2_17, e2_18]⟩
    · replace hL10 := cd_f hb13 hL10
      refine DWp.exit ?_
      simp only [andThen, leaves, if_true, if_false, reduceIte, Nat.reduceEqDiff]
      obtain rfl := Option.some.inj hL10
      try dsimp only at hF
      refine DWp.seq ?_
      refine DWp.region fun K hK => ?_
      simp [-aBin', -aBin, -aBinI, -aUn, -aNil, -flatV, n_fn, b_add, b_sub, b_mul, b_lt, b_le, b_gt, b_ge, b_eq, b_ne, u_not, e1_3, e1_9, e1_10, e1_11]
      apply hK
      clear hK K
      simp only [andThen, leaves]
      refine DWp.ret ?_
      obtain rfl := Option.some.inj hF
      exact ⟨by simp, [w1_0], by simp [e1_3, e1_9, e1_10, e1_11, ((S1_.sl (k := 0) rfl).tup)], A1_, w1_0, rfl, S1_.pick [0] (by decide) rfl⟩
/-! (loop.example/g01126/impl.Seaweed).groups -/
def F_impl_Seaweed_groups_L2 (fu : Nat) (k2_0 : List Int) (k2_1 : List Int) (k2_2 : List (List Int)) (k2_3 : List (List Int)) (k2_4 : Int) (k2_5 : Int) : Nat → List Bool → List Int → Bool → List Int → Option (List Bool × List Int × Bool × List Int)
  | 0, _, _, _, _ => none
  | n + 1, l2_4, l2_5, y2_11, l2_6 =>
    bif (ilt 0 (llen l2_6)) then
      gd (inL l2_6 0) (
      gd (subL l2_6 1 (llen l2_6)) (
      gd (inL l2_4 (gat 0 l2_6 0)) (
      bif (gat false l2_4 (gat 0 l2_6 0)) then
        F_impl_Seaweed_groups_L2 fu k2_0 k2_1 k2_2 k2_3 k2_4 k2_5 n l2_4 l2_5 y2_11 (lsub l2_6 1 (llen l2_6))
      else
        gd (inL l2_4 (gat 0 l2_6 0)) (
        bd (
          bif y2_11 then
            some true
          else
            gd (inL k2_0 (gat 0 l2_6 0)) (
            bif (ieq (gat 0 k2_0 (gat 0 l2_6 0)) (gat 0 l2_6 0)) then
              some true
            else
              gd (inL k2_1 (gat 0 l2_6 0)) (
              some (ieq (gat 0 k2_1 (gat 0 l2_6 0)) (gat 0 l2_6 0))))) fun s98 =>
        gd (inL k2_0 (gat 0 l2_6 0)) (
        gd (inL k2_1 (gat 0 l2_6 0)) (
        gd (l2_5.length + [(gat 0 l2_6 0)].length ≤ 4294967296) (
        gd ((lsub l2_6 1 (llen l2_6)).length + [(gat 0 k2_0 (gat 0 l2_6 0)), (gat 0 k2_1 (gat 0 l2_6 0))].length ≤ 4294967296) (
        F_impl_Seaweed_groups_L2 fu k2_0 k2_1 k2_2 k2_3 k2_4 k2_5 n (lset l2_4 (gat 0 l2_6 0) true) (lapp l2_5 [(gat 0 l2_6 0)]) s98 (lapp (lsub l2_6 1 (llen l2_6)) [(gat 0 k2_0 (gat 0 l2_6 0)), (gat 0 k2_1 (gat 0 l2_6 0))])))))))))
    else
      some (l2_4, l2_5, y2_11, l2_6)
def F_impl_Seaweed_groups_L1 (fu : Nat) (k1_0 : List Int) (k1_1 : List Int) (k1_2 : Int) : Nat → List (List Int) → List (List Int) → List Bool → Int → Option (List (List Int) × List (List Int) × List Bool × Int)
  | 0, _, _, _, _ => none
  | n + 1, l1_2, l1_3, l1_4, y1_27 =>
    bif (ilt y1_27 k1_2) then
      gd (inL l1_4 y1_27) (
      bif (gat false l1_4 y1_27) then
        F_impl_Seaweed_groups_L1 fu k1_0 k1_1 k1_2 n l1_2 l1_3 l1_4 (iadd .i64 y1_27 1)
      else
        bd (F_impl_Seaweed_groups_L2 fu k1_0 k1_1 l1_2 l1_3 k1_2 y1_27 fu l1_4 (@List.nil Int) false [y1_27]) fun s2 =>
        bd (F_slices_Sort_Sint fu s2.2.1) fun r3 =>
        bif s2.2.2.1 then
          gd (l1_2.length + 1 ≤ 4294967296) (
          F_impl_Seaweed_groups_L1 fu k1_0 k1_1 k1_2 n (lapp l1_2 [r3]) l1_3 s2.1 (iadd .i64 y1_27 1))
        else
          gd (l1_3.length + 1 ≤ 4294967296) (
          F_impl_Seaweed_groups_L1 fu k1_0 k1_1 k1_2 n l1_2 (lapp l1_3 [r3]) s2.1 (iadd .i64 y1_27 1)))
    else
      some (l1_2, l1_3, l1_4, y1_27)
def F_impl_Seaweed_groups (fu : Nat) (x0_0 : List Int) (x0_1 : List Int) : Option (List (List Int) × List (List Int)) :=
  bd (F_impl_arcs fu x0_0) fun r1 =>
  bd (F_impl_arcs fu x0_1) fun r2 =>
  gd (0 ≤ (llen r1) ∧ (llen r1) ≤ 4294967296) (
  bd (F_impl_Seaweed_groups_L1 fu r1 r2 (llen r1) fu [] [] (lrep (llen r1) false) 0) fun s1 =>
  some (s1.1, s1.2.1))
theorem F_impl_Seaweed_groups_w {fu : Nat} {H : AH} {v0_0 : Value} {v0_1 : Value} {x0_0 : List Int} {x0_1 : List Int} {r : (List (List Int) × List (List Int))} (hx0_0 : Sl H v0_0 (ints x0_0)) (hx0_1 : Sl H v0_1 (ints x0_1)) (hF : F_impl_Seaweed_groups fu x0_0 x0_1 = some r) :
    ACallT Try.prog 68 [(Value.agg #[v0_0, v0_1])] H (fun u G => AgB (Fr H) H G ∧ ∃ u0 : Value, ∃ C0 : List Value, ∃ u2 : Value, ∃ C2 : List Value, u = (Value.tuple #[u0, u2]) ∧ Sep G (Fr H) [rowsC u0 22 3 C0 (List.map ints r.1), rowsC u2 22 3 C2 (List.map ints r.2)]) := by
  refine ACallT.of_body (nt := 98) (rs := [.tmp 2, .tmp 3]) Try.func68 rfl rfl rfl rfl ?_
  have A0 : AgB (Fr H) H H := .refl _ _
  have S0 : Sep H (Fr H) [] := .nil
  have hB := Fr.up H
  unfold F_impl_Seaweed_groups at hF
  refine DWp.seq ?_
  obtain ⟨G2, p4, q5, q6, a7, S1⟩ := S0.boxT (hB.le A0.1) 26 [v0_0, v0_1]
  have A3 := A0.ext (hB.le A0.1) a7
  replace S1 : Sep G2 (Fr H) [AL.box p4 [v0_0, v0_1]] := S1
  refine DWp.region fun K hK => ?_
  simp [-aBin', -aBin, -aBinI, -aUn, -aNil, -flatV, n_fn, b_add, b_sub, b_mul, b_lt, b_le, b_gt, b_ge, b_eq, b_ne, u_not, q5, q6, a7.to_pre, cells_agg]
  apply hK
  clear hK K
  simp only [andThen, leaves]
  refine DWp.seq ?_
  have q8 := S1.fieldT (P := Try.prog) (k := 0) rfl fa_26_0
  have q9 := S1.loadF (P := Try.prog) (k := 0) rfl sz_22 ag_22 (off := 0) rfl
  obtain ⟨r1, hc10, hF⟩ := bd_some hF
  refine DWp.drawn (B := [0, 1, 3, 0, 8, 31, 63, 127]) 8 mixed (by kernel_rfl) (by decide) fun K hK => ?_
  simp [-aBin', -aBin, -aBinI, -aUn, -aNil, -flatV, n_fn, b_add, b_sub, b_mul, b_lt, b_le, b_gt, b_ge, b_eq, b_ne, u_not, q8, q9, ((hx0_0.agree A3.agree).tup)]
  refine CallD.t (F_impl_arcs_w (fu := fu) (hx0_0.agree A3.agree) hc10) ?_
  rintro c11_u0 G12 ⟨a15, _, rfl, S16⟩
  have A14 := A3.ext (hB.le A3.1) a15.agree
  have S13 : Sep G12 (Fr H) [AL.box p4 [v0_0, v0_1], flat c11_u0 3 (ints r1)] := S1.app a15.agree S16 (fun _ h => h) (hB.le A3.1)
  have q17 := S13.fieldT (P := Try.prog) (k := 0) rfl fa_26_1
  have q18 := S13.loadF (P := Try.prog) (k := 0) rfl sz_22 ag_22 (off := 1) rfl
  obtain ⟨r2, hc19, hF⟩ := bd_some hF
  simp [-aBin', -aBin, -aBinI, -aUn, -aNil, -flatV, n_fn, b_add, b_sub, b_mul, b_lt, b_le, b_gt, b_ge, b_eq, b_ne, u_not, q8, q9, a15.pre, q17, q18, ((hx0_1.agree A14.agree).tup)]
  refine CallD.t (F_impl_arcs_w (fu := fu) (hx0_1.agree A14.agree) hc19) ?_
  rintro c20_u0 G21 ⟨a24, _, rfl, S25⟩
  have A23 := A14.ext (hB.le A14.1) a24.agree
  have S22 : Sep G21 (Fr H) [AL.box p4 [v0_0, v0_1], flat c11_u0 3 (ints r1), flat c20_u0 3 (ints r2)] := S13.app a24.agree S25 (fun _ h => h) (hB.le A14.1)
  simp [-aBin', -aBin, -aBinI, -aUn, -aNil, -flatV, n_fn, b_add, b_sub, b_mul, b_lt, b_le, b_gt, b_ge, b_eq, b_ne, u_not, q8, q9, a15.pre, q17, q18, a24.pre]
  apply hK
  clear hK K
  simp only [andThen, leaves]
  refine DWp.seq ?_
  obtain ⟨v26, G27, q28, S29, a31, _, _⟩ := S22.lit0 (P := Try.prog) (t := 46) (hB.le A23.1) el_46 ei_22 rfl
  have A30 := A23.ext (hB.le A23.1) a31
  replace S29 : Sep G27 (Fr H) [AL.box p4 [v0_0, v0_1], flat c11_u0 3 (ints r1), flat c20_u0 3 (ints r2), flat1 v26 22 []] := S29
  have S32 : Sep G27 (Fr H) [AL.box p4 [v0_0, v0_1], flat c11_u0 3 (ints r1), flat c20_u0 3 (ints r2), rowsC v26 22 3 [] (List.map ints [])] := S29.rowsOf0 (k := 3) rfl 3
  obtain ⟨v33, G34, q35, S36, a38, _, _⟩ := S32.lit0 (P := Try.prog) (t := 46) (hB.le A30.1) el_46 ei_22 rfl
  have A37 := A30.ext (hB.le A30.1) a38
  replace S36 : Sep G34 (Fr H) [AL.box p4 [v0_0, v0_1], flat c11_u0 3 (ints r1), flat c20_u0 3 (ints r2), rowsC v26 22 3 [] (List.map ints []), flat1 v33 22 []] := S36
  have S39 : Sep G34 (Fr H) [AL.box p4 [v0_0, v0_1], flat c11_u0 3 (ints r1), flat c20_u0 3 (ints r2), rowsC v26 22 3 [] (List.map ints []), rowsC v33 22 3 [] (List.map ints [])] := S36.rowsOf0 (k := 4) rfl 3
  have q40 := lenG (P := Try.prog) (S39.sl (k := 1) rfl) el_22
  obtain ⟨g41, hF⟩ := gd_some hF
  obtain ⟨v42, G43, q44, S45, a47, _⟩ := S39.make (f := Value.bool) (P := Try.prog) (t := 87) (hB.le A37.1) el_87 ei_4 rfl false rfl g41
  have A46 := A37.ext (hB.le A37.1) a47
  replace S45 : Sep G43 (Fr H) [AL.box p4 [v0_0, v0_1], flat c11_u0 3 (ints r1), flat c20_u0 3 (ints r2), rowsC v26 22 3 [] (List.map ints []), rowsC v33 22 3 [] (List.map ints []), flat v42 4 (bools (lrep (llen r1) false))] := S45
  refine DWp.drawn (B := [0, 0, 0, 4, 12, 1, 35, 127]) 8 mixed (by kernel_rfl) (by decide) fun K hK => ?_
  simp [-aBin', -aBin, -aBinI, -aUn, -aNil, -flatV, n_fn, b_add, b_sub, b_mul, b_lt, b_le, b_gt, b_ge, b_eq, b_ne, u_not, q28, a31.to_pre, q35, a38.to_pre, q40, q44, a47.to_pre]
  apply hK
  clear hK K
  simp only [andThen, leaves]
  refine DWp.seq ?_
  refine DWp.seq ?_
  have q48 := lenG (P := Try.prog) (S45.sl (k := 1) rfl) el_22
  refine DWp.region fun K hK => ?_
  simp [-aBin', -aBin, -aBinI, -aUn, -aNil, -flatV, n_fn, b_add, b_sub, b_mul, b_lt, b_le, b_gt, b_ge, b_eq, b_ne, u_not, q48]
  apply hK
  clear hK K
  simp only [andThen, leaves]
  refine DWp.block ?_
  obtain ⟨s49, hL50, hF⟩ := bd_some hF
  have S51 := S45.pick [1, 2, 3, 4, 5] (by decide) rfl
  refine DWp.loop (fun n env G => ∃ l1_2 : List (List Int), ∃ l1_3 : List (List Int), ∃ l1_4 : List Bool, ∃ y1_27 : Int, ∃ w1_2 : Value, ∃ D1_2 : List Value, ∃ w1_3 : Value, ∃ D1_3 : List Value, F_impl_Seaweed_groups_L1 fu r1 r2 (llen r1) n l1_2 l1_3 l1_4 y1_27 = some s49 ∧ Sep G (Fr H) [flat c11_u0 3 (ints r1), flat c20_u0 3 (ints r2), rowsC w1_2 22 3 D1_2 (List.map ints l1_2), rowsC w1_3 22 3 D1_3 (List.map ints l1_3), flat v42 4 (bools l1_4)] ∧ AgB (Fr H) H G ∧ env 4 = some c11_u0 ∧ env 5 = some c20_u0 ∧ env 6 = some w1_2 ∧ env 7 = some w1_3 ∧ env 8 = some v42 ∧ env 26 = some (Value.int .i64 (llen r1)) ∧ env 27 = some (Value.int .i64 y1_27)) fu ⟨[], [], (lrep (llen r1) false), 0, v26, [], v33, [], hL50, S51, A46, by simp [], by simp [], by simp [], by simp [], by simp [], by simp [], by simp []⟩ ?_
  rintro n1 env1 G1_ ⟨l1_2, l1_3, l1_4, y1_27, w1_2, D1_2, w1_3, D1_3, hL50, S1_, A1_, e1_4, e1_5, e1_6, e1_7, e1_8, e1_26, e1_27⟩
  cases n1 with
  | zero => cases hL50
  | succ n1 =>
    simp only [F_impl_Seaweed_groups_L1] at hL50
    refine DWp.seq ?_
    refine DWp.region fun K hK => ?_
    simp [-aBin', -aBin, -aBinI, -aUn, -aNil, -flatV, n_fn, b_add, b_sub, b_mul, b_lt, b_le, b_gt, b_ge, b_eq, b_ne, u_not, e1_4, e1_5, e1_6, e1_7, e1_8, e1_26, e1_27]
    apply hK
    clear hK K
    simp only [andThen, leaves]
    refine DWp.seq ?_
    refine DWp.cond' (t := (ilt y1_27 (llen r1))) (by simp [e1_4, e1_5, e1_6, e1_7, e1_8, e1_26, e1_27]) (fun hb52 => ?_) (fun hb52 => ?_)
    · replace hL50 := cd_t hb52 hL50
      refine DWp.skip ?_
      simp only [andThen, leaves]
      refine DWp.seq ?_
      refine DWp.block ?_
      refine DWp.seq ?_
      refine DWp.region fun K hK => ?_
      simp [-aBin', -aBin, -aBinI, -aUn, -aNil, -flatV, n_fn, b_add, b_sub, b_mul, b_lt, b_le, b_gt, b_ge, b_eq, b_ne, u_not, e1_4, e1_5, e1_6, e1_7, e1_8, e1_26, e1_27]
      apply hK
      clear hK K
      simp only [andThen, leaves]
      refine DWp.seq ?_
      refine DWp.seq ?_
      obtain ⟨g53, hL50⟩ := gd_some hL50
      have q54 := idxG (P := Try.prog) (kk := .i64) (S1_.sl (k := 4) rfl) el_87 sz_4 g53
      have q55 := loadG (P := Try.prog) (S1_.sl (k := 4) rfl) sz_4 ag_4 g53 false
      refine DWp.region fun K hK => ?_
      simp [-aBin', -aBin, -aBinI, -aUn, -aNil, -flatV, n_fn, b_add, b_sub, b_mul, b_lt, b_le, b_gt, b_ge, b_eq, b_ne, u_not, e1_4, e1_5, e1_6, e1_7, e1_8, e1_26, e1_27, q54, q55]
      apply hK
      clear hK K
      simp only [andThen, leaves]
      refine DWp.cond' (t := (gat false l1_4 y1_27)) (by simp [e1_4, e1_5, e1_6, e1_7, e1_8, e1_26, e1_27]) (fun hb56 => ?_) (fun hb56 => ?_)
      · replace hL50 := cd_t hb56 hL50
        refine DWp.exit ?_
        simp only [andThen, leaves, if_true, if_false, reduceIte, Nat.reduceEqDiff]
        refine DWp.region fun K hK => ?_
        simp [-aBin', -aBin, -aBinI, -aUn, -aNil, -flatV, n_fn, b_add, b_sub, b_mul, b_lt, b_le, b_gt, b_ge, b_eq, b_ne, u_not, e1_4, e1_5, e1_6, e1_7, e1_8, e1_26, e1_27]
        apply hK
        clear hK K
        simp only [andThen, leaves]
        have S57 := S1_.pick [0, 1, 2, 3, 4] (by decide) rfl
        exact ⟨n1, Nat.lt_succ_self _, l1_2, l1_3, l1_4, (iadd .i64 y1_27 1), w1_2, D1_2, w1_3, D1_3, hL50, S57, A1_, by simp [e1_4, e1_5, e1_6, e1_7, e1_8, e1_26, e1_27], by simp [e1_4, e1_5, e1_6, e1_7, e1_8, e1_26, e1_27], by simp [e1_4, e1_5, e1_6, e1_7, e1_8, e1_26, e1_27], by simp [e1_4, e1_5, e1_6, e1_7, e1_8, e1_26, e1_27], by simp [e1_4, e1_5, e1_6, e1_7, e1_8, e1_26, e1_27], by simp [e1_4, e1_5, e1_6, e1_7, e1_8, e1_26, e1_27], by simp [e1_4, e1_5, e1_6, e1_7, e1_8, e1_26, e1_27]⟩
      · replace hL50 := cd_f hb56 hL50
        refine DWp.skip ?_
        simp only [andThen, leaves]
        refine DWp.seq ?_
        obtain ⟨v58, G59, q60, S61, a63, _, _⟩ := S1_.lit0 (P := Try.prog) (t := 22) (hB.le A1_.1) el_22 ei_3 rfl
        have A62 := A1_.ext (hB.le A1_.1) a63
        replace S61 : Sep G59 (Fr H) [flat c11_u0 3 (ints r1), flat c20_u0 3 (ints r2), rowsC w1_2 22 3 D1_2 (List.map ints l1_2), rowsC w1_3 22 3 D1_3 (List.map ints l1_3), flat v42 4 (bools l1_4), flat1 v58 3 (ints (@List.nil Int))] := S61
        refine DWp.region fun K hK => ?_
        simp [-aBin', -aBin, -aBinI, -aUn, -aNil, -flatV, n_fn, b_add, b_sub, b_mul, b_lt, b_le, b_gt, b_ge, b_eq, b_ne, u_not, e1_4, e1_5, e1_6, e1_7, e1_8, e1_26, e1_27, q60, a63.to_pre]
        apply hK
        clear hK K
        simp only [andThen, leaves]
        refine DWp.seq ?_
        refine DWp.seq ?_
        obtain ⟨v65, G66, q67, S68, a70, _, _⟩ := S61.lit1 (P := Try.prog) (t := 22) (hB.le A62.1) el_22 ei_3 rfl (Value.int .i64 y1_27) rfl rfl
        have A69 := A62.ext (hB.le A62.1) a70
        replace S68 : Sep G66 (Fr H) [flat c11_u0 3 (ints r1), flat c20_u0 3 (ints r2), rowsC w1_2 22 3 D1_2 (List.map ints l1_2), rowsC w1_3 22 3 D1_3 (List.map ints l1_3), flat v42 4 (bools l1_4), flat1 v58 3 (ints (@List.nil Int)), flat1 v65 3 (ints [y1_27])] := S68
        refine DWp.region fun K hK => ?_
        simp [-aBin', -aBin, -aBinI, -aUn, -aNil, -flatV, n_fn, b_add, b_sub, b_mul, b_lt, b_le, b_gt, b_ge, b_eq, b_ne, u_not, e1_4, e1_5, e1_6, e1_7, e1_8, e1_26, e1_27, q67, a70.to_pre]
        apply hK
        clear hK K
        simp only [andThen, leaves]
        refine DWp.block ?_
        obtain ⟨s72, hL73, hL50⟩ := bd_some hL50
        have S74 := S68.pick [0, 1, 2, 3, 4, 5, 6] (by decide) rfl
        have S75 := S74.weak (k := 5) rfl
        have S76 := S75.weak (k := 6) rfl
        refine DWp.loop (fun n env G => ∃ l2_4 : List Bool, ∃ l2_5 : List Int, ∃ y2_11 : Bool, ∃ l2_6 : List Int, ∃ w2_5 : Value, ∃ w2_6 : Value, F_impl_Seaweed_groups_L2 fu r1 r2 l1_2 l1_3 (llen r1) y1_27 n l2_4 l2_5 y2_11 l2_6 = some s72 ∧ Sep G (Fr H) [flat c11_u0 3 (ints r1), flat c20_u0 3 (ints r2), rowsC w1_2 22 3 D1_2 (List.map ints l1_2), rowsC w1_3 22 3 D1_3 (List.map ints l1_3), flat v42 4 (bools l2_4), flat w2_5 3 (ints l2_5), flat w2_6 3 (ints l2_6)] ∧ AgB (Fr H) H G ∧ env 4 = some c11_u0 ∧ env 5 = some c20_u0 ∧ env 6 = some w1_2 ∧ env 7 = some w1_3 ∧ env 8 = some v42 ∧ env 10 = some w2_5 ∧ env 11 = some (Value.bool y2_11) ∧ env 12 = some w2_6 ∧ env 26 = some (Value.int .i64 (llen r1)) ∧ env 27 = some (Value.int .i64 y1_27)) fu ⟨l1_4, (@List.nil Int), false, [y1_27], v58, v65, hL73, S76, A69, by simp [e1_4, e1_5, e1_6, e1_7, e1_8, e1_26, e1_27], by simp [e1_4, e1_5, e1_6, e1_7, e1_8, e1_26, e1_27], by simp [e1_4, e1_5, e1_6, e1_7, e1_8, e1_26, e1_27], by simp [e1_4, e1_5, e1_6, e1_7, e1_8, e1_26, e1_27], by simp [e1_4, e1_5, e1_6, e1_7, e1_8, e1_26, e1_27], by simp [e1_4, e1_5, e1_6, e1_7, e1_8, e1_26, e1_27], by simp [e1_4, e1_5, e1_6, e1_7, e1_8, e1_26, e1_27], by simp [e1_4, e1_5, e1_6, e1_7, e1_8, e1_26, e1_27], by simp [e1_4, e1_5, e1_6, e1_7, e1_8, e1_26, e1_27], by simp [e1_4, e1_5, e1_6, e1_7, e1_8, e1_26, e1_27]⟩ ?_
        rintro n2 env2 G2_ ⟨l2_4, l2_5, y2_11, l2_6, w2_5, w2_6, hL73, S2_, A2_, e2_4, e2_5, e2_6, e2_7, e2_8, e2_10, e2_11, e2_12, e2_26, e2_27⟩
        cases n2 with
        | zero => cases hL73
        | succ n2 =>
          simp only [F_impl_Seaweed_groups_L2] at hL73
          refine DWp.seq ?_
          refine DWp.seq ?_
          have q77 := lenG (P := Try.prog) (S2_.sl (k := 6) rfl) el_22
          refine DWp.region fun K hK => ?_
          simp [-aBin', -aBin, -aBinI, -aUn, -aNil, -flatV, n_fn, b_add, b_sub, b_mul, b_lt, b_le, b_gt, b_ge, b_eq, b_ne, u_not, e2_4, e2_5, e2_6, e2_7, e2_8, e2_10, e2_11, e2_12, e2_26, e2_27, q77]
          apply hK
          clear hK K
          simp only [andThen, leaves]
          refine DWp.cond' (t := (ilt 0 (llen l2_6))) (by simp [e2_4, e2_5, e2_6, e2_7, e2_8, e2_10, e2_11, e2_12, e2_26, e2_27]) (fun hb78 => ?_) (fun hb78 => ?_)
          · replace hL73 := cd_t hb78 hL73
            refine DWp.skip ?_
            simp only [andThen, leaves]
            refine DWp.block ?_
            refine DWp.seq ?_
            obtain ⟨g79, hL73⟩ := gd_some hL73
            have q80 := idxG (P := Try.prog) (kk := .i64) (S2_.sl (k := 6) rfl) el_22 sz_3 g79
            replace q80 : aIndexAddr Try.prog G2_ 22 w2_6 (Value.int .i64 0) = some (elP w2_6 0) := q80
            have q81 := loadG (P := Try.prog) (S2_.sl (k := 6) rfl) sz_3 ag_3 g79 0
            replace q81 : aLoad Try.prog G2_ 3 (elP w2_6 0) = some (Value.int .i64 (gat 0 l2_6 0)) := q81
            refine DWp.region fun K hK => ?_
            simp [-aBin', -aBin, -aBinI, -aUn, -aNil, -flatV, n_fn, b_add, b_sub, b_mul, b_lt, b_le, b_gt, b_ge, b_eq, b_ne, u_not, e2_4, e2_5, e2_6, e2_7, e2_8, e2_10, e2_11, e2_12, e2_26, e2_27, q80, q81]
            apply hK
            clear hK K
            simp only [andThen, leaves]
            refine DWp.seq ?_
            obtain ⟨g82, hL73⟩ := gd_some hL73
            have q83 := aSub10 (P := Try.prog) (t := 22) (S2_.sl (k := 6) rfl) el_22 sz_3 g82
            refine DWp.region fun K hK => ?_
            simp [-aBin', -aBin, -aBinI, -aUn, -aNil, -flatV, n_fn, b_add, b_sub, b_mul, b_lt, b_le, b_gt, b_ge, b_eq, b_ne, u_not, e2_4, e2_5, e2_6, e2_7, e2_8, e2_10, e2_11, e2_12, e2_26, e2_27, q83, ((subSl (S2_.sl (k := 6) rfl) g82).tup)]
            apply hK
            clear hK K
            simp only [andThen, leaves]
            refine DWp.seq ?_
            refine DWp.seq ?_
            obtain ⟨g84, hL73⟩ := gd_some hL73
            have q85 := idxG (P := Try.prog) (kk := .i64) (S2_.sl (k := 4) rfl) el_87 sz_4 g84
            have q86 := loadG (P := Try.prog) (S2_.sl (k := 4) rfl) sz_4 ag_4 g84 false
            refine DWp.region fun K hK => ?_
            simp [-aBin', -aBin, -aBinI, -aUn, -aNil, -flatV, n_fn, b_add, b_sub, b_mul, b_lt, b_le, b_gt, b_ge, b_eq, b_ne, u_not, e2_4, e2_5, e2_6, e2_7, e2_8, e2_10, e2_11, e2_12, e2_26, e2_27, q85, q86]
            apply hK
            clear hK K
            simp only [andThen, leaves]
            refine DWp.cond' (t := (gat false l2_4 (gat 0 l2_6 0))) (by simp [e2_4, e2_5, e2_6, e2_7, e2_8, e2_10, e2_11, e2_12, e2_26, e2_27]) (fun hb87 => ?_) (fun hb87 => ?_)
            · replace hL73 := cd_t hb87 hL73
              refine DWp.exit ?_
              simp only [andThen, leaves, if_true, if_false, reduceIte, Nat.reduceEqDiff]
              have S88 : Sep G2_ (Fr H) [flat c11_u0 3 (ints r1), flat c20_u0 3 (ints r2), rowsC w1_2 22 3 D1_2 (List.map ints l1_2), rowsC w1_3 22 3 D1_3 (List.map ints l1_3), flat v42 4 (bools l2_4), flat w2_5 3 (ints l2_5), flat (subV w2_6 1 (llen l2_6)) 3 (ints (lsub l2_6 1 (llen l2_6)))] := S2_.resub (k := 6) rfl g82
              have S89 := S88.pick [0, 1, 2, 3, 4, 5, 6] (by decide) rfl
              exact ⟨n2, Nat.lt_succ_self _, l2_4, l2_5, y2_11, (lsub l2_6 1 (llen l2_6)), w2_5, (subV w2_6 1 (llen l2_6)), hL73, S89, A2_, by simp [e2_4, e2_5, e2_6, e2_7, e2_8, e2_10, e2_11, e2_12, e2_26, e2_27], by simp [e2_4, e2_5, e2_6, e2_7, e2_8, e2_10, e2_11, e2_12, e2_26, e2_27], by simp [e2_4, e2_5, e2_6, e2_7, e2_8, e2_10, e2_11, e2_12, e2_26, e2_27], by simp [e2_4, e2_5, e2_6, e2_7, e2_8, e2_10, e2_11, e2_12, e2_26, e2_27], by simp [e2_4, e2_5, e2_6, e2_7, e2_8, e2_10, e2_11, e2_12, e2_26, e2_27], by simp [e2_4, e2_5, e2_6, e2_7, e2_8, e2_10, e2_11, e2_12, e2_26, e2_27], by simp [e2_4, e2_5, e2_6, e2_7, e2_8, e2_10, e2_11, e2_12, e2_26, e2_27], by simp [e2_4, e2_5, e2_6, e2_7, e2_8, e2_10, e2_11, e2_12, e2_26, e2_27], by simp [e2_4, e2_5, e2_6, e2_7, e2_8, e2_10, e2_11, e2_12, e2_26, e2_27], by simp [e2_4, e2_5, e2_6, e2_7, e2_8, e2_10, e2_11, e2_12, e2_26, e2_27]⟩
            · replace hL73 := cd_f hb87 hL73
              refine DWp.skip ?_
              simp only [andThen, leaves]
              refine DWp.seq ?_
              obtain ⟨g90, hL73⟩ := gd_some hL73
              have q91 := idxG (P := Try.prog) (kk := .i64) (S2_.sl (k := 4) rfl) el_87 sz_4 g90
              obtain ⟨G92, q93, S94, a96⟩ := S2_.storeG (f := Value.bool) (P := Try.prog) (k := 4) (x := true) rfl (hB.le A2_.1) sz_4 g90 rfl rfl
              have A95 := A2_.trans a96
              replace S94 : Sep G92 (Fr H) [flat c11_u0 3 (ints r1), flat c20_u0 3 (ints r2), rowsC w1_2 22 3 D1_2 (List.map ints l1_2), rowsC w1_3 22 3 D1_3 (List.map ints l1_3), flat v42 4 (bools (lset l2_4 (gat 0 l2_6 0) true)), flat w2_5 3 (ints l2_5), flat w2_6 3 (ints l2_6)] := S94
              refine DWp.region fun K hK => ?_
              simp [-aBin', -aBin, -aBinI, -aUn, -aNil, -flatV, n_fn, b_add, b_sub, b_mul, b_lt, b_le, b_gt, b_ge, b_eq, b_ne, u_not, e2_4, e2_5, e2_6, e2_7, e2_8, e2_10, e2_11, e2_12, e2_26, e2_27, q91, q93]
              apply hK
              clear hK K
              simp only [andThen, leaves]
              have S97 : Sep G92 (Fr H) [flat c11_u0 3 (ints r1), flat c20_u0 3 (ints r2), rowsC w1_2 22 3 D1_2 (List.map ints l1_2), rowsC w1_3 22 3 D1_3 (List.map ints l1_3), flat v42 4 (bools (lset l2_4 (gat 0 l2_6 0) true)), flat w2_5 3 (ints l2_5), flat (subV w2_6 1 (llen l2_6)) 3 (ints (lsub l2_6 1 (llen l2_6)))] := S94.resub (k := 6) rfl g82
              obtain ⟨s98, hL99, hL73⟩ := bd_some hL73
              refine DWp.seq (DWp.join (fun env G => Sep G (Fr H) [flat c11_u0 3 (ints r1), flat c20_u0 3 (ints r2), rowsC w1_2 22 3 D1_2 (List.map ints l1_2), rowsC w1_3 22 3 D1_3 (List.map ints l1_3), flat v42 4 (bools (lset l2_4 (gat 0 l2_6 0) true)), flat w2_5 3 (ints l2_5), flat (subV w2_6 1 (llen l2_6)) 3 (ints (lsub l2_6 1 (llen l2_6)))] ∧ AgB (Fr H) H G ∧ env 4 = some c11_u0 ∧ env 5 = some c20_u0 ∧ env 6 = some w1_2 ∧ env 7 = some w1_3 ∧ env 8 = some v42 ∧ env 10 = some w2_5 ∧ env 11 = some (Value.bool s98) ∧ env 12 = some (subV w2_6 1 (llen l2_6)) ∧ env 13 = some (Value.int .i64 (gat 0 l2_6 0)) ∧ env 26 = some (Value.int .i64 (llen r1)) ∧ env 27 = some (Value.int .i64 y1_27)) ?_ ?_)
              ·
                rcases Bool.eq_false_or_eq_true y2_11 with hb101 | hb101
                · replace hL99 := cd_t hb101 hL99
                  refine DWp.region fun K hK => ?_
                  simp [-aBin', -aBin, -aBinI, -aUn, -aNil, -flatV, n_fn, b_add, b_sub, b_mul, b_lt, b_le, b_gt, b_ge, b_eq, b_ne, u_not, e2_4, e2_5, e2_6, e2_7, e2_8, e2_10, e2_11, e2_12, e2_26, e2_27, hb101]
                  apply hK
                  clear hK K
                  simp only [andThen, leaves]
                  have S102 := S97.pick [0, 1, 2, 3, 4, 5, 6] (by decide) rfl
                  obtain rfl := Option.some.inj hL99
                  exact ⟨S102, A95, by simp [e2_4, e2_5, e2_6, e2_7, e2_8, e2_10, e2_11, e2_12, e2_26, e2_27], by simp [e2_4, e2_5, e2_6, e2_7, e2_8, e2_10, e2_11, e2_12, e2_26, e2_27], by simp [e2_4, e2_5, e2_6, e2_7, e2_8, e2_10, e2_11, e2_12, e2_26, e2_27], by simp [e2_4, e2_5, e2_6, e2_7, e2_8, e2_10, e2_11, e2_12, e2_26, e2_27], by simp [e2_4, e2_5, e2_6, e2_7, e2_8, e2_10, e2_11, e2_12, e2_26, e2_27], by simp [e2_4, e2_5, e2_6, e2_7, e2_8, e2_10, e2_11, e2_12, e2_26, e2_27], by simp [e2_4, e2_5, e2_6, e2_7, e2_8, e2_10, e2_11, e2_12, e2_26, e2_27], by simp [e2_4, e2_5, e2_6, e2_7, e2_8, e2_10, e2_11, e2_12, e2_26, e2_27], by simp [e2_4, e2_5, e2_6, e2_7, e2_8, e2_10, e2_11, e2_12, e2_26, e2_27], by simp [e2_4, e2_5, e2_6, e2_7, e2_8, e2_10, e2_11, e2_12, e2_26, e2_27], by simp [e2_4, e2_5, e2_6, e2_7, e2_8, e2_10, e2_11, e2_12, e2_26, e2_27]⟩
                · replace hL99 := cd_f hb101 hL99
                  obtain ⟨g103, hL99⟩ := gd_some hL99
                  have q104 := idxG (P := Try.prog) (kk := .i64) (S97.sl (k := 0) rfl) el_22 sz_3 g103
                  have q105 := loadG (P := Try.prog) (S97.sl (k := 0) rfl) sz_3 ag_3 g103 0
                  rcases Bool.eq_false_or_eq_true (ieq (gat 0 r1 (gat 0 l2_6 0)) (gat 0 l2_6 0)) with hb106 | hb106
                  · replace hL99 := cd_t hb106 hL99
                    refine DWp.region fun K hK => ?_
                    simp [-aBin', -aBin, -aBinI, -aUn, -aNil, -flatV, n_fn, b_add, b_sub, b_mul, b_lt, b_le, b_gt, b_ge, b_eq, b_ne, u_not, e2_4, e2_5, e2_6, e2_7, e2_8, e2_10, e2_11, e2_12, e2_26, e2_27, hb101, hb106, q104, q105]
                    apply hK
                    clear hK K
                    simp only [andThen, leaves]
                    have S107 := S97.pick [0, 1, 2, 3, 4, 5, 6] (by decide) rfl
                    obtain rfl := Option.some.inj hL99
                    exact ⟨S107, A95, by simp [e2_4, e2_5, e2_6, e2_7, e2_8, e2_10, e2_11, e2_12, e2_26, e2_27], by simp [e2_4, e2_5, e2_6, e2_7, e2_8, e2_10, e2_11, e2_12, e2_26, e2_27], by simp [e2_4, e2_5, e2_6, e2_7, e2_8, e2_10, e2_11, e2_12, e2_26, e2_27], by simp [e2_4, e2_5, e2_6, e2_7, e2_8, e2_10, e2_11, e2_12, e2_26, e2_27], by simp [e2_4, e2_5, e2_6, e2_7, e2_8, e2_10, e2_11, e2_12, e2_26, e2_27], by simp [e2_4, e2_5, e2_6, e2_7, e2_8, e2_10, e2_11, e2_12, e2_26, e2_27], by simp [e2_4, e2_5, e2_6, e2_7, e2_8, e2_10, e2_11, e2_12, e2_26, e2_27], by simp [e2_4, e2_5, e2_6, e2_7, e2_8, e2_10, e2_11, e2_12, e2_26, e2_27], by simp [e2_4, e2_5, e2_6, e2_7, e2_8, e2_10, e2_11, e2_12, e2_26, e2_27], by simp [e2_4, e2_5, e2_6, e2_7, e2_8, e2_10, e2_11, e2_12, e2_26, e2_27], by simp [e2_4, e2_5, e2_6, e2_7, e2_8, e2_10, e2_11, e2_12, e2_26, e2_27]⟩
                  · replace hL99 := cd_f hb106 hL99
                    obtain ⟨g108, hL99⟩ := gd_some hL99
                    have q109 := idxG (P := Try.prog) (kk := .i64) (S97.sl (k := 1) rfl) el_22 sz_3 g108
                    have q110 := loadG (P := Try.prog) (S97.sl (k := 1) rfl) sz_3 ag_3 g108 0
                    refine DWp.region fun K hK => ?_
                    simp [-aBin', -aBin, -aBinI, -aUn, -aNil, -flatV, n_fn, b_add, b_sub, b_mul, b_lt, b_le, b_gt, b_ge, b_eq, b_ne, u_not, e2_4, e2_5, e2_6, e2_7, e2_8, e2_10, e2_11, e2_12, e2_26, e2_27, hb101, hb106, q104, q105, q109, q110]
                    apply hK
                    clear hK K
                    simp only [andThen, leaves]
                    have S111 := S97.pick [0, 1, 2, 3, 4, 5, 6] (by decide) rfl
                    obtain rfl := Option.some.inj hL99
                    exact ⟨S111, A95, by simp [e2_4, e2_5, e2_6, e2_7, e2_8, e2_10, e2_11, e2_12, e2_26, e2_27], by simp [e2_4, e2_5, e2_6, e2_7, e2_8, e2_10, e2_11, e2_12, e2_26, e2_27], by simp [e2_4, e2_5, e2_6, e2_7, e2_8, e2_10, e2_11, e2_12, e2_26, e2_27], by simp [e2_4, e2_5, e2_6, e2_7, e2_8, e2_10, e2_11, e2_12, e2_26, e2_27], by simp [e2_4, e2_5, e2_6, e2_7, e2_8, e2_10, e2_11, e2_12, e2_26, e2_27], by simp [e2_4, e2_5, e2_6, e2_7, e2_8, e2_10, e2_11, e2_12, e2_26, e2_27], by simp [e2_4, e2_5, e2_6, e2_7, e2_8, e2_10, e2_11, e2_12, e2_26, e2_27], by simp [e2_4, e2_5, e2_6, e2_7, e2_8, e2_10, e2_11, e2_12, e2_26, e2_27], by simp [e2_4, e2_5, e2_6, e2_7, e2_8, e2_10, e2_11, e2_12, e2_26, e2_27], by simp [e2_4, e2_5, e2_6, e2_7, e2_8, e2_10, e2_11, e2_12, e2_26, e2_27], by simp [e2_4, e2_5, e2_6, e2_7, e2_8, e2_10, e2_11, e2_12, e2_26, e2_27]⟩
              · rintro env Gj112 ⟨Sj112, Aj112, ej112_4, ej112_5, ej112_6, ej112_7, ej112_8, ej112_10, ej112_11, ej112_12, ej112_13, ej112_26, ej112_27⟩
                obtain ⟨v113, G114, q115, S116, a118, fl119⟩ := Sj112.lit1E (P := Try.prog) (t := 22) (hB.le Aj112.1) el_22 ei_3 rfl (Value.int .i64 (gat 0 l2_6 0)) rfl rfl
                have A117 := Aj112.ext (hB.le Aj112.1) a118
                replace S116 : Sep G114 (Fr H) [flat c11_u0 3 (ints r1), flat c20_u0 3 (ints r2), rowsC w1_2 22 3 D1_2 (List.map ints l1_2), rowsC w1_3 22 3 D1_3 (List.map ints l1_3), flat v42 4 (bools (lset l2_4 (gat 0 l2_6 0) true)), flat w2_5 3 (ints l2_5), flat (subV w2_6 1 (llen l2_6)) 3 (ints (lsub l2_6 1 (llen l2_6))), flat1 v113 3 (ints [(gat 0 l2_6 0)])] := S116
                have q120 : RefK (kpl [c11_u0, c20_u0]) G114.length c11_u0 := refK_sl (S116.sl (k := 0) rfl) (by simp)
                obtain ⟨g121, hL73⟩ := gd_some hL73
                have q122 := idxG (P := Try.prog) (kk := .i64) (S116.sl (k := 0) rfl) el_22 sz_3 g121
                have q123 : RefK (kpl [c11_u0, c20_u0]) G114.length (elP c11_u0 ((gat 0 l2_6 0)).toNat) := refK_el (S116.sl (k := 0) rfl) (by simp) _
                have q124 := loadG (P := Try.prog) (S116.sl (k := 0) rfl) sz_3 ag_3 g121 0
                have q125 : RefK (kpl [c11_u0, c20_u0]) G114.length c20_u0 := refK_sl (S116.sl (k := 1) rfl) (by simp)
                obtain ⟨g126, hL73⟩ := gd_some hL73
                have q127 := idxG (P := Try.prog) (kk := .i64) (S116.sl (k := 1) rfl) el_22 sz_3 g126
                have q128 : RefK (kpl [c11_u0, c20_u0]) G114.length (elP c20_u0 ((gat 0 l2_6 0)).toNat) := refK_el (S116.sl (k := 1) rfl) (by simp) _
                have q129 := loadG (P := Try.prog) (S116.sl (k := 1) rfl) sz_3 ag_3 g126 0
                obtain ⟨v130, G131, q132, S133, a135, fl136⟩ := S116.lit2E (P := Try.prog) (t := 22) (hB.le A117.1) el_22 ei_3 rfl (Value.int .i64 (gat 0 r1 (gat 0 l2_6 0))) (Value.int .i64 (gat 0 r2 (gat 0 l2_6 0))) rfl rfl rfl rfl
                have A134 := A117.ext (hB.le A117.1) a135
                replace S133 : Sep G131 (Fr H) [flat c11_u0 3 (ints r1), flat c20_u0 3 (ints r2), rowsC w1_2 22 3 D1_2 (List.map ints l1_2), rowsC w1_3 22 3 D1_3 (List.map ints l1_3), flat v42 4 (bools (lset l2_4 (gat 0 l2_6 0) true)), flat w2_5 3 (ints l2_5), flat (subV w2_6 1 (llen l2_6)) 3 (ints (lsub l2_6 1 (llen l2_6))), flat1 v113 3 (ints [(gat 0 l2_6 0)]), flat1 v130 3 (ints [(gat 0 r1 (gat 0 l2_6 0)), (gat 0 r2 (gat 0 l2_6 0))])] := S133
                obtain ⟨g137, hL73⟩ := gd_some hL73
                obtain ⟨v143, G138, q139, S140, a142, _, _, h144⟩ := S133.appendS (f := (Value.int .i64)) (xs := l2_5) (ys := [(gat 0 l2_6 0)]) (P := Try.prog) (t := 22) (t2 := 22) (k := 5) rfl (hB.le A134.1) el_22 el_22 ei_3 rfl (S133.sl1 (k := 7) rfl) g137
                have t145 : Stand (kN G114.length) G131 G138 := stand_kN h144 S116 (k := 5) ⟨_, rfl⟩
                have t146 : Stand (kpl [c11_u0, c20_u0]) G131 G138 := stand_kpl h144 (by
                  simp only [List.mem_cons, List.not_mem_nil, or_false, forall_eq_or_imp, forall_eq, false_imp_iff, implies_true]
                  exact ⟨S116.ids_apart (k := 5) (j := 0) rfl rfl (by decide), S116.ids_apart (k := 5) (j := 1) rfl rfl (by decide)⟩)
                have A141 := A134.trans a142
                replace S140 : Sep G138 (Fr H) [flat c11_u0 3 (ints r1), flat c20_u0 3 (ints r2), rowsC w1_2 22 3 D1_2 (List.map ints l1_2), rowsC w1_3 22 3 D1_3 (List.map ints l1_3), flat v42 4 (bools (lset l2_4 (gat 0 l2_6 0) true)), flat v143 3 (ints (lapp l2_5 [(gat 0 l2_6 0)])), flat (subV w2_6 1 (llen l2_6)) 3 (ints (lsub l2_6 1 (llen l2_6))), flat1 v113 3 (ints [(gat 0 l2_6 0)]), flat1 v130 3 (ints [(gat 0 r1 (gat 0 l2_6 0)), (gat 0 r2 (gat 0 l2_6 0))])] := S140
                obtain ⟨g147, hL73⟩ := gd_some hL73
                obtain ⟨v153, G148, q149, S150, a152, _, _, h154⟩ := S140.appendS (f := (Value.int .i64)) (xs := (lsub l2_6 1 (llen l2_6))) (ys := [(gat 0 r1 (gat 0 l2_6 0)), (gat 0 r2 (gat 0 l2_6 0))]) (P := Try.prog) (t := 22) (t2 := 22) (k := 6) rfl (hB.le A141.1) el_22 el_22 ei_3 rfl (S140.sl1 (k := 8) rfl) g147
                have t155 : Stand (kN G114.length) G138 G148 := stand_kN h154 S116 (k := 6) ⟨_, rfl⟩
                have t156 : Stand (kpl [c11_u0, c20_u0]) G138 G148 := stand_kpl h154 (by
                  simp only [List.mem_cons, List.not_mem_nil, or_false, forall_eq_or_imp, forall_eq, false_imp_iff, implies_true]
                  exact ⟨S116.ids_apart (k := 6) (j := 0) rfl rfl (by decide), S116.ids_apart (k := 6) (j := 1) rfl rfl (by decide)⟩)
                have A151 := A141.trans a152
                replace S150 : Sep G148 (Fr H) [flat c11_u0 3 (ints r1), flat c20_u0 3 (ints r2), rowsC w1_2 22 3 D1_2 (List.map ints l1_2), rowsC w1_3 22 3 D1_3 (List.map ints l1_3), flat v42 4 (bools (lset l2_4 (gat 0 l2_6 0) true)), flat v143 3 (ints (lapp l2_5 [(gat 0 l2_6 0)])), flat v153 3 (ints (lapp (lsub l2_6 1 (llen l2_6)) [(gat 0 r1 (gat 0 l2_6 0)), (gat 0 r2 (gat 0 l2_6 0))])), flat1 v113 3 (ints [(gat 0 l2_6 0)]), flat1 v130 3 (ints [(gat 0 r1 (gat 0 l2_6 0)), (gat 0 r2 (gat 0 l2_6 0))])] := S150
                refine DWp.drawn0 (B := [0, 0, 2, 0, 0, 0, 48, 112, 0, 0, 768, 1792, 4080, 7, 16383, 32767, 65535]) (X0 := [6, 7, 10, 11, 12]) (π := [0, 1, 2, 4, 5, 6, 7, 8, 9, 10, 11, 12, 13, 3, 14, 15, 16]) (σ := [0, 1, 2, 13, 3, 4, 5, 6, 7, 8, 9, 10, 11, 12, 14, 15, 16]) 13 (kpl [c11_u0, c20_u0]) G114.length mixed (by kernel_rfl) (by kernel_rfl) (by decide) fun K hK => ?_
                simp only [rl0, rlb0, List.filterMap_cons, List.filterMap_nil, List.getElem?_cons_zero, List.getElem?_cons_succ, Option.map_some, Option.map_none]
                simp (config := { maxSteps := 4000000 }) [-aBin', -aBin, -aBinI, -aUn, -aNil, -flatV, n_fn, b_add, b_sub, b_mul, b_lt, b_le, b_gt, b_ge, b_eq, b_ne, u_not, ej112_4, ej112_5, ej112_6, ej112_7, ej112_8, ej112_10, ej112_11, ej112_12, ej112_13, ej112_26, ej112_27, q115, a118.to_pre, q120, q122, q123, q124, q125, q127, q128, q129, plainK_top, madeK_top, q132, a135.to_pre, q139, t145, t146, q149, t155, t156]
                apply hK
                clear hK K
                simp only [andThen, leaves]
                have S157 := S150.pick [0, 1, 2, 3, 4, 5, 6] (by decide) rfl
                exact ⟨n2, Nat.lt_succ_self _, (lset l2_4 (gat 0 l2_6 0) true), (lapp l2_5 [(gat 0 l2_6 0)]), s98, (lapp (lsub l2_6 1 (llen l2_6)) [(gat 0 r1 (gat 0 l2_6 0)), (gat 0 r2 (gat 0 l2_6 0))]), v143, v153, hL73, S157, A151, by simp [ej112_4, ej112_5, ej112_6, ej112_7, ej112_8, ej112_10, ej112_11, ej112_12, ej112_13, ej112_26, ej112_27], by simp [ej112_4, ej112_5, ej112_6, ej112_7, ej112_8, ej112_10, ej112_11, ej112_12, ej112_13, ej112_26, ej112_27], by simp [ej112_4, ej112_5, ej112_6, ej112_7, ej112_8, ej112_10, ej112_11, ej112_12, ej112_13, ej112_26, ej112_27], by simp [ej112_4, ej112_5, ej112_6, ej112_7, ej112_8, ej112_10, ej112_11, ej112_12, ej112_13, ej112_26, ej112_27], by simp [ej112_4, ej112_5, ej112_6, ej112_7, ej112_8, ej112_10, ej112_11, ej112_12, ej112_13, ej112_26, ej112_27], by simp [ej112_4, ej112_5, ej112_6, ej112_7, ej112_8, ej112_10, ej112_11, ej112_12, ej112_13, ej112_26, ej112_27], by simp [ej112_4, ej112_5, ej112_6, ej112_7, ej112_8, ej112_10, ej112_11, ej112_12, ej112_13, ej112_26, ej112_27], by simp [ej112_4, ej112_5, ej112_6, ej112_7, ej112_8, ej112_10, ej112_11, ej112_12, ej112_13, ej112_26, ej112_27], by simp [ej112_4, ej112_5, ej112_6, ej112_7, ej112_8, ej112_10, ej112_11, ej112_12, ej112_13, ej112_26, ej112_27], by simp [ej112_4, ej112_5, ej112_6, ej112_7, ej112_8, ej112_10, ej112_11, ej112_12, ej112_13, ej112_26, ej112_27]⟩
          · replace hL73 := cd_f hb78 hL73
            refine DWp.exit ?_
            simp only [andThen, leaves, if_true, if_false, reduceIte, Nat.reduceEqDiff]
            obtain rfl := Option.some.inj hL73
            try dsimp only at hL50
            refine DWp.seq ?_
            obtain ⟨r3, hc158, hL50⟩ := bd_some hL50
            refine DWp.region fun K hK => ?_
            simp [-aBin', -aBin, -aBinI, -aUn, -aNil, -flatV, n_fn, b_add, b_sub, b_mul, b_lt, b_le, b_gt, b_ge, b_eq, b_ne, u_not, e2_4, e2_5, e2_6, e2_7, e2_8, e2_10, e2_11, e2_12, e2_26, e2_27, ((S2_.sl (k := 5) rfl).tup)]
            have S159 : Sep G2_ (Fr H) ([flat w2_5 3 (ints l2_5)] ++ [flat c11_u0 3 (ints r1), flat c20_u0 3 (ints r2), rowsC w1_2 22 3 D1_2 (List.map ints l1_2), rowsC w1_3 22 3 D1_3 (List.map ints l1_3), flat v42 4 (bools l2_4), flat w2_6 3 (ints l2_6)]) := S2_.pick [5, 0, 1, 2, 3, 4, 6] (by decide) rfl
            obtain ⟨B165, S160, U161, M162, R163, C164⟩ := S159.frame (hB.le A2_.1)
            refine CallD.t (F_slices_Sort_Sint_w (fu := fu) U161 S160 hc158) ?_
            rintro _ G167 ⟨a170, rfl, S171⟩
            have A169 := A2_.trans (a170.mono M162)
            have S168 : Sep G167 (Fr H) [flat w2_5 3 (ints r3), flat c11_u0 3 (ints r1), flat c20_u0 3 (ints r2), rowsC w1_2 22 3 D1_2 (List.map ints l1_2), rowsC w1_3 22 3 D1_3 (List.map ints l1_3), flat v42 4 (bools l2_4), flat w2_6 3 (ints l2_6)] := C164 _ _ a170 S171
            simp [-aBin', -aBin, -aBinI, -aUn, -aNil, -flatV, n_fn, b_add, b_sub, b_mul, b_lt, b_le, b_gt, b_ge, b_eq, b_ne, u_not, e2_4, e2_5, e2_6, e2_7, e2_8, e2_10, e2_11, e2_12, e2_26, e2_27]
            apply hK
            clear hK K
            simp only [andThen, leaves]
            refine DWp.seq ?_
            refine DWp.region fun K hK => ?_
            simp [-aBin', -aBin, -aBinI, -aUn, -aNil, -flatV, n_fn, b_add, b_sub, b_mul, b_lt, b_le, b_gt, b_ge, b_eq, b_ne, u_not, e2_4, e2_5, e2_6, e2_7, e2_8, e2_10, e2_11, e2_12, e2_26, e2_27]
            apply hK
            clear hK K
            simp only [andThen, leaves]
            refine DWp.cond' (t := y2_11) (by simp [e2_4, e2_5, e2_6, e2_7, e2_8, e2_10, e2_11, e2_12, e2_26, e2_27]) (fun hb172 => ?_) (fun hb172 => ?_)
            · replace hL50 := cd_t hb172 hL50
              obtain ⟨v173, G174, q175, S176, a178, _, _⟩ := S168.lit1 (P := Try.prog) (t := 46) (hB.le A169.1) el_46 ei_22 rfl w2_5 ((S168.sl (k := 0) rfl).tup) ((S168.sl (k := 0) rfl).one)
              have A177 := A169.ext (hB.le A169.1) a178
              replace S176 : Sep G174 (Fr H) [flat w2_5 3 (ints r3), flat c11_u0 3 (ints r1), flat c20_u0 3 (ints r2), rowsC w1_2 22 3 D1_2 (List.map ints l1_2), rowsC w1_3 22 3 D1_3 (List.map ints l1_3), flat v42 4 (bools l2_4), flat w2_6 3 (ints l2_6), flat1 v173 22 [w2_5]] := S176
              obtain ⟨g179, hL50⟩ := gd_some hL50
              obtain ⟨v185, G180, q181, S182, a184, q181t, _⟩ := S176.pushRow (fr := ints) (X := l1_2) (y := r3) (P := Try.prog) (t := 46) (t2 := 46) (j := 3) (k := 0) (by decide) rfl rfl (hB.le A177.1) el_46 el_46 ei_22 rfl (S176.sl1 (k := 7) rfl) g179
              have A183 := A177.trans a184
              replace S182 : Sep G180 (Fr H) [emp, flat c11_u0 3 (ints r1), flat c20_u0 3 (ints r2), rowsC v185 22 3 (D1_2 ++ [w2_5]) (List.map ints (lapp l1_2 [r3])), rowsC w1_3 22 3 D1_3 (List.map ints l1_3), flat v42 4 (bools l2_4), flat w2_6 3 (ints l2_6), flat1 v173 22 [w2_5]] := S182
              refine DWp.region fun K hK => ?_
              simp [-aBin', -aBin, -aBinI, -aUn, -aNil, -flatV, n_fn, b_add, b_sub, b_mul, b_lt, b_le, b_gt, b_ge, b_eq, b_ne, u_not, e2_4, e2_5, e2_6, e2_7, e2_8, e2_10, e2_11, e2_12, e2_26, e2_27, q175, a178.to_pre, ((S168.sl (k := 0) rfl).tup), q181, q181t]
              apply hK
              clear hK K
              simp only [andThen, leaves]
              refine DWp.region fun K hK => ?_
              simp [-aBin', -aBin, -aBinI, -aUn, -aNil, -flatV, n_fn, b_add, b_sub, b_mul, b_lt, b_le, b_gt, b_ge, b_eq, b_ne, u_not, e2_4, e2_5, e2_6, e2_7, e2_8, e2_10, e2_11, e2_12, e2_26, e2_27]
              apply hK
              clear hK K
              simp only [andThen, leaves]
              have S186 := S182.pick [1, 2, 3, 4, 5] (by decide) rfl
              exact ⟨n1, Nat.lt_succ_self _, (lapp l1_2 [r3]), l1_3, l2_4, (iadd .i64 y1_27 1), v185, (D1_2 ++ [w2_5]), w1_3, D1_3, hL50, S186, A183, by simp [e2_4, e2_5, e2_6, e2_7, e2_8, e2_10, e2_11, e2_12, e2_26, e2_27], by simp [e2_4, e2_5, e2_6, e2_7, e2_8, e2_10, e2_11, e2_12, e2_26, e2_27], by simp [e2_4, e2_5, e2_6, e2_7, e2_8, e2_10, e2_11, e2_12, e2_26, e2_27], by simp [e2_4, e2_5, e2_6, e2_7, e2_8, e2_10, e2_11, e2_12, e2_26, e2_27], by simp [e2_4, e2_5, e2_6, e2_7, e2_8, e2_10, e2_11, e2_12, e2_26, e2_27], by simp [e2_4, e2_5, e2_6, e2_7, e2_8, e2_10, e2_11, e2_12, e2_26, e2_27], by simp [e2_4, e2_5, e2_6, e2_7, e2_8, e2_10, e2_11, e2_12, e2_26, e2_27]⟩
            · replace hL50 := cd_f hb172 hL50
              obtain ⟨v187, G188, q189, S190, a192, _, _⟩ := S168.lit1 (P := Try.prog) (t := 46) (hB.le A169.1) el_46 ei_22 rfl w2_5 ((S168.sl (k := 0) rfl).tup) ((S168.sl (k := 0) rfl).one)
              have A191 := A169.ext (hB.le A169.1) a192
              replace S190 : Sep G188 (Fr H) [flat w2_5 3 (ints r3), flat c11_u0 3 (ints r1), flat c20_u0 3 (ints r2), rowsC w1_2 22 3 D1_2 (List.map ints l1_2), rowsC w1_3 22 3 D1_3 (List.map ints l1_3), flat v42 4 (bools l2_4), flat w2_6 3 (ints l2_6), flat1 v187 22 [w2_5]] := S190
              obtain ⟨g193, hL50⟩ := gd_some hL50
              obtain ⟨v199, G194, q195, S196, a198, q195t, _⟩ := S190.pushRow (fr := ints) (X := l1_3) (y := r3) (P := Try.prog) (t := 46) (t2 := 46) (j := 4) (k := 0) (by decide) rfl rfl (hB.le A191.1) el_46 el_46 ei_22 rfl (S190.sl1 (k := 7) rfl) g193
              have A197 := A191.trans a198
              replace S196 : Sep G194 (Fr H) [emp, flat c11_u0 3 (ints r1), flat c20_u0 3 (ints r2), rowsC w1_2 22 3 D1_2 (List.map ints l1_2), rowsC v199 22 3 (D1_3 ++ [w2_5]) (List.map ints (lapp l1_3 [r3])), flat v42 4 (bools l2_4), flat w2_6 3 (ints l2_6), flat1 v187 22 [w2_5]] := S196
              refine DWp.region fun K hK => ?_
              simp [-aBin', -aBin, -aBinI, -aUn, -aNil, -flatV, n_fn, b_add, b_sub, b_mul, b_lt, b_le, b_gt, b_ge, b_eq, b_ne, u_not, e2_4, e2_5, e2_6, e2_7, e2_8, e2_10, e2_11, e2_12, e2_26, e2_27, q189, a192.to_pre, ((S168.sl (k := 0) rfl).tup), q195, q195t]
              apply hK
              clear hK K
              simp only [andThen, leaves]
              refine DWp.region fun K hK => ?_
              simp [-aBin', -aBin, -aBinI, -aUn, -aNil, -flatV, n_fn, b_add, b_sub, b_mul, b_lt, b_le, b_gt, b_ge, b_eq, b_ne, u_not, e2_4, e2_5, e2_6, e2_7, e2_8, e2_10, e2_11, e2_12, e2_26, e2_27]
              apply hK
              clear hK K
              simp only [andThen, leaves]
              have S200 := S196.pick [1, 2, 3, 4, 5] (by decide) rfl
              exact ⟨n1, Nat.lt_succ_self _, l1_2, (lapp l1_3 [r3]), l2_4, (iadd .i64 y1_27 1), w1_2, D1_2, v199, (D1_3 ++ [w2_5]), hL50, S200, A197, by simp [e2_4, e2_5, e2_6, e2_7, e2_8, e2_10, e2_11, e2_12, e2_26, e2_27], by simp [e2_4, e2_5, e2_6, e2_7, e2_8, e2_10, e2_11, e2_12, e2_26, e2_27], by simp [e2_4, e2_5, e2_6, e2_7, e2_8, e2_10, e2_11, e2_12, e2_26, e2_27], by simp [e2_4, e2_5, e2_6, e2_7, e2_8, e2_10, e2_11, e2_12, e2_26, e2_27], by simp [e2_4, e2_5, e2_6, e2_7, e2_8, e2_10, e2_11, e2_12, e2_26, e2_27], by simp [e2_4, e2_5, e2_6, e2_7, e2_8, e2_10, e2_11, e2_12, e2_26, e2_27], by simp [e2_4, e2_5, e2_6, e2_7, e2_8, e2_10, e2_11, e2_12, e2_26, e2_27]⟩
    · replace hL50 := cd_f hb52 hL50
      refine DWp.exit ?_
      simp only [andThen, leaves, if_true, if_false, reduceIte, Nat.reduceEqDiff]
      obtain rfl := Option.some.inj hL50
      try dsimp only at hF
      refine DWp.seq ?_
      refine DWp.region fun K hK => ?_
      simp [-aBin', -aBin, -aBinI, -aUn, -aNil, -flatV, n_fn, b_add, b_sub, b_mul, b_lt, b_le, b_gt, b_ge, b_eq, b_ne, u_not, e1_4, e1_5, e1_6, e1_7, e1_8, e1_26, e1_27]
      apply hK
      clear hK K
      simp only [andThen, leaves]
      refine DWp.ret ?_
      obtain rfl := Option.some.inj hF
      exact ⟨by simp, [w1_2, w1_3], by simp [e1_4, e1_5, e1_6, e1_7, e1_8, e1_26, e1_27, ((S1_.rd (k := 2) rfl).tup), ((S1_.rd (k := 3) rfl).tup)], A1_, w1_2, D1_2, w1_3, D1_3, rfl, S1_.pick [2, 3] (by decide) rfl⟩
/-! (loop.example/g01126/impl.Seaweed).index -/
def F_impl_Seaweed_index (fu : Nat) (x0_0 : List Int) (x0_1 : List Int) : Option (Int) :=
  bd (F_impl_Seaweed_groups fu x0_0 x0_1) fun r1 =>
  some (isub .i64 (iadd .i64 (imul .i64 2 (llen r1.2)) (llen r1.1)) 1)
theorem F_impl_Seaweed_index_w {fu : Nat} {H : AH} {v0_0 : Value} {v0_1 : Value} {x0_0 : List Int} {x0_1 : List Int} {r : (Int)} (hx0_0 : Sl H v0_0 (ints x0_0)) (hx0_1 : Sl H v0_1 (ints x0_1)) (hF : F_impl_Seaweed_index fu x0_0 x0_1 = some r) :
    ACallT Try.prog 66 [(Value.agg #[v0_0, v0_1])] H (fun u G => AgB (Fr H) H G ∧ u = (Value.int .i64 r) ∧ Sep G (Fr H) []) := by
  refine ACallT.of_body (nt := 17) (rs := [.tmp 2]) Try.func66 rfl rfl rfl rfl ?_
  have A0 : AgB (Fr H) H H := .refl _ _
  have S0 : Sep H (Fr H) [] := .nil
  have hB := Fr.up H
  unfold F_impl_Seaweed_index at hF
  refine DWp.seq ?_
  obtain ⟨G2, p4, q5, q6, a7, S1⟩ := S0.boxT (hB.le A0.1) 26 [v0_0, v0_1]
  have A3 := A0.ext (hB.le A0.1) a7
  replace S1 : Sep G2 (Fr H) [AL.box p4 [v0_0, v0_1]] := S1
  refine DWp.region fun K hK => ?_
  simp [-aBin', -aBin, -aBinI, -aUn, -aNil, -flatV, n_fn, b_add, b_sub, b_mul, b_lt, b_le, b_gt, b_ge, b_eq, b_ne, u_not, q5, q6, a7.to_pre, cells_agg]
  apply hK
  clear hK K
  simp only [andThen, leaves]
  refine DWp.seq ?_
  have q8 := S1.loadAgg (P := Try.prog) (k := 0) rfl sz_26 ag_26 rfl
  obtain ⟨r1, hc9, hF⟩ := bd_some hF
  refine DWp.region fun K hK => ?_
  simp [-aBin', -aBin, -aBinI, -aUn, -aNil, -flatV, n_fn, b_add, b_sub, b_mul, b_lt, b_le, b_gt, b_ge, b_eq, b_ne, u_not, q8, ((hx0_0.agree A3.agree).tup), ((hx0_1.agree A3.agree).tup)]
  refine CallD.t (F_impl_Seaweed_groups_w (fu := fu) (hx0_0.agree A3.agree) (hx0_1.agree A3.agree) hc9) ?_
  rintro _ G11 ⟨a14, c10_u0, c10_C0, c10_u2, c10_C2, rfl, S15⟩
  have A13 := A3.ext (hB.le A3.1) a14.agree
  have S12 : Sep G11 (Fr H) [AL.box p4 [v0_0, v0_1], rowsC c10_u0 22 3 c10_C0 (List.map ints r1.1), rowsC c10_u2 22 3 c10_C2 (List.map ints r1.2)] := S1.app a14.agree S15 (fun _ h => h) (hB.le A3.1)
  simp [-aBin', -aBin, -aBinI, -aUn, -aNil, -flatV, n_fn, b_add, b_sub, b_mul, b_lt, b_le, b_gt, b_ge, b_eq, b_ne, u_not, q8, a14.pre]
  apply hK
  clear hK K
  simp only [andThen, leaves]
  refine DWp.seq ?_
  have q16 := (S12.rd (k := 2) rfl).lenG (P := Try.prog) el_46
  have q17 := (S12.rd (k := 1) rfl).lenG (P := Try.prog) el_46
  refine DWp.region fun K hK => ?_
  simp [-aBin', -aBin, -aBinI, -aUn, -aNil, -flatV, n_fn, b_add, b_sub, b_mul, b_lt, b_le, b_gt, b_ge, b_eq, b_ne, u_not, q16, q17]
  apply hK
  clear hK K
  simp only [andThen, leaves]
  refine DWp.ret ?_
  obtain rfl := Option.some.inj hF
  exact ⟨by simp, [(Value.int .i64 (isub .i64 (iadd .i64 (imul .i64 2 (llen r1.2)) (llen r1.1)) 1))], by simp [], A13, rfl, S12.pick [] (by decide) rfl⟩
/-! loop.example/g01126/impl.indexFor -/
def F_impl_indexFor (fu : Nat) (x0 : List Int) : Option (Int × Bool) :=
  bd (F_impl_areParts fu x0) fun r1 =>
  bif (bnot r1) then
    some (0, false)
  else
    bd (F_impl_sum fu x0) fun r2 =>
    bd (F_impl_Seaweed_index fu x0 [r2]) fun r3 =>
    some (r3, true)
theorem F_impl_indexFor_w {fu : Nat} {H : AH} {v0 : Value} {x0 : List Int} {r : (Int × Bool)} (hx0 : Sl H v0 (ints x0)) (hF : F_impl_indexFor fu x0 = some r) :
    ACallT Try.prog 60 [v0] H (fun u G => AgB (Fr H) H G ∧ u = (Value.tuple #[(Value.int .i64 r.1), (Value.bool r.2)]) ∧ Sep G (Fr H) []) := by
  refine ACallT.of_body (nt := 13) (rs := [.tmp 2, .tmp 3]) Try.func60 rfl rfl rfl rfl ?_
  have A0 : AgB (Fr H) H H := .refl _ _
  have S0 : Sep H (Fr H) [] := .nil
  have hB := Fr.up H
  unfold F_impl_indexFor at hF
  refine DWp.seq ?_
  refine DWp.region fun K hK => ?_
  simp [-aBin', -aBin, -aBinI, -aUn, -aNil, -flatV, n_fn, b_add, b_sub, b_mul, b_lt, b_le, b_gt, b_ge, b_eq, b_ne, u_not]
  apply hK
  clear hK K
  simp only [andThen, leaves]
  refine DWp.seq ?_
  refine DWp.seq ?_
  obtain ⟨r1, hc1, hF⟩ := bd_some hF
  refine DWp.region fun K hK => ?_
  simp [-aBin', -aBin, -aBinI, -aUn, -aNil, -flatV, n_fn, b_add, b_sub, b_mul, b_lt, b_le, b_gt, b_ge, b_eq, b_ne, u_not, ((hx0.agree A0.agree).tup)]
  refine CallD.t (F_impl_areParts_w (fu := fu) (hx0.agree A0.agree) hc1) ?_
  rintro _ G3 ⟨a6, rfl, S7⟩
  have A5 := A0.ext (hB.le A0.1) a6.agree
  have S4 : Sep G3 (Fr H) [] := S0.app a6.agree S7 (fun _ h => h) (hB.le A0.1)
  simp [-aBin', -aBin, -aBinI, -aUn, -aNil, -flatV, n_fn, b_add, b_sub, b_mul, b_lt, b_le, b_gt, b_ge, b_eq, b_ne, u_not, a6.pre]
  apply hK
  clear hK K
  simp only [andThen, leaves]
  refine DWp.cond' (t := (bnot r1)) (by simp []) (fun hb8 => ?_) (fun hb8 => ?_)
  · replace hF := cd_t hb8 hF
    refine DWp.seq ?_
    refine DWp.region fun K hK => ?_
    simp [-aBin', -aBin, -aBinI, -aUn, -aNil, -flatV, n_fn, b_add, b_sub, b_mul, b_lt, b_le, b_gt, b_ge, b_eq, b_ne, u_not]
    apply hK
    clear hK K
    simp only [andThen, leaves]
    refine DWp.ret ?_
    simp only [andThen, leaves]
    obtain rfl := Option.some.inj hF
    exact ⟨by simp, [(Value.int .i64 0), (Value.bool false)], by simp [], A5, rfl, S4.pick [] (by decide) rfl⟩
  · replace hF := cd_f hb8 hF
    refine DWp.skip ?_
    simp only [andThen, leaves]
    refine DWp.seq ?_
    obtain ⟨r2, hc9, hF⟩ := bd_some hF
    refine DWp.region fun K hK => ?_
    simp [-aBin', -aBin, -aBinI, -aUn, -aNil, -flatV, n_fn, b_add, b_sub, b_mul, b_lt, b_le, b_gt, b_ge, b_eq, b_ne, u_not, ((hx0.agree A5.agree).tup)]
    refine CallD.t (F_impl_sum_w (fu := fu) (hx0.agree A5.agree) hc9) ?_
    rintro _ G11 ⟨a14, rfl, S15⟩
    have A13 := A5.ext (hB.le A5.1) a14.agree
    have S12 : Sep G11 (Fr H) [] := S4.app a14.agree S15 (fun _ h => h) (hB.le A5.1)
    obtain ⟨v16, G17, q18, S19, a21, _, _⟩ := S12.lit1 (P := Try.prog) (t := 22) (hB.le A13.1) el_22 ei_3 rfl (Value.int .i64 r2) rfl rfl
    have A20 := A13.ext (hB.le A13.1) a21
    replace S19 : Sep G17 (Fr H) [flat1 v16 3 (ints [r2])] := S19
    obtain ⟨r3, hc23, hF⟩ := bd_some hF
    simp [-aBin', -aBin, -aBinI, -aUn, -aNil, -flatV, n_fn, b_add, b_sub, b_mul, b_lt, b_le, b_gt, b_ge, b_eq, b_ne, u_not, a14.pre, q18, a21.to_pre, bu_26 ((hx0.agree A20.agree).tup) ((hx0.agree A20.agree).one) ((S19.sl1 (k := 0) rfl).tup) ((S19.sl1 (k := 0) rfl).one), ((hx0.agree A20.agree).tup), ((S19.sl1 (k := 0) rfl).tup)]
    refine CallD.t (F_impl_Seaweed_index_w (fu := fu) (hx0.agree A20.agree) (S19.sl1 (k := 0) rfl) hc23) ?_
    rintro _ G25 ⟨a28, rfl, S29⟩
    have A27 := A20.ext (hB.le A20.1) a28.agree
    have S26 : Sep G25 (Fr H) [flat1 v16 3 (ints [r2])] := S19.app a28.agree S29 (fun _ h => h) (hB.le A20.1)
    simp [-aBin', -aBin, -aBinI, -aUn, -aNil, -flatV, n_fn, b_add, b_sub, b_mul, b_lt, b_le, b_gt, b_ge, b_eq, b_ne, u_not, a14.pre, q18, a21.to_pre, bu_26 ((hx0.agree A20.agree).tup) ((hx0.agree A20.agree).one) ((S19.sl1 (k := 0) rfl).tup) ((S19.sl1 (k := 0) rfl).one), a28.pre]
    apply hK
    clear hK K
    simp only [andThen, leaves]
    refine DWp.ret ?_
    obtain rfl := Option.some.inj hF
    exact ⟨by simp, [(Value.int .i64 r3), (Value.bool true)], by simp [], A27, rfl, S26.pick [] (by decide) rfl⟩
/-! loop.example/g01126/impl.IndexOfThree -/
def F_impl_IndexOfThree (fu : Nat) (x0 : Int) (x1 : Int) (x2 : Int) : Option (Int × Bool) :=
  bd (F_impl_indexFor fu [x0, x1, x2]) fun r1 =>
  some (r1.1, r1.2)
theorem F_impl_IndexOfThree_w {fu : Nat} {H : AH}  {x0 : Int} {x1 : Int} {x2 : Int} {r : (Int × Bool)}  (hF : F_impl_IndexOfThree fu x0 x1 x2 = some r) :
    ACallT Try.prog 20 [(Value.int .i64 x0), (Value.int .i64 x1), (Value.int .i64 x2)] H (fun u G => AgB (Fr H) H G ∧ u = (Value.tuple #[(Value.int .i64 r.1), (Value.bool r.2)]) ∧ Sep G (Fr H) []) := by
  refine ACallT.of_body (nt := 15) (rs := [.tmp 6, .tmp 7]) Try.func20 rfl rfl rfl rfl ?_
  have A0 : AgB (Fr H) H H := .refl _ _
  have S0 : Sep H (Fr H) [] := .nil
  have hB := Fr.up H
  unfold F_impl_IndexOfThree at hF
  refine DWp.seq ?_
  refine DWp.region fun K hK => ?_
  simp [-aBin', -aBin, -aBinI, -aUn, -aNil, -flatV, n_fn, b_add, b_sub, b_mul, b_lt, b_le, b_gt, b_ge, b_eq, b_ne, u_not]
  apply hK
  clear hK K
  simp only [andThen, leaves]
  refine DWp.seq ?_
  obtain ⟨v1, G2, q3, S4, a6, _, _⟩ := S0.lit3 (P := Try.prog) (t := 22) (hB.le A0.1) el_22 ei_3 rfl (Value.int .i64 x0) (Value.int .i64 x1) (Value.int .i64 x2) rfl rfl rfl rfl rfl rfl
  have A5 := A0.ext (hB.le A0.1) a6
  replace S4 : Sep G2 (Fr H) [flat1 v1 3 (ints [x0, x1, x2])] := S4
  obtain ⟨r1, hc8, hF⟩ := bd_some hF
  refine DWp.region fun K hK => ?_
  simp [-aBin', -aBin, -aBinI, -aUn, -aNil, -flatV, n_fn, b_add, b_sub, b_mul, b_lt, b_le, b_gt, b_ge, b_eq, b_ne, u_not, q3, a6.to_pre, ((S4.sl1 (k := 0) rfl).tup)]
  refine CallD.t (F_impl_indexFor_w (fu := fu) (S4.sl1 (k := 0) rfl) hc8) ?_
  rintro _ G10 ⟨a13, rfl, S14⟩
  have A12 := A5.ext (hB.le A5.1) a13.agree
  have S11 : Sep G10 (Fr H) [flat1 v1 3 (ints [x0, x1, x2])] := S4.app a13.agree S14 (fun _ h => h) (hB.le A5.1)
  simp [-aBin', -aBin, -aBinI, -aUn, -aNil, -flatV, n_fn, b_add, b_sub, b_mul, b_lt, b_le, b_gt, b_ge, b_eq, b_ne, u_not, q3, a6.to_pre, a13.pre]
  apply hK
  clear hK K
  simp only [andThen, leaves]
  refine DWp.ret ?_
  obtain rfl := Option.some.inj hF
  exact ⟨by simp, [(Value.int .i64 r1.1), (Value.bool r1.2)], by simp [], A12, rfl, S11.pick [] (by decide) rfl⟩
/-! loop.example/g01126/laws.FnExactIndexOfThree -/
def F_laws_FnExactIndexOfThree (fu : Nat) (x0 : Int) (x1 : Int) (x2 : Int) : Option (Bool) :=
  bd (F_spec_IndexOfThree fu x0 x1 x2) fun r1 =>
  bd (F_impl_IndexOfThree fu x0 x1 x2) fun r2 =>
  bd (
    bif (ine r2.1 r1.1) then
      some true
    else
      some (bne' r2.2 r1.2)) fun s15 =>
  bif s15 then
    some false
  else
    some true
theorem F_laws_FnExactIndexOfThree_w {fu : Nat} {H : AH}  {x0 : Int} {x1 : Int} {x2 : Int} {r : (Bool)}  (hF : F_laws_FnExactIndexOfThree fu x0 x1 x2 = some r) :
    ACallT Try.prog 4 [(Value.int .i64 x0), (Value.int .i64 x1), (Value.int .i64 x2)] H (fun u G => AgB (Fr H) H G ∧ u = (Value.bool r) ∧ Sep G (Fr H) []) := by
  refine ACallT.of_body (nt := 33) (rs := [.tmp 6]) Try.func4 rfl rfl rfl rfl ?_
  have A0 : AgB (Fr H) H H := .refl _ _
  have S0 : Sep H (Fr H) [] := .nil
  have hB := Fr.up H
  unfold F_laws_FnExactIndexOfThree at hF
  refine DWp.seq ?_
  refine DWp.region fun K hK => ?_
  simp [-aBin', -aBin, -aBinI, -aUn, -aNil, -flatV, n_fn, b_add, b_sub, b_mul, b_lt, b_le, b_gt, b_ge, b_eq, b_ne, u_not]
  apply hK
  clear hK K
  simp only [andThen, leaves]
  refine DWp.seq ?_
  obtain ⟨r1, hc1, hF⟩ := bd_some hF
  refine DWp.region fun K hK => ?_
  simp [-aBin', -aBin, -aBinI, -aUn, -aNil, -flatV, n_fn, b_add, b_sub, b_mul, b_lt, b_le, b_gt, b_ge, b_eq, b_ne, u_not]
  refine CallD.t (F_spec_IndexOfThree_w (fu := fu)  hc1) ?_
  rintro _ G3 ⟨a6, rfl, S7⟩
  have A5 := A0.ext (hB.le A0.1) a6.agree
  have S4 : Sep G3 (Fr H) [] := S0.app a6.agree S7 (fun _ h => h) (hB.le A0.1)
  simp [-aBin', -aBin, -aBinI, -aUn, -aNil, -flatV, n_fn, b_add, b_sub, b_mul, b_lt, b_le, b_gt, b_ge, b_eq, b_ne, u_not, a6.pre]
  apply hK
  clear hK K
  simp only [andThen, leaves]
  refine DWp.seq ?_
  obtain ⟨r2, hc8, hF⟩ := bd_some hF
  refine DWp.region fun K hK => ?_
  simp [-aBin', -aBin, -aBinI, -aUn, -aNil, -flatV, n_fn, b_add, b_sub, b_mul, b_lt, b_le, b_gt, b_ge, b_eq, b_ne, u_not]
  refine CallD.t (F_impl_IndexOfThree_w (fu := fu)  hc8) ?_
  rintro _ G10 ⟨a13, rfl, S14⟩
  have A12 := A5.ext (hB.le A5.1) a13.agree
  have S11 : Sep G10 (Fr H) [] := S4.app a13.agree S14 (fun _ h => h) (hB.le A5.1)
  simp [-aBin', -aBin, -aBinI, -aUn, -aNil, -flatV, n_fn, b_add, b_sub, b_mul, b_lt, b_le, b_gt, b_ge, b_eq, b_ne, u_not, a13.pre]
  apply hK
  clear hK K
  simp only [andThen, leaves]
  refine DWp.seq ?_
  obtain ⟨s15, hL16, hF⟩ := bd_some hF
  refine DWp.seq (DWp.join (fun env G => Sep G (Fr H) [] ∧ AgB (Fr H) H G ∧ env 32 = some (Value.bool s15)) ?_ ?_)
  ·
    rcases Bool.eq_false_or_eq_true (ine r2.1 r1.1) with hb18 | hb18
    · replace hL16 := cd_t hb18 hL16
      refine DWp.region fun K hK => ?_
      simp [-aBin', -aBin, -aBinI, -aUn, -aNil, -flatV, n_fn, b_add, b_sub, b_mul, b_lt, b_le, b_gt, b_ge, b_eq, b_ne, u_not, hb18]
      apply hK
      clear hK K
      simp only [andThen, leaves]
      have S19 := S11.pick [] (by decide) rfl
      obtain rfl := Option.some.inj hL16
      exact ⟨S19, A12, by simp []⟩
    · replace hL16 := cd_f hb18 hL16
      refine DWp.region fun K hK => ?_
      simp [-aBin', -aBin, -aBinI, -aUn, -aNil, -flatV, n_fn, b_add, b_sub, b_mul, b_lt, b_le, b_gt, b_ge, b_eq, b_ne, u_not, hb18, b_bne un_4]
      apply hK
      clear hK K
      simp only [andThen, leaves]
      have S20 := S11.pick [] (by decide) rfl
      obtain rfl := Option.some.inj hL16
      exact ⟨S20, A12, by simp []⟩
  · rintro env Gj21 ⟨Sj21, Aj21, ej21_32⟩
    refine DWp.cond' (t := s15) (by simp [ej21_32]) (fun hb22 => ?_) (fun hb22 => ?_)
    · replace hF := cd_t hb22 hF
      refine DWp.seq ?_
      refine DWp.region fun K hK => ?_
      simp [-aBin', -aBin, -aBinI, -aUn, -aNil, -flatV, n_fn, b_add, b_sub, b_mul, b_lt, b_le, b_gt, b_ge, b_eq, b_ne, u_not, ej21_32]
      apply hK
      clear hK K
      simp only [andThen, leaves]
      refine DWp.ret ?_
      simp only [andThen, leaves]
      obtain rfl := Option.some.inj hF
      exact ⟨by simp, [(Value.bool false)], by simp [ej21_32], Aj21, rfl, Sj21.pick [] (by decide) rfl⟩
    · replace hF := cd_f hb22 hF
      refine DWp.skip ?_
      simp only [andThen, leaves]
      refine DWp.seq ?_
      refine DWp.region fun K hK => ?_
      simp [-aBin', -aBin, -aBinI, -aUn, -aNil, -flatV, n_fn, b_add, b_sub, b_mul, b_lt, b_le, b_gt, b_ge, b_eq, b_ne, u_not, ej21_32]
      apply hK
      clear hK K
      simp only [andThen, leaves]
      refine DWp.ret ?_
      obtain rfl := Option.some.inj hF
      exact ⟨by simp, [(Value.bool true)], by simp [ej21_32], Aj21, rfl, Sj21.pick [] (by decide) rfl⟩
/-! loop.example/g01126/spec.IndexOfTwo -/
def F_spec_IndexOfTwo (fu : Nat) (x0 : Int) (x1 : Int) : Option (Int × Bool) :=
  bd (F_spec_swParts fu [x0, x1]) fun r1 =>
  bif (bnot r1) then
    some (0, false)
  else
    bd (F_spec_swGcd fu x0 x1) fun r2 =>
    some ((isub .i64 r2 1), true)
theorem F_spec_IndexOfTwo_w {fu : Nat} {H : AH}  {x0 : Int} {x1 : Int} {r : (Int × Bool)}  (hF : F_spec_IndexOfTwo fu x0 x1 = some r) :
    ACallT Try.prog 21 [(Value.int .i64 x0), (Value.int .i64 x1)] H (fun u G => AgB (Fr H) H G ∧ u = (Value.tuple #[(Value.int .i64 r.1), (Value.bool r.2)]) ∧ Sep G (Fr H) []) := by
  refine ACallT.of_body (nt := 15) (rs := [.tmp 4, .tmp 5]) Try.func21 rfl rfl rfl rfl ?_
  have A0 : AgB (Fr H) H H := .refl _ _
  have S0 : Sep H (Fr H) [] := .nil
  have hB := Fr.up H
  unfold F_spec_IndexOfTwo at hF
  refine DWp.seq ?_
  refine DWp.region fun K hK => ?_
  simp [-aBin', -aBin, -aBinI, -aUn, -aNil, -flatV, n_fn, b_add, b_sub, b_mul, b_lt, b_le, b_gt, b_ge, b_eq, b_ne, u_not]
  apply hK
  clear hK K
  simp only [andThen, leaves]
  refine DWp.seq ?_
  refine DWp.seq ?_
  obtain ⟨v1, G2, q3, S4, a6, _, _⟩ := S0.lit2 (P := Try.prog) (t := 22) (hB.le A0.1) el_22 ei_3 rfl (Value.int .i64 x0) (Value.int .i64 x1) rfl rfl rfl rfl
  have A5 := A0.ext (hB.le A0.1) a6
  replace S4 : Sep G2 (Fr H) [flat1 v1 3 (ints [x0, x1])] := S4
  obtain ⟨r1, hc8, hF⟩ := bd_some hF
  refine DWp.region fun K hK => ?_
  simp [-aBin', -aBin, -aBinI, -aUn, -aNil, -flatV, n_fn, b_add, b_sub, b_mul, b_lt, b_le, b_gt, b_ge, b_eq, b_ne, u_not, q3, a6.to_pre, ((S4.sl1 (k := 0) rfl).tup)]
  refine CallD.t (F_spec_swParts_w (fu := fu) (S4.sl1 (k := 0) rfl) hc8) ?_
  rintro _ G10 ⟨a13, rfl, S14⟩
  have A12 := A5.ext (hB.le A5.1) a13.agree
  have S11 : Sep G10 (Fr H) [flat1 v1 3 (ints [x0, x1])] := S4.app a13.agree S14 (fun _ h => h) (hB.le A5.1)
  simp [-aBin', -aBin, -aBinI, -aUn, -aNil, -flatV, n_fn, b_add, b_sub, b_mul, b_lt, b_le, b_gt, b_ge, b_eq, b_ne, u_not, q3, a6.to_pre, a13.pre]
  apply hK
  clear hK K
  simp only [andThen, leaves]
  refine DWp.cond' (t := (bnot r1)) (by simp []) (fun hb15 => ?_) (fun hb15 => ?_)
  · replace hF := cd_t hb15 hF
    refine DWp.seq ?_
    refine DWp.region fun K hK => ?_
    simp [-aBin', -aBin, -aBinI, -aUn, -aNil, -flatV, n_fn, b_add, b_sub, b_mul, b_lt, b_le, b_gt, b_ge, b_eq, b_ne, u_not]
    apply hK
    clear hK K
    simp only [andThen, leaves]
    refine DWp.ret ?_
    simp only [andThen, leaves]
    obtain rfl := Option.some.inj hF
    exact ⟨by simp, [(Value.int .i64 0), (Value.bool false)], by simp [], A12, rfl, S11.pick [] (by decide) rfl⟩
  · replace hF := cd_f hb15 hF
    refine DWp.skip ?_
    simp only [andThen, leaves]
    refine DWp.seq ?_
    obtain ⟨r2, hc16, hF⟩ := bd_some hF
    refine DWp.region fun K hK => ?_
    simp [-aBin', -aBin, -aBinI, -aUn, -aNil, -flatV, n_fn, b_add, b_sub, b_mul, b_lt, b_le, b_gt, b_ge, b_eq, b_ne, u_not]
    refine CallD.t (F_spec_swGcd_w (fu := fu)  hc16) ?_
    rintro _ G18 ⟨a21, rfl, S22⟩
    have A20 := A12.ext (hB.le A12.1) a21.agree
    have S19 : Sep G18 (Fr H) [flat1 v1 3 (ints [x0, x1])] := S11.app a21.agree S22 (fun _ h => h) (hB.le A12.1)
    simp [-aBin', -aBin, -aBinI, -aUn, -aNil, -flatV, n_fn, b_add, b_sub, b_mul, b_lt, b_le, b_gt, b_ge, b_eq, b_ne, u_not, a21.pre]
    apply hK
    clear hK K
    simp only [andThen, leaves]
    refine DWp.ret ?_
    obtain rfl := Option.some.inj hF
    exact ⟨by simp, [(Value.int .i64 (isub .i64 r2 1)), (Value.bool true)], by simp [], A20, rfl, S19.pick [] (by decide) rfl⟩
/-! loop.example/g01126/impl.IndexOfTwo -/
def F_impl_IndexOfTwo (fu : Nat) (x0 : Int) (x1 : Int) : Option (Int × Bool) :=
  bd (F_impl_indexFor fu [x0, x1]) fun r1 =>
  some (r1.1, r1.2)
theorem F_impl_IndexOfTwo_w {fu : Nat} {H : AH}  {x0 : Int} {x1 : Int} {r : (Int × Bool)}  (hF : F_impl_IndexOfTwo fu x0 x1 = some r) :
    ACallT Try.prog 22 [(Value.int .i64 x0), (Value.int .i64 x1)] H (fun u G => AgB (Fr H) H G ∧ u = (Value.tuple #[(Value.int .i64 r.1), (Value.bool r.2)]) ∧ Sep G (Fr H) []) := by
  refine ACallT.of_body (nt := 12) (rs := [.tmp 4, .tmp 5]) Try.func22 rfl rfl rfl rfl ?_
  have A0 : AgB (Fr H) H H := .refl _ _
  have S0 : Sep H (Fr H) [] := .nil
  have hB := Fr.up H
  unfold F_impl_IndexOfTwo at hF
  refine DWp.seq ?_
  refine DWp.region fun K hK => ?_
  simp [-aBin', -aBin, -aBinI, -aUn, -aNil, -flatV, n_fn, b_add, b_sub, b_mul, b_lt, b_le, b_gt, b_ge, b_eq, b_ne, u_not]
  apply hK
  clear hK K
  simp only [andThen, leaves]
  refine DWp.seq ?_
  obtain ⟨v1, G2, q3, S4, a6, _, _⟩ := S0.lit2 (P := Try.prog) (t := 22) (hB.le A0.1) el_22 ei_3 rfl (Value.int .i64 x0) (Value.int .i64 x1) rfl rfl rfl rfl
  have A5 := A0.ext (hB.le A0.1) a6
  replace S4 : Sep G2 (Fr H) [flat1 v1 3 (ints [x0, x1])] := S4
  obtain ⟨r1, hc8, hF⟩ := bd_some hF
  refine DWp.region fun K hK => ?_
  simp [-aBin', -aBin, -aBinI, -aUn, -aNil, -flatV, n_fn, b_add, b_sub, b_mul, b_lt, b_le, b_gt, b_ge, b_eq, b_ne, u_not, q3, a6.to_pre, ((S4.sl1 (k := 0) rfl).tup)]
  refine CallD.t (F_impl_indexFor_w (fu := fu) (S4.sl1 (k := 0) rfl) hc8) ?_
  rintro _ G10 ⟨a13, rfl, S14⟩
  have A12 := A5.ext (hB.le A5.1) a13.agree
  have S11 : Sep G10 (Fr H) [flat1 v1 3 (ints [x0, x1])] := S4.app a13.agree S14 (fun _ h => h) (hB.le A5.1)
  simp [-aBin', -aBin, -aBinI, -aUn, -aNil, -flatV, n_fn, b_add, b_sub, b_mul, b_lt, b_le, b_gt, b_ge, b_eq, b_ne, u_not, q3, a6.to_pre, a13.pre]
  apply hK
  clear hK K
  simp only [andThen, leaves]
  refine DWp.ret ?_
  obtain rfl := Option.some.inj hF
  exact ⟨by simp, [(Value.int .i64 r1.1), (Value.bool r1.2)], by simp [], A12, rfl, S11.pick [] (by decide) rfl⟩
end Go.Proofs.Ytfccbmpfnonjiaa.AL

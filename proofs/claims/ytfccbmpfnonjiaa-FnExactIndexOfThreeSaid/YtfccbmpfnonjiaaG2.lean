/- The walks of functions, each with its Lean function: impl.sum, impl.areParts, impl.arcs, bits.Len32, bits.Len64, bits.Len, cmp.isNaN[int], cmp.Less[int], slices.insertionSortOrdered[int], slices.siftDownOrdered[int]. No condition. -/
import Derived.Test.YtfccbmpfnonjiaaG1
import Derived.Test.YtfccbmpfnonjiaaAL30
import Derived.Test.YtfccbmpfnonjiaaProg
import Derived.KernelRfl
namespace Go.Proofs.Ytfccbmpfnonjiaa.AL
open Go Go.RowKit
set_option linter.unusedVariables false
set_option linter.unusedSimpArgs false
set_option maxRecDepth 4096
theorem un_103 : Try.prog.underlying 103 = some (.int .u32) := by kernel_rfl
theorem un_3 : Try.prog.underlying 3 = some (.int .i64) := by kernel_rfl
theorem un_5 : Try.prog.underlying 5 = some (.int .u8) := by kernel_rfl
theorem un_79 : Try.prog.underlying 79 = some (.int .u64) := by kernel_rfl
theorem un_9 : Try.prog.underlying 9 = some .string := by kernel_rfl
/-! loop.example/g01126/impl.sum -/
def F_impl_sum_L1 (fu : Nat) (k1_0 : List Int) (k1_1 : Int) : Nat → Int → Int → Option (Int × Int)
  | 0, _, _ => none
  | n + 1, y1_3, y1_8 =>
    bif (ilt y1_8 k1_1) then
      gd (inL k1_0 y1_8) (
      F_impl_sum_L1 fu k1_0 k1_1 n (iadd .i64 y1_3 (gat 0 k1_0 y1_8)) (iadd .i64 y1_8 1))
    else
      some (y1_3, y1_8)
def F_impl_sum (fu : Nat) (x0 : List Int) : Option (Int) :=
  bd (F_impl_sum_L1 fu x0 (llen x0) fu 0 0) fun s1 =>
  some s1.1
theorem F_impl_sum_w {fu : Nat} {H : AH} {v0 : Value} {x0 : List Int} {r : (Int)} (hx0 : Sl H v0 (ints x0)) (hF : F_impl_sum fu x0 = some r) :
    ACallT Try.prog 81 [v0] H (fun u G => AgB (Fr H) H G ∧ u = (Value.int .i64 r) ∧ Sep G (Fr H) []) := by
  refine ACallT.of_body (nt := 17) (rs := [.tmp 2]) Try.func81 rfl rfl rfl rfl ?_
  have A0 : AgB (Fr H) H H := .refl _ _
  have S0 : Sep H (Fr H) [] := .nil
  have hB := Fr.up H
  unfold F_impl_sum at hF
  refine DWp.seq ?_
  refine DWp.region fun K hK => ?_
  simp [-aBin', -aBin, -aBinI, -aUn, -aNil, -flatV, n_fn, b_add, b_sub, b_mul, b_lt, b_le, b_gt, b_ge, b_eq, b_ne, u_not]
  apply hK
  clear hK K
  simp only [andThen, leaves]
  refine DWp.seq ?_
  refine DWp.region fun K hK => ?_
  simp [-aBin', -aBin, -aBinI, -aUn, -aNil, -flatV, n_fn, b_add, b_sub, b_mul, b_lt, b_le, b_gt, b_ge, b_eq, b_ne, u_not]
  apply hK
  clear hK K
  simp only [andThen, leaves]
  refine DWp.seq ?_
  refine DWp.seq ?_
  have q1 := lenG (P := Try.prog) (hx0.agree A0.agree) el_22
  refine DWp.region fun K hK => ?_
  simp [-aBin', -aBin, -aBinI, -aUn, -aNil, -flatV, n_fn, b_add, b_sub, b_mul, b_lt, b_le, b_gt, b_ge, b_eq, b_ne, u_not, q1]
  apply hK
  clear hK K
  simp only [andThen, leaves]
  refine DWp.block ?_
  obtain ⟨s2, hL3, hF⟩ := bd_some hF
  have S4 := S0.pick [] (by decide) rfl
  refine DWp.loop (fun n env G => ∃ y1_3 : Int, ∃ y1_8 : Int, F_impl_sum_L1 fu x0 (llen x0) n y1_3 y1_8 = some s2 ∧ Sep G (Fr H) [] ∧ AgB (Fr H) H G ∧ env 3 = some (Value.int .i64 y1_3) ∧ env 6 = some v0 ∧ env 7 = some (Value.int .i64 (llen x0)) ∧ env 8 = some (Value.int .i64 y1_8)) fu ⟨0, 0, hL3, S4, A0, by simp [], by simp [], by simp [], by simp []⟩ ?_
  rintro n1 env1 G1_ ⟨y1_3, y1_8, hL3, S1_, A1_, e1_3, e1_6, e1_7, e1_8⟩
  cases n1 with
  | zero => cases hL3
  | succ n1 =>
    simp only [F_impl_sum_L1] at hL3
    refine DWp.seq ?_
    refine DWp.region fun K hK => ?_
    simp [-aBin', -aBin, -aBinI, -aUn, -aNil, -flatV, n_fn, b_add, b_sub, b_mul, b_lt, b_le, b_gt, b_ge, b_eq, b_ne, u_not, e1_3, e1_6, e1_7, e1_8]
    apply hK
    clear hK K
    simp only [andThen, leaves]
    refine DWp.seq ?_
    refine DWp.cond' (t := (ilt y1_8 (llen x0))) (by simp [e1_3, e1_6, e1_7, e1_8]) (fun hb5 => ?_) (fun hb5 => ?_)
    · replace hL3 := cd_t hb5 hL3
      refine DWp.skip ?_
      simp only [andThen, leaves]
      refine DWp.seq ?_
      refine DWp.block ?_
      refine DWp.seq ?_
      obtain ⟨g6, hL3⟩ := gd_some hL3
      have q7 := idxG (P := Try.prog) (kk := .i64) (hx0.agree A1_.agree) el_22 sz_3 g6
      have q8 := loadG (P := Try.prog) (hx0.agree A1_.agree) sz_3 ag_3 g6 0
      refine DWp.region fun K hK => ?_
      simp [-aBin', -aBin, -aBinI, -aUn, -aNil, -flatV, n_fn, b_add, b_sub, b_mul, b_lt, b_le, b_gt, b_ge, b_eq, b_ne, u_not, e1_3, e1_6, e1_7, e1_8, q7, q8]
      apply hK
      clear hK K
      simp only [andThen, leaves]
      refine DWp.region fun K hK => ?_
      simp [-aBin', -aBin, -aBinI, -aUn, -aNil, -flatV, n_fn, b_add, b_sub, b_mul, b_lt, b_le, b_gt, b_ge, b_eq, b_ne, u_not, e1_3, e1_6, e1_7, e1_8]
      apply hK
      clear hK K
      simp only [andThen, leaves]
      refine DWp.region fun K hK => ?_
      simp [-aBin', -aBin, -aBinI, -aUn, -aNil, -flatV, n_fn, b_add, b_sub, b_mul, b_lt, b_le, b_gt, b_ge, b_eq, b_ne, u_not, e1_3, e1_6, e1_7, e1_8]
      apply hK
      clear hK K
      simp only [andThen, leaves]
      have S9 := S1_.pick [] (by decide) rfl
      exact ⟨n1, Nat.lt_succ_self _, (iadd .i64 y1_3 (gat 0 x0 y1_8)), (iadd .i64 y1_8 1), hL3, S9, A1_, by simp [e1_3, e1_6, e1_7, e1_8], by simp [e1_3, e1_6, e1_7, e1_8], by simp [e1_3, e1_6, e1_7, e1_8], by simp [e1_3, e1_6, e1_7, e1_8]⟩
    · replace hL3 := cd_f hb5 hL3
      refine DWp.exit ?_
      simp only [andThen, leaves, if_true, if_false, reduceIte, Nat.reduceEqDiff]
      obtain rfl := Option.some.inj hL3
      try dsimp only at hF
      refine DWp.seq ?_
      refine DWp.region fun K hK => ?_
      simp [-aBin', -aBin, -aBinI, -aUn, -aNil, -flatV, n_fn, b_add, b_sub, b_mul, b_lt, b_le, b_gt, b_ge, b_eq, b_ne, u_not, e1_3, e1_6, e1_7, e1_8]
      apply hK
      clear hK K
      simp only [andThen, leaves]
      refine DWp.ret ?_
      obtain rfl := Option.some.inj hF
      exact ⟨by simp, [(Value.int .i64 y1_3)], by simp [e1_3, e1_6, e1_7, e1_8], A1_, rfl, S1_.pick [] (by decide) rfl⟩
/-! loop.example/g01126/impl.areParts -/
def F_impl_areParts (fu : Nat) (x0 : List Int) : Option (Bool) :=
  bif (ile (llen x0) 20) then
    bd (F_slices_ContainsFunc_Sint fu x0 (fun y0 => F_impl_areParts_1 fu y0)) fun r1 =>
    bif (bnot r1) then
      bd (F_impl_sum fu x0) fun r2 =>
      some (ile r2 20)
    else
      some false
  else
    some false
theorem F_impl_areParts_w {fu : Nat} {H : AH} {v0 : Value} {x0 : List Int} {r : (Bool)} (hx0 : Sl H v0 (ints x0)) (hF : F_impl_areParts fu x0 = some r) :
    ACallT Try.prog 80 [v0] H (fun u G => AgB (Fr H) H G ∧ u = (Value.bool r) ∧ Sep G (Fr H) []) := by
  refine ACallT.of_body (nt := 16) (rs := [.tmp 2]) Try.func80 rfl rfl rfl rfl ?_
  have A0 : AgB (Fr H) H H := .refl _ _
  have S0 : Sep H (Fr H) [] := .nil
  have hB := Fr.up H
  unfold F_impl_areParts at hF
  refine DWp.seq ?_
  refine DWp.region fun K hK => ?_
  simp [-aBin', -aBin, -aBinI, -aUn, -aNil, -flatV, n_fn, b_add, b_sub, b_mul, b_lt, b_le, b_gt, b_ge, b_eq, b_ne, u_not]
  apply hK
  clear hK K
  simp only [andThen, leaves]
  refine DWp.seq ?_
  have q1 := lenG (P := Try.prog) (hx0.agree A0.agree) el_22
  rcases Bool.eq_false_or_eq_true (ile (llen x0) 20) with hb2 | hb2
  · replace hF := cd_t hb2 hF
    obtain ⟨r1, hc4, hF⟩ := bd_some hF
    refine DWp.region fun K hK => ?_
    simp [-aBin', -aBin, -aBinI, -aUn, -aNil, -flatV, n_fn, b_add, b_sub, b_mul, b_lt, b_le, b_gt, b_ge, b_eq, b_ne, u_not, hb2, q1, ((hx0.agree A0.agree).tup)]
    refine CallD.t (F_slices_ContainsFunc_Sint_w (fu := fu) (hx0.agree A0.agree) (fun G_ a_ y0 q_ hq_ => F_impl_areParts_1_w (fu := fu)  hq_) hc4) ?_
    rintro _ G6 ⟨a9, rfl, S10⟩
    have A8 := A0.ext (hB.le A0.1) a9.agree
    have S7 : Sep G6 (Fr H) [] := S0.app a9.agree S10 (fun _ h => h) (hB.le A0.1)
    rcases Bool.eq_false_or_eq_true (bnot r1) with hb11 | hb11
    · replace hF := cd_t hb11 hF
      obtain ⟨r2, hc12, hF⟩ := bd_some hF
      simp [-aBin', -aBin, -aBinI, -aUn, -aNil, -flatV, n_fn, b_add, b_sub, b_mul, b_lt, b_le, b_gt, b_ge, b_eq, b_ne, u_not, hb2, hb11, q1, a9.pre, ((hx0.agree A8.agree).tup)]
      refine CallD.t (F_impl_sum_w (fu := fu) (hx0.agree A8.agree) hc12) ?_
      rintro _ G14 ⟨a17, rfl, S18⟩
      have A16 := A8.ext (hB.le A8.1) a17.agree
      have S15 : Sep G14 (Fr H) [] := S7.app a17.agree S18 (fun _ h => h) (hB.le A8.1)
      simp [-aBin', -aBin, -aBinI, -aUn, -aNil, -flatV, n_fn, b_add, b_sub, b_mul, b_lt, b_le, b_gt, b_ge, b_eq, b_ne, u_not, hb2, hb11, q1, a9.pre, a17.pre]
      apply hK
      clear hK K
      simp only [andThen, leaves]
      refine DWp.ret ?_
      obtain rfl := Option.some.inj hF
      exact ⟨by simp, [(Value.bool (ile r2 20))], by simp [], A16, rfl, S15.pick [] (by decide) rfl⟩
    · replace hF := cd_f hb11 hF
      simp [-aBin', -aBin, -aBinI, -aUn, -aNil, -flatV, n_fn, b_add, b_sub, b_mul, b_lt, b_le, b_gt, b_ge, b_eq, b_ne, u_not, hb2, hb11, q1, a9.pre]
      apply hK
      clear hK K
      simp only [andThen, leaves]
      refine DWp.ret ?_
      obtain rfl := Option.some.inj hF
      exact ⟨by simp, [(Value.bool false)], by simp [], A8, rfl, S7.pick [] (by decide) rfl⟩
  · replace hF := cd_f hb2 hF
    refine DWp.region fun K hK => ?_
    simp [-aBin', -aBin, -aBinI, -aUn, -aNil, -flatV, n_fn, b_add, b_sub, b_mul, b_lt, b_le, b_gt, b_ge, b_eq, b_ne, u_not, hb2, q1]
    apply hK
    clear hK K
    simp only [andThen, leaves]
    refine DWp.ret ?_
    obtain rfl := Option.some.inj hF
    exact ⟨by simp, [(Value.bool false)], by simp [], A0, rfl, S0.pick [] (by decide) rfl⟩
/-! loop.example/g01126/impl.arcs -/
def F_impl_arcs_L2 (fu : Nat) (k2_0 : Int) (k2_1 : Int) (k2_2 : List Int) (k2_3 : Int) (k2_4 : Int) : Nat → List Int → Int → Option (List Int × Int)
  | 0, _, _ => none
  | n + 1, l2_0, y2_18 =>
    bif (ilt y2_18 k2_0) then
      gd (l2_0.length + [(isub .i64 (isub .i64 (iadd .i64 k2_1 k2_0) 1) y2_18)].length ≤ 4294967296) (
      F_impl_arcs_L2 fu k2_0 k2_1 k2_2 k2_3 k2_4 n (lapp l2_0 [(isub .i64 (isub .i64 (iadd .i64 k2_1 k2_0) 1) y2_18)]) (iadd .i64 y2_18 1))
    else
      some (l2_0, y2_18)
def F_impl_arcs_L1 (fu : Nat) (k1_0 : List Int) (k1_1 : Int) : Nat → List Int → Int → Option (List Int × Int)
  | 0, _, _ => none
  | n + 1, l1_0, y1_11 =>
    bif (ilt y1_11 k1_1) then
      gd (inL k1_0 y1_11) (
      bd (F_impl_arcs_L2 fu (gat 0 k1_0 y1_11) (llen l1_0) k1_0 k1_1 y1_11 fu l1_0 0) fun s2 =>
      F_impl_arcs_L1 fu k1_0 k1_1 n s2.1 (iadd .i64 y1_11 1))
    else
      some (l1_0, y1_11)
def F_impl_arcs (fu : Nat) (x0 : List Int) : Option (List Int) :=
  bd (F_impl_arcs_L1 fu x0 (llen x0) fu (@List.nil Int) 0) fun s1 =>
  some s1.1
theorem F_impl_arcs_w {fu : Nat} {H : AH} {v0 : Value} {x0 : List Int} {r : (List Int)} (hx0 : Sl H v0 (ints x0)) (hF : F_impl_arcs fu x0 = some r) :
    ACallT Try.prog 84 [v0] H (fun u G => AgB (Fr H) H G ∧ ∃ u0 : Value, u = u0 ∧ Sep G (Fr H) [flat u0 3 (ints r)]) := by
  refine ACallT.of_body (nt := 33) (rs := [.tmp 2]) Try.func84 rfl rfl rfl rfl ?_
  have A0 : AgB (Fr H) H H := .refl _ _
  have S0 : Sep H (Fr H) [] := .nil
  have hB := Fr.up H
  unfold F_impl_arcs at hF
  refine DWp.seq ?_
  refine DWp.region fun K hK => ?_
  simp [-aBin', -aBin, -aBinI, -aUn, -aNil, -flatV, n_fn, b_add, b_sub, b_mul, b_lt, b_le, b_gt, b_ge, b_eq, b_ne, u_not]
  apply hK
  clear hK K
  simp only [andThen, leaves]
  refine DWp.seq ?_
  obtain ⟨v1, G2, q3, S4, a6, _, _⟩ := S0.lit0 (P := Try.prog) (t := 22) (hB.le A0.1) el_22 ei_3 rfl
  have A5 := A0.ext (hB.le A0.1) a6
  replace S4 : Sep G2 (Fr H) [flat1 v1 3 (ints (@List.nil Int))] := S4
  refine DWp.region fun K hK => ?_
  simp [-aBin', -aBin, -aBinI, -aUn, -aNil, -flatV, n_fn, b_add, b_sub, b_mul, b_lt, b_le, b_gt, b_ge, b_eq, b_ne, u_not, q3, a6.to_pre]
  apply hK
  clear hK K
  simp only [andThen, leaves]
  refine DWp.seq ?_
  refine DWp.seq ?_
  have q8 := lenG (P := Try.prog) (hx0.agree A5.agree) el_22
  refine DWp.region fun K hK => ?_
  simp [-aBin', -aBin, -aBinI, -aUn, -aNil, -flatV, n_fn, b_add, b_sub, b_mul, b_lt, b_le, b_gt, b_ge, b_eq, b_ne, u_not, q8]
  apply hK
  clear hK K
  simp only [andThen, leaves]
  refine DWp.block ?_
  obtain ⟨s9, hL10, hF⟩ := bd_some hF
  have S11 := S4.pick [0] (by decide) rfl
  have S12 := S11.weak (k := 0) rfl
  refine DWp.loop (fun n env G => ∃ l1_0 : List Int, ∃ y1_11 : Int, ∃ w1_0 : Value, F_impl_arcs_L1 fu x0 (llen x0) n l1_0 y1_11 = some s9 ∧ Sep G (Fr H) [flat w1_0 3 (ints l1_0)] ∧ AgB (Fr H) H G ∧ env 3 = some w1_0 ∧ env 9 = some v0 ∧ env 10 = some (Value.int .i64 (llen x0)) ∧ env 11 = some (Value.int .i64 y1_11)) fu ⟨(@List.nil Int), 0, v1, hL10, S12, A5, by simp [], by simp [], by simp [], by simp []⟩ ?_
  rintro n1 env1 G1_ ⟨l1_0, y1_11, w1_0, hL10, S1_, A1_, e1_3, e1_9, e1_10, e1_11⟩
  cases n1 with
  | zero => cases hL10
  | succ n1 =>
    simp only [F_impl_arcs_L1] at hL10
    refine DWp.seq ?_
    refine DWp.region fun K hK => ?_
    simp [-aBin', -aBin, -aBinI, -aUn, -aNil, -flatV, n_fn, b_add, b_sub, b_mul, b_lt, b_le, b_gt, b_ge, b_eq, b_ne, u_not, e1_3, e1_9, e1_10, e1_11]
    apply hK
    clear hK K
    simp only [andThen, leaves]
    refine DWp.seq ?_
    refine DWp.cond' (t := (ilt y1_11 (llen x0))) (by simp [e1_3, e1_9, e1_10, e1_11]) (fun hb13 => ?_) (fun hb13 => ?_)
    · replace hL10 := cd_t hb13 hL10
      refine DWp.skip ?_
      simp only [andThen, leaves]
      refine DWp.seq ?_
      refine DWp.block ?_
      refine DWp.seq ?_
      obtain ⟨g14, hL10⟩ := gd_some hL10
      have q15 := idxG (P := Try.prog) (kk := .i64) (hx0.agree A1_.agree) el_22 sz_3 g14
      have q16 := loadG (P := Try.prog) (hx0.agree A1_.agree) sz_3 ag_3 g14 0
      refine DWp.region fun K hK => ?_
      simp [-aBin', -aBin, -aBinI, -aUn, -aNil, -flatV, n_fn, b_add, b_sub, b_mul, b_lt, b_le, b_gt, b_ge, b_eq, b_ne, u_not, e1_3, e1_9, e1_10, e1_11, q15, q16]
      apply hK
      clear hK K
      simp only [andThen, leaves]
      refine DWp.seq ?_
      have q17 := lenG (P := Try.prog) (S1_.sl (k := 0) rfl) el_22
      refine DWp.region fun K hK => ?_
      simp [-aBin', -aBin, -aBinI, -aUn, -aNil, -flatV, n_fn, b_add, b_sub, b_mul, b_lt, b_le, b_gt, b_ge, b_eq, b_ne, u_not, e1_3, e1_9, e1_10, e1_11, q17]
      apply hK
      clear hK K
      simp only [andThen, leaves]
      refine DWp.seq ?_
      refine DWp.region fun K hK => ?_
      simp [-aBin', -aBin, -aBinI, -aUn, -aNil, -flatV, n_fn, b_add, b_sub, b_mul, b_lt, b_le, b_gt, b_ge, b_eq, b_ne, u_not, e1_3, e1_9, e1_10, e1_11]
      apply hK
      clear hK K
      simp only [andThen, leaves]
      refine DWp.block ?_
      obtain ⟨s18, hL19, hL10⟩ := bd_some hL10
      have S20 := S1_.pick [0] (by decide) rfl
      refine DWp.loop (fun n env G => ∃ l2_0 : List Int, ∃ y2_18 : Int, ∃ w2_0 : Value, F_impl_arcs_L2 fu (gat 0 x0 y1_11) (llen l1_0) x0 (llen x0) y1_11 n l2_0 y2_18 = some s18 ∧ Sep G (Fr H) [flat w2_0 3 (ints l2_0)] ∧ AgB (Fr H) H G ∧ env 3 = some w2_0 ∧ env 5 = some (Value.int .i64 (gat 0 x0 y1_11)) ∧ env 6 = some (Value.int .i64 (llen l1_0)) ∧ env 9 = some v0 ∧ env 10 = some (Value.int .i64 (llen x0)) ∧ env 11 = some (Value.int .i64 y1_11) ∧ env 17 = some (Value.int .i64 (gat 0 x0 y1_11)) ∧ env 18 = some (Value.int .i64 y2_18)) fu ⟨l1_0, 0, w1_0, hL19, S20, A1_, by simp [e1_3, e1_9, e1_10, e1_11], by simp [e1_3, e1_9, e1_10, e1_11], by simp [e1_3, e1_9, e1_10, e1_11], by simp [e1_3, e1_9, e1_10, e1_11], by simp [e1_3, e1_9, e1_10, e1_11], by simp [e1_3, e1_9, e1_10, e1_11], by simp [e1_3, e1_9, e1_10, e1_11], by simp [e1_3, e1_9, e1_10, e1_11]⟩ ?_
      rintro n2 env2 G2_ ⟨l2_0, y2_18, w2_0, hL19, S2_, A2_, e2_3, e2_5, e2_6, e2_9, e2_10, e2_11, e2_17, e2_18⟩
      cases n2 with
      | zero => cases hL19
      | succ n2 =>
        simp only [F_impl_arcs_L2] at hL19
        refine DWp.seq ?_
        refine DWp.region fun K hK => ?_
        simp [-aBin', -aBin, -aBinI, -aUn, -aNil, -flatV, n_fn, b_add, b_sub, b_mul, b_lt, b_le, b_gt, b_ge, b_eq, b_ne, u_not, e2_3, e2_5, e2_6, e2_9, e2_10, e2_11, e2_17, e2_18]
        apply hK
        clear hK K
        simp only [andThen, leaves]
        refine DWp.seq ?_
        refine DWp.cond' (t := (ilt y2_18 (gat 0 x0 y1_11))) (by simp [e2_3, e2_5, e2_6, e2_9, e2_10, e2_11, e2_17, e2_18]) (fun hb21 => ?_) (fun hb21 => ?_)
        · replace hL19 := cd_t hb21 hL19
          refine DWp.skip ?_
          simp only [andThen, leaves]
          refine DWp.seq ?_
          refine DWp.block ?_
          refine DWp.seq ?_
          refine DWp.region fun K hK => ?_
          simp [-aBin', -aBin, -aBinI, -aUn, -aNil, -flatV, n_fn, b_add, b_sub, b_mul, b_lt, b_le, b_gt, b_ge, b_eq, b_ne, u_not, e2_3, e2_5, e2_6, e2_9, e2_10, e2_11, e2_17, e2_18]
          apply hK
          clear hK K
          simp only [andThen, leaves]
          obtain ⟨v22, G23, q24, S25, a27, _, _⟩ := S2_.lit1 (P := Try.prog) (t := 22) (hB.le A2_.1) el_22 ei_3 rfl (Value.int .i64 (isub .i64 (isub .i64 (iadd .i64 (llen l1_0) (gat 0 x0 y1_11)) 1) y2_18)) rfl rfl
          have A26 := A2_.ext (hB.le A2_.1) a27
          replace S25 : Sep G23 (Fr H) [flat w2_0 3 (ints l2_0), flat1 v22 3 (ints [(isub .i64 (isub .i64 (iadd .i64 (llen l1_0) (gat 0 x0 y1_11)) 1) y2_18)])] := S25
          obtain ⟨g29, hL19⟩ := gd_some hL19
          obtain ⟨v35, G30, q31, S32, a34, _, _⟩ := S25.appendG (f := (Value.int .i64)) (xs := l2_0) (ys := [(isub .i64 (isub .i64 (iadd .i64 (llen l1_0) (gat 0 x0 y1_11)) 1) y2_18)]) (P := Try.prog) (t := 22) (t2 := 22) (k := 0) rfl (hB.le A26.1) el_22 el_22 ei_3 rfl (S25.sl1 (k := 1) rfl) g29
          have A33 := A26.trans a34
          replace S32 : Sep G30 (Fr H) [flat v35 3 (ints (lapp l2_0 [(isub .i64 (isub .i64 (iadd .i64 (llen l1_0) (gat 0 x0 y1_11)) 1) y2_18)])), flat1 v22 3 (ints [(isub .i64 (isub .i64 (iadd .i64 (llen l1_0) (gat 0 x0 y1_11)) 1) y2_18)])] := S32
          refine DWp.region fun K hK => ?_
          simp [-aBin', -aBin, -aBinI, -aUn, -aNil, -flatV, n_fn, b_add, b_sub, b_mul, b_lt, b_le, b_gt, b_ge, b_eq, b_ne, u_not, e2_3, e2_5, e2_6, e2_9, e2_10, e2_11, e2_17, e2_18, q24, a27.to_pre, q31]
          apply hK
          clear hK K
          simp only [andThen, leaves]
          refine DWp.region fun K hK => ?_
          simp [-aBin', -aBin, -aBinI, -aUn, -aNil, -flatV, n_fn, b_add, b_sub, b_mul, b_lt, b_le, b_gt, b_ge, b_eq, b_ne, u_not, e2_3, e2_5, e2_6, e2_9, e2_10, e2_11, e2_17, e2_18]
          apply hK
          clear hK K
          simp only [andThen, leaves]
          have S36 := S32.pick [0] (by decide) rfl
          exact ⟨n2, Nat.lt_succ_self _, (lapp l2_0 [(isub .i64 (isub .i64 (iadd .i64 (llen l1_0) (gat 0 x0 y1_11)) 1) y2_18)]), (iadd .i64 y2_18 1), v35, hL19, S36, A33, by simp [e2_3, e2_5, e2_6, e2_9, e2_10, e2_11, e2_17, e2_18], by simp [e2_3, e2_5, e2_6, e2_9, e2_10, e2_11, e2_17, e2_18], by simp [e2_3, e2_5, e2_6, e2_9, e2_10, e2_11, e2_17, e2_18], by simp [e2_3, e2_5, e2_6, e2_9, e2_10, e2_11, e2_17, e2_18], by simp [e2_3, e2_5, e2_6, e2_9, e2_10, e2_11, e2_17, e2_18], by simp [e2_3, e2_5, e2_6, e2_9, e2_10, e2_11, e2_17, e2_18], by simp [e2_3, e2_5, e2_6, e2_9, e2_10, e2_11, e2_17, e2_18], by simp [e2_3, e2_5, e2_6, e2_9, e2_10, e2_11, e2_17, e2_18]⟩
        · replace hL19 := cd_f hb21 hL19
          refine DWp.exit ?_
          simp only [andThen, leaves, if_true, if_false, reduceIte, Nat.reduceEqDiff]
          obtain rfl := Option.some.inj hL19
          try dsimp only at hL10
          refine DWp.region fun K hK => ?_
          simp [-aBin', -aBin, -aBinI, -aUn, -aNil, -flatV, n_fn, b_add, b_sub, b_mul, b_lt, b_le, b_gt, b_ge, b_eq, b_ne, u_not, e2_3, e2_5, e2_6, e2_9, e2_10, e2_11, e2_17, e2_18]
          apply hK
          clear hK K
          simp only [andThen, leaves]
          have S37 := S2_.pick [0] (by decide) rfl
          exact ⟨n1, Nat.lt_succ_self _, l2_0, (iadd .i64 y1_11 1), w2_0, hL10, S37, A2_, by simp [e2_3, e2_5, e2_6, e2_9, e2_10, e2_11, e2_17, e2_18], by simp [e2_3, e2_5, e2_6, e2_9, e2_10, e2_11, e2_17, e2_18], by simp [e2_3, e2_5, e2_6, e2_9, e2_10, e2_11, e2_17, e2_18], by simp [e2_3, e2_5, e2_6, e2_9, e2_10, e2_11, e2_17, e2_18]⟩
    · replace hL10 := cd_f hb13 hL10
      refine DWp.exit ?_
      simp only [andThen, leaves, if_true, if_false, reduceIte, Nat.reduceEqDiff]
      obtain rfl := Option.some.inj hL10
      try dsimp only at hF
      refine DWp.seq ?_
      refine DWp.region fun K hK => ?_
      simp [-aBin', -aBin, -aBinI, -aUn, -aNil, -flatV, n_fn, b_add, b_sub, b_mul, b_lt, b_le, b_gt, b_ge, b_eq, b_ne, u_not, e1_3, e1_9, e1_10, e1_11]
      apply hK
      clear hK K
      simp only [andThen, leaves]
      refine DWp.ret ?_
      obtain rfl := Option.some.inj hF
      exact ⟨by simp, [w1_0], by simp [e1_3, e1_9, e1_10, e1_11, ((S1_.sl (k := 0) rfl).tup)], A1_, w1_0, rfl, S1_.pick [0] (by decide) rfl⟩
/-! math/bits.Len32 -/
def F_math_bits_Len32 (fu : Nat) (x0 : Int) : Option (Int) :=
  bd (
    bif (ile 65536 x0) then
      some ((ishr .u32 x0 16), 16)
    else
      some (x0, 0)) fun s1 =>
  bif (ile 256 s1.1) then
    gd (inS (ByteArray.mk #[0, 1, 2, 2, 3, 3, 3, 3, 4, 4, 4, 4, 4, 4, 4, 4, 5, 5, 5, 5, 5, 5, 5, 5, 5, 5, 5, 5, 5, 5, 5, 5, 6, 6, 6, 6, 6, 6, 6, 6, 6, 6, 6, 6, 6, 6, 6, 6, 6, 6, 6, 6, 6, 6, 6, 6, 6, 6, 6, 6, 6, 6, 6, 6, 7, 7, 7, 7, 7, 7, 7, 7, 7, 7, 7, 7, 7, 7, 7, 7, 7, 7, 7, 7, 7, 7, 7, 7, 7, 7, 7, 7, 7, 7, 7, 7, 7, 7, 7, 7, 7, 7, 7, 7, 7, 7, 7, 7, 7, 7, 7, 7, 7, 7, 7, 7, 7, 7, 7, 7, 7, 7, 7, 7, 7, 7, 7, 7, 8, 8, 8, 8, 8, 8, 8, 8, 8, 8, 8, 8, 8, 8, 8, 8, 8, 8, 8, 8, 8, 8, 8, 8, 8, 8, 8, 8, 8, 8, 8, 8, 8, 8, 8, 8, 8, 8, 8, 8, 8, 8, 8, 8, 8, 8, 8, 8, 8, 8, 8, 8, 8, 8, 8, 8, 8, 8, 8, 8, 8, 8, 8, 8, 8, 8, 8, 8, 8, 8, 8, 8, 8, 8, 8, 8, 8, 8, 8, 8, 8, 8, 8, 8, 8, 8, 8, 8, 8, 8, 8, 8, 8, 8, 8, 8, 8, 8, 8, 8, 8, 8, 8, 8, 8, 8, 8, 8, 8, 8, 8, 8, 8, 8, 8, 8, 8, 8, 8, 8, 8, 8, 8, 8, 8, 8, 8, 8]) (iwr .u8 (ishr .u32 s1.1 8))) (
    some (iadd .i64 (iadd .i64 s1.2 8) (iwr .i64 (sat (ByteArray.mk #[0, 1, 2, 2, 3, 3, 3, 3, 4, 4, 4, 4, 4, 4, 4, 4, 5, 5, 5, 5, 5, 5, 5, 5, 5, 5, 5, 5, 5, 5, 5, 5, 6, 6, 6, 6, 6, 6, 6, 6, 6, 6, 6, 6, 6, 6, 6, 6, 6, 6, 6, 6, 6, 6, 6, 6, 6, 6, 6, 6, 6, 6, 6, 6, 7, 7, 7, 7, 7, 7, 7, 7, 7, 7, 7, 7, 7, 7, 7, 7, 7, 7, 7, 7, 7, 7, 7, 7, 7, 7, 7, 7, 7, 7, 7, 7, 7, 7, 7, 7, 7, 7, 7, 7, 7, 7, 7, 7, 7, 7, 7, 7, 7, 7, 7, 7, 7, 7, 7, 7, 7, 7, 7, 7, 7, 7, 7, 7, 8, 8, 8, 8, 8, 8, 8, 8, 8, 8, 8, 8, 8, 8, 8, 8, 8, 8, 8, 8, 8, 8, 8, 8, 8, 8, 8, 8, 8, 8, 8, 8, 8, 8, 8, 8, 8, 8, 8, 8, 8, 8, 8, 8, 8, 8, 8, 8, 8, 8, 8, 8, 8, 8, 8, 8, 8, 8, 8, 8, 8, 8, 8, 8, 8, 8, 8, 8, 8, 8, 8, 8, 8, 8, 8, 8, 8, 8, 8, 8, 8, 8, 8, 8, 8, 8, 8, 8, 8, 8, 8, 8, 8, 8, 8, 8, 8, 8, 8, 8, 8, 8, 8, 8, 8, 8, 8, 8, 8, 8, 8, 8, 8, 8, 8, 8, 8, 8, 8, 8, 8, 8, 8, 8, 8, 8, 8, 8]) (iwr .u8 (ishr .u32 s1.1 8))))))
  else
    gd (inS (ByteArray.mk #[0, 1, 2, 2, 3, 3, 3, 3, 4, 4, 4, 4, 4, 4, 4, 4, 5, 5, 5, 5, 5, 5, 5, 5, 5, 5, 5, 5, 5, 5, 5, 5, 6, 6, 6, 6, 6, 6, 6, 6, 6, 6, 6, 6, 6, 6, 6, 6, 6, 6, 6, 6, 6, 6, 6, 6, 6, 6, 6, 6, 6, 6, 6, 6, 7, 7, 7, 7, 7, 7, 7, 7, 7, 7, 7, 7, 7, 7, 7, 7, 7, 7, 7, 7, 7, 7, 7, 7, 7, 7, 7, 7, 7, 7, 7, 7, 7, 7, 7, 7, 7, 7, 7, 7, 7, 7, 7, 7, 7, 7, 7, 7, 7, 7, 7, 7, 7, 7, 7, 7, 7, 7, 7, 7, 7, 7, 7, 7, 8, 8, 8, 8, 8, 8, 8, 8, 8, 8, 8, 8, 8, 8, 8, 8, 8, 8, 8, 8, 8, 8, 8, 8, 8, 8, 8, 8, 8, 8, 8, 8, 8, 8, 8, 8, 8, 8, 8, 8, 8, 8, 8, 8, 8, 8, 8, 8, 8, 8, 8, 8, 8, 8, 8, 8, 8, 8, 8, 8, 8, 8, 8, 8, 8, 8, 8, 8, 8, 8, 8, 8, 8, 8, 8, 8, 8, 8, 8, 8, 8, 8, 8, 8, 8, 8, 8, 8, 8, 8, 8, 8, 8, 8, 8, 8, 8, 8, 8, 8, 8, 8, 8, 8, 8, 8, 8, 8, 8, 8, 8, 8, 8, 8, 8, 8, 8, 8, 8, 8, 8, 8, 8, 8, 8, 8, 8, 8]) (iwr .u8 s1.1)) (
    some (iadd .i64 s1.2 (iwr .i64 (sat (ByteArray.mk #[0, 1, 2, 2, 3, 3, 3, 3, 4, 4, 4, 4, 4, 4, 4, 4, 5, 5, 5, 5, 5, 5, 5, 5, 5, 5, 5, 5, 5, 5, 5, 5, 6, 6, 6, 6, 6, 6, 6, 6, 6, 6, 6, 6, 6, 6, 6, 6, 6, 6, 6, 6, 6, 6, 6, 6, 6, 6, 6, 6, 6, 6, 6, 6, 7, 7, 7, 7, 7, 7, 7, 7, 7, 7, 7, 7, 7, 7, 7, 7, 7, 7, 7, 7, 7, 7, 7, 7, 7, 7, 7, 7, 7, 7, 7, 7, 7, 7, 7, 7, 7, 7, 7, 7, 7, 7, 7, 7, 7, 7, 7, 7, 7, 7, 7, 7, 7, 7, 7, 7, 7, 7, 7, 7, 7, 7, 7, 7, 8, 8, 8, 8, 8, 8, 8, 8, 8, 8, 8, 8, 8, 8, 8, 8, 8, 8, 8, 8, 8, 8, 8, 8, 8, 8, 8, 8, 8, 8, 8, 8, 8, 8, 8, 8, 8, 8, 8, 8, 8, 8, 8, 8, 8, 8, 8, 8, 8, 8, 8, 8, 8, 8, 8, 8, 8, 8, 8, 8, 8, 8, 8, 8, 8, 8, 8, 8, 8, 8, 8, 8, 8, 8, 8, 8, 8, 8, 8, 8, 8, 8, 8, 8, 8, 8, 8, 8, 8, 8, 8, 8, 8, 8, 8, 8, 8, 8, 8, 8, 8, 8, 8, 8, 8, 8, 8, 8, 8, 8, 8, 8, 8, 8, 8, 8, 8, 8, 8, 8, 8, 8, 8, 8, 8, 8, 8, 8]) (iwr .u8 s1.1)))))
theorem F_math_bits_Len32_w {fu : Nat} {H : AH}  {x0 : Int} {r : (Int)}  (hF : F_math_bits_Len32 fu x0 = some r) :
    ACallT Try.prog 105 [(Value.int .u32 x0)] H (fun u G => AgB (Fr H) H G ∧ u = (Value.int .i64 r) ∧ Sep G (Fr H) []) := by
  refine ACallT.of_body (nt := 19) (rs := [.tmp 2]) Try.func105 rfl rfl rfl rfl ?_
  have A0 : AgB (Fr H) H H := .refl _ _
  have S0 : Sep H (Fr H) [] := .nil
  have hB := Fr.up H
  unfold F_math_bits_Len32 at hF
  refine DWp.seq ?_
  refine DWp.region fun K hK => ?_
  simp [-aBin', -aBin, -aBinI, -aUn, -aNil, -flatV, n_fn, b_add, b_sub, b_mul, b_lt, b_le, b_gt, b_ge, b_eq, b_ne, u_not]
  apply hK
  clear hK K
  simp only [andThen, leaves]
  obtain ⟨s1, hL2, hF⟩ := bd_some hF
  refine DWp.seq (DWp.join (fun env G => Sep G (Fr H) [] ∧ AgB (Fr H) H G ∧ env 0 = some (Value.int .u32 s1.1) ∧ env 2 = some (Value.int .i64 s1.2)) ?_ ?_)
  ·
    refine DWp.seq ?_
    refine DWp.region fun K hK => ?_
    simp [-aBin', -aBin, -aBinI, -aUn, -aNil, -flatV, n_fn, b_add, b_sub, b_mul, b_lt, b_le, b_gt, b_ge, b_eq, b_ne, u_not]
    apply hK
    clear hK K
    simp only [andThen, leaves]
    refine DWp.cond' (t := (ile 65536 x0)) (by simp []) (fun hb4 => ?_) (fun hb4 => ?_)
    · replace hL2 := cd_t hb4 hL2
      refine DWp.seq ?_
      have g5 : ¬ ((16 : Int) < 0) := by decide
      refine DWp.region fun K hK => ?_
      simp [-aBin', -aBin, -aBinI, -aUn, -aNil, -flatV, n_fn, b_add, b_sub, b_mul, b_lt, b_le, b_gt, b_ge, b_eq, b_ne, u_not, b_shr g5]
      apply hK
      clear hK K
      simp only [andThen, leaves]
      refine DWp.region fun K hK => ?_
      simp [-aBin', -aBin, -aBinI, -aUn, -aNil, -flatV, n_fn, b_add, b_sub, b_mul, b_lt, b_le, b_gt, b_ge, b_eq, b_ne, u_not]
      apply hK
      clear hK K
      simp only [andThen, leaves]
      have S6 := S0.pick [] (by decide) rfl
      obtain rfl := Option.some.inj hL2
      exact ⟨S6, A0, by simp [], by simp []⟩
    · replace hL2 := cd_f hb4 hL2
      refine DWp.skip ?_
      simp only [andThen, leaves]
      have S7 := S0.pick [] (by decide) rfl
      obtain rfl := Option.some.inj hL2
      exact ⟨S7, A0, by simp [], by simp []⟩
  · rintro env Gj8 ⟨Sj8, Aj8, ej8_0, ej8_2⟩
    refine DWp.seq ?_
    refine DWp.seq ?_
    refine DWp.region fun K hK => ?_
    simp [-aBin', -aBin, -aBinI, -aUn, -aNil, -flatV, n_fn, b_add, b_sub, b_mul, b_lt, b_le, b_gt, b_ge, b_eq, b_ne, u_not, ej8_0, ej8_2]
    apply hK
    clear hK K
    simp only [andThen, leaves]
    refine DWp.cond' (t := (ile 256 s1.1)) (by simp [ej8_0, ej8_2]) (fun hb9 => ?_) (fun hb9 => ?_)
    · replace hF := cd_t hb9 hF
      refine DWp.seq ?_
      have g10 : ¬ ((8 : Int) < 0) := by decide
      refine DWp.region fun K hK => ?_
      simp [-aBin', -aBin, -aBinI, -aUn, -aNil, -flatV, n_fn, b_add, b_sub, b_mul, b_lt, b_le, b_gt, b_ge, b_eq, b_ne, u_not, ej8_0, ej8_2, b_shr g10]
      apply hK
      clear hK K
      simp only [andThen, leaves]
      refine DWp.region fun K hK => ?_
      simp [-aBin', -aBin, -aBinI, -aUn, -aNil, -flatV, n_fn, b_add, b_sub, b_mul, b_lt, b_le, b_gt, b_ge, b_eq, b_ne, u_not, ej8_0, ej8_2]
      apply hK
      clear hK K
      simp only [andThen, leaves]
      refine DWp.seq ?_
      obtain ⟨g11, hF⟩ := gd_some hF
      have q12 := strIdx (P := Try.prog) (kk := .u8) un_9 g11
      refine DWp.region fun K hK => ?_
      simp [-aBin', -aBin, -aBinI, -aUn, -aNil, -flatV, n_fn, b_add, b_sub, b_mul, b_lt, b_le, b_gt, b_ge, b_eq, b_ne, u_not, ej8_0, ej8_2, c_int un_103 un_5, q12, c_int un_5 un_3]
      apply hK
      clear hK K
      simp only [andThen, leaves]
      refine DWp.ret ?_
      obtain rfl := Option.some.inj hF
      exact ⟨by simp, [(Value.int .i64 (iadd .i64 (iadd .i64 s1.2 8) (iwr .i64 (sat (ByteArray.mk #[0, 1, 2, 2, 3, 3, 3, 3, 4, 4, 4, 4, 4, 4, 4, 4, 5, 5, 5, 5, 5, 5, 5, 5, 5, 5, 5, 5, 5, 5, 5, 5, 6, 6, 6, 6, 6, 6, 6, 6, 6, 6, 6, 6, 6, 6, 6, 6, 6, 6, 6, 6, 6, 6, 6, 6, 6, 6, 6, 6, 6, 6, 6, 6, 7, 7, 7, 7, 7, 7, 7, 7, 7, 7, 7, 7, 7, 7, 7, 7, 7, 7, 7, 7, 7, 7, 7, 7, 7, 7, 7, 7, 7, 7, 7, 7, 7, 7, 7, 7, 7, 7, 7, 7, 7, 7, 7, 7, 7, 7, 7, 7, 7, 7, 7, 7, 7, 7, 7, 7, 7, 7, 7, 7, 7, 7, 7, 7, 8, 8, 8, 8, 8, 8, 8, 8, 8, 8, 8, 8, 8, 8, 8, 8, 8, 8, 8, 8, 8, 8, 8, 8, 8, 8, 8, 8, 8, 8, 8, 8, 8, 8, 8, 8, 8, 8, 8, 8, 8, 8, 8, 8, 8, 8, 8, 8, 8, 8, 8, 8, 8, 8, 8, 8, 8, 8, 8, 8, 8, 8, 8, 8, 8, 8, 8, 8, 8, 8, 8, 8, 8, 8, 8, 8, 8, 8, 8, 8, 8, 8, 8, 8, 8, 8, 8, 8, 8, 8, 8, 8, 8, 8, 8, 8, 8, 8, 8, 8, 8, 8, 8, 8, 8, 8, 8, 8, 8, 8, 8, 8, 8, 8, 8, 8, 8, 8, 8, 8, 8, 8, 8, 8, 8, 8, 8, 8]) (iwr .u8 (ishr .u32 s1.1 8))))))], by simp [ej8_0, ej8_2], Aj8, rfl, Sj8.pick [] (by decide) rfl⟩
    · replace hF := cd_f hb9 hF
      refine DWp.skip ?_
      simp only [andThen, leaves]
      refine DWp.seq ?_
      obtain ⟨g13, hF⟩ := gd_some hF
      have q14 := strIdx (P := Try.prog) (kk := .u8) un_9 g13
      refine DWp.region fun K hK => ?_
      simp [-aBin', -aBin, -aBinI, -aUn, -aNil, -flatV, n_fn, b_add, b_sub, b_mul, b_lt, b_le, b_gt, b_ge, b_eq, b_ne, u_not, ej8_0, ej8_2, c_int un_103 un_5, q14, c_int un_5 un_3]
      apply hK
      clear hK K
      simp only [andThen, leaves]
      refine DWp.ret ?_
      obtain rfl := Option.some.inj hF
      exact ⟨by simp, [(Value.int .i64 (iadd .i64 s1.2 (iwr .i64 (sat (ByteArray.mk #[0, 1, 2, 2, 3, 3, 3, 3, 4, 4, 4, 4, 4, 4, 4, 4, 5, 5, 5, 5, 5, 5, 5, 5, 5, 5, 5, 5, 5, 5, 5, 5, 6, 6, 6, 6, 6, 6, 6, 6, 6, 6, 6, 6, 6, 6, 6, 6, 6, 6, 6, 6, 6, 6, 6, 6, 6, 6, 6, 6, 6, 6, 6, 6, 7, 7, 7, 7, 7, 7, 7, 7, 7, 7, 7, 7, 7, 7, 7, 7, 7, 7, 7, 7, 7, 7, 7, 7, 7, 7, 7, 7, 7, 7, 7, 7, 7, 7, 7, 7, 7, 7, 7, 7, 7, 7, 7, 7, 7, 7, 7, 7, 7, 7, 7, 7, 7, 7, 7, 7, 7, 7, 7, 7, 7, 7, 7, 7, 8, 8, 8, 8, 8, 8, 8, 8, 8, 8, 8, 8, 8, 8, 8, 8, 8, 8, 8, 8, 8, 8, 8, 8, 8, 8, 8, 8, 8, 8, 8, 8, 8, 8, 8, 8, 8, 8, 8, 8, 8, 8, 8, 8, 8, 8, 8, 8, 8, 8, 8, 8, 8, 8, 8, 8, 8, 8, 8, 8, 8, 8, 8, 8, 8, 8, 8, 8, 8, 8, 8, 8, 8, 8, 8, 8, 8, 8, 8, 8, 8, 8, 8, 8, 8, 8, 8, 8, 8, 8, 8, 8, 8, 8, 8, 8, 8, 8, 8, 8, 8, 8, 8, 8, 8, 8, 8, 8, 8, 8, 8, 8, 8, 8, 8, 8, 8, 8, 8, 8, 8, 8, 8, 8, 8, 8, 8, 8]) (iwr .u8 s1.1)))))], by simp [ej8_0, ej8_2], Aj8, rfl, Sj8.pick [] (by decide) rfl⟩
/-! math/bits.Len64 -/
def F_math_bits_Len64 (fu : Nat) (x0 : Int) : Option (Int) :=
  bd (
    bif (ile 4294967296 x0) then
      some ((ishr .u64 x0 32), 32)
    else
      some (x0, 0)) fun s1 =>
  bd (
    bif (ile 65536 s1.1) then
      some ((ishr .u64 s1.1 16), (iadd .i64 s1.2 16))
    else
      some (s1.1, s1.2)) fun s9 =>
  bif (ile 256 s9.1) then
    gd (inS (ByteArray.mk #[0, 1, 2, 2, 3, 3, 3, 3, 4, 4, 4, 4, 4, 4, 4, 4, 5, 5, 5, 5, 5, 5, 5, 5, 5, 5, 5, 5, 5, 5, 5, 5, 6, 6, 6, 6, 6, 6, 6, 6, 6, 6, 6, 6, 6, 6, 6, 6, 6, 6, 6, 6, 6, 6, 6, 6, 6, 6, 6, 6, 6, 6, 6, 6, 7, 7, 7, 7, 7, 7, 7, 7, 7, 7, 7, 7, 7, 7, 7, 7, 7, 7, 7, 7, 7, 7, 7, 7, 7, 7, 7, 7, 7, 7, 7, 7, 7, 7, 7, 7, 7, 7, 7, 7, 7, 7, 7, 7, 7, 7, 7, 7, 7, 7, 7, 7, 7, 7, 7, 7, 7, 7, 7, 7, 7, 7, 7, 7, 8, 8, 8, 8, 8, 8, 8, 8, 8, 8, 8, 8, 8, 8, 8, 8, 8, 8, 8, 8, 8, 8, 8, 8, 8, 8, 8, 8, 8, 8, 8, 8, 8, 8, 8, 8, 8, 8, 8, 8, 8, 8, 8, 8, 8, 8, 8, 8, 8, 8, 8, 8, 8, 8, 8, 8, 8, 8, 8, 8, 8, 8, 8, 8, 8, 8, 8, 8, 8, 8, 8, 8, 8, 8, 8, 8, 8, 8, 8, 8, 8, 8, 8, 8, 8, 8, 8, 8, 8, 8, 8, 8, 8, 8, 8, 8, 8, 8, 8, 8, 8, 8, 8, 8, 8, 8, 8, 8, 8, 8, 8, 8, 8, 8, 8, 8, 8, 8, 8, 8, 8, 8, 8, 8, 8, 8, 8, 8]) (iwr .u8 (ishr .u64 s9.1 8))) (
    some (iadd .i64 (iadd .i64 s9.2 8) (iwr .i64 (sat (ByteArray.mk #[0, 1, 2, 2, 3, 3, 3, 3, 4, 4, 4, 4, 4, 4, 4, 4, 5, 5, 5, 5, 5, 5, 5, 5, 5, 5, 5, 5, 5, 5, 5, 5, 6, 6, 6, 6, 6, 6, 6, 6, 6, 6, 6, 6, 6, 6, 6, 6, 6, 6, 6, 6, 6, 6, 6, 6, 6, 6, 6, 6, 6, 6, 6, 6, 7, 7, 7, 7, 7, 7, 7, 7, 7, 7, 7, 7, 7, 7, 7, 7, 7, 7, 7, 7, 7, 7, 7, 7, 7, 7, 7, 7, 7, 7, 7, 7, 7, 7, 7, 7, 7, 7, 7, 7, 7, 7, 7, 7, 7, 7, 7, 7, 7, 7, 7, 7, 7, 7, 7, 7, 7, 7, 7, 7, 7, 7, 7, 7, 8, 8, 8, 8, 8, 8, 8, 8, 8, 8, 8, 8, 8, 8, 8, 8, 8, 8, 8, 8, 8, 8, 8, 8, 8, 8, 8, 8, 8, 8, 8, 8, 8, 8, 8, 8, 8, 8, 8, 8, 8, 8, 8, 8, 8, 8, 8, 8, 8, 8, 8, 8, 8, 8, 8, 8, 8, 8, 8, 8, 8, 8, 8, 8, 8, 8, 8, 8, 8, 8, 8, 8, 8, 8, 8, 8, 8, 8, 8, 8, 8, 8, 8, 8, 8, 8, 8, 8, 8, 8, 8, 8, 8, 8, 8, 8, 8, 8, 8, 8, 8, 8, 8, 8, 8, 8, 8, 8, 8, 8, 8, 8, 8, 8, 8, 8, 8, 8, 8, 8, 8, 8, 8, 8, 8, 8, 8, 8]) (iwr .u8 (ishr .u64 s9.1 8))))))
  else
    gd (inS (ByteArray.mk #[0, 1, 2, 2, 3, 3, 3, 3, 4, 4, 4, 4, 4, 4, 4, 4, 5, 5, 5, 5, 5, 5, 5, 5, 5, 5, 5, 5, 5, 5, 5, 5, 6, 6, 6, 6, 6, 6, 6, 6, 6, 6, 6, 6, 6, 6, 6, 6, 6, 6, 6, 6, 6, 6, 6, 6, 6, 6, 6, 6, 6, 6, 6, 6, 7, 7, 7, 7, 7, 7, 7, 7, 7, 7, 7, 7, 7, 7, 7, 7, 7, 7, 7, 7, 7, 7, 7, 7, 7, 7, 7, 7, 7, 7, 7, 7, 7, 7, 7, 7, 7, 7, 7, 7, 7, 7, 7, 7, 7, 7, 7, 7, 7, 7, 7, 7, 7, 7, 7, 7, 7, 7, 7, 7, 7, 7, 7, 7, 8, 8, 8, 8, 8, 8, 8, 8, 8, 8, 8, 8, 8, 8, 8, 8, 8, 8, 8, 8, 8, 8, 8, 8, 8, 8, 8, 8, 8, 8, 8, 8, 8, 8, 8, 8, 8, 8, 8, 8, 8, 8, 8, 8, 8, 8, 8, 8, 8, 8, 8, 8, 8, 8, 8, 8, 8, 8, 8, 8, 8, 8, 8, 8, 8, 8, 8, 8, 8, 8, 8, 8, 8, 8, 8, 8, 8, 8, 8, 8, 8, 8, 8, 8, 8, 8, 8, 8, 8, 8, 8, 8, 8, 8, 8, 8, 8, 8, 8, 8, 8, 8, 8, 8, 8, 8, 8, 8, 8, 8, 8, 8, 8, 8, 8, 8, 8, 8, 8, 8, 8, 8, 8, 8, 8, 8, 8, 8]) (iwr .u8 s9.1)) (
    some (iadd .i64 s9.2 (iwr .i64 (sat (ByteArray.mk #[0, 1, 2, 2, 3, 3, 3, 3, 4, 4, 4, 4, 4, 4, 4, 4, 5, 5, 5, 5, 5, 5, 5, 5, 5, 5, 5, 5, 5, 5, 5, 5, 6, 6, 6, 6, 6, 6, 6, 6, 6, 6, 6, 6, 6, 6, 6, 6, 6, 6, 6, 6, 6, 6, 6, 6, 6, 6, 6, 6, 6, 6, 6, 6, 7, 7, 7, 7, 7, 7, 7, 7, 7, 7, 7, 7, 7, 7, 7, 7, 7, 7, 7, 7, 7, 7, 7, 7, 7, 7, 7, 7, 7, 7, 7, 7, 7, 7, 7, 7, 7, 7, 7, 7, 7, 7, 7, 7, 7, 7, 7, 7, 7, 7, 7, 7, 7, 7, 7, 7, 7, 7, 7, 7, 7, 7, 7, 7, 8, 8, 8, 8, 8, 8, 8, 8, 8, 8, 8, 8, 8, 8, 8, 8, 8, 8, 8, 8, 8, 8, 8, 8, 8, 8, 8, 8, 8, 8, 8, 8, 8, 8, 8, 8, 8, 8, 8, 8, 8, 8, 8, 8, 8, 8, 8, 8, 8, 8, 8, 8, 8, 8, 8, 8, 8, 8, 8, 8, 8, 8, 8, 8, 8, 8, 8, 8, 8, 8, 8, 8, 8, 8, 8, 8, 8, 8, 8, 8, 8, 8, 8, 8, 8, 8, 8, 8, 8, 8, 8, 8, 8, 8, 8, 8, 8, 8, 8, 8, 8, 8, 8, 8, 8, 8, 8, 8, 8, 8, 8, 8, 8, 8, 8, 8, 8, 8, 8, 8, 8, 8, 8, 8, 8, 8, 8, 8]) (iwr .u8 s9.1)))))
theorem F_math_bits_Len64_w {fu : Nat} {H : AH}  {x0 : Int} {r : (Int)}  (hF : F_math_bits_Len64 fu x0 = some r) :
    ACallT Try.prog 106 [(Value.int .u64 x0)] H (fun u G => AgB (Fr H) H G ∧ u = (Value.int .i64 r) ∧ Sep G (Fr H) []) := by
  refine ACallT.of_body (nt := 25) (rs := [.tmp 2]) Try.func106 rfl rfl rfl rfl ?_
  have A0 : AgB (Fr H) H H := .refl _ _
  have S0 : Sep H (Fr H) [] := .nil
  have hB := Fr.up H
  unfold F_math_bits_Len64 at hF
  refine DWp.seq ?_
  refine DWp.region fun K hK => ?_
  simp [-aBin', -aBin, -aBinI, -aUn, -aNil, -flatV, n_fn, b_add, b_sub, b_mul, b_lt, b_le, b_gt, b_ge, b_eq, b_ne, u_not]
  apply hK
  clear hK K
  simp only [andThen, leaves]
  obtain ⟨s1, hL2, hF⟩ := bd_some hF
  refine DWp.seq (DWp.join (fun env G => Sep G (Fr H) [] ∧ AgB (Fr H) H G ∧ env 0 = some (Value.int .u64 s1.1) ∧ env 2 = some (Value.int .i64 s1.2)) ?_ ?_)
  ·
    refine DWp.seq ?_
    refine DWp.region fun K hK => ?_
    simp [-aBin', -aBin, -aBinI, -aUn, -aNil, -flatV, n_fn, b_add, b_sub, b_mul, b_lt, b_le, b_gt, b_ge, b_eq, b_ne, u_not]
    apply hK
    clear hK K
    simp only [andThen, leaves]
    refine DWp.cond' (t := (ile 4294967296 x0)) (by simp []) (fun hb4 => ?_) (fun hb4 => ?_)
    · replace hL2 := cd_t hb4 hL2
      refine DWp.seq ?_
      have g5 : ¬ ((32 : Int) < 0) := by decide
      refine DWp.region fun K hK => ?_
      simp [-aBin', -aBin, -aBinI, -aUn, -aNil, -flatV, n_fn, b_add, b_sub, b_mul, b_lt, b_le, b_gt, b_ge, b_eq, b_ne, u_not, b_shr g5]
      apply hK
      clear hK K
      simp only [andThen, leaves]
      refine DWp.region fun K hK => ?_
      simp [-aBin', -aBin, -aBinI, -aUn, -aNil, -flatV, n_fn, b_add, b_sub, b_mul, b_lt, b_le, b_gt, b_ge, b_eq, b_ne, u_not]
      apply hK
      clear hK K
      simp only [andThen, leaves]
      have S6 := S0.pick [] (by decide) rfl
      obtain rfl := Option.some.inj hL2
      exact ⟨S6, A0, by simp [], by simp []⟩
    · replace hL2 := cd_f hb4 hL2
      refine DWp.skip ?_
      simp only [andThen, leaves]
      have S7 := S0.pick [] (by decide) rfl
      obtain rfl := Option.some.inj hL2
      exact ⟨S7, A0, by simp [], by simp []⟩
  · rintro env Gj8 ⟨Sj8, Aj8, ej8_0, ej8_2⟩
    obtain ⟨s9, hL10, hF⟩ := bd_some hF
    refine DWp.seq (DWp.join (fun env G => Sep G (Fr H) [] ∧ AgB (Fr H) H G ∧ env 0 = some (Value.int .u64 s9.1) ∧ env 2 = some (Value.int .i64 s9.2)) ?_ ?_)
    ·
      refine DWp.seq ?_
      refine DWp.region fun K hK => ?_
      simp [-aBin', -aBin, -aBinI, -aUn, -aNil, -flatV, n_fn, b_add, b_sub, b_mul, b_lt, b_le, b_gt, b_ge, b_eq, b_ne, u_not, ej8_0, ej8_2]
      apply hK
      clear hK K
      simp only [andThen, leaves]
      refine DWp.cond' (t := (ile 65536 s1.1)) (by simp [ej8_0, ej8_2]) (fun hb12 => ?_) (fun hb12 => ?_)
      · replace hL10 := cd_t hb12 hL10
        refine DWp.seq ?_
        have g13 : ¬ ((16 : Int) < 0) := by decide
        refine DWp.region fun K hK => ?_
        simp [-aBin', -aBin, -aBinI, -aUn, -aNil, -flatV, n_fn, b_add, b_sub, b_mul, b_lt, b_le, b_gt, b_ge, b_eq, b_ne, u_not, ej8_0, ej8_2, b_shr g13]
        apply hK
        clear hK K
        simp only [andThen, leaves]
        refine DWp.region fun K hK => ?_
        simp [-aBin', -aBin, -aBinI, -aUn, -aNil, -flatV, n_fn, b_add, b_sub, b_mul, b_lt, b_le, b_gt, b_ge, b_eq, b_ne, u_not, ej8_0, ej8_2]
        apply hK
        clear hK K
        simp only [andThen, leaves]
        have S14 := Sj8.pick [] (by decide) rfl
        obtain rfl := Option.some.inj hL10
        exact ⟨S14, Aj8, by simp [ej8_0, ej8_2], by simp [ej8_0, ej8_2]⟩
      · replace hL10 := cd_f hb12 hL10
        refine DWp.skip ?_
        simp only [andThen, leaves]
        have S15 := Sj8.pick [] (by decide) rfl
        obtain rfl := Option.some.inj hL10
        exact ⟨S15, Aj8, by simp [ej8_0, ej8_2], by simp [ej8_0, ej8_2]⟩
    · rintro env Gj16 ⟨Sj16, Aj16, ej16_0, ej16_2⟩
      refine DWp.seq ?_
      refine DWp.seq ?_
      refine DWp.region fun K hK => ?_
      simp [-aBin', -aBin, -aBinI, -aUn, -aNil, -flatV, n_fn, b_add, b_sub, b_mul, b_lt, b_le, b_gt, b_ge, b_eq, b_ne, u_not, ej16_0, ej16_2]
      apply hK
      clear hK K
      simp only [andThen, leaves]
      refine DWp.cond' (t := (ile 256 s9.1)) (by simp [ej16_0, ej16_2]) (fun hb17 => ?_) (fun hb17 => ?_)
      · replace hF := cd_t hb17 hF
        refine DWp.seq ?_
        have g18 : ¬ ((8 : Int) < 0) := by decide
        refine DWp.region fun K hK => ?_
        simp [-aBin', -aBin, -aBinI, -aUn, -aNil, -flatV, n_fn, b_add, b_sub, b_mul, b_lt, b_le, b_gt, b_ge, b_eq, b_ne, u_not, ej16_0, ej16_2, b_shr g18]
        apply hK
        clear hK K
        simp only [andThen, leaves]
        refine DWp.region fun K hK => ?_
        simp [-aBin', -aBin, -aBinI, -aUn, -aNil, -flatV, n_fn, b_add, b_sub, b_mul, b_lt, b_le, b_gt, b_ge, b_eq, b_ne, u_not, ej16_0, ej16_2]
        apply hK
        clear hK K
        simp only [andThen, leaves]
        refine DWp.seq ?_
        obtain ⟨g19, hF⟩ := gd_some hF
        have q20 := strIdx (P := Try.prog) (kk := .u8) un_9 g19
        refine DWp.region fun K hK => ?_
        simp [-aBin', -aBin, -aBinI, -aUn, -aNil, -flatV, n_fn, b_add, b_sub, b_mul, b_lt, b_le, b_gt, b_ge, b_eq, b_ne, u_not, ej16_0, ej16_2, c_int un_79 un_5, q20, c_int un_5 un_3]
        apply hK
        clear hK K
        simp only [andThen, leaves]
        refine DWp.ret ?_
        obtain rfl := Option.some.inj hF
        exact ⟨by simp, [(Value.int .i64 (iadd .i64 (iadd .i64 s9.2 8) (iwr .i64 (sat (ByteArray.mk #[0, 1, 2, 2, 3, 3, 3, 3, 4, 4, 4, 4, 4, 4, 4, 4, 5, 5, 5, 5, 5, 5, 5, 5, 5, 5, 5, 5, 5, 5, 5, 5, 6, 6, 6, 6, 6, 6, 6, 6, 6, 6, 6, 6, 6, 6, 6, 6, 6, 6, 6, 6, 6, 6, 6, 6, 6, 6, 6, 6, 6, 6, 6, 6, 7, 7, 7, 7, 7, 7, 7, 7, 7, 7, 7, 7, 7, 7, 7, 7, 7, 7, 7, 7, 7, 7, 7, 7, 7, 7, 7, 7, 7, 7, 7, 7, 7, 7, 7, 7, 7, 7, 7, 7, 7, 7, 7, 7, 7, 7, 7, 7, 7, 7, 7, 7, 7, 7, 7, 7, 7, 7, 7, 7, 7, 7, 7, 7, 8, 8, 8, 8, 8, 8, 8, 8, 8, 8, 8, 8, 8, 8, 8, 8, 8, 8, 8, 8, 8, 8, 8, 8, 8, 8, 8, 8, 8, 8, 8, 8, 8, 8, 8, 8, 8, 8, 8, 8, 8, 8, 8, 8, 8, 8, 8, 8, 8, 8, 8, 8, 8, 8, 8, 8, 8, 8, 8, 8, 8, 8, 8, 8, 8, 8, 8, 8, 8, 8, 8, 8, 8, 8, 8, 8, 8, 8, 8, 8, 8, 8, 8, 8, 8, 8, 8, 8, 8, 8, 8, 8, 8, 8, 8, 8, 8, 8, 8, 8, 8, 8, 8, 8, 8, 8, 8, 8, 8, 8, 8, 8, 8, 8, 8, 8, 8, 8, 8, 8, 8, 8, 8, 8, 8, 8, 8, 8]) (iwr .u8 (ishr .u64 s9.1 8))))))], by simp [ej16_0, ej16_2], Aj16, rfl, Sj16.pick [] (by decide) rfl⟩
      · replace hF := cd_f hb17 hF
        refine DWp.skip ?_
        simp only [andThen, leaves]
        refine DWp.seq ?_
        obtain ⟨g21, hF⟩ := gd_some hF
        have q22 := strIdx (P := Try.prog) (kk := .u8) un_9 g21
        refine DWp.region fun K hK => ?_
        simp [-aBin', -aBin, -aBinI, -aUn, -aNil, -flatV, n_fn, b_add, b_sub, b_mul, b_lt, b_le, b_gt, b_ge, b_eq, b_ne, u_not, ej16_0, ej16_2, c_int un_79 un_5, q22, c_int un_5 un_3]
        apply hK
        clear hK K
        simp only [andThen, leaves]
        refine DWp.ret ?_
        obtain rfl := Option.some.inj hF
        exact ⟨by simp, [(Value.int .i64 (iadd .i64 s9.2 (iwr .i64 (sat (ByteArray.mk #[0, 1, 2, 2, 3, 3, 3, 3, 4, 4, 4, 4, 4, 4, 4, 4, 5, 5, 5, 5, 5, 5, 5, 5, 5, 5, 5, 5, 5, 5, 5, 5, 6, 6, 6, 6, 6, 6, 6, 6, 6, 6, 6, 6, 6, 6, 6, 6, 6, 6, 6, 6, 6, 6, 6, 6, 6, 6, 6, 6, 6, 6, 6, 6, 7, 7, 7, 7, 7, 7, 7, 7, 7, 7, 7, 7, 7, 7, 7, 7, 7, 7, 7, 7, 7, 7, 7, 7, 7, 7, 7, 7, 7, 7, 7, 7, 7, 7, 7, 7, 7, 7, 7, 7, 7, 7, 7, 7, 7, 7, 7, 7, 7, 7, 7, 7, 7, 7, 7, 7, 7, 7, 7, 7, 7, 7, 7, 7, 8, 8, 8, 8, 8, 8, 8, 8, 8, 8, 8, 8, 8, 8, 8, 8, 8, 8, 8, 8, 8, 8, 8, 8, 8, 8, 8, 8, 8, 8, 8, 8, 8, 8, 8, 8, 8, 8, 8, 8, 8, 8, 8, 8, 8, 8, 8, 8, 8, 8, 8, 8, 8, 8, 8, 8, 8, 8, 8, 8, 8, 8, 8, 8, 8, 8, 8, 8, 8, 8, 8, 8, 8, 8, 8, 8, 8, 8, 8, 8, 8, 8, 8, 8, 8, 8, 8, 8, 8, 8, 8, 8, 8, 8, 8, 8, 8, 8, 8, 8, 8, 8, 8, 8, 8, 8, 8, 8, 8, 8, 8, 8, 8, 8, 8, 8, 8, 8, 8, 8, 8, 8, 8, 8, 8, 8, 8, 8]) (iwr .u8 s9.1)))))], by simp [ej16_0, ej16_2], Aj16, rfl, Sj16.pick [] (by decide) rfl⟩
/-! math/bits.Len -/
def F_math_bits_Len (fu : Nat) (x0 : Int) : Option (Int) :=
  bd (F_math_bits_Len64 fu x0) fun r1 =>
  some r1
theorem F_math_bits_Len_w {fu : Nat} {H : AH}  {x0 : Int} {r : (Int)}  (hF : F_math_bits_Len fu x0 = some r) :
    ACallT Try.prog 92 [(Value.int .u64 x0)] H (fun u G => AgB (Fr H) H G ∧ u = (Value.int .i64 r) ∧ Sep G (Fr H) []) := by
  refine ACallT.of_body (nt := 8) (rs := [.tmp 2]) Try.func92 rfl rfl rfl rfl ?_
  have A0 : AgB (Fr H) H H := .refl _ _
  have S0 : Sep H (Fr H) [] := .nil
  have hB := Fr.up H
  unfold F_math_bits_Len at hF
  refine DWp.seq ?_
  refine DWp.region fun K hK => ?_
  simp [-aBin', -aBin, -aBinI, -aUn, -aNil, -flatV, n_fn, b_add, b_sub, b_mul, b_lt, b_le, b_gt, b_ge, b_eq, b_ne, u_not]
  apply hK
  clear hK K
  simp only [andThen, leaves]
  refine DWp.seq ?_
  refine DWp.cf (by simp [bnot]) ?_
  refine DWp.skip ?_
  simp only [andThen, leaves]
  refine DWp.seq ?_
  obtain ⟨r1, hc1, hF⟩ := bd_some hF
  refine DWp.region fun K hK => ?_
  simp [-aBin', -aBin, -aBinI, -aUn, -aNil, -flatV, n_fn, b_add, b_sub, b_mul, b_lt, b_le, b_gt, b_ge, b_eq, b_ne, u_not]
  refine CallD.t (F_math_bits_Len64_w (fu := fu)  hc1) ?_
  rintro _ G3 ⟨a6, rfl, S7⟩
  have A5 := A0.ext (hB.le A0.1) a6.agree
  have S4 : Sep G3 (Fr H) [] := S0.app a6.agree S7 (fun _ h => h) (hB.le A0.1)
  simp [-aBin', -aBin, -aBinI, -aUn, -aNil, -flatV, n_fn, b_add, b_sub, b_mul, b_lt, b_le, b_gt, b_ge, b_eq, b_ne, u_not, a6.pre]
  apply hK
  clear hK K
  simp only [andThen, leaves]
  refine DWp.ret ?_
  obtain rfl := Option.some.inj hF
  exact ⟨by simp, [(Value.int .i64 r1)], by simp [], A5, rfl, S4.pick [] (by decide) rfl⟩
/-! cmp.isNaN[int] -/
def F_cmp_isNaN_int (fu : Nat) (x0 : Int) : Option (Bool) :=
  some (ine x0 x0)
theorem F_cmp_isNaN_int_w {fu : Nat} {H : AH}  {x0 : Int} {r : (Bool)}  (hF : F_cmp_isNaN_int fu x0 = some r) :
    ACallT Try.prog 112 [(Value.int .i64 x0)] H (fun u G => AgB (Fr H) H G ∧ u = (Value.bool r) ∧ Sep G (Fr H) []) := by
  refine ACallT.of_body (nt := 6) (rs := [.tmp 2]) Try.func112 rfl rfl rfl rfl ?_
  have A0 : AgB (Fr H) H H := .refl _ _
  have S0 : Sep H (Fr H) [] := .nil
  have hB := Fr.up H
  unfold F_cmp_isNaN_int at hF
  refine DWp.seq ?_
  refine DWp.region fun K hK => ?_
  simp [-aBin', -aBin, -aBinI, -aUn, -aNil, -flatV, n_fn, b_add, b_sub, b_mul, b_lt, b_le, b_gt, b_ge, b_eq, b_ne, u_not]
  apply hK
  clear hK K
  simp only [andThen, leaves]
  refine DWp.seq ?_
  refine DWp.region fun K hK => ?_
  simp [-aBin', -aBin, -aBinI, -aUn, -aNil, -flatV, n_fn, b_add, b_sub, b_mul, b_lt, b_le, b_gt, b_ge, b_eq, b_ne, u_not]
  apply hK
  clear hK K
  simp only [andThen, leaves]
  refine DWp.ret ?_
  obtain rfl := Option.some.inj hF
  exact ⟨by simp, [(Value.bool (ine x0 x0))], by simp [], A0, rfl, S0.pick [] (by decide) rfl⟩
/-! cmp.Less[int] -/
def F_cmp_Less_int (fu : Nat) (x0 : Int) (x1 : Int) : Option (Bool) :=
  bd (F_cmp_isNaN_int fu x0) fun r1 =>
  bif r1 then
    bd (F_cmp_isNaN_int fu x1) fun r2 =>
    bif (bnot r2) then
      some true
    else
      some (ilt x0 x1)
  else
    some (ilt x0 x1)
theorem F_cmp_Less_int_w {fu : Nat} {H : AH}  {x0 : Int} {x1 : Int} {r : (Bool)}  (hF : F_cmp_Less_int fu x0 x1 = some r) :
    ACallT Try.prog 102 [(Value.int .i64 x0), (Value.int .i64 x1)] H (fun u G => AgB (Fr H) H G ∧ u = (Value.bool r) ∧ Sep G (Fr H) []) := by
  refine ACallT.of_body (nt := 17) (rs := [.tmp 4]) Try.func102 rfl rfl rfl rfl ?_
  have A0 : AgB (Fr H) H H := .refl _ _
  have S0 : Sep H (Fr H) [] := .nil
  have hB := Fr.up H
  unfold F_cmp_Less_int at hF
  refine DWp.seq ?_
  refine DWp.region fun K hK => ?_
  simp [-aBin', -aBin, -aBinI, -aUn, -aNil, -flatV, n_fn, b_add, b_sub, b_mul, b_lt, b_le, b_gt, b_ge, b_eq, b_ne, u_not]
  apply hK
  clear hK K
  simp only [andThen, leaves]
  refine DWp.seq ?_
  obtain ⟨r1, hc1, hF⟩ := bd_some hF
  refine DWp.region fun K hK => ?_
  simp [-aBin', -aBin, -aBinI, -aUn, -aNil, -flatV, n_fn, b_add, b_sub, b_mul, b_lt, b_le, b_gt, b_ge, b_eq, b_ne, u_not]
  refine CallD.t (F_cmp_isNaN_int_w (fu := fu)  hc1) ?_
  rintro _ G3 ⟨a6, rfl, S7⟩
  have A5 := A0.ext (hB.le A0.1) a6.agree
  have S4 : Sep G3 (Fr H) [] := S0.app a6.agree S7 (fun _ h => h) (hB.le A0.1)
  rcases Bool.eq_false_or_eq_true r1 with hb8 | hb8
  · replace hF := cd_t hb8 hF
    obtain ⟨r2, hc9, hF⟩ := bd_some hF
    simp [-aBin', -aBin, -aBinI, -aUn, -aNil, -flatV, n_fn, b_add, b_sub, b_mul, b_lt, b_le, b_gt, b_ge, b_eq, b_ne, u_not, hb8, a6.pre]
    refine CallD.t (F_cmp_isNaN_int_w (fu := fu)  hc9) ?_
    rintro _ G11 ⟨a14, rfl, S15⟩
    have A13 := A5.ext (hB.le A5.1) a14.agree
    have S12 : Sep G11 (Fr H) [] := S4.app a14.agree S15 (fun _ h => h) (hB.le A5.1)
    rcases Bool.eq_false_or_eq_true (bnot r2) with hb16 | hb16
    · replace hF := cd_t hb16 hF
      simp [-aBin', -aBin, -aBinI, -aUn, -aNil, -flatV, n_fn, b_add, b_sub, b_mul, b_lt, b_le, b_gt, b_ge, b_eq, b_ne, u_not, hb8, hb16, a6.pre, a14.pre]
      apply hK
      clear hK K
      simp only [andThen, leaves]
      refine DWp.ret ?_
      obtain rfl := Option.some.inj hF
      exact ⟨by simp, [(Value.bool true)], by simp [], A13, rfl, S12.pick [] (by decide) rfl⟩
    · replace hF := cd_f hb16 hF
      simp [-aBin', -aBin, -aBinI, -aUn, -aNil, -flatV, n_fn, b_add, b_sub, b_mul, b_lt, b_le, b_gt, b_ge, b_eq, b_ne, u_not, hb8, hb16, a6.pre, a14.pre]
      apply hK
      clear hK K
      simp only [andThen, leaves]
      refine DWp.ret ?_
      obtain rfl := Option.some.inj hF
      exact ⟨by simp, [(Value.bool (ilt x0 x1))], by simp [], A13, rfl, S12.pick [] (by decide) rfl⟩
  · replace hF := cd_f hb8 hF
    simp [-aBin', -aBin, -aBinI, -aUn, -aNil, -flatV, n_fn, b_add, b_sub, b_mul, b_lt, b_le, b_gt, b_ge, b_eq, b_ne, u_not, hb8, a6.pre]
    apply hK
    clear hK K
    simp only [andThen, leaves]
    refine DWp.ret ?_
    obtain rfl := Option.some.inj hF
    exact ⟨by simp, [(Value.bool (ilt x0 x1))], by simp [], A5, rfl, S4.pick [] (by decide) rfl⟩
/-! slices.insertionSortOrdered[int] -/
def F_slices_insertionSortOrdered_int_L2 (fu : Nat) (k2_0 : Int) (k2_1 : Int) (k2_2 : Int) : Nat → List Int → Int → Option (List Int × Int)
  | 0, _, _ => none
  | n + 1, l2_0, y2_7 =>
    bd (
      bif (ilt k2_0 y2_7) then
        gd (inL l2_0 y2_7) (
        gd (inL l2_0 (isub .i64 y2_7 1)) (
        bd (F_cmp_Less_int fu (gat 0 l2_0 y2_7) (gat 0 l2_0 (isub .i64 y2_7 1))) fun r1 =>
        some r1))
      else
        some false) fun s8 =>
    bif s8 then
      gd (inL l2_0 (isub .i64 y2_7 1)) (
      gd (inL l2_0 y2_7) (
      gd (inL l2_0 y2_7) (
      gd (inL (lset l2_0 y2_7 (gat 0 l2_0 (isub .i64 y2_7 1))) (isub .i64 y2_7 1)) (
      F_slices_insertionSortOrdered_int_L2 fu k2_0 k2_1 k2_2 n (lset (lset l2_0 y2_7 (gat 0 l2_0 (isub .i64 y2_7 1))) (isub .i64 y2_7 1) (gat 0 l2_0 y2_7)) (isub .i64 y2_7 1)))))
    else
      some (l2_0, y2_7)
def F_slices_insertionSortOrdered_int_L1 (fu : Nat) (k1_0 : Int) (k1_1 : Int) : Nat → List Int → Int → Option (List Int × Int)
  | 0, _, _ => none
  | n + 1, l1_0, y1_6 =>
    bif (ilt y1_6 k1_1) then
      bd (F_slices_insertionSortOrdered_int_L2 fu k1_0 k1_1 y1_6 fu l1_0 y1_6) fun s2 =>
      F_slices_insertionSortOrdered_int_L1 fu k1_0 k1_1 n s2.1 (iadd .i64 y1_6 1)
    else
      some (l1_0, y1_6)
def F_slices_insertionSortOrdered_int (fu : Nat) (x0 : List Int) (x1 : Int) (x2 : Int) : Option (List Int) :=
  bd (F_slices_insertionSortOrdered_int_L1 fu x1 x2 fu x0 (iadd .i64 x1 1)) fun s1 =>
  some s1.1
theorem F_slices_insertionSortOrdered_int_w {fu : Nat} {H : AH} {B : Nat → Prop} {v0 : Value} {x0 : List Int} {x1 : Int} {x2 : Int} {r : (List Int)} (hB : Up B H.length) (S0 : Sep H B [flat v0 3 (ints x0)]) (hF : F_slices_insertionSortOrdered_int fu x0 x1 x2 = some r) :
    ACallT Try.prog 96 [v0, (Value.int .i64 x1), (Value.int .i64 x2)] H (fun u G => AgB B H G ∧ u = (Value.tuple #[]) ∧ Sep G B [flat v0 3 (ints r)]) := by
  refine ACallT.of_body (nt := 49) (rs := []) Try.func96 rfl rfl rfl rfl ?_
  have A0 : AgB B H H := .refl _ _
  unfold F_slices_insertionSortOrdered_int at hF
  refine DWp.seq ?_
  refine DWp.region fun K hK => ?_
  simp [-aBin', -aBin, -aBinI, -aUn, -aNil, -flatV, n_fn, b_add, b_sub, b_mul, b_lt, b_le, b_gt, b_ge, b_eq, b_ne, u_not]
  apply hK
  clear hK K
  simp only [andThen, leaves]
  refine DWp.block ?_
  obtain ⟨s1, hL2, hF⟩ := bd_some hF
  have S3 := S0.pick [0] (by decide) rfl
  refine DWp.loop (fun n env G => ∃ l1_0 : List Int, ∃ y1_6 : Int, F_slices_insertionSortOrdered_int_L1 fu x1 x2 n l1_0 y1_6 = some s1 ∧ Sep G B [flat v0 3 (ints l1_0)] ∧ AgB B H G ∧ env 0 = some v0 ∧ env 1 = some (Value.int .i64 x1) ∧ env 2 = some (Value.int .i64 x2) ∧ env 6 = some (Value.int .i64 y1_6)) fu ⟨x0, (iadd .i64 x1 1), hL2, S3, A0, by simp [], by simp [], by simp [], by simp []⟩ ?_
  rintro n1 env1 G1_ ⟨l1_0, y1_6, hL2, S1_, A1_, e1_0, e1_1, e1_2, e1_6⟩
  cases n1 with
  | zero => cases hL2
  | succ n1 =>
    simp only [F_slices_insertionSortOrdered_int_L1] at hL2
    refine DWp.seq ?_
    refine DWp.seq ?_
    refine DWp.region fun K hK => ?_
    simp [-aBin', -aBin, -aBinI, -aUn, -aNil, -flatV, n_fn, b_add, b_sub, b_mul, b_lt, b_le, b_gt, b_ge, b_eq, b_ne, u_not, e1_0, e1_1, e1_2, e1_6]
    apply hK
    clear hK K
    simp only [andThen, leaves]
    refine DWp.cond' (t := (ilt y1_6 x2)) (by simp [e1_0, e1_1, e1_2, e1_6]) (fun hb4 => ?_) (fun hb4 => ?_)
    · replace hL2 := cd_t hb4 hL2
      refine DWp.skip ?_
      simp only [andThen, leaves]
      refine DWp.seq ?_
      refine DWp.block ?_
      refine DWp.seq ?_
      refine DWp.region fun K hK => ?_
      simp [-aBin', -aBin, -aBinI, -aUn, -aNil, -flatV, n_fn, b_add, b_sub, b_mul, b_lt, b_le, b_gt, b_ge, b_eq, b_ne, u_not, e1_0, e1_1, e1_2, e1_6]
      apply hK
      clear hK K
      simp only [andThen, leaves]
      refine DWp.block ?_
      obtain ⟨s5, hL6, hL2⟩ := bd_some hL2
      have S7 := S1_.pick [0] (by decide) rfl
      refine DWp.loop (fun n env G => ∃ l2_0 : List Int, ∃ y2_7 : Int, F_slices_insertionSortOrdered_int_L2 fu x1 x2 y1_6 n l2_0 y2_7 = some s5 ∧ Sep G B [flat v0 3 (ints l2_0)] ∧ AgB B H G ∧ env 0 = some v0 ∧ env 1 = some (Value.int .i64 x1) ∧ env 2 = some (Value.int .i64 x2) ∧ env 6 = some (Value.int .i64 y1_6) ∧ env 7 = some (Value.int .i64 y2_7)) fu ⟨l1_0, y1_6, hL6, S7, A1_, by simp [e1_0, e1_1, e1_2, e1_6], by simp [e1_0, e1_1, e1_2, e1_6], by simp [e1_0, e1_1, e1_2, e1_6], by simp [e1_0, e1_1, e1_2, e1_6], by simp [e1_0, e1_1, e1_2, e1_6]⟩ ?_
      rintro n2 env2 G2_ ⟨l2_0, y2_7, hL6, S2_, A2_, e2_0, e2_1, e2_2, e2_6, e2_7⟩
      cases n2 with
      | zero => cases hL6
      | succ n2 =>
        simp only [F_slices_insertionSortOrdered_int_L2] at hL6
        refine DWp.seq ?_
        obtain ⟨s8, hL9, hL6⟩ := bd_some hL6
        refine DWp.seq (DWp.join (fun env G => Sep G B [flat v0 3 (ints l2_0)] ∧ AgB B H G ∧ env 0 = some v0 ∧ env 1 = some (Value.int .i64 x1) ∧ env 2 = some (Value.int .i64 x2) ∧ env 6 = some (Value.int .i64 y1_6) ∧ env 7 = some (Value.int .i64 y2_7) ∧ env 30 = some (Value.bool s8)) ?_ ?_)
        ·
          rcases Bool.eq_false_or_eq_true (ilt x1 y2_7) with hb11 | hb11
          · replace hL9 := cd_t hb11 hL9
            obtain ⟨g12, hL9⟩ := gd_some hL9
            have q13 := idxG (P := Try.prog) (kk := .i64) (S2_.sl (k := 0) rfl) el_22 sz_3 g12
            have q14 := loadG (P := Try.prog) (S2_.sl (k := 0) rfl) sz_3 ag_3 g12 0
            obtain ⟨g15, hL9⟩ := gd_some hL9
            have q16 := idxG (P := Try.prog) (kk := .i64) (S2_.sl (k := 0) rfl) el_22 sz_3 g15
            have q17 := loadG (P := Try.prog) (S2_.sl (k := 0) rfl) sz_3 ag_3 g15 0
            obtain ⟨r1, hc18, hL9⟩ := bd_some hL9
            refine DWp.drawn (B := [0, 0, 3, 7, 15, 15, 63, 127, 15, 15, 527, 1807, 3855, 8191, 16383]) 15 mixed (by kernel_rfl) (by decide) fun K hK => ?_
            simp [-aBin', -aBin, -aBinI, -aUn, -aNil, -flatV, n_fn, b_add, b_sub, b_mul, b_lt, b_le, b_gt, b_ge, b_eq, b_ne, u_not, e2_0, e2_1, e2_2, e2_6, e2_7, hb11, q13, q14, q16, q17]
            refine CallD.t (F_cmp_Less_int_w (fu := fu)  hc18) ?_
            rintro _ G20 ⟨a23, rfl, S24⟩
            have A22 := A2_.ext (hB.le A2_.1) a23.agree
            have S21 : Sep G20 B [flat v0 3 (ints l2_0)] := S2_.app a23.agree S24 (fun _ h => h) (hB.le A2_.1)
            simp [-aBin', -aBin, -aBinI, -aUn, -aNil, -flatV, n_fn, b_add, b_sub, b_mul, b_lt, b_le, b_gt, b_ge, b_eq, b_ne, u_not, e2_0, e2_1, e2_2, e2_6, e2_7, hb11, q13, q14, q16, q17, a23.pre]
            apply hK
            clear hK K
            simp only [andThen, leaves]
            have S25 := S21.pick [0] (by decide) rfl
            obtain rfl := Option.some.inj hL9
            exact ⟨S25, A22, by simp [e2_0, e2_1, e2_2, e2_6, e2_7], by simp [e2_0, e2_1, e2_2, e2_6, e2_7], by simp [e2_0, e2_1, e2_2, e2_6, e2_7], by simp [e2_0, e2_1, e2_2, e2_6, e2_7], by simp [e2_0, e2_1, e2_2, e2_6, e2_7], by simp [e2_0, e2_1, e2_2, e2_6, e2_7]⟩
          · replace hL9 := cd_f hb11 hL9
            refine DWp.drawn (B := [0, 0, 3, 7, 15, 15, 63, 127, 15, 15, 527, 1807, 3855, 8191, 16383]) 15 mixed (by kernel_rfl) (by decide) fun K hK => ?_
            simp [-aBin', -aBin, -aBinI, -aUn, -aNil, -flatV, n_fn, b_add, b_sub, b_mul, b_lt, b_le, b_gt, b_ge, b_eq, b_ne, u_not, e2_0, e2_1, e2_2, e2_6, e2_7, hb11]
            apply hK
            clear hK K
            simp only [andThen, leaves]
            have S26 := S2_.pick [0] (by decide) rfl
            obtain rfl := Option.some.inj hL9
            exact ⟨S26, A2_, by simp [e2_0, e2_1, e2_2, e2_6, e2_7], by simp [e2_0, e2_1, e2_2, e2_6, e2_7], by simp [e2_0, e2_1, e2_2, e2_6, e2_7], by simp [e2_0, e2_1, e2_2, e2_6, e2_7], by simp [e2_0, e2_1, e2_2, e2_6, e2_7], by simp [e2_0, e2_1, e2_2, e2_6, e2_7]⟩
        · rintro env Gj27 ⟨Sj27, Aj27, ej27_0, ej27_1, ej27_2, ej27_6, ej27_7, ej27_30⟩
          refine DWp.cond' (t := s8) (by simp [ej27_0, ej27_1, ej27_2, ej27_6, ej27_7, ej27_30]) (fun hb28 => ?_) (fun hb28 => ?_)
          · replace hL6 := cd_t hb28 hL6
            refine DWp.skip ?_
            simp only [andThen, leaves]
            refine DWp.seq ?_
            refine DWp.block ?_
            obtain ⟨g29, hL6⟩ := gd_some hL6
            have q30 := idxG (P := Try.prog) (kk := .i64) (Sj27.sl (k := 0) rfl) el_22 sz_3 g29
            have q31 := loadG (P := Try.prog) (Sj27.sl (k := 0) rfl) sz_3 ag_3 g29 0
            obtain ⟨g32, hL6⟩ := gd_some hL6
            have q33 := idxG (P := Try.prog) (kk := .i64) (Sj27.sl (k := 0) rfl) el_22 sz_3 g32
            have q34 := loadG (P := Try.prog) (Sj27.sl (k := 0) rfl) sz_3 ag_3 g32 0
            obtain ⟨g35, hL6⟩ := gd_some hL6
            have q36 := idxG (P := Try.prog) (kk := .i64) (Sj27.sl (k := 0) rfl) el_22 sz_3 g35
            obtain ⟨G37, q38, S39, a41⟩ := Sj27.storeG (f := (Value.int .i64)) (P := Try.prog) (k := 0) (x := (gat 0 l2_0 (isub .i64 y2_7 1))) rfl (hB.le Aj27.1) sz_3 g35 rfl rfl
            have A40 := Aj27.trans a41
            replace S39 : Sep G37 B [flat v0 3 (ints (lset l2_0 y2_7 (gat 0 l2_0 (isub .i64 y2_7 1))))] := S39
            obtain ⟨g42, hL6⟩ := gd_some hL6
            have q43 := idxG (P := Try.prog) (kk := .i64) (S39.sl (k := 0) rfl) el_22 sz_3 g42
            obtain ⟨G44, q45, S46, a48⟩ := S39.storeG (f := (Value.int .i64)) (P := Try.prog) (k := 0) (x := (gat 0 l2_0 y2_7)) rfl (hB.le A40.1) sz_3 g42 rfl rfl
            have A47 := A40.trans a48
            replace S46 : Sep G44 B [flat v0 3 (ints (lset (lset l2_0 y2_7 (gat 0 l2_0 (isub .i64 y2_7 1))) (isub .i64 y2_7 1) (gat 0 l2_0 y2_7)))] := S46
            refine DWp.drawn (B := [0, 0, 0, 0, 8, 0, 0, 64, 224, 480, 0, 0, 3072, 7168, 16355, 32739, 65535, 131071]) 15 mixed (by kernel_rfl) (by decide) fun K hK => ?_
            simp [-aBin', -aBin, -aBinI, -aUn, -aNil, -flatV, n_fn, b_add, b_sub, b_mul, b_lt, b_le, b_gt, b_ge, b_eq, b_ne, u_not, ej27_0, ej27_1, ej27_2, ej27_6, ej27_7, ej27_30, q30, q31, q33, q34, q36, q38, q43, q45]
            apply hK
            clear hK K
            simp only [andThen, leaves]
            refine DWp.region fun K hK => ?_
            simp [-aBin', -aBin, -aBinI, -aUn, -aNil, -flatV, n_fn, b_add, b_sub, b_mul, b_lt, b_le, b_gt, b_ge, b_eq, b_ne, u_not, ej27_0, ej27_1, ej27_2, ej27_6, ej27_7, ej27_30]
            apply hK
            clear hK K
            simp only [andThen, leaves]
            have S49 := S46.pick [0] (by decide) rfl
            exact ⟨n2, Nat.lt_succ_self _, (lset (lset l2_0 y2_7 (gat 0 l2_0 (isub .i64 y2_7 1))) (isub .i64 y2_7 1) (gat 0 l2_0 y2_7)), (isub .i64 y2_7 1), hL6, S49, A47, by simp [ej27_0, ej27_1, ej27_2, ej27_6, ej27_7, ej27_30], by simp [ej27_0, ej27_1, ej27_2, ej27_6, ej27_7, ej27_30], by simp [ej27_0, ej27_1, ej27_2, ej27_6, ej27_7, ej27_30], by simp [ej27_0, ej27_1, ej27_2, ej27_6, ej27_7, ej27_30], by simp [ej27_0, ej27_1, ej27_2, ej27_6, ej27_7, ej27_30]⟩
          · replace hL6 := cd_f hb28 hL6
            refine DWp.exit ?_
            simp only [andThen, leaves, if_true, if_false, reduceIte, Nat.reduceEqDiff]
            obtain rfl := Option.some.inj hL6
            try dsimp only at hL2
            refine DWp.region fun K hK => ?_
            simp [-aBin', -aBin, -aBinI, -aUn, -aNil, -flatV, n_fn, b_add, b_sub, b_mul, b_lt, b_le, b_gt, b_ge, b_eq, b_ne, u_not, ej27_0, ej27_1, ej27_2, ej27_6, ej27_7, ej27_30]
            apply hK
            clear hK K
            simp only [andThen, leaves]
            have S50 := Sj27.pick [0] (by decide) rfl
            exact ⟨n1, Nat.lt_succ_self _, l2_0, (iadd .i64 y1_6 1), hL2, S50, Aj27, by simp [ej27_0, ej27_1, ej27_2, ej27_6, ej27_7, ej27_30], by simp [ej27_0, ej27_1, ej27_2, ej27_6, ej27_7, ej27_30], by simp [ej27_0, ej27_1, ej27_2, ej27_6, ej27_7, ej27_30], by simp [ej27_0, ej27_1, ej27_2, ej27_6, ej27_7, ej27_30]⟩
    · replace hL2 := cd_f hb4 hL2
      refine DWp.exit ?_
      simp only [andThen, leaves, if_true, if_false, reduceIte, Nat.reduceEqDiff]
      obtain rfl := Option.some.inj hL2
      try dsimp only at hF
      obtain rfl := Option.some.inj hF
      exact ⟨by simp, [], by simp [e1_0, e1_1, e1_2, e1_6], A1_, rfl, S1_.pick [0] (by decide) rfl⟩
/-! slices.siftDownOrdered[int] -/
def F_slices_siftDownOrdered_int_L1 (fu : Nat) (k1_0 : Int) (k1_1 : Int) : Nat → List Int → Int → Option (LR (List Int) (List Int × Int))
  | 0, _, _ => none
  | n + 1, l1_0, y1_8 =>
    bif (ile k1_0 (iadd .i64 (imul .i64 2 y1_8) 1)) then
      some (.brk (l1_0, y1_8))
    else
      bd (
        bif (ilt (iadd .i64 (iadd .i64 (imul .i64 2 y1_8) 1) 1) k1_0) then
          gd (inL l1_0 (iadd .i64 k1_1 (iadd .i64 (imul .i64 2 y1_8) 1))) (
          gd (inL l1_0 (iadd .i64 (iadd .i64 k1_1 (iadd .i64 (imul .i64 2 y1_8) 1)) 1)) (
          bd (F_cmp_Less_int fu (gat 0 l1_0 (iadd .i64 k1_1 (iadd .i64 (imul .i64 2 y1_8) 1))) (gat 0 l1_0 (iadd .i64 (iadd .i64 k1_1 (iadd .i64 (imul .i64 2 y1_8) 1)) 1))) fun r1 =>
          bif r1 then
            some (iadd .i64 (iadd .i64 (imul .i64 2 y1_8) 1) 1)
          else
            some (iadd .i64 (imul .i64 2 y1_8) 1)))
        else
          some (iadd .i64 (imul .i64 2 y1_8) 1)) fun s5 =>
      gd (inL l1_0 (iadd .i64 k1_1 y1_8)) (
      gd (inL l1_0 (iadd .i64 k1_1 s5)) (
      bd (F_cmp_Less_int fu (gat 0 l1_0 (iadd .i64 k1_1 y1_8)) (gat 0 l1_0 (iadd .i64 k1_1 s5))) fun r2 =>
      bif (bnot r2) then
        some (.ret l1_0)
      else
        gd (inL l1_0 (iadd .i64 k1_1 s5)) (
        gd (inL l1_0 (iadd .i64 k1_1 y1_8)) (
        gd (inL l1_0 (iadd .i64 k1_1 y1_8)) (
        gd (inL (lset l1_0 (iadd .i64 k1_1 y1_8) (gat 0 l1_0 (iadd .i64 k1_1 s5))) (iadd .i64 k1_1 s5)) (
        F_slices_siftDownOrdered_int_L1 fu k1_0 k1_1 n (lset (lset l1_0 (iadd .i64 k1_1 y1_8) (gat 0 l1_0 (iadd .i64 k1_1 s5))) (iadd .i64 k1_1 s5) (gat 0 l1_0 (iadd .i64 k1_1 y1_8))) s5))))))
def F_slices_siftDownOrdered_int (fu : Nat) (x0 : List Int) (x1 : Int) (x2 : Int) (x3 : Int) : Option (List Int) :=
  bd (F_slices_siftDownOrdered_int_L1 fu x2 x3 fu x0 x1) fun s1 =>
  lr s1 fun s1 =>
  some s1.1
theorem F_slices_siftDownOrdered_int_w {fu : Nat} {H : AH} {B : Nat → Prop} {v0 : Value} {x0 : List Int} {x1 : Int} {x2 : Int} {x3 : Int} {r : (List Int)} (hB : Up B H.length) (S0 : Sep H B [flat v0 3 (ints x0)]) (hF : F_slices_siftDownOrdered_int fu x0 x1 x2 x3 = some r) :
    ACallT Try.prog 107 [v0, (Value.int .i64 x1), (Value.int .i64 x2), (Value.int .i64 x3)] H (fun u G => AgB B H G ∧ u = (Value.tuple #[]) ∧ Sep G B [flat v0 3 (ints r)]) := by
  refine ACallT.of_body (nt := 76) (rs := []) Try.func107 rfl rfl rfl rfl ?_
  have A0 : AgB B H H := .refl _ _
  unfold F_slices_siftDownOrdered_int at hF
  refine DWp.seq ?_
  refine DWp.region fun K hK => ?_
  simp [-aBin', -aBin, -aBinI, -aUn, -aNil, -flatV, n_fn, b_add, b_sub, b_mul, b_lt, b_le, b_gt, b_ge, b_eq, b_ne, u_not]
  apply hK
  clear hK K
  simp only [andThen, leaves]
  refine DWp.block ?_
  obtain ⟨s1, hL2, hF⟩ := bd_some hF
  have S3 := S0.pick [0] (by decide) rfl
  refine DWp.loop (fun n env G => ∃ l1_0 : List Int, ∃ y1_8 : Int, F_slices_siftDownOrdered_int_L1 fu x2 x3 n l1_0 y1_8 = some s1 ∧ Sep G B [flat v0 3 (ints l1_0)] ∧ AgB B H G ∧ env 0 = some v0 ∧ env 2 = some (Value.int .i64 x2) ∧ env 3 = some (Value.int .i64 x3) ∧ env 8 = some (Value.int .i64 y1_8)) fu ⟨x0, x1, hL2, S3, A0, by simp [], by simp [], by simp [], by simp []⟩ ?_
  rintro n1 env1 G1_ ⟨l1_0, y1_8, hL2, S1_, A1_, e1_0, e1_2, e1_3, e1_8⟩
  cases n1 with
  | zero => cases hL2
  | succ n1 =>
    simp only [F_slices_siftDownOrdered_int_L1] at hL2
    refine DWp.block ?_
    refine DWp.seq ?_
    refine DWp.region fun K hK => ?_
    simp [-aBin', -aBin, -aBinI, -aUn, -aNil, -flatV, n_fn, b_add, b_sub, b_mul, b_lt, b_le, b_gt, b_ge, b_eq, b_ne, u_not, e1_0, e1_2, e1_3, e1_8]
    apply hK
    clear hK K
    simp only [andThen, leaves]
    refine DWp.seq ?_
    refine DWp.seq ?_
    refine DWp.region fun K hK => ?_
    simp [-aBin', -aBin, -aBinI, -aUn, -aNil, -flatV, n_fn, b_add, b_sub, b_mul, b_lt, b_le, b_gt, b_ge, b_eq, b_ne, u_not, e1_0, e1_2, e1_3, e1_8]
    apply hK
    clear hK K
    simp only [andThen, leaves]
    refine DWp.cond' (t := (ile x2 (iadd .i64 (imul .i64 2 y1_8) 1))) (by simp [e1_0, e1_2, e1_3, e1_8]) (fun hb4 => ?_) (fun hb4 => ?_)
    · replace hL2 := cd_t hb4 hL2
      refine DWp.exit ?_
      simp only [andThen, leaves, if_true, if_false, reduceIte, Nat.reduceEqDiff]
      obtain rfl := Option.some.inj hL2
      simp only [lr] at hF
      obtain rfl := Option.some.inj hF
      exact ⟨by simp, [], by simp [e1_0, e1_2, e1_3, e1_8], A1_, rfl, S1_.pick [0] (by decide) rfl⟩
    · replace hL2 := cd_f hb4 hL2
      refine DWp.skip ?_
      simp only [andThen, leaves]
      obtain ⟨s5, hL6, hL2⟩ := bd_some hL2
      refine DWp.seq (DWp.join (fun env G => Sep G B [flat v0 3 (ints l1_0)] ∧ AgB B H G ∧ env 0 = some v0 ∧ env 2 = some (Value.int .i64 x2) ∧ env 3 = some (Value.int .i64 x3) ∧ env 8 = some (Value.int .i64 y1_8) ∧ env 9 = some (Value.int .i64 s5)) ?_ ?_)
      ·
        refine DWp.seq ?_
        rcases Bool.eq_false_or_eq_true (ilt (iadd .i64 (iadd .i64 (imul .i64 2 y1_8) 1) 1) x2) with hb8 | hb8
        · replace hL6 := cd_t hb8 hL6
          obtain ⟨g9, hL6⟩ := gd_some hL6
          have q10 := idxG (P := Try.prog) (kk := .i64) (S1_.sl (k := 0) rfl) el_22 sz_3 g9
          have q11 := loadG (P := Try.prog) (S1_.sl (k := 0) rfl) sz_3 ag_3 g9 0
          obtain ⟨g12, hL6⟩ := gd_some hL6
          have q13 := idxG (P := Try.prog) (kk := .i64) (S1_.sl (k := 0) rfl) el_22 sz_3 g12
          have q14 := loadG (P := Try.prog) (S1_.sl (k := 0) rfl) sz_3 ag_3 g12 0
          obtain ⟨r1, hc15, hL6⟩ := bd_some hL6
          refine DWp.drawn (B := [0, 1, 0, 7, 15, 31, 31, 31, 223, 511, 1023, 31, 31, 31, 12319, 28703, 63519, 129055, 262143, 524287]) 20 mixed (by kernel_rfl) (by decide) fun K hK => ?_
          simp [-aBin', -aBin, -aBinI, -aUn, -aNil, -flatV, n_fn, b_add, b_sub, b_mul, b_lt, b_le, b_gt, b_ge, b_eq, b_ne, u_not, e1_0, e1_2, e1_3, e1_8, hb8, q10, q11, q13, q14]
          refine CallD.t (F_cmp_Less_int_w (fu := fu)  hc15) ?_
          rintro _ G17 ⟨a20, rfl, S21⟩
          have A19 := A1_.ext (hB.le A1_.1) a20.agree
          have S18 : Sep G17 B [flat v0 3 (ints l1_0)] := S1_.app a20.agree S21 (fun _ h => h) (hB.le A1_.1)
          simp [-aBin', -aBin, -aBinI, -aUn, -aNil, -flatV, n_fn, b_add, b_sub, b_mul, b_lt, b_le, b_gt, b_ge, b_eq, b_ne, u_not, e1_0, e1_2, e1_3, e1_8, hb8, q10, q11, q13, q14, a20.pre]
          apply hK
          clear hK K
          simp only [andThen, leaves]
          refine DWp.cond' (t := r1) (by simp [e1_0, e1_2, e1_3, e1_8]) (fun hb22 => ?_) (fun hb22 => ?_)
          · replace hL6 := cd_t hb22 hL6
            refine DWp.region fun K hK => ?_
            simp [-aBin', -aBin, -aBinI, -aUn, -aNil, -flatV, n_fn, b_add, b_sub, b_mul, b_lt, b_le, b_gt, b_ge, b_eq, b_ne, u_not, e1_0, e1_2, e1_3, e1_8]
            apply hK
            clear hK K
            simp only [andThen, leaves]
            have S23 := S18.pick [0] (by decide) rfl
            obtain rfl := Option.some.inj hL6
            exact ⟨S23, A19, by simp [e1_0, e1_2, e1_3, e1_8], by simp [e1_0, e1_2, e1_3, e1_8], by simp [e1_0, e1_2, e1_3, e1_8], by simp [e1_0, e1_2, e1_3, e1_8], by simp [e1_0, e1_2, e1_3, e1_8]⟩
          · replace hL6 := cd_f hb22 hL6
            refine DWp.skip ?_
            simp only [andThen, leaves]
            have S24 := S18.pick [0] (by decide) rfl
            obtain rfl := Option.some.inj hL6
            exact ⟨S24, A19, by simp [e1_0, e1_2, e1_3, e1_8], by simp [e1_0, e1_2, e1_3, e1_8], by simp [e1_0, e1_2, e1_3, e1_8], by simp [e1_0, e1_2, e1_3, e1_8], by simp [e1_0, e1_2, e1_3, e1_8]⟩
        · replace hL6 := cd_f hb8 hL6
          refine DWp.drawn (B := [0, 1, 0, 7, 15, 31, 31, 31, 223, 511, 1023, 31, 31, 31, 12319, 28703, 63519, 129055, 262143, 524287]) 20 mixed (by kernel_rfl) (by decide) fun K hK => ?_
          simp [-aBin', -aBin, -aBinI, -aUn, -aNil, -flatV, n_fn, b_add, b_sub, b_mul, b_lt, b_le, b_gt, b_ge, b_eq, b_ne, u_not, e1_0, e1_2, e1_3, e1_8, hb8]
          apply hK
          clear hK K
          simp only [andThen, leaves]
          refine DWp.cf (by simp [e1_0, e1_2, e1_3, e1_8, bnot]) ?_
          refine DWp.skip ?_
          simp only [andThen, leaves]
          have S25 := S1_.pick [0] (by decide) rfl
          obtain rfl := Option.some.inj hL6
          exact ⟨S25, A1_, by simp [e1_0, e1_2, e1_3, e1_8], by simp [e1_0, e1_2, e1_3, e1_8], by simp [e1_0, e1_2, e1_3, e1_8], by simp [e1_0, e1_2, e1_3, e1_8], by simp [e1_0, e1_2, e1_3, e1_8]⟩
      · rintro env Gj26 ⟨Sj26, Aj26, ej26_0, ej26_2, ej26_3, ej26_8, ej26_9⟩
        refine DWp.seq ?_
        refine DWp.seq ?_
        obtain ⟨g27, hL2⟩ := gd_some hL2
        have q28 := idxG (P := Try.prog) (kk := .i64) (Sj26.sl (k := 0) rfl) el_22 sz_3 g27
        have q29 := loadG (P := Try.prog) (Sj26.sl (k := 0) rfl) sz_3 ag_3 g27 0
        obtain ⟨g30, hL2⟩ := gd_some hL2
        have q31 := idxG (P := Try.prog) (kk := .i64) (Sj26.sl (k := 0) rfl) el_22 sz_3 g30
        have q32 := loadG (P := Try.prog) (Sj26.sl (k := 0) rfl) sz_3 ag_3 g30 0
        obtain ⟨r2, hc33, hL2⟩ := bd_some hL2
        refine DWp.drawn (B := [0, 0, 0, 6, 15, 31, 0, 0, 0, 384, 960, 1984, 4095, 8191]) 14 mixed (by kernel_rfl) (by decide) fun K hK => ?_
        simp [-aBin', -aBin, -aBinI, -aUn, -aNil, -flatV, n_fn, b_add, b_sub, b_mul, b_lt, b_le, b_gt, b_ge, b_eq, b_ne, u_not, ej26_0, ej26_2, ej26_3, ej26_8, ej26_9, q28, q29, q31, q32]
        refine CallD.t (F_cmp_Less_int_w (fu := fu)  hc33) ?_
        rintro _ G35 ⟨a38, rfl, S39⟩
        have A37 := Aj26.ext (hB.le Aj26.1) a38.agree
        have S36 : Sep G35 B [flat v0 3 (ints l1_0)] := Sj26.app a38.agree S39 (fun _ h => h) (hB.le Aj26.1)
        simp [-aBin', -aBin, -aBinI, -aUn, -aNil, -flatV, n_fn, b_add, b_sub, b_mul, b_lt, b_le, b_gt, b_ge, b_eq, b_ne, u_not, ej26_0, ej26_2, ej26_3, ej26_8, ej26_9, q28, q29, q31, q32, a38.pre]
        apply hK
        clear hK K
        simp only [andThen, leaves]
        refine DWp.cond' (t := (bnot r2)) (by simp [ej26_0, ej26_2, ej26_3, ej26_8, ej26_9]) (fun hb40 => ?_) (fun hb40 => ?_)
        · replace hL2 := cd_t hb40 hL2
          refine DWp.ret ?_
          simp only [andThen, leaves]
          obtain rfl := Option.some.inj hL2
          simp only [lr] at hF
          obtain rfl := Option.some.inj hF
          exact ⟨by simp, [], by simp [ej26_0, ej26_2, ej26_3, ej26_8, ej26_9], A37, rfl, S36.pick [0] (by decide) rfl⟩
        · replace hL2 := cd_f hb40 hL2
          refine DWp.skip ?_
          simp only [andThen, leaves]
          refine DWp.seq ?_
          obtain ⟨g41, hL2⟩ := gd_some hL2
          have q42 := idxG (P := Try.prog) (kk := .i64) (S36.sl (k := 0) rfl) el_22 sz_3 g41
          have q43 := loadG (P := Try.prog) (S36.sl (k := 0) rfl) sz_3 ag_3 g41 0
          obtain ⟨g44, hL2⟩ := gd_some hL2
          have q45 := idxG (P := Try.prog) (kk := .i64) (S36.sl (k := 0) rfl) el_22 sz_3 g44
          have q46 := loadG (P := Try.prog) (S36.sl (k := 0) rfl) sz_3 ag_3 g44 0
          obtain ⟨g47, hL2⟩ := gd_some hL2
          have q48 := idxG (P := Try.prog) (kk := .i64) (S36.sl (k := 0) rfl) el_22 sz_3 g47
          obtain ⟨G49, q50, S51, a53⟩ := S36.storeG (f := (Value.int .i64)) (P := Try.prog) (k := 0) (x := (gat 0 l1_0 (iadd .i64 x3 s5))) rfl (hB.le A37.1) sz_3 g47 rfl rfl
          have A52 := A37.trans a53
          replace S51 : Sep G49 B [flat v0 3 (ints (lset l1_0 (iadd .i64 x3 y1_8) (gat 0 l1_0 (iadd .i64 x3 s5))))] := S51
          obtain ⟨g54, hL2⟩ := gd_some hL2
          have q55 := idxG (P := Try.prog) (kk := .i64) (S51.sl (k := 0) rfl) el_22 sz_3 g54
          obtain ⟨G56, q57, S58, a60⟩ := S51.storeG (f := (Value.int .i64)) (P := Try.prog) (k := 0) (x := (gat 0 l1_0 (iadd .i64 x3 y1_8))) rfl (hB.le A52.1) sz_3 g54 rfl rfl
          have A59 := A52.trans a60
          replace S58 : Sep G56 B [flat v0 3 (ints (lset (lset l1_0 (iadd .i64 x3 y1_8) (gat 0 l1_0 (iadd .i64 x3 s5))) (iadd .i64 x3 s5) (gat 0 l1_0 (iadd .i64 x3 y1_8))))] := S58
          refine DWp.drawn (B := [0, 0, 0, 6, 0, 0, 0, 96, 0, 0, 0, 1536, 3840, 7936, 0, 0, 0, 98304, 245760, 507904, 1048335, 2096911, 4194303, 8388607]) 21 mixed (by kernel_rfl) (by decide) fun K hK => ?_
          simp [-aBin', -aBin, -aBinI, -aUn, -aNil, -flatV, n_fn, b_add, b_sub, b_mul, b_lt, b_le, b_gt, b_ge, b_eq, b_ne, u_not, ej26_0, ej26_2, ej26_3, ej26_8, ej26_9, q42, q43, q45, q46, q48, q50, q55, q57]
          apply hK
          clear hK K
          simp only [andThen, leaves]
          refine DWp.region fun K hK => ?_
          simp [-aBin', -aBin, -aBinI, -aUn, -aNil, -flatV, n_fn, b_add, b_sub, b_mul, b_lt, b_le, b_gt, b_ge, b_eq, b_ne, u_not, ej26_0, ej26_2, ej26_3, ej26_8, ej26_9]
          apply hK
          clear hK K
          simp only [andThen, leaves]
          have S61 := S58.pick [0] (by decide) rfl
          exact ⟨n1, Nat.lt_succ_self _, (lset (lset l1_0 (iadd .i64 x3 y1_8) (gat 0 l1_0 (iadd .i64 x3 s5))) (iadd .i64 x3 s5) (gat 0 l1_0 (iadd .i64 x3 y1_8))), s5, hL2, S61, A59, by simp [ej26_0, ej26_2, ej26_3, ej26_8, ej26_9], by simp [ej26_0, ej26_2, ej26_3, ej26_8, ej26_9], by simp [ej26_0, ej26_2, ej26_3, ej26_8, ej26_9], by simp [ej26_0, ej26_2, ej26_3, ej26_8, ej26_9]⟩
end Go.Proofs.Ytfccbmpfnonjiaa.AL

/- The walks of functions, each with its Lean function: spec.exMeanders, spec.MergePath, impl.isCut, impl.turnedPath, impl.MergePath, laws.eqMeander, laws.eqMeanderS, laws.markMeander, laws.markMeanderS, laws.heldMeanderS. No condition. -/
import Derived.Test.YtdghlhdpcmemjaaFBD
import Derived.Test.YtdghlhdpcmemjaaFBE
import Derived.Test.YtdghlhdpcmemjaaG1
import Derived.Test.YtdghlhdpcmemjaaG2
import Derived.Test.YtdghlhdpcmemjaaG3
import Derived.Test.YtdghlhdpcmemjaaG4
import Derived.Test.YtdghlhdpcmemjaaG5
import Derived.Test.YtdghlhdpcmemjaaG6
import Derived.Test.YtdghlhdpcmemjaaG7
import Derived.Test.YtdghlhdpcmemjaaG8
import Derived.Test.YtdghlhdpcmemjaaALD
import Derived.Test.YtdghlhdpcmemjaaProg
import Derived.KernelRfl
namespace Go.Proofs.Ytdghlhdpcmemjaa.AL
open Go Go.RowKit
set_option linter.unusedVariables false
set_option linter.unusedSimpArgs false
set_option maxRecDepth 4096
theorem ei_38 : einfo Try.prog 38 = some ⟨2, 48, .agg #[.slice none 0 0, .slice none 0 0]⟩ := by kernel_rfl
theorem el_47 : elemT Try.prog 47 = some 38 := by kernel_rfl
def F_spec_exMeanders_L1 (fu : Nat) (k1_0 : List Int) (k1_1 : List (List Int)) (k1_2 : Int) : Nat → List (List Int × List Int) → Int → Option (List (List Int × List Int) × Int)
  | 0, _, _ => none
  | n + 1, l1_0, y1_10 =>
    bif (ilt y1_10 k1_2) then
      gd (inL k1_1 y1_10) (
      gd (k1_1.length ≤ 4294967296) (
      bd (F_spec_l1Own fu k1_0) fun r1 =>
      gd (l1_0.length + 1 ≤ 4294967296) (
      F_spec_exMeanders_L1 fu k1_0 k1_1 k1_2 n (lapp l1_0 [((gat [] k1_1 y1_10), r1)]) (iadd .i64 y1_10 1))))
    else
      some (l1_0, y1_10)
def F_spec_exMeanders (fu : Nat) (x0 : List (List Int)) (x1 : List Int) : Option (List (List Int × List Int)) :=
  bd (F_spec_exMeanders_L1 fu x1 x0 (llen x0) fu (@List.nil (List Int × List Int)) 0) fun s1 =>
  some s1.1
theorem F_spec_exMeanders_w {fu : Nat} {H : AH} {B : Nat → Prop} {v0 : Value} {C0 : List Value} {v1 : Value} {x0 : List (List Int)} {x1 : List Int} {r : (List (List Int × List Int))} (hB : Up B H.length) (S0 : Sep H B [rowsC v0 22 3 C0 (List.map ints x0)]) (hx1 : Sl H v1 (ints x1)) (hdx1 : ∀ i, idOf v1 = some i → ¬ B i) (hF : F_spec_exMeanders fu x0 x1 = some r) :
    ACallT Try.prog 84 [v0, v1] H (fun u G => AgB B H G ∧ ∃ u0 : Value, ∃ C0 : List Value, u = u0 ∧ Sep G B [rowsP u0 38 3 C0 r]) := by
  refine ACallT.of_body (nt := 23) (rs := [.tmp 4]) Try.func84 rfl rfl rfl rfl ?_
  have A0 : AgB B H H := .refl _ _
  unfold F_spec_exMeanders at hF
  refine DWp.seq ?_
  refine DWp.region fun K hK => ?_
  simp [-aBin', -aBin, -aBinI, -aUn, -aNil, -flatV, n_fn, b_add, b_sub, b_mul, b_lt, b_le, b_gt, b_ge, b_eq, b_ne, u_not]
  apply hK
  clear hK K
  simp only [andThen, leaves]
  refine DWp.seq ?_
  refine DWp.region fun K hK => ?_
  simp [-aBin', -aBin, -aBinI, -aUn, -aNil, -flatV, n_fn, b_add, b_sub, b_mul, b_lt, b_le, b_gt, b_ge, b_eq, b_ne, u_not]
  apply hK
  clear hK K
  simp only [andThen, leaves]
  refine DWp.seq ?_
  refine DWp.seq ?_
  have q1 := (S0.rd (k := 0) rfl).lenG (P := Try.prog) el_23
  refine DWp.region fun K hK => ?_
  simp [-aBin', -aBin, -aBinI, -aUn, -aNil, -flatV, n_fn, b_add, b_sub, b_mul, b_lt, b_le, b_gt, b_ge, b_eq, b_ne, u_not, q1]
  apply hK
  clear hK K
  simp only [andThen, leaves]
  refine DWp.block ?_
  have S2 := S0.rpNil (hB.le A0.1) 38 3
  have S3 : Sep H B [rowsT v0 22 3 C0 (List.map ints x0) 0, rowsP (Value.slice none 0 0) 38 3 [] (@List.nil (List Int × List Int))] := S2.toT (kk := 0) rfl
  obtain ⟨s4, hL5, hF⟩ := bd_some hF
  have S6 := S3.pick [1, 0] (by decide) rfl
  refine DWp.loop (fun n env G => ∃ l1_0 : List (List Int × List Int), ∃ y1_10 : Int, ∃ w1_0 : Value, ∃ D1_0 : List Value, F_spec_exMeanders_L1 fu x1 x0 (llen x0) n l1_0 y1_10 = some s4 ∧ Sep G B [rowsP w1_0 38 3 D1_0 l1_0, rowsT v0 22 3 C0 (List.map ints x0) y1_10] ∧ AgB B H G ∧ env 1 = some v1 ∧ env 5 = some w1_0 ∧ env 8 = some v0 ∧ env 9 = some (Value.int .i64 (llen x0)) ∧ env 10 = some (Value.int .i64 y1_10)) fu ⟨(@List.nil (List Int × List Int)), 0, (Value.slice none 0 0), [], hL5, S6, A0, by simp [], by simp [], by simp [], by simp [], by simp []⟩ ?_
  rintro n1 env1 G1_ ⟨l1_0, y1_10, w1_0, D1_0, hL5, S1_, A1_, e1_1, e1_5, e1_8, e1_9, e1_10⟩
  cases n1 with
  | zero => cases hL5
  | succ n1 =>
    simp only [F_spec_exMeanders_L1] at hL5
    refine DWp.seq ?_
    refine DWp.region fun K hK => ?_
    simp [-aBin', -aBin, -aBinI, -aUn, -aNil, -flatV, n_fn, b_add, b_sub, b_mul, b_lt, b_le, b_gt, b_ge, b_eq, b_ne, u_not, e1_1, e1_5, e1_8, e1_9, e1_10]
    apply hK
    clear hK K
    simp only [andThen, leaves]
    refine DWp.seq ?_
    refine DWp.cond' (t := (ilt y1_10 (llen x0))) (by simp [e1_1, e1_5, e1_8, e1_9, e1_10]) (fun hb7 => ?_) (fun hb7 => ?_)
    · replace hL5 := cd_t hb7 hL5
      refine DWp.skip ?_
      simp only [andThen, leaves]
      refine DWp.seq ?_
      refine DWp.block ?_
      refine DWp.seq ?_
      obtain ⟨g8, hL5⟩ := gd_some hL5
      have q9 := S1_.idxT (P := Try.prog) (ki := .i64) (kk := 1) rfl el_23 sz_22 g8
      have q11 := S1_.loadT (P := Try.prog) (kk := 1) rfl sz_22 ag_22 g8
      obtain ⟨g12, hL5⟩ := gd_some hL5
      have S13 : Sep G1_ B [rowsP w1_0 38 3 D1_0 l1_0, rowsT v0 22 3 C0 (List.map ints x0) (iadd .i64 y1_10 1), flat (gat nilV C0 y1_10) 3 (ints (gat [] x0 y1_10))] := S1_.takeT (fr := ints) (kk := 1) rfl [] g8 g12
      refine DWp.region fun K hK => ?_
      simp [-aBin', -aBin, -aBinI, -aUn, -aNil, -flatV, n_fn, b_add, b_sub, b_mul, b_lt, b_le, b_gt, b_ge, b_eq, b_ne, u_not, e1_1, e1_5, e1_8, e1_9, e1_10, q9, q11]
      apply hK
      clear hK K
      simp only [andThen, leaves]
      obtain ⟨r1, hc14, hL5⟩ := bd_some hL5
      refine DWp.region fun K hK => ?_
      simp [-aBin', -aBin, -aBinI, -aUn, -aNil, -flatV, n_fn, b_add, b_sub, b_mul, b_lt, b_le, b_gt, b_ge, b_eq, b_ne, u_not, e1_1, e1_5, e1_8, e1_9, e1_10, ((hx1.agr A1_ hdx1).tup)]
      refine CallD.t (F_spec_l1Own_w (fu := fu) (hx1.agr A1_ hdx1) hc14) ?_
      rintro c15_u0 G16 ⟨a19, _, rfl, S20⟩
      have A18 := A1_.ext (hB.le A1_.1) a19.agree
      have S17 : Sep G16 B [rowsP w1_0 38 3 D1_0 l1_0, rowsT v0 22 3 C0 (List.map ints x0) (iadd .i64 y1_10 1), flat (gat nilV C0 y1_10) 3 (ints (gat [] x0 y1_10)), flat c15_u0 3 (ints r1)] := S13.app a19.agree S20 (fun _ h => h) (hB.le A1_.1)
      obtain ⟨v21, G22, q23, S24, a26, _, _⟩ := S17.litP1 (P := Try.prog) (t := 47) (hB.le A18.1) el_47 ei_38 rfl (gat nilV C0 y1_10) c15_u0
      have A25 := A18.ext (hB.le A18.1) a26
      replace S24 : Sep G22 B [rowsP w1_0 38 3 D1_0 l1_0, rowsT v0 22 3 C0 (List.map ints x0) (iadd .i64 y1_10 1), flat (gat nilV C0 y1_10) 3 (ints (gat [] x0 y1_10)), flat c15_u0 3 (ints r1), flatK 2 v21 38 1 [(gat nilV C0 y1_10), c15_u0]] := S24
      obtain ⟨g27, hL5⟩ := gd_some hL5
      obtain ⟨v33, G28, q29, S30, a32, q29t, _⟩ := S24.pushP (u := w1_0) (X := l1_0) (a := (gat [] x0 y1_10)) (b := r1) (P := Try.prog) (t := 47) (t2 := 47) (j := 0) (k1 := 2) (k2 := 3) (by decide) (by decide) (by decide) rfl rfl rfl (hB.le A25.1) el_47 el_47 ei_38 rfl (S24.flatKSl (k := 4) rfl) g27
      have A31 := A25.trans a32
      replace S30 : Sep G28 B [rowsP v33 38 3 (D1_0 ++ [(gat nilV C0 y1_10), c15_u0]) (lapp l1_0 [((gat [] x0 y1_10), r1)]), rowsT v0 22 3 C0 (List.map ints x0) (iadd .i64 y1_10 1), emp, emp, flatK 2 v21 38 1 [(gat nilV C0 y1_10), c15_u0]] := S30
      simp [-aBin', -aBin, -aBinI, -aUn, -aNil, -flatV, n_fn, b_add, b_sub, b_mul, b_lt, b_le, b_gt, b_ge, b_eq, b_ne, u_not, e1_1, e1_5, e1_8, e1_9, e1_10, a19.pre, bu_38 ((S17.sl (k := 2) rfl).tup) ((S17.sl (k := 2) rfl).one) ((S17.sl (k := 3) rfl).tup) ((S17.sl (k := 3) rfl).one), q23, a26.to_pre, ((S17.sl (k := 2) rfl).tup), ((S17.sl (k := 3) rfl).tup), q29, q29t]
      apply hK
      clear hK K
      simp only [andThen, leaves]
      refine DWp.region fun K hK => ?_
      simp [-aBin', -aBin, -aBinI, -aUn, -aNil, -flatV, n_fn, b_add, b_sub, b_mul, b_lt, b_le, b_gt, b_ge, b_eq, b_ne, u_not, e1_1, e1_5, e1_8, e1_9, e1_10]
      apply hK
      clear hK K
      simp only [andThen, leaves]
      have S34 := S30.pick [0, 1] (by decide) rfl
      exact ⟨n1, Nat.lt_succ_self _, (lapp l1_0 [((gat [] x0 y1_10), r1)]), (iadd .i64 y1_10 1), v33, (D1_0 ++ [(gat nilV C0 y1_10), c15_u0]), hL5, S34, A31, by simp [e1_1, e1_5, e1_8, e1_9, e1_10], by simp [e1_1, e1_5, e1_8, e1_9, e1_10], by simp [e1_1, e1_5, e1_8, e1_9, e1_10], by simp [e1_1, e1_5, e1_8, e1_9, e1_10], by simp [e1_1, e1_5, e1_8, e1_9, e1_10]⟩
    · replace hL5 := cd_f hb7 hL5
      refine DWp.exit ?_
      simp only [andThen, leaves, if_true, if_false, reduceIte, Nat.reduceEqDiff]
      obtain rfl := Option.some.inj hL5
      try dsimp only at hF
      refine DWp.seq ?_
      refine DWp.region fun K hK => ?_
      simp [-aBin', -aBin, -aBinI, -aUn, -aNil, -flatV, n_fn, b_add, b_sub, b_mul, b_lt, b_le, b_gt, b_ge, b_eq, b_ne, u_not, e1_1, e1_5, e1_8, e1_9, e1_10]
      apply hK
      clear hK K
      simp only [andThen, leaves]
      refine DWp.ret ?_
      obtain rfl := Option.some.inj hF
      exact ⟨by simp, [w1_0], by simp [e1_1, e1_5, e1_8, e1_9, e1_10, ((S1_.rdP (k := 0) rfl).tup)], A1_, w1_0, D1_0, rfl, S1_.pick [0] (by decide) rfl⟩
def F_impl_isCut (fu : Nat) (x0_0 : List Int) (x0_1 : List Int) : Option (Bool) :=
  bd (F_impl_IsPair fu x0_0 x0_1) fun r1 =>
  bif r1 then
    some (ilt 0 (llen x0_0))
  else
    some false
theorem F_impl_isCut_w {fu : Nat} {H : AH} {v0_0 : Value} {v0_1 : Value} {x0_0 : List Int} {x0_1 : List Int} {r : (Bool)} (hx0_0 : Sl H v0_0 (ints x0_0)) (hx0_1 : Sl H v0_1 (ints x0_1)) (hF : F_impl_isCut fu x0_0 x0_1 = some r) :
    ACallT Try.prog 64 [(Value.agg #[v0_0, v0_1])] H (fun u G => AgB (Fr H) H G ∧ u = (Value.bool r) ∧ Sep G (Fr H) []) := by
  refine ACallT.of_body (nt := 11) (rs := [.tmp 2]) Try.func64 rfl rfl rfl rfl ?_
  have A0 : AgB (Fr H) H H := .refl _ _
  have S0 : Sep H (Fr H) [] := .nil
  have hB := Fr.up H
  unfold F_impl_isCut at hF
  refine DWp.seq ?_
  obtain ⟨G2, p4, q5, q6, a7, S1⟩ := S0.boxT (hB.le A0.1) 38 [v0_0, v0_1]
  have A3 := A0.ext (hB.le A0.1) a7
  replace S1 : Sep G2 (Fr H) [AL.box p4 [v0_0, v0_1]] := S1
  refine DWp.region fun K hK => ?_
  simp [-aBin', -aBin, -aBinI, -aUn, -aNil, -flatV, n_fn, b_add, b_sub, b_mul, b_lt, b_le, b_gt, b_ge, b_eq, b_ne, u_not, q5, q6, a7.to_pre, cells_agg]
  apply hK
  clear hK K
  simp only [andThen, leaves]
  refine DWp.seq ?_
  have q8 := S1.loadAgg (P := Try.prog) (k := 0) rfl sz_38 ag_38 rfl
  obtain ⟨r1, hc9, hF⟩ := bd_some hF
  refine DWp.region fun K hK => ?_
  simp [-aBin', -aBin, -aBinI, -aUn, -aNil, -flatV, n_fn, b_add, b_sub, b_mul, b_lt, b_le, b_gt, b_ge, b_eq, b_ne, u_not, q8, ((hx0_0.agree A3.agree).tup), ((hx0_1.agree A3.agree).tup)]
  refine CallD.t (F_impl_IsPair_w (fu := fu) (hx0_0.agree A3.agree) (hx0_1.agree A3.agree) hc9) ?_
  rintro _ G11 ⟨a14, rfl, S15⟩
  have A13 := A3.ext (hB.le A3.1) a14.agree
  have S12 : Sep G11 (Fr H) [AL.box p4 [v0_0, v0_1]] := S1.app a14.agree S15 (fun _ h => h) (hB.le A3.1)
  rcases Bool.eq_false_or_eq_true r1 with hb16 | hb16
  · replace hF := cd_t hb16 hF
    have q17 := S12.fieldT (P := Try.prog) (k := 0) rfl fa_38_0
    have q18 := S12.loadF (P := Try.prog) (k := 0) rfl sz_22 ag_22 (off := 0) rfl
    have q19 := lenG (P := Try.prog) (hx0_0.agree A13.agree) el_22
    simp [-aBin', -aBin, -aBinI, -aUn, -aNil, -flatV, n_fn, b_add, b_sub, b_mul, b_lt, b_le, b_gt, b_ge, b_eq, b_ne, u_not, hb16, q8, a14.pre, q17, q18, q19]
    apply hK
    clear hK K
    simp only [andThen, leaves]
    refine DWp.ret ?_
    obtain rfl := Option.some.inj hF
    exact ⟨by simp, [(Value.bool (ilt 0 (llen x0_0)))], by simp [], A13, rfl, S12.pick [] (by decide) rfl⟩
  · replace hF := cd_f hb16 hF
    simp [-aBin', -aBin, -aBinI, -aUn, -aNil, -flatV, n_fn, b_add, b_sub, b_mul, b_lt, b_le, b_gt, b_ge, b_eq, b_ne, u_not, hb16, q8, a14.pre]
    apply hK
    clear hK K
    simp only [andThen, leaves]
    refine DWp.ret ?_
    obtain rfl := Option.some.inj hF
    exact ⟨by simp, [(Value.bool false)], by simp [], A13, rfl, S12.pick [] (by decide) rfl⟩
def F_impl_turnedPath_L1 (fu : Nat) (k1_0 : List Int) (k1_1 : List Int) (k1_2 : List (List Int)) (k1_3 : Int) : Nat → List (List Int × List Int) → Int → Option (List (List Int × List Int) × Int)
  | 0, _, _ => none
  | n + 1, l1_1, y1_16 =>
    bif (ilt y1_16 k1_3) then
      gd (inL k1_2 y1_16) (
      gd (k1_2.length ≤ 4294967296) (
      bd (F_slices_Clone_Sint fu k1_1) fun r2 =>
      gd (l1_1.length + 1 ≤ 4294967296) (
      F_impl_turnedPath_L1 fu k1_0 k1_1 k1_2 k1_3 n (lapp l1_1 [((gat [] k1_2 y1_16), r2)]) (iadd .i64 y1_16 1))))
    else
      some (l1_1, y1_16)
def F_impl_turnedPath (fu : Nat) (x0_0 : List Int) (x0_1 : List Int) (x1 : Int) : Option (List (List Int × List Int)) :=
  bd (F_impl_path fu x0_0 x0_1 x1) fun r1 =>
  bd (F_impl_turnedPath_L1 fu x0_0 x0_1 r1 (llen r1) fu (@List.nil (List Int × List Int)) 0) fun s1 =>
  some s1.1
theorem F_impl_turnedPath_w {fu : Nat} {H : AH} {v0_0 : Value} {v0_1 : Value} {x0_0 : List Int} {x0_1 : List Int} {x1 : Int} {r : (List (List Int × List Int))} (hx0_0 : Sl H v0_0 (ints x0_0)) (hx0_1 : Sl H v0_1 (ints x0_1)) (hF : F_impl_turnedPath fu x0_0 x0_1 x1 = some r) :
    ACallT Try.prog 85 [(Value.agg #[v0_0, v0_1]), (Value.int .i64 x1)] H (fun u G => AgB (Fr H) H G ∧ ∃ u0 : Value, ∃ C0 : List Value, u = u0 ∧ Sep G (Fr H) [rowsP u0 38 3 C0 r]) := by
  refine ACallT.of_body (nt := 30) (rs := [.tmp 4]) Try.func85 rfl rfl rfl rfl ?_
  have A0 : AgB (Fr H) H H := .refl _ _
  have S0 : Sep H (Fr H) [] := .nil
  have hB := Fr.up H
  unfold F_impl_turnedPath at hF
  refine DWp.seq ?_
  obtain ⟨G2, p4, q5, q6, a7, S1⟩ := S0.boxT (hB.le A0.1) 38 [v0_0, v0_1]
  have A3 := A0.ext (hB.le A0.1) a7
  replace S1 : Sep G2 (Fr H) [AL.box p4 [v0_0, v0_1]] := S1
  refine DWp.region fun K hK => ?_
  simp [-aBin', -aBin, -aBinI, -aUn, -aNil, -flatV, n_fn, b_add, b_sub, b_mul, b_lt, b_le, b_gt, b_ge, b_eq, b_ne, u_not, q5, q6, a7.to_pre, cells_agg]
  apply hK
  clear hK K
  simp only [andThen, leaves]
  refine DWp.seq ?_
  obtain ⟨v8, G9, q10, S11, a13, _, _⟩ := S1.litP0 (P := Try.prog) (t := 47) (hB.le A3.1) 3 el_47 ei_38 rfl
  have A12 := A3.ext (hB.le A3.1) a13
  replace S11 : Sep G9 (Fr H) [AL.box p4 [v0_0, v0_1], rowsP v8 38 3 [] (@List.nil (List Int × List Int))] := S11
  refine DWp.region fun K hK => ?_
  simp [-aBin', -aBin, -aBinI, -aUn, -aNil, -flatV, n_fn, b_add, b_sub, b_mul, b_lt, b_le, b_gt, b_ge, b_eq, b_ne, u_not, q10, a13.to_pre]
  apply hK
  clear hK K
  simp only [andThen, leaves]
  refine DWp.seq ?_
  refine DWp.seq ?_
  have q14 := S11.fieldT (P := Try.prog) (k := 0) rfl fa_38_0
  have q15 := S11.loadF (P := Try.prog) (k := 0) rfl sz_22 ag_22 (off := 0) rfl
  have q16 := S11.fieldT (P := Try.prog) (k := 0) rfl fa_38_1
  have q17 := S11.loadF (P := Try.prog) (k := 0) rfl sz_22 ag_22 (off := 1) rfl
  obtain ⟨r1, hc18, hF⟩ := bd_some hF
  refine DWp.region fun K hK => ?_
  simp [-aBin', -aBin, -aBinI, -aUn, -aNil, -flatV, n_fn, b_add, b_sub, b_mul, b_lt, b_le, b_gt, b_ge, b_eq, b_ne, u_not, q14, q15, q16, q17, ((hx0_0.agree A12.agree).tup), ((hx0_1.agree A12.agree).tup)]
  refine CallD.t (F_impl_path_w (fu := fu) (hx0_0.agree A12.agree) (hx0_1.agree A12.agree) hc18) ?_
  rintro c19_u0 G20 ⟨a23, _, c19_C0, rfl, S24⟩
  have A22 := A12.ext (hB.le A12.1) a23.agree
  have S21 : Sep G20 (Fr H) [AL.box p4 [v0_0, v0_1], rowsP v8 38 3 [] (@List.nil (List Int × List Int)), rowsC c19_u0 22 3 c19_C0 (List.map ints r1)] := S11.app a23.agree S24 (fun _ h => h) (hB.le A12.1)
  have q25 := (S21.rd (k := 2) rfl).lenG (P := Try.prog) el_23
  simp [-aBin', -aBin, -aBinI, -aUn, -aNil, -flatV, n_fn, b_add, b_sub, b_mul, b_lt, b_le, b_gt, b_ge, b_eq, b_ne, u_not, q14, q15, q16, q17, a23.pre, q25]
  apply hK
  clear hK K
  simp only [andThen, leaves]
  refine DWp.block ?_
  have S26 : Sep G20 (Fr H) [AL.box p4 [v0_0, v0_1], rowsP v8 38 3 [] (@List.nil (List Int × List Int)), rowsT c19_u0 22 3 c19_C0 (List.map ints r1) 0] := S21.toT (kk := 2) rfl
  obtain ⟨s27, hL28, hF⟩ := bd_some hF
  have S29 := S26.pick [0, 1, 2] (by decide) rfl
  refine DWp.loop (fun n env G => ∃ l1_1 : List (List Int × List Int), ∃ y1_16 : Int, ∃ w1_1 : Value, ∃ D1_1 : List Value, F_impl_turnedPath_L1 fu x0_0 x0_1 r1 (llen r1) n l1_1 y1_16 = some s27 ∧ Sep G (Fr H) [AL.box p4 [v0_0, v0_1], rowsP w1_1 38 3 D1_1 l1_1, rowsT c19_u0 22 3 c19_C0 (List.map ints r1) y1_16] ∧ AgB (Fr H) H G ∧ env 2 = some p4 ∧ env 5 = some w1_1 ∧ env 14 = some c19_u0 ∧ env 15 = some (Value.int .i64 (llen r1)) ∧ env 16 = some (Value.int .i64 y1_16)) fu ⟨(@List.nil (List Int × List Int)), 0, v8, [], hL28, S29, A22, by simp [], by simp [], by simp [], by simp [], by simp []⟩ ?_
  rintro n1 env1 G1_ ⟨l1_1, y1_16, w1_1, D1_1, hL28, S1_, A1_, e1_2, e1_5, e1_14, e1_15, e1_16⟩
  cases n1 with
  | zero => cases hL28
  | succ n1 =>
    simp only [F_impl_turnedPath_L1] at hL28
    refine DWp.seq ?_
    refine DWp.region fun K hK => ?_
    simp [-aBin', -aBin, -aBinI, -aUn, -aNil, -flatV, n_fn, b_add, b_sub, b_mul, b_lt, b_le, b_gt, b_ge, b_eq, b_ne, u_not, e1_2, e1_5, e1_14, e1_15, e1_16]
    apply hK
    clear hK K
    simp only [andThen, leaves]
    refine DWp.seq ?_
    refine DWp.cond' (t := (ilt y1_16 (llen r1))) (by simp [e1_2, e1_5, e1_14, e1_15, e1_16]) (fun hb30 => ?_) (fun hb30 => ?_)
    · replace hL28 := cd_t hb30 hL28
      refine DWp.skip ?_
      simp only [andThen, leaves]
      refine DWp.seq ?_
      refine DWp.block ?_
      refine DWp.seq ?_
      obtain ⟨g31, hL28⟩ := gd_some hL28
      have q32 := S1_.idxT (P := Try.prog) (ki := .i64) (kk := 2) rfl el_23 sz_22 g31
      have q34 := S1_.loadT (P := Try.prog) (kk := 2) rfl sz_22 ag_22 g31
      obtain ⟨g35, hL28⟩ := gd_some hL28
      have S36 : Sep G1_ (Fr H) [AL.box p4 [v0_0, v0_1], rowsP w1_1 38 3 D1_1 l1_1, rowsT c19_u0 22 3 c19_C0 (List.map ints r1) (iadd .i64 y1_16 1), flat (gat nilV c19_C0 y1_16) 3 (ints (gat [] r1 y1_16))] := S1_.takeT (fr := ints) (kk := 2) rfl [] g31 g35
      refine DWp.region fun K hK => ?_
      simp [-aBin', -aBin, -aBinI, -aUn, -aNil, -flatV, n_fn, b_add, b_sub, b_mul, b_lt, b_le, b_gt, b_ge, b_eq, b_ne, u_not, e1_2, e1_5, e1_14, e1_15, e1_16, q32, q34]
      apply hK
      clear hK K
      simp only [andThen, leaves]
      have q37 := S36.fieldT (P := Try.prog) (k := 0) rfl fa_38_1
      have q38 := S36.loadF (P := Try.prog) (k := 0) rfl sz_22 ag_22 (off := 1) rfl
      obtain ⟨r2, hc39, hL28⟩ := bd_some hL28
      refine DWp.region fun K hK => ?_
      simp [-aBin', -aBin, -aBinI, -aUn, -aNil, -flatV, n_fn, b_add, b_sub, b_mul, b_lt, b_le, b_gt, b_ge, b_eq, b_ne, u_not, e1_2, e1_5, e1_14, e1_15, e1_16, q37, q38, ((hx0_1.agree A1_.agree).tup)]
      refine CallD.t (F_slices_Clone_Sint_w (fu := fu) (hx0_1.agree A1_.agree) hc39) ?_
      rintro c40_u0 G41 ⟨a44, _, rfl, S45⟩
      have A43 := A1_.ext (hB.le A1_.1) a44.agree
      have S42 : Sep G41 (Fr H) [AL.box p4 [v0_0, v0_1], rowsP w1_1 38 3 D1_1 l1_1, rowsT c19_u0 22 3 c19_C0 (List.map ints r1) (iadd .i64 y1_16 1), flat (gat nilV c19_C0 y1_16) 3 (ints (gat [] r1 y1_16)), flat c40_u0 3 (ints r2)] := S36.app a44.agree S45 (fun _ h => h) (hB.le A1_.1)
      obtain ⟨v46, G47, q48, S49, a51, _, _⟩ := S42.litP1 (P := Try.prog) (t := 47) (hB.le A43.1) el_47 ei_38 rfl (gat nilV c19_C0 y1_16) c40_u0
      have A50 := A43.ext (hB.le A43.1) a51
      replace S49 : Sep G47 (Fr H) [AL.box p4 [v0_0, v0_1], rowsP w1_1 38 3 D1_1 l1_1, rowsT c19_u0 22 3 c19_C0 (List.map ints r1) (iadd .i64 y1_16 1), flat (gat nilV c19_C0 y1_16) 3 (ints (gat [] r1 y1_16)), flat c40_u0 3 (ints r2), flatK 2 v46 38 1 [(gat nilV c19_C0 y1_16), c40_u0]] := S49
      obtain ⟨g52, hL28⟩ := gd_some hL28
      obtain ⟨v58, G53, q54, S55, a57, q54t, _⟩ := S49.pushP (u := w1_1) (X := l1_1) (a := (gat [] r1 y1_16)) (b := r2) (P := Try.prog) (t := 47) (t2 := 47) (j := 1) (k1 := 3) (k2 := 4) (by decide) (by decide) (by decide) rfl rfl rfl (hB.le A50.1) el_47 el_47 ei_38 rfl (S49.flatKSl (k := 5) rfl) g52
      have A56 := A50.trans a57
      replace S55 : Sep G53 (Fr H) [AL.box p4 [v0_0, v0_1], rowsP v58 38 3 (D1_1 ++ [(gat nilV c19_C0 y1_16), c40_u0]) (lapp l1_1 [((gat [] r1 y1_16), r2)]), rowsT c19_u0 22 3 c19_C0 (List.map ints r1) (iadd .i64 y1_16 1), emp, emp, flatK 2 v46 38 1 [(gat nilV c19_C0 y1_16), c40_u0]] := S55
      simp [-aBin', -aBin, -aBinI, -aUn, -aNil, -flatV, n_fn, b_add, b_sub, b_mul, b_lt, b_le, b_gt, b_ge, b_eq, b_ne, u_not, e1_2, e1_5, e1_14, e1_15, e1_16, q37, q38, a44.pre, bu_38 ((S42.sl (k := 3) rfl).tup) ((S42.sl (k := 3) rfl).one) ((S42.sl (k := 4) rfl).tup) ((S42.sl (k := 4) rfl).one), q48, a51.to_pre, ((S42.sl (k := 3) rfl).tup), ((S42.sl (k := 4) rfl).tup), q54, q54t]
      apply hK
      clear hK K
      simp only [andThen, leaves]
      refine DWp.region fun K hK => ?_
      simp [-aBin', -aBin, -aBinI, -aUn, -aNil, -flatV, n_fn, b_add, b_sub, b_mul, b_lt, b_le, b_gt, b_ge, b_eq, b_ne, u_not, e1_2, e1_5, e1_14, e1_15, e1_16]
      apply hK
      clear hK K
      simp only [andThen, leaves]
      have S59 := S55.pick [0, 1, 2] (by decide) rfl
      exact ⟨n1, Nat.lt_succ_self _, (lapp l1_1 [((gat [] r1 y1_16), r2)]), (iadd .i64 y1_16 1), v58, (D1_1 ++ [(gat nilV c19_C0 y1_16), c40_u0]), hL28, S59, A56, by simp [e1_2, e1_5, e1_14, e1_15, e1_16], by simp [e1_2, e1_5, e1_14, e1_15, e1_16], by simp [e1_2, e1_5, e1_14, e1_15, e1_16], by simp [e1_2, e1_5, e1_14, e1_15, e1_16], by simp [e1_2, e1_5, e1_14, e1_15, e1_16]⟩
    · replace hL28 := cd_f hb30 hL28
      refine DWp.exit ?_
      simp only [andThen, leaves, if_true, if_false, reduceIte, Nat.reduceEqDiff]
      obtain rfl := Option.some.inj hL28
      try dsimp only at hF
      refine DWp.seq ?_
      refine DWp.region fun K hK => ?_
      simp [-aBin', -aBin, -aBinI, -aUn, -aNil, -flatV, n_fn, b_add, b_sub, b_mul, b_lt, b_le, b_gt, b_ge, b_eq, b_ne, u_not, e1_2, e1_5, e1_14, e1_15, e1_16]
      apply hK
      clear hK K
      simp only [andThen, leaves]
      refine DWp.ret ?_
      obtain rfl := Option.some.inj hF
      exact ⟨by simp, [w1_1], by simp [e1_2, e1_5, e1_14, e1_15, e1_16, ((S1_.rdP (k := 1) rfl).tup)], A1_, w1_1, D1_1, rfl, S1_.pick [1] (by decide) rfl⟩
def F_laws_eqMeander (fu : Nat) (x0_0 : List Int) (x0_1 : List Int) (x1_0 : List Int) (x1_1 : List Int) : Option (Bool) :=
  bd (F_laws_eqIntS fu x0_0 x1_0) fun r1 =>
  bif (bnot r1) then
    some false
  else
    bd (F_laws_eqIntS fu x0_1 x1_1) fun r2 =>
    bif (bnot r2) then
      some false
    else
      some true
theorem F_laws_eqMeander_w {fu : Nat} {H : AH} {v0_0 : Value} {v0_1 : Value} {v1_0 : Value} {v1_1 : Value} {x0_0 : List Int} {x0_1 : List Int} {x1_0 : List Int} {x1_1 : List Int} {r : (Bool)} (hx0_0 : Sl H v0_0 (ints x0_0)) (hx0_1 : Sl H v0_1 (ints x0_1)) (hx1_0 : Sl H v1_0 (ints x1_0)) (hx1_1 : Sl H v1_1 (ints x1_1)) (hF : F_laws_eqMeander fu x0_0 x0_1 x1_0 x1_1 = some r) :
    ACallT Try.prog 29 [(Value.agg #[v0_0, v0_1]), (Value.agg #[v1_0, v1_1])] H (fun u G => AgB (Fr H) H G ∧ u = (Value.bool r) ∧ Sep G (Fr H) []) := by
  refine ACallT.of_body (nt := 17) (rs := [.tmp 4]) Try.func29 rfl rfl rfl rfl ?_
  have A0 : AgB (Fr H) H H := .refl _ _
  have S0 : Sep H (Fr H) [] := .nil
  have hB := Fr.up H
  unfold F_laws_eqMeander at hF
  refine DWp.seq ?_
  obtain ⟨G2, p4, q5, q6, a7, S1⟩ := S0.boxT (hB.le A0.1) 38 [v0_0, v0_1]
  have A3 := A0.ext (hB.le A0.1) a7
  replace S1 : Sep G2 (Fr H) [AL.box p4 [v0_0, v0_1]] := S1
  obtain ⟨G9, p11, q12, q13, a14, S8⟩ := S1.boxT (hB.le A3.1) 38 [v1_0, v1_1]
  have A10 := A3.ext (hB.le A3.1) a14
  replace S8 : Sep G9 (Fr H) [AL.box p4 [v0_0, v0_1], AL.box p11 [v1_0, v1_1]] := S8
  refine DWp.region fun K hK => ?_
  simp [-aBin', -aBin, -aBinI, -aUn, -aNil, -flatV, n_fn, b_add, b_sub, b_mul, b_lt, b_le, b_gt, b_ge, b_eq, b_ne, u_not, q5, q6, a7.to_pre, cells_agg, q12, q13, a14.to_pre]
  apply hK
  clear hK K
  simp only [andThen, leaves]
  refine DWp.seq ?_
  refine DWp.seq ?_
  have q15 := S8.fieldT (P := Try.prog) (k := 0) rfl fa_38_0
  have q16 := S8.loadF (P := Try.prog) (k := 0) rfl sz_22 ag_22 (off := 0) rfl
  have q17 := S8.fieldT (P := Try.prog) (k := 1) rfl fa_38_0
  have q18 := S8.loadF (P := Try.prog) (k := 1) rfl sz_22 ag_22 (off := 0) rfl
  obtain ⟨r1, hc19, hF⟩ := bd_some hF
  refine DWp.region fun K hK => ?_
  simp [-aBin', -aBin, -aBinI, -aUn, -aNil, -flatV, n_fn, b_add, b_sub, b_mul, b_lt, b_le, b_gt, b_ge, b_eq, b_ne, u_not, q15, q16, q17, q18, ((hx0_0.agree A10.agree).tup), ((hx1_0.agree A10.agree).tup)]
  refine CallD.t (F_laws_eqIntS_w (fu := fu) (hx0_0.agree A10.agree) (hx1_0.agree A10.agree) hc19) ?_
  rintro _ G21 ⟨a24, rfl, S25⟩
  have A23 := A10.ext (hB.le A10.1) a24.agree
  have S22 : Sep G21 (Fr H) [AL.box p4 [v0_0, v0_1], AL.box p11 [v1_0, v1_1]] := S8.app a24.agree S25 (fun _ h => h) (hB.le A10.1)
  simp [-aBin', -aBin, -aBinI, -aUn, -aNil, -flatV, n_fn, b_add, b_sub, b_mul, b_lt, b_le, b_gt, b_ge, b_eq, b_ne, u_not, q15, q16, q17, q18, a24.pre]
  apply hK
  clear hK K
  simp only [andThen, leaves]
  refine DWp.cond' (t := (bnot r1)) (by simp []) (fun hb26 => ?_) (fun hb26 => ?_)
  · replace hF := cd_t hb26 hF
    refine DWp.seq ?_
    refine DWp.region fun K hK => ?_
    simp [-aBin', -aBin, -aBinI, -aUn, -aNil, -flatV, n_fn, b_add, b_sub, b_mul, b_lt, b_le, b_gt, b_ge, b_eq, b_ne, u_not]
    apply hK
    clear hK K
    simp only [andThen, leaves]
    refine DWp.ret ?_
    simp only [andThen, leaves]
    obtain rfl := Option.some.inj hF
    exact ⟨by simp, [(Value.bool false)], by simp [], A23, rfl, S22.pick [] (by decide) rfl⟩
  · replace hF := cd_f hb26 hF
    refine DWp.skip ?_
    simp only [andThen, leaves]
    refine DWp.seq ?_
    refine DWp.seq ?_
    have q27 := S22.fieldT (P := Try.prog) (k := 0) rfl fa_38_1
    have q28 := S22.loadF (P := Try.prog) (k := 0) rfl sz_22 ag_22 (off := 1) rfl
    have q29 := S22.fieldT (P := Try.prog) (k := 1) rfl fa_38_1
    have q30 := S22.loadF (P := Try.prog) (k := 1) rfl sz_22 ag_22 (off := 1) rfl
    obtain ⟨r2, hc31, hF⟩ := bd_some hF
    refine DWp.region fun K hK => ?_
    simp [-aBin', -aBin, -aBinI, -aUn, -aNil, -flatV, n_fn, b_add, b_sub, b_mul, b_lt, b_le, b_gt, b_ge, b_eq, b_ne, u_not, q27, q28, q29, q30, ((hx0_1.agree A23.agree).tup), ((hx1_1.agree A23.agree).tup)]
    refine CallD.t (F_laws_eqIntS_w (fu := fu) (hx0_1.agree A23.agree) (hx1_1.agree A23.agree) hc31) ?_
    rintro _ G33 ⟨a36, rfl, S37⟩
    have A35 := A23.ext (hB.le A23.1) a36.agree
    have S34 : Sep G33 (Fr H) [AL.box p4 [v0_0, v0_1], AL.box p11 [v1_0, v1_1]] := S22.app a36.agree S37 (fun _ h => h) (hB.le A23.1)
    simp [-aBin', -aBin, -aBinI, -aUn, -aNil, -flatV, n_fn, b_add, b_sub, b_mul, b_lt, b_le, b_gt, b_ge, b_eq, b_ne, u_not, q27, q28, q29, q30, a36.pre]
    apply hK
    clear hK K
    simp only [andThen, leaves]
    refine DWp.cond' (t := (bnot r2)) (by simp []) (fun hb38 => ?_) (fun hb38 => ?_)
    · replace hF := cd_t hb38 hF
      refine DWp.seq ?_
      refine DWp.region fun K hK => ?_
      simp [-aBin', -aBin, -aBinI, -aUn, -aNil, -flatV, n_fn, b_add, b_sub, b_mul, b_lt, b_le, b_gt, b_ge, b_eq, b_ne, u_not]
      apply hK
      clear hK K
      simp only [andThen, leaves]
      refine DWp.ret ?_
      simp only [andThen, leaves]
      obtain rfl := Option.some.inj hF
      exact ⟨by simp, [(Value.bool false)], by simp [], A35, rfl, S34.pick [] (by decide) rfl⟩
    · replace hF := cd_f hb38 hF
      refine DWp.skip ?_
      simp only [andThen, leaves]
      refine DWp.seq ?_
      refine DWp.region fun K hK => ?_
      simp [-aBin', -aBin, -aBinI, -aUn, -aNil, -flatV, n_fn, b_add, b_sub, b_mul, b_lt, b_le, b_gt, b_ge, b_eq, b_ne, u_not]
      apply hK
      clear hK K
      simp only [andThen, leaves]
      refine DWp.ret ?_
      obtain rfl := Option.some.inj hF
      exact ⟨by simp, [(Value.bool true)], by simp [], A35, rfl, S34.pick [] (by decide) rfl⟩
def F_laws_eqMeanderS_L1 (fu : Nat) (k1_0 : List (List Int × List Int)) (k1_1 : List (List Int × List Int)) : Nat → Int → Option (LR (Bool) (Int))
  | 0, _ => none
  | n + 1, y1_5 =>
    bif (ilt y1_5 (llen k1_0)) then
      gd (inL k1_0 y1_5) (
      gd (inL k1_1 y1_5) (
      bd (F_laws_eqMeander fu ((gat pnil k1_0 y1_5).1) ((gat pnil k1_0 y1_5).2) ((gat pnil k1_1 y1_5).1) ((gat pnil k1_1 y1_5).2)) fun r1 =>
      bif (bnot r1) then
        some (.ret false)
      else
        F_laws_eqMeanderS_L1 fu k1_0 k1_1 n (iadd .i64 y1_5 1)))
    else
      some (.brk y1_5)
def F_laws_eqMeanderS (fu : Nat) (x0 : List (List Int × List Int)) (x1 : List (List Int × List Int)) : Option (Bool) :=
  bif (ine (llen x0) (llen x1)) then
    some false
  else
    bd (F_laws_eqMeanderS_L1 fu x0 x1 fu 0) fun s1 =>
    lr s1 fun s1 =>
    some true
theorem F_laws_eqMeanderS_w {fu : Nat} {H : AH} {v0 : Value} {v1 : Value} {x0 : List (List Int × List Int)} {x1 : List (List Int × List Int)} {r : (Bool)} (hx0 : ∃ C, RdP H v0 C x0) (hx1 : ∃ C, RdP H v1 C x1) (hF : F_laws_eqMeanderS fu x0 x1 = some r) :
    ACallT Try.prog 47 [v0, v1] H (fun u G => AgB (Fr H) H G ∧ u = (Value.bool r) ∧ Sep G (Fr H) []) := by
  refine ACallT.of_body (nt := 27) (rs := [.tmp 4]) Try.func47 rfl rfl rfl rfl ?_
  have A0 : AgB (Fr H) H H := .refl _ _
  have S0 : Sep H (Fr H) [] := .nil
  have hB := Fr.up H
  unfold F_laws_eqMeanderS at hF
  obtain ⟨C0, hC0⟩ := hx0
  obtain ⟨C1, hC1⟩ := hx1
  refine DWp.seq ?_
  refine DWp.region fun K hK => ?_
  simp [-aBin', -aBin, -aBinI, -aUn, -aNil, -flatV, n_fn, b_add, b_sub, b_mul, b_lt, b_le, b_gt, b_ge, b_eq, b_ne, u_not]
  apply hK
  clear hK K
  simp only [andThen, leaves]
  refine DWp.seq ?_
  refine DWp.seq ?_
  have q1 := (hC0.agree A0.agree).lenG (P := Try.prog) el_47
  have q2 := (hC1.agree A0.agree).lenG (P := Try.prog) el_47
  refine DWp.region fun K hK => ?_
  simp [-aBin', -aBin, -aBinI, -aUn, -aNil, -flatV, n_fn, b_add, b_sub, b_mul, b_lt, b_le, b_gt, b_ge, b_eq, b_ne, u_not, q1, q2]
  apply hK
  clear hK K
  simp only [andThen, leaves]
  refine DWp.cond' (t := (ine (llen x0) (llen x1))) (by simp []) (fun hb3 => ?_) (fun hb3 => ?_)
  · replace hF := cd_t hb3 hF
    refine DWp.seq ?_
    refine DWp.region fun K hK => ?_
    simp [-aBin', -aBin, -aBinI, -aUn, -aNil, -flatV, n_fn, b_add, b_sub, b_mul, b_lt, b_le, b_gt, b_ge, b_eq, b_ne, u_not]
    apply hK
    clear hK K
    simp only [andThen, leaves]
    refine DWp.ret ?_
    simp only [andThen, leaves]
    obtain rfl := Option.some.inj hF
    exact ⟨by simp, [(Value.bool false)], by simp [], A0, rfl, S0.pick [] (by decide) rfl⟩
  · replace hF := cd_f hb3 hF
    refine DWp.skip ?_
    simp only [andThen, leaves]
    refine DWp.seq ?_
    refine DWp.seq ?_
    refine DWp.region fun K hK => ?_
    simp [-aBin', -aBin, -aBinI, -aUn, -aNil, -flatV, n_fn, b_add, b_sub, b_mul, b_lt, b_le, b_gt, b_ge, b_eq, b_ne, u_not]
    apply hK
    clear hK K
    simp only [andThen, leaves]
    refine DWp.block ?_
    obtain ⟨s4, hL5, hF⟩ := bd_some hF
    have S6 := S0.pick [] (by decide) rfl
    refine DWp.loop (fun n env G => ∃ y1_5 : Int, F_laws_eqMeanderS_L1 fu x0 x1 n y1_5 = some s4 ∧ Sep G (Fr H) [] ∧ AgB (Fr H) H G ∧ env 0 = some v0 ∧ env 1 = some v1 ∧ env 5 = some (Value.int .i64 y1_5)) fu ⟨0, hL5, S6, A0, by simp [], by simp [], by simp []⟩ ?_
    rintro n1 env1 G1_ ⟨y1_5, hL5, S1_, A1_, e1_0, e1_1, e1_5⟩
    cases n1 with
    | zero => cases hL5
    | succ n1 =>
      simp only [F_laws_eqMeanderS_L1] at hL5
      refine DWp.seq ?_
      refine DWp.seq ?_
      have q7 := (hC0.agree A1_.agree).lenG (P := Try.prog) el_47
      refine DWp.region fun K hK => ?_
      simp [-aBin', -aBin, -aBinI, -aUn, -aNil, -flatV, n_fn, b_add, b_sub, b_mul, b_lt, b_le, b_gt, b_ge, b_eq, b_ne, u_not, e1_0, e1_1, e1_5, q7]
      apply hK
      clear hK K
      simp only [andThen, leaves]
      refine DWp.cond' (t := (ilt y1_5 (llen x0))) (by simp [e1_0, e1_1, e1_5]) (fun hb8 => ?_) (fun hb8 => ?_)
      · replace hL5 := cd_t hb8 hL5
        refine DWp.skip ?_
        simp only [andThen, leaves]
        refine DWp.seq ?_
        refine DWp.block ?_
        refine DWp.seq ?_
        obtain ⟨g9, hL5⟩ := gd_some hL5
        have q10 := (hC0.agree A1_.agree).idxG (P := Try.prog) (kk := .i64) el_47 sz_38 g9
        have q11 := (hC0.agree A1_.agree).loadG (P := Try.prog) sz_38 ag_38 g9
        obtain ⟨g12, hL5⟩ := gd_some hL5
        have q13 := (hC1.agree A1_.agree).idxG (P := Try.prog) (kk := .i64) el_47 sz_38 g12
        have q14 := (hC1.agree A1_.agree).loadG (P := Try.prog) sz_38 ag_38 g12
        obtain ⟨r1, hc15, hL5⟩ := bd_some hL5
        refine DWp.drawn (B := [0, 0, 3, 7, 0, 0, 48, 112, 255, 511]) 10 mixed (by kernel_rfl) (by decide) fun K hK => ?_
        simp [-aBin', -aBin, -aBinI, -aUn, -aNil, -flatV, n_fn, b_add, b_sub, b_mul, b_lt, b_le, b_gt, b_ge, b_eq, b_ne, u_not, e1_0, e1_1, e1_5, q10, q11, q13, q14, (((hC0.agree A1_.agree).row0 g9).tup), (((hC0.agree A1_.agree).row1 g9).tup), (((hC1.agree A1_.agree).row0 g12).tup), (((hC1.agree A1_.agree).row1 g12).tup)]
        refine CallD.t (F_laws_eqMeander_w (fu := fu) ((hC0.agree A1_.agree).row0 g9) ((hC0.agree A1_.agree).row1 g9) ((hC1.agree A1_.agree).row0 g12) ((hC1.agree A1_.agree).row1 g12) hc15) ?_
        rintro _ G17 ⟨a20, rfl, S21⟩
        have A19 := A1_.ext (hB.le A1_.1) a20.agree
        have S18 : Sep G17 (Fr H) [] := S1_.app a20.agree S21 (fun _ h => h) (hB.le A1_.1)
        simp [-aBin', -aBin, -aBinI, -aUn, -aNil, -flatV, n_fn, b_add, b_sub, b_mul, b_lt, b_le, b_gt, b_ge, b_eq, b_ne, u_not, e1_0, e1_1, e1_5, q10, q11, q13, q14, a20.pre]
        apply hK
        clear hK K
        simp only [andThen, leaves]
        refine DWp.cond' (t := (bnot r1)) (by simp [e1_0, e1_1, e1_5]) (fun hb22 => ?_) (fun hb22 => ?_)
        · replace hL5 := cd_t hb22 hL5
          refine DWp.seq ?_
          refine DWp.region fun K hK => ?_
          simp [-aBin', -aBin, -aBinI, -aUn, -aNil, -flatV, n_fn, b_add, b_sub, b_mul, b_lt, b_le, b_gt, b_ge, b_eq, b_ne, u_not, e1_0, e1_1, e1_5]
          apply hK
          clear hK K
          simp only [andThen, leaves]
          refine DWp.ret ?_
          simp only [andThen, leaves]
          obtain rfl := Option.some.inj hL5
          simp only [lr] at hF
          obtain rfl := Option.some.inj hF
          exact ⟨by simp, [(Value.bool false)], by simp [e1_0, e1_1, e1_5], A19, rfl, S18.pick [] (by decide) rfl⟩
        · replace hL5 := cd_f hb22 hL5
          refine DWp.skip ?_
          simp only [andThen, leaves]
          refine DWp.region fun K hK => ?_
          simp [-aBin', -aBin, -aBinI, -aUn, -aNil, -flatV, n_fn, b_add, b_sub, b_mul, b_lt, b_le, b_gt, b_ge, b_eq, b_ne, u_not, e1_0, e1_1, e1_5]
          apply hK
          clear hK K
          simp only [andThen, leaves]
          have S23 := S18.pick [] (by decide) rfl
          exact ⟨n1, Nat.lt_succ_self _, (iadd .i64 y1_5 1), hL5, S23, A19, by simp [e1_0, e1_1, e1_5], by simp [e1_0, e1_1, e1_5], by simp [e1_0, e1_1, e1_5]⟩
      · replace hL5 := cd_f hb8 hL5
        refine DWp.exit ?_
        simp only [andThen, leaves, if_true, if_false, reduceIte, Nat.reduceEqDiff]
        obtain rfl := Option.some.inj hL5
        simp only [lr] at hF
        refine DWp.seq ?_
        refine DWp.region fun K hK => ?_
        simp [-aBin', -aBin, -aBinI, -aUn, -aNil, -flatV, n_fn, b_add, b_sub, b_mul, b_lt, b_le, b_gt, b_ge, b_eq, b_ne, u_not, e1_0, e1_1, e1_5]
        apply hK
        clear hK K
        simp only [andThen, leaves]
        refine DWp.ret ?_
        obtain rfl := Option.some.inj hF
        exact ⟨by simp, [(Value.bool true)], by simp [e1_0, e1_1, e1_5], A1_, rfl, S1_.pick [] (by decide) rfl⟩
def F_laws_markMeander (fu : Nat) (x0_0 : List Int) (x0_1 : List Int) (x1 : Int) : Option (Int × List Int × List Int) :=
  bd (F_laws_markIntS fu x0_0 x1) fun r1 =>
  bd (F_laws_markIntS fu x0_1 r1.1) fun r2 =>
  some (r2.1, r1.2, r2.2)
theorem F_laws_markMeander_w {fu : Nat} {H : AH} {B : Nat → Prop} {v0_0 : Value} {v0_1 : Value} {x0_0 : List Int} {x0_1 : List Int} {x1 : Int} {r : (Int × List Int × List Int)} (hB : Up B H.length) (S0 : Sep H B [flat v0_0 3 (ints x0_0), flat v0_1 3 (ints x0_1)]) (hF : F_laws_markMeander fu x0_0 x0_1 x1 = some r) :
    ACallT Try.prog 48 [(Value.agg #[v0_0, v0_1]), (Value.int .i64 x1)] H (fun u G => AgB B H G ∧ u = (Value.int .i64 r.1) ∧ Sep G B [flat v0_0 3 (ints r.2.1), flat v0_1 3 (ints r.2.2)]) := by
  refine ACallT.of_body (nt := 14) (rs := [.tmp 4]) Try.func48 rfl rfl rfl rfl ?_
  have A0 : AgB B H H := .refl _ _
  unfold F_laws_markMeander at hF
  refine DWp.seq ?_
  obtain ⟨G2, p4, q5, q6, a7, S1⟩ := S0.boxT (hB.le A0.1) 38 [v0_0, v0_1]
  have A3 := A0.ext (hB.le A0.1) a7
  replace S1 : Sep G2 B [flat v0_0 3 (ints x0_0), flat v0_1 3 (ints x0_1), AL.box p4 [v0_0, v0_1]] := S1
  refine DWp.region fun K hK => ?_
  simp [-aBin', -aBin, -aBinI, -aUn, -aNil, -flatV, n_fn, b_add, b_sub, b_mul, b_lt, b_le, b_gt, b_ge, b_eq, b_ne, u_not, q5, q6, a7.to_pre, cells_agg]
  apply hK
  clear hK K
  simp only [andThen, leaves]
  refine DWp.seq ?_
  have q8 := S1.fieldT (P := Try.prog) (k := 2) rfl fa_38_0
  have q9 := S1.loadF (P := Try.prog) (k := 2) rfl sz_22 ag_22 (off := 0) rfl
  obtain ⟨r1, hc10, hF⟩ := bd_some hF
  refine DWp.region fun K hK => ?_
  simp [-aBin', -aBin, -aBinI, -aUn, -aNil, -flatV, n_fn, b_add, b_sub, b_mul, b_lt, b_le, b_gt, b_ge, b_eq, b_ne, u_not, q8, q9, ((S1.sl (k := 0) rfl).tup)]
  have S11 : Sep G2 B ([flat v0_0 3 (ints x0_0)] ++ [flat v0_1 3 (ints x0_1), AL.box p4 [v0_0, v0_1]]) := S1.pick [0, 1, 2] (by decide) rfl
  obtain ⟨B17, S12, U13, M14, R15, C16⟩ := S11.frame (hB.le A3.1)
  refine CallD.t (F_laws_markIntS_w (fu := fu) U13 S12 hc10) ?_
  rintro _ G19 ⟨a22, rfl, S23⟩
  have A21 := A3.trans (a22.mono M14)
  have S20 : Sep G19 B [flat v0_0 3 (ints r1.2), flat v0_1 3 (ints x0_1), AL.box p4 [v0_0, v0_1]] := C16 _ _ a22 S23
  simp [-aBin', -aBin, -aBinI, -aUn, -aNil, -flatV, n_fn, b_add, b_sub, b_mul, b_lt, b_le, b_gt, b_ge, b_eq, b_ne, u_not, q8, q9]
  apply hK
  clear hK K
  simp only [andThen, leaves]
  refine DWp.seq ?_
  have q24 := S20.fieldT (P := Try.prog) (k := 2) rfl fa_38_1
  have q25 := S20.loadF (P := Try.prog) (k := 2) rfl sz_22 ag_22 (off := 1) rfl
  obtain ⟨r2, hc26, hF⟩ := bd_some hF
  refine DWp.region fun K hK => ?_
  simp [-aBin', -aBin, -aBinI, -aUn, -aNil, -flatV, n_fn, b_add, b_sub, b_mul, b_lt, b_le, b_gt, b_ge, b_eq, b_ne, u_not, q24, q25, ((S20.sl (k := 1) rfl).tup)]
  have S27 : Sep G19 B ([flat v0_1 3 (ints x0_1)] ++ [flat v0_0 3 (ints r1.2), AL.box p4 [v0_0, v0_1]]) := S20.pick [1, 0, 2] (by decide) rfl
  obtain ⟨B33, S28, U29, M30, R31, C32⟩ := S27.frame (hB.le A21.1)
  refine CallD.t (F_laws_markIntS_w (fu := fu) U29 S28 hc26) ?_
  rintro _ G35 ⟨a38, rfl, S39⟩
  have A37 := A21.trans (a38.mono M30)
  have S36 : Sep G35 B [flat v0_1 3 (ints r2.2), flat v0_0 3 (ints r1.2), AL.box p4 [v0_0, v0_1]] := C32 _ _ a38 S39
  simp [-aBin', -aBin, -aBinI, -aUn, -aNil, -flatV, n_fn, b_add, b_sub, b_mul, b_lt, b_le, b_gt, b_ge, b_eq, b_ne, u_not, q24, q25]
  apply hK
  clear hK K
  simp only [andThen, leaves]
  refine DWp.seq ?_
  refine DWp.region fun K hK => ?_
  simp [-aBin', -aBin, -aBinI, -aUn, -aNil, -flatV, n_fn, b_add, b_sub, b_mul, b_lt, b_le, b_gt, b_ge, b_eq, b_ne, u_not]
  apply hK
  clear hK K
  simp only [andThen, leaves]
  refine DWp.ret ?_
  obtain rfl := Option.some.inj hF
  exact ⟨by simp, [(Value.int .i64 r2.1)], by simp [], A37, rfl, S36.pick [1, 0] (by decide) rfl⟩
def F_laws_markMeanderS_L1 (fu : Nat)  : Nat → List (List Int × List Int) → Int → Int → Option (List (List Int × List Int) × Int × Int)
  | 0, _, _, _ => none
  | n + 1, l1_0, y1_1, y1_5 =>
    bif (ilt y1_5 (llen l1_0)) then
      gd (inL l1_0 y1_5) (
      bd (F_laws_markIntS fu ((gat pnil l1_0 y1_5).1) y1_1) fun r1 =>
      gd (inL (lset l1_0 y1_5 (r1.2, (gat pnil l1_0 y1_5).2)) y1_5) (
      bd (F_laws_markIntS fu ((gat pnil (lset l1_0 y1_5 (r1.2, (gat pnil l1_0 y1_5).2)) y1_5).2) r1.1) fun r2 =>
      F_laws_markMeanderS_L1 fu n (lset (lset l1_0 y1_5 (r1.2, (gat pnil l1_0 y1_5).2)) y1_5 ((gat pnil (lset l1_0 y1_5 (r1.2, (gat pnil l1_0 y1_5).2)) y1_5).1, r2.2)) r2.1 (iadd .i64 y1_5 1)))
    else
      some (l1_0, y1_1, y1_5)
def F_laws_markMeanderS (fu : Nat) (x0 : List (List Int × List Int)) (x1 : Int) : Option (Int × List (List Int × List Int)) :=
  bd (F_laws_markMeanderS_L1 fu fu x0 x1 0) fun s1 =>
  some (s1.2.1, s1.1)
theorem F_laws_markMeanderS_w {fu : Nat} {H : AH} {B : Nat → Prop} {v0 : Value} {C0 : List Value} {x0 : List (List Int × List Int)} {x1 : Int} {r : (Int × List (List Int × List Int))} (hB : Up B H.length) (S0 : Sep H B [rowsP v0 38 3 C0 x0]) (hF : F_laws_markMeanderS fu x0 x1 = some r) :
    ACallT Try.prog 49 [v0, (Value.int .i64 x1)] H (fun u G => AgB B H G ∧ ∃ Cz0 : List Value, u = (Value.int .i64 r.1) ∧ Sep G B [rowsP v0 38 3 Cz0 r.2]) := by
  refine ACallT.of_body (nt := 27) (rs := [.tmp 4]) Try.func49 rfl rfl rfl rfl ?_
  have A0 : AgB B H H := .refl _ _
  unfold F_laws_markMeanderS at hF
  refine DWp.seq ?_
  refine DWp.region fun K hK => ?_
  simp [-aBin', -aBin, -aBinI, -aUn, -aNil, -flatV, n_fn, b_add, b_sub, b_mul, b_lt, b_le, b_gt, b_ge, b_eq, b_ne, u_not]
  apply hK
  clear hK K
  simp only [andThen, leaves]
  refine DWp.seq ?_
  refine DWp.seq ?_
  refine DWp.region fun K hK => ?_
  simp [-aBin', -aBin, -aBinI, -aUn, -aNil, -flatV, n_fn, b_add, b_sub, b_mul, b_lt, b_le, b_gt, b_ge, b_eq, b_ne, u_not]
  apply hK
  clear hK K
  simp only [andThen, leaves]
  refine DWp.block ?_
  obtain ⟨s1, hL2, hF⟩ := bd_some hF
  have S3 := S0.pick [0] (by decide) rfl
  refine DWp.loop (fun n env G => ∃ l1_0 : List (List Int × List Int), ∃ y1_1 : Int, ∃ y1_5 : Int, ∃ D1_0 : List Value, F_laws_markMeanderS_L1 fu n l1_0 y1_1 y1_5 = some s1 ∧ Sep G B [rowsP v0 38 3 D1_0 l1_0] ∧ AgB B H G ∧ env 0 = some v0 ∧ env 1 = some (Value.int .i64 y1_1) ∧ env 5 = some (Value.int .i64 y1_5)) fu ⟨x0, x1, 0, C0, hL2, S3, A0, by simp [], by simp [], by simp []⟩ ?_
  rintro n1 env1 G1_ ⟨l1_0, y1_1, y1_5, D1_0, hL2, S1_, A1_, e1_0, e1_1, e1_5⟩
  cases n1 with
  | zero => cases hL2
  | succ n1 =>
    simp only [F_laws_markMeanderS_L1] at hL2
    refine DWp.seq ?_
    refine DWp.seq ?_
    have q4 := (S1_.rdP (k := 0) rfl).lenG (P := Try.prog) el_47
    refine DWp.region fun K hK => ?_
    simp [-aBin', -aBin, -aBinI, -aUn, -aNil, -flatV, n_fn, b_add, b_sub, b_mul, b_lt, b_le, b_gt, b_ge, b_eq, b_ne, u_not, e1_0, e1_1, e1_5, q4]
    apply hK
    clear hK K
    simp only [andThen, leaves]
    refine DWp.cond' (t := (ilt y1_5 (llen l1_0))) (by simp [e1_0, e1_1, e1_5]) (fun hb5 => ?_) (fun hb5 => ?_)
    · replace hL2 := cd_t hb5 hL2
      refine DWp.skip ?_
      simp only [andThen, leaves]
      refine DWp.seq ?_
      refine DWp.block ?_
      refine DWp.seq ?_
      obtain ⟨g6, hL2⟩ := gd_some hL2
      have q7 := (S1_.rdP (k := 0) rfl).idxG (P := Try.prog) (kk := .i64) el_47 sz_38 g6
      have q8 := (S1_.rdP (k := 0) rfl).fldG0 (P := Try.prog) fa_38_0 g6
      have q9 := (S1_.rdP (k := 0) rfl).cellG0 (P := Try.prog) sz_22 ag_22 g6
      have S10 : Sep G1_ B [rowsPX v0 38 3 D1_0 l1_0 ((y1_5).toNat * 2 + 0), flat (pc D1_0 y1_5 0) 3 (ints (gat pnil l1_0 y1_5).1)] := S1_.rowOutP0 (k := 0) rfl g6
      obtain ⟨r1, hc11, hL2⟩ := bd_some hL2
      refine DWp.region fun K hK => ?_
      simp [-aBin', -aBin, -aBinI, -aUn, -aNil, -flatV, n_fn, b_add, b_sub, b_mul, b_lt, b_le, b_gt, b_ge, b_eq, b_ne, u_not, e1_0, e1_1, e1_5, q7, q8, q9, (((S1_.rdP (k := 0) rfl).row0 g6).tup)]
      have S12 : Sep G1_ B ([flat (pc D1_0 y1_5 0) 3 (ints (gat pnil l1_0 y1_5).1)] ++ [rowsPX v0 38 3 D1_0 l1_0 ((y1_5).toNat * 2 + 0)]) := S10.pick [1, 0] (by decide) rfl
      obtain ⟨B18, S13, U14, M15, R16, C17⟩ := S12.frame (hB.le A1_.1)
      refine CallD.t (F_laws_markIntS_w (fu := fu) U14 S13 hc11) ?_
      rintro _ G20 ⟨a23, rfl, S24⟩
      have A22 := A1_.trans (a23.mono M15)
      have S21 : Sep G20 B [flat (pc D1_0 y1_5 0) 3 (ints r1.2), rowsPX v0 38 3 D1_0 l1_0 ((y1_5).toNat * 2 + 0)] := C17 _ _ a23 S24
      have S25 : Sep G20 B [emp, rowsP v0 38 3 D1_0 (lset l1_0 y1_5 (r1.2, (gat pnil l1_0 y1_5).2))] := S21.rowInP0 (j := 1) (k := 0) (by decide) rfl rfl g6
      simp [-aBin', -aBin, -aBinI, -aUn, -aNil, -flatV, n_fn, b_add, b_sub, b_mul, b_lt, b_le, b_gt, b_ge, b_eq, b_ne, u_not, e1_0, e1_1, e1_5, q7, q8, q9]
      apply hK
      clear hK K
      simp only [andThen, leaves]
      obtain ⟨g26, hL2⟩ := gd_some hL2
      have q27 := (S25.rdP (k := 1) rfl).idxG (P := Try.prog) (kk := .i64) el_47 sz_38 g26
      have q28 := (S25.rdP (k := 1) rfl).fldG1 (P := Try.prog) fa_38_1 g26
      have q29 := (S25.rdP (k := 1) rfl).cellG1 (P := Try.prog) sz_22 ag_22 g26
      have S30 : Sep G20 B [emp, rowsPX v0 38 3 D1_0 (lset l1_0 y1_5 (r1.2, (gat pnil l1_0 y1_5).2)) ((y1_5).toNat * 2 + 1), flat (pc D1_0 y1_5 1) 3 (ints (gat pnil (lset l1_0 y1_5 (r1.2, (gat pnil l1_0 y1_5).2)) y1_5).2)] := S25.rowOutP1 (k := 1) rfl g26
      obtain ⟨r2, hc31, hL2⟩ := bd_some hL2
      refine DWp.region fun K hK => ?_
      simp [-aBin', -aBin, -aBinI, -aUn, -aNil, -flatV, n_fn, b_add, b_sub, b_mul, b_lt, b_le, b_gt, b_ge, b_eq, b_ne, u_not, e1_0, e1_1, e1_5, q27, q28, q29, (((S25.rdP (k := 1) rfl).row1 g26).tup)]
      have S32 : Sep G20 B ([flat (pc D1_0 y1_5 1) 3 (ints (gat pnil (lset l1_0 y1_5 (r1.2, (gat pnil l1_0 y1_5).2)) y1_5).2)] ++ [rowsPX v0 38 3 D1_0 (lset l1_0 y1_5 (r1.2, (gat pnil l1_0 y1_5).2)) ((y1_5).toNat * 2 + 1)]) := S30.pick [2, 1] (by decide) rfl
      obtain ⟨B38, S33, U34, M35, R36, C37⟩ := S32.frame (hB.le A22.1)
      refine CallD.t (F_laws_markIntS_w (fu := fu) U34 S33 hc31) ?_
      rintro _ G40 ⟨a43, rfl, S44⟩
      have A42 := A22.trans (a43.mono M35)
      have S41 : Sep G40 B [flat (pc D1_0 y1_5 1) 3 (ints r2.2), rowsPX v0 38 3 D1_0 (lset l1_0 y1_5 (r1.2, (gat pnil l1_0 y1_5).2)) ((y1_5).toNat * 2 + 1)] := C37 _ _ a43 S44
      have S45 : Sep G40 B [emp, rowsP v0 38 3 D1_0 (lset (lset l1_0 y1_5 (r1.2, (gat pnil l1_0 y1_5).2)) y1_5 ((gat pnil (lset l1_0 y1_5 (r1.2, (gat pnil l1_0 y1_5).2)) y1_5).1, r2.2))] := S41.rowInP1 (j := 1) (k := 0) (by decide) rfl rfl g26
      simp [-aBin', -aBin, -aBinI, -aUn, -aNil, -flatV, n_fn, b_add, b_sub, b_mul, b_lt, b_le, b_gt, b_ge, b_eq, b_ne, u_not, e1_0, e1_1, e1_5, q27, q28, q29]
      apply hK
      clear hK K
      simp only [andThen, leaves]
      refine DWp.region fun K hK => ?_
      simp [-aBin', -aBin, -aBinI, -aUn, -aNil, -flatV, n_fn, b_add, b_sub, b_mul, b_lt, b_le, b_gt, b_ge, b_eq, b_ne, u_not, e1_0, e1_1, e1_5]
      apply hK
      clear hK K
      simp only [andThen, leaves]
      have S46 := S45.pick [1] (by decide) rfl
      exact ⟨n1, Nat.lt_succ_self _, (lset (lset l1_0 y1_5 (r1.2, (gat pnil l1_0 y1_5).2)) y1_5 ((gat pnil (lset l1_0 y1_5 (r1.2, (gat pnil l1_0 y1_5).2)) y1_5).1, r2.2)), r2.1, (iadd .i64 y1_5 1), D1_0, hL2, S46, A42, by simp [e1_0, e1_1, e1_5], by simp [e1_0, e1_1, e1_5], by simp [e1_0, e1_1, e1_5]⟩
    · replace hL2 := cd_f hb5 hL2
      refine DWp.exit ?_
      simp only [andThen, leaves, if_true, if_false, reduceIte, Nat.reduceEqDiff]
      obtain rfl := Option.some.inj hL2
      try dsimp only at hF
      refine DWp.seq ?_
      refine DWp.region fun K hK => ?_
      simp [-aBin', -aBin, -aBinI, -aUn, -aNil, -flatV, n_fn, b_add, b_sub, b_mul, b_lt, b_le, b_gt, b_ge, b_eq, b_ne, u_not, e1_0, e1_1, e1_5]
      apply hK
      clear hK K
      simp only [andThen, leaves]
      refine DWp.ret ?_
      obtain rfl := Option.some.inj hF
      exact ⟨by simp, [(Value.int .i64 y1_1)], by simp [e1_0, e1_1, e1_5], A1_, D1_0, rfl, S1_.pick [0] (by decide) rfl⟩
def F_laws_heldMeanderS_L1 (fu : Nat) (k1_0 : List (List Int × List Int)) : Nat → Int → Int → Option (LR (Int) (Int × Int))
  | 0, _, _ => none
  | n + 1, y1_1, y1_5 =>
    bif (ilt y1_5 (llen k1_0)) then
      gd (inL k1_0 y1_5) (
      bd (F_laws_heldIntS fu ((gat pnil k1_0 y1_5).1) y1_1) fun r1 =>
      bif (ilt r1 0) then
        some (.ret (-1))
      else
        gd (inL k1_0 y1_5) (
        bd (F_laws_heldIntS fu ((gat pnil k1_0 y1_5).2) r1) fun r2 =>
        bif (ilt r2 0) then
          some (.ret (-1))
        else
          F_laws_heldMeanderS_L1 fu k1_0 n r2 (iadd .i64 y1_5 1)))
    else
      some (.brk (y1_1, y1_5))
def F_laws_heldMeanderS (fu : Nat) (x0 : List (List Int × List Int)) (x1 : Int) : Option (Int) :=
  bd (F_laws_heldMeanderS_L1 fu x0 fu x1 0) fun s1 =>
  lr s1 fun s1 =>
  some s1.1
theorem F_laws_heldMeanderS_w {fu : Nat} {H : AH} {v0 : Value} {x0 : List (List Int × List Int)} {x1 : Int} {r : (Int)} (hx0 : ∃ C, RdP H v0 C x0) (hF : F_laws_heldMeanderS fu x0 x1 = some r) :
    ACallT Try.prog 50 [v0, (Value.int .i64 x1)] H (fun u G => AgB (Fr H) H G ∧ u = (Value.int .i64 r) ∧ Sep G (Fr H) []) := by
  refine ACallT.of_body (nt := 31) (rs := [.tmp 4]) Try.func50 rfl rfl rfl rfl ?_
  have A0 : AgB (Fr H) H H := .refl _ _
  have S0 : Sep H (Fr H) [] := .nil
  have hB := Fr.up H
  unfold F_laws_heldMeanderS at hF
  obtain ⟨C0, hC0⟩ := hx0
  refine DWp.seq ?_
  refine DWp.region fun K hK => ?_
  simp [-aBin', -aBin, -aBinI, -aUn, -aNil, -flatV, n_fn, b_add, b_sub, b_mul, b_lt, b_le, b_gt, b_ge, b_eq, b_ne, u_not]
  apply hK
  clear hK K
  simp only [andThen, leaves]
  refine DWp.seq ?_
  refine DWp.seq ?_
  refine DWp.region fun K hK => ?_
  simp [-aBin', -aBin, -aBinI, -aUn, -aNil, -flatV, n_fn, b_add, b_sub, b_mul, b_lt, b_le, b_gt, b_ge, b_eq, b_ne, u_not]
  apply hK
  clear hK K
  simp only [andThen, leaves]
  refine DWp.block ?_
  obtain ⟨s1, hL2, hF⟩ := bd_some hF
  have S3 := S0.pick [] (by decide) rfl
  refine DWp.loop (fun n env G => ∃ y1_1 : Int, ∃ y1_5 : Int, F_laws_heldMeanderS_L1 fu x0 n y1_1 y1_5 = some s1 ∧ Sep G (Fr H) [] ∧ AgB (Fr H) H G ∧ env 0 = some v0 ∧ env 1 = some (Value.int .i64 y1_1) ∧ env 5 = some (Value.int .i64 y1_5)) fu ⟨x1, 0, hL2, S3, A0, by simp [], by simp [], by simp []⟩ ?_
  rintro n1 env1 G1_ ⟨y1_1, y1_5, hL2, S1_, A1_, e1_0, e1_1, e1_5⟩
  cases n1 with
  | zero => cases hL2
  | succ n1 =>
    simp only [F_laws_heldMeanderS_L1] at hL2
    refine DWp.seq ?_
    refine DWp.seq ?_
    have q4 := (hC0.agree A1_.agree).lenG (P := Try.prog) el_47
    refine DWp.region fun K hK => ?_
    simp [-aBin', -aBin, -aBinI, -aUn, -aNil, -flatV, n_fn, b_add, b_sub, b_mul, b_lt, b_le, b_gt, b_ge, b_eq, b_ne, u_not, e1_0, e1_1, e1_5, q4]
    apply hK
    clear hK K
    simp only [andThen, leaves]
    refine DWp.cond' (t := (ilt y1_5 (llen x0))) (by simp [e1_0, e1_1, e1_5]) (fun hb5 => ?_) (fun hb5 => ?_)
    · replace hL2 := cd_t hb5 hL2
      refine DWp.skip ?_
      simp only [andThen, leaves]
      refine DWp.seq ?_
      refine DWp.block ?_
      refine DWp.seq ?_
      obtain ⟨g6, hL2⟩ := gd_some hL2
      have q7 := (hC0.agree A1_.agree).idxG (P := Try.prog) (kk := .i64) el_47 sz_38 g6
      have q8 := (hC0.agree A1_.agree).fldG0 (P := Try.prog) fa_38_0 g6
      have q9 := (hC0.agree A1_.agree).cellG0 (P := Try.prog) sz_22 ag_22 g6
      obtain ⟨r1, hc10, hL2⟩ := bd_some hL2
      refine DWp.region fun K hK => ?_
      simp [-aBin', -aBin, -aBinI, -aUn, -aNil, -flatV, n_fn, b_add, b_sub, b_mul, b_lt, b_le, b_gt, b_ge, b_eq, b_ne, u_not, e1_0, e1_1, e1_5, q7, q8, q9, (((hC0.agree A1_.agree).row0 g6).tup)]
      refine CallD.t (F_laws_heldIntS_w (fu := fu) ((hC0.agree A1_.agree).row0 g6) hc10) ?_
      rintro _ G12 ⟨a15, rfl, S16⟩
      have A14 := A1_.ext (hB.le A1_.1) a15.agree
      have S13 : Sep G12 (Fr H) [] := S1_.app a15.agree S16 (fun _ h => h) (hB.le A1_.1)
      simp [-aBin', -aBin, -aBinI, -aUn, -aNil, -flatV, n_fn, b_add, b_sub, b_mul, b_lt, b_le, b_gt, b_ge, b_eq, b_ne, u_not, e1_0, e1_1, e1_5, q7, q8, q9, a15.pre]
      apply hK
      clear hK K
      simp only [andThen, leaves]
      refine DWp.seq ?_
      refine DWp.seq ?_
      refine DWp.region fun K hK => ?_
      simp [-aBin', -aBin, -aBinI, -aUn, -aNil, -flatV, n_fn, b_add, b_sub, b_mul, b_lt, b_le, b_gt, b_ge, b_eq, b_ne, u_not, e1_0, e1_1, e1_5]
      apply hK
      clear hK K
      simp only [andThen, leaves]
      refine DWp.cond' (t := (ilt r1 0)) (by simp [e1_0, e1_1, e1_5]) (fun hb17 => ?_) (fun hb17 => ?_)
      · replace hL2 := cd_t hb17 hL2
        refine DWp.seq ?_
        refine DWp.region fun K hK => ?_
        simp [-aBin', -aBin, -aBinI, -aUn, -aNil, -flatV, n_fn, b_add, b_sub, b_mul, b_lt, b_le, b_gt, b_ge, b_eq, b_ne, u_not, e1_0, e1_1, e1_5]
        apply hK
        clear hK K
        simp only [andThen, leaves]
        refine DWp.ret ?_
        simp only [andThen, leaves]
        obtain rfl := Option.some.inj hL2
        simp only [lr] at hF
        obtain rfl := Option.some.inj hF
        exact ⟨by simp, [(Value.int .i64 (-1))], by simp [e1_0, e1_1, e1_5], A14, rfl, S13.pick [] (by decide) rfl⟩
      · replace hL2 := cd_f hb17 hL2
        refine DWp.skip ?_
        simp only [andThen, leaves]
        refine DWp.seq ?_
        obtain ⟨g18, hL2⟩ := gd_some hL2
        have q19 := (hC0.agree A14.agree).idxG (P := Try.prog) (kk := .i64) el_47 sz_38 g18
        have q20 := (hC0.agree A14.agree).fldG1 (P := Try.prog) fa_38_1 g18
        have q21 := (hC0.agree A14.agree).cellG1 (P := Try.prog) sz_22 ag_22 g18
        obtain ⟨r2, hc22, hL2⟩ := bd_some hL2
        refine DWp.region fun K hK => ?_
        simp [-aBin', -aBin, -aBinI, -aUn, -aNil, -flatV, n_fn, b_add, b_sub, b_mul, b_lt, b_le, b_gt, b_ge, b_eq, b_ne, u_not, e1_0, e1_1, e1_5, q19, q20, q21, (((hC0.agree A14.agree).row1 g18).tup)]
        refine CallD.t (F_laws_heldIntS_w (fu := fu) ((hC0.agree A14.agree).row1 g18) hc22) ?_
        rintro _ G24 ⟨a27, rfl, S28⟩
        have A26 := A14.ext (hB.le A14.1) a27.agree
        have S25 : Sep G24 (Fr H) [] := S13.app a27.agree S28 (fun _ h => h) (hB.le A14.1)
        simp [-aBin', -aBin, -aBinI, -aUn, -aNil, -flatV, n_fn, b_add, b_sub, b_mul, b_lt, b_le, b_gt, b_ge, b_eq, b_ne, u_not, e1_0, e1_1, e1_5, q19, q20, q21, a27.pre]
        apply hK
        clear hK K
        simp only [andThen, leaves]
        refine DWp.seq ?_
        refine DWp.region fun K hK => ?_
        simp [-aBin', -aBin, -aBinI, -aUn, -aNil, -flatV, n_fn, b_add, b_sub, b_mul, b_lt, b_le, b_gt, b_ge, b_eq, b_ne, u_not, e1_0, e1_1, e1_5]
        apply hK
        clear hK K
        simp only [andThen, leaves]
        refine DWp.cond' (t := (ilt r2 0)) (by simp [e1_0, e1_1, e1_5]) (fun hb29 => ?_) (fun hb29 => ?_)
        · replace hL2 := cd_t hb29 hL2
          refine DWp.seq ?_
          refine DWp.region fun K hK => ?_
          simp [-aBin', -aBin, -aBinI, -aUn, -aNil, -flatV, n_fn, b_add, b_sub, b_mul, b_lt, b_le, b_gt, b_ge, b_eq, b_ne, u_not, e1_0, e1_1, e1_5]
          apply hK
          clear hK K
          simp only [andThen, leaves]
          refine DWp.ret ?_
          simp only [andThen, leaves]
          obtain rfl := Option.some.inj hL2
          simp only [lr] at hF
          obtain rfl := Option.some.inj hF
          exact ⟨by simp, [(Value.int .i64 (-1))], by simp [e1_0, e1_1, e1_5], A26, rfl, S25.pick [] (by decide) rfl⟩
        · replace hL2 := cd_f hb29 hL2
          refine DWp.skip ?_
          simp only [andThen, leaves]
          refine DWp.region fun K hK => ?_
          simp [-aBin', -aBin, -aBinI, -aUn, -aNil, -flatV, n_fn, b_add, b_sub, b_mul, b_lt, b_le, b_gt, b_ge, b_eq, b_ne, u_not, e1_0, e1_1, e1_5]
          apply hK
          clear hK K
          simp only [andThen, leaves]
          have S30 := S25.pick [] (by decide) rfl
          exact ⟨n1, Nat.lt_succ_self _, r2, (iadd .i64 y1_5 1), hL2, S30, A26, by simp [e1_0, e1_1, e1_5], by simp [e1_0, e1_1, e1_5], by simp [e1_0, e1_1, e1_5]⟩
    · replace hL2 := cd_f hb5 hL2
      refine DWp.exit ?_
      simp only [andThen, leaves, if_true, if_false, reduceIte, Nat.reduceEqDiff]
      obtain rfl := Option.some.inj hL2
      simp only [lr] at hF
      refine DWp.seq ?_
      refine DWp.region fun K hK => ?_
      simp [-aBin', -aBin, -aBinI, -aUn, -aNil, -flatV, n_fn, b_add, b_sub, b_mul, b_lt, b_le, b_gt, b_ge, b_eq, b_ne, u_not, e1_0, e1_1, e1_5]
      apply hK
      clear hK K
      simp only [andThen, leaves]
      refine DWp.ret ?_
      obtain rfl := Option.some.inj hF
      exact ⟨by simp, [(Value.int .i64 y1_1)], by simp [e1_0, e1_1, e1_5], A1_, rfl, S1_.pick [] (by decide) rfl⟩
end Go.Proofs.Ytdghlhdpcmemjaa.AL

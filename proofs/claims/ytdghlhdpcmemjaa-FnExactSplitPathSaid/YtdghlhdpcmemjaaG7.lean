/- The walks of functions, each with its Lean function: slices.partitionCmpFunc[[]int], slices.pdqsortCmpFunc[[]int], slices.SortFunc[[][]int,[]int], impl.neighbours, impl.ExchangesOf, laws.eqIntSS, laws.markIntSS, laws.heldIntSS, laws.FnExactExchangesOf, spec.exStep. No condition. -/
import Derived.Test.YtdghlhdpcmemjaaFBD
import Derived.Test.YtdghlhdpcmemjaaFBE
import Derived.Test.YtdghlhdpcmemjaaG1
import Derived.Test.YtdghlhdpcmemjaaG2
import Derived.Test.YtdghlhdpcmemjaaG3
import Derived.Test.YtdghlhdpcmemjaaG4
import Derived.Test.YtdghlhdpcmemjaaG5
import Derived.Test.YtdghlhdpcmemjaaG6
import Derived.Test.YtdghlhdpcmemjaaALD
import Derived.Test.YtdghlhdpcmemjaaProg
import Derived.KernelRfl
namespace Go.Proofs.Ytdghlhdpcmemjaa.AL
open Go Go.RowKit
set_option linter.unusedVariables false
set_option linter.unusedSimpArgs false
set_option maxRecDepth 4096
theorem pl_38 : placeT Try.prog 38 = some (.agg #[.slice none 0 0, .slice none 0 0], fun i => [(0, 1), (1, 1)].toArray[i]?) := by kernel_rfl
theorem ze_62 : zeroT Try.prog 62 = some (.agg #[.int .i64 0, .int .i64 0]) := by kernel_rfl
theorem bu_38 {a0 a1 : Value} (t0 : isTup a0 = false) (c0 : a0.cells = #[a0]) (t1 : isTup a1 = false) (c1 : a1.cells = #[a1]) : aBuild Try.prog 38 [(0, a0), (1, a1)] = some (.agg #[a0, a1]) := buildT2 pl_38 rfl rfl t0 c0 t1 c1
def F_spec_exStep_L1 (fu : Nat) (k1_0 : List Int) (k1_1 : List Int) (k1_2 : Int) (k1_3 : Int) (k1_4 : List (List Int)) (k1_5 : Int) : Nat → Int → Option (LR (List Int × Bool) (Int))
  | 0, _ => none
  | n + 1, y1_19 =>
    bif (ilt y1_19 k1_5) then
      gd (inL k1_4 y1_19) (
      gd (inL (gat [] k1_4 y1_19) 0) (
      gd (inL (gat [] k1_4 y1_19) 1) (
      bd (F_spec_exAt fu k1_0 (gat 0 (gat [] k1_4 y1_19) 0) (gat 0 (gat [] k1_4 y1_19) 1)) fun r3 =>
      bd (F_spec_meCount fu r3 k1_1) fun r4 =>
      bif (ieq r4 (iadd .i64 k1_3 k1_2)) then
        some (.ret (r3, true))
      else
        F_spec_exStep_L1 fu k1_0 k1_1 k1_2 k1_3 k1_4 k1_5 n (iadd .i64 y1_19 1))))
    else
      some (.brk y1_19)
def F_spec_exStep (fu : Nat) (x0 : List Int) (x1 : List Int) (x2 : Int) : Option (List Int × Bool) :=
  bd (F_spec_meCount fu x0 x1) fun r1 =>
  bd (F_spec_exPairs fu x0) fun r2 =>
  bd (F_spec_exStep_L1 fu x0 x1 x2 r1 r2 (llen r2) fu 0) fun s1 =>
  lr s1 fun s1 =>
  some ([], false)
theorem F_spec_exStep_w {fu : Nat} {H : AH} {v0 : Value} {v1 : Value} {x0 : List Int} {x1 : List Int} {x2 : Int} {r : (List Int × Bool)} (hx0 : Sl H v0 (ints x0)) (hx1 : Sl H v1 (ints x1)) (hF : F_spec_exStep fu x0 x1 x2 = some r) :
    ACallT Try.prog 108 [v0, v1, (Value.int .i64 x2)] H (fun u G => AgB (Fr H) H G ∧ ∃ u0 : Value, u = (Value.tuple #[u0, (Value.bool r.2)]) ∧ Sep G (Fr H) [flat u0 3 (ints r.1)]) := by
  refine ACallT.of_body (nt := 41) (rs := [.tmp 6, .tmp 7]) Try.func108 rfl rfl rfl rfl ?_
  have A0 : AgB (Fr H) H H := .refl _ _
  have S0 : Sep H (Fr H) [] := .nil
  have hB := Fr.up H
  unfold F_spec_exStep at hF
  refine DWp.seq ?_
  refine DWp.region fun K hK => ?_
  simp [-aBin', -aBin, -aBinI, -aUn, -aNil, -flatV, n_fn, b_add, b_sub, b_mul, b_lt, b_le, b_gt, b_ge, b_eq, b_ne, u_not]
  apply hK
  clear hK K
  simp only [andThen, leaves]
  refine DWp.seq ?_
  obtain ⟨r1, hc1, hF⟩ := bd_some hF
  refine DWp.region fun K hK => ?_
  simp [-aBin', -aBin, -aBinI, -aUn, -aNil, -flatV, n_fn, b_add, b_sub, b_mul, b_lt, b_le, b_gt, b_ge, b_eq, b_ne, u_not, bu_38 ((hx0.agree A0.agree).tup) ((hx0.agree A0.agree).one) ((hx1.agree A0.agree).tup) ((hx1.agree A0.agree).one), ((hx0.agree A0.agree).tup), ((hx1.agree A0.agree).tup)]
  refine CallD.t (F_spec_meCount_w (fu := fu) (hx0.agree A0.agree) (hx1.agree A0.agree) hc1) ?_
  rintro _ G3 ⟨a6, rfl, S7⟩
  have A5 := A0.ext (hB.le A0.1) a6.agree
  have S4 : Sep G3 (Fr H) [] := S0.app a6.agree S7 (fun _ h => h) (hB.le A0.1)
  simp [-aBin', -aBin, -aBinI, -aUn, -aNil, -flatV, n_fn, b_add, b_sub, b_mul, b_lt, b_le, b_gt, b_ge, b_eq, b_ne, u_not, bu_38 ((hx0.agree A0.agree).tup) ((hx0.agree A0.agree).one) ((hx1.agree A0.agree).tup) ((hx1.agree A0.agree).one), a6.pre]
  apply hK
  clear hK K
  simp only [andThen, leaves]
  refine DWp.seq ?_
  refine DWp.seq ?_
  obtain ⟨r2, hc8, hF⟩ := bd_some hF
  refine DWp.region fun K hK => ?_
  simp [-aBin', -aBin, -aBinI, -aUn, -aNil, -flatV, n_fn, b_add, b_sub, b_mul, b_lt, b_le, b_gt, b_ge, b_eq, b_ne, u_not, ((hx0.agree A5.agree).tup)]
  refine CallD.t (F_spec_exPairs_w (fu := fu) (hx0.agree A5.agree) hc8) ?_
  rintro c9_u0 G10 ⟨a13, _, c9_C0, rfl, S14⟩
  have A12 := A5.ext (hB.le A5.1) a13.agree
  have S11 : Sep G10 (Fr H) [rowsC c9_u0 22 3 c9_C0 (List.map ints r2)] := S4.app a13.agree S14 (fun _ h => h) (hB.le A5.1)
  have q15 := (S11.rd (k := 0) rfl).lenG (P := Try.prog) el_23
  simp [-aBin', -aBin, -aBinI, -aUn, -aNil, -flatV, n_fn, b_add, b_sub, b_mul, b_lt, b_le, b_gt, b_ge, b_eq, b_ne, u_not, a13.pre, q15]
  apply hK
  clear hK K
  simp only [andThen, leaves]
  refine DWp.block ?_
  obtain ⟨s16, hL17, hF⟩ := bd_some hF
  have S18 := S11.pick [0] (by decide) rfl
  refine DWp.loop (fun n env G => ∃ y1_19 : Int, F_spec_exStep_L1 fu x0 x1 x2 r1 r2 (llen r2) n y1_19 = some s16 ∧ Sep G (Fr H) [rowsC c9_u0 22 3 c9_C0 (List.map ints r2)] ∧ AgB (Fr H) H G ∧ env 0 = some v0 ∧ env 1 = some v1 ∧ env 2 = some (Value.int .i64 x2) ∧ env 8 = some (Value.int .i64 r1) ∧ env 17 = some c9_u0 ∧ env 18 = some (Value.int .i64 (llen r2)) ∧ env 19 = some (Value.int .i64 y1_19)) fu ⟨0, hL17, S18, A12, by simp [], by simp [], by simp [], by simp [], by simp [], by simp [], by simp []⟩ ?_
  rintro n1 env1 G1_ ⟨y1_19, hL17, S1_, A1_, e1_0, e1_1, e1_2, e1_8, e1_17, e1_18, e1_19⟩
  cases n1 with
  | zero => cases hL17
  | succ n1 =>
    simp only [F_spec_exStep_L1] at hL17
    refine DWp.seq ?_
    refine DWp.region fun K hK => ?_
    simp [-aBin', -aBin, -aBinI, -aUn, -aNil, -flatV, n_fn, b_add, b_sub, b_mul, b_lt, b_le, b_gt, b_ge, b_eq, b_ne, u_not, e1_0, e1_1, e1_2, e1_8, e1_17, e1_18, e1_19]
    apply hK
    clear hK K
    simp only [andThen, leaves]
    refine DWp.seq ?_
    refine DWp.cond' (t := (ilt y1_19 (llen r2))) (by simp [e1_0, e1_1, e1_2, e1_8, e1_17, e1_18, e1_19]) (fun hb19 => ?_) (fun hb19 => ?_)
    · replace hL17 := cd_t hb19 hL17
      refine DWp.skip ?_
      simp only [andThen, leaves]
      refine DWp.seq ?_
      refine DWp.block ?_
      refine DWp.seq ?_
      obtain ⟨g20, hL17⟩ := gd_some hL17
      have q21 := (S1_.rd (k := 0) rfl).idxG (P := Try.prog) (kk := .i64) el_23 sz_22 g20
      have q22 := (S1_.rd (k := 0) rfl).loadG (P := Try.prog) sz_22 ag_22 g20
      refine DWp.region fun K hK => ?_
      simp [-aBin', -aBin, -aBinI, -aUn, -aNil, -flatV, n_fn, b_add, b_sub, b_mul, b_lt, b_le, b_gt, b_ge, b_eq, b_ne, u_not, e1_0, e1_1, e1_2, e1_8, e1_17, e1_18, e1_19, q21, q22]
      apply hK
      clear hK K
      simp only [andThen, leaves]
      refine DWp.seq ?_
      obtain ⟨g23, hL17⟩ := gd_some hL17
      have q24 := idxG (P := Try.prog) (kk := .i64) ((S1_.rd (k := 0) rfl).rowAt [] g20) el_22 sz_3 g23
      replace q24 : aIndexAddr Try.prog G1_ 22 (gat nilV c9_C0 y1_19) (Value.int .i64 0) = some (elP (gat nilV c9_C0 y1_19) 0) := q24
      have q25 := loadG (P := Try.prog) ((S1_.rd (k := 0) rfl).rowAt [] g20) sz_3 ag_3 g23 0
      replace q25 : aLoad Try.prog G1_ 3 (elP (gat nilV c9_C0 y1_19) 0) = some (Value.int .i64 (gat 0 (gat [] r2 y1_19) 0)) := q25
      obtain ⟨g26, hL17⟩ := gd_some hL17
      have q27 := idxG (P := Try.prog) (kk := .i64) ((S1_.rd (k := 0) rfl).rowAt [] g20) el_22 sz_3 g26
      replace q27 : aIndexAddr Try.prog G1_ 22 (gat nilV c9_C0 y1_19) (Value.int .i64 1) = some (elP (gat nilV c9_C0 y1_19) 1) := q27
      have q28 := loadG (P := Try.prog) ((S1_.rd (k := 0) rfl).rowAt [] g20) sz_3 ag_3 g26 0
      replace q28 : aLoad Try.prog G1_ 3 (elP (gat nilV c9_C0 y1_19) 1) = some (Value.int .i64 (gat 0 (gat [] r2 y1_19) 1)) := q28
      obtain ⟨r3, hc29, hL17⟩ := bd_some hL17
      refine DWp.drawn (B := [0, 0, 2, 6, 0, 16, 48, 127, 255]) 9 mixed (by kernel_rfl) (by decide) fun K hK => ?_
      simp [-aBin', -aBin, -aBinI, -aUn, -aNil, -flatV, n_fn, b_add, b_sub, b_mul, b_lt, b_le, b_gt, b_ge, b_eq, b_ne, u_not, e1_0, e1_1, e1_2, e1_8, e1_17, e1_18, e1_19, q24, q25, q27, q28, ((hx0.agree A1_.agree).tup)]
      refine CallD.t (F_spec_exAt_w (fu := fu) (hx0.agree A1_.agree) hc29) ?_
      rintro c30_u0 G31 ⟨a34, _, rfl, S35⟩
      have A33 := A1_.ext (hB.le A1_.1) a34.agree
      have S32 : Sep G31 (Fr H) [rowsC c9_u0 22 3 c9_C0 (List.map ints r2), flat c30_u0 3 (ints r3)] := S1_.app a34.agree S35 (fun _ h => h) (hB.le A1_.1)
      simp [-aBin', -aBin, -aBinI, -aUn, -aNil, -flatV, n_fn, b_add, b_sub, b_mul, b_lt, b_le, b_gt, b_ge, b_eq, b_ne, u_not, e1_0, e1_1, e1_2, e1_8, e1_17, e1_18, e1_19, q24, q25, q27, q28, a34.pre]
      apply hK
      clear hK K
      simp only [andThen, leaves]
      refine DWp.seq ?_
      obtain ⟨r4, hc36, hL17⟩ := bd_some hL17
      refine DWp.region fun K hK => ?_
      simp [-aBin', -aBin, -aBinI, -aUn, -aNil, -flatV, n_fn, b_add, b_sub, b_mul, b_lt, b_le, b_gt, b_ge, b_eq, b_ne, u_not, e1_0, e1_1, e1_2, e1_8, e1_17, e1_18, e1_19, bu_38 ((S32.sl (k := 1) rfl).tup) ((S32.sl (k := 1) rfl).one) ((hx1.agree A33.agree).tup) ((hx1.agree A33.agree).one), ((S32.sl (k := 1) rfl).tup), ((hx1.agree A33.agree).tup)]
      refine CallD.t (F_spec_meCount_w (fu := fu) (S32.sl (k := 1) rfl) (hx1.agree A33.agree) hc36) ?_
      rintro _ G38 ⟨a41, rfl, S42⟩
      have A40 := A33.ext (hB.le A33.1) a41.agree
      have S39 : Sep G38 (Fr H) [rowsC c9_u0 22 3 c9_C0 (List.map ints r2), flat c30_u0 3 (ints r3)] := S32.app a41.agree S42 (fun _ h => h) (hB.le A33.1)
      simp [-aBin', -aBin, -aBinI, -aUn, -aNil, -flatV, n_fn, b_add, b_sub, b_mul, b_lt, b_le, b_gt, b_ge, b_eq, b_ne, u_not, e1_0, e1_1, e1_2, e1_8, e1_17, e1_18, e1_19, bu_38 ((S32.sl (k := 1) rfl).tup) ((S32.sl (k := 1) rfl).one) ((hx1.agree A33.agree).tup) ((hx1.agree A33.agree).one), a41.pre]
      apply hK
      clear hK K
      simp only [andThen, leaves]
      refine DWp.cond' (t := (ieq r4 (iadd .i64 r1 x2))) (by simp [e1_0, e1_1, e1_2, e1_8, e1_17, e1_18, e1_19]) (fun hb43 => ?_) (fun hb43 => ?_)
      · replace hL17 := cd_t hb43 hL17
        refine DWp.seq ?_
        refine DWp.region fun K hK => ?_
        simp [-aBin', -aBin, -aBinI, -aUn, -aNil, -flatV, n_fn, b_add, b_sub, b_mul, b_lt, b_le, b_gt, b_ge, b_eq, b_ne, u_not, e1_0, e1_1, e1_2, e1_8, e1_17, e1_18, e1_19]
        apply hK
        clear hK K
        simp only [andThen, leaves]
        refine DWp.ret ?_
        simp only [andThen, leaves]
        obtain rfl := Option.some.inj hL17
        simp only [lr] at hF
        obtain rfl := Option.some.inj hF
        exact ⟨by simp, [c30_u0, (Value.bool true)], by simp [e1_0, e1_1, e1_2, e1_8, e1_17, e1_18, e1_19, ((S39.sl (k := 1) rfl).tup)], A40, c30_u0, rfl, S39.pick [1] (by decide) rfl⟩
      · replace hL17 := cd_f hb43 hL17
        refine DWp.skip ?_
        simp only [andThen, leaves]
        refine DWp.region fun K hK => ?_
        simp [-aBin', -aBin, -aBinI, -aUn, -aNil, -flatV, n_fn, b_add, b_sub, b_mul, b_lt, b_le, b_gt, b_ge, b_eq, b_ne, u_not, e1_0, e1_1, e1_2, e1_8, e1_17, e1_18, e1_19]
        apply hK
        clear hK K
        simp only [andThen, leaves]
        have S44 := S39.pick [0] (by decide) rfl
        exact ⟨n1, Nat.lt_succ_self _, (iadd .i64 y1_19 1), hL17, S44, A40, by simp [e1_0, e1_1, e1_2, e1_8, e1_17, e1_18, e1_19], by simp [e1_0, e1_1, e1_2, e1_8, e1_17, e1_18, e1_19], by simp [e1_0, e1_1, e1_2, e1_8, e1_17, e1_18, e1_19], by simp [e1_0, e1_1, e1_2, e1_8, e1_17, e1_18, e1_19], by simp [e1_0, e1_1, e1_2, e1_8, e1_17, e1_18, e1_19], by simp [e1_0, e1_1, e1_2, e1_8, e1_17, e1_18, e1_19], by simp [e1_0, e1_1, e1_2, e1_8, e1_17, e1_18, e1_19]⟩
    · replace hL17 := cd_f hb19 hL17
      refine DWp.exit ?_
      simp only [andThen, leaves, if_true, if_false, reduceIte, Nat.reduceEqDiff]
      obtain rfl := Option.some.inj hL17
      simp only [lr] at hF
      refine DWp.seq ?_
      refine DWp.region fun K hK => ?_
      simp [-aBin', -aBin, -aBinI, -aUn, -aNil, -flatV, n_fn, b_add, b_sub, b_mul, b_lt, b_le, b_gt, b_ge, b_eq, b_ne, u_not, e1_0, e1_1, e1_2, e1_8, e1_17, e1_18, e1_19]
      apply hK
      clear hK K
      simp only [andThen, leaves]
      refine DWp.ret ?_
      have S45 := S1_.nilItem (hB.le A1_.1) 3
      obtain rfl := Option.some.inj hF
      exact ⟨by simp, [(Value.slice none 0 0), (Value.bool false)], by simp [e1_0, e1_1, e1_2, e1_8, e1_17, e1_18, e1_19], A1_, (Value.slice none 0 0), rfl, S45.pick [1] (by decide) rfl⟩
end Go.Proofs.Ytdghlhdpcmemjaa.AL

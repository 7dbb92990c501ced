/- The walks of functions, each with its Lean function: spec.siShortest, spec.siInner, spec.siInside, spec.siOuter, spec.siOutside, spec.l1Own, spec.siPieces, spec.siSimple, spec.IsSimple, impl.in. No condition. -/
import Derived.Test.YtbckijeffiofdaaG1
import Derived.Test.YtbckijeffiofdaaALC
import Derived.Test.YtbckijeffiofdaaProg
import Derived.KernelRfl
namespace Go.Proofs.Ytbckijeffiofdaa.AL
open Go Go.RowKit
set_option linter.unusedVariables false
set_option linter.unusedSimpArgs false
set_option maxRecDepth 4096
theorem ei_28 : einfo Try.prog 28 = some ⟨2, 48, .agg #[.slice none 0 0, .slice none 0 0]⟩ := by kernel_rfl
theorem el_46 : elemT Try.prog 46 = some 28 := by kernel_rfl
theorem pl_28 : placeT Try.prog 28 = some (.agg #[.slice none 0 0, .slice none 0 0], fun i => [(0, 1), (1, 1)].toArray[i]?) := by kernel_rfl
theorem bu_28 {a0 a1 : Value} (t0 : isTup a0 = false) (c0 : a0.cells = #[a0]) (t1 : isTup a1 = false) (c1 : a1.cells = #[a1]) : aBuild Try.prog 28 [(0, a0), (1, a1)] = some (.agg #[a0, a1]) := buildT2 pl_28 rfl rfl t0 c0 t1 c1
def F_spec_siShortest_L1 (fu : Nat) (k1_0 : Bool) (k1_1 : List (List Int)) (k1_2 : Int) : Nat → Int → Int → Option (Int × Int)
  | 0, _, _ => none
  | n + 1, y1_5, y1_11 =>
    bif (ilt y1_11 k1_2) then
      gd (inL k1_1 y1_11) (
      bd (
        bif (ieq (llen (rnL k1_1 y1_5)) 0) then
          some true
        else
          gd (inL (gat [] k1_1 y1_11) 1) (
          gd (inL (gat [] k1_1 y1_11) 0) (
          gd (inL (rnL k1_1 y1_5) 1) (
          gd (inL (rnL k1_1 y1_5) 0) (
          bif (ilt (isub .i64 (gat 0 (gat [] k1_1 y1_11) 1) (gat 0 (gat [] k1_1 y1_11) 0)) (isub .i64 (gat 0 (rnL k1_1 y1_5) 1) (gat 0 (rnL k1_1 y1_5) 0))) then
            some true
          else
            bif k1_0 then
              gd (inL (gat [] k1_1 y1_11) 1) (
              gd (inL (gat [] k1_1 y1_11) 0) (
              gd (inL (rnL k1_1 y1_5) 1) (
              gd (inL (rnL k1_1 y1_5) 0) (
              some (ieq (isub .i64 (gat 0 (gat [] k1_1 y1_11) 1) (gat 0 (gat [] k1_1 y1_11) 0)) (isub .i64 (gat 0 (rnL k1_1 y1_5) 1) (gat 0 (rnL k1_1 y1_5) 0)))))))
            else
              some false))))) fun s24 =>
      bif s24 then
        F_spec_siShortest_L1 fu k1_0 k1_1 k1_2 n y1_11 (iadd .i64 y1_11 1)
      else
        F_spec_siShortest_L1 fu k1_0 k1_1 k1_2 n y1_5 (iadd .i64 y1_11 1))
    else
      some (y1_5, y1_11)
def F_spec_siShortest (fu : Nat) (x0_0 : List Int) (x0_1 : List Int) (x1 : Bool) : Option (List Int) :=
  bd (F_spec_siAll fu x0_0 x0_1) fun r1 =>
  bd (F_spec_siShortest_L1 fu x1 r1 (llen r1) fu (-1) 0) fun s1 =>
  bif (ilt s1.1 0) then
    some []
  else
    gd ((gat [] r1 s1.1) ≠ []) (
    some (gat [] r1 s1.1))
theorem F_spec_siShortest_w {fu : Nat} {H : AH} {v0_0 : Value} {v0_1 : Value} {x0_0 : List Int} {x0_1 : List Int} {x1 : Bool} {r : (List Int)} (hx0_0 : Sl H v0_0 (ints x0_0)) (hx0_1 : Sl H v0_1 (ints x0_1)) (hF : F_spec_siShortest fu x0_0 x0_1 x1 = some r) :
    ACallT Try.prog 98 [(Value.agg #[v0_0, v0_1]), (Value.bool x1)] H (fun u G => AgB (Fr H) H G ∧ ∃ u0 : Value, u = u0 ∧ Sep G (Fr H) [flat u0 3 (ints r)]) := by
  refine ACallT.of_body (nt := 58) (rs := [.tmp 4]) Try.func98 rfl rfl rfl rfl ?_
  have A0 : AgB (Fr H) H H := .refl _ _
  have S0 : Sep H (Fr H) [] := .nil
  have hB := Fr.up H
  unfold F_spec_siShortest at hF
  refine DWp.seq ?_
  obtain ⟨G2, p4, q5, q6, a7, S1⟩ := S0.boxT (hB.le A0.1) 28 [v0_0, v0_1]
  have A3 := A0.ext (hB.le A0.1) a7
  replace S1 : Sep G2 (Fr H) [AL.box p4 [v0_0, v0_1]] := S1
  refine DWp.region fun K hK => ?_
  simp [-aBin', -aBin, -aBinI, -aUn, -aNil, -flatV, n_fn, b_add, b_sub, b_mul, b_lt, b_le, b_gt, b_ge, b_eq, b_ne, u_not, q5, q6, a7.to_pre, cells_agg]
  apply hK
  clear hK K
  simp only [andThen, leaves]
  refine DWp.seq ?_
  refine DWp.region fun K hK => ?_
  simp [-aBin', -aBin, -aBinI, -aUn, -aNil, -flatV, n_fn, b_add, b_sub, b_mul, b_lt, b_le, b_gt, b_ge, b_eq, b_ne, u_not]
  apply hK
  clear hK K
  simp only [andThen, leaves]
  refine DWp.seq ?_
  refine DWp.seq ?_
  have q8 := S1.loadAgg (P := Try.prog) (k := 0) rfl sz_28 ag_28 rfl
  obtain ⟨r1, hc9, hF⟩ := bd_some hF
  refine DWp.region fun K hK => ?_
  simp [-aBin', -aBin, -aBinI, -aUn, -aNil, -flatV, n_fn, b_add, b_sub, b_mul, b_lt, b_le, b_gt, b_ge, b_eq, b_ne, u_not, q8, ((hx0_0.agree A3.agree).tup), ((hx0_1.agree A3.agree).tup)]
  refine CallD.t (F_spec_siAll_w (fu := fu) (hx0_0.agree A3.agree) (hx0_1.agree A3.agree) hc9) ?_
  rintro c10_u0 G11 ⟨a14, _, c10_C0, rfl, S15⟩
  have A13 := A3.ext (hB.le A3.1) a14.agree
  have S12 : Sep G11 (Fr H) [AL.box p4 [v0_0, v0_1], rowsC c10_u0 22 3 c10_C0 (List.map ints r1)] := S1.app a14.agree S15 (fun _ h => h) (hB.le A3.1)
  have q16 := (S12.rd (k := 1) rfl).lenG (P := Try.prog) el_36
  simp [-aBin', -aBin, -aBinI, -aUn, -aNil, -flatV, n_fn, b_add, b_sub, b_mul, b_lt, b_le, b_gt, b_ge, b_eq, b_ne, u_not, q8, a14.pre, q16]
  apply hK
  clear hK K
  simp only [andThen, leaves]
  refine DWp.block ?_
  obtain ⟨s17, hL18, hF⟩ := bd_some hF
  have S19 := S12.pick [1] (by decide) rfl
  refine DWp.loop (fun n env G => ∃ y1_5 : Int, ∃ y1_11 : Int, F_spec_siShortest_L1 fu x1 r1 (llen r1) n y1_5 y1_11 = some s17 ∧ Sep G (Fr H) [rowsC c10_u0 22 3 c10_C0 (List.map ints r1)] ∧ AgB (Fr H) H G ∧ env 1 = some (Value.bool x1) ∧ env 5 = some (rnV c10_C0 y1_5) ∧ env 9 = some c10_u0 ∧ env 10 = some (Value.int .i64 (llen r1)) ∧ env 11 = some (Value.int .i64 y1_11) ∧ (ilt y1_5 0 = true ∨ inL r1 y1_5)) fu ⟨(-1), 0, hL18, S19, A13, by simp [], by simp [], by simp [], by simp [], by simp [], .inl rfl⟩ ?_
  rintro n1 env1 G1_ ⟨y1_5, y1_11, hL18, S1_, A1_, e1_1, e1_5, e1_9, e1_10, e1_11, hrn_y1_5⟩
  cases n1 with
  | zero => cases hL18
  | succ n1 =>
    simp only [F_spec_siShortest_L1] at hL18
    refine DWp.seq ?_
    refine DWp.region fun K hK => ?_
    simp [-aBin', -aBin, -aBinI, -aUn, -aNil, -flatV, n_fn, b_add, b_sub, b_mul, b_lt, b_le, b_gt, b_ge, b_eq, b_ne, u_not, e1_1, e1_5, e1_9, e1_10, e1_11]
    apply hK
    clear hK K
    simp only [andThen, leaves]
    refine DWp.seq ?_
    refine DWp.cond' (t := (ilt y1_11 (llen r1))) (by simp [e1_1, e1_5, e1_9, e1_10, e1_11]) (fun hb20 => ?_) (fun hb20 => ?_)
    · replace hL18 := cd_t hb20 hL18
      refine DWp.skip ?_
      simp only [andThen, leaves]
      refine DWp.seq ?_
      refine DWp.block ?_
      refine DWp.seq ?_
      obtain ⟨g21, hL18⟩ := gd_some hL18
      have q22 := (S1_.rd (k := 0) rfl).idxG (P := Try.prog) (kk := .i64) el_36 sz_22 g21
      have q23 := (S1_.rd (k := 0) rfl).loadG (P := Try.prog) sz_22 ag_22 g21
      refine DWp.region fun K hK => ?_
      simp [-aBin', -aBin, -aBinI, -aUn, -aNil, -flatV, n_fn, b_add, b_sub, b_mul, b_lt, b_le, b_gt, b_ge, b_eq, b_ne, u_not, e1_1, e1_5, e1_9, e1_10, e1_11, q22, q23]
      apply hK
      clear hK K
      simp only [andThen, leaves]
      obtain ⟨s24, hL25, hL18⟩ := bd_some hL18
      refine DWp.seq (DWp.join (fun env G => Sep G (Fr H) [rowsC c10_u0 22 3 c10_C0 (List.map ints r1)] ∧ AgB (Fr H) H G ∧ env 1 = some (Value.bool x1) ∧ env 5 = some (rnV c10_C0 y1_5) ∧ env 7 = some (gat nilV c10_C0 y1_11) ∧ env 9 = some c10_u0 ∧ env 10 = some (Value.int .i64 (llen r1)) ∧ env 11 = some (Value.int .i64 y1_11) ∧ env 54 = some (Value.bool s24)) ?_ ?_)
      ·
        have q27 := lenG (P := Try.prog) (rn_sl (S1_.rd (k := 0) rfl) hrn_y1_5) el_22
        rcases Bool.eq_false_or_eq_true (ieq (llen (rnL r1 y1_5)) 0) with hb28 | hb28
        · replace hL25 := cd_t hb28 hL25
          refine DWp.drawn (B := [0, 1, 3, 7, 15, 31, 63, 15, 143, 399, 1023, 15, 2063, 6159, 15, 16399, 49167, 129039, 262143, 524287, 1048575, 2097151, 4194303, 8388607, 16777215, 33554431, 8388607, 75497471, 209715199, 536870911, 8388607, 1082130431, 3229614079, 8388607, 8598323199, 25778192383, 67654123519, 137438953471, 274877906943, 549755813887]) 40 mixed (by kernel_rfl) (by decide) fun K hK => ?_
          simp [-aBin', -aBin, -aBinI, -aUn, -aNil, -flatV, n_fn, b_add, b_sub, b_mul, b_lt, b_le, b_gt, b_ge, b_eq, b_ne, u_not, e1_1, e1_5, e1_9, e1_10, e1_11, hb28, q27, undef]
          apply hK
          clear hK K
          simp only [andThen, leaves]
          have S29 := S1_.pick [0] (by decide) rfl
          obtain rfl := Option.some.inj hL25
          exact ⟨S29, A1_, by simp [e1_1, e1_5, e1_9, e1_10, e1_11], by simp [e1_1, e1_5, e1_9, e1_10, e1_11], by simp [e1_1, e1_5, e1_9, e1_10, e1_11], by simp [e1_1, e1_5, e1_9, e1_10, e1_11], by simp [e1_1, e1_5, e1_9, e1_10, e1_11], by simp [e1_1, e1_5, e1_9, e1_10, e1_11], by simp [e1_1, e1_5, e1_9, e1_10, e1_11]⟩
        · replace hL25 := cd_f hb28 hL25
          obtain ⟨g30, hL25⟩ := gd_some hL25
          have q31 := idxG (P := Try.prog) (kk := .i64) ((S1_.rd (k := 0) rfl).rowAt [] g21) el_22 sz_3 g30
          replace q31 : aIndexAddr Try.prog G1_ 22 (gat nilV c10_C0 y1_11) (Value.int .i64 1) = some (elP (gat nilV c10_C0 y1_11) 1) := q31
          have q32 := loadG (P := Try.prog) ((S1_.rd (k := 0) rfl).rowAt [] g21) sz_3 ag_3 g30 0
          replace q32 : aLoad Try.prog G1_ 3 (elP (gat nilV c10_C0 y1_11) 1) = some (Value.int .i64 (gat 0 (gat [] r1 y1_11) 1)) := q32
          obtain ⟨g33, hL25⟩ := gd_some hL25
          have q34 := idxG (P := Try.prog) (kk := .i64) ((S1_.rd (k := 0) rfl).rowAt [] g21) el_22 sz_3 g33
          replace q34 : aIndexAddr Try.prog G1_ 22 (gat nilV c10_C0 y1_11) (Value.int .i64 0) = some (elP (gat nilV c10_C0 y1_11) 0) := q34
          have q35 := loadG (P := Try.prog) ((S1_.rd (k := 0) rfl).rowAt [] g21) sz_3 ag_3 g33 0
          replace q35 : aLoad Try.prog G1_ 3 (elP (gat nilV c10_C0 y1_11) 0) = some (Value.int .i64 (gat 0 (gat [] r1 y1_11) 0)) := q35
          obtain ⟨g36, hL25⟩ := gd_some hL25
          have q37 := idxG (P := Try.prog) (kk := .i64) (rn_sl (S1_.rd (k := 0) rfl) hrn_y1_5) el_22 sz_3 g36
          replace q37 : aIndexAddr Try.prog G1_ 22 (rnV c10_C0 y1_5) (Value.int .i64 1) = some (elP (rnV c10_C0 y1_5) 1) := q37
          have q38 := loadG (P := Try.prog) (rn_sl (S1_.rd (k := 0) rfl) hrn_y1_5) sz_3 ag_3 g36 0
          replace q38 : aLoad Try.prog G1_ 3 (elP (rnV c10_C0 y1_5) 1) = some (Value.int .i64 (gat 0 (rnL r1 y1_5) 1)) := q38
          obtain ⟨g39, hL25⟩ := gd_some hL25
          have q40 := idxG (P := Try.prog) (kk := .i64) (rn_sl (S1_.rd (k := 0) rfl) hrn_y1_5) el_22 sz_3 g39
          replace q40 : aIndexAddr Try.prog G1_ 22 (rnV c10_C0 y1_5) (Value.int .i64 0) = some (elP (rnV c10_C0 y1_5) 0) := q40
          have q41 := loadG (P := Try.prog) (rn_sl (S1_.rd (k := 0) rfl) hrn_y1_5) sz_3 ag_3 g39 0
          replace q41 : aLoad Try.prog G1_ 3 (elP (rnV c10_C0 y1_5) 0) = some (Value.int .i64 (gat 0 (rnL r1 y1_5) 0)) := q41
          rcases Bool.eq_false_or_eq_true (ilt (isub .i64 (gat 0 (gat [] r1 y1_11) 1) (gat 0 (gat [] r1 y1_11) 0)) (isub .i64 (gat 0 (rnL r1 y1_5) 1) (gat 0 (rnL r1 y1_5) 0))) with hb42 | hb42
          · replace hL25 := cd_t hb42 hL25
            refine DWp.drawn (B := [0, 1, 3, 7, 15, 31, 63, 15, 143, 399, 1023, 15, 2063, 6159, 15, 16399, 49167, 129039, 262143, 524287, 1048575, 2097151, 4194303, 8388607, 16777215, 33554431, 8388607, 75497471, 209715199, 536870911, 8388607, 1082130431, 3229614079, 8388607, 8598323199, 25778192383, 67654123519, 137438953471, 274877906943, 549755813887]) 40 mixed (by kernel_rfl) (by decide) fun K hK => ?_
            simp [-aBin', -aBin, -aBinI, -aUn, -aNil, -flatV, n_fn, b_add, b_sub, b_mul, b_lt, b_le, b_gt, b_ge, b_eq, b_ne, u_not, e1_1, e1_5, e1_9, e1_10, e1_11, hb28, hb42, q27, q31, q32, q34, q35, q37, q38, q40, q41, undef]
            apply hK
            clear hK K
            simp only [andThen, leaves]
            have S43 := S1_.pick [0] (by decide) rfl
            obtain rfl := Option.some.inj hL25
            exact ⟨S43, A1_, by simp [e1_1, e1_5, e1_9, e1_10, e1_11], by simp [e1_1, e1_5, e1_9, e1_10, e1_11], by simp [e1_1, e1_5, e1_9, e1_10, e1_11], by simp [e1_1, e1_5, e1_9, e1_10, e1_11], by simp [e1_1, e1_5, e1_9, e1_10, e1_11], by simp [e1_1, e1_5, e1_9, e1_10, e1_11], by simp [e1_1, e1_5, e1_9, e1_10, e1_11]⟩
          · replace hL25 := cd_f hb42 hL25
            rcases Bool.eq_false_or_eq_true x1 with hb44 | hb44
            · replace hL25 := cd_t hb44 hL25
              obtain ⟨g45, hL25⟩ := gd_some hL25
              have q46 := idxG (P := Try.prog) (kk := .i64) ((S1_.rd (k := 0) rfl).rowAt [] g21) el_22 sz_3 g45
              replace q46 : aIndexAddr Try.prog G1_ 22 (gat nilV c10_C0 y1_11) (Value.int .i64 1) = some (elP (gat nilV c10_C0 y1_11) 1) := q46
              have q47 := loadG (P := Try.prog) ((S1_.rd (k := 0) rfl).rowAt [] g21) sz_3 ag_3 g45 0
              replace q47 : aLoad Try.prog G1_ 3 (elP (gat nilV c10_C0 y1_11) 1) = some (Value.int .i64 (gat 0 (gat [] r1 y1_11) 1)) := q47
              obtain ⟨g48, hL25⟩ := gd_some hL25
              have q49 := idxG (P := Try.prog) (kk := .i64) ((S1_.rd (k := 0) rfl).rowAt [] g21) el_22 sz_3 g48
              replace q49 : aIndexAddr Try.prog G1_ 22 (gat nilV c10_C0 y1_11) (Value.int .i64 0) = some (elP (gat nilV c10_C0 y1_11) 0) := q49
              have q50 := loadG (P := Try.prog) ((S1_.rd (k := 0) rfl).rowAt [] g21) sz_3 ag_3 g48 0
              replace q50 : aLoad Try.prog G1_ 3 (elP (gat nilV c10_C0 y1_11) 0) = some (Value.int .i64 (gat 0 (gat [] r1 y1_11) 0)) := q50
              obtain ⟨g51, hL25⟩ := gd_some hL25
              have q52 := idxG (P := Try.prog) (kk := .i64) (rn_sl (S1_.rd (k := 0) rfl) hrn_y1_5) el_22 sz_3 g51
              replace q52 : aIndexAddr Try.prog G1_ 22 (rnV c10_C0 y1_5) (Value.int .i64 1) = some (elP (rnV c10_C0 y1_5) 1) := q52
              have q53 := loadG (P := Try.prog) (rn_sl (S1_.rd (k := 0) rfl) hrn_y1_5) sz_3 ag_3 g51 0
              replace q53 : aLoad Try.prog G1_ 3 (elP (rnV c10_C0 y1_5) 1) = some (Value.int .i64 (gat 0 (rnL r1 y1_5) 1)) := q53
              obtain ⟨g54, hL25⟩ := gd_some hL25
              have q55 := idxG (P := Try.prog) (kk := .i64) (rn_sl (S1_.rd (k := 0) rfl) hrn_y1_5) el_22 sz_3 g54
              replace q55 : aIndexAddr Try.prog G1_ 22 (rnV c10_C0 y1_5) (Value.int .i64 0) = some (elP (rnV c10_C0 y1_5) 0) := q55
              have q56 := loadG (P := Try.prog) (rn_sl (S1_.rd (k := 0) rfl) hrn_y1_5) sz_3 ag_3 g54 0
              replace q56 : aLoad Try.prog G1_ 3 (elP (rnV c10_C0 y1_5) 0) = some (Value.int .i64 (gat 0 (rnL r1 y1_5) 0)) := q56
              refine DWp.drawn (B := [0, 1, 3, 7, 15, 31, 63, 15, 143, 399, 1023, 15, 2063, 6159, 15, 16399, 49167, 129039, 262143, 524287, 1048575, 2097151, 4194303, 8388607, 16777215, 33554431, 8388607, 75497471, 209715199, 536870911, 8388607, 1082130431, 3229614079, 8388607, 8598323199, 25778192383, 67654123519, 137438953471, 274877906943, 549755813887]) 40 mixed (by kernel_rfl) (by decide) fun K hK => ?_
              simp [-aBin', -aBin, -aBinI, -aUn, -aNil, -flatV, n_fn, b_add, b_sub, b_mul, b_lt, b_le, b_gt, b_ge, b_eq, b_ne, u_not, e1_1, e1_5, e1_9, e1_10, e1_11, hb28, hb42, hb44, q27, q31, q32, q34, q35, q37, q38, q40, q41, q46, q47, q49, q50, q52, q53, q55, q56]
              apply hK
              clear hK K
              simp only [andThen, leaves]
              have S57 := S1_.pick [0] (by decide) rfl
              obtain rfl := Option.some.inj hL25
              exact ⟨S57, A1_, by simp [e1_1, e1_5, e1_9, e1_10, e1_11], by simp [e1_1, e1_5, e1_9, e1_10, e1_11], by simp [e1_1, e1_5, e1_9, e1_10, e1_11], by simp [e1_1, e1_5, e1_9, e1_10, e1_11], by simp [e1_1, e1_5, e1_9, e1_10, e1_11], by simp [e1_1, e1_5, e1_9, e1_10, e1_11], by simp [e1_1, e1_5, e1_9, e1_10, e1_11]⟩
            · replace hL25 := cd_f hb44 hL25
              refine DWp.drawn (B := [0, 1, 3, 7, 15, 31, 63, 15, 143, 399, 1023, 15, 2063, 6159, 15, 16399, 49167, 129039, 262143, 524287, 1048575, 2097151, 4194303, 8388607, 16777215, 33554431, 8388607, 75497471, 209715199, 536870911, 8388607, 1082130431, 3229614079, 8388607, 8598323199, 25778192383, 67654123519, 137438953471, 274877906943, 549755813887]) 40 mixed (by kernel_rfl) (by decide) fun K hK => ?_
              simp [-aBin', -aBin, -aBinI, -aUn, -aNil, -flatV, n_fn, b_add, b_sub, b_mul, b_lt, b_le, b_gt, b_ge, b_eq, b_ne, u_not, e1_1, e1_5, e1_9, e1_10, e1_11, hb28, hb42, hb44, q27, q31, q32, q34, q35, q37, q38, q40, q41]
              apply hK
              clear hK K
              simp only [andThen, leaves]
              have S58 := S1_.pick [0] (by decide) rfl
              obtain rfl := Option.some.inj hL25
              exact ⟨S58, A1_, by simp [e1_1, e1_5, e1_9, e1_10, e1_11], by simp [e1_1, e1_5, e1_9, e1_10, e1_11], by simp [e1_1, e1_5, e1_9, e1_10, e1_11], by simp [e1_1, e1_5, e1_9, e1_10, e1_11], by simp [e1_1, e1_5, e1_9, e1_10, e1_11], by simp [e1_1, e1_5, e1_9, e1_10, e1_11], by simp [e1_1, e1_5, e1_9, e1_10, e1_11]⟩
      · rintro env Gj59 ⟨Sj59, Aj59, ej59_1, ej59_5, ej59_7, ej59_9, ej59_10, ej59_11, ej59_54⟩
        refine DWp.cond' (t := s24) (by simp [ej59_1, ej59_5, ej59_7, ej59_9, ej59_10, ej59_11, ej59_54]) (fun hb60 => ?_) (fun hb60 => ?_)
        · replace hL18 := cd_t hb60 hL18
          refine DWp.region fun K hK => ?_
          simp [-aBin', -aBin, -aBinI, -aUn, -aNil, -flatV, n_fn, b_add, b_sub, b_mul, b_lt, b_le, b_gt, b_ge, b_eq, b_ne, u_not, ej59_1, ej59_5, ej59_7, ej59_9, ej59_10, ej59_11, ej59_54]
          apply hK
          clear hK K
          simp only [andThen, leaves]
          refine DWp.region fun K hK => ?_
          simp [-aBin', -aBin, -aBinI, -aUn, -aNil, -flatV, n_fn, b_add, b_sub, b_mul, b_lt, b_le, b_gt, b_ge, b_eq, b_ne, u_not, ej59_1, ej59_5, ej59_7, ej59_9, ej59_10, ej59_11, ej59_54]
          apply hK
          clear hK K
          simp only [andThen, leaves]
          have S61 := Sj59.pick [0] (by decide) rfl
          have q62 := rnV_in (C := c10_C0) g21
          exact ⟨n1, Nat.lt_succ_self _, y1_11, (iadd .i64 y1_11 1), hL18, S61, Aj59, by simp [ej59_1, ej59_5, ej59_7, ej59_9, ej59_10, ej59_11, ej59_54, q62], by simp [ej59_1, ej59_5, ej59_7, ej59_9, ej59_10, ej59_11, ej59_54, q62], by simp [ej59_1, ej59_5, ej59_7, ej59_9, ej59_10, ej59_11, ej59_54, q62], by simp [ej59_1, ej59_5, ej59_7, ej59_9, ej59_10, ej59_11, ej59_54, q62], by simp [ej59_1, ej59_5, ej59_7, ej59_9, ej59_10, ej59_11, ej59_54, q62], .inr g21⟩
        · replace hL18 := cd_f hb60 hL18
          refine DWp.skip ?_
          simp only [andThen, leaves]
          refine DWp.region fun K hK => ?_
          simp [-aBin', -aBin, -aBinI, -aUn, -aNil, -flatV, n_fn, b_add, b_sub, b_mul, b_lt, b_le, b_gt, b_ge, b_eq, b_ne, u_not, ej59_1, ej59_5, ej59_7, ej59_9, ej59_10, ej59_11, ej59_54]
          apply hK
          clear hK K
          simp only [andThen, leaves]
          have S63 := Sj59.pick [0] (by decide) rfl
          exact ⟨n1, Nat.lt_succ_self _, y1_5, (iadd .i64 y1_11 1), hL18, S63, Aj59, by simp [ej59_1, ej59_5, ej59_7, ej59_9, ej59_10, ej59_11, ej59_54], by simp [ej59_1, ej59_5, ej59_7, ej59_9, ej59_10, ej59_11, ej59_54], by simp [ej59_1, ej59_5, ej59_7, ej59_9, ej59_10, ej59_11, ej59_54], by simp [ej59_1, ej59_5, ej59_7, ej59_9, ej59_10, ej59_11, ej59_54], by simp [ej59_1, ej59_5, ej59_7, ej59_9, ej59_10, ej59_11, ej59_54], hrn_y1_5⟩
    · replace hL18 := cd_f hb20 hL18
      refine DWp.exit ?_
      simp only [andThen, leaves, if_true, if_false, reduceIte, Nat.reduceEqDiff]
      obtain rfl := Option.some.inj hL18
      try dsimp only at hF
      refine DWp.seq ?_
      refine DWp.region fun K hK => ?_
      simp [-aBin', -aBin, -aBinI, -aUn, -aNil, -flatV, n_fn, b_add, b_sub, b_mul, b_lt, b_le, b_gt, b_ge, b_eq, b_ne, u_not, e1_1, e1_5, e1_9, e1_10, e1_11]
      apply hK
      clear hK K
      simp only [andThen, leaves]
      refine DWp.ret ?_
      rcases Bool.eq_false_or_eq_true (ilt y1_5 0) with hb64 | hb64
      · replace hF := cd_t hb64 hF
        have q65 : rnV c10_C0 y1_5 = .slice none 0 0 := rnV_t hb64
        have S66 := S1_.nilItem (hB.le A1_.1) 3
        obtain rfl := Option.some.inj hF
        exact ⟨by simp, [(Value.slice none 0 0)], by simp [e1_1, e1_5, e1_9, e1_10, e1_11, q65], A1_, (Value.slice none 0 0), rfl, S66.pick [1] (by decide) rfl⟩
      · replace hF := cd_f hb64 hF
        have g68 := hrn_y1_5.resolve_left (by rw [hb64]; decide)
        have q67 : rnV c10_C0 y1_5 = gat nilV c10_C0 y1_5 := rnV_f hb64
        obtain ⟨g69, hF⟩ := gd_some hF
        have S70 : Sep G1_ (Fr H) [rowsX c10_u0 22 3 c10_C0 (List.map ints r1) (y1_5).toNat, flat (gat nilV c10_C0 y1_5) 3 (ints (gat [] r1 y1_5))] := S1_.rowOut (fr := ints) (k := 0) rfl [] g68
        obtain rfl := Option.some.inj hF
        exact ⟨by simp, [(gat nilV c10_C0 y1_5)], by simp [e1_1, e1_5, e1_9, e1_10, e1_11, q67, (((S1_.rd (k := 0) rfl).rowAt [] g68).tup)], A1_, (gat nilV c10_C0 y1_5), rfl, S70.pick [1] (by decide) rfl⟩
def F_spec_siInner_L1 (fu : Nat) (k1_0 : Int) (k1_1 : List Int) (k1_2 : List Int) (k1_3 : Int) : Nat → List Int → Int → Option (List Int × Int)
  | 0, _, _ => none
  | n + 1, l1_0, y1_16 =>
    bif (ilt y1_16 k1_3) then
      gd (inL k1_1 y1_16) (
      gd (l1_0.length + [(isub .i64 (gat 0 k1_1 y1_16) k1_0)].length ≤ 4294967296) (
      F_spec_siInner_L1 fu k1_0 k1_1 k1_2 k1_3 n (lapp l1_0 [(isub .i64 (gat 0 k1_1 y1_16) k1_0)]) (iadd .i64 y1_16 1)))
    else
      some (l1_0, y1_16)
def F_spec_siInner (fu : Nat) (x0 : List Int) (x1 : Int) (x2 : Int) : Option (List Int) :=
  gd (subL x0 x1 (iadd .i64 x2 1)) (
  bd (F_spec_siInner_L1 fu x1 (lsub x0 x1 (iadd .i64 x2 1)) x0 (llen (lsub x0 x1 (iadd .i64 x2 1))) fu (@List.nil Int) 0) fun s1 =>
  some s1.1)
theorem F_spec_siInner_w {fu : Nat} {H : AH} {v0 : Value} {x0 : List Int} {x1 : Int} {x2 : Int} {r : (List Int)} (hx0 : Sl H v0 (ints x0)) (hF : F_spec_siInner fu x0 x1 x2 = some r) :
    ACallT Try.prog 135 [v0, (Value.int .i64 x1), (Value.int .i64 x2)] H (fun u G => AgB (Fr H) H G ∧ ∃ u0 : Value, u = u0 ∧ Sep G (Fr H) [flat u0 3 (ints r)]) := by
  refine ACallT.of_body (nt := 28) (rs := [.tmp 6]) Try.func135 rfl rfl rfl rfl ?_
  have A0 : AgB (Fr H) H H := .refl _ _
  have S0 : Sep H (Fr H) [] := .nil
  have hB := Fr.up H
  unfold F_spec_siInner at hF
  refine DWp.seq ?_
  refine DWp.region fun K hK => ?_
  simp [-aBin', -aBin, -aBinI, -aUn, -aNil, -flatV, n_fn, b_add, b_sub, b_mul, b_lt, b_le, b_gt, b_ge, b_eq, b_ne, u_not]
  apply hK
  clear hK K
  simp only [andThen, leaves]
  refine DWp.seq ?_
  refine DWp.region fun K hK => ?_
  simp [-aBin', -aBin, -aBinI, -aUn, -aNil, -flatV, n_fn, b_add, b_sub, b_mul, b_lt, b_le, b_gt, b_ge, b_eq, b_ne, u_not]
  apply hK
  clear hK K
  simp only [andThen, leaves]
  refine DWp.seq ?_
  refine DWp.seq ?_
  obtain ⟨g1, hF⟩ := gd_some hF
  have q2 := aSub11 (P := Try.prog) (t := 22) (hx0.agree A0.agree) el_22 sz_3 g1
  have q3 := lenG (P := Try.prog) (subSl (hx0.agree A0.agree) g1) el_22
  refine DWp.region fun K hK => ?_
  simp [-aBin', -aBin, -aBinI, -aUn, -aNil, -flatV, n_fn, b_add, b_sub, b_mul, b_lt, b_le, b_gt, b_ge, b_eq, b_ne, u_not, q2, ((subSl (hx0.agree A0.agree) g1).tup), q3]
  apply hK
  clear hK K
  simp only [andThen, leaves]
  refine DWp.block ?_
  have S4 := S0.nilItem (hB.le A0.1) 3
  obtain ⟨s5, hL6, hF⟩ := bd_some hF
  have S7 := S4.pick [0] (by decide) rfl
  refine DWp.loop (fun n env G => ∃ l1_0 : List Int, ∃ y1_16 : Int, ∃ w1_0 : Value, F_spec_siInner_L1 fu x1 (lsub x0 x1 (iadd .i64 x2 1)) x0 (llen (lsub x0 x1 (iadd .i64 x2 1))) n l1_0 y1_16 = some s5 ∧ Sep G (Fr H) [flat w1_0 3 (ints l1_0)] ∧ AgB (Fr H) H G ∧ env 1 = some (Value.int .i64 x1) ∧ env 7 = some w1_0 ∧ env 14 = some (subV v0 x1 (iadd .i64 x2 1)) ∧ env 15 = some (Value.int .i64 (llen (lsub x0 x1 (iadd .i64 x2 1)))) ∧ env 16 = some (Value.int .i64 y1_16)) fu ⟨(@List.nil Int), 0, (Value.slice none 0 0), hL6, S7, A0, by simp [], by simp [], by simp [], by simp [], by simp []⟩ ?_
  rintro n1 env1 G1_ ⟨l1_0, y1_16, w1_0, hL6, S1_, A1_, e1_1, e1_7, e1_14, e1_15, e1_16⟩
  cases n1 with
  | zero => cases hL6
  | succ n1 =>
    simp only [F_spec_siInner_L1] at hL6
    refine DWp.seq ?_
    refine DWp.region fun K hK => ?_
    simp [-aBin', -aBin, -aBinI, -aUn, -aNil, -flatV, n_fn, b_add, b_sub, b_mul, b_lt, b_le, b_gt, b_ge, b_eq, b_ne, u_not, e1_1, e1_7, e1_14, e1_15, e1_16]
    apply hK
    clear hK K
    simp only [andThen, leaves]
    refine DWp.seq ?_
    refine DWp.cond' (t := (ilt y1_16 (llen (lsub x0 x1 (iadd .i64 x2 1))))) (by simp [e1_1, e1_7, e1_14, e1_15, e1_16]) (fun hb8 => ?_) (fun hb8 => ?_)
    · replace hL6 := cd_t hb8 hL6
      refine DWp.skip ?_
      simp only [andThen, leaves]
      refine DWp.seq ?_
      refine DWp.block ?_
      refine DWp.seq ?_
      obtain ⟨g9, hL6⟩ := gd_some hL6
      have q10 := idxG (P := Try.prog) (kk := .i64) (subSl (hx0.agree A1_.agree) g1) el_22 sz_3 g9
      have q11 := loadG (P := Try.prog) (subSl (hx0.agree A1_.agree) g1) sz_3 ag_3 g9 0
      refine DWp.region fun K hK => ?_
      simp [-aBin', -aBin, -aBinI, -aUn, -aNil, -flatV, n_fn, b_add, b_sub, b_mul, b_lt, b_le, b_gt, b_ge, b_eq, b_ne, u_not, e1_1, e1_7, e1_14, e1_15, e1_16, q10, q11]
      apply hK
      clear hK K
      simp only [andThen, leaves]
      obtain ⟨v12, G13, q14, S15, a17, _, _⟩ := S1_.lit1 (P := Try.prog) (t := 22) (hB.le A1_.1) el_22 ei_3 rfl (Value.int .i64 (isub .i64 (gat 0 (lsub x0 x1 (iadd .i64 x2 1)) y1_16) x1)) rfl rfl
      have A16 := A1_.ext (hB.le A1_.1) a17
      replace S15 : Sep G13 (Fr H) [flat w1_0 3 (ints l1_0), flat1 v12 3 (ints [(isub .i64 (gat 0 (lsub x0 x1 (iadd .i64 x2 1)) y1_16) x1)])] := S15
      obtain ⟨g19, hL6⟩ := gd_some hL6
      obtain ⟨v25, G20, q21, S22, a24, _, _⟩ := S15.appendG (f := (Value.int .i64)) (xs := l1_0) (ys := [(isub .i64 (gat 0 (lsub x0 x1 (iadd .i64 x2 1)) y1_16) x1)]) (P := Try.prog) (t := 22) (t2 := 22) (k := 0) rfl (hB.le A16.1) el_22 el_22 ei_3 rfl (S15.sl1 (k := 1) rfl) g19
      have A23 := A16.trans a24
      replace S22 : Sep G20 (Fr H) [flat v25 3 (ints (lapp l1_0 [(isub .i64 (gat 0 (lsub x0 x1 (iadd .i64 x2 1)) y1_16) x1)])), flat1 v12 3 (ints [(isub .i64 (gat 0 (lsub x0 x1 (iadd .i64 x2 1)) y1_16) x1)])] := S22
      refine DWp.region fun K hK => ?_
      simp [-aBin', -aBin, -aBinI, -aUn, -aNil, -flatV, n_fn, b_add, b_sub, b_mul, b_lt, b_le, b_gt, b_ge, b_eq, b_ne, u_not, e1_1, e1_7, e1_14, e1_15, e1_16, q14, a17.to_pre, q21]
      apply hK
      clear hK K
      simp only [andThen, leaves]
      refine DWp.region fun K hK => ?_
      simp [-aBin', -aBin, -aBinI, -aUn, -aNil, -flatV, n_fn, b_add, b_sub, b_mul, b_lt, b_le, b_gt, b_ge, b_eq, b_ne, u_not, e1_1, e1_7, e1_14, e1_15, e1_16]
      apply hK
      clear hK K
      simp only [andThen, leaves]
      have S26 := S22.pick [0] (by decide) rfl
      exact ⟨n1, Nat.lt_succ_self _, (lapp l1_0 [(isub .i64 (gat 0 (lsub x0 x1 (iadd .i64 x2 1)) y1_16) x1)]), (iadd .i64 y1_16 1), v25, hL6, S26, A23, by simp [e1_1, e1_7, e1_14, e1_15, e1_16], by simp [e1_1, e1_7, e1_14, e1_15, e1_16], by simp [e1_1, e1_7, e1_14, e1_15, e1_16], by simp [e1_1, e1_7, e1_14, e1_15, e1_16], by simp [e1_1, e1_7, e1_14, e1_15, e1_16]⟩
    · replace hL6 := cd_f hb8 hL6
      refine DWp.exit ?_
      simp only [andThen, leaves, if_true, if_false, reduceIte, Nat.reduceEqDiff]
      obtain rfl := Option.some.inj hL6
      try dsimp only at hF
      refine DWp.seq ?_
      refine DWp.region fun K hK => ?_
      simp [-aBin', -aBin, -aBinI, -aUn, -aNil, -flatV, n_fn, b_add, b_sub, b_mul, b_lt, b_le, b_gt, b_ge, b_eq, b_ne, u_not, e1_1, e1_7, e1_14, e1_15, e1_16]
      apply hK
      clear hK K
      simp only [andThen, leaves]
      refine DWp.ret ?_
      obtain rfl := Option.some.inj hF
      exact ⟨by simp, [w1_0], by simp [e1_1, e1_7, e1_14, e1_15, e1_16, ((S1_.sl (k := 0) rfl).tup)], A1_, w1_0, rfl, S1_.pick [0] (by decide) rfl⟩
def F_spec_siInside (fu : Nat) (x0_0 : List Int) (x0_1 : List Int) (x1 : Int) (x2 : Int) : Option ((List Int × List Int)) :=
  bd (F_spec_siInner fu x0_0 x1 x2) fun r1 =>
  bd (F_spec_siInner fu x0_1 x1 x2) fun r2 =>
  some (r1, r2)
theorem F_spec_siInside_w {fu : Nat} {H : AH} {v0_0 : Value} {v0_1 : Value} {x0_0 : List Int} {x0_1 : List Int} {x1 : Int} {x2 : Int} {r : ((List Int × List Int))} (hx0_0 : Sl H v0_0 (ints x0_0)) (hx0_1 : Sl H v0_1 (ints x0_1)) (hF : F_spec_siInside fu x0_0 x0_1 x1 x2 = some r) :
    ACallT Try.prog 102 [(Value.agg #[v0_0, v0_1]), (Value.int .i64 x1), (Value.int .i64 x2)] H (fun u G => AgB (Fr H) H G ∧ ∃ u0 : Value, ∃ u1 : Value, u = (Value.agg #[u0, u1]) ∧ Sep G (Fr H) [flat u0 3 (ints r.1), flat u1 3 (ints r.2)]) := by
  refine ACallT.of_body (nt := 18) (rs := [.cell 6 28]) Try.func102 rfl rfl rfl rfl ?_
  have A0 : AgB (Fr H) H H := .refl _ _
  have S0 : Sep H (Fr H) [] := .nil
  have hB := Fr.up H
  unfold F_spec_siInside at hF
  refine DWp.seq ?_
  obtain ⟨G2, p4, q5, q6, a7, S1⟩ := S0.boxT (hB.le A0.1) 28 [v0_0, v0_1]
  have A3 := A0.ext (hB.le A0.1) a7
  replace S1 : Sep G2 (Fr H) [AL.box p4 [v0_0, v0_1]] := S1
  obtain ⟨G9, p11, q12, q14, a13, S8⟩ := S1.allocT (P := Try.prog) (hB.le A3.1) ze_28 rfl
  have A10 := A3.ext (hB.le A3.1) a13
  replace S8 : Sep G9 (Fr H) [AL.box p4 [v0_0, v0_1], AL.box p11 [(Value.slice none 0 0), (Value.slice none 0 0)]] := S8
  refine DWp.region fun K hK => ?_
  simp [-aBin', -aBin, -aBinI, -aUn, -aNil, -flatV, n_fn, b_add, b_sub, b_mul, b_lt, b_le, b_gt, b_ge, b_eq, b_ne, u_not, q5, q6, a7.to_pre, cells_agg, q12, q14, a13.to_pre]
  apply hK
  clear hK K
  simp only [andThen, leaves]
  refine DWp.seq ?_
  have q15 := S8.fieldT (P := Try.prog) (k := 0) rfl fa_28_0
  have q16 := S8.loadF (P := Try.prog) (k := 0) rfl sz_22 ag_22 (off := 0) rfl
  obtain ⟨r1, hc17, hF⟩ := bd_some hF
  refine DWp.drawn (B := [0, 1, 0, 0, 15, 0, 32, 0, 0, 511, 1023, 2047]) 11 mixed (by kernel_rfl) (by decide) fun K hK => ?_
  simp [-aBin', -aBin, -aBinI, -aUn, -aNil, -flatV, n_fn, b_add, b_sub, b_mul, b_lt, b_le, b_gt, b_ge, b_eq, b_ne, u_not, q15, q16, ((hx0_0.agree A10.agree).tup)]
  refine CallD.t (F_spec_siInner_w (fu := fu) (hx0_0.agree A10.agree) hc17) ?_
  rintro c18_u0 G19 ⟨a22, _, rfl, S23⟩
  have A21 := A10.ext (hB.le A10.1) a22.agree
  have S20 : Sep G19 (Fr H) [AL.box p4 [v0_0, v0_1], AL.box p11 [(Value.slice none 0 0), (Value.slice none 0 0)], flat c18_u0 3 (ints r1)] := S8.app a22.agree S23 (fun _ h => h) (hB.le A10.1)
  have q24 := S20.fieldT (P := Try.prog) (k := 0) rfl fa_28_1
  have q25 := S20.loadF (P := Try.prog) (k := 0) rfl sz_22 ag_22 (off := 1) rfl
  obtain ⟨r2, hc26, hF⟩ := bd_some hF
  simp [-aBin', -aBin, -aBinI, -aUn, -aNil, -flatV, n_fn, b_add, b_sub, b_mul, b_lt, b_le, b_gt, b_ge, b_eq, b_ne, u_not, q15, q16, a22.pre, q24, q25, ((hx0_1.agree A21.agree).tup)]
  refine CallD.t (F_spec_siInner_w (fu := fu) (hx0_1.agree A21.agree) hc26) ?_
  rintro c27_u0 G28 ⟨a31, _, rfl, S32⟩
  have A30 := A21.ext (hB.le A21.1) a31.agree
  have S29 : Sep G28 (Fr H) [AL.box p4 [v0_0, v0_1], AL.box p11 [(Value.slice none 0 0), (Value.slice none 0 0)], flat c18_u0 3 (ints r1), flat c27_u0 3 (ints r2)] := S20.app a31.agree S32 (fun _ h => h) (hB.le A21.1)
  obtain ⟨G33, q34, S35, a37⟩ := S29.putAgg (P := Try.prog) (k := 1) (xs := [c18_u0, c27_u0]) rfl (hB.le A30.1) sz_28 rfl rfl
  have A36 := A30.trans a37
  replace S35 : Sep G33 (Fr H) [AL.box p4 [v0_0, v0_1], AL.box p11 [c18_u0, c27_u0], flat c18_u0 3 (ints r1), flat c27_u0 3 (ints r2)] := S35
  simp [-aBin', -aBin, -aBinI, -aUn, -aNil, -flatV, n_fn, b_add, b_sub, b_mul, b_lt, b_le, b_gt, b_ge, b_eq, b_ne, u_not, q15, q16, a22.pre, q24, q25, a31.pre, bu_28 ((S29.sl (k := 2) rfl).tup) ((S29.sl (k := 2) rfl).one) ((S29.sl (k := 3) rfl).tup) ((S29.sl (k := 3) rfl).one), q34]
  apply hK
  clear hK K
  simp only [andThen, leaves]
  refine DWp.ret ?_
  have q38 := S35.loadAgg (P := Try.prog) (k := 1) rfl sz_28 ag_28 rfl
  obtain rfl := Option.some.inj hF
  exact ⟨by simp, [(Value.agg #[c18_u0, c27_u0])], by simp [q38, ((S35.sl (k := 2) rfl).tup), ((S35.sl (k := 3) rfl).tup)], A36, c18_u0, c27_u0, rfl, S35.pick [2, 3] (by decide) rfl⟩
def F_spec_siOuter_L1 (fu : Nat) (k1_0 : Int) (k1_1 : Int) (k1_2 : List Int) (k1_3 : Int) : Nat → List Int → Int → Option (List Int × Int)
  | 0, _, _ => none
  | n + 1, l1_0, y1_12 =>
    bif (ilt y1_12 k1_3) then
      gd (inL k1_2 y1_12) (
      bd (F_spec_l1In fu y1_12 k1_0 k1_1) fun r1 =>
      bif r1 then
        F_spec_siOuter_L1 fu k1_0 k1_1 k1_2 k1_3 n l1_0 (iadd .i64 y1_12 1)
      else
        bd (
          bif (ilt k1_1 (gat 0 k1_2 y1_12)) then
            some (isub .i64 (gat 0 k1_2 y1_12) (iadd .i64 (isub .i64 k1_1 k1_0) 1))
          else
            some (gat 0 k1_2 y1_12)) fun s19 =>
        gd (l1_0.length + [s19].length ≤ 4294967296) (
        F_spec_siOuter_L1 fu k1_0 k1_1 k1_2 k1_3 n (lapp l1_0 [s19]) (iadd .i64 y1_12 1)))
    else
      some (l1_0, y1_12)
def F_spec_siOuter (fu : Nat) (x0 : List Int) (x1 : Int) (x2 : Int) : Option (List Int) :=
  bd (F_spec_siOuter_L1 fu x1 x2 x0 (llen x0) fu (@List.nil Int) 0) fun s1 =>
  some s1.1
theorem F_spec_siOuter_w {fu : Nat} {H : AH} {v0 : Value} {x0 : List Int} {x1 : Int} {x2 : Int} {r : (List Int)} (hx0 : Sl H v0 (ints x0)) (hF : F_spec_siOuter fu x0 x1 x2 = some r) :
    ACallT Try.prog 138 [v0, (Value.int .i64 x1), (Value.int .i64 x2)] H (fun u G => AgB (Fr H) H G ∧ ∃ u0 : Value, u = u0 ∧ Sep G (Fr H) [flat u0 3 (ints r)]) := by
  refine ACallT.of_body (nt := 36) (rs := [.tmp 6]) Try.func138 rfl rfl rfl rfl ?_
  have A0 : AgB (Fr H) H H := .refl _ _
  have S0 : Sep H (Fr H) [] := .nil
  have hB := Fr.up H
  unfold F_spec_siOuter at hF
  refine DWp.seq ?_
  refine DWp.region fun K hK => ?_
  simp [-aBin', -aBin, -aBinI, -aUn, -aNil, -flatV, n_fn, b_add, b_sub, b_mul, b_lt, b_le, b_gt, b_ge, b_eq, b_ne, u_not]
  apply hK
  clear hK K
  simp only [andThen, leaves]
  refine DWp.seq ?_
  refine DWp.region fun K hK => ?_
  simp [-aBin', -aBin, -aBinI, -aUn, -aNil, -flatV, n_fn, b_add, b_sub, b_mul, b_lt, b_le, b_gt, b_ge, b_eq, b_ne, u_not]
  apply hK
  clear hK K
  simp only [andThen, leaves]
  refine DWp.seq ?_
  refine DWp.seq ?_
  have q1 := lenG (P := Try.prog) (hx0.agree A0.agree) el_22
  refine DWp.region fun K hK => ?_
  simp [-aBin', -aBin, -aBinI, -aUn, -aNil, -flatV, n_fn, b_add, b_sub, b_mul, b_lt, b_le, b_gt, b_ge, b_eq, b_ne, u_not, q1]
  apply hK
  clear hK K
  simp only [andThen, leaves]
  refine DWp.block ?_
  have S2 := S0.nilItem (hB.le A0.1) 3
  obtain ⟨s3, hL4, hF⟩ := bd_some hF
  have S5 := S2.pick [0] (by decide) rfl
  refine DWp.loop (fun n env G => ∃ l1_0 : List Int, ∃ y1_12 : Int, ∃ w1_0 : Value, F_spec_siOuter_L1 fu x1 x2 x0 (llen x0) n l1_0 y1_12 = some s3 ∧ Sep G (Fr H) [flat w1_0 3 (ints l1_0)] ∧ AgB (Fr H) H G ∧ env 1 = some (Value.int .i64 x1) ∧ env 2 = some (Value.int .i64 x2) ∧ env 7 = some w1_0 ∧ env 10 = some v0 ∧ env 11 = some (Value.int .i64 (llen x0)) ∧ env 12 = some (Value.int .i64 y1_12)) fu ⟨(@List.nil Int), 0, (Value.slice none 0 0), hL4, S5, A0, by simp [], by simp [], by simp [], by simp [], by simp [], by simp []⟩ ?_
  rintro n1 env1 G1_ ⟨l1_0, y1_12, w1_0, hL4, S1_, A1_, e1_1, e1_2, e1_7, e1_10, e1_11, e1_12⟩
  cases n1 with
  | zero => cases hL4
  | succ n1 =>
    simp only [F_spec_siOuter_L1] at hL4
    refine DWp.seq ?_
    refine DWp.region fun K hK => ?_
    simp [-aBin', -aBin, -aBinI, -aUn, -aNil, -flatV, n_fn, b_add, b_sub, b_mul, b_lt, b_le, b_gt, b_ge, b_eq, b_ne, u_not, e1_1, e1_2, e1_7, e1_10, e1_11, e1_12]
    apply hK
    clear hK K
    simp only [andThen, leaves]
    refine DWp.seq ?_
    refine DWp.cond' (t := (ilt y1_12 (llen x0))) (by simp [e1_1, e1_2, e1_7, e1_10, e1_11, e1_12]) (fun hb6 => ?_) (fun hb6 => ?_)
    · replace hL4 := cd_t hb6 hL4
      refine DWp.skip ?_
      simp only [andThen, leaves]
      refine DWp.seq ?_
      refine DWp.block ?_
      refine DWp.seq ?_
      obtain ⟨g7, hL4⟩ := gd_some hL4
      have q8 := idxG (P := Try.prog) (kk := .i64) (hx0.agree A1_.agree) el_22 sz_3 g7
      have q9 := loadG (P := Try.prog) (hx0.agree A1_.agree) sz_3 ag_3 g7 0
      refine DWp.region fun K hK => ?_
      simp [-aBin', -aBin, -aBinI, -aUn, -aNil, -flatV, n_fn, b_add, b_sub, b_mul, b_lt, b_le, b_gt, b_ge, b_eq, b_ne, u_not, e1_1, e1_2, e1_7, e1_10, e1_11, e1_12, q8, q9]
      apply hK
      clear hK K
      simp only [andThen, leaves]
      refine DWp.seq ?_
      refine DWp.seq ?_
      obtain ⟨r1, hc10, hL4⟩ := bd_some hL4
      refine DWp.region fun K hK => ?_
      simp [-aBin', -aBin, -aBinI, -aUn, -aNil, -flatV, n_fn, b_add, b_sub, b_mul, b_lt, b_le, b_gt, b_ge, b_eq, b_ne, u_not, e1_1, e1_2, e1_7, e1_10, e1_11, e1_12]
      refine CallD.t (F_spec_l1In_w (fu := fu)  hc10) ?_
      rintro _ G12 ⟨a15, rfl, S16⟩
      have A14 := A1_.ext (hB.le A1_.1) a15.agree
      have S13 : Sep G12 (Fr H) [flat w1_0 3 (ints l1_0)] := S1_.app a15.agree S16 (fun _ h => h) (hB.le A1_.1)
      simp [-aBin', -aBin, -aBinI, -aUn, -aNil, -flatV, n_fn, b_add, b_sub, b_mul, b_lt, b_le, b_gt, b_ge, b_eq, b_ne, u_not, e1_1, e1_2, e1_7, e1_10, e1_11, e1_12, a15.pre]
      apply hK
      clear hK K
      simp only [andThen, leaves]
      refine DWp.cond' (t := r1) (by simp [e1_1, e1_2, e1_7, e1_10, e1_11, e1_12]) (fun hb17 => ?_) (fun hb17 => ?_)
      · replace hL4 := cd_t hb17 hL4
        refine DWp.exit ?_
        simp only [andThen, leaves, if_true, if_false, reduceIte, Nat.reduceEqDiff]
        refine DWp.region fun K hK => ?_
        simp [-aBin', -aBin, -aBinI, -aUn, -aNil, -flatV, n_fn, b_add, b_sub, b_mul, b_lt, b_le, b_gt, b_ge, b_eq, b_ne, u_not, e1_1, e1_2, e1_7, e1_10, e1_11, e1_12]
        apply hK
        clear hK K
        simp only [andThen, leaves]
        have S18 := S13.pick [0] (by decide) rfl
        exact ⟨n1, Nat.lt_succ_self _, l1_0, (iadd .i64 y1_12 1), w1_0, hL4, S18, A14, by simp [e1_1, e1_2, e1_7, e1_10, e1_11, e1_12], by simp [e1_1, e1_2, e1_7, e1_10, e1_11, e1_12], by simp [e1_1, e1_2, e1_7, e1_10, e1_11, e1_12], by simp [e1_1, e1_2, e1_7, e1_10, e1_11, e1_12], by simp [e1_1, e1_2, e1_7, e1_10, e1_11, e1_12], by simp [e1_1, e1_2, e1_7, e1_10, e1_11, e1_12]⟩
      · replace hL4 := cd_f hb17 hL4
        refine DWp.skip ?_
        simp only [andThen, leaves]
        obtain ⟨s19, hL20, hL4⟩ := bd_some hL4
        refine DWp.seq (DWp.join (fun env G => Sep G (Fr H) [flat w1_0 3 (ints l1_0)] ∧ AgB (Fr H) H G ∧ env 1 = some (Value.int .i64 x1) ∧ env 2 = some (Value.int .i64 x2) ∧ env 7 = some w1_0 ∧ env 9 = some (Value.int .i64 s19) ∧ env 10 = some v0 ∧ env 11 = some (Value.int .i64 (llen x0)) ∧ env 12 = some (Value.int .i64 y1_12)) ?_ ?_)
        ·
          refine DWp.seq ?_
          refine DWp.region fun K hK => ?_
          simp [-aBin', -aBin, -aBinI, -aUn, -aNil, -flatV, n_fn, b_add, b_sub, b_mul, b_lt, b_le, b_gt, b_ge, b_eq, b_ne, u_not, e1_1, e1_2, e1_7, e1_10, e1_11, e1_12]
          apply hK
          clear hK K
          simp only [andThen, leaves]
          refine DWp.cond' (t := (ilt x2 (gat 0 x0 y1_12))) (by simp [e1_1, e1_2, e1_7, e1_10, e1_11, e1_12]) (fun hb22 => ?_) (fun hb22 => ?_)
          · replace hL20 := cd_t hb22 hL20
            refine DWp.region fun K hK => ?_
            simp [-aBin', -aBin, -aBinI, -aUn, -aNil, -flatV, n_fn, b_add, b_sub, b_mul, b_lt, b_le, b_gt, b_ge, b_eq, b_ne, u_not, e1_1, e1_2, e1_7, e1_10, e1_11, e1_12]
            apply hK
            clear hK K
            simp only [andThen, leaves]
            have S23 := S13.pick [0] (by decide) rfl
            obtain rfl := Option.some.inj hL20
            exact ⟨S23, A14, by simp [e1_1, e1_2, e1_7, e1_10, e1_11, e1_12], by simp [e1_1, e1_2, e1_7, e1_10, e1_11, e1_12], by simp [e1_1, e1_2, e1_7, e1_10, e1_11, e1_12], by simp [e1_1, e1_2, e1_7, e1_10, e1_11, e1_12], by simp [e1_1, e1_2, e1_7, e1_10, e1_11, e1_12], by simp [e1_1, e1_2, e1_7, e1_10, e1_11, e1_12], by simp [e1_1, e1_2, e1_7, e1_10, e1_11, e1_12]⟩
          · replace hL20 := cd_f hb22 hL20
            refine DWp.skip ?_
            simp only [andThen, leaves]
            have S24 := S13.pick [0] (by decide) rfl
            obtain rfl := Option.some.inj hL20
            exact ⟨S24, A14, by simp [e1_1, e1_2, e1_7, e1_10, e1_11, e1_12], by simp [e1_1, e1_2, e1_7, e1_10, e1_11, e1_12], by simp [e1_1, e1_2, e1_7, e1_10, e1_11, e1_12], by simp [e1_1, e1_2, e1_7, e1_10, e1_11, e1_12], by simp [e1_1, e1_2, e1_7, e1_10, e1_11, e1_12], by simp [e1_1, e1_2, e1_7, e1_10, e1_11, e1_12], by simp [e1_1, e1_2, e1_7, e1_10, e1_11, e1_12]⟩
        · rintro env Gj25 ⟨Sj25, Aj25, ej25_1, ej25_2, ej25_7, ej25_9, ej25_10, ej25_11, ej25_12⟩
          obtain ⟨v26, G27, q28, S29, a31, _, _⟩ := Sj25.lit1 (P := Try.prog) (t := 22) (hB.le Aj25.1) el_22 ei_3 rfl (Value.int .i64 s19) rfl rfl
          have A30 := Aj25.ext (hB.le Aj25.1) a31
          replace S29 : Sep G27 (Fr H) [flat w1_0 3 (ints l1_0), flat1 v26 3 (ints [s19])] := S29
          obtain ⟨g33, hL4⟩ := gd_some hL4
          obtain ⟨v39, G34, q35, S36, a38, _, _⟩ := S29.appendG (f := (Value.int .i64)) (xs := l1_0) (ys := [s19]) (P := Try.prog) (t := 22) (t2 := 22) (k := 0) rfl (hB.le A30.1) el_22 el_22 ei_3 rfl (S29.sl1 (k := 1) rfl) g33
          have A37 := A30.trans a38
          replace S36 : Sep G34 (Fr H) [flat v39 3 (ints (lapp l1_0 [s19])), flat1 v26 3 (ints [s19])] := S36
          refine DWp.region fun K hK => ?_
          simp [-aBin', -aBin, -aBinI, -aUn, -aNil, -flatV, n_fn, b_add, b_sub, b_mul, b_lt, b_le, b_gt, b_ge, b_eq, b_ne, u_not, ej25_1, ej25_2, ej25_7, ej25_9, ej25_10, ej25_11, ej25_12, q28, a31.to_pre, q35]
          apply hK
          clear hK K
          simp only [andThen, leaves]
          refine DWp.region fun K hK => ?_
          simp [-aBin', -aBin, -aBinI, -aUn, -aNil, -flatV, n_fn, b_add, b_sub, b_mul, b_lt, b_le, b_gt, b_ge, b_eq, b_ne, u_not, ej25_1, ej25_2, ej25_7, ej25_9, ej25_10, ej25_11, ej25_12]
          apply hK
          clear hK K
          simp only [andThen, leaves]
          have S40 := S36.pick [0] (by decide) rfl
          exact ⟨n1, Nat.lt_succ_self _, (lapp l1_0 [s19]), (iadd .i64 y1_12 1), v39, hL4, S40, A37, by simp [ej25_1, ej25_2, ej25_7, ej25_9, ej25_10, ej25_11, ej25_12], by simp [ej25_1, ej25_2, ej25_7, ej25_9, ej25_10, ej25_11, ej25_12], by simp [ej25_1, ej25_2, ej25_7, ej25_9, ej25_10, ej25_11, ej25_12], by simp [ej25_1, ej25_2, ej25_7, ej25_9, ej25_10, ej25_11, ej25_12], by simp [ej25_1, ej25_2, ej25_7, ej25_9, ej25_10, ej25_11, ej25_12], by simp [ej25_1, ej25_2, ej25_7, ej25_9, ej25_10, ej25_11, ej25_12]⟩
    · replace hL4 := cd_f hb6 hL4
      refine DWp.exit ?_
      simp only [andThen, leaves, if_true, if_false, reduceIte, Nat.reduceEqDiff]
      obtain rfl := Option.some.inj hL4
      try dsimp only at hF
      refine DWp.seq ?_
      refine DWp.region fun K hK => ?_
      simp [-aBin', -aBin, -aBinI, -aUn, -aNil, -flatV, n_fn, b_add, b_sub, b_mul, b_lt, b_le, b_gt, b_ge, b_eq, b_ne, u_not, e1_1, e1_2, e1_7, e1_10, e1_11, e1_12]
      apply hK
      clear hK K
      simp only [andThen, leaves]
      refine DWp.ret ?_
      obtain rfl := Option.some.inj hF
      exact ⟨by simp, [w1_0], by simp [e1_1, e1_2, e1_7, e1_10, e1_11, e1_12, ((S1_.sl (k := 0) rfl).tup)], A1_, w1_0, rfl, S1_.pick [0] (by decide) rfl⟩
def F_spec_siOutside (fu : Nat) (x0_0 : List Int) (x0_1 : List Int) (x1 : Int) (x2 : Int) : Option ((List Int × List Int)) :=
  bd (F_spec_siOuter fu x0_0 x1 x2) fun r1 =>
  bd (F_spec_siOuter fu x0_1 x1 x2) fun r2 =>
  some (r1, r2)
theorem F_spec_siOutside_w {fu : Nat} {H : AH} {v0_0 : Value} {v0_1 : Value} {x0_0 : List Int} {x0_1 : List Int} {x1 : Int} {x2 : Int} {r : ((List Int × List Int))} (hx0_0 : Sl H v0_0 (ints x0_0)) (hx0_1 : Sl H v0_1 (ints x0_1)) (hF : F_spec_siOutside fu x0_0 x0_1 x1 x2 = some r) :
    ACallT Try.prog 104 [(Value.agg #[v0_0, v0_1]), (Value.int .i64 x1), (Value.int .i64 x2)] H (fun u G => AgB (Fr H) H G ∧ ∃ u0 : Value, ∃ u1 : Value, u = (Value.agg #[u0, u1]) ∧ Sep G (Fr H) [flat u0 3 (ints r.1), flat u1 3 (ints r.2)]) := by
  refine ACallT.of_body (nt := 18) (rs := [.cell 6 28]) Try.func104 rfl rfl rfl rfl ?_
  have A0 : AgB (Fr H) H H := .refl _ _
  have S0 : Sep H (Fr H) [] := .nil
  have hB := Fr.up H
  unfold F_spec_siOutside at hF
  refine DWp.seq ?_
  obtain ⟨G2, p4, q5, q6, a7, S1⟩ := S0.boxT (hB.le A0.1) 28 [v0_0, v0_1]
  have A3 := A0.ext (hB.le A0.1) a7
  replace S1 : Sep G2 (Fr H) [AL.box p4 [v0_0, v0_1]] := S1
  obtain ⟨G9, p11, q12, q14, a13, S8⟩ := S1.allocT (P := Try.prog) (hB.le A3.1) ze_28 rfl
  have A10 := A3.ext (hB.le A3.1) a13
  replace S8 : Sep G9 (Fr H) [AL.box p4 [v0_0, v0_1], AL.box p11 [(Value.slice none 0 0), (Value.slice none 0 0)]] := S8
  refine DWp.region fun K hK => ?_
  simp [-aBin', -aBin, -aBinI, -aUn, -aNil, -flatV, n_fn, b_add, b_sub, b_mul, b_lt, b_le, b_gt, b_ge, b_eq, b_ne, u_not, q5, q6, a7.to_pre, cells_agg, q12, q14, a13.to_pre]
  apply hK
  clear hK K
  simp only [andThen, leaves]
  refine DWp.seq ?_
  have q15 := S8.fieldT (P := Try.prog) (k := 0) rfl fa_28_0
  have q16 := S8.loadF (P := Try.prog) (k := 0) rfl sz_22 ag_22 (off := 0) rfl
  obtain ⟨r1, hc17, hF⟩ := bd_some hF
  refine DWp.drawn (B := [0, 1, 0, 0, 15, 0, 32, 0, 0, 511, 1023, 2047]) 11 mixed (by kernel_rfl) (by decide) fun K hK => ?_
  simp [-aBin', -aBin, -aBinI, -aUn, -aNil, -flatV, n_fn, b_add, b_sub, b_mul, b_lt, b_le, b_gt, b_ge, b_eq, b_ne, u_not, q15, q16, ((hx0_0.agree A10.agree).tup)]
  refine CallD.t (F_spec_siOuter_w (fu := fu) (hx0_0.agree A10.agree) hc17) ?_
  rintro c18_u0 G19 ⟨a22, _, rfl, S23⟩
  have A21 := A10.ext (hB.le A10.1) a22.agree
  have S20 : Sep G19 (Fr H) [AL.box p4 [v0_0, v0_1], AL.box p11 [(Value.slice none 0 0), (Value.slice none 0 0)], flat c18_u0 3 (ints r1)] := S8.app a22.agree S23 (fun _ h => h) (hB.le A10.1)
  have q24 := S20.fieldT (P := Try.prog) (k := 0) rfl fa_28_1
  have q25 := S20.loadF (P := Try.prog) (k := 0) rfl sz_22 ag_22 (off := 1) rfl
  obtain ⟨r2, hc26, hF⟩ := bd_some hF
  simp [-aBin', -aBin, -aBinI, -aUn, -aNil, -flatV, n_fn, b_add, b_sub, b_mul, b_lt, b_le, b_gt, b_ge, b_eq, b_ne, u_not, q15, q16, a22.pre, q24, q25, ((hx0_1.agree A21.agree).tup)]
  refine CallD.t (F_spec_siOuter_w (fu := fu) (hx0_1.agree A21.agree) hc26) ?_
  rintro c27_u0 G28 ⟨a31, _, rfl, S32⟩
  have A30 := A21.ext (hB.le A21.1) a31.agree
  have S29 : Sep G28 (Fr H) [AL.box p4 [v0_0, v0_1], AL.box p11 [(Value.slice none 0 0), (Value.slice none 0 0)], flat c18_u0 3 (ints r1), flat c27_u0 3 (ints r2)] := S20.app a31.agree S32 (fun _ h => h) (hB.le A21.1)
  obtain ⟨G33, q34, S35, a37⟩ := S29.putAgg (P := Try.prog) (k := 1) (xs := [c18_u0, c27_u0]) rfl (hB.le A30.1) sz_28 rfl rfl
  have A36 := A30.trans a37
  replace S35 : Sep G33 (Fr H) [AL.box p4 [v0_0, v0_1], AL.box p11 [c18_u0, c27_u0], flat c18_u0 3 (ints r1), flat c27_u0 3 (ints r2)] := S35
  simp [-aBin', -aBin, -aBinI, -aUn, -aNil, -flatV, n_fn, b_add, b_sub, b_mul, b_lt, b_le, b_gt, b_ge, b_eq, b_ne, u_not, q15, q16, a22.pre, q24, q25, a31.pre, bu_28 ((S29.sl (k := 2) rfl).tup) ((S29.sl (k := 2) rfl).one) ((S29.sl (k := 3) rfl).tup) ((S29.sl (k := 3) rfl).one), q34]
  apply hK
  clear hK K
  simp only [andThen, leaves]
  refine DWp.ret ?_
  have q38 := S35.loadAgg (P := Try.prog) (k := 1) rfl sz_28 ag_28 rfl
  obtain rfl := Option.some.inj hF
  exact ⟨by simp, [(Value.agg #[c18_u0, c27_u0])], by simp [q38, ((S35.sl (k := 2) rfl).tup), ((S35.sl (k := 3) rfl).tup)], A36, c18_u0, c27_u0, rfl, S35.pick [2, 3] (by decide) rfl⟩
def F_spec_l1Own (fu : Nat) (x0 : List Int) : Option (List Int) :=
  gd ((@List.nil Int).length + x0.length ≤ 4294967296) (
  some (lapp (@List.nil Int) x0))
theorem F_spec_l1Own_w {fu : Nat} {H : AH} {v0 : Value} {x0 : List Int} {r : (List Int)} (hx0 : Sl H v0 (ints x0)) (hF : F_spec_l1Own fu x0 = some r) :
    ACallT Try.prog 141 [v0] H (fun u G => AgB (Fr H) H G ∧ ∃ u0 : Value, u = u0 ∧ Sep G (Fr H) [flat u0 3 (ints r)]) := by
  refine ACallT.of_body (nt := 6) (rs := [.tmp 2]) Try.func141 rfl rfl rfl rfl ?_
  have A0 : AgB (Fr H) H H := .refl _ _
  have S0 : Sep H (Fr H) [] := .nil
  have hB := Fr.up H
  unfold F_spec_l1Own at hF
  refine DWp.seq ?_
  refine DWp.region fun K hK => ?_
  simp [-aBin', -aBin, -aBinI, -aUn, -aNil, -flatV, n_fn, b_add, b_sub, b_mul, b_lt, b_le, b_gt, b_ge, b_eq, b_ne, u_not]
  apply hK
  clear hK K
  simp only [andThen, leaves]
  refine DWp.seq ?_
  obtain ⟨v1, G2, q3, S4, a6, _, _⟩ := S0.lit0 (P := Try.prog) (t := 22) (hB.le A0.1) el_22 ei_3 rfl
  have A5 := A0.ext (hB.le A0.1) a6
  replace S4 : Sep G2 (Fr H) [flat1 v1 3 (ints (@List.nil Int))] := S4
  obtain ⟨g8, hF⟩ := gd_some hF
  obtain ⟨v14, G9, q10, S11, a13, _, _⟩ := S4.append1 (f := (Value.int .i64)) (xs := (@List.nil Int)) (ys := x0) (P := Try.prog) (t := 22) (t2 := 22) (k := 0) rfl (hB.le A5.1) el_22 el_22 ei_3 rfl (hx0.agree A5.agree) g8
  have A12 := A5.trans a13
  replace S11 : Sep G9 (Fr H) [flat v14 3 (ints (lapp (@List.nil Int) x0))] := S11
  refine DWp.region fun K hK => ?_
  simp [-aBin', -aBin, -aBinI, -aUn, -aNil, -flatV, n_fn, b_add, b_sub, b_mul, b_lt, b_le, b_gt, b_ge, b_eq, b_ne, u_not, q3, a6.to_pre, q10]
  apply hK
  clear hK K
  simp only [andThen, leaves]
  refine DWp.ret ?_
  obtain rfl := Option.some.inj hF
  exact ⟨by simp, [v14], by simp [((S11.sl (k := 0) rfl).tup)], A12, v14, rfl, S11.pick [0] (by decide) rfl⟩
def F_spec_siPieces_L1 (fu : Nat) (k1_0 : Bool) : Nat → List Int → List Int → List (List Int × List Int) → List Int → Option (List Int × List Int × List (List Int × List Int) × List Int)
  | 0, _, _, _, _ => none
  | n + 1, l1_1, l1_2, l1_3, l1_4 =>
    bif (ilt 0 (llen l1_4)) then
      gd (inL l1_4 0) (
      gd (inL l1_4 1) (
      bd (F_spec_siInside fu l1_1 l1_2 (gat 0 l1_4 0) (gat 0 l1_4 1)) fun r5 =>
      gd (l1_3.length + 1 ≤ 4294967296) (
      gd (inL l1_4 0) (
      gd (inL l1_4 1) (
      bd (F_spec_siOutside fu l1_1 l1_2 (gat 0 l1_4 0) (gat 0 l1_4 1)) fun r6 =>
      bd (F_spec_siShortest fu r6.1 r6.2 k1_0) fun r7 =>
      F_spec_siPieces_L1 fu k1_0 n r6.1 r6.2 (lapp l1_3 [(r5.1, r5.2)]) r7)))))
    else
      some (l1_1, l1_2, l1_3, l1_4)
def F_spec_siPieces (fu : Nat) (x0_0 : List Int) (x0_1 : List Int) (x1 : Bool) : Option (List (List Int × List Int)) :=
  bd (F_spec_siShortest fu x0_0 x0_1 x1) fun r1 =>
  bif (ilt 0 (llen r1)) then
    gd (inL r1 0) (
    gd (inL r1 1) (
    bd (F_spec_siInside fu x0_0 x0_1 (gat 0 r1 0) (gat 0 r1 1)) fun r2 =>
    gd ((@List.nil (List Int × List Int)).length + 1 ≤ 4294967296) (
    gd (inL r1 0) (
    gd (inL r1 1) (
    bd (F_spec_siOutside fu x0_0 x0_1 (gat 0 r1 0) (gat 0 r1 1)) fun r3 =>
    bd (F_spec_siShortest fu r3.1 r3.2 x1) fun r4 =>
    bd (F_spec_siPieces_L1 fu x1 fu r3.1 r3.2 (lapp (@List.nil (List Int × List Int)) [(r2.1, r2.2)]) r4) fun s1 =>
    bd (F_spec_l1Own fu s1.1) fun r8 =>
    bd (F_spec_l1Own fu s1.2.1) fun r9 =>
    gd (s1.2.2.1.length + 1 ≤ 4294967296) (
    some (lapp s1.2.2.1 [(r8, r9)])))))))
  else
    bd (F_spec_l1Own fu x0_0) fun r10 =>
    bd (F_spec_l1Own fu x0_1) fun r11 =>
    gd ((@List.nil (List Int × List Int)).length + 1 ≤ 4294967296) (
    some (lapp (@List.nil (List Int × List Int)) [(r10, r11)]))
theorem F_spec_siPieces_w {fu : Nat} {H : AH} {v0_0 : Value} {v0_1 : Value} {x0_0 : List Int} {x0_1 : List Int} {x1 : Bool} {r : (List (List Int × List Int))} (hx0_0 : Sl H v0_0 (ints x0_0)) (hx0_1 : Sl H v0_1 (ints x0_1)) (hF : F_spec_siPieces fu x0_0 x0_1 x1 = some r) :
    ACallT Try.prog 113 [(Value.agg #[v0_0, v0_1]), (Value.bool x1)] H (fun u G => AgB (Fr H) H G ∧ ∃ u0 : Value, ∃ C0 : List Value, u = u0 ∧ Sep G (Fr H) [rowsP u0 28 3 C0 r]) := by
  refine ACallT.of_body (nt := 45) (rs := [.tmp 4]) Try.func113 rfl rfl rfl rfl ?_
  have A0 : AgB (Fr H) H H := .refl _ _
  have S0 : Sep H (Fr H) [] := .nil
  have hB := Fr.up H
  unfold F_spec_siPieces at hF
  refine DWp.seq ?_
  obtain ⟨G2, p4, q5, q6, a7, S1⟩ := S0.boxT (hB.le A0.1) 28 [v0_0, v0_1]
  have A3 := A0.ext (hB.le A0.1) a7
  replace S1 : Sep G2 (Fr H) [AL.box p4 [v0_0, v0_1]] := S1
  refine DWp.region fun K hK => ?_
  simp [-aBin', -aBin, -aBinI, -aUn, -aNil, -flatV, n_fn, b_add, b_sub, b_mul, b_lt, b_le, b_gt, b_ge, b_eq, b_ne, u_not, q5, q6, a7.to_pre, cells_agg]
  apply hK
  clear hK K
  simp only [andThen, leaves]
  refine DWp.seq ?_
  refine DWp.region fun K hK => ?_
  simp [-aBin', -aBin, -aBinI, -aUn, -aNil, -flatV, n_fn, b_add, b_sub, b_mul, b_lt, b_le, b_gt, b_ge, b_eq, b_ne, u_not]
  apply hK
  clear hK K
  simp only [andThen, leaves]
  refine DWp.seq ?_
  refine DWp.seq ?_
  have q8 := S1.loadAgg (P := Try.prog) (k := 0) rfl sz_28 ag_28 rfl
  obtain ⟨r1, hc9, hF⟩ := bd_some hF
  refine DWp.region fun K hK => ?_
  simp [-aBin', -aBin, -aBinI, -aUn, -aNil, -flatV, n_fn, b_add, b_sub, b_mul, b_lt, b_le, b_gt, b_ge, b_eq, b_ne, u_not, q8, ((hx0_0.agree A3.agree).tup), ((hx0_1.agree A3.agree).tup)]
  refine CallD.t (F_spec_siShortest_w (fu := fu) (hx0_0.agree A3.agree) (hx0_1.agree A3.agree) hc9) ?_
  rintro c10_u0 G11 ⟨a14, _, rfl, S15⟩
  have A13 := A3.ext (hB.le A3.1) a14.agree
  have S12 : Sep G11 (Fr H) [AL.box p4 [v0_0, v0_1], flat c10_u0 3 (ints r1)] := S1.app a14.agree S15 (fun _ h => h) (hB.le A3.1)
  simp [-aBin', -aBin, -aBinI, -aUn, -aNil, -flatV, n_fn, b_add, b_sub, b_mul, b_lt, b_le, b_gt, b_ge, b_eq, b_ne, u_not, q8, a14.pre]
  apply hK
  clear hK K
  simp only [andThen, leaves]
  refine DWp.block ?_
  refine DLoop.wp (DLoop.step ?_)
  refine DWp.seq ?_
  refine DWp.seq ?_
  have q16 := lenG (P := Try.prog) (S12.sl (k := 1) rfl) el_22
  refine DWp.region fun K hK => ?_
  simp [-aBin', -aBin, -aBinI, -aUn, -aNil, -flatV, n_fn, b_add, b_sub, b_mul, b_lt, b_le, b_gt, b_ge, b_eq, b_ne, u_not, q16]
  apply hK
  clear hK K
  simp only [andThen, leaves]
  refine DWp.cond' (t := (ilt 0 (llen r1))) (by simp []) (fun hb17 => ?_) (fun hb17 => ?_)
  · replace hF := cd_t hb17 hF
    refine DWp.skip ?_
    simp only [andThen, leaves]
    refine DWp.seq ?_
    refine DWp.block ?_
    refine DWp.seq ?_
    have q18 := S12.loadAgg (P := Try.prog) (k := 0) rfl sz_28 ag_28 rfl
    obtain ⟨g19, hF⟩ := gd_some hF
    have q20 := idxG (P := Try.prog) (kk := .i64) (S12.sl (k := 1) rfl) el_22 sz_3 g19
    replace q20 : aIndexAddr Try.prog G11 22 c10_u0 (Value.int .i64 0) = some (elP c10_u0 0) := q20
    have q21 := loadG (P := Try.prog) (S12.sl (k := 1) rfl) sz_3 ag_3 g19 0
    replace q21 : aLoad Try.prog G11 3 (elP c10_u0 0) = some (Value.int .i64 (gat 0 r1 0)) := q21
    obtain ⟨g22, hF⟩ := gd_some hF
    have q23 := idxG (P := Try.prog) (kk := .i64) (S12.sl (k := 1) rfl) el_22 sz_3 g22
    replace q23 : aIndexAddr Try.prog G11 22 c10_u0 (Value.int .i64 1) = some (elP c10_u0 1) := q23
    have q24 := loadG (P := Try.prog) (S12.sl (k := 1) rfl) sz_3 ag_3 g22 0
    replace q24 : aLoad Try.prog G11 3 (elP c10_u0 1) = some (Value.int .i64 (gat 0 r1 1)) := q24
    obtain ⟨r2, hc25, hF⟩ := bd_some hF
    refine DWp.drawn (B := [0, 0, 0, 4, 12, 0, 32, 96, 254, 510, 1023, 2047]) 10 mixed (by kernel_rfl) (by decide) fun K hK => ?_
    simp [-aBin', -aBin, -aBinI, -aUn, -aNil, -flatV, n_fn, b_add, b_sub, b_mul, b_lt, b_le, b_gt, b_ge, b_eq, b_ne, u_not, q18, q20, q21, q23, q24, ((hx0_0.agree A13.agree).tup), ((hx0_1.agree A13.agree).tup)]
    refine CallD.t (F_spec_siInside_w (fu := fu) (hx0_0.agree A13.agree) (hx0_1.agree A13.agree) hc25) ?_
    rintro _ G27 ⟨a30, c26_u0, c26_u1, rfl, S31⟩
    have A29 := A13.ext (hB.le A13.1) a30.agree
    have S28 : Sep G27 (Fr H) [AL.box p4 [v0_0, v0_1], flat c10_u0 3 (ints r1), flat c26_u0 3 (ints r2.1), flat c26_u1 3 (ints r2.2)] := S12.app a30.agree S31 (fun _ h => h) (hB.le A13.1)
    obtain ⟨v32, G33, q34, S35, a37, _, _⟩ := S28.litP1 (P := Try.prog) (t := 46) (hB.le A29.1) el_46 ei_28 rfl c26_u0 c26_u1
    have A36 := A29.ext (hB.le A29.1) a37
    replace S35 : Sep G33 (Fr H) [AL.box p4 [v0_0, v0_1], flat c10_u0 3 (ints r1), flat c26_u0 3 (ints r2.1), flat c26_u1 3 (ints r2.2), flatK 2 v32 28 1 [c26_u0, c26_u1]] := S35
    have S38 := S35.rpNil (hB.le A36.1) 28 3
    obtain ⟨g39, hF⟩ := gd_some hF
    obtain ⟨v45, G40, q41, S42, a44, q41t, _⟩ := S38.pushP (u := (Value.slice none 0 0)) (X := (@List.nil (List Int × List Int))) (a := r2.1) (b := r2.2) (P := Try.prog) (t := 46) (t2 := 46) (j := 5) (k1 := 2) (k2 := 3) (by decide) (by decide) (by decide) rfl rfl rfl (hB.le A36.1) el_46 el_46 ei_28 rfl (S38.flatKSl (k := 4) rfl) g39
    have A43 := A36.trans a44
    replace S42 : Sep G40 (Fr H) [AL.box p4 [v0_0, v0_1], flat c10_u0 3 (ints r1), emp, emp, flatK 2 v32 28 1 [c26_u0, c26_u1], rowsP v45 28 3 ([] ++ [c26_u0, c26_u1]) (lapp (@List.nil (List Int × List Int)) [(r2.1, r2.2)])] := S42
    simp [-aBin', -aBin, -aBinI, -aUn, -aNil, -flatV, n_fn, b_add, b_sub, b_mul, b_lt, b_le, b_gt, b_ge, b_eq, b_ne, u_not, q18, q20, q21, q23, q24, a30.pre, q34, a37.to_pre, ((S28.sl (k := 2) rfl).tup), ((S28.sl (k := 3) rfl).tup), q41, q41t]
    apply hK
    clear hK K
    simp only [andThen, leaves]
    have q46 := S42.loadAgg (P := Try.prog) (k := 0) rfl sz_28 ag_28 rfl
    obtain ⟨g47, hF⟩ := gd_some hF
    have q48 := idxG (P := Try.prog) (kk := .i64) (S42.sl (k := 1) rfl) el_22 sz_3 g47
    replace q48 : aIndexAddr Try.prog G40 22 c10_u0 (Value.int .i64 0) = some (elP c10_u0 0) := q48
    have q49 := loadG (P := Try.prog) (S42.sl (k := 1) rfl) sz_3 ag_3 g47 0
    replace q49 : aLoad Try.prog G40 3 (elP c10_u0 0) = some (Value.int .i64 (gat 0 r1 0)) := q49
    obtain ⟨g50, hF⟩ := gd_some hF
    have q51 := idxG (P := Try.prog) (kk := .i64) (S42.sl (k := 1) rfl) el_22 sz_3 g50
    replace q51 : aIndexAddr Try.prog G40 22 c10_u0 (Value.int .i64 1) = some (elP c10_u0 1) := q51
    have q52 := loadG (P := Try.prog) (S42.sl (k := 1) rfl) sz_3 ag_3 g50 0
    replace q52 : aLoad Try.prog G40 3 (elP c10_u0 1) = some (Value.int .i64 (gat 0 r1 1)) := q52
    obtain ⟨r3, hc53, hF⟩ := bd_some hF
    refine DWp.drawn (B := [0, 0, 2, 6, 0, 16, 48, 127, 255]) 8 mixed (by kernel_rfl) (by decide) fun K hK => ?_
    simp [-aBin', -aBin, -aBinI, -aUn, -aNil, -flatV, n_fn, b_add, b_sub, b_mul, b_lt, b_le, b_gt, b_ge, b_eq, b_ne, u_not, q46, q48, q49, q51, q52, ((hx0_0.agree A43.agree).tup), ((hx0_1.agree A43.agree).tup)]
    refine CallD.t (F_spec_siOutside_w (fu := fu) (hx0_0.agree A43.agree) (hx0_1.agree A43.agree) hc53) ?_
    rintro _ G55 ⟨a58, c54_u0, c54_u1, rfl, S59⟩
    have A57 := A43.ext (hB.le A43.1) a58.agree
    have S56 : Sep G55 (Fr H) [AL.box p4 [v0_0, v0_1], flat c10_u0 3 (ints r1), emp, emp, flatK 2 v32 28 1 [c26_u0, c26_u1], rowsP v45 28 3 ([] ++ [c26_u0, c26_u1]) (lapp (@List.nil (List Int × List Int)) [(r2.1, r2.2)]), flat c54_u0 3 (ints r3.1), flat c54_u1 3 (ints r3.2)] := S42.app a58.agree S59 (fun _ h => h) (hB.le A43.1)
    obtain ⟨G60, q61, S62, a64⟩ := S56.putAgg (P := Try.prog) (k := 0) (xs := [c54_u0, c54_u1]) rfl (hB.le A57.1) sz_28 rfl rfl
    have A63 := A57.trans a64
    replace S62 : Sep G60 (Fr H) [AL.box p4 [c54_u0, c54_u1], flat c10_u0 3 (ints r1), emp, emp, flatK 2 v32 28 1 [c26_u0, c26_u1], rowsP v45 28 3 ([] ++ [c26_u0, c26_u1]) (lapp (@List.nil (List Int × List Int)) [(r2.1, r2.2)]), flat c54_u0 3 (ints r3.1), flat c54_u1 3 (ints r3.2)] := S62
    simp [-aBin', -aBin, -aBinI, -aUn, -aNil, -flatV, n_fn, b_add, b_sub, b_mul, b_lt, b_le, b_gt, b_ge, b_eq, b_ne, u_not, q46, q48, q49, q51, q52, a58.pre, q61]
    apply hK
    clear hK K
    simp only [andThen, leaves]
    have q65 := S62.loadAgg (P := Try.prog) (k := 0) rfl sz_28 ag_28 rfl
    obtain ⟨r4, hc66, hF⟩ := bd_some hF
    refine DWp.region fun K hK => ?_
    simp [-aBin', -aBin, -aBinI, -aUn, -aNil, -flatV, n_fn, b_add, b_sub, b_mul, b_lt, b_le, b_gt, b_ge, b_eq, b_ne, u_not, q65, ((S62.sl (k := 6) rfl).tup), ((S62.sl (k := 7) rfl).tup)]
    refine CallD.t (F_spec_siShortest_w (fu := fu) (S62.sl (k := 6) rfl) (S62.sl (k := 7) rfl) hc66) ?_
    rintro c67_u0 G68 ⟨a71, _, rfl, S72⟩
    have A70 := A63.ext (hB.le A63.1) a71.agree
    have S69 : Sep G68 (Fr H) [AL.box p4 [c54_u0, c54_u1], flat c10_u0 3 (ints r1), emp, emp, flatK 2 v32 28 1 [c26_u0, c26_u1], rowsP v45 28 3 ([] ++ [c26_u0, c26_u1]) (lapp (@List.nil (List Int × List Int)) [(r2.1, r2.2)]), flat c54_u0 3 (ints r3.1), flat c54_u1 3 (ints r3.2), flat c67_u0 3 (ints r4)] := S62.app a71.agree S72 (fun _ h => h) (hB.le A63.1)
    simp [-aBin', -aBin, -aBinI, -aUn, -aNil, -flatV, n_fn, b_add, b_sub, b_mul, b_lt, b_le, b_gt, b_ge, b_eq, b_ne, u_not, q65, a71.pre]
    apply hK
    clear hK K
    simp only [andThen, leaves]
    obtain ⟨s73, hL74, hF⟩ := bd_some hF
    have S75 := S69.pick [0, 6, 7, 5, 8] (by decide) rfl
    refine DLoop.of (fun n env G => ∃ l1_1 : List Int, ∃ l1_2 : List Int, ∃ l1_3 : List (List Int × List Int), ∃ l1_4 : List Int, ∃ w1_1 : Value, ∃ w1_2 : Value, ∃ w1_3 : Value, ∃ D1_3 : List Value, ∃ w1_4 : Value, F_spec_siPieces_L1 fu x1 n l1_1 l1_2 l1_3 l1_4 = some s73 ∧ Sep G (Fr H) [AL.box p4 [w1_1, w1_2], flat w1_1 3 (ints l1_1), flat w1_2 3 (ints l1_2), rowsP w1_3 28 3 D1_3 l1_3, flat w1_4 3 (ints l1_4)] ∧ AgB (Fr H) H G ∧ env 1 = some (Value.bool x1) ∧ env 2 = some p4 ∧ env 5 = some w1_3 ∧ env 6 = some w1_4) fu ⟨r3.1, r3.2, (lapp (@List.nil (List Int × List Int)) [(r2.1, r2.2)]), r4, c54_u0, c54_u1, v45, ([] ++ [c26_u0, c26_u1]), c67_u0, hL74, S75, A70, by simp [], by simp [], by simp [], by simp []⟩ ?_
    rintro n1 env1 G1_ ⟨l1_1, l1_2, l1_3, l1_4, w1_1, w1_2, w1_3, D1_3, w1_4, hL74, S1_, A1_, e1_1, e1_2, e1_5, e1_6⟩
    cases n1 with
    | zero => cases hL74
    | succ n1 =>
      simp only [F_spec_siPieces_L1] at hL74
      refine DWp.seq ?_
      refine DWp.seq ?_
      have q76 := lenG (P := Try.prog) (S1_.sl (k := 4) rfl) el_22
      refine DWp.region fun K hK => ?_
      simp [-aBin', -aBin, -aBinI, -aUn, -aNil, -flatV, n_fn, b_add, b_sub, b_mul, b_lt, b_le, b_gt, b_ge, b_eq, b_ne, u_not, e1_1, e1_2, e1_5, e1_6, q76]
      apply hK
      clear hK K
      simp only [andThen, leaves]
      refine DWp.cond' (t := (ilt 0 (llen l1_4))) (by simp [e1_1, e1_2, e1_5, e1_6]) (fun hb77 => ?_) (fun hb77 => ?_)
      · replace hL74 := cd_t hb77 hL74
        refine DWp.skip ?_
        simp only [andThen, leaves]
        refine DWp.seq ?_
        refine DWp.block ?_
        refine DWp.seq ?_
        have q78 := S1_.loadAgg (P := Try.prog) (k := 0) rfl sz_28 ag_28 rfl
        obtain ⟨g79, hL74⟩ := gd_some hL74
        have q80 := idxG (P := Try.prog) (kk := .i64) (S1_.sl (k := 4) rfl) el_22 sz_3 g79
        replace q80 : aIndexAddr Try.prog G1_ 22 w1_4 (Value.int .i64 0) = some (elP w1_4 0) := q80
        have q81 := loadG (P := Try.prog) (S1_.sl (k := 4) rfl) sz_3 ag_3 g79 0
        replace q81 : aLoad Try.prog G1_ 3 (elP w1_4 0) = some (Value.int .i64 (gat 0 l1_4 0)) := q81
        obtain ⟨g82, hL74⟩ := gd_some hL74
        have q83 := idxG (P := Try.prog) (kk := .i64) (S1_.sl (k := 4) rfl) el_22 sz_3 g82
        replace q83 : aIndexAddr Try.prog G1_ 22 w1_4 (Value.int .i64 1) = some (elP w1_4 1) := q83
        have q84 := loadG (P := Try.prog) (S1_.sl (k := 4) rfl) sz_3 ag_3 g82 0
        replace q84 : aLoad Try.prog G1_ 3 (elP w1_4 1) = some (Value.int .i64 (gat 0 l1_4 1)) := q84
        obtain ⟨r5, hc85, hL74⟩ := bd_some hL74
        refine DWp.drawn (B := [0, 0, 0, 4, 12, 0, 32, 96, 254, 510, 1023, 2047]) 10 mixed (by kernel_rfl) (by decide) fun K hK => ?_
        simp [-aBin', -aBin, -aBinI, -aUn, -aNil, -flatV, n_fn, b_add, b_sub, b_mul, b_lt, b_le, b_gt, b_ge, b_eq, b_ne, u_not, e1_1, e1_2, e1_5, e1_6, q78, q80, q81, q83, q84, ((S1_.sl (k := 1) rfl).tup), ((S1_.sl (k := 2) rfl).tup)]
        refine CallD.t (F_spec_siInside_w (fu := fu) (S1_.sl (k := 1) rfl) (S1_.sl (k := 2) rfl) hc85) ?_
        rintro _ G87 ⟨a90, c86_u0, c86_u1, rfl, S91⟩
        have A89 := A1_.ext (hB.le A1_.1) a90.agree
        have S88 : Sep G87 (Fr H) [AL.box p4 [w1_1, w1_2], flat w1_1 3 (ints l1_1), flat w1_2 3 (ints l1_2), rowsP w1_3 28 3 D1_3 l1_3, flat w1_4 3 (ints l1_4), flat c86_u0 3 (ints r5.1), flat c86_u1 3 (ints r5.2)] := S1_.app a90.agree S91 (fun _ h => h) (hB.le A1_.1)
        obtain ⟨v92, G93, q94, S95, a97, _, _⟩ := S88.litP1 (P := Try.prog) (t := 46) (hB.le A89.1) el_46 ei_28 rfl c86_u0 c86_u1
        have A96 := A89.ext (hB.le A89.1) a97
        replace S95 : Sep G93 (Fr H) [AL.box p4 [w1_1, w1_2], flat w1_1 3 (ints l1_1), flat w1_2 3 (ints l1_2), rowsP w1_3 28 3 D1_3 l1_3, flat w1_4 3 (ints l1_4), flat c86_u0 3 (ints r5.1), flat c86_u1 3 (ints r5.2), flatK 2 v92 28 1 [c86_u0, c86_u1]] := S95
        obtain ⟨g98, hL74⟩ := gd_some hL74
        obtain ⟨v104, G99, q100, S101, a103, q100t, _⟩ := S95.pushP (u := w1_3) (X := l1_3) (a := r5.1) (b := r5.2) (P := Try.prog) (t := 46) (t2 := 46) (j := 3) (k1 := 5) (k2 := 6) (by decide) (by decide) (by decide) rfl rfl rfl (hB.le A96.1) el_46 el_46 ei_28 rfl (S95.flatKSl (k := 7) rfl) g98
        have A102 := A96.trans a103
        replace S101 : Sep G99 (Fr H) [AL.box p4 [w1_1, w1_2], flat w1_1 3 (ints l1_1), flat w1_2 3 (ints l1_2), rowsP v104 28 3 (D1_3 ++ [c86_u0, c86_u1]) (lapp l1_3 [(r5.1, r5.2)]), flat w1_4 3 (ints l1_4), emp, emp, flatK 2 v92 28 1 [c86_u0, c86_u1]] := S101
        simp [-aBin', -aBin, -aBinI, -aUn, -aNil, -flatV, n_fn, b_add, b_sub, b_mul, b_lt, b_le, b_gt, b_ge, b_eq, b_ne, u_not, e1_1, e1_2, e1_5, e1_6, q78, q80, q81, q83, q84, a90.pre, q94, a97.to_pre, ((S88.sl (k := 5) rfl).tup), ((S88.sl (k := 6) rfl).tup), q100, q100t]
        apply hK
        clear hK K
        simp only [andThen, leaves]
        have q105 := S101.loadAgg (P := Try.prog) (k := 0) rfl sz_28 ag_28 rfl
        obtain ⟨g106, hL74⟩ := gd_some hL74
        have q107 := idxG (P := Try.prog) (kk := .i64) (S101.sl (k := 4) rfl) el_22 sz_3 g106
        replace q107 : aIndexAddr Try.prog G99 22 w1_4 (Value.int .i64 0) = some (elP w1_4 0) := q107
        have q108 := loadG (P := Try.prog) (S101.sl (k := 4) rfl) sz_3 ag_3 g106 0
        replace q108 : aLoad Try.prog G99 3 (elP w1_4 0) = some (Value.int .i64 (gat 0 l1_4 0)) := q108
        obtain ⟨g109, hL74⟩ := gd_some hL74
        have q110 := idxG (P := Try.prog) (kk := .i64) (S101.sl (k := 4) rfl) el_22 sz_3 g109
        replace q110 : aIndexAddr Try.prog G99 22 w1_4 (Value.int .i64 1) = some (elP w1_4 1) := q110
        have q111 := loadG (P := Try.prog) (S101.sl (k := 4) rfl) sz_3 ag_3 g109 0
        replace q111 : aLoad Try.prog G99 3 (elP w1_4 1) = some (Value.int .i64 (gat 0 l1_4 1)) := q111
        obtain ⟨r6, hc112, hL74⟩ := bd_some hL74
        refine DWp.drawn (B := [0, 0, 2, 6, 0, 16, 48, 127, 255]) 8 mixed (by kernel_rfl) (by decide) fun K hK => ?_
        simp [-aBin', -aBin, -aBinI, -aUn, -aNil, -flatV, n_fn, b_add, b_sub, b_mul, b_lt, b_le, b_gt, b_ge, b_eq, b_ne, u_not, e1_1, e1_2, e1_5, e1_6, q105, q107, q108, q110, q111, ((S101.sl (k := 1) rfl).tup), ((S101.sl (k := 2) rfl).tup)]
        refine CallD.t (F_spec_siOutside_w (fu := fu) (S101.sl (k := 1) rfl) (S101.sl (k := 2) rfl) hc112) ?_
        rintro _ G114 ⟨a117, c113_u0, c113_u1, rfl, S118⟩
        have A116 := A102.ext (hB.le A102.1) a117.agree
        have S115 : Sep G114 (Fr H) [AL.box p4 [w1_1, w1_2], flat w1_1 3 (ints l1_1), flat w1_2 3 (ints l1_2), rowsP v104 28 3 (D1_3 ++ [c86_u0, c86_u1]) (lapp l1_3 [(r5.1, r5.2)]), flat w1_4 3 (ints l1_4), emp, emp, flatK 2 v92 28 1 [c86_u0, c86_u1], flat c113_u0 3 (ints r6.1), flat c113_u1 3 (ints r6.2)] := S101.app a117.agree S118 (fun _ h => h) (hB.le A102.1)
        obtain ⟨G119, q120, S121, a123⟩ := S115.putAgg (P := Try.prog) (k := 0) (xs := [c113_u0, c113_u1]) rfl (hB.le A116.1) sz_28 rfl rfl
        have A122 := A116.trans a123
        replace S121 : Sep G119 (Fr H) [AL.box p4 [c113_u0, c113_u1], flat w1_1 3 (ints l1_1), flat w1_2 3 (ints l1_2), rowsP v104 28 3 (D1_3 ++ [c86_u0, c86_u1]) (lapp l1_3 [(r5.1, r5.2)]), flat w1_4 3 (ints l1_4), emp, emp, flatK 2 v92 28 1 [c86_u0, c86_u1], flat c113_u0 3 (ints r6.1), flat c113_u1 3 (ints r6.2)] := S121
        simp [-aBin', -aBin, -aBinI, -aUn, -aNil, -flatV, n_fn, b_add, b_sub, b_mul, b_lt, b_le, b_gt, b_ge, b_eq, b_ne, u_not, e1_1, e1_2, e1_5, e1_6, q105, q107, q108, q110, q111, a117.pre, q120]
        apply hK
        clear hK K
        simp only [andThen, leaves]
        have q124 := S121.loadAgg (P := Try.prog) (k := 0) rfl sz_28 ag_28 rfl
        obtain ⟨r7, hc125, hL74⟩ := bd_some hL74
        refine DWp.region fun K hK => ?_
        simp [-aBin', -aBin, -aBinI, -aUn, -aNil, -flatV, n_fn, b_add, b_sub, b_mul, b_lt, b_le, b_gt, b_ge, b_eq, b_ne, u_not, e1_1, e1_2, e1_5, e1_6, q124, ((S121.sl (k := 8) rfl).tup), ((S121.sl (k := 9) rfl).tup)]
        refine CallD.t (F_spec_siShortest_w (fu := fu) (S121.sl (k := 8) rfl) (S121.sl (k := 9) rfl) hc125) ?_
        rintro c126_u0 G127 ⟨a130, _, rfl, S131⟩
        have A129 := A122.ext (hB.le A122.1) a130.agree
        have S128 : Sep G127 (Fr H) [AL.box p4 [c113_u0, c113_u1], flat w1_1 3 (ints l1_1), flat w1_2 3 (ints l1_2), rowsP v104 28 3 (D1_3 ++ [c86_u0, c86_u1]) (lapp l1_3 [(r5.1, r5.2)]), flat w1_4 3 (ints l1_4), emp, emp, flatK 2 v92 28 1 [c86_u0, c86_u1], flat c113_u0 3 (ints r6.1), flat c113_u1 3 (ints r6.2), flat c126_u0 3 (ints r7)] := S121.app a130.agree S131 (fun _ h => h) (hB.le A122.1)
        simp [-aBin', -aBin, -aBinI, -aUn, -aNil, -flatV, n_fn, b_add, b_sub, b_mul, b_lt, b_le, b_gt, b_ge, b_eq, b_ne, u_not, e1_1, e1_2, e1_5, e1_6, q124, a130.pre]
        apply hK
        clear hK K
        simp only [andThen, leaves]
        have S132 := S128.pick [0, 8, 9, 3, 10] (by decide) rfl
        exact ⟨n1, Nat.lt_succ_self _, r6.1, r6.2, (lapp l1_3 [(r5.1, r5.2)]), r7, c113_u0, c113_u1, v104, (D1_3 ++ [c86_u0, c86_u1]), c126_u0, hL74, S132, A129, by simp [e1_1, e1_2, e1_5, e1_6], by simp [e1_1, e1_2, e1_5, e1_6], by simp [e1_1, e1_2, e1_5, e1_6], by simp [e1_1, e1_2, e1_5, e1_6]⟩
      · replace hL74 := cd_f hb77 hL74
        refine DWp.exit ?_
        simp only [andThen, leaves, if_true, if_false, reduceIte, Nat.reduceEqDiff]
        obtain rfl := Option.some.inj hL74
        try dsimp only at hF
        refine DWp.seq ?_
        have q133 := S1_.fieldT (P := Try.prog) (k := 0) rfl fa_28_0
        have q134 := S1_.loadF (P := Try.prog) (k := 0) rfl sz_22 ag_22 (off := 0) rfl
        obtain ⟨r8, hc135, hF⟩ := bd_some hF
        refine DWp.drawn (B := [0, 0, 2, 6, 0, 16, 62, 126, 254, 511, 1023]) 9 mixed (by kernel_rfl) (by decide) fun K hK => ?_
        simp [-aBin', -aBin, -aBinI, -aUn, -aNil, -flatV, n_fn, b_add, b_sub, b_mul, b_lt, b_le, b_gt, b_ge, b_eq, b_ne, u_not, e1_1, e1_2, e1_5, e1_6, q133, q134, ((S1_.sl (k := 1) rfl).tup)]
        refine CallD.t (F_spec_l1Own_w (fu := fu) (S1_.sl (k := 1) rfl) hc135) ?_
        rintro c136_u0 G137 ⟨a140, _, rfl, S141⟩
        have A139 := A1_.ext (hB.le A1_.1) a140.agree
        have S138 : Sep G137 (Fr H) [AL.box p4 [w1_1, w1_2], flat w1_1 3 (ints l1_1), flat w1_2 3 (ints l1_2), rowsP w1_3 28 3 D1_3 l1_3, flat w1_4 3 (ints l1_4), flat c136_u0 3 (ints r8)] := S1_.app a140.agree S141 (fun _ h => h) (hB.le A1_.1)
        have q142 := S138.fieldT (P := Try.prog) (k := 0) rfl fa_28_1
        have q143 := S138.loadF (P := Try.prog) (k := 0) rfl sz_22 ag_22 (off := 1) rfl
        obtain ⟨r9, hc144, hF⟩ := bd_some hF
        simp [-aBin', -aBin, -aBinI, -aUn, -aNil, -flatV, n_fn, b_add, b_sub, b_mul, b_lt, b_le, b_gt, b_ge, b_eq, b_ne, u_not, e1_1, e1_2, e1_5, e1_6, q133, q134, a140.pre, q142, q143, ((S138.sl (k := 2) rfl).tup)]
        refine CallD.t (F_spec_l1Own_w (fu := fu) (S138.sl (k := 2) rfl) hc144) ?_
        rintro c145_u0 G146 ⟨a149, _, rfl, S150⟩
        have A148 := A139.ext (hB.le A139.1) a149.agree
        have S147 : Sep G146 (Fr H) [AL.box p4 [w1_1, w1_2], flat w1_1 3 (ints l1_1), flat w1_2 3 (ints l1_2), rowsP w1_3 28 3 D1_3 l1_3, flat w1_4 3 (ints l1_4), flat c136_u0 3 (ints r8), flat c145_u0 3 (ints r9)] := S138.app a149.agree S150 (fun _ h => h) (hB.le A139.1)
        obtain ⟨v151, G152, q153, S154, a156, _, _⟩ := S147.litP1 (P := Try.prog) (t := 46) (hB.le A148.1) el_46 ei_28 rfl c136_u0 c145_u0
        have A155 := A148.ext (hB.le A148.1) a156
        replace S154 : Sep G152 (Fr H) [AL.box p4 [w1_1, w1_2], flat w1_1 3 (ints l1_1), flat w1_2 3 (ints l1_2), rowsP w1_3 28 3 D1_3 l1_3, flat w1_4 3 (ints l1_4), flat c136_u0 3 (ints r8), flat c145_u0 3 (ints r9), flatK 2 v151 28 1 [c136_u0, c145_u0]] := S154
        obtain ⟨g157, hF⟩ := gd_some hF
        obtain ⟨v163, G158, q159, S160, a162, q159t, _⟩ := S154.pushP (u := w1_3) (X := l1_3) (a := r8) (b := r9) (P := Try.prog) (t := 46) (t2 := 46) (j := 3) (k1 := 5) (k2 := 6) (by decide) (by decide) (by decide) rfl rfl rfl (hB.le A155.1) el_46 el_46 ei_28 rfl (S154.flatKSl (k := 7) rfl) g157
        have A161 := A155.trans a162
        replace S160 : Sep G158 (Fr H) [AL.box p4 [w1_1, w1_2], flat w1_1 3 (ints l1_1), flat w1_2 3 (ints l1_2), rowsP v163 28 3 (D1_3 ++ [c136_u0, c145_u0]) (lapp l1_3 [(r8, r9)]), flat w1_4 3 (ints l1_4), emp, emp, flatK 2 v151 28 1 [c136_u0, c145_u0]] := S160
        simp [-aBin', -aBin, -aBinI, -aUn, -aNil, -flatV, n_fn, b_add, b_sub, b_mul, b_lt, b_le, b_gt, b_ge, b_eq, b_ne, u_not, e1_1, e1_2, e1_5, e1_6, q133, q134, a140.pre, q142, q143, a149.pre, bu_28 ((S147.sl (k := 5) rfl).tup) ((S147.sl (k := 5) rfl).one) ((S147.sl (k := 6) rfl).tup) ((S147.sl (k := 6) rfl).one), q153, a156.to_pre, ((S147.sl (k := 5) rfl).tup), ((S147.sl (k := 6) rfl).tup), q159, q159t]
        apply hK
        clear hK K
        simp only [andThen, leaves]
        refine DWp.ret ?_
        obtain rfl := Option.some.inj hF
        exact ⟨by simp, [v163], by simp [e1_1, e1_2, e1_5, e1_6, ((S160.rdP (k := 3) rfl).tup)], A161, v163, (D1_3 ++ [c136_u0, c145_u0]), rfl, S160.pick [3] (by decide) rfl⟩
  · replace hF := cd_f hb17 hF
    refine DWp.exit ?_
    simp only [andThen, leaves, if_true, if_false, reduceIte, Nat.reduceEqDiff]
    refine DWp.seq ?_
    have q164 := S12.fieldT (P := Try.prog) (k := 0) rfl fa_28_0
    have q165 := S12.loadF (P := Try.prog) (k := 0) rfl sz_22 ag_22 (off := 0) rfl
    obtain ⟨r10, hc166, hF⟩ := bd_some hF
    refine DWp.drawn (B := [0, 0, 2, 6, 0, 16, 62, 126, 254, 511, 1023]) 9 mixed (by kernel_rfl) (by decide) fun K hK => ?_
    simp [-aBin', -aBin, -aBinI, -aUn, -aNil, -flatV, n_fn, b_add, b_sub, b_mul, b_lt, b_le, b_gt, b_ge, b_eq, b_ne, u_not, q164, q165, ((hx0_0.agree A13.agree).tup)]
    refine CallD.t (F_spec_l1Own_w (fu := fu) (hx0_0.agree A13.agree) hc166) ?_
    rintro c167_u0 G168 ⟨a171, _, rfl, S172⟩
    have A170 := A13.ext (hB.le A13.1) a171.agree
    have S169 : Sep G168 (Fr H) [AL.box p4 [v0_0, v0_1], flat c10_u0 3 (ints r1), flat c167_u0 3 (ints r10)] := S12.app a171.agree S172 (fun _ h => h) (hB.le A13.1)
    have q173 := S169.fieldT (P := Try.prog) (k := 0) rfl fa_28_1
    have q174 := S169.loadF (P := Try.prog) (k := 0) rfl sz_22 ag_22 (off := 1) rfl
    obtain ⟨r11, hc175, hF⟩ := bd_some hF
    simp [-aBin', -aBin, -aBinI, -aUn, -aNil, -flatV, n_fn, b_add, b_sub, b_mul, b_lt, b_le, b_gt, b_ge, b_eq, b_ne, u_not, q164, q165, a171.pre, q173, q174, ((hx0_1.agree A170.agree).tup)]
    refine CallD.t (F_spec_l1Own_w (fu := fu) (hx0_1.agree A170.agree) hc175) ?_
    rintro c176_u0 G177 ⟨a180, _, rfl, S181⟩
    have A179 := A170.ext (hB.le A170.1) a180.agree
    have S178 : Sep G177 (Fr H) [AL.box p4 [v0_0, v0_1], flat c10_u0 3 (ints r1), flat c167_u0 3 (ints r10), flat c176_u0 3 (ints r11)] := S169.app a180.agree S181 (fun _ h => h) (hB.le A170.1)
    obtain ⟨v182, G183, q184, S185, a187, _, _⟩ := S178.litP1 (P := Try.prog) (t := 46) (hB.le A179.1) el_46 ei_28 rfl c167_u0 c176_u0
    have A186 := A179.ext (hB.le A179.1) a187
    replace S185 : Sep G183 (Fr H) [AL.box p4 [v0_0, v0_1], flat c10_u0 3 (ints r1), flat c167_u0 3 (ints r10), flat c176_u0 3 (ints r11), flatK 2 v182 28 1 [c167_u0, c176_u0]] := S185
    have S188 := S185.rpNil (hB.le A186.1) 28 3
    obtain ⟨g189, hF⟩ := gd_some hF
    obtain ⟨v195, G190, q191, S192, a194, q191t, _⟩ := S188.pushP (u := (Value.slice none 0 0)) (X := (@List.nil (List Int × List Int))) (a := r10) (b := r11) (P := Try.prog) (t := 46) (t2 := 46) (j := 5) (k1 := 2) (k2 := 3) (by decide) (by decide) (by decide) rfl rfl rfl (hB.le A186.1) el_46 el_46 ei_28 rfl (S188.flatKSl (k := 4) rfl) g189
    have A193 := A186.trans a194
    replace S192 : Sep G190 (Fr H) [AL.box p4 [v0_0, v0_1], flat c10_u0 3 (ints r1), emp, emp, flatK 2 v182 28 1 [c167_u0, c176_u0], rowsP v195 28 3 ([] ++ [c167_u0, c176_u0]) (lapp (@List.nil (List Int × List Int)) [(r10, r11)])] := S192
    simp [-aBin', -aBin, -aBinI, -aUn, -aNil, -flatV, n_fn, b_add, b_sub, b_mul, b_lt, b_le, b_gt, b_ge, b_eq, b_ne, u_not, q164, q165, a171.pre, q173, q174, a180.pre, bu_28 ((S178.sl (k := 2) rfl).tup) ((S178.sl (k := 2) rfl).one) ((S178.sl (k := 3) rfl).tup) ((S178.sl (k := 3) rfl).one), q184, a187.to_pre, ((S178.sl (k := 2) rfl).tup), ((S178.sl (k := 3) rfl).tup), q191, q191t]
    apply hK
    clear hK K
    simp only [andThen, leaves]
    refine DWp.ret ?_
    obtain rfl := Option.some.inj hF
    exact ⟨by simp, [v195], by simp [((S192.rdP (k := 5) rfl).tup)], A193, v195, ([] ++ [c167_u0, c176_u0]), rfl, S192.pick [5] (by decide) rfl⟩
def F_impl_in (fu : Nat) (x0 : Int) (x1 : Int) (x2 : Int) : Option (Bool) :=
  bif (ile x1 x0) then
    some (ile x0 x2)
  else
    some false
theorem F_impl_in_w {fu : Nat} {H : AH}  {x0 : Int} {x1 : Int} {x2 : Int} {r : (Bool)}  (hF : F_impl_in fu x0 x1 x2 = some r) :
    ACallT Try.prog 108 [(Value.int .i64 x0), (Value.int .i64 x1), (Value.int .i64 x2)] H (fun u G => AgB (Fr H) H G ∧ u = (Value.bool r) ∧ Sep G (Fr H) []) := by
  refine ACallT.of_body (nt := 15) (rs := [.tmp 6]) Try.func108 rfl rfl rfl rfl ?_
  have A0 : AgB (Fr H) H H := .refl _ _
  have S0 : Sep H (Fr H) [] := .nil
  have hB := Fr.up H
  unfold F_impl_in at hF
  refine DWp.seq ?_
  refine DWp.region fun K hK => ?_
  simp [-aBin', -aBin, -aBinI, -aUn, -aNil, -flatV, n_fn, b_add, b_sub, b_mul, b_lt, b_le, b_gt, b_ge, b_eq, b_ne, u_not]
  apply hK
  clear hK K
  simp only [andThen, leaves]
  refine DWp.seq ?_
  rcases Bool.eq_false_or_eq_true (ile x1 x0) with hb1 | hb1
  · replace hF := cd_t hb1 hF
    refine DWp.region fun K hK => ?_
    simp [-aBin', -aBin, -aBinI, -aUn, -aNil, -flatV, n_fn, b_add, b_sub, b_mul, b_lt, b_le, b_gt, b_ge, b_eq, b_ne, u_not, hb1]
    apply hK
    clear hK K
    simp only [andThen, leaves]
    refine DWp.ret ?_
    obtain rfl := Option.some.inj hF
    exact ⟨by simp, [(Value.bool (ile x0 x2))], by simp [], A0, rfl, S0.pick [] (by decide) rfl⟩
  · replace hF := cd_f hb1 hF
    refine DWp.region fun K hK => ?_
    simp [-aBin', -aBin, -aBinI, -aUn, -aNil, -flatV, n_fn, b_add, b_sub, b_mul, b_lt, b_le, b_gt, b_ge, b_eq, b_ne, u_not, hb1]
    apply hK
    clear hK K
    simp only [andThen, leaves]
    refine DWp.ret ?_
    obtain rfl := Option.some.inj hF
    exact ⟨by simp, [(Value.bool false)], by simp [], A0, rfl, S0.pick [] (by decide) rfl⟩
end Go.Proofs.Ytbckijeffiofdaa.AL

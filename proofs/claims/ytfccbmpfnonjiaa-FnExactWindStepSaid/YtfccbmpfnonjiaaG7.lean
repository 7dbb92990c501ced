/- The walks of functions, each with its Lean function: spec.l1Own, spec.swPut, spec.swStep, spec.WindStep, slices.Clone[[]int,int], slices.Grow[[]int,int], slices.Concat[[]int,int], impl.Seaweed).wound, impl.WindStep, laws.heldSeaweed. No condition. -/
import Derived.Test.YtfccbmpfnonjiaaG1
import Derived.Test.YtfccbmpfnonjiaaG2
import Derived.Test.YtfccbmpfnonjiaaG3
import Derived.Test.YtfccbmpfnonjiaaG4
import Derived.Test.YtfccbmpfnonjiaaG5
import Derived.Test.YtfccbmpfnonjiaaG6
import Derived.Test.YtfccbmpfnonjiaaGSort
import Derived.Test.YtfccbmpfnonjiaaAL34
import Derived.Test.YtfccbmpfnonjiaaProg
import Derived.KernelRfl
namespace Go.Proofs.Ytfccbmpfnonjiaa.AL
open Go Go.RowKit
set_option linter.unusedVariables false
set_option linter.unusedSimpArgs false
set_option maxRecDepth 4096
theorem it_3 : intT Try.prog 3 = true := by kernel_rfl
theorem sd_3 : srcD Try.prog 3 = false := by kernel_rfl
theorem us_22 : Try.prog.underlying 22 = some (.slice 3) := by kernel_rfl
/-! loop.example/g01126/spec.l1Own -/
def F_spec_l1Own (fu : Nat) (x0 : List Int) : Option (List Int) :=
  gd ((@List.nil Int).length + x0.length ≤ 4294967296) (
  some (lapp (@List.nil Int) x0))
theorem F_spec_l1Own_w {fu : Nat} {H : AH} {v0 : Value} {x0 : List Int} {r : (List Int)} (hx0 : Sl H v0 (ints x0)) (hF : F_spec_l1Own fu x0 = some r) :
    ACallT Try.prog 71 [v0] H (fun u G => AgB (Fr H) H G ∧ ∃ u0 : Value, u = u0 ∧ Sep G (Fr H) [flat u0 3 (ints r)]) := by
  refine ACallT.of_body (nt := 6) (rs := [.tmp 2]) Try.func71 rfl rfl rfl rfl ?_
  have A0 : AgB (Fr H) H H := .refl _ _
  have S0 : Sep H (Fr H) [] := .nil
  have hB := Fr.up H
  unfold F_spec_l1Own at hF
  refine DWp.seq ?_
  refine DWp.region fun K hK => ?_
  simp [-aBin', -aBin, -aBinI, -aUn, -aNil, -flatV, n_fn, b_add, b_sub, b_mul, b_lt, b_le, b_gt, b_ge, b_eq, b_ne, u_not]
  apply hK
  clear hK K
  simp only [andThen, leaves]
  refine DWp.seq ?_
  obtain ⟨v1, G2, q3, S4, a6, _, _⟩ := S0.lit0 (P := Try.prog) (t := 22) (hB.le A0.1) el_22 ei_3 rfl
  have A5 := A0.ext (hB.le A0.1) a6
  replace S4 : Sep G2 (Fr H) [flat1 v1 3 (ints (@List.nil Int))] := S4
  obtain ⟨g8, hF⟩ := gd_some hF
  obtain ⟨v14, G9, q10, S11, a13, _, _⟩ := S4.append1 (f := (Value.int .i64)) (xs := (@List.nil Int)) (ys := x0) (P := Try.prog) (t := 22) (t2 := 22) (k := 0) rfl (hB.le A5.1) el_22 el_22 ei_3 rfl (hx0.agree A5.agree) g8
  have A12 := A5.trans a13
  replace S11 : Sep G9 (Fr H) [flat v14 3 (ints (lapp (@List.nil Int) x0))] := S11
  refine DWp.region fun K hK => ?_
  simp [-aBin', -aBin, -aBinI, -aUn, -aNil, -flatV, n_fn, b_add, b_sub, b_mul, b_lt, b_le, b_gt, b_ge, b_eq, b_ne, u_not, q3, a6.to_pre, q10]
  apply hK
  clear hK K
  simp only [andThen, leaves]
  refine DWp.ret ?_
  obtain rfl := Option.some.inj hF
  exact ⟨by simp, [v14], by simp [((S11.sl (k := 0) rfl).tup)], A12, v14, rfl, S11.pick [0] (by decide) rfl⟩
/-! loop.example/g01126/spec.swPut -/
def F_spec_swPut (fu : Nat) (x0 : List Int) (x1 : List Int) : Option (List Int) :=
  gd ((@List.nil Int).length + x1.length ≤ 4294967296) (
  gd (subL x0 1 (llen x0)) (
  gd ((lapp (@List.nil Int) x1).length + (lsub x0 1 (llen x0)).length ≤ 4294967296) (
  some (lapp (lapp (@List.nil Int) x1) (lsub x0 1 (llen x0))))))
theorem F_spec_swPut_w {fu : Nat} {H : AH} {v0 : Value} {v1 : Value} {x0 : List Int} {x1 : List Int} {r : (List Int)} (hx0 : Sl H v0 (ints x0)) (hx1 : Sl H v1 (ints x1)) (hF : F_spec_swPut fu x0 x1 = some r) :
    ACallT Try.prog 79 [v0, v1] H (fun u G => AgB (Fr H) H G ∧ ∃ u0 : Value, u = u0 ∧ Sep G (Fr H) [flat u0 3 (ints r)]) := by
  refine ACallT.of_body (nt := 11) (rs := [.tmp 4]) Try.func79 rfl rfl rfl rfl ?_
  have A0 : AgB (Fr H) H H := .refl _ _
  have S0 : Sep H (Fr H) [] := .nil
  have hB := Fr.up H
  unfold F_spec_swPut at hF
  refine DWp.seq ?_
  refine DWp.region fun K hK => ?_
  simp [-aBin', -aBin, -aBinI, -aUn, -aNil, -flatV, n_fn, b_add, b_sub, b_mul, b_lt, b_le, b_gt, b_ge, b_eq, b_ne, u_not]
  apply hK
  clear hK K
  simp only [andThen, leaves]
  refine DWp.seq ?_
  obtain ⟨v1, G2, q3, S4, a6, fl7⟩ := S0.lit0E (P := Try.prog) (t := 22) (hB.le A0.1) el_22 ei_3 rfl
  have A5 := A0.ext (hB.le A0.1) a6
  replace S4 : Sep G2 (Fr H) [flat1 v1 3 (ints (@List.nil Int))] := S4
  obtain ⟨g8, hF⟩ := gd_some hF
  obtain ⟨v14, G9, q10, S11, a13, _, _⟩ := S4.appendE (f := (Value.int .i64)) (xs := (@List.nil Int)) (ys := x1) (P := Try.prog) (t := 22) (t2 := 22) (k := 0) rfl fl7 (hB.le A5.1) el_22 el_22 ei_3 rfl (hx1.agree A5.agree) g8
  have A12 := A5.ext (hB.le A5.1) a13
  replace S11 : Sep G9 (Fr H) [flat v14 3 (ints (lapp (@List.nil Int) x1))] := S11
  obtain ⟨g15, hF⟩ := gd_some hF
  have q16 := aSub10 (P := Try.prog) (t := 22) (hx0.agree A12.agree) el_22 sz_3 g15
  obtain ⟨g17, hF⟩ := gd_some hF
  obtain ⟨v23, G18, q19, S20, a22, _, _⟩ := S11.appendG (f := (Value.int .i64)) (xs := (lapp (@List.nil Int) x1)) (ys := (lsub x0 1 (llen x0))) (P := Try.prog) (t := 22) (t2 := 22) (k := 0) rfl (hB.le A12.1) el_22 el_22 ei_3 rfl (subSl (hx0.agree A12.agree) g15) g17
  have A21 := A12.trans a22
  replace S20 : Sep G18 (Fr H) [flat v23 3 (ints (lapp (lapp (@List.nil Int) x1) (lsub x0 1 (llen x0))))] := S20
  refine DWp.drawn (B := [0, 0, 3, 0, 8, 31, 63]) 5 mixed (by kernel_rfl) (by decide) fun K hK => ?_
  simp [-aBin', -aBin, -aBinI, -aUn, -aNil, -flatV, n_fn, b_add, b_sub, b_mul, b_lt, b_le, b_gt, b_ge, b_eq, b_ne, u_not, q3, a6.to_pre, q10, a13.to_pre, q16, ((subSl (hx0.agree A12.agree) g15).tup), q19]
  apply hK
  clear hK K
  simp only [andThen, leaves]
  refine DWp.ret ?_
  obtain rfl := Option.some.inj hF
  exact ⟨by simp, [v23], by simp [((S20.sl (k := 0) rfl).tup)], A21, v23, rfl, S20.pick [0] (by decide) rfl⟩
/-! loop.example/g01126/spec.swStep -/
def F_spec_swStep (fu : Nat) (x0_0 : List Int) (x0_1 : List Int) : Option ((List Int × List Int) × ByteArray) :=
  gd (inL x0_0 0) (
  gd (inL x0_1 0) (
  bif (ilt (gat 0 x0_0 0) (gat 0 x0_1 0)) then
    bd (F_spec_l1Own fu x0_1) fun r1 =>
    bd (F_spec_l1Own fu x0_0) fun r2 =>
    some ((r1, r2), (ByteArray.mk #[70]))
  else
    bif (ieq (gat 0 x0_0 0) (gat 0 x0_1 0)) then
      gd (subL x0_0 1 (llen x0_0)) (
      bd (F_spec_l1Own fu (lsub x0_0 1 (llen x0_0))) fun r3 =>
      gd (subL x0_1 1 (llen x0_1)) (
      bd (F_spec_l1Own fu (lsub x0_1 1 (llen x0_1))) fun r4 =>
      some ((r3, r4), (ByteArray.mk #[67]))))
    else
      bif (ieq (gat 0 x0_0 0) (imul .i64 2 (gat 0 x0_1 0))) then
        bd (F_spec_swPut fu x0_0 [(gat 0 x0_1 0)]) fun r5 =>
        gd (subL x0_1 1 (llen x0_1)) (
        bd (F_spec_l1Own fu (lsub x0_1 1 (llen x0_1))) fun r6 =>
        some ((r5, r6), (ByteArray.mk #[66])))
      else
        bif (ilt (gat 0 x0_0 0) (imul .i64 2 (gat 0 x0_1 0))) then
          bd (F_spec_swPut fu x0_0 [(gat 0 x0_1 0)]) fun r7 =>
          bd (F_spec_swPut fu x0_1 [(isub .i64 (imul .i64 2 (gat 0 x0_1 0)) (gat 0 x0_0 0))]) fun r8 =>
          some ((r7, r8), (ByteArray.mk #[82]))
        else
          bd (F_spec_swPut fu x0_0 [(isub .i64 (gat 0 x0_0 0) (imul .i64 2 (gat 0 x0_1 0))), (gat 0 x0_1 0)]) fun r9 =>
          gd (subL x0_1 1 (llen x0_1)) (
          bd (F_spec_l1Own fu (lsub x0_1 1 (llen x0_1))) fun r10 =>
          some ((r9, r10), (ByteArray.mk #[80])))))
theorem F_spec_swStep_w {fu : Nat} {H : AH} {v0_0 : Value} {v0_1 : Value} {x0_0 : List Int} {x0_1 : List Int} {r : ((List Int × List Int) × ByteArray)} (hx0_0 : Sl H v0_0 (ints x0_0)) (hx0_1 : Sl H v0_1 (ints x0_1)) (hF : F_spec_swStep fu x0_0 x0_1 = some r) :
    ACallT Try.prog 54 [(Value.agg #[v0_0, v0_1])] H (fun u G => AgB (Fr H) H G ∧ ∃ u0 : Value, ∃ u1 : Value, u = (Value.tuple #[(Value.agg #[u0, u1]), (Value.string r.2)]) ∧ Sep G (Fr H) [flat u0 3 (ints r.1.1), flat u1 3 (ints r.1.2)]) := by
  refine ACallT.of_body (nt := 86) (rs := [.cell 2 26, .tmp 3]) Try.func54 rfl rfl rfl rfl ?_
  have A0 : AgB (Fr H) H H := .refl _ _
  have S0 : Sep H (Fr H) [] := .nil
  have hB := Fr.up H
  unfold F_spec_swStep at hF
  refine DWp.seq ?_
  obtain ⟨G2, p4, q5, q6, a7, S1⟩ := S0.boxT (hB.le A0.1) 26 [v0_0, v0_1]
  have A3 := A0.ext (hB.le A0.1) a7
  replace S1 : Sep G2 (Fr H) [AL.box p4 [v0_0, v0_1]] := S1
  obtain ⟨G9, p11, q12, q14, a13, S8⟩ := S1.allocT (P := Try.prog) (hB.le A3.1) ze_26 rfl
  have A10 := A3.ext (hB.le A3.1) a13
  replace S8 : Sep G9 (Fr H) [AL.box p4 [v0_0, v0_1], AL.box p11 [(Value.slice none 0 0), (Value.slice none 0 0)]] := S8
  refine DWp.region fun K hK => ?_
  simp [-aBin', -aBin, -aBinI, -aUn, -aNil, -flatV, n_fn, b_add, b_sub, b_mul, b_lt, b_le, b_gt, b_ge, b_eq, b_ne, u_not, q5, q6, a7.to_pre, cells_agg, q12, q14, a13.to_pre]
  apply hK
  clear hK K
  simp only [andThen, leaves]
  refine DWp.seq ?_
  have q15 := S8.fieldT (P := Try.prog) (k := 0) rfl fa_26_0
  have q16 := S8.loadF (P := Try.prog) (k := 0) rfl sz_22 ag_22 (off := 0) rfl
  obtain ⟨g17, hF⟩ := gd_some hF
  have q18 := idxG (P := Try.prog) (kk := .i64) (hx0_0.agree A10.agree) el_22 sz_3 g17
  replace q18 : aIndexAddr Try.prog G9 22 v0_0 (Value.int .i64 0) = some (elP v0_0 0) := q18
  have q19 := loadG (P := Try.prog) (hx0_0.agree A10.agree) sz_3 ag_3 g17 0
  replace q19 : aLoad Try.prog G9 3 (elP v0_0 0) = some (Value.int .i64 (gat 0 x0_0 0)) := q19
  have q20 := S8.fieldT (P := Try.prog) (k := 0) rfl fa_26_1
  have q21 := S8.loadF (P := Try.prog) (k := 0) rfl sz_22 ag_22 (off := 1) rfl
  obtain ⟨g22, hF⟩ := gd_some hF
  have q23 := idxG (P := Try.prog) (kk := .i64) (hx0_1.agree A10.agree) el_22 sz_3 g22
  replace q23 : aIndexAddr Try.prog G9 22 v0_1 (Value.int .i64 0) = some (elP v0_1 0) := q23
  have q24 := loadG (P := Try.prog) (hx0_1.agree A10.agree) sz_3 ag_3 g22 0
  replace q24 : aLoad Try.prog G9 3 (elP v0_1 0) = some (Value.int .i64 (gat 0 x0_1 0)) := q24
  refine DWp.drawn (B := [0, 1, 3, 7, 0, 16, 48, 112, 15, 511]) 10 mixed (by kernel_rfl) (by decide) fun K hK => ?_
  simp [-aBin', -aBin, -aBinI, -aUn, -aNil, -flatV, n_fn, b_add, b_sub, b_mul, b_lt, b_le, b_gt, b_ge, b_eq, b_ne, u_not, q15, q16, q18, q19, q20, q21, q23, q24]
  apply hK
  clear hK K
  simp only [andThen, leaves]
  refine DWp.seq ?_
  refine DWp.block ?_
  refine DWp.seq ?_
  refine DWp.region fun K hK => ?_
  simp [-aBin', -aBin, -aBinI, -aUn, -aNil, -flatV, n_fn, b_add, b_sub, b_mul, b_lt, b_le, b_gt, b_ge, b_eq, b_ne, u_not]
  apply hK
  clear hK K
  simp only [andThen, leaves]
  refine DWp.cond' (t := (ilt (gat 0 x0_0 0) (gat 0 x0_1 0))) (by simp []) (fun hb25 => ?_) (fun hb25 => ?_)
  · replace hF := cd_t hb25 hF
    refine DWp.seq ?_
    have q26 := S8.fieldT (P := Try.prog) (k := 0) rfl fa_26_1
    have q27 := S8.loadF (P := Try.prog) (k := 0) rfl sz_22 ag_22 (off := 1) rfl
    obtain ⟨r1, hc28, hF⟩ := bd_some hF
    refine DWp.drawn (B := [0, 1, 3, 0, 8, 31, 63, 127, 255]) 7 mixed (by kernel_rfl) (by decide) fun K hK => ?_
    simp [-aBin', -aBin, -aBinI, -aUn, -aNil, -flatV, n_fn, b_add, b_sub, b_mul, b_lt, b_le, b_gt, b_ge, b_eq, b_ne, u_not, q26, q27, ((hx0_1.agree A10.agree).tup)]
    refine CallD.t (F_spec_l1Own_w (fu := fu) (hx0_1.agree A10.agree) hc28) ?_
    rintro c29_u0 G30 ⟨a33, _, rfl, S34⟩
    have A32 := A10.ext (hB.le A10.1) a33.agree
    have S31 : Sep G30 (Fr H) [AL.box p4 [v0_0, v0_1], AL.box p11 [(Value.slice none 0 0), (Value.slice none 0 0)], flat c29_u0 3 (ints r1)] := S8.app a33.agree S34 (fun _ h => h) (hB.le A10.1)
    have q35 := S31.fieldT (P := Try.prog) (k := 0) rfl fa_26_0
    have q36 := S31.loadF (P := Try.prog) (k := 0) rfl sz_22 ag_22 (off := 0) rfl
    obtain ⟨r2, hc37, hF⟩ := bd_some hF
    simp [-aBin', -aBin, -aBinI, -aUn, -aNil, -flatV, n_fn, b_add, b_sub, b_mul, b_lt, b_le, b_gt, b_ge, b_eq, b_ne, u_not, q26, q27, a33.pre, q35, q36, ((hx0_0.agree A32.agree).tup)]
    refine CallD.t (F_spec_l1Own_w (fu := fu) (hx0_0.agree A32.agree) hc37) ?_
    rintro c38_u0 G39 ⟨a42, _, rfl, S43⟩
    have A41 := A32.ext (hB.le A32.1) a42.agree
    have S40 : Sep G39 (Fr H) [AL.box p4 [v0_0, v0_1], AL.box p11 [(Value.slice none 0 0), (Value.slice none 0 0)], flat c29_u0 3 (ints r1), flat c38_u0 3 (ints r2)] := S31.app a42.agree S43 (fun _ h => h) (hB.le A32.1)
    obtain ⟨G44, q45, S46, a48⟩ := S40.putAgg (P := Try.prog) (k := 1) (xs := [c29_u0, c38_u0]) rfl (hB.le A41.1) sz_26 rfl rfl
    have A47 := A41.trans a48
    replace S46 : Sep G44 (Fr H) [AL.box p4 [v0_0, v0_1], AL.box p11 [c29_u0, c38_u0], flat c29_u0 3 (ints r1), flat c38_u0 3 (ints r2)] := S46
    simp [-aBin', -aBin, -aBinI, -aUn, -aNil, -flatV, n_fn, b_add, b_sub, b_mul, b_lt, b_le, b_gt, b_ge, b_eq, b_ne, u_not, q26, q27, a33.pre, q35, q36, a42.pre, bu_26 ((S40.sl (k := 2) rfl).tup) ((S40.sl (k := 2) rfl).one) ((S40.sl (k := 3) rfl).tup) ((S40.sl (k := 3) rfl).one), q45]
    apply hK
    clear hK K
    simp only [andThen, leaves]
    refine DWp.ret ?_
    simp only [andThen, leaves]
    have q49 := S46.loadAgg (P := Try.prog) (k := 1) rfl sz_26 ag_26 rfl
    obtain rfl := Option.some.inj hF
    exact ⟨by simp, [(Value.agg #[c29_u0, c38_u0]), (Value.string (ByteArray.mk #[70]))], by simp [q49, ((S46.sl (k := 2) rfl).tup), ((S46.sl (k := 3) rfl).tup)], A47, c29_u0, c38_u0, rfl, S46.pick [2, 3] (by decide) rfl⟩
  · replace hF := cd_f hb25 hF
    refine DWp.seq ?_
    refine DWp.region fun K hK => ?_
    simp [-aBin', -aBin, -aBinI, -aUn, -aNil, -flatV, n_fn, b_add, b_sub, b_mul, b_lt, b_le, b_gt, b_ge, b_eq, b_ne, u_not]
    apply hK
    clear hK K
    simp only [andThen, leaves]
    refine DWp.cond' (t := (ieq (gat 0 x0_0 0) (gat 0 x0_1 0))) (by simp []) (fun hb50 => ?_) (fun hb50 => ?_)
    · replace hF := cd_t hb50 hF
      refine DWp.seq ?_
      have q51 := S8.fieldT (P := Try.prog) (k := 0) rfl fa_26_0
      have q52 := S8.loadF (P := Try.prog) (k := 0) rfl sz_22 ag_22 (off := 0) rfl
      obtain ⟨g53, hF⟩ := gd_some hF
      have q54 := aSub10 (P := Try.prog) (t := 22) (hx0_0.agree A10.agree) el_22 sz_3 g53
      obtain ⟨r3, hc55, hF⟩ := bd_some hF
      refine DWp.drawn (B := [0, 1, 3, 7, 0, 16, 48, 127, 255, 511, 1023]) 9 mixed (by kernel_rfl) (by decide) fun K hK => ?_
      simp [-aBin', -aBin, -aBinI, -aUn, -aNil, -flatV, n_fn, b_add, b_sub, b_mul, b_lt, b_le, b_gt, b_ge, b_eq, b_ne, u_not, q51, q52, q54, ((subSl (hx0_0.agree A10.agree) g53).tup)]
      refine CallD.t (F_spec_l1Own_w (fu := fu) (subSl (hx0_0.agree A10.agree) g53) hc55) ?_
      rintro c56_u0 G57 ⟨a60, _, rfl, S61⟩
      have A59 := A10.ext (hB.le A10.1) a60.agree
      have S58 : Sep G57 (Fr H) [AL.box p4 [v0_0, v0_1], AL.box p11 [(Value.slice none 0 0), (Value.slice none 0 0)], flat c56_u0 3 (ints r3)] := S8.app a60.agree S61 (fun _ h => h) (hB.le A10.1)
      have q62 := S58.fieldT (P := Try.prog) (k := 0) rfl fa_26_1
      have q63 := S58.loadF (P := Try.prog) (k := 0) rfl sz_22 ag_22 (off := 1) rfl
      obtain ⟨g64, hF⟩ := gd_some hF
      have q65 := aSub10 (P := Try.prog) (t := 22) (hx0_1.agree A59.agree) el_22 sz_3 g64
      obtain ⟨r4, hc66, hF⟩ := bd_some hF
      simp [-aBin', -aBin, -aBinI, -aUn, -aNil, -flatV, n_fn, b_add, b_sub, b_mul, b_lt, b_le, b_gt, b_ge, b_eq, b_ne, u_not, q51, q52, q54, ((subSl (hx0_0.agree A10.agree) g53).tup), a60.pre, q62, q63, q65, ((subSl (hx0_1.agree A59.agree) g64).tup)]
      refine CallD.t (F_spec_l1Own_w (fu := fu) (subSl (hx0_1.agree A59.agree) g64) hc66) ?_
      rintro c67_u0 G68 ⟨a71, _, rfl, S72⟩
      have A70 := A59.ext (hB.le A59.1) a71.agree
      have S69 : Sep G68 (Fr H) [AL.box p4 [v0_0, v0_1], AL.box p11 [(Value.slice none 0 0), (Value.slice none 0 0)], flat c56_u0 3 (ints r3), flat c67_u0 3 (ints r4)] := S58.app a71.agree S72 (fun _ h => h) (hB.le A59.1)
      obtain ⟨G73, q74, S75, a77⟩ := S69.putAgg (P := Try.prog) (k := 1) (xs := [c56_u0, c67_u0]) rfl (hB.le A70.1) sz_26 rfl rfl
      have A76 := A70.trans a77
      replace S75 : Sep G73 (Fr H) [AL.box p4 [v0_0, v0_1], AL.box p11 [c56_u0, c67_u0], flat c56_u0 3 (ints r3), flat c67_u0 3 (ints r4)] := S75
      simp [-aBin', -aBin, -aBinI, -aUn, -aNil, -flatV, n_fn, b_add, b_sub, b_mul, b_lt, b_le, b_gt, b_ge, b_eq, b_ne, u_not, q51, q52, q54, ((subSl (hx0_0.agree A10.agree) g53).tup), a60.pre, q62, q63, q65, ((subSl (hx0_1.agree A59.agree) g64).tup), a71.pre, bu_26 ((S69.sl (k := 2) rfl).tup) ((S69.sl (k := 2) rfl).one) ((S69.sl (k := 3) rfl).tup) ((S69.sl (k := 3) rfl).one), q74]
      apply hK
      clear hK K
      simp only [andThen, leaves]
      refine DWp.ret ?_
      simp only [andThen, leaves]
      have q78 := S75.loadAgg (P := Try.prog) (k := 1) rfl sz_26 ag_26 rfl
      obtain rfl := Option.some.inj hF
      exact ⟨by simp, [(Value.agg #[c56_u0, c67_u0]), (Value.string (ByteArray.mk #[67]))], by simp [q78, ((S75.sl (k := 2) rfl).tup), ((S75.sl (k := 3) rfl).tup)], A76, c56_u0, c67_u0, rfl, S75.pick [2, 3] (by decide) rfl⟩
    · replace hF := cd_f hb50 hF
      refine DWp.seq ?_
      refine DWp.region fun K hK => ?_
      simp [-aBin', -aBin, -aBinI, -aUn, -aNil, -flatV, n_fn, b_add, b_sub, b_mul, b_lt, b_le, b_gt, b_ge, b_eq, b_ne, u_not]
      apply hK
      clear hK K
      simp only [andThen, leaves]
      refine DWp.cond' (t := (ieq (gat 0 x0_0 0) (imul .i64 2 (gat 0 x0_1 0)))) (by simp []) (fun hb79 => ?_) (fun hb79 => ?_)
      · replace hF := cd_t hb79 hF
        refine DWp.seq ?_
        have q80 := S8.fieldT (P := Try.prog) (k := 0) rfl fa_26_0
        have q81 := S8.loadF (P := Try.prog) (k := 0) rfl sz_22 ag_22 (off := 0) rfl
        obtain ⟨v82, G83, q84, S85, a87, fl88⟩ := S8.lit1E (P := Try.prog) (t := 22) (hB.le A10.1) el_22 ei_3 rfl (Value.int .i64 (gat 0 x0_1 0)) rfl rfl
        have A86 := A10.ext (hB.le A10.1) a87
        replace S85 : Sep G83 (Fr H) [AL.box p4 [v0_0, v0_1], AL.box p11 [(Value.slice none 0 0), (Value.slice none 0 0)], flat1 v82 3 (ints [(gat 0 x0_1 0)])] := S85
        obtain ⟨r5, hc89, hF⟩ := bd_some hF
        refine DWp.drawn (B := [0, 1, 0, 4, 15, 0, 32, 96, 255, 511, 1023, 2047]) 10 mixed (by kernel_rfl) (by decide) fun K hK => ?_
        simp [-aBin', -aBin, -aBinI, -aUn, -aNil, -flatV, n_fn, b_add, b_sub, b_mul, b_lt, b_le, b_gt, b_ge, b_eq, b_ne, u_not, q80, q81, q84, a87.to_pre, ((hx0_0.agree A86.agree).tup), ((S85.sl1 (k := 2) rfl).tup)]
        refine CallD.t (F_spec_swPut_w (fu := fu) (hx0_0.agree A86.agree) (S85.sl1 (k := 2) rfl) hc89) ?_
        rintro c90_u0 G91 ⟨a94, _, rfl, S95⟩
        have A93 := A86.ext (hB.le A86.1) a94.agree
        have S92 : Sep G91 (Fr H) [AL.box p4 [v0_0, v0_1], AL.box p11 [(Value.slice none 0 0), (Value.slice none 0 0)], flat1 v82 3 (ints [(gat 0 x0_1 0)]), flat c90_u0 3 (ints r5)] := S85.app a94.agree S95 (fun _ h => h) (hB.le A86.1)
        have q96 := S92.fieldT (P := Try.prog) (k := 0) rfl fa_26_1
        have q97 := S92.loadF (P := Try.prog) (k := 0) rfl sz_22 ag_22 (off := 1) rfl
        obtain ⟨g98, hF⟩ := gd_some hF
        have q99 := aSub10 (P := Try.prog) (t := 22) (hx0_1.agree A93.agree) el_22 sz_3 g98
        obtain ⟨r6, hc100, hF⟩ := bd_some hF
        simp [-aBin', -aBin, -aBinI, -aUn, -aNil, -flatV, n_fn, b_add, b_sub, b_mul, b_lt, b_le, b_gt, b_ge, b_eq, b_ne, u_not, q80, q81, q84, a87.to_pre, a94.pre, q96, q97, q99, ((subSl (hx0_1.agree A93.agree) g98).tup)]
        refine CallD.t (F_spec_l1Own_w (fu := fu) (subSl (hx0_1.agree A93.agree) g98) hc100) ?_
        rintro c101_u0 G102 ⟨a105, _, rfl, S106⟩
        have A104 := A93.ext (hB.le A93.1) a105.agree
        have S103 : Sep G102 (Fr H) [AL.box p4 [v0_0, v0_1], AL.box p11 [(Value.slice none 0 0), (Value.slice none 0 0)], flat1 v82 3 (ints [(gat 0 x0_1 0)]), flat c90_u0 3 (ints r5), flat c101_u0 3 (ints r6)] := S92.app a105.agree S106 (fun _ h => h) (hB.le A93.1)
        obtain ⟨G107, q108, S109, a111⟩ := S103.putAgg (P := Try.prog) (k := 1) (xs := [c90_u0, c101_u0]) rfl (hB.le A104.1) sz_26 rfl rfl
        have A110 := A104.trans a111
        replace S109 : Sep G107 (Fr H) [AL.box p4 [v0_0, v0_1], AL.box p11 [c90_u0, c101_u0], flat1 v82 3 (ints [(gat 0 x0_1 0)]), flat c90_u0 3 (ints r5), flat c101_u0 3 (ints r6)] := S109
        simp [-aBin', -aBin, -aBinI, -aUn, -aNil, -flatV, n_fn, b_add, b_sub, b_mul, b_lt, b_le, b_gt, b_ge, b_eq, b_ne, u_not, q80, q81, q84, a87.to_pre, a94.pre, q96, q97, q99, ((subSl (hx0_1.agree A93.agree) g98).tup), a105.pre, bu_26 ((S103.sl (k := 3) rfl).tup) ((S103.sl (k := 3) rfl).one) ((S103.sl (k := 4) rfl).tup) ((S103.sl (k := 4) rfl).one), q108]
        apply hK
        clear hK K
        simp only [andThen, leaves]
        refine DWp.ret ?_
        simp only [andThen, leaves]
        have q112 := S109.loadAgg (P := Try.prog) (k := 1) rfl sz_26 ag_26 rfl
        obtain rfl := Option.some.inj hF
        exact ⟨by simp, [(Value.agg #[c90_u0, c101_u0]), (Value.string (ByteArray.mk #[66]))], by simp [q112, ((S109.sl (k := 3) rfl).tup), ((S109.sl (k := 4) rfl).tup)], A110, c90_u0, c101_u0, rfl, S109.pick [3, 4] (by decide) rfl⟩
      · replace hF := cd_f hb79 hF
        refine DWp.seq ?_
        refine DWp.region fun K hK => ?_
        simp [-aBin', -aBin, -aBinI, -aUn, -aNil, -flatV, n_fn, b_add, b_sub, b_mul, b_lt, b_le, b_gt, b_ge, b_eq, b_ne, u_not]
        apply hK
        clear hK K
        simp only [andThen, leaves]
        refine DWp.cond' (t := (ilt (gat 0 x0_0 0) (imul .i64 2 (gat 0 x0_1 0)))) (by simp []) (fun hb113 => ?_) (fun hb113 => ?_)
        · replace hF := cd_t hb113 hF
          refine DWp.seq ?_
          have q114 := S8.fieldT (P := Try.prog) (k := 0) rfl fa_26_0
          have q115 := S8.loadF (P := Try.prog) (k := 0) rfl sz_22 ag_22 (off := 0) rfl
          obtain ⟨v116, G117, q118, S119, a121, fl122⟩ := S8.lit1E (P := Try.prog) (t := 22) (hB.le A10.1) el_22 ei_3 rfl (Value.int .i64 (gat 0 x0_1 0)) rfl rfl
          have A120 := A10.ext (hB.le A10.1) a121
          replace S119 : Sep G117 (Fr H) [AL.box p4 [v0_0, v0_1], AL.box p11 [(Value.slice none 0 0), (Value.slice none 0 0)], flat1 v116 3 (ints [(gat 0 x0_1 0)])] := S119
          obtain ⟨r7, hc123, hF⟩ := bd_some hF
          refine DWp.drawn (B := [0, 1, 0, 4, 15, 0, 32, 0, 128, 0, 896, 1920, 4095, 8191, 16383, 32767]) 14 mixed (by kernel_rfl) (by decide) fun K hK => ?_
          simp [-aBin', -aBin, -aBinI, -aUn, -aNil, -flatV, n_fn, b_add, b_sub, b_mul, b_lt, b_le, b_gt, b_ge, b_eq, b_ne, u_not, q114, q115, q118, a121.to_pre, ((hx0_0.agree A120.agree).tup), ((S119.sl1 (k := 2) rfl).tup)]
          refine CallD.t (F_spec_swPut_w (fu := fu) (hx0_0.agree A120.agree) (S119.sl1 (k := 2) rfl) hc123) ?_
          rintro c124_u0 G125 ⟨a128, _, rfl, S129⟩
          have A127 := A120.ext (hB.le A120.1) a128.agree
          have S126 : Sep G125 (Fr H) [AL.box p4 [v0_0, v0_1], AL.box p11 [(Value.slice none 0 0), (Value.slice none 0 0)], flat1 v116 3 (ints [(gat 0 x0_1 0)]), flat c124_u0 3 (ints r7)] := S119.app a128.agree S129 (fun _ h => h) (hB.le A120.1)
          have q130 := S126.fieldT (P := Try.prog) (k := 0) rfl fa_26_1
          have q131 := S126.loadF (P := Try.prog) (k := 0) rfl sz_22 ag_22 (off := 1) rfl
          obtain ⟨v132, G133, q134, S135, a137, fl138⟩ := S126.lit1E (P := Try.prog) (t := 22) (hB.le A127.1) el_22 ei_3 rfl (Value.int .i64 (isub .i64 (imul .i64 2 (gat 0 x0_1 0)) (gat 0 x0_0 0))) rfl rfl
          have A136 := A127.ext (hB.le A127.1) a137
          replace S135 : Sep G133 (Fr H) [AL.box p4 [v0_0, v0_1], AL.box p11 [(Value.slice none 0 0), (Value.slice none 0 0)], flat1 v116 3 (ints [(gat 0 x0_1 0)]), flat c124_u0 3 (ints r7), flat1 v132 3 (ints [(isub .i64 (imul .i64 2 (gat 0 x0_1 0)) (gat 0 x0_0 0))])] := S135
          obtain ⟨r8, hc139, hF⟩ := bd_some hF
          simp [-aBin', -aBin, -aBinI, -aUn, -aNil, -flatV, n_fn, b_add, b_sub, b_mul, b_lt, b_le, b_gt, b_ge, b_eq, b_ne, u_not, q114, q115, q118, a121.to_pre, a128.pre, q130, q131, q134, a137.to_pre, ((hx0_1.agree A136.agree).tup), ((S135.sl1 (k := 4) rfl).tup)]
          refine CallD.t (F_spec_swPut_w (fu := fu) (hx0_1.agree A136.agree) (S135.sl1 (k := 4) rfl) hc139) ?_
          rintro c140_u0 G141 ⟨a144, _, rfl, S145⟩
          have A143 := A136.ext (hB.le A136.1) a144.agree
          have S142 : Sep G141 (Fr H) [AL.box p4 [v0_0, v0_1], AL.box p11 [(Value.slice none 0 0), (Value.slice none 0 0)], flat1 v116 3 (ints [(gat 0 x0_1 0)]), flat c124_u0 3 (ints r7), flat1 v132 3 (ints [(isub .i64 (imul .i64 2 (gat 0 x0_1 0)) (gat 0 x0_0 0))]), flat c140_u0 3 (ints r8)] := S135.app a144.agree S145 (fun _ h => h) (hB.le A136.1)
          obtain ⟨G146, q147, S148, a150⟩ := S142.putAgg (P := Try.prog) (k := 1) (xs := [c124_u0, c140_u0]) rfl (hB.le A143.1) sz_26 rfl rfl
          have A149 := A143.trans a150
          replace S148 : Sep G146 (Fr H) [AL.box p4 [v0_0, v0_1], AL.box p11 [c124_u0, c140_u0], flat1 v116 3 (ints [(gat 0 x0_1 0)]), flat c124_u0 3 (ints r7), flat1 v132 3 (ints [(isub .i64 (imul .i64 2 (gat 0 x0_1 0)) (gat 0 x0_0 0))]), flat c140_u0 3 (ints r8)] := S148
          simp [-aBin', -aBin, -aBinI, -aUn, -aNil, -flatV, n_fn, b_add, b_sub, b_mul, b_lt, b_le, b_gt, b_ge, b_eq, b_ne, u_not, q114, q115, q118, a121.to_pre, a128.pre, q130, q131, q134, a137.to_pre, a144.pre, bu_26 ((S142.sl (k := 3) rfl).tup) ((S142.sl (k := 3) rfl).one) ((S142.sl (k := 5) rfl).tup) ((S142.sl (k := 5) rfl).one), q147]
          apply hK
          clear hK K
          simp only [andThen, leaves]
          refine DWp.ret ?_
          simp only [andThen, leaves]
          have q151 := S148.loadAgg (P := Try.prog) (k := 1) rfl sz_26 ag_26 rfl
          obtain rfl := Option.some.inj hF
          exact ⟨by simp, [(Value.agg #[c124_u0, c140_u0]), (Value.string (ByteArray.mk #[82]))], by simp [q151, ((S148.sl (k := 3) rfl).tup), ((S148.sl (k := 5) rfl).tup)], A149, c124_u0, c140_u0, rfl, S148.pick [3, 5] (by decide) rfl⟩
        · replace hF := cd_f hb113 hF
          refine DWp.skip ?_
          simp only [andThen, leaves]
          refine DWp.seq ?_
          have q152 := S8.fieldT (P := Try.prog) (k := 0) rfl fa_26_0
          have q153 := S8.loadF (P := Try.prog) (k := 0) rfl sz_22 ag_22 (off := 0) rfl
          obtain ⟨v154, G155, q156, S157, a159, fl160⟩ := S8.lit2E (P := Try.prog) (t := 22) (hB.le A10.1) el_22 ei_3 rfl (Value.int .i64 (isub .i64 (gat 0 x0_0 0) (imul .i64 2 (gat 0 x0_1 0)))) (Value.int .i64 (gat 0 x0_1 0)) rfl rfl rfl rfl
          have A158 := A10.ext (hB.le A10.1) a159
          replace S157 : Sep G155 (Fr H) [AL.box p4 [v0_0, v0_1], AL.box p11 [(Value.slice none 0 0), (Value.slice none 0 0)], flat1 v154 3 (ints [(isub .i64 (gat 0 x0_0 0) (imul .i64 2 (gat 0 x0_1 0))), (gat 0 x0_1 0)])] := S157
          obtain ⟨r9, hc161, hF⟩ := bd_some hF
          refine DWp.drawn (B := [0, 1, 0, 0, 8, 28, 0, 124, 255, 0, 512, 1536, 4095, 8191, 16383, 32767]) 14 mixed (by kernel_rfl) (by decide) fun K hK => ?_
          simp [-aBin', -aBin, -aBinI, -aUn, -aNil, -flatV, n_fn, b_add, b_sub, b_mul, b_lt, b_le, b_gt, b_ge, b_eq, b_ne, u_not, q152, q153, q156, a159.to_pre, ((hx0_0.agree A158.agree).tup), ((S157.sl1 (k := 2) rfl).tup)]
          refine CallD.t (F_spec_swPut_w (fu := fu) (hx0_0.agree A158.agree) (S157.sl1 (k := 2) rfl) hc161) ?_
          rintro c162_u0 G163 ⟨a166, _, rfl, S167⟩
          have A165 := A158.ext (hB.le A158.1) a166.agree
          have S164 : Sep G163 (Fr H) [AL.box p4 [v0_0, v0_1], AL.box p11 [(Value.slice none 0 0), (Value.slice none 0 0)], flat1 v154 3 (ints [(isub .i64 (gat 0 x0_0 0) (imul .i64 2 (gat 0 x0_1 0))), (gat 0 x0_1 0)]), flat c162_u0 3 (ints r9)] := S157.app a166.agree S167 (fun _ h => h) (hB.le A158.1)
          have q168 := S164.fieldT (P := Try.prog) (k := 0) rfl fa_26_1
          have q169 := S164.loadF (P := Try.prog) (k := 0) rfl sz_22 ag_22 (off := 1) rfl
          obtain ⟨g170, hF⟩ := gd_some hF
          have q171 := aSub10 (P := Try.prog) (t := 22) (hx0_1.agree A165.agree) el_22 sz_3 g170
          obtain ⟨r10, hc172, hF⟩ := bd_some hF
          simp [-aBin', -aBin, -aBinI, -aUn, -aNil, -flatV, n_fn, b_add, b_sub, b_mul, b_lt, b_le, b_gt, b_ge, b_eq, b_ne, u_not, q152, q153, q156, a159.to_pre, a166.pre, q168, q169, q171, ((subSl (hx0_1.agree A165.agree) g170).tup)]
          refine CallD.t (F_spec_l1Own_w (fu := fu) (subSl (hx0_1.agree A165.agree) g170) hc172) ?_
          rintro c173_u0 G174 ⟨a177, _, rfl, S178⟩
          have A176 := A165.ext (hB.le A165.1) a177.agree
          have S175 : Sep G174 (Fr H) [AL.box p4 [v0_0, v0_1], AL.box p11 [(Value.slice none 0 0), (Value.slice none 0 0)], flat1 v154 3 (ints [(isub .i64 (gat 0 x0_0 0) (imul .i64 2 (gat 0 x0_1 0))), (gat 0 x0_1 0)]), flat c162_u0 3 (ints r9), flat c173_u0 3 (ints r10)] := S164.app a177.agree S178 (fun _ h => h) (hB.le A165.1)
          obtain ⟨G179, q180, S181, a183⟩ := S175.putAgg (P := Try.prog) (k := 1) (xs := [c162_u0, c173_u0]) rfl (hB.le A176.1) sz_26 rfl rfl
          have A182 := A176.trans a183
          replace S181 : Sep G179 (Fr H) [AL.box p4 [v0_0, v0_1], AL.box p11 [c162_u0, c173_u0], flat1 v154 3 (ints [(isub .i64 (gat 0 x0_0 0) (imul .i64 2 (gat 0 x0_1 0))), (gat 0 x0_1 0)]), flat c162_u0 3 (ints r9), flat c173_u0 3 (ints r10)] := S181
          simp [-aBin', -aBin, -aBinI, -aUn, -aNil, -flatV, n_fn, b_add, b_sub, b_mul, b_lt, b_le, b_gt, b_ge, b_eq, b_ne, u_not, q152, q153, q156, a159.to_pre, a166.pre, q168, q169, q171, ((subSl (hx0_1.agree A165.agree) g170).tup), a177.pre, bu_26 ((S175.sl (k := 3) rfl).tup) ((S175.sl (k := 3) rfl).one) ((S175.sl (k := 4) rfl).tup) ((S175.sl (k := 4) rfl).one), q180]
          apply hK
          clear hK K
          simp only [andThen, leaves]
          refine DWp.ret ?_
          have q184 := S181.loadAgg (P := Try.prog) (k := 1) rfl sz_26 ag_26 rfl
          obtain rfl := Option.some.inj hF
          exact ⟨by simp, [(Value.agg #[c162_u0, c173_u0]), (Value.string (ByteArray.mk #[80]))], by simp [q184, ((S181.sl (k := 3) rfl).tup), ((S181.sl (k := 4) rfl).tup)], A182, c162_u0, c173_u0, rfl, S181.pick [3, 4] (by decide) rfl⟩
/-! loop.example/g01126/spec.WindStep -/
def F_spec_WindStep (fu : Nat) (x0_0 : List Int) (x0_1 : List Int) : Option ((List Int × List Int) × ByteArray × Bool) :=
  bd (
    bd (F_spec_swGood fu x0_0 x0_1) fun r1 =>
    bif (bnot r1) then
      some true
    else
      some (ieq (llen x0_0) 0)) fun s15 =>
  bif s15 then
    some (([], []), (ByteArray.mk #[]), false)
  else
    bd (F_spec_swStep fu x0_0 x0_1) fun r2 =>
    some ((r2.1.1, r2.1.2), r2.2, true)
theorem F_spec_WindStep_w {fu : Nat} {H : AH} {v0_0 : Value} {v0_1 : Value} {x0_0 : List Int} {x0_1 : List Int} {r : ((List Int × List Int) × ByteArray × Bool)} (hx0_0 : Sl H v0_0 (ints x0_0)) (hx0_1 : Sl H v0_1 (ints x0_1)) (hF : F_spec_WindStep fu x0_0 x0_1 = some r) :
    ACallT Try.prog 13 [(Value.agg #[v0_0, v0_1])] H (fun u G => AgB (Fr H) H G ∧ ∃ u0 : Value, ∃ u1 : Value, u = (Value.tuple #[(Value.agg #[u0, u1]), (Value.string r.2.1), (Value.bool r.2.2)]) ∧ Sep G (Fr H) [flat u0 3 (ints r.1.1), flat u1 3 (ints r.1.2)]) := by
  refine ACallT.of_body (nt := 24) (rs := [.cell 2 26, .tmp 3, .tmp 4]) Try.func13 rfl rfl rfl rfl ?_
  have A0 : AgB (Fr H) H H := .refl _ _
  have S0 : Sep H (Fr H) [] := .nil
  have hB := Fr.up H
  unfold F_spec_WindStep at hF
  refine DWp.seq ?_
  obtain ⟨G2, p4, q5, q6, a7, S1⟩ := S0.boxT (hB.le A0.1) 26 [v0_0, v0_1]
  have A3 := A0.ext (hB.le A0.1) a7
  replace S1 : Sep G2 (Fr H) [AL.box p4 [v0_0, v0_1]] := S1
  obtain ⟨G9, p11, q12, q14, a13, S8⟩ := S1.allocT (P := Try.prog) (hB.le A3.1) ze_26 rfl
  have A10 := A3.ext (hB.le A3.1) a13
  replace S8 : Sep G9 (Fr H) [AL.box p4 [v0_0, v0_1], AL.box p11 [(Value.slice none 0 0), (Value.slice none 0 0)]] := S8
  refine DWp.region fun K hK => ?_
  simp [-aBin', -aBin, -aBinI, -aUn, -aNil, -flatV, n_fn, b_add, b_sub, b_mul, b_lt, b_le, b_gt, b_ge, b_eq, b_ne, u_not, q5, q6, a7.to_pre, cells_agg, q12, q14, a13.to_pre]
  apply hK
  clear hK K
  simp only [andThen, leaves]
  refine DWp.seq ?_
  obtain ⟨s15, hL16, hF⟩ := bd_some hF
  refine DWp.seq (DWp.join (fun env G => Sep G (Fr H) [AL.box p4 [v0_0, v0_1], AL.box p11 [(Value.slice none 0 0), (Value.slice none 0 0)]] ∧ AgB (Fr H) H G ∧ env 1 = some p4 ∧ env 2 = some p11 ∧ env 15 = some (Value.bool s15)) ?_ ?_)
  ·
    have q18 := S8.loadAgg (P := Try.prog) (k := 0) rfl sz_26 ag_26 rfl
    obtain ⟨r1, hc19, hL16⟩ := bd_some hL16
    refine DWp.region fun K hK => ?_
    simp [-aBin', -aBin, -aBinI, -aUn, -aNil, -flatV, n_fn, b_add, b_sub, b_mul, b_lt, b_le, b_gt, b_ge, b_eq, b_ne, u_not, q18, ((hx0_0.agree A10.agree).tup), ((hx0_1.agree A10.agree).tup)]
    refine CallD.t (F_spec_swGood_w (fu := fu) (hx0_0.agree A10.agree) (hx0_1.agree A10.agree) hc19) ?_
    rintro _ G21 ⟨a24, rfl, S25⟩
    have A23 := A10.ext (hB.le A10.1) a24.agree
    have S22 : Sep G21 (Fr H) [AL.box p4 [v0_0, v0_1], AL.box p11 [(Value.slice none 0 0), (Value.slice none 0 0)]] := S8.app a24.agree S25 (fun _ h => h) (hB.le A10.1)
    rcases Bool.eq_false_or_eq_true (bnot r1) with hb26 | hb26
    · replace hL16 := cd_t hb26 hL16
      simp [-aBin', -aBin, -aBinI, -aUn, -aNil, -flatV, n_fn, b_add, b_sub, b_mul, b_lt, b_le, b_gt, b_ge, b_eq, b_ne, u_not, hb26, q18, a24.pre]
      apply hK
      clear hK K
      simp only [andThen, leaves]
      have S27 := S22.pick [0, 1] (by decide) rfl
      obtain rfl := Option.some.inj hL16
      exact ⟨S27, A23, by simp [], by simp [], by simp []⟩
    · replace hL16 := cd_f hb26 hL16
      have q28 := S22.fieldT (P := Try.prog) (k := 0) rfl fa_26_0
      have q29 := S22.loadF (P := Try.prog) (k := 0) rfl sz_22 ag_22 (off := 0) rfl
      have q30 := lenG (P := Try.prog) (hx0_0.agree A23.agree) el_22
      simp [-aBin', -aBin, -aBinI, -aUn, -aNil, -flatV, n_fn, b_add, b_sub, b_mul, b_lt, b_le, b_gt, b_ge, b_eq, b_ne, u_not, hb26, q18, a24.pre, q28, q29, q30]
      apply hK
      clear hK K
      simp only [andThen, leaves]
      have S31 := S22.pick [0, 1] (by decide) rfl
      obtain rfl := Option.some.inj hL16
      exact ⟨S31, A23, by simp [], by simp [], by simp []⟩
  · rintro env Gj32 ⟨Sj32, Aj32, ej32_1, ej32_2, ej32_15⟩
    refine DWp.cond' (t := s15) (by simp [ej32_1, ej32_2, ej32_15]) (fun hb33 => ?_) (fun hb33 => ?_)
    · replace hF := cd_t hb33 hF
      refine DWp.seq ?_
      obtain ⟨G34, q35, S36, a38⟩ := Sj32.putAgg (P := Try.prog) (k := 1) (xs := [(Value.slice none 0 0), (Value.slice none 0 0)]) rfl (hB.le Aj32.1) sz_26 rfl rfl
      have A37 := Aj32.trans a38
      replace S36 : Sep G34 (Fr H) [AL.box p4 [v0_0, v0_1], AL.box p11 [(Value.slice none 0 0), (Value.slice none 0 0)]] := S36
      refine DWp.region fun K hK => ?_
      simp [-aBin', -aBin, -aBinI, -aUn, -aNil, -flatV, n_fn, b_add, b_sub, b_mul, b_lt, b_le, b_gt, b_ge, b_eq, b_ne, u_not, ej32_1, ej32_2, ej32_15, build0 (cs := [(Value.slice none 0 0), (Value.slice none 0 0)]) pl_26 rfl rfl, q35]
      apply hK
      clear hK K
      simp only [andThen, leaves]
      refine DWp.ret ?_
      simp only [andThen, leaves]
      have q39 := S36.loadAgg (P := Try.prog) (k := 1) rfl sz_26 ag_26 rfl
      have S40 := S36.nilItem (hB.le A37.1) 3
      have S41 := S40.nilItem (hB.le A37.1) 3
      obtain rfl := Option.some.inj hF
      exact ⟨by simp, [(Value.agg #[(Value.slice none 0 0), (Value.slice none 0 0)]), (Value.string (ByteArray.mk #[])), (Value.bool false)], by simp [ej32_1, ej32_2, ej32_15, q39], A37, (Value.slice none 0 0), (Value.slice none 0 0), rfl, S41.pick [2, 3] (by decide) rfl⟩
    · replace hF := cd_f hb33 hF
      refine DWp.skip ?_
      simp only [andThen, leaves]
      refine DWp.seq ?_
      have q42 := Sj32.loadAgg (P := Try.prog) (k := 0) rfl sz_26 ag_26 rfl
      obtain ⟨r2, hc43, hF⟩ := bd_some hF
      refine DWp.region fun K hK => ?_
      simp [-aBin', -aBin, -aBinI, -aUn, -aNil, -flatV, n_fn, b_add, b_sub, b_mul, b_lt, b_le, b_gt, b_ge, b_eq, b_ne, u_not, ej32_1, ej32_2, ej32_15, q42, ((hx0_0.agree Aj32.agree).tup), ((hx0_1.agree Aj32.agree).tup)]
      refine CallD.t (F_spec_swStep_w (fu := fu) (hx0_0.agree Aj32.agree) (hx0_1.agree Aj32.agree) hc43) ?_
      rintro _ G45 ⟨a48, c44_u0, c44_u1, rfl, S49⟩
      have A47 := Aj32.ext (hB.le Aj32.1) a48.agree
      have S46 : Sep G45 (Fr H) [AL.box p4 [v0_0, v0_1], AL.box p11 [(Value.slice none 0 0), (Value.slice none 0 0)], flat c44_u0 3 (ints r2.1.1), flat c44_u1 3 (ints r2.1.2)] := Sj32.app a48.agree S49 (fun _ h => h) (hB.le Aj32.1)
      obtain ⟨G51, p53, q54, q56, a55, S50⟩ := S46.allocT (P := Try.prog) (hB.le A47.1) ze_26 rfl
      have A52 := A47.ext (hB.le A47.1) a55
      replace S50 : Sep G51 (Fr H) [AL.box p4 [v0_0, v0_1], AL.box p11 [(Value.slice none 0 0), (Value.slice none 0 0)], flat c44_u0 3 (ints r2.1.1), flat c44_u1 3 (ints r2.1.2), AL.box p53 [(Value.slice none 0 0), (Value.slice none 0 0)]] := S50
      obtain ⟨G57, q58, S59, a61⟩ := S50.putAgg (P := Try.prog) (k := 4) (xs := [c44_u0, c44_u1]) rfl (hB.le A52.1) sz_26 rfl rfl
      have A60 := A52.trans a61
      replace S59 : Sep G57 (Fr H) [AL.box p4 [v0_0, v0_1], AL.box p11 [(Value.slice none 0 0), (Value.slice none 0 0)], flat c44_u0 3 (ints r2.1.1), flat c44_u1 3 (ints r2.1.2), AL.box p53 [c44_u0, c44_u1]] := S59
      simp [-aBin', -aBin, -aBinI, -aUn, -aNil, -flatV, n_fn, b_add, b_sub, b_mul, b_lt, b_le, b_gt, b_ge, b_eq, b_ne, u_not, ej32_1, ej32_2, ej32_15, q42, a48.pre, q54, q56, a55.to_pre, q58]
      apply hK
      clear hK K
      simp only [andThen, leaves]
      refine DWp.seq ?_
      have q62 := S59.loadAgg (P := Try.prog) (k := 4) rfl sz_26 ag_26 rfl
      obtain ⟨G63, q64, S65, a67⟩ := S59.putAgg (P := Try.prog) (k := 1) (xs := [c44_u0, c44_u1]) rfl (hB.le A60.1) sz_26 rfl rfl
      have A66 := A60.trans a67
      replace S65 : Sep G63 (Fr H) [AL.box p4 [v0_0, v0_1], AL.box p11 [c44_u0, c44_u1], flat c44_u0 3 (ints r2.1.1), flat c44_u1 3 (ints r2.1.2), AL.box p53 [c44_u0, c44_u1]] := S65
      refine DWp.region fun K hK => ?_
      simp [-aBin', -aBin, -aBinI, -aUn, -aNil, -flatV, n_fn, b_add, b_sub, b_mul, b_lt, b_le, b_gt, b_ge, b_eq, b_ne, u_not, ej32_1, ej32_2, ej32_15, q62, q64]
      apply hK
      clear hK K
      simp only [andThen, leaves]
      refine DWp.ret ?_
      have q68 := S65.loadAgg (P := Try.prog) (k := 1) rfl sz_26 ag_26 rfl
      obtain rfl := Option.some.inj hF
      exact ⟨by simp, [(Value.agg #[c44_u0, c44_u1]), (Value.string r2.2), (Value.bool true)], by simp [ej32_1, ej32_2, ej32_15, q68, ((S65.sl (k := 2) rfl).tup), ((S65.sl (k := 3) rfl).tup)], A66, c44_u0, c44_u1, rfl, S65.pick [2, 3] (by decide) rfl⟩
/-! slices.Clone[[]int,int] -/
def F_slices_Clone_Sint (fu : Nat) (x0 : List Int) : Option (List Int) :=
  gd ((@List.nil Int).length + x0.length ≤ 4294967296) (
  some (lapp (@List.nil Int) x0))
theorem F_slices_Clone_Sint_w {fu : Nat} {H : AH} {v0 : Value} {x0 : List Int} {r : (List Int)} (hx0 : Sl H v0 (ints x0)) (hF : F_slices_Clone_Sint fu x0 = some r) :
    ACallT Try.prog 70 [v0] H (fun u G => AgB (Fr H) H G ∧ ∃ u0 : Value, u = u0 ∧ Sep G (Fr H) [flat u0 3 (ints r)]) := by
  refine ACallT.of_body (nt := 8) (rs := [.tmp 2]) Try.func70 rfl rfl rfl rfl ?_
  have A0 : AgB (Fr H) H H := .refl _ _
  have S0 : Sep H (Fr H) [] := .nil
  have hB := Fr.up H
  by_cases hn0 : v0 = .slice none 0 0
  ·
    subst hn0
    have hx1 : x0 = [] := by
      rcases hx0 with ⟨_, h_⟩ | ⟨_, _, _, _, _, h_, _⟩
      · cases x0 with
        | nil => rfl
        | cons a_ b_ => cases h_
      · cases h_
    subst hx1
    have hF2 : (some [] : Option (List Int)) = some r := by
      rw [← hF]
      unfold F_slices_Clone_Sint
      rw [gd_true (by simp)]
      rfl
    refine DWp.seq ?_
    refine DWp.region fun K hK => ?_
    simp [-aBin', -aBin, -aBinI, -aUn, -aNil, -flatV, n_fn, b_add, b_sub, b_mul, b_lt, b_le, b_gt, b_ge, b_eq, b_ne, u_not]
    apply hK
    clear hK K
    simp only [andThen, leaves]
    refine DWp.seq ?_
    refine DWp.seq ?_
    refine DWp.region fun K hK => ?_
    simp [-aBin', -aBin, -aBinI, -aUn, -aNil, -flatV, n_fn, b_add, b_sub, b_mul, b_lt, b_le, b_gt, b_ge, b_eq, b_ne, u_not, nil_tt us_22]
    apply hK
    clear hK K
    simp only [andThen, leaves]
    refine DWp.ct (by simp [bnot]) ?_
    refine DWp.seq ?_
    refine DWp.region fun K hK => ?_
    simp [-aBin', -aBin, -aBinI, -aUn, -aNil, -flatV, n_fn, b_add, b_sub, b_mul, b_lt, b_le, b_gt, b_ge, b_eq, b_ne, u_not]
    apply hK
    clear hK K
    simp only [andThen, leaves]
    refine DWp.ret ?_
    simp only [andThen, leaves]
    have S1 := S0.nilItem (hB.le A0.1) 3
    obtain rfl := Option.some.inj hF2
    exact ⟨by simp, [(Value.slice none 0 0)], by simp [], A0, (Value.slice none 0 0), rfl, S1.pick [0] (by decide) rfl⟩
  · unfold F_slices_Clone_Sint at hF
    refine DWp.seq ?_
    refine DWp.region fun K hK => ?_
    simp [-aBin', -aBin, -aBinI, -aUn, -aNil, -flatV, n_fn, b_add, b_sub, b_mul, b_lt, b_le, b_gt, b_ge, b_eq, b_ne, u_not]
    apply hK
    clear hK K
    simp only [andThen, leaves]
    refine DWp.seq ?_
    refine DWp.seq ?_
    refine DWp.region fun K hK => ?_
    simp [-aBin', -aBin, -aBinI, -aUn, -aNil, -flatV, n_fn, b_add, b_sub, b_mul, b_lt, b_le, b_gt, b_ge, b_eq, b_ne, u_not, nil_ff us_22 (hx0.agree A0.agree) hn0]
    apply hK
    clear hK K
    simp only [andThen, leaves]
    refine DWp.cf (by simp [bnot]) ?_
    refine DWp.skip ?_
    simp only [andThen, leaves]
    refine DWp.seq ?_
    obtain ⟨v1, G2, q3, S4, a6, _, _⟩ := S0.lit0 (P := Try.prog) (t := 22) (hB.le A0.1) el_22 ei_3 rfl
    have A5 := A0.ext (hB.le A0.1) a6
    replace S4 : Sep G2 (Fr H) [flat1 v1 3 (ints (@List.nil Int))] := S4
    obtain ⟨g8, hF⟩ := gd_some hF
    obtain ⟨v14, G9, q10, S11, a13, _, _⟩ := S4.append1 (f := (Value.int .i64)) (xs := (@List.nil Int)) (ys := x0) (P := Try.prog) (t := 22) (t2 := 22) (k := 0) rfl (hB.le A5.1) el_22 el_22 ei_3 rfl (hx0.agree A5.agree) g8
    have A12 := A5.trans a13
    replace S11 : Sep G9 (Fr H) [flat v14 3 (ints (lapp (@List.nil Int) x0))] := S11
    refine DWp.region fun K hK => ?_
    simp [-aBin', -aBin, -aBinI, -aUn, -aNil, -flatV, n_fn, b_add, b_sub, b_mul, b_lt, b_le, b_gt, b_ge, b_eq, b_ne, u_not, q3, a6.to_pre, q10]
    apply hK
    clear hK K
    simp only [andThen, leaves]
    refine DWp.ret ?_
    obtain rfl := Option.some.inj hF
    exact ⟨by simp, [v14], by simp [((S11.sl (k := 0) rfl).tup)], A12, v14, rfl, S11.pick [0] (by decide) rfl⟩
/-! slices.Grow[[]int,int] -/
def F_slices_Grow_Sint (fu : Nat) (x1 : Int) : Option (List Int) :=
  bd (
    bif (ilt x1 0) then
      none
    else
      some ()) fun s1 =>
  bif (ilt 0 (isub .i64 x1 (isub .i64 0 0))) then
    gd (0 < (isub .i64 x1 (isub .i64 0 0)) ∧ (isub .i64 x1 (isub .i64 0 0)) ≤ 4294967296) (
    gd (subL (lrep (isub .i64 x1 (isub .i64 0 0)) (0 : Int)) 0 0) (
    some (lsub (lrep (isub .i64 x1 (isub .i64 0 0)) (0 : Int)) 0 0)))
  else
    some []
theorem F_slices_Grow_Sint_w {fu : Nat} {H : AH}  {x1 : Int} {r : (List Int)}  (hF : F_slices_Grow_Sint fu x1 = some r) :
    ACallT Try.prog 88 [(Value.slice none 0 0), (Value.int .i64 x1)] H (fun u G => AgB (Fr H) H G ∧ ∃ u0 : Value, u = u0 ∧ Sep G (Fr H) [flat u0 3 (ints r)]) := by
  refine ACallT.of_body (nt := 27) (rs := [.tmp 4]) Try.func88 rfl rfl rfl rfl ?_
  have A0 : AgB (Fr H) H H := .refl _ _
  have S0 : Sep H (Fr H) [] := .nil
  have hB := Fr.up H
  unfold F_slices_Grow_Sint at hF
  refine DWp.seq ?_
  refine DWp.region fun K hK => ?_
  simp [-aBin', -aBin, -aBinI, -aUn, -aNil, -flatV, n_fn, b_add, b_sub, b_mul, b_lt, b_le, b_gt, b_ge, b_eq, b_ne, u_not]
  apply hK
  clear hK K
  simp only [andThen, leaves]
  obtain ⟨s1, hL2, hF⟩ := bd_some hF
  refine DWp.seq (DWp.join (fun env G => Sep G (Fr H) [] ∧ AgB (Fr H) H G ∧ env 0 = some (Value.slice none 0 0) ∧ env 1 = some (Value.int .i64 x1)) ?_ ?_)
  ·
    refine DWp.seq ?_
    refine DWp.region fun K hK => ?_
    simp [-aBin', -aBin, -aBinI, -aUn, -aNil, -flatV, n_fn, b_add, b_sub, b_mul, b_lt, b_le, b_gt, b_ge, b_eq, b_ne, u_not]
    apply hK
    clear hK K
    simp only [andThen, leaves]
    refine DWp.cond' (t := (ilt x1 0)) (by simp []) (fun hb4 => ?_) (fun hb4 => ?_)
    · replace hL2 := cd_t hb4 hL2
      cases hL2
    · replace hL2 := cd_f hb4 hL2
      refine DWp.skip ?_
      simp only [andThen, leaves]
      have S5 := S0.pick [] (by decide) rfl
      obtain rfl := Option.some.inj hL2
      exact ⟨S5, A0, by simp [], by simp []⟩
  · rintro env Gj6 ⟨Sj6, Aj6, ej6_0, ej6_1⟩
    refine DWp.seq ?_
    refine DWp.seq ?_
    refine DWp.region fun K hK => ?_
    simp [-aBin', -aBin, -aBinI, -aUn, -aNil, -flatV, n_fn, b_add, b_sub, b_mul, b_lt, b_le, b_gt, b_ge, b_eq, b_ne, u_not, ej6_0, ej6_1, cap_nil us_22, len_nil el_22]
    apply hK
    clear hK K
    simp only [andThen, leaves]
    refine DWp.seq ?_
    refine DWp.region fun K hK => ?_
    simp [-aBin', -aBin, -aBinI, -aUn, -aNil, -flatV, n_fn, b_add, b_sub, b_mul, b_lt, b_le, b_gt, b_ge, b_eq, b_ne, u_not, ej6_0, ej6_1]
    apply hK
    clear hK K
    simp only [andThen, leaves]
    refine DWp.cond' (t := (ilt 0 (isub .i64 x1 (isub .i64 0 0)))) (by simp [ej6_0, ej6_1]) (fun hb7 => ?_) (fun hb7 => ?_)
    · replace hF := cd_t hb7 hF
      have q9 := slice_nil (P := Try.prog) (H := Gj6) el_22 sz_3
      obtain ⟨g10, hF⟩ := gd_some hF
      obtain ⟨v11, G12, q13, S15, a17, _⟩ := Sj6.apM (f := (Value.int .i64)) (P := Try.prog) (t := 22) (t2 := 3) (hB.le Aj6.1) el_22 ei_3 rfl it_3 0 rfl g10
      have q14 := @apN_none Try.prog Gj6 22 3 (.slice none 0 0) (Value.int .i64 (isub .i64 x1 (isub .i64 0 0))) sd_3
      have A16 := Aj6.ext (hB.le Aj6.1) a17
      replace S15 : Sep G12 (Fr H) [flat v11 3 (ints (lrep (isub .i64 x1 (isub .i64 0 0)) (0 : Int)))] := S15
      obtain ⟨g18, hF⟩ := gd_some hF
      have q19 := aSub01 (P := Try.prog) (t := 22) (S15.sl (k := 0) rfl) el_22 sz_3 g18
      refine DWp.region fun K hK => ?_
      simp [-aBin', -aBin, -aBinI, -aUn, -aNil, -flatV, n_fn, b_add, b_sub, b_mul, b_lt, b_le, b_gt, b_ge, b_eq, b_ne, u_not, ej6_0, ej6_1, cap_nil us_22, q9, q13, q14, a17.to_pre, len_nil el_22, q19, ((subSl (S15.sl (k := 0) rfl) g18).tup)]
      apply hK
      clear hK K
      simp only [andThen, leaves]
      refine DWp.seq ?_
      refine DWp.region fun K hK => ?_
      simp [-aBin', -aBin, -aBinI, -aUn, -aNil, -flatV, n_fn, b_add, b_sub, b_mul, b_lt, b_le, b_gt, b_ge, b_eq, b_ne, u_not, ej6_0, ej6_1]
      apply hK
      clear hK K
      simp only [andThen, leaves]
      refine DWp.ret ?_
      have S20 : Sep G12 (Fr H) [flat (subV v11 0 0) 3 (ints (lsub (lrep (isub .i64 x1 (isub .i64 0 0)) (0 : Int)) 0 0))] := S15.resub (k := 0) rfl g18
      obtain rfl := Option.some.inj hF
      exact ⟨by simp, [(subV v11 0 0)], by simp [ej6_0, ej6_1, ((S20.sl (k := 0) rfl).tup)], A16, (subV v11 0 0), rfl, S20.pick [0] (by decide) rfl⟩
    · replace hF := cd_f hb7 hF
      refine DWp.skip ?_
      simp only [andThen, leaves]
      refine DWp.seq ?_
      refine DWp.region fun K hK => ?_
      simp [-aBin', -aBin, -aBinI, -aUn, -aNil, -flatV, n_fn, b_add, b_sub, b_mul, b_lt, b_le, b_gt, b_ge, b_eq, b_ne, u_not, ej6_0, ej6_1]
      apply hK
      clear hK K
      simp only [andThen, leaves]
      refine DWp.ret ?_
      have S21 := Sj6.nilItem (hB.le Aj6.1) 3
      obtain rfl := Option.some.inj hF
      exact ⟨by simp, [(Value.slice none 0 0)], by simp [ej6_0, ej6_1], Aj6, (Value.slice none 0 0), rfl, S21.pick [0] (by decide) rfl⟩
/-! slices.Concat[[]int,int] -/
def F_slices_Concat_Sint_L2 (fu : Nat) (k2_0 : List (List Int)) (k2_1 : Int) : Nat → List Int → Int → Option (List Int × Int)
  | 0, _, _ => none
  | n + 1, l2_0, y2_27 =>
    bif (ilt y2_27 k2_1) then
      gd (inL k2_0 y2_27) (
      gd (l2_0.length + (gat [] k2_0 y2_27).length ≤ 4294967296) (
      F_slices_Concat_Sint_L2 fu k2_0 k2_1 n (lapp l2_0 (gat [] k2_0 y2_27)) (iadd .i64 y2_27 1)))
    else
      some (l2_0, y2_27)
def F_slices_Concat_Sint_L1 (fu : Nat) (k1_0 : List (List Int)) (k1_1 : Int) : Nat → Int → Int → Option (Int × Int)
  | 0, _, _ => none
  | n + 1, y1_3, y1_11 =>
    bif (ilt y1_11 k1_1) then
      gd (inL k1_0 y1_11) (
      bif (ilt (iadd .i64 y1_3 (llen (gat [] k1_0 y1_11))) 0) then
        none
      else
        F_slices_Concat_Sint_L1 fu k1_0 k1_1 n (iadd .i64 y1_3 (llen (gat [] k1_0 y1_11))) (iadd .i64 y1_11 1))
    else
      some (y1_3, y1_11)
def F_slices_Concat_Sint (fu : Nat) (x0 : List (List Int)) : Option (List Int) :=
  bd (F_slices_Concat_Sint_L1 fu x0 (llen x0) fu 0 0) fun s1 =>
  bd (F_slices_Grow_Sint fu s1.1) fun r1 =>
  bd (F_slices_Concat_Sint_L2 fu x0 (llen x0) fu r1 0) fun s2 =>
  some s2.1
theorem F_slices_Concat_Sint_w {fu : Nat} {H : AH} {v0 : Value} {x0 : List (List Int)} {r : (List Int)} (hx0 : SlSl H v0 (List.map ints x0)) (hF : F_slices_Concat_Sint fu x0 = some r) :
    ACallT Try.prog 77 [v0] H (fun u G => AgB (Fr H) H G ∧ ∃ u0 : Value, u = u0 ∧ Sep G (Fr H) [flat u0 3 (ints r)]) := by
  refine ACallT.of_body (nt := 36) (rs := [.tmp 2]) Try.func77 rfl rfl rfl rfl ?_
  have A0 : AgB (Fr H) H H := .refl _ _
  have S0 : Sep H (Fr H) [] := .nil
  have hB := Fr.up H
  unfold F_slices_Concat_Sint at hF
  obtain ⟨C0, hC0⟩ := hx0.rd
  refine DWp.seq ?_
  refine DWp.region fun K hK => ?_
  simp [-aBin', -aBin, -aBinI, -aUn, -aNil, -flatV, n_fn, b_add, b_sub, b_mul, b_lt, b_le, b_gt, b_ge, b_eq, b_ne, u_not]
  apply hK
  clear hK K
  simp only [andThen, leaves]
  refine DWp.seq ?_
  refine DWp.region fun K hK => ?_
  simp [-aBin', -aBin, -aBinI, -aUn, -aNil, -flatV, n_fn, b_add, b_sub, b_mul, b_lt, b_le, b_gt, b_ge, b_eq, b_ne, u_not]
  apply hK
  clear hK K
  simp only [andThen, leaves]
  refine DWp.seq ?_
  refine DWp.seq ?_
  have q1 := (hC0.agree A0.agree).lenG (P := Try.prog) el_46
  refine DWp.region fun K hK => ?_
  simp [-aBin', -aBin, -aBinI, -aUn, -aNil, -flatV, n_fn, b_add, b_sub, b_mul, b_lt, b_le, b_gt, b_ge, b_eq, b_ne, u_not, q1]
  apply hK
  clear hK K
  simp only [andThen, leaves]
  refine DWp.block ?_
  obtain ⟨s2, hL3, hF⟩ := bd_some hF
  have S4 := S0.pick [] (by decide) rfl
  refine DWp.loop (fun n env G => ∃ y1_3 : Int, ∃ y1_11 : Int, F_slices_Concat_Sint_L1 fu x0 (llen x0) n y1_3 y1_11 = some s2 ∧ Sep G (Fr H) [] ∧ AgB (Fr H) H G ∧ env 0 = some v0 ∧ env 3 = some (Value.int .i64 y1_3) ∧ env 9 = some v0 ∧ env 10 = some (Value.int .i64 (llen x0)) ∧ env 11 = some (Value.int .i64 y1_11)) fu ⟨0, 0, hL3, S4, A0, by simp [], by simp [], by simp [], by simp [], by simp []⟩ ?_
  rintro n1 env1 G1_ ⟨y1_3, y1_11, hL3, S1_, A1_, e1_0, e1_3, e1_9, e1_10, e1_11⟩
  cases n1 with
  | zero => cases hL3
  | succ n1 =>
    simp only [F_slices_Concat_Sint_L1] at hL3
    refine DWp.seq ?_
    refine DWp.region fun K hK => ?_
    simp [-aBin', -aBin, -aBinI, -aUn, -aNil, -flatV, n_fn, b_add, b_sub, b_mul, b_lt, b_le, b_gt, b_ge, b_eq, b_ne, u_not, e1_0, e1_3, e1_9, e1_10, e1_11]
    apply hK
    clear hK K
    simp only [andThen, leaves]
    refine DWp.seq ?_
    refine DWp.cond' (t := (ilt y1_11 (llen x0))) (by simp [e1_0, e1_3, e1_9, e1_10, e1_11]) (fun hb5 => ?_) (fun hb5 => ?_)
    · replace hL3 := cd_t hb5 hL3
      refine DWp.skip ?_
      simp only [andThen, leaves]
      refine DWp.seq ?_
      refine DWp.block ?_
      refine DWp.seq ?_
      obtain ⟨g6, hL3⟩ := gd_some hL3
      have q7 := (hC0.agree A1_.agree).idxG (P := Try.prog) (kk := .i64) el_46 sz_22 g6
      have q8 := (hC0.agree A1_.agree).loadG (P := Try.prog) sz_22 ag_22 g6
      refine DWp.region fun K hK => ?_
      simp [-aBin', -aBin, -aBinI, -aUn, -aNil, -flatV, n_fn, b_add, b_sub, b_mul, b_lt, b_le, b_gt, b_ge, b_eq, b_ne, u_not, e1_0, e1_3, e1_9, e1_10, e1_11, q7, q8]
      apply hK
      clear hK K
      simp only [andThen, leaves]
      refine DWp.seq ?_
      have q9 := lenG (P := Try.prog) ((hC0.agree A1_.agree).rowAt [] g6) el_22
      refine DWp.region fun K hK => ?_
      simp [-aBin', -aBin, -aBinI, -aUn, -aNil, -flatV, n_fn, b_add, b_sub, b_mul, b_lt, b_le, b_gt, b_ge, b_eq, b_ne, u_not, e1_0, e1_3, e1_9, e1_10, e1_11, q9]
      apply hK
      clear hK K
      simp only [andThen, leaves]
      refine DWp.seq ?_
      refine DWp.region fun K hK => ?_
      simp [-aBin', -aBin, -aBinI, -aUn, -aNil, -flatV, n_fn, b_add, b_sub, b_mul, b_lt, b_le, b_gt, b_ge, b_eq, b_ne, u_not, e1_0, e1_3, e1_9, e1_10, e1_11]
      apply hK
      clear hK K
      simp only [andThen, leaves]
      refine DWp.cond' (t := (ilt (iadd .i64 y1_3 (llen (gat [] x0 y1_11))) 0)) (by simp [e1_0, e1_3, e1_9, e1_10, e1_11]) (fun hb10 => ?_) (fun hb10 => ?_)
      · replace hL3 := cd_t hb10 hL3
        cases hL3
      · replace hL3 := cd_f hb10 hL3
        refine DWp.skip ?_
        simp only [andThen, leaves]
        refine DWp.region fun K hK => ?_
        simp [-aBin', -aBin, -aBinI, -aUn, -aNil, -flatV, n_fn, b_add, b_sub, b_mul, b_lt, b_le, b_gt, b_ge, b_eq, b_ne, u_not, e1_0, e1_3, e1_9, e1_10, e1_11]
        apply hK
        clear hK K
        simp only [andThen, leaves]
        have S11 := S1_.pick [] (by decide) rfl
        exact ⟨n1, Nat.lt_succ_self _, (iadd .i64 y1_3 (llen (gat [] x0 y1_11))), (iadd .i64 y1_11 1), hL3, S11, A1_, by simp [e1_0, e1_3, e1_9, e1_10, e1_11], by simp [e1_0, e1_3, e1_9, e1_10, e1_11], by simp [e1_0, e1_3, e1_9, e1_10, e1_11], by simp [e1_0, e1_3, e1_9, e1_10, e1_11], by simp [e1_0, e1_3, e1_9, e1_10, e1_11]⟩
    · replace hL3 := cd_f hb5 hL3
      refine DWp.exit ?_
      simp only [andThen, leaves, if_true, if_false, reduceIte, Nat.reduceEqDiff]
      obtain rfl := Option.some.inj hL3
      try dsimp only at hF
      refine DWp.seq ?_
      obtain ⟨r1, hc12, hF⟩ := bd_some hF
      refine DWp.region fun K hK => ?_
      simp [-aBin', -aBin, -aBinI, -aUn, -aNil, -flatV, n_fn, b_add, b_sub, b_mul, b_lt, b_le, b_gt, b_ge, b_eq, b_ne, u_not, e1_0, e1_3, e1_9, e1_10, e1_11]
      refine CallD.t (F_slices_Grow_Sint_w (fu := fu)  hc12) ?_
      rintro c13_u0 G14 ⟨a17, _, rfl, S18⟩
      have A16 := A1_.ext (hB.le A1_.1) a17.agree
      have S15 : Sep G14 (Fr H) [flat c13_u0 3 (ints r1)] := S1_.app a17.agree S18 (fun _ h => h) (hB.le A1_.1)
      simp [-aBin', -aBin, -aBinI, -aUn, -aNil, -flatV, n_fn, b_add, b_sub, b_mul, b_lt, b_le, b_gt, b_ge, b_eq, b_ne, u_not, e1_0, e1_3, e1_9, e1_10, e1_11, a17.pre]
      apply hK
      clear hK K
      simp only [andThen, leaves]
      refine DWp.seq ?_
      refine DWp.seq ?_
      have q19 := (hC0.agree A16.agree).lenG (P := Try.prog) el_46
      refine DWp.region fun K hK => ?_
      simp [-aBin', -aBin, -aBinI, -aUn, -aNil, -flatV, n_fn, b_add, b_sub, b_mul, b_lt, b_le, b_gt, b_ge, b_eq, b_ne, u_not, e1_0, e1_3, e1_9, e1_10, e1_11, q19]
      apply hK
      clear hK K
      simp only [andThen, leaves]
      refine DWp.block ?_
      obtain ⟨s20, hL21, hF⟩ := bd_some hF
      have S22 := S15.pick [0] (by decide) rfl
      refine DWp.loop (fun n env G => ∃ l2_0 : List Int, ∃ y2_27 : Int, ∃ w2_0 : Value, F_slices_Concat_Sint_L2 fu x0 (llen x0) n l2_0 y2_27 = some s20 ∧ Sep G (Fr H) [flat w2_0 3 (ints l2_0)] ∧ AgB (Fr H) H G ∧ env 6 = some w2_0 ∧ env 25 = some v0 ∧ env 26 = some (Value.int .i64 (llen x0)) ∧ env 27 = some (Value.int .i64 y2_27)) fu ⟨r1, 0, c13_u0, hL21, S22, A16, by simp [e1_0, e1_3, e1_9, e1_10, e1_11], by simp [e1_0, e1_3, e1_9, e1_10, e1_11], by simp [e1_0, e1_3, e1_9, e1_10, e1_11], by simp [e1_0, e1_3, e1_9, e1_10, e1_11]⟩ ?_
      rintro n1 env1 G1_ ⟨l2_0, y2_27, w2_0, hL21, S1_, A1_, e1_6, e1_25, e1_26, e1_27⟩
      cases n1 with
      | zero => cases hL21
      | succ n1 =>
        simp only [F_slices_Concat_Sint_L2] at hL21
        refine DWp.seq ?_
        refine DWp.region fun K hK => ?_
        simp [-aBin', -aBin, -aBinI, -aUn, -aNil, -flatV, n_fn, b_add, b_sub, b_mul, b_lt, b_le, b_gt, b_ge, b_eq, b_ne, u_not, e1_6, e1_25, e1_26, e1_27]
        apply hK
        clear hK K
        simp only [andThen, leaves]
        refine DWp.seq ?_
        refine DWp.cond' (t := (ilt y2_27 (llen x0))) (by simp [e1_6, e1_25, e1_26, e1_27]) (fun hb23 => ?_) (fun hb23 => ?_)
        · replace hL21 := cd_t hb23 hL21
          refine DWp.skip ?_
          simp only [andThen, leaves]
          refine DWp.seq ?_
          refine DWp.block ?_
          refine DWp.seq ?_
          obtain ⟨g24, hL21⟩ := gd_some hL21
          have q25 := (hC0.agree A1_.agree).idxG (P := Try.prog) (kk := .i64) el_46 sz_22 g24
          have q26 := (hC0.agree A1_.agree).loadG (P := Try.prog) sz_22 ag_22 g24
          refine DWp.region fun K hK => ?_
          simp [-aBin', -aBin, -aBinI, -aUn, -aNil, -flatV, n_fn, b_add, b_sub, b_mul, b_lt, b_le, b_gt, b_ge, b_eq, b_ne, u_not, e1_6, e1_25, e1_26, e1_27, q25, q26]
          apply hK
          clear hK K
          simp only [andThen, leaves]
          obtain ⟨g27, hL21⟩ := gd_some hL21
          obtain ⟨v33, G28, q29, S30, a32, _, _⟩ := S1_.appendG (f := (Value.int .i64)) (xs := l2_0) (ys := (gat [] x0 y2_27)) (P := Try.prog) (t := 22) (t2 := 22) (k := 0) rfl (hB.le A1_.1) el_22 el_22 ei_3 rfl ((hC0.agree A1_.agree).rowAt [] g24) g27
          have A31 := A1_.trans a32
          replace S30 : Sep G28 (Fr H) [flat v33 3 (ints (lapp l2_0 (gat [] x0 y2_27)))] := S30
          refine DWp.region fun K hK => ?_
          simp [-aBin', -aBin, -aBinI, -aUn, -aNil, -flatV, n_fn, b_add, b_sub, b_mul, b_lt, b_le, b_gt, b_ge, b_eq, b_ne, u_not, e1_6, e1_25, e1_26, e1_27, q29]
          apply hK
          clear hK K
          simp only [andThen, leaves]
          refine DWp.region fun K hK => ?_
          simp [-aBin', -aBin, -aBinI, -aUn, -aNil, -flatV, n_fn, b_add, b_sub, b_mul, b_lt, b_le, b_gt, b_ge, b_eq, b_ne, u_not, e1_6, e1_25, e1_26, e1_27]
          apply hK
          clear hK K
          simp only [andThen, leaves]
          have S34 := S30.pick [0] (by decide) rfl
          exact ⟨n1, Nat.lt_succ_self _, (lapp l2_0 (gat [] x0 y2_27)), (iadd .i64 y2_27 1), v33, hL21, S34, A31, by simp [e1_6, e1_25, e1_26, e1_27], by simp [e1_6, e1_25, e1_26, e1_27], by simp [e1_6, e1_25, e1_26, e1_27], by simp [e1_6, e1_25, e1_26, e1_27]⟩
        · replace hL21 := cd_f hb23 hL21
          refine DWp.exit ?_
          simp only [andThen, leaves, if_true, if_false, reduceIte, Nat.reduceEqDiff]
          obtain rfl := Option.some.inj hL21
          try dsimp only at hF
          refine DWp.seq ?_
          refine DWp.region fun K hK => ?_
          simp [-aBin', -aBin, -aBinI, -aUn, -aNil, -flatV, n_fn, b_add, b_sub, b_mul, b_lt, b_le, b_gt, b_ge, b_eq, b_ne, u_not, e1_6, e1_25, e1_26, e1_27]
          apply hK
          clear hK K
          simp only [andThen, leaves]
          refine DWp.ret ?_
          obtain rfl := Option.some.inj hF
          exact ⟨by simp, [w2_0], by simp [e1_6, e1_25, e1_26, e1_27, ((S1_.sl (k := 0) rfl).tup)], A1_, w2_0, rfl, S1_.pick [0] (by decide) rfl⟩
/-! (loop.example/g01126/impl.Seaweed).wound -/
def F_impl_Seaweed_wound (fu : Nat) (x0_0 : List Int) (x0_1 : List Int) : Option ((List Int × List Int) × ByteArray) :=
  gd (inL x0_0 0) (
  gd (inL x0_1 0) (
  gd (subL x0_0 1 (llen x0_0)) (
  gd (subL x0_1 1 (llen x0_1)) (
  bif (ilt (gat 0 x0_0 0) (gat 0 x0_1 0)) then
    bd (F_slices_Clone_Sint fu x0_1) fun r1 =>
    bd (F_slices_Clone_Sint fu x0_0) fun r2 =>
    some ((r1, r2), (ByteArray.mk #[70]))
  else
    bif (ieq (gat 0 x0_0 0) (gat 0 x0_1 0)) then
      bd (F_slices_Clone_Sint fu (lsub x0_0 1 (llen x0_0))) fun r3 =>
      bd (F_slices_Clone_Sint fu (lsub x0_1 1 (llen x0_1))) fun r4 =>
      some ((r3, r4), (ByteArray.mk #[67]))
    else
      bif (ieq (gat 0 x0_0 0) (imul .i64 2 (gat 0 x0_1 0))) then
        bd (F_slices_Concat_Sint fu [[(gat 0 x0_1 0)], (lsub x0_0 1 (llen x0_0))]) fun r5 =>
        bd (F_slices_Clone_Sint fu (lsub x0_1 1 (llen x0_1))) fun r6 =>
        some ((r5, r6), (ByteArray.mk #[66]))
      else
        bif (ilt (gat 0 x0_0 0) (imul .i64 2 (gat 0 x0_1 0))) then
          bd (F_slices_Concat_Sint fu [[(gat 0 x0_1 0)], (lsub x0_0 1 (llen x0_0))]) fun r7 =>
          bd (F_slices_Concat_Sint fu [[(isub .i64 (imul .i64 2 (gat 0 x0_1 0)) (gat 0 x0_0 0))], (lsub x0_1 1 (llen x0_1))]) fun r8 =>
          some ((r7, r8), (ByteArray.mk #[82]))
        else
          bd (F_slices_Concat_Sint fu [[(isub .i64 (gat 0 x0_0 0) (imul .i64 2 (gat 0 x0_1 0))), (gat 0 x0_1 0)], (lsub x0_0 1 (llen x0_0))]) fun r9 =>
          bd (F_slices_Clone_Sint fu (lsub x0_1 1 (llen x0_1))) fun r10 =>
          some ((r9, r10), (ByteArray.mk #[80]))))))
theorem F_impl_Seaweed_wound_w {fu : Nat} {H : AH} {v0_0 : Value} {v0_1 : Value} {x0_0 : List Int} {x0_1 : List Int} {r : ((List Int × List Int) × ByteArray)} (hx0_0 : Sl H v0_0 (ints x0_0)) (hx0_1 : Sl H v0_1 (ints x0_1)) (hF : F_impl_Seaweed_wound fu x0_0 x0_1 = some r) :
    ACallT Try.prog 57 [(Value.agg #[v0_0, v0_1])] H (fun u G => AgB (Fr H) H G ∧ ∃ u0 : Value, ∃ u1 : Value, u = (Value.tuple #[(Value.agg #[u0, u1]), (Value.string r.2)]) ∧ Sep G (Fr H) [flat u0 3 (ints r.1.1), flat u1 3 (ints r.1.2)]) := by
  refine ACallT.of_body (nt := 86) (rs := [.cell 2 26, .tmp 3]) Try.func57 rfl rfl rfl rfl ?_
  have A0 : AgB (Fr H) H H := .refl _ _
  have S0 : Sep H (Fr H) [] := .nil
  have hB := Fr.up H
  unfold F_impl_Seaweed_wound at hF
  refine DWp.seq ?_
  obtain ⟨G2, p4, q5, q6, a7, S1⟩ := S0.boxT (hB.le A0.1) 26 [v0_0, v0_1]
  have A3 := A0.ext (hB.le A0.1) a7
  replace S1 : Sep G2 (Fr H) [AL.box p4 [v0_0, v0_1]] := S1
  obtain ⟨G9, p11, q12, q14, a13, S8⟩ := S1.allocT (P := Try.prog) (hB.le A3.1) ze_26 rfl
  have A10 := A3.ext (hB.le A3.1) a13
  replace S8 : Sep G9 (Fr H) [AL.box p4 [v0_0, v0_1], AL.box p11 [(Value.slice none 0 0), (Value.slice none 0 0)]] := S8
  refine DWp.region fun K hK => ?_
  simp [-aBin', -aBin, -aBinI, -aUn, -aNil, -flatV, n_fn, b_add, b_sub, b_mul, b_lt, b_le, b_gt, b_ge, b_eq, b_ne, u_not, q5, q6, a7.to_pre, cells_agg, q12, q14, a13.to_pre]
  apply hK
  clear hK K
  simp only [andThen, leaves]
  refine DWp.seq ?_
  have q15 := S8.fieldT (P := Try.prog) (k := 0) rfl fa_26_0
  have q16 := S8.loadF (P := Try.prog) (k := 0) rfl sz_22 ag_22 (off := 0) rfl
  obtain ⟨g17, hF⟩ := gd_some hF
  have q18 := idxG (P := Try.prog) (kk := .i64) (hx0_0.agree A10.agree) el_22 sz_3 g17
  replace q18 : aIndexAddr Try.prog G9 22 v0_0 (Value.int .i64 0) = some (elP v0_0 0) := q18
  have q19 := loadG (P := Try.prog) (hx0_0.agree A10.agree) sz_3 ag_3 g17 0
  replace q19 : aLoad Try.prog G9 3 (elP v0_0 0) = some (Value.int .i64 (gat 0 x0_0 0)) := q19
  have q20 := S8.fieldT (P := Try.prog) (k := 0) rfl fa_26_1
  have q21 := S8.loadF (P := Try.prog) (k := 0) rfl sz_22 ag_22 (off := 1) rfl
  obtain ⟨g22, hF⟩ := gd_some hF
  have q23 := idxG (P := Try.prog) (kk := .i64) (hx0_1.agree A10.agree) el_22 sz_3 g22
  replace q23 : aIndexAddr Try.prog G9 22 v0_1 (Value.int .i64 0) = some (elP v0_1 0) := q23
  have q24 := loadG (P := Try.prog) (hx0_1.agree A10.agree) sz_3 ag_3 g22 0
  replace q24 : aLoad Try.prog G9 3 (elP v0_1 0) = some (Value.int .i64 (gat 0 x0_1 0)) := q24
  refine DWp.drawn (B := [0, 1, 3, 7, 0, 16, 48, 112, 15, 511]) 10 mixed (by kernel_rfl) (by decide) fun K hK => ?_
  simp [-aBin', -aBin, -aBinI, -aUn, -aNil, -flatV, n_fn, b_add, b_sub, b_mul, b_lt, b_le, b_gt, b_ge, b_eq, b_ne, u_not, q15, q16, q18, q19, q20, q21, q23, q24]
  apply hK
  clear hK K
  simp only [andThen, leaves]
  refine DWp.seq ?_
  have q25 := S8.fieldT (P := Try.prog) (k := 0) rfl fa_26_0
  have q26 := S8.loadF (P := Try.prog) (k := 0) rfl sz_22 ag_22 (off := 0) rfl
  obtain ⟨g27, hF⟩ := gd_some hF
  have q28 := aSub10 (P := Try.prog) (t := 22) (hx0_0.agree A10.agree) el_22 sz_3 g27
  have q29 := S8.fieldT (P := Try.prog) (k := 0) rfl fa_26_1
  have q30 := S8.loadF (P := Try.prog) (k := 0) rfl sz_22 ag_22 (off := 1) rfl
  obtain ⟨g31, hF⟩ := gd_some hF
  have q32 := aSub10 (P := Try.prog) (t := 22) (hx0_1.agree A10.agree) el_22 sz_3 g31
  refine DWp.drawn (B := [0, 1, 3, 0, 8, 24, 7, 127]) 8 mixed (by kernel_rfl) (by decide) fun K hK => ?_
  simp [-aBin', -aBin, -aBinI, -aUn, -aNil, -flatV, n_fn, b_add, b_sub, b_mul, b_lt, b_le, b_gt, b_ge, b_eq, b_ne, u_not, q25, q26, q28, ((subSl (hx0_0.agree A10.agree) g27).tup), q29, q30, q32, ((subSl (hx0_1.agree A10.agree) g31).tup)]
  apply hK
  clear hK K
  simp only [andThen, leaves]
  refine DWp.seq ?_
  refine DWp.block ?_
  refine DWp.seq ?_
  refine DWp.region fun K hK => ?_
  simp [-aBin', -aBin, -aBinI, -aUn, -aNil, -flatV, n_fn, b_add, b_sub, b_mul, b_lt, b_le, b_gt, b_ge, b_eq, b_ne, u_not]
  apply hK
  clear hK K
  simp only [andThen, leaves]
  refine DWp.cond' (t := (ilt (gat 0 x0_0 0) (gat 0 x0_1 0))) (by simp []) (fun hb33 => ?_) (fun hb33 => ?_)
  · replace hF := cd_t hb33 hF
    refine DWp.seq ?_
    have q34 := S8.fieldT (P := Try.prog) (k := 0) rfl fa_26_1
    have q35 := S8.loadF (P := Try.prog) (k := 0) rfl sz_22 ag_22 (off := 1) rfl
    obtain ⟨r1, hc36, hF⟩ := bd_some hF
    refine DWp.drawn (B := [0, 1, 3, 0, 8, 31, 63, 127, 255]) 7 mixed (by kernel_rfl) (by decide) fun K hK => ?_
    simp [-aBin', -aBin, -aBinI, -aUn, -aNil, -flatV, n_fn, b_add, b_sub, b_mul, b_lt, b_le, b_gt, b_ge, b_eq, b_ne, u_not, q34, q35, ((hx0_1.agree A10.agree).tup)]
    refine CallD.t (F_slices_Clone_Sint_w (fu := fu) (hx0_1.agree A10.agree) hc36) ?_
    rintro c37_u0 G38 ⟨a41, _, rfl, S42⟩
    have A40 := A10.ext (hB.le A10.1) a41.agree
    have S39 : Sep G38 (Fr H) [AL.box p4 [v0_0, v0_1], AL.box p11 [(Value.slice none 0 0), (Value.slice none 0 0)], flat c37_u0 3 (ints r1)] := S8.app a41.agree S42 (fun _ h => h) (hB.le A10.1)
    have q43 := S39.fieldT (P := Try.prog) (k := 0) rfl fa_26_0
    have q44 := S39.loadF (P := Try.prog) (k := 0) rfl sz_22 ag_22 (off := 0) rfl
    obtain ⟨r2, hc45, hF⟩ := bd_some hF
    simp [-aBin', -aBin, -aBinI, -aUn, -aNil, -flatV, n_fn, b_add, b_sub, b_mul, b_lt, b_le, b_gt, b_ge, b_eq, b_ne, u_not, q34, q35, a41.pre, q43, q44, ((hx0_0.agree A40.agree).tup)]
    refine CallD.t (F_slices_Clone_Sint_w (fu := fu) (hx0_0.agree A40.agree) hc45) ?_
    rintro c46_u0 G47 ⟨a50, _, rfl, S51⟩
    have A49 := A40.ext (hB.le A40.1) a50.agree
    have S48 : Sep G47 (Fr H) [AL.box p4 [v0_0, v0_1], AL.box p11 [(Value.slice none 0 0), (Value.slice none 0 0)], flat c37_u0 3 (ints r1), flat c46_u0 3 (ints r2)] := S39.app a50.agree S51 (fun _ h => h) (hB.le A40.1)
    obtain ⟨G52, q53, S54, a56⟩ := S48.putAgg (P := Try.prog) (k := 1) (xs := [c37_u0, c46_u0]) rfl (hB.le A49.1) sz_26 rfl rfl
    have A55 := A49.trans a56
    replace S54 : Sep G52 (Fr H) [AL.box p4 [v0_0, v0_1], AL.box p11 [c37_u0, c46_u0], flat c37_u0 3 (ints r1), flat c46_u0 3 (ints r2)] := S54
    simp [-aBin', -aBin, -aBinI, -aUn, -aNil, -flatV, n_fn, b_add, b_sub, b_mul, b_lt, b_le, b_gt, b_ge, b_eq, b_ne, u_not, q34, q35, a41.pre, q43, q44, a50.pre, bu_26 ((S48.sl (k := 2) rfl).tup) ((S48.sl (k := 2) rfl).one) ((S48.sl (k := 3) rfl).tup) ((S48.sl (k := 3) rfl).one), q53]
    apply hK
    clear hK K
    simp only [andThen, leaves]
    refine DWp.ret ?_
    simp only [andThen, leaves]
    have q57 := S54.loadAgg (P := Try.prog) (k := 1) rfl sz_26 ag_26 rfl
    obtain rfl := Option.some.inj hF
    exact ⟨by simp, [(Value.agg #[c37_u0, c46_u0]), (Value.string (ByteArray.mk #[70]))], by simp [q57, ((S54.sl (k := 2) rfl).tup), ((S54.sl (k := 3) rfl).tup)], A55, c37_u0, c46_u0, rfl, S54.pick [2, 3] (by decide) rfl⟩
  · replace hF := cd_f hb33 hF
    refine DWp.seq ?_
    refine DWp.region fun K hK => ?_
    simp [-aBin', -aBin, -aBinI, -aUn, -aNil, -flatV, n_fn, b_add, b_sub, b_mul, b_lt, b_le, b_gt, b_ge, b_eq, b_ne, u_not]
    apply hK
    clear hK K
    simp only [andThen, leaves]
    refine DWp.cond' (t := (ieq (gat 0 x0_0 0) (gat 0 x0_1 0))) (by simp []) (fun hb58 => ?_) (fun hb58 => ?_)
    · replace hF := cd_t hb58 hF
      refine DWp.seq ?_
      obtain ⟨r3, hc59, hF⟩ := bd_some hF
      refine DWp.region fun K hK => ?_
      simp [-aBin', -aBin, -aBinI, -aUn, -aNil, -flatV, n_fn, b_add, b_sub, b_mul, b_lt, b_le, b_gt, b_ge, b_eq, b_ne, u_not, ((subSl (hx0_0.agree A10.agree) g27).tup)]
      refine CallD.t (F_slices_Clone_Sint_w (fu := fu) (subSl (hx0_0.agree A10.agree) g27) hc59) ?_
      rintro c60_u0 G61 ⟨a64, _, rfl, S65⟩
      have A63 := A10.ext (hB.le A10.1) a64.agree
      have S62 : Sep G61 (Fr H) [AL.box p4 [v0_0, v0_1], AL.box p11 [(Value.slice none 0 0), (Value.slice none 0 0)], flat c60_u0 3 (ints r3)] := S8.app a64.agree S65 (fun _ h => h) (hB.le A10.1)
      obtain ⟨r4, hc66, hF⟩ := bd_some hF
      simp [-aBin', -aBin, -aBinI, -aUn, -aNil, -flatV, n_fn, b_add, b_sub, b_mul, b_lt, b_le, b_gt, b_ge, b_eq, b_ne, u_not, a64.pre, ((subSl (hx0_1.agree A63.agree) g31).tup)]
      refine CallD.t (F_slices_Clone_Sint_w (fu := fu) (subSl (hx0_1.agree A63.agree) g31) hc66) ?_
      rintro c67_u0 G68 ⟨a71, _, rfl, S72⟩
      have A70 := A63.ext (hB.le A63.1) a71.agree
      have S69 : Sep G68 (Fr H) [AL.box p4 [v0_0, v0_1], AL.box p11 [(Value.slice none 0 0), (Value.slice none 0 0)], flat c60_u0 3 (ints r3), flat c67_u0 3 (ints r4)] := S62.app a71.agree S72 (fun _ h => h) (hB.le A63.1)
      obtain ⟨G73, q74, S75, a77⟩ := S69.putAgg (P := Try.prog) (k := 1) (xs := [c60_u0, c67_u0]) rfl (hB.le A70.1) sz_26 rfl rfl
      have A76 := A70.trans a77
      replace S75 : Sep G73 (Fr H) [AL.box p4 [v0_0, v0_1], AL.box p11 [c60_u0, c67_u0], flat c60_u0 3 (ints r3), flat c67_u0 3 (ints r4)] := S75
      simp [-aBin', -aBin, -aBinI, -aUn, -aNil, -flatV, n_fn, b_add, b_sub, b_mul, b_lt, b_le, b_gt, b_ge, b_eq, b_ne, u_not, a64.pre, a71.pre, bu_26 ((S69.sl (k := 2) rfl).tup) ((S69.sl (k := 2) rfl).one) ((S69.sl (k := 3) rfl).tup) ((S69.sl (k := 3) rfl).one), q74]
      apply hK
      clear hK K
      simp only [andThen, leaves]
      refine DWp.ret ?_
      simp only [andThen, leaves]
      have q78 := S75.loadAgg (P := Try.prog) (k := 1) rfl sz_26 ag_26 rfl
      obtain rfl := Option.some.inj hF
      exact ⟨by simp, [(Value.agg #[c60_u0, c67_u0]), (Value.string (ByteArray.mk #[67]))], by simp [q78, ((S75.sl (k := 2) rfl).tup), ((S75.sl (k := 3) rfl).tup)], A76, c60_u0, c67_u0, rfl, S75.pick [2, 3] (by decide) rfl⟩
    · replace hF := cd_f hb58 hF
      refine DWp.seq ?_
      refine DWp.region fun K hK => ?_
      simp [-aBin', -aBin, -aBinI, -aUn, -aNil, -flatV, n_fn, b_add, b_sub, b_mul, b_lt, b_le, b_gt, b_ge, b_eq, b_ne, u_not]
      apply hK
      clear hK K
      simp only [andThen, leaves]
      refine DWp.cond' (t := (ieq (gat 0 x0_0 0) (imul .i64 2 (gat 0 x0_1 0)))) (by simp []) (fun hb79 => ?_) (fun hb79 => ?_)
      · replace hF := cd_t hb79 hF
        refine DWp.seq ?_
        obtain ⟨v80, G81, q82, S83, a85, _, _⟩ := S8.lit1 (P := Try.prog) (t := 22) (hB.le A10.1) el_22 ei_3 rfl (Value.int .i64 (gat 0 x0_1 0)) rfl rfl
        have A84 := A10.ext (hB.le A10.1) a85
        replace S83 : Sep G81 (Fr H) [AL.box p4 [v0_0, v0_1], AL.box p11 [(Value.slice none 0 0), (Value.slice none 0 0)], flat1 v80 3 (ints [(gat 0 x0_1 0)])] := S83
        obtain ⟨v87, G88, q89, S90, a92, _, _⟩ := S83.lit2 (P := Try.prog) (t := 46) (hB.le A84.1) el_46 ei_22 rfl v80 (subV v0_0 1 (llen x0_0)) ((S83.sl1 (k := 2) rfl).tup) ((S83.sl1 (k := 2) rfl).one) ((subSl (hx0_0.agree A84.agree) g27).tup) ((subSl (hx0_0.agree A84.agree) g27).one)
        have A91 := A84.ext (hB.le A84.1) a92
        replace S90 : Sep G88 (Fr H) [AL.box p4 [v0_0, v0_1], AL.box p11 [(Value.slice none 0 0), (Value.slice none 0 0)], flat1 v80 3 (ints [(gat 0 x0_1 0)]), flat1 v87 22 [v80, (subV v0_0 1 (llen x0_0))]] := S90
        obtain ⟨r5, hc93, hF⟩ := bd_some hF
        refine DWp.region fun K hK => ?_
        simp [-aBin', -aBin, -aBinI, -aUn, -aNil, -flatV, n_fn, b_add, b_sub, b_mul, b_lt, b_le, b_gt, b_ge, b_eq, b_ne, u_not, q82, a85.to_pre, q89, a92.to_pre, ((S83.sl1 (k := 2) rfl).tup), ((subSl (hx0_0.agree A84.agree) g27).tup), ((S90.sl1 (k := 3) rfl).tup)]
        refine CallD.t (F_slices_Concat_Sint_w (fu := fu) (SlSl.two (S90.sl1 (k := 3) rfl) (S90.sl1 (k := 2) rfl) (subSl (hx0_0.agree A91.agree) g27)) hc93) ?_
        rintro c94_u0 G95 ⟨a98, _, rfl, S99⟩
        have A97 := A91.ext (hB.le A91.1) a98.agree
        have S96 : Sep G95 (Fr H) [AL.box p4 [v0_0, v0_1], AL.box p11 [(Value.slice none 0 0), (Value.slice none 0 0)], flat1 v80 3 (ints [(gat 0 x0_1 0)]), flat1 v87 22 [v80, (subV v0_0 1 (llen x0_0))], flat c94_u0 3 (ints r5)] := S90.app a98.agree S99 (fun _ h => h) (hB.le A91.1)
        obtain ⟨r6, hc100, hF⟩ := bd_some hF
        simp [-aBin', -aBin, -aBinI, -aUn, -aNil, -flatV, n_fn, b_add, b_sub, b_mul, b_lt, b_le, b_gt, b_ge, b_eq, b_ne, u_not, q82, a85.to_pre, q89, a92.to_pre, ((S83.sl1 (k := 2) rfl).tup), ((subSl (hx0_0.agree A84.agree) g27).tup), a98.pre, ((subSl (hx0_1.agree A97.agree) g31).tup)]
        refine CallD.t (F_slices_Clone_Sint_w (fu := fu) (subSl (hx0_1.agree A97.agree) g31) hc100) ?_
        rintro c101_u0 G102 ⟨a105, _, rfl, S106⟩
        have A104 := A97.ext (hB.le A97.1) a105.agree
        have S103 : Sep G102 (Fr H) [AL.box p4 [v0_0, v0_1], AL.box p11 [(Value.slice none 0 0), (Value.slice none 0 0)], flat1 v80 3 (ints [(gat 0 x0_1 0)]), flat1 v87 22 [v80, (subV v0_0 1 (llen x0_0))], flat c94_u0 3 (ints r5), flat c101_u0 3 (ints r6)] := S96.app a105.agree S106 (fun _ h => h) (hB.le A97.1)
        obtain ⟨G107, q108, S109, a111⟩ := S103.putAgg (P := Try.prog) (k := 1) (xs := [c94_u0, c101_u0]) rfl (hB.le A104.1) sz_26 rfl rfl
        have A110 := A104.trans a111
        replace S109 : Sep G107 (Fr H) [AL.box p4 [v0_0, v0_1], AL.box p11 [c94_u0, c101_u0], flat1 v80 3 (ints [(gat 0 x0_1 0)]), flat1 v87 22 [v80, (subV v0_0 1 (llen x0_0))], flat c94_u0 3 (ints r5), flat c101_u0 3 (ints r6)] := S109
        simp [-aBin', -aBin, -aBinI, -aUn, -aNil, -flatV, n_fn, b_add, b_sub, b_mul, b_lt, b_le, b_gt, b_ge, b_eq, b_ne, u_not, q82, a85.to_pre, q89, a92.to_pre, ((S83.sl1 (k := 2) rfl).tup), ((subSl (hx0_0.agree A84.agree) g27).tup), a98.pre, a105.pre, bu_26 ((S103.sl (k := 4) rfl).tup) ((S103.sl (k := 4) rfl).one) ((S103.sl (k := 5) rfl).tup) ((S103.sl (k := 5) rfl).one), q108]
        apply hK
        clear hK K
        simp only [andThen, leaves]
        refine DWp.ret ?_
        simp only [andThen, leaves]
        have q112 := S109.loadAgg (P := Try.prog) (k := 1) rfl sz_26 ag_26 rfl
        obtain rfl := Option.some.inj hF
        exact ⟨by simp, [(Value.agg #[c94_u0, c101_u0]), (Value.string (ByteArray.mk #[66]))], by simp [q112, ((S109.sl (k := 4) rfl).tup), ((S109.sl (k := 5) rfl).tup)], A110, c94_u0, c101_u0, rfl, S109.pick [4, 5] (by decide) rfl⟩
      · replace hF := cd_f hb79 hF
        refine DWp.seq ?_
        refine DWp.region fun K hK => ?_
        simp [-aBin', -aBin, -aBinI, -aUn, -aNil, -flatV, n_fn, b_add, b_sub, b_mul, b_lt, b_le, b_gt, b_ge, b_eq, b_ne, u_not]
        apply hK
        clear hK K
        simp only [andThen, leaves]
        refine DWp.cond' (t := (ilt (gat 0 x0_0 0) (imul .i64 2 (gat 0 x0_1 0)))) (by simp []) (fun hb113 => ?_) (fun hb113 => ?_)
        · replace hF := cd_t hb113 hF
          refine DWp.seq ?_
          obtain ⟨v114, G115, q116, S117, a119, _, _⟩ := S8.lit1 (P := Try.prog) (t := 22) (hB.le A10.1) el_22 ei_3 rfl (Value.int .i64 (gat 0 x0_1 0)) rfl rfl
          have A118 := A10.ext (hB.le A10.1) a119
          replace S117 : Sep G115 (Fr H) [AL.box p4 [v0_0, v0_1], AL.box p11 [(Value.slice none 0 0), (Value.slice none 0 0)], flat1 v114 3 (ints [(gat 0 x0_1 0)])] := S117
          obtain ⟨v121, G122, q123, S124, a126, _, _⟩ := S117.lit2 (P := Try.prog) (t := 46) (hB.le A118.1) el_46 ei_22 rfl v114 (subV v0_0 1 (llen x0_0)) ((S117.sl1 (k := 2) rfl).tup) ((S117.sl1 (k := 2) rfl).one) ((subSl (hx0_0.agree A118.agree) g27).tup) ((subSl (hx0_0.agree A118.agree) g27).one)
          have A125 := A118.ext (hB.le A118.1) a126
          replace S124 : Sep G122 (Fr H) [AL.box p4 [v0_0, v0_1], AL.box p11 [(Value.slice none 0 0), (Value.slice none 0 0)], flat1 v114 3 (ints [(gat 0 x0_1 0)]), flat1 v121 22 [v114, (subV v0_0 1 (llen x0_0))]] := S124
          obtain ⟨r7, hc127, hF⟩ := bd_some hF
          refine DWp.region fun K hK => ?_
          simp [-aBin', -aBin, -aBinI, -aUn, -aNil, -flatV, n_fn, b_add, b_sub, b_mul, b_lt, b_le, b_gt, b_ge, b_eq, b_ne, u_not, q116, a119.to_pre, q123, a126.to_pre, ((S117.sl1 (k := 2) rfl).tup), ((subSl (hx0_0.agree A118.agree) g27).tup), ((S124.sl1 (k := 3) rfl).tup)]
          refine CallD.t (F_slices_Concat_Sint_w (fu := fu) (SlSl.two (S124.sl1 (k := 3) rfl) (S124.sl1 (k := 2) rfl) (subSl (hx0_0.agree A125.agree) g27)) hc127) ?_
          rintro c128_u0 G129 ⟨a132, _, rfl, S133⟩
          have A131 := A125.ext (hB.le A125.1) a132.agree
          have S130 : Sep G129 (Fr H) [AL.box p4 [v0_0, v0_1], AL.box p11 [(Value.slice none 0 0), (Value.slice none 0 0)], flat1 v114 3 (ints [(gat 0 x0_1 0)]), flat1 v121 22 [v114, (subV v0_0 1 (llen x0_0))], flat c128_u0 3 (ints r7)] := S124.app a132.agree S133 (fun _ h => h) (hB.le A125.1)
          obtain ⟨v134, G135, q136, S137, a139, _, _⟩ := S130.lit1 (P := Try.prog) (t := 22) (hB.le A131.1) el_22 ei_3 rfl (Value.int .i64 (isub .i64 (imul .i64 2 (gat 0 x0_1 0)) (gat 0 x0_0 0))) rfl rfl
          have A138 := A131.ext (hB.le A131.1) a139
          replace S137 : Sep G135 (Fr H) [AL.box p4 [v0_0, v0_1], AL.box p11 [(Value.slice none 0 0), (Value.slice none 0 0)], flat1 v114 3 (ints [(gat 0 x0_1 0)]), flat1 v121 22 [v114, (subV v0_0 1 (llen x0_0))], flat c128_u0 3 (ints r7), flat1 v134 3 (ints [(isub .i64 (imul .i64 2 (gat 0 x0_1 0)) (gat 0 x0_0 0))])] := S137
          obtain ⟨v141, G142, q143, S144, a146, _, _⟩ := S137.lit2 (P := Try.prog) (t := 46) (hB.le A138.1) el_46 ei_22 rfl v134 (subV v0_1 1 (llen x0_1)) ((S137.sl1 (k := 5) rfl).tup) ((S137.sl1 (k := 5) rfl).one) ((subSl (hx0_1.agree A138.agree) g31).tup) ((subSl (hx0_1.agree A138.agree) g31).one)
          have A145 := A138.ext (hB.le A138.1) a146
          replace S144 : Sep G142 (Fr H) [AL.box p4 [v0_0, v0_1], AL.box p11 [(Value.slice none 0 0), (Value.slice none 0 0)], flat1 v114 3 (ints [(gat 0 x0_1 0)]), flat1 v121 22 [v114, (subV v0_0 1 (llen x0_0))], flat c128_u0 3 (ints r7), flat1 v134 3 (ints [(isub .i64 (imul .i64 2 (gat 0 x0_1 0)) (gat 0 x0_0 0))]), flat1 v141 22 [v134, (subV v0_1 1 (llen x0_1))]] := S144
          obtain ⟨r8, hc147, hF⟩ := bd_some hF
          simp [-aBin', -aBin, -aBinI, -aUn, -aNil, -flatV, n_fn, b_add, b_sub, b_mul, b_lt, b_le, b_gt, b_ge, b_eq, b_ne, u_not, q116, a119.to_pre, q123, a126.to_pre, ((S117.sl1 (k := 2) rfl).tup), ((subSl (hx0_0.agree A118.agree) g27).tup), a132.pre, q136, a139.to_pre, q143, a146.to_pre, ((S137.sl1 (k := 5) rfl).tup), ((subSl (hx0_1.agree A138.agree) g31).tup), ((S144.sl1 (k := 6) rfl).tup)]
          refine CallD.t (F_slices_Concat_Sint_w (fu := fu) (SlSl.two (S144.sl1 (k := 6) rfl) (S144.sl1 (k := 5) rfl) (subSl (hx0_1.agree A145.agree) g31)) hc147) ?_
          rintro c148_u0 G149 ⟨a152, _, rfl, S153⟩
          have A151 := A145.ext (hB.le A145.1) a152.agree
          have S150 : Sep G149 (Fr H) [AL.box p4 [v0_0, v0_1], AL.box p11 [(Value.slice none 0 0), (Value.slice none 0 0)], flat1 v114 3 (ints [(gat 0 x0_1 0)]), flat1 v121 22 [v114, (subV v0_0 1 (llen x0_0))], flat c128_u0 3 (ints r7), flat1 v134 3 (ints [(isub .i64 (imul .i64 2 (gat 0 x0_1 0)) (gat 0 x0_0 0))]), flat1 v141 22 [v134, (subV v0_1 1 (llen x0_1))], flat c148_u0 3 (ints r8)] := S144.app a152.agree S153 (fun _ h => h) (hB.le A145.1)
          obtain ⟨G154, q155, S156, a158⟩ := S150.putAgg (P := Try.prog) (k := 1) (xs := [c128_u0, c148_u0]) rfl (hB.le A151.1) sz_26 rfl rfl
          have A157 := A151.trans a158
          replace S156 : Sep G154 (Fr H) [AL.box p4 [v0_0, v0_1], AL.box p11 [c128_u0, c148_u0], flat1 v114 3 (ints [(gat 0 x0_1 0)]), flat1 v121 22 [v114, (subV v0_0 1 (llen x0_0))], flat c128_u0 3 (ints r7), flat1 v134 3 (ints [(isub .i64 (imul .i64 2 (gat 0 x0_1 0)) (gat 0 x0_0 0))]), flat1 v141 22 [v134, (subV v0_1 1 (llen x0_1))], flat c148_u0 3 (ints r8)] := S156
          simp [-aBin', -aBin, -aBinI, -aUn, -aNil, -flatV, n_fn, b_add, b_sub, b_mul, b_lt, b_le, b_gt, b_ge, b_eq, b_ne, u_not, q116, a119.to_pre, q123, a126.to_pre, ((S117.sl1 (k := 2) rfl).tup), ((subSl (hx0_0.agree A118.agree) g27).tup), a132.pre, q136, a139.to_pre, q143, a146.to_pre, ((S137.sl1 (k := 5) rfl).tup), ((subSl (hx0_1.agree A138.agree) g31).tup), a152.pre, bu_26 ((S150.sl (k := 4) rfl).tup) ((S150.sl (k := 4) rfl).one) ((S150.sl (k := 7) rfl).tup) ((S150.sl (k := 7) rfl).one), q155]
          apply hK
          clear hK K
          simp only [andThen, leaves]
          refine DWp.ret ?_
          simp only [andThen, leaves]
          have q159 := S156.loadAgg (P := Try.prog) (k := 1) rfl sz_26 ag_26 rfl
          obtain rfl := Option.some.inj hF
          exact ⟨by simp, [(Value.agg #[c128_u0, c148_u0]), (Value.string (ByteArray.mk #[82]))], by simp [q159, ((S156.sl (k := 4) rfl).tup), ((S156.sl (k := 7) rfl).tup)], A157, c128_u0, c148_u0, rfl, S156.pick [4, 7] (by decide) rfl⟩
        · replace hF := cd_f hb113 hF
          refine DWp.skip ?_
          simp only [andThen, leaves]
          refine DWp.seq ?_
          obtain ⟨v160, G161, q162, S163, a165, _, _⟩ := S8.lit2 (P := Try.prog) (t := 22) (hB.le A10.1) el_22 ei_3 rfl (Value.int .i64 (isub .i64 (gat 0 x0_0 0) (imul .i64 2 (gat 0 x0_1 0)))) (Value.int .i64 (gat 0 x0_1 0)) rfl rfl rfl rfl
          have A164 := A10.ext (hB.le A10.1) a165
          replace S163 : Sep G161 (Fr H) [AL.box p4 [v0_0, v0_1], AL.box p11 [(Value.slice none 0 0), (Value.slice none 0 0)], flat1 v160 3 (ints [(isub .i64 (gat 0 x0_0 0) (imul .i64 2 (gat 0 x0_1 0))), (gat 0 x0_1 0)])] := S163
          obtain ⟨v167, G168, q169, S170, a172, _, _⟩ := S163.lit2 (P := Try.prog) (t := 46) (hB.le A164.1) el_46 ei_22 rfl v160 (subV v0_0 1 (llen x0_0)) ((S163.sl1 (k := 2) rfl).tup) ((S163.sl1 (k := 2) rfl).one) ((subSl (hx0_0.agree A164.agree) g27).tup) ((subSl (hx0_0.agree A164.agree) g27).one)
          have A171 := A164.ext (hB.le A164.1) a172
          replace S170 : Sep G168 (Fr H) [AL.box p4 [v0_0, v0_1], AL.box p11 [(Value.slice none 0 0), (Value.slice none 0 0)], flat1 v160 3 (ints [(isub .i64 (gat 0 x0_0 0) (imul .i64 2 (gat 0 x0_1 0))), (gat 0 x0_1 0)]), flat1 v167 22 [v160, (subV v0_0 1 (llen x0_0))]] := S170
          obtain ⟨r9, hc173, hF⟩ := bd_some hF
          refine DWp.region fun K hK => ?_
          simp [-aBin', -aBin, -aBinI, -aUn, -aNil, -flatV, n_fn, b_add, b_sub, b_mul, b_lt, b_le, b_gt, b_ge, b_eq, b_ne, u_not, q162, a165.to_pre, q169, a172.to_pre, ((S163.sl1 (k := 2) rfl).tup), ((subSl (hx0_0.agree A164.agree) g27).tup), ((S170.sl1 (k := 3) rfl).tup)]
          refine CallD.t (F_slices_Concat_Sint_w (fu := fu) (SlSl.two (S170.sl1 (k := 3) rfl) (S170.sl1 (k := 2) rfl) (subSl (hx0_0.agree A171.agree) g27)) hc173) ?_
          rintro c174_u0 G175 ⟨a178, _, rfl, S179⟩
          have A177 := A171.ext (hB.le A171.1) a178.agree
          have S176 : Sep G175 (Fr H) [AL.box p4 [v0_0, v0_1], AL.box p11 [(Value.slice none 0 0), (Value.slice none 0 0)], flat1 v160 3 (ints [(isub .i64 (gat 0 x0_0 0) (imul .i64 2 (gat 0 x0_1 0))), (gat 0 x0_1 0)]), flat1 v167 22 [v160, (subV v0_0 1 (llen x0_0))], flat c174_u0 3 (ints r9)] := S170.app a178.agree S179 (fun _ h => h) (hB.le A171.1)
          obtain ⟨r10, hc180, hF⟩ := bd_some hF
          simp [-aBin', -aBin, -aBinI, -aUn, -aNil, -flatV, n_fn, b_add, b_sub, b_mul, b_lt, b_le, b_gt, b_ge, b_eq, b_ne, u_not, q162, a165.to_pre, q169, a172.to_pre, ((S163.sl1 (k := 2) rfl).tup), ((subSl (hx0_0.agree A164.agree) g27).tup), a178.pre, ((subSl (hx0_1.agree A177.agree) g31).tup)]
          refine CallD.t (F_slices_Clone_Sint_w (fu := fu) (subSl (hx0_1.agree A177.agree) g31) hc180) ?_
          rintro c181_u0 G182 ⟨a185, _, rfl, S186⟩
          have A184 := A177.ext (hB.le A177.1) a185.agree
          have S183 : Sep G182 (Fr H) [AL.box p4 [v0_0, v0_1], AL.box p11 [(Value.slice none 0 0), (Value.slice none 0 0)], flat1 v160 3 (ints [(isub .i64 (gat 0 x0_0 0) (imul .i64 2 (gat 0 x0_1 0))), (gat 0 x0_1 0)]), flat1 v167 22 [v160, (subV v0_0 1 (llen x0_0))], flat c174_u0 3 (ints r9), flat c181_u0 3 (ints r10)] := S176.app a185.agree S186 (fun _ h => h) (hB.le A177.1)
          obtain ⟨G187, q188, S189, a191⟩ := S183.putAgg (P := Try.prog) (k := 1) (xs := [c174_u0, c181_u0]) rfl (hB.le A184.1) sz_26 rfl rfl
          have A190 := A184.trans a191
          replace S189 : Sep G187 (Fr H) [AL.box p4 [v0_0, v0_1], AL.box p11 [c174_u0, c181_u0], flat1 v160 3 (ints [(isub .i64 (gat 0 x0_0 0) (imul .i64 2 (gat 0 x0_1 0))), (gat 0 x0_1 0)]), flat1 v167 22 [v160, (subV v0_0 1 (llen x0_0))], flat c174_u0 3 (ints r9), flat c181_u0 3 (ints r10)] := S189
          simp [-aBin', -aBin, -aBinI, -aUn, -aNil, -flatV, n_fn, b_add, b_sub, b_mul, b_lt, b_le, b_gt, b_ge, b_eq, b_ne, u_not, q162, a165.to_pre, q169, a172.to_pre, ((S163.sl1 (k := 2) rfl).tup), ((subSl (hx0_0.agree A164.agree) g27).tup), a178.pre, a185.pre, bu_26 ((S183.sl (k := 4) rfl).tup) ((S183.sl (k := 4) rfl).one) ((S183.sl (k := 5) rfl).tup) ((S183.sl (k := 5) rfl).one), q188]
          apply hK
          clear hK K
          simp only [andThen, leaves]
          refine DWp.ret ?_
          have q192 := S189.loadAgg (P := Try.prog) (k := 1) rfl sz_26 ag_26 rfl
          obtain rfl := Option.some.inj hF
          exact ⟨by simp, [(Value.agg #[c174_u0, c181_u0]), (Value.string (ByteArray.mk #[80]))], by simp [q192, ((S189.sl (k := 4) rfl).tup), ((S189.sl (k := 5) rfl).tup)], A190, c174_u0, c181_u0, rfl, S189.pick [4, 5] (by decide) rfl⟩
/-! loop.example/g01126/impl.WindStep -/
def F_impl_WindStep (fu : Nat) (x0_0 : List Int) (x0_1 : List Int) : Option ((List Int × List Int) × ByteArray × Bool) :=
  bd (
    bd (F_impl_IsSeaweed fu x0_0 x0_1) fun r1 =>
    bif (bnot r1) then
      some true
    else
      some (ieq (llen x0_0) 0)) fun s15 =>
  bif s15 then
    some (([], []), (ByteArray.mk #[]), false)
  else
    bd (F_impl_Seaweed_wound fu x0_0 x0_1) fun r2 =>
    some ((r2.1.1, r2.1.2), r2.2, true)
theorem F_impl_WindStep_w {fu : Nat} {H : AH} {v0_0 : Value} {v0_1 : Value} {x0_0 : List Int} {x0_1 : List Int} {r : ((List Int × List Int) × ByteArray × Bool)} (hx0_0 : Sl H v0_0 (ints x0_0)) (hx0_1 : Sl H v0_1 (ints x0_1)) (hF : F_impl_WindStep fu x0_0 x0_1 = some r) :
    ACallT Try.prog 15 [(Value.agg #[v0_0, v0_1])] H (fun u G => AgB (Fr H) H G ∧ ∃ u0 : Value, ∃ u1 : Value, u = (Value.tuple #[(Value.agg #[u0, u1]), (Value.string r.2.1), (Value.bool r.2.2)]) ∧ Sep G (Fr H) [flat u0 3 (ints r.1.1), flat u1 3 (ints r.1.2)]) := by
  refine ACallT.of_body (nt := 24) (rs := [.cell 2 26, .tmp 3, .tmp 4]) Try.func15 rfl rfl rfl rfl ?_
  have A0 : AgB (Fr H) H H := .refl _ _
  have S0 : Sep H (Fr H) [] := .nil
  have hB := Fr.up H
  unfold F_impl_WindStep at hF
  refine DWp.seq ?_
  obtain ⟨G2, p4, q5, q6, a7, S1⟩ := S0.boxT (hB.le A0.1) 26 [v0_0, v0_1]
  have A3 := A0.ext (hB.le A0.1) a7
  replace S1 : Sep G2 (Fr H) [AL.box p4 [v0_0, v0_1]] := S1
  obtain ⟨G9, p11, q12, q14, a13, S8⟩ := S1.allocT (P := Try.prog) (hB.le A3.1) ze_26 rfl
  have A10 := A3.ext (hB.le A3.1) a13
  replace S8 : Sep G9 (Fr H) [AL.box p4 [v0_0, v0_1], AL.box p11 [(Value.slice none 0 0), (Value.slice none 0 0)]] := S8
  refine DWp.region fun K hK => ?_
  simp [-aBin', -aBin, -aBinI, -aUn, -aNil, -flatV, n_fn, b_add, b_sub, b_mul, b_lt, b_le, b_gt, b_ge, b_eq, b_ne, u_not, q5, q6, a7.to_pre, cells_agg, q12, q14, a13.to_pre]
  apply hK
  clear hK K
  simp only [andThen, leaves]
  refine DWp.seq ?_
  obtain ⟨s15, hL16, hF⟩ := bd_some hF
  refine DWp.seq (DWp.join (fun env G => Sep G (Fr H) [AL.box p4 [v0_0, v0_1], AL.box p11 [(Value.slice none 0 0), (Value.slice none 0 0)]] ∧ AgB (Fr H) H G ∧ env 1 = some p4 ∧ env 2 = some p11 ∧ env 15 = some (Value.bool s15)) ?_ ?_)
  ·
    have q18 := S8.loadAgg (P := Try.prog) (k := 0) rfl sz_26 ag_26 rfl
    obtain ⟨r1, hc19, hL16⟩ := bd_some hL16
    refine DWp.region fun K hK => ?_
    simp [-aBin', -aBin, -aBinI, -aUn, -aNil, -flatV, n_fn, b_add, b_sub, b_mul, b_lt, b_le, b_gt, b_ge, b_eq, b_ne, u_not, q18, ((hx0_0.agree A10.agree).tup), ((hx0_1.agree A10.agree).tup)]
    refine CallD.t (F_impl_IsSeaweed_w (fu := fu) (hx0_0.agree A10.agree) (hx0_1.agree A10.agree) hc19) ?_
    rintro _ G21 ⟨a24, rfl, S25⟩
    have A23 := A10.ext (hB.le A10.1) a24.agree
    have S22 : Sep G21 (Fr H) [AL.box p4 [v0_0, v0_1], AL.box p11 [(Value.slice none 0 0), (Value.slice none 0 0)]] := S8.app a24.agree S25 (fun _ h => h) (hB.le A10.1)
    rcases Bool.eq_false_or_eq_true (bnot r1) with hb26 | hb26
    · replace hL16 := cd_t hb26 hL16
      simp [-aBin', -aBin, -aBinI, -aUn, -aNil, -flatV, n_fn, b_add, b_sub, b_mul, b_lt, b_le, b_gt, b_ge, b_eq, b_ne, u_not, hb26, q18, a24.pre]
      apply hK
      clear hK K
      simp only [andThen, leaves]
      have S27 := S22.pick [0, 1] (by decide) rfl
      obtain rfl := Option.some.inj hL16
      exact ⟨S27, A23, by simp [], by simp [], by simp []⟩
    · replace hL16 := cd_f hb26 hL16
      have q28 := S22.fieldT (P := Try.prog) (k := 0) rfl fa_26_0
      have q29 := S22.loadF (P := Try.prog) (k := 0) rfl sz_22 ag_22 (off := 0) rfl
      have q30 := lenG (P := Try.prog) (hx0_0.agree A23.agree) el_22
      simp [-aBin', -aBin, -aBinI, -aUn, -aNil, -flatV, n_fn, b_add, b_sub, b_mul, b_lt, b_le, b_gt, b_ge, b_eq, b_ne, u_not, hb26, q18, a24.pre, q28, q29, q30]
      apply hK
      clear hK K
      simp only [andThen, leaves]
      have S31 := S22.pick [0, 1] (by decide) rfl
      obtain rfl := Option.some.inj hL16
      exact ⟨S31, A23, by simp [], by simp [], by simp []⟩
  · rintro env Gj32 ⟨Sj32, Aj32, ej32_1, ej32_2, ej32_15⟩
    refine DWp.cond' (t := s15) (by simp [ej32_1, ej32_2, ej32_15]) (fun hb33 => ?_) (fun hb33 => ?_)
    · replace hF := cd_t hb33 hF
      refine DWp.seq ?_
      obtain ⟨G34, q35, S36, a38⟩ := Sj32.putAgg (P := Try.prog) (k := 1) (xs := [(Value.slice none 0 0), (Value.slice none 0 0)]) rfl (hB.le Aj32.1) sz_26 rfl rfl
      have A37 := Aj32.trans a38
      replace S36 : Sep G34 (Fr H) [AL.box p4 [v0_0, v0_1], AL.box p11 [(Value.slice none 0 0), (Value.slice none 0 0)]] := S36
      refine DWp.region fun K hK => ?_
      simp [-aBin', -aBin, -aBinI, -aUn, -aNil, -flatV, n_fn, b_add, b_sub, b_mul, b_lt, b_le, b_gt, b_ge, b_eq, b_ne, u_not, ej32_1, ej32_2, ej32_15, build0 (cs := [(Value.slice none 0 0), (Value.slice none 0 0)]) pl_26 rfl rfl, q35]
      apply hK
      clear hK K
      simp only [andThen, leaves]
      refine DWp.ret ?_
      simp only [andThen, leaves]
      have q39 := S36.loadAgg (P := Try.prog) (k := 1) rfl sz_26 ag_26 rfl
      have S40 := S36.nilItem (hB.le A37.1) 3
      have S41 := S40.nilItem (hB.le A37.1) 3
      obtain rfl := Option.some.inj hF
      exact ⟨by simp, [(Value.agg #[(Value.slice none 0 0), (Value.slice none 0 0)]), (Value.string (ByteArray.mk #[])), (Value.bool false)], by simp [ej32_1, ej32_2, ej32_15, q39], A37, (Value.slice none 0 0), (Value.slice none 0 0), rfl, S41.pick [2, 3] (by decide) rfl⟩
    · replace hF := cd_f hb33 hF
      refine DWp.skip ?_
      simp only [andThen, leaves]
      refine DWp.seq ?_
      have q42 := Sj32.loadAgg (P := Try.prog) (k := 0) rfl sz_26 ag_26 rfl
      obtain ⟨r2, hc43, hF⟩ := bd_some hF
      refine DWp.region fun K hK => ?_
      simp [-aBin', -aBin, -aBinI, -aUn, -aNil, -flatV, n_fn, b_add, b_sub, b_mul, b_lt, b_le, b_gt, b_ge, b_eq, b_ne, u_not, ej32_1, ej32_2, ej32_15, q42, ((hx0_0.agree Aj32.agree).tup), ((hx0_1.agree Aj32.agree).tup)]
      refine CallD.t (F_impl_Seaweed_wound_w (fu := fu) (hx0_0.agree Aj32.agree) (hx0_1.agree Aj32.agree) hc43) ?_
      rintro _ G45 ⟨a48, c44_u0, c44_u1, rfl, S49⟩
      have A47 := Aj32.ext (hB.le Aj32.1) a48.agree
      have S46 : Sep G45 (Fr H) [AL.box p4 [v0_0, v0_1], AL.box p11 [(Value.slice none 0 0), (Value.slice none 0 0)], flat c44_u0 3 (ints r2.1.1), flat c44_u1 3 (ints r2.1.2)] := Sj32.app a48.agree S49 (fun _ h => h) (hB.le Aj32.1)
      obtain ⟨G51, p53, q54, q56, a55, S50⟩ := S46.allocT (P := Try.prog) (hB.le A47.1) ze_26 rfl
      have A52 := A47.ext (hB.le A47.1) a55
      replace S50 : Sep G51 (Fr H) [AL.box p4 [v0_0, v0_1], AL.box p11 [(Value.slice none 0 0), (Value.slice none 0 0)], flat c44_u0 3 (ints r2.1.1), flat c44_u1 3 (ints r2.1.2), AL.box p53 [(Value.slice none 0 0), (Value.slice none 0 0)]] := S50
      obtain ⟨G57, q58, S59, a61⟩ := S50.putAgg (P := Try.prog) (k := 4) (xs := [c44_u0, c44_u1]) rfl (hB.le A52.1) sz_26 rfl rfl
      have A60 := A52.trans a61
      replace S59 : Sep G57 (Fr H) [AL.box p4 [v0_0, v0_1], AL.box p11 [(Value.slice none 0 0), (Value.slice none 0 0)], flat c44_u0 3 (ints r2.1.1), flat c44_u1 3 (ints r2.1.2), AL.box p53 [c44_u0, c44_u1]] := S59
      simp [-aBin', -aBin, -aBinI, -aUn, -aNil, -flatV, n_fn, b_add, b_sub, b_mul, b_lt, b_le, b_gt, b_ge, b_eq, b_ne, u_not, ej32_1, ej32_2, ej32_15, q42, a48.pre, q54, q56, a55.to_pre, q58]
      apply hK
      clear hK K
      simp only [andThen, leaves]
      refine DWp.seq ?_
      have q62 := S59.loadAgg (P := Try.prog) (k := 4) rfl sz_26 ag_26 rfl
      obtain ⟨G63, q64, S65, a67⟩ := S59.putAgg (P := Try.prog) (k := 1) (xs := [c44_u0, c44_u1]) rfl (hB.le A60.1) sz_26 rfl rfl
      have A66 := A60.trans a67
      replace S65 : Sep G63 (Fr H) [AL.box p4 [v0_0, v0_1], AL.box p11 [c44_u0, c44_u1], flat c44_u0 3 (ints r2.1.1), flat c44_u1 3 (ints r2.1.2), AL.box p53 [c44_u0, c44_u1]] := S65
      refine DWp.region fun K hK => ?_
      simp [-aBin', -aBin, -aBinI, -aUn, -aNil, -flatV, n_fn, b_add, b_sub, b_mul, b_lt, b_le, b_gt, b_ge, b_eq, b_ne, u_not, ej32_1, ej32_2, ej32_15, q62, q64]
      apply hK
      clear hK K
      simp only [andThen, leaves]
      refine DWp.ret ?_
      have q68 := S65.loadAgg (P := Try.prog) (k := 1) rfl sz_26 ag_26 rfl
      obtain rfl := Option.some.inj hF
      exact ⟨by simp, [(Value.agg #[c44_u0, c44_u1]), (Value.string r2.2), (Value.bool true)], by simp [ej32_1, ej32_2, ej32_15, q68, ((S65.sl (k := 2) rfl).tup), ((S65.sl (k := 3) rfl).tup)], A66, c44_u0, c44_u1, rfl, S65.pick [2, 3] (by decide) rfl⟩
/-! loop.example/g01126/laws.heldSeaweed -/
def F_laws_heldSeaweed (fu : Nat) (x0_0 : List Int) (x0_1 : List Int) (x1 : Int) : Option (Int) :=
  bd (F_laws_heldIntS fu x0_0 x1) fun r1 =>
  bif (ilt r1 0) then
    some (-1)
  else
    bd (F_laws_heldIntS fu x0_1 r1) fun r2 =>
    bif (ilt r2 0) then
      some (-1)
    else
      some r2
theorem F_laws_heldSeaweed_w {fu : Nat} {H : AH} {v0_0 : Value} {v0_1 : Value} {x0_0 : List Int} {x0_1 : List Int} {x1 : Int} {r : (Int)} (hx0_0 : Sl H v0_0 (ints x0_0)) (hx0_1 : Sl H v0_1 (ints x0_1)) (hF : F_laws_heldSeaweed fu x0_0 x0_1 x1 = some r) :
    ACallT Try.prog 18 [(Value.agg #[v0_0, v0_1]), (Value.int .i64 x1)] H (fun u G => AgB (Fr H) H G ∧ u = (Value.int .i64 r) ∧ Sep G (Fr H) []) := by
  refine ACallT.of_body (nt := 18) (rs := [.tmp 4]) Try.func18 rfl rfl rfl rfl ?_
  have A0 : AgB (Fr H) H H := .refl _ _
  have S0 : Sep H (Fr H) [] := .nil
  have hB := Fr.up H
  unfold F_laws_heldSeaweed at hF
  refine DWp.seq ?_
  obtain ⟨G2, p4, q5, q6, a7, S1⟩ := S0.boxT (hB.le A0.1) 26 [v0_0, v0_1]
  have A3 := A0.ext (hB.le A0.1) a7
  replace S1 : Sep G2 (Fr H) [AL.box p4 [v0_0, v0_1]] := S1
  refine DWp.region fun K hK => ?_
  simp [-aBin', -aBin, -aBinI, -aUn, -aNil, -flatV, n_fn, b_add, b_sub, b_mul, b_lt, b_le, b_gt, b_ge, b_eq, b_ne, u_not, q5, q6, a7.to_pre, cells_agg]
  apply hK
  clear hK K
  simp only [andThen, leaves]
  refine DWp.seq ?_
  have q8 := S1.fieldT (P := Try.prog) (k := 0) rfl fa_26_0
  have q9 := S1.loadF (P := Try.prog) (k := 0) rfl sz_22 ag_22 (off := 0) rfl
  obtain ⟨r1, hc10, hF⟩ := bd_some hF
  refine DWp.region fun K hK => ?_
  simp [-aBin', -aBin, -aBinI, -aUn, -aNil, -flatV, n_fn, b_add, b_sub, b_mul, b_lt, b_le, b_gt, b_ge, b_eq, b_ne, u_not, q8, q9, ((hx0_0.agree A3.agree).tup)]
  refine CallD.t (F_laws_heldIntS_w (fu := fu) (hx0_0.agree A3.agree) hc10) ?_
  rintro _ G12 ⟨a15, rfl, S16⟩
  have A14 := A3.ext (hB.le A3.1) a15.agree
  have S13 : Sep G12 (Fr H) [AL.box p4 [v0_0, v0_1]] := S1.app a15.agree S16 (fun _ h => h) (hB.le A3.1)
  simp [-aBin', -aBin, -aBinI, -aUn, -aNil, -flatV, n_fn, b_add, b_sub, b_mul, b_lt, b_le, b_gt, b_ge, b_eq, b_ne, u_not, q8, q9, a15.pre]
  apply hK
  clear hK K
  simp only [andThen, leaves]
  refine DWp.seq ?_
  refine DWp.seq ?_
  refine DWp.region fun K hK => ?_
  simp [-aBin', -aBin, -aBinI, -aUn, -aNil, -flatV, n_fn, b_add, b_sub, b_mul, b_lt, b_le, b_gt, b_ge, b_eq, b_ne, u_not]
  apply hK
  clear hK K
  simp only [andThen, leaves]
  refine DWp.cond' (t := (ilt r1 0)) (by simp []) (fun hb17 => ?_) (fun hb17 => ?_)
  · replace hF := cd_t hb17 hF
    refine DWp.seq ?_
    refine DWp.region fun K hK => ?_
    simp [-aBin', -aBin, -aBinI, -aUn, -aNil, -flatV, n_fn, b_add, b_sub, b_mul, b_lt, b_le, b_gt, b_ge, b_eq, b_ne, u_not]
    apply hK
    clear hK K
    simp only [andThen, leaves]
    refine DWp.ret ?_
    simp only [andThen, leaves]
    obtain rfl := Option.some.inj hF
    exact ⟨by simp, [(Value.int .i64 (-1))], by simp [], A14, rfl, S13.pick [] (by decide) rfl⟩
  · replace hF := cd_f hb17 hF
    refine DWp.skip ?_
    simp only [andThen, leaves]
    refine DWp.seq ?_
    have q18 := S13.fieldT (P := Try.prog) (k := 0) rfl fa_26_1
    have q19 := S13.loadF (P := Try.prog) (k := 0) rfl sz_22 ag_22 (off := 1) rfl
    obtain ⟨r2, hc20, hF⟩ := bd_some hF
    refine DWp.region fun K hK => ?_
    simp [-aBin', -aBin, -aBinI, -aUn, -aNil, -flatV, n_fn, b_add, b_sub, b_mul, b_lt, b_le, b_gt, b_ge, b_eq, b_ne, u_not, q18, q19, ((hx0_1.agree A14.agree).tup)]
    refine CallD.t (F_laws_heldIntS_w (fu := fu) (hx0_1.agree A14.agree) hc20) ?_
    rintro _ G22 ⟨a25, rfl, S26⟩
    have A24 := A14.ext (hB.le A14.1) a25.agree
    have S23 : Sep G22 (Fr H) [AL.box p4 [v0_0, v0_1]] := S13.app a25.agree S26 (fun _ h => h) (hB.le A14.1)
    simp [-aBin', -aBin, -aBinI, -aUn, -aNil, -flatV, n_fn, b_add, b_sub, b_mul, b_lt, b_le, b_gt, b_ge, b_eq, b_ne, u_not, q18, q19, a25.pre]
    apply hK
    clear hK K
    simp only [andThen, leaves]
    refine DWp.seq ?_
    refine DWp.seq ?_
    refine DWp.region fun K hK => ?_
    simp [-aBin', -aBin, -aBinI, -aUn, -aNil, -flatV, n_fn, b_add, b_sub, b_mul, b_lt, b_le, b_gt, b_ge, b_eq, b_ne, u_not]
    apply hK
    clear hK K
    simp only [andThen, leaves]
    refine DWp.cond' (t := (ilt r2 0)) (by simp []) (fun hb27 => ?_) (fun hb27 => ?_)
    · replace hF := cd_t hb27 hF
      refine DWp.seq ?_
      refine DWp.region fun K hK => ?_
      simp [-aBin', -aBin, -aBinI, -aUn, -aNil, -flatV, n_fn, b_add, b_sub, b_mul, b_lt, b_le, b_gt, b_ge, b_eq, b_ne, u_not]
      apply hK
      clear hK K
      simp only [andThen, leaves]
      refine DWp.ret ?_
      simp only [andThen, leaves]
      obtain rfl := Option.some.inj hF
      exact ⟨by simp, [(Value.int .i64 (-1))], by simp [], A24, rfl, S23.pick [] (by decide) rfl⟩
    · replace hF := cd_f hb27 hF
      refine DWp.skip ?_
      simp only [andThen, leaves]
      refine DWp.seq ?_
      refine DWp.region fun K hK => ?_
      simp [-aBin', -aBin, -aBinI, -aUn, -aNil, -flatV, n_fn, b_add, b_sub, b_mul, b_lt, b_le, b_gt, b_ge, b_eq, b_ne, u_not]
      apply hK
      clear hK K
      simp only [andThen, leaves]
      refine DWp.ret ?_
      obtain rfl := Option.some.inj hF
      exact ⟨by simp, [(Value.int .i64 r2)], by simp [], A24, rfl, S23.pick [] (by decide) rfl⟩
end Go.Proofs.Ytfccbmpfnonjiaa.AL

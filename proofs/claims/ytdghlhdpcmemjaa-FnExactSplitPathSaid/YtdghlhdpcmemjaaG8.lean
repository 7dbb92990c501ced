/- The walks of functions, each with its Lean function: spec.exPath, spec.ExchangePath, impl.better, impl.path, impl.ExchangePath, laws.FnExactExchangePath, laws.szIntS, laws.szMeander, laws.toMeander, spec.exSome. No condition. -/
import Derived.Test.YtdghlhdpcmemjaaFBD
import Derived.Test.YtdghlhdpcmemjaaFBE
import Derived.Test.YtdghlhdpcmemjaaG1
import Derived.Test.YtdghlhdpcmemjaaG2
import Derived.Test.YtdghlhdpcmemjaaG3
import Derived.Test.YtdghlhdpcmemjaaG4
import Derived.Test.YtdghlhdpcmemjaaG5
import Derived.Test.YtdghlhdpcmemjaaG6
import Derived.Test.YtdghlhdpcmemjaaG7
import Derived.Test.YtdghlhdpcmemjaaALD
import Derived.Test.YtdghlhdpcmemjaaProg
import Derived.KernelRfl
namespace Go.Proofs.Ytdghlhdpcmemjaa.AL
open Go Go.RowKit
set_option linter.unusedVariables false
set_option linter.unusedSimpArgs false
set_option maxRecDepth 4096
theorem ag_38 : aggT Try.prog 38 = some true := by kernel_rfl
theorem fa_35_0 : fldT Try.prog 35 0 = some 0 := by kernel_rfl
theorem fa_35_1 : fldT Try.prog 35 1 = some 1 := by kernel_rfl
theorem fa_38_0 : fldT Try.prog 38 0 = some 0 := by kernel_rfl
theorem fa_38_1 : fldT Try.prog 38 1 = some 1 := by kernel_rfl
theorem sz_38 : sizeT Try.prog 38 = some 2 := by kernel_rfl
theorem ze_38 : zeroT Try.prog 38 = some (.agg #[.slice none 0 0, .slice none 0 0]) := by kernel_rfl
def F_spec_exPath_L1 (fu : Nat) (k1_0 : List Int) (k1_1 : Int) : Nat → List (List Int) → Option (LR (List (List Int)) (List (List Int)))
  | 0, _ => none
  | n + 1, l1_0 =>
    gd (inL l1_0 (isub .i64 (llen l1_0) 1)) (
    bd (F_spec_exStep fu (gat [] l1_0 (isub .i64 (llen l1_0) 1)) k1_0 k1_1) fun r2 =>
    bif (bnot r2.2) then
      some (.ret l1_0)
    else
      gd (l1_0.length + 1 ≤ 4294967296) (
      F_spec_exPath_L1 fu k1_0 k1_1 n (lapp l1_0 [r2.1])))
def F_spec_exPath (fu : Nat) (x0 : List Int) (x1 : List Int) (x2 : Int) : Option (List (List Int)) :=
  bd (F_spec_l1Own fu x0) fun r1 =>
  bd (F_spec_exPath_L1 fu x1 x2 fu [r1]) fun s1 => lr s1 fun _ => none
theorem F_spec_exPath_w {fu : Nat} {H : AH} {v0 : Value} {v1 : Value} {x0 : List Int} {x1 : List Int} {x2 : Int} {r : (List (List Int))} (hx0 : Sl H v0 (ints x0)) (hx1 : Sl H v1 (ints x1)) (hF : F_spec_exPath fu x0 x1 x2 = some r) :
    ACallT Try.prog 80 [v0, v1, (Value.int .i64 x2)] H (fun u G => AgB (Fr H) H G ∧ ∃ u0 : Value, ∃ C0 : List Value, u = u0 ∧ Sep G (Fr H) [rowsC u0 22 3 C0 (List.map ints r)]) := by
  refine ACallT.of_body (nt := 32) (rs := [.tmp 6]) Try.func80 rfl rfl rfl rfl ?_
  have A0 : AgB (Fr H) H H := .refl _ _
  have S0 : Sep H (Fr H) [] := .nil
  have hB := Fr.up H
  unfold F_spec_exPath at hF
  refine DWp.seq ?_
  refine DWp.region fun K hK => ?_
  simp [-aBin', -aBin, -aBinI, -aUn, -aNil, -flatV, n_fn, b_add, b_sub, b_mul, b_lt, b_le, b_gt, b_ge, b_eq, b_ne, u_not]
  apply hK
  clear hK K
  simp only [andThen, leaves]
  refine DWp.seq ?_
  obtain ⟨r1, hc1, hF⟩ := bd_some hF
  refine DWp.region fun K hK => ?_
  simp [-aBin', -aBin, -aBinI, -aUn, -aNil, -flatV, n_fn, b_add, b_sub, b_mul, b_lt, b_le, b_gt, b_ge, b_eq, b_ne, u_not, ((hx0.agree A0.agree).tup)]
  refine CallD.t (F_spec_l1Own_w (fu := fu) (hx0.agree A0.agree) hc1) ?_
  rintro c2_u0 G3 ⟨a6, _, rfl, S7⟩
  have A5 := A0.ext (hB.le A0.1) a6.agree
  have S4 : Sep G3 (Fr H) [flat c2_u0 3 (ints r1)] := S0.app a6.agree S7 (fun _ h => h) (hB.le A0.1)
  obtain ⟨v8, G9, q10, S11, a13, _, _⟩ := S4.lit1 (P := Try.prog) (t := 23) (hB.le A5.1) el_23 ei_22 rfl c2_u0 ((S4.sl (k := 0) rfl).tup) ((S4.sl (k := 0) rfl).one)
  have A12 := A5.ext (hB.le A5.1) a13
  replace S11 : Sep G9 (Fr H) [flat c2_u0 3 (ints r1), flat1 v8 22 [c2_u0]] := S11
  simp [-aBin', -aBin, -aBinI, -aUn, -aNil, -flatV, n_fn, b_add, b_sub, b_mul, b_lt, b_le, b_gt, b_ge, b_eq, b_ne, u_not, a6.pre, q10, a13.to_pre, ((S4.sl (k := 0) rfl).tup)]
  apply hK
  clear hK K
  simp only [andThen, leaves]
  refine DWp.block ?_
  have S14 : Sep G9 (Fr H) [emp, rowsC v8 22 3 [c2_u0] (List.map ints [r1])] := S11.rowsOf1 (j := 1) (k := 0) (by decide) rfl rfl
  obtain ⟨s15, hL16, hF⟩ := bd_some hF
  have S17 := S14.pick [1] (by decide) rfl
  refine DWp.loop (fun n env G => ∃ l1_0 : List (List Int), ∃ w1_0 : Value, ∃ D1_0 : List Value, F_spec_exPath_L1 fu x1 x2 n l1_0 = some s15 ∧ Sep G (Fr H) [rowsC w1_0 22 3 D1_0 (List.map ints l1_0)] ∧ AgB (Fr H) H G ∧ env 1 = some v1 ∧ env 2 = some (Value.int .i64 x2) ∧ env 7 = some w1_0) fu ⟨[r1], v8, [c2_u0], hL16, S17, A12, by simp [], by simp [], by simp []⟩ ?_
  rintro n1 env1 G1_ ⟨l1_0, w1_0, D1_0, hL16, S1_, A1_, e1_1, e1_2, e1_7⟩
  cases n1 with
  | zero => cases hL16
  | succ n1 =>
    simp only [F_spec_exPath_L1] at hL16
    refine DWp.block ?_
    refine DWp.seq ?_
    have q18 := (S1_.rd (k := 0) rfl).lenG (P := Try.prog) el_23
    obtain ⟨g19, hL16⟩ := gd_some hL16
    have q20 := (S1_.rd (k := 0) rfl).idxG (P := Try.prog) (kk := .i64) el_23 sz_22 g19
    have q21 := (S1_.rd (k := 0) rfl).loadG (P := Try.prog) sz_22 ag_22 g19
    obtain ⟨r2, hc22, hL16⟩ := bd_some hL16
    refine DWp.region fun K hK => ?_
    simp [-aBin', -aBin, -aBinI, -aUn, -aNil, -flatV, n_fn, b_add, b_sub, b_mul, b_lt, b_le, b_gt, b_ge, b_eq, b_ne, u_not, e1_1, e1_2, e1_7, q18, q20, q21, (((S1_.rd (k := 0) rfl).rowAt [] g19).tup), ((hx1.agree A1_.agree).tup)]
    refine CallD.t (F_spec_exStep_w (fu := fu) ((S1_.rd (k := 0) rfl).rowAt [] g19) (hx1.agree A1_.agree) hc22) ?_
    rintro _ G24 ⟨a27, c23_u0, rfl, S28⟩
    have A26 := A1_.ext (hB.le A1_.1) a27.agree
    have S25 : Sep G24 (Fr H) [rowsC w1_0 22 3 D1_0 (List.map ints l1_0), flat c23_u0 3 (ints r2.1)] := S1_.app a27.agree S28 (fun _ h => h) (hB.le A1_.1)
    simp [-aBin', -aBin, -aBinI, -aUn, -aNil, -flatV, n_fn, b_add, b_sub, b_mul, b_lt, b_le, b_gt, b_ge, b_eq, b_ne, u_not, e1_1, e1_2, e1_7, q18, q20, q21, a27.pre]
    apply hK
    clear hK K
    simp only [andThen, leaves]
    refine DWp.seq ?_
    refine DWp.seq ?_
    refine DWp.region fun K hK => ?_
    simp [-aBin', -aBin, -aBinI, -aUn, -aNil, -flatV, n_fn, b_add, b_sub, b_mul, b_lt, b_le, b_gt, b_ge, b_eq, b_ne, u_not, e1_1, e1_2, e1_7]
    apply hK
    clear hK K
    simp only [andThen, leaves]
    refine DWp.cond' (t := (bnot r2.2)) (by simp [e1_1, e1_2, e1_7]) (fun hb29 => ?_) (fun hb29 => ?_)
    · replace hL16 := cd_t hb29 hL16
      refine DWp.seq ?_
      refine DWp.region fun K hK => ?_
      simp [-aBin', -aBin, -aBinI, -aUn, -aNil, -flatV, n_fn, b_add, b_sub, b_mul, b_lt, b_le, b_gt, b_ge, b_eq, b_ne, u_not, e1_1, e1_2, e1_7]
      apply hK
      clear hK K
      simp only [andThen, leaves]
      refine DWp.ret ?_
      simp only [andThen, leaves]
      obtain rfl := Option.some.inj hL16
      simp only [lr] at hF
      obtain rfl := Option.some.inj hF
      exact ⟨by simp, [w1_0], by simp [e1_1, e1_2, e1_7, ((S25.rd (k := 0) rfl).tup)], A26, w1_0, D1_0, rfl, S25.pick [0] (by decide) rfl⟩
    · replace hL16 := cd_f hb29 hL16
      refine DWp.skip ?_
      simp only [andThen, leaves]
      obtain ⟨v30, G31, q32, S33, a35, _, _⟩ := S25.lit1 (P := Try.prog) (t := 23) (hB.le A26.1) el_23 ei_22 rfl c23_u0 ((S25.sl (k := 1) rfl).tup) ((S25.sl (k := 1) rfl).one)
      have A34 := A26.ext (hB.le A26.1) a35
      replace S33 : Sep G31 (Fr H) [rowsC w1_0 22 3 D1_0 (List.map ints l1_0), flat c23_u0 3 (ints r2.1), flat1 v30 22 [c23_u0]] := S33
      obtain ⟨g36, hL16⟩ := gd_some hL16
      obtain ⟨v42, G37, q38, S39, a41, q38t, _⟩ := S33.pushRow (u := w1_0) (fr := ints) (X := l1_0) (y := r2.1) (P := Try.prog) (t := 23) (t2 := 23) (j := 0) (k := 1) (by decide) rfl rfl (hB.le A34.1) el_23 el_23 ei_22 rfl (S33.sl1 (k := 2) rfl) g36
      have A40 := A34.trans a41
      replace S39 : Sep G37 (Fr H) [rowsC v42 22 3 (D1_0 ++ [c23_u0]) (List.map ints (lapp l1_0 [r2.1])), emp, flat1 v30 22 [c23_u0]] := S39
      have q43 := S39.lastV (fr := ints) (k := 0) rfl
      try simp only [List.cons_append, List.nil_append] at q43
      refine DWp.region fun K hK => ?_
      simp [-aBin', -aBin, -aBinI, -aUn, -aNil, -flatV, n_fn, b_add, b_sub, b_mul, b_lt, b_le, b_gt, b_ge, b_eq, b_ne, u_not, e1_1, e1_2, e1_7, q43, q32, a35.to_pre, ((S25.sl (k := 1) rfl).tup), q38, q38t]
      apply hK
      clear hK K
      simp only [andThen, leaves]
      have S44 := S39.pick [0] (by decide) rfl
      exact ⟨n1, Nat.lt_succ_self _, (lapp l1_0 [r2.1]), v42, (D1_0 ++ [c23_u0]), hL16, S44, A40, by simp [e1_1, e1_2, e1_7, q43], by simp [e1_1, e1_2, e1_7, q43], by simp [e1_1, e1_2, e1_7, q43]⟩
def F_impl_better_L1 (fu : Nat) (k1_0 : List Int) (k1_1 : List Int) (k1_2 : Int) (k1_3 : List (Int × Int)) (k1_4 : Int) : Nat → Int → Option (LR (List Int) (Int))
  | 0, _ => none
  | n + 1, y1_13 =>
    bif (ilt y1_13 k1_4) then
      gd (inL k1_3 y1_13) (
      bd (F_impl_exchanged fu k1_0 ((gat i2 k1_3 y1_13).1) ((gat i2 k1_3 y1_13).2)) fun r2 =>
      bd (F_impl_Meander_components fu r2 k1_1) fun r3 =>
      bif (ieq r3 k1_2) then
        gd (r2 ≠ []) (
        some (.ret r2))
      else
        F_impl_better_L1 fu k1_0 k1_1 k1_2 k1_3 k1_4 n (iadd .i64 y1_13 1))
    else
      some (.brk y1_13)
def F_impl_better (fu : Nat) (x0 : List Int) (x1 : List Int) (x2 : Int) : Option (List Int) :=
  bd (F_impl_couples fu x0) fun r1 =>
  bd (F_impl_better_L1 fu x0 x1 x2 r1 (llen r1) fu 0) fun s1 =>
  lr s1 fun s1 =>
  some []
theorem F_impl_better_w {fu : Nat} {H : AH} {v0 : Value} {v1 : Value} {x0 : List Int} {x1 : List Int} {x2 : Int} {r : (List Int)} (hx0 : Sl H v0 (ints x0)) (hx1 : Sl H v1 (ints x1)) (hF : F_impl_better fu x0 x1 x2 = some r) :
    ACallT Try.prog 109 [v0, v1, (Value.int .i64 x2)] H (fun u G => AgB (Fr H) H G ∧ ∃ u0 : Value, u = u0 ∧ Sep G (Fr H) [flat u0 3 (ints r)] ∧ (r = [] → u0 = nilV)) := by
  refine ACallT.of_body (nt := 31) (rs := [.tmp 6]) Try.func109 rfl rfl rfl rfl ?_
  have A0 : AgB (Fr H) H H := .refl _ _
  have S0 : Sep H (Fr H) [] := .nil
  have hB := Fr.up H
  unfold F_impl_better at hF
  refine DWp.seq ?_
  refine DWp.region fun K hK => ?_
  simp [-aBin', -aBin, -aBinI, -aUn, -aNil, -flatV, n_fn, b_add, b_sub, b_mul, b_lt, b_le, b_gt, b_ge, b_eq, b_ne, u_not]
  apply hK
  clear hK K
  simp only [andThen, leaves]
  refine DWp.seq ?_
  refine DWp.seq ?_
  obtain ⟨r1, hc1, hF⟩ := bd_some hF
  refine DWp.region fun K hK => ?_
  simp [-aBin', -aBin, -aBinI, -aUn, -aNil, -flatV, n_fn, b_add, b_sub, b_mul, b_lt, b_le, b_gt, b_ge, b_eq, b_ne, u_not, ((hx0.agree A0.agree).tup)]
  refine CallD.t (F_impl_couples_w (fu := fu) (hx0.agree A0.agree) hc1) ?_
  rintro c2_u0 G3 ⟨a6, _, rfl, S7⟩
  have A5 := A0.ext (hB.le A0.1) a6.agree
  have S4 : Sep G3 (Fr H) [flatI c2_u0 62 r1] := S0.app a6.agree S7 (fun _ h => h) (hB.le A0.1)
  have q8 := (S4.slI (k := 0) rfl).lenG (P := Try.prog) el_58
  simp [-aBin', -aBin, -aBinI, -aUn, -aNil, -flatV, n_fn, b_add, b_sub, b_mul, b_lt, b_le, b_gt, b_ge, b_eq, b_ne, u_not, a6.pre, q8]
  apply hK
  clear hK K
  simp only [andThen, leaves]
  refine DWp.block ?_
  obtain ⟨s9, hL10, hF⟩ := bd_some hF
  have S11 := S4.pick [0] (by decide) rfl
  refine DWp.loop (fun n env G => ∃ y1_13 : Int, F_impl_better_L1 fu x0 x1 x2 r1 (llen r1) n y1_13 = some s9 ∧ Sep G (Fr H) [flatI c2_u0 62 r1] ∧ AgB (Fr H) H G ∧ env 0 = some v0 ∧ env 1 = some v1 ∧ env 2 = some (Value.int .i64 x2) ∧ env 11 = some c2_u0 ∧ env 12 = some (Value.int .i64 (llen r1)) ∧ env 13 = some (Value.int .i64 y1_13)) fu ⟨0, hL10, S11, A5, by simp [], by simp [], by simp [], by simp [], by simp [], by simp []⟩ ?_
  rintro n1 env1 G1_ ⟨y1_13, hL10, S1_, A1_, e1_0, e1_1, e1_2, e1_11, e1_12, e1_13⟩
  cases n1 with
  | zero => cases hL10
  | succ n1 =>
    simp only [F_impl_better_L1] at hL10
    refine DWp.seq ?_
    refine DWp.region fun K hK => ?_
    simp [-aBin', -aBin, -aBinI, -aUn, -aNil, -flatV, n_fn, b_add, b_sub, b_mul, b_lt, b_le, b_gt, b_ge, b_eq, b_ne, u_not, e1_0, e1_1, e1_2, e1_11, e1_12, e1_13]
    apply hK
    clear hK K
    simp only [andThen, leaves]
    refine DWp.seq ?_
    refine DWp.cond' (t := (ilt y1_13 (llen r1))) (by simp [e1_0, e1_1, e1_2, e1_11, e1_12, e1_13]) (fun hb12 => ?_) (fun hb12 => ?_)
    · replace hL10 := cd_t hb12 hL10
      refine DWp.skip ?_
      simp only [andThen, leaves]
      refine DWp.seq ?_
      refine DWp.block ?_
      refine DWp.seq ?_
      obtain ⟨g13, hL10⟩ := gd_some hL10
      have q14 := (S1_.slI (k := 0) rfl).idxG (P := Try.prog) (kk := .i64) el_58 sz_62 g13
      have q15 := (S1_.slI (k := 0) rfl).loadG (P := Try.prog) sz_62 ag_62 g13
      obtain ⟨G17, p19, q20, q22, a21, S16⟩ := S1_.allocT (P := Try.prog) (hB.le A1_.1) ze_62 rfl
      have A18 := A1_.ext (hB.le A1_.1) a21
      replace S16 : Sep G17 (Fr H) [flatI c2_u0 62 r1, AL.box p19 [(Value.int .i64 0), (Value.int .i64 0)]] := S16
      obtain ⟨G23, q24, S25, a27⟩ := S16.putAgg (P := Try.prog) (k := 1) (xs := [(Value.int .i64 (gat i2 r1 y1_13).1), (Value.int .i64 (gat i2 r1 y1_13).2)]) rfl (hB.le A18.1) sz_62 rfl rfl
      have A26 := A18.trans a27
      replace S25 : Sep G23 (Fr H) [flatI c2_u0 62 r1, AL.box p19 [(Value.int .i64 (gat i2 r1 y1_13).1), (Value.int .i64 (gat i2 r1 y1_13).2)]] := S25
      refine DWp.region fun K hK => ?_
      simp [-aBin', -aBin, -aBinI, -aUn, -aNil, -flatV, n_fn, b_add, b_sub, b_mul, b_lt, b_le, b_gt, b_ge, b_eq, b_ne, u_not, e1_0, e1_1, e1_2, e1_11, e1_12, e1_13, q14, q15, q20, q22, a21.to_pre, q24]
      apply hK
      clear hK K
      simp only [andThen, leaves]
      refine DWp.seq ?_
      have q28 : aIndexAddr Try.prog G23 62 p19 (Value.int .i64 0) = some (fldP p19 0) := S25.arrI (P := Try.prog) (kk := .i64) (k := 1) (n := 0) rfl ua_62 sz_3 (by decide)
      have q29 := S25.loadF (P := Try.prog) (k := 1) rfl sz_3 ag_3 (off := 0) rfl
      have q30 : aIndexAddr Try.prog G23 62 p19 (Value.int .i64 1) = some (fldP p19 1) := S25.arrI (P := Try.prog) (kk := .i64) (k := 1) (n := 1) rfl ua_62 sz_3 (by decide)
      have q31 := S25.loadF (P := Try.prog) (k := 1) rfl sz_3 ag_3 (off := 1) rfl
      obtain ⟨r2, hc32, hL10⟩ := bd_some hL10
      refine DWp.region fun K hK => ?_
      simp [-aBin', -aBin, -aBinI, -aUn, -aNil, -flatV, n_fn, b_add, b_sub, b_mul, b_lt, b_le, b_gt, b_ge, b_eq, b_ne, u_not, e1_0, e1_1, e1_2, e1_11, e1_12, e1_13, q28, q29, q30, q31, ((hx0.agree A26.agree).tup)]
      refine CallD.t (F_impl_exchanged_w (fu := fu) (hx0.agree A26.agree) hc32) ?_
      rintro c33_u0 G34 ⟨a37, _, rfl, S38⟩
      have A36 := A26.ext (hB.le A26.1) a37.agree
      have S35 : Sep G34 (Fr H) [flatI c2_u0 62 r1, AL.box p19 [(Value.int .i64 (gat i2 r1 y1_13).1), (Value.int .i64 (gat i2 r1 y1_13).2)], flat c33_u0 3 (ints r2)] := S25.app a37.agree S38 (fun _ h => h) (hB.le A26.1)
      simp [-aBin', -aBin, -aBinI, -aUn, -aNil, -flatV, n_fn, b_add, b_sub, b_mul, b_lt, b_le, b_gt, b_ge, b_eq, b_ne, u_not, e1_0, e1_1, e1_2, e1_11, e1_12, e1_13, q28, q29, q30, q31, a37.pre]
      apply hK
      clear hK K
      simp only [andThen, leaves]
      refine DWp.seq ?_
      obtain ⟨r3, hc39, hL10⟩ := bd_some hL10
      refine DWp.region fun K hK => ?_
      simp [-aBin', -aBin, -aBinI, -aUn, -aNil, -flatV, n_fn, b_add, b_sub, b_mul, b_lt, b_le, b_gt, b_ge, b_eq, b_ne, u_not, e1_0, e1_1, e1_2, e1_11, e1_12, e1_13, bu_38 ((S35.sl (k := 2) rfl).tup) ((S35.sl (k := 2) rfl).one) ((hx1.agree A36.agree).tup) ((hx1.agree A36.agree).one), ((S35.sl (k := 2) rfl).tup), ((hx1.agree A36.agree).tup)]
      refine CallD.t (F_impl_Meander_components_w (fu := fu) (S35.sl (k := 2) rfl) (hx1.agree A36.agree) hc39) ?_
      rintro _ G41 ⟨a44, rfl, S45⟩
      have A43 := A36.ext (hB.le A36.1) a44.agree
      have S42 : Sep G41 (Fr H) [flatI c2_u0 62 r1, AL.box p19 [(Value.int .i64 (gat i2 r1 y1_13).1), (Value.int .i64 (gat i2 r1 y1_13).2)], flat c33_u0 3 (ints r2)] := S35.app a44.agree S45 (fun _ h => h) (hB.le A36.1)
      simp [-aBin', -aBin, -aBinI, -aUn, -aNil, -flatV, n_fn, b_add, b_sub, b_mul, b_lt, b_le, b_gt, b_ge, b_eq, b_ne, u_not, e1_0, e1_1, e1_2, e1_11, e1_12, e1_13, bu_38 ((S35.sl (k := 2) rfl).tup) ((S35.sl (k := 2) rfl).one) ((hx1.agree A36.agree).tup) ((hx1.agree A36.agree).one), a44.pre]
      apply hK
      clear hK K
      simp only [andThen, leaves]
      refine DWp.cond' (t := (ieq r3 x2)) (by simp [e1_0, e1_1, e1_2, e1_11, e1_12, e1_13]) (fun hb46 => ?_) (fun hb46 => ?_)
      · replace hL10 := cd_t hb46 hL10
        refine DWp.seq ?_
        refine DWp.region fun K hK => ?_
        simp [-aBin', -aBin, -aBinI, -aUn, -aNil, -flatV, n_fn, b_add, b_sub, b_mul, b_lt, b_le, b_gt, b_ge, b_eq, b_ne, u_not, e1_0, e1_1, e1_2, e1_11, e1_12, e1_13]
        apply hK
        clear hK K
        simp only [andThen, leaves]
        refine DWp.ret ?_
        simp only [andThen, leaves]
        obtain ⟨g47, hL10⟩ := gd_some hL10
        obtain rfl := Option.some.inj hL10
        simp only [lr] at hF
        obtain rfl := Option.some.inj hF
        exact ⟨by simp, [c33_u0], by simp [e1_0, e1_1, e1_2, e1_11, e1_12, e1_13, ((S42.sl (k := 2) rfl).tup)], A43, c33_u0, rfl, S42.pick [2] (by decide) rfl, fun h_ => absurd h_ g47⟩
      · replace hL10 := cd_f hb46 hL10
        refine DWp.skip ?_
        simp only [andThen, leaves]
        refine DWp.region fun K hK => ?_
        simp [-aBin', -aBin, -aBinI, -aUn, -aNil, -flatV, n_fn, b_add, b_sub, b_mul, b_lt, b_le, b_gt, b_ge, b_eq, b_ne, u_not, e1_0, e1_1, e1_2, e1_11, e1_12, e1_13]
        apply hK
        clear hK K
        simp only [andThen, leaves]
        have S48 := S42.pick [0] (by decide) rfl
        exact ⟨n1, Nat.lt_succ_self _, (iadd .i64 y1_13 1), hL10, S48, A43, by simp [e1_0, e1_1, e1_2, e1_11, e1_12, e1_13], by simp [e1_0, e1_1, e1_2, e1_11, e1_12, e1_13], by simp [e1_0, e1_1, e1_2, e1_11, e1_12, e1_13], by simp [e1_0, e1_1, e1_2, e1_11, e1_12, e1_13], by simp [e1_0, e1_1, e1_2, e1_11, e1_12, e1_13], by simp [e1_0, e1_1, e1_2, e1_11, e1_12, e1_13]⟩
    · replace hL10 := cd_f hb12 hL10
      refine DWp.exit ?_
      simp only [andThen, leaves, if_true, if_false, reduceIte, Nat.reduceEqDiff]
      obtain rfl := Option.some.inj hL10
      simp only [lr] at hF
      refine DWp.seq ?_
      refine DWp.region fun K hK => ?_
      simp [-aBin', -aBin, -aBinI, -aUn, -aNil, -flatV, n_fn, b_add, b_sub, b_mul, b_lt, b_le, b_gt, b_ge, b_eq, b_ne, u_not, e1_0, e1_1, e1_2, e1_11, e1_12, e1_13]
      apply hK
      clear hK K
      simp only [andThen, leaves]
      refine DWp.ret ?_
      have S49 := S1_.nilItem (hB.le A1_.1) 3
      obtain rfl := Option.some.inj hF
      exact ⟨by simp, [(Value.slice none 0 0)], by simp [e1_0, e1_1, e1_2, e1_11, e1_12, e1_13], A1_, (Value.slice none 0 0), rfl, S49.pick [1] (by decide) rfl, fun _ => rfl⟩
def F_impl_path_L1 (fu : Nat) (k1_0 : List Int) (k1_1 : Int) : Nat → List (List Int) → Int → Int → Option (LR (List (List Int)) (List (List Int) × Int × Int))
  | 0, _, _, _ => none
  | n + 1, l1_0, y1_0, y1_8 =>
    bif (ine y1_8 k1_1) then
      bd (
        bif (ilt y1_8 k1_1) then
          some (iadd .i64 y1_8 1)
        else
          some (isub .i64 y1_8 1)) fun s57 =>
      bd (F_impl_better fu (gat [] l1_0 y1_0) k1_0 s57) fun r4 =>
      bif (lemp r4) then
        some (.ret l1_0)
      else
        gd (l1_0.length + 1 ≤ 4294967296) (
        F_impl_path_L1 fu k1_0 k1_1 n (lapp l1_0 [r4]) (llen l1_0) s57)
    else
      some (.brk (l1_0, y1_0, y1_8))
def F_impl_path (fu : Nat) (x0 : List Int) (x1 : List Int) (x2 : Int) : Option (List (List Int)) :=
  bd (F_slices_Clone_Sint fu x0) fun r1 =>
  bd (F_impl_Meander_components fu x0 x1) fun r2 =>
  bif (ine r2 x2) then
    bd (
      bif (ilt r2 x2) then
        some (iadd .i64 r2 1)
      else
        some (isub .i64 r2 1)) fun s23 =>
    bd (F_impl_better fu x0 x1 s23) fun r3 =>
    bif (lemp r3) then
      some [r1]
    else
      gd ([r1].length + 1 ≤ 4294967296) (
      bd (F_impl_path_L1 fu x1 x2 fu (lapp [r1] [r3]) (llen [r1]) s23) fun s1 =>
      lr s1 fun s1 =>
      some s1.1)
  else
    some [r1]
theorem F_impl_path_w {fu : Nat} {H : AH} {v0 : Value} {v1 : Value} {x0 : List Int} {x1 : List Int} {x2 : Int} {r : (List (List Int))} (hx0 : Sl H v0 (ints x0)) (hx1 : Sl H v1 (ints x1)) (hF : F_impl_path fu x0 x1 x2 = some r) :
    ACallT Try.prog 81 [v0, v1, (Value.int .i64 x2)] H (fun u G => AgB (Fr H) H G ∧ ∃ u0 : Value, ∃ C0 : List Value, u = u0 ∧ Sep G (Fr H) [rowsC u0 22 3 C0 (List.map ints r)]) := by
  refine ACallT.of_body (nt := 38) (rs := [.tmp 6]) Try.func81 rfl rfl rfl rfl ?_
  have A0 : AgB (Fr H) H H := .refl _ _
  have S0 : Sep H (Fr H) [] := .nil
  have hB := Fr.up H
  unfold F_impl_path at hF
  refine DWp.seq ?_
  refine DWp.region fun K hK => ?_
  simp [-aBin', -aBin, -aBinI, -aUn, -aNil, -flatV, n_fn, b_add, b_sub, b_mul, b_lt, b_le, b_gt, b_ge, b_eq, b_ne, u_not]
  apply hK
  clear hK K
  simp only [andThen, leaves]
  refine DWp.seq ?_
  obtain ⟨r1, hc1, hF⟩ := bd_some hF
  refine DWp.region fun K hK => ?_
  simp [-aBin', -aBin, -aBinI, -aUn, -aNil, -flatV, n_fn, b_add, b_sub, b_mul, b_lt, b_le, b_gt, b_ge, b_eq, b_ne, u_not, ((hx0.agree A0.agree).tup)]
  refine CallD.t (F_slices_Clone_Sint_w (fu := fu) (hx0.agree A0.agree) hc1) ?_
  rintro c2_u0 G3 ⟨a6, _, rfl, S7⟩
  have A5 := A0.ext (hB.le A0.1) a6.agree
  have S4 : Sep G3 (Fr H) [flat c2_u0 3 (ints r1)] := S0.app a6.agree S7 (fun _ h => h) (hB.le A0.1)
  obtain ⟨v8, G9, q10, S11, a13, _, _⟩ := S4.lit1 (P := Try.prog) (t := 23) (hB.le A5.1) el_23 ei_22 rfl c2_u0 ((S4.sl (k := 0) rfl).tup) ((S4.sl (k := 0) rfl).one)
  have A12 := A5.ext (hB.le A5.1) a13
  replace S11 : Sep G9 (Fr H) [flat c2_u0 3 (ints r1), flat1 v8 22 [c2_u0]] := S11
  simp [-aBin', -aBin, -aBinI, -aUn, -aNil, -flatV, n_fn, b_add, b_sub, b_mul, b_lt, b_le, b_gt, b_ge, b_eq, b_ne, u_not, a6.pre, q10, a13.to_pre, ((S4.sl (k := 0) rfl).tup)]
  apply hK
  clear hK K
  simp only [andThen, leaves]
  refine DWp.seq ?_
  refine DWp.seq ?_
  obtain ⟨r2, hc14, hF⟩ := bd_some hF
  refine DWp.region fun K hK => ?_
  simp [-aBin', -aBin, -aBinI, -aUn, -aNil, -flatV, n_fn, b_add, b_sub, b_mul, b_lt, b_le, b_gt, b_ge, b_eq, b_ne, u_not, bu_38 ((hx0.agree A12.agree).tup) ((hx0.agree A12.agree).one) ((hx1.agree A12.agree).tup) ((hx1.agree A12.agree).one), ((hx0.agree A12.agree).tup), ((hx1.agree A12.agree).tup)]
  refine CallD.t (F_impl_Meander_components_w (fu := fu) (hx0.agree A12.agree) (hx1.agree A12.agree) hc14) ?_
  rintro _ G16 ⟨a19, rfl, S20⟩
  have A18 := A12.ext (hB.le A12.1) a19.agree
  have S17 : Sep G16 (Fr H) [flat c2_u0 3 (ints r1), flat1 v8 22 [c2_u0]] := S11.app a19.agree S20 (fun _ h => h) (hB.le A12.1)
  simp [-aBin', -aBin, -aBinI, -aUn, -aNil, -flatV, n_fn, b_add, b_sub, b_mul, b_lt, b_le, b_gt, b_ge, b_eq, b_ne, u_not, bu_38 ((hx0.agree A12.agree).tup) ((hx0.agree A12.agree).one) ((hx1.agree A12.agree).tup) ((hx1.agree A12.agree).one), a19.pre]
  apply hK
  clear hK K
  simp only [andThen, leaves]
  refine DWp.block ?_
  refine DLoop.wp (DLoop.step ?_)
  refine DWp.seq ?_
  refine DWp.seq ?_
  refine DWp.region fun K hK => ?_
  simp [-aBin', -aBin, -aBinI, -aUn, -aNil, -flatV, n_fn, b_add, b_sub, b_mul, b_lt, b_le, b_gt, b_ge, b_eq, b_ne, u_not]
  apply hK
  clear hK K
  simp only [andThen, leaves]
  refine DWp.cond' (t := (ine r2 x2)) (by simp []) (fun hb21 => ?_) (fun hb21 => ?_)
  · replace hF := cd_t hb21 hF
    refine DWp.skip ?_
    simp only [andThen, leaves]
    refine DWp.block ?_
    have S22 : Sep G16 (Fr H) [emp, rowsC v8 22 3 [c2_u0] (List.map ints [r1])] := S17.rowsOf1 (j := 1) (k := 0) (by decide) rfl rfl
    obtain ⟨s23, hL24, hF⟩ := bd_some hF
    refine DWp.seq (DWp.join (fun env G => Sep G (Fr H) [rowsC v8 22 3 [c2_u0] (List.map ints [r1])] ∧ AgB (Fr H) H G ∧ env 0 = some v0 ∧ env 1 = some v1 ∧ env 2 = some (Value.int .i64 x2) ∧ env 7 = some v8 ∧ env 8 = some (Value.int .i64 s23)) ?_ ?_)
    ·
      refine DWp.seq ?_
      refine DWp.region fun K hK => ?_
      simp [-aBin', -aBin, -aBinI, -aUn, -aNil, -flatV, n_fn, b_add, b_sub, b_mul, b_lt, b_le, b_gt, b_ge, b_eq, b_ne, u_not]
      apply hK
      clear hK K
      simp only [andThen, leaves]
      refine DWp.cond' (t := (ilt r2 x2)) (by simp []) (fun hb26 => ?_) (fun hb26 => ?_)
      · replace hL24 := cd_t hb26 hL24
        refine DWp.region fun K hK => ?_
        simp [-aBin', -aBin, -aBinI, -aUn, -aNil, -flatV, n_fn, b_add, b_sub, b_mul, b_lt, b_le, b_gt, b_ge, b_eq, b_ne, u_not]
        apply hK
        clear hK K
        simp only [andThen, leaves]
        have S27 := S22.pick [1] (by decide) rfl
        obtain rfl := Option.some.inj hL24
        exact ⟨S27, A18, by simp [], by simp [], by simp [], by simp [], by simp []⟩
      · replace hL24 := cd_f hb26 hL24
        refine DWp.region fun K hK => ?_
        simp [-aBin', -aBin, -aBinI, -aUn, -aNil, -flatV, n_fn, b_add, b_sub, b_mul, b_lt, b_le, b_gt, b_ge, b_eq, b_ne, u_not]
        apply hK
        clear hK K
        simp only [andThen, leaves]
        have S28 := S22.pick [1] (by decide) rfl
        obtain rfl := Option.some.inj hL24
        exact ⟨S28, A18, by simp [], by simp [], by simp [], by simp [], by simp []⟩
    · rintro env Gj29 ⟨Sj29, Aj29, ej29_0, ej29_1, ej29_2, ej29_7, ej29_8⟩
      refine DWp.seq ?_
      obtain ⟨r3, hc30, hF⟩ := bd_some hF
      refine DWp.region fun K hK => ?_
      simp [-aBin', -aBin, -aBinI, -aUn, -aNil, -flatV, n_fn, b_add, b_sub, b_mul, b_lt, b_le, b_gt, b_ge, b_eq, b_ne, u_not, ej29_0, ej29_1, ej29_2, ej29_7, ej29_8, ((hx0.agree Aj29.agree).tup), ((hx1.agree Aj29.agree).tup)]
      refine CallD.t (F_impl_better_w (fu := fu) (hx0.agree Aj29.agree) (hx1.agree Aj29.agree) hc30) ?_
      rintro c31_u0 G32 ⟨a35, _, rfl, S36, hn37⟩
      have A34 := Aj29.ext (hB.le Aj29.1) a35.agree
      have S33 : Sep G32 (Fr H) [rowsC v8 22 3 [c2_u0] (List.map ints [r1]), flat c31_u0 3 (ints r3)] := Sj29.app a35.agree S36 (fun _ h => h) (hB.le Aj29.1)
      simp [-aBin', -aBin, -aBinI, -aUn, -aNil, -flatV, n_fn, b_add, b_sub, b_mul, b_lt, b_le, b_gt, b_ge, b_eq, b_ne, u_not, ej29_0, ej29_1, ej29_2, ej29_7, ej29_8, a35.pre]
      apply hK
      clear hK K
      simp only [andThen, leaves]
      refine DWp.seq ?_
      refine DWp.seq ?_
      refine DWp.region fun K hK => ?_
      simp [-aBin', -aBin, -aBinI, -aUn, -aNil, -flatV, n_fn, b_add, b_sub, b_mul, b_lt, b_le, b_gt, b_ge, b_eq, b_ne, u_not, ej29_0, ej29_1, ej29_2, ej29_7, ej29_8, nil_q us_22 (S33.sl (k := 1) rfl) hn37]
      apply hK
      clear hK K
      simp only [andThen, leaves]
      refine DWp.cond' (t := (lemp r3)) (by simp [ej29_0, ej29_1, ej29_2, ej29_7, ej29_8]) (fun hb38 => ?_) (fun hb38 => ?_)
      · replace hF := cd_t hb38 hF
        refine DWp.seq ?_
        refine DWp.region fun K hK => ?_
        simp [-aBin', -aBin, -aBinI, -aUn, -aNil, -flatV, n_fn, b_add, b_sub, b_mul, b_lt, b_le, b_gt, b_ge, b_eq, b_ne, u_not, ej29_0, ej29_1, ej29_2, ej29_7, ej29_8]
        apply hK
        clear hK K
        simp only [andThen, leaves]
        refine DWp.ret ?_
        simp only [andThen, leaves]
        obtain rfl := Option.some.inj hF
        exact ⟨by simp, [v8], by simp [ej29_0, ej29_1, ej29_2, ej29_7, ej29_8, ((S33.rd (k := 0) rfl).tup)], A34, v8, [c2_u0], rfl, S33.pick [0] (by decide) rfl⟩
      · replace hF := cd_f hb38 hF
        refine DWp.skip ?_
        simp only [andThen, leaves]
        obtain ⟨v39, G40, q41, S42, a44, _, _⟩ := S33.lit1 (P := Try.prog) (t := 23) (hB.le A34.1) el_23 ei_22 rfl c31_u0 ((S33.sl (k := 1) rfl).tup) ((S33.sl (k := 1) rfl).one)
        have A43 := A34.ext (hB.le A34.1) a44
        replace S42 : Sep G40 (Fr H) [rowsC v8 22 3 [c2_u0] (List.map ints [r1]), flat c31_u0 3 (ints r3), flat1 v39 22 [c31_u0]] := S42
        obtain ⟨g45, hF⟩ := gd_some hF
        obtain ⟨v51, G46, q47, S48, a50, q47t, _⟩ := S42.pushRow (u := v8) (fr := ints) (X := [r1]) (y := r3) (P := Try.prog) (t := 23) (t2 := 23) (j := 0) (k := 1) (by decide) rfl rfl (hB.le A43.1) el_23 el_23 ei_22 rfl (S42.sl1 (k := 2) rfl) g45
        have A49 := A43.trans a50
        replace S48 : Sep G46 (Fr H) [rowsC v51 22 3 ([c2_u0] ++ [c31_u0]) (List.map ints (lapp [r1] [r3])), emp, flat1 v39 22 [c31_u0]] := S48
        have q52 := S48.lastV (fr := ints) (k := 0) rfl
        try simp only [List.cons_append, List.nil_append] at q52
        refine DWp.region fun K hK => ?_
        simp [-aBin', -aBin, -aBinI, -aUn, -aNil, -flatV, n_fn, b_add, b_sub, b_mul, b_lt, b_le, b_gt, b_ge, b_eq, b_ne, u_not, ej29_0, ej29_1, ej29_2, ej29_7, ej29_8, q52, q41, a44.to_pre, ((S33.sl (k := 1) rfl).tup), q47, q47t]
        apply hK
        clear hK K
        simp only [andThen, leaves]
        obtain ⟨s53, hL54, hF⟩ := bd_some hF
        have S55 := S48.pick [0] (by decide) rfl
        refine DLoop.of (fun n env G => ∃ l1_0 : List (List Int), ∃ y1_0 : Int, ∃ y1_8 : Int, ∃ w1_0 : Value, ∃ D1_0 : List Value, F_impl_path_L1 fu x1 x2 n l1_0 y1_0 y1_8 = some s53 ∧ Sep G (Fr H) [rowsC w1_0 22 3 D1_0 (List.map ints l1_0)] ∧ AgB (Fr H) H G ∧ env 0 = some (gat nilV D1_0 y1_0) ∧ env 1 = some v1 ∧ env 2 = some (Value.int .i64 x2) ∧ env 7 = some w1_0 ∧ env 8 = some (Value.int .i64 y1_8) ∧ inL l1_0 y1_0) fu ⟨(lapp [r1] [r3]), (llen [r1]), s23, v51, ([c2_u0] ++ [c31_u0]), hL54, S55, A49, by simp [ej29_0, ej29_1, ej29_2, ej29_7, ej29_8, q52], by simp [ej29_0, ej29_1, ej29_2, ej29_7, ej29_8, q52], by simp [ej29_0, ej29_1, ej29_2, ej29_7, ej29_8, q52], by simp [ej29_0, ej29_1, ej29_2, ej29_7, ej29_8, q52], by simp [ej29_0, ej29_1, ej29_2, ej29_7, ej29_8, q52], (inL_last (X := [r1]) (x := r3))⟩ ?_
        rintro n1 env1 G1_ ⟨l1_0, y1_0, y1_8, w1_0, D1_0, hL54, S1_, A1_, e1_0, e1_1, e1_2, e1_7, e1_8, hrn_y1_0⟩
        cases n1 with
        | zero => cases hL54
        | succ n1 =>
          simp only [F_impl_path_L1] at hL54
          refine DWp.seq ?_
          refine DWp.seq ?_
          refine DWp.region fun K hK => ?_
          simp [-aBin', -aBin, -aBinI, -aUn, -aNil, -flatV, n_fn, b_add, b_sub, b_mul, b_lt, b_le, b_gt, b_ge, b_eq, b_ne, u_not, e1_0, e1_1, e1_2, e1_7, e1_8]
          apply hK
          clear hK K
          simp only [andThen, leaves]
          refine DWp.cond' (t := (ine y1_8 x2)) (by simp [e1_0, e1_1, e1_2, e1_7, e1_8]) (fun hb56 => ?_) (fun hb56 => ?_)
          · replace hL54 := cd_t hb56 hL54
            refine DWp.skip ?_
            simp only [andThen, leaves]
            refine DWp.block ?_
            obtain ⟨s57, hL58, hL54⟩ := bd_some hL54
            refine DWp.seq (DWp.join (fun env G => Sep G (Fr H) [rowsC w1_0 22 3 D1_0 (List.map ints l1_0)] ∧ AgB (Fr H) H G ∧ env 0 = some (gat nilV D1_0 y1_0) ∧ env 1 = some v1 ∧ env 2 = some (Value.int .i64 x2) ∧ env 7 = some w1_0 ∧ env 8 = some (Value.int .i64 s57)) ?_ ?_)
            ·
              refine DWp.seq ?_
              refine DWp.region fun K hK => ?_
              simp [-aBin', -aBin, -aBinI, -aUn, -aNil, -flatV, n_fn, b_add, b_sub, b_mul, b_lt, b_le, b_gt, b_ge, b_eq, b_ne, u_not, e1_0, e1_1, e1_2, e1_7, e1_8]
              apply hK
              clear hK K
              simp only [andThen, leaves]
              refine DWp.cond' (t := (ilt y1_8 x2)) (by simp [e1_0, e1_1, e1_2, e1_7, e1_8]) (fun hb60 => ?_) (fun hb60 => ?_)
              · replace hL58 := cd_t hb60 hL58
                refine DWp.region fun K hK => ?_
                simp [-aBin', -aBin, -aBinI, -aUn, -aNil, -flatV, n_fn, b_add, b_sub, b_mul, b_lt, b_le, b_gt, b_ge, b_eq, b_ne, u_not, e1_0, e1_1, e1_2, e1_7, e1_8]
                apply hK
                clear hK K
                simp only [andThen, leaves]
                have S61 := S1_.pick [0] (by decide) rfl
                obtain rfl := Option.some.inj hL58
                exact ⟨S61, A1_, by simp [e1_0, e1_1, e1_2, e1_7, e1_8], by simp [e1_0, e1_1, e1_2, e1_7, e1_8], by simp [e1_0, e1_1, e1_2, e1_7, e1_8], by simp [e1_0, e1_1, e1_2, e1_7, e1_8], by simp [e1_0, e1_1, e1_2, e1_7, e1_8]⟩
              · replace hL58 := cd_f hb60 hL58
                refine DWp.region fun K hK => ?_
                simp [-aBin', -aBin, -aBinI, -aUn, -aNil, -flatV, n_fn, b_add, b_sub, b_mul, b_lt, b_le, b_gt, b_ge, b_eq, b_ne, u_not, e1_0, e1_1, e1_2, e1_7, e1_8]
                apply hK
                clear hK K
                simp only [andThen, leaves]
                have S62 := S1_.pick [0] (by decide) rfl
                obtain rfl := Option.some.inj hL58
                exact ⟨S62, A1_, by simp [e1_0, e1_1, e1_2, e1_7, e1_8], by simp [e1_0, e1_1, e1_2, e1_7, e1_8], by simp [e1_0, e1_1, e1_2, e1_7, e1_8], by simp [e1_0, e1_1, e1_2, e1_7, e1_8], by simp [e1_0, e1_1, e1_2, e1_7, e1_8]⟩
            · rintro env Gj63 ⟨Sj63, Aj63, ej63_0, ej63_1, ej63_2, ej63_7, ej63_8⟩
              refine DWp.seq ?_
              obtain ⟨r4, hc64, hL54⟩ := bd_some hL54
              refine DWp.region fun K hK => ?_
              simp [-aBin', -aBin, -aBinI, -aUn, -aNil, -flatV, n_fn, b_add, b_sub, b_mul, b_lt, b_le, b_gt, b_ge, b_eq, b_ne, u_not, ej63_0, ej63_1, ej63_2, ej63_7, ej63_8, (((Sj63.rd (k := 0) rfl).rowAt [] hrn_y1_0).tup), ((hx1.agree Aj63.agree).tup)]
              refine CallD.t (F_impl_better_w (fu := fu) ((Sj63.rd (k := 0) rfl).rowAt [] hrn_y1_0) (hx1.agree Aj63.agree) hc64) ?_
              rintro c65_u0 G66 ⟨a69, _, rfl, S70, hn71⟩
              have A68 := Aj63.ext (hB.le Aj63.1) a69.agree
              have S67 : Sep G66 (Fr H) [rowsC w1_0 22 3 D1_0 (List.map ints l1_0), flat c65_u0 3 (ints r4)] := Sj63.app a69.agree S70 (fun _ h => h) (hB.le Aj63.1)
              simp [-aBin', -aBin, -aBinI, -aUn, -aNil, -flatV, n_fn, b_add, b_sub, b_mul, b_lt, b_le, b_gt, b_ge, b_eq, b_ne, u_not, ej63_0, ej63_1, ej63_2, ej63_7, ej63_8, a69.pre]
              apply hK
              clear hK K
              simp only [andThen, leaves]
              refine DWp.seq ?_
              refine DWp.seq ?_
              refine DWp.region fun K hK => ?_
              simp [-aBin', -aBin, -aBinI, -aUn, -aNil, -flatV, n_fn, b_add, b_sub, b_mul, b_lt, b_le, b_gt, b_ge, b_eq, b_ne, u_not, ej63_0, ej63_1, ej63_2, ej63_7, ej63_8, nil_q us_22 (S67.sl (k := 1) rfl) hn71]
              apply hK
              clear hK K
              simp only [andThen, leaves]
              refine DWp.cond' (t := (lemp r4)) (by simp [ej63_0, ej63_1, ej63_2, ej63_7, ej63_8]) (fun hb72 => ?_) (fun hb72 => ?_)
              · replace hL54 := cd_t hb72 hL54
                refine DWp.seq ?_
                refine DWp.region fun K hK => ?_
                simp [-aBin', -aBin, -aBinI, -aUn, -aNil, -flatV, n_fn, b_add, b_sub, b_mul, b_lt, b_le, b_gt, b_ge, b_eq, b_ne, u_not, ej63_0, ej63_1, ej63_2, ej63_7, ej63_8]
                apply hK
                clear hK K
                simp only [andThen, leaves]
                refine DWp.ret ?_
                simp only [andThen, leaves]
                obtain rfl := Option.some.inj hL54
                simp only [lr] at hF
                obtain rfl := Option.some.inj hF
                exact ⟨by simp, [w1_0], by simp [ej63_0, ej63_1, ej63_2, ej63_7, ej63_8, ((S67.rd (k := 0) rfl).tup)], A68, w1_0, D1_0, rfl, S67.pick [0] (by decide) rfl⟩
              · replace hL54 := cd_f hb72 hL54
                refine DWp.skip ?_
                simp only [andThen, leaves]
                obtain ⟨v73, G74, q75, S76, a78, _, _⟩ := S67.lit1 (P := Try.prog) (t := 23) (hB.le A68.1) el_23 ei_22 rfl c65_u0 ((S67.sl (k := 1) rfl).tup) ((S67.sl (k := 1) rfl).one)
                have A77 := A68.ext (hB.le A68.1) a78
                replace S76 : Sep G74 (Fr H) [rowsC w1_0 22 3 D1_0 (List.map ints l1_0), flat c65_u0 3 (ints r4), flat1 v73 22 [c65_u0]] := S76
                obtain ⟨g79, hL54⟩ := gd_some hL54
                obtain ⟨v85, G80, q81, S82, a84, q81t, _⟩ := S76.pushRow (u := w1_0) (fr := ints) (X := l1_0) (y := r4) (P := Try.prog) (t := 23) (t2 := 23) (j := 0) (k := 1) (by decide) rfl rfl (hB.le A77.1) el_23 el_23 ei_22 rfl (S76.sl1 (k := 2) rfl) g79
                have A83 := A77.trans a84
                replace S82 : Sep G80 (Fr H) [rowsC v85 22 3 (D1_0 ++ [c65_u0]) (List.map ints (lapp l1_0 [r4])), emp, flat1 v73 22 [c65_u0]] := S82
                have q86 := S82.lastV (fr := ints) (k := 0) rfl
                try simp only [List.cons_append, List.nil_append] at q86
                refine DWp.region fun K hK => ?_
                simp [-aBin', -aBin, -aBinI, -aUn, -aNil, -flatV, n_fn, b_add, b_sub, b_mul, b_lt, b_le, b_gt, b_ge, b_eq, b_ne, u_not, ej63_0, ej63_1, ej63_2, ej63_7, ej63_8, q86, q75, a78.to_pre, ((S67.sl (k := 1) rfl).tup), q81, q81t]
                apply hK
                clear hK K
                simp only [andThen, leaves]
                have S87 := S82.pick [0] (by decide) rfl
                exact ⟨n1, Nat.lt_succ_self _, (lapp l1_0 [r4]), (llen l1_0), s57, v85, (D1_0 ++ [c65_u0]), hL54, S87, A83, by simp [ej63_0, ej63_1, ej63_2, ej63_7, ej63_8, q86], by simp [ej63_0, ej63_1, ej63_2, ej63_7, ej63_8, q86], by simp [ej63_0, ej63_1, ej63_2, ej63_7, ej63_8, q86], by simp [ej63_0, ej63_1, ej63_2, ej63_7, ej63_8, q86], by simp [ej63_0, ej63_1, ej63_2, ej63_7, ej63_8, q86], (inL_last (X := l1_0) (x := r4))⟩
          · replace hL54 := cd_f hb56 hL54
            refine DWp.exit ?_
            simp only [andThen, leaves, if_true, if_false, reduceIte, Nat.reduceEqDiff]
            obtain rfl := Option.some.inj hL54
            simp only [lr] at hF
            refine DWp.seq ?_
            refine DWp.region fun K hK => ?_
            simp [-aBin', -aBin, -aBinI, -aUn, -aNil, -flatV, n_fn, b_add, b_sub, b_mul, b_lt, b_le, b_gt, b_ge, b_eq, b_ne, u_not, e1_0, e1_1, e1_2, e1_7, e1_8]
            apply hK
            clear hK K
            simp only [andThen, leaves]
            refine DWp.ret ?_
            obtain rfl := Option.some.inj hF
            exact ⟨by simp, [w1_0], by simp [e1_0, e1_1, e1_2, e1_7, e1_8, ((S1_.rd (k := 0) rfl).tup)], A1_, w1_0, D1_0, rfl, S1_.pick [0] (by decide) rfl⟩
  · replace hF := cd_f hb21 hF
    refine DWp.exit ?_
    simp only [andThen, leaves, if_true, if_false, reduceIte, Nat.reduceEqDiff]
    refine DWp.seq ?_
    refine DWp.region fun K hK => ?_
    simp [-aBin', -aBin, -aBinI, -aUn, -aNil, -flatV, n_fn, b_add, b_sub, b_mul, b_lt, b_le, b_gt, b_ge, b_eq, b_ne, u_not]
    apply hK
    clear hK K
    simp only [andThen, leaves]
    refine DWp.ret ?_
    have S88 : Sep G16 (Fr H) [emp, rowsC v8 22 3 [c2_u0] (List.map ints [r1])] := S17.rowsOf1 (j := 1) (k := 0) (by decide) rfl rfl
    obtain rfl := Option.some.inj hF
    exact ⟨by simp, [v8], by simp [((S88.rd (k := 1) rfl).tup)], A18, v8, [c2_u0], rfl, S88.pick [1] (by decide) rfl⟩
def F_laws_szIntS (fu : Nat) (x0 : List Int) (x1 : Int) : Option (Int) :=
  bif (ilt (isub .i64 x1 (llen x0)) 0) then
    some (-1)
  else
    some (isub .i64 x1 (llen x0))
theorem F_laws_szIntS_w {fu : Nat} {H : AH} {v0 : Value} {x0 : List Int} {x1 : Int} {r : (Int)} (hx0 : Sl H v0 (ints x0)) (hF : F_laws_szIntS fu x0 x1 = some r) :
    ACallT Try.prog 61 [v0, (Value.int .i64 x1)] H (fun u G => AgB (Fr H) H G ∧ u = (Value.int .i64 r) ∧ Sep G (Fr H) []) := by
  refine ACallT.of_body (nt := 12) (rs := [.tmp 4]) Try.func61 rfl rfl rfl rfl ?_
  have A0 : AgB (Fr H) H H := .refl _ _
  have S0 : Sep H (Fr H) [] := .nil
  have hB := Fr.up H
  unfold F_laws_szIntS at hF
  refine DWp.seq ?_
  refine DWp.region fun K hK => ?_
  simp [-aBin', -aBin, -aBinI, -aUn, -aNil, -flatV, n_fn, b_add, b_sub, b_mul, b_lt, b_le, b_gt, b_ge, b_eq, b_ne, u_not]
  apply hK
  clear hK K
  simp only [andThen, leaves]
  refine DWp.seq ?_
  have q1 := lenG (P := Try.prog) (hx0.agree A0.agree) el_22
  refine DWp.region fun K hK => ?_
  simp [-aBin', -aBin, -aBinI, -aUn, -aNil, -flatV, n_fn, b_add, b_sub, b_mul, b_lt, b_le, b_gt, b_ge, b_eq, b_ne, u_not, q1]
  apply hK
  clear hK K
  simp only [andThen, leaves]
  refine DWp.seq ?_
  refine DWp.seq ?_
  refine DWp.region fun K hK => ?_
  simp [-aBin', -aBin, -aBinI, -aUn, -aNil, -flatV, n_fn, b_add, b_sub, b_mul, b_lt, b_le, b_gt, b_ge, b_eq, b_ne, u_not]
  apply hK
  clear hK K
  simp only [andThen, leaves]
  refine DWp.cond' (t := (ilt (isub .i64 x1 (llen x0)) 0)) (by simp []) (fun hb2 => ?_) (fun hb2 => ?_)
  · replace hF := cd_t hb2 hF
    refine DWp.seq ?_
    refine DWp.region fun K hK => ?_
    simp [-aBin', -aBin, -aBinI, -aUn, -aNil, -flatV, n_fn, b_add, b_sub, b_mul, b_lt, b_le, b_gt, b_ge, b_eq, b_ne, u_not]
    apply hK
    clear hK K
    simp only [andThen, leaves]
    refine DWp.ret ?_
    simp only [andThen, leaves]
    obtain rfl := Option.some.inj hF
    exact ⟨by simp, [(Value.int .i64 (-1))], by simp [], A0, rfl, S0.pick [] (by decide) rfl⟩
  · replace hF := cd_f hb2 hF
    refine DWp.skip ?_
    simp only [andThen, leaves]
    refine DWp.seq ?_
    refine DWp.region fun K hK => ?_
    simp [-aBin', -aBin, -aBinI, -aUn, -aNil, -flatV, n_fn, b_add, b_sub, b_mul, b_lt, b_le, b_gt, b_ge, b_eq, b_ne, u_not]
    apply hK
    clear hK K
    simp only [andThen, leaves]
    refine DWp.ret ?_
    obtain rfl := Option.some.inj hF
    exact ⟨by simp, [(Value.int .i64 (isub .i64 x1 (llen x0)))], by simp [], A0, rfl, S0.pick [] (by decide) rfl⟩
def F_laws_szMeander (fu : Nat) (x0_0 : List Int) (x0_1 : List Int) (x1 : Int) : Option (Int) :=
  bd (F_laws_szIntS fu x0_0 x1) fun r1 =>
  bif (ilt r1 0) then
    some (-1)
  else
    bd (F_laws_szIntS fu x0_1 r1) fun r2 =>
    bif (ilt r2 0) then
      some (-1)
    else
      some r2
theorem F_laws_szMeander_w {fu : Nat} {H : AH} {v0_0 : Value} {v0_1 : Value} {x0_0 : List Int} {x0_1 : List Int} {x1 : Int} {r : (Int)} (hx0_0 : Sl H v0_0 (ints x0_0)) (hx0_1 : Sl H v0_1 (ints x0_1)) (hF : F_laws_szMeander fu x0_0 x0_1 x1 = some r) :
    ACallT Try.prog 25 [(Value.agg #[v0_0, v0_1]), (Value.int .i64 x1)] H (fun u G => AgB (Fr H) H G ∧ u = (Value.int .i64 r) ∧ Sep G (Fr H) []) := by
  refine ACallT.of_body (nt := 18) (rs := [.tmp 4]) Try.func25 rfl rfl rfl rfl ?_
  have A0 : AgB (Fr H) H H := .refl _ _
  have S0 : Sep H (Fr H) [] := .nil
  have hB := Fr.up H
  unfold F_laws_szMeander at hF
  refine DWp.seq ?_
  obtain ⟨G2, p4, q5, q6, a7, S1⟩ := S0.boxT (hB.le A0.1) 35 [v0_0, v0_1]
  have A3 := A0.ext (hB.le A0.1) a7
  replace S1 : Sep G2 (Fr H) [AL.box p4 [v0_0, v0_1]] := S1
  refine DWp.region fun K hK => ?_
  simp [-aBin', -aBin, -aBinI, -aUn, -aNil, -flatV, n_fn, b_add, b_sub, b_mul, b_lt, b_le, b_gt, b_ge, b_eq, b_ne, u_not, q5, q6, a7.to_pre, cells_agg]
  apply hK
  clear hK K
  simp only [andThen, leaves]
  refine DWp.seq ?_
  have q8 := S1.fieldT (P := Try.prog) (k := 0) rfl fa_35_0
  have q9 := S1.loadF (P := Try.prog) (k := 0) rfl sz_22 ag_22 (off := 0) rfl
  obtain ⟨r1, hc10, hF⟩ := bd_some hF
  refine DWp.region fun K hK => ?_
  simp [-aBin', -aBin, -aBinI, -aUn, -aNil, -flatV, n_fn, b_add, b_sub, b_mul, b_lt, b_le, b_gt, b_ge, b_eq, b_ne, u_not, q8, q9, ((hx0_0.agree A3.agree).tup)]
  refine CallD.t (F_laws_szIntS_w (fu := fu) (hx0_0.agree A3.agree) hc10) ?_
  rintro _ G12 ⟨a15, rfl, S16⟩
  have A14 := A3.ext (hB.le A3.1) a15.agree
  have S13 : Sep G12 (Fr H) [AL.box p4 [v0_0, v0_1]] := S1.app a15.agree S16 (fun _ h => h) (hB.le A3.1)
  simp [-aBin', -aBin, -aBinI, -aUn, -aNil, -flatV, n_fn, b_add, b_sub, b_mul, b_lt, b_le, b_gt, b_ge, b_eq, b_ne, u_not, q8, q9, a15.pre]
  apply hK
  clear hK K
  simp only [andThen, leaves]
  refine DWp.seq ?_
  refine DWp.seq ?_
  refine DWp.region fun K hK => ?_
  simp [-aBin', -aBin, -aBinI, -aUn, -aNil, -flatV, n_fn, b_add, b_sub, b_mul, b_lt, b_le, b_gt, b_ge, b_eq, b_ne, u_not]
  apply hK
  clear hK K
  simp only [andThen, leaves]
  refine DWp.cond' (t := (ilt r1 0)) (by simp []) (fun hb17 => ?_) (fun hb17 => ?_)
  · replace hF := cd_t hb17 hF
    refine DWp.seq ?_
    refine DWp.region fun K hK => ?_
    simp [-aBin', -aBin, -aBinI, -aUn, -aNil, -flatV, n_fn, b_add, b_sub, b_mul, b_lt, b_le, b_gt, b_ge, b_eq, b_ne, u_not]
    apply hK
    clear hK K
    simp only [andThen, leaves]
    refine DWp.ret ?_
    simp only [andThen, leaves]
    obtain rfl := Option.some.inj hF
    exact ⟨by simp, [(Value.int .i64 (-1))], by simp [], A14, rfl, S13.pick [] (by decide) rfl⟩
  · replace hF := cd_f hb17 hF
    refine DWp.skip ?_
    simp only [andThen, leaves]
    refine DWp.seq ?_
    have q18 := S13.fieldT (P := Try.prog) (k := 0) rfl fa_35_1
    have q19 := S13.loadF (P := Try.prog) (k := 0) rfl sz_22 ag_22 (off := 1) rfl
    obtain ⟨r2, hc20, hF⟩ := bd_some hF
    refine DWp.region fun K hK => ?_
    simp [-aBin', -aBin, -aBinI, -aUn, -aNil, -flatV, n_fn, b_add, b_sub, b_mul, b_lt, b_le, b_gt, b_ge, b_eq, b_ne, u_not, q18, q19, ((hx0_1.agree A14.agree).tup)]
    refine CallD.t (F_laws_szIntS_w (fu := fu) (hx0_1.agree A14.agree) hc20) ?_
    rintro _ G22 ⟨a25, rfl, S26⟩
    have A24 := A14.ext (hB.le A14.1) a25.agree
    have S23 : Sep G22 (Fr H) [AL.box p4 [v0_0, v0_1]] := S13.app a25.agree S26 (fun _ h => h) (hB.le A14.1)
    simp [-aBin', -aBin, -aBinI, -aUn, -aNil, -flatV, n_fn, b_add, b_sub, b_mul, b_lt, b_le, b_gt, b_ge, b_eq, b_ne, u_not, q18, q19, a25.pre]
    apply hK
    clear hK K
    simp only [andThen, leaves]
    refine DWp.seq ?_
    refine DWp.seq ?_
    refine DWp.region fun K hK => ?_
    simp [-aBin', -aBin, -aBinI, -aUn, -aNil, -flatV, n_fn, b_add, b_sub, b_mul, b_lt, b_le, b_gt, b_ge, b_eq, b_ne, u_not]
    apply hK
    clear hK K
    simp only [andThen, leaves]
    refine DWp.cond' (t := (ilt r2 0)) (by simp []) (fun hb27 => ?_) (fun hb27 => ?_)
    · replace hF := cd_t hb27 hF
      refine DWp.seq ?_
      refine DWp.region fun K hK => ?_
      simp [-aBin', -aBin, -aBinI, -aUn, -aNil, -flatV, n_fn, b_add, b_sub, b_mul, b_lt, b_le, b_gt, b_ge, b_eq, b_ne, u_not]
      apply hK
      clear hK K
      simp only [andThen, leaves]
      refine DWp.ret ?_
      simp only [andThen, leaves]
      obtain rfl := Option.some.inj hF
      exact ⟨by simp, [(Value.int .i64 (-1))], by simp [], A24, rfl, S23.pick [] (by decide) rfl⟩
    · replace hF := cd_f hb27 hF
      refine DWp.skip ?_
      simp only [andThen, leaves]
      refine DWp.seq ?_
      refine DWp.region fun K hK => ?_
      simp [-aBin', -aBin, -aBinI, -aUn, -aNil, -flatV, n_fn, b_add, b_sub, b_mul, b_lt, b_le, b_gt, b_ge, b_eq, b_ne, u_not]
      apply hK
      clear hK K
      simp only [andThen, leaves]
      refine DWp.ret ?_
      obtain rfl := Option.some.inj hF
      exact ⟨by simp, [(Value.int .i64 r2)], by simp [], A24, rfl, S23.pick [] (by decide) rfl⟩
def F_laws_toMeander (fu : Nat) (x0_0 : List Int) (x0_1 : List Int) : Option ((List Int × List Int)) :=
  bd (F_laws_toIntS fu x0_0) fun r1 =>
  bd (F_laws_toIntS fu x0_1) fun r2 =>
  some (r1, r2)
theorem F_laws_toMeander_w {fu : Nat} {H : AH} {v0_0 : Value} {v0_1 : Value} {x0_0 : List Int} {x0_1 : List Int} {r : ((List Int × List Int))} (hx0_0 : Sl H v0_0 (ints x0_0)) (hx0_1 : Sl H v0_1 (ints x0_1)) (hF : F_laws_toMeander fu x0_0 x0_1 = some r) :
    ACallT Try.prog 27 [(Value.agg #[v0_0, v0_1])] H (fun u G => AgB (Fr H) H G ∧ ∃ u0 : Value, ∃ u1 : Value, u = (Value.agg #[u0, u1]) ∧ Sep G (Fr H) [flat u0 3 (ints r.1), flat u1 3 (ints r.2)]) := by
  refine ACallT.of_body (nt := 13) (rs := [.cell 2 38]) Try.func27 rfl rfl rfl rfl ?_
  have A0 : AgB (Fr H) H H := .refl _ _
  have S0 : Sep H (Fr H) [] := .nil
  have hB := Fr.up H
  unfold F_laws_toMeander at hF
  refine DWp.seq ?_
  obtain ⟨G2, p4, q5, q6, a7, S1⟩ := S0.boxT (hB.le A0.1) 35 [v0_0, v0_1]
  have A3 := A0.ext (hB.le A0.1) a7
  replace S1 : Sep G2 (Fr H) [AL.box p4 [v0_0, v0_1]] := S1
  obtain ⟨G9, p11, q12, q14, a13, S8⟩ := S1.allocT (P := Try.prog) (hB.le A3.1) ze_38 rfl
  have A10 := A3.ext (hB.le A3.1) a13
  replace S8 : Sep G9 (Fr H) [AL.box p4 [v0_0, v0_1], AL.box p11 [(Value.slice none 0 0), (Value.slice none 0 0)]] := S8
  refine DWp.region fun K hK => ?_
  simp [-aBin', -aBin, -aBinI, -aUn, -aNil, -flatV, n_fn, b_add, b_sub, b_mul, b_lt, b_le, b_gt, b_ge, b_eq, b_ne, u_not, q5, q6, a7.to_pre, cells_agg, q12, q14, a13.to_pre]
  apply hK
  clear hK K
  simp only [andThen, leaves]
  refine DWp.seq ?_
  obtain ⟨G16, p18, q19, q21, a20, S15⟩ := S8.allocT (P := Try.prog) (hB.le A10.1) ze_38 rfl
  have A17 := A10.ext (hB.le A10.1) a20
  replace S15 : Sep G16 (Fr H) [AL.box p4 [v0_0, v0_1], AL.box p11 [(Value.slice none 0 0), (Value.slice none 0 0)], AL.box p18 [(Value.slice none 0 0), (Value.slice none 0 0)]] := S15
  refine DWp.region fun K hK => ?_
  simp [-aBin', -aBin, -aBinI, -aUn, -aNil, -flatV, n_fn, b_add, b_sub, b_mul, b_lt, b_le, b_gt, b_ge, b_eq, b_ne, u_not, q19, q21, a20.to_pre]
  apply hK
  clear hK K
  simp only [andThen, leaves]
  refine DWp.seq ?_
  have q22 := S15.fieldT (P := Try.prog) (k := 0) rfl fa_35_0
  have q23 := S15.loadF (P := Try.prog) (k := 0) rfl sz_22 ag_22 (off := 0) rfl
  obtain ⟨r1, hc24, hF⟩ := bd_some hF
  refine DWp.region fun K hK => ?_
  simp [-aBin', -aBin, -aBinI, -aUn, -aNil, -flatV, n_fn, b_add, b_sub, b_mul, b_lt, b_le, b_gt, b_ge, b_eq, b_ne, u_not, q22, q23, ((hx0_0.agree A17.agree).tup)]
  refine CallD.t (F_laws_toIntS_w (fu := fu) (hx0_0.agree A17.agree) hc24) ?_
  rintro c25_u0 G26 ⟨a29, _, rfl, S30⟩
  have A28 := A17.ext (hB.le A17.1) a29.agree
  have S27 : Sep G26 (Fr H) [AL.box p4 [v0_0, v0_1], AL.box p11 [(Value.slice none 0 0), (Value.slice none 0 0)], AL.box p18 [(Value.slice none 0 0), (Value.slice none 0 0)], flat c25_u0 3 (ints r1)] := S15.app a29.agree S30 (fun _ h => h) (hB.le A17.1)
  have q31 := S27.fieldT (P := Try.prog) (k := 2) rfl fa_38_0
  obtain ⟨G32, q33, S34, a36⟩ := S27.putF (P := Try.prog) (k := 2) (off := 0) rfl (hB.le A28.1) sz_22 (by simp) ((S27.sl (k := 3) rfl).tup) ((S27.sl (k := 3) rfl).one)
  have A35 := A28.trans a36
  replace S34 : Sep G32 (Fr H) [AL.box p4 [v0_0, v0_1], AL.box p11 [(Value.slice none 0 0), (Value.slice none 0 0)], AL.box p18 [c25_u0, (Value.slice none 0 0)], flat c25_u0 3 (ints r1)] := S34
  simp [-aBin', -aBin, -aBinI, -aUn, -aNil, -flatV, n_fn, b_add, b_sub, b_mul, b_lt, b_le, b_gt, b_ge, b_eq, b_ne, u_not, q22, q23, a29.pre, q31, q33]
  apply hK
  clear hK K
  simp only [andThen, leaves]
  refine DWp.seq ?_
  have q37 := S34.fieldT (P := Try.prog) (k := 0) rfl fa_35_1
  have q38 := S34.loadF (P := Try.prog) (k := 0) rfl sz_22 ag_22 (off := 1) rfl
  obtain ⟨r2, hc39, hF⟩ := bd_some hF
  refine DWp.region fun K hK => ?_
  simp [-aBin', -aBin, -aBinI, -aUn, -aNil, -flatV, n_fn, b_add, b_sub, b_mul, b_lt, b_le, b_gt, b_ge, b_eq, b_ne, u_not, q37, q38, ((hx0_1.agree A35.agree).tup)]
  refine CallD.t (F_laws_toIntS_w (fu := fu) (hx0_1.agree A35.agree) hc39) ?_
  rintro c40_u0 G41 ⟨a44, _, rfl, S45⟩
  have A43 := A35.ext (hB.le A35.1) a44.agree
  have S42 : Sep G41 (Fr H) [AL.box p4 [v0_0, v0_1], AL.box p11 [(Value.slice none 0 0), (Value.slice none 0 0)], AL.box p18 [c25_u0, (Value.slice none 0 0)], flat c25_u0 3 (ints r1), flat c40_u0 3 (ints r2)] := S34.app a44.agree S45 (fun _ h => h) (hB.le A35.1)
  have q46 := S42.fieldT (P := Try.prog) (k := 2) rfl fa_38_1
  obtain ⟨G47, q48, S49, a51⟩ := S42.putF (P := Try.prog) (k := 2) (off := 1) rfl (hB.le A43.1) sz_22 (by simp) ((S42.sl (k := 4) rfl).tup) ((S42.sl (k := 4) rfl).one)
  have A50 := A43.trans a51
  replace S49 : Sep G47 (Fr H) [AL.box p4 [v0_0, v0_1], AL.box p11 [(Value.slice none 0 0), (Value.slice none 0 0)], AL.box p18 [c25_u0, c40_u0], flat c25_u0 3 (ints r1), flat c40_u0 3 (ints r2)] := S49
  simp [-aBin', -aBin, -aBinI, -aUn, -aNil, -flatV, n_fn, b_add, b_sub, b_mul, b_lt, b_le, b_gt, b_ge, b_eq, b_ne, u_not, q37, q38, a44.pre, q46, q48]
  apply hK
  clear hK K
  simp only [andThen, leaves]
  refine DWp.seq ?_
  have q52 := S49.loadAgg (P := Try.prog) (k := 2) rfl sz_38 ag_38 rfl
  obtain ⟨G53, q54, S55, a57⟩ := S49.putAgg (P := Try.prog) (k := 1) (xs := [c25_u0, c40_u0]) rfl (hB.le A50.1) sz_38 rfl rfl
  have A56 := A50.trans a57
  replace S55 : Sep G53 (Fr H) [AL.box p4 [v0_0, v0_1], AL.box p11 [c25_u0, c40_u0], AL.box p18 [c25_u0, c40_u0], flat c25_u0 3 (ints r1), flat c40_u0 3 (ints r2)] := S55
  refine DWp.region fun K hK => ?_
  simp [-aBin', -aBin, -aBinI, -aUn, -aNil, -flatV, n_fn, b_add, b_sub, b_mul, b_lt, b_le, b_gt, b_ge, b_eq, b_ne, u_not, q52, q54]
  apply hK
  clear hK K
  simp only [andThen, leaves]
  refine DWp.ret ?_
  have q58 := S55.loadAgg (P := Try.prog) (k := 1) rfl sz_38 ag_38 rfl
  obtain rfl := Option.some.inj hF
  exact ⟨by simp, [(Value.agg #[c25_u0, c40_u0])], by simp [q58, ((S55.sl (k := 3) rfl).tup), ((S55.sl (k := 4) rfl).tup)], A56, c25_u0, c40_u0, rfl, S55.pick [3, 4] (by decide) rfl⟩
def F_spec_exSome (fu : Nat) (x0_0 : List Int) (x0_1 : List Int) : Option (Bool) :=
  bd (F_spec_mePair fu x0_0 x0_1) fun r1 =>
  bif r1 then
    some (ilt 0 (llen x0_0))
  else
    some false
theorem F_spec_exSome_w {fu : Nat} {H : AH} {v0_0 : Value} {v0_1 : Value} {x0_0 : List Int} {x0_1 : List Int} {r : (Bool)} (hx0_0 : Sl H v0_0 (ints x0_0)) (hx0_1 : Sl H v0_1 (ints x0_1)) (hF : F_spec_exSome fu x0_0 x0_1 = some r) :
    ACallT Try.prog 62 [(Value.agg #[v0_0, v0_1])] H (fun u G => AgB (Fr H) H G ∧ u = (Value.bool r) ∧ Sep G (Fr H) []) := by
  refine ACallT.of_body (nt := 11) (rs := [.tmp 2]) Try.func62 rfl rfl rfl rfl ?_
  have A0 : AgB (Fr H) H H := .refl _ _
  have S0 : Sep H (Fr H) [] := .nil
  have hB := Fr.up H
  unfold F_spec_exSome at hF
  refine DWp.seq ?_
  obtain ⟨G2, p4, q5, q6, a7, S1⟩ := S0.boxT (hB.le A0.1) 38 [v0_0, v0_1]
  have A3 := A0.ext (hB.le A0.1) a7
  replace S1 : Sep G2 (Fr H) [AL.box p4 [v0_0, v0_1]] := S1
  refine DWp.region fun K hK => ?_
  simp [-aBin', -aBin, -aBinI, -aUn, -aNil, -flatV, n_fn, b_add, b_sub, b_mul, b_lt, b_le, b_gt, b_ge, b_eq, b_ne, u_not, q5, q6, a7.to_pre, cells_agg]
  apply hK
  clear hK K
  simp only [andThen, leaves]
  refine DWp.seq ?_
  have q8 := S1.loadAgg (P := Try.prog) (k := 0) rfl sz_38 ag_38 rfl
  obtain ⟨r1, hc9, hF⟩ := bd_some hF
  refine DWp.region fun K hK => ?_
  simp [-aBin', -aBin, -aBinI, -aUn, -aNil, -flatV, n_fn, b_add, b_sub, b_mul, b_lt, b_le, b_gt, b_ge, b_eq, b_ne, u_not, q8, ((hx0_0.agree A3.agree).tup), ((hx0_1.agree A3.agree).tup)]
  refine CallD.t (F_spec_mePair_w (fu := fu) (hx0_0.agree A3.agree) (hx0_1.agree A3.agree) hc9) ?_
  rintro _ G11 ⟨a14, rfl, S15⟩
  have A13 := A3.ext (hB.le A3.1) a14.agree
  have S12 : Sep G11 (Fr H) [AL.box p4 [v0_0, v0_1]] := S1.app a14.agree S15 (fun _ h => h) (hB.le A3.1)
  rcases Bool.eq_false_or_eq_true r1 with hb16 | hb16
  · replace hF := cd_t hb16 hF
    have q17 := S12.fieldT (P := Try.prog) (k := 0) rfl fa_38_0
    have q18 := S12.loadF (P := Try.prog) (k := 0) rfl sz_22 ag_22 (off := 0) rfl
    have q19 := lenG (P := Try.prog) (hx0_0.agree A13.agree) el_22
    simp [-aBin', -aBin, -aBinI, -aUn, -aNil, -flatV, n_fn, b_add, b_sub, b_mul, b_lt, b_le, b_gt, b_ge, b_eq, b_ne, u_not, hb16, q8, a14.pre, q17, q18, q19]
    apply hK
    clear hK K
    simp only [andThen, leaves]
    refine DWp.ret ?_
    obtain rfl := Option.some.inj hF
    exact ⟨by simp, [(Value.bool (ilt 0 (llen x0_0)))], by simp [], A13, rfl, S12.pick [] (by decide) rfl⟩
  · replace hF := cd_f hb16 hF
    simp [-aBin', -aBin, -aBinI, -aUn, -aNil, -flatV, n_fn, b_add, b_sub, b_mul, b_lt, b_le, b_gt, b_ge, b_eq, b_ne, u_not, hb16, q8, a14.pre]
    apply hK
    clear hK K
    simp only [andThen, leaves]
    refine DWp.ret ?_
    obtain rfl := Option.some.inj hF
    exact ⟨by simp, [(Value.bool false)], by simp [], A13, rfl, S12.pick [] (by decide) rfl⟩
end Go.Proofs.Ytdghlhdpcmemjaa.AL

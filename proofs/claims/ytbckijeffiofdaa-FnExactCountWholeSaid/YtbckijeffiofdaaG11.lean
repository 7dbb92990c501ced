/- The walks of functions, each with its Lean function: spec.CountSimple, impl.CountSimple$1, impl.CountSimple, laws.FnExactCountSimple, spec.siWhole, spec.AllWhole, impl.Meander).isWhole, impl.wholes$1, impl.wholes, impl.AllWhole. No condition. -/
import Derived.Test.YtbckijeffiofdaaG1
import Derived.Test.YtbckijeffiofdaaG10
import Derived.Test.YtbckijeffiofdaaG2
import Derived.Test.YtbckijeffiofdaaG3
import Derived.Test.YtbckijeffiofdaaG4
import Derived.Test.YtbckijeffiofdaaG5
import Derived.Test.YtbckijeffiofdaaG6
import Derived.Test.YtbckijeffiofdaaG7
import Derived.Test.YtbckijeffiofdaaG8
import Derived.Test.YtbckijeffiofdaaG9
import Derived.Test.YtbckijeffiofdaaALD
import Derived.Test.YtbckijeffiofdaaProg
import Derived.KernelRfl
namespace Go.Proofs.Ytbckijeffiofdaa.AL
open Go Go.RowKit
set_option linter.unusedVariables false
set_option linter.unusedSimpArgs false
set_option maxRecDepth 4096

def F_spec_CountSimple_L1 (fu : Nat) (k1_0 : List (List Int × List Int)) (k1_1 : Int) : Nat → Int → Int → Option (Int × Int)
  | 0, _, _ => none
  | n + 1, y1_4, y1_13 =>
    bif (ilt y1_13 k1_1) then
      gd (inL k1_0 y1_13) (
      bd (F_spec_siSimple fu ((gat pnil k1_0 y1_13).1) ((gat pnil k1_0 y1_13).2)) fun r3 =>
      bif r3 then
        F_spec_CountSimple_L1 fu k1_0 k1_1 n (iadd .i64 y1_4 1) (iadd .i64 y1_13 1)
      else
        F_spec_CountSimple_L1 fu k1_0 k1_1 n y1_4 (iadd .i64 y1_13 1))
    else
      some (y1_4, y1_13)
def F_spec_CountSimple (fu : Nat) (x0 : Int) : Option (Int × Bool) :=
  bd (F_spec_l1In fu x0 1 4) fun r1 =>
  bif (bnot r1) then
    some (0, false)
  else
    bd (F_spec_siPairs fu x0) fun r2 =>
    bd (F_spec_CountSimple_L1 fu r2 (llen r2) fu 0 0) fun s1 =>
    some (s1.1, true)
theorem F_spec_CountSimple_w {fu : Nat} {H : AH}  {x0 : Int} {r : (Int × Bool)}  (hF : F_spec_CountSimple fu x0 = some r) :
    ACallT Try.prog 56 [(Value.int .i64 x0)] H (fun u G => AgB (Fr H) H G ∧ u = (Value.tuple #[(Value.int .i64 r.1), (Value.bool r.2)]) ∧ Sep G (Fr H) []) := by
  refine ACallT.of_body (nt := 23) (rs := [.tmp 2, .tmp 3]) Try.func56 rfl rfl rfl rfl ?_
  have A0 : AgB (Fr H) H H := .refl _ _
  have S0 : Sep H (Fr H) [] := .nil
  have hB := Fr.up H
  unfold F_spec_CountSimple at hF
  refine DWp.seq ?_
  refine DWp.region fun K hK => ?_
  simp [-aBin', -aBin, -aBinI, -aUn, -aNil, -flatV, n_fn, b_add, b_sub, b_mul, b_lt, b_le, b_gt, b_ge, b_eq, b_ne, u_not]
  apply hK
  clear hK K
  simp only [andThen, leaves]
  refine DWp.seq ?_
  refine DWp.seq ?_
  obtain ⟨r1, hc1, hF⟩ := bd_some hF
  refine DWp.region fun K hK => ?_
  simp [-aBin', -aBin, -aBinI, -aUn, -aNil, -flatV, n_fn, b_add, b_sub, b_mul, b_lt, b_le, b_gt, b_ge, b_eq, b_ne, u_not]
  refine CallD.t (F_spec_l1In_w (fu := fu)  hc1) ?_
  rintro _ G3 ⟨a6, rfl, S7⟩
  have A5 := A0.ext (hB.le A0.1) a6.agree
  have S4 : Sep G3 (Fr H) [] := S0.app a6.agree S7 (fun _ h => h) (hB.le A0.1)
  simp [-aBin', -aBin, -aBinI, -aUn, -aNil, -flatV, n_fn, b_add, b_sub, b_mul, b_lt, b_le, b_gt, b_ge, b_eq, b_ne, u_not, a6.pre]
  apply hK
  clear hK K
  simp only [andThen, leaves]
  refine DWp.cond' (t := (bnot r1)) (by simp []) (fun hb8 => ?_) (fun hb8 => ?_)
  · replace hF := cd_t hb8 hF
    refine DWp.seq ?_
    refine DWp.region fun K hK => ?_
    simp [-aBin', -aBin, -aBinI, -aUn, -aNil, -flatV, n_fn, b_add, b_sub, b_mul, b_lt, b_le, b_gt, b_ge, b_eq, b_ne, u_not]
    apply hK
    clear hK K
    simp only [andThen, leaves]
    refine DWp.ret ?_
    simp only [andThen, leaves]
    obtain rfl := Option.some.inj hF
    exact ⟨by simp, [(Value.int .i64 0), (Value.bool false)], by simp [], A5, rfl, S4.pick [] (by decide) rfl⟩
  · replace hF := cd_f hb8 hF
    refine DWp.skip ?_
    simp only [andThen, leaves]
    refine DWp.seq ?_
    refine DWp.region fun K hK => ?_
    simp [-aBin', -aBin, -aBinI, -aUn, -aNil, -flatV, n_fn, b_add, b_sub, b_mul, b_lt, b_le, b_gt, b_ge, b_eq, b_ne, u_not]
    apply hK
    clear hK K
    simp only [andThen, leaves]
    refine DWp.seq ?_
    refine DWp.seq ?_
    obtain ⟨r2, hc9, hF⟩ := bd_some hF
    refine DWp.region fun K hK => ?_
    simp [-aBin', -aBin, -aBinI, -aUn, -aNil, -flatV, n_fn, b_add, b_sub, b_mul, b_lt, b_le, b_gt, b_ge, b_eq, b_ne, u_not]
    refine CallD.t (F_spec_siPairs_w (fu := fu)  hc9) ?_
    rintro c10_u0 G11 ⟨a14, _, c10_C0, rfl, S15⟩
    have A13 := A5.ext (hB.le A5.1) a14.agree
    have S12 : Sep G11 (Fr H) [rowsP c10_u0 28 3 c10_C0 r2] := S4.app a14.agree S15 (fun _ h => h) (hB.le A5.1)
    have q16 := (S12.rdP (k := 0) rfl).lenG (P := Try.prog) el_46
    simp [-aBin', -aBin, -aBinI, -aUn, -aNil, -flatV, n_fn, b_add, b_sub, b_mul, b_lt, b_le, b_gt, b_ge, b_eq, b_ne, u_not, a14.pre, q16]
    apply hK
    clear hK K
    simp only [andThen, leaves]
    refine DWp.block ?_
    obtain ⟨s17, hL18, hF⟩ := bd_some hF
    have S19 := S12.pick [0] (by decide) rfl
    refine DWp.loop (fun n env G => ∃ y1_4 : Int, ∃ y1_13 : Int, F_spec_CountSimple_L1 fu r2 (llen r2) n y1_4 y1_13 = some s17 ∧ Sep G (Fr H) [rowsP c10_u0 28 3 c10_C0 r2] ∧ AgB (Fr H) H G ∧ env 4 = some (Value.int .i64 y1_4) ∧ env 11 = some c10_u0 ∧ env 12 = some (Value.int .i64 (llen r2)) ∧ env 13 = some (Value.int .i64 y1_13)) fu ⟨0, 0, hL18, S19, A13, by simp [], by simp [], by simp [], by simp []⟩ ?_
    rintro n1 env1 G1_ ⟨y1_4, y1_13, hL18, S1_, A1_, e1_4, e1_11, e1_12, e1_13⟩
    cases n1 with
    | zero => cases hL18
    | succ n1 =>
      simp only [F_spec_CountSimple_L1] at hL18
      refine DWp.seq ?_
      refine DWp.region fun K hK => ?_
      simp [-aBin', -aBin, -aBinI, -aUn, -aNil, -flatV, n_fn, b_add, b_sub, b_mul, b_lt, b_le, b_gt, b_ge, b_eq, b_ne, u_not, e1_4, e1_11, e1_12, e1_13]
      apply hK
      clear hK K
      simp only [andThen, leaves]
      refine DWp.seq ?_
      refine DWp.cond' (t := (ilt y1_13 (llen r2))) (by simp [e1_4, e1_11, e1_12, e1_13]) (fun hb20 => ?_) (fun hb20 => ?_)
      · replace hL18 := cd_t hb20 hL18
        refine DWp.skip ?_
        simp only [andThen, leaves]
        refine DWp.seq ?_
        refine DWp.block ?_
        refine DWp.seq ?_
        obtain ⟨g21, hL18⟩ := gd_some hL18
        have q22 := (S1_.rdP (k := 0) rfl).idxG (P := Try.prog) (kk := .i64) el_46 sz_28 g21
        have q23 := (S1_.rdP (k := 0) rfl).loadG (P := Try.prog) sz_28 ag_28 g21
        obtain ⟨G25, p27, q28, q30, a29, S24⟩ := S1_.allocT (P := Try.prog) (hB.le A1_.1) ze_28 rfl
        have A26 := A1_.ext (hB.le A1_.1) a29
        replace S24 : Sep G25 (Fr H) [rowsP c10_u0 28 3 c10_C0 r2, AL.box p27 [(Value.slice none 0 0), (Value.slice none 0 0)]] := S24
        obtain ⟨G31, q32, S33, a35⟩ := S24.putAgg (P := Try.prog) (k := 1) (xs := [(pc c10_C0 y1_13 0), (pc c10_C0 y1_13 1)]) rfl (hB.le A26.1) sz_28 rfl rfl
        have A34 := A26.trans a35
        replace S33 : Sep G31 (Fr H) [rowsP c10_u0 28 3 c10_C0 r2, AL.box p27 [(pc c10_C0 y1_13 0), (pc c10_C0 y1_13 1)]] := S33
        refine DWp.region fun K hK => ?_
        simp [-aBin', -aBin, -aBinI, -aUn, -aNil, -flatV, n_fn, b_add, b_sub, b_mul, b_lt, b_le, b_gt, b_ge, b_eq, b_ne, u_not, e1_4, e1_11, e1_12, e1_13, q22, q23, q28, q30, a29.to_pre, q32]
        apply hK
        clear hK K
        simp only [andThen, leaves]
        refine DWp.seq ?_
        have q36 := S33.loadAgg (P := Try.prog) (k := 1) rfl sz_28 ag_28 rfl
        obtain ⟨r3, hc37, hL18⟩ := bd_some hL18
        refine DWp.region fun K hK => ?_
        simp [-aBin', -aBin, -aBinI, -aUn, -aNil, -flatV, n_fn, b_add, b_sub, b_mul, b_lt, b_le, b_gt, b_ge, b_eq, b_ne, u_not, e1_4, e1_11, e1_12, e1_13, q36, (((S33.rdP (k := 0) rfl).row0 g21).tup), (((S33.rdP (k := 0) rfl).row1 g21).tup)]
        refine CallD.t (F_spec_siSimple_w (fu := fu) ((S33.rdP (k := 0) rfl).row0 g21) ((S33.rdP (k := 0) rfl).row1 g21) hc37) ?_
        rintro _ G39 ⟨a42, rfl, S43⟩
        have A41 := A34.ext (hB.le A34.1) a42.agree
        have S40 : Sep G39 (Fr H) [rowsP c10_u0 28 3 c10_C0 r2, AL.box p27 [(pc c10_C0 y1_13 0), (pc c10_C0 y1_13 1)]] := S33.app a42.agree S43 (fun _ h => h) (hB.le A34.1)
        simp [-aBin', -aBin, -aBinI, -aUn, -aNil, -flatV, n_fn, b_add, b_sub, b_mul, b_lt, b_le, b_gt, b_ge, b_eq, b_ne, u_not, e1_4, e1_11, e1_12, e1_13, q36, a42.pre]
        apply hK
        clear hK K
        simp only [andThen, leaves]
        refine DWp.cond' (t := r3) (by simp [e1_4, e1_11, e1_12, e1_13]) (fun hb44 => ?_) (fun hb44 => ?_)
        · replace hL18 := cd_t hb44 hL18
          refine DWp.region fun K hK => ?_
          simp [-aBin', -aBin, -aBinI, -aUn, -aNil, -flatV, n_fn, b_add, b_sub, b_mul, b_lt, b_le, b_gt, b_ge, b_eq, b_ne, u_not, e1_4, e1_11, e1_12, e1_13]
          apply hK
          clear hK K
          simp only [andThen, leaves]
          refine DWp.region fun K hK => ?_
          simp [-aBin', -aBin, -aBinI, -aUn, -aNil, -flatV, n_fn, b_add, b_sub, b_mul, b_lt, b_le, b_gt, b_ge, b_eq, b_ne, u_not, e1_4, e1_11, e1_12, e1_13]
          apply hK
          clear hK K
          simp only [andThen, leaves]
          have S45 := S40.pick [0] (by decide) rfl
          exact ⟨n1, Nat.lt_succ_self _, (iadd .i64 y1_4 1), (iadd .i64 y1_13 1), hL18, S45, A41, by simp [e1_4, e1_11, e1_12, e1_13], by simp [e1_4, e1_11, e1_12, e1_13], by simp [e1_4, e1_11, e1_12, e1_13], by simp [e1_4, e1_11, e1_12, e1_13]⟩
        · replace hL18 := cd_f hb44 hL18
          refine DWp.skip ?_
          simp only [andThen, leaves]
          refine DWp.region fun K hK => ?_
          simp [-aBin', -aBin, -aBinI, -aUn, -aNil, -flatV, n_fn, b_add, b_sub, b_mul, b_lt, b_le, b_gt, b_ge, b_eq, b_ne, u_not, e1_4, e1_11, e1_12, e1_13]
          apply hK
          clear hK K
          simp only [andThen, leaves]
          have S46 := S40.pick [0] (by decide) rfl
          exact ⟨n1, Nat.lt_succ_self _, y1_4, (iadd .i64 y1_13 1), hL18, S46, A41, by simp [e1_4, e1_11, e1_12, e1_13], by simp [e1_4, e1_11, e1_12, e1_13], by simp [e1_4, e1_11, e1_12, e1_13], by simp [e1_4, e1_11, e1_12, e1_13]⟩
      · replace hL18 := cd_f hb20 hL18
        refine DWp.exit ?_
        simp only [andThen, leaves, if_true, if_false, reduceIte, Nat.reduceEqDiff]
        obtain rfl := Option.some.inj hL18
        try dsimp only at hF
        refine DWp.seq ?_
        refine DWp.region fun K hK => ?_
        simp [-aBin', -aBin, -aBinI, -aUn, -aNil, -flatV, n_fn, b_add, b_sub, b_mul, b_lt, b_le, b_gt, b_ge, b_eq, b_ne, u_not, e1_4, e1_11, e1_12, e1_13]
        apply hK
        clear hK K
        simp only [andThen, leaves]
        refine DWp.ret ?_
        obtain rfl := Option.some.inj hF
        exact ⟨by simp, [(Value.int .i64 y1_4), (Value.bool true)], by simp [e1_4, e1_11, e1_12, e1_13], A1_, rfl, S1_.pick [] (by decide) rfl⟩
def F_impl_CountSimple_1 (fu : Nat) (x0_0 : List Int) (x0_1 : List Int) : Option (Bool) :=
  bd (F_impl_Meander_isSimple fu x0_0 x0_1) fun r1 =>
  some (bnot r1)
theorem F_impl_CountSimple_1_w {fu : Nat} {H : AH} {v0_0 : Value} {v0_1 : Value} {x0_0 : List Int} {x0_1 : List Int} {r : (Bool)} (hx0_0 : Sl H v0_0 (ints x0_0)) (hx0_1 : Sl H v0_1 (ints x0_1)) (hF : F_impl_CountSimple_1 fu x0_0 x0_1 = some r) :
    ACallT Try.prog 119 [(Value.agg #[v0_0, v0_1])] H (fun u G => AgB (Fr H) H G ∧ u = (Value.bool r) ∧ Sep G (Fr H) []) := by
  refine ACallT.of_body (nt := 6) (rs := [.tmp 2]) Try.func119 rfl rfl rfl rfl ?_
  have A0 : AgB (Fr H) H H := .refl _ _
  have S0 : Sep H (Fr H) [] := .nil
  have hB := Fr.up H
  unfold F_impl_CountSimple_1 at hF
  refine DWp.seq ?_
  obtain ⟨G2, p4, q5, q6, a7, S1⟩ := S0.boxT (hB.le A0.1) 28 [v0_0, v0_1]
  have A3 := A0.ext (hB.le A0.1) a7
  replace S1 : Sep G2 (Fr H) [AL.box p4 [v0_0, v0_1]] := S1
  refine DWp.region fun K hK => ?_
  simp [-aBin', -aBin, -aBinI, -aUn, -aNil, -flatV, n_fn, b_add, b_sub, b_mul, b_lt, b_le, b_gt, b_ge, b_eq, b_ne, u_not, q5, q6, a7.to_pre, cells_agg]
  apply hK
  clear hK K
  simp only [andThen, leaves]
  refine DWp.seq ?_
  have q8 := S1.loadAgg (P := Try.prog) (k := 0) rfl sz_28 ag_28 rfl
  obtain ⟨r1, hc9, hF⟩ := bd_some hF
  refine DWp.region fun K hK => ?_
  simp [-aBin', -aBin, -aBinI, -aUn, -aNil, -flatV, n_fn, b_add, b_sub, b_mul, b_lt, b_le, b_gt, b_ge, b_eq, b_ne, u_not, q8, ((hx0_0.agree A3.agree).tup), ((hx0_1.agree A3.agree).tup)]
  refine CallD.t (F_impl_Meander_isSimple_w (fu := fu) (hx0_0.agree A3.agree) (hx0_1.agree A3.agree) hc9) ?_
  rintro _ G11 ⟨a14, rfl, S15⟩
  have A13 := A3.ext (hB.le A3.1) a14.agree
  have S12 : Sep G11 (Fr H) [AL.box p4 [v0_0, v0_1]] := S1.app a14.agree S15 (fun _ h => h) (hB.le A3.1)
  simp [-aBin', -aBin, -aBinI, -aUn, -aNil, -flatV, n_fn, b_add, b_sub, b_mul, b_lt, b_le, b_gt, b_ge, b_eq, b_ne, u_not, q8, a14.pre]
  apply hK
  clear hK K
  simp only [andThen, leaves]
  refine DWp.ret ?_
  obtain rfl := Option.some.inj hF
  exact ⟨by simp, [(Value.bool (bnot r1))], by simp [], A13, rfl, S12.pick [] (by decide) rfl⟩
def F_impl_CountSimple (fu : Nat) (x0 : Int) : Option (Int × Bool) :=
  bd (F_impl_in fu x0 1 4) fun r1 =>
  bif (bnot r1) then
    some (0, false)
  else
    bd (F_impl_pairs fu x0) fun r2 =>
    bd (F_slices_DeleteFunc_Simpl_Meander fu r2 (fun y0_0 y0_1 => F_impl_CountSimple_1 fu y0_0 y0_1)) fun r3 =>
    some ((llen r3), true)
theorem F_impl_CountSimple_w {fu : Nat} {H : AH}  {x0 : Int} {r : (Int × Bool)}  (hF : F_impl_CountSimple fu x0 = some r) :
    ACallT Try.prog 57 [(Value.int .i64 x0)] H (fun u G => AgB (Fr H) H G ∧ u = (Value.tuple #[(Value.int .i64 r.1), (Value.bool r.2)]) ∧ Sep G (Fr H) []) := by
  refine ACallT.of_body (nt := 11) (rs := [.tmp 2, .tmp 3]) Try.func57 rfl rfl rfl rfl ?_
  have A0 : AgB (Fr H) H H := .refl _ _
  have S0 : Sep H (Fr H) [] := .nil
  have hB := Fr.up H
  unfold F_impl_CountSimple at hF
  refine DWp.seq ?_
  refine DWp.region fun K hK => ?_
  simp [-aBin', -aBin, -aBinI, -aUn, -aNil, -flatV, n_fn, b_add, b_sub, b_mul, b_lt, b_le, b_gt, b_ge, b_eq, b_ne, u_not]
  apply hK
  clear hK K
  simp only [andThen, leaves]
  refine DWp.seq ?_
  refine DWp.seq ?_
  obtain ⟨r1, hc1, hF⟩ := bd_some hF
  refine DWp.region fun K hK => ?_
  simp [-aBin', -aBin, -aBinI, -aUn, -aNil, -flatV, n_fn, b_add, b_sub, b_mul, b_lt, b_le, b_gt, b_ge, b_eq, b_ne, u_not]
  refine CallD.t (F_impl_in_w (fu := fu)  hc1) ?_
  rintro _ G3 ⟨a6, rfl, S7⟩
  have A5 := A0.ext (hB.le A0.1) a6.agree
  have S4 : Sep G3 (Fr H) [] := S0.app a6.agree S7 (fun _ h => h) (hB.le A0.1)
  simp [-aBin', -aBin, -aBinI, -aUn, -aNil, -flatV, n_fn, b_add, b_sub, b_mul, b_lt, b_le, b_gt, b_ge, b_eq, b_ne, u_not, a6.pre]
  apply hK
  clear hK K
  simp only [andThen, leaves]
  refine DWp.cond' (t := (bnot r1)) (by simp []) (fun hb8 => ?_) (fun hb8 => ?_)
  · replace hF := cd_t hb8 hF
    refine DWp.seq ?_
    refine DWp.region fun K hK => ?_
    simp [-aBin', -aBin, -aBinI, -aUn, -aNil, -flatV, n_fn, b_add, b_sub, b_mul, b_lt, b_le, b_gt, b_ge, b_eq, b_ne, u_not]
    apply hK
    clear hK K
    simp only [andThen, leaves]
    refine DWp.ret ?_
    simp only [andThen, leaves]
    obtain rfl := Option.some.inj hF
    exact ⟨by simp, [(Value.int .i64 0), (Value.bool false)], by simp [], A5, rfl, S4.pick [] (by decide) rfl⟩
  · replace hF := cd_f hb8 hF
    refine DWp.skip ?_
    simp only [andThen, leaves]
    refine DWp.seq ?_
    obtain ⟨r2, hc9, hF⟩ := bd_some hF
    refine DWp.region fun K hK => ?_
    simp [-aBin', -aBin, -aBinI, -aUn, -aNil, -flatV, n_fn, b_add, b_sub, b_mul, b_lt, b_le, b_gt, b_ge, b_eq, b_ne, u_not]
    refine CallD.t (F_impl_pairs_w (fu := fu)  hc9) ?_
    rintro c10_u0 G11 ⟨a14, _, c10_C0, rfl, S15⟩
    have A13 := A5.ext (hB.le A5.1) a14.agree
    have S12 : Sep G11 (Fr H) [rowsP c10_u0 28 3 c10_C0 r2] := S4.app a14.agree S15 (fun _ h => h) (hB.le A5.1)
    obtain ⟨r3, hc17, hF⟩ := bd_some hF
    simp [-aBin', -aBin, -aBinI, -aUn, -aNil, -flatV, n_fn, b_add, b_sub, b_mul, b_lt, b_le, b_gt, b_ge, b_eq, b_ne, u_not, a14.pre, ((S12.rdP (k := 0) rfl).tup)]
    have S18 : Sep G11 (Fr H) ([rowsP c10_u0 28 3 c10_C0 r2] ++ []) := S12.pick [0] (by decide) rfl
    obtain ⟨B24, S19, U20, M21, R22, C23⟩ := S18.frame (hB.le A13.1)
    refine CallD.t (F_slices_DeleteFunc_Simpl_Meander_w (fu := fu) U20 S19 (fun G_ a_ v0_0 v0_1 y0_0 y0_1 q_ hy0_0 hy0_1 hq_ => F_impl_CountSimple_1_w (fu := fu) hy0_0 hy0_1 hq_) hc17) ?_
    rintro c25_u0 G26 ⟨a29, _, c25_C0, rfl, S30⟩
    have A28 := A13.trans (a29.mono M21)
    have S27 : Sep G26 (Fr H) [rowsP c25_u0 28 3 c25_C0 r3] := C23 _ _ a29 S30
    have q31 := (S27.rdP (k := 0) rfl).lenG (P := Try.prog) el_46
    simp [-aBin', -aBin, -aBinI, -aUn, -aNil, -flatV, n_fn, b_add, b_sub, b_mul, b_lt, b_le, b_gt, b_ge, b_eq, b_ne, u_not, a14.pre, q31]
    apply hK
    clear hK K
    simp only [andThen, leaves]
    refine DWp.ret ?_
    obtain rfl := Option.some.inj hF
    exact ⟨by simp, [(Value.int .i64 (llen r3)), (Value.bool true)], by simp [], A28, rfl, S27.pick [] (by decide) rfl⟩
def F_laws_FnExactCountSimple (fu : Nat) (x0 : Int) : Option (Bool) :=
  bd (F_spec_CountSimple fu x0) fun r1 =>
  bd (F_impl_CountSimple fu x0) fun r2 =>
  bd (
    bif (ine r2.1 r1.1) then
      some true
    else
      some (bne' r2.2 r1.2)) fun s15 =>
  bif s15 then
    some false
  else
    some true
theorem F_laws_FnExactCountSimple_w {fu : Nat} {H : AH}  {x0 : Int} {r : (Bool)}  (hF : F_laws_FnExactCountSimple fu x0 = some r) :
    ACallT Try.prog 15 [(Value.int .i64 x0)] H (fun u G => AgB (Fr H) H G ∧ u = (Value.bool r) ∧ Sep G (Fr H) []) := by
  refine ACallT.of_body (nt := 25) (rs := [.tmp 2]) Try.func15 rfl rfl rfl rfl ?_
  have A0 : AgB (Fr H) H H := .refl _ _
  have S0 : Sep H (Fr H) [] := .nil
  have hB := Fr.up H
  unfold F_laws_FnExactCountSimple at hF
  refine DWp.seq ?_
  refine DWp.region fun K hK => ?_
  simp [-aBin', -aBin, -aBinI, -aUn, -aNil, -flatV, n_fn, b_add, b_sub, b_mul, b_lt, b_le, b_gt, b_ge, b_eq, b_ne, u_not]
  apply hK
  clear hK K
  simp only [andThen, leaves]
  refine DWp.seq ?_
  obtain ⟨r1, hc1, hF⟩ := bd_some hF
  refine DWp.region fun K hK => ?_
  simp [-aBin', -aBin, -aBinI, -aUn, -aNil, -flatV, n_fn, b_add, b_sub, b_mul, b_lt, b_le, b_gt, b_ge, b_eq, b_ne, u_not]
  refine CallD.t (F_spec_CountSimple_w (fu := fu)  hc1) ?_
  rintro _ G3 ⟨a6, rfl, S7⟩
  have A5 := A0.ext (hB.le A0.1) a6.agree
  have S4 : Sep G3 (Fr H) [] := S0.app a6.agree S7 (fun _ h => h) (hB.le A0.1)
  simp [-aBin', -aBin, -aBinI, -aUn, -aNil, -flatV, n_fn, b_add, b_sub, b_mul, b_lt, b_le, b_gt, b_ge, b_eq, b_ne, u_not, a6.pre]
  apply hK
  clear hK K
  simp only [andThen, leaves]
  refine DWp.seq ?_
  obtain ⟨r2, hc8, hF⟩ := bd_some hF
  refine DWp.region fun K hK => ?_
  simp [-aBin', -aBin, -aBinI, -aUn, -aNil, -flatV, n_fn, b_add, b_sub, b_mul, b_lt, b_le, b_gt, b_ge, b_eq, b_ne, u_not]
  refine CallD.t (F_impl_CountSimple_w (fu := fu)  hc8) ?_
  rintro _ G10 ⟨a13, rfl, S14⟩
  have A12 := A5.ext (hB.le A5.1) a13.agree
  have S11 : Sep G10 (Fr H) [] := S4.app a13.agree S14 (fun _ h => h) (hB.le A5.1)
  simp [-aBin', -aBin, -aBinI, -aUn, -aNil, -flatV, n_fn, b_add, b_sub, b_mul, b_lt, b_le, b_gt, b_ge, b_eq, b_ne, u_not, a13.pre]
  apply hK
  clear hK K
  simp only [andThen, leaves]
  refine DWp.seq ?_
  obtain ⟨s15, hL16, hF⟩ := bd_some hF
  refine DWp.seq (DWp.join (fun env G => Sep G (Fr H) [] ∧ AgB (Fr H) H G ∧ env 24 = some (Value.bool s15)) ?_ ?_)
  ·
    rcases Bool.eq_false_or_eq_true (ine r2.1 r1.1) with hb18 | hb18
    · replace hL16 := cd_t hb18 hL16
      refine DWp.region fun K hK => ?_
      simp [-aBin', -aBin, -aBinI, -aUn, -aNil, -flatV, n_fn, b_add, b_sub, b_mul, b_lt, b_le, b_gt, b_ge, b_eq, b_ne, u_not, hb18]
      apply hK
      clear hK K
      simp only [andThen, leaves]
      have S19 := S11.pick [] (by decide) rfl
      obtain rfl := Option.some.inj hL16
      exact ⟨S19, A12, by simp []⟩
    · replace hL16 := cd_f hb18 hL16
      refine DWp.region fun K hK => ?_
      simp [-aBin', -aBin, -aBinI, -aUn, -aNil, -flatV, n_fn, b_add, b_sub, b_mul, b_lt, b_le, b_gt, b_ge, b_eq, b_ne, u_not, hb18, b_bne un_4]
      apply hK
      clear hK K
      simp only [andThen, leaves]
      have S20 := S11.pick [] (by decide) rfl
      obtain rfl := Option.some.inj hL16
      exact ⟨S20, A12, by simp []⟩
  · rintro env Gj21 ⟨Sj21, Aj21, ej21_24⟩
    refine DWp.cond' (t := s15) (by simp [ej21_24]) (fun hb22 => ?_) (fun hb22 => ?_)
    · replace hF := cd_t hb22 hF
      refine DWp.seq ?_
      refine DWp.region fun K hK => ?_
      simp [-aBin', -aBin, -aBinI, -aUn, -aNil, -flatV, n_fn, b_add, b_sub, b_mul, b_lt, b_le, b_gt, b_ge, b_eq, b_ne, u_not, ej21_24]
      apply hK
      clear hK K
      simp only [andThen, leaves]
      refine DWp.ret ?_
      simp only [andThen, leaves]
      obtain rfl := Option.some.inj hF
      exact ⟨by simp, [(Value.bool false)], by simp [ej21_24], Aj21, rfl, Sj21.pick [] (by decide) rfl⟩
    · replace hF := cd_f hb22 hF
      refine DWp.skip ?_
      simp only [andThen, leaves]
      refine DWp.seq ?_
      refine DWp.region fun K hK => ?_
      simp [-aBin', -aBin, -aBinI, -aUn, -aNil, -flatV, n_fn, b_add, b_sub, b_mul, b_lt, b_le, b_gt, b_ge, b_eq, b_ne, u_not, ej21_24]
      apply hK
      clear hK K
      simp only [andThen, leaves]
      refine DWp.ret ?_
      obtain rfl := Option.some.inj hF
      exact ⟨by simp, [(Value.bool true)], by simp [ej21_24], Aj21, rfl, Sj21.pick [] (by decide) rfl⟩
def F_spec_siWhole (fu : Nat) (x0_0 : List Int) (x0_1 : List Int) : Option (Bool) :=
  bif (ilt 0 (llen x0_0)) then
    bd (F_spec_siAll fu x0_0 x0_1) fun r1 =>
    some (ieq (llen r1) 0)
  else
    some false
theorem F_spec_siWhole_w {fu : Nat} {H : AH} {v0_0 : Value} {v0_1 : Value} {x0_0 : List Int} {x0_1 : List Int} {r : (Bool)} (hx0_0 : Sl H v0_0 (ints x0_0)) (hx0_1 : Sl H v0_1 (ints x0_1)) (hF : F_spec_siWhole fu x0_0 x0_1 = some r) :
    ACallT Try.prog 95 [(Value.agg #[v0_0, v0_1])] H (fun u G => AgB (Fr H) H G ∧ u = (Value.bool r) ∧ Sep G (Fr H) []) := by
  refine ACallT.of_body (nt := 13) (rs := [.tmp 2]) Try.func95 rfl rfl rfl rfl ?_
  have A0 : AgB (Fr H) H H := .refl _ _
  have S0 : Sep H (Fr H) [] := .nil
  have hB := Fr.up H
  unfold F_spec_siWhole at hF
  refine DWp.seq ?_
  obtain ⟨G2, p4, q5, q6, a7, S1⟩ := S0.boxT (hB.le A0.1) 28 [v0_0, v0_1]
  have A3 := A0.ext (hB.le A0.1) a7
  replace S1 : Sep G2 (Fr H) [AL.box p4 [v0_0, v0_1]] := S1
  refine DWp.region fun K hK => ?_
  simp [-aBin', -aBin, -aBinI, -aUn, -aNil, -flatV, n_fn, b_add, b_sub, b_mul, b_lt, b_le, b_gt, b_ge, b_eq, b_ne, u_not, q5, q6, a7.to_pre, cells_agg]
  apply hK
  clear hK K
  simp only [andThen, leaves]
  refine DWp.seq ?_
  have q8 := S1.fieldT (P := Try.prog) (k := 0) rfl fa_28_0
  have q9 := S1.loadF (P := Try.prog) (k := 0) rfl sz_22 ag_22 (off := 0) rfl
  have q10 := lenG (P := Try.prog) (hx0_0.agree A3.agree) el_22
  rcases Bool.eq_false_or_eq_true (ilt 0 (llen x0_0)) with hb11 | hb11
  · replace hF := cd_t hb11 hF
    have q12 := S1.loadAgg (P := Try.prog) (k := 0) rfl sz_28 ag_28 rfl
    obtain ⟨r1, hc13, hF⟩ := bd_some hF
    refine DWp.region fun K hK => ?_
    simp [-aBin', -aBin, -aBinI, -aUn, -aNil, -flatV, n_fn, b_add, b_sub, b_mul, b_lt, b_le, b_gt, b_ge, b_eq, b_ne, u_not, hb11, q8, q9, q10, q12, ((hx0_0.agree A3.agree).tup), ((hx0_1.agree A3.agree).tup)]
    refine CallD.t (F_spec_siAll_w (fu := fu) (hx0_0.agree A3.agree) (hx0_1.agree A3.agree) hc13) ?_
    rintro c14_u0 G15 ⟨a18, _, c14_C0, rfl, S19⟩
    have A17 := A3.ext (hB.le A3.1) a18.agree
    have S16 : Sep G15 (Fr H) [AL.box p4 [v0_0, v0_1], rowsC c14_u0 22 3 c14_C0 (List.map ints r1)] := S1.app a18.agree S19 (fun _ h => h) (hB.le A3.1)
    have q20 := (S16.rd (k := 1) rfl).lenG (P := Try.prog) el_36
    simp [-aBin', -aBin, -aBinI, -aUn, -aNil, -flatV, n_fn, b_add, b_sub, b_mul, b_lt, b_le, b_gt, b_ge, b_eq, b_ne, u_not, hb11, q8, q9, q10, q12, a18.pre, q20]
    apply hK
    clear hK K
    simp only [andThen, leaves]
    refine DWp.ret ?_
    obtain rfl := Option.some.inj hF
    exact ⟨by simp, [(Value.bool (ieq (llen r1) 0))], by simp [], A17, rfl, S16.pick [] (by decide) rfl⟩
  · replace hF := cd_f hb11 hF
    refine DWp.region fun K hK => ?_
    simp [-aBin', -aBin, -aBinI, -aUn, -aNil, -flatV, n_fn, b_add, b_sub, b_mul, b_lt, b_le, b_gt, b_ge, b_eq, b_ne, u_not, hb11, q8, q9, q10]
    apply hK
    clear hK K
    simp only [andThen, leaves]
    refine DWp.ret ?_
    obtain rfl := Option.some.inj hF
    exact ⟨by simp, [(Value.bool false)], by simp [], A3, rfl, S1.pick [] (by decide) rfl⟩
def F_spec_AllWhole_L1 (fu : Nat) (k1_0 : List (List Int × List Int)) (k1_1 : Int) : Nat → List (List Int × List Int) → Int → Option (List (List Int × List Int) × Int)
  | 0, _, _ => none
  | n + 1, l1_0, y1_13 =>
    bif (ilt y1_13 k1_1) then
      gd (inL k1_0 y1_13) (
      gd (k1_0.length ≤ 4294967296) (
      bd (F_spec_siWhole fu ((gat pnil k1_0 y1_13).1) ((gat pnil k1_0 y1_13).2)) fun r3 =>
      bif r3 then
        gd (l1_0.length + 1 ≤ 4294967296) (
        F_spec_AllWhole_L1 fu k1_0 k1_1 n (lapp l1_0 [((gat pnil k1_0 y1_13).1, (gat pnil k1_0 y1_13).2)]) (iadd .i64 y1_13 1))
      else
        F_spec_AllWhole_L1 fu k1_0 k1_1 n l1_0 (iadd .i64 y1_13 1)))
    else
      some (l1_0, y1_13)
def F_spec_AllWhole (fu : Nat) (x0 : Int) : Option (List (List Int × List Int) × Bool) :=
  bd (F_spec_l1In fu x0 1 4) fun r1 =>
  bif (bnot r1) then
    some ([], false)
  else
    bd (F_spec_siPairs fu x0) fun r2 =>
    bd (F_spec_AllWhole_L1 fu r2 (llen r2) fu (@List.nil (List Int × List Int)) 0) fun s1 =>
    some (s1.1, true)
theorem F_spec_AllWhole_w {fu : Nat} {H : AH}  {x0 : Int} {r : (List (List Int × List Int) × Bool)}  (hF : F_spec_AllWhole fu x0 = some r) :
    ACallT Try.prog 54 [(Value.int .i64 x0)] H (fun u G => AgB (Fr H) H G ∧ ∃ u0 : Value, ∃ C0 : List Value, u = (Value.tuple #[u0, (Value.bool r.2)]) ∧ Sep G (Fr H) [rowsP u0 28 3 C0 r.1]) := by
  refine ACallT.of_body (nt := 25) (rs := [.tmp 2, .tmp 3]) Try.func54 rfl rfl rfl rfl ?_
  have A0 : AgB (Fr H) H H := .refl _ _
  have S0 : Sep H (Fr H) [] := .nil
  have hB := Fr.up H
  unfold F_spec_AllWhole at hF
  refine DWp.seq ?_
  refine DWp.region fun K hK => ?_
  simp [-aBin', -aBin, -aBinI, -aUn, -aNil, -flatV, n_fn, b_add, b_sub, b_mul, b_lt, b_le, b_gt, b_ge, b_eq, b_ne, u_not]
  apply hK
  clear hK K
  simp only [andThen, leaves]
  refine DWp.seq ?_
  refine DWp.seq ?_
  obtain ⟨r1, hc1, hF⟩ := bd_some hF
  refine DWp.region fun K hK => ?_
  simp [-aBin', -aBin, -aBinI, -aUn, -aNil, -flatV, n_fn, b_add, b_sub, b_mul, b_lt, b_le, b_gt, b_ge, b_eq, b_ne, u_not]
  refine CallD.t (F_spec_l1In_w (fu := fu)  hc1) ?_
  rintro _ G3 ⟨a6, rfl, S7⟩
  have A5 := A0.ext (hB.le A0.1) a6.agree
  have S4 : Sep G3 (Fr H) [] := S0.app a6.agree S7 (fun _ h => h) (hB.le A0.1)
  simp [-aBin', -aBin, -aBinI, -aUn, -aNil, -flatV, n_fn, b_add, b_sub, b_mul, b_lt, b_le, b_gt, b_ge, b_eq, b_ne, u_not, a6.pre]
  apply hK
  clear hK K
  simp only [andThen, leaves]
  refine DWp.cond' (t := (bnot r1)) (by simp []) (fun hb8 => ?_) (fun hb8 => ?_)
  · replace hF := cd_t hb8 hF
    refine DWp.seq ?_
    refine DWp.region fun K hK => ?_
    simp [-aBin', -aBin, -aBinI, -aUn, -aNil, -flatV, n_fn, b_add, b_sub, b_mul, b_lt, b_le, b_gt, b_ge, b_eq, b_ne, u_not]
    apply hK
    clear hK K
    simp only [andThen, leaves]
    refine DWp.ret ?_
    simp only [andThen, leaves]
    have S9 := S4.rpNil (hB.le A5.1) 28 3
    obtain rfl := Option.some.inj hF
    exact ⟨by simp, [(Value.slice none 0 0), (Value.bool false)], by simp [], A5, nilV, [], rfl, S9.pick [0] (by decide) rfl⟩
  · replace hF := cd_f hb8 hF
    refine DWp.skip ?_
    simp only [andThen, leaves]
    refine DWp.seq ?_
    refine DWp.region fun K hK => ?_
    simp [-aBin', -aBin, -aBinI, -aUn, -aNil, -flatV, n_fn, b_add, b_sub, b_mul, b_lt, b_le, b_gt, b_ge, b_eq, b_ne, u_not]
    apply hK
    clear hK K
    simp only [andThen, leaves]
    refine DWp.seq ?_
    refine DWp.seq ?_
    obtain ⟨r2, hc10, hF⟩ := bd_some hF
    refine DWp.region fun K hK => ?_
    simp [-aBin', -aBin, -aBinI, -aUn, -aNil, -flatV, n_fn, b_add, b_sub, b_mul, b_lt, b_le, b_gt, b_ge, b_eq, b_ne, u_not]
    refine CallD.t (F_spec_siPairs_w (fu := fu)  hc10) ?_
    rintro c11_u0 G12 ⟨a15, _, c11_C0, rfl, S16⟩
    have A14 := A5.ext (hB.le A5.1) a15.agree
    have S13 : Sep G12 (Fr H) [rowsP c11_u0 28 3 c11_C0 r2] := S4.app a15.agree S16 (fun _ h => h) (hB.le A5.1)
    have q17 := (S13.rdP (k := 0) rfl).lenG (P := Try.prog) el_46
    simp [-aBin', -aBin, -aBinI, -aUn, -aNil, -flatV, n_fn, b_add, b_sub, b_mul, b_lt, b_le, b_gt, b_ge, b_eq, b_ne, u_not, a15.pre, q17]
    apply hK
    clear hK K
    simp only [andThen, leaves]
    refine DWp.block ?_
    have S18 := S13.rpNil (hB.le A14.1) 28 3
    have S19 : Sep G12 (Fr H) [rowsPT c11_u0 28 3 c11_C0 r2 0, rowsP (Value.slice none 0 0) 28 3 [] (@List.nil (List Int × List Int))] := S18.toPT (kk := 0) rfl
    obtain ⟨s20, hL21, hF⟩ := bd_some hF
    have S22 := S19.pick [1, 0] (by decide) rfl
    refine DWp.loop (fun n env G => ∃ l1_0 : List (List Int × List Int), ∃ y1_13 : Int, ∃ w1_0 : Value, ∃ D1_0 : List Value, F_spec_AllWhole_L1 fu r2 (llen r2) n l1_0 y1_13 = some s20 ∧ Sep G (Fr H) [rowsP w1_0 28 3 D1_0 l1_0, rowsPT c11_u0 28 3 c11_C0 r2 y1_13] ∧ AgB (Fr H) H G ∧ env 4 = some w1_0 ∧ env 11 = some c11_u0 ∧ env 12 = some (Value.int .i64 (llen r2)) ∧ env 13 = some (Value.int .i64 y1_13)) fu ⟨(@List.nil (List Int × List Int)), 0, (Value.slice none 0 0), [], hL21, S22, A14, by simp [], by simp [], by simp [], by simp []⟩ ?_
    rintro n1 env1 G1_ ⟨l1_0, y1_13, w1_0, D1_0, hL21, S1_, A1_, e1_4, e1_11, e1_12, e1_13⟩
    cases n1 with
    | zero => cases hL21
    | succ n1 =>
      simp only [F_spec_AllWhole_L1] at hL21
      refine DWp.seq ?_
      refine DWp.region fun K hK => ?_
      simp [-aBin', -aBin, -aBinI, -aUn, -aNil, -flatV, n_fn, b_add, b_sub, b_mul, b_lt, b_le, b_gt, b_ge, b_eq, b_ne, u_not, e1_4, e1_11, e1_12, e1_13]
      apply hK
      clear hK K
      simp only [andThen, leaves]
      refine DWp.seq ?_
      refine DWp.cond' (t := (ilt y1_13 (llen r2))) (by simp [e1_4, e1_11, e1_12, e1_13]) (fun hb23 => ?_) (fun hb23 => ?_)
      · replace hL21 := cd_t hb23 hL21
        refine DWp.skip ?_
        simp only [andThen, leaves]
        refine DWp.seq ?_
        refine DWp.block ?_
        refine DWp.seq ?_
        obtain ⟨g24, hL21⟩ := gd_some hL21
        have q25 := S1_.idxPT (P := Try.prog) (ki := .i64) (kk := 1) rfl el_46 sz_28 g24
        have q26 := S1_.loadPT (P := Try.prog) (kk := 1) rfl sz_28 ag_28 g24
        obtain ⟨g27, hL21⟩ := gd_some hL21
        have S28 : Sep G1_ (Fr H) [rowsP w1_0 28 3 D1_0 l1_0, rowsPT c11_u0 28 3 c11_C0 r2 (iadd .i64 y1_13 1), flat (pc c11_C0 y1_13 0) 3 (ints (gat pnil r2 y1_13).1), flat (pc c11_C0 y1_13 1) 3 (ints (gat pnil r2 y1_13).2)] := S1_.takePT (kk := 1) rfl g24 g27
        obtain ⟨G30, p32, q33, q35, a34, S29⟩ := S28.allocT (P := Try.prog) (hB.le A1_.1) ze_28 rfl
        have A31 := A1_.ext (hB.le A1_.1) a34
        replace S29 : Sep G30 (Fr H) [rowsP w1_0 28 3 D1_0 l1_0, rowsPT c11_u0 28 3 c11_C0 r2 (iadd .i64 y1_13 1), flat (pc c11_C0 y1_13 0) 3 (ints (gat pnil r2 y1_13).1), flat (pc c11_C0 y1_13 1) 3 (ints (gat pnil r2 y1_13).2), AL.box p32 [(Value.slice none 0 0), (Value.slice none 0 0)]] := S29
        obtain ⟨G36, q37, S38, a40⟩ := S29.putAgg (P := Try.prog) (k := 4) (xs := [(pc c11_C0 y1_13 0), (pc c11_C0 y1_13 1)]) rfl (hB.le A31.1) sz_28 rfl rfl
        have A39 := A31.trans a40
        replace S38 : Sep G36 (Fr H) [rowsP w1_0 28 3 D1_0 l1_0, rowsPT c11_u0 28 3 c11_C0 r2 (iadd .i64 y1_13 1), flat (pc c11_C0 y1_13 0) 3 (ints (gat pnil r2 y1_13).1), flat (pc c11_C0 y1_13 1) 3 (ints (gat pnil r2 y1_13).2), AL.box p32 [(pc c11_C0 y1_13 0), (pc c11_C0 y1_13 1)]] := S38
        refine DWp.region fun K hK => ?_
        simp [-aBin', -aBin, -aBinI, -aUn, -aNil, -flatV, n_fn, b_add, b_sub, b_mul, b_lt, b_le, b_gt, b_ge, b_eq, b_ne, u_not, e1_4, e1_11, e1_12, e1_13, q25, q26, q33, q35, a34.to_pre, q37]
        apply hK
        clear hK K
        simp only [andThen, leaves]
        refine DWp.seq ?_
        have q41 := S38.loadAgg (P := Try.prog) (k := 4) rfl sz_28 ag_28 rfl
        obtain ⟨r3, hc42, hL21⟩ := bd_some hL21
        refine DWp.region fun K hK => ?_
        simp [-aBin', -aBin, -aBinI, -aUn, -aNil, -flatV, n_fn, b_add, b_sub, b_mul, b_lt, b_le, b_gt, b_ge, b_eq, b_ne, u_not, e1_4, e1_11, e1_12, e1_13, q41, ((S38.sl (k := 2) rfl).tup), ((S38.sl (k := 3) rfl).tup)]
        refine CallD.t (F_spec_siWhole_w (fu := fu) (S38.sl (k := 2) rfl) (S38.sl (k := 3) rfl) hc42) ?_
        rintro _ G44 ⟨a47, rfl, S48⟩
        have A46 := A39.ext (hB.le A39.1) a47.agree
        have S45 : Sep G44 (Fr H) [rowsP w1_0 28 3 D1_0 l1_0, rowsPT c11_u0 28 3 c11_C0 r2 (iadd .i64 y1_13 1), flat (pc c11_C0 y1_13 0) 3 (ints (gat pnil r2 y1_13).1), flat (pc c11_C0 y1_13 1) 3 (ints (gat pnil r2 y1_13).2), AL.box p32 [(pc c11_C0 y1_13 0), (pc c11_C0 y1_13 1)]] := S38.app a47.agree S48 (fun _ h => h) (hB.le A39.1)
        simp [-aBin', -aBin, -aBinI, -aUn, -aNil, -flatV, n_fn, b_add, b_sub, b_mul, b_lt, b_le, b_gt, b_ge, b_eq, b_ne, u_not, e1_4, e1_11, e1_12, e1_13, q41, a47.pre]
        apply hK
        clear hK K
        simp only [andThen, leaves]
        refine DWp.cond' (t := r3) (by simp [e1_4, e1_11, e1_12, e1_13]) (fun hb49 => ?_) (fun hb49 => ?_)
        · replace hL21 := cd_t hb49 hL21
          have q50 := S45.loadAgg (P := Try.prog) (k := 4) rfl sz_28 ag_28 rfl
          obtain ⟨v51, G52, q53, S54, a56, _, _⟩ := S45.litP1 (P := Try.prog) (t := 46) (hB.le A46.1) el_46 ei_28 rfl (pc c11_C0 y1_13 0) (pc c11_C0 y1_13 1)
          have A55 := A46.ext (hB.le A46.1) a56
          replace S54 : Sep G52 (Fr H) [rowsP w1_0 28 3 D1_0 l1_0, rowsPT c11_u0 28 3 c11_C0 r2 (iadd .i64 y1_13 1), flat (pc c11_C0 y1_13 0) 3 (ints (gat pnil r2 y1_13).1), flat (pc c11_C0 y1_13 1) 3 (ints (gat pnil r2 y1_13).2), AL.box p32 [(pc c11_C0 y1_13 0), (pc c11_C0 y1_13 1)], flatK 2 v51 28 1 [(pc c11_C0 y1_13 0), (pc c11_C0 y1_13 1)]] := S54
          obtain ⟨g57, hL21⟩ := gd_some hL21
          obtain ⟨v63, G58, q59, S60, a62, q59t, _⟩ := S54.pushP (u := w1_0) (X := l1_0) (a := (gat pnil r2 y1_13).1) (b := (gat pnil r2 y1_13).2) (P := Try.prog) (t := 46) (t2 := 46) (j := 0) (k1 := 2) (k2 := 3) (by decide) (by decide) (by decide) rfl rfl rfl (hB.le A55.1) el_46 el_46 ei_28 rfl (S54.flatKSl (k := 5) rfl) g57
          have A61 := A55.trans a62
          replace S60 : Sep G58 (Fr H) [rowsP v63 28 3 (D1_0 ++ [(pc c11_C0 y1_13 0), (pc c11_C0 y1_13 1)]) (lapp l1_0 [((gat pnil r2 y1_13).1, (gat pnil r2 y1_13).2)]), rowsPT c11_u0 28 3 c11_C0 r2 (iadd .i64 y1_13 1), emp, emp, AL.box p32 [(pc c11_C0 y1_13 0), (pc c11_C0 y1_13 1)], flatK 2 v51 28 1 [(pc c11_C0 y1_13 0), (pc c11_C0 y1_13 1)]] := S60
          refine DWp.region fun K hK => ?_
          simp [-aBin', -aBin, -aBinI, -aUn, -aNil, -flatV, n_fn, b_add, b_sub, b_mul, b_lt, b_le, b_gt, b_ge, b_eq, b_ne, u_not, e1_4, e1_11, e1_12, e1_13, q50, q53, a56.to_pre, ((S45.sl (k := 2) rfl).tup), ((S45.sl (k := 3) rfl).tup), q59, q59t]
          apply hK
          clear hK K
          simp only [andThen, leaves]
          refine DWp.region fun K hK => ?_
          simp [-aBin', -aBin, -aBinI, -aUn, -aNil, -flatV, n_fn, b_add, b_sub, b_mul, b_lt, b_le, b_gt, b_ge, b_eq, b_ne, u_not, e1_4, e1_11, e1_12, e1_13]
          apply hK
          clear hK K
          simp only [andThen, leaves]
          have S64 := S60.pick [0, 1] (by decide) rfl
          exact ⟨n1, Nat.lt_succ_self _, (lapp l1_0 [((gat pnil r2 y1_13).1, (gat pnil r2 y1_13).2)]), (iadd .i64 y1_13 1), v63, (D1_0 ++ [(pc c11_C0 y1_13 0), (pc c11_C0 y1_13 1)]), hL21, S64, A61, by simp [e1_4, e1_11, e1_12, e1_13], by simp [e1_4, e1_11, e1_12, e1_13], by simp [e1_4, e1_11, e1_12, e1_13], by simp [e1_4, e1_11, e1_12, e1_13]⟩
        · replace hL21 := cd_f hb49 hL21
          refine DWp.skip ?_
          simp only [andThen, leaves]
          refine DWp.region fun K hK => ?_
          simp [-aBin', -aBin, -aBinI, -aUn, -aNil, -flatV, n_fn, b_add, b_sub, b_mul, b_lt, b_le, b_gt, b_ge, b_eq, b_ne, u_not, e1_4, e1_11, e1_12, e1_13]
          apply hK
          clear hK K
          simp only [andThen, leaves]
          have S65 := S45.pick [0, 1] (by decide) rfl
          exact ⟨n1, Nat.lt_succ_self _, l1_0, (iadd .i64 y1_13 1), w1_0, D1_0, hL21, S65, A46, by simp [e1_4, e1_11, e1_12, e1_13], by simp [e1_4, e1_11, e1_12, e1_13], by simp [e1_4, e1_11, e1_12, e1_13], by simp [e1_4, e1_11, e1_12, e1_13]⟩
      · replace hL21 := cd_f hb23 hL21
        refine DWp.exit ?_
        simp only [andThen, leaves, if_true, if_false, reduceIte, Nat.reduceEqDiff]
        obtain rfl := Option.some.inj hL21
        try dsimp only at hF
        refine DWp.seq ?_
        refine DWp.region fun K hK => ?_
        simp [-aBin', -aBin, -aBinI, -aUn, -aNil, -flatV, n_fn, b_add, b_sub, b_mul, b_lt, b_le, b_gt, b_ge, b_eq, b_ne, u_not, e1_4, e1_11, e1_12, e1_13]
        apply hK
        clear hK K
        simp only [andThen, leaves]
        refine DWp.ret ?_
        obtain rfl := Option.some.inj hF
        exact ⟨by simp, [w1_0, (Value.bool true)], by simp [e1_4, e1_11, e1_12, e1_13, ((S1_.rdP (k := 0) rfl).tup)], A1_, w1_0, D1_0, rfl, S1_.pick [0] (by decide) rfl⟩
def F_impl_Meander_isWhole (fu : Nat) (x0_0 : List Int) (x0_1 : List Int) : Option (Bool) :=
  bif (ilt 0 (llen x0_0)) then
    bd (F_impl_Meander_stretches fu x0_0 x0_1) fun r1 =>
    some (ieq (llen r1) 0)
  else
    some false
theorem F_impl_Meander_isWhole_w {fu : Nat} {H : AH} {v0_0 : Value} {v0_1 : Value} {x0_0 : List Int} {x0_1 : List Int} {r : (Bool)} (hx0_0 : Sl H v0_0 (ints x0_0)) (hx0_1 : Sl H v0_1 (ints x0_1)) (hF : F_impl_Meander_isWhole fu x0_0 x0_1 = some r) :
    ACallT Try.prog 97 [(Value.agg #[v0_0, v0_1])] H (fun u G => AgB (Fr H) H G ∧ u = (Value.bool r) ∧ Sep G (Fr H) []) := by
  refine ACallT.of_body (nt := 13) (rs := [.tmp 2]) Try.func97 rfl rfl rfl rfl ?_
  have A0 : AgB (Fr H) H H := .refl _ _
  have S0 : Sep H (Fr H) [] := .nil
  have hB := Fr.up H
  unfold F_impl_Meander_isWhole at hF
  refine DWp.seq ?_
  obtain ⟨G2, p4, q5, q6, a7, S1⟩ := S0.boxT (hB.le A0.1) 28 [v0_0, v0_1]
  have A3 := A0.ext (hB.le A0.1) a7
  replace S1 : Sep G2 (Fr H) [AL.box p4 [v0_0, v0_1]] := S1
  refine DWp.region fun K hK => ?_
  simp [-aBin', -aBin, -aBinI, -aUn, -aNil, -flatV, n_fn, b_add, b_sub, b_mul, b_lt, b_le, b_gt, b_ge, b_eq, b_ne, u_not, q5, q6, a7.to_pre, cells_agg]
  apply hK
  clear hK K
  simp only [andThen, leaves]
  refine DWp.seq ?_
  have q8 := S1.fieldT (P := Try.prog) (k := 0) rfl fa_28_0
  have q9 := S1.loadF (P := Try.prog) (k := 0) rfl sz_22 ag_22 (off := 0) rfl
  have q10 := lenG (P := Try.prog) (hx0_0.agree A3.agree) el_22
  rcases Bool.eq_false_or_eq_true (ilt 0 (llen x0_0)) with hb11 | hb11
  · replace hF := cd_t hb11 hF
    have q12 := S1.loadAgg (P := Try.prog) (k := 0) rfl sz_28 ag_28 rfl
    obtain ⟨r1, hc13, hF⟩ := bd_some hF
    refine DWp.region fun K hK => ?_
    simp [-aBin', -aBin, -aBinI, -aUn, -aNil, -flatV, n_fn, b_add, b_sub, b_mul, b_lt, b_le, b_gt, b_ge, b_eq, b_ne, u_not, hb11, q8, q9, q10, q12, ((hx0_0.agree A3.agree).tup), ((hx0_1.agree A3.agree).tup)]
    refine CallD.t (F_impl_Meander_stretches_w (fu := fu) (hx0_0.agree A3.agree) (hx0_1.agree A3.agree) hc13) ?_
    rintro c14_u0 G15 ⟨a18, _, c14_C0, rfl, S19⟩
    have A17 := A3.ext (hB.le A3.1) a18.agree
    have S16 : Sep G15 (Fr H) [AL.box p4 [v0_0, v0_1], rowsC c14_u0 22 3 c14_C0 (List.map ints r1)] := S1.app a18.agree S19 (fun _ h => h) (hB.le A3.1)
    have q20 := (S16.rd (k := 1) rfl).lenG (P := Try.prog) el_36
    simp [-aBin', -aBin, -aBinI, -aUn, -aNil, -flatV, n_fn, b_add, b_sub, b_mul, b_lt, b_le, b_gt, b_ge, b_eq, b_ne, u_not, hb11, q8, q9, q10, q12, a18.pre, q20]
    apply hK
    clear hK K
    simp only [andThen, leaves]
    refine DWp.ret ?_
    obtain rfl := Option.some.inj hF
    exact ⟨by simp, [(Value.bool (ieq (llen r1) 0))], by simp [], A17, rfl, S16.pick [] (by decide) rfl⟩
  · replace hF := cd_f hb11 hF
    refine DWp.region fun K hK => ?_
    simp [-aBin', -aBin, -aBinI, -aUn, -aNil, -flatV, n_fn, b_add, b_sub, b_mul, b_lt, b_le, b_gt, b_ge, b_eq, b_ne, u_not, hb11, q8, q9, q10]
    apply hK
    clear hK K
    simp only [andThen, leaves]
    refine DWp.ret ?_
    obtain rfl := Option.some.inj hF
    exact ⟨by simp, [(Value.bool false)], by simp [], A3, rfl, S1.pick [] (by decide) rfl⟩
def F_impl_wholes_1 (fu : Nat) (x0_0 : List Int) (x0_1 : List Int) : Option (Bool) :=
  bd (F_impl_Meander_isWhole fu x0_0 x0_1) fun r1 =>
  some (bnot r1)
theorem F_impl_wholes_1_w {fu : Nat} {H : AH} {v0_0 : Value} {v0_1 : Value} {x0_0 : List Int} {x0_1 : List Int} {r : (Bool)} (hx0_0 : Sl H v0_0 (ints x0_0)) (hx0_1 : Sl H v0_1 (ints x0_1)) (hF : F_impl_wholes_1 fu x0_0 x0_1 = some r) :
    ACallT Try.prog 144 [(Value.agg #[v0_0, v0_1])] H (fun u G => AgB (Fr H) H G ∧ u = (Value.bool r) ∧ Sep G (Fr H) []) := by
  refine ACallT.of_body (nt := 6) (rs := [.tmp 2]) Try.func144 rfl rfl rfl rfl ?_
  have A0 : AgB (Fr H) H H := .refl _ _
  have S0 : Sep H (Fr H) [] := .nil
  have hB := Fr.up H
  unfold F_impl_wholes_1 at hF
  refine DWp.seq ?_
  obtain ⟨G2, p4, q5, q6, a7, S1⟩ := S0.boxT (hB.le A0.1) 28 [v0_0, v0_1]
  have A3 := A0.ext (hB.le A0.1) a7
  replace S1 : Sep G2 (Fr H) [AL.box p4 [v0_0, v0_1]] := S1
  refine DWp.region fun K hK => ?_
  simp [-aBin', -aBin, -aBinI, -aUn, -aNil, -flatV, n_fn, b_add, b_sub, b_mul, b_lt, b_le, b_gt, b_ge, b_eq, b_ne, u_not, q5, q6, a7.to_pre, cells_agg]
  apply hK
  clear hK K
  simp only [andThen, leaves]
  refine DWp.seq ?_
  have q8 := S1.loadAgg (P := Try.prog) (k := 0) rfl sz_28 ag_28 rfl
  obtain ⟨r1, hc9, hF⟩ := bd_some hF
  refine DWp.region fun K hK => ?_
  simp [-aBin', -aBin, -aBinI, -aUn, -aNil, -flatV, n_fn, b_add, b_sub, b_mul, b_lt, b_le, b_gt, b_ge, b_eq, b_ne, u_not, q8, ((hx0_0.agree A3.agree).tup), ((hx0_1.agree A3.agree).tup)]
  refine CallD.t (F_impl_Meander_isWhole_w (fu := fu) (hx0_0.agree A3.agree) (hx0_1.agree A3.agree) hc9) ?_
  rintro _ G11 ⟨a14, rfl, S15⟩
  have A13 := A3.ext (hB.le A3.1) a14.agree
  have S12 : Sep G11 (Fr H) [AL.box p4 [v0_0, v0_1]] := S1.app a14.agree S15 (fun _ h => h) (hB.le A3.1)
  simp [-aBin', -aBin, -aBinI, -aUn, -aNil, -flatV, n_fn, b_add, b_sub, b_mul, b_lt, b_le, b_gt, b_ge, b_eq, b_ne, u_not, q8, a14.pre]
  apply hK
  clear hK K
  simp only [andThen, leaves]
  refine DWp.ret ?_
  obtain rfl := Option.some.inj hF
  exact ⟨by simp, [(Value.bool (bnot r1))], by simp [], A13, rfl, S12.pick [] (by decide) rfl⟩
def F_impl_wholes (fu : Nat) (x0 : Int) : Option (List (List Int × List Int)) :=
  bd (F_impl_pairs fu x0) fun r1 =>
  bd (F_slices_DeleteFunc_Simpl_Meander fu r1 (fun y0_0 y0_1 => F_impl_wholes_1 fu y0_0 y0_1)) fun r2 =>
  some r2
theorem F_impl_wholes_w {fu : Nat} {H : AH}  {x0 : Int} {r : (List (List Int × List Int))}  (hF : F_impl_wholes fu x0 = some r) :
    ACallT Try.prog 116 [(Value.int .i64 x0)] H (fun u G => AgB (Fr H) H G ∧ ∃ u0 : Value, ∃ C0 : List Value, u = u0 ∧ Sep G (Fr H) [rowsP u0 28 3 C0 r]) := by
  refine ACallT.of_body (nt := 6) (rs := [.tmp 2]) Try.func116 rfl rfl rfl rfl ?_
  have A0 : AgB (Fr H) H H := .refl _ _
  have S0 : Sep H (Fr H) [] := .nil
  have hB := Fr.up H
  unfold F_impl_wholes at hF
  refine DWp.seq ?_
  refine DWp.region fun K hK => ?_
  simp [-aBin', -aBin, -aBinI, -aUn, -aNil, -flatV, n_fn, b_add, b_sub, b_mul, b_lt, b_le, b_gt, b_ge, b_eq, b_ne, u_not]
  apply hK
  clear hK K
  simp only [andThen, leaves]
  refine DWp.seq ?_
  obtain ⟨r1, hc1, hF⟩ := bd_some hF
  refine DWp.region fun K hK => ?_
  simp [-aBin', -aBin, -aBinI, -aUn, -aNil, -flatV, n_fn, b_add, b_sub, b_mul, b_lt, b_le, b_gt, b_ge, b_eq, b_ne, u_not]
  refine CallD.t (F_impl_pairs_w (fu := fu)  hc1) ?_
  rintro c2_u0 G3 ⟨a6, _, c2_C0, rfl, S7⟩
  have A5 := A0.ext (hB.le A0.1) a6.agree
  have S4 : Sep G3 (Fr H) [rowsP c2_u0 28 3 c2_C0 r1] := S0.app a6.agree S7 (fun _ h => h) (hB.le A0.1)
  obtain ⟨r2, hc9, hF⟩ := bd_some hF
  simp [-aBin', -aBin, -aBinI, -aUn, -aNil, -flatV, n_fn, b_add, b_sub, b_mul, b_lt, b_le, b_gt, b_ge, b_eq, b_ne, u_not, a6.pre, ((S4.rdP (k := 0) rfl).tup)]
  have S10 : Sep G3 (Fr H) ([rowsP c2_u0 28 3 c2_C0 r1] ++ []) := S4.pick [0] (by decide) rfl
  obtain ⟨B16, S11, U12, M13, R14, C15⟩ := S10.frame (hB.le A5.1)
  refine CallD.t (F_slices_DeleteFunc_Simpl_Meander_w (fu := fu) U12 S11 (fun G_ a_ v0_0 v0_1 y0_0 y0_1 q_ hy0_0 hy0_1 hq_ => F_impl_wholes_1_w (fu := fu) hy0_0 hy0_1 hq_) hc9) ?_
  rintro c17_u0 G18 ⟨a21, _, c17_C0, rfl, S22⟩
  have A20 := A5.trans (a21.mono M13)
  have S19 : Sep G18 (Fr H) [rowsP c17_u0 28 3 c17_C0 r2] := C15 _ _ a21 S22
  simp [-aBin', -aBin, -aBinI, -aUn, -aNil, -flatV, n_fn, b_add, b_sub, b_mul, b_lt, b_le, b_gt, b_ge, b_eq, b_ne, u_not, a6.pre]
  apply hK
  clear hK K
  simp only [andThen, leaves]
  refine DWp.ret ?_
  obtain rfl := Option.some.inj hF
  exact ⟨by simp, [c17_u0], by simp [((S19.rdP (k := 0) rfl).tup)], A20, c17_u0, c17_C0, rfl, S19.pick [0] (by decide) rfl⟩
def F_impl_AllWhole (fu : Nat) (x0 : Int) : Option (List (List Int × List Int) × Bool) :=
  bd (F_impl_in fu x0 1 4) fun r1 =>
  bif (bnot r1) then
    some ([], false)
  else
    bd (F_impl_wholes fu x0) fun r2 =>
    some (r2, true)
theorem F_impl_AllWhole_w {fu : Nat} {H : AH}  {x0 : Int} {r : (List (List Int × List Int) × Bool)}  (hF : F_impl_AllWhole fu x0 = some r) :
    ACallT Try.prog 55 [(Value.int .i64 x0)] H (fun u G => AgB (Fr H) H G ∧ ∃ u0 : Value, ∃ C0 : List Value, u = (Value.tuple #[u0, (Value.bool r.2)]) ∧ Sep G (Fr H) [rowsP u0 28 3 C0 r.1]) := by
  refine ACallT.of_body (nt := 9) (rs := [.tmp 2, .tmp 3]) Try.func55 rfl rfl rfl rfl ?_
  have A0 : AgB (Fr H) H H := .refl _ _
  have S0 : Sep H (Fr H) [] := .nil
  have hB := Fr.up H
  unfold F_impl_AllWhole at hF
  refine DWp.seq ?_
  refine DWp.region fun K hK => ?_
  simp [-aBin', -aBin, -aBinI, -aUn, -aNil, -flatV, n_fn, b_add, b_sub, b_mul, b_lt, b_le, b_gt, b_ge, b_eq, b_ne, u_not]
  apply hK
  clear hK K
  simp only [andThen, leaves]
  refine DWp.seq ?_
  refine DWp.seq ?_
  obtain ⟨r1, hc1, hF⟩ := bd_some hF
  refine DWp.region fun K hK => ?_
  simp [-aBin', -aBin, -aBinI, -aUn, -aNil, -flatV, n_fn, b_add, b_sub, b_mul, b_lt, b_le, b_gt, b_ge, b_eq, b_ne, u_not]
  refine CallD.t (F_impl_in_w (fu := fu)  hc1) ?_
  rintro _ G3 ⟨a6, rfl, S7⟩
  have A5 := A0.ext (hB.le A0.1) a6.agree
  have S4 : Sep G3 (Fr H) [] := S0.app a6.agree S7 (fun _ h => h) (hB.le A0.1)
  simp [-aBin', -aBin, -aBinI, -aUn, -aNil, -flatV, n_fn, b_add, b_sub, b_mul, b_lt, b_le, b_gt, b_ge, b_eq, b_ne, u_not, a6.pre]
  apply hK
  clear hK K
  simp only [andThen, leaves]
  refine DWp.cond' (t := (bnot r1)) (by simp []) (fun hb8 => ?_) (fun hb8 => ?_)
  · replace hF := cd_t hb8 hF
    refine DWp.seq ?_
    refine DWp.region fun K hK => ?_
    simp [-aBin', -aBin, -aBinI, -aUn, -aNil, -flatV, n_fn, b_add, b_sub, b_mul, b_lt, b_le, b_gt, b_ge, b_eq, b_ne, u_not]
    apply hK
    clear hK K
    simp only [andThen, leaves]
    refine DWp.ret ?_
    simp only [andThen, leaves]
    have S9 := S4.rpNil (hB.le A5.1) 28 3
    obtain rfl := Option.some.inj hF
    exact ⟨by simp, [(Value.slice none 0 0), (Value.bool false)], by simp [], A5, nilV, [], rfl, S9.pick [0] (by decide) rfl⟩
  · replace hF := cd_f hb8 hF
    refine DWp.skip ?_
    simp only [andThen, leaves]
    refine DWp.seq ?_
    obtain ⟨r2, hc10, hF⟩ := bd_some hF
    refine DWp.region fun K hK => ?_
    simp [-aBin', -aBin, -aBinI, -aUn, -aNil, -flatV, n_fn, b_add, b_sub, b_mul, b_lt, b_le, b_gt, b_ge, b_eq, b_ne, u_not]
    refine CallD.t (F_impl_wholes_w (fu := fu)  hc10) ?_
    rintro c11_u0 G12 ⟨a15, _, c11_C0, rfl, S16⟩
    have A14 := A5.ext (hB.le A5.1) a15.agree
    have S13 : Sep G12 (Fr H) [rowsP c11_u0 28 3 c11_C0 r2] := S4.app a15.agree S16 (fun _ h => h) (hB.le A5.1)
    simp [-aBin', -aBin, -aBinI, -aUn, -aNil, -flatV, n_fn, b_add, b_sub, b_mul, b_lt, b_le, b_gt, b_ge, b_eq, b_ne, u_not, a15.pre]
    apply hK
    clear hK K
    simp only [andThen, leaves]
    refine DWp.ret ?_
    obtain rfl := Option.some.inj hF
    exact ⟨by simp, [c11_u0, (Value.bool true)], by simp [((S13.rdP (k := 0) rfl).tup)], A14, c11_u0, c11_C0, rfl, S13.pick [0] (by decide) rfl⟩
end Go.Proofs.Ytbckijeffiofdaa.AL

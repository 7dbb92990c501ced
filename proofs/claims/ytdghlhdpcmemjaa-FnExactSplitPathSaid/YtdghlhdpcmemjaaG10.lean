/- The walks of functions, each with its Lean function: laws.FnExactMergePath, spec.SplitPath, impl.SplitPath, laws.FnExactSplitPath, spec.ahAll, spec.FarthestFrom, impl.covered, impl.joined, impl.systems, impl.Meander).isOne. No condition. -/
import Derived.Test.YtdghlhdpcmemjaaFBD
import Derived.Test.YtdghlhdpcmemjaaFBE
import Derived.Test.YtdghlhdpcmemjaaG1
import Derived.Test.YtdghlhdpcmemjaaG2
import Derived.Test.YtdghlhdpcmemjaaG3
import Derived.Test.YtdghlhdpcmemjaaG4
import Derived.Test.YtdghlhdpcmemjaaG5
import Derived.Test.YtdghlhdpcmemjaaG6
import Derived.Test.YtdghlhdpcmemjaaG7
import Derived.Test.YtdghlhdpcmemjaaG8
import Derived.Test.YtdghlhdpcmemjaaG9
import Derived.Test.YtdghlhdpcmemjaaALD
import Derived.Test.YtdghlhdpcmemjaaProg
import Derived.KernelRfl
namespace Go.Proofs.Ytdghlhdpcmemjaa.AL
open Go Go.RowKit
set_option linter.unusedVariables false
set_option linter.unusedSimpArgs false
set_option maxRecDepth 4096
theorem ag_35 : aggT Try.prog 35 = some true := by kernel_rfl
theorem sz_35 : sizeT Try.prog 35 = some 2 := by kernel_rfl
def F_spec_SplitPath (fu : Nat) (x0_0 : List Int) (x0_1 : List Int) : Option (List (List Int × List Int) × Bool) :=
  bd (F_spec_exSome fu x0_0 x0_1) fun r1 =>
  bif (bnot r1) then
    some ([], false)
  else
    bd (F_spec_exPath fu x0_0 x0_1 1) fun r2 =>
    bd (F_spec_exMeanders fu r2 x0_1) fun r3 =>
    some (r3, true)
theorem F_spec_SplitPath_w {fu : Nat} {H : AH} {v0_0 : Value} {v0_1 : Value} {x0_0 : List Int} {x0_1 : List Int} {r : (List (List Int × List Int) × Bool)} (hx0_0 : Sl H v0_0 (ints x0_0)) (hx0_1 : Sl H v0_1 (ints x0_1)) (hF : F_spec_SplitPath fu x0_0 x0_1 = some r) :
    ACallT Try.prog 51 [(Value.agg #[v0_0, v0_1])] H (fun u G => AgB (Fr H) H G ∧ ∃ u0 : Value, ∃ C0 : List Value, u = (Value.tuple #[u0, (Value.bool r.2)]) ∧ Sep G (Fr H) [rowsP u0 38 3 C0 r.1]) := by
  refine ACallT.of_body (nt := 15) (rs := [.tmp 2, .tmp 3]) Try.func51 rfl rfl rfl rfl ?_
  have A0 : AgB (Fr H) H H := .refl _ _
  have S0 : Sep H (Fr H) [] := .nil
  have hB := Fr.up H
  unfold F_spec_SplitPath at hF
  refine DWp.seq ?_
  obtain ⟨G2, p4, q5, q6, a7, S1⟩ := S0.boxT (hB.le A0.1) 38 [v0_0, v0_1]
  have A3 := A0.ext (hB.le A0.1) a7
  replace S1 : Sep G2 (Fr H) [AL.box p4 [v0_0, v0_1]] := S1
  refine DWp.region fun K hK => ?_
  simp [-aBin', -aBin, -aBinI, -aUn, -aNil, -flatV, n_fn, b_add, b_sub, b_mul, b_lt, b_le, b_gt, b_ge, b_eq, b_ne, u_not, q5, q6, a7.to_pre, cells_agg]
  apply hK
  clear hK K
  simp only [andThen, leaves]
  refine DWp.seq ?_
  refine DWp.seq ?_
  have q8 := S1.loadAgg (P := Try.prog) (k := 0) rfl sz_38 ag_38 rfl
  obtain ⟨r1, hc9, hF⟩ := bd_some hF
  refine DWp.region fun K hK => ?_
  simp [-aBin', -aBin, -aBinI, -aUn, -aNil, -flatV, n_fn, b_add, b_sub, b_mul, b_lt, b_le, b_gt, b_ge, b_eq, b_ne, u_not, q8, ((hx0_0.agree A3.agree).tup), ((hx0_1.agree A3.agree).tup)]
  refine CallD.t (F_spec_exSome_w (fu := fu) (hx0_0.agree A3.agree) (hx0_1.agree A3.agree) hc9) ?_
  rintro _ G11 ⟨a14, rfl, S15⟩
  have A13 := A3.ext (hB.le A3.1) a14.agree
  have S12 : Sep G11 (Fr H) [AL.box p4 [v0_0, v0_1]] := S1.app a14.agree S15 (fun _ h => h) (hB.le A3.1)
  simp [-aBin', -aBin, -aBinI, -aUn, -aNil, -flatV, n_fn, b_add, b_sub, b_mul, b_lt, b_le, b_gt, b_ge, b_eq, b_ne, u_not, q8, a14.pre]
  apply hK
  clear hK K
  simp only [andThen, leaves]
  refine DWp.cond' (t := (bnot r1)) (by simp []) (fun hb16 => ?_) (fun hb16 => ?_)
  · replace hF := cd_t hb16 hF
    refine DWp.seq ?_
    refine DWp.region fun K hK => ?_
    simp [-aBin', -aBin, -aBinI, -aUn, -aNil, -flatV, n_fn, b_add, b_sub, b_mul, b_lt, b_le, b_gt, b_ge, b_eq, b_ne, u_not]
    apply hK
    clear hK K
    simp only [andThen, leaves]
    refine DWp.ret ?_
    simp only [andThen, leaves]
    have S17 := S12.rpNil (hB.le A13.1) 38 3
    obtain rfl := Option.some.inj hF
    exact ⟨by simp, [(Value.slice none 0 0), (Value.bool false)], by simp [], A13, nilV, [], rfl, S17.pick [1] (by decide) rfl⟩
  · replace hF := cd_f hb16 hF
    refine DWp.skip ?_
    simp only [andThen, leaves]
    refine DWp.seq ?_
    have q18 := S12.fieldT (P := Try.prog) (k := 0) rfl fa_38_0
    have q19 := S12.loadF (P := Try.prog) (k := 0) rfl sz_22 ag_22 (off := 0) rfl
    have q20 := S12.fieldT (P := Try.prog) (k := 0) rfl fa_38_1
    have q21 := S12.loadF (P := Try.prog) (k := 0) rfl sz_22 ag_22 (off := 1) rfl
    obtain ⟨r2, hc22, hF⟩ := bd_some hF
    refine DWp.drawn (B := [0, 1, 0, 4, 15, 0, 32, 127, 255, 511]) 7 mixed (by kernel_rfl) (by decide) fun K hK => ?_
    simp [-aBin', -aBin, -aBinI, -aUn, -aNil, -flatV, n_fn, b_add, b_sub, b_mul, b_lt, b_le, b_gt, b_ge, b_eq, b_ne, u_not, q18, q19, q20, q21, ((hx0_0.agree A13.agree).tup), ((hx0_1.agree A13.agree).tup)]
    refine CallD.t (F_spec_exPath_w (fu := fu) (hx0_0.agree A13.agree) (hx0_1.agree A13.agree) hc22) ?_
    rintro c23_u0 G24 ⟨a27, _, c23_C0, rfl, S28⟩
    have A26 := A13.ext (hB.le A13.1) a27.agree
    have S25 : Sep G24 (Fr H) [AL.box p4 [v0_0, v0_1], rowsC c23_u0 22 3 c23_C0 (List.map ints r2)] := S12.app a27.agree S28 (fun _ h => h) (hB.le A13.1)
    have q29 := S25.fieldT (P := Try.prog) (k := 0) rfl fa_38_1
    have q30 := S25.loadF (P := Try.prog) (k := 0) rfl sz_22 ag_22 (off := 1) rfl
    obtain ⟨r3, hc31, hF⟩ := bd_some hF
    simp [-aBin', -aBin, -aBinI, -aUn, -aNil, -flatV, n_fn, b_add, b_sub, b_mul, b_lt, b_le, b_gt, b_ge, b_eq, b_ne, u_not, q18, q19, q20, q21, a27.pre, q29, q30, ((S25.rd (k := 1) rfl).tup), ((hx0_1.agree A26.agree).tup)]
    have S32 : Sep G24 (Fr H) ([rowsC c23_u0 22 3 c23_C0 (List.map ints r2)] ++ [AL.box p4 [v0_0, v0_1]]) := S25.pick [1, 0] (by decide) rfl
    obtain ⟨B38, S33, U34, M35, R36, C37⟩ := S32.frame (hB.le A26.1)
    refine CallD.t (F_spec_exMeanders_w (fu := fu) U34 S33 (hx0_1.agree A26.agree) (fun i_ hi_ hb_ => Nat.not_le.2 (hx0_1.id_lt hi_) (M35 i_ hb_)) hc31) ?_
    rintro c39_u0 G40 ⟨a43, _, c39_C0, rfl, S44⟩
    have A42 := A26.trans (a43.mono M35)
    have S41 : Sep G40 (Fr H) [rowsP c39_u0 38 3 c39_C0 r3, AL.box p4 [v0_0, v0_1]] := C37 _ _ a43 S44
    simp [-aBin', -aBin, -aBinI, -aUn, -aNil, -flatV, n_fn, b_add, b_sub, b_mul, b_lt, b_le, b_gt, b_ge, b_eq, b_ne, u_not, q18, q19, q20, q21, a27.pre, q29, q30]
    apply hK
    clear hK K
    simp only [andThen, leaves]
    refine DWp.ret ?_
    obtain rfl := Option.some.inj hF
    exact ⟨by simp, [c39_u0, (Value.bool true)], by simp [((S41.rdP (k := 0) rfl).tup)], A42, c39_u0, c39_C0, rfl, S41.pick [0] (by decide) rfl⟩
def F_impl_SplitPath (fu : Nat) (x0_0 : List Int) (x0_1 : List Int) : Option (List (List Int × List Int) × Bool) :=
  bd (F_impl_isCut fu x0_0 x0_1) fun r1 =>
  bif (bnot r1) then
    some ([], false)
  else
    bd (F_impl_turnedPath fu x0_0 x0_1 (iquo .i64 (llen x0_0) 2)) fun r2 =>
    some (r2, true)
theorem F_impl_SplitPath_w {fu : Nat} {H : AH} {v0_0 : Value} {v0_1 : Value} {x0_0 : List Int} {x0_1 : List Int} {r : (List (List Int × List Int) × Bool)} (hx0_0 : Sl H v0_0 (ints x0_0)) (hx0_1 : Sl H v0_1 (ints x0_1)) (hF : F_impl_SplitPath fu x0_0 x0_1 = some r) :
    ACallT Try.prog 52 [(Value.agg #[v0_0, v0_1])] H (fun u G => AgB (Fr H) H G ∧ ∃ u0 : Value, ∃ C0 : List Value, u = (Value.tuple #[u0, (Value.bool r.2)]) ∧ Sep G (Fr H) [rowsP u0 38 3 C0 r.1]) := by
  refine ACallT.of_body (nt := 13) (rs := [.tmp 2, .tmp 3]) Try.func52 rfl rfl rfl rfl ?_
  have A0 : AgB (Fr H) H H := .refl _ _
  have S0 : Sep H (Fr H) [] := .nil
  have hB := Fr.up H
  unfold F_impl_SplitPath at hF
  refine DWp.seq ?_
  obtain ⟨G2, p4, q5, q6, a7, S1⟩ := S0.boxT (hB.le A0.1) 38 [v0_0, v0_1]
  have A3 := A0.ext (hB.le A0.1) a7
  replace S1 : Sep G2 (Fr H) [AL.box p4 [v0_0, v0_1]] := S1
  refine DWp.region fun K hK => ?_
  simp [-aBin', -aBin, -aBinI, -aUn, -aNil, -flatV, n_fn, b_add, b_sub, b_mul, b_lt, b_le, b_gt, b_ge, b_eq, b_ne, u_not, q5, q6, a7.to_pre, cells_agg]
  apply hK
  clear hK K
  simp only [andThen, leaves]
  refine DWp.seq ?_
  refine DWp.seq ?_
  have q8 := S1.loadAgg (P := Try.prog) (k := 0) rfl sz_38 ag_38 rfl
  obtain ⟨r1, hc9, hF⟩ := bd_some hF
  refine DWp.region fun K hK => ?_
  simp [-aBin', -aBin, -aBinI, -aUn, -aNil, -flatV, n_fn, b_add, b_sub, b_mul, b_lt, b_le, b_gt, b_ge, b_eq, b_ne, u_not, q8, ((hx0_0.agree A3.agree).tup), ((hx0_1.agree A3.agree).tup)]
  refine CallD.t (F_impl_isCut_w (fu := fu) (hx0_0.agree A3.agree) (hx0_1.agree A3.agree) hc9) ?_
  rintro _ G11 ⟨a14, rfl, S15⟩
  have A13 := A3.ext (hB.le A3.1) a14.agree
  have S12 : Sep G11 (Fr H) [AL.box p4 [v0_0, v0_1]] := S1.app a14.agree S15 (fun _ h => h) (hB.le A3.1)
  simp [-aBin', -aBin, -aBinI, -aUn, -aNil, -flatV, n_fn, b_add, b_sub, b_mul, b_lt, b_le, b_gt, b_ge, b_eq, b_ne, u_not, q8, a14.pre]
  apply hK
  clear hK K
  simp only [andThen, leaves]
  refine DWp.cond' (t := (bnot r1)) (by simp []) (fun hb16 => ?_) (fun hb16 => ?_)
  · replace hF := cd_t hb16 hF
    refine DWp.seq ?_
    refine DWp.region fun K hK => ?_
    simp [-aBin', -aBin, -aBinI, -aUn, -aNil, -flatV, n_fn, b_add, b_sub, b_mul, b_lt, b_le, b_gt, b_ge, b_eq, b_ne, u_not]
    apply hK
    clear hK K
    simp only [andThen, leaves]
    refine DWp.ret ?_
    simp only [andThen, leaves]
    have S17 := S12.rpNil (hB.le A13.1) 38 3
    obtain rfl := Option.some.inj hF
    exact ⟨by simp, [(Value.slice none 0 0), (Value.bool false)], by simp [], A13, nilV, [], rfl, S17.pick [1] (by decide) rfl⟩
  · replace hF := cd_f hb16 hF
    refine DWp.skip ?_
    simp only [andThen, leaves]
    refine DWp.seq ?_
    have q18 := S12.loadAgg (P := Try.prog) (k := 0) rfl sz_38 ag_38 rfl
    have q19 := S12.fieldT (P := Try.prog) (k := 0) rfl fa_38_0
    have q20 := S12.loadF (P := Try.prog) (k := 0) rfl sz_22 ag_22 (off := 0) rfl
    have q21 := lenG (P := Try.prog) (hx0_0.agree A13.agree) el_22
    have g22 : (2 : Int) ≠ 0 := by decide
    obtain ⟨r2, hc23, hF⟩ := bd_some hF
    refine DWp.region fun K hK => ?_
    simp [-aBin', -aBin, -aBinI, -aUn, -aNil, -flatV, n_fn, b_add, b_sub, b_mul, b_lt, b_le, b_gt, b_ge, b_eq, b_ne, u_not, q18, q19, q20, q21, b_quo g22, ((hx0_0.agree A13.agree).tup), ((hx0_1.agree A13.agree).tup)]
    refine CallD.t (F_impl_turnedPath_w (fu := fu) (hx0_0.agree A13.agree) (hx0_1.agree A13.agree) hc23) ?_
    rintro c24_u0 G25 ⟨a28, _, c24_C0, rfl, S29⟩
    have A27 := A13.ext (hB.le A13.1) a28.agree
    have S26 : Sep G25 (Fr H) [AL.box p4 [v0_0, v0_1], rowsP c24_u0 38 3 c24_C0 r2] := S12.app a28.agree S29 (fun _ h => h) (hB.le A13.1)
    simp [-aBin', -aBin, -aBinI, -aUn, -aNil, -flatV, n_fn, b_add, b_sub, b_mul, b_lt, b_le, b_gt, b_ge, b_eq, b_ne, u_not, q18, q19, q20, q21, b_quo g22, a28.pre]
    apply hK
    clear hK K
    simp only [andThen, leaves]
    refine DWp.ret ?_
    obtain rfl := Option.some.inj hF
    exact ⟨by simp, [c24_u0, (Value.bool true)], by simp [((S26.rdP (k := 1) rfl).tup)], A27, c24_u0, c24_C0, rfl, S26.pick [1] (by decide) rfl⟩
def F_laws_FnExactSplitPath (fu : Nat) (x0_0 : List Int) (x0_1 : List Int) : Option (Bool) :=
  bd (F_laws_szMeander fu x0_0 x0_1 1048576) fun r1 =>
  bif (ilt r1 0) then
    some true
  else
    bd (F_laws_toMeander fu x0_0 x0_1) fun r2 =>
    bd (F_spec_SplitPath fu r2.1 r2.2) fun r3 =>
    bd (F_laws_toMeander fu x0_0 x0_1) fun r4 =>
    bd (F_impl_SplitPath fu r4.1 r4.2) fun r5 =>
    bd (
      bd (F_laws_eqMeanderS fu r5.1 r3.1) fun r6 =>
      bif (bnot r6) then
        some true
      else
        some (bne' r5.2 r3.2)) fun s60 =>
    bif s60 then
      some false
    else
      bd (F_laws_toMeander fu x0_0 x0_1) fun r7 =>
      bd (F_laws_eqMeander fu r4.1 r4.2 r7.1 r7.2) fun r8 =>
      bif (bnot r8) then
        some false
      else
        bd (F_laws_markMeander fu r4.1 r4.2 1) fun r9 =>
        bd (
          bif (ilt r9.1 0) then
            some true
          else
            bd (F_laws_eqMeanderS fu r5.1 r3.1) fun r10 =>
            bif (bnot r10) then
              some true
            else
              some (bne' r5.2 r3.2)) fun s107 =>
        bif s107 then
          some false
        else
          bd (F_laws_markMeanderS fu r5.1 1) fun r11 =>
          bd (F_laws_heldMeanderS fu r11.2 1) fun r12 =>
          bif (ilt r12 0) then
            some false
          else
            bif (ine r12 r11.1) then
              some false
            else
              bd (F_laws_toMeander fu x0_0 x0_1) fun r13 =>
              bd (F_impl_SplitPath fu r13.1 r13.2) fun r14 =>
              bd (
                bd (F_laws_eqMeanderS fu r14.1 r3.1) fun r15 =>
                bif (bnot r15) then
                  some true
                else
                  some (bne' r14.2 r3.2)) fun s162 =>
              bif s162 then
                some false
              else
                bd (F_laws_heldMeanderS fu r11.2 1) fun r16 =>
                bif (ilt r16 0) then
                  some false
                else
                  bif (ine r16 r11.1) then
                    some false
                  else
                    some true
theorem F_laws_FnExactSplitPath_w {fu : Nat} {H : AH} {v0_0 : Value} {v0_1 : Value} {x0_0 : List Int} {x0_1 : List Int} {r : (Bool)} (hx0_0 : Sl H v0_0 (ints x0_0)) (hx0_1 : Sl H v0_1 (ints x0_1)) (hF : F_laws_FnExactSplitPath fu x0_0 x0_1 = some r) :
    ACallT Try.prog 14 [(Value.agg #[v0_0, v0_1])] H (fun u G => AgB (Fr H) H G ∧ u = (Value.bool r) ∧ Sep G (Fr H) []) := by
  refine ACallT.of_body (nt := 96) (rs := [.tmp 2]) Try.func14 rfl rfl rfl rfl ?_
  have A0 : AgB (Fr H) H H := .refl _ _
  have S0 : Sep H (Fr H) [] := .nil
  have hB := Fr.up H
  unfold F_laws_FnExactSplitPath at hF
  refine DWp.seq ?_
  obtain ⟨G2, p4, q5, q6, a7, S1⟩ := S0.boxT (hB.le A0.1) 35 [v0_0, v0_1]
  have A3 := A0.ext (hB.le A0.1) a7
  replace S1 : Sep G2 (Fr H) [AL.box p4 [v0_0, v0_1]] := S1
  refine DWp.region fun K hK => ?_
  simp [-aBin', -aBin, -aBinI, -aUn, -aNil, -flatV, n_fn, b_add, b_sub, b_mul, b_lt, b_le, b_gt, b_ge, b_eq, b_ne, u_not, q5, q6, a7.to_pre, cells_agg]
  apply hK
  clear hK K
  simp only [andThen, leaves]
  refine DWp.seq ?_
  refine DWp.region fun K hK => ?_
  simp [-aBin', -aBin, -aBinI, -aUn, -aNil, -flatV, n_fn, b_add, b_sub, b_mul, b_lt, b_le, b_gt, b_ge, b_eq, b_ne, u_not]
  apply hK
  clear hK K
  simp only [andThen, leaves]
  refine DWp.seq ?_
  have q8 := S1.loadAgg (P := Try.prog) (k := 0) rfl sz_35 ag_35 rfl
  obtain ⟨r1, hc9, hF⟩ := bd_some hF
  refine DWp.region fun K hK => ?_
  simp [-aBin', -aBin, -aBinI, -aUn, -aNil, -flatV, n_fn, b_add, b_sub, b_mul, b_lt, b_le, b_gt, b_ge, b_eq, b_ne, u_not, q8, ((hx0_0.agree A3.agree).tup), ((hx0_1.agree A3.agree).tup)]
  refine CallD.t (F_laws_szMeander_w (fu := fu) (hx0_0.agree A3.agree) (hx0_1.agree A3.agree) hc9) ?_
  rintro _ G11 ⟨a14, rfl, S15⟩
  have A13 := A3.ext (hB.le A3.1) a14.agree
  have S12 : Sep G11 (Fr H) [AL.box p4 [v0_0, v0_1]] := S1.app a14.agree S15 (fun _ h => h) (hB.le A3.1)
  simp [-aBin', -aBin, -aBinI, -aUn, -aNil, -flatV, n_fn, b_add, b_sub, b_mul, b_lt, b_le, b_gt, b_ge, b_eq, b_ne, u_not, q8, a14.pre]
  apply hK
  clear hK K
  simp only [andThen, leaves]
  refine DWp.seq ?_
  refine DWp.seq ?_
  refine DWp.region fun K hK => ?_
  simp [-aBin', -aBin, -aBinI, -aUn, -aNil, -flatV, n_fn, b_add, b_sub, b_mul, b_lt, b_le, b_gt, b_ge, b_eq, b_ne, u_not]
  apply hK
  clear hK K
  simp only [andThen, leaves]
  refine DWp.cond' (t := (ilt r1 0)) (by simp []) (fun hb16 => ?_) (fun hb16 => ?_)
  · replace hF := cd_t hb16 hF
    refine DWp.seq ?_
    refine DWp.region fun K hK => ?_
    simp [-aBin', -aBin, -aBinI, -aUn, -aNil, -flatV, n_fn, b_add, b_sub, b_mul, b_lt, b_le, b_gt, b_ge, b_eq, b_ne, u_not]
    apply hK
    clear hK K
    simp only [andThen, leaves]
    refine DWp.ret ?_
    simp only [andThen, leaves]
    obtain rfl := Option.some.inj hF
    exact ⟨by simp, [(Value.bool true)], by simp [], A13, rfl, S12.pick [] (by decide) rfl⟩
  · replace hF := cd_f hb16 hF
    refine DWp.skip ?_
    simp only [andThen, leaves]
    refine DWp.seq ?_
    have q17 := S12.loadAgg (P := Try.prog) (k := 0) rfl sz_35 ag_35 rfl
    obtain ⟨r2, hc18, hF⟩ := bd_some hF
    refine DWp.region fun K hK => ?_
    simp [-aBin', -aBin, -aBinI, -aUn, -aNil, -flatV, n_fn, b_add, b_sub, b_mul, b_lt, b_le, b_gt, b_ge, b_eq, b_ne, u_not, q17, ((hx0_0.agree A13.agree).tup), ((hx0_1.agree A13.agree).tup)]
    refine CallD.t (F_laws_toMeander_w (fu := fu) (hx0_0.agree A13.agree) (hx0_1.agree A13.agree) hc18) ?_
    rintro _ G20 ⟨a23, c19_u0, c19_u1, rfl, S24⟩
    have A22 := A13.ext (hB.le A13.1) a23.agree
    have S21 : Sep G20 (Fr H) [AL.box p4 [v0_0, v0_1], flat c19_u0 3 (ints r2.1), flat c19_u1 3 (ints r2.2)] := S12.app a23.agree S24 (fun _ h => h) (hB.le A13.1)
    obtain ⟨r3, hc25, hF⟩ := bd_some hF
    simp [-aBin', -aBin, -aBinI, -aUn, -aNil, -flatV, n_fn, b_add, b_sub, b_mul, b_lt, b_le, b_gt, b_ge, b_eq, b_ne, u_not, q17, a23.pre, ((S21.sl (k := 1) rfl).tup), ((S21.sl (k := 2) rfl).tup)]
    refine CallD.t (F_spec_SplitPath_w (fu := fu) (S21.sl (k := 1) rfl) (S21.sl (k := 2) rfl) hc25) ?_
    rintro _ G27 ⟨a30, c26_u0, c26_C0, rfl, S31⟩
    have A29 := A22.ext (hB.le A22.1) a30.agree
    have S28 : Sep G27 (Fr H) [AL.box p4 [v0_0, v0_1], flat c19_u0 3 (ints r2.1), flat c19_u1 3 (ints r2.2), rowsP c26_u0 38 3 c26_C0 r3.1] := S21.app a30.agree S31 (fun _ h => h) (hB.le A22.1)
    simp [-aBin', -aBin, -aBinI, -aUn, -aNil, -flatV, n_fn, b_add, b_sub, b_mul, b_lt, b_le, b_gt, b_ge, b_eq, b_ne, u_not, q17, a23.pre, a30.pre]
    apply hK
    clear hK K
    simp only [andThen, leaves]
    refine DWp.seq ?_
    have q32 := S28.loadAgg (P := Try.prog) (k := 0) rfl sz_35 ag_35 rfl
    obtain ⟨r4, hc33, hF⟩ := bd_some hF
    refine DWp.region fun K hK => ?_
    simp [-aBin', -aBin, -aBinI, -aUn, -aNil, -flatV, n_fn, b_add, b_sub, b_mul, b_lt, b_le, b_gt, b_ge, b_eq, b_ne, u_not, q32, ((hx0_0.agree A29.agree).tup), ((hx0_1.agree A29.agree).tup)]
    refine CallD.t (F_laws_toMeander_w (fu := fu) (hx0_0.agree A29.agree) (hx0_1.agree A29.agree) hc33) ?_
    rintro _ G35 ⟨a38, c34_u0, c34_u1, rfl, S39⟩
    have A37 := A29.ext (hB.le A29.1) a38.agree
    have S36 : Sep G35 (Fr H) [AL.box p4 [v0_0, v0_1], flat c19_u0 3 (ints r2.1), flat c19_u1 3 (ints r2.2), rowsP c26_u0 38 3 c26_C0 r3.1, flat c34_u0 3 (ints r4.1), flat c34_u1 3 (ints r4.2)] := S28.app a38.agree S39 (fun _ h => h) (hB.le A29.1)
    obtain ⟨G41, p43, q44, q46, a45, S40⟩ := S36.allocT (P := Try.prog) (hB.le A37.1) ze_38 rfl
    have A42 := A37.ext (hB.le A37.1) a45
    replace S40 : Sep G41 (Fr H) [AL.box p4 [v0_0, v0_1], flat c19_u0 3 (ints r2.1), flat c19_u1 3 (ints r2.2), rowsP c26_u0 38 3 c26_C0 r3.1, flat c34_u0 3 (ints r4.1), flat c34_u1 3 (ints r4.2), AL.box p43 [(Value.slice none 0 0), (Value.slice none 0 0)]] := S40
    obtain ⟨G47, q48, S49, a51⟩ := S40.putAgg (P := Try.prog) (k := 6) (xs := [c34_u0, c34_u1]) rfl (hB.le A42.1) sz_38 rfl rfl
    have A50 := A42.trans a51
    replace S49 : Sep G47 (Fr H) [AL.box p4 [v0_0, v0_1], flat c19_u0 3 (ints r2.1), flat c19_u1 3 (ints r2.2), rowsP c26_u0 38 3 c26_C0 r3.1, flat c34_u0 3 (ints r4.1), flat c34_u1 3 (ints r4.2), AL.box p43 [c34_u0, c34_u1]] := S49
    simp [-aBin', -aBin, -aBinI, -aUn, -aNil, -flatV, n_fn, b_add, b_sub, b_mul, b_lt, b_le, b_gt, b_ge, b_eq, b_ne, u_not, q32, a38.pre, q44, q46, a45.to_pre, q48]
    apply hK
    clear hK K
    simp only [andThen, leaves]
    refine DWp.seq ?_
    have q52 := S49.loadAgg (P := Try.prog) (k := 6) rfl sz_38 ag_38 rfl
    obtain ⟨r5, hc53, hF⟩ := bd_some hF
    refine DWp.region fun K hK => ?_
    simp [-aBin', -aBin, -aBinI, -aUn, -aNil, -flatV, n_fn, b_add, b_sub, b_mul, b_lt, b_le, b_gt, b_ge, b_eq, b_ne, u_not, q52, ((S49.sl (k := 4) rfl).tup), ((S49.sl (k := 5) rfl).tup)]
    refine CallD.t (F_impl_SplitPath_w (fu := fu) (S49.sl (k := 4) rfl) (S49.sl (k := 5) rfl) hc53) ?_
    rintro _ G55 ⟨a58, c54_u0, c54_C0, rfl, S59⟩
    have A57 := A50.ext (hB.le A50.1) a58.agree
    have S56 : Sep G55 (Fr H) [AL.box p4 [v0_0, v0_1], flat c19_u0 3 (ints r2.1), flat c19_u1 3 (ints r2.2), rowsP c26_u0 38 3 c26_C0 r3.1, flat c34_u0 3 (ints r4.1), flat c34_u1 3 (ints r4.2), AL.box p43 [c34_u0, c34_u1], rowsP c54_u0 38 3 c54_C0 r5.1] := S49.app a58.agree S59 (fun _ h => h) (hB.le A50.1)
    simp [-aBin', -aBin, -aBinI, -aUn, -aNil, -flatV, n_fn, b_add, b_sub, b_mul, b_lt, b_le, b_gt, b_ge, b_eq, b_ne, u_not, q52, a58.pre]
    apply hK
    clear hK K
    simp only [andThen, leaves]
    refine DWp.seq ?_
    obtain ⟨s60, hL61, hF⟩ := bd_some hF
    refine DWp.seq (DWp.join (fun env G => Sep G (Fr H) [AL.box p4 [v0_0, v0_1], rowsP c26_u0 38 3 c26_C0 r3.1, AL.box p43 [c34_u0, c34_u1], flat c34_u0 3 (ints r4.1), flat c34_u1 3 (ints r4.2), rowsP c54_u0 38 3 c54_C0 r5.1] ∧ AgB (Fr H) H G ∧ env 1 = some p4 ∧ env 4 = some c26_u0 ∧ env 5 = some (Value.bool r3.2) ∧ env 6 = some p43 ∧ env 7 = some c54_u0 ∧ env 8 = some (Value.bool r5.2) ∧ env 40 = some (Value.bool s60)) ?_ ?_)
    ·
      obtain ⟨r6, hc63, hL61⟩ := bd_some hL61
      refine DWp.region fun K hK => ?_
      simp [-aBin', -aBin, -aBinI, -aUn, -aNil, -flatV, n_fn, b_add, b_sub, b_mul, b_lt, b_le, b_gt, b_ge, b_eq, b_ne, u_not, ((S56.rdP (k := 7) rfl).tup), ((S56.rdP (k := 3) rfl).tup)]
      refine CallD.t (F_laws_eqMeanderS_w (fu := fu) ⟨_, (S56.rdP (k := 7) rfl)⟩ ⟨_, (S56.rdP (k := 3) rfl)⟩ hc63) ?_
      rintro _ G65 ⟨a68, rfl, S69⟩
      have A67 := A57.ext (hB.le A57.1) a68.agree
      have S66 : Sep G65 (Fr H) [AL.box p4 [v0_0, v0_1], flat c19_u0 3 (ints r2.1), flat c19_u1 3 (ints r2.2), rowsP c26_u0 38 3 c26_C0 r3.1, flat c34_u0 3 (ints r4.1), flat c34_u1 3 (ints r4.2), AL.box p43 [c34_u0, c34_u1], rowsP c54_u0 38 3 c54_C0 r5.1] := S56.app a68.agree S69 (fun _ h => h) (hB.le A57.1)
      rcases Bool.eq_false_or_eq_true (bnot r6) with hb70 | hb70
      · replace hL61 := cd_t hb70 hL61
        simp [-aBin', -aBin, -aBinI, -aUn, -aNil, -flatV, n_fn, b_add, b_sub, b_mul, b_lt, b_le, b_gt, b_ge, b_eq, b_ne, u_not, hb70, a68.pre]
        apply hK
        clear hK K
        simp only [andThen, leaves]
        have S71 := S66.pick [0, 3, 6, 4, 5, 7] (by decide) rfl
        obtain rfl := Option.some.inj hL61
        exact ⟨S71, A67, by simp [], by simp [], by simp [], by simp [], by simp [], by simp [], by simp []⟩
      · replace hL61 := cd_f hb70 hL61
        simp [-aBin', -aBin, -aBinI, -aUn, -aNil, -flatV, n_fn, b_add, b_sub, b_mul, b_lt, b_le, b_gt, b_ge, b_eq, b_ne, u_not, hb70, a68.pre, b_bne un_4]
        apply hK
        clear hK K
        simp only [andThen, leaves]
        have S72 := S66.pick [0, 3, 6, 4, 5, 7] (by decide) rfl
        obtain rfl := Option.some.inj hL61
        exact ⟨S72, A67, by simp [], by simp [], by simp [], by simp [], by simp [], by simp [], by simp []⟩
    · rintro env Gj73 ⟨Sj73, Aj73, ej73_1, ej73_4, ej73_5, ej73_6, ej73_7, ej73_8, ej73_40⟩
      refine DWp.cond' (t := s60) (by simp [ej73_1, ej73_4, ej73_5, ej73_6, ej73_7, ej73_8, ej73_40]) (fun hb74 => ?_) (fun hb74 => ?_)
      · replace hF := cd_t hb74 hF
        refine DWp.seq ?_
        refine DWp.region fun K hK => ?_
        simp [-aBin', -aBin, -aBinI, -aUn, -aNil, -flatV, n_fn, b_add, b_sub, b_mul, b_lt, b_le, b_gt, b_ge, b_eq, b_ne, u_not, ej73_1, ej73_4, ej73_5, ej73_6, ej73_7, ej73_8, ej73_40]
        apply hK
        clear hK K
        simp only [andThen, leaves]
        refine DWp.ret ?_
        simp only [andThen, leaves]
        obtain rfl := Option.some.inj hF
        exact ⟨by simp, [(Value.bool false)], by simp [ej73_1, ej73_4, ej73_5, ej73_6, ej73_7, ej73_8, ej73_40], Aj73, rfl, Sj73.pick [] (by decide) rfl⟩
      · replace hF := cd_f hb74 hF
        refine DWp.skip ?_
        simp only [andThen, leaves]
        refine DWp.seq ?_
        refine DWp.seq ?_
        have q75 := Sj73.loadAgg (P := Try.prog) (k := 2) rfl sz_38 ag_38 rfl
        have q76 := Sj73.loadAgg (P := Try.prog) (k := 0) rfl sz_35 ag_35 rfl
        obtain ⟨r7, hc77, hF⟩ := bd_some hF
        refine DWp.drawn (B := [0, 0, 2, 7, 15]) 5 mixed (by kernel_rfl) (by decide) fun K hK => ?_
        simp [-aBin', -aBin, -aBinI, -aUn, -aNil, -flatV, n_fn, b_add, b_sub, b_mul, b_lt, b_le, b_gt, b_ge, b_eq, b_ne, u_not, ej73_1, ej73_4, ej73_5, ej73_6, ej73_7, ej73_8, ej73_40, q75, q76, ((hx0_0.agree Aj73.agree).tup), ((hx0_1.agree Aj73.agree).tup)]
        refine CallD.t (F_laws_toMeander_w (fu := fu) (hx0_0.agree Aj73.agree) (hx0_1.agree Aj73.agree) hc77) ?_
        rintro _ G79 ⟨a82, c78_u0, c78_u1, rfl, S83⟩
        have A81 := Aj73.ext (hB.le Aj73.1) a82.agree
        have S80 : Sep G79 (Fr H) [AL.box p4 [v0_0, v0_1], rowsP c26_u0 38 3 c26_C0 r3.1, AL.box p43 [c34_u0, c34_u1], flat c34_u0 3 (ints r4.1), flat c34_u1 3 (ints r4.2), rowsP c54_u0 38 3 c54_C0 r5.1, flat c78_u0 3 (ints r7.1), flat c78_u1 3 (ints r7.2)] := Sj73.app a82.agree S83 (fun _ h => h) (hB.le Aj73.1)
        obtain ⟨r8, hc84, hF⟩ := bd_some hF
        simp [-aBin', -aBin, -aBinI, -aUn, -aNil, -flatV, n_fn, b_add, b_sub, b_mul, b_lt, b_le, b_gt, b_ge, b_eq, b_ne, u_not, ej73_1, ej73_4, ej73_5, ej73_6, ej73_7, ej73_8, ej73_40, q75, q76, a82.pre, ((S80.sl (k := 3) rfl).tup), ((S80.sl (k := 4) rfl).tup), ((S80.sl (k := 6) rfl).tup), ((S80.sl (k := 7) rfl).tup)]
        refine CallD.t (F_laws_eqMeander_w (fu := fu) (S80.sl (k := 3) rfl) (S80.sl (k := 4) rfl) (S80.sl (k := 6) rfl) (S80.sl (k := 7) rfl) hc84) ?_
        rintro _ G86 ⟨a89, rfl, S90⟩
        have A88 := A81.ext (hB.le A81.1) a89.agree
        have S87 : Sep G86 (Fr H) [AL.box p4 [v0_0, v0_1], rowsP c26_u0 38 3 c26_C0 r3.1, AL.box p43 [c34_u0, c34_u1], flat c34_u0 3 (ints r4.1), flat c34_u1 3 (ints r4.2), rowsP c54_u0 38 3 c54_C0 r5.1, flat c78_u0 3 (ints r7.1), flat c78_u1 3 (ints r7.2)] := S80.app a89.agree S90 (fun _ h => h) (hB.le A81.1)
        simp [-aBin', -aBin, -aBinI, -aUn, -aNil, -flatV, n_fn, b_add, b_sub, b_mul, b_lt, b_le, b_gt, b_ge, b_eq, b_ne, u_not, ej73_1, ej73_4, ej73_5, ej73_6, ej73_7, ej73_8, ej73_40, q75, q76, a82.pre, a89.pre]
        apply hK
        clear hK K
        simp only [andThen, leaves]
        refine DWp.cond' (t := (bnot r8)) (by simp [ej73_1, ej73_4, ej73_5, ej73_6, ej73_7, ej73_8, ej73_40]) (fun hb91 => ?_) (fun hb91 => ?_)
        · replace hF := cd_t hb91 hF
          refine DWp.seq ?_
          refine DWp.region fun K hK => ?_
          simp [-aBin', -aBin, -aBinI, -aUn, -aNil, -flatV, n_fn, b_add, b_sub, b_mul, b_lt, b_le, b_gt, b_ge, b_eq, b_ne, u_not, ej73_1, ej73_4, ej73_5, ej73_6, ej73_7, ej73_8, ej73_40]
          apply hK
          clear hK K
          simp only [andThen, leaves]
          refine DWp.ret ?_
          simp only [andThen, leaves]
          obtain rfl := Option.some.inj hF
          exact ⟨by simp, [(Value.bool false)], by simp [ej73_1, ej73_4, ej73_5, ej73_6, ej73_7, ej73_8, ej73_40], A88, rfl, S87.pick [] (by decide) rfl⟩
        · replace hF := cd_f hb91 hF
          refine DWp.skip ?_
          simp only [andThen, leaves]
          refine DWp.seq ?_
          refine DWp.region fun K hK => ?_
          simp [-aBin', -aBin, -aBinI, -aUn, -aNil, -flatV, n_fn, b_add, b_sub, b_mul, b_lt, b_le, b_gt, b_ge, b_eq, b_ne, u_not, ej73_1, ej73_4, ej73_5, ej73_6, ej73_7, ej73_8, ej73_40]
          apply hK
          clear hK K
          simp only [andThen, leaves]
          refine DWp.seq ?_
          have q92 := S87.loadAgg (P := Try.prog) (k := 2) rfl sz_38 ag_38 rfl
          obtain ⟨r9, hc93, hF⟩ := bd_some hF
          refine DWp.region fun K hK => ?_
          simp [-aBin', -aBin, -aBinI, -aUn, -aNil, -flatV, n_fn, b_add, b_sub, b_mul, b_lt, b_le, b_gt, b_ge, b_eq, b_ne, u_not, ej73_1, ej73_4, ej73_5, ej73_6, ej73_7, ej73_8, ej73_40, q92, ((S87.sl (k := 3) rfl).tup), ((S87.sl (k := 4) rfl).tup)]
          have S94 : Sep G86 (Fr H) ([flat c34_u0 3 (ints r4.1), flat c34_u1 3 (ints r4.2)] ++ [AL.box p4 [v0_0, v0_1], rowsP c26_u0 38 3 c26_C0 r3.1, AL.box p43 [c34_u0, c34_u1], rowsP c54_u0 38 3 c54_C0 r5.1, flat c78_u0 3 (ints r7.1), flat c78_u1 3 (ints r7.2)]) := S87.pick [3, 4, 0, 1, 2, 5, 6, 7] (by decide) rfl
          obtain ⟨B100, S95, U96, M97, R98, C99⟩ := S94.frame (hB.le A88.1)
          refine CallD.t (F_laws_markMeander_w (fu := fu) U96 S95 hc93) ?_
          rintro _ G102 ⟨a105, rfl, S106⟩
          have A104 := A88.trans (a105.mono M97)
          have S103 : Sep G102 (Fr H) [flat c34_u0 3 (ints r9.2.1), flat c34_u1 3 (ints r9.2.2), AL.box p4 [v0_0, v0_1], rowsP c26_u0 38 3 c26_C0 r3.1, AL.box p43 [c34_u0, c34_u1], rowsP c54_u0 38 3 c54_C0 r5.1, flat c78_u0 3 (ints r7.1), flat c78_u1 3 (ints r7.2)] := C99 _ _ a105 S106
          simp [-aBin', -aBin, -aBinI, -aUn, -aNil, -flatV, n_fn, b_add, b_sub, b_mul, b_lt, b_le, b_gt, b_ge, b_eq, b_ne, u_not, ej73_1, ej73_4, ej73_5, ej73_6, ej73_7, ej73_8, ej73_40, q92]
          apply hK
          clear hK K
          simp only [andThen, leaves]
          refine DWp.seq ?_
          obtain ⟨s107, hL108, hF⟩ := bd_some hF
          refine DWp.seq (DWp.join (fun env G => Sep G (Fr H) [AL.box p4 [v0_0, v0_1], rowsP c26_u0 38 3 c26_C0 r3.1, rowsP c54_u0 38 3 c54_C0 r5.1] ∧ AgB (Fr H) H G ∧ env 1 = some p4 ∧ env 4 = some c26_u0 ∧ env 5 = some (Value.bool r3.2) ∧ env 7 = some c54_u0 ∧ env 61 = some (Value.bool s107)) ?_ ?_)
          ·
            rcases Bool.eq_false_or_eq_true (ilt r9.1 0) with hb110 | hb110
            · replace hL108 := cd_t hb110 hL108
              refine DWp.region fun K hK => ?_
              simp [-aBin', -aBin, -aBinI, -aUn, -aNil, -flatV, n_fn, b_add, b_sub, b_mul, b_lt, b_le, b_gt, b_ge, b_eq, b_ne, u_not, ej73_1, ej73_4, ej73_5, ej73_6, ej73_7, ej73_8, ej73_40, hb110]
              apply hK
              clear hK K
              simp only [andThen, leaves]
              have S111 := S103.pick [2, 3, 5] (by decide) rfl
              obtain rfl := Option.some.inj hL108
              exact ⟨S111, A104, by simp [ej73_1, ej73_4, ej73_5, ej73_6, ej73_7, ej73_8, ej73_40], by simp [ej73_1, ej73_4, ej73_5, ej73_6, ej73_7, ej73_8, ej73_40], by simp [ej73_1, ej73_4, ej73_5, ej73_6, ej73_7, ej73_8, ej73_40], by simp [ej73_1, ej73_4, ej73_5, ej73_6, ej73_7, ej73_8, ej73_40], by simp [ej73_1, ej73_4, ej73_5, ej73_6, ej73_7, ej73_8, ej73_40]⟩
            · replace hL108 := cd_f hb110 hL108
              obtain ⟨r10, hc112, hL108⟩ := bd_some hL108
              refine DWp.region fun K hK => ?_
              simp [-aBin', -aBin, -aBinI, -aUn, -aNil, -flatV, n_fn, b_add, b_sub, b_mul, b_lt, b_le, b_gt, b_ge, b_eq, b_ne, u_not, ej73_1, ej73_4, ej73_5, ej73_6, ej73_7, ej73_8, ej73_40, hb110, ((S103.rdP (k := 5) rfl).tup), ((S103.rdP (k := 3) rfl).tup)]
              refine CallD.t (F_laws_eqMeanderS_w (fu := fu) ⟨_, (S103.rdP (k := 5) rfl)⟩ ⟨_, (S103.rdP (k := 3) rfl)⟩ hc112) ?_
              rintro _ G114 ⟨a117, rfl, S118⟩
              have A116 := A104.ext (hB.le A104.1) a117.agree
              have S115 : Sep G114 (Fr H) [flat c34_u0 3 (ints r9.2.1), flat c34_u1 3 (ints r9.2.2), AL.box p4 [v0_0, v0_1], rowsP c26_u0 38 3 c26_C0 r3.1, AL.box p43 [c34_u0, c34_u1], rowsP c54_u0 38 3 c54_C0 r5.1, flat c78_u0 3 (ints r7.1), flat c78_u1 3 (ints r7.2)] := S103.app a117.agree S118 (fun _ h => h) (hB.le A104.1)
              rcases Bool.eq_false_or_eq_true (bnot r10) with hb119 | hb119
              · replace hL108 := cd_t hb119 hL108
                simp [-aBin', -aBin, -aBinI, -aUn, -aNil, -flatV, n_fn, b_add, b_sub, b_mul, b_lt, b_le, b_gt, b_ge, b_eq, b_ne, u_not, ej73_1, ej73_4, ej73_5, ej73_6, ej73_7, ej73_8, ej73_40, hb110, hb119, a117.pre]
                apply hK
                clear hK K
                simp only [andThen, leaves]
                have S120 := S115.pick [2, 3, 5] (by decide) rfl
                obtain rfl := Option.some.inj hL108
                exact ⟨S120, A116, by simp [ej73_1, ej73_4, ej73_5, ej73_6, ej73_7, ej73_8, ej73_40], by simp [ej73_1, ej73_4, ej73_5, ej73_6, ej73_7, ej73_8, ej73_40], by simp [ej73_1, ej73_4, ej73_5, ej73_6, ej73_7, ej73_8, ej73_40], by simp [ej73_1, ej73_4, ej73_5, ej73_6, ej73_7, ej73_8, ej73_40], by simp [ej73_1, ej73_4, ej73_5, ej73_6, ej73_7, ej73_8, ej73_40]⟩
              · replace hL108 := cd_f hb119 hL108
                simp [-aBin', -aBin, -aBinI, -aUn, -aNil, -flatV, n_fn, b_add, b_sub, b_mul, b_lt, b_le, b_gt, b_ge, b_eq, b_ne, u_not, ej73_1, ej73_4, ej73_5, ej73_6, ej73_7, ej73_8, ej73_40, hb110, hb119, a117.pre, b_bne un_4]
                apply hK
                clear hK K
                simp only [andThen, leaves]
                have S121 := S115.pick [2, 3, 5] (by decide) rfl
                obtain rfl := Option.some.inj hL108
                exact ⟨S121, A116, by simp [ej73_1, ej73_4, ej73_5, ej73_6, ej73_7, ej73_8, ej73_40], by simp [ej73_1, ej73_4, ej73_5, ej73_6, ej73_7, ej73_8, ej73_40], by simp [ej73_1, ej73_4, ej73_5, ej73_6, ej73_7, ej73_8, ej73_40], by simp [ej73_1, ej73_4, ej73_5, ej73_6, ej73_7, ej73_8, ej73_40], by simp [ej73_1, ej73_4, ej73_5, ej73_6, ej73_7, ej73_8, ej73_40]⟩
          · rintro env Gj122 ⟨Sj122, Aj122, ej122_1, ej122_4, ej122_5, ej122_7, ej122_61⟩
            refine DWp.cond' (t := s107) (by simp [ej122_1, ej122_4, ej122_5, ej122_7, ej122_61]) (fun hb123 => ?_) (fun hb123 => ?_)
            · replace hF := cd_t hb123 hF
              refine DWp.seq ?_
              refine DWp.region fun K hK => ?_
              simp [-aBin', -aBin, -aBinI, -aUn, -aNil, -flatV, n_fn, b_add, b_sub, b_mul, b_lt, b_le, b_gt, b_ge, b_eq, b_ne, u_not, ej122_1, ej122_4, ej122_5, ej122_7, ej122_61]
              apply hK
              clear hK K
              simp only [andThen, leaves]
              refine DWp.ret ?_
              simp only [andThen, leaves]
              obtain rfl := Option.some.inj hF
              exact ⟨by simp, [(Value.bool false)], by simp [ej122_1, ej122_4, ej122_5, ej122_7, ej122_61], Aj122, rfl, Sj122.pick [] (by decide) rfl⟩
            · replace hF := cd_f hb123 hF
              refine DWp.skip ?_
              simp only [andThen, leaves]
              refine DWp.seq ?_
              refine DWp.region fun K hK => ?_
              simp [-aBin', -aBin, -aBinI, -aUn, -aNil, -flatV, n_fn, b_add, b_sub, b_mul, b_lt, b_le, b_gt, b_ge, b_eq, b_ne, u_not, ej122_1, ej122_4, ej122_5, ej122_7, ej122_61]
              apply hK
              clear hK K
              simp only [andThen, leaves]
              refine DWp.seq ?_
              obtain ⟨r11, hc124, hF⟩ := bd_some hF
              refine DWp.region fun K hK => ?_
              simp [-aBin', -aBin, -aBinI, -aUn, -aNil, -flatV, n_fn, b_add, b_sub, b_mul, b_lt, b_le, b_gt, b_ge, b_eq, b_ne, u_not, ej122_1, ej122_4, ej122_5, ej122_7, ej122_61, ((Sj122.rdP (k := 2) rfl).tup)]
              have S125 : Sep Gj122 (Fr H) ([rowsP c54_u0 38 3 c54_C0 r5.1] ++ [AL.box p4 [v0_0, v0_1], rowsP c26_u0 38 3 c26_C0 r3.1]) := Sj122.pick [2, 0, 1] (by decide) rfl
              obtain ⟨B131, S126, U127, M128, R129, C130⟩ := S125.frame (hB.le Aj122.1)
              refine CallD.t (F_laws_markMeanderS_w (fu := fu) U127 S126 hc124) ?_
              rintro _ G133 ⟨a136, c132_Cz0, rfl, S137⟩
              have A135 := Aj122.trans (a136.mono M128)
              have S134 : Sep G133 (Fr H) [rowsP c54_u0 38 3 c132_Cz0 r11.2, AL.box p4 [v0_0, v0_1], rowsP c26_u0 38 3 c26_C0 r3.1] := C130 _ _ a136 S137
              simp [-aBin', -aBin, -aBinI, -aUn, -aNil, -flatV, n_fn, b_add, b_sub, b_mul, b_lt, b_le, b_gt, b_ge, b_eq, b_ne, u_not, ej122_1, ej122_4, ej122_5, ej122_7, ej122_61]
              apply hK
              clear hK K
              simp only [andThen, leaves]
              refine DWp.seq ?_
              refine DWp.region fun K hK => ?_
              simp [-aBin', -aBin, -aBinI, -aUn, -aNil, -flatV, n_fn, b_add, b_sub, b_mul, b_lt, b_le, b_gt, b_ge, b_eq, b_ne, u_not, ej122_1, ej122_4, ej122_5, ej122_7, ej122_61]
              apply hK
              clear hK K
              simp only [andThen, leaves]
              refine DWp.seq ?_
              obtain ⟨r12, hc138, hF⟩ := bd_some hF
              refine DWp.region fun K hK => ?_
              simp [-aBin', -aBin, -aBinI, -aUn, -aNil, -flatV, n_fn, b_add, b_sub, b_mul, b_lt, b_le, b_gt, b_ge, b_eq, b_ne, u_not, ej122_1, ej122_4, ej122_5, ej122_7, ej122_61, ((S134.rdP (k := 0) rfl).tup)]
              refine CallD.t (F_laws_heldMeanderS_w (fu := fu) ⟨_, (S134.rdP (k := 0) rfl)⟩ hc138) ?_
              rintro _ G140 ⟨a143, rfl, S144⟩
              have A142 := A135.ext (hB.le A135.1) a143.agree
              have S141 : Sep G140 (Fr H) [rowsP c54_u0 38 3 c132_Cz0 r11.2, AL.box p4 [v0_0, v0_1], rowsP c26_u0 38 3 c26_C0 r3.1] := S134.app a143.agree S144 (fun _ h => h) (hB.le A135.1)
              simp [-aBin', -aBin, -aBinI, -aUn, -aNil, -flatV, n_fn, b_add, b_sub, b_mul, b_lt, b_le, b_gt, b_ge, b_eq, b_ne, u_not, ej122_1, ej122_4, ej122_5, ej122_7, ej122_61, a143.pre]
              apply hK
              clear hK K
              simp only [andThen, leaves]
              refine DWp.seq ?_
              refine DWp.seq ?_
              refine DWp.region fun K hK => ?_
              simp [-aBin', -aBin, -aBinI, -aUn, -aNil, -flatV, n_fn, b_add, b_sub, b_mul, b_lt, b_le, b_gt, b_ge, b_eq, b_ne, u_not, ej122_1, ej122_4, ej122_5, ej122_7, ej122_61]
              apply hK
              clear hK K
              simp only [andThen, leaves]
              refine DWp.cond' (t := (ilt r12 0)) (by simp [ej122_1, ej122_4, ej122_5, ej122_7, ej122_61]) (fun hb145 => ?_) (fun hb145 => ?_)
              · replace hF := cd_t hb145 hF
                refine DWp.seq ?_
                refine DWp.region fun K hK => ?_
                simp [-aBin', -aBin, -aBinI, -aUn, -aNil, -flatV, n_fn, b_add, b_sub, b_mul, b_lt, b_le, b_gt, b_ge, b_eq, b_ne, u_not, ej122_1, ej122_4, ej122_5, ej122_7, ej122_61]
                apply hK
                clear hK K
                simp only [andThen, leaves]
                refine DWp.ret ?_
                simp only [andThen, leaves]
                obtain rfl := Option.some.inj hF
                exact ⟨by simp, [(Value.bool false)], by simp [ej122_1, ej122_4, ej122_5, ej122_7, ej122_61], A142, rfl, S141.pick [] (by decide) rfl⟩
              · replace hF := cd_f hb145 hF
                refine DWp.skip ?_
                simp only [andThen, leaves]
                refine DWp.seq ?_
                refine DWp.seq ?_
                refine DWp.region fun K hK => ?_
                simp [-aBin', -aBin, -aBinI, -aUn, -aNil, -flatV, n_fn, b_add, b_sub, b_mul, b_lt, b_le, b_gt, b_ge, b_eq, b_ne, u_not, ej122_1, ej122_4, ej122_5, ej122_7, ej122_61]
                apply hK
                clear hK K
                simp only [andThen, leaves]
                refine DWp.cond' (t := (ine r12 r11.1)) (by simp [ej122_1, ej122_4, ej122_5, ej122_7, ej122_61]) (fun hb146 => ?_) (fun hb146 => ?_)
                · replace hF := cd_t hb146 hF
                  refine DWp.seq ?_
                  refine DWp.region fun K hK => ?_
                  simp [-aBin', -aBin, -aBinI, -aUn, -aNil, -flatV, n_fn, b_add, b_sub, b_mul, b_lt, b_le, b_gt, b_ge, b_eq, b_ne, u_not, ej122_1, ej122_4, ej122_5, ej122_7, ej122_61]
                  apply hK
                  clear hK K
                  simp only [andThen, leaves]
                  refine DWp.ret ?_
                  simp only [andThen, leaves]
                  obtain rfl := Option.some.inj hF
                  exact ⟨by simp, [(Value.bool false)], by simp [ej122_1, ej122_4, ej122_5, ej122_7, ej122_61], A142, rfl, S141.pick [] (by decide) rfl⟩
                · replace hF := cd_f hb146 hF
                  refine DWp.skip ?_
                  simp only [andThen, leaves]
                  refine DWp.seq ?_
                  have q147 := S141.loadAgg (P := Try.prog) (k := 1) rfl sz_35 ag_35 rfl
                  obtain ⟨r13, hc148, hF⟩ := bd_some hF
                  refine DWp.region fun K hK => ?_
                  simp [-aBin', -aBin, -aBinI, -aUn, -aNil, -flatV, n_fn, b_add, b_sub, b_mul, b_lt, b_le, b_gt, b_ge, b_eq, b_ne, u_not, ej122_1, ej122_4, ej122_5, ej122_7, ej122_61, q147, ((hx0_0.agree A142.agree).tup), ((hx0_1.agree A142.agree).tup)]
                  refine CallD.t (F_laws_toMeander_w (fu := fu) (hx0_0.agree A142.agree) (hx0_1.agree A142.agree) hc148) ?_
                  rintro _ G150 ⟨a153, c149_u0, c149_u1, rfl, S154⟩
                  have A152 := A142.ext (hB.le A142.1) a153.agree
                  have S151 : Sep G150 (Fr H) [rowsP c54_u0 38 3 c132_Cz0 r11.2, AL.box p4 [v0_0, v0_1], rowsP c26_u0 38 3 c26_C0 r3.1, flat c149_u0 3 (ints r13.1), flat c149_u1 3 (ints r13.2)] := S141.app a153.agree S154 (fun _ h => h) (hB.le A142.1)
                  obtain ⟨r14, hc155, hF⟩ := bd_some hF
                  simp [-aBin', -aBin, -aBinI, -aUn, -aNil, -flatV, n_fn, b_add, b_sub, b_mul, b_lt, b_le, b_gt, b_ge, b_eq, b_ne, u_not, ej122_1, ej122_4, ej122_5, ej122_7, ej122_61, q147, a153.pre, ((S151.sl (k := 3) rfl).tup), ((S151.sl (k := 4) rfl).tup)]
                  refine CallD.t (F_impl_SplitPath_w (fu := fu) (S151.sl (k := 3) rfl) (S151.sl (k := 4) rfl) hc155) ?_
                  rintro _ G157 ⟨a160, c156_u0, c156_C0, rfl, S161⟩
                  have A159 := A152.ext (hB.le A152.1) a160.agree
                  have S158 : Sep G157 (Fr H) [rowsP c54_u0 38 3 c132_Cz0 r11.2, AL.box p4 [v0_0, v0_1], rowsP c26_u0 38 3 c26_C0 r3.1, flat c149_u0 3 (ints r13.1), flat c149_u1 3 (ints r13.2), rowsP c156_u0 38 3 c156_C0 r14.1] := S151.app a160.agree S161 (fun _ h => h) (hB.le A152.1)
                  simp [-aBin', -aBin, -aBinI, -aUn, -aNil, -flatV, n_fn, b_add, b_sub, b_mul, b_lt, b_le, b_gt, b_ge, b_eq, b_ne, u_not, ej122_1, ej122_4, ej122_5, ej122_7, ej122_61, q147, a153.pre, a160.pre]
                  apply hK
                  clear hK K
                  simp only [andThen, leaves]
                  refine DWp.seq ?_
                  obtain ⟨s162, hL163, hF⟩ := bd_some hF
                  refine DWp.seq (DWp.join (fun env G => Sep G (Fr H) [rowsP c54_u0 38 3 c132_Cz0 r11.2] ∧ AgB (Fr H) H G ∧ env 7 = some c54_u0 ∧ env 10 = some (Value.int .i64 r11.1) ∧ env 87 = some (Value.bool s162)) ?_ ?_)
                  ·
                    obtain ⟨r15, hc165, hL163⟩ := bd_some hL163
                    refine DWp.region fun K hK => ?_
                    simp [-aBin', -aBin, -aBinI, -aUn, -aNil, -flatV, n_fn, b_add, b_sub, b_mul, b_lt, b_le, b_gt, b_ge, b_eq, b_ne, u_not, ej122_1, ej122_4, ej122_5, ej122_7, ej122_61, ((S158.rdP (k := 5) rfl).tup), ((S158.rdP (k := 2) rfl).tup)]
                    refine CallD.t (F_laws_eqMeanderS_w (fu := fu) ⟨_, (S158.rdP (k := 5) rfl)⟩ ⟨_, (S158.rdP (k := 2) rfl)⟩ hc165) ?_
                    rintro _ G167 ⟨a170, rfl, S171⟩
                    have A169 := A159.ext (hB.le A159.1) a170.agree
                    have S168 : Sep G167 (Fr H) [rowsP c54_u0 38 3 c132_Cz0 r11.2, AL.box p4 [v0_0, v0_1], rowsP c26_u0 38 3 c26_C0 r3.1, flat c149_u0 3 (ints r13.1), flat c149_u1 3 (ints r13.2), rowsP c156_u0 38 3 c156_C0 r14.1] := S158.app a170.agree S171 (fun _ h => h) (hB.le A159.1)
                    rcases Bool.eq_false_or_eq_true (bnot r15) with hb172 | hb172
                    · replace hL163 := cd_t hb172 hL163
                      simp [-aBin', -aBin, -aBinI, -aUn, -aNil, -flatV, n_fn, b_add, b_sub, b_mul, b_lt, b_le, b_gt, b_ge, b_eq, b_ne, u_not, ej122_1, ej122_4, ej122_5, ej122_7, ej122_61, hb172, a170.pre]
                      apply hK
                      clear hK K
                      simp only [andThen, leaves]
                      have S173 := S168.pick [0] (by decide) rfl
                      obtain rfl := Option.some.inj hL163
                      exact ⟨S173, A169, by simp [ej122_1, ej122_4, ej122_5, ej122_7, ej122_61], by simp [ej122_1, ej122_4, ej122_5, ej122_7, ej122_61], by simp [ej122_1, ej122_4, ej122_5, ej122_7, ej122_61]⟩
                    · replace hL163 := cd_f hb172 hL163
                      simp [-aBin', -aBin, -aBinI, -aUn, -aNil, -flatV, n_fn, b_add, b_sub, b_mul, b_lt, b_le, b_gt, b_ge, b_eq, b_ne, u_not, ej122_1, ej122_4, ej122_5, ej122_7, ej122_61, hb172, a170.pre, b_bne un_4]
                      apply hK
                      clear hK K
                      simp only [andThen, leaves]
                      have S174 := S168.pick [0] (by decide) rfl
                      obtain rfl := Option.some.inj hL163
                      exact ⟨S174, A169, by simp [ej122_1, ej122_4, ej122_5, ej122_7, ej122_61], by simp [ej122_1, ej122_4, ej122_5, ej122_7, ej122_61], by simp [ej122_1, ej122_4, ej122_5, ej122_7, ej122_61]⟩
                  · rintro env Gj175 ⟨Sj175, Aj175, ej175_7, ej175_10, ej175_87⟩
                    refine DWp.cond' (t := s162) (by simp [ej175_7, ej175_10, ej175_87]) (fun hb176 => ?_) (fun hb176 => ?_)
                    · replace hF := cd_t hb176 hF
                      refine DWp.seq ?_
                      refine DWp.region fun K hK => ?_
                      simp [-aBin', -aBin, -aBinI, -aUn, -aNil, -flatV, n_fn, b_add, b_sub, b_mul, b_lt, b_le, b_gt, b_ge, b_eq, b_ne, u_not, ej175_7, ej175_10, ej175_87]
                      apply hK
                      clear hK K
                      simp only [andThen, leaves]
                      refine DWp.ret ?_
                      simp only [andThen, leaves]
                      obtain rfl := Option.some.inj hF
                      exact ⟨by simp, [(Value.bool false)], by simp [ej175_7, ej175_10, ej175_87], Aj175, rfl, Sj175.pick [] (by decide) rfl⟩
                    · replace hF := cd_f hb176 hF
                      refine DWp.skip ?_
                      simp only [andThen, leaves]
                      refine DWp.seq ?_
                      refine DWp.region fun K hK => ?_
                      simp [-aBin', -aBin, -aBinI, -aUn, -aNil, -flatV, n_fn, b_add, b_sub, b_mul, b_lt, b_le, b_gt, b_ge, b_eq, b_ne, u_not, ej175_7, ej175_10, ej175_87]
                      apply hK
                      clear hK K
                      simp only [andThen, leaves]
                      refine DWp.seq ?_
                      obtain ⟨r16, hc177, hF⟩ := bd_some hF
                      refine DWp.region fun K hK => ?_
                      simp [-aBin', -aBin, -aBinI, -aUn, -aNil, -flatV, n_fn, b_add, b_sub, b_mul, b_lt, b_le, b_gt, b_ge, b_eq, b_ne, u_not, ej175_7, ej175_10, ej175_87, ((Sj175.rdP (k := 0) rfl).tup)]
                      refine CallD.t (F_laws_heldMeanderS_w (fu := fu) ⟨_, (Sj175.rdP (k := 0) rfl)⟩ hc177) ?_
                      rintro _ G179 ⟨a182, rfl, S183⟩
                      have A181 := Aj175.ext (hB.le Aj175.1) a182.agree
                      have S180 : Sep G179 (Fr H) [rowsP c54_u0 38 3 c132_Cz0 r11.2] := Sj175.app a182.agree S183 (fun _ h => h) (hB.le Aj175.1)
                      simp [-aBin', -aBin, -aBinI, -aUn, -aNil, -flatV, n_fn, b_add, b_sub, b_mul, b_lt, b_le, b_gt, b_ge, b_eq, b_ne, u_not, ej175_7, ej175_10, ej175_87, a182.pre]
                      apply hK
                      clear hK K
                      simp only [andThen, leaves]
                      refine DWp.seq ?_
                      refine DWp.seq ?_
                      refine DWp.region fun K hK => ?_
                      simp [-aBin', -aBin, -aBinI, -aUn, -aNil, -flatV, n_fn, b_add, b_sub, b_mul, b_lt, b_le, b_gt, b_ge, b_eq, b_ne, u_not, ej175_7, ej175_10, ej175_87]
                      apply hK
                      clear hK K
                      simp only [andThen, leaves]
                      refine DWp.cond' (t := (ilt r16 0)) (by simp [ej175_7, ej175_10, ej175_87]) (fun hb184 => ?_) (fun hb184 => ?_)
                      · replace hF := cd_t hb184 hF
                        refine DWp.seq ?_
                        refine DWp.region fun K hK => ?_
                        simp [-aBin', -aBin, -aBinI, -aUn, -aNil, -flatV, n_fn, b_add, b_sub, b_mul, b_lt, b_le, b_gt, b_ge, b_eq, b_ne, u_not, ej175_7, ej175_10, ej175_87]
                        apply hK
                        clear hK K
                        simp only [andThen, leaves]
                        refine DWp.ret ?_
                        simp only [andThen, leaves]
                        obtain rfl := Option.some.inj hF
                        exact ⟨by simp, [(Value.bool false)], by simp [ej175_7, ej175_10, ej175_87], A181, rfl, S180.pick [] (by decide) rfl⟩
                      · replace hF := cd_f hb184 hF
                        refine DWp.skip ?_
                        simp only [andThen, leaves]
                        refine DWp.seq ?_
                        refine DWp.seq ?_
                        refine DWp.region fun K hK => ?_
                        simp [-aBin', -aBin, -aBinI, -aUn, -aNil, -flatV, n_fn, b_add, b_sub, b_mul, b_lt, b_le, b_gt, b_ge, b_eq, b_ne, u_not, ej175_7, ej175_10, ej175_87]
                        apply hK
                        clear hK K
                        simp only [andThen, leaves]
                        refine DWp.cond' (t := (ine r16 r11.1)) (by simp [ej175_7, ej175_10, ej175_87]) (fun hb185 => ?_) (fun hb185 => ?_)
                        · replace hF := cd_t hb185 hF
                          refine DWp.seq ?_
                          refine DWp.region fun K hK => ?_
                          simp [-aBin', -aBin, -aBinI, -aUn, -aNil, -flatV, n_fn, b_add, b_sub, b_mul, b_lt, b_le, b_gt, b_ge, b_eq, b_ne, u_not, ej175_7, ej175_10, ej175_87]
                          apply hK
                          clear hK K
                          simp only [andThen, leaves]
                          refine DWp.ret ?_
                          simp only [andThen, leaves]
                          obtain rfl := Option.some.inj hF
                          exact ⟨by simp, [(Value.bool false)], by simp [ej175_7, ej175_10, ej175_87], A181, rfl, S180.pick [] (by decide) rfl⟩
                        · replace hF := cd_f hb185 hF
                          refine DWp.skip ?_
                          simp only [andThen, leaves]
                          refine DWp.seq ?_
                          refine DWp.region fun K hK => ?_
                          simp [-aBin', -aBin, -aBinI, -aUn, -aNil, -flatV, n_fn, b_add, b_sub, b_mul, b_lt, b_le, b_gt, b_ge, b_eq, b_ne, u_not, ej175_7, ej175_10, ej175_87]
                          apply hK
                          clear hK K
                          simp only [andThen, leaves]
                          refine DWp.ret ?_
                          obtain rfl := Option.some.inj hF
                          exact ⟨by simp, [(Value.bool true)], by simp [ej175_7, ej175_10, ej175_87], A181, rfl, S180.pick [] (by decide) rfl⟩
end Go.Proofs.Ytdghlhdpcmemjaa.AL

/- The walks of functions, each with its Lean function: impl.CountExchanges, laws.eqIntS, laws.FnExactCountExchanges, spec.l1Own, spec.exAt, spec.ExchangeAt, slices.Index[[][2]int,[2]int], slices.Contains[[][2]int,[2]int], slices.Clone[[]int,int], impl.exchanged$1. No condition. -/
import Derived.Test.YtdghlhdpcmemjaaFBD
import Derived.Test.YtdghlhdpcmemjaaFBE
import Derived.Test.YtdghlhdpcmemjaaG1
import Derived.Test.YtdghlhdpcmemjaaG2
import Derived.Test.YtdghlhdpcmemjaaG3
import Derived.Test.YtdghlhdpcmemjaaALD
import Derived.Test.YtdghlhdpcmemjaaProg
import Derived.KernelRfl
namespace Go.Proofs.Ytdghlhdpcmemjaa.AL
open Go Go.RowKit
set_option linter.unusedVariables false
set_option linter.unusedSimpArgs false
set_option maxRecDepth 4096
theorem un_4 : Try.prog.underlying 4 = some .bool := by kernel_rfl
def F_impl_CountExchanges (fu : Nat) (x0 : List Int) : Option (Int × Bool) :=
  bd (F_impl_IsSystem fu x0) fun r1 =>
  bif (bnot r1) then
    some (0, false)
  else
    bd (F_impl_couples fu x0) fun r2 =>
    some ((llen r2), true)
theorem F_impl_CountExchanges_w {fu : Nat} {H : AH} {v0 : Value} {x0 : List Int} {r : (Int × Bool)} (hx0 : Sl H v0 (ints x0)) (hF : F_impl_CountExchanges fu x0 = some r) :
    ACallT Try.prog 31 [v0] H (fun u G => AgB (Fr H) H G ∧ u = (Value.tuple #[(Value.int .i64 r.1), (Value.bool r.2)]) ∧ Sep G (Fr H) []) := by
  refine ACallT.of_body (nt := 10) (rs := [.tmp 2, .tmp 3]) Try.func31 rfl rfl rfl rfl ?_
  have A0 : AgB (Fr H) H H := .refl _ _
  have S0 : Sep H (Fr H) [] := .nil
  have hB := Fr.up H
  unfold F_impl_CountExchanges at hF
  refine DWp.seq ?_
  refine DWp.region fun K hK => ?_
  simp [-aBin', -aBin, -aBinI, -aUn, -aNil, -flatV, n_fn, b_add, b_sub, b_mul, b_lt, b_le, b_gt, b_ge, b_eq, b_ne, u_not]
  apply hK
  clear hK K
  simp only [andThen, leaves]
  refine DWp.seq ?_
  refine DWp.seq ?_
  obtain ⟨r1, hc1, hF⟩ := bd_some hF
  refine DWp.region fun K hK => ?_
  simp [-aBin', -aBin, -aBinI, -aUn, -aNil, -flatV, n_fn, b_add, b_sub, b_mul, b_lt, b_le, b_gt, b_ge, b_eq, b_ne, u_not, ((hx0.agree A0.agree).tup)]
  refine CallD.t (F_impl_IsSystem_w (fu := fu) (hx0.agree A0.agree) hc1) ?_
  rintro _ G3 ⟨a6, rfl, S7⟩
  have A5 := A0.ext (hB.le A0.1) a6.agree
  have S4 : Sep G3 (Fr H) [] := S0.app a6.agree S7 (fun _ h => h) (hB.le A0.1)
  simp [-aBin', -aBin, -aBinI, -aUn, -aNil, -flatV, n_fn, b_add, b_sub, b_mul, b_lt, b_le, b_gt, b_ge, b_eq, b_ne, u_not, a6.pre]
  apply hK
  clear hK K
  simp only [andThen, leaves]
  refine DWp.cond' (t := (bnot r1)) (by simp []) (fun hb8 => ?_) (fun hb8 => ?_)
  · replace hF := cd_t hb8 hF
    refine DWp.seq ?_
    refine DWp.region fun K hK => ?_
    simp [-aBin', -aBin, -aBinI, -aUn, -aNil, -flatV, n_fn, b_add, b_sub, b_mul, b_lt, b_le, b_gt, b_ge, b_eq, b_ne, u_not]
    apply hK
    clear hK K
    simp only [andThen, leaves]
    refine DWp.ret ?_
    simp only [andThen, leaves]
    obtain rfl := Option.some.inj hF
    exact ⟨by simp, [(Value.int .i64 0), (Value.bool false)], by simp [], A5, rfl, S4.pick [] (by decide) rfl⟩
  · replace hF := cd_f hb8 hF
    refine DWp.skip ?_
    simp only [andThen, leaves]
    refine DWp.seq ?_
    obtain ⟨r2, hc9, hF⟩ := bd_some hF
    refine DWp.region fun K hK => ?_
    simp [-aBin', -aBin, -aBinI, -aUn, -aNil, -flatV, n_fn, b_add, b_sub, b_mul, b_lt, b_le, b_gt, b_ge, b_eq, b_ne, u_not, ((hx0.agree A5.agree).tup)]
    refine CallD.t (F_impl_couples_w (fu := fu) (hx0.agree A5.agree) hc9) ?_
    rintro c10_u0 G11 ⟨a14, _, rfl, S15⟩
    have A13 := A5.ext (hB.le A5.1) a14.agree
    have S12 : Sep G11 (Fr H) [flatI c10_u0 62 r2] := S4.app a14.agree S15 (fun _ h => h) (hB.le A5.1)
    have q16 := (S12.slI (k := 0) rfl).lenG (P := Try.prog) el_58
    simp [-aBin', -aBin, -aBinI, -aUn, -aNil, -flatV, n_fn, b_add, b_sub, b_mul, b_lt, b_le, b_gt, b_ge, b_eq, b_ne, u_not, a14.pre, q16]
    apply hK
    clear hK K
    simp only [andThen, leaves]
    refine DWp.ret ?_
    obtain rfl := Option.some.inj hF
    exact ⟨by simp, [(Value.int .i64 (llen r2)), (Value.bool true)], by simp [], A13, rfl, S12.pick [] (by decide) rfl⟩
def F_laws_eqIntS_L1 (fu : Nat) (k1_0 : List Int) (k1_1 : List Int) : Nat → Int → Option (LR (Bool) (Int))
  | 0, _ => none
  | n + 1, y1_5 =>
    bif (ilt y1_5 (llen k1_0)) then
      gd (inL k1_0 y1_5) (
      gd (inL k1_1 y1_5) (
      bif (ine (gat 0 k1_0 y1_5) (gat 0 k1_1 y1_5)) then
        some (.ret false)
      else
        F_laws_eqIntS_L1 fu k1_0 k1_1 n (iadd .i64 y1_5 1)))
    else
      some (.brk y1_5)
def F_laws_eqIntS (fu : Nat) (x0 : List Int) (x1 : List Int) : Option (Bool) :=
  bif (ine (llen x0) (llen x1)) then
    some false
  else
    bd (F_laws_eqIntS_L1 fu x0 x1 fu 0) fun s1 =>
    lr s1 fun s1 =>
    some true
theorem F_laws_eqIntS_w {fu : Nat} {H : AH} {v0 : Value} {v1 : Value} {x0 : List Int} {x1 : List Int} {r : (Bool)} (hx0 : Sl H v0 (ints x0)) (hx1 : Sl H v1 (ints x1)) (hF : F_laws_eqIntS fu x0 x1 = some r) :
    ACallT Try.prog 19 [v0, v1] H (fun u G => AgB (Fr H) H G ∧ u = (Value.bool r) ∧ Sep G (Fr H) []) := by
  refine ACallT.of_body (nt := 26) (rs := [.tmp 4]) Try.func19 rfl rfl rfl rfl ?_
  have A0 : AgB (Fr H) H H := .refl _ _
  have S0 : Sep H (Fr H) [] := .nil
  have hB := Fr.up H
  unfold F_laws_eqIntS at hF
  refine DWp.seq ?_
  refine DWp.region fun K hK => ?_
  simp [-aBin', -aBin, -aBinI, -aUn, -aNil, -flatV, n_fn, b_add, b_sub, b_mul, b_lt, b_le, b_gt, b_ge, b_eq, b_ne, u_not]
  apply hK
  clear hK K
  simp only [andThen, leaves]
  refine DWp.seq ?_
  refine DWp.seq ?_
  have q1 := lenG (P := Try.prog) (hx0.agree A0.agree) el_22
  have q2 := lenG (P := Try.prog) (hx1.agree A0.agree) el_22
  refine DWp.region fun K hK => ?_
  simp [-aBin', -aBin, -aBinI, -aUn, -aNil, -flatV, n_fn, b_add, b_sub, b_mul, b_lt, b_le, b_gt, b_ge, b_eq, b_ne, u_not, q1, q2]
  apply hK
  clear hK K
  simp only [andThen, leaves]
  refine DWp.cond' (t := (ine (llen x0) (llen x1))) (by simp []) (fun hb3 => ?_) (fun hb3 => ?_)
  · replace hF := cd_t hb3 hF
    refine DWp.seq ?_
    refine DWp.region fun K hK => ?_
    simp [-aBin', -aBin, -aBinI, -aUn, -aNil, -flatV, n_fn, b_add, b_sub, b_mul, b_lt, b_le, b_gt, b_ge, b_eq, b_ne, u_not]
    apply hK
    clear hK K
    simp only [andThen, leaves]
    refine DWp.ret ?_
    simp only [andThen, leaves]
    obtain rfl := Option.some.inj hF
    exact ⟨by simp, [(Value.bool false)], by simp [], A0, rfl, S0.pick [] (by decide) rfl⟩
  · replace hF := cd_f hb3 hF
    refine DWp.skip ?_
    simp only [andThen, leaves]
    refine DWp.seq ?_
    refine DWp.seq ?_
    refine DWp.region fun K hK => ?_
    simp [-aBin', -aBin, -aBinI, -aUn, -aNil, -flatV, n_fn, b_add, b_sub, b_mul, b_lt, b_le, b_gt, b_ge, b_eq, b_ne, u_not]
    apply hK
    clear hK K
    simp only [andThen, leaves]
    refine DWp.block ?_
    obtain ⟨s4, hL5, hF⟩ := bd_some hF
    have S6 := S0.pick [] (by decide) rfl
    refine DWp.loop (fun n env G => ∃ y1_5 : Int, F_laws_eqIntS_L1 fu x0 x1 n y1_5 = some s4 ∧ Sep G (Fr H) [] ∧ AgB (Fr H) H G ∧ env 0 = some v0 ∧ env 1 = some v1 ∧ env 5 = some (Value.int .i64 y1_5)) fu ⟨0, hL5, S6, A0, by simp [], by simp [], by simp []⟩ ?_
    rintro n1 env1 G1_ ⟨y1_5, hL5, S1_, A1_, e1_0, e1_1, e1_5⟩
    cases n1 with
    | zero => cases hL5
    | succ n1 =>
      simp only [F_laws_eqIntS_L1] at hL5
      refine DWp.seq ?_
      refine DWp.seq ?_
      have q7 := lenG (P := Try.prog) (hx0.agree A1_.agree) el_22
      refine DWp.region fun K hK => ?_
      simp [-aBin', -aBin, -aBinI, -aUn, -aNil, -flatV, n_fn, b_add, b_sub, b_mul, b_lt, b_le, b_gt, b_ge, b_eq, b_ne, u_not, e1_0, e1_1, e1_5, q7]
      apply hK
      clear hK K
      simp only [andThen, leaves]
      refine DWp.cond' (t := (ilt y1_5 (llen x0))) (by simp [e1_0, e1_1, e1_5]) (fun hb8 => ?_) (fun hb8 => ?_)
      · replace hL5 := cd_t hb8 hL5
        refine DWp.skip ?_
        simp only [andThen, leaves]
        refine DWp.seq ?_
        refine DWp.block ?_
        refine DWp.seq ?_
        obtain ⟨g9, hL5⟩ := gd_some hL5
        have q10 := idxG (P := Try.prog) (kk := .i64) (hx0.agree A1_.agree) el_22 sz_3 g9
        have q11 := loadG (P := Try.prog) (hx0.agree A1_.agree) sz_3 ag_3 g9 0
        obtain ⟨g12, hL5⟩ := gd_some hL5
        have q13 := idxG (P := Try.prog) (kk := .i64) (hx1.agree A1_.agree) el_22 sz_3 g12
        have q14 := loadG (P := Try.prog) (hx1.agree A1_.agree) sz_3 ag_3 g12 0
        refine DWp.drawn (B := [0, 0, 3, 7, 0, 0, 48, 112, 255]) 9 mixed (by kernel_rfl) (by decide) fun K hK => ?_
        simp [-aBin', -aBin, -aBinI, -aUn, -aNil, -flatV, n_fn, b_add, b_sub, b_mul, b_lt, b_le, b_gt, b_ge, b_eq, b_ne, u_not, e1_0, e1_1, e1_5, q10, q11, q13, q14]
        apply hK
        clear hK K
        simp only [andThen, leaves]
        refine DWp.cond' (t := (ine (gat 0 x0 y1_5) (gat 0 x1 y1_5))) (by simp [e1_0, e1_1, e1_5]) (fun hb15 => ?_) (fun hb15 => ?_)
        · replace hL5 := cd_t hb15 hL5
          refine DWp.seq ?_
          refine DWp.region fun K hK => ?_
          simp [-aBin', -aBin, -aBinI, -aUn, -aNil, -flatV, n_fn, b_add, b_sub, b_mul, b_lt, b_le, b_gt, b_ge, b_eq, b_ne, u_not, e1_0, e1_1, e1_5]
          apply hK
          clear hK K
          simp only [andThen, leaves]
          refine DWp.ret ?_
          simp only [andThen, leaves]
          obtain rfl := Option.some.inj hL5
          simp only [lr] at hF
          obtain rfl := Option.some.inj hF
          exact ⟨by simp, [(Value.bool false)], by simp [e1_0, e1_1, e1_5], A1_, rfl, S1_.pick [] (by decide) rfl⟩
        · replace hL5 := cd_f hb15 hL5
          refine DWp.skip ?_
          simp only [andThen, leaves]
          refine DWp.region fun K hK => ?_
          simp [-aBin', -aBin, -aBinI, -aUn, -aNil, -flatV, n_fn, b_add, b_sub, b_mul, b_lt, b_le, b_gt, b_ge, b_eq, b_ne, u_not, e1_0, e1_1, e1_5]
          apply hK
          clear hK K
          simp only [andThen, leaves]
          have S16 := S1_.pick [] (by decide) rfl
          exact ⟨n1, Nat.lt_succ_self _, (iadd .i64 y1_5 1), hL5, S16, A1_, by simp [e1_0, e1_1, e1_5], by simp [e1_0, e1_1, e1_5], by simp [e1_0, e1_1, e1_5]⟩
      · replace hL5 := cd_f hb8 hL5
        refine DWp.exit ?_
        simp only [andThen, leaves, if_true, if_false, reduceIte, Nat.reduceEqDiff]
        obtain rfl := Option.some.inj hL5
        simp only [lr] at hF
        refine DWp.seq ?_
        refine DWp.region fun K hK => ?_
        simp [-aBin', -aBin, -aBinI, -aUn, -aNil, -flatV, n_fn, b_add, b_sub, b_mul, b_lt, b_le, b_gt, b_ge, b_eq, b_ne, u_not, e1_0, e1_1, e1_5]
        apply hK
        clear hK K
        simp only [andThen, leaves]
        refine DWp.ret ?_
        obtain rfl := Option.some.inj hF
        exact ⟨by simp, [(Value.bool true)], by simp [e1_0, e1_1, e1_5], A1_, rfl, S1_.pick [] (by decide) rfl⟩
def F_laws_FnExactCountExchanges (fu : Nat) (x0 : List Int) : Option (Bool) :=
  bif (ilt 1048576 (llen x0)) then
    some true
  else
    bd (F_laws_toIntS fu x0) fun r1 =>
    bd (F_spec_CountExchanges fu r1) fun r2 =>
    bd (F_laws_toIntS fu x0) fun r3 =>
    bd (F_impl_CountExchanges fu r3) fun r4 =>
    bd (
      bif (ine r4.1 r2.1) then
        some true
      else
        some (bne' r4.2 r2.2)) fun s31 =>
    bif s31 then
      some false
    else
      bd (F_laws_toIntS fu x0) fun r5 =>
      bd (F_laws_eqIntS fu r3 r5) fun r6 =>
      bif (bnot r6) then
        some false
      else
        some true
theorem F_laws_FnExactCountExchanges_w {fu : Nat} {H : AH} {v0 : Value} {x0 : List Int} {r : (Bool)} (hx0 : Sl H v0 (ints x0)) (hF : F_laws_FnExactCountExchanges fu x0 = some r) :
    ACallT Try.prog 6 [v0] H (fun u G => AgB (Fr H) H G ∧ u = (Value.bool r) ∧ Sep G (Fr H) []) := by
  refine ACallT.of_body (nt := 37) (rs := [.tmp 2]) Try.func6 rfl rfl rfl rfl ?_
  have A0 : AgB (Fr H) H H := .refl _ _
  have S0 : Sep H (Fr H) [] := .nil
  have hB := Fr.up H
  unfold F_laws_FnExactCountExchanges at hF
  refine DWp.seq ?_
  refine DWp.region fun K hK => ?_
  simp [-aBin', -aBin, -aBinI, -aUn, -aNil, -flatV, n_fn, b_add, b_sub, b_mul, b_lt, b_le, b_gt, b_ge, b_eq, b_ne, u_not]
  apply hK
  clear hK K
  simp only [andThen, leaves]
  refine DWp.seq ?_
  refine DWp.seq ?_
  have q1 := lenG (P := Try.prog) (hx0.agree A0.agree) el_22
  refine DWp.region fun K hK => ?_
  simp [-aBin', -aBin, -aBinI, -aUn, -aNil, -flatV, n_fn, b_add, b_sub, b_mul, b_lt, b_le, b_gt, b_ge, b_eq, b_ne, u_not, q1]
  apply hK
  clear hK K
  simp only [andThen, leaves]
  refine DWp.cond' (t := (ilt 1048576 (llen x0))) (by simp []) (fun hb2 => ?_) (fun hb2 => ?_)
  · replace hF := cd_t hb2 hF
    refine DWp.seq ?_
    refine DWp.region fun K hK => ?_
    simp [-aBin', -aBin, -aBinI, -aUn, -aNil, -flatV, n_fn, b_add, b_sub, b_mul, b_lt, b_le, b_gt, b_ge, b_eq, b_ne, u_not]
    apply hK
    clear hK K
    simp only [andThen, leaves]
    refine DWp.ret ?_
    simp only [andThen, leaves]
    obtain rfl := Option.some.inj hF
    exact ⟨by simp, [(Value.bool true)], by simp [], A0, rfl, S0.pick [] (by decide) rfl⟩
  · replace hF := cd_f hb2 hF
    refine DWp.skip ?_
    simp only [andThen, leaves]
    refine DWp.seq ?_
    obtain ⟨r1, hc3, hF⟩ := bd_some hF
    refine DWp.region fun K hK => ?_
    simp [-aBin', -aBin, -aBinI, -aUn, -aNil, -flatV, n_fn, b_add, b_sub, b_mul, b_lt, b_le, b_gt, b_ge, b_eq, b_ne, u_not, ((hx0.agree A0.agree).tup)]
    refine CallD.t (F_laws_toIntS_w (fu := fu) (hx0.agree A0.agree) hc3) ?_
    rintro c4_u0 G5 ⟨a8, _, rfl, S9⟩
    have A7 := A0.ext (hB.le A0.1) a8.agree
    have S6 : Sep G5 (Fr H) [flat c4_u0 3 (ints r1)] := S0.app a8.agree S9 (fun _ h => h) (hB.le A0.1)
    obtain ⟨r2, hc10, hF⟩ := bd_some hF
    simp [-aBin', -aBin, -aBinI, -aUn, -aNil, -flatV, n_fn, b_add, b_sub, b_mul, b_lt, b_le, b_gt, b_ge, b_eq, b_ne, u_not, a8.pre, ((S6.sl (k := 0) rfl).tup)]
    refine CallD.t (F_spec_CountExchanges_w (fu := fu) (S6.sl (k := 0) rfl) hc10) ?_
    rintro _ G12 ⟨a15, rfl, S16⟩
    have A14 := A7.ext (hB.le A7.1) a15.agree
    have S13 : Sep G12 (Fr H) [flat c4_u0 3 (ints r1)] := S6.app a15.agree S16 (fun _ h => h) (hB.le A7.1)
    simp [-aBin', -aBin, -aBinI, -aUn, -aNil, -flatV, n_fn, b_add, b_sub, b_mul, b_lt, b_le, b_gt, b_ge, b_eq, b_ne, u_not, a8.pre, a15.pre]
    apply hK
    clear hK K
    simp only [andThen, leaves]
    refine DWp.seq ?_
    obtain ⟨r3, hc17, hF⟩ := bd_some hF
    refine DWp.region fun K hK => ?_
    simp [-aBin', -aBin, -aBinI, -aUn, -aNil, -flatV, n_fn, b_add, b_sub, b_mul, b_lt, b_le, b_gt, b_ge, b_eq, b_ne, u_not, ((hx0.agree A14.agree).tup)]
    refine CallD.t (F_laws_toIntS_w (fu := fu) (hx0.agree A14.agree) hc17) ?_
    rintro c18_u0 G19 ⟨a22, _, rfl, S23⟩
    have A21 := A14.ext (hB.le A14.1) a22.agree
    have S20 : Sep G19 (Fr H) [flat c4_u0 3 (ints r1), flat c18_u0 3 (ints r3)] := S13.app a22.agree S23 (fun _ h => h) (hB.le A14.1)
    simp [-aBin', -aBin, -aBinI, -aUn, -aNil, -flatV, n_fn, b_add, b_sub, b_mul, b_lt, b_le, b_gt, b_ge, b_eq, b_ne, u_not, a22.pre]
    apply hK
    clear hK K
    simp only [andThen, leaves]
    refine DWp.seq ?_
    obtain ⟨r4, hc24, hF⟩ := bd_some hF
    refine DWp.region fun K hK => ?_
    simp [-aBin', -aBin, -aBinI, -aUn, -aNil, -flatV, n_fn, b_add, b_sub, b_mul, b_lt, b_le, b_gt, b_ge, b_eq, b_ne, u_not, ((S20.sl (k := 1) rfl).tup)]
    refine CallD.t (F_impl_CountExchanges_w (fu := fu) (S20.sl (k := 1) rfl) hc24) ?_
    rintro _ G26 ⟨a29, rfl, S30⟩
    have A28 := A21.ext (hB.le A21.1) a29.agree
    have S27 : Sep G26 (Fr H) [flat c4_u0 3 (ints r1), flat c18_u0 3 (ints r3)] := S20.app a29.agree S30 (fun _ h => h) (hB.le A21.1)
    simp [-aBin', -aBin, -aBinI, -aUn, -aNil, -flatV, n_fn, b_add, b_sub, b_mul, b_lt, b_le, b_gt, b_ge, b_eq, b_ne, u_not, a29.pre]
    apply hK
    clear hK K
    simp only [andThen, leaves]
    refine DWp.seq ?_
    obtain ⟨s31, hL32, hF⟩ := bd_some hF
    refine DWp.seq (DWp.join (fun env G => Sep G (Fr H) [flat c18_u0 3 (ints r3)] ∧ AgB (Fr H) H G ∧ env 0 = some v0 ∧ env 5 = some c18_u0 ∧ env 31 = some (Value.bool s31)) ?_ ?_)
    ·
      rcases Bool.eq_false_or_eq_true (ine r4.1 r2.1) with hb34 | hb34
      · replace hL32 := cd_t hb34 hL32
        refine DWp.region fun K hK => ?_
        simp [-aBin', -aBin, -aBinI, -aUn, -aNil, -flatV, n_fn, b_add, b_sub, b_mul, b_lt, b_le, b_gt, b_ge, b_eq, b_ne, u_not, hb34]
        apply hK
        clear hK K
        simp only [andThen, leaves]
        have S35 := S27.pick [1] (by decide) rfl
        obtain rfl := Option.some.inj hL32
        exact ⟨S35, A28, by simp [], by simp [], by simp []⟩
      · replace hL32 := cd_f hb34 hL32
        refine DWp.region fun K hK => ?_
        simp [-aBin', -aBin, -aBinI, -aUn, -aNil, -flatV, n_fn, b_add, b_sub, b_mul, b_lt, b_le, b_gt, b_ge, b_eq, b_ne, u_not, hb34, b_bne un_4]
        apply hK
        clear hK K
        simp only [andThen, leaves]
        have S36 := S27.pick [1] (by decide) rfl
        obtain rfl := Option.some.inj hL32
        exact ⟨S36, A28, by simp [], by simp [], by simp []⟩
    · rintro env Gj37 ⟨Sj37, Aj37, ej37_0, ej37_5, ej37_31⟩
      refine DWp.cond' (t := s31) (by simp [ej37_0, ej37_5, ej37_31]) (fun hb38 => ?_) (fun hb38 => ?_)
      · replace hF := cd_t hb38 hF
        refine DWp.seq ?_
        refine DWp.region fun K hK => ?_
        simp [-aBin', -aBin, -aBinI, -aUn, -aNil, -flatV, n_fn, b_add, b_sub, b_mul, b_lt, b_le, b_gt, b_ge, b_eq, b_ne, u_not, ej37_0, ej37_5, ej37_31]
        apply hK
        clear hK K
        simp only [andThen, leaves]
        refine DWp.ret ?_
        simp only [andThen, leaves]
        obtain rfl := Option.some.inj hF
        exact ⟨by simp, [(Value.bool false)], by simp [ej37_0, ej37_5, ej37_31], Aj37, rfl, Sj37.pick [] (by decide) rfl⟩
      · replace hF := cd_f hb38 hF
        refine DWp.skip ?_
        simp only [andThen, leaves]
        refine DWp.seq ?_
        refine DWp.seq ?_
        obtain ⟨r5, hc39, hF⟩ := bd_some hF
        refine DWp.region fun K hK => ?_
        simp [-aBin', -aBin, -aBinI, -aUn, -aNil, -flatV, n_fn, b_add, b_sub, b_mul, b_lt, b_le, b_gt, b_ge, b_eq, b_ne, u_not, ej37_0, ej37_5, ej37_31, ((hx0.agree Aj37.agree).tup)]
        refine CallD.t (F_laws_toIntS_w (fu := fu) (hx0.agree Aj37.agree) hc39) ?_
        rintro c40_u0 G41 ⟨a44, _, rfl, S45⟩
        have A43 := Aj37.ext (hB.le Aj37.1) a44.agree
        have S42 : Sep G41 (Fr H) [flat c18_u0 3 (ints r3), flat c40_u0 3 (ints r5)] := Sj37.app a44.agree S45 (fun _ h => h) (hB.le Aj37.1)
        obtain ⟨r6, hc46, hF⟩ := bd_some hF
        simp [-aBin', -aBin, -aBinI, -aUn, -aNil, -flatV, n_fn, b_add, b_sub, b_mul, b_lt, b_le, b_gt, b_ge, b_eq, b_ne, u_not, ej37_0, ej37_5, ej37_31, a44.pre, ((S42.sl (k := 0) rfl).tup), ((S42.sl (k := 1) rfl).tup)]
        refine CallD.t (F_laws_eqIntS_w (fu := fu) (S42.sl (k := 0) rfl) (S42.sl (k := 1) rfl) hc46) ?_
        rintro _ G48 ⟨a51, rfl, S52⟩
        have A50 := A43.ext (hB.le A43.1) a51.agree
        have S49 : Sep G48 (Fr H) [flat c18_u0 3 (ints r3), flat c40_u0 3 (ints r5)] := S42.app a51.agree S52 (fun _ h => h) (hB.le A43.1)
        simp [-aBin', -aBin, -aBinI, -aUn, -aNil, -flatV, n_fn, b_add, b_sub, b_mul, b_lt, b_le, b_gt, b_ge, b_eq, b_ne, u_not, ej37_0, ej37_5, ej37_31, a44.pre, a51.pre]
        apply hK
        clear hK K
        simp only [andThen, leaves]
        refine DWp.cond' (t := (bnot r6)) (by simp [ej37_0, ej37_5, ej37_31]) (fun hb53 => ?_) (fun hb53 => ?_)
        · replace hF := cd_t hb53 hF
          refine DWp.seq ?_
          refine DWp.region fun K hK => ?_
          simp [-aBin', -aBin, -aBinI, -aUn, -aNil, -flatV, n_fn, b_add, b_sub, b_mul, b_lt, b_le, b_gt, b_ge, b_eq, b_ne, u_not, ej37_0, ej37_5, ej37_31]
          apply hK
          clear hK K
          simp only [andThen, leaves]
          refine DWp.ret ?_
          simp only [andThen, leaves]
          obtain rfl := Option.some.inj hF
          exact ⟨by simp, [(Value.bool false)], by simp [ej37_0, ej37_5, ej37_31], A50, rfl, S49.pick [] (by decide) rfl⟩
        · replace hF := cd_f hb53 hF
          refine DWp.skip ?_
          simp only [andThen, leaves]
          refine DWp.seq ?_
          refine DWp.region fun K hK => ?_
          simp [-aBin', -aBin, -aBinI, -aUn, -aNil, -flatV, n_fn, b_add, b_sub, b_mul, b_lt, b_le, b_gt, b_ge, b_eq, b_ne, u_not, ej37_0, ej37_5, ej37_31]
          apply hK
          clear hK K
          simp only [andThen, leaves]
          refine DWp.ret ?_
          obtain rfl := Option.some.inj hF
          exact ⟨by simp, [(Value.bool true)], by simp [ej37_0, ej37_5, ej37_31], A50, rfl, S49.pick [] (by decide) rfl⟩
def F_spec_l1Own (fu : Nat) (x0 : List Int) : Option (List Int) :=
  gd ((@List.nil Int).length + x0.length ≤ 4294967296) (
  some (lapp (@List.nil Int) x0))
def F_spec_exAt (fu : Nat) (x0 : List Int) (x1 : Int) (x2 : Int) : Option (List Int) :=
  bd (F_spec_l1Own fu x0) fun r1 =>
  gd (inL x0 x1) (
  gd (inL x0 x2) (
  bif (ilt (gat 0 x0 x1) x2) then
    gd (inL r1 x1) (
    gd (inL (lset r1 x1 (gat 0 x0 x2)) (gat 0 x0 x2)) (
    gd (inL (lset (lset r1 x1 (gat 0 x0 x2)) (gat 0 x0 x2) x1) (gat 0 x0 x1)) (
    gd (inL (lset (lset (lset r1 x1 (gat 0 x0 x2)) (gat 0 x0 x2) x1) (gat 0 x0 x1) x2) x2) (
    some (lset (lset (lset (lset r1 x1 (gat 0 x0 x2)) (gat 0 x0 x2) x1) (gat 0 x0 x1) x2) x2 (gat 0 x0 x1))))))
  else
    gd (inL r1 x1) (
    gd (inL (lset r1 x1 x2) x2) (
    gd (inL (lset (lset r1 x1 x2) x2 x1) (gat 0 x0 x2)) (
    gd (inL (lset (lset (lset r1 x1 x2) x2 x1) (gat 0 x0 x2) (gat 0 x0 x1)) (gat 0 x0 x1)) (
    some (lset (lset (lset (lset r1 x1 x2) x2 x1) (gat 0 x0 x2) (gat 0 x0 x1)) (gat 0 x0 x1) (gat 0 x0 x2))))))))
def F_slices_Clone_Sint (fu : Nat) (x0 : List Int) : Option (List Int) :=
  gd ((@List.nil Int).length + x0.length ≤ 4294967296) (
  some (lapp (@List.nil Int) x0))
def F_impl_exchanged_1 (fu : Nat) (x0 : Int) (x1 : Int) (x2 : List Int) : Option (List Int) :=
  gd (inL x2 x0) (
  gd (inL (lset x2 x0 x1) x1) (
  some (lset (lset x2 x0 x1) x1 x0)))
end Go.Proofs.Ytdghlhdpcmemjaa.AL

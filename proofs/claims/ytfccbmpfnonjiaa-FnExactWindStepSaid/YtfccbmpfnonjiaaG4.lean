/- The walks of functions, each with its Lean function: laws.heldIntS, laws.FnExactCountByIndex, laws.szIntS, laws.szSeaweed, laws.toIntS, laws.toSeaweed, spec.swGood, spec.CountBoth, impl.IsSeaweed, impl.CountBoth. No condition. -/
import Derived.Test.YtfccbmpfnonjiaaG1
import Derived.Test.YtfccbmpfnonjiaaG2
import Derived.Test.YtfccbmpfnonjiaaG3
import Derived.Test.YtfccbmpfnonjiaaGSort
import Derived.Test.YtfccbmpfnonjiaaAL31
import Derived.Test.YtfccbmpfnonjiaaProg
import Derived.KernelRfl
namespace Go.Proofs.Ytfccbmpfnonjiaa.AL
open Go Go.RowKit
set_option linter.unusedVariables false
set_option linter.unusedSimpArgs false
set_option maxRecDepth 4096
theorem fa_24_0 : fldT Try.prog 24 0 = some 0 := by kernel_rfl
theorem fa_24_1 : fldT Try.prog 24 1 = some 1 := by kernel_rfl
theorem ze_26 : zeroT Try.prog 26 = some (.agg #[.slice none 0 0, .slice none 0 0]) := by kernel_rfl
/-! loop.example/g01126/laws.heldIntS -/
def F_laws_heldIntS_L1 (fu : Nat) (k1_0 : List Int) : Nat → Int → Int → Option (LR (Int) (Int × Int))
  | 0, _, _ => none
  | n + 1, y1_1, y1_5 =>
    bif (ilt y1_5 (llen k1_0)) then
      gd (inL k1_0 y1_5) (
      bif (ine (gat 0 k1_0 y1_5) y1_1) then
        some (.ret (-1))
      else
        F_laws_heldIntS_L1 fu k1_0 n (iadd .i64 y1_1 1) (iadd .i64 y1_5 1))
    else
      some (.brk (y1_1, y1_5))
def F_laws_heldIntS (fu : Nat) (x0 : List Int) (x1 : Int) : Option (Int) :=
  bd (F_laws_heldIntS_L1 fu x0 fu x1 0) fun s1 =>
  lr s1 fun s1 =>
  some s1.1
theorem F_laws_heldIntS_w {fu : Nat} {H : AH} {v0 : Value} {x0 : List Int} {x1 : Int} {r : (Int)} (hx0 : Sl H v0 (ints x0)) (hF : F_laws_heldIntS fu x0 x1 = some r) :
    ACallT Try.prog 27 [v0, (Value.int .i64 x1)] H (fun u G => AgB (Fr H) H G ∧ u = (Value.int .i64 r) ∧ Sep G (Fr H) []) := by
  refine ACallT.of_body (nt := 21) (rs := [.tmp 4]) Try.func27 rfl rfl rfl rfl ?_
  have A0 : AgB (Fr H) H H := .refl _ _
  have S0 : Sep H (Fr H) [] := .nil
  have hB := Fr.up H
  unfold F_laws_heldIntS at hF
  refine DWp.seq ?_
  refine DWp.region fun K hK => ?_
  simp [-aBin', -aBin, -aBinI, -aUn, -aNil, -flatV, n_fn, b_add, b_sub, b_mul, b_lt, b_le, b_gt, b_ge, b_eq, b_ne, u_not]
  apply hK
  clear hK K
  simp only [andThen, leaves]
  refine DWp.seq ?_
  refine DWp.seq ?_
  refine DWp.region fun K hK => ?_
  simp [-aBin', -aBin, -aBinI, -aUn, -aNil, -flatV, n_fn, b_add, b_sub, b_mul, b_lt, b_le, b_gt, b_ge, b_eq, b_ne, u_not]
  apply hK
  clear hK K
  simp only [andThen, leaves]
  refine DWp.block ?_
  obtain ⟨s1, hL2, hF⟩ := bd_some hF
  have S3 := S0.pick [] (by decide) rfl
  refine DWp.loop (fun n env G => ∃ y1_1 : Int, ∃ y1_5 : Int, F_laws_heldIntS_L1 fu x0 n y1_1 y1_5 = some s1 ∧ Sep G (Fr H) [] ∧ AgB (Fr H) H G ∧ env 0 = some v0 ∧ env 1 = some (Value.int .i64 y1_1) ∧ env 5 = some (Value.int .i64 y1_5)) fu ⟨x1, 0, hL2, S3, A0, by simp [], by simp [], by simp []⟩ ?_
  rintro n1 env1 G1_ ⟨y1_1, y1_5, hL2, S1_, A1_, e1_0, e1_1, e1_5⟩
  cases n1 with
  | zero => cases hL2
  | succ n1 =>
    simp only [F_laws_heldIntS_L1] at hL2
    refine DWp.seq ?_
    refine DWp.seq ?_
    have q4 := lenG (P := Try.prog) (hx0.agree A1_.agree) el_22
    refine DWp.region fun K hK => ?_
    simp [-aBin', -aBin, -aBinI, -aUn, -aNil, -flatV, n_fn, b_add, b_sub, b_mul, b_lt, b_le, b_gt, b_ge, b_eq, b_ne, u_not, e1_0, e1_1, e1_5, q4]
    apply hK
    clear hK K
    simp only [andThen, leaves]
    refine DWp.cond' (t := (ilt y1_5 (llen x0))) (by simp [e1_0, e1_1, e1_5]) (fun hb5 => ?_) (fun hb5 => ?_)
    · replace hL2 := cd_t hb5 hL2
      refine DWp.skip ?_
      simp only [andThen, leaves]
      refine DWp.seq ?_
      refine DWp.block ?_
      refine DWp.seq ?_
      refine DWp.seq ?_
      obtain ⟨g6, hL2⟩ := gd_some hL2
      have q7 := idxG (P := Try.prog) (kk := .i64) (hx0.agree A1_.agree) el_22 sz_3 g6
      have q8 := loadG (P := Try.prog) (hx0.agree A1_.agree) sz_3 ag_3 g6 0
      refine DWp.region fun K hK => ?_
      simp [-aBin', -aBin, -aBinI, -aUn, -aNil, -flatV, n_fn, b_add, b_sub, b_mul, b_lt, b_le, b_gt, b_ge, b_eq, b_ne, u_not, e1_0, e1_1, e1_5, q7, q8]
      apply hK
      clear hK K
      simp only [andThen, leaves]
      refine DWp.cond' (t := (ine (gat 0 x0 y1_5) y1_1)) (by simp [e1_0, e1_1, e1_5]) (fun hb9 => ?_) (fun hb9 => ?_)
      · replace hL2 := cd_t hb9 hL2
        refine DWp.seq ?_
        refine DWp.region fun K hK => ?_
        simp [-aBin', -aBin, -aBinI, -aUn, -aNil, -flatV, n_fn, b_add, b_sub, b_mul, b_lt, b_le, b_gt, b_ge, b_eq, b_ne, u_not, e1_0, e1_1, e1_5]
        apply hK
        clear hK K
        simp only [andThen, leaves]
        refine DWp.ret ?_
        simp only [andThen, leaves]
        obtain rfl := Option.some.inj hL2
        simp only [lr] at hF
        obtain rfl := Option.some.inj hF
        exact ⟨by simp, [(Value.int .i64 (-1))], by simp [e1_0, e1_1, e1_5], A1_, rfl, S1_.pick [] (by decide) rfl⟩
      · replace hL2 := cd_f hb9 hL2
        refine DWp.skip ?_
        simp only [andThen, leaves]
        refine DWp.region fun K hK => ?_
        simp [-aBin', -aBin, -aBinI, -aUn, -aNil, -flatV, n_fn, b_add, b_sub, b_mul, b_lt, b_le, b_gt, b_ge, b_eq, b_ne, u_not, e1_0, e1_1, e1_5]
        apply hK
        clear hK K
        simp only [andThen, leaves]
        refine DWp.region fun K hK => ?_
        simp [-aBin', -aBin, -aBinI, -aUn, -aNil, -flatV, n_fn, b_add, b_sub, b_mul, b_lt, b_le, b_gt, b_ge, b_eq, b_ne, u_not, e1_0, e1_1, e1_5]
        apply hK
        clear hK K
        simp only [andThen, leaves]
        have S10 := S1_.pick [] (by decide) rfl
        exact ⟨n1, Nat.lt_succ_self _, (iadd .i64 y1_1 1), (iadd .i64 y1_5 1), hL2, S10, A1_, by simp [e1_0, e1_1, e1_5], by simp [e1_0, e1_1, e1_5], by simp [e1_0, e1_1, e1_5]⟩
    · replace hL2 := cd_f hb5 hL2
      refine DWp.exit ?_
      simp only [andThen, leaves, if_true, if_false, reduceIte, Nat.reduceEqDiff]
      obtain rfl := Option.some.inj hL2
      simp only [lr] at hF
      refine DWp.seq ?_
      refine DWp.region fun K hK => ?_
      simp [-aBin', -aBin, -aBinI, -aUn, -aNil, -flatV, n_fn, b_add, b_sub, b_mul, b_lt, b_le, b_gt, b_ge, b_eq, b_ne, u_not, e1_0, e1_1, e1_5]
      apply hK
      clear hK K
      simp only [andThen, leaves]
      refine DWp.ret ?_
      obtain rfl := Option.some.inj hF
      exact ⟨by simp, [(Value.int .i64 y1_1)], by simp [e1_0, e1_1, e1_5], A1_, rfl, S1_.pick [] (by decide) rfl⟩
/-! loop.example/g01126/laws.FnExactCountByIndex -/
def F_laws_FnExactCountByIndex (fu : Nat) (x0 : Int) : Option (Bool) :=
  bd (F_spec_CountByIndex fu x0) fun r1 =>
  bd (F_impl_CountByIndex fu x0) fun r2 =>
  bd (
    bd (F_laws_eqIntS fu r2.1 r1.1) fun r3 =>
    bif (bnot r3) then
      some true
    else
      some (bne' r2.2 r1.2)) fun s15 =>
  bif s15 then
    some false
  else
    bd (F_laws_markIntS fu r2.1 1) fun r4 =>
    bd (F_laws_heldIntS fu r4.2 1) fun r5 =>
    bif (ilt r5 0) then
      some false
    else
      bif (ine r5 r4.1) then
        some false
      else
        bd (F_impl_CountByIndex fu x0) fun r6 =>
        bd (
          bd (F_laws_eqIntS fu r6.1 r1.1) fun r7 =>
          bif (bnot r7) then
            some true
          else
            some (bne' r6.2 r1.2)) fun s60 =>
        bif s60 then
          some false
        else
          bd (F_laws_heldIntS fu r4.2 1) fun r8 =>
          bif (ilt r8 0) then
            some false
          else
            bif (ine r8 r4.1) then
              some false
            else
              some true
theorem F_laws_FnExactCountByIndex_w {fu : Nat} {H : AH}  {x0 : Int} {r : (Bool)}  (hF : F_laws_FnExactCountByIndex fu x0 = some r) :
    ACallT Try.prog 6 [(Value.int .i64 x0)] H (fun u G => AgB (Fr H) H G ∧ u = (Value.bool r) ∧ Sep G (Fr H) []) := by
  refine ACallT.of_body (nt := 63) (rs := [.tmp 2]) Try.func6 rfl rfl rfl rfl ?_
  have A0 : AgB (Fr H) H H := .refl _ _
  have S0 : Sep H (Fr H) [] := .nil
  have hB := Fr.up H
  unfold F_laws_FnExactCountByIndex at hF
  refine DWp.seq ?_
  refine DWp.region fun K hK => ?_
  simp [-aBin', -aBin, -aBinI, -aUn, -aNil, -flatV, n_fn, b_add, b_sub, b_mul, b_lt, b_le, b_gt, b_ge, b_eq, b_ne, u_not]
  apply hK
  clear hK K
  simp only [andThen, leaves]
  refine DWp.seq ?_
  obtain ⟨r1, hc1, hF⟩ := bd_some hF
  refine DWp.region fun K hK => ?_
  simp [-aBin', -aBin, -aBinI, -aUn, -aNil, -flatV, n_fn, b_add, b_sub, b_mul, b_lt, b_le, b_gt, b_ge, b_eq, b_ne, u_not]
  refine CallD.t (F_spec_CountByIndex_w (fu := fu)  hc1) ?_
  rintro _ G3 ⟨a6, c2_u0, rfl, S7⟩
  have A5 := A0.ext (hB.le A0.1) a6.agree
  have S4 : Sep G3 (Fr H) [flat c2_u0 3 (ints r1.1)] := S0.app a6.agree S7 (fun _ h => h) (hB.le A0.1)
  simp [-aBin', -aBin, -aBinI, -aUn, -aNil, -flatV, n_fn, b_add, b_sub, b_mul, b_lt, b_le, b_gt, b_ge, b_eq, b_ne, u_not, a6.pre]
  apply hK
  clear hK K
  simp only [andThen, leaves]
  refine DWp.seq ?_
  obtain ⟨r2, hc8, hF⟩ := bd_some hF
  refine DWp.region fun K hK => ?_
  simp [-aBin', -aBin, -aBinI, -aUn, -aNil, -flatV, n_fn, b_add, b_sub, b_mul, b_lt, b_le, b_gt, b_ge, b_eq, b_ne, u_not]
  refine CallD.t (F_impl_CountByIndex_w (fu := fu)  hc8) ?_
  rintro _ G10 ⟨a13, c9_u0, rfl, S14⟩
  have A12 := A5.ext (hB.le A5.1) a13.agree
  have S11 : Sep G10 (Fr H) [flat c2_u0 3 (ints r1.1), flat c9_u0 3 (ints r2.1)] := S4.app a13.agree S14 (fun _ h => h) (hB.le A5.1)
  simp [-aBin', -aBin, -aBinI, -aUn, -aNil, -flatV, n_fn, b_add, b_sub, b_mul, b_lt, b_le, b_gt, b_ge, b_eq, b_ne, u_not, a13.pre]
  apply hK
  clear hK K
  simp only [andThen, leaves]
  refine DWp.seq ?_
  obtain ⟨s15, hL16, hF⟩ := bd_some hF
  refine DWp.seq (DWp.join (fun env G => Sep G (Fr H) [flat c2_u0 3 (ints r1.1), flat c9_u0 3 (ints r2.1)] ∧ AgB (Fr H) H G ∧ env 0 = some (Value.int .i64 x0) ∧ env 3 = some c2_u0 ∧ env 4 = some (Value.bool r1.2) ∧ env 5 = some c9_u0 ∧ env 29 = some (Value.bool s15)) ?_ ?_)
  ·
    obtain ⟨r3, hc18, hL16⟩ := bd_some hL16
    refine DWp.region fun K hK => ?_
    simp [-aBin', -aBin, -aBinI, -aUn, -aNil, -flatV, n_fn, b_add, b_sub, b_mul, b_lt, b_le, b_gt, b_ge, b_eq, b_ne, u_not, ((S11.sl (k := 1) rfl).tup), ((S11.sl (k := 0) rfl).tup)]
    refine CallD.t (F_laws_eqIntS_w (fu := fu) (S11.sl (k := 1) rfl) (S11.sl (k := 0) rfl) hc18) ?_
    rintro _ G20 ⟨a23, rfl, S24⟩
    have A22 := A12.ext (hB.le A12.1) a23.agree
    have S21 : Sep G20 (Fr H) [flat c2_u0 3 (ints r1.1), flat c9_u0 3 (ints r2.1)] := S11.app a23.agree S24 (fun _ h => h) (hB.le A12.1)
    rcases Bool.eq_false_or_eq_true (bnot r3) with hb25 | hb25
    · replace hL16 := cd_t hb25 hL16
      simp [-aBin', -aBin, -aBinI, -aUn, -aNil, -flatV, n_fn, b_add, b_sub, b_mul, b_lt, b_le, b_gt, b_ge, b_eq, b_ne, u_not, hb25, a23.pre]
      apply hK
      clear hK K
      simp only [andThen, leaves]
      have S26 := S21.pick [0, 1] (by decide) rfl
      obtain rfl := Option.some.inj hL16
      exact ⟨S26, A22, by simp [], by simp [], by simp [], by simp [], by simp []⟩
    · replace hL16 := cd_f hb25 hL16
      simp [-aBin', -aBin, -aBinI, -aUn, -aNil, -flatV, n_fn, b_add, b_sub, b_mul, b_lt, b_le, b_gt, b_ge, b_eq, b_ne, u_not, hb25, a23.pre, b_bne un_4]
      apply hK
      clear hK K
      simp only [andThen, leaves]
      have S27 := S21.pick [0, 1] (by decide) rfl
      obtain rfl := Option.some.inj hL16
      exact ⟨S27, A22, by simp [], by simp [], by simp [], by simp [], by simp []⟩
  · rintro env Gj28 ⟨Sj28, Aj28, ej28_0, ej28_3, ej28_4, ej28_5, ej28_29⟩
    refine DWp.cond' (t := s15) (by simp [ej28_0, ej28_3, ej28_4, ej28_5, ej28_29]) (fun hb29 => ?_) (fun hb29 => ?_)
    · replace hF := cd_t hb29 hF
      refine DWp.seq ?_
      refine DWp.region fun K hK => ?_
      simp [-aBin', -aBin, -aBinI, -aUn, -aNil, -flatV, n_fn, b_add, b_sub, b_mul, b_lt, b_le, b_gt, b_ge, b_eq, b_ne, u_not, ej28_0, ej28_3, ej28_4, ej28_5, ej28_29]
      apply hK
      clear hK K
      simp only [andThen, leaves]
      refine DWp.ret ?_
      simp only [andThen, leaves]
      obtain rfl := Option.some.inj hF
      exact ⟨by simp, [(Value.bool false)], by simp [ej28_0, ej28_3, ej28_4, ej28_5, ej28_29], Aj28, rfl, Sj28.pick [] (by decide) rfl⟩
    · replace hF := cd_f hb29 hF
      refine DWp.skip ?_
      simp only [andThen, leaves]
      refine DWp.seq ?_
      refine DWp.region fun K hK => ?_
      simp [-aBin', -aBin, -aBinI, -aUn, -aNil, -flatV, n_fn, b_add, b_sub, b_mul, b_lt, b_le, b_gt, b_ge, b_eq, b_ne, u_not, ej28_0, ej28_3, ej28_4, ej28_5, ej28_29]
      apply hK
      clear hK K
      simp only [andThen, leaves]
      refine DWp.seq ?_
      obtain ⟨r4, hc30, hF⟩ := bd_some hF
      refine DWp.region fun K hK => ?_
      simp [-aBin', -aBin, -aBinI, -aUn, -aNil, -flatV, n_fn, b_add, b_sub, b_mul, b_lt, b_le, b_gt, b_ge, b_eq, b_ne, u_not, ej28_0, ej28_3, ej28_4, ej28_5, ej28_29, ((Sj28.sl (k := 1) rfl).tup)]
      have S31 : Sep Gj28 (Fr H) ([flat c9_u0 3 (ints r2.1)] ++ [flat c2_u0 3 (ints r1.1)]) := Sj28.pick [1, 0] (by decide) rfl
      obtain ⟨B37, S32, U33, M34, R35, C36⟩ := S31.frame (hB.le Aj28.1)
      refine CallD.t (F_laws_markIntS_w (fu := fu) U33 S32 hc30) ?_
      rintro _ G39 ⟨a42, rfl, S43⟩
      have A41 := Aj28.trans (a42.mono M34)
      have S40 : Sep G39 (Fr H) [flat c9_u0 3 (ints r4.2), flat c2_u0 3 (ints r1.1)] := C36 _ _ a42 S43
      simp [-aBin', -aBin, -aBinI, -aUn, -aNil, -flatV, n_fn, b_add, b_sub, b_mul, b_lt, b_le, b_gt, b_ge, b_eq, b_ne, u_not, ej28_0, ej28_3, ej28_4, ej28_5, ej28_29]
      apply hK
      clear hK K
      simp only [andThen, leaves]
      refine DWp.seq ?_
      refine DWp.region fun K hK => ?_
      simp [-aBin', -aBin, -aBinI, -aUn, -aNil, -flatV, n_fn, b_add, b_sub, b_mul, b_lt, b_le, b_gt, b_ge, b_eq, b_ne, u_not, ej28_0, ej28_3, ej28_4, ej28_5, ej28_29]
      apply hK
      clear hK K
      simp only [andThen, leaves]
      refine DWp.seq ?_
      obtain ⟨r5, hc44, hF⟩ := bd_some hF
      refine DWp.region fun K hK => ?_
      simp [-aBin', -aBin, -aBinI, -aUn, -aNil, -flatV, n_fn, b_add, b_sub, b_mul, b_lt, b_le, b_gt, b_ge, b_eq, b_ne, u_not, ej28_0, ej28_3, ej28_4, ej28_5, ej28_29, ((S40.sl (k := 0) rfl).tup)]
      refine CallD.t (F_laws_heldIntS_w (fu := fu) (S40.sl (k := 0) rfl) hc44) ?_
      rintro _ G46 ⟨a49, rfl, S50⟩
      have A48 := A41.ext (hB.le A41.1) a49.agree
      have S47 : Sep G46 (Fr H) [flat c9_u0 3 (ints r4.2), flat c2_u0 3 (ints r1.1)] := S40.app a49.agree S50 (fun _ h => h) (hB.le A41.1)
      simp [-aBin', -aBin, -aBinI, -aUn, -aNil, -flatV, n_fn, b_add, b_sub, b_mul, b_lt, b_le, b_gt, b_ge, b_eq, b_ne, u_not, ej28_0, ej28_3, ej28_4, ej28_5, ej28_29, a49.pre]
      apply hK
      clear hK K
      simp only [andThen, leaves]
      refine DWp.seq ?_
      refine DWp.seq ?_
      refine DWp.region fun K hK => ?_
      simp [-aBin', -aBin, -aBinI, -aUn, -aNil, -flatV, n_fn, b_add, b_sub, b_mul, b_lt, b_le, b_gt, b_ge, b_eq, b_ne, u_not, ej28_0, ej28_3, ej28_4, ej28_5, ej28_29]
      apply hK
      clear hK K
      simp only [andThen, leaves]
      refine DWp.cond' (t := (ilt r5 0)) (by simp [ej28_0, ej28_3, ej28_4, ej28_5, ej28_29]) (fun hb51 => ?_) (fun hb51 => ?_)
      · replace hF := cd_t hb51 hF
        refine DWp.seq ?_
        refine DWp.region fun K hK => ?_
        simp [-aBin', -aBin, -aBinI, -aUn, -aNil, -flatV, n_fn, b_add, b_sub, b_mul, b_lt, b_le, b_gt, b_ge, b_eq, b_ne, u_not, ej28_0, ej28_3, ej28_4, ej28_5, ej28_29]
        apply hK
        clear hK K
        simp only [andThen, leaves]
        refine DWp.ret ?_
        simp only [andThen, leaves]
        obtain rfl := Option.some.inj hF
        exact ⟨by simp, [(Value.bool false)], by simp [ej28_0, ej28_3, ej28_4, ej28_5, ej28_29], A48, rfl, S47.pick [] (by decide) rfl⟩
      · replace hF := cd_f hb51 hF
        refine DWp.skip ?_
        simp only [andThen, leaves]
        refine DWp.seq ?_
        refine DWp.seq ?_
        refine DWp.region fun K hK => ?_
        simp [-aBin', -aBin, -aBinI, -aUn, -aNil, -flatV, n_fn, b_add, b_sub, b_mul, b_lt, b_le, b_gt, b_ge, b_eq, b_ne, u_not, ej28_0, ej28_3, ej28_4, ej28_5, ej28_29]
        apply hK
        clear hK K
        simp only [andThen, leaves]
        refine DWp.cond' (t := (ine r5 r4.1)) (by simp [ej28_0, ej28_3, ej28_4, ej28_5, ej28_29]) (fun hb52 => ?_) (fun hb52 => ?_)
        · replace hF := cd_t hb52 hF
          refine DWp.seq ?_
          refine DWp.region fun K hK => ?_
          simp [-aBin', -aBin, -aBinI, -aUn, -aNil, -flatV, n_fn, b_add, b_sub, b_mul, b_lt, b_le, b_gt, b_ge, b_eq, b_ne, u_not, ej28_0, ej28_3, ej28_4, ej28_5, ej28_29]
          apply hK
          clear hK K
          simp only [andThen, leaves]
          refine DWp.ret ?_
          simp only [andThen, leaves]
          obtain rfl := Option.some.inj hF
          exact ⟨by simp, [(Value.bool false)], by simp [ej28_0, ej28_3, ej28_4, ej28_5, ej28_29], A48, rfl, S47.pick [] (by decide) rfl⟩
        · replace hF := cd_f hb52 hF
          refine DWp.skip ?_
          simp only [andThen, leaves]
          refine DWp.seq ?_
          obtain ⟨r6, hc53, hF⟩ := bd_some hF
          refine DWp.region fun K hK => ?_
          simp [-aBin', -aBin, -aBinI, -aUn, -aNil, -flatV, n_fn, b_add, b_sub, b_mul, b_lt, b_le, b_gt, b_ge, b_eq, b_ne, u_not, ej28_0, ej28_3, ej28_4, ej28_5, ej28_29]
          refine CallD.t (F_impl_CountByIndex_w (fu := fu)  hc53) ?_
          rintro _ G55 ⟨a58, c54_u0, rfl, S59⟩
          have A57 := A48.ext (hB.le A48.1) a58.agree
          have S56 : Sep G55 (Fr H) [flat c9_u0 3 (ints r4.2), flat c2_u0 3 (ints r1.1), flat c54_u0 3 (ints r6.1)] := S47.app a58.agree S59 (fun _ h => h) (hB.le A48.1)
          simp [-aBin', -aBin, -aBinI, -aUn, -aNil, -flatV, n_fn, b_add, b_sub, b_mul, b_lt, b_le, b_gt, b_ge, b_eq, b_ne, u_not, ej28_0, ej28_3, ej28_4, ej28_5, ej28_29, a58.pre]
          apply hK
          clear hK K
          simp only [andThen, leaves]
          refine DWp.seq ?_
          obtain ⟨s60, hL61, hF⟩ := bd_some hF
          refine DWp.seq (DWp.join (fun env G => Sep G (Fr H) [flat c9_u0 3 (ints r4.2)] ∧ AgB (Fr H) H G ∧ env 5 = some c9_u0 ∧ env 7 = some (Value.int .i64 r4.1) ∧ env 54 = some (Value.bool s60)) ?_ ?_)
          ·
            obtain ⟨r7, hc63, hL61⟩ := bd_some hL61
            refine DWp.region fun K hK => ?_
            simp [-aBin', -aBin, -aBinI, -aUn, -aNil, -flatV, n_fn, b_add, b_sub, b_mul, b_lt, b_le, b_gt, b_ge, b_eq, b_ne, u_not, ej28_0, ej28_3, ej28_4, ej28_5, ej28_29, ((S56.sl (k := 2) rfl).tup), ((S56.sl (k := 1) rfl).tup)]
            refine CallD.t (F_laws_eqIntS_w (fu := fu) (S56.sl (k := 2) rfl) (S56.sl (k := 1) rfl) hc63) ?_
            rintro _ G65 ⟨a68, rfl, S69⟩
            have A67 := A57.ext (hB.le A57.1) a68.agree
            have S66 : Sep G65 (Fr H) [flat c9_u0 3 (ints r4.2), flat c2_u0 3 (ints r1.1), flat c54_u0 3 (ints r6.1)] := S56.app a68.agree S69 (fun _ h => h) (hB.le A57.1)
            rcases Bool.eq_false_or_eq_true (bnot r7) with hb70 | hb70
            · replace hL61 := cd_t hb70 hL61
              simp [-aBin', -aBin, -aBinI, -aUn, -aNil, -flatV, n_fn, b_add, b_sub, b_mul, b_lt, b_le, b_gt, b_ge, b_eq, b_ne, u_not, ej28_0, ej28_3, ej28_4, ej28_5, ej28_29, hb70, a68.pre]
              apply hK
              clear hK K
              simp only [andThen, leaves]
              have S71 := S66.pick [0] (by decide) rfl
              obtain rfl := Option.some.inj hL61
              exact ⟨S71, A67, by simp [ej28_0, ej28_3, ej28_4, ej28_5, ej28_29], by simp [ej28_0, ej28_3, ej28_4, ej28_5, ej28_29], by simp [ej28_0, ej28_3, ej28_4, ej28_5, ej28_29]⟩
            · replace hL61 := cd_f hb70 hL61
              simp [-aBin', -aBin, -aBinI, -aUn, -aNil, -flatV, n_fn, b_add, b_sub, b_mul, b_lt, b_le, b_gt, b_ge, b_eq, b_ne, u_not, ej28_0, ej28_3, ej28_4, ej28_5, ej28_29, hb70, a68.pre, b_bne un_4]
              apply hK
              clear hK K
              simp only [andThen, leaves]
              have S72 := S66.pick [0] (by decide) rfl
              obtain rfl := Option.some.inj hL61
              exact ⟨S72, A67, by simp [ej28_0, ej28_3, ej28_4, ej28_5, ej28_29], by simp [ej28_0, ej28_3, ej28_4, ej28_5, ej28_29], by simp [ej28_0, ej28_3, ej28_4, ej28_5, ej28_29]⟩
          · rintro env Gj73 ⟨Sj73, Aj73, ej73_5, ej73_7, ej73_54⟩
            refine DWp.cond' (t := s60) (by simp [ej73_5, ej73_7, ej73_54]) (fun hb74 => ?_) (fun hb74 => ?_)
            · replace hF := cd_t hb74 hF
              refine DWp.seq ?_
              refine DWp.region fun K hK => ?_
              simp [-aBin', -aBin, -aBinI, -aUn, -aNil, -flatV, n_fn, b_add, b_sub, b_mul, b_lt, b_le, b_gt, b_ge, b_eq, b_ne, u_not, ej73_5, ej73_7, ej73_54]
              apply hK
              clear hK K
              simp only [andThen, leaves]
              refine DWp.ret ?_
              simp only [andThen, leaves]
              obtain rfl := Option.some.inj hF
              exact ⟨by simp, [(Value.bool false)], by simp [ej73_5, ej73_7, ej73_54], Aj73, rfl, Sj73.pick [] (by decide) rfl⟩
            · replace hF := cd_f hb74 hF
              refine DWp.skip ?_
              simp only [andThen, leaves]
              refine DWp.seq ?_
              refine DWp.region fun K hK => ?_
              simp [-aBin', -aBin, -aBinI, -aUn, -aNil, -flatV, n_fn, b_add, b_sub, b_mul, b_lt, b_le, b_gt, b_ge, b_eq, b_ne, u_not, ej73_5, ej73_7, ej73_54]
              apply hK
              clear hK K
              simp only [andThen, leaves]
              refine DWp.seq ?_
              obtain ⟨r8, hc75, hF⟩ := bd_some hF
              refine DWp.region fun K hK => ?_
              simp [-aBin', -aBin, -aBinI, -aUn, -aNil, -flatV, n_fn, b_add, b_sub, b_mul, b_lt, b_le, b_gt, b_ge, b_eq, b_ne, u_not, ej73_5, ej73_7, ej73_54, ((Sj73.sl (k := 0) rfl).tup)]
              refine CallD.t (F_laws_heldIntS_w (fu := fu) (Sj73.sl (k := 0) rfl) hc75) ?_
              rintro _ G77 ⟨a80, rfl, S81⟩
              have A79 := Aj73.ext (hB.le Aj73.1) a80.agree
              have S78 : Sep G77 (Fr H) [flat c9_u0 3 (ints r4.2)] := Sj73.app a80.agree S81 (fun _ h => h) (hB.le Aj73.1)
              simp [-aBin', -aBin, -aBinI, -aUn, -aNil, -flatV, n_fn, b_add, b_sub, b_mul, b_lt, b_le, b_gt, b_ge, b_eq, b_ne, u_not, ej73_5, ej73_7, ej73_54, a80.pre]
              apply hK
              clear hK K
              simp only [andThen, leaves]
              refine DWp.seq ?_
              refine DWp.seq ?_
              refine DWp.region fun K hK => ?_
              simp [-aBin', -aBin, -aBinI, -aUn, -aNil, -flatV, n_fn, b_add, b_sub, b_mul, b_lt, b_le, b_gt, b_ge, b_eq, b_ne, u_not, ej73_5, ej73_7, ej73_54]
              apply hK
              clear hK K
              simp only [andThen, leaves]
              refine DWp.cond' (t := (ilt r8 0)) (by simp [ej73_5, ej73_7, ej73_54]) (fun hb82 => ?_) (fun hb82 => ?_)
              · replace hF := cd_t hb82 hF
                refine DWp.seq ?_
                refine DWp.region fun K hK => ?_
                simp [-aBin', -aBin, -aBinI, -aUn, -aNil, -flatV, n_fn, b_add, b_sub, b_mul, b_lt, b_le, b_gt, b_ge, b_eq, b_ne, u_not, ej73_5, ej73_7, ej73_54]
                apply hK
                clear hK K
                simp only [andThen, leaves]
                refine DWp.ret ?_
                simp only [andThen, leaves]
                obtain rfl := Option.some.inj hF
                exact ⟨by simp, [(Value.bool false)], by simp [ej73_5, ej73_7, ej73_54], A79, rfl, S78.pick [] (by decide) rfl⟩
              · replace hF := cd_f hb82 hF
                refine DWp.skip ?_
                simp only [andThen, leaves]
                refine DWp.seq ?_
                refine DWp.seq ?_
                refine DWp.region fun K hK => ?_
                simp [-aBin', -aBin, -aBinI, -aUn, -aNil, -flatV, n_fn, b_add, b_sub, b_mul, b_lt, b_le, b_gt, b_ge, b_eq, b_ne, u_not, ej73_5, ej73_7, ej73_54]
                apply hK
                clear hK K
                simp only [andThen, leaves]
                refine DWp.cond' (t := (ine r8 r4.1)) (by simp [ej73_5, ej73_7, ej73_54]) (fun hb83 => ?_) (fun hb83 => ?_)
                · replace hF := cd_t hb83 hF
                  refine DWp.seq ?_
                  refine DWp.region fun K hK => ?_
                  simp [-aBin', -aBin, -aBinI, -aUn, -aNil, -flatV, n_fn, b_add, b_sub, b_mul, b_lt, b_le, b_gt, b_ge, b_eq, b_ne, u_not, ej73_5, ej73_7, ej73_54]
                  apply hK
                  clear hK K
                  simp only [andThen, leaves]
                  refine DWp.ret ?_
                  simp only [andThen, leaves]
                  obtain rfl := Option.some.inj hF
                  exact ⟨by simp, [(Value.bool false)], by simp [ej73_5, ej73_7, ej73_54], A79, rfl, S78.pick [] (by decide) rfl⟩
                · replace hF := cd_f hb83 hF
                  refine DWp.skip ?_
                  simp only [andThen, leaves]
                  refine DWp.seq ?_
                  refine DWp.region fun K hK => ?_
                  simp [-aBin', -aBin, -aBinI, -aUn, -aNil, -flatV, n_fn, b_add, b_sub, b_mul, b_lt, b_le, b_gt, b_ge, b_eq, b_ne, u_not, ej73_5, ej73_7, ej73_54]
                  apply hK
                  clear hK K
                  simp only [andThen, leaves]
                  refine DWp.ret ?_
                  obtain rfl := Option.some.inj hF
                  exact ⟨by simp, [(Value.bool true)], by simp [ej73_5, ej73_7, ej73_54], A79, rfl, S78.pick [] (by decide) rfl⟩
/-! loop.example/g01126/laws.szIntS -/
def F_laws_szIntS (fu : Nat) (x0 : List Int) (x1 : Int) : Option (Int) :=
  bif (ilt (isub .i64 x1 (llen x0)) 0) then
    some (-1)
  else
    some (isub .i64 x1 (llen x0))
theorem F_laws_szIntS_w {fu : Nat} {H : AH} {v0 : Value} {x0 : List Int} {x1 : Int} {r : (Int)} (hx0 : Sl H v0 (ints x0)) (hF : F_laws_szIntS fu x0 x1 = some r) :
    ACallT Try.prog 52 [v0, (Value.int .i64 x1)] H (fun u G => AgB (Fr H) H G ∧ u = (Value.int .i64 r) ∧ Sep G (Fr H) []) := by
  refine ACallT.of_body (nt := 12) (rs := [.tmp 4]) Try.func52 rfl rfl rfl rfl ?_
  have A0 : AgB (Fr H) H H := .refl _ _
  have S0 : Sep H (Fr H) [] := .nil
  have hB := Fr.up H
  unfold F_laws_szIntS at hF
  refine DWp.seq ?_
  refine DWp.region fun K hK => ?_
  simp [-aBin', -aBin, -aBinI, -aUn, -aNil, -flatV, n_fn, b_add, b_sub, b_mul, b_lt, b_le, b_gt, b_ge, b_eq, b_ne, u_not]
  apply hK
  clear hK K
  simp only [andThen, leaves]
  refine DWp.seq ?_
  have q1 := lenG (P := Try.prog) (hx0.agree A0.agree) el_22
  refine DWp.region fun K hK => ?_
  simp [-aBin', -aBin, -aBinI, -aUn, -aNil, -flatV, n_fn, b_add, b_sub, b_mul, b_lt, b_le, b_gt, b_ge, b_eq, b_ne, u_not, q1]
  apply hK
  clear hK K
  simp only [andThen, leaves]
  refine DWp.seq ?_
  refine DWp.seq ?_
  refine DWp.region fun K hK => ?_
  simp [-aBin', -aBin, -aBinI, -aUn, -aNil, -flatV, n_fn, b_add, b_sub, b_mul, b_lt, b_le, b_gt, b_ge, b_eq, b_ne, u_not]
  apply hK
  clear hK K
  simp only [andThen, leaves]
  refine DWp.cond' (t := (ilt (isub .i64 x1 (llen x0)) 0)) (by simp []) (fun hb2 => ?_) (fun hb2 => ?_)
  · replace hF := cd_t hb2 hF
    refine DWp.seq ?_
    refine DWp.region fun K hK => ?_
    simp [-aBin', -aBin, -aBinI, -aUn, -aNil, -flatV, n_fn, b_add, b_sub, b_mul, b_lt, b_le, b_gt, b_ge, b_eq, b_ne, u_not]
    apply hK
    clear hK K
    simp only [andThen, leaves]
    refine DWp.ret ?_
    simp only [andThen, leaves]
    obtain rfl := Option.some.inj hF
    exact ⟨by simp, [(Value.int .i64 (-1))], by simp [], A0, rfl, S0.pick [] (by decide) rfl⟩
  · replace hF := cd_f hb2 hF
    refine DWp.skip ?_
    simp only [andThen, leaves]
    refine DWp.seq ?_
    refine DWp.region fun K hK => ?_
    simp [-aBin', -aBin, -aBinI, -aUn, -aNil, -flatV, n_fn, b_add, b_sub, b_mul, b_lt, b_le, b_gt, b_ge, b_eq, b_ne, u_not]
    apply hK
    clear hK K
    simp only [andThen, leaves]
    refine DWp.ret ?_
    obtain rfl := Option.some.inj hF
    exact ⟨by simp, [(Value.int .i64 (isub .i64 x1 (llen x0)))], by simp [], A0, rfl, S0.pick [] (by decide) rfl⟩
/-! loop.example/g01126/laws.szSeaweed -/
def F_laws_szSeaweed (fu : Nat) (x0_0 : List Int) (x0_1 : List Int) (x1 : Int) : Option (Int) :=
  bd (F_laws_szIntS fu x0_0 x1) fun r1 =>
  bif (ilt r1 0) then
    some (-1)
  else
    bd (F_laws_szIntS fu x0_1 r1) fun r2 =>
    bif (ilt r2 0) then
      some (-1)
    else
      some r2
theorem F_laws_szSeaweed_w {fu : Nat} {H : AH} {v0_0 : Value} {v0_1 : Value} {x0_0 : List Int} {x0_1 : List Int} {x1 : Int} {r : (Int)} (hx0_0 : Sl H v0_0 (ints x0_0)) (hx0_1 : Sl H v0_1 (ints x0_1)) (hF : F_laws_szSeaweed fu x0_0 x0_1 x1 = some r) :
    ACallT Try.prog 12 [(Value.agg #[v0_0, v0_1]), (Value.int .i64 x1)] H (fun u G => AgB (Fr H) H G ∧ u = (Value.int .i64 r) ∧ Sep G (Fr H) []) := by
  refine ACallT.of_body (nt := 18) (rs := [.tmp 4]) Try.func12 rfl rfl rfl rfl ?_
  have A0 : AgB (Fr H) H H := .refl _ _
  have S0 : Sep H (Fr H) [] := .nil
  have hB := Fr.up H
  unfold F_laws_szSeaweed at hF
  refine DWp.seq ?_
  obtain ⟨G2, p4, q5, q6, a7, S1⟩ := S0.boxT (hB.le A0.1) 24 [v0_0, v0_1]
  have A3 := A0.ext (hB.le A0.1) a7
  replace S1 : Sep G2 (Fr H) [AL.box p4 [v0_0, v0_1]] := S1
  refine DWp.region fun K hK => ?_
  simp [-aBin', -aBin, -aBinI, -aUn, -aNil, -flatV, n_fn, b_add, b_sub, b_mul, b_lt, b_le, b_gt, b_ge, b_eq, b_ne, u_not, q5, q6, a7.to_pre, cells_agg]
  apply hK
  clear hK K
  simp only [andThen, leaves]
  refine DWp.seq ?_
  have q8 := S1.fieldT (P := Try.prog) (k := 0) rfl fa_24_0
  have q9 := S1.loadF (P := Try.prog) (k := 0) rfl sz_22 ag_22 (off := 0) rfl
  obtain ⟨r1, hc10, hF⟩ := bd_some hF
  refine DWp.region fun K hK => ?_
  simp [-aBin', -aBin, -aBinI, -aUn, -aNil, -flatV, n_fn, b_add, b_sub, b_mul, b_lt, b_le, b_gt, b_ge, b_eq, b_ne, u_not, q8, q9, ((hx0_0.agree A3.agree).tup)]
  refine CallD.t (F_laws_szIntS_w (fu := fu) (hx0_0.agree A3.agree) hc10) ?_
  rintro _ G12 ⟨a15, rfl, S16⟩
  have A14 := A3.ext (hB.le A3.1) a15.agree
  have S13 : Sep G12 (Fr H) [AL.box p4 [v0_0, v0_1]] := S1.app a15.agree S16 (fun _ h => h) (hB.le A3.1)
  simp [-aBin', -aBin, -aBinI, -aUn, -aNil, -flatV, n_fn, b_add, b_sub, b_mul, b_lt, b_le, b_gt, b_ge, b_eq, b_ne, u_not, q8, q9, a15.pre]
  apply hK
  clear hK K
  simp only [andThen, leaves]
  refine DWp.seq ?_
  refine DWp.seq ?_
  refine DWp.region fun K hK => ?_
  simp [-aBin', -aBin, -aBinI, -aUn, -aNil, -flatV, n_fn, b_add, b_sub, b_mul, b_lt, b_le, b_gt, b_ge, b_eq, b_ne, u_not]
  apply hK
  clear hK K
  simp only [andThen, leaves]
  refine DWp.cond' (t := (ilt r1 0)) (by simp []) (fun hb17 => ?_) (fun hb17 => ?_)
  · replace hF := cd_t hb17 hF
    refine DWp.seq ?_
    refine DWp.region fun K hK => ?_
    simp [-aBin', -aBin, -aBinI, -aUn, -aNil, -flatV, n_fn, b_add, b_sub, b_mul, b_lt, b_le, b_gt, b_ge, b_eq, b_ne, u_not]
    apply hK
    clear hK K
    simp only [andThen, leaves]
    refine DWp.ret ?_
    simp only [andThen, leaves]
    obtain rfl := Option.some.inj hF
    exact ⟨by simp, [(Value.int .i64 (-1))], by simp [], A14, rfl, S13.pick [] (by decide) rfl⟩
  · replace hF := cd_f hb17 hF
    refine DWp.skip ?_
    simp only [andThen, leaves]
    refine DWp.seq ?_
    have q18 := S13.fieldT (P := Try.prog) (k := 0) rfl fa_24_1
    have q19 := S13.loadF (P := Try.prog) (k := 0) rfl sz_22 ag_22 (off := 1) rfl
    obtain ⟨r2, hc20, hF⟩ := bd_some hF
    refine DWp.region fun K hK => ?_
    simp [-aBin', -aBin, -aBinI, -aUn, -aNil, -flatV, n_fn, b_add, b_sub, b_mul, b_lt, b_le, b_gt, b_ge, b_eq, b_ne, u_not, q18, q19, ((hx0_1.agree A14.agree).tup)]
    refine CallD.t (F_laws_szIntS_w (fu := fu) (hx0_1.agree A14.agree) hc20) ?_
    rintro _ G22 ⟨a25, rfl, S26⟩
    have A24 := A14.ext (hB.le A14.1) a25.agree
    have S23 : Sep G22 (Fr H) [AL.box p4 [v0_0, v0_1]] := S13.app a25.agree S26 (fun _ h => h) (hB.le A14.1)
    simp [-aBin', -aBin, -aBinI, -aUn, -aNil, -flatV, n_fn, b_add, b_sub, b_mul, b_lt, b_le, b_gt, b_ge, b_eq, b_ne, u_not, q18, q19, a25.pre]
    apply hK
    clear hK K
    simp only [andThen, leaves]
    refine DWp.seq ?_
    refine DWp.seq ?_
    refine DWp.region fun K hK => ?_
    simp [-aBin', -aBin, -aBinI, -aUn, -aNil, -flatV, n_fn, b_add, b_sub, b_mul, b_lt, b_le, b_gt, b_ge, b_eq, b_ne, u_not]
    apply hK
    clear hK K
    simp only [andThen, leaves]
    refine DWp.cond' (t := (ilt r2 0)) (by simp []) (fun hb27 => ?_) (fun hb27 => ?_)
    · replace hF := cd_t hb27 hF
      refine DWp.seq ?_
      refine DWp.region fun K hK => ?_
      simp [-aBin', -aBin, -aBinI, -aUn, -aNil, -flatV, n_fn, b_add, b_sub, b_mul, b_lt, b_le, b_gt, b_ge, b_eq, b_ne, u_not]
      apply hK
      clear hK K
      simp only [andThen, leaves]
      refine DWp.ret ?_
      simp only [andThen, leaves]
      obtain rfl := Option.some.inj hF
      exact ⟨by simp, [(Value.int .i64 (-1))], by simp [], A24, rfl, S23.pick [] (by decide) rfl⟩
    · replace hF := cd_f hb27 hF
      refine DWp.skip ?_
      simp only [andThen, leaves]
      refine DWp.seq ?_
      refine DWp.region fun K hK => ?_
      simp [-aBin', -aBin, -aBinI, -aUn, -aNil, -flatV, n_fn, b_add, b_sub, b_mul, b_lt, b_le, b_gt, b_ge, b_eq, b_ne, u_not]
      apply hK
      clear hK K
      simp only [andThen, leaves]
      refine DWp.ret ?_
      obtain rfl := Option.some.inj hF
      exact ⟨by simp, [(Value.int .i64 r2)], by simp [], A24, rfl, S23.pick [] (by decide) rfl⟩
/-! loop.example/g01126/laws.toIntS -/
def F_laws_toIntS_L1 (fu : Nat) (k1_0 : List Int) : Nat → List Int → Int → Option (List Int × Int)
  | 0, _, _ => none
  | n + 1, l1_0, y1_4 =>
    bif (ilt y1_4 (llen k1_0)) then
      gd (inL k1_0 y1_4) (
      gd (inL l1_0 y1_4) (
      F_laws_toIntS_L1 fu k1_0 n (lset l1_0 y1_4 (gat 0 k1_0 y1_4)) (iadd .i64 y1_4 1)))
    else
      some (l1_0, y1_4)
def F_laws_toIntS (fu : Nat) (x0 : List Int) : Option (List Int) :=
  gd (0 ≤ (llen x0) ∧ (llen x0) ≤ 4294967296) (
  bd (F_laws_toIntS_L1 fu x0 fu (lrep (llen x0) 0) 0) fun s1 =>
  some s1.1)
theorem F_laws_toIntS_w {fu : Nat} {H : AH} {v0 : Value} {x0 : List Int} {r : (List Int)} (hx0 : Sl H v0 (ints x0)) (hF : F_laws_toIntS fu x0 = some r) :
    ACallT Try.prog 55 [v0] H (fun u G => AgB (Fr H) H G ∧ ∃ u0 : Value, u = u0 ∧ Sep G (Fr H) [flat u0 3 (ints r)]) := by
  refine ACallT.of_body (nt := 22) (rs := [.tmp 2]) Try.func55 rfl rfl rfl rfl ?_
  have A0 : AgB (Fr H) H H := .refl _ _
  have S0 : Sep H (Fr H) [] := .nil
  have hB := Fr.up H
  unfold F_laws_toIntS at hF
  refine DWp.seq ?_
  refine DWp.region fun K hK => ?_
  simp [-aBin', -aBin, -aBinI, -aUn, -aNil, -flatV, n_fn, b_add, b_sub, b_mul, b_lt, b_le, b_gt, b_ge, b_eq, b_ne, u_not]
  apply hK
  clear hK K
  simp only [andThen, leaves]
  refine DWp.seq ?_
  have q1 := lenG (P := Try.prog) (hx0.agree A0.agree) el_22
  obtain ⟨g2, hF⟩ := gd_some hF
  obtain ⟨v3, G4, q5, S6, a8, _⟩ := S0.make (f := (Value.int .i64)) (P := Try.prog) (t := 22) (hB.le A0.1) el_22 ei_3 rfl 0 rfl g2
  have A7 := A0.ext (hB.le A0.1) a8
  replace S6 : Sep G4 (Fr H) [flat v3 3 (ints (lrep (llen x0) 0))] := S6
  refine DWp.region fun K hK => ?_
  simp [-aBin', -aBin, -aBinI, -aUn, -aNil, -flatV, n_fn, b_add, b_sub, b_mul, b_lt, b_le, b_gt, b_ge, b_eq, b_ne, u_not, q1, q5, a8.to_pre]
  apply hK
  clear hK K
  simp only [andThen, leaves]
  refine DWp.seq ?_
  refine DWp.seq ?_
  refine DWp.region fun K hK => ?_
  simp [-aBin', -aBin, -aBinI, -aUn, -aNil, -flatV, n_fn, b_add, b_sub, b_mul, b_lt, b_le, b_gt, b_ge, b_eq, b_ne, u_not]
  apply hK
  clear hK K
  simp only [andThen, leaves]
  refine DWp.block ?_
  obtain ⟨s9, hL10, hF⟩ := bd_some hF
  have S11 := S6.pick [0] (by decide) rfl
  refine DWp.loop (fun n env G => ∃ l1_0 : List Int, ∃ y1_4 : Int, F_laws_toIntS_L1 fu x0 n l1_0 y1_4 = some s9 ∧ Sep G (Fr H) [flat v3 3 (ints l1_0)] ∧ AgB (Fr H) H G ∧ env 0 = some v0 ∧ env 3 = some v3 ∧ env 4 = some (Value.int .i64 y1_4)) fu ⟨(lrep (llen x0) 0), 0, hL10, S11, A7, by simp [], by simp [], by simp []⟩ ?_
  rintro n1 env1 G1_ ⟨l1_0, y1_4, hL10, S1_, A1_, e1_0, e1_3, e1_4⟩
  cases n1 with
  | zero => cases hL10
  | succ n1 =>
    simp only [F_laws_toIntS_L1] at hL10
    refine DWp.seq ?_
    refine DWp.seq ?_
    have q12 := lenG (P := Try.prog) (hx0.agree A1_.agree) el_22
    refine DWp.region fun K hK => ?_
    simp [-aBin', -aBin, -aBinI, -aUn, -aNil, -flatV, n_fn, b_add, b_sub, b_mul, b_lt, b_le, b_gt, b_ge, b_eq, b_ne, u_not, e1_0, e1_3, e1_4, q12]
    apply hK
    clear hK K
    simp only [andThen, leaves]
    refine DWp.cond' (t := (ilt y1_4 (llen x0))) (by simp [e1_0, e1_3, e1_4]) (fun hb13 => ?_) (fun hb13 => ?_)
    · replace hL10 := cd_t hb13 hL10
      refine DWp.skip ?_
      simp only [andThen, leaves]
      refine DWp.seq ?_
      refine DWp.block ?_
      obtain ⟨g14, hL10⟩ := gd_some hL10
      have q15 := idxG (P := Try.prog) (kk := .i64) (hx0.agree A1_.agree) el_22 sz_3 g14
      have q16 := loadG (P := Try.prog) (hx0.agree A1_.agree) sz_3 ag_3 g14 0
      obtain ⟨g17, hL10⟩ := gd_some hL10
      have q18 := idxG (P := Try.prog) (kk := .i64) (S1_.sl (k := 0) rfl) el_22 sz_3 g17
      obtain ⟨G19, q20, S21, a23⟩ := S1_.storeG (f := (Value.int .i64)) (P := Try.prog) (k := 0) (x := (gat 0 x0 y1_4)) rfl (hB.le A1_.1) sz_3 g17 rfl rfl
      have A22 := A1_.trans a23
      replace S21 : Sep G19 (Fr H) [flat v3 3 (ints (lset l1_0 y1_4 (gat 0 x0 y1_4)))] := S21
      refine DWp.region fun K hK => ?_
      simp [-aBin', -aBin, -aBinI, -aUn, -aNil, -flatV, n_fn, b_add, b_sub, b_mul, b_lt, b_le, b_gt, b_ge, b_eq, b_ne, u_not, e1_0, e1_3, e1_4, q15, q16, q18, q20]
      apply hK
      clear hK K
      simp only [andThen, leaves]
      refine DWp.region fun K hK => ?_
      simp [-aBin', -aBin, -aBinI, -aUn, -aNil, -flatV, n_fn, b_add, b_sub, b_mul, b_lt, b_le, b_gt, b_ge, b_eq, b_ne, u_not, e1_0, e1_3, e1_4]
      apply hK
      clear hK K
      simp only [andThen, leaves]
      have S24 := S21.pick [0] (by decide) rfl
      exact ⟨n1, Nat.lt_succ_self _, (lset l1_0 y1_4 (gat 0 x0 y1_4)), (iadd .i64 y1_4 1), hL10, S24, A22, by simp [e1_0, e1_3, e1_4], by simp [e1_0, e1_3, e1_4], by simp [e1_0, e1_3, e1_4]⟩
    · replace hL10 := cd_f hb13 hL10
      refine DWp.exit ?_
      simp only [andThen, leaves, if_true, if_false, reduceIte, Nat.reduceEqDiff]
      obtain rfl := Option.some.inj hL10
      try dsimp only at hF
      refine DWp.seq ?_
      refine DWp.region fun K hK => ?_
      simp [-aBin', -aBin, -aBinI, -aUn, -aNil, -flatV, n_fn, b_add, b_sub, b_mul, b_lt, b_le, b_gt, b_ge, b_eq, b_ne, u_not, e1_0, e1_3, e1_4]
      apply hK
      clear hK K
      simp only [andThen, leaves]
      refine DWp.ret ?_
      obtain rfl := Option.some.inj hF
      exact ⟨by simp, [v3], by simp [e1_0, e1_3, e1_4, ((S1_.sl (k := 0) rfl).tup)], A1_, v3, rfl, S1_.pick [0] (by decide) rfl⟩
/-! loop.example/g01126/laws.toSeaweed -/
def F_laws_toSeaweed (fu : Nat) (x0_0 : List Int) (x0_1 : List Int) : Option ((List Int × List Int)) :=
  bd (F_laws_toIntS fu x0_0) fun r1 =>
  bd (F_laws_toIntS fu x0_1) fun r2 =>
  some (r1, r2)
theorem F_laws_toSeaweed_w {fu : Nat} {H : AH} {v0_0 : Value} {v0_1 : Value} {x0_0 : List Int} {x0_1 : List Int} {r : ((List Int × List Int))} (hx0_0 : Sl H v0_0 (ints x0_0)) (hx0_1 : Sl H v0_1 (ints x0_1)) (hF : F_laws_toSeaweed fu x0_0 x0_1 = some r) :
    ACallT Try.prog 14 [(Value.agg #[v0_0, v0_1])] H (fun u G => AgB (Fr H) H G ∧ ∃ u0 : Value, ∃ u1 : Value, u = (Value.agg #[u0, u1]) ∧ Sep G (Fr H) [flat u0 3 (ints r.1), flat u1 3 (ints r.2)]) := by
  refine ACallT.of_body (nt := 13) (rs := [.cell 2 26]) Try.func14 rfl rfl rfl rfl ?_
  have A0 : AgB (Fr H) H H := .refl _ _
  have S0 : Sep H (Fr H) [] := .nil
  have hB := Fr.up H
  unfold F_laws_toSeaweed at hF
  refine DWp.seq ?_
  obtain ⟨G2, p4, q5, q6, a7, S1⟩ := S0.boxT (hB.le A0.1) 24 [v0_0, v0_1]
  have A3 := A0.ext (hB.le A0.1) a7
  replace S1 : Sep G2 (Fr H) [AL.box p4 [v0_0, v0_1]] := S1
  obtain ⟨G9, p11, q12, q14, a13, S8⟩ := S1.allocT (P := Try.prog) (hB.le A3.1) ze_26 rfl
  have A10 := A3.ext (hB.le A3.1) a13
  replace S8 : Sep G9 (Fr H) [AL.box p4 [v0_0, v0_1], AL.box p11 [(Value.slice none 0 0), (Value.slice none 0 0)]] := S8
  refine DWp.region fun K hK => ?_
  simp [-aBin', -aBin, -aBinI, -aUn, -aNil, -flatV, n_fn, b_add, b_sub, b_mul, b_lt, b_le, b_gt, b_ge, b_eq, b_ne, u_not, q5, q6, a7.to_pre, cells_agg, q12, q14, a13.to_pre]
  apply hK
  clear hK K
  simp only [andThen, leaves]
  refine DWp.seq ?_
  obtain ⟨G16, p18, q19, q21, a20, S15⟩ := S8.allocT (P := Try.prog) (hB.le A10.1) ze_26 rfl
  have A17 := A10.ext (hB.le A10.1) a20
  replace S15 : Sep G16 (Fr H) [AL.box p4 [v0_0, v0_1], AL.box p11 [(Value.slice none 0 0), (Value.slice none 0 0)], AL.box p18 [(Value.slice none 0 0), (Value.slice none 0 0)]] := S15
  refine DWp.region fun K hK => ?_
  simp [-aBin', -aBin, -aBinI, -aUn, -aNil, -flatV, n_fn, b_add, b_sub, b_mul, b_lt, b_le, b_gt, b_ge, b_eq, b_ne, u_not, q19, q21, a20.to_pre]
  apply hK
  clear hK K
  simp only [andThen, leaves]
  refine DWp.seq ?_
  have q22 := S15.fieldT (P := Try.prog) (k := 0) rfl fa_24_0
  have q23 := S15.loadF (P := Try.prog) (k := 0) rfl sz_22 ag_22 (off := 0) rfl
  obtain ⟨r1, hc24, hF⟩ := bd_some hF
  refine DWp.region fun K hK => ?_
  simp [-aBin', -aBin, -aBinI, -aUn, -aNil, -flatV, n_fn, b_add, b_sub, b_mul, b_lt, b_le, b_gt, b_ge, b_eq, b_ne, u_not, q22, q23, ((hx0_0.agree A17.agree).tup)]
  refine CallD.t (F_laws_toIntS_w (fu := fu) (hx0_0.agree A17.agree) hc24) ?_
  rintro c25_u0 G26 ⟨a29, _, rfl, S30⟩
  have A28 := A17.ext (hB.le A17.1) a29.agree
  have S27 : Sep G26 (Fr H) [AL.box p4 [v0_0, v0_1], AL.box p11 [(Value.slice none 0 0), (Value.slice none 0 0)], AL.box p18 [(Value.slice none 0 0), (Value.slice none 0 0)], flat c25_u0 3 (ints r1)] := S15.app a29.agree S30 (fun _ h => h) (hB.le A17.1)
  have q31 := S27.fieldT (P := Try.prog) (k := 2) rfl fa_26_0
  obtain ⟨G32, q33, S34, a36⟩ := S27.putF (P := Try.prog) (k := 2) (off := 0) rfl (hB.le A28.1) sz_22 (by simp) ((S27.sl (k := 3) rfl).tup) ((S27.sl (k := 3) rfl).one)
  have A35 := A28.trans a36
  replace S34 : Sep G32 (Fr H) [AL.box p4 [v0_0, v0_1], AL.box p11 [(Value.slice none 0 0), (Value.slice none 0 0)], AL.box p18 [c25_u0, (Value.slice none 0 0)], flat c25_u0 3 (ints r1)] := S34
  simp [-aBin', -aBin, -aBinI, -aUn, -aNil, -flatV, n_fn, b_add, b_sub, b_mul, b_lt, b_le, b_gt, b_ge, b_eq, b_ne, u_not, q22, q23, a29.pre, q31, q33]
  apply hK
  clear hK K
  simp only [andThen, leaves]
  refine DWp.seq ?_
  have q37 := S34.fieldT (P := Try.prog) (k := 0) rfl fa_24_1
  have q38 := S34.loadF (P := Try.prog) (k := 0) rfl sz_22 ag_22 (off := 1) rfl
  obtain ⟨r2, hc39, hF⟩ := bd_some hF
  refine DWp.region fun K hK => ?_
  simp [-aBin', -aBin, -aBinI, -aUn, -aNil, -flatV, n_fn, b_add, b_sub, b_mul, b_lt, b_le, b_gt, b_ge, b_eq, b_ne, u_not, q37, q38, ((hx0_1.agree A35.agree).tup)]
  refine CallD.t (F_laws_toIntS_w (fu := fu) (hx0_1.agree A35.agree) hc39) ?_
  rintro c40_u0 G41 ⟨a44, _, rfl, S45⟩
  have A43 := A35.ext (hB.le A35.1) a44.agree
  have S42 : Sep G41 (Fr H) [AL.box p4 [v0_0, v0_1], AL.box p11 [(Value.slice none 0 0), (Value.slice none 0 0)], AL.box p18 [c25_u0, (Value.slice none 0 0)], flat c25_u0 3 (ints r1), flat c40_u0 3 (ints r2)] := S34.app a44.agree S45 (fun _ h => h) (hB.le A35.1)
  have q46 := S42.fieldT (P := Try.prog) (k := 2) rfl fa_26_1
  obtain ⟨G47, q48, S49, a51⟩ := S42.putF (P := Try.prog) (k := 2) (off := 1) rfl (hB.le A43.1) sz_22 (by simp) ((S42.sl (k := 4) rfl).tup) ((S42.sl (k := 4) rfl).one)
  have A50 := A43.trans a51
  replace S49 : Sep G47 (Fr H) [AL.box p4 [v0_0, v0_1], AL.box p11 [(Value.slice none 0 0), (Value.slice none 0 0)], AL.box p18 [c25_u0, c40_u0], flat c25_u0 3 (ints r1), flat c40_u0 3 (ints r2)] := S49
  simp [-aBin', -aBin, -aBinI, -aUn, -aNil, -flatV, n_fn, b_add, b_sub, b_mul, b_lt, b_le, b_gt, b_ge, b_eq, b_ne, u_not, q37, q38, a44.pre, q46, q48]
  apply hK
  clear hK K
  simp only [andThen, leaves]
  refine DWp.seq ?_
  have q52 := S49.loadAgg (P := Try.prog) (k := 2) rfl sz_26 ag_26 rfl
  obtain ⟨G53, q54, S55, a57⟩ := S49.putAgg (P := Try.prog) (k := 1) (xs := [c25_u0, c40_u0]) rfl (hB.le A50.1) sz_26 rfl rfl
  have A56 := A50.trans a57
  replace S55 : Sep G53 (Fr H) [AL.box p4 [v0_0, v0_1], AL.box p11 [c25_u0, c40_u0], AL.box p18 [c25_u0, c40_u0], flat c25_u0 3 (ints r1), flat c40_u0 3 (ints r2)] := S55
  refine DWp.region fun K hK => ?_
  simp [-aBin', -aBin, -aBinI, -aUn, -aNil, -flatV, n_fn, b_add, b_sub, b_mul, b_lt, b_le, b_gt, b_ge, b_eq, b_ne, u_not, q52, q54]
  apply hK
  clear hK K
  simp only [andThen, leaves]
  refine DWp.ret ?_
  have q58 := S55.loadAgg (P := Try.prog) (k := 1) rfl sz_26 ag_26 rfl
  obtain rfl := Option.some.inj hF
  exact ⟨by simp, [(Value.agg #[c25_u0, c40_u0])], by simp [q58, ((S55.sl (k := 3) rfl).tup), ((S55.sl (k := 4) rfl).tup)], A56, c25_u0, c40_u0, rfl, S55.pick [3, 4] (by decide) rfl⟩
/-! loop.example/g01126/spec.swGood -/
def F_spec_swGood (fu : Nat) (x0_0 : List Int) (x0_1 : List Int) : Option (Bool) :=
  bd (F_spec_swParts fu x0_0) fun r1 =>
  bif r1 then
    bd (F_spec_swParts fu x0_1) fun r2 =>
    bif r2 then
      bd (F_spec_swSum fu x0_0) fun r3 =>
      bd (F_spec_swSum fu x0_1) fun r4 =>
      some (ieq r3 r4)
    else
      some false
  else
    some false
theorem F_spec_swGood_w {fu : Nat} {H : AH} {v0_0 : Value} {v0_1 : Value} {x0_0 : List Int} {x0_1 : List Int} {r : (Bool)} (hx0_0 : Sl H v0_0 (ints x0_0)) (hx0_1 : Sl H v0_1 (ints x0_1)) (hF : F_spec_swGood fu x0_0 x0_1 = some r) :
    ACallT Try.prog 53 [(Value.agg #[v0_0, v0_1])] H (fun u G => AgB (Fr H) H G ∧ u = (Value.bool r) ∧ Sep G (Fr H) []) := by
  refine ACallT.of_body (nt := 20) (rs := [.tmp 2]) Try.func53 rfl rfl rfl rfl ?_
  have A0 : AgB (Fr H) H H := .refl _ _
  have S0 : Sep H (Fr H) [] := .nil
  have hB := Fr.up H
  unfold F_spec_swGood at hF
  refine DWp.seq ?_
  obtain ⟨G2, p4, q5, q6, a7, S1⟩ := S0.boxT (hB.le A0.1) 26 [v0_0, v0_1]
  have A3 := A0.ext (hB.le A0.1) a7
  replace S1 : Sep G2 (Fr H) [AL.box p4 [v0_0, v0_1]] := S1
  refine DWp.region fun K hK => ?_
  simp [-aBin', -aBin, -aBinI, -aUn, -aNil, -flatV, n_fn, b_add, b_sub, b_mul, b_lt, b_le, b_gt, b_ge, b_eq, b_ne, u_not, q5, q6, a7.to_pre, cells_agg]
  apply hK
  clear hK K
  simp only [andThen, leaves]
  refine DWp.seq ?_
  have q8 := S1.fieldT (P := Try.prog) (k := 0) rfl fa_26_0
  have q9 := S1.loadF (P := Try.prog) (k := 0) rfl sz_22 ag_22 (off := 0) rfl
  obtain ⟨r1, hc10, hF⟩ := bd_some hF
  refine DWp.drawn (B := [0, 1, 3, 7, 15, 31, 63, 127, 255, 511, 1023, 2047, 511, 4607, 16383, 32767, 65535, 131071]) 18 mixed (by kernel_rfl) (by decide) fun K hK => ?_
  simp [-aBin', -aBin, -aBinI, -aUn, -aNil, -flatV, n_fn, b_add, b_sub, b_mul, b_lt, b_le, b_gt, b_ge, b_eq, b_ne, u_not, q8, q9, ((hx0_0.agree A3.agree).tup)]
  refine CallD.t (F_spec_swParts_w (fu := fu) (hx0_0.agree A3.agree) hc10) ?_
  rintro _ G12 ⟨a15, rfl, S16⟩
  have A14 := A3.ext (hB.le A3.1) a15.agree
  have S13 : Sep G12 (Fr H) [AL.box p4 [v0_0, v0_1]] := S1.app a15.agree S16 (fun _ h => h) (hB.le A3.1)
  rcases Bool.eq_false_or_eq_true r1 with hb17 | hb17
  · replace hF := cd_t hb17 hF
    have q18 := S13.fieldT (P := Try.prog) (k := 0) rfl fa_26_1
    have q19 := S13.loadF (P := Try.prog) (k := 0) rfl sz_22 ag_22 (off := 1) rfl
    obtain ⟨r2, hc20, hF⟩ := bd_some hF
    simp [-aBin', -aBin, -aBinI, -aUn, -aNil, -flatV, n_fn, b_add, b_sub, b_mul, b_lt, b_le, b_gt, b_ge, b_eq, b_ne, u_not, hb17, q8, q9, a15.pre, q18, q19, ((hx0_1.agree A14.agree).tup)]
    refine CallD.t (F_spec_swParts_w (fu := fu) (hx0_1.agree A14.agree) hc20) ?_
    rintro _ G22 ⟨a25, rfl, S26⟩
    have A24 := A14.ext (hB.le A14.1) a25.agree
    have S23 : Sep G22 (Fr H) [AL.box p4 [v0_0, v0_1]] := S13.app a25.agree S26 (fun _ h => h) (hB.le A14.1)
    rcases Bool.eq_false_or_eq_true r2 with hb27 | hb27
    · replace hF := cd_t hb27 hF
      have q28 := S23.fieldT (P := Try.prog) (k := 0) rfl fa_26_0
      have q29 := S23.loadF (P := Try.prog) (k := 0) rfl sz_22 ag_22 (off := 0) rfl
      obtain ⟨r3, hc30, hF⟩ := bd_some hF
      simp [-aBin', -aBin, -aBinI, -aUn, -aNil, -flatV, n_fn, b_add, b_sub, b_mul, b_lt, b_le, b_gt, b_ge, b_eq, b_ne, u_not, hb17, hb27, q8, q9, a15.pre, q18, q19, a25.pre, q28, q29, ((hx0_0.agree A24.agree).tup)]
      refine CallD.t (F_spec_swSum_w (fu := fu) (hx0_0.agree A24.agree) hc30) ?_
      rintro _ G32 ⟨a35, rfl, S36⟩
      have A34 := A24.ext (hB.le A24.1) a35.agree
      have S33 : Sep G32 (Fr H) [AL.box p4 [v0_0, v0_1]] := S23.app a35.agree S36 (fun _ h => h) (hB.le A24.1)
      have q37 := S33.fieldT (P := Try.prog) (k := 0) rfl fa_26_1
      have q38 := S33.loadF (P := Try.prog) (k := 0) rfl sz_22 ag_22 (off := 1) rfl
      obtain ⟨r4, hc39, hF⟩ := bd_some hF
      simp [-aBin', -aBin, -aBinI, -aUn, -aNil, -flatV, n_fn, b_add, b_sub, b_mul, b_lt, b_le, b_gt, b_ge, b_eq, b_ne, u_not, hb17, hb27, q8, q9, a15.pre, q18, q19, a25.pre, q28, q29, a35.pre, q37, q38, ((hx0_1.agree A34.agree).tup)]
      refine CallD.t (F_spec_swSum_w (fu := fu) (hx0_1.agree A34.agree) hc39) ?_
      rintro _ G41 ⟨a44, rfl, S45⟩
      have A43 := A34.ext (hB.le A34.1) a44.agree
      have S42 : Sep G41 (Fr H) [AL.box p4 [v0_0, v0_1]] := S33.app a44.agree S45 (fun _ h => h) (hB.le A34.1)
      simp [-aBin', -aBin, -aBinI, -aUn, -aNil, -flatV, n_fn, b_add, b_sub, b_mul, b_lt, b_le, b_gt, b_ge, b_eq, b_ne, u_not, hb17, hb27, q8, q9, a15.pre, q18, q19, a25.pre, q28, q29, a35.pre, q37, q38, a44.pre]
      apply hK
      clear hK K
      simp only [andThen, leaves]
      refine DWp.ret ?_
      obtain rfl := Option.some.inj hF
      exact ⟨by simp, [(Value.bool (ieq r3 r4))], by simp [], A43, rfl, S42.pick [] (by decide) rfl⟩
    · replace hF := cd_f hb27 hF
      simp [-aBin', -aBin, -aBinI, -aUn, -aNil, -flatV, n_fn, b_add, b_sub, b_mul, b_lt, b_le, b_gt, b_ge, b_eq, b_ne, u_not, hb17, hb27, q8, q9, a15.pre, q18, q19, a25.pre]
      apply hK
      clear hK K
      simp only [andThen, leaves]
      refine DWp.ret ?_
      obtain rfl := Option.some.inj hF
      exact ⟨by simp, [(Value.bool false)], by simp [], A24, rfl, S23.pick [] (by decide) rfl⟩
  · replace hF := cd_f hb17 hF
    simp [-aBin', -aBin, -aBinI, -aUn, -aNil, -flatV, n_fn, b_add, b_sub, b_mul, b_lt, b_le, b_gt, b_ge, b_eq, b_ne, u_not, hb17, q8, q9, a15.pre]
    apply hK
    clear hK K
    simp only [andThen, leaves]
    refine DWp.ret ?_
    obtain rfl := Option.some.inj hF
    exact ⟨by simp, [(Value.bool false)], by simp [], A14, rfl, S13.pick [] (by decide) rfl⟩
/-! loop.example/g01126/spec.CountBoth -/
def F_spec_CountBoth (fu : Nat) (x0_0 : List Int) (x0_1 : List Int) : Option (Int × Int × Bool) :=
  bd (F_spec_swGood fu x0_0 x0_1) fun r1 =>
  bif (bnot r1) then
    some (0, 0, false)
  else
    bd (F_spec_swTogether fu x0_0 x0_1 true) fun r2 =>
    bd (F_spec_swTogether fu x0_0 x0_1 false) fun r3 =>
    some ((llen r2), (llen r3), true)
theorem F_spec_CountBoth_w {fu : Nat} {H : AH} {v0_0 : Value} {v0_1 : Value} {x0_0 : List Int} {x0_1 : List Int} {r : (Int × Int × Bool)} (hx0_0 : Sl H v0_0 (ints x0_0)) (hx0_1 : Sl H v0_1 (ints x0_1)) (hF : F_spec_CountBoth fu x0_0 x0_1 = some r) :
    ACallT Try.prog 28 [(Value.agg #[v0_0, v0_1])] H (fun u G => AgB (Fr H) H G ∧ u = (Value.tuple #[(Value.int .i64 r.1), (Value.int .i64 r.2.1), (Value.bool r.2.2)]) ∧ Sep G (Fr H) []) := by
  refine ACallT.of_body (nt := 14) (rs := [.tmp 2, .tmp 3, .tmp 4]) Try.func28 rfl rfl rfl rfl ?_
  have A0 : AgB (Fr H) H H := .refl _ _
  have S0 : Sep H (Fr H) [] := .nil
  have hB := Fr.up H
  unfold F_spec_CountBoth at hF
  refine DWp.seq ?_
  obtain ⟨G2, p4, q5, q6, a7, S1⟩ := S0.boxT (hB.le A0.1) 26 [v0_0, v0_1]
  have A3 := A0.ext (hB.le A0.1) a7
  replace S1 : Sep G2 (Fr H) [AL.box p4 [v0_0, v0_1]] := S1
  refine DWp.region fun K hK => ?_
  simp [-aBin', -aBin, -aBinI, -aUn, -aNil, -flatV, n_fn, b_add, b_sub, b_mul, b_lt, b_le, b_gt, b_ge, b_eq, b_ne, u_not, q5, q6, a7.to_pre, cells_agg]
  apply hK
  clear hK K
  simp only [andThen, leaves]
  refine DWp.seq ?_
  refine DWp.seq ?_
  have q8 := S1.loadAgg (P := Try.prog) (k := 0) rfl sz_26 ag_26 rfl
  obtain ⟨r1, hc9, hF⟩ := bd_some hF
  refine DWp.region fun K hK => ?_
  simp [-aBin', -aBin, -aBinI, -aUn, -aNil, -flatV, n_fn, b_add, b_sub, b_mul, b_lt, b_le, b_gt, b_ge, b_eq, b_ne, u_not, q8, ((hx0_0.agree A3.agree).tup), ((hx0_1.agree A3.agree).tup)]
  refine CallD.t (F_spec_swGood_w (fu := fu) (hx0_0.agree A3.agree) (hx0_1.agree A3.agree) hc9) ?_
  rintro _ G11 ⟨a14, rfl, S15⟩
  have A13 := A3.ext (hB.le A3.1) a14.agree
  have S12 : Sep G11 (Fr H) [AL.box p4 [v0_0, v0_1]] := S1.app a14.agree S15 (fun _ h => h) (hB.le A3.1)
  simp [-aBin', -aBin, -aBinI, -aUn, -aNil, -flatV, n_fn, b_add, b_sub, b_mul, b_lt, b_le, b_gt, b_ge, b_eq, b_ne, u_not, q8, a14.pre]
  apply hK
  clear hK K
  simp only [andThen, leaves]
  refine DWp.cond' (t := (bnot r1)) (by simp []) (fun hb16 => ?_) (fun hb16 => ?_)
  · replace hF := cd_t hb16 hF
    refine DWp.seq ?_
    refine DWp.region fun K hK => ?_
    simp [-aBin', -aBin, -aBinI, -aUn, -aNil, -flatV, n_fn, b_add, b_sub, b_mul, b_lt, b_le, b_gt, b_ge, b_eq, b_ne, u_not]
    apply hK
    clear hK K
    simp only [andThen, leaves]
    refine DWp.ret ?_
    simp only [andThen, leaves]
    obtain rfl := Option.some.inj hF
    exact ⟨by simp, [(Value.int .i64 0), (Value.int .i64 0), (Value.bool false)], by simp [], A13, rfl, S12.pick [] (by decide) rfl⟩
  · replace hF := cd_f hb16 hF
    refine DWp.skip ?_
    simp only [andThen, leaves]
    refine DWp.seq ?_
    have q17 := S12.loadAgg (P := Try.prog) (k := 0) rfl sz_26 ag_26 rfl
    obtain ⟨r2, hc18, hF⟩ := bd_some hF
    refine DWp.drawn (B := [0, 1, 3, 0, 11, 27, 31, 127, 255]) 9 mixed (by kernel_rfl) (by decide) fun K hK => ?_
    simp [-aBin', -aBin, -aBinI, -aUn, -aNil, -flatV, n_fn, b_add, b_sub, b_mul, b_lt, b_le, b_gt, b_ge, b_eq, b_ne, u_not, q17, ((hx0_0.agree A13.agree).tup), ((hx0_1.agree A13.agree).tup)]
    refine CallD.t (F_spec_swTogether_w (fu := fu) (hx0_0.agree A13.agree) (hx0_1.agree A13.agree) hc18) ?_
    rintro c19_u0 G20 ⟨a23, _, c19_C0, rfl, S24⟩
    have A22 := A13.ext (hB.le A13.1) a23.agree
    have S21 : Sep G20 (Fr H) [AL.box p4 [v0_0, v0_1], rowsC c19_u0 22 3 c19_C0 (List.map ints r2)] := S12.app a23.agree S24 (fun _ h => h) (hB.le A13.1)
    have q25 := (S21.rd (k := 1) rfl).lenG (P := Try.prog) el_46
    have q26 := S21.loadAgg (P := Try.prog) (k := 0) rfl sz_26 ag_26 rfl
    obtain ⟨r3, hc27, hF⟩ := bd_some hF
    simp [-aBin', -aBin, -aBinI, -aUn, -aNil, -flatV, n_fn, b_add, b_sub, b_mul, b_lt, b_le, b_gt, b_ge, b_eq, b_ne, u_not, q17, a23.pre, q25, q26, ((hx0_0.agree A22.agree).tup), ((hx0_1.agree A22.agree).tup)]
    refine CallD.t (F_spec_swTogether_w (fu := fu) (hx0_0.agree A22.agree) (hx0_1.agree A22.agree) hc27) ?_
    rintro c28_u0 G29 ⟨a32, _, c28_C0, rfl, S33⟩
    have A31 := A22.ext (hB.le A22.1) a32.agree
    have S30 : Sep G29 (Fr H) [AL.box p4 [v0_0, v0_1], rowsC c19_u0 22 3 c19_C0 (List.map ints r2), rowsC c28_u0 22 3 c28_C0 (List.map ints r3)] := S21.app a32.agree S33 (fun _ h => h) (hB.le A22.1)
    have q34 := (S30.rd (k := 2) rfl).lenG (P := Try.prog) el_46
    simp [-aBin', -aBin, -aBinI, -aUn, -aNil, -flatV, n_fn, b_add, b_sub, b_mul, b_lt, b_le, b_gt, b_ge, b_eq, b_ne, u_not, q17, a23.pre, q25, q26, a32.pre, q34]
    apply hK
    clear hK K
    simp only [andThen, leaves]
    refine DWp.ret ?_
    obtain rfl := Option.some.inj hF
    exact ⟨by simp, [(Value.int .i64 (llen r2)), (Value.int .i64 (llen r3)), (Value.bool true)], by simp [], A31, rfl, S30.pick [] (by decide) rfl⟩
/-! loop.example/g01126/impl.IsSeaweed -/
def F_impl_IsSeaweed (fu : Nat) (x0_0 : List Int) (x0_1 : List Int) : Option (Bool) :=
  bd (F_impl_areParts fu x0_0) fun r1 =>
  bif r1 then
    bd (F_impl_areParts fu x0_1) fun r2 =>
    bif r2 then
      bd (F_impl_sum fu x0_0) fun r3 =>
      bd (F_impl_sum fu x0_1) fun r4 =>
      some (ieq r3 r4)
    else
      some false
  else
    some false
theorem F_impl_IsSeaweed_w {fu : Nat} {H : AH} {v0_0 : Value} {v0_1 : Value} {x0_0 : List Int} {x0_1 : List Int} {r : (Bool)} (hx0_0 : Sl H v0_0 (ints x0_0)) (hx0_1 : Sl H v0_1 (ints x0_1)) (hF : F_impl_IsSeaweed fu x0_0 x0_1 = some r) :
    ACallT Try.prog 56 [(Value.agg #[v0_0, v0_1])] H (fun u G => AgB (Fr H) H G ∧ u = (Value.bool r) ∧ Sep G (Fr H) []) := by
  refine ACallT.of_body (nt := 20) (rs := [.tmp 2]) Try.func56 rfl rfl rfl rfl ?_
  have A0 : AgB (Fr H) H H := .refl _ _
  have S0 : Sep H (Fr H) [] := .nil
  have hB := Fr.up H
  unfold F_impl_IsSeaweed at hF
  refine DWp.seq ?_
  obtain ⟨G2, p4, q5, q6, a7, S1⟩ := S0.boxT (hB.le A0.1) 26 [v0_0, v0_1]
  have A3 := A0.ext (hB.le A0.1) a7
  replace S1 : Sep G2 (Fr H) [AL.box p4 [v0_0, v0_1]] := S1
  refine DWp.region fun K hK => ?_
  simp [-aBin', -aBin, -aBinI, -aUn, -aNil, -flatV, n_fn, b_add, b_sub, b_mul, b_lt, b_le, b_gt, b_ge, b_eq, b_ne, u_not, q5, q6, a7.to_pre, cells_agg]
  apply hK
  clear hK K
  simp only [andThen, leaves]
  refine DWp.seq ?_
  have q8 := S1.fieldT (P := Try.prog) (k := 0) rfl fa_26_0
  have q9 := S1.loadF (P := Try.prog) (k := 0) rfl sz_22 ag_22 (off := 0) rfl
  obtain ⟨r1, hc10, hF⟩ := bd_some hF
  refine DWp.drawn (B := [0, 1, 3, 7, 15, 31, 63, 127, 255, 511, 1023, 2047, 511, 4607, 16383, 32767, 65535, 131071]) 18 mixed (by kernel_rfl) (by decide) fun K hK => ?_
  simp [-aBin', -aBin, -aBinI, -aUn, -aNil, -flatV, n_fn, b_add, b_sub, b_mul, b_lt, b_le, b_gt, b_ge, b_eq, b_ne, u_not, q8, q9, ((hx0_0.agree A3.agree).tup)]
  refine CallD.t (F_impl_areParts_w (fu := fu) (hx0_0.agree A3.agree) hc10) ?_
  rintro _ G12 ⟨a15, rfl, S16⟩
  have A14 := A3.ext (hB.le A3.1) a15.agree
  have S13 : Sep G12 (Fr H) [AL.box p4 [v0_0, v0_1]] := S1.app a15.agree S16 (fun _ h => h) (hB.le A3.1)
  rcases Bool.eq_false_or_eq_true r1 with hb17 | hb17
  · replace hF := cd_t hb17 hF
    have q18 := S13.fieldT (P := Try.prog) (k := 0) rfl fa_26_1
    have q19 := S13.loadF (P := Try.prog) (k := 0) rfl sz_22 ag_22 (off := 1) rfl
    obtain ⟨r2, hc20, hF⟩ := bd_some hF
    simp [-aBin', -aBin, -aBinI, -aUn, -aNil, -flatV, n_fn, b_add, b_sub, b_mul, b_lt, b_le, b_gt, b_ge, b_eq, b_ne, u_not, hb17, q8, q9, a15.pre, q18, q19, ((hx0_1.agree A14.agree).tup)]
    refine CallD.t (F_impl_areParts_w (fu := fu) (hx0_1.agree A14.agree) hc20) ?_
    rintro _ G22 ⟨a25, rfl, S26⟩
    have A24 := A14.ext (hB.le A14.1) a25.agree
    have S23 : Sep G22 (Fr H) [AL.box p4 [v0_0, v0_1]] := S13.app a25.agree S26 (fun _ h => h) (hB.le A14.1)
    rcases Bool.eq_false_or_eq_true r2 with hb27 | hb27
    · replace hF := cd_t hb27 hF
      have q28 := S23.fieldT (P := Try.prog) (k := 0) rfl fa_26_0
      have q29 := S23.loadF (P := Try.prog) (k := 0) rfl sz_22 ag_22 (off := 0) rfl
      obtain ⟨r3, hc30, hF⟩ := bd_some hF
      simp [-aBin', -aBin, -aBinI, -aUn, -aNil, -flatV, n_fn, b_add, b_sub, b_mul, b_lt, b_le, b_gt, b_ge, b_eq, b_ne, u_not, hb17, hb27, q8, q9, a15.pre, q18, q19, a25.pre, q28, q29, ((hx0_0.agree A24.agree).tup)]
      refine CallD.t (F_impl_sum_w (fu := fu) (hx0_0.agree A24.agree) hc30) ?_
      rintro _ G32 ⟨a35, rfl, S36⟩
      have A34 := A24.ext (hB.le A24.1) a35.agree
      have S33 : Sep G32 (Fr H) [AL.box p4 [v0_0, v0_1]] := S23.app a35.agree S36 (fun _ h => h) (hB.le A24.1)
      have q37 := S33.fieldT (P := Try.prog) (k := 0) rfl fa_26_1
      have q38 := S33.loadF (P := Try.prog) (k := 0) rfl sz_22 ag_22 (off := 1) rfl
      obtain ⟨r4, hc39, hF⟩ := bd_some hF
      simp [-aBin', -aBin, -aBinI, -aUn, -aNil, -flatV, n_fn, b_add, b_sub, b_mul, b_lt, b_le, b_gt, b_ge, b_eq, b_ne, u_not, hb17, hb27, q8, q9, a15.pre, q18, q19, a25.pre, q28, q29, a35.pre, q37, q38, ((hx0_1.agree A34.agree).tup)]
      refine CallD.t (F_impl_sum_w (fu := fu) (hx0_1.agree A34.agree) hc39) ?_
      rintro _ G41 ⟨a44, rfl, S45⟩
      have A43 := A34.ext (hB.le A34.1) a44.agree
      have S42 : Sep G41 (Fr H) [AL.box p4 [v0_0, v0_1]] := S33.app a44.agree S45 (fun _ h => h) (hB.le A34.1)
      simp [-aBin', -aBin, -aBinI, -aUn, -aNil, -flatV, n_fn, b_add, b_sub, b_mul, b_lt, b_le, b_gt, b_ge, b_eq, b_ne, u_not, hb17, hb27, q8, q9, a15.pre, q18, q19, a25.pre, q28, q29, a35.pre, q37, q38, a44.pre]
      apply hK
      clear hK K
      simp only [andThen, leaves]
      refine DWp.ret ?_
      obtain rfl := Option.some.inj hF
      exact ⟨by simp, [(Value.bool (ieq r3 r4))], by simp [], A43, rfl, S42.pick [] (by decide) rfl⟩
    · replace hF := cd_f hb27 hF
      simp [-aBin', -aBin, -aBinI, -aUn, -aNil, -flatV, n_fn, b_add, b_sub, b_mul, b_lt, b_le, b_gt, b_ge, b_eq, b_ne, u_not, hb17, hb27, q8, q9, a15.pre, q18, q19, a25.pre]
      apply hK
      clear hK K
      simp only [andThen, leaves]
      refine DWp.ret ?_
      obtain rfl := Option.some.inj hF
      exact ⟨by simp, [(Value.bool false)], by simp [], A24, rfl, S23.pick [] (by decide) rfl⟩
  · replace hF := cd_f hb17 hF
    simp [-aBin', -aBin, -aBinI, -aUn, -aNil, -flatV, n_fn, b_add, b_sub, b_mul, b_lt, b_le, b_gt, b_ge, b_eq, b_ne, u_not, hb17, q8, q9, a15.pre]
    apply hK
    clear hK K
    simp only [andThen, leaves]
    refine DWp.ret ?_
    obtain rfl := Option.some.inj hF
    exact ⟨by simp, [(Value.bool false)], by simp [], A14, rfl, S13.pick [] (by decide) rfl⟩
/-! loop.example/g01126/impl.CountBoth -/
def F_impl_CountBoth (fu : Nat) (x0_0 : List Int) (x0_1 : List Int) : Option (Int × Int × Bool) :=
  bd (F_impl_IsSeaweed fu x0_0 x0_1) fun r1 =>
  bif (bnot r1) then
    some (0, 0, false)
  else
    bd (F_impl_Seaweed_groups fu x0_0 x0_1) fun r2 =>
    some ((llen r2.1), (llen r2.2), true)
theorem F_impl_CountBoth_w {fu : Nat} {H : AH} {v0_0 : Value} {v0_1 : Value} {x0_0 : List Int} {x0_1 : List Int} {r : (Int × Int × Bool)} (hx0_0 : Sl H v0_0 (ints x0_0)) (hx0_1 : Sl H v0_1 (ints x0_1)) (hF : F_impl_CountBoth fu x0_0 x0_1 = some r) :
    ACallT Try.prog 29 [(Value.agg #[v0_0, v0_1])] H (fun u G => AgB (Fr H) H G ∧ u = (Value.tuple #[(Value.int .i64 r.1), (Value.int .i64 r.2.1), (Value.bool r.2.2)]) ∧ Sep G (Fr H) []) := by
  refine ACallT.of_body (nt := 19) (rs := [.tmp 2, .tmp 3, .tmp 4]) Try.func29 rfl rfl rfl rfl ?_
  have A0 : AgB (Fr H) H H := .refl _ _
  have S0 : Sep H (Fr H) [] := .nil
  have hB := Fr.up H
  unfold F_impl_CountBoth at hF
  refine DWp.seq ?_
  obtain ⟨G2, p4, q5, q6, a7, S1⟩ := S0.boxT (hB.le A0.1) 26 [v0_0, v0_1]
  have A3 := A0.ext (hB.le A0.1) a7
  replace S1 : Sep G2 (Fr H) [AL.box p4 [v0_0, v0_1]] := S1
  refine DWp.region fun K hK => ?_
  simp [-aBin', -aBin, -aBinI, -aUn, -aNil, -flatV, n_fn, b_add, b_sub, b_mul, b_lt, b_le, b_gt, b_ge, b_eq, b_ne, u_not, q5, q6, a7.to_pre, cells_agg]
  apply hK
  clear hK K
  simp only [andThen, leaves]
  refine DWp.seq ?_
  refine DWp.seq ?_
  have q8 := S1.loadAgg (P := Try.prog) (k := 0) rfl sz_26 ag_26 rfl
  obtain ⟨r1, hc9, hF⟩ := bd_some hF
  refine DWp.region fun K hK => ?_
  simp [-aBin', -aBin, -aBinI, -aUn, -aNil, -flatV, n_fn, b_add, b_sub, b_mul, b_lt, b_le, b_gt, b_ge, b_eq, b_ne, u_not, q8, ((hx0_0.agree A3.agree).tup), ((hx0_1.agree A3.agree).tup)]
  refine CallD.t (F_impl_IsSeaweed_w (fu := fu) (hx0_0.agree A3.agree) (hx0_1.agree A3.agree) hc9) ?_
  rintro _ G11 ⟨a14, rfl, S15⟩
  have A13 := A3.ext (hB.le A3.1) a14.agree
  have S12 : Sep G11 (Fr H) [AL.box p4 [v0_0, v0_1]] := S1.app a14.agree S15 (fun _ h => h) (hB.le A3.1)
  simp [-aBin', -aBin, -aBinI, -aUn, -aNil, -flatV, n_fn, b_add, b_sub, b_mul, b_lt, b_le, b_gt, b_ge, b_eq, b_ne, u_not, q8, a14.pre]
  apply hK
  clear hK K
  simp only [andThen, leaves]
  refine DWp.cond' (t := (bnot r1)) (by simp []) (fun hb16 => ?_) (fun hb16 => ?_)
  · replace hF := cd_t hb16 hF
    refine DWp.seq ?_
    refine DWp.region fun K hK => ?_
    simp [-aBin', -aBin, -aBinI, -aUn, -aNil, -flatV, n_fn, b_add, b_sub, b_mul, b_lt, b_le, b_gt, b_ge, b_eq, b_ne, u_not]
    apply hK
    clear hK K
    simp only [andThen, leaves]
    refine DWp.ret ?_
    simp only [andThen, leaves]
    obtain rfl := Option.some.inj hF
    exact ⟨by simp, [(Value.int .i64 0), (Value.int .i64 0), (Value.bool false)], by simp [], A13, rfl, S12.pick [] (by decide) rfl⟩
  · replace hF := cd_f hb16 hF
    refine DWp.skip ?_
    simp only [andThen, leaves]
    refine DWp.seq ?_
    have q17 := S12.loadAgg (P := Try.prog) (k := 0) rfl sz_26 ag_26 rfl
    obtain ⟨r2, hc18, hF⟩ := bd_some hF
    refine DWp.region fun K hK => ?_
    simp [-aBin', -aBin, -aBinI, -aUn, -aNil, -flatV, n_fn, b_add, b_sub, b_mul, b_lt, b_le, b_gt, b_ge, b_eq, b_ne, u_not, q17, ((hx0_0.agree A13.agree).tup), ((hx0_1.agree A13.agree).tup)]
    refine CallD.t (F_impl_Seaweed_groups_w (fu := fu) (hx0_0.agree A13.agree) (hx0_1.agree A13.agree) hc18) ?_
    rintro _ G20 ⟨a23, c19_u0, c19_C0, c19_u2, c19_C2, rfl, S24⟩
    have A22 := A13.ext (hB.le A13.1) a23.agree
    have S21 : Sep G20 (Fr H) [AL.box p4 [v0_0, v0_1], rowsC c19_u0 22 3 c19_C0 (List.map ints r2.1), rowsC c19_u2 22 3 c19_C2 (List.map ints r2.2)] := S12.app a23.agree S24 (fun _ h => h) (hB.le A13.1)
    simp [-aBin', -aBin, -aBinI, -aUn, -aNil, -flatV, n_fn, b_add, b_sub, b_mul, b_lt, b_le, b_gt, b_ge, b_eq, b_ne, u_not, q17, a23.pre]
    apply hK
    clear hK K
    simp only [andThen, leaves]
    refine DWp.seq ?_
    have q25 := (S21.rd (k := 1) rfl).lenG (P := Try.prog) el_46
    have q26 := (S21.rd (k := 2) rfl).lenG (P := Try.prog) el_46
    refine DWp.region fun K hK => ?_
    simp [-aBin', -aBin, -aBinI, -aUn, -aNil, -flatV, n_fn, b_add, b_sub, b_mul, b_lt, b_le, b_gt, b_ge, b_eq, b_ne, u_not, q25, q26]
    apply hK
    clear hK K
    simp only [andThen, leaves]
    refine DWp.ret ?_
    obtain rfl := Option.some.inj hF
    exact ⟨by simp, [(Value.int .i64 (llen r2.1)), (Value.int .i64 (llen r2.2)), (Value.bool true)], by simp [], A22, rfl, S21.pick [] (by decide) rfl⟩
end Go.Proofs.Ytfccbmpfnonjiaa.AL

/- The walks of functions, each with its Lean function: laws.markMeander, laws.heldIntS, laws.heldMeander, laws.FnExactInsertPair. No condition. -/
import Derived.Test.YtbckijeffiofdaaG1
import Derived.Test.YtbckijeffiofdaaG2
import Derived.Test.YtbckijeffiofdaaAL26
import Derived.Test.YtbckijeffiofdaaProg
import Derived.KernelRfl
namespace Go.Proofs.Ytbckijeffiofdaa.AL
open Go Go.RowKit
set_option linter.unusedVariables false
set_option linter.unusedSimpArgs false
set_option maxRecDepth 4096
theorem ag_24 : aggT Try.prog 24 = some true := by kernel_rfl
theorem sz_24 : sizeT Try.prog 24 = some 2 := by kernel_rfl
theorem un_4 : Try.prog.underlying 4 = some .bool := by kernel_rfl
/-! loop.example/g01126/laws.markMeander -/
def F_laws_markMeander (fu : Nat) (x0_0 : List Int) (x0_1 : List Int) (x1 : Int) : Option (Int × List Int × List Int) :=
  bd (F_laws_markIntS fu x0_0 x1) fun r1 =>
  bd (F_laws_markIntS fu x0_1 r1.1) fun r2 =>
  some (r2.1, r1.2, r2.2)
theorem F_laws_markMeander_w {fu : Nat} {H : AH} {B : Nat → Prop} {v0_0 : Value} {v0_1 : Value} {x0_0 : List Int} {x0_1 : List Int} {x1 : Int} {r : (Int × List Int × List Int)} (hB : Up B H.length) (S0 : Sep H B [flat v0_0 3 (ints x0_0), flat v0_1 3 (ints x0_1)]) (hF : F_laws_markMeander fu x0_0 x0_1 x1 = some r) :
    ACallT Try.prog 33 [(Value.agg #[v0_0, v0_1]), (Value.int .i64 x1)] H (fun u G => AgB B H G ∧ u = (Value.int .i64 r.1) ∧ Sep G B [flat v0_0 3 (ints r.2.1), flat v0_1 3 (ints r.2.2)]) := by
  refine ACallT.of_body (nt := 14) (rs := [.tmp 4]) Try.func33 rfl rfl rfl rfl ?_
  have A0 : AgB B H H := .refl _ _
  unfold F_laws_markMeander at hF
  refine DWp.seq ?_
  obtain ⟨G2, p4, q5, q6, a7, S1⟩ := S0.boxT (hB.le A0.1) 28 [v0_0, v0_1]
  have A3 := A0.ext (hB.le A0.1) a7
  replace S1 : Sep G2 B [flat v0_0 3 (ints x0_0), flat v0_1 3 (ints x0_1), AL.box p4 [v0_0, v0_1]] := S1
  refine DWp.region fun K hK => ?_
  simp [-aBin', -aBin, -aBinI, -aUn, -aNil, -flatV, n_fn, b_add, b_sub, b_mul, b_lt, b_le, b_gt, b_ge, b_eq, b_ne, u_not, q5, q6, a7.to_pre, cells_agg]
  apply hK
  clear hK K
  simp only [andThen, leaves]
  refine DWp.seq ?_
  have q8 := S1.fieldT (P := Try.prog) (k := 2) rfl fa_28_0
  have q9 := S1.loadF (P := Try.prog) (k := 2) rfl sz_22 ag_22 (off := 0) rfl
  obtain ⟨r1, hc10, hF⟩ := bd_some hF
  refine DWp.region fun K hK => ?_
  simp [-aBin', -aBin, -aBinI, -aUn, -aNil, -flatV, n_fn, b_add, b_sub, b_mul, b_lt, b_le, b_gt, b_ge, b_eq, b_ne, u_not, q8, q9, ((S1.sl (k := 0) rfl).tup)]
  have S11 : Sep G2 B ([flat v0_0 3 (ints x0_0)] ++ [flat v0_1 3 (ints x0_1), AL.box p4 [v0_0, v0_1]]) := S1.pick [0, 1, 2] (by decide) rfl
  obtain ⟨B17, S12, U13, M14, R15, C16⟩ := S11.frame (hB.le A3.1)
  refine CallD.t (F_laws_markIntS_w (fu := fu) U13 S12 hc10) ?_
  rintro _ G19 ⟨a22, rfl, S23⟩
  have A21 := A3.trans (a22.mono M14)
  have S20 : Sep G19 B [flat v0_0 3 (ints r1.2), flat v0_1 3 (ints x0_1), AL.box p4 [v0_0, v0_1]] := C16 _ _ a22 S23
  simp [-aBin', -aBin, -aBinI, -aUn, -aNil, -flatV, n_fn, b_add, b_sub, b_mul, b_lt, b_le, b_gt, b_ge, b_eq, b_ne, u_not, q8, q9]
  apply hK
  clear hK K
  simp only [andThen, leaves]
  refine DWp.seq ?_
  have q24 := S20.fieldT (P := Try.prog) (k := 2) rfl fa_28_1
  have q25 := S20.loadF (P := Try.prog) (k := 2) rfl sz_22 ag_22 (off := 1) rfl
  obtain ⟨r2, hc26, hF⟩ := bd_some hF
  refine DWp.region fun K hK => ?_
  simp [-aBin', -aBin, -aBinI, -aUn, -aNil, -flatV, n_fn, b_add, b_sub, b_mul, b_lt, b_le, b_gt, b_ge, b_eq, b_ne, u_not, q24, q25, ((S20.sl (k := 1) rfl).tup)]
  have S27 : Sep G19 B ([flat v0_1 3 (ints x0_1)] ++ [flat v0_0 3 (ints r1.2), AL.box p4 [v0_0, v0_1]]) := S20.pick [1, 0, 2] (by decide) rfl
  obtain ⟨B33, S28, U29, M30, R31, C32⟩ := S27.frame (hB.le A21.1)
  refine CallD.t (F_laws_markIntS_w (fu := fu) U29 S28 hc26) ?_
  rintro _ G35 ⟨a38, rfl, S39⟩
  have A37 := A21.trans (a38.mono M30)
  have S36 : Sep G35 B [flat v0_1 3 (ints r2.2), flat v0_0 3 (ints r1.2), AL.box p4 [v0_0, v0_1]] := C32 _ _ a38 S39
  simp [-aBin', -aBin, -aBinI, -aUn, -aNil, -flatV, n_fn, b_add, b_sub, b_mul, b_lt, b_le, b_gt, b_ge, b_eq, b_ne, u_not, q24, q25]
  apply hK
  clear hK K
  simp only [andThen, leaves]
  refine DWp.seq ?_
  refine DWp.region fun K hK => ?_
  simp [-aBin', -aBin, -aBinI, -aUn, -aNil, -flatV, n_fn, b_add, b_sub, b_mul, b_lt, b_le, b_gt, b_ge, b_eq, b_ne, u_not]
  apply hK
  clear hK K
  simp only [andThen, leaves]
  refine DWp.ret ?_
  obtain rfl := Option.some.inj hF
  exact ⟨by simp, [(Value.int .i64 r2.1)], by simp [], A37, rfl, S36.pick [1, 0] (by decide) rfl⟩
/-! loop.example/g01126/laws.heldIntS -/
def F_laws_heldIntS_L1 (fu : Nat) (k1_0 : List Int) : Nat → Int → Int → Option (LR (Int) (Int × Int))
  | 0, _, _ => none
  | n + 1, y1_1, y1_5 =>
    bif (ilt y1_5 (llen k1_0)) then
      gd (inL k1_0 y1_5) (
      bif (ine (gat 0 k1_0 y1_5) y1_1) then
        some (.ret (-1))
      else
        F_laws_heldIntS_L1 fu k1_0 n (iadd .i64 y1_1 1) (iadd .i64 y1_5 1))
    else
      some (.brk (y1_1, y1_5))
def F_laws_heldIntS (fu : Nat) (x0 : List Int) (x1 : Int) : Option (Int) :=
  bd (F_laws_heldIntS_L1 fu x0 fu x1 0) fun s1 =>
  lr s1 fun s1 =>
  some s1.1
theorem F_laws_heldIntS_w {fu : Nat} {H : AH} {v0 : Value} {x0 : List Int} {x1 : Int} {r : (Int)} (hx0 : Sl H v0 (ints x0)) (hF : F_laws_heldIntS fu x0 x1 = some r) :
    ACallT Try.prog 62 [v0, (Value.int .i64 x1)] H (fun u G => AgB (Fr H) H G ∧ u = (Value.int .i64 r) ∧ Sep G (Fr H) []) := by
  refine ACallT.of_body (nt := 21) (rs := [.tmp 4]) Try.func62 rfl rfl rfl rfl ?_
  have A0 : AgB (Fr H) H H := .refl _ _
  have S0 : Sep H (Fr H) [] := .nil
  have hB := Fr.up H
  unfold F_laws_heldIntS at hF
  refine DWp.seq ?_
  refine DWp.region fun K hK => ?_
  simp [-aBin', -aBin, -aBinI, -aUn, -aNil, -flatV, n_fn, b_add, b_sub, b_mul, b_lt, b_le, b_gt, b_ge, b_eq, b_ne, u_not]
  apply hK
  clear hK K
  simp only [andThen, leaves]
  refine DWp.seq ?_
  refine DWp.seq ?_
  refine DWp.region fun K hK => ?_
  simp [-aBin', -aBin, -aBinI, -aUn, -aNil, -flatV, n_fn, b_add, b_sub, b_mul, b_lt, b_le, b_gt, b_ge, b_eq, b_ne, u_not]
  apply hK
  clear hK K
  simp only [andThen, leaves]
  refine DWp.block ?_
  obtain ⟨s1, hL2, hF⟩ := bd_some hF
  have S3 := S0.pick [] (by decide) rfl
  refine DWp.loop (fun n env G => ∃ y1_1 : Int, ∃ y1_5 : Int, F_laws_heldIntS_L1 fu x0 n y1_1 y1_5 = some s1 ∧ Sep G (Fr H) [] ∧ AgB (Fr H) H G ∧ env 0 = some v0 ∧ env 1 = some (Value.int .i64 y1_1) ∧ env 5 = some (Value.int .i64 y1_5)) fu ⟨x1, 0, hL2, S3, A0, by simp [], by simp [], by simp []⟩ ?_
  rintro n1 env1 G1_ ⟨y1_1, y1_5, hL2, S1_, A1_, e1_0, e1_1, e1_5⟩
  cases n1 with
  | zero => cases hL2
  | succ n1 =>
    simp only [F_laws_heldIntS_L1] at hL2
    refine DWp.seq ?_
    refine DWp.seq ?_
    have q4 := lenG (P := Try.prog) (hx0.agree A1_.agree) el_22
    refine DWp.region fun K hK => ?_
    simp [-aBin', -aBin, -aBinI, -aUn, -aNil, -flatV, n_fn, b_add, b_sub, b_mul, b_lt, b_le, b_gt, b_ge, b_eq, b_ne, u_not, e1_0, e1_1, e1_5, q4]
    apply hK
    clear hK K
    simp only [andThen, leaves]
    refine DWp.cond' (t := (ilt y1_5 (llen x0))) (by simp [e1_0, e1_1, e1_5]) (fun hb5 => ?_) (fun hb5 => ?_)
    · replace hL2 := cd_t hb5 hL2
      refine DWp.skip ?_
      simp only [andThen, leaves]
      refine DWp.seq ?_
      refine DWp.block ?_
      refine DWp.seq ?_
      refine DWp.seq ?_
      obtain ⟨g6, hL2⟩ := gd_some hL2
      have q7 := idxG (P := Try.prog) (kk := .i64) (hx0.agree A1_.agree) el_22 sz_3 g6
      have q8 := loadG (P := Try.prog) (hx0.agree A1_.agree) sz_3 ag_3 g6 0
      refine DWp.region fun K hK => ?_
      simp [-aBin', -aBin, -aBinI, -aUn, -aNil, -flatV, n_fn, b_add, b_sub, b_mul, b_lt, b_le, b_gt, b_ge, b_eq, b_ne, u_not, e1_0, e1_1, e1_5, q7, q8]
      apply hK
      clear hK K
      simp only [andThen, leaves]
      refine DWp.cond' (t := (ine (gat 0 x0 y1_5) y1_1)) (by simp [e1_0, e1_1, e1_5]) (fun hb9 => ?_) (fun hb9 => ?_)
      · replace hL2 := cd_t hb9 hL2
        refine DWp.seq ?_
        refine DWp.region fun K hK => ?_
        simp [-aBin', -aBin, -aBinI, -aUn, -aNil, -flatV, n_fn, b_add, b_sub, b_mul, b_lt, b_le, b_gt, b_ge, b_eq, b_ne, u_not, e1_0, e1_1, e1_5]
        apply hK
        clear hK K
        simp only [andThen, leaves]
        refine DWp.ret ?_
        simp only [andThen, leaves]
        obtain rfl := Option.some.inj hL2
        simp only [lr] at hF
        obtain rfl := Option.some.inj hF
        exact ⟨by simp, [(Value.int .i64 (-1))], by simp [e1_0, e1_1, e1_5], A1_, rfl, S1_.pick [] (by decide) rfl⟩
      · replace hL2 := cd_f hb9 hL2
        refine DWp.skip ?_
        simp only [andThen, leaves]
        refine DWp.region fun K hK => ?_
        simp [-aBin', -aBin, -aBinI, -aUn, -aNil, -flatV, n_fn, b_add, b_sub, b_mul, b_lt, b_le, b_gt, b_ge, b_eq, b_ne, u_not, e1_0, e1_1, e1_5]
        apply hK
        clear hK K
        simp only [andThen, leaves]
        refine DWp.region fun K hK => ?_
        simp [-aBin', -aBin, -aBinI, -aUn, -aNil, -flatV, n_fn, b_add, b_sub, b_mul, b_lt, b_le, b_gt, b_ge, b_eq, b_ne, u_not, e1_0, e1_1, e1_5]
        apply hK
        clear hK K
        simp only [andThen, leaves]
        have S10 := S1_.pick [] (by decide) rfl
        exact ⟨n1, Nat.lt_succ_self _, (iadd .i64 y1_1 1), (iadd .i64 y1_5 1), hL2, S10, A1_, by simp [e1_0, e1_1, e1_5], by simp [e1_0, e1_1, e1_5], by simp [e1_0, e1_1, e1_5]⟩
    · replace hL2 := cd_f hb5 hL2
      refine DWp.exit ?_
      simp only [andThen, leaves, if_true, if_false, reduceIte, Nat.reduceEqDiff]
      obtain rfl := Option.some.inj hL2
      simp only [lr] at hF
      refine DWp.seq ?_
      refine DWp.region fun K hK => ?_
      simp [-aBin', -aBin, -aBinI, -aUn, -aNil, -flatV, n_fn, b_add, b_sub, b_mul, b_lt, b_le, b_gt, b_ge, b_eq, b_ne, u_not, e1_0, e1_1, e1_5]
      apply hK
      clear hK K
      simp only [andThen, leaves]
      refine DWp.ret ?_
      obtain rfl := Option.some.inj hF
      exact ⟨by simp, [(Value.int .i64 y1_1)], by simp [e1_0, e1_1, e1_5], A1_, rfl, S1_.pick [] (by decide) rfl⟩
/-! loop.example/g01126/laws.heldMeander -/
def F_laws_heldMeander (fu : Nat) (x0_0 : List Int) (x0_1 : List Int) (x1 : Int) : Option (Int) :=
  bd (F_laws_heldIntS fu x0_0 x1) fun r1 =>
  bif (ilt r1 0) then
    some (-1)
  else
    bd (F_laws_heldIntS fu x0_1 r1) fun r2 =>
    bif (ilt r2 0) then
      some (-1)
    else
      some r2
theorem F_laws_heldMeander_w {fu : Nat} {H : AH} {v0_0 : Value} {v0_1 : Value} {x0_0 : List Int} {x0_1 : List Int} {x1 : Int} {r : (Int)} (hx0_0 : Sl H v0_0 (ints x0_0)) (hx0_1 : Sl H v0_1 (ints x0_1)) (hF : F_laws_heldMeander fu x0_0 x0_1 x1 = some r) :
    ACallT Try.prog 38 [(Value.agg #[v0_0, v0_1]), (Value.int .i64 x1)] H (fun u G => AgB (Fr H) H G ∧ u = (Value.int .i64 r) ∧ Sep G (Fr H) []) := by
  refine ACallT.of_body (nt := 18) (rs := [.tmp 4]) Try.func38 rfl rfl rfl rfl ?_
  have A0 : AgB (Fr H) H H := .refl _ _
  have S0 : Sep H (Fr H) [] := .nil
  have hB := Fr.up H
  unfold F_laws_heldMeander at hF
  refine DWp.seq ?_
  obtain ⟨G2, p4, q5, q6, a7, S1⟩ := S0.boxT (hB.le A0.1) 28 [v0_0, v0_1]
  have A3 := A0.ext (hB.le A0.1) a7
  replace S1 : Sep G2 (Fr H) [AL.box p4 [v0_0, v0_1]] := S1
  refine DWp.region fun K hK => ?_
  simp [-aBin', -aBin, -aBinI, -aUn, -aNil, -flatV, n_fn, b_add, b_sub, b_mul, b_lt, b_le, b_gt, b_ge, b_eq, b_ne, u_not, q5, q6, a7.to_pre, cells_agg]
  apply hK
  clear hK K
  simp only [andThen, leaves]
  refine DWp.seq ?_
  have q8 := S1.fieldT (P := Try.prog) (k := 0) rfl fa_28_0
  have q9 := S1.loadF (P := Try.prog) (k := 0) rfl sz_22 ag_22 (off := 0) rfl
  obtain ⟨r1, hc10, hF⟩ := bd_some hF
  refine DWp.region fun K hK => ?_
  simp [-aBin', -aBin, -aBinI, -aUn, -aNil, -flatV, n_fn, b_add, b_sub, b_mul, b_lt, b_le, b_gt, b_ge, b_eq, b_ne, u_not, q8, q9, ((hx0_0.agree A3.agree).tup)]
  refine CallD.t (F_laws_heldIntS_w (fu := fu) (hx0_0.agree A3.agree) hc10) ?_
  rintro _ G12 ⟨a15, rfl, S16⟩
  have A14 := A3.ext (hB.le A3.1) a15.agree
  have S13 : Sep G12 (Fr H) [AL.box p4 [v0_0, v0_1]] := S1.app a15.agree S16 (fun _ h => h) (hB.le A3.1)
  simp [-aBin', -aBin, -aBinI, -aUn, -aNil, -flatV, n_fn, b_add, b_sub, b_mul, b_lt, b_le, b_gt, b_ge, b_eq, b_ne, u_not, q8, q9, a15.pre]
  apply hK
  clear hK K
  simp only [andThen, leaves]
  refine DWp.seq ?_
  refine DWp.seq ?_
  refine DWp.region fun K hK => ?_
  simp [-aBin', -aBin, -aBinI, -aUn, -aNil, -flatV, n_fn, b_add, b_sub, b_mul, b_lt, b_le, b_gt, b_ge, b_eq, b_ne, u_not]
  apply hK
  clear hK K
  simp only [andThen, leaves]
  refine DWp.cond' (t := (ilt r1 0)) (by simp []) (fun hb17 => ?_) (fun hb17 => ?_)
  · replace hF := cd_t hb17 hF
    refine DWp.seq ?_
    refine DWp.region fun K hK => ?_
    simp [-aBin', -aBin, -aBinI, -aUn, -aNil, -flatV, n_fn, b_add, b_sub, b_mul, b_lt, b_le, b_gt, b_ge, b_eq, b_ne, u_not]
    apply hK
    clear hK K
    simp only [andThen, leaves]
    refine DWp.ret ?_
    simp only [andThen, leaves]
    obtain rfl := Option.some.inj hF
    exact ⟨by simp, [(Value.int .i64 (-1))], by simp [], A14, rfl, S13.pick [] (by decide) rfl⟩
  · replace hF := cd_f hb17 hF
    refine DWp.skip ?_
    simp only [andThen, leaves]
    refine DWp.seq ?_
    have q18 := S13.fieldT (P := Try.prog) (k := 0) rfl fa_28_1
    have q19 := S13.loadF (P := Try.prog) (k := 0) rfl sz_22 ag_22 (off := 1) rfl
    obtain ⟨r2, hc20, hF⟩ := bd_some hF
    refine DWp.region fun K hK => ?_
    simp [-aBin', -aBin, -aBinI, -aUn, -aNil, -flatV, n_fn, b_add, b_sub, b_mul, b_lt, b_le, b_gt, b_ge, b_eq, b_ne, u_not, q18, q19, ((hx0_1.agree A14.agree).tup)]
    refine CallD.t (F_laws_heldIntS_w (fu := fu) (hx0_1.agree A14.agree) hc20) ?_
    rintro _ G22 ⟨a25, rfl, S26⟩
    have A24 := A14.ext (hB.le A14.1) a25.agree
    have S23 : Sep G22 (Fr H) [AL.box p4 [v0_0, v0_1]] := S13.app a25.agree S26 (fun _ h => h) (hB.le A14.1)
    simp [-aBin', -aBin, -aBinI, -aUn, -aNil, -flatV, n_fn, b_add, b_sub, b_mul, b_lt, b_le, b_gt, b_ge, b_eq, b_ne, u_not, q18, q19, a25.pre]
    apply hK
    clear hK K
    simp only [andThen, leaves]
    refine DWp.seq ?_
    refine DWp.seq ?_
    refine DWp.region fun K hK => ?_
    simp [-aBin', -aBin, -aBinI, -aUn, -aNil, -flatV, n_fn, b_add, b_sub, b_mul, b_lt, b_le, b_gt, b_ge, b_eq, b_ne, u_not]
    apply hK
    clear hK K
    simp only [andThen, leaves]
    refine DWp.cond' (t := (ilt r2 0)) (by simp []) (fun hb27 => ?_) (fun hb27 => ?_)
    · replace hF := cd_t hb27 hF
      refine DWp.seq ?_
      refine DWp.region fun K hK => ?_
      simp [-aBin', -aBin, -aBinI, -aUn, -aNil, -flatV, n_fn, b_add, b_sub, b_mul, b_lt, b_le, b_gt, b_ge, b_eq, b_ne, u_not]
      apply hK
      clear hK K
      simp only [andThen, leaves]
      refine DWp.ret ?_
      simp only [andThen, leaves]
      obtain rfl := Option.some.inj hF
      exact ⟨by simp, [(Value.int .i64 (-1))], by simp [], A24, rfl, S23.pick [] (by decide) rfl⟩
    · replace hF := cd_f hb27 hF
      refine DWp.skip ?_
      simp only [andThen, leaves]
      refine DWp.seq ?_
      refine DWp.region fun K hK => ?_
      simp [-aBin', -aBin, -aBinI, -aUn, -aNil, -flatV, n_fn, b_add, b_sub, b_mul, b_lt, b_le, b_gt, b_ge, b_eq, b_ne, u_not]
      apply hK
      clear hK K
      simp only [andThen, leaves]
      refine DWp.ret ?_
      obtain rfl := Option.some.inj hF
      exact ⟨by simp, [(Value.int .i64 r2)], by simp [], A24, rfl, S23.pick [] (by decide) rfl⟩
/-! loop.example/g01126/laws.FnExactInsertPair -/
def F_laws_FnExactInsertPair (fu : Nat) (x0_0 : List Int) (x0_1 : List Int) (x1 : Int) (x2_0 : List Int) (x2_1 : List Int) : Option (Bool) :=
  bd (F_laws_szMeander fu x0_0 x0_1 1048576) fun r1 =>
  bif (ilt r1 0) then
    some true
  else
    bd (F_laws_szMeander fu x2_0 x2_1 r1) fun r2 =>
    bif (ilt r2 0) then
      some true
    else
      bd (F_laws_toMeander fu x0_0 x0_1) fun r3 =>
      bd (F_laws_toMeander fu x2_0 x2_1) fun r4 =>
      bd (F_spec_InsertPair fu r3.1 r3.2 x1 r4.1 r4.2) fun r5 =>
      bd (F_laws_toMeander fu x0_0 x0_1) fun r6 =>
      bd (F_laws_toMeander fu x2_0 x2_1) fun r7 =>
      bd (F_impl_InsertPair fu r6.1 r6.2 x1 r7.1 r7.2) fun r8 =>
      bd (
        bd (F_laws_eqMeander fu r8.1.1 r8.1.2 r5.1.1 r5.1.2) fun r9 =>
        bif (bnot r9) then
          some true
        else
          some (bne' r8.2 r5.2)) fun s129 =>
      bif s129 then
        some false
      else
        bd (F_laws_toMeander fu x0_0 x0_1) fun r10 =>
        bd (F_laws_eqMeander fu r6.1 r6.2 r10.1 r10.2) fun r11 =>
        bif (bnot r11) then
          some false
        else
          bd (F_laws_toMeander fu x2_0 x2_1) fun r12 =>
          bd (F_laws_eqMeander fu r7.1 r7.2 r12.1 r12.2) fun r13 =>
          bif (bnot r13) then
            some false
          else
            bd (F_laws_markMeander fu r6.1 r6.2 1) fun r14 =>
            bd (F_laws_markMeander fu r7.1 r7.2 r14.1) fun r15 =>
            bd (
              bif (ilt r15.1 0) then
                some true
              else
                bd (F_laws_eqMeander fu r8.1.1 r8.1.2 r5.1.1 r5.1.2) fun r16 =>
                bif (bnot r16) then
                  some true
                else
                  some (bne' r8.2 r5.2)) fun s210 =>
            bif s210 then
              some false
            else
              bd (F_laws_markMeander fu r8.1.1 r8.1.2 1) fun r17 =>
              bd (F_laws_heldMeander fu r17.2.1 r17.2.2 1) fun r18 =>
              bif (ilt r18 0) then
                some false
              else
                bif (ine r18 r17.1) then
                  some false
                else
                  bd (F_laws_toMeander fu x0_0 x0_1) fun r19 =>
                  bd (F_laws_toMeander fu x2_0 x2_1) fun r20 =>
                  bd (F_impl_InsertPair fu r19.1 r19.2 x1 r20.1 r20.2) fun r21 =>
                  bd (
                    bd (F_laws_eqMeander fu r21.1.1 r21.1.2 r5.1.1 r5.1.2) fun r22 =>
                    bif (bnot r22) then
                      some true
                    else
                      some (bne' r21.2 r5.2)) fun s289 =>
                  bif s289 then
                    some false
                  else
                    bd (F_laws_heldMeander fu r17.2.1 r17.2.2 1) fun r23 =>
                    bif (ilt r23 0) then
                      some false
                    else
                      bif (ine r23 r17.1) then
                        some false
                      else
                        some true
theorem F_laws_FnExactInsertPair_w {fu : Nat} {H : AH} {v0_0 : Value} {v0_1 : Value} {v2_0 : Value} {v2_1 : Value} {x0_0 : List Int} {x0_1 : List Int} {x1 : Int} {x2_0 : List Int} {x2_1 : List Int} {r : (Bool)} (hx0_0 : Sl H v0_0 (ints x0_0)) (hx0_1 : Sl H v0_1 (ints x0_1)) (hx2_0 : Sl H v2_0 (ints x2_0)) (hx2_1 : Sl H v2_1 (ints x2_1)) (hF : F_laws_FnExactInsertPair fu x0_0 x0_1 x1 x2_0 x2_1 = some r) :
    ACallT Try.prog 9 [(Value.agg #[v0_0, v0_1]), (Value.int .i64 x1), (Value.agg #[v2_0, v2_1])] H (fun u G => AgB (Fr H) H G ∧ u = (Value.bool r) ∧ Sep G (Fr H) []) := by
  refine ACallT.of_body (nt := 124) (rs := [.tmp 6]) Try.func9 rfl rfl rfl rfl ?_
  have A0 : AgB (Fr H) H H := .refl _ _
  have S0 : Sep H (Fr H) [] := .nil
  have hB := Fr.up H
  unfold F_laws_FnExactInsertPair at hF
  refine DWp.seq ?_
  obtain ⟨G2, p4, q5, q6, a7, S1⟩ := S0.boxT (hB.le A0.1) 24 [v0_0, v0_1]
  have A3 := A0.ext (hB.le A0.1) a7
  replace S1 : Sep G2 (Fr H) [AL.box p4 [v0_0, v0_1]] := S1
  obtain ⟨G9, p11, q12, q13, a14, S8⟩ := S1.boxT (hB.le A3.1) 24 [v2_0, v2_1]
  have A10 := A3.ext (hB.le A3.1) a14
  replace S8 : Sep G9 (Fr H) [AL.box p4 [v0_0, v0_1], AL.box p11 [v2_0, v2_1]] := S8
  refine DWp.region fun K hK => ?_
  simp [-aBin', -aBin, -aBinI, -aUn, -aNil, -flatV, n_fn, b_add, b_sub, b_mul, b_lt, b_le, b_gt, b_ge, b_eq, b_ne, u_not, q5, q6, a7.to_pre, cells_agg, q12, q13, a14.to_pre]
  apply hK
  clear hK K
  simp only [andThen, leaves]
  refine DWp.seq ?_
  refine DWp.region fun K hK => ?_
  simp [-aBin', -aBin, -aBinI, -aUn, -aNil, -flatV, n_fn, b_add, b_sub, b_mul, b_lt, b_le, b_gt, b_ge, b_eq, b_ne, u_not]
  apply hK
  clear hK K
  simp only [andThen, leaves]
  refine DWp.seq ?_
  have q15 := S8.loadAgg (P := Try.prog) (k := 0) rfl sz_24 ag_24 rfl
  obtain ⟨r1, hc16, hF⟩ := bd_some hF
  refine DWp.region fun K hK => ?_
  simp [-aBin', -aBin, -aBinI, -aUn, -aNil, -flatV, n_fn, b_add, b_sub, b_mul, b_lt, b_le, b_gt, b_ge, b_eq, b_ne, u_not, q15, ((hx0_0.agree A10.agree).tup), ((hx0_1.agree A10.agree).tup)]
  refine CallD.t (F_laws_szMeander_w (fu := fu) (hx0_0.agree A10.agree) (hx0_1.agree A10.agree) hc16) ?_
  rintro _ G18 ⟨a21, rfl, S22⟩
  have A20 := A10.ext (hB.le A10.1) a21.agree
  have S19 : Sep G18 (Fr H) [AL.box p4 [v0_0, v0_1], AL.box p11 [v2_0, v2_1]] := S8.app a21.agree S22 (fun _ h => h) (hB.le A10.1)
  simp [-aBin', -aBin, -aBinI, -aUn, -aNil, -flatV, n_fn, b_add, b_sub, b_mul, b_lt, b_le, b_gt, b_ge, b_eq, b_ne, u_not, q15, a21.pre]
  apply hK
  clear hK K
  simp only [andThen, leaves]
  refine DWp.seq ?_
  refine DWp.seq ?_
  refine DWp.region fun K hK => ?_
  simp [-aBin', -aBin, -aBinI, -aUn, -aNil, -flatV, n_fn, b_add, b_sub, b_mul, b_lt, b_le, b_gt, b_ge, b_eq, b_ne, u_not]
  apply hK
  clear hK K
  simp only [andThen, leaves]
  refine DWp.cond' (t := (ilt r1 0)) (by simp []) (fun hb23 => ?_) (fun hb23 => ?_)
  · replace hF := cd_t hb23 hF
    refine DWp.seq ?_
    refine DWp.region fun K hK => ?_
    simp [-aBin', -aBin, -aBinI, -aUn, -aNil, -flatV, n_fn, b_add, b_sub, b_mul, b_lt, b_le, b_gt, b_ge, b_eq, b_ne, u_not]
    apply hK
    clear hK K
    simp only [andThen, leaves]
    refine DWp.ret ?_
    simp only [andThen, leaves]
    obtain rfl := Option.some.inj hF
    exact ⟨by simp, [(Value.bool true)], by simp [], A20, rfl, S19.pick [] (by decide) rfl⟩
  · replace hF := cd_f hb23 hF
    refine DWp.skip ?_
    simp only [andThen, leaves]
    refine DWp.seq ?_
    have q24 := S19.loadAgg (P := Try.prog) (k := 1) rfl sz_24 ag_24 rfl
    obtain ⟨r2, hc25, hF⟩ := bd_some hF
    refine DWp.region fun K hK => ?_
    simp [-aBin', -aBin, -aBinI, -aUn, -aNil, -flatV, n_fn, b_add, b_sub, b_mul, b_lt, b_le, b_gt, b_ge, b_eq, b_ne, u_not, q24, ((hx2_0.agree A20.agree).tup), ((hx2_1.agree A20.agree).tup)]
    refine CallD.t (F_laws_szMeander_w (fu := fu) (hx2_0.agree A20.agree) (hx2_1.agree A20.agree) hc25) ?_
    rintro _ G27 ⟨a30, rfl, S31⟩
    have A29 := A20.ext (hB.le A20.1) a30.agree
    have S28 : Sep G27 (Fr H) [AL.box p4 [v0_0, v0_1], AL.box p11 [v2_0, v2_1]] := S19.app a30.agree S31 (fun _ h => h) (hB.le A20.1)
    simp [-aBin', -aBin, -aBinI, -aUn, -aNil, -flatV, n_fn, b_add, b_sub, b_mul, b_lt, b_le, b_gt, b_ge, b_eq, b_ne, u_not, q24, a30.pre]
    apply hK
    clear hK K
    simp only [andThen, leaves]
    refine DWp.seq ?_
    refine DWp.seq ?_
    refine DWp.region fun K hK => ?_
    simp [-aBin', -aBin, -aBinI, -aUn, -aNil, -flatV, n_fn, b_add, b_sub, b_mul, b_lt, b_le, b_gt, b_ge, b_eq, b_ne, u_not]
    apply hK
    clear hK K
    simp only [andThen, leaves]
    refine DWp.cond' (t := (ilt r2 0)) (by simp []) (fun hb32 => ?_) (fun hb32 => ?_)
    · replace hF := cd_t hb32 hF
      refine DWp.seq ?_
      refine DWp.region fun K hK => ?_
      simp [-aBin', -aBin, -aBinI, -aUn, -aNil, -flatV, n_fn, b_add, b_sub, b_mul, b_lt, b_le, b_gt, b_ge, b_eq, b_ne, u_not]
      apply hK
      clear hK K
      simp only [andThen, leaves]
      refine DWp.ret ?_
      simp only [andThen, leaves]
      obtain rfl := Option.some.inj hF
      exact ⟨by simp, [(Value.bool true)], by simp [], A29, rfl, S28.pick [] (by decide) rfl⟩
    · replace hF := cd_f hb32 hF
      refine DWp.skip ?_
      simp only [andThen, leaves]
      refine DWp.seq ?_
      have q33 := S28.loadAgg (P := Try.prog) (k := 0) rfl sz_24 ag_24 rfl
      obtain ⟨r3, hc34, hF⟩ := bd_some hF
      refine DWp.drawn (B := [0, 1, 0, 0, 11, 31, 63, 127, 127, 0, 767, 2047]) 10 mixed (by kernel_rfl) (by decide) fun K hK => ?_
      simp [-aBin', -aBin, -aBinI, -aUn, -aNil, -flatV, n_fn, b_add, b_sub, b_mul, b_lt, b_le, b_gt, b_ge, b_eq, b_ne, u_not, q33, ((hx0_0.agree A29.agree).tup), ((hx0_1.agree A29.agree).tup)]
      refine CallD.t (F_laws_toMeander_w (fu := fu) (hx0_0.agree A29.agree) (hx0_1.agree A29.agree) hc34) ?_
      rintro _ G36 ⟨a39, c35_u0, c35_u1, rfl, S40⟩
      have A38 := A29.ext (hB.le A29.1) a39.agree
      have S37 : Sep G36 (Fr H) [AL.box p4 [v0_0, v0_1], AL.box p11 [v2_0, v2_1], flat c35_u0 3 (ints r3.1), flat c35_u1 3 (ints r3.2)] := S28.app a39.agree S40 (fun _ h => h) (hB.le A29.1)
      have q41 := S37.loadAgg (P := Try.prog) (k := 1) rfl sz_24 ag_24 rfl
      obtain ⟨r4, hc42, hF⟩ := bd_some hF
      simp [-aBin', -aBin, -aBinI, -aUn, -aNil, -flatV, n_fn, b_add, b_sub, b_mul, b_lt, b_le, b_gt, b_ge, b_eq, b_ne, u_not, q33, a39.pre, q41, ((hx2_0.agree A38.agree).tup), ((hx2_1.agree A38.agree).tup)]
      refine CallD.t (F_laws_toMeander_w (fu := fu) (hx2_0.agree A38.agree) (hx2_1.agree A38.agree) hc42) ?_
      rintro _ G44 ⟨a47, c43_u0, c43_u1, rfl, S48⟩
      have A46 := A38.ext (hB.le A38.1) a47.agree
      have S45 : Sep G44 (Fr H) [AL.box p4 [v0_0, v0_1], AL.box p11 [v2_0, v2_1], flat c35_u0 3 (ints r3.1), flat c35_u1 3 (ints r3.2), flat c43_u0 3 (ints r4.1), flat c43_u1 3 (ints r4.2)] := S37.app a47.agree S48 (fun _ h => h) (hB.le A38.1)
      obtain ⟨r5, hc49, hF⟩ := bd_some hF
      simp [-aBin', -aBin, -aBinI, -aUn, -aNil, -flatV, n_fn, b_add, b_sub, b_mul, b_lt, b_le, b_gt, b_ge, b_eq, b_ne, u_not, q33, a39.pre, q41, a47.pre, ((S45.sl (k := 2) rfl).tup), ((S45.sl (k := 3) rfl).tup), ((S45.sl (k := 4) rfl).tup), ((S45.sl (k := 5) rfl).tup)]
      refine CallD.t (F_spec_InsertPair_w (fu := fu) (S45.sl (k := 2) rfl) (S45.sl (k := 3) rfl) (S45.sl (k := 4) rfl) (S45.sl (k := 5) rfl) hc49) ?_
      rintro _ G51 ⟨a54, c50_u0, c50_u1, rfl, S55⟩
      have A53 := A46.ext (hB.le A46.1) a54.agree
      have S52 : Sep G51 (Fr H) [AL.box p4 [v0_0, v0_1], AL.box p11 [v2_0, v2_1], flat c35_u0 3 (ints r3.1), flat c35_u1 3 (ints r3.2), flat c43_u0 3 (ints r4.1), flat c43_u1 3 (ints r4.2), flat c50_u0 3 (ints r5.1.1), flat c50_u1 3 (ints r5.1.2)] := S45.app a54.agree S55 (fun _ h => h) (hB.le A46.1)
      obtain ⟨G57, p59, q60, q62, a61, S56⟩ := S52.allocT (P := Try.prog) (hB.le A53.1) ze_28 rfl
      have A58 := A53.ext (hB.le A53.1) a61
      replace S56 : Sep G57 (Fr H) [AL.box p4 [v0_0, v0_1], AL.box p11 [v2_0, v2_1], flat c35_u0 3 (ints r3.1), flat c35_u1 3 (ints r3.2), flat c43_u0 3 (ints r4.1), flat c43_u1 3 (ints r4.2), flat c50_u0 3 (ints r5.1.1), flat c50_u1 3 (ints r5.1.2), AL.box p59 [(Value.slice none 0 0), (Value.slice none 0 0)]] := S56
      obtain ⟨G63, q64, S65, a67⟩ := S56.putAgg (P := Try.prog) (k := 8) (xs := [c50_u0, c50_u1]) rfl (hB.le A58.1) sz_28 rfl rfl
      have A66 := A58.trans a67
      replace S65 : Sep G63 (Fr H) [AL.box p4 [v0_0, v0_1], AL.box p11 [v2_0, v2_1], flat c35_u0 3 (ints r3.1), flat c35_u1 3 (ints r3.2), flat c43_u0 3 (ints r4.1), flat c43_u1 3 (ints r4.2), flat c50_u0 3 (ints r5.1.1), flat c50_u1 3 (ints r5.1.2), AL.box p59 [c50_u0, c50_u1]] := S65
      simp [-aBin', -aBin, -aBinI, -aUn, -aNil, -flatV, n_fn, b_add, b_sub, b_mul, b_lt, b_le, b_gt, b_ge, b_eq, b_ne, u_not, q33, a39.pre, q41, a47.pre, a54.pre, q60, q62, a61.to_pre, q64]
      apply hK
      clear hK K
      simp only [andThen, leaves]
      refine DWp.seq ?_
      have q68 := S65.loadAgg (P := Try.prog) (k := 0) rfl sz_24 ag_24 rfl
      obtain ⟨r6, hc69, hF⟩ := bd_some hF
      refine DWp.region fun K hK => ?_
      simp [-aBin', -aBin, -aBinI, -aUn, -aNil, -flatV, n_fn, b_add, b_sub, b_mul, b_lt, b_le, b_gt, b_ge, b_eq, b_ne, u_not, q68, ((hx0_0.agree A66.agree).tup), ((hx0_1.agree A66.agree).tup)]
      refine CallD.t (F_laws_toMeander_w (fu := fu) (hx0_0.agree A66.agree) (hx0_1.agree A66.agree) hc69) ?_
      rintro _ G71 ⟨a74, c70_u0, c70_u1, rfl, S75⟩
      have A73 := A66.ext (hB.le A66.1) a74.agree
      have S72 : Sep G71 (Fr H) [AL.box p4 [v0_0, v0_1], AL.box p11 [v2_0, v2_1], flat c35_u0 3 (ints r3.1), flat c35_u1 3 (ints r3.2), flat c43_u0 3 (ints r4.1), flat c43_u1 3 (ints r4.2), flat c50_u0 3 (ints r5.1.1), flat c50_u1 3 (ints r5.1.2), AL.box p59 [c50_u0, c50_u1], flat c70_u0 3 (ints r6.1), flat c70_u1 3 (ints r6.2)] := S65.app a74.agree S75 (fun _ h => h) (hB.le A66.1)
      obtain ⟨G77, p79, q80, q82, a81, S76⟩ := S72.allocT (P := Try.prog) (hB.le A73.1) ze_28 rfl
      have A78 := A73.ext (hB.le A73.1) a81
      replace S76 : Sep G77 (Fr H) [AL.box p4 [v0_0, v0_1], AL.box p11 [v2_0, v2_1], flat c35_u0 3 (ints r3.1), flat c35_u1 3 (ints r3.2), flat c43_u0 3 (ints r4.1), flat c43_u1 3 (ints r4.2), flat c50_u0 3 (ints r5.1.1), flat c50_u1 3 (ints r5.1.2), AL.box p59 [c50_u0, c50_u1], flat c70_u0 3 (ints r6.1), flat c70_u1 3 (ints r6.2), AL.box p79 [(Value.slice none 0 0), (Value.slice none 0 0)]] := S76
      obtain ⟨G83, q84, S85, a87⟩ := S76.putAgg (P := Try.prog) (k := 11) (xs := [c70_u0, c70_u1]) rfl (hB.le A78.1) sz_28 rfl rfl
      have A86 := A78.trans a87
      replace S85 : Sep G83 (Fr H) [AL.box p4 [v0_0, v0_1], AL.box p11 [v2_0, v2_1], flat c35_u0 3 (ints r3.1), flat c35_u1 3 (ints r3.2), flat c43_u0 3 (ints r4.1), flat c43_u1 3 (ints r4.2), flat c50_u0 3 (ints r5.1.1), flat c50_u1 3 (ints r5.1.2), AL.box p59 [c50_u0, c50_u1], flat c70_u0 3 (ints r6.1), flat c70_u1 3 (ints r6.2), AL.box p79 [c70_u0, c70_u1]] := S85
      simp [-aBin', -aBin, -aBinI, -aUn, -aNil, -flatV, n_fn, b_add, b_sub, b_mul, b_lt, b_le, b_gt, b_ge, b_eq, b_ne, u_not, q68, a74.pre, q80, q82, a81.to_pre, q84]
      apply hK
      clear hK K
      simp only [andThen, leaves]
      refine DWp.seq ?_
      have q88 := S85.loadAgg (P := Try.prog) (k := 1) rfl sz_24 ag_24 rfl
      obtain ⟨r7, hc89, hF⟩ := bd_some hF
      refine DWp.region fun K hK => ?_
      simp [-aBin', -aBin, -aBinI, -aUn, -aNil, -flatV, n_fn, b_add, b_sub, b_mul, b_lt, b_le, b_gt, b_ge, b_eq, b_ne, u_not, q88, ((hx2_0.agree A86.agree).tup), ((hx2_1.agree A86.agree).tup)]
      refine CallD.t (F_laws_toMeander_w (fu := fu) (hx2_0.agree A86.agree) (hx2_1.agree A86.agree) hc89) ?_
      rintro _ G91 ⟨a94, c90_u0, c90_u1, rfl, S95⟩
      have A93 := A86.ext (hB.le A86.1) a94.agree
      have S92 : Sep G91 (Fr H) [AL.box p4 [v0_0, v0_1], AL.box p11 [v2_0, v2_1], flat c35_u0 3 (ints r3.1), flat c35_u1 3 (ints r3.2), flat c43_u0 3 (ints r4.1), flat c43_u1 3 (ints r4.2), flat c50_u0 3 (ints r5.1.1), flat c50_u1 3 (ints r5.1.2), AL.box p59 [c50_u0, c50_u1], flat c70_u0 3 (ints r6.1), flat c70_u1 3 (ints r6.2), AL.box p79 [c70_u0, c70_u1], flat c90_u0 3 (ints r7.1), flat c90_u1 3 (ints r7.2)] := S85.app a94.agree S95 (fun _ h => h) (hB.le A86.1)
      obtain ⟨G97, p99, q100, q102, a101, S96⟩ := S92.allocT (P := Try.prog) (hB.le A93.1) ze_28 rfl
      have A98 := A93.ext (hB.le A93.1) a101
      replace S96 : Sep G97 (Fr H) [AL.box p4 [v0_0, v0_1], AL.box p11 [v2_0, v2_1], flat c35_u0 3 (ints r3.1), flat c35_u1 3 (ints r3.2), flat c43_u0 3 (ints r4.1), flat c43_u1 3 (ints r4.2), flat c50_u0 3 (ints r5.1.1), flat c50_u1 3 (ints r5.1.2), AL.box p59 [c50_u0, c50_u1], flat c70_u0 3 (ints r6.1), flat c70_u1 3 (ints r6.2), AL.box p79 [c70_u0, c70_u1], flat c90_u0 3 (ints r7.1), flat c90_u1 3 (ints r7.2), AL.box p99 [(Value.slice none 0 0), (Value.slice none 0 0)]] := S96
      obtain ⟨G103, q104, S105, a107⟩ := S96.putAgg (P := Try.prog) (k := 14) (xs := [c90_u0, c90_u1]) rfl (hB.le A98.1) sz_28 rfl rfl
      have A106 := A98.trans a107
      replace S105 : Sep G103 (Fr H) [AL.box p4 [v0_0, v0_1], AL.box p11 [v2_0, v2_1], flat c35_u0 3 (ints r3.1), flat c35_u1 3 (ints r3.2), flat c43_u0 3 (ints r4.1), flat c43_u1 3 (ints r4.2), flat c50_u0 3 (ints r5.1.1), flat c50_u1 3 (ints r5.1.2), AL.box p59 [c50_u0, c50_u1], flat c70_u0 3 (ints r6.1), flat c70_u1 3 (ints r6.2), AL.box p79 [c70_u0, c70_u1], flat c90_u0 3 (ints r7.1), flat c90_u1 3 (ints r7.2), AL.box p99 [c90_u0, c90_u1]] := S105
      simp [-aBin', -aBin, -aBinI, -aUn, -aNil, -flatV, n_fn, b_add, b_sub, b_mul, b_lt, b_le, b_gt, b_ge, b_eq, b_ne, u_not, q88, a94.pre, q100, q102, a101.to_pre, q104]
      apply hK
      clear hK K
      simp only [andThen, leaves]
      refine DWp.seq ?_
      have q108 := S105.loadAgg (P := Try.prog) (k := 11) rfl sz_28 ag_28 rfl
      have q109 := S105.loadAgg (P := Try.prog) (k := 14) rfl sz_28 ag_28 rfl
      obtain ⟨r8, hc110, hF⟩ := bd_some hF
      refine DWp.region fun K hK => ?_
      simp [-aBin', -aBin, -aBinI, -aUn, -aNil, -flatV, n_fn, b_add, b_sub, b_mul, b_lt, b_le, b_gt, b_ge, b_eq, b_ne, u_not, q108, q109, ((S105.sl (k := 9) rfl).tup), ((S105.sl (k := 10) rfl).tup), ((S105.sl (k := 12) rfl).tup), ((S105.sl (k := 13) rfl).tup)]
      refine CallD.t (F_impl_InsertPair_w (fu := fu) (S105.sl (k := 9) rfl) (S105.sl (k := 10) rfl) (S105.sl (k := 12) rfl) (S105.sl (k := 13) rfl) hc110) ?_
      rintro _ G112 ⟨a115, c111_u0, c111_u1, rfl, S116⟩
      have A114 := A106.ext (hB.le A106.1) a115.agree
      have S113 : Sep G112 (Fr H) [AL.box p4 [v0_0, v0_1], AL.box p11 [v2_0, v2_1], flat c35_u0 3 (ints r3.1), flat c35_u1 3 (ints r3.2), flat c43_u0 3 (ints r4.1), flat c43_u1 3 (ints r4.2), flat c50_u0 3 (ints r5.1.1), flat c50_u1 3 (ints r5.1.2), AL.box p59 [c50_u0, c50_u1], flat c70_u0 3 (ints r6.1), flat c70_u1 3 (ints r6.2), AL.box p79 [c70_u0, c70_u1], flat c90_u0 3 (ints r7.1), flat c90_u1 3 (ints r7.2), AL.box p99 [c90_u0, c90_u1], flat c111_u0 3 (ints r8.1.1), flat c111_u1 3 (ints r8.1.2)] := S105.app a115.agree S116 (fun _ h => h) (hB.le A106.1)
      obtain ⟨G118, p120, q121, q123, a122, S117⟩ := S113.allocT (P := Try.prog) (hB.le A114.1) ze_28 rfl
      have A119 := A114.ext (hB.le A114.1) a122
      replace S117 : Sep G118 (Fr H) [AL.box p4 [v0_0, v0_1], AL.box p11 [v2_0, v2_1], flat c35_u0 3 (ints r3.1), flat c35_u1 3 (ints r3.2), flat c43_u0 3 (ints r4.1), flat c43_u1 3 (ints r4.2), flat c50_u0 3 (ints r5.1.1), flat c50_u1 3 (ints r5.1.2), AL.box p59 [c50_u0, c50_u1], flat c70_u0 3 (ints r6.1), flat c70_u1 3 (ints r6.2), AL.box p79 [c70_u0, c70_u1], flat c90_u0 3 (ints r7.1), flat c90_u1 3 (ints r7.2), AL.box p99 [c90_u0, c90_u1], flat c111_u0 3 (ints r8.1.1), flat c111_u1 3 (ints r8.1.2), AL.box p120 [(Value.slice none 0 0), (Value.slice none 0 0)]] := S117
      obtain ⟨G124, q125, S126, a128⟩ := S117.putAgg (P := Try.prog) (k := 17) (xs := [c111_u0, c111_u1]) rfl (hB.le A119.1) sz_28 rfl rfl
      have A127 := A119.trans a128
      replace S126 : Sep G124 (Fr H) [AL.box p4 [v0_0, v0_1], AL.box p11 [v2_0, v2_1], flat c35_u0 3 (ints r3.1), flat c35_u1 3 (ints r3.2), flat c43_u0 3 (ints r4.1), flat c43_u1 3 (ints r4.2), flat c50_u0 3 (ints r5.1.1), flat c50_u1 3 (ints r5.1.2), AL.box p59 [c50_u0, c50_u1], flat c70_u0 3 (ints r6.1), flat c70_u1 3 (ints r6.2), AL.box p79 [c70_u0, c70_u1], flat c90_u0 3 (ints r7.1), flat c90_u1 3 (ints r7.2), AL.box p99 [c90_u0, c90_u1], flat c111_u0 3 (ints r8.1.1), flat c111_u1 3 (ints r8.1.2), AL.box p120 [c111_u0, c111_u1]] := S126
      simp [-aBin', -aBin, -aBinI, -aUn, -aNil, -flatV, n_fn, b_add, b_sub, b_mul, b_lt, b_le, b_gt, b_ge, b_eq, b_ne, u_not, q108, q109, a115.pre, q121, q123, a122.to_pre, q125]
      apply hK
      clear hK K
      simp only [andThen, leaves]
      refine DWp.seq ?_
      obtain ⟨s129, hL130, hF⟩ := bd_some hF
      refine DWp.seq (DWp.join (fun env G => Sep G (Fr H) [AL.box p4 [v0_0, v0_1], AL.box p11 [v2_0, v2_1], AL.box p59 [c50_u0, c50_u1], flat c50_u0 3 (ints r5.1.1), flat c50_u1 3 (ints r5.1.2), AL.box p79 [c70_u0, c70_u1], flat c70_u0 3 (ints r6.1), flat c70_u1 3 (ints r6.2), AL.box p99 [c90_u0, c90_u1], flat c90_u0 3 (ints r7.1), flat c90_u1 3 (ints r7.2), AL.box p120 [c111_u0, c111_u1], flat c111_u0 3 (ints r8.1.1), flat c111_u1 3 (ints r8.1.2)] ∧ AgB (Fr H) H G ∧ env 1 = some (Value.int .i64 x1) ∧ env 3 = some p4 ∧ env 5 = some p11 ∧ env 8 = some p59 ∧ env 9 = some (Value.bool r5.2) ∧ env 10 = some p79 ∧ env 11 = some p99 ∧ env 12 = some p120 ∧ env 13 = some (Value.bool r8.2) ∧ env 57 = some (Value.bool s129)) ?_ ?_)
      ·
        have q132 := S126.loadAgg (P := Try.prog) (k := 17) rfl sz_28 ag_28 rfl
        have q133 := S126.loadAgg (P := Try.prog) (k := 8) rfl sz_28 ag_28 rfl
        obtain ⟨r9, hc134, hL130⟩ := bd_some hL130
        refine DWp.region fun K hK => ?_
        simp [-aBin', -aBin, -aBinI, -aUn, -aNil, -flatV, n_fn, b_add, b_sub, b_mul, b_lt, b_le, b_gt, b_ge, b_eq, b_ne, u_not, q132, q133, ((S126.sl (k := 15) rfl).tup), ((S126.sl (k := 16) rfl).tup), ((S126.sl (k := 6) rfl).tup), ((S126.sl (k := 7) rfl).tup)]
        refine CallD.t (F_laws_eqMeander_w (fu := fu) (S126.sl (k := 15) rfl) (S126.sl (k := 16) rfl) (S126.sl (k := 6) rfl) (S126.sl (k := 7) rfl) hc134) ?_
        rintro _ G136 ⟨a139, rfl, S140⟩
        have A138 := A127.ext (hB.le A127.1) a139.agree
        have S137 : Sep G136 (Fr H) [AL.box p4 [v0_0, v0_1], AL.box p11 [v2_0, v2_1], flat c35_u0 3 (ints r3.1), flat c35_u1 3 (ints r3.2), flat c43_u0 3 (ints r4.1), flat c43_u1 3 (ints r4.2), flat c50_u0 3 (ints r5.1.1), flat c50_u1 3 (ints r5.1.2), AL.box p59 [c50_u0, c50_u1], flat c70_u0 3 (ints r6.1), flat c70_u1 3 (ints r6.2), AL.box p79 [c70_u0, c70_u1], flat c90_u0 3 (ints r7.1), flat c90_u1 3 (ints r7.2), AL.box p99 [c90_u0, c90_u1], flat c111_u0 3 (ints r8.1.1), flat c111_u1 3 (ints r8.1.2), AL.box p120 [c111_u0, c111_u1]] := S126.app a139.agree S140 (fun _ h => h) (hB.le A127.1)
        rcases Bool.eq_false_or_eq_true (bnot r9) with hb141 | hb141
        · replace hL130 := cd_t hb141 hL130
          simp [-aBin', -aBin, -aBinI, -aUn, -aNil, -flatV, n_fn, b_add, b_sub, b_mul, b_lt, b_le, b_gt, b_ge, b_eq, b_ne, u_not, hb141, q132, q133, a139.pre]
          apply hK
          clear hK K
          simp only [andThen, leaves]
          have S142 := S137.pick [0, 1, 8, 6, 7, 11, 9, 10, 14, 12, 13, 17, 15, 16] (by decide) rfl
          obtain rfl := Option.some.inj hL130
          exact ⟨S142, A138, by simp [], by simp [], by simp [], by simp [], by simp [], by simp [], by simp [], by simp [], by simp [], by simp []⟩
        · replace hL130 := cd_f hb141 hL130
          simp [-aBin', -aBin, -aBinI, -aUn, -aNil, -flatV, n_fn, b_add, b_sub, b_mul, b_lt, b_le, b_gt, b_ge, b_eq, b_ne, u_not, hb141, q132, q133, a139.pre, b_bne un_4]
          apply hK
          clear hK K
          simp only [andThen, leaves]
          have S143 := S137.pick [0, 1, 8, 6, 7, 11, 9, 10, 14, 12, 13, 17, 15, 16] (by decide) rfl
          obtain rfl := Option.some.inj hL130
          exact ⟨S143, A138, by simp [], by simp [], by simp [], by simp [], by simp [], by simp [], by simp [], by simp [], by simp [], by simp []⟩
      · rintro env Gj144 ⟨Sj144, Aj144, ej144_1, ej144_3, ej144_5, ej144_8, ej144_9, ej144_10, ej144_11, ej144_12, ej144_13, ej144_57⟩
        refine DWp.cond' (t := s129) (by simp [ej144_1, ej144_3, ej144_5, ej144_8, ej144_9, ej144_10, ej144_11, ej144_12, ej144_13, ej144_57]) (fun hb145 => ?_) (fun hb145 => ?_)
        · replace hF := cd_t hb145 hF
          refine DWp.seq ?_
          refine DWp.region fun K hK => ?_
          simp [-aBin', -aBin, -aBinI, -aUn, -aNil, -flatV, n_fn, b_add, b_sub, b_mul, b_lt, b_le, b_gt, b_ge, b_eq, b_ne, u_not, ej144_1, ej144_3, ej144_5, ej144_8, ej144_9, ej144_10, ej144_11, ej144_12, ej144_13, ej144_57]
          apply hK
          clear hK K
          simp only [andThen, leaves]
          refine DWp.ret ?_
          simp only [andThen, leaves]
          obtain rfl := Option.some.inj hF
          exact ⟨by simp, [(Value.bool false)], by simp [ej144_1, ej144_3, ej144_5, ej144_8, ej144_9, ej144_10, ej144_11, ej144_12, ej144_13, ej144_57], Aj144, rfl, Sj144.pick [] (by decide) rfl⟩
        · replace hF := cd_f hb145 hF
          refine DWp.skip ?_
          simp only [andThen, leaves]
          refine DWp.seq ?_
          refine DWp.seq ?_
          have q146 := Sj144.loadAgg (P := Try.prog) (k := 5) rfl sz_28 ag_28 rfl
          have q147 := Sj144.loadAgg (P := Try.prog) (k := 0) rfl sz_24 ag_24 rfl
          obtain ⟨r10, hc148, hF⟩ := bd_some hF
          refine DWp.drawn (B := [0, 0, 2, 7, 15]) 5 mixed (by kernel_rfl) (by decide) fun K hK => ?_
          simp [-aBin', -aBin, -aBinI, -aUn, -aNil, -flatV, n_fn, b_add, b_sub, b_mul, b_lt, b_le, b_gt, b_ge, b_eq, b_ne, u_not, ej144_1, ej144_3, ej144_5, ej144_8, ej144_9, ej144_10, ej144_11, ej144_12, ej144_13, ej144_57, q146, q147, ((hx0_0.agree Aj144.agree).tup), ((hx0_1.agree Aj144.agree).tup)]
          refine CallD.t (F_laws_toMeander_w (fu := fu) (hx0_0.agree Aj144.agree) (hx0_1.agree Aj144.agree) hc148) ?_
          rintro _ G150 ⟨a153, c149_u0, c149_u1, rfl, S154⟩
          have A152 := Aj144.ext (hB.le Aj144.1) a153.agree
          have S151 : Sep G150 (Fr H) [AL.box p4 [v0_0, v0_1], AL.box p11 [v2_0, v2_1], AL.box p59 [c50_u0, c50_u1], flat c50_u0 3 (ints r5.1.1), flat c50_u1 3 (ints r5.1.2), AL.box p79 [c70_u0, c70_u1], flat c70_u0 3 (ints r6.1), flat c70_u1 3 (ints r6.2), AL.box p99 [c90_u0, c90_u1], flat c90_u0 3 (ints r7.1), flat c90_u1 3 (ints r7.2), AL.box p120 [c111_u0, c111_u1], flat c111_u0 3 (ints r8.1.1), flat c111_u1 3 (ints r8.1.2), flat c149_u0 3 (ints r10.1), flat c149_u1 3 (ints r10.2)] := Sj144.app a153.agree S154 (fun _ h => h) (hB.le Aj144.1)
          obtain ⟨r11, hc155, hF⟩ := bd_some hF
          simp [-aBin', -aBin, -aBinI, -aUn, -aNil, -flatV, n_fn, b_add, b_sub, b_mul, b_lt, b_le, b_gt, b_ge, b_eq, b_ne, u_not, ej144_1, ej144_3, ej144_5, ej144_8, ej144_9, ej144_10, ej144_11, ej144_12, ej144_13, ej144_57, q146, q147, a153.pre, ((S151.sl (k := 6) rfl).tup), ((S151.sl (k := 7) rfl).tup), ((S151.sl (k := 14) rfl).tup), ((S151.sl (k := 15) rfl).tup)]
          refine CallD.t (F_laws_eqMeander_w (fu := fu) (S151.sl (k := 6) rfl) (S151.sl (k := 7) rfl) (S151.sl (k := 14) rfl) (S151.sl (k := 15) rfl) hc155) ?_
          rintro _ G157 ⟨a160, rfl, S161⟩
          have A159 := A152.ext (hB.le A152.1) a160.agree
          have S158 : Sep G157 (Fr H) [AL.box p4 [v0_0, v0_1], AL.box p11 [v2_0, v2_1], AL.box p59 [c50_u0, c50_u1], flat c50_u0 3 (ints r5.1.1), flat c50_u1 3 (ints r5.1.2), AL.box p79 [c70_u0, c70_u1], flat c70_u0 3 (ints r6.1), flat c70_u1 3 (ints r6.2), AL.box p99 [c90_u0, c90_u1], flat c90_u0 3 (ints r7.1), flat c90_u1 3 (ints r7.2), AL.box p120 [c111_u0, c111_u1], flat c111_u0 3 (ints r8.1.1), flat c111_u1 3 (ints r8.1.2), flat c149_u0 3 (ints r10.1), flat c149_u1 3 (ints r10.2)] := S151.app a160.agree S161 (fun _ h => h) (hB.le A152.1)
          simp [-aBin', -aBin, -aBinI, -aUn, -aNil, -flatV, n_fn, b_add, b_sub, b_mul, b_lt, b_le, b_gt, b_ge, b_eq, b_ne, u_not, ej144_1, ej144_3, ej144_5, ej144_8, ej144_9, ej144_10, ej144_11, ej144_12, ej144_13, ej144_57, q146, q147, a153.pre, a160.pre]
          apply hK
          clear hK K
          simp only [andThen, leaves]
          refine DWp.cond' (t := (bnot r11)) (by simp [ej144_1, ej144_3, ej144_5, ej144_8, ej144_9, ej144_10, ej144_11, ej144_12, ej144_13, ej144_57]) (fun hb162 => ?_) (fun hb162 => ?_)
          · replace hF := cd_t hb162 hF
            refine DWp.seq ?_
            refine DWp.region fun K hK => ?_
            simp [-aBin', -aBin, -aBinI, -aUn, -aNil, -flatV, n_fn, b_add, b_sub, b_mul, b_lt, b_le, b_gt, b_ge, b_eq, b_ne, u_not, ej144_1, ej144_3, ej144_5, ej144_8, ej144_9, ej144_10, ej144_11, ej144_12, ej144_13, ej144_57]
            apply hK
            clear hK K
            simp only [andThen, leaves]
            refine DWp.ret ?_
            simp only [andThen, leaves]
            obtain rfl := Option.some.inj hF
            exact ⟨by simp, [(Value.bool false)], by simp [ej144_1, ej144_3, ej144_5, ej144_8, ej144_9, ej144_10, ej144_11, ej144_12, ej144_13, ej144_57], A159, rfl, S158.pick [] (by decide) rfl⟩
          · replace hF := cd_f hb162 hF
            refine DWp.skip ?_
            simp only [andThen, leaves]
            refine DWp.seq ?_
            refine DWp.seq ?_
            have q163 := S158.loadAgg (P := Try.prog) (k := 8) rfl sz_28 ag_28 rfl
            have q164 := S158.loadAgg (P := Try.prog) (k := 1) rfl sz_24 ag_24 rfl
            obtain ⟨r12, hc165, hF⟩ := bd_some hF
            refine DWp.drawn (B := [0, 0, 2, 7, 15]) 5 mixed (by kernel_rfl) (by decide) fun K hK => ?_
            simp [-aBin', -aBin, -aBinI, -aUn, -aNil, -flatV, n_fn, b_add, b_sub, b_mul, b_lt, b_le, b_gt, b_ge, b_eq, b_ne, u_not, ej144_1, ej144_3, ej144_5, ej144_8, ej144_9, ej144_10, ej144_11, ej144_12, ej144_13, ej144_57, q163, q164, ((hx2_0.agree A159.agree).tup), ((hx2_1.agree A159.agree).tup)]
            refine CallD.t (F_laws_toMeander_w (fu := fu) (hx2_0.agree A159.agree) (hx2_1.agree A159.agree) hc165) ?_
            rintro _ G167 ⟨a170, c166_u0, c166_u1, rfl, S171⟩
            have A169 := A159.ext (hB.le A159.1) a170.agree
            have S168 : Sep G167 (Fr H) [AL.box p4 [v0_0, v0_1], AL.box p11 [v2_0, v2_1], AL.box p59 [c50_u0, c50_u1], flat c50_u0 3 (ints r5.1.1), flat c50_u1 3 (ints r5.1.2), AL.box p79 [c70_u0, c70_u1], flat c70_u0 3 (ints r6.1), flat c70_u1 3 (ints r6.2), AL.box p99 [c90_u0, c90_u1], flat c90_u0 3 (ints r7.1), flat c90_u1 3 (ints r7.2), AL.box p120 [c111_u0, c111_u1], flat c111_u0 3 (ints r8.1.1), flat c111_u1 3 (ints r8.1.2), flat c149_u0 3 (ints r10.1), flat c149_u1 3 (ints r10.2), flat c166_u0 3 (ints r12.1), flat c166_u1 3 (ints r12.2)] := S158.app a170.agree S171 (fun _ h => h) (hB.le A159.1)
            obtain ⟨r13, hc172, hF⟩ := bd_some hF
            simp [-aBin', -aBin, -aBinI, -aUn, -aNil, -flatV, n_fn, b_add, b_sub, b_mul, b_lt, b_le, b_gt, b_ge, b_eq, b_ne, u_not, ej144_1, ej144_3, ej144_5, ej144_8, ej144_9, ej144_10, ej144_11, ej144_12, ej144_13, ej144_57, q163, q164, a170.pre, ((S168.sl (k := 9) rfl).tup), ((S168.sl (k := 10) rfl).tup), ((S168.sl (k := 16) rfl).tup), ((S168.sl (k := 17) rfl).tup)]
            refine CallD.t (F_laws_eqMeander_w (fu := fu) (S168.sl (k := 9) rfl) (S168.sl (k := 10) rfl) (S168.sl (k := 16) rfl) (S168.sl (k := 17) rfl) hc172) ?_
            rintro _ G174 ⟨a177, rfl, S178⟩
            have A176 := A169.ext (hB.le A169.1) a177.agree
            have S175 : Sep G174 (Fr H) [AL.box p4 [v0_0, v0_1], AL.box p11 [v2_0, v2_1], AL.box p59 [c50_u0, c50_u1], flat c50_u0 3 (ints r5.1.1), flat c50_u1 3 (ints r5.1.2), AL.box p79 [c70_u0, c70_u1], flat c70_u0 3 (ints r6.1), flat c70_u1 3 (ints r6.2), AL.box p99 [c90_u0, c90_u1], flat c90_u0 3 (ints r7.1), flat c90_u1 3 (ints r7.2), AL.box p120 [c111_u0, c111_u1], flat c111_u0 3 (ints r8.1.1), flat c111_u1 3 (ints r8.1.2), flat c149_u0 3 (ints r10.1), flat c149_u1 3 (ints r10.2), flat c166_u0 3 (ints r12.1), flat c166_u1 3 (ints r12.2)] := S168.app a177.agree S178 (fun _ h => h) (hB.le A169.1)
            simp [-aBin', -aBin, -aBinI, -aUn, -aNil, -flatV, n_fn, b_add, b_sub, b_mul, b_lt, b_le, b_gt, b_ge, b_eq, b_ne, u_not, ej144_1, ej144_3, ej144_5, ej144_8, ej144_9, ej144_10, ej144_11, ej144_12, ej144_13, ej144_57, q163, q164, a170.pre, a177.pre]
            apply hK
            clear hK K
            simp only [andThen, leaves]
            refine DWp.cond' (t := (bnot r13)) (by simp [ej144_1, ej144_3, ej144_5, ej144_8, ej144_9, ej144_10, ej144_11, ej144_12, ej144_13, ej144_57]) (fun hb179 => ?_) (fun hb179 => ?_)
            · replace hF := cd_t hb179 hF
              refine DWp.seq ?_
              refine DWp.region fun K hK => ?_
              simp [-aBin', -aBin, -aBinI, -aUn, -aNil, -flatV, n_fn, b_add, b_sub, b_mul, b_lt, b_le, b_gt, b_ge, b_eq, b_ne, u_not, ej144_1, ej144_3, ej144_5, ej144_8, ej144_9, ej144_10, ej144_11, ej144_12, ej144_13, ej144_57]
              apply hK
              clear hK K
              simp only [andThen, leaves]
              refine DWp.ret ?_
              simp only [andThen, leaves]
              obtain rfl := Option.some.inj hF
              exact ⟨by simp, [(Value.bool false)], by simp [ej144_1, ej144_3, ej144_5, ej144_8, ej144_9, ej144_10, ej144_11, ej144_12, ej144_13, ej144_57], A176, rfl, S175.pick [] (by decide) rfl⟩
            · replace hF := cd_f hb179 hF
              refine DWp.skip ?_
              simp only [andThen, leaves]
              refine DWp.seq ?_
              refine DWp.region fun K hK => ?_
              simp [-aBin', -aBin, -aBinI, -aUn, -aNil, -flatV, n_fn, b_add, b_sub, b_mul, b_lt, b_le, b_gt, b_ge, b_eq, b_ne, u_not, ej144_1, ej144_3, ej144_5, ej144_8, ej144_9, ej144_10, ej144_11, ej144_12, ej144_13, ej144_57]
              apply hK
              clear hK K
              simp only [andThen, leaves]
              refine DWp.seq ?_
              have q180 := S175.loadAgg (P := Try.prog) (k := 5) rfl sz_28 ag_28 rfl
              obtain ⟨r14, hc181, hF⟩ := bd_some hF
              refine DWp.region fun K hK => ?_
              simp [-aBin', -aBin, -aBinI, -aUn, -aNil, -flatV, n_fn, b_add, b_sub, b_mul, b_lt, b_le, b_gt, b_ge, b_eq, b_ne, u_not, ej144_1, ej144_3, ej144_5, ej144_8, ej144_9, ej144_10, ej144_11, ej144_12, ej144_13, ej144_57, q180, ((S175.sl (k := 6) rfl).tup), ((S175.sl (k := 7) rfl).tup)]
              have S182 : Sep G174 (Fr H) ([flat c70_u0 3 (ints r6.1), flat c70_u1 3 (ints r6.2)] ++ [AL.box p4 [v0_0, v0_1], AL.box p11 [v2_0, v2_1], AL.box p59 [c50_u0, c50_u1], flat c50_u0 3 (ints r5.1.1), flat c50_u1 3 (ints r5.1.2), AL.box p79 [c70_u0, c70_u1], AL.box p99 [c90_u0, c90_u1], flat c90_u0 3 (ints r7.1), flat c90_u1 3 (ints r7.2), AL.box p120 [c111_u0, c111_u1], flat c111_u0 3 (ints r8.1.1), flat c111_u1 3 (ints r8.1.2), flat c149_u0 3 (ints r10.1), flat c149_u1 3 (ints r10.2), flat c166_u0 3 (ints r12.1), flat c166_u1 3 (ints r12.2)]) := S175.pick [6, 7, 0, 1, 2, 3, 4, 5, 8, 9, 10, 11, 12, 13, 14, 15, 16, 17] (by decide) rfl
              obtain ⟨B188, S183, U184, M185, R186, C187⟩ := S182.frame (hB.le A176.1)
              refine CallD.t (F_laws_markMeander_w (fu := fu) U184 S183 hc181) ?_
              rintro _ G190 ⟨a193, rfl, S194⟩
              have A192 := A176.trans (a193.mono M185)
              have S191 : Sep G190 (Fr H) [flat c70_u0 3 (ints r14.2.1), flat c70_u1 3 (ints r14.2.2), AL.box p4 [v0_0, v0_1], AL.box p11 [v2_0, v2_1], AL.box p59 [c50_u0, c50_u1], flat c50_u0 3 (ints r5.1.1), flat c50_u1 3 (ints r5.1.2), AL.box p79 [c70_u0, c70_u1], AL.box p99 [c90_u0, c90_u1], flat c90_u0 3 (ints r7.1), flat c90_u1 3 (ints r7.2), AL.box p120 [c111_u0, c111_u1], flat c111_u0 3 (ints r8.1.1), flat c111_u1 3 (ints r8.1.2), flat c149_u0 3 (ints r10.1), flat c149_u1 3 (ints r10.2), flat c166_u0 3 (ints r12.1), flat c166_u1 3 (ints r12.2)] := C187 _ _ a193 S194
              simp [-aBin', -aBin, -aBinI, -aUn, -aNil, -flatV, n_fn, b_add, b_sub, b_mul, b_lt, b_le, b_gt, b_ge, b_eq, b_ne, u_not, ej144_1, ej144_3, ej144_5, ej144_8, ej144_9, ej144_10, ej144_11, ej144_12, ej144_13, ej144_57, q180]
              apply hK
              clear hK K
              simp only [andThen, leaves]
              refine DWp.seq ?_
              have q195 := S191.loadAgg (P := Try.prog) (k := 8) rfl sz_28 ag_28 rfl
              obtain ⟨r15, hc196, hF⟩ := bd_some hF
              refine DWp.region fun K hK => ?_
              simp [-aBin', -aBin, -aBinI, -aUn, -aNil, -flatV, n_fn, b_add, b_sub, b_mul, b_lt, b_le, b_gt, b_ge, b_eq, b_ne, u_not, ej144_1, ej144_3, ej144_5, ej144_8, ej144_9, ej144_10, ej144_11, ej144_12, ej144_13, ej144_57, q195, ((S191.sl (k := 9) rfl).tup), ((S191.sl (k := 10) rfl).tup)]
              have S197 : Sep G190 (Fr H) ([flat c90_u0 3 (ints r7.1), flat c90_u1 3 (ints r7.2)] ++ [flat c70_u0 3 (ints r14.2.1), flat c70_u1 3 (ints r14.2.2), AL.box p4 [v0_0, v0_1], AL.box p11 [v2_0, v2_1], AL.box p59 [c50_u0, c50_u1], flat c50_u0 3 (ints r5.1.1), flat c50_u1 3 (ints r5.1.2), AL.box p79 [c70_u0, c70_u1], AL.box p99 [c90_u0, c90_u1], AL.box p120 [c111_u0, c111_u1], flat c111_u0 3 (ints r8.1.1), flat c111_u1 3 (ints r8.1.2), flat c149_u0 3 (ints r10.1), flat c149_u1 3 (ints r10.2), flat c166_u0 3 (ints r12.1), flat c166_u1 3 (ints r12.2)]) := S191.pick [9, 10, 0, 1, 2, 3, 4, 5, 6, 7, 8, 11, 12, 13, 14, 15, 16, 17] (by decide) rfl
              obtain ⟨B203, S198, U199, M200, R201, C202⟩ := S197.frame (hB.le A192.1)
              refine CallD.t (F_laws_markMeander_w (fu := fu) U199 S198 hc196) ?_
              rintro _ G205 ⟨a208, rfl, S209⟩
              have A207 := A192.trans (a208.mono M200)
              have S206 : Sep G205 (Fr H) [flat c90_u0 3 (ints r15.2.1), flat c90_u1 3 (ints r15.2.2), flat c70_u0 3 (ints r14.2.1), flat c70_u1 3 (ints r14.2.2), AL.box p4 [v0_0, v0_1], AL.box p11 [v2_0, v2_1], AL.box p59 [c50_u0, c50_u1], flat c50_u0 3 (ints r5.1.1), flat c50_u1 3 (ints r5.1.2), AL.box p79 [c70_u0, c70_u1], AL.box p99 [c90_u0, c90_u1], AL.box p120 [c111_u0, c111_u1], flat c111_u0 3 (ints r8.1.1), flat c111_u1 3 (ints r8.1.2), flat c149_u0 3 (ints r10.1), flat c149_u1 3 (ints r10.2), flat c166_u0 3 (ints r12.1), flat c166_u1 3 (ints r12.2)] := C202 _ _ a208 S209
              simp [-aBin', -aBin, -aBinI, -aUn, -aNil, -flatV, n_fn, b_add, b_sub, b_mul, b_lt, b_le, b_gt, b_ge, b_eq, b_ne, u_not, ej144_1, ej144_3, ej144_5, ej144_8, ej144_9, ej144_10, ej144_11, ej144_12, ej144_13, ej144_57, q195]
              apply hK
              clear hK K
              simp only [andThen, leaves]
              refine DWp.seq ?_
              obtain ⟨s210, hL211, hF⟩ := bd_some hF
              refine DWp.seq (DWp.join (fun env G => Sep G (Fr H) [AL.box p4 [v0_0, v0_1], AL.box p11 [v2_0, v2_1], AL.box p59 [c50_u0, c50_u1], flat c50_u0 3 (ints r5.1.1), flat c50_u1 3 (ints r5.1.2), AL.box p120 [c111_u0, c111_u1], flat c111_u0 3 (ints r8.1.1), flat c111_u1 3 (ints r8.1.2)] ∧ AgB (Fr H) H G ∧ env 1 = some (Value.int .i64 x1) ∧ env 3 = some p4 ∧ env 5 = some p11 ∧ env 8 = some p59 ∧ env 9 = some (Value.bool r5.2) ∧ env 12 = some p120 ∧ env 86 = some (Value.bool s210)) ?_ ?_)
              ·
                rcases Bool.eq_false_or_eq_true (ilt r15.1 0) with hb213 | hb213
                · replace hL211 := cd_t hb213 hL211
                  refine DWp.region fun K hK => ?_
                  simp [-aBin', -aBin, -aBinI, -aUn, -aNil, -flatV, n_fn, b_add, b_sub, b_mul, b_lt, b_le, b_gt, b_ge, b_eq, b_ne, u_not, ej144_1, ej144_3, ej144_5, ej144_8, ej144_9, ej144_10, ej144_11, ej144_12, ej144_13, ej144_57, hb213]
                  apply hK
                  clear hK K
                  simp only [andThen, leaves]
                  have S214 := S206.pick [4, 5, 6, 7, 8, 11, 12, 13] (by decide) rfl
                  obtain rfl := Option.some.inj hL211
                  exact ⟨S214, A207, by simp [ej144_1, ej144_3, ej144_5, ej144_8, ej144_9, ej144_10, ej144_11, ej144_12, ej144_13, ej144_57], by simp [ej144_1, ej144_3, ej144_5, ej144_8, ej144_9, ej144_10, ej144_11, ej144_12, ej144_13, ej144_57], by simp [ej144_1, ej144_3, ej144_5, ej144_8, ej144_9, ej144_10, ej144_11, ej144_12, ej144_13, ej144_57], by simp [ej144_1, ej144_3, ej144_5, ej144_8, ej144_9, ej144_10, ej144_11, ej144_12, ej144_13, ej144_57], by simp [ej144_1, ej144_3, ej144_5, ej144_8, ej144_9, ej144_10, ej144_11, ej144_12, ej144_13, ej144_57], by simp [ej144_1, ej144_3, ej144_5, ej144_8, ej144_9, ej144_10, ej144_11, ej144_12, ej144_13, ej144_57], by simp [ej144_1, ej144_3, ej144_5, ej144_8, ej144_9, ej144_10, ej144_11, ej144_12, ej144_13, ej144_57]⟩
                · replace hL211 := cd_f hb213 hL211
                  have q215 := S206.loadAgg (P := Try.prog) (k := 11) rfl sz_28 ag_28 rfl
                  have q216 := S206.loadAgg (P := Try.prog) (k := 6) rfl sz_28 ag_28 rfl
                  obtain ⟨r16, hc217, hL211⟩ := bd_some hL211
                  refine DWp.region fun K hK => ?_
                  simp [-aBin', -aBin, -aBinI, -aUn, -aNil, -flatV, n_fn, b_add, b_sub, b_mul, b_lt, b_le, b_gt, b_ge, b_eq, b_ne, u_not, ej144_1, ej144_3, ej144_5, ej144_8, ej144_9, ej144_10, ej144_11, ej144_12, ej144_13, ej144_57, hb213, q215, q216, ((S206.sl (k := 12) rfl).tup), ((S206.sl (k := 13) rfl).tup), ((S206.sl (k := 7) rfl).tup), ((S206.sl (k := 8) rfl).tup)]
                  refine CallD.t (F_laws_eqMeander_w (fu := fu) (S206.sl (k := 12) rfl) (S206.sl (k := 13) rfl) (S206.sl (k := 7) rfl) (S206.sl (k := 8) rfl) hc217) ?_
                  rintro _ G219 ⟨a222, rfl, S223⟩
                  have A221 := A207.ext (hB.le A207.1) a222.agree
                  have S220 : Sep G219 (Fr H) [flat c90_u0 3 (ints r15.2.1), flat c90_u1 3 (ints r15.2.2), flat c70_u0 3 (ints r14.2.1), flat c70_u1 3 (ints r14.2.2), AL.box p4 [v0_0, v0_1], AL.box p11 [v2_0, v2_1], AL.box p59 [c50_u0, c50_u1], flat c50_u0 3 (ints r5.1.1), flat c50_u1 3 (ints r5.1.2), AL.box p79 [c70_u0, c70_u1], AL.box p99 [c90_u0, c90_u1], AL.box p120 [c111_u0, c111_u1], flat c111_u0 3 (ints r8.1.1), flat c111_u1 3 (ints r8.1.2), flat c149_u0 3 (ints r10.1), flat c149_u1 3 (ints r10.2), flat c166_u0 3 (ints r12.1), flat c166_u1 3 (ints r12.2)] := S206.app a222.agree S223 (fun _ h => h) (hB.le A207.1)
                  rcases Bool.eq_false_or_eq_true (bnot r16) with hb224 | hb224
                  · replace hL211 := cd_t hb224 hL211
                    simp [-aBin', -aBin, -aBinI, -aUn, -aNil, -flatV, n_fn, b_add, b_sub, b_mul, b_lt, b_le, b_gt, b_ge, b_eq, b_ne, u_not, ej144_1, ej144_3, ej144_5, ej144_8, ej144_9, ej144_10, ej144_11, ej144_12, ej144_13, ej144_57, hb213, hb224, q215, q216, a222.pre]
                    apply hK
                    clear hK K
                    simp only [andThen, leaves]
                    have S225 := S220.pick [4, 5, 6, 7, 8, 11, 12, 13] (by decide) rfl
                    obtain rfl := Option.some.inj hL211
                    exact ⟨S225, A221, by simp [ej144_1, ej144_3, ej144_5, ej144_8, ej144_9, ej144_10, ej144_11, ej144_12, ej144_13, ej144_57], by simp [ej144_1, ej144_3, ej144_5, ej144_8, ej144_9, ej144_10, ej144_11, ej144_12, ej144_13, ej144_57], by simp [ej144_1, ej144_3, ej144_5, ej144_8, ej144_9, ej144_10, ej144_11, ej144_12, ej144_13, ej144_57], by simp [ej144_1, ej144_3, ej144_5, ej144_8, ej144_9, ej144_10, ej144_11, ej144_12, ej144_13, ej144_57], by simp [ej144_1, ej144_3, ej144_5, ej144_8, ej144_9, ej144_10, ej144_11, ej144_12, ej144_13, ej144_57], by simp [ej144_1, ej144_3, ej144_5, ej144_8, ej144_9, ej144_10, ej144_11, ej144_12, ej144_13, ej144_57], by simp [ej144_1, ej144_3, ej144_5, ej144_8, ej144_9, ej144_10, ej144_11, ej144_12, ej144_13, ej144_57]⟩
                  · replace hL211 := cd_f hb224 hL211
                    simp [-aBin', -aBin, -aBinI, -aUn, -aNil, -flatV, n_fn, b_add, b_sub, b_mul, b_lt, b_le, b_gt, b_ge, b_eq, b_ne, u_not, ej144_1, ej144_3, ej144_5, ej144_8, ej144_9, ej144_10, ej144_11, ej144_12, ej144_13, ej144_57, hb213, hb224, q215, q216, a222.pre, b_bne un_4]
                    apply hK
                    clear hK K
                    simp only [andThen, leaves]
                    have S226 := S220.pick [4, 5, 6, 7, 8, 11, 12, 13] (by decide) rfl
                    obtain rfl := Option.some.inj hL211
                    exact ⟨S226, A221, by simp [ej144_1, ej144_3, ej144_5, ej144_8, ej144_9, ej144_10, ej144_11, ej144_12, ej144_13, ej144_57], by simp [ej144_1, ej144_3, ej144_5, ej144_8, ej144_9, ej144_10, ej144_11, ej144_12, ej144_13, ej144_57], by simp [ej144_1, ej144_3, ej144_5, ej144_8, ej144_9, ej144_10, ej144_11, ej144_12, ej144_13, ej144_57], by simp [ej144_1, ej144_3, ej144_5, ej144_8, ej144_9, ej144_10, ej144_11, ej144_12, ej144_13, ej144_57], by simp [ej144_1, ej144_3, ej144_5, ej144_8, ej144_9, ej144_10, ej144_11, ej144_12, ej144_13, ej144_57], by simp [ej144_1, ej144_3, ej144_5, ej144_8, ej144_9, ej144_10, ej144_11, ej144_12, ej144_13, ej144_57], by simp [ej144_1, ej144_3, ej144_5, ej144_8, ej144_9, ej144_10, ej144_11, ej144_12, ej144_13, ej144_57]⟩
              · rintro env Gj227 ⟨Sj227, Aj227, ej227_1, ej227_3, ej227_5, ej227_8, ej227_9, ej227_12, ej227_86⟩
                refine DWp.cond' (t := s210) (by simp [ej227_1, ej227_3, ej227_5, ej227_8, ej227_9, ej227_12, ej227_86]) (fun hb228 => ?_) (fun hb228 => ?_)
                · replace hF := cd_t hb228 hF
                  refine DWp.seq ?_
                  refine DWp.region fun K hK => ?_
                  simp [-aBin', -aBin, -aBinI, -aUn, -aNil, -flatV, n_fn, b_add, b_sub, b_mul, b_lt, b_le, b_gt, b_ge, b_eq, b_ne, u_not, ej227_1, ej227_3, ej227_5, ej227_8, ej227_9, ej227_12, ej227_86]
                  apply hK
                  clear hK K
                  simp only [andThen, leaves]
                  refine DWp.ret ?_
                  simp only [andThen, leaves]
                  obtain rfl := Option.some.inj hF
                  exact ⟨by simp, [(Value.bool false)], by simp [ej227_1, ej227_3, ej227_5, ej227_8, ej227_9, ej227_12, ej227_86], Aj227, rfl, Sj227.pick [] (by decide) rfl⟩
                · replace hF := cd_f hb228 hF
                  refine DWp.skip ?_
                  simp only [andThen, leaves]
                  refine DWp.seq ?_
                  refine DWp.region fun K hK => ?_
                  simp [-aBin', -aBin, -aBinI, -aUn, -aNil, -flatV, n_fn, b_add, b_sub, b_mul, b_lt, b_le, b_gt, b_ge, b_eq, b_ne, u_not, ej227_1, ej227_3, ej227_5, ej227_8, ej227_9, ej227_12, ej227_86]
                  apply hK
                  clear hK K
                  simp only [andThen, leaves]
                  refine DWp.seq ?_
                  have q229 := Sj227.loadAgg (P := Try.prog) (k := 5) rfl sz_28 ag_28 rfl
                  obtain ⟨r17, hc230, hF⟩ := bd_some hF
                  refine DWp.region fun K hK => ?_
                  simp [-aBin', -aBin, -aBinI, -aUn, -aNil, -flatV, n_fn, b_add, b_sub, b_mul, b_lt, b_le, b_gt, b_ge, b_eq, b_ne, u_not, ej227_1, ej227_3, ej227_5, ej227_8, ej227_9, ej227_12, ej227_86, q229, ((Sj227.sl (k := 6) rfl).tup), ((Sj227.sl (k := 7) rfl).tup)]
                  have S231 : Sep Gj227 (Fr H) ([flat c111_u0 3 (ints r8.1.1), flat c111_u1 3 (ints r8.1.2)] ++ [AL.box p4 [v0_0, v0_1], AL.box p11 [v2_0, v2_1], AL.box p59 [c50_u0, c50_u1], flat c50_u0 3 (ints r5.1.1), flat c50_u1 3 (ints r5.1.2), AL.box p120 [c111_u0, c111_u1]]) := Sj227.pick [6, 7, 0, 1, 2, 3, 4, 5] (by decide) rfl
                  obtain ⟨B237, S232, U233, M234, R235, C236⟩ := S231.frame (hB.le Aj227.1)
                  refine CallD.t (F_laws_markMeander_w (fu := fu) U233 S232 hc230) ?_
                  rintro _ G239 ⟨a242, rfl, S243⟩
                  have A241 := Aj227.trans (a242.mono M234)
                  have S240 : Sep G239 (Fr H) [flat c111_u0 3 (ints r17.2.1), flat c111_u1 3 (ints r17.2.2), AL.box p4 [v0_0, v0_1], AL.box p11 [v2_0, v2_1], AL.box p59 [c50_u0, c50_u1], flat c50_u0 3 (ints r5.1.1), flat c50_u1 3 (ints r5.1.2), AL.box p120 [c111_u0, c111_u1]] := C236 _ _ a242 S243
                  simp [-aBin', -aBin, -aBinI, -aUn, -aNil, -flatV, n_fn, b_add, b_sub, b_mul, b_lt, b_le, b_gt, b_ge, b_eq, b_ne, u_not, ej227_1, ej227_3, ej227_5, ej227_8, ej227_9, ej227_12, ej227_86, q229]
                  apply hK
                  clear hK K
                  simp only [andThen, leaves]
                  refine DWp.seq ?_
                  refine DWp.region fun K hK => ?_
                  simp [-aBin', -aBin, -aBinI, -aUn, -aNil, -flatV, n_fn, b_add, b_sub, b_mul, b_lt, b_le, b_gt, b_ge, b_eq, b_ne, u_not, ej227_1, ej227_3, ej227_5, ej227_8, ej227_9, ej227_12, ej227_86]
                  apply hK
                  clear hK K
                  simp only [andThen, leaves]
                  refine DWp.seq ?_
                  have q244 := S240.loadAgg (P := Try.prog) (k := 7) rfl sz_28 ag_28 rfl
                  obtain ⟨r18, hc245, hF⟩ := bd_some hF
                  refine DWp.region fun K hK => ?_
                  simp [-aBin', -aBin, -aBinI, -aUn, -aNil, -flatV, n_fn, b_add, b_sub, b_mul, b_lt, b_le, b_gt, b_ge, b_eq, b_ne, u_not, ej227_1, ej227_3, ej227_5, ej227_8, ej227_9, ej227_12, ej227_86, q244, ((S240.sl (k := 0) rfl).tup), ((S240.sl (k := 1) rfl).tup)]
                  refine CallD.t (F_laws_heldMeander_w (fu := fu) (S240.sl (k := 0) rfl) (S240.sl (k := 1) rfl) hc245) ?_
                  rintro _ G247 ⟨a250, rfl, S251⟩
                  have A249 := A241.ext (hB.le A241.1) a250.agree
                  have S248 : Sep G247 (Fr H) [flat c111_u0 3 (ints r17.2.1), flat c111_u1 3 (ints r17.2.2), AL.box p4 [v0_0, v0_1], AL.box p11 [v2_0, v2_1], AL.box p59 [c50_u0, c50_u1], flat c50_u0 3 (ints r5.1.1), flat c50_u1 3 (ints r5.1.2), AL.box p120 [c111_u0, c111_u1]] := S240.app a250.agree S251 (fun _ h => h) (hB.le A241.1)
                  simp [-aBin', -aBin, -aBinI, -aUn, -aNil, -flatV, n_fn, b_add, b_sub, b_mul, b_lt, b_le, b_gt, b_ge, b_eq, b_ne, u_not, ej227_1, ej227_3, ej227_5, ej227_8, ej227_9, ej227_12, ej227_86, q244, a250.pre]
                  apply hK
                  clear hK K
                  simp only [andThen, leaves]
                  refine DWp.seq ?_
                  refine DWp.seq ?_
                  refine DWp.region fun K hK => ?_
                  simp [-aBin', -aBin, -aBinI, -aUn, -aNil, -flatV, n_fn, b_add, b_sub, b_mul, b_lt, b_le, b_gt, b_ge, b_eq, b_ne, u_not, ej227_1, ej227_3, ej227_5, ej227_8, ej227_9, ej227_12, ej227_86]
                  apply hK
                  clear hK K
                  simp only [andThen, leaves]
                  refine DWp.cond' (t := (ilt r18 0)) (by simp [ej227_1, ej227_3, ej227_5, ej227_8, ej227_9, ej227_12, ej227_86]) (fun hb252 => ?_) (fun hb252 => ?_)
                  · replace hF := cd_t hb252 hF
                    refine DWp.seq ?_
                    refine DWp.region fun K hK => ?_
                    simp [-aBin', -aBin, -aBinI, -aUn, -aNil, -flatV, n_fn, b_add, b_sub, b_mul, b_lt, b_le, b_gt, b_ge, b_eq, b_ne, u_not, ej227_1, ej227_3, ej227_5, ej227_8, ej227_9, ej227_12, ej227_86]
                    apply hK
                    clear hK K
                    simp only [andThen, leaves]
                    refine DWp.ret ?_
                    simp only [andThen, leaves]
                    obtain rfl := Option.some.inj hF
                    exact ⟨by simp, [(Value.bool false)], by simp [ej227_1, ej227_3, ej227_5, ej227_8, ej227_9, ej227_12, ej227_86], A249, rfl, S248.pick [] (by decide) rfl⟩
                  · replace hF := cd_f hb252 hF
                    refine DWp.skip ?_
                    simp only [andThen, leaves]
                    refine DWp.seq ?_
                    refine DWp.seq ?_
                    refine DWp.region fun K hK => ?_
                    simp [-aBin', -aBin, -aBinI, -aUn, -aNil, -flatV, n_fn, b_add, b_sub, b_mul, b_lt, b_le, b_gt, b_ge, b_eq, b_ne, u_not, ej227_1, ej227_3, ej227_5, ej227_8, ej227_9, ej227_12, ej227_86]
                    apply hK
                    clear hK K
                    simp only [andThen, leaves]
                    refine DWp.cond' (t := (ine r18 r17.1)) (by simp [ej227_1, ej227_3, ej227_5, ej227_8, ej227_9, ej227_12, ej227_86]) (fun hb253 => ?_) (fun hb253 => ?_)
                    · replace hF := cd_t hb253 hF
                      refine DWp.seq ?_
                      refine DWp.region fun K hK => ?_
                      simp [-aBin', -aBin, -aBinI, -aUn, -aNil, -flatV, n_fn, b_add, b_sub, b_mul, b_lt, b_le, b_gt, b_ge, b_eq, b_ne, u_not, ej227_1, ej227_3, ej227_5, ej227_8, ej227_9, ej227_12, ej227_86]
                      apply hK
                      clear hK K
                      simp only [andThen, leaves]
                      refine DWp.ret ?_
                      simp only [andThen, leaves]
                      obtain rfl := Option.some.inj hF
                      exact ⟨by simp, [(Value.bool false)], by simp [ej227_1, ej227_3, ej227_5, ej227_8, ej227_9, ej227_12, ej227_86], A249, rfl, S248.pick [] (by decide) rfl⟩
                    · replace hF := cd_f hb253 hF
                      refine DWp.skip ?_
                      simp only [andThen, leaves]
                      refine DWp.seq ?_
                      have q254 := S248.loadAgg (P := Try.prog) (k := 2) rfl sz_24 ag_24 rfl
                      obtain ⟨r19, hc255, hF⟩ := bd_some hF
                      refine DWp.drawn (B := [0, 1, 0, 0, 11, 31, 63, 127, 127, 0, 767, 2047]) 10 mixed (by kernel_rfl) (by decide) fun K hK => ?_
                      simp [-aBin', -aBin, -aBinI, -aUn, -aNil, -flatV, n_fn, b_add, b_sub, b_mul, b_lt, b_le, b_gt, b_ge, b_eq, b_ne, u_not, ej227_1, ej227_3, ej227_5, ej227_8, ej227_9, ej227_12, ej227_86, q254, ((hx0_0.agree A249.agree).tup), ((hx0_1.agree A249.agree).tup)]
                      refine CallD.t (F_laws_toMeander_w (fu := fu) (hx0_0.agree A249.agree) (hx0_1.agree A249.agree) hc255) ?_
                      rintro _ G257 ⟨a260, c256_u0, c256_u1, rfl, S261⟩
                      have A259 := A249.ext (hB.le A249.1) a260.agree
                      have S258 : Sep G257 (Fr H) [flat c111_u0 3 (ints r17.2.1), flat c111_u1 3 (ints r17.2.2), AL.box p4 [v0_0, v0_1], AL.box p11 [v2_0, v2_1], AL.box p59 [c50_u0, c50_u1], flat c50_u0 3 (ints r5.1.1), flat c50_u1 3 (ints r5.1.2), AL.box p120 [c111_u0, c111_u1], flat c256_u0 3 (ints r19.1), flat c256_u1 3 (ints r19.2)] := S248.app a260.agree S261 (fun _ h => h) (hB.le A249.1)
                      have q262 := S258.loadAgg (P := Try.prog) (k := 3) rfl sz_24 ag_24 rfl
                      obtain ⟨r20, hc263, hF⟩ := bd_some hF
                      simp [-aBin', -aBin, -aBinI, -aUn, -aNil, -flatV, n_fn, b_add, b_sub, b_mul, b_lt, b_le, b_gt, b_ge, b_eq, b_ne, u_not, ej227_1, ej227_3, ej227_5, ej227_8, ej227_9, ej227_12, ej227_86, q254, a260.pre, q262, ((hx2_0.agree A259.agree).tup), ((hx2_1.agree A259.agree).tup)]
                      refine CallD.t (F_laws_toMeander_w (fu := fu) (hx2_0.agree A259.agree) (hx2_1.agree A259.agree) hc263) ?_
                      rintro _ G265 ⟨a268, c264_u0, c264_u1, rfl, S269⟩
                      have A267 := A259.ext (hB.le A259.1) a268.agree
                      have S266 : Sep G265 (Fr H) [flat c111_u0 3 (ints r17.2.1), flat c111_u1 3 (ints r17.2.2), AL.box p4 [v0_0, v0_1], AL.box p11 [v2_0, v2_1], AL.box p59 [c50_u0, c50_u1], flat c50_u0 3 (ints r5.1.1), flat c50_u1 3 (ints r5.1.2), AL.box p120 [c111_u0, c111_u1], flat c256_u0 3 (ints r19.1), flat c256_u1 3 (ints r19.2), flat c264_u0 3 (ints r20.1), flat c264_u1 3 (ints r20.2)] := S258.app a268.agree S269 (fun _ h => h) (hB.le A259.1)
                      obtain ⟨r21, hc270, hF⟩ := bd_some hF
                      simp [-aBin', -aBin, -aBinI, -aUn, -aNil, -flatV, n_fn, b_add, b_sub, b_mul, b_lt, b_le, b_gt, b_ge, b_eq, b_ne, u_not, ej227_1, ej227_3, ej227_5, ej227_8, ej227_9, ej227_12, ej227_86, q254, a260.pre, q262, a268.pre, ((S266.sl (k := 8) rfl).tup), ((S266.sl (k := 9) rfl).tup), ((S266.sl (k := 10) rfl).tup), ((S266.sl (k := 11) rfl).tup)]
                      refine CallD.t (F_impl_InsertPair_w (fu := fu) (S266.sl (k := 8) rfl) (S266.sl (k := 9) rfl) (S266.sl (k := 10) rfl) (S266.sl (k := 11) rfl) hc270) ?_
                      rintro _ G272 ⟨a275, c271_u0, c271_u1, rfl, S276⟩
                      have A274 := A267.ext (hB.le A267.1) a275.agree
                      have S273 : Sep G272 (Fr H) [flat c111_u0 3 (ints r17.2.1), flat c111_u1 3 (ints r17.2.2), AL.box p4 [v0_0, v0_1], AL.box p11 [v2_0, v2_1], AL.box p59 [c50_u0, c50_u1], flat c50_u0 3 (ints r5.1.1), flat c50_u1 3 (ints r5.1.2), AL.box p120 [c111_u0, c111_u1], flat c256_u0 3 (ints r19.1), flat c256_u1 3 (ints r19.2), flat c264_u0 3 (ints r20.1), flat c264_u1 3 (ints r20.2), flat c271_u0 3 (ints r21.1.1), flat c271_u1 3 (ints r21.1.2)] := S266.app a275.agree S276 (fun _ h => h) (hB.le A267.1)
                      obtain ⟨G278, p280, q281, q283, a282, S277⟩ := S273.allocT (P := Try.prog) (hB.le A274.1) ze_28 rfl
                      have A279 := A274.ext (hB.le A274.1) a282
                      replace S277 : Sep G278 (Fr H) [flat c111_u0 3 (ints r17.2.1), flat c111_u1 3 (ints r17.2.2), AL.box p4 [v0_0, v0_1], AL.box p11 [v2_0, v2_1], AL.box p59 [c50_u0, c50_u1], flat c50_u0 3 (ints r5.1.1), flat c50_u1 3 (ints r5.1.2), AL.box p120 [c111_u0, c111_u1], flat c256_u0 3 (ints r19.1), flat c256_u1 3 (ints r19.2), flat c264_u0 3 (ints r20.1), flat c264_u1 3 (ints r20.2), flat c271_u0 3 (ints r21.1.1), flat c271_u1 3 (ints r21.1.2), AL.box p280 [(Value.slice none 0 0), (Value.slice none 0 0)]] := S277
                      obtain ⟨G284, q285, S286, a288⟩ := S277.putAgg (P := Try.prog) (k := 14) (xs := [c271_u0, c271_u1]) rfl (hB.le A279.1) sz_28 rfl rfl
                      have A287 := A279.trans a288
                      replace S286 : Sep G284 (Fr H) [flat c111_u0 3 (ints r17.2.1), flat c111_u1 3 (ints r17.2.2), AL.box p4 [v0_0, v0_1], AL.box p11 [v2_0, v2_1], AL.box p59 [c50_u0, c50_u1], flat c50_u0 3 (ints r5.1.1), flat c50_u1 3 (ints r5.1.2), AL.box p120 [c111_u0, c111_u1], flat c256_u0 3 (ints r19.1), flat c256_u1 3 (ints r19.2), flat c264_u0 3 (ints r20.1), flat c264_u1 3 (ints r20.2), flat c271_u0 3 (ints r21.1.1), flat c271_u1 3 (ints r21.1.2), AL.box p280 [c271_u0, c271_u1]] := S286
                      simp [-aBin', -aBin, -aBinI, -aUn, -aNil, -flatV, n_fn, b_add, b_sub, b_mul, b_lt, b_le, b_gt, b_ge, b_eq, b_ne, u_not, ej227_1, ej227_3, ej227_5, ej227_8, ej227_9, ej227_12, ej227_86, q254, a260.pre, q262, a268.pre, a275.pre, q281, q283, a282.to_pre, q285]
                      apply hK
                      clear hK K
                      simp only [andThen, leaves]
                      refine DWp.seq ?_
                      obtain ⟨s289, hL290, hF⟩ := bd_some hF
                      refine DWp.seq (DWp.join (fun env G => Sep G (Fr H) [AL.box p120 [c111_u0, c111_u1], flat c111_u0 3 (ints r17.2.1), flat c111_u1 3 (ints r17.2.2)] ∧ AgB (Fr H) H G ∧ env 12 = some p120 ∧ env 15 = some (Value.int .i64 r17.1) ∧ env 115 = some (Value.bool s289)) ?_ ?_)
                      ·
                        have q292 := S286.loadAgg (P := Try.prog) (k := 14) rfl sz_28 ag_28 rfl
                        have q293 := S286.loadAgg (P := Try.prog) (k := 4) rfl sz_28 ag_28 rfl
                        obtain ⟨r22, hc294, hL290⟩ := bd_some hL290
                        refine DWp.region fun K hK => ?_
                        simp [-aBin', -aBin, -aBinI, -aUn, -aNil, -flatV, n_fn, b_add, b_sub, b_mul, b_lt, b_le, b_gt, b_ge, b_eq, b_ne, u_not, ej227_1, ej227_3, ej227_5, ej227_8, ej227_9, ej227_12, ej227_86, q292, q293, ((S286.sl (k := 12) rfl).tup), ((S286.sl (k := 13) rfl).tup), ((S286.sl (k := 5) rfl).tup), ((S286.sl (k := 6) rfl).tup)]
                        refine CallD.t (F_laws_eqMeander_w (fu := fu) (S286.sl (k := 12) rfl) (S286.sl (k := 13) rfl) (S286.sl (k := 5) rfl) (S286.sl (k := 6) rfl) hc294) ?_
                        rintro _ G296 ⟨a299, rfl, S300⟩
                        have A298 := A287.ext (hB.le A287.1) a299.agree
                        have S297 : Sep G296 (Fr H) [flat c111_u0 3 (ints r17.2.1), flat c111_u1 3 (ints r17.2.2), AL.box p4 [v0_0, v0_1], AL.box p11 [v2_0, v2_1], AL.box p59 [c50_u0, c50_u1], flat c50_u0 3 (ints r5.1.1), flat c50_u1 3 (ints r5.1.2), AL.box p120 [c111_u0, c111_u1], flat c256_u0 3 (ints r19.1), flat c256_u1 3 (ints r19.2), flat c264_u0 3 (ints r20.1), flat c264_u1 3 (ints r20.2), flat c271_u0 3 (ints r21.1.1), flat c271_u1 3 (ints r21.1.2), AL.box p280 [c271_u0, c271_u1]] := S286.app a299.agree S300 (fun _ h => h) (hB.le A287.1)
                        rcases Bool.eq_false_or_eq_true (bnot r22) with hb301 | hb301
                        · replace hL290 := cd_t hb301 hL290
                          simp [-aBin', -aBin, -aBinI, -aUn, -aNil, -flatV, n_fn, b_add, b_sub, b_mul, b_lt, b_le, b_gt, b_ge, b_eq, b_ne, u_not, ej227_1, ej227_3, ej227_5, ej227_8, ej227_9, ej227_12, ej227_86, hb301, q292, q293, a299.pre]
                          apply hK
                          clear hK K
                          simp only [andThen, leaves]
                          have S302 := S297.pick [7, 0, 1] (by decide) rfl
                          obtain rfl := Option.some.inj hL290
                          exact ⟨S302, A298, by simp [ej227_1, ej227_3, ej227_5, ej227_8, ej227_9, ej227_12, ej227_86], by simp [ej227_1, ej227_3, ej227_5, ej227_8, ej227_9, ej227_12, ej227_86], by simp [ej227_1, ej227_3, ej227_5, ej227_8, ej227_9, ej227_12, ej227_86]⟩
                        · replace hL290 := cd_f hb301 hL290
                          simp [-aBin', -aBin, -aBinI, -aUn, -aNil, -flatV, n_fn, b_add, b_sub, b_mul, b_lt, b_le, b_gt, b_ge, b_eq, b_ne, u_not, ej227_1, ej227_3, ej227_5, ej227_8, ej227_9, ej227_12, ej227_86, hb301, q292, q293, a299.pre, b_bne un_4]
                          apply hK
                          clear hK K
                          simp only [andThen, leaves]
                          have S303 := S297.pick [7, 0, 1] (by decide) rfl
                          obtain rfl := Option.some.inj hL290
                          exact ⟨S303, A298, by simp [ej227_1, ej227_3, ej227_5, ej227_8, ej227_9, ej227_12, ej227_86], by simp [ej227_1, ej227_3, ej227_5, ej227_8, ej227_9, ej227_12, ej227_86], by simp [ej227_1, ej227_3, ej227_5, ej227_8, ej227_9, ej227_12, ej227_86]⟩
                      · rintro env Gj304 ⟨Sj304, Aj304, ej304_12, ej304_15, ej304_115⟩
                        refine DWp.cond' (t := s289) (by simp [ej304_12, ej304_15, ej304_115]) (fun hb305 => ?_) (fun hb305 => ?_)
                        · replace hF := cd_t hb305 hF
                          refine DWp.seq ?_
                          refine DWp.region fun K hK => ?_
                          simp [-aBin', -aBin, -aBinI, -aUn, -aNil, -flatV, n_fn, b_add, b_sub, b_mul, b_lt, b_le, b_gt, b_ge, b_eq, b_ne, u_not, ej304_12, ej304_15, ej304_115]
                          apply hK
                          clear hK K
                          simp only [andThen, leaves]
                          refine DWp.ret ?_
                          simp only [andThen, leaves]
                          obtain rfl := Option.some.inj hF
                          exact ⟨by simp, [(Value.bool false)], by simp [ej304_12, ej304_15, ej304_115], Aj304, rfl, Sj304.pick [] (by decide) rfl⟩
                        · replace hF := cd_f hb305 hF
                          refine DWp.skip ?_
                          simp only [andThen, leaves]
                          refine DWp.seq ?_
                          refine DWp.region fun K hK => ?_
                          simp [-aBin', -aBin, -aBinI, -aUn, -aNil, -flatV, n_fn, b_add, b_sub, b_mul, b_lt, b_le, b_gt, b_ge, b_eq, b_ne, u_not, ej304_12, ej304_15, ej304_115]
                          apply hK
                          clear hK K
                          simp only [andThen, leaves]
                          refine DWp.seq ?_
                          have q306 := Sj304.loadAgg (P := Try.prog) (k := 0) rfl sz_28 ag_28 rfl
                          obtain ⟨r23, hc307, hF⟩ := bd_some hF
                          refine DWp.region fun K hK => ?_
                          simp [-aBin', -aBin, -aBinI, -aUn, -aNil, -flatV, n_fn, b_add, b_sub, b_mul, b_lt, b_le, b_gt, b_ge, b_eq, b_ne, u_not, ej304_12, ej304_15, ej304_115, q306, ((Sj304.sl (k := 1) rfl).tup), ((Sj304.sl (k := 2) rfl).tup)]
                          refine CallD.t (F_laws_heldMeander_w (fu := fu) (Sj304.sl (k := 1) rfl) (Sj304.sl (k := 2) rfl) hc307) ?_
                          rintro _ G309 ⟨a312, rfl, S313⟩
                          have A311 := Aj304.ext (hB.le Aj304.1) a312.agree
                          have S310 : Sep G309 (Fr H) [AL.box p120 [c111_u0, c111_u1], flat c111_u0 3 (ints r17.2.1), flat c111_u1 3 (ints r17.2.2)] := Sj304.app a312.agree S313 (fun _ h => h) (hB.le Aj304.1)
                          simp [-aBin', -aBin, -aBinI, -aUn, -aNil, -flatV, n_fn, b_add, b_sub, b_mul, b_lt, b_le, b_gt, b_ge, b_eq, b_ne, u_not, ej304_12, ej304_15, ej304_115, q306, a312.pre]
                          apply hK
                          clear hK K
                          simp only [andThen, leaves]
                          refine DWp.seq ?_
                          refine DWp.seq ?_
                          refine DWp.region fun K hK => ?_
                          simp [-aBin', -aBin, -aBinI, -aUn, -aNil, -flatV, n_fn, b_add, b_sub, b_mul, b_lt, b_le, b_gt, b_ge, b_eq, b_ne, u_not, ej304_12, ej304_15, ej304_115]
                          apply hK
                          clear hK K
                          simp only [andThen, leaves]
                          refine DWp.cond' (t := (ilt r23 0)) (by simp [ej304_12, ej304_15, ej304_115]) (fun hb314 => ?_) (fun hb314 => ?_)
                          · replace hF := cd_t hb314 hF
                            refine DWp.seq ?_
                            refine DWp.region fun K hK => ?_
                            simp [-aBin', -aBin, -aBinI, -aUn, -aNil, -flatV, n_fn, b_add, b_sub, b_mul, b_lt, b_le, b_gt, b_ge, b_eq, b_ne, u_not, ej304_12, ej304_15, ej304_115]
                            apply hK
                            clear hK K
                            simp only [andThen, leaves]
                            refine DWp.ret ?_
                            simp only [andThen, leaves]
                            obtain rfl := Option.some.inj hF
                            exact ⟨by simp, [(Value.bool false)], by simp [ej304_12, ej304_15, ej304_115], A311, rfl, S310.pick [] (by decide) rfl⟩
                          · replace hF := cd_f hb314 hF
                            refine DWp.skip ?_
                            simp only [andThen, leaves]
                            refine DWp.seq ?_
                            refine DWp.seq ?_
                            refine DWp.region fun K hK => ?_
                            simp [-aBin', -aBin, -aBinI, -aUn, -aNil, -flatV, n_fn, b_add, b_sub, b_mul, b_lt, b_le, b_gt, b_ge, b_eq, b_ne, u_not, ej304_12, ej304_15, ej304_115]
                            apply hK
                            clear hK K
                            simp only [andThen, leaves]
                            refine DWp.cond' (t := (ine r23 r17.1)) (by simp [ej304_12, ej304_15, ej304_115]) (fun hb315 => ?_) (fun hb315 => ?_)
                            · replace hF := cd_t hb315 hF
                              refine DWp.seq ?_
                              refine DWp.region fun K hK => ?_
                              simp [-aBin', -aBin, -aBinI, -aUn, -aNil, -flatV, n_fn, b_add, b_sub, b_mul, b_lt, b_le, b_gt, b_ge, b_eq, b_ne, u_not, ej304_12, ej304_15, ej304_115]
                              apply hK
                              clear hK K
                              simp only [andThen, leaves]
                              refine DWp.ret ?_
                              simp only [andThen, leaves]
                              obtain rfl := Option.some.inj hF
                              exact ⟨by simp, [(Value.bool false)], by simp [ej304_12, ej304_15, ej304_115], A311, rfl, S310.pick [] (by decide) rfl⟩
                            · replace hF := cd_f hb315 hF
                              refine DWp.skip ?_
                              simp only [andThen, leaves]
                              refine DWp.seq ?_
                              refine DWp.region fun K hK => ?_
                              simp [-aBin', -aBin, -aBinI, -aUn, -aNil, -flatV, n_fn, b_add, b_sub, b_mul, b_lt, b_le, b_gt, b_ge, b_eq, b_ne, u_not, ej304_12, ej304_15, ej304_115]
                              apply hK
                              clear hK K
                              simp only [andThen, leaves]
                              refine DWp.ret ?_
                              obtain rfl := Option.some.inj hF
                              exact ⟨by simp, [(Value.bool true)], by simp [ej304_12, ej304_15, ej304_115], A311, rfl, S310.pick [] (by decide) rfl⟩
end Go.Proofs.Ytbckijeffiofdaa.AL

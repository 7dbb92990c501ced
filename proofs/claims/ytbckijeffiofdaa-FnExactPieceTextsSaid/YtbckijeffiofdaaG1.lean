/- The walks of functions, each with its Lean function: laws.szIntS, laws.szMeander, laws.toIntS, laws.toMeander, spec.l1In, spec.l1All, spec.ahGood, spec.mePair, spec.siClosed, spec.siAll. No condition. -/
import Derived.Test.YtbckijeffiofdaaALC
import Derived.Test.YtbckijeffiofdaaProg
import Derived.KernelRfl
namespace Go.Proofs.Ytbckijeffiofdaa.AL
open Go Go.RowKit
set_option linter.unusedVariables false
set_option linter.unusedSimpArgs false
set_option maxRecDepth 4096
theorem mixed : Try.prog.follows .mixedOrders = true := by kernel_rfl
theorem ag_22 : aggT Try.prog 22 = some false := by kernel_rfl
theorem ag_28 : aggT Try.prog 28 = some true := by kernel_rfl
theorem ag_3 : aggT Try.prog 3 = some false := by kernel_rfl
theorem ei_22 : einfo Try.prog 22 = some ⟨1, 24, .slice none 0 0⟩ := by kernel_rfl
theorem ei_3 : einfo Try.prog 3 = some ⟨1, 8, .int .i64 0⟩ := by kernel_rfl
theorem el_22 : elemT Try.prog 22 = some 3 := by kernel_rfl
theorem el_36 : elemT Try.prog 36 = some 22 := by kernel_rfl
theorem fa_24_0 : fldT Try.prog 24 0 = some 0 := by kernel_rfl
theorem fa_24_1 : fldT Try.prog 24 1 = some 1 := by kernel_rfl
theorem fa_28_0 : fldT Try.prog 28 0 = some 0 := by kernel_rfl
theorem fa_28_1 : fldT Try.prog 28 1 = some 1 := by kernel_rfl
theorem sz_22 : sizeT Try.prog 22 = some 1 := by kernel_rfl
theorem sz_28 : sizeT Try.prog 28 = some 2 := by kernel_rfl
theorem sz_3 : sizeT Try.prog 3 = some 1 := by kernel_rfl
theorem ze_28 : zeroT Try.prog 28 = some (.agg #[.slice none 0 0, .slice none 0 0]) := by kernel_rfl
def F_laws_szIntS (fu : Nat) (x0 : List Int) (x1 : Int) : Option (Int) :=
  bif (ilt (isub .i64 x1 (llen x0)) 0) then
    some (-1)
  else
    some (isub .i64 x1 (llen x0))
theorem F_laws_szIntS_w {fu : Nat} {H : AH} {v0 : Value} {x0 : List Int} {x1 : Int} {r : (Int)} (hx0 : Sl H v0 (ints x0)) (hF : F_laws_szIntS fu x0 x1 = some r) :
    ACallT Try.prog 88 [v0, (Value.int .i64 x1)] H (fun u G => AgB (Fr H) H G ∧ u = (Value.int .i64 r) ∧ Sep G (Fr H) []) := by
  refine ACallT.of_body (nt := 12) (rs := [.tmp 4]) Try.func88 rfl rfl rfl rfl ?_
  have A0 : AgB (Fr H) H H := .refl _ _
  have S0 : Sep H (Fr H) [] := .nil
  have hB := Fr.up H
  unfold F_laws_szIntS at hF
  refine DWp.seq ?_
  refine DWp.region fun K hK => ?_
  simp [-aBin', -aBin, -aBinI, -aUn, -aNil, -flatV, n_fn, b_add, b_sub, b_mul, b_lt, b_le, b_gt, b_ge, b_eq, b_ne, u_not]
  apply hK
  clear hK K
  simp only [andThen, leaves]
  refine DWp.seq ?_
  have q1 := lenG (P := Try.prog) (hx0.agree A0.agree) el_22
  refine DWp.region fun K hK => ?_
  simp [-aBin', -aBin, -aBinI, -aUn, -aNil, -flatV, n_fn, b_add, b_sub, b_mul, b_lt, b_le, b_gt, b_ge, b_eq, b_ne, u_not, q1]
  apply hK
  clear hK K
  simp only [andThen, leaves]
  refine DWp.seq ?_
  refine DWp.seq ?_
  refine DWp.region fun K hK => ?_
  simp [-aBin', -aBin, -aBinI, -aUn, -aNil, -flatV, n_fn, b_add, b_sub, b_mul, b_lt, b_le, b_gt, b_ge, b_eq, b_ne, u_not]
  apply hK
  clear hK K
  simp only [andThen, leaves]
  refine DWp.cond' (t := (ilt (isub .i64 x1 (llen x0)) 0)) (by simp []) (fun hb2 => ?_) (fun hb2 => ?_)
  · replace hF := cd_t hb2 hF
    refine DWp.seq ?_
    refine DWp.region fun K hK => ?_
    simp [-aBin', -aBin, -aBinI, -aUn, -aNil, -flatV, n_fn, b_add, b_sub, b_mul, b_lt, b_le, b_gt, b_ge, b_eq, b_ne, u_not]
    apply hK
    clear hK K
    simp only [andThen, leaves]
    refine DWp.ret ?_
    simp only [andThen, leaves]
    obtain rfl := Option.some.inj hF
    exact ⟨by simp, [(Value.int .i64 (-1))], by simp [], A0, rfl, S0.pick [] (by decide) rfl⟩
  · replace hF := cd_f hb2 hF
    refine DWp.skip ?_
    simp only [andThen, leaves]
    refine DWp.seq ?_
    refine DWp.region fun K hK => ?_
    simp [-aBin', -aBin, -aBinI, -aUn, -aNil, -flatV, n_fn, b_add, b_sub, b_mul, b_lt, b_le, b_gt, b_ge, b_eq, b_ne, u_not]
    apply hK
    clear hK K
    simp only [andThen, leaves]
    refine DWp.ret ?_
    obtain rfl := Option.some.inj hF
    exact ⟨by simp, [(Value.int .i64 (isub .i64 x1 (llen x0)))], by simp [], A0, rfl, S0.pick [] (by decide) rfl⟩
def F_laws_szMeander (fu : Nat) (x0_0 : List Int) (x0_1 : List Int) (x1 : Int) : Option (Int) :=
  bd (F_laws_szIntS fu x0_0 x1) fun r1 =>
  bif (ilt r1 0) then
    some (-1)
  else
    bd (F_laws_szIntS fu x0_1 r1) fun r2 =>
    bif (ilt r2 0) then
      some (-1)
    else
      some r2
theorem F_laws_szMeander_w {fu : Nat} {H : AH} {v0_0 : Value} {v0_1 : Value} {x0_0 : List Int} {x0_1 : List Int} {x1 : Int} {r : (Int)} (hx0_0 : Sl H v0_0 (ints x0_0)) (hx0_1 : Sl H v0_1 (ints x0_1)) (hF : F_laws_szMeander fu x0_0 x0_1 x1 = some r) :
    ACallT Try.prog 21 [(Value.agg #[v0_0, v0_1]), (Value.int .i64 x1)] H (fun u G => AgB (Fr H) H G ∧ u = (Value.int .i64 r) ∧ Sep G (Fr H) []) := by
  refine ACallT.of_body (nt := 18) (rs := [.tmp 4]) Try.func21 rfl rfl rfl rfl ?_
  have A0 : AgB (Fr H) H H := .refl _ _
  have S0 : Sep H (Fr H) [] := .nil
  have hB := Fr.up H
  unfold F_laws_szMeander at hF
  refine DWp.seq ?_
  obtain ⟨G2, p4, q5, q6, a7, S1⟩ := S0.boxT (hB.le A0.1) 24 [v0_0, v0_1]
  have A3 := A0.ext (hB.le A0.1) a7
  replace S1 : Sep G2 (Fr H) [AL.box p4 [v0_0, v0_1]] := S1
  refine DWp.region fun K hK => ?_
  simp [-aBin', -aBin, -aBinI, -aUn, -aNil, -flatV, n_fn, b_add, b_sub, b_mul, b_lt, b_le, b_gt, b_ge, b_eq, b_ne, u_not, q5, q6, a7.to_pre, cells_agg]
  apply hK
  clear hK K
  simp only [andThen, leaves]
  refine DWp.seq ?_
  have q8 := S1.fieldT (P := Try.prog) (k := 0) rfl fa_24_0
  have q9 := S1.loadF (P := Try.prog) (k := 0) rfl sz_22 ag_22 (off := 0) rfl
  obtain ⟨r1, hc10, hF⟩ := bd_some hF
  refine DWp.region fun K hK => ?_
  simp [-aBin', -aBin, -aBinI, -aUn, -aNil, -flatV, n_fn, b_add, b_sub, b_mul, b_lt, b_le, b_gt, b_ge, b_eq, b_ne, u_not, q8, q9, ((hx0_0.agree A3.agree).tup)]
  refine CallD.t (F_laws_szIntS_w (fu := fu) (hx0_0.agree A3.agree) hc10) ?_
  rintro _ G12 ⟨a15, rfl, S16⟩
  have A14 := A3.ext (hB.le A3.1) a15.agree
  have S13 : Sep G12 (Fr H) [AL.box p4 [v0_0, v0_1]] := S1.app a15.agree S16 (fun _ h => h) (hB.le A3.1)
  simp [-aBin', -aBin, -aBinI, -aUn, -aNil, -flatV, n_fn, b_add, b_sub, b_mul, b_lt, b_le, b_gt, b_ge, b_eq, b_ne, u_not, q8, q9, a15.pre]
  apply hK
  clear hK K
  simp only [andThen, leaves]
  refine DWp.seq ?_
  refine DWp.seq ?_
  refine DWp.region fun K hK => ?_
  simp [-aBin', -aBin, -aBinI, -aUn, -aNil, -flatV, n_fn, b_add, b_sub, b_mul, b_lt, b_le, b_gt, b_ge, b_eq, b_ne, u_not]
  apply hK
  clear hK K
  simp only [andThen, leaves]
  refine DWp.cond' (t := (ilt r1 0)) (by simp []) (fun hb17 => ?_) (fun hb17 => ?_)
  · replace hF := cd_t hb17 hF
    refine DWp.seq ?_
    refine DWp.region fun K hK => ?_
    simp [-aBin', -aBin, -aBinI, -aUn, -aNil, -flatV, n_fn, b_add, b_sub, b_mul, b_lt, b_le, b_gt, b_ge, b_eq, b_ne, u_not]
    apply hK
    clear hK K
    simp only [andThen, leaves]
    refine DWp.ret ?_
    simp only [andThen, leaves]
    obtain rfl := Option.some.inj hF
    exact ⟨by simp, [(Value.int .i64 (-1))], by simp [], A14, rfl, S13.pick [] (by decide) rfl⟩
  · replace hF := cd_f hb17 hF
    refine DWp.skip ?_
    simp only [andThen, leaves]
    refine DWp.seq ?_
    have q18 := S13.fieldT (P := Try.prog) (k := 0) rfl fa_24_1
    have q19 := S13.loadF (P := Try.prog) (k := 0) rfl sz_22 ag_22 (off := 1) rfl
    obtain ⟨r2, hc20, hF⟩ := bd_some hF
    refine DWp.region fun K hK => ?_
    simp [-aBin', -aBin, -aBinI, -aUn, -aNil, -flatV, n_fn, b_add, b_sub, b_mul, b_lt, b_le, b_gt, b_ge, b_eq, b_ne, u_not, q18, q19, ((hx0_1.agree A14.agree).tup)]
    refine CallD.t (F_laws_szIntS_w (fu := fu) (hx0_1.agree A14.agree) hc20) ?_
    rintro _ G22 ⟨a25, rfl, S26⟩
    have A24 := A14.ext (hB.le A14.1) a25.agree
    have S23 : Sep G22 (Fr H) [AL.box p4 [v0_0, v0_1]] := S13.app a25.agree S26 (fun _ h => h) (hB.le A14.1)
    simp [-aBin', -aBin, -aBinI, -aUn, -aNil, -flatV, n_fn, b_add, b_sub, b_mul, b_lt, b_le, b_gt, b_ge, b_eq, b_ne, u_not, q18, q19, a25.pre]
    apply hK
    clear hK K
    simp only [andThen, leaves]
    refine DWp.seq ?_
    refine DWp.seq ?_
    refine DWp.region fun K hK => ?_
    simp [-aBin', -aBin, -aBinI, -aUn, -aNil, -flatV, n_fn, b_add, b_sub, b_mul, b_lt, b_le, b_gt, b_ge, b_eq, b_ne, u_not]
    apply hK
    clear hK K
    simp only [andThen, leaves]
    refine DWp.cond' (t := (ilt r2 0)) (by simp []) (fun hb27 => ?_) (fun hb27 => ?_)
    · replace hF := cd_t hb27 hF
      refine DWp.seq ?_
      refine DWp.region fun K hK => ?_
      simp [-aBin', -aBin, -aBinI, -aUn, -aNil, -flatV, n_fn, b_add, b_sub, b_mul, b_lt, b_le, b_gt, b_ge, b_eq, b_ne, u_not]
      apply hK
      clear hK K
      simp only [andThen, leaves]
      refine DWp.ret ?_
      simp only [andThen, leaves]
      obtain rfl := Option.some.inj hF
      exact ⟨by simp, [(Value.int .i64 (-1))], by simp [], A24, rfl, S23.pick [] (by decide) rfl⟩
    · replace hF := cd_f hb27 hF
      refine DWp.skip ?_
      simp only [andThen, leaves]
      refine DWp.seq ?_
      refine DWp.region fun K hK => ?_
      simp [-aBin', -aBin, -aBinI, -aUn, -aNil, -flatV, n_fn, b_add, b_sub, b_mul, b_lt, b_le, b_gt, b_ge, b_eq, b_ne, u_not]
      apply hK
      clear hK K
      simp only [andThen, leaves]
      refine DWp.ret ?_
      obtain rfl := Option.some.inj hF
      exact ⟨by simp, [(Value.int .i64 r2)], by simp [], A24, rfl, S23.pick [] (by decide) rfl⟩
def F_laws_toIntS_L1 (fu : Nat) (k1_0 : List Int) : Nat → List Int → Int → Option (List Int × Int)
  | 0, _, _ => none
  | n + 1, l1_0, y1_4 =>
    bif (ilt y1_4 (llen k1_0)) then
      gd (inL k1_0 y1_4) (
      gd (inL l1_0 y1_4) (
      F_laws_toIntS_L1 fu k1_0 n (lset l1_0 y1_4 (gat 0 k1_0 y1_4)) (iadd .i64 y1_4 1)))
    else
      some (l1_0, y1_4)
def F_laws_toIntS (fu : Nat) (x0 : List Int) : Option (List Int) :=
  gd (0 ≤ (llen x0) ∧ (llen x0) ≤ 4294967296) (
  bd (F_laws_toIntS_L1 fu x0 fu (lrep (llen x0) (0 : Int)) 0) fun s1 =>
  some s1.1)
theorem F_laws_toIntS_w {fu : Nat} {H : AH} {v0 : Value} {x0 : List Int} {r : (List Int)} (hx0 : Sl H v0 (ints x0)) (hF : F_laws_toIntS fu x0 = some r) :
    ACallT Try.prog 91 [v0] H (fun u G => AgB (Fr H) H G ∧ ∃ u0 : Value, u = u0 ∧ Sep G (Fr H) [flat u0 3 (ints r)]) := by
  refine ACallT.of_body (nt := 22) (rs := [.tmp 2]) Try.func91 rfl rfl rfl rfl ?_
  have A0 : AgB (Fr H) H H := .refl _ _
  have S0 : Sep H (Fr H) [] := .nil
  have hB := Fr.up H
  unfold F_laws_toIntS at hF
  refine DWp.seq ?_
  refine DWp.region fun K hK => ?_
  simp [-aBin', -aBin, -aBinI, -aUn, -aNil, -flatV, n_fn, b_add, b_sub, b_mul, b_lt, b_le, b_gt, b_ge, b_eq, b_ne, u_not]
  apply hK
  clear hK K
  simp only [andThen, leaves]
  refine DWp.seq ?_
  have q1 := lenG (P := Try.prog) (hx0.agree A0.agree) el_22
  obtain ⟨g2, hF⟩ := gd_some hF
  obtain ⟨v3, G4, q5, S6, a8, _⟩ := S0.make (f := (Value.int .i64)) (P := Try.prog) (t := 22) (hB.le A0.1) el_22 ei_3 rfl 0 rfl g2
  have A7 := A0.ext (hB.le A0.1) a8
  replace S6 : Sep G4 (Fr H) [flat v3 3 (ints (lrep (llen x0) (0 : Int)))] := S6
  refine DWp.region fun K hK => ?_
  simp [-aBin', -aBin, -aBinI, -aUn, -aNil, -flatV, n_fn, b_add, b_sub, b_mul, b_lt, b_le, b_gt, b_ge, b_eq, b_ne, u_not, q1, q5, a8.to_pre]
  apply hK
  clear hK K
  simp only [andThen, leaves]
  refine DWp.seq ?_
  refine DWp.seq ?_
  refine DWp.region fun K hK => ?_
  simp [-aBin', -aBin, -aBinI, -aUn, -aNil, -flatV, n_fn, b_add, b_sub, b_mul, b_lt, b_le, b_gt, b_ge, b_eq, b_ne, u_not]
  apply hK
  clear hK K
  simp only [andThen, leaves]
  refine DWp.block ?_
  obtain ⟨s9, hL10, hF⟩ := bd_some hF
  have S11 := S6.pick [0] (by decide) rfl
  refine DWp.loop (fun n env G => ∃ l1_0 : List Int, ∃ y1_4 : Int, F_laws_toIntS_L1 fu x0 n l1_0 y1_4 = some s9 ∧ Sep G (Fr H) [flat v3 3 (ints l1_0)] ∧ AgB (Fr H) H G ∧ env 0 = some v0 ∧ env 3 = some v3 ∧ env 4 = some (Value.int .i64 y1_4)) fu ⟨(lrep (llen x0) (0 : Int)), 0, hL10, S11, A7, by simp [], by simp [], by simp []⟩ ?_
  rintro n1 env1 G1_ ⟨l1_0, y1_4, hL10, S1_, A1_, e1_0, e1_3, e1_4⟩
  cases n1 with
  | zero => cases hL10
  | succ n1 =>
    simp only [F_laws_toIntS_L1] at hL10
    refine DWp.seq ?_
    refine DWp.seq ?_
    have q12 := lenG (P := Try.prog) (hx0.agree A1_.agree) el_22
    refine DWp.region fun K hK => ?_
    simp [-aBin', -aBin, -aBinI, -aUn, -aNil, -flatV, n_fn, b_add, b_sub, b_mul, b_lt, b_le, b_gt, b_ge, b_eq, b_ne, u_not, e1_0, e1_3, e1_4, q12]
    apply hK
    clear hK K
    simp only [andThen, leaves]
    refine DWp.cond' (t := (ilt y1_4 (llen x0))) (by simp [e1_0, e1_3, e1_4]) (fun hb13 => ?_) (fun hb13 => ?_)
    · replace hL10 := cd_t hb13 hL10
      refine DWp.skip ?_
      simp only [andThen, leaves]
      refine DWp.seq ?_
      refine DWp.block ?_
      obtain ⟨g14, hL10⟩ := gd_some hL10
      have q15 := idxG (P := Try.prog) (kk := .i64) (hx0.agree A1_.agree) el_22 sz_3 g14
      have q16 := loadG (P := Try.prog) (hx0.agree A1_.agree) sz_3 ag_3 g14 0
      obtain ⟨g17, hL10⟩ := gd_some hL10
      have q18 := idxG (P := Try.prog) (kk := .i64) (S1_.sl (k := 0) rfl) el_22 sz_3 g17
      obtain ⟨G19, q20, S21, a23⟩ := S1_.storeG (f := (Value.int .i64)) (P := Try.prog) (k := 0) (x := (gat 0 x0 y1_4)) rfl (hB.le A1_.1) sz_3 g17 rfl rfl
      have A22 := A1_.trans a23
      replace S21 : Sep G19 (Fr H) [flat v3 3 (ints (lset l1_0 y1_4 (gat 0 x0 y1_4)))] := S21
      refine DWp.region fun K hK => ?_
      simp [-aBin', -aBin, -aBinI, -aUn, -aNil, -flatV, n_fn, b_add, b_sub, b_mul, b_lt, b_le, b_gt, b_ge, b_eq, b_ne, u_not, e1_0, e1_3, e1_4, q15, q16, q18, q20]
      apply hK
      clear hK K
      simp only [andThen, leaves]
      refine DWp.region fun K hK => ?_
      simp [-aBin', -aBin, -aBinI, -aUn, -aNil, -flatV, n_fn, b_add, b_sub, b_mul, b_lt, b_le, b_gt, b_ge, b_eq, b_ne, u_not, e1_0, e1_3, e1_4]
      apply hK
      clear hK K
      simp only [andThen, leaves]
      have S24 := S21.pick [0] (by decide) rfl
      exact ⟨n1, Nat.lt_succ_self _, (lset l1_0 y1_4 (gat 0 x0 y1_4)), (iadd .i64 y1_4 1), hL10, S24, A22, by simp [e1_0, e1_3, e1_4], by simp [e1_0, e1_3, e1_4], by simp [e1_0, e1_3, e1_4]⟩
    · replace hL10 := cd_f hb13 hL10
      refine DWp.exit ?_
      simp only [andThen, leaves, if_true, if_false, reduceIte, Nat.reduceEqDiff]
      obtain rfl := Option.some.inj hL10
      try dsimp only at hF
      refine DWp.seq ?_
      refine DWp.region fun K hK => ?_
      simp [-aBin', -aBin, -aBinI, -aUn, -aNil, -flatV, n_fn, b_add, b_sub, b_mul, b_lt, b_le, b_gt, b_ge, b_eq, b_ne, u_not, e1_0, e1_3, e1_4]
      apply hK
      clear hK K
      simp only [andThen, leaves]
      refine DWp.ret ?_
      obtain rfl := Option.some.inj hF
      exact ⟨by simp, [v3], by simp [e1_0, e1_3, e1_4, ((S1_.sl (k := 0) rfl).tup)], A1_, v3, rfl, S1_.pick [0] (by decide) rfl⟩
def F_laws_toMeander (fu : Nat) (x0_0 : List Int) (x0_1 : List Int) : Option ((List Int × List Int)) :=
  bd (F_laws_toIntS fu x0_0) fun r1 =>
  bd (F_laws_toIntS fu x0_1) fun r2 =>
  some (r1, r2)
theorem F_laws_toMeander_w {fu : Nat} {H : AH} {v0_0 : Value} {v0_1 : Value} {x0_0 : List Int} {x0_1 : List Int} {r : ((List Int × List Int))} (hx0_0 : Sl H v0_0 (ints x0_0)) (hx0_1 : Sl H v0_1 (ints x0_1)) (hF : F_laws_toMeander fu x0_0 x0_1 = some r) :
    ACallT Try.prog 23 [(Value.agg #[v0_0, v0_1])] H (fun u G => AgB (Fr H) H G ∧ ∃ u0 : Value, ∃ u1 : Value, u = (Value.agg #[u0, u1]) ∧ Sep G (Fr H) [flat u0 3 (ints r.1), flat u1 3 (ints r.2)]) := by
  refine ACallT.of_body (nt := 13) (rs := [.cell 2 28]) Try.func23 rfl rfl rfl rfl ?_
  have A0 : AgB (Fr H) H H := .refl _ _
  have S0 : Sep H (Fr H) [] := .nil
  have hB := Fr.up H
  unfold F_laws_toMeander at hF
  refine DWp.seq ?_
  obtain ⟨G2, p4, q5, q6, a7, S1⟩ := S0.boxT (hB.le A0.1) 24 [v0_0, v0_1]
  have A3 := A0.ext (hB.le A0.1) a7
  replace S1 : Sep G2 (Fr H) [AL.box p4 [v0_0, v0_1]] := S1
  obtain ⟨G9, p11, q12, q14, a13, S8⟩ := S1.allocT (P := Try.prog) (hB.le A3.1) ze_28 rfl
  have A10 := A3.ext (hB.le A3.1) a13
  replace S8 : Sep G9 (Fr H) [AL.box p4 [v0_0, v0_1], AL.box p11 [(Value.slice none 0 0), (Value.slice none 0 0)]] := S8
  refine DWp.region fun K hK => ?_
  simp [-aBin', -aBin, -aBinI, -aUn, -aNil, -flatV, n_fn, b_add, b_sub, b_mul, b_lt, b_le, b_gt, b_ge, b_eq, b_ne, u_not, q5, q6, a7.to_pre, cells_agg, q12, q14, a13.to_pre]
  apply hK
  clear hK K
  simp only [andThen, leaves]
  refine DWp.seq ?_
  obtain ⟨G16, p18, q19, q21, a20, S15⟩ := S8.allocT (P := Try.prog) (hB.le A10.1) ze_28 rfl
  have A17 := A10.ext (hB.le A10.1) a20
  replace S15 : Sep G16 (Fr H) [AL.box p4 [v0_0, v0_1], AL.box p11 [(Value.slice none 0 0), (Value.slice none 0 0)], AL.box p18 [(Value.slice none 0 0), (Value.slice none 0 0)]] := S15
  refine DWp.region fun K hK => ?_
  simp [-aBin', -aBin, -aBinI, -aUn, -aNil, -flatV, n_fn, b_add, b_sub, b_mul, b_lt, b_le, b_gt, b_ge, b_eq, b_ne, u_not, q19, q21, a20.to_pre]
  apply hK
  clear hK K
  simp only [andThen, leaves]
  refine DWp.seq ?_
  have q22 := S15.fieldT (P := Try.prog) (k := 0) rfl fa_24_0
  have q23 := S15.loadF (P := Try.prog) (k := 0) rfl sz_22 ag_22 (off := 0) rfl
  obtain ⟨r1, hc24, hF⟩ := bd_some hF
  refine DWp.region fun K hK => ?_
  simp [-aBin', -aBin, -aBinI, -aUn, -aNil, -flatV, n_fn, b_add, b_sub, b_mul, b_lt, b_le, b_gt, b_ge, b_eq, b_ne, u_not, q22, q23, ((hx0_0.agree A17.agree).tup)]
  refine CallD.t (F_laws_toIntS_w (fu := fu) (hx0_0.agree A17.agree) hc24) ?_
  rintro c25_u0 G26 ⟨a29, _, rfl, S30⟩
  have A28 := A17.ext (hB.le A17.1) a29.agree
  have S27 : Sep G26 (Fr H) [AL.box p4 [v0_0, v0_1], AL.box p11 [(Value.slice none 0 0), (Value.slice none 0 0)], AL.box p18 [(Value.slice none 0 0), (Value.slice none 0 0)], flat c25_u0 3 (ints r1)] := S15.app a29.agree S30 (fun _ h => h) (hB.le A17.1)
  have q31 := S27.fieldT (P := Try.prog) (k := 2) rfl fa_28_0
  obtain ⟨G32, q33, S34, a36⟩ := S27.putF (P := Try.prog) (k := 2) (off := 0) rfl (hB.le A28.1) sz_22 (by simp) ((S27.sl (k := 3) rfl).tup) ((S27.sl (k := 3) rfl).one)
  have A35 := A28.trans a36
  replace S34 : Sep G32 (Fr H) [AL.box p4 [v0_0, v0_1], AL.box p11 [(Value.slice none 0 0), (Value.slice none 0 0)], AL.box p18 [c25_u0, (Value.slice none 0 0)], flat c25_u0 3 (ints r1)] := S34
  simp [-aBin', -aBin, -aBinI, -aUn, -aNil, -flatV, n_fn, b_add, b_sub, b_mul, b_lt, b_le, b_gt, b_ge, b_eq, b_ne, u_not, q22, q23, a29.pre, q31, q33]
  apply hK
  clear hK K
  simp only [andThen, leaves]
  refine DWp.seq ?_
  have q37 := S34.fieldT (P := Try.prog) (k := 0) rfl fa_24_1
  have q38 := S34.loadF (P := Try.prog) (k := 0) rfl sz_22 ag_22 (off := 1) rfl
  obtain ⟨r2, hc39, hF⟩ := bd_some hF
  refine DWp.region fun K hK => ?_
  simp [-aBin', -aBin, -aBinI, -aUn, -aNil, -flatV, n_fn, b_add, b_sub, b_mul, b_lt, b_le, b_gt, b_ge, b_eq, b_ne, u_not, q37, q38, ((hx0_1.agree A35.agree).tup)]
  refine CallD.t (F_laws_toIntS_w (fu := fu) (hx0_1.agree A35.agree) hc39) ?_
  rintro c40_u0 G41 ⟨a44, _, rfl, S45⟩
  have A43 := A35.ext (hB.le A35.1) a44.agree
  have S42 : Sep G41 (Fr H) [AL.box p4 [v0_0, v0_1], AL.box p11 [(Value.slice none 0 0), (Value.slice none 0 0)], AL.box p18 [c25_u0, (Value.slice none 0 0)], flat c25_u0 3 (ints r1), flat c40_u0 3 (ints r2)] := S34.app a44.agree S45 (fun _ h => h) (hB.le A35.1)
  have q46 := S42.fieldT (P := Try.prog) (k := 2) rfl fa_28_1
  obtain ⟨G47, q48, S49, a51⟩ := S42.putF (P := Try.prog) (k := 2) (off := 1) rfl (hB.le A43.1) sz_22 (by simp) ((S42.sl (k := 4) rfl).tup) ((S42.sl (k := 4) rfl).one)
  have A50 := A43.trans a51
  replace S49 : Sep G47 (Fr H) [AL.box p4 [v0_0, v0_1], AL.box p11 [(Value.slice none 0 0), (Value.slice none 0 0)], AL.box p18 [c25_u0, c40_u0], flat c25_u0 3 (ints r1), flat c40_u0 3 (ints r2)] := S49
  simp [-aBin', -aBin, -aBinI, -aUn, -aNil, -flatV, n_fn, b_add, b_sub, b_mul, b_lt, b_le, b_gt, b_ge, b_eq, b_ne, u_not, q37, q38, a44.pre, q46, q48]
  apply hK
  clear hK K
  simp only [andThen, leaves]
  refine DWp.seq ?_
  have q52 := S49.loadAgg (P := Try.prog) (k := 2) rfl sz_28 ag_28 rfl
  obtain ⟨G53, q54, S55, a57⟩ := S49.putAgg (P := Try.prog) (k := 1) (xs := [c25_u0, c40_u0]) rfl (hB.le A50.1) sz_28 rfl rfl
  have A56 := A50.trans a57
  replace S55 : Sep G53 (Fr H) [AL.box p4 [v0_0, v0_1], AL.box p11 [c25_u0, c40_u0], AL.box p18 [c25_u0, c40_u0], flat c25_u0 3 (ints r1), flat c40_u0 3 (ints r2)] := S55
  refine DWp.region fun K hK => ?_
  simp [-aBin', -aBin, -aBinI, -aUn, -aNil, -flatV, n_fn, b_add, b_sub, b_mul, b_lt, b_le, b_gt, b_ge, b_eq, b_ne, u_not, q52, q54]
  apply hK
  clear hK K
  simp only [andThen, leaves]
  refine DWp.ret ?_
  have q58 := S55.loadAgg (P := Try.prog) (k := 1) rfl sz_28 ag_28 rfl
  obtain rfl := Option.some.inj hF
  exact ⟨by simp, [(Value.agg #[c25_u0, c40_u0])], by simp [q58, ((S55.sl (k := 3) rfl).tup), ((S55.sl (k := 4) rfl).tup)], A56, c25_u0, c40_u0, rfl, S55.pick [3, 4] (by decide) rfl⟩
def F_spec_l1In (fu : Nat) (x0 : Int) (x1 : Int) (x2 : Int) : Option (Bool) :=
  bif (ile x1 x0) then
    some (ile x0 x2)
  else
    some false
theorem F_spec_l1In_w {fu : Nat} {H : AH}  {x0 : Int} {x1 : Int} {x2 : Int} {r : (Bool)}  (hF : F_spec_l1In fu x0 x1 x2 = some r) :
    ACallT Try.prog 106 [(Value.int .i64 x0), (Value.int .i64 x1), (Value.int .i64 x2)] H (fun u G => AgB (Fr H) H G ∧ u = (Value.bool r) ∧ Sep G (Fr H) []) := by
  refine ACallT.of_body (nt := 15) (rs := [.tmp 6]) Try.func106 rfl rfl rfl rfl ?_
  have A0 : AgB (Fr H) H H := .refl _ _
  have S0 : Sep H (Fr H) [] := .nil
  have hB := Fr.up H
  unfold F_spec_l1In at hF
  refine DWp.seq ?_
  refine DWp.region fun K hK => ?_
  simp [-aBin', -aBin, -aBinI, -aUn, -aNil, -flatV, n_fn, b_add, b_sub, b_mul, b_lt, b_le, b_gt, b_ge, b_eq, b_ne, u_not]
  apply hK
  clear hK K
  simp only [andThen, leaves]
  refine DWp.seq ?_
  rcases Bool.eq_false_or_eq_true (ile x1 x0) with hb1 | hb1
  · replace hF := cd_t hb1 hF
    refine DWp.region fun K hK => ?_
    simp [-aBin', -aBin, -aBinI, -aUn, -aNil, -flatV, n_fn, b_add, b_sub, b_mul, b_lt, b_le, b_gt, b_ge, b_eq, b_ne, u_not, hb1]
    apply hK
    clear hK K
    simp only [andThen, leaves]
    refine DWp.ret ?_
    obtain rfl := Option.some.inj hF
    exact ⟨by simp, [(Value.bool (ile x0 x2))], by simp [], A0, rfl, S0.pick [] (by decide) rfl⟩
  · replace hF := cd_f hb1 hF
    refine DWp.region fun K hK => ?_
    simp [-aBin', -aBin, -aBinI, -aUn, -aNil, -flatV, n_fn, b_add, b_sub, b_mul, b_lt, b_le, b_gt, b_ge, b_eq, b_ne, u_not, hb1]
    apply hK
    clear hK K
    simp only [andThen, leaves]
    refine DWp.ret ?_
    obtain rfl := Option.some.inj hF
    exact ⟨by simp, [(Value.bool false)], by simp [], A0, rfl, S0.pick [] (by decide) rfl⟩
def F_spec_l1All_L1 (fu : Nat) (k1_0 : Int) (k1_1 : Int) (k1_2 : List Int) (k1_3 : Int) : Nat → Int → Option (LR (Bool) (Int))
  | 0, _ => none
  | n + 1, y1_11 =>
    bif (ilt y1_11 k1_3) then
      gd (inL k1_2 y1_11) (
      bd (F_spec_l1In fu (gat 0 k1_2 y1_11) k1_0 k1_1) fun r1 =>
      bif (bnot r1) then
        some (.ret false)
      else
        F_spec_l1All_L1 fu k1_0 k1_1 k1_2 k1_3 n (iadd .i64 y1_11 1))
    else
      some (.brk y1_11)
def F_spec_l1All (fu : Nat) (x0 : List Int) (x1 : Int) (x2 : Int) : Option (Bool) :=
  bd (F_spec_l1All_L1 fu x1 x2 x0 (llen x0) fu 0) fun s1 =>
  lr s1 fun s1 =>
  some true
theorem F_spec_l1All_w {fu : Nat} {H : AH} {v0 : Value} {x0 : List Int} {x1 : Int} {x2 : Int} {r : (Bool)} (hx0 : Sl H v0 (ints x0)) (hF : F_spec_l1All fu x0 x1 x2 = some r) :
    ACallT Try.prog 161 [v0, (Value.int .i64 x1), (Value.int .i64 x2)] H (fun u G => AgB (Fr H) H G ∧ u = (Value.bool r) ∧ Sep G (Fr H) []) := by
  refine ACallT.of_body (nt := 21) (rs := [.tmp 6]) Try.func161 rfl rfl rfl rfl ?_
  have A0 : AgB (Fr H) H H := .refl _ _
  have S0 : Sep H (Fr H) [] := .nil
  have hB := Fr.up H
  unfold F_spec_l1All at hF
  refine DWp.seq ?_
  refine DWp.region fun K hK => ?_
  simp [-aBin', -aBin, -aBinI, -aUn, -aNil, -flatV, n_fn, b_add, b_sub, b_mul, b_lt, b_le, b_gt, b_ge, b_eq, b_ne, u_not]
  apply hK
  clear hK K
  simp only [andThen, leaves]
  refine DWp.seq ?_
  refine DWp.seq ?_
  have q1 := lenG (P := Try.prog) (hx0.agree A0.agree) el_22
  refine DWp.region fun K hK => ?_
  simp [-aBin', -aBin, -aBinI, -aUn, -aNil, -flatV, n_fn, b_add, b_sub, b_mul, b_lt, b_le, b_gt, b_ge, b_eq, b_ne, u_not, q1]
  apply hK
  clear hK K
  simp only [andThen, leaves]
  refine DWp.block ?_
  obtain ⟨s2, hL3, hF⟩ := bd_some hF
  have S4 := S0.pick [] (by decide) rfl
  refine DWp.loop (fun n env G => ∃ y1_11 : Int, F_spec_l1All_L1 fu x1 x2 x0 (llen x0) n y1_11 = some s2 ∧ Sep G (Fr H) [] ∧ AgB (Fr H) H G ∧ env 1 = some (Value.int .i64 x1) ∧ env 2 = some (Value.int .i64 x2) ∧ env 9 = some v0 ∧ env 10 = some (Value.int .i64 (llen x0)) ∧ env 11 = some (Value.int .i64 y1_11)) fu ⟨0, hL3, S4, A0, by simp [], by simp [], by simp [], by simp [], by simp []⟩ ?_
  rintro n1 env1 G1_ ⟨y1_11, hL3, S1_, A1_, e1_1, e1_2, e1_9, e1_10, e1_11⟩
  cases n1 with
  | zero => cases hL3
  | succ n1 =>
    simp only [F_spec_l1All_L1] at hL3
    refine DWp.seq ?_
    refine DWp.region fun K hK => ?_
    simp [-aBin', -aBin, -aBinI, -aUn, -aNil, -flatV, n_fn, b_add, b_sub, b_mul, b_lt, b_le, b_gt, b_ge, b_eq, b_ne, u_not, e1_1, e1_2, e1_9, e1_10, e1_11]
    apply hK
    clear hK K
    simp only [andThen, leaves]
    refine DWp.seq ?_
    refine DWp.cond' (t := (ilt y1_11 (llen x0))) (by simp [e1_1, e1_2, e1_9, e1_10, e1_11]) (fun hb5 => ?_) (fun hb5 => ?_)
    · replace hL3 := cd_t hb5 hL3
      refine DWp.skip ?_
      simp only [andThen, leaves]
      refine DWp.seq ?_
      refine DWp.block ?_
      refine DWp.seq ?_
      obtain ⟨g6, hL3⟩ := gd_some hL3
      have q7 := idxG (P := Try.prog) (kk := .i64) (hx0.agree A1_.agree) el_22 sz_3 g6
      have q8 := loadG (P := Try.prog) (hx0.agree A1_.agree) sz_3 ag_3 g6 0
      refine DWp.region fun K hK => ?_
      simp [-aBin', -aBin, -aBinI, -aUn, -aNil, -flatV, n_fn, b_add, b_sub, b_mul, b_lt, b_le, b_gt, b_ge, b_eq, b_ne, u_not, e1_1, e1_2, e1_9, e1_10, e1_11, q7, q8]
      apply hK
      clear hK K
      simp only [andThen, leaves]
      refine DWp.seq ?_
      obtain ⟨r1, hc9, hL3⟩ := bd_some hL3
      refine DWp.region fun K hK => ?_
      simp [-aBin', -aBin, -aBinI, -aUn, -aNil, -flatV, n_fn, b_add, b_sub, b_mul, b_lt, b_le, b_gt, b_ge, b_eq, b_ne, u_not, e1_1, e1_2, e1_9, e1_10, e1_11]
      refine CallD.t (F_spec_l1In_w (fu := fu)  hc9) ?_
      rintro _ G11 ⟨a14, rfl, S15⟩
      have A13 := A1_.ext (hB.le A1_.1) a14.agree
      have S12 : Sep G11 (Fr H) [] := S1_.app a14.agree S15 (fun _ h => h) (hB.le A1_.1)
      simp [-aBin', -aBin, -aBinI, -aUn, -aNil, -flatV, n_fn, b_add, b_sub, b_mul, b_lt, b_le, b_gt, b_ge, b_eq, b_ne, u_not, e1_1, e1_2, e1_9, e1_10, e1_11, a14.pre]
      apply hK
      clear hK K
      simp only [andThen, leaves]
      refine DWp.cond' (t := (bnot r1)) (by simp [e1_1, e1_2, e1_9, e1_10, e1_11]) (fun hb16 => ?_) (fun hb16 => ?_)
      · replace hL3 := cd_t hb16 hL3
        refine DWp.seq ?_
        refine DWp.region fun K hK => ?_
        simp [-aBin', -aBin, -aBinI, -aUn, -aNil, -flatV, n_fn, b_add, b_sub, b_mul, b_lt, b_le, b_gt, b_ge, b_eq, b_ne, u_not, e1_1, e1_2, e1_9, e1_10, e1_11]
        apply hK
        clear hK K
        simp only [andThen, leaves]
        refine DWp.ret ?_
        simp only [andThen, leaves]
        obtain rfl := Option.some.inj hL3
        simp only [lr] at hF
        obtain rfl := Option.some.inj hF
        exact ⟨by simp, [(Value.bool false)], by simp [e1_1, e1_2, e1_9, e1_10, e1_11], A13, rfl, S12.pick [] (by decide) rfl⟩
      · replace hL3 := cd_f hb16 hL3
        refine DWp.skip ?_
        simp only [andThen, leaves]
        refine DWp.region fun K hK => ?_
        simp [-aBin', -aBin, -aBinI, -aUn, -aNil, -flatV, n_fn, b_add, b_sub, b_mul, b_lt, b_le, b_gt, b_ge, b_eq, b_ne, u_not, e1_1, e1_2, e1_9, e1_10, e1_11]
        apply hK
        clear hK K
        simp only [andThen, leaves]
        have S17 := S12.pick [] (by decide) rfl
        exact ⟨n1, Nat.lt_succ_self _, (iadd .i64 y1_11 1), hL3, S17, A13, by simp [e1_1, e1_2, e1_9, e1_10, e1_11], by simp [e1_1, e1_2, e1_9, e1_10, e1_11], by simp [e1_1, e1_2, e1_9, e1_10, e1_11], by simp [e1_1, e1_2, e1_9, e1_10, e1_11], by simp [e1_1, e1_2, e1_9, e1_10, e1_11]⟩
    · replace hL3 := cd_f hb5 hL3
      refine DWp.exit ?_
      simp only [andThen, leaves, if_true, if_false, reduceIte, Nat.reduceEqDiff]
      obtain rfl := Option.some.inj hL3
      simp only [lr] at hF
      refine DWp.seq ?_
      refine DWp.region fun K hK => ?_
      simp [-aBin', -aBin, -aBinI, -aUn, -aNil, -flatV, n_fn, b_add, b_sub, b_mul, b_lt, b_le, b_gt, b_ge, b_eq, b_ne, u_not, e1_1, e1_2, e1_9, e1_10, e1_11]
      apply hK
      clear hK K
      simp only [andThen, leaves]
      refine DWp.ret ?_
      obtain rfl := Option.some.inj hF
      exact ⟨by simp, [(Value.bool true)], by simp [e1_1, e1_2, e1_9, e1_10, e1_11], A1_, rfl, S1_.pick [] (by decide) rfl⟩
def F_spec_ahGood_L1 (fu : Nat) (k1_0 : List Int) (k1_1 : Int) : Nat → List Int → Int → Option (LR (Bool) (List Int × Int))
  | 0, _, _ => none
  | n + 1, l1_0, y1_25 =>
    bif (ilt y1_25 k1_1) then
      gd (inL k1_0 y1_25) (
      bd (
        bif (ilt y1_25 (gat 0 k1_0 y1_25)) then
          gd (inL k1_0 (gat 0 k1_0 y1_25)) (
          some (ieq (gat 0 k1_0 (gat 0 k1_0 y1_25)) y1_25))
        else
          some false) fun s31 =>
      bif s31 then
        gd ([y1_25].length + l1_0.length ≤ 4294967296) (
        F_spec_ahGood_L1 fu k1_0 k1_1 n (lapp [y1_25] l1_0) (iadd .i64 y1_25 1))
      else
        bd (
          bif (ilt (gat 0 k1_0 y1_25) y1_25) then
            bif (ilt 0 (llen l1_0)) then
              gd (inL l1_0 0) (
              some (ieq (gat 0 l1_0 0) (gat 0 k1_0 y1_25)))
            else
              some false
          else
            some false) fun s57 =>
        bif s57 then
          gd (subL l1_0 1 (llen l1_0)) (
          F_spec_ahGood_L1 fu k1_0 k1_1 n (lsub l1_0 1 (llen l1_0)) (iadd .i64 y1_25 1))
        else
          some (.ret false))
    else
      some (.brk (l1_0, y1_25))
def F_spec_ahGood (fu : Nat) (x0 : List Int) : Option (Bool) :=
  bd (
    bif (ieq (irem (llen x0) 2) 1) then
      some true
    else
      bif (ilt 12 (llen x0)) then
        some true
      else
        bd (F_spec_l1All fu x0 0 (isub .i64 (llen x0) 1)) fun r1 =>
        some (bnot r1)) fun s1 =>
  bif s1 then
    some false
  else
    bd (F_spec_ahGood_L1 fu x0 (llen x0) fu (@List.nil Int) 0) fun s1 =>
    lr s1 fun s1 =>
    some true
theorem F_spec_ahGood_w {fu : Nat} {H : AH} {v0 : Value} {x0 : List Int} {r : (Bool)} (hx0 : Sl H v0 (ints x0)) (hF : F_spec_ahGood fu x0 = some r) :
    ACallT Try.prog 133 [v0] H (fun u G => AgB (Fr H) H G ∧ u = (Value.bool r) ∧ Sep G (Fr H) []) := by
  refine ACallT.of_body (nt := 65) (rs := [.tmp 2]) Try.func133 rfl rfl rfl rfl ?_
  have A0 : AgB (Fr H) H H := .refl _ _
  have S0 : Sep H (Fr H) [] := .nil
  have hB := Fr.up H
  unfold F_spec_ahGood at hF
  refine DWp.seq ?_
  refine DWp.region fun K hK => ?_
  simp [-aBin', -aBin, -aBinI, -aUn, -aNil, -flatV, n_fn, b_add, b_sub, b_mul, b_lt, b_le, b_gt, b_ge, b_eq, b_ne, u_not]
  apply hK
  clear hK K
  simp only [andThen, leaves]
  refine DWp.seq ?_
  obtain ⟨s1, hL2, hF⟩ := bd_some hF
  refine DWp.seq (DWp.join (fun env G => Sep G (Fr H) [] ∧ AgB (Fr H) H G ∧ env 0 = some v0 ∧ env 22 = some (Value.bool s1)) ?_ ?_)
  ·
    have q4 := lenG (P := Try.prog) (hx0.agree A0.agree) el_22
    have g5 : (2 : Int) ≠ 0 := by decide
    rcases Bool.eq_false_or_eq_true (ieq (irem (llen x0) 2) 1) with hb6 | hb6
    · replace hL2 := cd_t hb6 hL2
      refine DWp.region fun K hK => ?_
      simp [-aBin', -aBin, -aBinI, -aUn, -aNil, -flatV, n_fn, b_add, b_sub, b_mul, b_lt, b_le, b_gt, b_ge, b_eq, b_ne, u_not, hb6, q4, b_rem g5]
      apply hK
      clear hK K
      simp only [andThen, leaves]
      have S7 := S0.pick [] (by decide) rfl
      obtain rfl := Option.some.inj hL2
      exact ⟨S7, A0, by simp [], by simp []⟩
    · replace hL2 := cd_f hb6 hL2
      have q8 := lenG (P := Try.prog) (hx0.agree A0.agree) el_22
      rcases Bool.eq_false_or_eq_true (ilt 12 (llen x0)) with hb9 | hb9
      · replace hL2 := cd_t hb9 hL2
        refine DWp.region fun K hK => ?_
        simp [-aBin', -aBin, -aBinI, -aUn, -aNil, -flatV, n_fn, b_add, b_sub, b_mul, b_lt, b_le, b_gt, b_ge, b_eq, b_ne, u_not, hb6, hb9, q4, b_rem g5, q8]
        apply hK
        clear hK K
        simp only [andThen, leaves]
        have S10 := S0.pick [] (by decide) rfl
        obtain rfl := Option.some.inj hL2
        exact ⟨S10, A0, by simp [], by simp []⟩
      · replace hL2 := cd_f hb9 hL2
        have q11 := lenG (P := Try.prog) (hx0.agree A0.agree) el_22
        obtain ⟨r1, hc12, hL2⟩ := bd_some hL2
        refine DWp.region fun K hK => ?_
        simp [-aBin', -aBin, -aBinI, -aUn, -aNil, -flatV, n_fn, b_add, b_sub, b_mul, b_lt, b_le, b_gt, b_ge, b_eq, b_ne, u_not, hb6, hb9, q4, b_rem g5, q8, q11, ((hx0.agree A0.agree).tup)]
        refine CallD.t (F_spec_l1All_w (fu := fu) (hx0.agree A0.agree) hc12) ?_
        rintro _ G14 ⟨a17, rfl, S18⟩
        have A16 := A0.ext (hB.le A0.1) a17.agree
        have S15 : Sep G14 (Fr H) [] := S0.app a17.agree S18 (fun _ h => h) (hB.le A0.1)
        simp [-aBin', -aBin, -aBinI, -aUn, -aNil, -flatV, n_fn, b_add, b_sub, b_mul, b_lt, b_le, b_gt, b_ge, b_eq, b_ne, u_not, hb6, hb9, q4, b_rem g5, q8, q11, a17.pre]
        apply hK
        clear hK K
        simp only [andThen, leaves]
        have S19 := S15.pick [] (by decide) rfl
        obtain rfl := Option.some.inj hL2
        exact ⟨S19, A16, by simp [], by simp []⟩
  · rintro env Gj20 ⟨Sj20, Aj20, ej20_0, ej20_22⟩
    refine DWp.cond' (t := s1) (by simp [ej20_0, ej20_22]) (fun hb21 => ?_) (fun hb21 => ?_)
    · replace hF := cd_t hb21 hF
      refine DWp.seq ?_
      refine DWp.region fun K hK => ?_
      simp [-aBin', -aBin, -aBinI, -aUn, -aNil, -flatV, n_fn, b_add, b_sub, b_mul, b_lt, b_le, b_gt, b_ge, b_eq, b_ne, u_not, ej20_0, ej20_22]
      apply hK
      clear hK K
      simp only [andThen, leaves]
      refine DWp.ret ?_
      simp only [andThen, leaves]
      obtain rfl := Option.some.inj hF
      exact ⟨by simp, [(Value.bool false)], by simp [ej20_0, ej20_22], Aj20, rfl, Sj20.pick [] (by decide) rfl⟩
    · replace hF := cd_f hb21 hF
      refine DWp.skip ?_
      simp only [andThen, leaves]
      refine DWp.seq ?_
      refine DWp.region fun K hK => ?_
      simp [-aBin', -aBin, -aBinI, -aUn, -aNil, -flatV, n_fn, b_add, b_sub, b_mul, b_lt, b_le, b_gt, b_ge, b_eq, b_ne, u_not, ej20_0, ej20_22]
      apply hK
      clear hK K
      simp only [andThen, leaves]
      refine DWp.seq ?_
      refine DWp.seq ?_
      have q22 := lenG (P := Try.prog) (hx0.agree Aj20.agree) el_22
      refine DWp.region fun K hK => ?_
      simp [-aBin', -aBin, -aBinI, -aUn, -aNil, -flatV, n_fn, b_add, b_sub, b_mul, b_lt, b_le, b_gt, b_ge, b_eq, b_ne, u_not, ej20_0, ej20_22, q22]
      apply hK
      clear hK K
      simp only [andThen, leaves]
      refine DWp.block ?_
      have S23 := Sj20.nilItem (hB.le Aj20.1) 3
      obtain ⟨s24, hL25, hF⟩ := bd_some hF
      have S26 := S23.pick [0] (by decide) rfl
      refine DWp.loop (fun n env G => ∃ l1_0 : List Int, ∃ y1_25 : Int, ∃ w1_0 : Value, F_spec_ahGood_L1 fu x0 (llen x0) n l1_0 y1_25 = some s24 ∧ Sep G (Fr H) [flat w1_0 3 (ints l1_0)] ∧ AgB (Fr H) H G ∧ env 0 = some v0 ∧ env 3 = some w1_0 ∧ env 23 = some v0 ∧ env 24 = some (Value.int .i64 (llen x0)) ∧ env 25 = some (Value.int .i64 y1_25)) fu ⟨(@List.nil Int), 0, (Value.slice none 0 0), hL25, S26, Aj20, by simp [ej20_0, ej20_22], by simp [ej20_0, ej20_22], by simp [ej20_0, ej20_22], by simp [ej20_0, ej20_22], by simp [ej20_0, ej20_22]⟩ ?_
      rintro n1 env1 G1_ ⟨l1_0, y1_25, w1_0, hL25, S1_, A1_, e1_0, e1_3, e1_23, e1_24, e1_25⟩
      cases n1 with
      | zero => cases hL25
      | succ n1 =>
        simp only [F_spec_ahGood_L1] at hL25
        refine DWp.seq ?_
        refine DWp.region fun K hK => ?_
        simp [-aBin', -aBin, -aBinI, -aUn, -aNil, -flatV, n_fn, b_add, b_sub, b_mul, b_lt, b_le, b_gt, b_ge, b_eq, b_ne, u_not, e1_0, e1_3, e1_23, e1_24, e1_25]
        apply hK
        clear hK K
        simp only [andThen, leaves]
        refine DWp.seq ?_
        refine DWp.cond' (t := (ilt y1_25 (llen x0))) (by simp [e1_0, e1_3, e1_23, e1_24, e1_25]) (fun hb27 => ?_) (fun hb27 => ?_)
        · replace hL25 := cd_t hb27 hL25
          refine DWp.skip ?_
          simp only [andThen, leaves]
          refine DWp.seq ?_
          refine DWp.block ?_
          refine DWp.seq ?_
          obtain ⟨g28, hL25⟩ := gd_some hL25
          have q29 := idxG (P := Try.prog) (kk := .i64) (hx0.agree A1_.agree) el_22 sz_3 g28
          have q30 := loadG (P := Try.prog) (hx0.agree A1_.agree) sz_3 ag_3 g28 0
          refine DWp.region fun K hK => ?_
          simp [-aBin', -aBin, -aBinI, -aUn, -aNil, -flatV, n_fn, b_add, b_sub, b_mul, b_lt, b_le, b_gt, b_ge, b_eq, b_ne, u_not, e1_0, e1_3, e1_23, e1_24, e1_25, q29, q30]
          apply hK
          clear hK K
          simp only [andThen, leaves]
          refine DWp.block ?_
          obtain ⟨s31, hL32, hL25⟩ := bd_some hL25
          refine DWp.seq (DWp.join (fun env G => Sep G (Fr H) [flat w1_0 3 (ints l1_0)] ∧ AgB (Fr H) H G ∧ env 0 = some v0 ∧ env 3 = some w1_0 ∧ env 4 = some (Value.int .i64 y1_25) ∧ env 5 = some (Value.int .i64 (gat 0 x0 y1_25)) ∧ env 23 = some v0 ∧ env 24 = some (Value.int .i64 (llen x0)) ∧ env 25 = some (Value.int .i64 y1_25) ∧ env 30 = some (Value.bool s31)) ?_ ?_)
          ·
            rcases Bool.eq_false_or_eq_true (ilt y1_25 (gat 0 x0 y1_25)) with hb34 | hb34
            · replace hL32 := cd_t hb34 hL32
              obtain ⟨g35, hL32⟩ := gd_some hL32
              have q36 := idxG (P := Try.prog) (kk := .i64) (hx0.agree A1_.agree) el_22 sz_3 g35
              have q37 := loadG (P := Try.prog) (hx0.agree A1_.agree) sz_3 ag_3 g35 0
              refine DWp.region fun K hK => ?_
              simp [-aBin', -aBin, -aBinI, -aUn, -aNil, -flatV, n_fn, b_add, b_sub, b_mul, b_lt, b_le, b_gt, b_ge, b_eq, b_ne, u_not, e1_0, e1_3, e1_23, e1_24, e1_25, hb34, q36, q37]
              apply hK
              clear hK K
              simp only [andThen, leaves]
              have S38 := S1_.pick [0] (by decide) rfl
              obtain rfl := Option.some.inj hL32
              exact ⟨S38, A1_, by simp [e1_0, e1_3, e1_23, e1_24, e1_25], by simp [e1_0, e1_3, e1_23, e1_24, e1_25], by simp [e1_0, e1_3, e1_23, e1_24, e1_25], by simp [e1_0, e1_3, e1_23, e1_24, e1_25], by simp [e1_0, e1_3, e1_23, e1_24, e1_25], by simp [e1_0, e1_3, e1_23, e1_24, e1_25], by simp [e1_0, e1_3, e1_23, e1_24, e1_25], by simp [e1_0, e1_3, e1_23, e1_24, e1_25]⟩
            · replace hL32 := cd_f hb34 hL32
              refine DWp.region fun K hK => ?_
              simp [-aBin', -aBin, -aBinI, -aUn, -aNil, -flatV, n_fn, b_add, b_sub, b_mul, b_lt, b_le, b_gt, b_ge, b_eq, b_ne, u_not, e1_0, e1_3, e1_23, e1_24, e1_25, hb34]
              apply hK
              clear hK K
              simp only [andThen, leaves]
              have S39 := S1_.pick [0] (by decide) rfl
              obtain rfl := Option.some.inj hL32
              exact ⟨S39, A1_, by simp [e1_0, e1_3, e1_23, e1_24, e1_25], by simp [e1_0, e1_3, e1_23, e1_24, e1_25], by simp [e1_0, e1_3, e1_23, e1_24, e1_25], by simp [e1_0, e1_3, e1_23, e1_24, e1_25], by simp [e1_0, e1_3, e1_23, e1_24, e1_25], by simp [e1_0, e1_3, e1_23, e1_24, e1_25], by simp [e1_0, e1_3, e1_23, e1_24, e1_25], by simp [e1_0, e1_3, e1_23, e1_24, e1_25]⟩
          · rintro env Gj40 ⟨Sj40, Aj40, ej40_0, ej40_3, ej40_4, ej40_5, ej40_23, ej40_24, ej40_25, ej40_30⟩
            refine DWp.cond' (t := s31) (by simp [ej40_0, ej40_3, ej40_4, ej40_5, ej40_23, ej40_24, ej40_25, ej40_30]) (fun hb41 => ?_) (fun hb41 => ?_)
            · replace hL25 := cd_t hb41 hL25
              obtain ⟨v42, G43, q44, S45, a47, _, _⟩ := Sj40.lit1 (P := Try.prog) (t := 22) (hB.le Aj40.1) el_22 ei_3 rfl (Value.int .i64 y1_25) rfl rfl
              have A46 := Aj40.ext (hB.le Aj40.1) a47
              replace S45 : Sep G43 (Fr H) [flat w1_0 3 (ints l1_0), flat1 v42 3 (ints [y1_25])] := S45
              obtain ⟨g49, hL25⟩ := gd_some hL25
              obtain ⟨v55, G50, q51, S52, a54, _, _⟩ := S45.append1 (f := (Value.int .i64)) (xs := [y1_25]) (ys := l1_0) (P := Try.prog) (t := 22) (t2 := 22) (k := 1) rfl (hB.le A46.1) el_22 el_22 ei_3 rfl (S45.sl (k := 0) rfl) g49
              have A53 := A46.trans a54
              replace S52 : Sep G50 (Fr H) [flat w1_0 3 (ints l1_0), flat v55 3 (ints (lapp [y1_25] l1_0))] := S52
              refine DWp.region fun K hK => ?_
              simp [-aBin', -aBin, -aBinI, -aUn, -aNil, -flatV, n_fn, b_add, b_sub, b_mul, b_lt, b_le, b_gt, b_ge, b_eq, b_ne, u_not, ej40_0, ej40_3, ej40_4, ej40_5, ej40_23, ej40_24, ej40_25, ej40_30, q44, a47.to_pre, q51]
              apply hK
              clear hK K
              simp only [andThen, leaves]
              refine DWp.region fun K hK => ?_
              simp [-aBin', -aBin, -aBinI, -aUn, -aNil, -flatV, n_fn, b_add, b_sub, b_mul, b_lt, b_le, b_gt, b_ge, b_eq, b_ne, u_not, ej40_0, ej40_3, ej40_4, ej40_5, ej40_23, ej40_24, ej40_25, ej40_30]
              apply hK
              clear hK K
              simp only [andThen, leaves]
              have S56 := S52.pick [1] (by decide) rfl
              exact ⟨n1, Nat.lt_succ_self _, (lapp [y1_25] l1_0), (iadd .i64 y1_25 1), v55, hL25, S56, A53, by simp [ej40_0, ej40_3, ej40_4, ej40_5, ej40_23, ej40_24, ej40_25, ej40_30], by simp [ej40_0, ej40_3, ej40_4, ej40_5, ej40_23, ej40_24, ej40_25, ej40_30], by simp [ej40_0, ej40_3, ej40_4, ej40_5, ej40_23, ej40_24, ej40_25, ej40_30], by simp [ej40_0, ej40_3, ej40_4, ej40_5, ej40_23, ej40_24, ej40_25, ej40_30], by simp [ej40_0, ej40_3, ej40_4, ej40_5, ej40_23, ej40_24, ej40_25, ej40_30]⟩
            · replace hL25 := cd_f hb41 hL25
              obtain ⟨s57, hL58, hL25⟩ := bd_some hL25
              refine DWp.seq (DWp.join (fun env G => Sep G (Fr H) [flat w1_0 3 (ints l1_0)] ∧ AgB (Fr H) H G ∧ env 0 = some v0 ∧ env 3 = some w1_0 ∧ env 23 = some v0 ∧ env 24 = some (Value.int .i64 (llen x0)) ∧ env 25 = some (Value.int .i64 y1_25) ∧ env 46 = some (Value.bool s57)) ?_ ?_)
              ·
                rcases Bool.eq_false_or_eq_true (ilt (gat 0 x0 y1_25) y1_25) with hb60 | hb60
                · replace hL58 := cd_t hb60 hL58
                  have q61 := lenG (P := Try.prog) (Sj40.sl (k := 0) rfl) el_22
                  rcases Bool.eq_false_or_eq_true (ilt 0 (llen l1_0)) with hb62 | hb62
                  · replace hL58 := cd_t hb62 hL58
                    obtain ⟨g63, hL58⟩ := gd_some hL58
                    have q64 := idxG (P := Try.prog) (kk := .i64) (Sj40.sl (k := 0) rfl) el_22 sz_3 g63
                    replace q64 : aIndexAddr Try.prog Gj40 22 w1_0 (Value.int .i64 0) = some (elP w1_0 0) := q64
                    have q65 := loadG (P := Try.prog) (Sj40.sl (k := 0) rfl) sz_3 ag_3 g63 0
                    replace q65 : aLoad Try.prog Gj40 3 (elP w1_0 0) = some (Value.int .i64 (gat 0 l1_0 0)) := q65
                    refine DWp.region fun K hK => ?_
                    simp [-aBin', -aBin, -aBinI, -aUn, -aNil, -flatV, n_fn, b_add, b_sub, b_mul, b_lt, b_le, b_gt, b_ge, b_eq, b_ne, u_not, ej40_0, ej40_3, ej40_4, ej40_5, ej40_23, ej40_24, ej40_25, ej40_30, hb60, hb62, q61, q64, q65]
                    apply hK
                    clear hK K
                    simp only [andThen, leaves]
                    have S66 := Sj40.pick [0] (by decide) rfl
                    obtain rfl := Option.some.inj hL58
                    exact ⟨S66, Aj40, by simp [ej40_0, ej40_3, ej40_4, ej40_5, ej40_23, ej40_24, ej40_25, ej40_30], by simp [ej40_0, ej40_3, ej40_4, ej40_5, ej40_23, ej40_24, ej40_25, ej40_30], by simp [ej40_0, ej40_3, ej40_4, ej40_5, ej40_23, ej40_24, ej40_25, ej40_30], by simp [ej40_0, ej40_3, ej40_4, ej40_5, ej40_23, ej40_24, ej40_25, ej40_30], by simp [ej40_0, ej40_3, ej40_4, ej40_5, ej40_23, ej40_24, ej40_25, ej40_30], by simp [ej40_0, ej40_3, ej40_4, ej40_5, ej40_23, ej40_24, ej40_25, ej40_30]⟩
                  · replace hL58 := cd_f hb62 hL58
                    refine DWp.region fun K hK => ?_
                    simp [-aBin', -aBin, -aBinI, -aUn, -aNil, -flatV, n_fn, b_add, b_sub, b_mul, b_lt, b_le, b_gt, b_ge, b_eq, b_ne, u_not, ej40_0, ej40_3, ej40_4, ej40_5, ej40_23, ej40_24, ej40_25, ej40_30, hb60, hb62, q61]
                    apply hK
                    clear hK K
                    simp only [andThen, leaves]
                    have S67 := Sj40.pick [0] (by decide) rfl
                    obtain rfl := Option.some.inj hL58
                    exact ⟨S67, Aj40, by simp [ej40_0, ej40_3, ej40_4, ej40_5, ej40_23, ej40_24, ej40_25, ej40_30], by simp [ej40_0, ej40_3, ej40_4, ej40_5, ej40_23, ej40_24, ej40_25, ej40_30], by simp [ej40_0, ej40_3, ej40_4, ej40_5, ej40_23, ej40_24, ej40_25, ej40_30], by simp [ej40_0, ej40_3, ej40_4, ej40_5, ej40_23, ej40_24, ej40_25, ej40_30], by simp [ej40_0, ej40_3, ej40_4, ej40_5, ej40_23, ej40_24, ej40_25, ej40_30], by simp [ej40_0, ej40_3, ej40_4, ej40_5, ej40_23, ej40_24, ej40_25, ej40_30]⟩
                · replace hL58 := cd_f hb60 hL58
                  refine DWp.region fun K hK => ?_
                  simp [-aBin', -aBin, -aBinI, -aUn, -aNil, -flatV, n_fn, b_add, b_sub, b_mul, b_lt, b_le, b_gt, b_ge, b_eq, b_ne, u_not, ej40_0, ej40_3, ej40_4, ej40_5, ej40_23, ej40_24, ej40_25, ej40_30, hb60]
                  apply hK
                  clear hK K
                  simp only [andThen, leaves]
                  have S68 := Sj40.pick [0] (by decide) rfl
                  obtain rfl := Option.some.inj hL58
                  exact ⟨S68, Aj40, by simp [ej40_0, ej40_3, ej40_4, ej40_5, ej40_23, ej40_24, ej40_25, ej40_30], by simp [ej40_0, ej40_3, ej40_4, ej40_5, ej40_23, ej40_24, ej40_25, ej40_30], by simp [ej40_0, ej40_3, ej40_4, ej40_5, ej40_23, ej40_24, ej40_25, ej40_30], by simp [ej40_0, ej40_3, ej40_4, ej40_5, ej40_23, ej40_24, ej40_25, ej40_30], by simp [ej40_0, ej40_3, ej40_4, ej40_5, ej40_23, ej40_24, ej40_25, ej40_30], by simp [ej40_0, ej40_3, ej40_4, ej40_5, ej40_23, ej40_24, ej40_25, ej40_30]⟩
              · rintro env Gj69 ⟨Sj69, Aj69, ej69_0, ej69_3, ej69_23, ej69_24, ej69_25, ej69_46⟩
                refine DWp.cond' (t := s57) (by simp [ej69_0, ej69_3, ej69_23, ej69_24, ej69_25, ej69_46]) (fun hb70 => ?_) (fun hb70 => ?_)
                · replace hL25 := cd_t hb70 hL25
                  obtain ⟨g71, hL25⟩ := gd_some hL25
                  have q72 := aSub10 (P := Try.prog) (t := 22) (Sj69.sl (k := 0) rfl) el_22 sz_3 g71
                  refine DWp.region fun K hK => ?_
                  simp [-aBin', -aBin, -aBinI, -aUn, -aNil, -flatV, n_fn, b_add, b_sub, b_mul, b_lt, b_le, b_gt, b_ge, b_eq, b_ne, u_not, ej69_0, ej69_3, ej69_23, ej69_24, ej69_25, ej69_46, q72, ((subSl (Sj69.sl (k := 0) rfl) g71).tup)]
                  apply hK
                  clear hK K
                  simp only [andThen, leaves]
                  refine DWp.region fun K hK => ?_
                  simp [-aBin', -aBin, -aBinI, -aUn, -aNil, -flatV, n_fn, b_add, b_sub, b_mul, b_lt, b_le, b_gt, b_ge, b_eq, b_ne, u_not, ej69_0, ej69_3, ej69_23, ej69_24, ej69_25, ej69_46]
                  apply hK
                  clear hK K
                  simp only [andThen, leaves]
                  have S73 : Sep Gj69 (Fr H) [flat (subV w1_0 1 (llen l1_0)) 3 (ints (lsub l1_0 1 (llen l1_0)))] := Sj69.resub (k := 0) rfl g71
                  have S74 := S73.pick [0] (by decide) rfl
                  exact ⟨n1, Nat.lt_succ_self _, (lsub l1_0 1 (llen l1_0)), (iadd .i64 y1_25 1), (subV w1_0 1 (llen l1_0)), hL25, S74, Aj69, by simp [ej69_0, ej69_3, ej69_23, ej69_24, ej69_25, ej69_46], by simp [ej69_0, ej69_3, ej69_23, ej69_24, ej69_25, ej69_46], by simp [ej69_0, ej69_3, ej69_23, ej69_24, ej69_25, ej69_46], by simp [ej69_0, ej69_3, ej69_23, ej69_24, ej69_25, ej69_46], by simp [ej69_0, ej69_3, ej69_23, ej69_24, ej69_25, ej69_46]⟩
                · replace hL25 := cd_f hb70 hL25
                  refine DWp.seq ?_
                  refine DWp.region fun K hK => ?_
                  simp [-aBin', -aBin, -aBinI, -aUn, -aNil, -flatV, n_fn, b_add, b_sub, b_mul, b_lt, b_le, b_gt, b_ge, b_eq, b_ne, u_not, ej69_0, ej69_3, ej69_23, ej69_24, ej69_25, ej69_46]
                  apply hK
                  clear hK K
                  simp only [andThen, leaves]
                  refine DWp.ret ?_
                  simp only [andThen, leaves]
                  obtain rfl := Option.some.inj hL25
                  simp only [lr] at hF
                  obtain rfl := Option.some.inj hF
                  exact ⟨by simp, [(Value.bool false)], by simp [ej69_0, ej69_3, ej69_23, ej69_24, ej69_25, ej69_46], Aj69, rfl, Sj69.pick [] (by decide) rfl⟩
        · replace hL25 := cd_f hb27 hL25
          refine DWp.exit ?_
          simp only [andThen, leaves, if_true, if_false, reduceIte, Nat.reduceEqDiff]
          obtain rfl := Option.some.inj hL25
          simp only [lr] at hF
          refine DWp.seq ?_
          refine DWp.region fun K hK => ?_
          simp [-aBin', -aBin, -aBinI, -aUn, -aNil, -flatV, n_fn, b_add, b_sub, b_mul, b_lt, b_le, b_gt, b_ge, b_eq, b_ne, u_not, e1_0, e1_3, e1_23, e1_24, e1_25]
          apply hK
          clear hK K
          simp only [andThen, leaves]
          refine DWp.ret ?_
          obtain rfl := Option.some.inj hF
          exact ⟨by simp, [(Value.bool true)], by simp [e1_0, e1_3, e1_23, e1_24, e1_25], A1_, rfl, S1_.pick [] (by decide) rfl⟩
def F_spec_mePair (fu : Nat) (x0_0 : List Int) (x0_1 : List Int) : Option (Bool) :=
  bd (F_spec_ahGood fu x0_0) fun r1 =>
  bif r1 then
    bd (F_spec_ahGood fu x0_1) fun r2 =>
    bif r2 then
      some (ieq (llen x0_0) (llen x0_1))
    else
      some false
  else
    some false
theorem F_spec_mePair_w {fu : Nat} {H : AH} {v0_0 : Value} {v0_1 : Value} {x0_0 : List Int} {x0_1 : List Int} {r : (Bool)} (hx0_0 : Sl H v0_0 (ints x0_0)) (hx0_1 : Sl H v0_1 (ints x0_1)) (hF : F_spec_mePair fu x0_0 x0_1 = some r) :
    ACallT Try.prog 94 [(Value.agg #[v0_0, v0_1])] H (fun u G => AgB (Fr H) H G ∧ u = (Value.bool r) ∧ Sep G (Fr H) []) := by
  refine ACallT.of_body (nt := 20) (rs := [.tmp 2]) Try.func94 rfl rfl rfl rfl ?_
  have A0 : AgB (Fr H) H H := .refl _ _
  have S0 : Sep H (Fr H) [] := .nil
  have hB := Fr.up H
  unfold F_spec_mePair at hF
  refine DWp.seq ?_
  obtain ⟨G2, p4, q5, q6, a7, S1⟩ := S0.boxT (hB.le A0.1) 28 [v0_0, v0_1]
  have A3 := A0.ext (hB.le A0.1) a7
  replace S1 : Sep G2 (Fr H) [AL.box p4 [v0_0, v0_1]] := S1
  refine DWp.region fun K hK => ?_
  simp [-aBin', -aBin, -aBinI, -aUn, -aNil, -flatV, n_fn, b_add, b_sub, b_mul, b_lt, b_le, b_gt, b_ge, b_eq, b_ne, u_not, q5, q6, a7.to_pre, cells_agg]
  apply hK
  clear hK K
  simp only [andThen, leaves]
  refine DWp.seq ?_
  have q8 := S1.fieldT (P := Try.prog) (k := 0) rfl fa_28_0
  have q9 := S1.loadF (P := Try.prog) (k := 0) rfl sz_22 ag_22 (off := 0) rfl
  obtain ⟨r1, hc10, hF⟩ := bd_some hF
  refine DWp.region fun K hK => ?_
  simp [-aBin', -aBin, -aBinI, -aUn, -aNil, -flatV, n_fn, b_add, b_sub, b_mul, b_lt, b_le, b_gt, b_ge, b_eq, b_ne, u_not, q8, q9, ((hx0_0.agree A3.agree).tup)]
  refine CallD.t (F_spec_ahGood_w (fu := fu) (hx0_0.agree A3.agree) hc10) ?_
  rintro _ G12 ⟨a15, rfl, S16⟩
  have A14 := A3.ext (hB.le A3.1) a15.agree
  have S13 : Sep G12 (Fr H) [AL.box p4 [v0_0, v0_1]] := S1.app a15.agree S16 (fun _ h => h) (hB.le A3.1)
  rcases Bool.eq_false_or_eq_true r1 with hb17 | hb17
  · replace hF := cd_t hb17 hF
    have q18 := S13.fieldT (P := Try.prog) (k := 0) rfl fa_28_1
    have q19 := S13.loadF (P := Try.prog) (k := 0) rfl sz_22 ag_22 (off := 1) rfl
    obtain ⟨r2, hc20, hF⟩ := bd_some hF
    simp [-aBin', -aBin, -aBinI, -aUn, -aNil, -flatV, n_fn, b_add, b_sub, b_mul, b_lt, b_le, b_gt, b_ge, b_eq, b_ne, u_not, hb17, q8, q9, a15.pre, q18, q19, ((hx0_1.agree A14.agree).tup)]
    refine CallD.t (F_spec_ahGood_w (fu := fu) (hx0_1.agree A14.agree) hc20) ?_
    rintro _ G22 ⟨a25, rfl, S26⟩
    have A24 := A14.ext (hB.le A14.1) a25.agree
    have S23 : Sep G22 (Fr H) [AL.box p4 [v0_0, v0_1]] := S13.app a25.agree S26 (fun _ h => h) (hB.le A14.1)
    rcases Bool.eq_false_or_eq_true r2 with hb27 | hb27
    · replace hF := cd_t hb27 hF
      have q28 := S23.fieldT (P := Try.prog) (k := 0) rfl fa_28_0
      have q29 := S23.loadF (P := Try.prog) (k := 0) rfl sz_22 ag_22 (off := 0) rfl
      have q30 := lenG (P := Try.prog) (hx0_0.agree A24.agree) el_22
      have q31 := S23.fieldT (P := Try.prog) (k := 0) rfl fa_28_1
      have q32 := S23.loadF (P := Try.prog) (k := 0) rfl sz_22 ag_22 (off := 1) rfl
      have q33 := lenG (P := Try.prog) (hx0_1.agree A24.agree) el_22
      simp [-aBin', -aBin, -aBinI, -aUn, -aNil, -flatV, n_fn, b_add, b_sub, b_mul, b_lt, b_le, b_gt, b_ge, b_eq, b_ne, u_not, hb17, hb27, q8, q9, a15.pre, q18, q19, a25.pre, q28, q29, q30, q31, q32, q33]
      apply hK
      clear hK K
      simp only [andThen, leaves]
      refine DWp.ret ?_
      obtain rfl := Option.some.inj hF
      exact ⟨by simp, [(Value.bool (ieq (llen x0_0) (llen x0_1)))], by simp [], A24, rfl, S23.pick [] (by decide) rfl⟩
    · replace hF := cd_f hb27 hF
      simp [-aBin', -aBin, -aBinI, -aUn, -aNil, -flatV, n_fn, b_add, b_sub, b_mul, b_lt, b_le, b_gt, b_ge, b_eq, b_ne, u_not, hb17, hb27, q8, q9, a15.pre, q18, q19, a25.pre]
      apply hK
      clear hK K
      simp only [andThen, leaves]
      refine DWp.ret ?_
      obtain rfl := Option.some.inj hF
      exact ⟨by simp, [(Value.bool false)], by simp [], A24, rfl, S23.pick [] (by decide) rfl⟩
  · replace hF := cd_f hb17 hF
    simp [-aBin', -aBin, -aBinI, -aUn, -aNil, -flatV, n_fn, b_add, b_sub, b_mul, b_lt, b_le, b_gt, b_ge, b_eq, b_ne, u_not, hb17, q8, q9, a15.pre]
    apply hK
    clear hK K
    simp only [andThen, leaves]
    refine DWp.ret ?_
    obtain rfl := Option.some.inj hF
    exact ⟨by simp, [(Value.bool false)], by simp [], A14, rfl, S13.pick [] (by decide) rfl⟩
def F_spec_siClosed_L1 (fu : Nat) (k1_0 : Int) (k1_1 : Int) (k1_2 : List Int) (k1_3 : List Int) : Nat → Int → Option (LR (Bool) (Int))
  | 0, _ => none
  | n + 1, y1_7 =>
    bif (ile y1_7 k1_1) then
      bd (
        gd (inL k1_2 y1_7) (
        bd (F_spec_l1In fu (gat 0 k1_2 y1_7) k1_0 k1_1) fun r1 =>
        bif (bnot r1) then
          some true
        else
          gd (inL k1_3 y1_7) (
          bd (F_spec_l1In fu (gat 0 k1_3 y1_7) k1_0 k1_1) fun r2 =>
          some (bnot r2)))) fun s12 =>
      bif s12 then
        some (.ret false)
      else
        F_spec_siClosed_L1 fu k1_0 k1_1 k1_2 k1_3 n (iadd .i64 y1_7 1)
    else
      some (.brk y1_7)
def F_spec_siClosed (fu : Nat) (x0_0 : List Int) (x0_1 : List Int) (x1 : Int) (x2 : Int) : Option (Bool) :=
  bd (F_spec_siClosed_L1 fu x1 x2 x0_0 x0_1 fu x1) fun s1 =>
  lr s1 fun s1 =>
  some true
theorem F_spec_siClosed_w {fu : Nat} {H : AH} {v0_0 : Value} {v0_1 : Value} {x0_0 : List Int} {x0_1 : List Int} {x1 : Int} {x2 : Int} {r : (Bool)} (hx0_0 : Sl H v0_0 (ints x0_0)) (hx0_1 : Sl H v0_1 (ints x0_1)) (hF : F_spec_siClosed fu x0_0 x0_1 x1 x2 = some r) :
    ACallT Try.prog 90 [(Value.agg #[v0_0, v0_1]), (Value.int .i64 x1), (Value.int .i64 x2)] H (fun u G => AgB (Fr H) H G ∧ u = (Value.bool r) ∧ Sep G (Fr H) []) := by
  refine ACallT.of_body (nt := 34) (rs := [.tmp 6]) Try.func90 rfl rfl rfl rfl ?_
  have A0 : AgB (Fr H) H H := .refl _ _
  have S0 : Sep H (Fr H) [] := .nil
  have hB := Fr.up H
  unfold F_spec_siClosed at hF
  refine DWp.seq ?_
  obtain ⟨G2, p4, q5, q6, a7, S1⟩ := S0.boxT (hB.le A0.1) 28 [v0_0, v0_1]
  have A3 := A0.ext (hB.le A0.1) a7
  replace S1 : Sep G2 (Fr H) [AL.box p4 [v0_0, v0_1]] := S1
  refine DWp.region fun K hK => ?_
  simp [-aBin', -aBin, -aBinI, -aUn, -aNil, -flatV, n_fn, b_add, b_sub, b_mul, b_lt, b_le, b_gt, b_ge, b_eq, b_ne, u_not, q5, q6, a7.to_pre, cells_agg]
  apply hK
  clear hK K
  simp only [andThen, leaves]
  refine DWp.seq ?_
  refine DWp.seq ?_
  refine DWp.region fun K hK => ?_
  simp [-aBin', -aBin, -aBinI, -aUn, -aNil, -flatV, n_fn, b_add, b_sub, b_mul, b_lt, b_le, b_gt, b_ge, b_eq, b_ne, u_not]
  apply hK
  clear hK K
  simp only [andThen, leaves]
  refine DWp.block ?_
  obtain ⟨s8, hL9, hF⟩ := bd_some hF
  have S10 := S1.pick [0] (by decide) rfl
  refine DWp.loop (fun n env G => ∃ y1_7 : Int, F_spec_siClosed_L1 fu x1 x2 x0_0 x0_1 n y1_7 = some s8 ∧ Sep G (Fr H) [AL.box p4 [v0_0, v0_1]] ∧ AgB (Fr H) H G ∧ env 1 = some (Value.int .i64 x1) ∧ env 2 = some (Value.int .i64 x2) ∧ env 3 = some p4 ∧ env 7 = some (Value.int .i64 y1_7)) fu ⟨x1, hL9, S10, A3, by simp [], by simp [], by simp [], by simp []⟩ ?_
  rintro n1 env1 G1_ ⟨y1_7, hL9, S1_, A1_, e1_1, e1_2, e1_3, e1_7⟩
  cases n1 with
  | zero => cases hL9
  | succ n1 =>
    simp only [F_spec_siClosed_L1] at hL9
    refine DWp.seq ?_
    refine DWp.seq ?_
    refine DWp.region fun K hK => ?_
    simp [-aBin', -aBin, -aBinI, -aUn, -aNil, -flatV, n_fn, b_add, b_sub, b_mul, b_lt, b_le, b_gt, b_ge, b_eq, b_ne, u_not, e1_1, e1_2, e1_3, e1_7]
    apply hK
    clear hK K
    simp only [andThen, leaves]
    refine DWp.cond' (t := (ile y1_7 x2)) (by simp [e1_1, e1_2, e1_3, e1_7]) (fun hb11 => ?_) (fun hb11 => ?_)
    · replace hL9 := cd_t hb11 hL9
      refine DWp.skip ?_
      simp only [andThen, leaves]
      refine DWp.seq ?_
      refine DWp.block ?_
      obtain ⟨s12, hL13, hL9⟩ := bd_some hL9
      refine DWp.seq (DWp.join (fun env G => Sep G (Fr H) [AL.box p4 [v0_0, v0_1]] ∧ AgB (Fr H) H G ∧ env 1 = some (Value.int .i64 x1) ∧ env 2 = some (Value.int .i64 x2) ∧ env 3 = some p4 ∧ env 7 = some (Value.int .i64 y1_7) ∧ env 33 = some (Value.bool s12)) ?_ ?_)
      ·
        have q15 := S1_.fieldT (P := Try.prog) (k := 0) rfl fa_28_0
        have q16 := S1_.loadF (P := Try.prog) (k := 0) rfl sz_22 ag_22 (off := 0) rfl
        obtain ⟨g17, hL13⟩ := gd_some hL13
        have q18 := idxG (P := Try.prog) (kk := .i64) (hx0_0.agree A1_.agree) el_22 sz_3 g17
        have q19 := loadG (P := Try.prog) (hx0_0.agree A1_.agree) sz_3 ag_3 g17 0
        obtain ⟨r1, hc20, hL13⟩ := bd_some hL13
        refine DWp.region fun K hK => ?_
        simp [-aBin', -aBin, -aBinI, -aUn, -aNil, -flatV, n_fn, b_add, b_sub, b_mul, b_lt, b_le, b_gt, b_ge, b_eq, b_ne, u_not, e1_1, e1_2, e1_3, e1_7, q15, q16, q18, q19]
        refine CallD.t (F_spec_l1In_w (fu := fu)  hc20) ?_
        rintro _ G22 ⟨a25, rfl, S26⟩
        have A24 := A1_.ext (hB.le A1_.1) a25.agree
        have S23 : Sep G22 (Fr H) [AL.box p4 [v0_0, v0_1]] := S1_.app a25.agree S26 (fun _ h => h) (hB.le A1_.1)
        rcases Bool.eq_false_or_eq_true (bnot r1) with hb27 | hb27
        · replace hL13 := cd_t hb27 hL13
          simp [-aBin', -aBin, -aBinI, -aUn, -aNil, -flatV, n_fn, b_add, b_sub, b_mul, b_lt, b_le, b_gt, b_ge, b_eq, b_ne, u_not, e1_1, e1_2, e1_3, e1_7, hb27, q15, q16, q18, q19, a25.pre]
          apply hK
          clear hK K
          simp only [andThen, leaves]
          have S28 := S23.pick [0] (by decide) rfl
          obtain rfl := Option.some.inj hL13
          exact ⟨S28, A24, by simp [e1_1, e1_2, e1_3, e1_7], by simp [e1_1, e1_2, e1_3, e1_7], by simp [e1_1, e1_2, e1_3, e1_7], by simp [e1_1, e1_2, e1_3, e1_7], by simp [e1_1, e1_2, e1_3, e1_7]⟩
        · replace hL13 := cd_f hb27 hL13
          have q29 := S23.fieldT (P := Try.prog) (k := 0) rfl fa_28_1
          have q30 := S23.loadF (P := Try.prog) (k := 0) rfl sz_22 ag_22 (off := 1) rfl
          obtain ⟨g31, hL13⟩ := gd_some hL13
          have q32 := idxG (P := Try.prog) (kk := .i64) (hx0_1.agree A24.agree) el_22 sz_3 g31
          have q33 := loadG (P := Try.prog) (hx0_1.agree A24.agree) sz_3 ag_3 g31 0
          obtain ⟨r2, hc34, hL13⟩ := bd_some hL13
          simp [-aBin', -aBin, -aBinI, -aUn, -aNil, -flatV, n_fn, b_add, b_sub, b_mul, b_lt, b_le, b_gt, b_ge, b_eq, b_ne, u_not, e1_1, e1_2, e1_3, e1_7, hb27, q15, q16, q18, q19, a25.pre, q29, q30, q32, q33]
          refine CallD.t (F_spec_l1In_w (fu := fu)  hc34) ?_
          rintro _ G36 ⟨a39, rfl, S40⟩
          have A38 := A24.ext (hB.le A24.1) a39.agree
          have S37 : Sep G36 (Fr H) [AL.box p4 [v0_0, v0_1]] := S23.app a39.agree S40 (fun _ h => h) (hB.le A24.1)
          simp [-aBin', -aBin, -aBinI, -aUn, -aNil, -flatV, n_fn, b_add, b_sub, b_mul, b_lt, b_le, b_gt, b_ge, b_eq, b_ne, u_not, e1_1, e1_2, e1_3, e1_7, hb27, q15, q16, q18, q19, a25.pre, q29, q30, q32, q33, a39.pre]
          apply hK
          clear hK K
          simp only [andThen, leaves]
          have S41 := S37.pick [0] (by decide) rfl
          obtain rfl := Option.some.inj hL13
          exact ⟨S41, A38, by simp [e1_1, e1_2, e1_3, e1_7], by simp [e1_1, e1_2, e1_3, e1_7], by simp [e1_1, e1_2, e1_3, e1_7], by simp [e1_1, e1_2, e1_3, e1_7], by simp [e1_1, e1_2, e1_3, e1_7]⟩
      · rintro env Gj42 ⟨Sj42, Aj42, ej42_1, ej42_2, ej42_3, ej42_7, ej42_33⟩
        refine DWp.cond' (t := s12) (by simp [ej42_1, ej42_2, ej42_3, ej42_7, ej42_33]) (fun hb43 => ?_) (fun hb43 => ?_)
        · replace hL9 := cd_t hb43 hL9
          refine DWp.seq ?_
          refine DWp.region fun K hK => ?_
          simp [-aBin', -aBin, -aBinI, -aUn, -aNil, -flatV, n_fn, b_add, b_sub, b_mul, b_lt, b_le, b_gt, b_ge, b_eq, b_ne, u_not, ej42_1, ej42_2, ej42_3, ej42_7, ej42_33]
          apply hK
          clear hK K
          simp only [andThen, leaves]
          refine DWp.ret ?_
          simp only [andThen, leaves]
          obtain rfl := Option.some.inj hL9
          simp only [lr] at hF
          obtain rfl := Option.some.inj hF
          exact ⟨by simp, [(Value.bool false)], by simp [ej42_1, ej42_2, ej42_3, ej42_7, ej42_33], Aj42, rfl, Sj42.pick [] (by decide) rfl⟩
        · replace hL9 := cd_f hb43 hL9
          refine DWp.skip ?_
          simp only [andThen, leaves]
          refine DWp.region fun K hK => ?_
          simp [-aBin', -aBin, -aBinI, -aUn, -aNil, -flatV, n_fn, b_add, b_sub, b_mul, b_lt, b_le, b_gt, b_ge, b_eq, b_ne, u_not, ej42_1, ej42_2, ej42_3, ej42_7, ej42_33]
          apply hK
          clear hK K
          simp only [andThen, leaves]
          have S44 := Sj42.pick [0] (by decide) rfl
          exact ⟨n1, Nat.lt_succ_self _, (iadd .i64 y1_7 1), hL9, S44, Aj42, by simp [ej42_1, ej42_2, ej42_3, ej42_7, ej42_33], by simp [ej42_1, ej42_2, ej42_3, ej42_7, ej42_33], by simp [ej42_1, ej42_2, ej42_3, ej42_7, ej42_33], by simp [ej42_1, ej42_2, ej42_3, ej42_7, ej42_33]⟩
    · replace hL9 := cd_f hb11 hL9
      refine DWp.exit ?_
      simp only [andThen, leaves, if_true, if_false, reduceIte, Nat.reduceEqDiff]
      obtain rfl := Option.some.inj hL9
      simp only [lr] at hF
      refine DWp.seq ?_
      refine DWp.region fun K hK => ?_
      simp [-aBin', -aBin, -aBinI, -aUn, -aNil, -flatV, n_fn, b_add, b_sub, b_mul, b_lt, b_le, b_gt, b_ge, b_eq, b_ne, u_not, e1_1, e1_2, e1_3, e1_7]
      apply hK
      clear hK K
      simp only [andThen, leaves]
      refine DWp.ret ?_
      obtain rfl := Option.some.inj hF
      exact ⟨by simp, [(Value.bool true)], by simp [e1_1, e1_2, e1_3, e1_7], A1_, rfl, S1_.pick [] (by decide) rfl⟩
def F_spec_siAll_L2 (fu : Nat) (k2_0 : List Int) (k2_1 : List Int) (k2_2 : Int) (k2_3 : Int) : Nat → List (List Int) → Int → Option (List (List Int) × Int)
  | 0, _, _ => none
  | n + 1, l2_1, y2_6 =>
    bif (ilt y2_6 k2_2) then
      bd (
        bif (ilt (iadd .i64 (isub .i64 y2_6 k2_3) 1) k2_2) then
          bd (F_spec_siClosed fu k2_0 k2_1 k2_3 y2_6) fun r1 =>
          some r1
        else
          some false) fun s20 =>
      bif s20 then
        gd (l2_1.length + 1 ≤ 4294967296) (
        F_spec_siAll_L2 fu k2_0 k2_1 k2_2 k2_3 n (lapp l2_1 [[k2_3, y2_6]]) (iadd .i64 y2_6 1))
      else
        F_spec_siAll_L2 fu k2_0 k2_1 k2_2 k2_3 n l2_1 (iadd .i64 y2_6 1)
    else
      some (l2_1, y2_6)
def F_spec_siAll_L1 (fu : Nat) (k1_0 : List Int) (k1_1 : List Int) (k1_2 : Int) : Nat → List (List Int) → Int → Option (List (List Int) × Int)
  | 0, _, _ => none
  | n + 1, l1_1, y1_5 =>
    bif (ilt y1_5 k1_2) then
      bd (F_spec_siAll_L2 fu k1_0 k1_1 k1_2 y1_5 fu l1_1 (iadd .i64 y1_5 1)) fun s2 =>
      F_spec_siAll_L1 fu k1_0 k1_1 k1_2 n s2.1 (iadd .i64 y1_5 1)
    else
      some (l1_1, y1_5)
def F_spec_siAll (fu : Nat) (x0_0 : List Int) (x0_1 : List Int) : Option (List (List Int)) :=
  bd (F_spec_siAll_L1 fu x0_0 x0_1 (llen x0_0) fu (@List.nil (List Int)) 0) fun s1 =>
  some s1.1
theorem F_spec_siAll_w {fu : Nat} {H : AH} {v0_0 : Value} {v0_1 : Value} {x0_0 : List Int} {x0_1 : List Int} {r : (List (List Int))} (hx0_0 : Sl H v0_0 (ints x0_0)) (hx0_1 : Sl H v0_1 (ints x0_1)) (hF : F_spec_siAll fu x0_0 x0_1 = some r) :
    ACallT Try.prog 100 [(Value.agg #[v0_0, v0_1])] H (fun u G => AgB (Fr H) H G ∧ ∃ u0 : Value, ∃ C0 : List Value, u = u0 ∧ Sep G (Fr H) [rowsC u0 22 3 C0 (List.map ints r)]) := by
  refine ACallT.of_body (nt := 41) (rs := [.tmp 2]) Try.func100 rfl rfl rfl rfl ?_
  have A0 : AgB (Fr H) H H := .refl _ _
  have S0 : Sep H (Fr H) [] := .nil
  have hB := Fr.up H
  unfold F_spec_siAll at hF
  refine DWp.seq ?_
  obtain ⟨G2, p4, q5, q6, a7, S1⟩ := S0.boxT (hB.le A0.1) 28 [v0_0, v0_1]
  have A3 := A0.ext (hB.le A0.1) a7
  replace S1 : Sep G2 (Fr H) [AL.box p4 [v0_0, v0_1]] := S1
  refine DWp.region fun K hK => ?_
  simp [-aBin', -aBin, -aBinI, -aUn, -aNil, -flatV, n_fn, b_add, b_sub, b_mul, b_lt, b_le, b_gt, b_ge, b_eq, b_ne, u_not, q5, q6, a7.to_pre, cells_agg]
  apply hK
  clear hK K
  simp only [andThen, leaves]
  refine DWp.seq ?_
  have q8 := S1.fieldT (P := Try.prog) (k := 0) rfl fa_28_0
  have q9 := S1.loadF (P := Try.prog) (k := 0) rfl sz_22 ag_22 (off := 0) rfl
  have q10 := lenG (P := Try.prog) (hx0_0.agree A3.agree) el_22
  refine DWp.region fun K hK => ?_
  simp [-aBin', -aBin, -aBinI, -aUn, -aNil, -flatV, n_fn, b_add, b_sub, b_mul, b_lt, b_le, b_gt, b_ge, b_eq, b_ne, u_not, q8, q9, q10]
  apply hK
  clear hK K
  simp only [andThen, leaves]
  refine DWp.seq ?_
  refine DWp.region fun K hK => ?_
  simp [-aBin', -aBin, -aBinI, -aUn, -aNil, -flatV, n_fn, b_add, b_sub, b_mul, b_lt, b_le, b_gt, b_ge, b_eq, b_ne, u_not]
  apply hK
  clear hK K
  simp only [andThen, leaves]
  refine DWp.seq ?_
  refine DWp.seq ?_
  refine DWp.region fun K hK => ?_
  simp [-aBin', -aBin, -aBinI, -aUn, -aNil, -flatV, n_fn, b_add, b_sub, b_mul, b_lt, b_le, b_gt, b_ge, b_eq, b_ne, u_not]
  apply hK
  clear hK K
  simp only [andThen, leaves]
  refine DWp.block ?_
  have S11 := S1.rowsNil (hB.le A3.1) 22 3
  obtain ⟨s12, hL13, hF⟩ := bd_some hF
  have S14 := S11.pick [0, 1] (by decide) rfl
  refine DWp.loop (fun n env G => ∃ l1_1 : List (List Int), ∃ y1_5 : Int, ∃ w1_1 : Value, ∃ D1_1 : List Value, F_spec_siAll_L1 fu x0_0 x0_1 (llen x0_0) n l1_1 y1_5 = some s12 ∧ Sep G (Fr H) [AL.box p4 [v0_0, v0_1], rowsC w1_1 22 3 D1_1 (List.map ints l1_1)] ∧ AgB (Fr H) H G ∧ env 1 = some p4 ∧ env 3 = some (Value.int .i64 (llen x0_0)) ∧ env 4 = some w1_1 ∧ env 5 = some (Value.int .i64 y1_5)) fu ⟨(@List.nil (List Int)), 0, (Value.slice none 0 0), [], hL13, S14, A3, by simp [], by simp [], by simp [], by simp []⟩ ?_
  rintro n1 env1 G1_ ⟨l1_1, y1_5, w1_1, D1_1, hL13, S1_, A1_, e1_1, e1_3, e1_4, e1_5⟩
  cases n1 with
  | zero => cases hL13
  | succ n1 =>
    simp only [F_spec_siAll_L1] at hL13
    refine DWp.seq ?_
    refine DWp.seq ?_
    refine DWp.region fun K hK => ?_
    simp [-aBin', -aBin, -aBinI, -aUn, -aNil, -flatV, n_fn, b_add, b_sub, b_mul, b_lt, b_le, b_gt, b_ge, b_eq, b_ne, u_not, e1_1, e1_3, e1_4, e1_5]
    apply hK
    clear hK K
    simp only [andThen, leaves]
    refine DWp.cond' (t := (ilt y1_5 (llen x0_0))) (by simp [e1_1, e1_3, e1_4, e1_5]) (fun hb15 => ?_) (fun hb15 => ?_)
    · replace hL13 := cd_t hb15 hL13
      refine DWp.skip ?_
      simp only [andThen, leaves]
      refine DWp.seq ?_
      refine DWp.block ?_
      refine DWp.seq ?_
      refine DWp.region fun K hK => ?_
      simp [-aBin', -aBin, -aBinI, -aUn, -aNil, -flatV, n_fn, b_add, b_sub, b_mul, b_lt, b_le, b_gt, b_ge, b_eq, b_ne, u_not, e1_1, e1_3, e1_4, e1_5]
      apply hK
      clear hK K
      simp only [andThen, leaves]
      refine DWp.block ?_
      obtain ⟨s16, hL17, hL13⟩ := bd_some hL13
      have S18 := S1_.pick [0, 1] (by decide) rfl
      refine DWp.loop (fun n env G => ∃ l2_1 : List (List Int), ∃ y2_6 : Int, ∃ w2_1 : Value, ∃ D2_1 : List Value, F_spec_siAll_L2 fu x0_0 x0_1 (llen x0_0) y1_5 n l2_1 y2_6 = some s16 ∧ Sep G (Fr H) [AL.box p4 [v0_0, v0_1], rowsC w2_1 22 3 D2_1 (List.map ints l2_1)] ∧ AgB (Fr H) H G ∧ env 1 = some p4 ∧ env 3 = some (Value.int .i64 (llen x0_0)) ∧ env 4 = some w2_1 ∧ env 5 = some (Value.int .i64 y1_5) ∧ env 6 = some (Value.int .i64 y2_6)) fu ⟨l1_1, (iadd .i64 y1_5 1), w1_1, D1_1, hL17, S18, A1_, by simp [e1_1, e1_3, e1_4, e1_5], by simp [e1_1, e1_3, e1_4, e1_5], by simp [e1_1, e1_3, e1_4, e1_5], by simp [e1_1, e1_3, e1_4, e1_5], by simp [e1_1, e1_3, e1_4, e1_5]⟩ ?_
      rintro n2 env2 G2_ ⟨l2_1, y2_6, w2_1, D2_1, hL17, S2_, A2_, e2_1, e2_3, e2_4, e2_5, e2_6⟩
      cases n2 with
      | zero => cases hL17
      | succ n2 =>
        simp only [F_spec_siAll_L2] at hL17
        refine DWp.seq ?_
        refine DWp.seq ?_
        refine DWp.region fun K hK => ?_
        simp [-aBin', -aBin, -aBinI, -aUn, -aNil, -flatV, n_fn, b_add, b_sub, b_mul, b_lt, b_le, b_gt, b_ge, b_eq, b_ne, u_not, e2_1, e2_3, e2_4, e2_5, e2_6]
        apply hK
        clear hK K
        simp only [andThen, leaves]
        refine DWp.cond' (t := (ilt y2_6 (llen x0_0))) (by simp [e2_1, e2_3, e2_4, e2_5, e2_6]) (fun hb19 => ?_) (fun hb19 => ?_)
        · replace hL17 := cd_t hb19 hL17
          refine DWp.skip ?_
          simp only [andThen, leaves]
          refine DWp.seq ?_
          refine DWp.block ?_
          obtain ⟨s20, hL21, hL17⟩ := bd_some hL17
          refine DWp.seq (DWp.join (fun env G => Sep G (Fr H) [AL.box p4 [v0_0, v0_1], rowsC w2_1 22 3 D2_1 (List.map ints l2_1)] ∧ AgB (Fr H) H G ∧ env 1 = some p4 ∧ env 3 = some (Value.int .i64 (llen x0_0)) ∧ env 4 = some w2_1 ∧ env 5 = some (Value.int .i64 y1_5) ∧ env 6 = some (Value.int .i64 y2_6) ∧ env 33 = some (Value.bool s20)) ?_ ?_)
          ·
            rcases Bool.eq_false_or_eq_true (ilt (iadd .i64 (isub .i64 y2_6 y1_5) 1) (llen x0_0)) with hb23 | hb23
            · replace hL21 := cd_t hb23 hL21
              have q24 := S2_.loadAgg (P := Try.prog) (k := 0) rfl sz_28 ag_28 rfl
              obtain ⟨r1, hc25, hL21⟩ := bd_some hL21
              refine DWp.region fun K hK => ?_
              simp [-aBin', -aBin, -aBinI, -aUn, -aNil, -flatV, n_fn, b_add, b_sub, b_mul, b_lt, b_le, b_gt, b_ge, b_eq, b_ne, u_not, e2_1, e2_3, e2_4, e2_5, e2_6, hb23, q24, ((hx0_0.agree A2_.agree).tup), ((hx0_1.agree A2_.agree).tup)]
              refine CallD.t (F_spec_siClosed_w (fu := fu) (hx0_0.agree A2_.agree) (hx0_1.agree A2_.agree) hc25) ?_
              rintro _ G27 ⟨a30, rfl, S31⟩
              have A29 := A2_.ext (hB.le A2_.1) a30.agree
              have S28 : Sep G27 (Fr H) [AL.box p4 [v0_0, v0_1], rowsC w2_1 22 3 D2_1 (List.map ints l2_1)] := S2_.app a30.agree S31 (fun _ h => h) (hB.le A2_.1)
              simp [-aBin', -aBin, -aBinI, -aUn, -aNil, -flatV, n_fn, b_add, b_sub, b_mul, b_lt, b_le, b_gt, b_ge, b_eq, b_ne, u_not, e2_1, e2_3, e2_4, e2_5, e2_6, hb23, q24, a30.pre]
              apply hK
              clear hK K
              simp only [andThen, leaves]
              have S32 := S28.pick [0, 1] (by decide) rfl
              obtain rfl := Option.some.inj hL21
              exact ⟨S32, A29, by simp [e2_1, e2_3, e2_4, e2_5, e2_6], by simp [e2_1, e2_3, e2_4, e2_5, e2_6], by simp [e2_1, e2_3, e2_4, e2_5, e2_6], by simp [e2_1, e2_3, e2_4, e2_5, e2_6], by simp [e2_1, e2_3, e2_4, e2_5, e2_6], by simp [e2_1, e2_3, e2_4, e2_5, e2_6]⟩
            · replace hL21 := cd_f hb23 hL21
              refine DWp.region fun K hK => ?_
              simp [-aBin', -aBin, -aBinI, -aUn, -aNil, -flatV, n_fn, b_add, b_sub, b_mul, b_lt, b_le, b_gt, b_ge, b_eq, b_ne, u_not, e2_1, e2_3, e2_4, e2_5, e2_6, hb23]
              apply hK
              clear hK K
              simp only [andThen, leaves]
              have S33 := S2_.pick [0, 1] (by decide) rfl
              obtain rfl := Option.some.inj hL21
              exact ⟨S33, A2_, by simp [e2_1, e2_3, e2_4, e2_5, e2_6], by simp [e2_1, e2_3, e2_4, e2_5, e2_6], by simp [e2_1, e2_3, e2_4, e2_5, e2_6], by simp [e2_1, e2_3, e2_4, e2_5, e2_6], by simp [e2_1, e2_3, e2_4, e2_5, e2_6], by simp [e2_1, e2_3, e2_4, e2_5, e2_6]⟩
          · rintro env Gj34 ⟨Sj34, Aj34, ej34_1, ej34_3, ej34_4, ej34_5, ej34_6, ej34_33⟩
            refine DWp.cond' (t := s20) (by simp [ej34_1, ej34_3, ej34_4, ej34_5, ej34_6, ej34_33]) (fun hb35 => ?_) (fun hb35 => ?_)
            · replace hL17 := cd_t hb35 hL17
              obtain ⟨v36, G37, q38, S39, a41, _, _⟩ := Sj34.lit2 (P := Try.prog) (t := 22) (hB.le Aj34.1) el_22 ei_3 rfl (Value.int .i64 y1_5) (Value.int .i64 y2_6) rfl rfl rfl rfl
              have A40 := Aj34.ext (hB.le Aj34.1) a41
              replace S39 : Sep G37 (Fr H) [AL.box p4 [v0_0, v0_1], rowsC w2_1 22 3 D2_1 (List.map ints l2_1), flat1 v36 3 (ints [y1_5, y2_6])] := S39
              obtain ⟨v43, G44, q45, S46, a48, _, _⟩ := S39.lit1 (P := Try.prog) (t := 36) (hB.le A40.1) el_36 ei_22 rfl v36 ((S39.sl1 (k := 2) rfl).tup) ((S39.sl1 (k := 2) rfl).one)
              have A47 := A40.ext (hB.le A40.1) a48
              replace S46 : Sep G44 (Fr H) [AL.box p4 [v0_0, v0_1], rowsC w2_1 22 3 D2_1 (List.map ints l2_1), flat1 v36 3 (ints [y1_5, y2_6]), flat1 v43 22 [v36]] := S46
              have S49 := S46.weak (k := 2) rfl
              obtain ⟨g50, hL17⟩ := gd_some hL17
              obtain ⟨v56, G51, q52, S53, a55, q52t, _⟩ := S49.pushRow (u := w2_1) (fr := ints) (X := l2_1) (y := [y1_5, y2_6]) (P := Try.prog) (t := 36) (t2 := 36) (j := 1) (k := 2) (by decide) rfl rfl (hB.le A47.1) el_36 el_36 ei_22 rfl (S49.sl1 (k := 3) rfl) g50
              have A54 := A47.trans a55
              replace S53 : Sep G51 (Fr H) [AL.box p4 [v0_0, v0_1], rowsC v56 22 3 (D2_1 ++ [v36]) (List.map ints (lapp l2_1 [[y1_5, y2_6]])), emp, flat1 v43 22 [v36]] := S53
              refine DWp.region fun K hK => ?_
              simp [-aBin', -aBin, -aBinI, -aUn, -aNil, -flatV, n_fn, b_add, b_sub, b_mul, b_lt, b_le, b_gt, b_ge, b_eq, b_ne, u_not, ej34_1, ej34_3, ej34_4, ej34_5, ej34_6, ej34_33, q38, a41.to_pre, q45, a48.to_pre, ((S39.sl1 (k := 2) rfl).tup), q52, q52t]
              apply hK
              clear hK K
              simp only [andThen, leaves]
              refine DWp.region fun K hK => ?_
              simp [-aBin', -aBin, -aBinI, -aUn, -aNil, -flatV, n_fn, b_add, b_sub, b_mul, b_lt, b_le, b_gt, b_ge, b_eq, b_ne, u_not, ej34_1, ej34_3, ej34_4, ej34_5, ej34_6, ej34_33]
              apply hK
              clear hK K
              simp only [andThen, leaves]
              have S57 := S53.pick [0, 1] (by decide) rfl
              exact ⟨n2, Nat.lt_succ_self _, (lapp l2_1 [[y1_5, y2_6]]), (iadd .i64 y2_6 1), v56, (D2_1 ++ [v36]), hL17, S57, A54, by simp [ej34_1, ej34_3, ej34_4, ej34_5, ej34_6, ej34_33], by simp [ej34_1, ej34_3, ej34_4, ej34_5, ej34_6, ej34_33], by simp [ej34_1, ej34_3, ej34_4, ej34_5, ej34_6, ej34_33], by simp [ej34_1, ej34_3, ej34_4, ej34_5, ej34_6, ej34_33], by simp [ej34_1, ej34_3, ej34_4, ej34_5, ej34_6, ej34_33]⟩
            · replace hL17 := cd_f hb35 hL17
              refine DWp.skip ?_
              simp only [andThen, leaves]
              refine DWp.region fun K hK => ?_
              simp [-aBin', -aBin, -aBinI, -aUn, -aNil, -flatV, n_fn, b_add, b_sub, b_mul, b_lt, b_le, b_gt, b_ge, b_eq, b_ne, u_not, ej34_1, ej34_3, ej34_4, ej34_5, ej34_6, ej34_33]
              apply hK
              clear hK K
              simp only [andThen, leaves]
              have S58 := Sj34.pick [0, 1] (by decide) rfl
              exact ⟨n2, Nat.lt_succ_self _, l2_1, (iadd .i64 y2_6 1), w2_1, D2_1, hL17, S58, Aj34, by simp [ej34_1, ej34_3, ej34_4, ej34_5, ej34_6, ej34_33], by simp [ej34_1, ej34_3, ej34_4, ej34_5, ej34_6, ej34_33], by simp [ej34_1, ej34_3, ej34_4, ej34_5, ej34_6, ej34_33], by simp [ej34_1, ej34_3, ej34_4, ej34_5, ej34_6, ej34_33], by simp [ej34_1, ej34_3, ej34_4, ej34_5, ej34_6, ej34_33]⟩
        · replace hL17 := cd_f hb19 hL17
          refine DWp.exit ?_
          simp only [andThen, leaves, if_true, if_false, reduceIte, Nat.reduceEqDiff]
          obtain rfl := Option.some.inj hL17
          try dsimp only at hL13
          refine DWp.region fun K hK => ?_
          simp [-aBin', -aBin, -aBinI, -aUn, -aNil, -flatV, n_fn, b_add, b_sub, b_mul, b_lt, b_le, b_gt, b_ge, b_eq, b_ne, u_not, e2_1, e2_3, e2_4, e2_5, e2_6]
          apply hK
          clear hK K
          simp only [andThen, leaves]
          have S59 := S2_.pick [0, 1] (by decide) rfl
          exact ⟨n1, Nat.lt_succ_self _, l2_1, (iadd .i64 y1_5 1), w2_1, D2_1, hL13, S59, A2_, by simp [e2_1, e2_3, e2_4, e2_5, e2_6], by simp [e2_1, e2_3, e2_4, e2_5, e2_6], by simp [e2_1, e2_3, e2_4, e2_5, e2_6], by simp [e2_1, e2_3, e2_4, e2_5, e2_6]⟩
    · replace hL13 := cd_f hb15 hL13
      refine DWp.exit ?_
      simp only [andThen, leaves, if_true, if_false, reduceIte, Nat.reduceEqDiff]
      obtain rfl := Option.some.inj hL13
      try dsimp only at hF
      refine DWp.seq ?_
      refine DWp.region fun K hK => ?_
      simp [-aBin', -aBin, -aBinI, -aUn, -aNil, -flatV, n_fn, b_add, b_sub, b_mul, b_lt, b_le, b_gt, b_ge, b_eq, b_ne, u_not, e1_1, e1_3, e1_4, e1_5]
      apply hK
      clear hK K
      simp only [andThen, leaves]
      refine DWp.ret ?_
      obtain rfl := Option.some.inj hF
      exact ⟨by simp, [w1_1], by simp [e1_1, e1_3, e1_4, e1_5, ((S1_.rd (k := 1) rfl).tup)], A1_, w1_1, D1_1, rfl, S1_.pick [1] (by decide) rfl⟩
end Go.Proofs.Ytbckijeffiofdaa.AL

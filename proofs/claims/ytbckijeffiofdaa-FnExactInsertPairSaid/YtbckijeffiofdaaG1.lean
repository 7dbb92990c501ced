/- The walks of functions, each with its Lean function: laws.szIntS, laws.szMeander, laws.toIntS, laws.toMeander, spec.l1In, spec.l1All, spec.ahGood, spec.mePair, spec.siPut, spec.InsertPair. No condition. -/
import Derived.Test.YtbckijeffiofdaaAL26
import Derived.Test.YtbckijeffiofdaaProg
import Derived.KernelRfl
namespace Go.Proofs.Ytbckijeffiofdaa.AL
open Go Go.RowKit
set_option linter.unusedVariables false
set_option linter.unusedSimpArgs false
set_option maxRecDepth 4096
theorem mixed : Try.prog.follows .mixedOrders = true := by kernel_rfl
theorem ag_22 : aggT Try.prog 22 = some false := by kernel_rfl
theorem ag_28 : aggT Try.prog 28 = some true := by kernel_rfl
theorem ag_3 : aggT Try.prog 3 = some false := by kernel_rfl
theorem ei_3 : einfo Try.prog 3 = some ⟨1, 8, .int .i64 0⟩ := by kernel_rfl
theorem el_22 : elemT Try.prog 22 = some 3 := by kernel_rfl
theorem fa_24_0 : fldT Try.prog 24 0 = some 0 := by kernel_rfl
theorem fa_24_1 : fldT Try.prog 24 1 = some 1 := by kernel_rfl
theorem fa_28_0 : fldT Try.prog 28 0 = some 0 := by kernel_rfl
theorem fa_28_1 : fldT Try.prog 28 1 = some 1 := by kernel_rfl
theorem pl_28 : placeT Try.prog 28 = some (.agg #[.slice none 0 0, .slice none 0 0], fun i => [(0, 1), (1, 1)].toArray[i]?) := by kernel_rfl
theorem sz_22 : sizeT Try.prog 22 = some 1 := by kernel_rfl
theorem sz_28 : sizeT Try.prog 28 = some 2 := by kernel_rfl
theorem sz_3 : sizeT Try.prog 3 = some 1 := by kernel_rfl
theorem ze_28 : zeroT Try.prog 28 = some (.agg #[.slice none 0 0, .slice none 0 0]) := by kernel_rfl
theorem bu_28 {a0 a1 : Value} (t0 : isTup a0 = false) (c0 : a0.cells = #[a0]) (t1 : isTup a1 = false) (c1 : a1.cells = #[a1]) : aBuild Try.prog 28 [(0, a0), (1, a1)] = some (.agg #[a0, a1]) := buildT2 pl_28 rfl rfl t0 c0 t1 c1
/-! loop.example/g01126/laws.szIntS -/
def F_laws_szIntS (fu : Nat) (x0 : List Int) (x1 : Int) : Option (Int) :=
  bif (ilt (isub .i64 x1 (llen x0)) 0) then
    some (-1)
  else
    some (isub .i64 x1 (llen x0))
theorem F_laws_szIntS_w {fu : Nat} {H : AH} {v0 : Value} {x0 : List Int} {x1 : Int} {r : (Int)} (hx0 : Sl H v0 (ints x0)) (hF : F_laws_szIntS fu x0 x1 = some r) :
    ACallT Try.prog 88 [v0, (Value.int .i64 x1)] H (fun u G => AgB (Fr H) H G ∧ u = (Value.int .i64 r) ∧ Sep G (Fr H) []) := by
  refine ACallT.of_body (nt := 12) (rs := [.tmp 4]) Try.func88 rfl rfl rfl rfl ?_
  have A0 : AgB (Fr H) H H := .refl _ _
  have S0 : Sep H (Fr H) [] := .nil
  have hB := Fr.up H
  unfold F_laws_szIntS at hF
  refine DWp.seq ?_
  refine DWp.region fun K hK => ?_
  simp [-aBin', -aBin, -aBinI, -aUn, -aNil, -flatV, n_fn, b_add, b_sub, b_mul, b_lt, b_le, b_gt, b_ge, b_eq, b_ne, u_not]
  apply hK
  clear hK K
  simp only [andThen, leaves]
  refine DWp.seq ?_
  have q1 := lenG (P := Try.prog) (hx0.agree A0.agree) el_22
  refine DWp.region fun K hK => ?_
  simp [-aBin', -aBin, -aBinI, -aUn, -aNil, -flatV, n_fn, b_add, b_sub, b_mul, b_lt, b_le, b_gt, b_ge, b_eq, b_ne, u_not, q1]
  apply hK
  clear hK K
  simp only [andThen, leaves]
  refine DWp.seq ?_
  refine DWp.seq ?_
  refine DWp.region fun K hK => ?_
  simp [-aBin', -aBin, -aBinI, -aUn, -aNil, -flatV, n_fn, b_add, b_sub, b_mul, b_lt, b_le, b_gt, b_ge, b_eq, b_ne, u_not]
  apply hK
  clear hK K
  simp only [andThen, leaves]
  refine DWp.cond' (t := (ilt (isub .i64 x1 (llen x0)) 0)) (by simp []) (fun hb2 => ?_) (fun hb2 => ?_)
  · replace hF := cd_t hb2 hF
    refine DWp.seq ?_
    refine DWp.region fun K hK => ?_
    simp [-aBin', -aBin, -aBinI, -aUn, -aNil, -flatV, n_fn, b_add, b_sub, b_mul, b_lt, b_le, b_gt, b_ge, b_eq, b_ne, u_not]
    apply hK
    clear hK K
    simp only [andThen, leaves]
    refine DWp.ret ?_
    simp only [andThen, leaves]
    obtain rfl := Option.some.inj hF
    exact ⟨by simp, [(Value.int .i64 (-1))], by simp [], A0, rfl, S0.pick [] (by decide) rfl⟩
  · replace hF := cd_f hb2 hF
    refine DWp.skip ?_
    simp only [andThen, leaves]
    refine DWp.seq ?_
    refine DWp.region fun K hK => ?_
    simp [-aBin', -aBin, -aBinI, -aUn, -aNil, -flatV, n_fn, b_add, b_sub, b_mul, b_lt, b_le, b_gt, b_ge, b_eq, b_ne, u_not]
    apply hK
    clear hK K
    simp only [andThen, leaves]
    refine DWp.ret ?_
    obtain rfl := Option.some.inj hF
    exact ⟨by simp, [(Value.int .i64 (isub .i64 x1 (llen x0)))], by simp [], A0, rfl, S0.pick [] (by decide) rfl⟩
/-! loop.example/g01126/laws.szMeander -/
def F_laws_szMeander (fu : Nat) (x0_0 : List Int) (x0_1 : List Int) (x1 : Int) : Option (Int) :=
  bd (F_laws_szIntS fu x0_0 x1) fun r1 =>
  bif (ilt r1 0) then
    some (-1)
  else
    bd (F_laws_szIntS fu x0_1 r1) fun r2 =>
    bif (ilt r2 0) then
      some (-1)
    else
      some r2
theorem F_laws_szMeander_w {fu : Nat} {H : AH} {v0_0 : Value} {v0_1 : Value} {x0_0 : List Int} {x0_1 : List Int} {x1 : Int} {r : (Int)} (hx0_0 : Sl H v0_0 (ints x0_0)) (hx0_1 : Sl H v0_1 (ints x0_1)) (hF : F_laws_szMeander fu x0_0 x0_1 x1 = some r) :
    ACallT Try.prog 21 [(Value.agg #[v0_0, v0_1]), (Value.int .i64 x1)] H (fun u G => AgB (Fr H) H G ∧ u = (Value.int .i64 r) ∧ Sep G (Fr H) []) := by
  refine ACallT.of_body (nt := 18) (rs := [.tmp 4]) Try.func21 rfl rfl rfl rfl ?_
  have A0 : AgB (Fr H) H H := .refl _ _
  have S0 : Sep H (Fr H) [] := .nil
  have hB := Fr.up H
  unfold F_laws_szMeander at hF
  refine DWp.seq ?_
  obtain ⟨G2, p4, q5, q6, a7, S1⟩ := S0.boxT (hB.le A0.1) 24 [v0_0, v0_1]
  have A3 := A0.ext (hB.le A0.1) a7
  replace S1 : Sep G2 (Fr H) [AL.box p4 [v0_0, v0_1]] := S1
  refine DWp.region fun K hK => ?_
  simp [-aBin', -aBin, -aBinI, -aUn, -aNil, -flatV, n_fn, b_add, b_sub, b_mul, b_lt, b_le, b_gt, b_ge, b_eq, b_ne, u_not, q5, q6, a7.to_pre, cells_agg]
  apply hK
  clear hK K
  simp only [andThen, leaves]
  refine DWp.seq ?_
  have q8 := S1.fieldT (P := Try.prog) (k := 0) rfl fa_24_0
  have q9 := S1.loadF (P := Try.prog) (k := 0) rfl sz_22 ag_22 (off := 0) rfl
  obtain ⟨r1, hc10, hF⟩ := bd_some hF
  refine DWp.region fun K hK => ?_
  simp [-aBin', -aBin, -aBinI, -aUn, -aNil, -flatV, n_fn, b_add, b_sub, b_mul, b_lt, b_le, b_gt, b_ge, b_eq, b_ne, u_not, q8, q9, ((hx0_0.agree A3.agree).tup)]
  refine CallD.t (F_laws_szIntS_w (fu := fu) (hx0_0.agree A3.agree) hc10) ?_
  rintro _ G12 ⟨a15, rfl, S16⟩
  have A14 := A3.ext (hB.le A3.1) a15.agree
  have S13 : Sep G12 (Fr H) [AL.box p4 [v0_0, v0_1]] := S1.app a15.agree S16 (fun _ h => h) (hB.le A3.1)
  simp [-aBin', -aBin, -aBinI, -aUn, -aNil, -flatV, n_fn, b_add, b_sub, b_mul, b_lt, b_le, b_gt, b_ge, b_eq, b_ne, u_not, q8, q9, a15.pre]
  apply hK
  clear hK K
  simp only [andThen, leaves]
  refine DWp.seq ?_
  refine DWp.seq ?_
  refine DWp.region fun K hK => ?_
  simp [-aBin', -aBin, -aBinI, -aUn, -aNil, -flatV, n_fn, b_add, b_sub, b_mul, b_lt, b_le, b_gt, b_ge, b_eq, b_ne, u_not]
  apply hK
  clear hK K
  simp only [andThen, leaves]
  refine DWp.cond' (t := (ilt r1 0)) (by simp []) (fun hb17 => ?_) (fun hb17 => ?_)
  · replace hF := cd_t hb17 hF
    refine DWp.seq ?_
    refine DWp.region fun K hK => ?_
    simp [-aBin', -aBin, -aBinI, -aUn, -aNil, -flatV, n_fn, b_add, b_sub, b_mul, b_lt, b_le, b_gt, b_ge, b_eq, b_ne, u_not]
    apply hK
    clear hK K
    simp only [andThen, leaves]
    refine DWp.ret ?_
    simp only [andThen, leaves]
    obtain rfl := Option.some.inj hF
    exact ⟨by simp, [(Value.int .i64 (-1))], by simp [], A14, rfl, S13.pick [] (by decide) rfl⟩
  · replace hF := cd_f hb17 hF
    refine DWp.skip ?_
    simp only [andThen, leaves]
    refine DWp.seq ?_
    have q18 := S13.fieldT (P := Try.prog) (k := 0) rfl fa_24_1
    have q19 := S13.loadF (P := Try.prog) (k := 0) rfl sz_22 ag_22 (off := 1) rfl
    obtain ⟨r2, hc20, hF⟩ := bd_some hF
    refine DWp.region fun K hK => ?_
    simp [-aBin', -aBin, -aBinI, -aUn, -aNil, -flatV, n_fn, b_add, b_sub, b_mul, b_lt, b_le, b_gt, b_ge, b_eq, b_ne, u_not, q18, q19, ((hx0_1.agree A14.agree).tup)]
    refine CallD.t (F_laws_szIntS_w (fu := fu) (hx0_1.agree A14.agree) hc20) ?_
    rintro _ G22 ⟨a25, rfl, S26⟩
    have A24 := A14.ext (hB.le A14.1) a25.agree
    have S23 : Sep G22 (Fr H) [AL.box p4 [v0_0, v0_1]] := S13.app a25.agree S26 (fun _ h => h) (hB.le A14.1)
    simp [-aBin', -aBin, -aBinI, -aUn, -aNil, -flatV, n_fn, b_add, b_sub, b_mul, b_lt, b_le, b_gt, b_ge, b_eq, b_ne, u_not, q18, q19, a25.pre]
    apply hK
    clear hK K
    simp only [andThen, leaves]
    refine DWp.seq ?_
    refine DWp.seq ?_
    refine DWp.region fun K hK => ?_
    simp [-aBin', -aBin, -aBinI, -aUn, -aNil, -flatV, n_fn, b_add, b_sub, b_mul, b_lt, b_le, b_gt, b_ge, b_eq, b_ne, u_not]
    apply hK
    clear hK K
    simp only [andThen, leaves]
    refine DWp.cond' (t := (ilt r2 0)) (by simp []) (fun hb27 => ?_) (fun hb27 => ?_)
    · replace hF := cd_t hb27 hF
      refine DWp.seq ?_
      refine DWp.region fun K hK => ?_
      simp [-aBin', -aBin, -aBinI, -aUn, -aNil, -flatV, n_fn, b_add, b_sub, b_mul, b_lt, b_le, b_gt, b_ge, b_eq, b_ne, u_not]
      apply hK
      clear hK K
      simp only [andThen, leaves]
      refine DWp.ret ?_
      simp only [andThen, leaves]
      obtain rfl := Option.some.inj hF
      exact ⟨by simp, [(Value.int .i64 (-1))], by simp [], A24, rfl, S23.pick [] (by decide) rfl⟩
    · replace hF := cd_f hb27 hF
      refine DWp.skip ?_
      simp only [andThen, leaves]
      refine DWp.seq ?_
      refine DWp.region fun K hK => ?_
      simp [-aBin', -aBin, -aBinI, -aUn, -aNil, -flatV, n_fn, b_add, b_sub, b_mul, b_lt, b_le, b_gt, b_ge, b_eq, b_ne, u_not]
      apply hK
      clear hK K
      simp only [andThen, leaves]
      refine DWp.ret ?_
      obtain rfl := Option.some.inj hF
      exact ⟨by simp, [(Value.int .i64 r2)], by simp [], A24, rfl, S23.pick [] (by decide) rfl⟩
/-! loop.example/g01126/laws.toIntS -/
def F_laws_toIntS_L1 (fu : Nat) (k1_0 : List Int) : Nat → List Int → Int → Option (List Int × Int)
  | 0, _, _ => none
  | n + 1, l1_0, y1_4 =>
    bif (ilt y1_4 (llen k1_0)) then
      gd (inL k1_0 y1_4) (
      gd (inL l1_0 y1_4) (
      F_laws_toIntS_L1 fu k1_0 n (lset l1_0 y1_4 (gat 0 k1_0 y1_4)) (iadd .i64 y1_4 1)))
    else
      some (l1_0, y1_4)
def F_laws_toIntS (fu : Nat) (x0 : List Int) : Option (List Int) :=
  gd (0 ≤ (llen x0) ∧ (llen x0) ≤ 4294967296) (
  bd (F_laws_toIntS_L1 fu x0 fu (lrep (llen x0) 0) 0) fun s1 =>
  some s1.1)
theorem F_laws_toIntS_w {fu : Nat} {H : AH} {v0 : Value} {x0 : List Int} {r : (List Int)} (hx0 : Sl H v0 (ints x0)) (hF : F_laws_toIntS fu x0 = some r) :
    ACallT Try.prog 91 [v0] H (fun u G => AgB (Fr H) H G ∧ ∃ u0 : Value, u = u0 ∧ Sep G (Fr H) [flat u0 3 (ints r)]) := by
  refine ACallT.of_body (nt := 22) (rs := [.tmp 2]) Try.func91 rfl rfl rfl rfl ?_
  have A0 : AgB (Fr H) H H := .refl _ _
  have S0 : Sep H (Fr H) [] := .nil
  have hB := Fr.up H
  unfold F_laws_toIntS at hF
  refine DWp.seq ?_
  refine DWp.region fun K hK => ?_
  simp [-aBin', -aBin, -aBinI, -aUn, -aNil, -flatV, n_fn, b_add, b_sub, b_mul, b_lt, b_le, b_gt, b_ge, b_eq, b_ne, u_not]
  apply hK
  clear hK K
  simp only [andThen, leaves]
  refine DWp.seq ?_
  have q1 := lenG (P := Try.prog) (hx0.agree A0.agree) el_22
  obtain ⟨g2, hF⟩ := gd_some hF
  obtain ⟨v3, G4, q5, S6, a8, _⟩ := S0.make (f := (Value.int .i64)) (P := Try.prog) (t := 22) (hB.le A0.1) el_22 ei_3 rfl 0 rfl g2
  have A7 := A0.ext (hB.le A0.1) a8
  replace S6 : Sep G4 (Fr H) [flat v3 3 (ints (lrep (llen x0) 0))] := S6
  refine DWp.region fun K hK => ?_
  simp [-aBin', -aBin, -aBinI, -aUn, -aNil, -flatV, n_fn, b_add, b_sub, b_mul, b_lt, b_le, b_gt, b_ge, b_eq, b_ne, u_not, q1, q5, a8.to_pre]
  apply hK
  clear hK K
  simp only [andThen, leaves]
  refine DWp.seq ?_
  refine DWp.seq ?_
  refine DWp.region fun K hK => ?_
  simp [-aBin', -aBin, -aBinI, -aUn, -aNil, -flatV, n_fn, b_add, b_sub, b_mul, b_lt, b_le, b_gt, b_ge, b_eq, b_ne, u_not]
  apply hK
  clear hK K
  simp only [andThen, leaves]
  refine DWp.block ?_
  obtain ⟨s9, hL10, hF⟩ := bd_some hF
  have S11 := S6.pick [0] (by decide) rfl
  refine DWp.loop (fun n env G => ∃ l1_0 : List Int, ∃ y1_4 : Int, F_laws_toIntS_L1 fu x0 n l1_0 y1_4 = some s9 ∧ Sep G (Fr H) [flat v3 3 (ints l1_0)] ∧ AgB (Fr H) H G ∧ env 0 = some v0 ∧ env 3 = some v3 ∧ env 4 = some (Value.int .i64 y1_4)) fu ⟨(lrep (llen x0) 0), 0, hL10, S11, A7, by simp [], by simp [], by simp []⟩ ?_
  rintro n1 env1 G1_ ⟨l1_0, y1_4, hL10, S1_, A1_, e1_0, e1_3, e1_4⟩
  cases n1 with
  | zero => cases hL10
  | succ n1 =>
    simp only [F_laws_toIntS_L1] at hL10
    refine DWp.seq ?_
    refine DWp.seq ?_
    have q12 := lenG (P := Try.prog) (hx0.agree A1_.agree) el_22
    refine DWp.region fun K hK => ?_
    simp [-aBin', -aBin, -aBinI, -aUn, -aNil, -flatV, n_fn, b_add, b_sub, b_mul, b_lt, b_le, b_gt, b_ge, b_eq, b_ne, u_not, e1_0, e1_3, e1_4, q12]
    apply hK
    clear hK K
    simp only [andThen, leaves]
    refine DWp.cond' (t := (ilt y1_4 (llen x0))) (by simp [e1_0, e1_3, e1_4]) (fun hb13 => ?_) (fun hb13 => ?_)
    · replace hL10 := cd_t hb13 hL10
      refine DWp.skip ?_
      simp only [andThen, leaves]
      refine DWp.seq ?_
      refine DWp.block ?_
      obtain ⟨g14, hL10⟩ := gd_some hL10
      have q15 := idxG (P := Try.prog) (kk := .i64) (hx0.agree A1_.agree) el_22 sz_3 g14
      have q16 := loadG (P := Try.prog) (hx0.agree A1_.agree) sz_3 ag_3 g14 0
      obtain ⟨g17, hL10⟩ := gd_some hL10
      have q18 := idxG (P := Try.prog) (kk := .i64) (S1_.sl (k := 0) rfl) el_22 sz_3 g17
      obtain ⟨G19, q20, S21, a23⟩ := S1_.storeG (f := (Value.int .i64)) (P := Try.prog) (k := 0) (x := (gat 0 x0 y1_4)) rfl (hB.le A1_.1) sz_3 g17 rfl rfl
      have A22 := A1_.trans a23
      replace S21 : Sep G19 (Fr H) [flat v3 3 (ints (lset l1_0 y1_4 (gat 0 x0 y1_4)))] := S21
      refine DWp.region fun K hK => ?_
      simp [-aBin', -aBin, -aBinI, -aUn, -aNil, -flatV, n_fn, b_add, b_sub, b_mul, b_lt, b_le, b_gt, b_ge, b_eq, b_ne, u_not, e1_0, e1_3, e1_4, q15, q16, q18, q20]
      apply hK
      clear hK K
      simp only [andThen, leaves]
      refine DWp.region fun K hK => ?_
      simp [-aBin', -aBin, -aBinI, -aUn, -aNil, -flatV, n_fn, b_add, b_sub, b_mul, b_lt, b_le, b_gt, b_ge, b_eq, b_ne, u_not, e1_0, e1_3, e1_4]
      apply hK
      clear hK K
      simp only [andThen, leaves]
      have S24 := S21.pick [0] (by decide) rfl
      exact ⟨n1, Nat.lt_succ_self _, (lset l1_0 y1_4 (gat 0 x0 y1_4)), (iadd .i64 y1_4 1), hL10, S24, A22, by simp [e1_0, e1_3, e1_4], by simp [e1_0, e1_3, e1_4], by simp [e1_0, e1_3, e1_4]⟩
    · replace hL10 := cd_f hb13 hL10
      refine DWp.exit ?_
      simp only [andThen, leaves, if_true, if_false, reduceIte, Nat.reduceEqDiff]
      obtain rfl := Option.some.inj hL10
      try dsimp only at hF
      refine DWp.seq ?_
      refine DWp.region fun K hK => ?_
      simp [-aBin', -aBin, -aBinI, -aUn, -aNil, -flatV, n_fn, b_add, b_sub, b_mul, b_lt, b_le, b_gt, b_ge, b_eq, b_ne, u_not, e1_0, e1_3, e1_4]
      apply hK
      clear hK K
      simp only [andThen, leaves]
      refine DWp.ret ?_
      obtain rfl := Option.some.inj hF
      exact ⟨by simp, [v3], by simp [e1_0, e1_3, e1_4, ((S1_.sl (k := 0) rfl).tup)], A1_, v3, rfl, S1_.pick [0] (by decide) rfl⟩
/-! loop.example/g01126/laws.toMeander -/
def F_laws_toMeander (fu : Nat) (x0_0 : List Int) (x0_1 : List Int) : Option ((List Int × List Int)) :=
  bd (F_laws_toIntS fu x0_0) fun r1 =>
  bd (F_laws_toIntS fu x0_1) fun r2 =>
  some (r1, r2)
theorem F_laws_toMeander_w {fu : Nat} {H : AH} {v0_0 : Value} {v0_1 : Value} {x0_0 : List Int} {x0_1 : List Int} {r : ((List Int × List Int))} (hx0_0 : Sl H v0_0 (ints x0_0)) (hx0_1 : Sl H v0_1 (ints x0_1)) (hF : F_laws_toMeander fu x0_0 x0_1 = some r) :
    ACallT Try.prog 23 [(Value.agg #[v0_0, v0_1])] H (fun u G => AgB (Fr H) H G ∧ ∃ u0 : Value, ∃ u1 : Value, u = (Value.agg #[u0, u1]) ∧ Sep G (Fr H) [flat u0 3 (ints r.1), flat u1 3 (ints r.2)]) := by
  refine ACallT.of_body (nt := 13) (rs := [.cell 2 28]) Try.func23 rfl rfl rfl rfl ?_
  have A0 : AgB (Fr H) H H := .refl _ _
  have S0 : Sep H (Fr H) [] := .nil
  have hB := Fr.up H
  unfold F_laws_toMeander at hF
  refine DWp.seq ?_
  obtain ⟨G2, p4, q5, q6, a7, S1⟩ := S0.boxT (hB.le A0.1) 24 [v0_0, v0_1]
  have A3 := A0.ext (hB.le A0.1) a7
  replace S1 : Sep G2 (Fr H) [AL.box p4 [v0_0, v0_1]] := S1
  obtain ⟨G9, p11, q12, q14, a13, S8⟩ := S1.allocT (P := Try.prog) (hB.le A3.1) ze_28 rfl
  have A10 := A3.ext (hB.le A3.1) a13
  replace S8 : Sep G9 (Fr H) [AL.box p4 [v0_0, v0_1], AL.box p11 [(Value.slice none 0 0), (Value.slice none 0 0)]] := S8
  refine DWp.region fun K hK => ?_
  simp [-aBin', -aBin, -aBinI, -aUn, -aNil, -flatV, n_fn, b_add, b_sub, b_mul, b_lt, b_le, b_gt, b_ge, b_eq, b_ne, u_not, q5, q6, a7.to_pre, cells_agg, q12, q14, a13.to_pre]
  apply hK
  clear hK K
  simp only [andThen, leaves]
  refine DWp.seq ?_
  obtain ⟨G16, p18, q19, q21, a20, S15⟩ := S8.allocT (P := Try.prog) (hB.le A10.1) ze_28 rfl
  have A17 := A10.ext (hB.le A10.1) a20
  replace S15 : Sep G16 (Fr H) [AL.box p4 [v0_0, v0_1], AL.box p11 [(Value.slice none 0 0), (Value.slice none 0 0)], AL.box p18 [(Value.slice none 0 0), (Value.slice none 0 0)]] := S15
  refine DWp.region fun K hK => ?_
  simp [-aBin', -aBin, -aBinI, -aUn, -aNil, -flatV, n_fn, b_add, b_sub, b_mul, b_lt, b_le, b_gt, b_ge, b_eq, b_ne, u_not, q19, q21, a20.to_pre]
  apply hK
  clear hK K
  simp only [andThen, leaves]
  refine DWp.seq ?_
  have q22 := S15.fieldT (P := Try.prog) (k := 0) rfl fa_24_0
  have q23 := S15.loadF (P := Try.prog) (k := 0) rfl sz_22 ag_22 (off := 0) rfl
  obtain ⟨r1, hc24, hF⟩ := bd_some hF
  refine DWp.region fun K hK => ?_
  simp [-aBin', -aBin, -aBinI, -aUn, -aNil, -flatV, n_fn, b_add, b_sub, b_mul, b_lt, b_le, b_gt, b_ge, b_eq, b_ne, u_not, q22, q23, ((hx0_0.agree A17.agree).tup)]
  refine CallD.t (F_laws_toIntS_w (fu := fu) (hx0_0.agree A17.agree) hc24) ?_
  rintro c25_u0 G26 ⟨a29, _, rfl, S30⟩
  have A28 := A17.ext (hB.le A17.1) a29.agree
  have S27 : Sep G26 (Fr H) [AL.box p4 [v0_0, v0_1], AL.box p11 [(Value.slice none 0 0), (Value.slice none 0 0)], AL.box p18 [(Value.slice none 0 0), (Value.slice none 0 0)], flat c25_u0 3 (ints r1)] := S15.app a29.agree S30 (fun _ h => h) (hB.le A17.1)
  have q31 := S27.fieldT (P := Try.prog) (k := 2) rfl fa_28_0
  obtain ⟨G32, q33, S34, a36⟩ := S27.putF (P := Try.prog) (k := 2) (off := 0) rfl (hB.le A28.1) sz_22 (by simp) ((S27.sl (k := 3) rfl).tup) ((S27.sl (k := 3) rfl).one)
  have A35 := A28.trans a36
  replace S34 : Sep G32 (Fr H) [AL.box p4 [v0_0, v0_1], AL.box p11 [(Value.slice none 0 0), (Value.slice none 0 0)], AL.box p18 [c25_u0, (Value.slice none 0 0)], flat c25_u0 3 (ints r1)] := S34
  simp [-aBin', -aBin, -aBinI, -aUn, -aNil, -flatV, n_fn, b_add, b_sub, b_mul, b_lt, b_le, b_gt, b_ge, b_eq, b_ne, u_not, q22, q23, a29.pre, q31, q33]
  apply hK
  clear hK K
  simp only [andThen, leaves]
  refine DWp.seq ?_
  have q37 := S34.fieldT (P := Try.prog) (k := 0) rfl fa_24_1
  have q38 := S34.loadF (P := Try.prog) (k := 0) rfl sz_22 ag_22 (off := 1) rfl
  obtain ⟨r2, hc39, hF⟩ := bd_some hF
  refine DWp.region fun K hK => ?_
  simp [-aBin', -aBin, -aBinI, -aUn, -aNil, -flatV, n_fn, b_add, b_sub, b_mul, b_lt, b_le, b_gt, b_ge, b_eq, b_ne, u_not, q37, q38, ((hx0_1.agree A35.agree).tup)]
  refine CallD.t (F_laws_toIntS_w (fu := fu) (hx0_1.agree A35.agree) hc39) ?_
  rintro c40_u0 G41 ⟨a44, _, rfl, S45⟩
  have A43 := A35.ext (hB.le A35.1) a44.agree
  have S42 : Sep G41 (Fr H) [AL.box p4 [v0_0, v0_1], AL.box p11 [(Value.slice none 0 0), (Value.slice none 0 0)], AL.box p18 [c25_u0, (Value.slice none 0 0)], flat c25_u0 3 (ints r1), flat c40_u0 3 (ints r2)] := S34.app a44.agree S45 (fun _ h => h) (hB.le A35.1)
  have q46 := S42.fieldT (P := Try.prog) (k := 2) rfl fa_28_1
  obtain ⟨G47, q48, S49, a51⟩ := S42.putF (P := Try.prog) (k := 2) (off := 1) rfl (hB.le A43.1) sz_22 (by simp) ((S42.sl (k := 4) rfl).tup) ((S42.sl (k := 4) rfl).one)
  have A50 := A43.trans a51
  replace S49 : Sep G47 (Fr H) [AL.box p4 [v0_0, v0_1], AL.box p11 [(Value.slice none 0 0), (Value.slice none 0 0)], AL.box p18 [c25_u0, c40_u0], flat c25_u0 3 (ints r1), flat c40_u0 3 (ints r2)] := S49
  simp [-aBin', -aBin, -aBinI, -aUn, -aNil, -flatV, n_fn, b_add, b_sub, b_mul, b_lt, b_le, b_gt, b_ge, b_eq, b_ne, u_not, q37, q38, a44.pre, q46, q48]
  apply hK
  clear hK K
  simp only [andThen, leaves]
  refine DWp.seq ?_
  have q52 := S49.loadAgg (P := Try.prog) (k := 2) rfl sz_28 ag_28 rfl
  obtain ⟨G53, q54, S55, a57⟩ := S49.putAgg (P := Try.prog) (k := 1) (xs := [c25_u0, c40_u0]) rfl (hB.le A50.1) sz_28 rfl rfl
  have A56 := A50.trans a57
  replace S55 : Sep G53 (Fr H) [AL.box p4 [v0_0, v0_1], AL.box p11 [c25_u0, c40_u0], AL.box p18 [c25_u0, c40_u0], flat c25_u0 3 (ints r1), flat c40_u0 3 (ints r2)] := S55
  refine DWp.region fun K hK => ?_
  simp [-aBin', -aBin, -aBinI, -aUn, -aNil, -flatV, n_fn, b_add, b_sub, b_mul, b_lt, b_le, b_gt, b_ge, b_eq, b_ne, u_not, q52, q54]
  apply hK
  clear hK K
  simp only [andThen, leaves]
  refine DWp.ret ?_
  have q58 := S55.loadAgg (P := Try.prog) (k := 1) rfl sz_28 ag_28 rfl
  obtain rfl := Option.some.inj hF
  exact ⟨by simp, [(Value.agg #[c25_u0, c40_u0])], by simp [q58, ((S55.sl (k := 3) rfl).tup), ((S55.sl (k := 4) rfl).tup)], A56, c25_u0, c40_u0, rfl, S55.pick [3, 4] (by decide) rfl⟩
/-! loop.example/g01126/spec.l1In -/
def F_spec_l1In (fu : Nat) (x0 : Int) (x1 : Int) (x2 : Int) : Option (Bool) :=
  bif (ile x1 x0) then
    some (ile x0 x2)
  else
    some false
theorem F_spec_l1In_w {fu : Nat} {H : AH}  {x0 : Int} {x1 : Int} {x2 : Int} {r : (Bool)}  (hF : F_spec_l1In fu x0 x1 x2 = some r) :
    ACallT Try.prog 106 [(Value.int .i64 x0), (Value.int .i64 x1), (Value.int .i64 x2)] H (fun u G => AgB (Fr H) H G ∧ u = (Value.bool r) ∧ Sep G (Fr H) []) := by
  refine ACallT.of_body (nt := 15) (rs := [.tmp 6]) Try.func106 rfl rfl rfl rfl ?_
  have A0 : AgB (Fr H) H H := .refl _ _
  have S0 : Sep H (Fr H) [] := .nil
  have hB := Fr.up H
  unfold F_spec_l1In at hF
  refine DWp.seq ?_
  refine DWp.region fun K hK => ?_
  simp [-aBin', -aBin, -aBinI, -aUn, -aNil, -flatV, n_fn, b_add, b_sub, b_mul, b_lt, b_le, b_gt, b_ge, b_eq, b_ne, u_not]
  apply hK
  clear hK K
  simp only [andThen, leaves]
  refine DWp.seq ?_
  rcases Bool.eq_false_or_eq_true (ile x1 x0) with hb1 | hb1
  · replace hF := cd_t hb1 hF
    refine DWp.region fun K hK => ?_
    simp [-aBin', -aBin, -aBinI, -aUn, -aNil, -flatV, n_fn, b_add, b_sub, b_mul, b_lt, b_le, b_gt, b_ge, b_eq, b_ne, u_not, hb1]
    apply hK
    clear hK K
    simp only [andThen, leaves]
    refine DWp.ret ?_
    obtain rfl := Option.some.inj hF
    exact ⟨by simp, [(Value.bool (ile x0 x2))], by simp [], A0, rfl, S0.pick [] (by decide) rfl⟩
  · replace hF := cd_f hb1 hF
    refine DWp.region fun K hK => ?_
    simp [-aBin', -aBin, -aBinI, -aUn, -aNil, -flatV, n_fn, b_add, b_sub, b_mul, b_lt, b_le, b_gt, b_ge, b_eq, b_ne, u_not, hb1]
    apply hK
    clear hK K
    simp only [andThen, leaves]
    refine DWp.ret ?_
    obtain rfl := Option.some.inj hF
    exact ⟨by simp, [(Value.bool false)], by simp [], A0, rfl, S0.pick [] (by decide) rfl⟩
/-! loop.example/g01126/spec.l1All -/
def F_spec_l1All_L1 (fu : Nat) (k1_0 : Int) (k1_1 : Int) (k1_2 : List Int) (k1_3 : Int) : Nat → Int → Option (LR (Bool) (Int))
  | 0, _ => none
  | n + 1, y1_11 =>
    bif (ilt y1_11 k1_3) then
      gd (inL k1_2 y1_11) (
      bd (F_spec_l1In fu (gat 0 k1_2 y1_11) k1_0 k1_1) fun r1 =>
      bif (bnot r1) then
        some (.ret false)
      else
        F_spec_l1All_L1 fu k1_0 k1_1 k1_2 k1_3 n (iadd .i64 y1_11 1))
    else
      some (.brk y1_11)
def F_spec_l1All (fu : Nat) (x0 : List Int) (x1 : Int) (x2 : Int) : Option (Bool) :=
  bd (F_spec_l1All_L1 fu x1 x2 x0 (llen x0) fu 0) fun s1 =>
  lr s1 fun s1 =>
  some true
theorem F_spec_l1All_w {fu : Nat} {H : AH} {v0 : Value} {x0 : List Int} {x1 : Int} {x2 : Int} {r : (Bool)} (hx0 : Sl H v0 (ints x0)) (hF : F_spec_l1All fu x0 x1 x2 = some r) :
    ACallT Try.prog 161 [v0, (Value.int .i64 x1), (Value.int .i64 x2)] H (fun u G => AgB (Fr H) H G ∧ u = (Value.bool r) ∧ Sep G (Fr H) []) := by
  refine ACallT.of_body (nt := 21) (rs := [.tmp 6]) Try.func161 rfl rfl rfl rfl ?_
  have A0 : AgB (Fr H) H H := .refl _ _
  have S0 : Sep H (Fr H) [] := .nil
  have hB := Fr.up H
  unfold F_spec_l1All at hF
  refine DWp.seq ?_
  refine DWp.region fun K hK => ?_
  simp [-aBin', -aBin, -aBinI, -aUn, -aNil, -flatV, n_fn, b_add, b_sub, b_mul, b_lt, b_le, b_gt, b_ge, b_eq, b_ne, u_not]
  apply hK
  clear hK K
  simp only [andThen, leaves]
  refine DWp.seq ?_
  refine DWp.seq ?_
  have q1 := lenG (P := Try.prog) (hx0.agree A0.agree) el_22
  refine DWp.region fun K hK => ?_
  simp [-aBin', -aBin, -aBinI, -aUn, -aNil, -flatV, n_fn, b_add, b_sub, b_mul, b_lt, b_le, b_gt, b_ge, b_eq, b_ne, u_not, q1]
  apply hK
  clear hK K
  simp only [andThen, leaves]
  refine DWp.block ?_
  obtain ⟨s2, hL3, hF⟩ := bd_some hF
  have S4 := S0.pick [] (by decide) rfl
  refine DWp.loop (fun n env G => ∃ y1_11 : Int, F_spec_l1All_L1 fu x1 x2 x0 (llen x0) n y1_11 = some s2 ∧ Sep G (Fr H) [] ∧ AgB (Fr H) H G ∧ env 1 = some (Value.int .i64 x1) ∧ env 2 = some (Value.int .i64 x2) ∧ env 9 = some v0 ∧ env 10 = some (Value.int .i64 (llen x0)) ∧ env 11 = some (Value.int .i64 y1_11)) fu ⟨0, hL3, S4, A0, by simp [], by simp [], by simp [], by simp [], by simp []⟩ ?_
  rintro n1 env1 G1_ ⟨y1_11, hL3, S1_, A1_, e1_1, e1_2, e1_9, e1_10, e1_11⟩
  cases n1 with
  | zero => cases hL3
  | succ n1 =>
    simp only [F_spec_l1All_L1] at hL3
    refine DWp.seq ?_
    refine DWp.region fun K hK => ?_
    simp [-aBin', -aBin, -aBinI, -aUn, -aNil, -flatV, n_fn, b_add, b_sub, b_mul, b_lt, b_le, b_gt, b_ge, b_eq, b_ne, u_not, e1_1, e1_2, e1_9, e1_10, e1_11]
    apply hK
    clear hK K
    simp only [andThen, leaves]
    refine DWp.seq ?_
    refine DWp.cond' (t := (ilt y1_11 (llen x0))) (by simp [e1_1, e1_2, e1_9, e1_10, e1_11]) (fun hb5 => ?_) (fun hb5 => ?_)
    · replace hL3 := cd_t hb5 hL3
      refine DWp.skip ?_
      simp only [andThen, leaves]
      refine DWp.seq ?_
      refine DWp.block ?_
      refine DWp.seq ?_
      obtain ⟨g6, hL3⟩ := gd_some hL3
      have q7 := idxG (P := Try.prog) (kk := .i64) (hx0.agree A1_.agree) el_22 sz_3 g6
      have q8 := loadG (P := Try.prog) (hx0.agree A1_.agree) sz_3 ag_3 g6 0
      refine DWp.region fun K hK => ?_
      simp [-aBin', -aBin, -aBinI, -aUn, -aNil, -flatV, n_fn, b_add, b_sub, b_mul, b_lt, b_le, b_gt, b_ge, b_eq, b_ne, u_not, e1_1, e1_2, e1_9, e1_10, e1_11, q7, q8]
      apply hK
      clear hK K
      simp only [andThen, leaves]
      refine DWp.seq ?_
      obtain ⟨r1, hc9, hL3⟩ := bd_some hL3
      refine DWp.region fun K hK => ?_
      simp [-aBin', -aBin, -aBinI, -aUn, -aNil, -flatV, n_fn, b_add, b_sub, b_mul, b_lt, b_le, b_gt, b_ge, b_eq, b_ne, u_not, e1_1, e1_2, e1_9, e1_10, e1_11]
      refine CallD.t (F_spec_l1In_w (fu := fu)  hc9) ?_
      rintro _ G11 ⟨a14, rfl, S15⟩
      have A13 := A1_.ext (hB.le A1_.1) a14.agree
      have S12 : Sep G11 (Fr H) [] := S1_.app a14.agree S15 (fun _ h => h) (hB.le A1_.1)
      simp [-aBin', -aBin, -aBinI, -aUn, -aNil, -flatV, n_fn, b_add, b_sub, b_mul, b_lt, b_le, b_gt, b_ge, b_eq, b_ne, u_not, e1_1, e1_2, e1_9, e1_10, e1_11, a14.pre]
      apply hK
      clear hK K
      simp only [andThen, leaves]
      refine DWp.cond' (t := (bnot r1)) (by simp [e1_1, e1_2, e1_9, e1_10, e1_11]) (fun hb16 => ?_) (fun hb16 => ?_)
      · replace hL3 := cd_t hb16 hL3
        refine DWp.seq ?_
        refine DWp.region fun K hK => ?_
        simp [-aBin', -aBin, -aBinI, -aUn, -aNil, -flatV, n_fn, b_add, b_sub, b_mul, b_lt, b_le, b_gt, b_ge, b_eq, b_ne, u_not, e1_1, e1_2, e1_9, e1_10, e1_11]
        apply hK
        clear hK K
        simp only [andThen, leaves]
        refine DWp.ret ?_
        simp only [andThen, leaves]
        obtain rfl := Option.some.inj hL3
        simp only [lr] at hF
        obtain rfl := Option.some.inj hF
        exact ⟨by simp, [(Value.bool false)], by simp [e1_1, e1_2, e1_9, e1_10, e1_11], A13, rfl, S12.pick [] (by decide) rfl⟩
      · replace hL3 := cd_f hb16 hL3
        refine DWp.skip ?_
        simp only [andThen, leaves]
        refine DWp.region fun K hK => ?_
        simp [-aBin', -aBin, -aBinI, -aUn, -aNil, -flatV, n_fn, b_add, b_sub, b_mul, b_lt, b_le, b_gt, b_ge, b_eq, b_ne, u_not, e1_1, e1_2, e1_9, e1_10, e1_11]
        apply hK
        clear hK K
        simp only [andThen, leaves]
        have S17 := S12.pick [] (by decide) rfl
        exact ⟨n1, Nat.lt_succ_self _, (iadd .i64 y1_11 1), hL3, S17, A13, by simp [e1_1, e1_2, e1_9, e1_10, e1_11], by simp [e1_1, e1_2, e1_9, e1_10, e1_11], by simp [e1_1, e1_2, e1_9, e1_10, e1_11], by simp [e1_1, e1_2, e1_9, e1_10, e1_11], by simp [e1_1, e1_2, e1_9, e1_10, e1_11]⟩
    · replace hL3 := cd_f hb5 hL3
      refine DWp.exit ?_
      simp only [andThen, leaves, if_true, if_false, reduceIte, Nat.reduceEqDiff]
      obtain rfl := Option.some.inj hL3
      simp only [lr] at hF
      refine DWp.seq ?_
      refine DWp.region fun K hK => ?_
      simp [-aBin', -aBin, -aBinI, -aUn, -aNil, -flatV, n_fn, b_add, b_sub, b_mul, b_lt, b_le, b_gt, b_ge, b_eq, b_ne, u_not, e1_1, e1_2, e1_9, e1_10, e1_11]
      apply hK
      clear hK K
      simp only [andThen, leaves]
      refine DWp.ret ?_
      obtain rfl := Option.some.inj hF
      exact ⟨by simp, [(Value.bool true)], by simp [e1_1, e1_2, e1_9, e1_10, e1_11], A1_, rfl, S1_.pick [] (by decide) rfl⟩
/-! loop.example/g01126/spec.ahGood -/
def F_spec_ahGood_L1 (fu : Nat) (k1_0 : List Int) (k1_1 : Int) : Nat → List Int → Int → Option (LR (Bool) (List Int × Int))
  | 0, _, _ => none
  | n + 1, l1_0, y1_25 =>
    bif (ilt y1_25 k1_1) then
      gd (inL k1_0 y1_25) (
      bd (
        bif (ilt y1_25 (gat 0 k1_0 y1_25)) then
          gd (inL k1_0 (gat 0 k1_0 y1_25)) (
          some (ieq (gat 0 k1_0 (gat 0 k1_0 y1_25)) y1_25))
        else
          some false) fun s31 =>
      bif s31 then
        gd ([y1_25].length + l1_0.length ≤ 4294967296) (
        F_spec_ahGood_L1 fu k1_0 k1_1 n (lapp [y1_25] l1_0) (iadd .i64 y1_25 1))
      else
        bd (
          bif (ilt (gat 0 k1_0 y1_25) y1_25) then
            bif (ilt 0 (llen l1_0)) then
              gd (inL l1_0 0) (
              some (ieq (gat 0 l1_0 0) (gat 0 k1_0 y1_25)))
            else
              some false
          else
            some false) fun s57 =>
        bif s57 then
          gd (subL l1_0 1 (llen l1_0)) (
          F_spec_ahGood_L1 fu k1_0 k1_1 n (lsub l1_0 1 (llen l1_0)) (iadd .i64 y1_25 1))
        else
          some (.ret false))
    else
      some (.brk (l1_0, y1_25))
def F_spec_ahGood (fu : Nat) (x0 : List Int) : Option (Bool) :=
  bd (
    bif (ieq (irem (llen x0) 2) 1) then
      some true
    else
      bif (ilt 12 (llen x0)) then
        some true
      else
        bd (F_spec_l1All fu x0 0 (isub .i64 (llen x0) 1)) fun r1 =>
        some (bnot r1)) fun s1 =>
  bif s1 then
    some false
  else
    bd (F_spec_ahGood_L1 fu x0 (llen x0) fu (@List.nil Int) 0) fun s1 =>
    lr s1 fun s1 =>
    some true
theorem F_spec_ahGood_w {fu : Nat} {H : AH} {v0 : Value} {x0 : List Int} {r : (Bool)} (hx0 : Sl H v0 (ints x0)) (hF : F_spec_ahGood fu x0 = some r) :
    ACallT Try.prog 133 [v0] H (fun u G => AgB (Fr H) H G ∧ u = (Value.bool r) ∧ Sep G (Fr H) []) := by
  refine ACallT.of_body (nt := 65) (rs := [.tmp 2]) Try.func133 rfl rfl rfl rfl ?_
  have A0 : AgB (Fr H) H H := .refl _ _
  have S0 : Sep H (Fr H) [] := .nil
  have hB := Fr.up H
  unfold F_spec_ahGood at hF
  refine DWp.seq ?_
  refine DWp.region fun K hK => ?_
  simp [-aBin', -aBin, -aBinI, -aUn, -aNil, -flatV, n_fn, b_add, b_sub, b_mul, b_lt, b_le, b_gt, b_ge, b_eq, b_ne, u_not]
  apply hK
  clear hK K
  simp only [andThen, leaves]
  refine DWp.seq ?_
  obtain ⟨s1, hL2, hF⟩ := bd_some hF
  refine DWp.seq (DWp.join (fun env G => Sep G (Fr H) [] ∧ AgB (Fr H) H G ∧ env 0 = some v0 ∧ env 22 = some (Value.bool s1)) ?_ ?_)
  ·
    have q4 := lenG (P := Try.prog) (hx0.agree A0.agree) el_22
    have g5 : (2 : Int) ≠ 0 := by decide
    rcases Bool.eq_false_or_eq_true (ieq (irem (llen x0) 2) 1) with hb6 | hb6
    · replace hL2 := cd_t hb6 hL2
      refine DWp.region fun K hK => ?_
      simp [-aBin', -aBin, -aBinI, -aUn, -aNil, -flatV, n_fn, b_add, b_sub, b_mul, b_lt, b_le, b_gt, b_ge, b_eq, b_ne, u_not, hb6, q4, b_rem g5]
      apply hK
      clear hK K
      simp only [andThen, leaves]
      have S7 := S0.pick [] (by decide) rfl
      obtain rfl := Option.some.inj hL2
      exact ⟨S7, A0, by simp [], by simp []⟩
    · replace hL2 := cd_f hb6 hL2
      have q8 := lenG (P := Try.prog) (hx0.agree A0.agree) el_22
      rcases Bool.eq_false_or_eq_true (ilt 12 (llen x0)) with hb9 | hb9
      · replace hL2 := cd_t hb9 hL2
        refine DWp.region fun K hK => ?_
        simp [-aBin', -aBin, -aBinI, -aUn, -aNil, -flatV, n_fn, b_add, b_sub, b_mul, b_lt, b_le, b_gt, b_ge, b_eq, b_ne, u_not, hb6, hb9, q4, b_rem g5, q8]
        apply hK
        clear hK K
        simp only [andThen, leaves]
        have S10 := S0.pick [] (by decide) rfl
        obtain rfl := Option.some.inj hL2
        exact ⟨S10, A0, by simp [], by simp []⟩
      · replace hL2 := cd_f hb9 hL2
        have q11 := lenG (P := Try.prog) (hx0.agree A0.agree) el_22
        obtain ⟨r1, hc12, hL2⟩ := bd_some hL2
        refine DWp.region fun K hK => ?_
        simp [-aBin', -aBin, -aBinI, -aUn, -aNil, -flatV, n_fn, b_add, b_sub, b_mul, b_lt, b_le, b_gt, b_ge, b_eq, b_ne, u_not, hb6, hb9, q4, b_rem g5, q8, q11, ((hx0.agree A0.agree).tup)]
        refine CallD.t (F_spec_l1All_w (fu := fu) (hx0.agree A0.agree) hc12) ?_
        rintro _ G14 ⟨a17, rfl, S18⟩
        have A16 := A0.ext (hB.le A0.1) a17.agree
        have S15 : Sep G14 (Fr H) [] := S0.app a17.agree S18 (fun _ h => h) (hB.le A0.1)
        simp [-aBin', -aBin, -aBinI, -aUn, -aNil, -flatV, n_fn, b_add, b_sub, b_mul, b_lt, b_le, b_gt, b_ge, b_eq, b_ne, u_not, hb6, hb9, q4, b_rem g5, q8, q11, a17.pre]
        apply hK
        clear hK K
        simp only [andThen, leaves]
        have S19 := S15.pick [] (by decide) rfl
        obtain rfl := Option.some.inj hL2
        exact ⟨S19, A16, by simp [], by simp []⟩
  · rintro env Gj20 ⟨Sj20, Aj20, ej20_0, ej20_22⟩
    refine DWp.cond' (t := s1) (by simp [ej20_0, ej20_22]) (fun hb21 => ?_) (fun hb21 => ?_)
    · replace hF := cd_t hb21 hF
      refine DWp.seq ?_
      refine DWp.region fun K hK => ?_
      simp [-aBin', -aBin, -aBinI, -aUn, -aNil, -flatV, n_fn, b_add, b_sub, b_mul, b_lt, b_le, b_gt, b_ge, b_eq, b_ne, u_not, ej20_0, ej20_22]
      apply hK
      clear hK K
      simp only [andThen, leaves]
      refine DWp.ret ?_
      simp only [andThen, leaves]
      obtain rfl := Option.some.inj hF
      exact ⟨by simp, [(Value.bool false)], by simp [ej20_0, ej20_22], Aj20, rfl, Sj20.pick [] (by decide) rfl⟩
    · replace hF := cd_f hb21 hF
      refine DWp.skip ?_
      simp only [andThen, leaves]
      refine DWp.seq ?_
      refine DWp.region fun K hK => ?_
      simp [-aBin', -aBin, -aBinI, -aUn, -aNil, -flatV, n_fn, b_add, b_sub, b_mul, b_lt, b_le, b_gt, b_ge, b_eq, b_ne, u_not, ej20_0, ej20_22]
      apply hK
      clear hK K
      simp only [andThen, leaves]
      refine DWp.seq ?_
      refine DWp.seq ?_
      have q22 := lenG (P := Try.prog) (hx0.agree Aj20.agree) el_22
      refine DWp.region fun K hK => ?_
      simp [-aBin', -aBin, -aBinI, -aUn, -aNil, -flatV, n_fn, b_add, b_sub, b_mul, b_lt, b_le, b_gt, b_ge, b_eq, b_ne, u_not, ej20_0, ej20_22, q22]
      apply hK
      clear hK K
      simp only [andThen, leaves]
      refine DWp.block ?_
      have S23 := Sj20.nilItem (hB.le Aj20.1) 3
      obtain ⟨s24, hL25, hF⟩ := bd_some hF
      have S26 := S23.pick [0] (by decide) rfl
      refine DWp.loop (fun n env G => ∃ l1_0 : List Int, ∃ y1_25 : Int, ∃ w1_0 : Value, F_spec_ahGood_L1 fu x0 (llen x0) n l1_0 y1_25 = some s24 ∧ Sep G (Fr H) [flat w1_0 3 (ints l1_0)] ∧ AgB (Fr H) H G ∧ env 0 = some v0 ∧ env 3 = some w1_0 ∧ env 23 = some v0 ∧ env 24 = some (Value.int .i64 (llen x0)) ∧ env 25 = some (Value.int .i64 y1_25)) fu ⟨(@List.nil Int), 0, (Value.slice none 0 0), hL25, S26, Aj20, by simp [ej20_0, ej20_22], by simp [ej20_0, ej20_22], by simp [ej20_0, ej20_22], by simp [ej20_0, ej20_22], by simp [ej20_0, ej20_22]⟩ ?_
      rintro n1 env1 G1_ ⟨l1_0, y1_25, w1_0, hL25, S1_, A1_, e1_0, e1_3, e1_23, e1_24, e1_25⟩
      cases n1 with
      | zero => cases hL25
      | succ n1 =>
        simp only [F_spec_ahGood_L1] at hL25
        refine DWp.seq ?_
        refine DWp.region fun K hK => ?_
        simp [-aBin', -aBin, -aBinI, -aUn, -aNil, -flatV, n_fn, b_add, b_sub, b_mul, b_lt, b_le, b_gt, b_ge, b_eq, b_ne, u_not, e1_0, e1_3, e1_23, e1_24, e1_25]
        apply hK
        clear hK K
        simp only [andThen, leaves]
        refine DWp.seq ?_
        refine DWp.cond' (t := (ilt y1_25 (llen x0))) (by simp [e1_0, e1_3, e1_23, e1_24, e1_25]) (fun hb27 => ?_) (fun hb27 => ?_)
        · replace hL25 := cd_t hb27 hL25
          refine DWp.skip ?_
          simp only [andThen, leaves]
          refine DWp.seq ?_
          refine DWp.block ?_
          refine DWp.seq ?_
          obtain ⟨g28, hL25⟩ := gd_some hL25
          have q29 := idxG (P := Try.prog) (kk := .i64) (hx0.agree A1_.agree) el_22 sz_3 g28
          have q30 := loadG (P := Try.prog) (hx0.agree A1_.agree) sz_3 ag_3 g28 0
          refine DWp.region fun K hK => ?_
          simp [-aBin', -aBin, -aBinI, -aUn, -aNil, -flatV, n_fn, b_add, b_sub, b_mul, b_lt, b_le, b_gt, b_ge, b_eq, b_ne, u_not, e1_0, e1_3, e1_23, e1_24, e1_25, q29, q30]
          apply hK
          clear hK K
          simp only [andThen, leaves]
          refine DWp.block ?_
          obtain ⟨s31, hL32, hL25⟩ := bd_some hL25
          refine DWp.seq (DWp.join (fun env G => Sep G (Fr H) [flat w1_0 3 (ints l1_0)] ∧ AgB (Fr H) H G ∧ env 0 = some v0 ∧ env 3 = some w1_0 ∧ env 4 = some (Value.int .i64 y1_25) ∧ env 5 = some (Value.int .i64 (gat 0 x0 y1_25)) ∧ env 23 = some v0 ∧ env 24 = some (Value.int .i64 (llen x0)) ∧ env 25 = some (Value.int .i64 y1_25) ∧ env 30 = some (Value.bool s31)) ?_ ?_)
          ·
            rcases Bool.eq_false_or_eq_true (ilt y1_25 (gat 0 x0 y1_25)) with hb34 | hb34
            · replace hL32 := cd_t hb34 hL32
              obtain ⟨g35, hL32⟩ := gd_some hL32
              have q36 := idxG (P := Try.prog) (kk := .i64) (hx0.agree A1_.agree) el_22 sz_3 g35
              have q37 := loadG (P := Try.prog) (hx0.agree A1_.agree) sz_3 ag_3 g35 0
              refine DWp.region fun K hK => ?_
              simp [-aBin', -aBin, -aBinI, -aUn, -aNil, -flatV, n_fn, b_add, b_sub, b_mul, b_lt, b_le, b_gt, b_ge, b_eq, b_ne, u_not, e1_0, e1_3, e1_23, e1_24, e1_25, hb34, q36, q37]
              apply hK
              clear hK K
              simp only [andThen, leaves]
              have S38 := S1_.pick [0] (by decide) rfl
              obtain rfl := Option.some.inj hL32
              exact ⟨S38, A1_, by simp [e1_0, e1_3, e1_23, e1_24, e1_25], by simp [e1_0, e1_3, e1_23, e1_24, e1_25], by simp [e1_0, e1_3, e1_23, e1_24, e1_25], by simp [e1_0, e1_3, e1_23, e1_24, e1_25], by simp [e1_0, e1_3, e1_23, e1_24, e1_25], by simp [e1_0, e1_3, e1_23, e1_24, e1_25], by simp [e1_0, e1_3, e1_23, e1_24, e1_25], by simp [e1_0, e1_3, e1_23, e1_24, e1_25]⟩
            · replace hL32 := cd_f hb34 hL32
              refine DWp.region fun K hK => ?_
              simp [-aBin', -aBin, -aBinI, -aUn, -aNil, -flatV, n_fn, b_add, b_sub, b_mul, b_lt, b_le, b_gt, b_ge, b_eq, b_ne, u_not, e1_0, e1_3, e1_23, e1_24, e1_25, hb34]
              apply hK
              clear hK K
              simp only [andThen, leaves]
              have S39 := S1_.pick [0] (by decide) rfl
              obtain rfl := Option.some.inj hL32
              exact ⟨S39, A1_, by simp [e1_0, e1_3, e1_23, e1_24, e1_25], by simp [e1_0, e1_3, e1_23, e1_24, e1_25], by simp [e1_0, e1_3, e1_23, e1_24, e1_25], by simp [e1_0, e1_3, e1_23, e1_24, e1_25], by simp [e1_0, e1_3, e1_23, e1_24, e1_25], by simp [e1_0, e1_3, e1_23, e1_24, e1_25], by simp [e1_0, e1_3, e1_23, e1_24, e1_25], by simp [e1_0, e1_3, e1_23, e1_24, e1_25]⟩
          · rintro env Gj40 ⟨Sj40, Aj40, ej40_0, ej40_3, ej40_4, ej40_5, ej40_23, ej40_24, ej40_25, ej40_30⟩
            refine DWp.cond' (t := s31) (by simp [ej40_0, ej40_3, ej40_4, ej40_5, ej40_23, ej40_24, ej40_25, ej40_30]) (fun hb41 => ?_) (fun hb41 => ?_)
            · replace hL25 := cd_t hb41 hL25
              obtain ⟨v42, G43, q44, S45, a47, _, _⟩ := Sj40.lit1 (P := Try.prog) (t := 22) (hB.le Aj40.1) el_22 ei_3 rfl (Value.int .i64 y1_25) rfl rfl
              have A46 := Aj40.ext (hB.le Aj40.1) a47
              replace S45 : Sep G43 (Fr H) [flat w1_0 3 (ints l1_0), flat1 v42 3 (ints [y1_25])] := S45
              obtain ⟨g49, hL25⟩ := gd_some hL25
              obtain ⟨v55, G50, q51, S52, a54, _, _⟩ := S45.append1 (f := (Value.int .i64)) (xs := [y1_25]) (ys := l1_0) (P := Try.prog) (t := 22) (t2 := 22) (k := 1) rfl (hB.le A46.1) el_22 el_22 ei_3 rfl (S45.sl (k := 0) rfl) g49
              have A53 := A46.trans a54
              replace S52 : Sep G50 (Fr H) [flat w1_0 3 (ints l1_0), flat v55 3 (ints (lapp [y1_25] l1_0))] := S52
              refine DWp.region fun K hK => ?_
              simp [-aBin', -aBin, -aBinI, -aUn, -aNil, -flatV, n_fn, b_add, b_sub, b_mul, b_lt, b_le, b_gt, b_ge, b_eq, b_ne, u_not, ej40_0, ej40_3, ej40_4, ej40_5, ej40_23, ej40_24, ej40_25, ej40_30, q44, a47.to_pre, q51]
              apply hK
              clear hK K
              simp only [andThen, leaves]
              refine DWp.region fun K hK => ?_
              simp [-aBin', -aBin, -aBinI, -aUn, -aNil, -flatV, n_fn, b_add, b_sub, b_mul, b_lt, b_le, b_gt, b_ge, b_eq, b_ne, u_not, ej40_0, ej40_3, ej40_4, ej40_5, ej40_23, ej40_24, ej40_25, ej40_30]
              apply hK
              clear hK K
              simp only [andThen, leaves]
              have S56 := S52.pick [1] (by decide) rfl
              exact ⟨n1, Nat.lt_succ_self _, (lapp [y1_25] l1_0), (iadd .i64 y1_25 1), v55, hL25, S56, A53, by simp [ej40_0, ej40_3, ej40_4, ej40_5, ej40_23, ej40_24, ej40_25, ej40_30], by simp [ej40_0, ej40_3, ej40_4, ej40_5, ej40_23, ej40_24, ej40_25, ej40_30], by simp [ej40_0, ej40_3, ej40_4, ej40_5, ej40_23, ej40_24, ej40_25, ej40_30], by simp [ej40_0, ej40_3, ej40_4, ej40_5, ej40_23, ej40_24, ej40_25, ej40_30], by simp [ej40_0, ej40_3, ej40_4, ej40_5, ej40_23, ej40_24, ej40_25, ej40_30]⟩
            · replace hL25 := cd_f hb41 hL25
              obtain ⟨s57, hL58, hL25⟩ := bd_some hL25
              refine DWp.seq (DWp.join (fun env G => Sep G (Fr H) [flat w1_0 3 (ints l1_0)] ∧ AgB (Fr H) H G ∧ env 0 = some v0 ∧ env 3 = some w1_0 ∧ env 23 = some v0 ∧ env 24 = some (Value.int .i64 (llen x0)) ∧ env 25 = some (Value.int .i64 y1_25) ∧ env 46 = some (Value.bool s57)) ?_ ?_)
              ·
                rcases Bool.eq_false_or_eq_true (ilt (gat 0 x0 y1_25) y1_25) with hb60 | hb60
                · replace hL58 := cd_t hb60 hL58
                  have q61 := lenG (P := Try.prog) (Sj40.sl (k := 0) rfl) el_22
                  rcases Bool.eq_false_or_eq_true (ilt 0 (llen l1_0)) with hb62 | hb62
                  · replace hL58 := cd_t hb62 hL58
                    obtain ⟨g63, hL58⟩ := gd_some hL58
                    have q64 := idxG (P := Try.prog) (kk := .i64) (Sj40.sl (k := 0) rfl) el_22 sz_3 g63
                    replace q64 : aIndexAddr Try.prog Gj40 22 w1_0 (Value.int .i64 0) = some (elP w1_0 0) := q64
                    have q65 := loadG (P := Try.prog) (Sj40.sl (k := 0) rfl) sz_3 ag_3 g63 0
                    replace q65 : aLoad Try.prog Gj40 3 (elP w1_0 0) = some (Value.int .i64 (gat 0 l1_0 0)) := q65
                    refine DWp.region fun K hK => ?_
                    simp [-aBin', -aBin, -aBinI, -aUn, -aNil, -flatV, n_fn, b_add, b_sub, b_mul, b_lt, b_le, b_gt, b_ge, b_eq, b_ne, u_not, ej40_0, ej40_3, ej40_4, ej40_5, ej40_23, ej40_24, ej40_25, ej40_30, hb60, hb62, q61, q64, q65]
                    apply hK
                    clear hK K
                    simp only [andThen, leaves]
                    have S66 := Sj40.pick [0] (by decide) rfl
                    obtain rfl := Option.some.inj hL58
                    exact ⟨S66, Aj40, by simp [ej40_0, ej40_3, ej40_4, ej40_5, ej40_23, ej40_24, ej40_25, ej40_30], by simp [ej40_0, ej40_3, ej40_4, ej40_5, ej40_23, ej40_24, ej40_25, ej40_30], by simp [ej40_0, ej40_3, ej40_4, ej40_5, ej40_23, ej40_24, ej40_25, ej40_30], by simp [ej40_0, ej40_3, ej40_4, ej40_5, ej40_23, ej40_24, ej40_25, ej40_30], by simp [ej40_0, ej40_3, ej40_4, ej40_5, ej40_23, ej40_24, ej40_25, ej40_30], by simp [ej40_0, ej40_3, ej40_4, ej40_5, ej40_23, ej40_24, ej40_25, ej40_30]⟩
                  · replace hL58 := cd_f hb62 hL58
                    refine DWp.region fun K hK => ?_
                    simp [-aBin', -aBin, -aBinI, -aUn, -aNil, -flatV, n_fn, b_add, b_sub, b_mul, b_lt, b_le, b_gt, b_ge, b_eq, b_ne, u_not, ej40_0, ej40_3, ej40_4, ej40_5, ej40_23, ej40_24, ej40_25, ej40_30, hb60, hb62, q61]
                    apply hK
                    clear hK K
                    simp only [andThen, leaves]
                    have S67 := Sj40.pick [0] (by decide) rfl
                    obtain rfl := Option.some.inj hL58
                    exact ⟨S67, Aj40, by simp [ej40_0, ej40_3, ej40_4, ej40_5, ej40_23, ej40_24, ej40_25, ej40_30], by simp [ej40_0, ej40_3, ej40_4, ej40_5, ej40_23, ej40_24, ej40_25, ej40_30], by simp [ej40_0, ej40_3, ej40_4, ej40_5, ej40_23, ej40_24, ej40_25, ej40_30], by simp [ej40_0, ej40_3, ej40_4, ej40_5, ej40_23, ej40_24, ej40_25, ej40_30], by simp [ej40_0, ej40_3, ej40_4, ej40_5, ej40_23, ej40_24, ej40_25, ej40_30], by simp [ej40_0, ej40_3, ej40_4, ej40_5, ej40_23, ej40_24, ej40_25, ej40_30]⟩
                · replace hL58 := cd_f hb60 hL58
                  refine DWp.region fun K hK => ?_
                  simp [-aBin', -aBin, -aBinI, -aUn, -aNil, -flatV, n_fn, b_add, b_sub, b_mul, b_lt, b_le, b_gt, b_ge, b_eq, b_ne, u_not, ej40_0, ej40_3, ej40_4, ej40_5, ej40_23, ej40_24, ej40_25, ej40_30, hb60]
                  apply hK
                  clear hK K
                  simp only [andThen, leaves]
                  have S68 := Sj40.pick [0] (by decide) rfl
                  obtain rfl := Option.some.inj hL58
                  exact ⟨S68, Aj40, by simp [ej40_0, ej40_3, ej40_4, ej40_5, ej40_23, ej40_24, ej40_25, ej40_30], by simp [ej40_0, ej40_3, ej40_4, ej40_5, ej40_23, ej40_24, ej40_25, ej40_30], by simp [ej40_0, ej40_3, ej40_4, ej40_5, ej40_23, ej40_24, ej40_25, ej40_30], by simp [ej40_0, ej40_3, ej40_4, ej40_5, ej40_23, ej40_24, ej40_25, ej40_30], by simp [ej40_0, ej40_3, ej40_4, ej40_5, ej40_23, ej40_24, ej40_25, ej40_30], by simp [ej40_0, ej40_3, ej40_4, ej40_5, ej40_23, ej40_24, ej40_25, ej40_30]⟩
              · rintro env Gj69 ⟨Sj69, Aj69, ej69_0, ej69_3, ej69_23, ej69_24, ej69_25, ej69_46⟩
                refine DWp.cond' (t := s57) (by simp [ej69_0, ej69_3, ej69_23, ej69_24, ej69_25, ej69_46]) (fun hb70 => ?_) (fun hb70 => ?_)
                · replace hL25 := cd_t hb70 hL25
                  obtain ⟨g71, hL25⟩ := gd_some hL25
                  have q72 := aSub10 (P := Try.prog) (t := 22) (Sj69.sl (k := 0) rfl) el_22 sz_3 g71
                  refine DWp.region fun K hK => ?_
                  simp [-aBin', -aBin, -aBinI, -aUn, -aNil, -flatV, n_fn, b_add, b_sub, b_mul, b_lt, b_le, b_gt, b_ge, b_eq, b_ne, u_not, ej69_0, ej69_3, ej69_23, ej69_24, ej69_25, ej69_46, q72, ((subSl (Sj69.sl (k := 0) rfl) g71).tup)]
                  apply hK
                  clear hK K
                  simp only [andThen, leaves]
                  refine DWp.region fun K hK => ?_
                  simp [-aBin', -aBin, -aBinI, -aUn, -aNil, -flatV, n_fn, b_add, b_sub, b_mul, b_lt, b_le, b_gt, b_ge, b_eq, b_ne, u_not, ej69_0, ej69_3, ej69_23, ej69_24, ej69_25, ej69_46]
                  apply hK
                  clear hK K
                  simp only [andThen, leaves]
                  have S73 : Sep Gj69 (Fr H) [flat (subV w1_0 1 (llen l1_0)) 3 (ints (lsub l1_0 1 (llen l1_0)))] := Sj69.resub (k := 0) rfl g71
                  have S74 := S73.pick [0] (by decide) rfl
                  exact ⟨n1, Nat.lt_succ_self _, (lsub l1_0 1 (llen l1_0)), (iadd .i64 y1_25 1), (subV w1_0 1 (llen l1_0)), hL25, S74, Aj69, by simp [ej69_0, ej69_3, ej69_23, ej69_24, ej69_25, ej69_46], by simp [ej69_0, ej69_3, ej69_23, ej69_24, ej69_25, ej69_46], by simp [ej69_0, ej69_3, ej69_23, ej69_24, ej69_25, ej69_46], by simp [ej69_0, ej69_3, ej69_23, ej69_24, ej69_25, ej69_46], by simp [ej69_0, ej69_3, ej69_23, ej69_24, ej69_25, ej69_46]⟩
                · replace hL25 := cd_f hb70 hL25
                  refine DWp.seq ?_
                  refine DWp.region fun K hK => ?_
                  simp [-aBin', -aBin, -aBinI, -aUn, -aNil, -flatV, n_fn, b_add, b_sub, b_mul, b_lt, b_le, b_gt, b_ge, b_eq, b_ne, u_not, ej69_0, ej69_3, ej69_23, ej69_24, ej69_25, ej69_46]
                  apply hK
                  clear hK K
                  simp only [andThen, leaves]
                  refine DWp.ret ?_
                  simp only [andThen, leaves]
                  obtain rfl := Option.some.inj hL25
                  simp only [lr] at hF
                  obtain rfl := Option.some.inj hF
                  exact ⟨by simp, [(Value.bool false)], by simp [ej69_0, ej69_3, ej69_23, ej69_24, ej69_25, ej69_46], Aj69, rfl, Sj69.pick [] (by decide) rfl⟩
        · replace hL25 := cd_f hb27 hL25
          refine DWp.exit ?_
          simp only [andThen, leaves, if_true, if_false, reduceIte, Nat.reduceEqDiff]
          obtain rfl := Option.some.inj hL25
          simp only [lr] at hF
          refine DWp.seq ?_
          refine DWp.region fun K hK => ?_
          simp [-aBin', -aBin, -aBinI, -aUn, -aNil, -flatV, n_fn, b_add, b_sub, b_mul, b_lt, b_le, b_gt, b_ge, b_eq, b_ne, u_not, e1_0, e1_3, e1_23, e1_24, e1_25]
          apply hK
          clear hK K
          simp only [andThen, leaves]
          refine DWp.ret ?_
          obtain rfl := Option.some.inj hF
          exact ⟨by simp, [(Value.bool true)], by simp [e1_0, e1_3, e1_23, e1_24, e1_25], A1_, rfl, S1_.pick [] (by decide) rfl⟩
/-! loop.example/g01126/spec.mePair -/
def F_spec_mePair (fu : Nat) (x0_0 : List Int) (x0_1 : List Int) : Option (Bool) :=
  bd (F_spec_ahGood fu x0_0) fun r1 =>
  bif r1 then
    bd (F_spec_ahGood fu x0_1) fun r2 =>
    bif r2 then
      some (ieq (llen x0_0) (llen x0_1))
    else
      some false
  else
    some false
theorem F_spec_mePair_w {fu : Nat} {H : AH} {v0_0 : Value} {v0_1 : Value} {x0_0 : List Int} {x0_1 : List Int} {r : (Bool)} (hx0_0 : Sl H v0_0 (ints x0_0)) (hx0_1 : Sl H v0_1 (ints x0_1)) (hF : F_spec_mePair fu x0_0 x0_1 = some r) :
    ACallT Try.prog 94 [(Value.agg #[v0_0, v0_1])] H (fun u G => AgB (Fr H) H G ∧ u = (Value.bool r) ∧ Sep G (Fr H) []) := by
  refine ACallT.of_body (nt := 20) (rs := [.tmp 2]) Try.func94 rfl rfl rfl rfl ?_
  have A0 : AgB (Fr H) H H := .refl _ _
  have S0 : Sep H (Fr H) [] := .nil
  have hB := Fr.up H
  unfold F_spec_mePair at hF
  refine DWp.seq ?_
  obtain ⟨G2, p4, q5, q6, a7, S1⟩ := S0.boxT (hB.le A0.1) 28 [v0_0, v0_1]
  have A3 := A0.ext (hB.le A0.1) a7
  replace S1 : Sep G2 (Fr H) [AL.box p4 [v0_0, v0_1]] := S1
  refine DWp.region fun K hK => ?_
  simp [-aBin', -aBin, -aBinI, -aUn, -aNil, -flatV, n_fn, b_add, b_sub, b_mul, b_lt, b_le, b_gt, b_ge, b_eq, b_ne, u_not, q5, q6, a7.to_pre, cells_agg]
  apply hK
  clear hK K
  simp only [andThen, leaves]
  refine DWp.seq ?_
  have q8 := S1.fieldT (P := Try.prog) (k := 0) rfl fa_28_0
  have q9 := S1.loadF (P := Try.prog) (k := 0) rfl sz_22 ag_22 (off := 0) rfl
  obtain ⟨r1, hc10, hF⟩ := bd_some hF
  refine DWp.region fun K hK => ?_
  simp [-aBin', -aBin, -aBinI, -aUn, -aNil, -flatV, n_fn, b_add, b_sub, b_mul, b_lt, b_le, b_gt, b_ge, b_eq, b_ne, u_not, q8, q9, ((hx0_0.agree A3.agree).tup)]
  refine CallD.t (F_spec_ahGood_w (fu := fu) (hx0_0.agree A3.agree) hc10) ?_
  rintro _ G12 ⟨a15, rfl, S16⟩
  have A14 := A3.ext (hB.le A3.1) a15.agree
  have S13 : Sep G12 (Fr H) [AL.box p4 [v0_0, v0_1]] := S1.app a15.agree S16 (fun _ h => h) (hB.le A3.1)
  rcases Bool.eq_false_or_eq_true r1 with hb17 | hb17
  · replace hF := cd_t hb17 hF
    have q18 := S13.fieldT (P := Try.prog) (k := 0) rfl fa_28_1
    have q19 := S13.loadF (P := Try.prog) (k := 0) rfl sz_22 ag_22 (off := 1) rfl
    obtain ⟨r2, hc20, hF⟩ := bd_some hF
    simp [-aBin', -aBin, -aBinI, -aUn, -aNil, -flatV, n_fn, b_add, b_sub, b_mul, b_lt, b_le, b_gt, b_ge, b_eq, b_ne, u_not, hb17, q8, q9, a15.pre, q18, q19, ((hx0_1.agree A14.agree).tup)]
    refine CallD.t (F_spec_ahGood_w (fu := fu) (hx0_1.agree A14.agree) hc20) ?_
    rintro _ G22 ⟨a25, rfl, S26⟩
    have A24 := A14.ext (hB.le A14.1) a25.agree
    have S23 : Sep G22 (Fr H) [AL.box p4 [v0_0, v0_1]] := S13.app a25.agree S26 (fun _ h => h) (hB.le A14.1)
    rcases Bool.eq_false_or_eq_true r2 with hb27 | hb27
    · replace hF := cd_t hb27 hF
      have q28 := S23.fieldT (P := Try.prog) (k := 0) rfl fa_28_0
      have q29 := S23.loadF (P := Try.prog) (k := 0) rfl sz_22 ag_22 (off := 0) rfl
      have q30 := lenG (P := Try.prog) (hx0_0.agree A24.agree) el_22
      have q31 := S23.fieldT (P := Try.prog) (k := 0) rfl fa_28_1
      have q32 := S23.loadF (P := Try.prog) (k := 0) rfl sz_22 ag_22 (off := 1) rfl
      have q33 := lenG (P := Try.prog) (hx0_1.agree A24.agree) el_22
      simp [-aBin', -aBin, -aBinI, -aUn, -aNil, -flatV, n_fn, b_add, b_sub, b_mul, b_lt, b_le, b_gt, b_ge, b_eq, b_ne, u_not, hb17, hb27, q8, q9, a15.pre, q18, q19, a25.pre, q28, q29, q30, q31, q32, q33]
      apply hK
      clear hK K
      simp only [andThen, leaves]
      refine DWp.ret ?_
      obtain rfl := Option.some.inj hF
      exact ⟨by simp, [(Value.bool (ieq (llen x0_0) (llen x0_1)))], by simp [], A24, rfl, S23.pick [] (by decide) rfl⟩
    · replace hF := cd_f hb27 hF
      simp [-aBin', -aBin, -aBinI, -aUn, -aNil, -flatV, n_fn, b_add, b_sub, b_mul, b_lt, b_le, b_gt, b_ge, b_eq, b_ne, u_not, hb17, hb27, q8, q9, a15.pre, q18, q19, a25.pre]
      apply hK
      clear hK K
      simp only [andThen, leaves]
      refine DWp.ret ?_
      obtain rfl := Option.some.inj hF
      exact ⟨by simp, [(Value.bool false)], by simp [], A24, rfl, S23.pick [] (by decide) rfl⟩
  · replace hF := cd_f hb17 hF
    simp [-aBin', -aBin, -aBinI, -aUn, -aNil, -flatV, n_fn, b_add, b_sub, b_mul, b_lt, b_le, b_gt, b_ge, b_eq, b_ne, u_not, hb17, q8, q9, a15.pre]
    apply hK
    clear hK K
    simp only [andThen, leaves]
    refine DWp.ret ?_
    obtain rfl := Option.some.inj hF
    exact ⟨by simp, [(Value.bool false)], by simp [], A14, rfl, S13.pick [] (by decide) rfl⟩
/-! loop.example/g01126/spec.siPut -/
def F_spec_siPut_L2 (fu : Nat) (k2_0 : List Int) (k2_1 : Int) (k2_2 : List Int) (k2_3 : Int) (k2_4 : Int) : Nat → List Int → Int → Option (List Int × Int)
  | 0, _, _ => none
  | n + 1, l2_0, y2_23 =>
    bif (ilt y2_23 k2_4) then
      gd (inL k2_2 y2_23) (
      gd (l2_0.length + [(iadd .i64 (gat 0 k2_2 y2_23) k2_1)].length ≤ 4294967296) (
      F_spec_siPut_L2 fu k2_0 k2_1 k2_2 k2_3 k2_4 n (lapp l2_0 [(iadd .i64 (gat 0 k2_2 y2_23) k2_1)]) (iadd .i64 y2_23 1)))
    else
      some (l2_0, y2_23)
def F_spec_siPut_L1 (fu : Nat) (k1_0 : List Int) (k1_1 : Int) (k1_2 : List Int) : Nat → List Int → Int → Option (List Int × Int)
  | 0, _, _ => none
  | n + 1, l1_0, y1_8 =>
    bif (ile y1_8 (llen k1_0)) then
      bd (
        bif (ieq y1_8 k1_1) then
          bd (F_spec_siPut_L2 fu k1_0 k1_1 k1_2 y1_8 (llen k1_2) fu l1_0 0) fun s2 =>
          some s2.1
        else
          some l1_0) fun s7 =>
      bif (ieq y1_8 (llen k1_0)) then
        some (s7, y1_8)
      else
        gd (inL k1_0 y1_8) (
        bd (
          bif (ile k1_1 (gat 0 k1_0 y1_8)) then
            some (iadd .i64 (gat 0 k1_0 y1_8) (llen k1_2))
          else
            some (gat 0 k1_0 y1_8)) fun s42 =>
        gd (s7.length + [s42].length ≤ 4294967296) (
        F_spec_siPut_L1 fu k1_0 k1_1 k1_2 n (lapp s7 [s42]) (iadd .i64 y1_8 1)))
    else
      some (l1_0, y1_8)
def F_spec_siPut (fu : Nat) (x0 : List Int) (x1 : Int) (x2 : List Int) : Option (List Int) :=
  bd (F_spec_siPut_L1 fu x0 x1 x2 fu (@List.nil Int) 0) fun s1 =>
  some s1.1
theorem F_spec_siPut_w {fu : Nat} {H : AH} {v0 : Value} {v2 : Value} {x0 : List Int} {x1 : Int} {x2 : List Int} {r : (List Int)} (hx0 : Sl H v0 (ints x0)) (hx2 : Sl H v2 (ints x2)) (hF : F_spec_siPut fu x0 x1 x2 = some r) :
    ACallT Try.prog 107 [v0, (Value.int .i64 x1), v2] H (fun u G => AgB (Fr H) H G ∧ ∃ u0 : Value, u = u0 ∧ Sep G (Fr H) [flat u0 3 (ints r)]) := by
  refine ACallT.of_body (nt := 54) (rs := [.tmp 6]) Try.func107 rfl rfl rfl rfl ?_
  have A0 : AgB (Fr H) H H := .refl _ _
  have S0 : Sep H (Fr H) [] := .nil
  have hB := Fr.up H
  unfold F_spec_siPut at hF
  refine DWp.seq ?_
  refine DWp.region fun K hK => ?_
  simp [-aBin', -aBin, -aBinI, -aUn, -aNil, -flatV, n_fn, b_add, b_sub, b_mul, b_lt, b_le, b_gt, b_ge, b_eq, b_ne, u_not]
  apply hK
  clear hK K
  simp only [andThen, leaves]
  refine DWp.seq ?_
  refine DWp.region fun K hK => ?_
  simp [-aBin', -aBin, -aBinI, -aUn, -aNil, -flatV, n_fn, b_add, b_sub, b_mul, b_lt, b_le, b_gt, b_ge, b_eq, b_ne, u_not]
  apply hK
  clear hK K
  simp only [andThen, leaves]
  refine DWp.seq ?_
  refine DWp.seq ?_
  refine DWp.region fun K hK => ?_
  simp [-aBin', -aBin, -aBinI, -aUn, -aNil, -flatV, n_fn, b_add, b_sub, b_mul, b_lt, b_le, b_gt, b_ge, b_eq, b_ne, u_not]
  apply hK
  clear hK K
  simp only [andThen, leaves]
  refine DWp.block ?_
  have S1 := S0.nilItem (hB.le A0.1) 3
  obtain ⟨s2, hL3, hF⟩ := bd_some hF
  have S4 := S1.pick [0] (by decide) rfl
  refine DWp.loop (fun n env G => ∃ l1_0 : List Int, ∃ y1_8 : Int, ∃ w1_0 : Value, F_spec_siPut_L1 fu x0 x1 x2 n l1_0 y1_8 = some s2 ∧ Sep G (Fr H) [flat w1_0 3 (ints l1_0)] ∧ AgB (Fr H) H G ∧ env 0 = some v0 ∧ env 1 = some (Value.int .i64 x1) ∧ env 2 = some v2 ∧ env 7 = some w1_0 ∧ env 8 = some (Value.int .i64 y1_8)) fu ⟨(@List.nil Int), 0, (Value.slice none 0 0), hL3, S4, A0, by simp [], by simp [], by simp [], by simp [], by simp []⟩ ?_
  rintro n1 env1 G1_ ⟨l1_0, y1_8, w1_0, hL3, S1_, A1_, e1_0, e1_1, e1_2, e1_7, e1_8⟩
  cases n1 with
  | zero => cases hL3
  | succ n1 =>
    simp only [F_spec_siPut_L1] at hL3
    refine DWp.seq ?_
    refine DWp.seq ?_
    have q5 := lenG (P := Try.prog) (hx0.agree A1_.agree) el_22
    refine DWp.region fun K hK => ?_
    simp [-aBin', -aBin, -aBinI, -aUn, -aNil, -flatV, n_fn, b_add, b_sub, b_mul, b_lt, b_le, b_gt, b_ge, b_eq, b_ne, u_not, e1_0, e1_1, e1_2, e1_7, e1_8, q5]
    apply hK
    clear hK K
    simp only [andThen, leaves]
    refine DWp.cond' (t := (ile y1_8 (llen x0))) (by simp [e1_0, e1_1, e1_2, e1_7, e1_8]) (fun hb6 => ?_) (fun hb6 => ?_)
    · replace hL3 := cd_t hb6 hL3
      refine DWp.skip ?_
      simp only [andThen, leaves]
      refine DWp.seq ?_
      refine DWp.block ?_
      obtain ⟨s7, hL8, hL3⟩ := bd_some hL3
      refine DWp.seq (DWp.join (fun env G => ∃ wj1_0 : Value, Sep G (Fr H) [flat wj1_0 3 (ints s7)] ∧ AgB (Fr H) H G ∧ env 0 = some v0 ∧ env 1 = some (Value.int .i64 x1) ∧ env 2 = some v2 ∧ env 7 = some wj1_0 ∧ env 8 = some (Value.int .i64 y1_8)) ?_ ?_)
      ·
        refine DWp.seq ?_
        refine DWp.region fun K hK => ?_
        simp [-aBin', -aBin, -aBinI, -aUn, -aNil, -flatV, n_fn, b_add, b_sub, b_mul, b_lt, b_le, b_gt, b_ge, b_eq, b_ne, u_not, e1_0, e1_1, e1_2, e1_7, e1_8]
        apply hK
        clear hK K
        simp only [andThen, leaves]
        refine DWp.cond' (t := (ieq y1_8 x1)) (by simp [e1_0, e1_1, e1_2, e1_7, e1_8]) (fun hb10 => ?_) (fun hb10 => ?_)
        · replace hL8 := cd_t hb10 hL8
          refine DWp.seq ?_
          have q11 := lenG (P := Try.prog) (hx2.agree A1_.agree) el_22
          refine DWp.region fun K hK => ?_
          simp [-aBin', -aBin, -aBinI, -aUn, -aNil, -flatV, n_fn, b_add, b_sub, b_mul, b_lt, b_le, b_gt, b_ge, b_eq, b_ne, u_not, e1_0, e1_1, e1_2, e1_7, e1_8, q11]
          apply hK
          clear hK K
          simp only [andThen, leaves]
          refine DWp.block ?_
          obtain ⟨s12, hL13, hL8⟩ := bd_some hL8
          have S14 := S1_.pick [0] (by decide) rfl
          refine DWp.loop (fun n env G => ∃ l2_0 : List Int, ∃ y2_23 : Int, ∃ w2_0 : Value, F_spec_siPut_L2 fu x0 x1 x2 y1_8 (llen x2) n l2_0 y2_23 = some s12 ∧ Sep G (Fr H) [flat w2_0 3 (ints l2_0)] ∧ AgB (Fr H) H G ∧ env 0 = some v0 ∧ env 1 = some (Value.int .i64 x1) ∧ env 2 = some v2 ∧ env 7 = some w2_0 ∧ env 8 = some (Value.int .i64 y1_8) ∧ env 21 = some v2 ∧ env 22 = some (Value.int .i64 (llen x2)) ∧ env 23 = some (Value.int .i64 y2_23)) fu ⟨l1_0, 0, w1_0, hL13, S14, A1_, by simp [e1_0, e1_1, e1_2, e1_7, e1_8], by simp [e1_0, e1_1, e1_2, e1_7, e1_8], by simp [e1_0, e1_1, e1_2, e1_7, e1_8], by simp [e1_0, e1_1, e1_2, e1_7, e1_8], by simp [e1_0, e1_1, e1_2, e1_7, e1_8], by simp [e1_0, e1_1, e1_2, e1_7, e1_8], by simp [e1_0, e1_1, e1_2, e1_7, e1_8], by simp [e1_0, e1_1, e1_2, e1_7, e1_8]⟩ ?_
          rintro n3 env3 G3_ ⟨l2_0, y2_23, w2_0, hL13, S3_, A3_, e3_0, e3_1, e3_2, e3_7, e3_8, e3_21, e3_22, e3_23⟩
          cases n3 with
          | zero => cases hL13
          | succ n3 =>
            simp only [F_spec_siPut_L2] at hL13
            refine DWp.seq ?_
            refine DWp.region fun K hK => ?_
            simp [-aBin', -aBin, -aBinI, -aUn, -aNil, -flatV, n_fn, b_add, b_sub, b_mul, b_lt, b_le, b_gt, b_ge, b_eq, b_ne, u_not, e3_0, e3_1, e3_2, e3_7, e3_8, e3_21, e3_22, e3_23]
            apply hK
            clear hK K
            simp only [andThen, leaves]
            refine DWp.seq ?_
            refine DWp.cond' (t := (ilt y2_23 (llen x2))) (by simp [e3_0, e3_1, e3_2, e3_7, e3_8, e3_21, e3_22, e3_23]) (fun hb15 => ?_) (fun hb15 => ?_)
            · replace hL13 := cd_t hb15 hL13
              refine DWp.skip ?_
              simp only [andThen, leaves]
              refine DWp.seq ?_
              refine DWp.block ?_
              refine DWp.seq ?_
              obtain ⟨g16, hL13⟩ := gd_some hL13
              have q17 := idxG (P := Try.prog) (kk := .i64) (hx2.agree A3_.agree) el_22 sz_3 g16
              have q18 := loadG (P := Try.prog) (hx2.agree A3_.agree) sz_3 ag_3 g16 0
              refine DWp.region fun K hK => ?_
              simp [-aBin', -aBin, -aBinI, -aUn, -aNil, -flatV, n_fn, b_add, b_sub, b_mul, b_lt, b_le, b_gt, b_ge, b_eq, b_ne, u_not, e3_0, e3_1, e3_2, e3_7, e3_8, e3_21, e3_22, e3_23, q17, q18]
              apply hK
              clear hK K
              simp only [andThen, leaves]
              obtain ⟨v19, G20, q21, S22, a24, _, _⟩ := S3_.lit1 (P := Try.prog) (t := 22) (hB.le A3_.1) el_22 ei_3 rfl (Value.int .i64 (iadd .i64 (gat 0 x2 y2_23) x1)) rfl rfl
              have A23 := A3_.ext (hB.le A3_.1) a24
              replace S22 : Sep G20 (Fr H) [flat w2_0 3 (ints l2_0), flat1 v19 3 (ints [(iadd .i64 (gat 0 x2 y2_23) x1)])] := S22
              obtain ⟨g26, hL13⟩ := gd_some hL13
              obtain ⟨v32, G27, q28, S29, a31, _, _⟩ := S22.appendG (f := (Value.int .i64)) (xs := l2_0) (ys := [(iadd .i64 (gat 0 x2 y2_23) x1)]) (P := Try.prog) (t := 22) (t2 := 22) (k := 0) rfl (hB.le A23.1) el_22 el_22 ei_3 rfl (S22.sl1 (k := 1) rfl) g26
              have A30 := A23.trans a31
              replace S29 : Sep G27 (Fr H) [flat v32 3 (ints (lapp l2_0 [(iadd .i64 (gat 0 x2 y2_23) x1)])), flat1 v19 3 (ints [(iadd .i64 (gat 0 x2 y2_23) x1)])] := S29
              refine DWp.region fun K hK => ?_
              simp [-aBin', -aBin, -aBinI, -aUn, -aNil, -flatV, n_fn, b_add, b_sub, b_mul, b_lt, b_le, b_gt, b_ge, b_eq, b_ne, u_not, e3_0, e3_1, e3_2, e3_7, e3_8, e3_21, e3_22, e3_23, q21, a24.to_pre, q28]
              apply hK
              clear hK K
              simp only [andThen, leaves]
              refine DWp.region fun K hK => ?_
              simp [-aBin', -aBin, -aBinI, -aUn, -aNil, -flatV, n_fn, b_add, b_sub, b_mul, b_lt, b_le, b_gt, b_ge, b_eq, b_ne, u_not, e3_0, e3_1, e3_2, e3_7, e3_8, e3_21, e3_22, e3_23]
              apply hK
              clear hK K
              simp only [andThen, leaves]
              have S33 := S29.pick [0] (by decide) rfl
              exact ⟨n3, Nat.lt_succ_self _, (lapp l2_0 [(iadd .i64 (gat 0 x2 y2_23) x1)]), (iadd .i64 y2_23 1), v32, hL13, S33, A30, by simp [e3_0, e3_1, e3_2, e3_7, e3_8, e3_21, e3_22, e3_23], by simp [e3_0, e3_1, e3_2, e3_7, e3_8, e3_21, e3_22, e3_23], by simp [e3_0, e3_1, e3_2, e3_7, e3_8, e3_21, e3_22, e3_23], by simp [e3_0, e3_1, e3_2, e3_7, e3_8, e3_21, e3_22, e3_23], by simp [e3_0, e3_1, e3_2, e3_7, e3_8, e3_21, e3_22, e3_23], by simp [e3_0, e3_1, e3_2, e3_7, e3_8, e3_21, e3_22, e3_23], by simp [e3_0, e3_1, e3_2, e3_7, e3_8, e3_21, e3_22, e3_23], by simp [e3_0, e3_1, e3_2, e3_7, e3_8, e3_21, e3_22, e3_23]⟩
            · replace hL13 := cd_f hb15 hL13
              refine DWp.exit ?_
              simp only [andThen, leaves, if_true, if_false, reduceIte, Nat.reduceEqDiff]
              obtain rfl := Option.some.inj hL13
              try dsimp only at hL8
              have S34 := S3_.pick [0] (by decide) rfl
              obtain rfl := Option.some.inj hL8
              exact ⟨w2_0, S34, A3_, by simp [e3_0, e3_1, e3_2, e3_7, e3_8, e3_21, e3_22, e3_23], by simp [e3_0, e3_1, e3_2, e3_7, e3_8, e3_21, e3_22, e3_23], by simp [e3_0, e3_1, e3_2, e3_7, e3_8, e3_21, e3_22, e3_23], by simp [e3_0, e3_1, e3_2, e3_7, e3_8, e3_21, e3_22, e3_23], by simp [e3_0, e3_1, e3_2, e3_7, e3_8, e3_21, e3_22, e3_23]⟩
        · replace hL8 := cd_f hb10 hL8
          refine DWp.skip ?_
          simp only [andThen, leaves]
          have S35 := S1_.pick [0] (by decide) rfl
          obtain rfl := Option.some.inj hL8
          exact ⟨w1_0, S35, A1_, by simp [e1_0, e1_1, e1_2, e1_7, e1_8], by simp [e1_0, e1_1, e1_2, e1_7, e1_8], by simp [e1_0, e1_1, e1_2, e1_7, e1_8], by simp [e1_0, e1_1, e1_2, e1_7, e1_8], by simp [e1_0, e1_1, e1_2, e1_7, e1_8]⟩
      · rintro env Gj36 ⟨wj1_0, Sj36, Aj36, ej36_0, ej36_1, ej36_2, ej36_7, ej36_8⟩
        refine DWp.seq ?_
        refine DWp.seq ?_
        have q37 := lenG (P := Try.prog) (hx0.agree Aj36.agree) el_22
        refine DWp.region fun K hK => ?_
        simp [-aBin', -aBin, -aBinI, -aUn, -aNil, -flatV, n_fn, b_add, b_sub, b_mul, b_lt, b_le, b_gt, b_ge, b_eq, b_ne, u_not, ej36_0, ej36_1, ej36_2, ej36_7, ej36_8, q37]
        apply hK
        clear hK K
        simp only [andThen, leaves]
        refine DWp.cond' (t := (ieq y1_8 (llen x0))) (by simp [ej36_0, ej36_1, ej36_2, ej36_7, ej36_8]) (fun hb38 => ?_) (fun hb38 => ?_)
        · replace hL3 := cd_t hb38 hL3
          refine DWp.exit ?_
          simp only [andThen, leaves, if_true, if_false, reduceIte, Nat.reduceEqDiff]
          obtain rfl := Option.some.inj hL3
          try dsimp only at hF
          refine DWp.seq ?_
          refine DWp.region fun K hK => ?_
          simp [-aBin', -aBin, -aBinI, -aUn, -aNil, -flatV, n_fn, b_add, b_sub, b_mul, b_lt, b_le, b_gt, b_ge, b_eq, b_ne, u_not, ej36_0, ej36_1, ej36_2, ej36_7, ej36_8]
          apply hK
          clear hK K
          simp only [andThen, leaves]
          refine DWp.ret ?_
          obtain rfl := Option.some.inj hF
          exact ⟨by simp, [wj1_0], by simp [ej36_0, ej36_1, ej36_2, ej36_7, ej36_8, ((Sj36.sl (k := 0) rfl).tup)], Aj36, wj1_0, rfl, Sj36.pick [0] (by decide) rfl⟩
        · replace hL3 := cd_f hb38 hL3
          refine DWp.skip ?_
          simp only [andThen, leaves]
          refine DWp.seq ?_
          obtain ⟨g39, hL3⟩ := gd_some hL3
          have q40 := idxG (P := Try.prog) (kk := .i64) (hx0.agree Aj36.agree) el_22 sz_3 g39
          have q41 := loadG (P := Try.prog) (hx0.agree Aj36.agree) sz_3 ag_3 g39 0
          refine DWp.region fun K hK => ?_
          simp [-aBin', -aBin, -aBinI, -aUn, -aNil, -flatV, n_fn, b_add, b_sub, b_mul, b_lt, b_le, b_gt, b_ge, b_eq, b_ne, u_not, ej36_0, ej36_1, ej36_2, ej36_7, ej36_8, q40, q41]
          apply hK
          clear hK K
          simp only [andThen, leaves]
          obtain ⟨s42, hL43, hL3⟩ := bd_some hL3
          refine DWp.seq (DWp.join (fun env G => Sep G (Fr H) [flat wj1_0 3 (ints s7)] ∧ AgB (Fr H) H G ∧ env 0 = some v0 ∧ env 1 = some (Value.int .i64 x1) ∧ env 2 = some v2 ∧ env 7 = some wj1_0 ∧ env 8 = some (Value.int .i64 y1_8) ∧ env 11 = some (Value.int .i64 s42)) ?_ ?_)
          ·
            refine DWp.seq ?_
            refine DWp.region fun K hK => ?_
            simp [-aBin', -aBin, -aBinI, -aUn, -aNil, -flatV, n_fn, b_add, b_sub, b_mul, b_lt, b_le, b_gt, b_ge, b_eq, b_ne, u_not, ej36_0, ej36_1, ej36_2, ej36_7, ej36_8]
            apply hK
            clear hK K
            simp only [andThen, leaves]
            refine DWp.cond' (t := (ile x1 (gat 0 x0 y1_8))) (by simp [ej36_0, ej36_1, ej36_2, ej36_7, ej36_8]) (fun hb45 => ?_) (fun hb45 => ?_)
            · replace hL43 := cd_t hb45 hL43
              have q46 := lenG (P := Try.prog) (hx2.agree Aj36.agree) el_22
              refine DWp.region fun K hK => ?_
              simp [-aBin', -aBin, -aBinI, -aUn, -aNil, -flatV, n_fn, b_add, b_sub, b_mul, b_lt, b_le, b_gt, b_ge, b_eq, b_ne, u_not, ej36_0, ej36_1, ej36_2, ej36_7, ej36_8, q46]
              apply hK
              clear hK K
              simp only [andThen, leaves]
              have S47 := Sj36.pick [0] (by decide) rfl
              obtain rfl := Option.some.inj hL43
              exact ⟨S47, Aj36, by simp [ej36_0, ej36_1, ej36_2, ej36_7, ej36_8], by simp [ej36_0, ej36_1, ej36_2, ej36_7, ej36_8], by simp [ej36_0, ej36_1, ej36_2, ej36_7, ej36_8], by simp [ej36_0, ej36_1, ej36_2, ej36_7, ej36_8], by simp [ej36_0, ej36_1, ej36_2, ej36_7, ej36_8], by simp [ej36_0, ej36_1, ej36_2, ej36_7, ej36_8]⟩
            · replace hL43 := cd_f hb45 hL43
              refine DWp.skip ?_
              simp only [andThen, leaves]
              have S48 := Sj36.pick [0] (by decide) rfl
              obtain rfl := Option.some.inj hL43
              exact ⟨S48, Aj36, by simp [ej36_0, ej36_1, ej36_2, ej36_7, ej36_8], by simp [ej36_0, ej36_1, ej36_2, ej36_7, ej36_8], by simp [ej36_0, ej36_1, ej36_2, ej36_7, ej36_8], by simp [ej36_0, ej36_1, ej36_2, ej36_7, ej36_8], by simp [ej36_0, ej36_1, ej36_2, ej36_7, ej36_8], by simp [ej36_0, ej36_1, ej36_2, ej36_7, ej36_8]⟩
          · rintro env Gj49 ⟨Sj49, Aj49, ej49_0, ej49_1, ej49_2, ej49_7, ej49_8, ej49_11⟩
            obtain ⟨v50, G51, q52, S53, a55, _, _⟩ := Sj49.lit1 (P := Try.prog) (t := 22) (hB.le Aj49.1) el_22 ei_3 rfl (Value.int .i64 s42) rfl rfl
            have A54 := Aj49.ext (hB.le Aj49.1) a55
            replace S53 : Sep G51 (Fr H) [flat wj1_0 3 (ints s7), flat1 v50 3 (ints [s42])] := S53
            obtain ⟨g57, hL3⟩ := gd_some hL3
            obtain ⟨v63, G58, q59, S60, a62, _, _⟩ := S53.appendG (f := (Value.int .i64)) (xs := s7) (ys := [s42]) (P := Try.prog) (t := 22) (t2 := 22) (k := 0) rfl (hB.le A54.1) el_22 el_22 ei_3 rfl (S53.sl1 (k := 1) rfl) g57
            have A61 := A54.trans a62
            replace S60 : Sep G58 (Fr H) [flat v63 3 (ints (lapp s7 [s42])), flat1 v50 3 (ints [s42])] := S60
            refine DWp.region fun K hK => ?_
            simp [-aBin', -aBin, -aBinI, -aUn, -aNil, -flatV, n_fn, b_add, b_sub, b_mul, b_lt, b_le, b_gt, b_ge, b_eq, b_ne, u_not, ej49_0, ej49_1, ej49_2, ej49_7, ej49_8, ej49_11, q52, a55.to_pre, q59]
            apply hK
            clear hK K
            simp only [andThen, leaves]
            refine DWp.region fun K hK => ?_
            simp [-aBin', -aBin, -aBinI, -aUn, -aNil, -flatV, n_fn, b_add, b_sub, b_mul, b_lt, b_le, b_gt, b_ge, b_eq, b_ne, u_not, ej49_0, ej49_1, ej49_2, ej49_7, ej49_8, ej49_11]
            apply hK
            clear hK K
            simp only [andThen, leaves]
            have S64 := S60.pick [0] (by decide) rfl
            exact ⟨n1, Nat.lt_succ_self _, (lapp s7 [s42]), (iadd .i64 y1_8 1), v63, hL3, S64, A61, by simp [ej49_0, ej49_1, ej49_2, ej49_7, ej49_8, ej49_11], by simp [ej49_0, ej49_1, ej49_2, ej49_7, ej49_8, ej49_11], by simp [ej49_0, ej49_1, ej49_2, ej49_7, ej49_8, ej49_11], by simp [ej49_0, ej49_1, ej49_2, ej49_7, ej49_8, ej49_11], by simp [ej49_0, ej49_1, ej49_2, ej49_7, ej49_8, ej49_11]⟩
    · replace hL3 := cd_f hb6 hL3
      refine DWp.exit ?_
      simp only [andThen, leaves, if_true, if_false, reduceIte, Nat.reduceEqDiff]
      obtain rfl := Option.some.inj hL3
      try dsimp only at hF
      refine DWp.seq ?_
      refine DWp.region fun K hK => ?_
      simp [-aBin', -aBin, -aBinI, -aUn, -aNil, -flatV, n_fn, b_add, b_sub, b_mul, b_lt, b_le, b_gt, b_ge, b_eq, b_ne, u_not, e1_0, e1_1, e1_2, e1_7, e1_8]
      apply hK
      clear hK K
      simp only [andThen, leaves]
      refine DWp.ret ?_
      obtain rfl := Option.some.inj hF
      exact ⟨by simp, [w1_0], by simp [e1_0, e1_1, e1_2, e1_7, e1_8, ((S1_.sl (k := 0) rfl).tup)], A1_, w1_0, rfl, S1_.pick [0] (by decide) rfl⟩
/-! loop.example/g01126/spec.InsertPair -/
def F_spec_InsertPair (fu : Nat) (x0_0 : List Int) (x0_1 : List Int) (x1 : Int) (x2_0 : List Int) (x2_1 : List Int) : Option ((List Int × List Int) × Bool) :=
  bd (
    bd (F_spec_mePair fu x0_0 x0_1) fun r1 =>
    bif (bnot r1) then
      some true
    else
      bd (F_spec_mePair fu x2_0 x2_1) fun r2 =>
      bif (bnot r2) then
        some true
      else
        bd (F_spec_l1In fu x1 0 (llen x0_0)) fun r3 =>
        bif (bnot r3) then
          some true
        else
          some (ilt 12 (iadd .i64 (llen x0_0) (llen x2_0)))) fun s22 =>
  bif s22 then
    some (([], []), false)
  else
    bd (F_spec_siPut fu x0_0 x1 x2_0) fun r4 =>
    bd (F_spec_siPut fu x0_1 x1 x2_1) fun r5 =>
    some ((r4, r5), true)
theorem F_spec_InsertPair_w {fu : Nat} {H : AH} {v0_0 : Value} {v0_1 : Value} {v2_0 : Value} {v2_1 : Value} {x0_0 : List Int} {x0_1 : List Int} {x1 : Int} {x2_0 : List Int} {x2_1 : List Int} {r : ((List Int × List Int) × Bool)} (hx0_0 : Sl H v0_0 (ints x0_0)) (hx0_1 : Sl H v0_1 (ints x0_1)) (hx2_0 : Sl H v2_0 (ints x2_0)) (hx2_1 : Sl H v2_1 (ints x2_1)) (hF : F_spec_InsertPair fu x0_0 x0_1 x1 x2_0 x2_1 = some r) :
    ACallT Try.prog 41 [(Value.agg #[v0_0, v0_1]), (Value.int .i64 x1), (Value.agg #[v2_0, v2_1])] H (fun u G => AgB (Fr H) H G ∧ ∃ u0 : Value, ∃ u1 : Value, u = (Value.tuple #[(Value.agg #[u0, u1]), (Value.bool r.2)]) ∧ Sep G (Fr H) [flat u0 3 (ints r.1.1), flat u1 3 (ints r.1.2)]) := by
  refine ACallT.of_body (nt := 48) (rs := [.cell 6 28, .tmp 7]) Try.func41 rfl rfl rfl rfl ?_
  have A0 : AgB (Fr H) H H := .refl _ _
  have S0 : Sep H (Fr H) [] := .nil
  have hB := Fr.up H
  unfold F_spec_InsertPair at hF
  refine DWp.seq ?_
  obtain ⟨G2, p4, q5, q6, a7, S1⟩ := S0.boxT (hB.le A0.1) 28 [v0_0, v0_1]
  have A3 := A0.ext (hB.le A0.1) a7
  replace S1 : Sep G2 (Fr H) [AL.box p4 [v0_0, v0_1]] := S1
  obtain ⟨G9, p11, q12, q13, a14, S8⟩ := S1.boxT (hB.le A3.1) 28 [v2_0, v2_1]
  have A10 := A3.ext (hB.le A3.1) a14
  replace S8 : Sep G9 (Fr H) [AL.box p4 [v0_0, v0_1], AL.box p11 [v2_0, v2_1]] := S8
  obtain ⟨G16, p18, q19, q21, a20, S15⟩ := S8.allocT (P := Try.prog) (hB.le A10.1) ze_28 rfl
  have A17 := A10.ext (hB.le A10.1) a20
  replace S15 : Sep G16 (Fr H) [AL.box p4 [v0_0, v0_1], AL.box p11 [v2_0, v2_1], AL.box p18 [(Value.slice none 0 0), (Value.slice none 0 0)]] := S15
  refine DWp.region fun K hK => ?_
  simp [-aBin', -aBin, -aBinI, -aUn, -aNil, -flatV, n_fn, b_add, b_sub, b_mul, b_lt, b_le, b_gt, b_ge, b_eq, b_ne, u_not, q5, q6, a7.to_pre, cells_agg, q12, q13, a14.to_pre, q19, q21, a20.to_pre]
  apply hK
  clear hK K
  simp only [andThen, leaves]
  refine DWp.seq ?_
  obtain ⟨s22, hL23, hF⟩ := bd_some hF
  refine DWp.seq (DWp.join (fun env G => Sep G (Fr H) [AL.box p4 [v0_0, v0_1], AL.box p11 [v2_0, v2_1], AL.box p18 [(Value.slice none 0 0), (Value.slice none 0 0)]] ∧ AgB (Fr H) H G ∧ env 1 = some (Value.int .i64 x1) ∧ env 3 = some p4 ∧ env 5 = some p11 ∧ env 6 = some p18 ∧ env 33 = some (Value.bool s22)) ?_ ?_)
  ·
    have q25 := S15.loadAgg (P := Try.prog) (k := 0) rfl sz_28 ag_28 rfl
    obtain ⟨r1, hc26, hL23⟩ := bd_some hL23
    refine DWp.region fun K hK => ?_
    simp [-aBin', -aBin, -aBinI, -aUn, -aNil, -flatV, n_fn, b_add, b_sub, b_mul, b_lt, b_le, b_gt, b_ge, b_eq, b_ne, u_not, q25, ((hx0_0.agree A17.agree).tup), ((hx0_1.agree A17.agree).tup)]
    refine CallD.t (F_spec_mePair_w (fu := fu) (hx0_0.agree A17.agree) (hx0_1.agree A17.agree) hc26) ?_
    rintro _ G28 ⟨a31, rfl, S32⟩
    have A30 := A17.ext (hB.le A17.1) a31.agree
    have S29 : Sep G28 (Fr H) [AL.box p4 [v0_0, v0_1], AL.box p11 [v2_0, v2_1], AL.box p18 [(Value.slice none 0 0), (Value.slice none 0 0)]] := S15.app a31.agree S32 (fun _ h => h) (hB.le A17.1)
    rcases Bool.eq_false_or_eq_true (bnot r1) with hb33 | hb33
    · replace hL23 := cd_t hb33 hL23
      simp [-aBin', -aBin, -aBinI, -aUn, -aNil, -flatV, n_fn, b_add, b_sub, b_mul, b_lt, b_le, b_gt, b_ge, b_eq, b_ne, u_not, hb33, q25, a31.pre]
      apply hK
      clear hK K
      simp only [andThen, leaves]
      have S34 := S29.pick [0, 1, 2] (by decide) rfl
      obtain rfl := Option.some.inj hL23
      exact ⟨S34, A30, by simp [], by simp [], by simp [], by simp [], by simp []⟩
    · replace hL23 := cd_f hb33 hL23
      have q35 := S29.loadAgg (P := Try.prog) (k := 1) rfl sz_28 ag_28 rfl
      obtain ⟨r2, hc36, hL23⟩ := bd_some hL23
      simp [-aBin', -aBin, -aBinI, -aUn, -aNil, -flatV, n_fn, b_add, b_sub, b_mul, b_lt, b_le, b_gt, b_ge, b_eq, b_ne, u_not, hb33, q25, a31.pre, q35, ((hx2_0.agree A30.agree).tup), ((hx2_1.agree A30.agree).tup)]
      refine CallD.t (F_spec_mePair_w (fu := fu) (hx2_0.agree A30.agree) (hx2_1.agree A30.agree) hc36) ?_
      rintro _ G38 ⟨a41, rfl, S42⟩
      have A40 := A30.ext (hB.le A30.1) a41.agree
      have S39 : Sep G38 (Fr H) [AL.box p4 [v0_0, v0_1], AL.box p11 [v2_0, v2_1], AL.box p18 [(Value.slice none 0 0), (Value.slice none 0 0)]] := S29.app a41.agree S42 (fun _ h => h) (hB.le A30.1)
      rcases Bool.eq_false_or_eq_true (bnot r2) with hb43 | hb43
      · replace hL23 := cd_t hb43 hL23
        simp [-aBin', -aBin, -aBinI, -aUn, -aNil, -flatV, n_fn, b_add, b_sub, b_mul, b_lt, b_le, b_gt, b_ge, b_eq, b_ne, u_not, hb33, hb43, q25, a31.pre, q35, a41.pre]
        apply hK
        clear hK K
        simp only [andThen, leaves]
        have S44 := S39.pick [0, 1, 2] (by decide) rfl
        obtain rfl := Option.some.inj hL23
        exact ⟨S44, A40, by simp [], by simp [], by simp [], by simp [], by simp []⟩
      · replace hL23 := cd_f hb43 hL23
        have q45 := S39.fieldT (P := Try.prog) (k := 0) rfl fa_28_0
        have q46 := S39.loadF (P := Try.prog) (k := 0) rfl sz_22 ag_22 (off := 0) rfl
        have q47 := lenG (P := Try.prog) (hx0_0.agree A40.agree) el_22
        obtain ⟨r3, hc48, hL23⟩ := bd_some hL23
        simp [-aBin', -aBin, -aBinI, -aUn, -aNil, -flatV, n_fn, b_add, b_sub, b_mul, b_lt, b_le, b_gt, b_ge, b_eq, b_ne, u_not, hb33, hb43, q25, a31.pre, q35, a41.pre, q45, q46, q47]
        refine CallD.t (F_spec_l1In_w (fu := fu)  hc48) ?_
        rintro _ G50 ⟨a53, rfl, S54⟩
        have A52 := A40.ext (hB.le A40.1) a53.agree
        have S51 : Sep G50 (Fr H) [AL.box p4 [v0_0, v0_1], AL.box p11 [v2_0, v2_1], AL.box p18 [(Value.slice none 0 0), (Value.slice none 0 0)]] := S39.app a53.agree S54 (fun _ h => h) (hB.le A40.1)
        rcases Bool.eq_false_or_eq_true (bnot r3) with hb55 | hb55
        · replace hL23 := cd_t hb55 hL23
          simp [-aBin', -aBin, -aBinI, -aUn, -aNil, -flatV, n_fn, b_add, b_sub, b_mul, b_lt, b_le, b_gt, b_ge, b_eq, b_ne, u_not, hb33, hb43, hb55, q25, a31.pre, q35, a41.pre, q45, q46, q47, a53.pre]
          apply hK
          clear hK K
          simp only [andThen, leaves]
          have S56 := S51.pick [0, 1, 2] (by decide) rfl
          obtain rfl := Option.some.inj hL23
          exact ⟨S56, A52, by simp [], by simp [], by simp [], by simp [], by simp []⟩
        · replace hL23 := cd_f hb55 hL23
          have q57 := S51.fieldT (P := Try.prog) (k := 0) rfl fa_28_0
          have q58 := S51.loadF (P := Try.prog) (k := 0) rfl sz_22 ag_22 (off := 0) rfl
          have q59 := lenG (P := Try.prog) (hx0_0.agree A52.agree) el_22
          have q60 := S51.fieldT (P := Try.prog) (k := 1) rfl fa_28_0
          have q61 := S51.loadF (P := Try.prog) (k := 1) rfl sz_22 ag_22 (off := 0) rfl
          have q62 := lenG (P := Try.prog) (hx2_0.agree A52.agree) el_22
          simp [-aBin', -aBin, -aBinI, -aUn, -aNil, -flatV, n_fn, b_add, b_sub, b_mul, b_lt, b_le, b_gt, b_ge, b_eq, b_ne, u_not, hb33, hb43, hb55, q25, a31.pre, q35, a41.pre, q45, q46, q47, a53.pre, q57, q58, q59, q60, q61, q62]
          apply hK
          clear hK K
          simp only [andThen, leaves]
          have S63 := S51.pick [0, 1, 2] (by decide) rfl
          obtain rfl := Option.some.inj hL23
          exact ⟨S63, A52, by simp [], by simp [], by simp [], by simp [], by simp []⟩
  · rintro env Gj64 ⟨Sj64, Aj64, ej64_1, ej64_3, ej64_5, ej64_6, ej64_33⟩
    refine DWp.cond' (t := s22) (by simp [ej64_1, ej64_3, ej64_5, ej64_6, ej64_33]) (fun hb65 => ?_) (fun hb65 => ?_)
    · replace hF := cd_t hb65 hF
      refine DWp.seq ?_
      obtain ⟨G66, q67, S68, a70⟩ := Sj64.putAgg (P := Try.prog) (k := 2) (xs := [(Value.slice none 0 0), (Value.slice none 0 0)]) rfl (hB.le Aj64.1) sz_28 rfl rfl
      have A69 := Aj64.trans a70
      replace S68 : Sep G66 (Fr H) [AL.box p4 [v0_0, v0_1], AL.box p11 [v2_0, v2_1], AL.box p18 [(Value.slice none 0 0), (Value.slice none 0 0)]] := S68
      refine DWp.region fun K hK => ?_
      simp [-aBin', -aBin, -aBinI, -aUn, -aNil, -flatV, n_fn, b_add, b_sub, b_mul, b_lt, b_le, b_gt, b_ge, b_eq, b_ne, u_not, ej64_1, ej64_3, ej64_5, ej64_6, ej64_33, build0 (cs := [(Value.slice none 0 0), (Value.slice none 0 0)]) pl_28 rfl rfl, q67]
      apply hK
      clear hK K
      simp only [andThen, leaves]
      refine DWp.ret ?_
      simp only [andThen, leaves]
      have q71 := S68.loadAgg (P := Try.prog) (k := 2) rfl sz_28 ag_28 rfl
      have S72 := S68.nilItem (hB.le A69.1) 3
      have S73 := S72.nilItem (hB.le A69.1) 3
      obtain rfl := Option.some.inj hF
      exact ⟨by simp, [(Value.agg #[(Value.slice none 0 0), (Value.slice none 0 0)]), (Value.bool false)], by simp [ej64_1, ej64_3, ej64_5, ej64_6, ej64_33, q71], A69, (Value.slice none 0 0), (Value.slice none 0 0), rfl, S73.pick [3, 4] (by decide) rfl⟩
    · replace hF := cd_f hb65 hF
      refine DWp.skip ?_
      simp only [andThen, leaves]
      refine DWp.seq ?_
      have q74 := Sj64.fieldT (P := Try.prog) (k := 0) rfl fa_28_0
      have q75 := Sj64.loadF (P := Try.prog) (k := 0) rfl sz_22 ag_22 (off := 0) rfl
      have q76 := Sj64.fieldT (P := Try.prog) (k := 1) rfl fa_28_0
      have q77 := Sj64.loadF (P := Try.prog) (k := 1) rfl sz_22 ag_22 (off := 0) rfl
      obtain ⟨r4, hc78, hF⟩ := bd_some hF
      refine DWp.drawn (B := [0, 1, 0, 0, 8, 31, 0, 64, 0, 0, 512, 2047, 4095, 8191, 16383]) 13 mixed (by kernel_rfl) (by decide) fun K hK => ?_
      simp [-aBin', -aBin, -aBinI, -aUn, -aNil, -flatV, n_fn, b_add, b_sub, b_mul, b_lt, b_le, b_gt, b_ge, b_eq, b_ne, u_not, ej64_1, ej64_3, ej64_5, ej64_6, ej64_33, q74, q75, q76, q77, ((hx0_0.agree Aj64.agree).tup), ((hx2_0.agree Aj64.agree).tup)]
      refine CallD.t (F_spec_siPut_w (fu := fu) (hx0_0.agree Aj64.agree) (hx2_0.agree Aj64.agree) hc78) ?_
      rintro c79_u0 G80 ⟨a83, _, rfl, S84⟩
      have A82 := Aj64.ext (hB.le Aj64.1) a83.agree
      have S81 : Sep G80 (Fr H) [AL.box p4 [v0_0, v0_1], AL.box p11 [v2_0, v2_1], AL.box p18 [(Value.slice none 0 0), (Value.slice none 0 0)], flat c79_u0 3 (ints r4)] := Sj64.app a83.agree S84 (fun _ h => h) (hB.le Aj64.1)
      have q85 := S81.fieldT (P := Try.prog) (k := 0) rfl fa_28_1
      have q86 := S81.loadF (P := Try.prog) (k := 0) rfl sz_22 ag_22 (off := 1) rfl
      have q87 := S81.fieldT (P := Try.prog) (k := 1) rfl fa_28_1
      have q88 := S81.loadF (P := Try.prog) (k := 1) rfl sz_22 ag_22 (off := 1) rfl
      obtain ⟨r5, hc89, hF⟩ := bd_some hF
      simp [-aBin', -aBin, -aBinI, -aUn, -aNil, -flatV, n_fn, b_add, b_sub, b_mul, b_lt, b_le, b_gt, b_ge, b_eq, b_ne, u_not, ej64_1, ej64_3, ej64_5, ej64_6, ej64_33, q74, q75, q76, q77, a83.pre, q85, q86, q87, q88, ((hx0_1.agree A82.agree).tup), ((hx2_1.agree A82.agree).tup)]
      refine CallD.t (F_spec_siPut_w (fu := fu) (hx0_1.agree A82.agree) (hx2_1.agree A82.agree) hc89) ?_
      rintro c90_u0 G91 ⟨a94, _, rfl, S95⟩
      have A93 := A82.ext (hB.le A82.1) a94.agree
      have S92 : Sep G91 (Fr H) [AL.box p4 [v0_0, v0_1], AL.box p11 [v2_0, v2_1], AL.box p18 [(Value.slice none 0 0), (Value.slice none 0 0)], flat c79_u0 3 (ints r4), flat c90_u0 3 (ints r5)] := S81.app a94.agree S95 (fun _ h => h) (hB.le A82.1)
      obtain ⟨G96, q97, S98, a100⟩ := S92.putAgg (P := Try.prog) (k := 2) (xs := [c79_u0, c90_u0]) rfl (hB.le A93.1) sz_28 rfl rfl
      have A99 := A93.trans a100
      replace S98 : Sep G96 (Fr H) [AL.box p4 [v0_0, v0_1], AL.box p11 [v2_0, v2_1], AL.box p18 [c79_u0, c90_u0], flat c79_u0 3 (ints r4), flat c90_u0 3 (ints r5)] := S98
      simp [-aBin', -aBin, -aBinI, -aUn, -aNil, -flatV, n_fn, b_add, b_sub, b_mul, b_lt, b_le, b_gt, b_ge, b_eq, b_ne, u_not, ej64_1, ej64_3, ej64_5, ej64_6, ej64_33, q74, q75, q76, q77, a83.pre, q85, q86, q87, q88, a94.pre, bu_28 ((S92.sl (k := 3) rfl).tup) ((S92.sl (k := 3) rfl).one) ((S92.sl (k := 4) rfl).tup) ((S92.sl (k := 4) rfl).one), q97]
      apply hK
      clear hK K
      simp only [andThen, leaves]
      refine DWp.ret ?_
      have q101 := S98.loadAgg (P := Try.prog) (k := 2) rfl sz_28 ag_28 rfl
      obtain rfl := Option.some.inj hF
      exact ⟨by simp, [(Value.agg #[c79_u0, c90_u0]), (Value.bool true)], by simp [ej64_1, ej64_3, ej64_5, ej64_6, ej64_33, q101, ((S98.sl (k := 3) rfl).tup), ((S98.sl (k := 4) rfl).tup)], A99, c79_u0, c90_u0, rfl, S98.pick [3, 4] (by decide) rfl⟩
end Go.Proofs.Ytbckijeffiofdaa.AL

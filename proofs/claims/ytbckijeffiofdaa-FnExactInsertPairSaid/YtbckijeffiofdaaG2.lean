/- The walks of functions, each with its Lean function: impl.in, impl.isSystem, impl.IsSystem, impl.IsPair, impl.inserted$1, impl.inserted, impl.InsertPair, laws.eqIntS, laws.eqMeander, laws.markIntS. No condition. -/
import Derived.Test.YtbckijeffiofdaaG1
import Derived.Test.YtbckijeffiofdaaAL26
import Derived.Test.YtbckijeffiofdaaProg
import Derived.KernelRfl
namespace Go.Proofs.Ytbckijeffiofdaa.AL
open Go Go.RowKit
set_option linter.unusedVariables false
set_option linter.unusedSimpArgs false
set_option maxRecDepth 4096

/-! loop.example/g01126/impl.in -/
def F_impl_in (fu : Nat) (x0 : Int) (x1 : Int) (x2 : Int) : Option (Bool) :=
  bif (ile x1 x0) then
    some (ile x0 x2)
  else
    some false
theorem F_impl_in_w {fu : Nat} {H : AH}  {x0 : Int} {x1 : Int} {x2 : Int} {r : (Bool)}  (hF : F_impl_in fu x0 x1 x2 = some r) :
    ACallT Try.prog 108 [(Value.int .i64 x0), (Value.int .i64 x1), (Value.int .i64 x2)] H (fun u G => AgB (Fr H) H G ∧ u = (Value.bool r) ∧ Sep G (Fr H) []) := by
  refine ACallT.of_body (nt := 15) (rs := [.tmp 6]) Try.func108 rfl rfl rfl rfl ?_
  have A0 : AgB (Fr H) H H := .refl _ _
  have S0 : Sep H (Fr H) [] := .nil
  have hB := Fr.up H
  unfold F_impl_in at hF
  refine DWp.seq ?_
  refine DWp.region fun K hK => ?_
  simp [-aBin', -aBin, -aBinI, -aUn, -aNil, -flatV, n_fn, b_add, b_sub, b_mul, b_lt, b_le, b_gt, b_ge, b_eq, b_ne, u_not]
  apply hK
  clear hK K
  simp only [andThen, leaves]
  refine DWp.seq ?_
  rcases Bool.eq_false_or_eq_true (ile x1 x0) with hb1 | hb1
  · replace hF := cd_t hb1 hF
    refine DWp.region fun K hK => ?_
    simp [-aBin', -aBin, -aBinI, -aUn, -aNil, -flatV, n_fn, b_add, b_sub, b_mul, b_lt, b_le, b_gt, b_ge, b_eq, b_ne, u_not, hb1]
    apply hK
    clear hK K
    simp only [andThen, leaves]
    refine DWp.ret ?_
    obtain rfl := Option.some.inj hF
    exact ⟨by simp, [(Value.bool (ile x0 x2))], by simp [], A0, rfl, S0.pick [] (by decide) rfl⟩
  · replace hF := cd_f hb1 hF
    refine DWp.region fun K hK => ?_
    simp [-aBin', -aBin, -aBinI, -aUn, -aNil, -flatV, n_fn, b_add, b_sub, b_mul, b_lt, b_le, b_gt, b_ge, b_eq, b_ne, u_not, hb1]
    apply hK
    clear hK K
    simp only [andThen, leaves]
    refine DWp.ret ?_
    obtain rfl := Option.some.inj hF
    exact ⟨by simp, [(Value.bool false)], by simp [], A0, rfl, S0.pick [] (by decide) rfl⟩
/-! loop.example/g01126/impl.isSystem -/
def F_impl_isSystem_L3 (fu : Nat) (k3_0 : List Int) (k3_1 : Int) (k3_2 : Int) (k3_3 : Int) : Nat → Int → Option (LR (LR (Bool) (Int)) (Int))
  | 0, _ => none
  | n + 1, y3_7 =>
    bif (ilt y3_7 k3_2) then
      gd (inL k3_0 y3_7) (
      bd (F_impl_in fu (gat 0 k3_0 y3_7) k3_1 k3_2) fun r2 =>
      bif (bnot r2) then
        some (.ret (.ret false))
      else
        F_impl_isSystem_L3 fu k3_0 k3_1 k3_2 k3_3 n (iadd .i64 y3_7 1))
    else
      some (.brk y3_7)
def F_impl_isSystem_L2 (fu : Nat) (k2_0 : List Int) (k2_1 : Int) : Nat → Int → Option (LR (Bool) (Int))
  | 0, _ => none
  | n + 1, y2_37 =>
    bif (ilt y2_37 k2_1) then
      gd (inL k2_0 y2_37) (
      bd (F_impl_isSystem_L3 fu k2_0 y2_37 (gat 0 k2_0 y2_37) k2_1 fu (iadd .i64 y2_37 1)) fun s3 =>
      lr s3 fun s3 =>
      F_impl_isSystem_L2 fu k2_0 k2_1 n (iadd .i64 y2_37 1))
    else
      some (.brk y2_37)
def F_impl_isSystem_L1 (fu : Nat) (k1_0 : List Int) (k1_1 : Int) : Nat → Int → Option (LR (Bool) (Int))
  | 0, _ => none
  | n + 1, y1_10 =>
    bif (ilt y1_10 k1_1) then
      gd (inL k1_0 y1_10) (
      bd (
        bd (F_impl_in fu (gat 0 k1_0 y1_10) 0 (isub .i64 (llen k1_0) 1)) fun r1 =>
        bif (bnot r1) then
          some true
        else
          bif (ieq (gat 0 k1_0 y1_10) y1_10) then
            some true
          else
            gd (inL k1_0 (gat 0 k1_0 y1_10)) (
            some (ine (gat 0 k1_0 (gat 0 k1_0 y1_10)) y1_10))) fun s9 =>
      bif s9 then
        some (.ret false)
      else
        F_impl_isSystem_L1 fu k1_0 k1_1 n (iadd .i64 y1_10 1))
    else
      some (.brk y1_10)
def F_impl_isSystem (fu : Nat) (x0 : List Int) : Option (Bool) :=
  bd (F_impl_isSystem_L1 fu x0 (llen x0) fu 0) fun s1 =>
  lr s1 fun s1 =>
  bd (F_impl_isSystem_L2 fu x0 (llen x0) fu 0) fun s2 =>
  lr s2 fun s2 =>
  some true
theorem F_impl_isSystem_w {fu : Nat} {H : AH} {v0 : Value} {x0 : List Int} {r : (Bool)} (hx0 : Sl H v0 (ints x0)) (hF : F_impl_isSystem fu x0 = some r) :
    ACallT Try.prog 162 [v0] H (fun u G => AgB (Fr H) H G ∧ u = (Value.bool r) ∧ Sep G (Fr H) []) := by
  refine ACallT.of_body (nt := 58) (rs := [.tmp 2]) Try.func162 rfl rfl rfl rfl ?_
  have A0 : AgB (Fr H) H H := .refl _ _
  have S0 : Sep H (Fr H) [] := .nil
  have hB := Fr.up H
  unfold F_impl_isSystem at hF
  refine DWp.seq ?_
  refine DWp.region fun K hK => ?_
  simp [-aBin', -aBin, -aBinI, -aUn, -aNil, -flatV, n_fn, b_add, b_sub, b_mul, b_lt, b_le, b_gt, b_ge, b_eq, b_ne, u_not]
  apply hK
  clear hK K
  simp only [andThen, leaves]
  refine DWp.seq ?_
  refine DWp.seq ?_
  have q1 := lenG (P := Try.prog) (hx0.agree A0.agree) el_22
  refine DWp.region fun K hK => ?_
  simp [-aBin', -aBin, -aBinI, -aUn, -aNil, -flatV, n_fn, b_add, b_sub, b_mul, b_lt, b_le, b_gt, b_ge, b_eq, b_ne, u_not, q1]
  apply hK
  clear hK K
  simp only [andThen, leaves]
  refine DWp.block ?_
  obtain ⟨s2, hL3, hF⟩ := bd_some hF
  have S4 := S0.pick [] (by decide) rfl
  refine DWp.loop (fun n env G => ∃ y1_10 : Int, F_impl_isSystem_L1 fu x0 (llen x0) n y1_10 = some s2 ∧ Sep G (Fr H) [] ∧ AgB (Fr H) H G ∧ env 0 = some v0 ∧ env 8 = some v0 ∧ env 9 = some (Value.int .i64 (llen x0)) ∧ env 10 = some (Value.int .i64 y1_10)) fu ⟨0, hL3, S4, A0, by simp [], by simp [], by simp [], by simp []⟩ ?_
  rintro n1 env1 G1_ ⟨y1_10, hL3, S1_, A1_, e1_0, e1_8, e1_9, e1_10⟩
  cases n1 with
  | zero => cases hL3
  | succ n1 =>
    simp only [F_impl_isSystem_L1] at hL3
    refine DWp.seq ?_
    refine DWp.region fun K hK => ?_
    simp [-aBin', -aBin, -aBinI, -aUn, -aNil, -flatV, n_fn, b_add, b_sub, b_mul, b_lt, b_le, b_gt, b_ge, b_eq, b_ne, u_not, e1_0, e1_8, e1_9, e1_10]
    apply hK
    clear hK K
    simp only [andThen, leaves]
    refine DWp.seq ?_
    refine DWp.cond' (t := (ilt y1_10 (llen x0))) (by simp [e1_0, e1_8, e1_9, e1_10]) (fun hb5 => ?_) (fun hb5 => ?_)
    · replace hL3 := cd_t hb5 hL3
      refine DWp.skip ?_
      simp only [andThen, leaves]
      refine DWp.seq ?_
      refine DWp.block ?_
      refine DWp.seq ?_
      obtain ⟨g6, hL3⟩ := gd_some hL3
      have q7 := idxG (P := Try.prog) (kk := .i64) (hx0.agree A1_.agree) el_22 sz_3 g6
      have q8 := loadG (P := Try.prog) (hx0.agree A1_.agree) sz_3 ag_3 g6 0
      refine DWp.region fun K hK => ?_
      simp [-aBin', -aBin, -aBinI, -aUn, -aNil, -flatV, n_fn, b_add, b_sub, b_mul, b_lt, b_le, b_gt, b_ge, b_eq, b_ne, u_not, e1_0, e1_8, e1_9, e1_10, q7, q8]
      apply hK
      clear hK K
      simp only [andThen, leaves]
      obtain ⟨s9, hL10, hL3⟩ := bd_some hL3
      refine DWp.seq (DWp.join (fun env G => Sep G (Fr H) [] ∧ AgB (Fr H) H G ∧ env 0 = some v0 ∧ env 8 = some v0 ∧ env 9 = some (Value.int .i64 (llen x0)) ∧ env 10 = some (Value.int .i64 y1_10) ∧ env 33 = some (Value.bool s9)) ?_ ?_)
      ·
        have q12 := lenG (P := Try.prog) (hx0.agree A1_.agree) el_22
        obtain ⟨r1, hc13, hL10⟩ := bd_some hL10
        refine DWp.region fun K hK => ?_
        simp [-aBin', -aBin, -aBinI, -aUn, -aNil, -flatV, n_fn, b_add, b_sub, b_mul, b_lt, b_le, b_gt, b_ge, b_eq, b_ne, u_not, e1_0, e1_8, e1_9, e1_10, q12]
        refine CallD.t (F_impl_in_w (fu := fu)  hc13) ?_
        rintro _ G15 ⟨a18, rfl, S19⟩
        have A17 := A1_.ext (hB.le A1_.1) a18.agree
        have S16 : Sep G15 (Fr H) [] := S1_.app a18.agree S19 (fun _ h => h) (hB.le A1_.1)
        rcases Bool.eq_false_or_eq_true (bnot r1) with hb20 | hb20
        · replace hL10 := cd_t hb20 hL10
          simp [-aBin', -aBin, -aBinI, -aUn, -aNil, -flatV, n_fn, b_add, b_sub, b_mul, b_lt, b_le, b_gt, b_ge, b_eq, b_ne, u_not, e1_0, e1_8, e1_9, e1_10, hb20, q12, a18.pre]
          apply hK
          clear hK K
          simp only [andThen, leaves]
          have S21 := S16.pick [] (by decide) rfl
          obtain rfl := Option.some.inj hL10
          exact ⟨S21, A17, by simp [e1_0, e1_8, e1_9, e1_10], by simp [e1_0, e1_8, e1_9, e1_10], by simp [e1_0, e1_8, e1_9, e1_10], by simp [e1_0, e1_8, e1_9, e1_10], by simp [e1_0, e1_8, e1_9, e1_10]⟩
        · replace hL10 := cd_f hb20 hL10
          rcases Bool.eq_false_or_eq_true (ieq (gat 0 x0 y1_10) y1_10) with hb22 | hb22
          · replace hL10 := cd_t hb22 hL10
            simp [-aBin', -aBin, -aBinI, -aUn, -aNil, -flatV, n_fn, b_add, b_sub, b_mul, b_lt, b_le, b_gt, b_ge, b_eq, b_ne, u_not, e1_0, e1_8, e1_9, e1_10, hb20, hb22, q12, a18.pre]
            apply hK
            clear hK K
            simp only [andThen, leaves]
            have S23 := S16.pick [] (by decide) rfl
            obtain rfl := Option.some.inj hL10
            exact ⟨S23, A17, by simp [e1_0, e1_8, e1_9, e1_10], by simp [e1_0, e1_8, e1_9, e1_10], by simp [e1_0, e1_8, e1_9, e1_10], by simp [e1_0, e1_8, e1_9, e1_10], by simp [e1_0, e1_8, e1_9, e1_10]⟩
          · replace hL10 := cd_f hb22 hL10
            obtain ⟨g24, hL10⟩ := gd_some hL10
            have q25 := idxG (P := Try.prog) (kk := .i64) (hx0.agree A17.agree) el_22 sz_3 g24
            have q26 := loadG (P := Try.prog) (hx0.agree A17.agree) sz_3 ag_3 g24 0
            simp [-aBin', -aBin, -aBinI, -aUn, -aNil, -flatV, n_fn, b_add, b_sub, b_mul, b_lt, b_le, b_gt, b_ge, b_eq, b_ne, u_not, e1_0, e1_8, e1_9, e1_10, hb20, hb22, q12, a18.pre, q25, q26]
            apply hK
            clear hK K
            simp only [andThen, leaves]
            have S27 := S16.pick [] (by decide) rfl
            obtain rfl := Option.some.inj hL10
            exact ⟨S27, A17, by simp [e1_0, e1_8, e1_9, e1_10], by simp [e1_0, e1_8, e1_9, e1_10], by simp [e1_0, e1_8, e1_9, e1_10], by simp [e1_0, e1_8, e1_9, e1_10], by simp [e1_0, e1_8, e1_9, e1_10]⟩
      · rintro env Gj28 ⟨Sj28, Aj28, ej28_0, ej28_8, ej28_9, ej28_10, ej28_33⟩
        refine DWp.cond' (t := s9) (by simp [ej28_0, ej28_8, ej28_9, ej28_10, ej28_33]) (fun hb29 => ?_) (fun hb29 => ?_)
        · replace hL3 := cd_t hb29 hL3
          refine DWp.seq ?_
          refine DWp.region fun K hK => ?_
          simp [-aBin', -aBin, -aBinI, -aUn, -aNil, -flatV, n_fn, b_add, b_sub, b_mul, b_lt, b_le, b_gt, b_ge, b_eq, b_ne, u_not, ej28_0, ej28_8, ej28_9, ej28_10, ej28_33]
          apply hK
          clear hK K
          simp only [andThen, leaves]
          refine DWp.ret ?_
          simp only [andThen, leaves]
          obtain rfl := Option.some.inj hL3
          simp only [lr] at hF
          obtain rfl := Option.some.inj hF
          exact ⟨by simp, [(Value.bool false)], by simp [ej28_0, ej28_8, ej28_9, ej28_10, ej28_33], Aj28, rfl, Sj28.pick [] (by decide) rfl⟩
        · replace hL3 := cd_f hb29 hL3
          refine DWp.skip ?_
          simp only [andThen, leaves]
          refine DWp.region fun K hK => ?_
          simp [-aBin', -aBin, -aBinI, -aUn, -aNil, -flatV, n_fn, b_add, b_sub, b_mul, b_lt, b_le, b_gt, b_ge, b_eq, b_ne, u_not, ej28_0, ej28_8, ej28_9, ej28_10, ej28_33]
          apply hK
          clear hK K
          simp only [andThen, leaves]
          have S30 := Sj28.pick [] (by decide) rfl
          exact ⟨n1, Nat.lt_succ_self _, (iadd .i64 y1_10 1), hL3, S30, Aj28, by simp [ej28_0, ej28_8, ej28_9, ej28_10, ej28_33], by simp [ej28_0, ej28_8, ej28_9, ej28_10, ej28_33], by simp [ej28_0, ej28_8, ej28_9, ej28_10, ej28_33], by simp [ej28_0, ej28_8, ej28_9, ej28_10, ej28_33]⟩
    · replace hL3 := cd_f hb5 hL3
      refine DWp.exit ?_
      simp only [andThen, leaves, if_true, if_false, reduceIte, Nat.reduceEqDiff]
      obtain rfl := Option.some.inj hL3
      simp only [lr] at hF
      refine DWp.seq ?_
      refine DWp.seq ?_
      have q31 := lenG (P := Try.prog) (hx0.agree A1_.agree) el_22
      refine DWp.region fun K hK => ?_
      simp [-aBin', -aBin, -aBinI, -aUn, -aNil, -flatV, n_fn, b_add, b_sub, b_mul, b_lt, b_le, b_gt, b_ge, b_eq, b_ne, u_not, e1_0, e1_8, e1_9, e1_10, q31]
      apply hK
      clear hK K
      simp only [andThen, leaves]
      refine DWp.block ?_
      obtain ⟨s32, hL33, hF⟩ := bd_some hF
      have S34 := S1_.pick [] (by decide) rfl
      refine DWp.loop (fun n env G => ∃ y2_37 : Int, F_impl_isSystem_L2 fu x0 (llen x0) n y2_37 = some s32 ∧ Sep G (Fr H) [] ∧ AgB (Fr H) H G ∧ env 0 = some v0 ∧ env 35 = some v0 ∧ env 36 = some (Value.int .i64 (llen x0)) ∧ env 37 = some (Value.int .i64 y2_37)) fu ⟨0, hL33, S34, A1_, by simp [e1_0, e1_8, e1_9, e1_10], by simp [e1_0, e1_8, e1_9, e1_10], by simp [e1_0, e1_8, e1_9, e1_10], by simp [e1_0, e1_8, e1_9, e1_10]⟩ ?_
      rintro n1 env1 G1_ ⟨y2_37, hL33, S1_, A1_, e1_0, e1_35, e1_36, e1_37⟩
      cases n1 with
      | zero => cases hL33
      | succ n1 =>
        simp only [F_impl_isSystem_L2] at hL33
        refine DWp.seq ?_
        refine DWp.region fun K hK => ?_
        simp [-aBin', -aBin, -aBinI, -aUn, -aNil, -flatV, n_fn, b_add, b_sub, b_mul, b_lt, b_le, b_gt, b_ge, b_eq, b_ne, u_not, e1_0, e1_35, e1_36, e1_37]
        apply hK
        clear hK K
        simp only [andThen, leaves]
        refine DWp.seq ?_
        refine DWp.cond' (t := (ilt y2_37 (llen x0))) (by simp [e1_0, e1_35, e1_36, e1_37]) (fun hb35 => ?_) (fun hb35 => ?_)
        · replace hL33 := cd_t hb35 hL33
          refine DWp.skip ?_
          simp only [andThen, leaves]
          refine DWp.seq ?_
          refine DWp.block ?_
          refine DWp.seq ?_
          obtain ⟨g36, hL33⟩ := gd_some hL33
          have q37 := idxG (P := Try.prog) (kk := .i64) (hx0.agree A1_.agree) el_22 sz_3 g36
          have q38 := loadG (P := Try.prog) (hx0.agree A1_.agree) sz_3 ag_3 g36 0
          refine DWp.region fun K hK => ?_
          simp [-aBin', -aBin, -aBinI, -aUn, -aNil, -flatV, n_fn, b_add, b_sub, b_mul, b_lt, b_le, b_gt, b_ge, b_eq, b_ne, u_not, e1_0, e1_35, e1_36, e1_37, q37, q38]
          apply hK
          clear hK K
          simp only [andThen, leaves]
          refine DWp.seq ?_
          refine DWp.region fun K hK => ?_
          simp [-aBin', -aBin, -aBinI, -aUn, -aNil, -flatV, n_fn, b_add, b_sub, b_mul, b_lt, b_le, b_gt, b_ge, b_eq, b_ne, u_not, e1_0, e1_35, e1_36, e1_37]
          apply hK
          clear hK K
          simp only [andThen, leaves]
          refine DWp.block ?_
          obtain ⟨s39, hL40, hL33⟩ := bd_some hL33
          have S41 := S1_.pick [] (by decide) rfl
          refine DWp.loop (fun n env G => ∃ y3_7 : Int, F_impl_isSystem_L3 fu x0 y2_37 (gat 0 x0 y2_37) (llen x0) n y3_7 = some s39 ∧ Sep G (Fr H) [] ∧ AgB (Fr H) H G ∧ env 0 = some v0 ∧ env 5 = some (Value.int .i64 y2_37) ∧ env 6 = some (Value.int .i64 (gat 0 x0 y2_37)) ∧ env 7 = some (Value.int .i64 y3_7) ∧ env 35 = some v0 ∧ env 36 = some (Value.int .i64 (llen x0)) ∧ env 37 = some (Value.int .i64 y2_37)) fu ⟨(iadd .i64 y2_37 1), hL40, S41, A1_, by simp [e1_0, e1_35, e1_36, e1_37], by simp [e1_0, e1_35, e1_36, e1_37], by simp [e1_0, e1_35, e1_36, e1_37], by simp [e1_0, e1_35, e1_36, e1_37], by simp [e1_0, e1_35, e1_36, e1_37], by simp [e1_0, e1_35, e1_36, e1_37], by simp [e1_0, e1_35, e1_36, e1_37]⟩ ?_
          rintro n2 env2 G2_ ⟨y3_7, hL40, S2_, A2_, e2_0, e2_5, e2_6, e2_7, e2_35, e2_36, e2_37⟩
          cases n2 with
          | zero => cases hL40
          | succ n2 =>
            simp only [F_impl_isSystem_L3] at hL40
            refine DWp.seq ?_
            refine DWp.seq ?_
            refine DWp.region fun K hK => ?_
            simp [-aBin', -aBin, -aBinI, -aUn, -aNil, -flatV, n_fn, b_add, b_sub, b_mul, b_lt, b_le, b_gt, b_ge, b_eq, b_ne, u_not, e2_0, e2_5, e2_6, e2_7, e2_35, e2_36, e2_37]
            apply hK
            clear hK K
            simp only [andThen, leaves]
            refine DWp.cond' (t := (ilt y3_7 (gat 0 x0 y2_37))) (by simp [e2_0, e2_5, e2_6, e2_7, e2_35, e2_36, e2_37]) (fun hb42 => ?_) (fun hb42 => ?_)
            · replace hL40 := cd_t hb42 hL40
              refine DWp.skip ?_
              simp only [andThen, leaves]
              refine DWp.seq ?_
              refine DWp.block ?_
              refine DWp.seq ?_
              obtain ⟨g43, hL40⟩ := gd_some hL40
              have q44 := idxG (P := Try.prog) (kk := .i64) (hx0.agree A2_.agree) el_22 sz_3 g43
              have q45 := loadG (P := Try.prog) (hx0.agree A2_.agree) sz_3 ag_3 g43 0
              obtain ⟨r2, hc46, hL40⟩ := bd_some hL40
              refine DWp.region fun K hK => ?_
              simp [-aBin', -aBin, -aBinI, -aUn, -aNil, -flatV, n_fn, b_add, b_sub, b_mul, b_lt, b_le, b_gt, b_ge, b_eq, b_ne, u_not, e2_0, e2_5, e2_6, e2_7, e2_35, e2_36, e2_37, q44, q45]
              refine CallD.t (F_impl_in_w (fu := fu)  hc46) ?_
              rintro _ G48 ⟨a51, rfl, S52⟩
              have A50 := A2_.ext (hB.le A2_.1) a51.agree
              have S49 : Sep G48 (Fr H) [] := S2_.app a51.agree S52 (fun _ h => h) (hB.le A2_.1)
              simp [-aBin', -aBin, -aBinI, -aUn, -aNil, -flatV, n_fn, b_add, b_sub, b_mul, b_lt, b_le, b_gt, b_ge, b_eq, b_ne, u_not, e2_0, e2_5, e2_6, e2_7, e2_35, e2_36, e2_37, q44, q45, a51.pre]
              apply hK
              clear hK K
              simp only [andThen, leaves]
              refine DWp.cond' (t := (bnot r2)) (by simp [e2_0, e2_5, e2_6, e2_7, e2_35, e2_36, e2_37]) (fun hb53 => ?_) (fun hb53 => ?_)
              · replace hL40 := cd_t hb53 hL40
                refine DWp.seq ?_
                refine DWp.region fun K hK => ?_
                simp [-aBin', -aBin, -aBinI, -aUn, -aNil, -flatV, n_fn, b_add, b_sub, b_mul, b_lt, b_le, b_gt, b_ge, b_eq, b_ne, u_not, e2_0, e2_5, e2_6, e2_7, e2_35, e2_36, e2_37]
                apply hK
                clear hK K
                simp only [andThen, leaves]
                refine DWp.ret ?_
                simp only [andThen, leaves]
                obtain rfl := Option.some.inj hL40
                simp only [lr] at hL33
                obtain rfl := Option.some.inj hL33
                simp only [lr] at hF
                obtain rfl := Option.some.inj hF
                exact ⟨by simp, [(Value.bool false)], by simp [e2_0, e2_5, e2_6, e2_7, e2_35, e2_36, e2_37], A50, rfl, S49.pick [] (by decide) rfl⟩
              · replace hL40 := cd_f hb53 hL40
                refine DWp.skip ?_
                simp only [andThen, leaves]
                refine DWp.region fun K hK => ?_
                simp [-aBin', -aBin, -aBinI, -aUn, -aNil, -flatV, n_fn, b_add, b_sub, b_mul, b_lt, b_le, b_gt, b_ge, b_eq, b_ne, u_not, e2_0, e2_5, e2_6, e2_7, e2_35, e2_36, e2_37]
                apply hK
                clear hK K
                simp only [andThen, leaves]
                have S54 := S49.pick [] (by decide) rfl
                exact ⟨n2, Nat.lt_succ_self _, (iadd .i64 y3_7 1), hL40, S54, A50, by simp [e2_0, e2_5, e2_6, e2_7, e2_35, e2_36, e2_37], by simp [e2_0, e2_5, e2_6, e2_7, e2_35, e2_36, e2_37], by simp [e2_0, e2_5, e2_6, e2_7, e2_35, e2_36, e2_37], by simp [e2_0, e2_5, e2_6, e2_7, e2_35, e2_36, e2_37], by simp [e2_0, e2_5, e2_6, e2_7, e2_35, e2_36, e2_37], by simp [e2_0, e2_5, e2_6, e2_7, e2_35, e2_36, e2_37], by simp [e2_0, e2_5, e2_6, e2_7, e2_35, e2_36, e2_37]⟩
            · replace hL40 := cd_f hb42 hL40
              refine DWp.exit ?_
              simp only [andThen, leaves, if_true, if_false, reduceIte, Nat.reduceEqDiff]
              obtain rfl := Option.some.inj hL40
              simp only [lr] at hL33
              refine DWp.region fun K hK => ?_
              simp [-aBin', -aBin, -aBinI, -aUn, -aNil, -flatV, n_fn, b_add, b_sub, b_mul, b_lt, b_le, b_gt, b_ge, b_eq, b_ne, u_not, e2_0, e2_5, e2_6, e2_7, e2_35, e2_36, e2_37]
              apply hK
              clear hK K
              simp only [andThen, leaves]
              have S55 := S2_.pick [] (by decide) rfl
              exact ⟨n1, Nat.lt_succ_self _, (iadd .i64 y2_37 1), hL33, S55, A2_, by simp [e2_0, e2_5, e2_6, e2_7, e2_35, e2_36, e2_37], by simp [e2_0, e2_5, e2_6, e2_7, e2_35, e2_36, e2_37], by simp [e2_0, e2_5, e2_6, e2_7, e2_35, e2_36, e2_37], by simp [e2_0, e2_5, e2_6, e2_7, e2_35, e2_36, e2_37]⟩
        · replace hL33 := cd_f hb35 hL33
          refine DWp.exit ?_
          simp only [andThen, leaves, if_true, if_false, reduceIte, Nat.reduceEqDiff]
          obtain rfl := Option.some.inj hL33
          simp only [lr] at hF
          refine DWp.seq ?_
          refine DWp.region fun K hK => ?_
          simp [-aBin', -aBin, -aBinI, -aUn, -aNil, -flatV, n_fn, b_add, b_sub, b_mul, b_lt, b_le, b_gt, b_ge, b_eq, b_ne, u_not, e1_0, e1_35, e1_36, e1_37]
          apply hK
          clear hK K
          simp only [andThen, leaves]
          refine DWp.ret ?_
          obtain rfl := Option.some.inj hF
          exact ⟨by simp, [(Value.bool true)], by simp [e1_0, e1_35, e1_36, e1_37], A1_, rfl, S1_.pick [] (by decide) rfl⟩
/-! loop.example/g01126/impl.IsSystem -/
def F_impl_IsSystem (fu : Nat) (x0 : List Int) : Option (Bool) :=
  bif (ile (llen x0) 12) then
    bd (F_impl_isSystem fu x0) fun r1 =>
    some r1
  else
    some false
theorem F_impl_IsSystem_w {fu : Nat} {H : AH} {v0 : Value} {x0 : List Int} {r : (Bool)} (hx0 : Sl H v0 (ints x0)) (hF : F_impl_IsSystem fu x0 = some r) :
    ACallT Try.prog 134 [v0] H (fun u G => AgB (Fr H) H G ∧ u = (Value.bool r) ∧ Sep G (Fr H) []) := by
  refine ACallT.of_body (nt := 10) (rs := [.tmp 2]) Try.func134 rfl rfl rfl rfl ?_
  have A0 : AgB (Fr H) H H := .refl _ _
  have S0 : Sep H (Fr H) [] := .nil
  have hB := Fr.up H
  unfold F_impl_IsSystem at hF
  refine DWp.seq ?_
  refine DWp.region fun K hK => ?_
  simp [-aBin', -aBin, -aBinI, -aUn, -aNil, -flatV, n_fn, b_add, b_sub, b_mul, b_lt, b_le, b_gt, b_ge, b_eq, b_ne, u_not]
  apply hK
  clear hK K
  simp only [andThen, leaves]
  refine DWp.seq ?_
  have q1 := lenG (P := Try.prog) (hx0.agree A0.agree) el_22
  rcases Bool.eq_false_or_eq_true (ile (llen x0) 12) with hb2 | hb2
  · replace hF := cd_t hb2 hF
    obtain ⟨r1, hc3, hF⟩ := bd_some hF
    refine DWp.region fun K hK => ?_
    simp [-aBin', -aBin, -aBinI, -aUn, -aNil, -flatV, n_fn, b_add, b_sub, b_mul, b_lt, b_le, b_gt, b_ge, b_eq, b_ne, u_not, hb2, q1, ((hx0.agree A0.agree).tup)]
    refine CallD.t (F_impl_isSystem_w (fu := fu) (hx0.agree A0.agree) hc3) ?_
    rintro _ G5 ⟨a8, rfl, S9⟩
    have A7 := A0.ext (hB.le A0.1) a8.agree
    have S6 : Sep G5 (Fr H) [] := S0.app a8.agree S9 (fun _ h => h) (hB.le A0.1)
    simp [-aBin', -aBin, -aBinI, -aUn, -aNil, -flatV, n_fn, b_add, b_sub, b_mul, b_lt, b_le, b_gt, b_ge, b_eq, b_ne, u_not, hb2, q1, a8.pre]
    apply hK
    clear hK K
    simp only [andThen, leaves]
    refine DWp.ret ?_
    obtain rfl := Option.some.inj hF
    exact ⟨by simp, [(Value.bool r1)], by simp [], A7, rfl, S6.pick [] (by decide) rfl⟩
  · replace hF := cd_f hb2 hF
    refine DWp.region fun K hK => ?_
    simp [-aBin', -aBin, -aBinI, -aUn, -aNil, -flatV, n_fn, b_add, b_sub, b_mul, b_lt, b_le, b_gt, b_ge, b_eq, b_ne, u_not, hb2, q1]
    apply hK
    clear hK K
    simp only [andThen, leaves]
    refine DWp.ret ?_
    obtain rfl := Option.some.inj hF
    exact ⟨by simp, [(Value.bool false)], by simp [], A0, rfl, S0.pick [] (by decide) rfl⟩
/-! loop.example/g01126/impl.IsPair -/
def F_impl_IsPair (fu : Nat) (x0_0 : List Int) (x0_1 : List Int) : Option (Bool) :=
  bd (F_impl_IsSystem fu x0_0) fun r1 =>
  bif r1 then
    bd (F_impl_IsSystem fu x0_1) fun r2 =>
    bif r2 then
      some (ieq (llen x0_0) (llen x0_1))
    else
      some false
  else
    some false
theorem F_impl_IsPair_w {fu : Nat} {H : AH} {v0_0 : Value} {v0_1 : Value} {x0_0 : List Int} {x0_1 : List Int} {r : (Bool)} (hx0_0 : Sl H v0_0 (ints x0_0)) (hx0_1 : Sl H v0_1 (ints x0_1)) (hF : F_impl_IsPair fu x0_0 x0_1 = some r) :
    ACallT Try.prog 96 [(Value.agg #[v0_0, v0_1])] H (fun u G => AgB (Fr H) H G ∧ u = (Value.bool r) ∧ Sep G (Fr H) []) := by
  refine ACallT.of_body (nt := 20) (rs := [.tmp 2]) Try.func96 rfl rfl rfl rfl ?_
  have A0 : AgB (Fr H) H H := .refl _ _
  have S0 : Sep H (Fr H) [] := .nil
  have hB := Fr.up H
  unfold F_impl_IsPair at hF
  refine DWp.seq ?_
  obtain ⟨G2, p4, q5, q6, a7, S1⟩ := S0.boxT (hB.le A0.1) 28 [v0_0, v0_1]
  have A3 := A0.ext (hB.le A0.1) a7
  replace S1 : Sep G2 (Fr H) [AL.box p4 [v0_0, v0_1]] := S1
  refine DWp.region fun K hK => ?_
  simp [-aBin', -aBin, -aBinI, -aUn, -aNil, -flatV, n_fn, b_add, b_sub, b_mul, b_lt, b_le, b_gt, b_ge, b_eq, b_ne, u_not, q5, q6, a7.to_pre, cells_agg]
  apply hK
  clear hK K
  simp only [andThen, leaves]
  refine DWp.seq ?_
  have q8 := S1.fieldT (P := Try.prog) (k := 0) rfl fa_28_0
  have q9 := S1.loadF (P := Try.prog) (k := 0) rfl sz_22 ag_22 (off := 0) rfl
  obtain ⟨r1, hc10, hF⟩ := bd_some hF
  refine DWp.region fun K hK => ?_
  simp [-aBin', -aBin, -aBinI, -aUn, -aNil, -flatV, n_fn, b_add, b_sub, b_mul, b_lt, b_le, b_gt, b_ge, b_eq, b_ne, u_not, q8, q9, ((hx0_0.agree A3.agree).tup)]
  refine CallD.t (F_impl_IsSystem_w (fu := fu) (hx0_0.agree A3.agree) hc10) ?_
  rintro _ G12 ⟨a15, rfl, S16⟩
  have A14 := A3.ext (hB.le A3.1) a15.agree
  have S13 : Sep G12 (Fr H) [AL.box p4 [v0_0, v0_1]] := S1.app a15.agree S16 (fun _ h => h) (hB.le A3.1)
  rcases Bool.eq_false_or_eq_true r1 with hb17 | hb17
  · replace hF := cd_t hb17 hF
    have q18 := S13.fieldT (P := Try.prog) (k := 0) rfl fa_28_1
    have q19 := S13.loadF (P := Try.prog) (k := 0) rfl sz_22 ag_22 (off := 1) rfl
    obtain ⟨r2, hc20, hF⟩ := bd_some hF
    simp [-aBin', -aBin, -aBinI, -aUn, -aNil, -flatV, n_fn, b_add, b_sub, b_mul, b_lt, b_le, b_gt, b_ge, b_eq, b_ne, u_not, hb17, q8, q9, a15.pre, q18, q19, ((hx0_1.agree A14.agree).tup)]
    refine CallD.t (F_impl_IsSystem_w (fu := fu) (hx0_1.agree A14.agree) hc20) ?_
    rintro _ G22 ⟨a25, rfl, S26⟩
    have A24 := A14.ext (hB.le A14.1) a25.agree
    have S23 : Sep G22 (Fr H) [AL.box p4 [v0_0, v0_1]] := S13.app a25.agree S26 (fun _ h => h) (hB.le A14.1)
    rcases Bool.eq_false_or_eq_true r2 with hb27 | hb27
    · replace hF := cd_t hb27 hF
      have q28 := S23.fieldT (P := Try.prog) (k := 0) rfl fa_28_0
      have q29 := S23.loadF (P := Try.prog) (k := 0) rfl sz_22 ag_22 (off := 0) rfl
      have q30 := lenG (P := Try.prog) (hx0_0.agree A24.agree) el_22
      have q31 := S23.fieldT (P := Try.prog) (k := 0) rfl fa_28_1
      have q32 := S23.loadF (P := Try.prog) (k := 0) rfl sz_22 ag_22 (off := 1) rfl
      have q33 := lenG (P := Try.prog) (hx0_1.agree A24.agree) el_22
      simp [-aBin', -aBin, -aBinI, -aUn, -aNil, -flatV, n_fn, b_add, b_sub, b_mul, b_lt, b_le, b_gt, b_ge, b_eq, b_ne, u_not, hb17, hb27, q8, q9, a15.pre, q18, q19, a25.pre, q28, q29, q30, q31, q32, q33]
      apply hK
      clear hK K
      simp only [andThen, leaves]
      refine DWp.ret ?_
      obtain rfl := Option.some.inj hF
      exact ⟨by simp, [(Value.bool (ieq (llen x0_0) (llen x0_1)))], by simp [], A24, rfl, S23.pick [] (by decide) rfl⟩
    · replace hF := cd_f hb27 hF
      simp [-aBin', -aBin, -aBinI, -aUn, -aNil, -flatV, n_fn, b_add, b_sub, b_mul, b_lt, b_le, b_gt, b_ge, b_eq, b_ne, u_not, hb17, hb27, q8, q9, a15.pre, q18, q19, a25.pre]
      apply hK
      clear hK K
      simp only [andThen, leaves]
      refine DWp.ret ?_
      obtain rfl := Option.some.inj hF
      exact ⟨by simp, [(Value.bool false)], by simp [], A24, rfl, S23.pick [] (by decide) rfl⟩
  · replace hF := cd_f hb17 hF
    simp [-aBin', -aBin, -aBinI, -aUn, -aNil, -flatV, n_fn, b_add, b_sub, b_mul, b_lt, b_le, b_gt, b_ge, b_eq, b_ne, u_not, hb17, q8, q9, a15.pre]
    apply hK
    clear hK K
    simp only [andThen, leaves]
    refine DWp.ret ?_
    obtain rfl := Option.some.inj hF
    exact ⟨by simp, [(Value.bool false)], by simp [], A14, rfl, S13.pick [] (by decide) rfl⟩
/-! loop.example/g01126/impl.inserted$1 -/
def F_impl_inserted_1 (fu : Nat) (x0 : Int) (x1 : Int) (x2 : List Int) : Option (Int) :=
  bif (ile x1 x0) then
    some (iadd .i64 x0 (llen x2))
  else
    some x0
theorem F_impl_inserted_1_w {fu : Nat} {H : AH} {p1 : Value} {p2 : Value} {v2 : Value} {x0 : Int} {x1 : Int} {x2 : List Int} {r : (Int)} (hp1 : Bx H p1 [(Value.int .i64 x1)]) (hx2 : Sl H v2 (ints x2)) (hp2 : Bx H p2 [v2]) (hF : F_impl_inserted_1 fu x0 x1 x2 = some r) :
    ACallT Try.prog 140 [(Value.int .i64 x0), p1, p2] H (fun u G => AgB (Fr H) H G ∧ u = (Value.int .i64 r) ∧ Sep G (Fr H) []) := by
  refine ACallT.of_body (nt := 13) (rs := [.tmp 4]) Try.func140 rfl rfl rfl rfl ?_
  have A0 : AgB (Fr H) H H := .refl _ _
  have S0 : Sep H (Fr H) [] := .nil
  have hB := Fr.up H
  unfold F_impl_inserted_1 at hF
  refine DWp.seq ?_
  refine DWp.region fun K hK => ?_
  simp [-aBin', -aBin, -aBinI, -aUn, -aNil, -flatV, n_fn, b_add, b_sub, b_mul, b_lt, b_le, b_gt, b_ge, b_eq, b_ne, u_not]
  apply hK
  clear hK K
  simp only [andThen, leaves]
  refine DWp.seq ?_
  refine DWp.seq ?_
  have q1 := (hp1.agree A0.agree).load0 (P := Try.prog) sz_3 ag_3
  refine DWp.region fun K hK => ?_
  simp [-aBin', -aBin, -aBinI, -aUn, -aNil, -flatV, n_fn, b_add, b_sub, b_mul, b_lt, b_le, b_gt, b_ge, b_eq, b_ne, u_not, q1]
  apply hK
  clear hK K
  simp only [andThen, leaves]
  refine DWp.cond' (t := (ile x1 x0)) (by simp []) (fun hb2 => ?_) (fun hb2 => ?_)
  · replace hF := cd_t hb2 hF
    refine DWp.seq ?_
    have q3 := (hp2.agree A0.agree).load0 (P := Try.prog) sz_22 ag_22
    have q4 := lenG (P := Try.prog) (hx2.agree A0.agree) el_22
    refine DWp.region fun K hK => ?_
    simp [-aBin', -aBin, -aBinI, -aUn, -aNil, -flatV, n_fn, b_add, b_sub, b_mul, b_lt, b_le, b_gt, b_ge, b_eq, b_ne, u_not, q3, q4]
    apply hK
    clear hK K
    simp only [andThen, leaves]
    refine DWp.ret ?_
    simp only [andThen, leaves]
    obtain rfl := Option.some.inj hF
    exact ⟨by simp, [(Value.int .i64 (iadd .i64 x0 (llen x2)))], by simp [], A0, rfl, S0.pick [] (by decide) rfl⟩
  · replace hF := cd_f hb2 hF
    refine DWp.skip ?_
    simp only [andThen, leaves]
    refine DWp.seq ?_
    refine DWp.region fun K hK => ?_
    simp [-aBin', -aBin, -aBinI, -aUn, -aNil, -flatV, n_fn, b_add, b_sub, b_mul, b_lt, b_le, b_gt, b_ge, b_eq, b_ne, u_not]
    apply hK
    clear hK K
    simp only [andThen, leaves]
    refine DWp.ret ?_
    obtain rfl := Option.some.inj hF
    exact ⟨by simp, [(Value.int .i64 x0)], by simp [], A0, rfl, S0.pick [] (by decide) rfl⟩
/-! loop.example/g01126/impl.inserted -/
def F_impl_inserted_L2 (fu : Nat) (k2_0 : Int) (k2_1 : List Int) (k2_2 : Int) : Nat → List Int → Int → Option (List Int × Int)
  | 0, _, _ => none
  | n + 1, l2_1, y2_38 =>
    bif (ilt y2_38 k2_2) then
      gd (inL k2_1 y2_38) (
      gd (inL l2_1 (iadd .i64 k2_0 y2_38)) (
      F_impl_inserted_L2 fu k2_0 k2_1 k2_2 n (lset l2_1 (iadd .i64 k2_0 y2_38) (iadd .i64 k2_0 (gat 0 k2_1 y2_38))) (iadd .i64 y2_38 1)))
    else
      some (l2_1, y2_38)
def F_impl_inserted_L1 (fu : Nat) (k1_0 : Int) (k1_1 : List Int) (k1_2 : List Int) (k1_3 : Int) : Nat → List Int → Int → Option (List Int × Int)
  | 0, _, _ => none
  | n + 1, l1_2, y1_22 =>
    bif (ilt y1_22 k1_3) then
      gd (inL k1_2 y1_22) (
      bd (F_impl_inserted_1 fu y1_22 k1_0 k1_1) fun r1 =>
      bd (F_impl_inserted_1 fu (gat 0 k1_2 y1_22) k1_0 k1_1) fun r2 =>
      gd (inL l1_2 r1) (
      F_impl_inserted_L1 fu k1_0 k1_1 k1_2 k1_3 n (lset l1_2 r1 r2) (iadd .i64 y1_22 1)))
    else
      some (l1_2, y1_22)
def F_impl_inserted (fu : Nat) (x0 : List Int) (x1 : Int) (x2 : List Int) : Option (List Int) :=
  gd (0 ≤ (iadd .i64 (llen x0) (llen x2)) ∧ (iadd .i64 (llen x0) (llen x2)) ≤ 4294967296) (
  bd (F_impl_inserted_L1 fu x1 x2 x0 (llen x0) fu (lrep (iadd .i64 (llen x0) (llen x2)) 0) 0) fun s1 =>
  bd (F_impl_inserted_L2 fu x1 x2 (llen x2) fu s1.1 0) fun s2 =>
  some s2.1)
theorem F_impl_inserted_w {fu : Nat} {H : AH} {v0 : Value} {v2 : Value} {x0 : List Int} {x1 : Int} {x2 : List Int} {r : (List Int)} (hx0 : Sl H v0 (ints x0)) (hx2 : Sl H v2 (ints x2)) (hF : F_impl_inserted fu x0 x1 x2 = some r) :
    ACallT Try.prog 109 [v0, (Value.int .i64 x1), v2] H (fun u G => AgB (Fr H) H G ∧ ∃ u0 : Value, u = u0 ∧ Sep G (Fr H) [flat u0 3 (ints r)]) := by
  refine ACallT.of_body (nt := 53) (rs := [.tmp 6]) Try.func109 rfl rfl rfl rfl ?_
  have A0 : AgB (Fr H) H H := .refl _ _
  have S0 : Sep H (Fr H) [] := .nil
  have hB := Fr.up H
  unfold F_impl_inserted at hF
  refine DWp.seq ?_
  obtain ⟨G2, p4, q5, q6, a7, S1⟩ := S0.boxT (hB.le A0.1) 3 [(Value.int .i64 x1)]
  have A3 := A0.ext (hB.le A0.1) a7
  replace S1 : Sep G2 (Fr H) [AL.box p4 [(Value.int .i64 x1)]] := S1
  obtain ⟨G9, p11, q12, q13, a14, S8⟩ := S1.boxT (hB.le A3.1) 22 [v2]
  have A10 := A3.ext (hB.le A3.1) a14
  replace S8 : Sep G9 (Fr H) [AL.box p4 [(Value.int .i64 x1)], AL.box p11 [v2]] := S8
  refine DWp.region fun K hK => ?_
  simp [-aBin', -aBin, -aBinI, -aUn, -aNil, -flatV, n_fn, b_add, b_sub, b_mul, b_lt, b_le, b_gt, b_ge, b_eq, b_ne, u_not, q5, q6, a7.to_pre, cells_int, q12, q13, a14.to_pre, ((hx2.agree A3.agree).one), ((hx2.agree A3.agree).tup)]
  apply hK
  clear hK K
  simp only [andThen, leaves]
  refine DWp.seq ?_
  have q15 := lenG (P := Try.prog) (hx0.agree A10.agree) el_22
  have q16 := S8.load0 (P := Try.prog) (k := 1) rfl sz_22 ag_22
  have q17 := lenG (P := Try.prog) (hx2.agree A10.agree) el_22
  obtain ⟨g18, hF⟩ := gd_some hF
  obtain ⟨v19, G20, q21, S22, a24, _⟩ := S8.make (f := (Value.int .i64)) (P := Try.prog) (t := 22) (hB.le A10.1) el_22 ei_3 rfl 0 rfl g18
  have A23 := A10.ext (hB.le A10.1) a24
  replace S22 : Sep G20 (Fr H) [AL.box p4 [(Value.int .i64 x1)], AL.box p11 [v2], flat v19 3 (ints (lrep (iadd .i64 (llen x0) (llen x2)) 0))] := S22
  refine DWp.region fun K hK => ?_
  simp [-aBin', -aBin, -aBinI, -aUn, -aNil, -flatV, n_fn, b_add, b_sub, b_mul, b_lt, b_le, b_gt, b_ge, b_eq, b_ne, u_not, q15, q16, q17, q21, a24.to_pre]
  apply hK
  clear hK K
  simp only [andThen, leaves]
  refine DWp.seq ?_
  refine DWp.region fun K hK => ?_
  simp [-aBin', -aBin, -aBinI, -aUn, -aNil, -flatV, n_fn, b_add, b_sub, b_mul, b_lt, b_le, b_gt, b_ge, b_eq, b_ne, u_not, (S22.flatT (k := 0) rfl), (S22.flatT (k := 1) rfl)]
  apply hK
  clear hK K
  simp only [andThen, leaves]
  refine DWp.seq ?_
  refine DWp.seq ?_
  have q25 := lenG (P := Try.prog) (hx0.agree A23.agree) el_22
  refine DWp.region fun K hK => ?_
  simp [-aBin', -aBin, -aBinI, -aUn, -aNil, -flatV, n_fn, b_add, b_sub, b_mul, b_lt, b_le, b_gt, b_ge, b_eq, b_ne, u_not, q25]
  apply hK
  clear hK K
  simp only [andThen, leaves]
  refine DWp.block ?_
  obtain ⟨s26, hL27, hF⟩ := bd_some hF
  have S28 := S22.pick [0, 1, 2] (by decide) rfl
  refine DWp.loop (fun n env G => ∃ l1_2 : List Int, ∃ y1_22 : Int, F_impl_inserted_L1 fu x1 x2 x0 (llen x0) n l1_2 y1_22 = some s26 ∧ Sep G (Fr H) [AL.box p4 [(Value.int .i64 x1)], AL.box p11 [v2], flat v19 3 (ints l1_2)] ∧ AgB (Fr H) H G ∧ env 4 = some p4 ∧ env 5 = some p11 ∧ env 7 = some v19 ∧ env 8 = some (Value.func (.func 140) #[] #[p4, p11]) ∧ env 20 = some v0 ∧ env 21 = some (Value.int .i64 (llen x0)) ∧ env 22 = some (Value.int .i64 y1_22)) fu ⟨(lrep (iadd .i64 (llen x0) (llen x2)) 0), 0, hL27, S28, A23, by simp [], by simp [], by simp [], by simp [], by simp [], by simp [], by simp []⟩ ?_
  rintro n1 env1 G1_ ⟨l1_2, y1_22, hL27, S1_, A1_, e1_4, e1_5, e1_7, e1_8, e1_20, e1_21, e1_22⟩
  cases n1 with
  | zero => cases hL27
  | succ n1 =>
    simp only [F_impl_inserted_L1] at hL27
    refine DWp.seq ?_
    refine DWp.region fun K hK => ?_
    simp [-aBin', -aBin, -aBinI, -aUn, -aNil, -flatV, n_fn, b_add, b_sub, b_mul, b_lt, b_le, b_gt, b_ge, b_eq, b_ne, u_not, e1_4, e1_5, e1_7, e1_8, e1_20, e1_21, e1_22]
    apply hK
    clear hK K
    simp only [andThen, leaves]
    refine DWp.seq ?_
    refine DWp.cond' (t := (ilt y1_22 (llen x0))) (by simp [e1_4, e1_5, e1_7, e1_8, e1_20, e1_21, e1_22]) (fun hb29 => ?_) (fun hb29 => ?_)
    · replace hL27 := cd_t hb29 hL27
      refine DWp.skip ?_
      simp only [andThen, leaves]
      refine DWp.seq ?_
      refine DWp.block ?_
      refine DWp.seq ?_
      obtain ⟨g30, hL27⟩ := gd_some hL27
      have q31 := idxG (P := Try.prog) (kk := .i64) (hx0.agree A1_.agree) el_22 sz_3 g30
      have q32 := loadG (P := Try.prog) (hx0.agree A1_.agree) sz_3 ag_3 g30 0
      refine DWp.region fun K hK => ?_
      simp [-aBin', -aBin, -aBinI, -aUn, -aNil, -flatV, n_fn, b_add, b_sub, b_mul, b_lt, b_le, b_gt, b_ge, b_eq, b_ne, u_not, e1_4, e1_5, e1_7, e1_8, e1_20, e1_21, e1_22, q31, q32]
      apply hK
      clear hK K
      simp only [andThen, leaves]
      obtain ⟨r1, hc33, hL27⟩ := bd_some hL27
      refine DWp.region fun K hK => ?_
      simp [-aBin', -aBin, -aBinI, -aUn, -aNil, -flatV, n_fn, b_add, b_sub, b_mul, b_lt, b_le, b_gt, b_ge, b_eq, b_ne, u_not, e1_4, e1_5, e1_7, e1_8, e1_20, e1_21, e1_22, (S1_.ptup (k := 0) rfl), (S1_.ptup (k := 1) rfl)]
      refine CallD.t (F_impl_inserted_1_w (fu := fu) (S1_.bxT (k := 0) rfl) (hx2.agree A1_.agree) (S1_.bxT (k := 1) rfl) hc33) ?_
      rintro _ G35 ⟨a38, rfl, S39⟩
      have A37 := A1_.ext (hB.le A1_.1) a38.agree
      have S36 : Sep G35 (Fr H) [AL.box p4 [(Value.int .i64 x1)], AL.box p11 [v2], flat v19 3 (ints l1_2)] := S1_.app a38.agree S39 (fun _ h => h) (hB.le A1_.1)
      obtain ⟨r2, hc40, hL27⟩ := bd_some hL27
      simp [-aBin', -aBin, -aBinI, -aUn, -aNil, -flatV, n_fn, b_add, b_sub, b_mul, b_lt, b_le, b_gt, b_ge, b_eq, b_ne, u_not, e1_4, e1_5, e1_7, e1_8, e1_20, e1_21, e1_22, a38.pre, (S36.ptup (k := 0) rfl), (S36.ptup (k := 1) rfl)]
      refine CallD.t (F_impl_inserted_1_w (fu := fu) (S36.bxT (k := 0) rfl) (hx2.agree A37.agree) (S36.bxT (k := 1) rfl) hc40) ?_
      rintro _ G42 ⟨a45, rfl, S46⟩
      have A44 := A37.ext (hB.le A37.1) a45.agree
      have S43 : Sep G42 (Fr H) [AL.box p4 [(Value.int .i64 x1)], AL.box p11 [v2], flat v19 3 (ints l1_2)] := S36.app a45.agree S46 (fun _ h => h) (hB.le A37.1)
      obtain ⟨g47, hL27⟩ := gd_some hL27
      have q48 := idxG (P := Try.prog) (kk := .i64) (S43.sl (k := 2) rfl) el_22 sz_3 g47
      obtain ⟨G49, q50, S51, a53⟩ := S43.storeG (f := (Value.int .i64)) (P := Try.prog) (k := 2) (x := r2) rfl (hB.le A44.1) sz_3 g47 rfl rfl
      have A52 := A44.trans a53
      replace S51 : Sep G49 (Fr H) [AL.box p4 [(Value.int .i64 x1)], AL.box p11 [v2], flat v19 3 (ints (lset l1_2 r1 r2))] := S51
      simp [-aBin', -aBin, -aBinI, -aUn, -aNil, -flatV, n_fn, b_add, b_sub, b_mul, b_lt, b_le, b_gt, b_ge, b_eq, b_ne, u_not, e1_4, e1_5, e1_7, e1_8, e1_20, e1_21, e1_22, a38.pre, a45.pre, q48, q50]
      apply hK
      clear hK K
      simp only [andThen, leaves]
      refine DWp.region fun K hK => ?_
      simp [-aBin', -aBin, -aBinI, -aUn, -aNil, -flatV, n_fn, b_add, b_sub, b_mul, b_lt, b_le, b_gt, b_ge, b_eq, b_ne, u_not, e1_4, e1_5, e1_7, e1_8, e1_20, e1_21, e1_22]
      apply hK
      clear hK K
      simp only [andThen, leaves]
      have S54 := S51.pick [0, 1, 2] (by decide) rfl
      exact ⟨n1, Nat.lt_succ_self _, (lset l1_2 r1 r2), (iadd .i64 y1_22 1), hL27, S54, A52, by simp [e1_4, e1_5, e1_7, e1_8, e1_20, e1_21, e1_22], by simp [e1_4, e1_5, e1_7, e1_8, e1_20, e1_21, e1_22], by simp [e1_4, e1_5, e1_7, e1_8, e1_20, e1_21, e1_22], by simp [e1_4, e1_5, e1_7, e1_8, e1_20, e1_21, e1_22], by simp [e1_4, e1_5, e1_7, e1_8, e1_20, e1_21, e1_22], by simp [e1_4, e1_5, e1_7, e1_8, e1_20, e1_21, e1_22], by simp [e1_4, e1_5, e1_7, e1_8, e1_20, e1_21, e1_22]⟩
    · replace hL27 := cd_f hb29 hL27
      refine DWp.exit ?_
      simp only [andThen, leaves, if_true, if_false, reduceIte, Nat.reduceEqDiff]
      obtain rfl := Option.some.inj hL27
      try dsimp only at hF
      refine DWp.seq ?_
      refine DWp.seq ?_
      have q55 := S1_.load0 (P := Try.prog) (k := 1) rfl sz_22 ag_22
      have q56 := lenG (P := Try.prog) (hx2.agree A1_.agree) el_22
      refine DWp.region fun K hK => ?_
      simp [-aBin', -aBin, -aBinI, -aUn, -aNil, -flatV, n_fn, b_add, b_sub, b_mul, b_lt, b_le, b_gt, b_ge, b_eq, b_ne, u_not, e1_4, e1_5, e1_7, e1_8, e1_20, e1_21, e1_22, q55, q56]
      apply hK
      clear hK K
      simp only [andThen, leaves]
      refine DWp.block ?_
      obtain ⟨s57, hL58, hF⟩ := bd_some hF
      have S59 := S1_.pick [0, 2] (by decide) rfl
      refine DWp.loop (fun n env G => ∃ l2_1 : List Int, ∃ y2_38 : Int, F_impl_inserted_L2 fu x1 x2 (llen x2) n l2_1 y2_38 = some s57 ∧ Sep G (Fr H) [AL.box p4 [(Value.int .i64 x1)], flat v19 3 (ints l2_1)] ∧ AgB (Fr H) H G ∧ env 4 = some p4 ∧ env 7 = some v19 ∧ env 36 = some v2 ∧ env 37 = some (Value.int .i64 (llen x2)) ∧ env 38 = some (Value.int .i64 y2_38)) fu ⟨l1_2, 0, hL58, S59, A1_, by simp [e1_4, e1_5, e1_7, e1_8, e1_20, e1_21, e1_22], by simp [e1_4, e1_5, e1_7, e1_8, e1_20, e1_21, e1_22], by simp [e1_4, e1_5, e1_7, e1_8, e1_20, e1_21, e1_22], by simp [e1_4, e1_5, e1_7, e1_8, e1_20, e1_21, e1_22], by simp [e1_4, e1_5, e1_7, e1_8, e1_20, e1_21, e1_22]⟩ ?_
      rintro n1 env1 G1_ ⟨l2_1, y2_38, hL58, S1_, A1_, e1_4, e1_7, e1_36, e1_37, e1_38⟩
      cases n1 with
      | zero => cases hL58
      | succ n1 =>
        simp only [F_impl_inserted_L2] at hL58
        refine DWp.seq ?_
        refine DWp.region fun K hK => ?_
        simp [-aBin', -aBin, -aBinI, -aUn, -aNil, -flatV, n_fn, b_add, b_sub, b_mul, b_lt, b_le, b_gt, b_ge, b_eq, b_ne, u_not, e1_4, e1_7, e1_36, e1_37, e1_38]
        apply hK
        clear hK K
        simp only [andThen, leaves]
        refine DWp.seq ?_
        refine DWp.cond' (t := (ilt y2_38 (llen x2))) (by simp [e1_4, e1_7, e1_36, e1_37, e1_38]) (fun hb60 => ?_) (fun hb60 => ?_)
        · replace hL58 := cd_t hb60 hL58
          refine DWp.skip ?_
          simp only [andThen, leaves]
          refine DWp.seq ?_
          refine DWp.block ?_
          refine DWp.seq ?_
          obtain ⟨g61, hL58⟩ := gd_some hL58
          have q62 := idxG (P := Try.prog) (kk := .i64) (hx2.agree A1_.agree) el_22 sz_3 g61
          have q63 := loadG (P := Try.prog) (hx2.agree A1_.agree) sz_3 ag_3 g61 0
          refine DWp.region fun K hK => ?_
          simp [-aBin', -aBin, -aBinI, -aUn, -aNil, -flatV, n_fn, b_add, b_sub, b_mul, b_lt, b_le, b_gt, b_ge, b_eq, b_ne, u_not, e1_4, e1_7, e1_36, e1_37, e1_38, q62, q63]
          apply hK
          clear hK K
          simp only [andThen, leaves]
          have q64 := S1_.load0 (P := Try.prog) (k := 0) rfl sz_3 ag_3
          have q65 := S1_.load0 (P := Try.prog) (k := 0) rfl sz_3 ag_3
          obtain ⟨g66, hL58⟩ := gd_some hL58
          have q67 := idxG (P := Try.prog) (kk := .i64) (S1_.sl (k := 1) rfl) el_22 sz_3 g66
          obtain ⟨G68, q69, S70, a72⟩ := S1_.storeG (f := (Value.int .i64)) (P := Try.prog) (k := 1) (x := (iadd .i64 x1 (gat 0 x2 y2_38))) rfl (hB.le A1_.1) sz_3 g66 rfl rfl
          have A71 := A1_.trans a72
          replace S70 : Sep G68 (Fr H) [AL.box p4 [(Value.int .i64 x1)], flat v19 3 (ints (lset l2_1 (iadd .i64 x1 y2_38) (iadd .i64 x1 (gat 0 x2 y2_38))))] := S70
          refine DWp.region fun K hK => ?_
          simp [-aBin', -aBin, -aBinI, -aUn, -aNil, -flatV, n_fn, b_add, b_sub, b_mul, b_lt, b_le, b_gt, b_ge, b_eq, b_ne, u_not, e1_4, e1_7, e1_36, e1_37, e1_38, q64, q65, q67, q69]
          apply hK
          clear hK K
          simp only [andThen, leaves]
          refine DWp.region fun K hK => ?_
          simp [-aBin', -aBin, -aBinI, -aUn, -aNil, -flatV, n_fn, b_add, b_sub, b_mul, b_lt, b_le, b_gt, b_ge, b_eq, b_ne, u_not, e1_4, e1_7, e1_36, e1_37, e1_38]
          apply hK
          clear hK K
          simp only [andThen, leaves]
          have S73 := S70.pick [0, 1] (by decide) rfl
          exact ⟨n1, Nat.lt_succ_self _, (lset l2_1 (iadd .i64 x1 y2_38) (iadd .i64 x1 (gat 0 x2 y2_38))), (iadd .i64 y2_38 1), hL58, S73, A71, by simp [e1_4, e1_7, e1_36, e1_37, e1_38], by simp [e1_4, e1_7, e1_36, e1_37, e1_38], by simp [e1_4, e1_7, e1_36, e1_37, e1_38], by simp [e1_4, e1_7, e1_36, e1_37, e1_38], by simp [e1_4, e1_7, e1_36, e1_37, e1_38]⟩
        · replace hL58 := cd_f hb60 hL58
          refine DWp.exit ?_
          simp only [andThen, leaves, if_true, if_false, reduceIte, Nat.reduceEqDiff]
          obtain rfl := Option.some.inj hL58
          try dsimp only at hF
          refine DWp.seq ?_
          refine DWp.region fun K hK => ?_
          simp [-aBin', -aBin, -aBinI, -aUn, -aNil, -flatV, n_fn, b_add, b_sub, b_mul, b_lt, b_le, b_gt, b_ge, b_eq, b_ne, u_not, e1_4, e1_7, e1_36, e1_37, e1_38]
          apply hK
          clear hK K
          simp only [andThen, leaves]
          refine DWp.ret ?_
          obtain rfl := Option.some.inj hF
          exact ⟨by simp, [v19], by simp [e1_4, e1_7, e1_36, e1_37, e1_38, ((S1_.sl (k := 1) rfl).tup)], A1_, v19, rfl, S1_.pick [1] (by decide) rfl⟩
/-! loop.example/g01126/impl.InsertPair -/
def F_impl_InsertPair (fu : Nat) (x0_0 : List Int) (x0_1 : List Int) (x1 : Int) (x2_0 : List Int) (x2_1 : List Int) : Option ((List Int × List Int) × Bool) :=
  bd (
    bd (F_impl_IsPair fu x0_0 x0_1) fun r1 =>
    bif (bnot r1) then
      some true
    else
      bd (F_impl_IsPair fu x2_0 x2_1) fun r2 =>
      bif (bnot r2) then
        some true
      else
        bd (F_impl_in fu x1 0 (llen x0_0)) fun r3 =>
        bif (bnot r3) then
          some true
        else
          some (ilt 12 (iadd .i64 (llen x0_0) (llen x2_0)))) fun s22 =>
  bif s22 then
    some (([], []), false)
  else
    bd (F_impl_inserted fu x0_0 x1 x2_0) fun r4 =>
    bd (F_impl_inserted fu x0_1 x1 x2_1) fun r5 =>
    some ((r4, r5), true)
theorem F_impl_InsertPair_w {fu : Nat} {H : AH} {v0_0 : Value} {v0_1 : Value} {v2_0 : Value} {v2_1 : Value} {x0_0 : List Int} {x0_1 : List Int} {x1 : Int} {x2_0 : List Int} {x2_1 : List Int} {r : ((List Int × List Int) × Bool)} (hx0_0 : Sl H v0_0 (ints x0_0)) (hx0_1 : Sl H v0_1 (ints x0_1)) (hx2_0 : Sl H v2_0 (ints x2_0)) (hx2_1 : Sl H v2_1 (ints x2_1)) (hF : F_impl_InsertPair fu x0_0 x0_1 x1 x2_0 x2_1 = some r) :
    ACallT Try.prog 42 [(Value.agg #[v0_0, v0_1]), (Value.int .i64 x1), (Value.agg #[v2_0, v2_1])] H (fun u G => AgB (Fr H) H G ∧ ∃ u0 : Value, ∃ u1 : Value, u = (Value.tuple #[(Value.agg #[u0, u1]), (Value.bool r.2)]) ∧ Sep G (Fr H) [flat u0 3 (ints r.1.1), flat u1 3 (ints r.1.2)]) := by
  refine ACallT.of_body (nt := 48) (rs := [.cell 6 28, .tmp 7]) Try.func42 rfl rfl rfl rfl ?_
  have A0 : AgB (Fr H) H H := .refl _ _
  have S0 : Sep H (Fr H) [] := .nil
  have hB := Fr.up H
  unfold F_impl_InsertPair at hF
  refine DWp.seq ?_
  obtain ⟨G2, p4, q5, q6, a7, S1⟩ := S0.boxT (hB.le A0.1) 28 [v0_0, v0_1]
  have A3 := A0.ext (hB.le A0.1) a7
  replace S1 : Sep G2 (Fr H) [AL.box p4 [v0_0, v0_1]] := S1
  obtain ⟨G9, p11, q12, q13, a14, S8⟩ := S1.boxT (hB.le A3.1) 28 [v2_0, v2_1]
  have A10 := A3.ext (hB.le A3.1) a14
  replace S8 : Sep G9 (Fr H) [AL.box p4 [v0_0, v0_1], AL.box p11 [v2_0, v2_1]] := S8
  obtain ⟨G16, p18, q19, q21, a20, S15⟩ := S8.allocT (P := Try.prog) (hB.le A10.1) ze_28 rfl
  have A17 := A10.ext (hB.le A10.1) a20
  replace S15 : Sep G16 (Fr H) [AL.box p4 [v0_0, v0_1], AL.box p11 [v2_0, v2_1], AL.box p18 [(Value.slice none 0 0), (Value.slice none 0 0)]] := S15
  refine DWp.region fun K hK => ?_
  simp [-aBin', -aBin, -aBinI, -aUn, -aNil, -flatV, n_fn, b_add, b_sub, b_mul, b_lt, b_le, b_gt, b_ge, b_eq, b_ne, u_not, q5, q6, a7.to_pre, cells_agg, q12, q13, a14.to_pre, q19, q21, a20.to_pre]
  apply hK
  clear hK K
  simp only [andThen, leaves]
  refine DWp.seq ?_
  obtain ⟨s22, hL23, hF⟩ := bd_some hF
  refine DWp.seq (DWp.join (fun env G => Sep G (Fr H) [AL.box p4 [v0_0, v0_1], AL.box p11 [v2_0, v2_1], AL.box p18 [(Value.slice none 0 0), (Value.slice none 0 0)]] ∧ AgB (Fr H) H G ∧ env 1 = some (Value.int .i64 x1) ∧ env 3 = some p4 ∧ env 5 = some p11 ∧ env 6 = some p18 ∧ env 33 = some (Value.bool s22)) ?_ ?_)
  ·
    have q25 := S15.loadAgg (P := Try.prog) (k := 0) rfl sz_28 ag_28 rfl
    obtain ⟨r1, hc26, hL23⟩ := bd_some hL23
    refine DWp.region fun K hK => ?_
    simp [-aBin', -aBin, -aBinI, -aUn, -aNil, -flatV, n_fn, b_add, b_sub, b_mul, b_lt, b_le, b_gt, b_ge, b_eq, b_ne, u_not, q25, ((hx0_0.agree A17.agree).tup), ((hx0_1.agree A17.agree).tup)]
    refine CallD.t (F_impl_IsPair_w (fu := fu) (hx0_0.agree A17.agree) (hx0_1.agree A17.agree) hc26) ?_
    rintro _ G28 ⟨a31, rfl, S32⟩
    have A30 := A17.ext (hB.le A17.1) a31.agree
    have S29 : Sep G28 (Fr H) [AL.box p4 [v0_0, v0_1], AL.box p11 [v2_0, v2_1], AL.box p18 [(Value.slice none 0 0), (Value.slice none 0 0)]] := S15.app a31.agree S32 (fun _ h => h) (hB.le A17.1)
    rcases Bool.eq_false_or_eq_true (bnot r1) with hb33 | hb33
    · replace hL23 := cd_t hb33 hL23
      simp [-aBin', -aBin, -aBinI, -aUn, -aNil, -flatV, n_fn, b_add, b_sub, b_mul, b_lt, b_le, b_gt, b_ge, b_eq, b_ne, u_not, hb33, q25, a31.pre]
      apply hK
      clear hK K
      simp only [andThen, leaves]
      have S34 := S29.pick [0, 1, 2] (by decide) rfl
      obtain rfl := Option.some.inj hL23
      exact ⟨S34, A30, by simp [], by simp [], by simp [], by simp [], by simp []⟩
    · replace hL23 := cd_f hb33 hL23
      have q35 := S29.loadAgg (P := Try.prog) (k := 1) rfl sz_28 ag_28 rfl
      obtain ⟨r2, hc36, hL23⟩ := bd_some hL23
      simp [-aBin', -aBin, -aBinI, -aUn, -aNil, -flatV, n_fn, b_add, b_sub, b_mul, b_lt, b_le, b_gt, b_ge, b_eq, b_ne, u_not, hb33, q25, a31.pre, q35, ((hx2_0.agree A30.agree).tup), ((hx2_1.agree A30.agree).tup)]
      refine CallD.t (F_impl_IsPair_w (fu := fu) (hx2_0.agree A30.agree) (hx2_1.agree A30.agree) hc36) ?_
      rintro _ G38 ⟨a41, rfl, S42⟩
      have A40 := A30.ext (hB.le A30.1) a41.agree
      have S39 : Sep G38 (Fr H) [AL.box p4 [v0_0, v0_1], AL.box p11 [v2_0, v2_1], AL.box p18 [(Value.slice none 0 0), (Value.slice none 0 0)]] := S29.app a41.agree S42 (fun _ h => h) (hB.le A30.1)
      rcases Bool.eq_false_or_eq_true (bnot r2) with hb43 | hb43
      · replace hL23 := cd_t hb43 hL23
        simp [-aBin', -aBin, -aBinI, -aUn, -aNil, -flatV, n_fn, b_add, b_sub, b_mul, b_lt, b_le, b_gt, b_ge, b_eq, b_ne, u_not, hb33, hb43, q25, a31.pre, q35, a41.pre]
        apply hK
        clear hK K
        simp only [andThen, leaves]
        have S44 := S39.pick [0, 1, 2] (by decide) rfl
        obtain rfl := Option.some.inj hL23
        exact ⟨S44, A40, by simp [], by simp [], by simp [], by simp [], by simp []⟩
      · replace hL23 := cd_f hb43 hL23
        have q45 := S39.fieldT (P := Try.prog) (k := 0) rfl fa_28_0
        have q46 := S39.loadF (P := Try.prog) (k := 0) rfl sz_22 ag_22 (off := 0) rfl
        have q47 := lenG (P := Try.prog) (hx0_0.agree A40.agree) el_22
        obtain ⟨r3, hc48, hL23⟩ := bd_some hL23
        simp [-aBin', -aBin, -aBinI, -aUn, -aNil, -flatV, n_fn, b_add, b_sub, b_mul, b_lt, b_le, b_gt, b_ge, b_eq, b_ne, u_not, hb33, hb43, q25, a31.pre, q35, a41.pre, q45, q46, q47]
        refine CallD.t (F_impl_in_w (fu := fu)  hc48) ?_
        rintro _ G50 ⟨a53, rfl, S54⟩
        have A52 := A40.ext (hB.le A40.1) a53.agree
        have S51 : Sep G50 (Fr H) [AL.box p4 [v0_0, v0_1], AL.box p11 [v2_0, v2_1], AL.box p18 [(Value.slice none 0 0), (Value.slice none 0 0)]] := S39.app a53.agree S54 (fun _ h => h) (hB.le A40.1)
        rcases Bool.eq_false_or_eq_true (bnot r3) with hb55 | hb55
        · replace hL23 := cd_t hb55 hL23
          simp [-aBin', -aBin, -aBinI, -aUn, -aNil, -flatV, n_fn, b_add, b_sub, b_mul, b_lt, b_le, b_gt, b_ge, b_eq, b_ne, u_not, hb33, hb43, hb55, q25, a31.pre, q35, a41.pre, q45, q46, q47, a53.pre]
          apply hK
          clear hK K
          simp only [andThen, leaves]
          have S56 := S51.pick [0, 1, 2] (by decide) rfl
          obtain rfl := Option.some.inj hL23
          exact ⟨S56, A52, by simp [], by simp [], by simp [], by simp [], by simp []⟩
        · replace hL23 := cd_f hb55 hL23
          have q57 := S51.fieldT (P := Try.prog) (k := 0) rfl fa_28_0
          have q58 := S51.loadF (P := Try.prog) (k := 0) rfl sz_22 ag_22 (off := 0) rfl
          have q59 := lenG (P := Try.prog) (hx0_0.agree A52.agree) el_22
          have q60 := S51.fieldT (P := Try.prog) (k := 1) rfl fa_28_0
          have q61 := S51.loadF (P := Try.prog) (k := 1) rfl sz_22 ag_22 (off := 0) rfl
          have q62 := lenG (P := Try.prog) (hx2_0.agree A52.agree) el_22
          simp [-aBin', -aBin, -aBinI, -aUn, -aNil, -flatV, n_fn, b_add, b_sub, b_mul, b_lt, b_le, b_gt, b_ge, b_eq, b_ne, u_not, hb33, hb43, hb55, q25, a31.pre, q35, a41.pre, q45, q46, q47, a53.pre, q57, q58, q59, q60, q61, q62]
          apply hK
          clear hK K
          simp only [andThen, leaves]
          have S63 := S51.pick [0, 1, 2] (by decide) rfl
          obtain rfl := Option.some.inj hL23
          exact ⟨S63, A52, by simp [], by simp [], by simp [], by simp [], by simp []⟩
  · rintro env Gj64 ⟨Sj64, Aj64, ej64_1, ej64_3, ej64_5, ej64_6, ej64_33⟩
    refine DWp.cond' (t := s22) (by simp [ej64_1, ej64_3, ej64_5, ej64_6, ej64_33]) (fun hb65 => ?_) (fun hb65 => ?_)
    · replace hF := cd_t hb65 hF
      refine DWp.seq ?_
      obtain ⟨G66, q67, S68, a70⟩ := Sj64.putAgg (P := Try.prog) (k := 2) (xs := [(Value.slice none 0 0), (Value.slice none 0 0)]) rfl (hB.le Aj64.1) sz_28 rfl rfl
      have A69 := Aj64.trans a70
      replace S68 : Sep G66 (Fr H) [AL.box p4 [v0_0, v0_1], AL.box p11 [v2_0, v2_1], AL.box p18 [(Value.slice none 0 0), (Value.slice none 0 0)]] := S68
      refine DWp.region fun K hK => ?_
      simp [-aBin', -aBin, -aBinI, -aUn, -aNil, -flatV, n_fn, b_add, b_sub, b_mul, b_lt, b_le, b_gt, b_ge, b_eq, b_ne, u_not, ej64_1, ej64_3, ej64_5, ej64_6, ej64_33, build0 (cs := [(Value.slice none 0 0), (Value.slice none 0 0)]) pl_28 rfl rfl, q67]
      apply hK
      clear hK K
      simp only [andThen, leaves]
      refine DWp.ret ?_
      simp only [andThen, leaves]
      have q71 := S68.loadAgg (P := Try.prog) (k := 2) rfl sz_28 ag_28 rfl
      have S72 := S68.nilItem (hB.le A69.1) 3
      have S73 := S72.nilItem (hB.le A69.1) 3
      obtain rfl := Option.some.inj hF
      exact ⟨by simp, [(Value.agg #[(Value.slice none 0 0), (Value.slice none 0 0)]), (Value.bool false)], by simp [ej64_1, ej64_3, ej64_5, ej64_6, ej64_33, q71], A69, (Value.slice none 0 0), (Value.slice none 0 0), rfl, S73.pick [3, 4] (by decide) rfl⟩
    · replace hF := cd_f hb65 hF
      refine DWp.skip ?_
      simp only [andThen, leaves]
      refine DWp.seq ?_
      have q74 := Sj64.fieldT (P := Try.prog) (k := 0) rfl fa_28_0
      have q75 := Sj64.loadF (P := Try.prog) (k := 0) rfl sz_22 ag_22 (off := 0) rfl
      have q76 := Sj64.fieldT (P := Try.prog) (k := 1) rfl fa_28_0
      have q77 := Sj64.loadF (P := Try.prog) (k := 1) rfl sz_22 ag_22 (off := 0) rfl
      obtain ⟨r4, hc78, hF⟩ := bd_some hF
      refine DWp.drawn (B := [0, 1, 0, 0, 8, 31, 0, 64, 0, 0, 512, 2047, 4095, 8191, 16383]) 13 mixed (by kernel_rfl) (by decide) fun K hK => ?_
      simp [-aBin', -aBin, -aBinI, -aUn, -aNil, -flatV, n_fn, b_add, b_sub, b_mul, b_lt, b_le, b_gt, b_ge, b_eq, b_ne, u_not, ej64_1, ej64_3, ej64_5, ej64_6, ej64_33, q74, q75, q76, q77, ((hx0_0.agree Aj64.agree).tup), ((hx2_0.agree Aj64.agree).tup)]
      refine CallD.t (F_impl_inserted_w (fu := fu) (hx0_0.agree Aj64.agree) (hx2_0.agree Aj64.agree) hc78) ?_
      rintro c79_u0 G80 ⟨a83, _, rfl, S84⟩
      have A82 := Aj64.ext (hB.le Aj64.1) a83.agree
      have S81 : Sep G80 (Fr H) [AL.box p4 [v0_0, v0_1], AL.box p11 [v2_0, v2_1], AL.box p18 [(Value.slice none 0 0), (Value.slice none 0 0)], flat c79_u0 3 (ints r4)] := Sj64.app a83.agree S84 (fun _ h => h) (hB.le Aj64.1)
      have q85 := S81.fieldT (P := Try.prog) (k := 0) rfl fa_28_1
      have q86 := S81.loadF (P := Try.prog) (k := 0) rfl sz_22 ag_22 (off := 1) rfl
      have q87 := S81.fieldT (P := Try.prog) (k := 1) rfl fa_28_1
      have q88 := S81.loadF (P := Try.prog) (k := 1) rfl sz_22 ag_22 (off := 1) rfl
      obtain ⟨r5, hc89, hF⟩ := bd_some hF
      simp [-aBin', -aBin, -aBinI, -aUn, -aNil, -flatV, n_fn, b_add, b_sub, b_mul, b_lt, b_le, b_gt, b_ge, b_eq, b_ne, u_not, ej64_1, ej64_3, ej64_5, ej64_6, ej64_33, q74, q75, q76, q77, a83.pre, q85, q86, q87, q88, ((hx0_1.agree A82.agree).tup), ((hx2_1.agree A82.agree).tup)]
      refine CallD.t (F_impl_inserted_w (fu := fu) (hx0_1.agree A82.agree) (hx2_1.agree A82.agree) hc89) ?_
      rintro c90_u0 G91 ⟨a94, _, rfl, S95⟩
      have A93 := A82.ext (hB.le A82.1) a94.agree
      have S92 : Sep G91 (Fr H) [AL.box p4 [v0_0, v0_1], AL.box p11 [v2_0, v2_1], AL.box p18 [(Value.slice none 0 0), (Value.slice none 0 0)], flat c79_u0 3 (ints r4), flat c90_u0 3 (ints r5)] := S81.app a94.agree S95 (fun _ h => h) (hB.le A82.1)
      obtain ⟨G96, q97, S98, a100⟩ := S92.putAgg (P := Try.prog) (k := 2) (xs := [c79_u0, c90_u0]) rfl (hB.le A93.1) sz_28 rfl rfl
      have A99 := A93.trans a100
      replace S98 : Sep G96 (Fr H) [AL.box p4 [v0_0, v0_1], AL.box p11 [v2_0, v2_1], AL.box p18 [c79_u0, c90_u0], flat c79_u0 3 (ints r4), flat c90_u0 3 (ints r5)] := S98
      simp [-aBin', -aBin, -aBinI, -aUn, -aNil, -flatV, n_fn, b_add, b_sub, b_mul, b_lt, b_le, b_gt, b_ge, b_eq, b_ne, u_not, ej64_1, ej64_3, ej64_5, ej64_6, ej64_33, q74, q75, q76, q77, a83.pre, q85, q86, q87, q88, a94.pre, bu_28 ((S92.sl (k := 3) rfl).tup) ((S92.sl (k := 3) rfl).one) ((S92.sl (k := 4) rfl).tup) ((S92.sl (k := 4) rfl).one), q97]
      apply hK
      clear hK K
      simp only [andThen, leaves]
      refine DWp.ret ?_
      have q101 := S98.loadAgg (P := Try.prog) (k := 2) rfl sz_28 ag_28 rfl
      obtain rfl := Option.some.inj hF
      exact ⟨by simp, [(Value.agg #[c79_u0, c90_u0]), (Value.bool true)], by simp [ej64_1, ej64_3, ej64_5, ej64_6, ej64_33, q101, ((S98.sl (k := 3) rfl).tup), ((S98.sl (k := 4) rfl).tup)], A99, c79_u0, c90_u0, rfl, S98.pick [3, 4] (by decide) rfl⟩
/-! loop.example/g01126/laws.eqIntS -/
def F_laws_eqIntS_L1 (fu : Nat) (k1_0 : List Int) (k1_1 : List Int) : Nat → Int → Option (LR (Bool) (Int))
  | 0, _ => none
  | n + 1, y1_5 =>
    bif (ilt y1_5 (llen k1_0)) then
      gd (inL k1_0 y1_5) (
      gd (inL k1_1 y1_5) (
      bif (ine (gat 0 k1_0 y1_5) (gat 0 k1_1 y1_5)) then
        some (.ret false)
      else
        F_laws_eqIntS_L1 fu k1_0 k1_1 n (iadd .i64 y1_5 1)))
    else
      some (.brk y1_5)
def F_laws_eqIntS (fu : Nat) (x0 : List Int) (x1 : List Int) : Option (Bool) :=
  bif (ine (llen x0) (llen x1)) then
    some false
  else
    bd (F_laws_eqIntS_L1 fu x0 x1 fu 0) fun s1 =>
    lr s1 fun s1 =>
    some true
theorem F_laws_eqIntS_w {fu : Nat} {H : AH} {v0 : Value} {v1 : Value} {x0 : List Int} {x1 : List Int} {r : (Bool)} (hx0 : Sl H v0 (ints x0)) (hx1 : Sl H v1 (ints x1)) (hF : F_laws_eqIntS fu x0 x1 = some r) :
    ACallT Try.prog 60 [v0, v1] H (fun u G => AgB (Fr H) H G ∧ u = (Value.bool r) ∧ Sep G (Fr H) []) := by
  refine ACallT.of_body (nt := 26) (rs := [.tmp 4]) Try.func60 rfl rfl rfl rfl ?_
  have A0 : AgB (Fr H) H H := .refl _ _
  have S0 : Sep H (Fr H) [] := .nil
  have hB := Fr.up H
  unfold F_laws_eqIntS at hF
  refine DWp.seq ?_
  refine DWp.region fun K hK => ?_
  simp [-aBin', -aBin, -aBinI, -aUn, -aNil, -flatV, n_fn, b_add, b_sub, b_mul, b_lt, b_le, b_gt, b_ge, b_eq, b_ne, u_not]
  apply hK
  clear hK K
  simp only [andThen, leaves]
  refine DWp.seq ?_
  refine DWp.seq ?_
  have q1 := lenG (P := Try.prog) (hx0.agree A0.agree) el_22
  have q2 := lenG (P := Try.prog) (hx1.agree A0.agree) el_22
  refine DWp.region fun K hK => ?_
  simp [-aBin', -aBin, -aBinI, -aUn, -aNil, -flatV, n_fn, b_add, b_sub, b_mul, b_lt, b_le, b_gt, b_ge, b_eq, b_ne, u_not, q1, q2]
  apply hK
  clear hK K
  simp only [andThen, leaves]
  refine DWp.cond' (t := (ine (llen x0) (llen x1))) (by simp []) (fun hb3 => ?_) (fun hb3 => ?_)
  · replace hF := cd_t hb3 hF
    refine DWp.seq ?_
    refine DWp.region fun K hK => ?_
    simp [-aBin', -aBin, -aBinI, -aUn, -aNil, -flatV, n_fn, b_add, b_sub, b_mul, b_lt, b_le, b_gt, b_ge, b_eq, b_ne, u_not]
    apply hK
    clear hK K
    simp only [andThen, leaves]
    refine DWp.ret ?_
    simp only [andThen, leaves]
    obtain rfl := Option.some.inj hF
    exact ⟨by simp, [(Value.bool false)], by simp [], A0, rfl, S0.pick [] (by decide) rfl⟩
  · replace hF := cd_f hb3 hF
    refine DWp.skip ?_
    simp only [andThen, leaves]
    refine DWp.seq ?_
    refine DWp.seq ?_
    refine DWp.region fun K hK => ?_
    simp [-aBin', -aBin, -aBinI, -aUn, -aNil, -flatV, n_fn, b_add, b_sub, b_mul, b_lt, b_le, b_gt, b_ge, b_eq, b_ne, u_not]
    apply hK
    clear hK K
    simp only [andThen, leaves]
    refine DWp.block ?_
    obtain ⟨s4, hL5, hF⟩ := bd_some hF
    have S6 := S0.pick [] (by decide) rfl
    refine DWp.loop (fun n env G => ∃ y1_5 : Int, F_laws_eqIntS_L1 fu x0 x1 n y1_5 = some s4 ∧ Sep G (Fr H) [] ∧ AgB (Fr H) H G ∧ env 0 = some v0 ∧ env 1 = some v1 ∧ env 5 = some (Value.int .i64 y1_5)) fu ⟨0, hL5, S6, A0, by simp [], by simp [], by simp []⟩ ?_
    rintro n1 env1 G1_ ⟨y1_5, hL5, S1_, A1_, e1_0, e1_1, e1_5⟩
    cases n1 with
    | zero => cases hL5
    | succ n1 =>
      simp only [F_laws_eqIntS_L1] at hL5
      refine DWp.seq ?_
      refine DWp.seq ?_
      have q7 := lenG (P := Try.prog) (hx0.agree A1_.agree) el_22
      refine DWp.region fun K hK => ?_
      simp [-aBin', -aBin, -aBinI, -aUn, -aNil, -flatV, n_fn, b_add, b_sub, b_mul, b_lt, b_le, b_gt, b_ge, b_eq, b_ne, u_not, e1_0, e1_1, e1_5, q7]
      apply hK
      clear hK K
      simp only [andThen, leaves]
      refine DWp.cond' (t := (ilt y1_5 (llen x0))) (by simp [e1_0, e1_1, e1_5]) (fun hb8 => ?_) (fun hb8 => ?_)
      · replace hL5 := cd_t hb8 hL5
        refine DWp.skip ?_
        simp only [andThen, leaves]
        refine DWp.seq ?_
        refine DWp.block ?_
        refine DWp.seq ?_
        obtain ⟨g9, hL5⟩ := gd_some hL5
        have q10 := idxG (P := Try.prog) (kk := .i64) (hx0.agree A1_.agree) el_22 sz_3 g9
        have q11 := loadG (P := Try.prog) (hx0.agree A1_.agree) sz_3 ag_3 g9 0
        obtain ⟨g12, hL5⟩ := gd_some hL5
        have q13 := idxG (P := Try.prog) (kk := .i64) (hx1.agree A1_.agree) el_22 sz_3 g12
        have q14 := loadG (P := Try.prog) (hx1.agree A1_.agree) sz_3 ag_3 g12 0
        refine DWp.drawn (B := [0, 0, 3, 7, 0, 0, 48, 112, 255]) 9 mixed (by kernel_rfl) (by decide) fun K hK => ?_
        simp [-aBin', -aBin, -aBinI, -aUn, -aNil, -flatV, n_fn, b_add, b_sub, b_mul, b_lt, b_le, b_gt, b_ge, b_eq, b_ne, u_not, e1_0, e1_1, e1_5, q10, q11, q13, q14]
        apply hK
        clear hK K
        simp only [andThen, leaves]
        refine DWp.cond' (t := (ine (gat 0 x0 y1_5) (gat 0 x1 y1_5))) (by simp [e1_0, e1_1, e1_5]) (fun hb15 => ?_) (fun hb15 => ?_)
        · replace hL5 := cd_t hb15 hL5
          refine DWp.seq ?_
          refine DWp.region fun K hK => ?_
          simp [-aBin', -aBin, -aBinI, -aUn, -aNil, -flatV, n_fn, b_add, b_sub, b_mul, b_lt, b_le, b_gt, b_ge, b_eq, b_ne, u_not, e1_0, e1_1, e1_5]
          apply hK
          clear hK K
          simp only [andThen, leaves]
          refine DWp.ret ?_
          simp only [andThen, leaves]
          obtain rfl := Option.some.inj hL5
          simp only [lr] at hF
          obtain rfl := Option.some.inj hF
          exact ⟨by simp, [(Value.bool false)], by simp [e1_0, e1_1, e1_5], A1_, rfl, S1_.pick [] (by decide) rfl⟩
        · replace hL5 := cd_f hb15 hL5
          refine DWp.skip ?_
          simp only [andThen, leaves]
          refine DWp.region fun K hK => ?_
          simp [-aBin', -aBin, -aBinI, -aUn, -aNil, -flatV, n_fn, b_add, b_sub, b_mul, b_lt, b_le, b_gt, b_ge, b_eq, b_ne, u_not, e1_0, e1_1, e1_5]
          apply hK
          clear hK K
          simp only [andThen, leaves]
          have S16 := S1_.pick [] (by decide) rfl
          exact ⟨n1, Nat.lt_succ_self _, (iadd .i64 y1_5 1), hL5, S16, A1_, by simp [e1_0, e1_1, e1_5], by simp [e1_0, e1_1, e1_5], by simp [e1_0, e1_1, e1_5]⟩
      · replace hL5 := cd_f hb8 hL5
        refine DWp.exit ?_
        simp only [andThen, leaves, if_true, if_false, reduceIte, Nat.reduceEqDiff]
        obtain rfl := Option.some.inj hL5
        simp only [lr] at hF
        refine DWp.seq ?_
        refine DWp.region fun K hK => ?_
        simp [-aBin', -aBin, -aBinI, -aUn, -aNil, -flatV, n_fn, b_add, b_sub, b_mul, b_lt, b_le, b_gt, b_ge, b_eq, b_ne, u_not, e1_0, e1_1, e1_5]
        apply hK
        clear hK K
        simp only [andThen, leaves]
        refine DWp.ret ?_
        obtain rfl := Option.some.inj hF
        exact ⟨by simp, [(Value.bool true)], by simp [e1_0, e1_1, e1_5], A1_, rfl, S1_.pick [] (by decide) rfl⟩
/-! loop.example/g01126/laws.eqMeander -/
def F_laws_eqMeander (fu : Nat) (x0_0 : List Int) (x0_1 : List Int) (x1_0 : List Int) (x1_1 : List Int) : Option (Bool) :=
  bd (F_laws_eqIntS fu x0_0 x1_0) fun r1 =>
  bif (bnot r1) then
    some false
  else
    bd (F_laws_eqIntS fu x0_1 x1_1) fun r2 =>
    bif (bnot r2) then
      some false
    else
      some true
theorem F_laws_eqMeander_w {fu : Nat} {H : AH} {v0_0 : Value} {v0_1 : Value} {v1_0 : Value} {v1_1 : Value} {x0_0 : List Int} {x0_1 : List Int} {x1_0 : List Int} {x1_1 : List Int} {r : (Bool)} (hx0_0 : Sl H v0_0 (ints x0_0)) (hx0_1 : Sl H v0_1 (ints x0_1)) (hx1_0 : Sl H v1_0 (ints x1_0)) (hx1_1 : Sl H v1_1 (ints x1_1)) (hF : F_laws_eqMeander fu x0_0 x0_1 x1_0 x1_1 = some r) :
    ACallT Try.prog 25 [(Value.agg #[v0_0, v0_1]), (Value.agg #[v1_0, v1_1])] H (fun u G => AgB (Fr H) H G ∧ u = (Value.bool r) ∧ Sep G (Fr H) []) := by
  refine ACallT.of_body (nt := 17) (rs := [.tmp 4]) Try.func25 rfl rfl rfl rfl ?_
  have A0 : AgB (Fr H) H H := .refl _ _
  have S0 : Sep H (Fr H) [] := .nil
  have hB := Fr.up H
  unfold F_laws_eqMeander at hF
  refine DWp.seq ?_
  obtain ⟨G2, p4, q5, q6, a7, S1⟩ := S0.boxT (hB.le A0.1) 28 [v0_0, v0_1]
  have A3 := A0.ext (hB.le A0.1) a7
  replace S1 : Sep G2 (Fr H) [AL.box p4 [v0_0, v0_1]] := S1
  obtain ⟨G9, p11, q12, q13, a14, S8⟩ := S1.boxT (hB.le A3.1) 28 [v1_0, v1_1]
  have A10 := A3.ext (hB.le A3.1) a14
  replace S8 : Sep G9 (Fr H) [AL.box p4 [v0_0, v0_1], AL.box p11 [v1_0, v1_1]] := S8
  refine DWp.region fun K hK => ?_
  simp [-aBin', -aBin, -aBinI, -aUn, -aNil, -flatV, n_fn, b_add, b_sub, b_mul, b_lt, b_le, b_gt, b_ge, b_eq, b_ne, u_not, q5, q6, a7.to_pre, cells_agg, q12, q13, a14.to_pre]
  apply hK
  clear hK K
  simp only [andThen, leaves]
  refine DWp.seq ?_
  refine DWp.seq ?_
  have q15 := S8.fieldT (P := Try.prog) (k := 0) rfl fa_28_0
  have q16 := S8.loadF (P := Try.prog) (k := 0) rfl sz_22 ag_22 (off := 0) rfl
  have q17 := S8.fieldT (P := Try.prog) (k := 1) rfl fa_28_0
  have q18 := S8.loadF (P := Try.prog) (k := 1) rfl sz_22 ag_22 (off := 0) rfl
  obtain ⟨r1, hc19, hF⟩ := bd_some hF
  refine DWp.region fun K hK => ?_
  simp [-aBin', -aBin, -aBinI, -aUn, -aNil, -flatV, n_fn, b_add, b_sub, b_mul, b_lt, b_le, b_gt, b_ge, b_eq, b_ne, u_not, q15, q16, q17, q18, ((hx0_0.agree A10.agree).tup), ((hx1_0.agree A10.agree).tup)]
  refine CallD.t (F_laws_eqIntS_w (fu := fu) (hx0_0.agree A10.agree) (hx1_0.agree A10.agree) hc19) ?_
  rintro _ G21 ⟨a24, rfl, S25⟩
  have A23 := A10.ext (hB.le A10.1) a24.agree
  have S22 : Sep G21 (Fr H) [AL.box p4 [v0_0, v0_1], AL.box p11 [v1_0, v1_1]] := S8.app a24.agree S25 (fun _ h => h) (hB.le A10.1)
  simp [-aBin', -aBin, -aBinI, -aUn, -aNil, -flatV, n_fn, b_add, b_sub, b_mul, b_lt, b_le, b_gt, b_ge, b_eq, b_ne, u_not, q15, q16, q17, q18, a24.pre]
  apply hK
  clear hK K
  simp only [andThen, leaves]
  refine DWp.cond' (t := (bnot r1)) (by simp []) (fun hb26 => ?_) (fun hb26 => ?_)
  · replace hF := cd_t hb26 hF
    refine DWp.seq ?_
    refine DWp.region fun K hK => ?_
    simp [-aBin', -aBin, -aBinI, -aUn, -aNil, -flatV, n_fn, b_add, b_sub, b_mul, b_lt, b_le, b_gt, b_ge, b_eq, b_ne, u_not]
    apply hK
    clear hK K
    simp only [andThen, leaves]
    refine DWp.ret ?_
    simp only [andThen, leaves]
    obtain rfl := Option.some.inj hF
    exact ⟨by simp, [(Value.bool false)], by simp [], A23, rfl, S22.pick [] (by decide) rfl⟩
  · replace hF := cd_f hb26 hF
    refine DWp.skip ?_
    simp only [andThen, leaves]
    refine DWp.seq ?_
    refine DWp.seq ?_
    have q27 := S22.fieldT (P := Try.prog) (k := 0) rfl fa_28_1
    have q28 := S22.loadF (P := Try.prog) (k := 0) rfl sz_22 ag_22 (off := 1) rfl
    have q29 := S22.fieldT (P := Try.prog) (k := 1) rfl fa_28_1
    have q30 := S22.loadF (P := Try.prog) (k := 1) rfl sz_22 ag_22 (off := 1) rfl
    obtain ⟨r2, hc31, hF⟩ := bd_some hF
    refine DWp.region fun K hK => ?_
    simp [-aBin', -aBin, -aBinI, -aUn, -aNil, -flatV, n_fn, b_add, b_sub, b_mul, b_lt, b_le, b_gt, b_ge, b_eq, b_ne, u_not, q27, q28, q29, q30, ((hx0_1.agree A23.agree).tup), ((hx1_1.agree A23.agree).tup)]
    refine CallD.t (F_laws_eqIntS_w (fu := fu) (hx0_1.agree A23.agree) (hx1_1.agree A23.agree) hc31) ?_
    rintro _ G33 ⟨a36, rfl, S37⟩
    have A35 := A23.ext (hB.le A23.1) a36.agree
    have S34 : Sep G33 (Fr H) [AL.box p4 [v0_0, v0_1], AL.box p11 [v1_0, v1_1]] := S22.app a36.agree S37 (fun _ h => h) (hB.le A23.1)
    simp [-aBin', -aBin, -aBinI, -aUn, -aNil, -flatV, n_fn, b_add, b_sub, b_mul, b_lt, b_le, b_gt, b_ge, b_eq, b_ne, u_not, q27, q28, q29, q30, a36.pre]
    apply hK
    clear hK K
    simp only [andThen, leaves]
    refine DWp.cond' (t := (bnot r2)) (by simp []) (fun hb38 => ?_) (fun hb38 => ?_)
    · replace hF := cd_t hb38 hF
      refine DWp.seq ?_
      refine DWp.region fun K hK => ?_
      simp [-aBin', -aBin, -aBinI, -aUn, -aNil, -flatV, n_fn, b_add, b_sub, b_mul, b_lt, b_le, b_gt, b_ge, b_eq, b_ne, u_not]
      apply hK
      clear hK K
      simp only [andThen, leaves]
      refine DWp.ret ?_
      simp only [andThen, leaves]
      obtain rfl := Option.some.inj hF
      exact ⟨by simp, [(Value.bool false)], by simp [], A35, rfl, S34.pick [] (by decide) rfl⟩
    · replace hF := cd_f hb38 hF
      refine DWp.skip ?_
      simp only [andThen, leaves]
      refine DWp.seq ?_
      refine DWp.region fun K hK => ?_
      simp [-aBin', -aBin, -aBinI, -aUn, -aNil, -flatV, n_fn, b_add, b_sub, b_mul, b_lt, b_le, b_gt, b_ge, b_eq, b_ne, u_not]
      apply hK
      clear hK K
      simp only [andThen, leaves]
      refine DWp.ret ?_
      obtain rfl := Option.some.inj hF
      exact ⟨by simp, [(Value.bool true)], by simp [], A35, rfl, S34.pick [] (by decide) rfl⟩
/-! loop.example/g01126/laws.markIntS -/
def F_laws_markIntS_L1 (fu : Nat)  : Nat → List Int → Int → Int → Option (List Int × Int × Int)
  | 0, _, _, _ => none
  | n + 1, l1_0, y1_1, y1_5 =>
    bif (ilt y1_5 (llen l1_0)) then
      gd (inL l1_0 y1_5) (
      F_laws_markIntS_L1 fu n (lset l1_0 y1_5 y1_1) (iadd .i64 y1_1 1) (iadd .i64 y1_5 1))
    else
      some (l1_0, y1_1, y1_5)
def F_laws_markIntS (fu : Nat) (x0 : List Int) (x1 : Int) : Option (Int × List Int) :=
  bd (F_laws_markIntS_L1 fu fu x0 x1 0) fun s1 =>
  some (s1.2.1, s1.1)
theorem F_laws_markIntS_w {fu : Nat} {H : AH} {B : Nat → Prop} {v0 : Value} {x0 : List Int} {x1 : Int} {r : (Int × List Int)} (hB : Up B H.length) (S0 : Sep H B [flat v0 3 (ints x0)]) (hF : F_laws_markIntS fu x0 x1 = some r) :
    ACallT Try.prog 61 [v0, (Value.int .i64 x1)] H (fun u G => AgB B H G ∧ u = (Value.int .i64 r.1) ∧ Sep G B [flat v0 3 (ints r.2)]) := by
  refine ACallT.of_body (nt := 19) (rs := [.tmp 4]) Try.func61 rfl rfl rfl rfl ?_
  have A0 : AgB B H H := .refl _ _
  unfold F_laws_markIntS at hF
  refine DWp.seq ?_
  refine DWp.region fun K hK => ?_
  simp [-aBin', -aBin, -aBinI, -aUn, -aNil, -flatV, n_fn, b_add, b_sub, b_mul, b_lt, b_le, b_gt, b_ge, b_eq, b_ne, u_not]
  apply hK
  clear hK K
  simp only [andThen, leaves]
  refine DWp.seq ?_
  refine DWp.seq ?_
  refine DWp.region fun K hK => ?_
  simp [-aBin', -aBin, -aBinI, -aUn, -aNil, -flatV, n_fn, b_add, b_sub, b_mul, b_lt, b_le, b_gt, b_ge, b_eq, b_ne, u_not]
  apply hK
  clear hK K
  simp only [andThen, leaves]
  refine DWp.block ?_
  obtain ⟨s1, hL2, hF⟩ := bd_some hF
  have S3 := S0.pick [0] (by decide) rfl
  refine DWp.loop (fun n env G => ∃ l1_0 : List Int, ∃ y1_1 : Int, ∃ y1_5 : Int, F_laws_markIntS_L1 fu n l1_0 y1_1 y1_5 = some s1 ∧ Sep G B [flat v0 3 (ints l1_0)] ∧ AgB B H G ∧ env 0 = some v0 ∧ env 1 = some (Value.int .i64 y1_1) ∧ env 5 = some (Value.int .i64 y1_5)) fu ⟨x0, x1, 0, hL2, S3, A0, by simp [], by simp [], by simp []⟩ ?_
  rintro n1 env1 G1_ ⟨l1_0, y1_1, y1_5, hL2, S1_, A1_, e1_0, e1_1, e1_5⟩
  cases n1 with
  | zero => cases hL2
  | succ n1 =>
    simp only [F_laws_markIntS_L1] at hL2
    refine DWp.seq ?_
    refine DWp.seq ?_
    have q4 := lenG (P := Try.prog) (S1_.sl (k := 0) rfl) el_22
    refine DWp.region fun K hK => ?_
    simp [-aBin', -aBin, -aBinI, -aUn, -aNil, -flatV, n_fn, b_add, b_sub, b_mul, b_lt, b_le, b_gt, b_ge, b_eq, b_ne, u_not, e1_0, e1_1, e1_5, q4]
    apply hK
    clear hK K
    simp only [andThen, leaves]
    refine DWp.cond' (t := (ilt y1_5 (llen l1_0))) (by simp [e1_0, e1_1, e1_5]) (fun hb5 => ?_) (fun hb5 => ?_)
    · replace hL2 := cd_t hb5 hL2
      refine DWp.skip ?_
      simp only [andThen, leaves]
      refine DWp.seq ?_
      refine DWp.block ?_
      refine DWp.seq ?_
      obtain ⟨g6, hL2⟩ := gd_some hL2
      have q7 := idxG (P := Try.prog) (kk := .i64) (S1_.sl (k := 0) rfl) el_22 sz_3 g6
      obtain ⟨G8, q9, S10, a12⟩ := S1_.storeG (f := (Value.int .i64)) (P := Try.prog) (k := 0) (x := y1_1) rfl (hB.le A1_.1) sz_3 g6 rfl rfl
      have A11 := A1_.trans a12
      replace S10 : Sep G8 B [flat v0 3 (ints (lset l1_0 y1_5 y1_1))] := S10
      refine DWp.region fun K hK => ?_
      simp [-aBin', -aBin, -aBinI, -aUn, -aNil, -flatV, n_fn, b_add, b_sub, b_mul, b_lt, b_le, b_gt, b_ge, b_eq, b_ne, u_not, e1_0, e1_1, e1_5, q7, q9]
      apply hK
      clear hK K
      simp only [andThen, leaves]
      refine DWp.region fun K hK => ?_
      simp [-aBin', -aBin, -aBinI, -aUn, -aNil, -flatV, n_fn, b_add, b_sub, b_mul, b_lt, b_le, b_gt, b_ge, b_eq, b_ne, u_not, e1_0, e1_1, e1_5]
      apply hK
      clear hK K
      simp only [andThen, leaves]
      refine DWp.region fun K hK => ?_
      simp [-aBin', -aBin, -aBinI, -aUn, -aNil, -flatV, n_fn, b_add, b_sub, b_mul, b_lt, b_le, b_gt, b_ge, b_eq, b_ne, u_not, e1_0, e1_1, e1_5]
      apply hK
      clear hK K
      simp only [andThen, leaves]
      have S13 := S10.pick [0] (by decide) rfl
      exact ⟨n1, Nat.lt_succ_self _, (lset l1_0 y1_5 y1_1), (iadd .i64 y1_1 1), (iadd .i64 y1_5 1), hL2, S13, A11, by simp [e1_0, e1_1, e1_5], by simp [e1_0, e1_1, e1_5], by simp [e1_0, e1_1, e1_5]⟩
    · replace hL2 := cd_f hb5 hL2
      refine DWp.exit ?_
      simp only [andThen, leaves, if_true, if_false, reduceIte, Nat.reduceEqDiff]
      obtain rfl := Option.some.inj hL2
      try dsimp only at hF
      refine DWp.seq ?_
      refine DWp.region fun K hK => ?_
      simp [-aBin', -aBin, -aBinI, -aUn, -aNil, -flatV, n_fn, b_add, b_sub, b_mul, b_lt, b_le, b_gt, b_ge, b_eq, b_ne, u_not, e1_0, e1_1, e1_5]
      apply hK
      clear hK K
      simp only [andThen, leaves]
      refine DWp.ret ?_
      obtain rfl := Option.some.inj hF
      exact ⟨by simp, [(Value.int .i64 y1_1)], by simp [e1_0, e1_1, e1_5], A1_, rfl, S1_.pick [0] (by decide) rfl⟩
end Go.Proofs.Ytbckijeffiofdaa.AL

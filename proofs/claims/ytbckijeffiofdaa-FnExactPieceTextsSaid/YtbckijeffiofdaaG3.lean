/- The walks of functions, each with its Lean function: impl.isSystem, impl.IsSystem, impl.IsPair, impl.isCut, impl.Meander).isClosed, impl.Meander).stretches, impl.Meander).shortest, impl.Meander).kept$1, impl.without, impl.Meander).kept. No condition. -/
import Derived.Test.YtbckijeffiofdaaG1
import Derived.Test.YtbckijeffiofdaaG2
import Derived.Test.YtbckijeffiofdaaALC
import Derived.Test.YtbckijeffiofdaaProg
import Derived.KernelRfl
namespace Go.Proofs.Ytbckijeffiofdaa.AL
open Go Go.RowKit
set_option linter.unusedVariables false
set_option linter.unusedSimpArgs false
set_option maxRecDepth 4096
theorem ag_53 : aggT Try.prog 53 = some false := by kernel_rfl
theorem sz_53 : sizeT Try.prog 53 = some 1 := by kernel_rfl
theorem us_22 : Try.prog.underlying 22 = some (.slice 3) := by kernel_rfl
def F_impl_isSystem_L3 (fu : Nat) (k3_0 : List Int) (k3_1 : Int) (k3_2 : Int) (k3_3 : Int) : Nat → Int → Option (LR (LR (Bool) (Int)) (Int))
  | 0, _ => none
  | n + 1, y3_7 =>
    bif (ilt y3_7 k3_2) then
      gd (inL k3_0 y3_7) (
      bd (F_impl_in fu (gat 0 k3_0 y3_7) k3_1 k3_2) fun r2 =>
      bif (bnot r2) then
        some (.ret (.ret false))
      else
        F_impl_isSystem_L3 fu k3_0 k3_1 k3_2 k3_3 n (iadd .i64 y3_7 1))
    else
      some (.brk y3_7)
def F_impl_isSystem_L2 (fu : Nat) (k2_0 : List Int) (k2_1 : Int) : Nat → Int → Option (LR (Bool) (Int))
  | 0, _ => none
  | n + 1, y2_37 =>
    bif (ilt y2_37 k2_1) then
      gd (inL k2_0 y2_37) (
      bd (F_impl_isSystem_L3 fu k2_0 y2_37 (gat 0 k2_0 y2_37) k2_1 fu (iadd .i64 y2_37 1)) fun s3 =>
      lr s3 fun s3 =>
      F_impl_isSystem_L2 fu k2_0 k2_1 n (iadd .i64 y2_37 1))
    else
      some (.brk y2_37)
def F_impl_isSystem_L1 (fu : Nat) (k1_0 : List Int) (k1_1 : Int) : Nat → Int → Option (LR (Bool) (Int))
  | 0, _ => none
  | n + 1, y1_10 =>
    bif (ilt y1_10 k1_1) then
      gd (inL k1_0 y1_10) (
      bd (
        bd (F_impl_in fu (gat 0 k1_0 y1_10) 0 (isub .i64 (llen k1_0) 1)) fun r1 =>
        bif (bnot r1) then
          some true
        else
          bif (ieq (gat 0 k1_0 y1_10) y1_10) then
            some true
          else
            gd (inL k1_0 (gat 0 k1_0 y1_10)) (
            some (ine (gat 0 k1_0 (gat 0 k1_0 y1_10)) y1_10))) fun s9 =>
      bif s9 then
        some (.ret false)
      else
        F_impl_isSystem_L1 fu k1_0 k1_1 n (iadd .i64 y1_10 1))
    else
      some (.brk y1_10)
def F_impl_isSystem (fu : Nat) (x0 : List Int) : Option (Bool) :=
  bd (F_impl_isSystem_L1 fu x0 (llen x0) fu 0) fun s1 =>
  lr s1 fun s1 =>
  bd (F_impl_isSystem_L2 fu x0 (llen x0) fu 0) fun s2 =>
  lr s2 fun s2 =>
  some true
theorem F_impl_isSystem_w {fu : Nat} {H : AH} {v0 : Value} {x0 : List Int} {r : (Bool)} (hx0 : Sl H v0 (ints x0)) (hF : F_impl_isSystem fu x0 = some r) :
    ACallT Try.prog 162 [v0] H (fun u G => AgB (Fr H) H G ∧ u = (Value.bool r) ∧ Sep G (Fr H) []) := by
  refine ACallT.of_body (nt := 58) (rs := [.tmp 2]) Try.func162 rfl rfl rfl rfl ?_
  have A0 : AgB (Fr H) H H := .refl _ _
  have S0 : Sep H (Fr H) [] := .nil
  have hB := Fr.up H
  unfold F_impl_isSystem at hF
  refine DWp.seq ?_
  refine DWp.region fun K hK => ?_
  simp [-aBin', -aBin, -aBinI, -aUn, -aNil, -flatV, n_fn, b_add, b_sub, b_mul, b_lt, b_le, b_gt, b_ge, b_eq, b_ne, u_not]
  apply hK
  clear hK K
  simp only [andThen, leaves]
  refine DWp.seq ?_
  refine DWp.seq ?_
  have q1 := lenG (P := Try.prog) (hx0.agree A0.agree) el_22
  refine DWp.region fun K hK => ?_
  simp [-aBin', -aBin, -aBinI, -aUn, -aNil, -flatV, n_fn, b_add, b_sub, b_mul, b_lt, b_le, b_gt, b_ge, b_eq, b_ne, u_not, q1]
  apply hK
  clear hK K
  simp only [andThen, leaves]
  refine DWp.block ?_
  obtain ⟨s2, hL3, hF⟩ := bd_some hF
  have S4 := S0.pick [] (by decide) rfl
  refine DWp.loop (fun n env G => ∃ y1_10 : Int, F_impl_isSystem_L1 fu x0 (llen x0) n y1_10 = some s2 ∧ Sep G (Fr H) [] ∧ AgB (Fr H) H G ∧ env 0 = some v0 ∧ env 8 = some v0 ∧ env 9 = some (Value.int .i64 (llen x0)) ∧ env 10 = some (Value.int .i64 y1_10)) fu ⟨0, hL3, S4, A0, by simp [], by simp [], by simp [], by simp []⟩ ?_
  rintro n1 env1 G1_ ⟨y1_10, hL3, S1_, A1_, e1_0, e1_8, e1_9, e1_10⟩
  cases n1 with
  | zero => cases hL3
  | succ n1 =>
    simp only [F_impl_isSystem_L1] at hL3
    refine DWp.seq ?_
    refine DWp.region fun K hK => ?_
    simp [-aBin', -aBin, -aBinI, -aUn, -aNil, -flatV, n_fn, b_add, b_sub, b_mul, b_lt, b_le, b_gt, b_ge, b_eq, b_ne, u_not, e1_0, e1_8, e1_9, e1_10]
    apply hK
    clear hK K
    simp only [andThen, leaves]
    refine DWp.seq ?_
    refine DWp.cond' (t := (ilt y1_10 (llen x0))) (by simp [e1_0, e1_8, e1_9, e1_10]) (fun hb5 => ?_) (fun hb5 => ?_)
    · replace hL3 := cd_t hb5 hL3
      refine DWp.skip ?_
      simp only [andThen, leaves]
      refine DWp.seq ?_
      refine DWp.block ?_
      refine DWp.seq ?_
      obtain ⟨g6, hL3⟩ := gd_some hL3
      have q7 := idxG (P := Try.prog) (kk := .i64) (hx0.agree A1_.agree) el_22 sz_3 g6
      have q8 := loadG (P := Try.prog) (hx0.agree A1_.agree) sz_3 ag_3 g6 0
      refine DWp.region fun K hK => ?_
      simp [-aBin', -aBin, -aBinI, -aUn, -aNil, -flatV, n_fn, b_add, b_sub, b_mul, b_lt, b_le, b_gt, b_ge, b_eq, b_ne, u_not, e1_0, e1_8, e1_9, e1_10, q7, q8]
      apply hK
      clear hK K
      simp only [andThen, leaves]
      obtain ⟨s9, hL10, hL3⟩ := bd_some hL3
      refine DWp.seq (DWp.join (fun env G => Sep G (Fr H) [] ∧ AgB (Fr H) H G ∧ env 0 = some v0 ∧ env 8 = some v0 ∧ env 9 = some (Value.int .i64 (llen x0)) ∧ env 10 = some (Value.int .i64 y1_10) ∧ env 33 = some (Value.bool s9)) ?_ ?_)
      ·
        have q12 := lenG (P := Try.prog) (hx0.agree A1_.agree) el_22
        obtain ⟨r1, hc13, hL10⟩ := bd_some hL10
        refine DWp.region fun K hK => ?_
        simp [-aBin', -aBin, -aBinI, -aUn, -aNil, -flatV, n_fn, b_add, b_sub, b_mul, b_lt, b_le, b_gt, b_ge, b_eq, b_ne, u_not, e1_0, e1_8, e1_9, e1_10, q12]
        refine CallD.t (F_impl_in_w (fu := fu)  hc13) ?_
        rintro _ G15 ⟨a18, rfl, S19⟩
        have A17 := A1_.ext (hB.le A1_.1) a18.agree
        have S16 : Sep G15 (Fr H) [] := S1_.app a18.agree S19 (fun _ h => h) (hB.le A1_.1)
        rcases Bool.eq_false_or_eq_true (bnot r1) with hb20 | hb20
        · replace hL10 := cd_t hb20 hL10
          simp [-aBin', -aBin, -aBinI, -aUn, -aNil, -flatV, n_fn, b_add, b_sub, b_mul, b_lt, b_le, b_gt, b_ge, b_eq, b_ne, u_not, e1_0, e1_8, e1_9, e1_10, hb20, q12, a18.pre]
          apply hK
          clear hK K
          simp only [andThen, leaves]
          have S21 := S16.pick [] (by decide) rfl
          obtain rfl := Option.some.inj hL10
          exact ⟨S21, A17, by simp [e1_0, e1_8, e1_9, e1_10], by simp [e1_0, e1_8, e1_9, e1_10], by simp [e1_0, e1_8, e1_9, e1_10], by simp [e1_0, e1_8, e1_9, e1_10], by simp [e1_0, e1_8, e1_9, e1_10]⟩
        · replace hL10 := cd_f hb20 hL10
          rcases Bool.eq_false_or_eq_true (ieq (gat 0 x0 y1_10) y1_10) with hb22 | hb22
          · replace hL10 := cd_t hb22 hL10
            simp [-aBin', -aBin, -aBinI, -aUn, -aNil, -flatV, n_fn, b_add, b_sub, b_mul, b_lt, b_le, b_gt, b_ge, b_eq, b_ne, u_not, e1_0, e1_8, e1_9, e1_10, hb20, hb22, q12, a18.pre]
            apply hK
            clear hK K
            simp only [andThen, leaves]
            have S23 := S16.pick [] (by decide) rfl
            obtain rfl := Option.some.inj hL10
            exact ⟨S23, A17, by simp [e1_0, e1_8, e1_9, e1_10], by simp [e1_0, e1_8, e1_9, e1_10], by simp [e1_0, e1_8, e1_9, e1_10], by simp [e1_0, e1_8, e1_9, e1_10], by simp [e1_0, e1_8, e1_9, e1_10]⟩
          · replace hL10 := cd_f hb22 hL10
            obtain ⟨g24, hL10⟩ := gd_some hL10
            have q25 := idxG (P := Try.prog) (kk := .i64) (hx0.agree A17.agree) el_22 sz_3 g24
            have q26 := loadG (P := Try.prog) (hx0.agree A17.agree) sz_3 ag_3 g24 0
            simp [-aBin', -aBin, -aBinI, -aUn, -aNil, -flatV, n_fn, b_add, b_sub, b_mul, b_lt, b_le, b_gt, b_ge, b_eq, b_ne, u_not, e1_0, e1_8, e1_9, e1_10, hb20, hb22, q12, a18.pre, q25, q26]
            apply hK
            clear hK K
            simp only [andThen, leaves]
            have S27 := S16.pick [] (by decide) rfl
            obtain rfl := Option.some.inj hL10
            exact ⟨S27, A17, by simp [e1_0, e1_8, e1_9, e1_10], by simp [e1_0, e1_8, e1_9, e1_10], by simp [e1_0, e1_8, e1_9, e1_10], by simp [e1_0, e1_8, e1_9, e1_10], by simp [e1_0, e1_8, e1_9, e1_10]⟩
      · rintro env Gj28 ⟨Sj28, Aj28, ej28_0, ej28_8, ej28_9, ej28_10, ej28_33⟩
        refine DWp.cond' (t := s9) (by simp [ej28_0, ej28_8, ej28_9, ej28_10, ej28_33]) (fun hb29 => ?_) (fun hb29 => ?_)
        · replace hL3 := cd_t hb29 hL3
          refine DWp.seq ?_
          refine DWp.region fun K hK => ?_
          simp [-aBin', -aBin, -aBinI, -aUn, -aNil, -flatV, n_fn, b_add, b_sub, b_mul, b_lt, b_le, b_gt, b_ge, b_eq, b_ne, u_not, ej28_0, ej28_8, ej28_9, ej28_10, ej28_33]
          apply hK
          clear hK K
          simp only [andThen, leaves]
          refine DWp.ret ?_
          simp only [andThen, leaves]
          obtain rfl := Option.some.inj hL3
          simp only [lr] at hF
          obtain rfl := Option.some.inj hF
          exact ⟨by simp, [(Value.bool false)], by simp [ej28_0, ej28_8, ej28_9, ej28_10, ej28_33], Aj28, rfl, Sj28.pick [] (by decide) rfl⟩
        · replace hL3 := cd_f hb29 hL3
          refine DWp.skip ?_
          simp only [andThen, leaves]
          refine DWp.region fun K hK => ?_
          simp [-aBin', -aBin, -aBinI, -aUn, -aNil, -flatV, n_fn, b_add, b_sub, b_mul, b_lt, b_le, b_gt, b_ge, b_eq, b_ne, u_not, ej28_0, ej28_8, ej28_9, ej28_10, ej28_33]
          apply hK
          clear hK K
          simp only [andThen, leaves]
          have S30 := Sj28.pick [] (by decide) rfl
          exact ⟨n1, Nat.lt_succ_self _, (iadd .i64 y1_10 1), hL3, S30, Aj28, by simp [ej28_0, ej28_8, ej28_9, ej28_10, ej28_33], by simp [ej28_0, ej28_8, ej28_9, ej28_10, ej28_33], by simp [ej28_0, ej28_8, ej28_9, ej28_10, ej28_33], by simp [ej28_0, ej28_8, ej28_9, ej28_10, ej28_33]⟩
    · replace hL3 := cd_f hb5 hL3
      refine DWp.exit ?_
      simp only [andThen, leaves, if_true, if_false, reduceIte, Nat.reduceEqDiff]
      obtain rfl := Option.some.inj hL3
      simp only [lr] at hF
      refine DWp.seq ?_
      refine DWp.seq ?_
      have q31 := lenG (P := Try.prog) (hx0.agree A1_.agree) el_22
      refine DWp.region fun K hK => ?_
      simp [-aBin', -aBin, -aBinI, -aUn, -aNil, -flatV, n_fn, b_add, b_sub, b_mul, b_lt, b_le, b_gt, b_ge, b_eq, b_ne, u_not, e1_0, e1_8, e1_9, e1_10, q31]
      apply hK
      clear hK K
      simp only [andThen, leaves]
      refine DWp.block ?_
      obtain ⟨s32, hL33, hF⟩ := bd_some hF
      have S34 := S1_.pick [] (by decide) rfl
      refine DWp.loop (fun n env G => ∃ y2_37 : Int, F_impl_isSystem_L2 fu x0 (llen x0) n y2_37 = some s32 ∧ Sep G (Fr H) [] ∧ AgB (Fr H) H G ∧ env 0 = some v0 ∧ env 35 = some v0 ∧ env 36 = some (Value.int .i64 (llen x0)) ∧ env 37 = some (Value.int .i64 y2_37)) fu ⟨0, hL33, S34, A1_, by simp [e1_0, e1_8, e1_9, e1_10], by simp [e1_0, e1_8, e1_9, e1_10], by simp [e1_0, e1_8, e1_9, e1_10], by simp [e1_0, e1_8, e1_9, e1_10]⟩ ?_
      rintro n1 env1 G1_ ⟨y2_37, hL33, S1_, A1_, e1_0, e1_35, e1_36, e1_37⟩
      cases n1 with
      | zero => cases hL33
      | succ n1 =>
        simp only [F_impl_isSystem_L2] at hL33
        refine DWp.seq ?_
        refine DWp.region fun K hK => ?_
        simp [-aBin', -aBin, -aBinI, -aUn, -aNil, -flatV, n_fn, b_add, b_sub, b_mul, b_lt, b_le, b_gt, b_ge, b_eq, b_ne, u_not, e1_0, e1_35, e1_36, e1_37]
        apply hK
        clear hK K
        simp only [andThen, leaves]
        refine DWp.seq ?_
        refine DWp.cond' (t := (ilt y2_37 (llen x0))) (by simp [e1_0, e1_35, e1_36, e1_37]) (fun hb35 => ?_) (fun hb35 => ?_)
        · replace hL33 := cd_t hb35 hL33
          refine DWp.skip ?_
          simp only [andThen, leaves]
          refine DWp.seq ?_
          refine DWp.block ?_
          refine DWp.seq ?_
          obtain ⟨g36, hL33⟩ := gd_some hL33
          have q37 := idxG (P := Try.prog) (kk := .i64) (hx0.agree A1_.agree) el_22 sz_3 g36
          have q38 := loadG (P := Try.prog) (hx0.agree A1_.agree) sz_3 ag_3 g36 0
          refine DWp.region fun K hK => ?_
          simp [-aBin', -aBin, -aBinI, -aUn, -aNil, -flatV, n_fn, b_add, b_sub, b_mul, b_lt, b_le, b_gt, b_ge, b_eq, b_ne, u_not, e1_0, e1_35, e1_36, e1_37, q37, q38]
          apply hK
          clear hK K
          simp only [andThen, leaves]
          refine DWp.seq ?_
          refine DWp.region fun K hK => ?_
          simp [-aBin', -aBin, -aBinI, -aUn, -aNil, -flatV, n_fn, b_add, b_sub, b_mul, b_lt, b_le, b_gt, b_ge, b_eq, b_ne, u_not, e1_0, e1_35, e1_36, e1_37]
          apply hK
          clear hK K
          simp only [andThen, leaves]
          refine DWp.block ?_
          obtain ⟨s39, hL40, hL33⟩ := bd_some hL33
          have S41 := S1_.pick [] (by decide) rfl
          refine DWp.loop (fun n env G => ∃ y3_7 : Int, F_impl_isSystem_L3 fu x0 y2_37 (gat 0 x0 y2_37) (llen x0) n y3_7 = some s39 ∧ Sep G (Fr H) [] ∧ AgB (Fr H) H G ∧ env 0 = some v0 ∧ env 5 = some (Value.int .i64 y2_37) ∧ env 6 = some (Value.int .i64 (gat 0 x0 y2_37)) ∧ env 7 = some (Value.int .i64 y3_7) ∧ env 35 = some v0 ∧ env 36 = some (Value.int .i64 (llen x0)) ∧ env 37 = some (Value.int .i64 y2_37)) fu ⟨(iadd .i64 y2_37 1), hL40, S41, A1_, by simp [e1_0, e1_35, e1_36, e1_37], by simp [e1_0, e1_35, e1_36, e1_37], by simp [e1_0, e1_35, e1_36, e1_37], by simp [e1_0, e1_35, e1_36, e1_37], by simp [e1_0, e1_35, e1_36, e1_37], by simp [e1_0, e1_35, e1_36, e1_37], by simp [e1_0, e1_35, e1_36, e1_37]⟩ ?_
          rintro n2 env2 G2_ ⟨y3_7, hL40, S2_, A2_, e2_0, e2_5, e2_6, e2_7, e2_35, e2_36, e2_37⟩
          cases n2 with
          | zero => cases hL40
          | succ n2 =>
            simp only [F_impl_isSystem_L3] at hL40
            refine DWp.seq ?_
            refine DWp.seq ?_
            refine DWp.region fun K hK => ?_
            simp [-aBin', -aBin, -aBinI, -aUn, -aNil, -flatV, n_fn, b_add, b_sub, b_mul, b_lt, b_le, b_gt, b_ge, b_eq, b_ne, u_not, e2_0, e2_5, e2_6, e2_7, e2_35, e2_36, e2_37]
            apply hK
            clear hK K
            simp only [andThen, leaves]
            refine DWp.cond' (t := (ilt y3_7 (gat 0 x0 y2_37))) (by simp [e2_0, e2_5, e2_6, e2_7, e2_35, e2_36, e2_37]) (fun hb42 => ?_) (fun hb42 => ?_)
            · replace hL40 := cd_t hb42 hL40
              refine DWp.skip ?_
              simp only [andThen, leaves]
              refine DWp.seq ?_
              refine DWp.block ?_
              refine DWp.seq ?_
              obtain ⟨g43, hL40⟩ := gd_some hL40
              have q44 := idxG (P := Try.prog) (kk := .i64) (hx0.agree A2_.agree) el_22 sz_3 g43
              have q45 := loadG (P := Try.prog) (hx0.agree A2_.agree) sz_3 ag_3 g43 0
              obtain ⟨r2, hc46, hL40⟩ := bd_some hL40
              refine DWp.region fun K hK => ?_
              simp [-aBin', -aBin, -aBinI, -aUn, -aNil, -flatV, n_fn, b_add, b_sub, b_mul, b_lt, b_le, b_gt, b_ge, b_eq, b_ne, u_not, e2_0, e2_5, e2_6, e2_7, e2_35, e2_36, e2_37, q44, q45]
              refine CallD.t (F_impl_in_w (fu := fu)  hc46) ?_
              rintro _ G48 ⟨a51, rfl, S52⟩
              have A50 := A2_.ext (hB.le A2_.1) a51.agree
              have S49 : Sep G48 (Fr H) [] := S2_.app a51.agree S52 (fun _ h => h) (hB.le A2_.1)
              simp [-aBin', -aBin, -aBinI, -aUn, -aNil, -flatV, n_fn, b_add, b_sub, b_mul, b_lt, b_le, b_gt, b_ge, b_eq, b_ne, u_not, e2_0, e2_5, e2_6, e2_7, e2_35, e2_36, e2_37, q44, q45, a51.pre]
              apply hK
              clear hK K
              simp only [andThen, leaves]
              refine DWp.cond' (t := (bnot r2)) (by simp [e2_0, e2_5, e2_6, e2_7, e2_35, e2_36, e2_37]) (fun hb53 => ?_) (fun hb53 => ?_)
              · replace hL40 := cd_t hb53 hL40
                refine DWp.seq ?_
                refine DWp.region fun K hK => ?_
                simp [-aBin', -aBin, -aBinI, -aUn, -aNil, -flatV, n_fn, b_add, b_sub, b_mul, b_lt, b_le, b_gt, b_ge, b_eq, b_ne, u_not, e2_0, e2_5, e2_6, e2_7, e2_35, e2_36, e2_37]
                apply hK
                clear hK K
                simp only [andThen, leaves]
                refine DWp.ret ?_
                simp only [andThen, leaves]
                obtain rfl := Option.some.inj hL40
                simp only [lr] at hL33
                obtain rfl := Option.some.inj hL33
                simp only [lr] at hF
                obtain rfl := Option.some.inj hF
                exact ⟨by simp, [(Value.bool false)], by simp [e2_0, e2_5, e2_6, e2_7, e2_35, e2_36, e2_37], A50, rfl, S49.pick [] (by decide) rfl⟩
              · replace hL40 := cd_f hb53 hL40
                refine DWp.skip ?_
                simp only [andThen, leaves]
                refine DWp.region fun K hK => ?_
                simp [-aBin', -aBin, -aBinI, -aUn, -aNil, -flatV, n_fn, b_add, b_sub, b_mul, b_lt, b_le, b_gt, b_ge, b_eq, b_ne, u_not, e2_0, e2_5, e2_6, e2_7, e2_35, e2_36, e2_37]
                apply hK
                clear hK K
                simp only [andThen, leaves]
                have S54 := S49.pick [] (by decide) rfl
                exact ⟨n2, Nat.lt_succ_self _, (iadd .i64 y3_7 1), hL40, S54, A50, by simp [e2_0, e2_5, e2_6, e2_7, e2_35, e2_36, e2_37], by simp [e2_0, e2_5, e2_6, e2_7, e2_35, e2_36, e2_37], by simp [e2_0, e2_5, e2_6, e2_7, e2_35, e2_36, e2_37], by simp [e2_0, e2_5, e2_6, e2_7, e2_35, e2_36, e2_37], by simp [e2_0, e2_5, e2_6, e2_7, e2_35, e2_36, e2_37], by simp [e2_0, e2_5, e2_6, e2_7, e2_35, e2_36, e2_37], by simp [e2_0, e2_5, e2_6, e2_7, e2_35, e2_36, e2_37]⟩
            · replace hL40 := cd_f hb42 hL40
              refine DWp.exit ?_
              simp only [andThen, leaves, if_true, if_false, reduceIte, Nat.reduceEqDiff]
              obtain rfl := Option.some.inj hL40
              simp only [lr] at hL33
              refine DWp.region fun K hK => ?_
              simp [-aBin', -aBin, -aBinI, -aUn, -aNil, -flatV, n_fn, b_add, b_sub, b_mul, b_lt, b_le, b_gt, b_ge, b_eq, b_ne, u_not, e2_0, e2_5, e2_6, e2_7, e2_35, e2_36, e2_37]
              apply hK
              clear hK K
              simp only [andThen, leaves]
              have S55 := S2_.pick [] (by decide) rfl
              exact ⟨n1, Nat.lt_succ_self _, (iadd .i64 y2_37 1), hL33, S55, A2_, by simp [e2_0, e2_5, e2_6, e2_7, e2_35, e2_36, e2_37], by simp [e2_0, e2_5, e2_6, e2_7, e2_35, e2_36, e2_37], by simp [e2_0, e2_5, e2_6, e2_7, e2_35, e2_36, e2_37], by simp [e2_0, e2_5, e2_6, e2_7, e2_35, e2_36, e2_37]⟩
        · replace hL33 := cd_f hb35 hL33
          refine DWp.exit ?_
          simp only [andThen, leaves, if_true, if_false, reduceIte, Nat.reduceEqDiff]
          obtain rfl := Option.some.inj hL33
          simp only [lr] at hF
          refine DWp.seq ?_
          refine DWp.region fun K hK => ?_
          simp [-aBin', -aBin, -aBinI, -aUn, -aNil, -flatV, n_fn, b_add, b_sub, b_mul, b_lt, b_le, b_gt, b_ge, b_eq, b_ne, u_not, e1_0, e1_35, e1_36, e1_37]
          apply hK
          clear hK K
          simp only [andThen, leaves]
          refine DWp.ret ?_
          obtain rfl := Option.some.inj hF
          exact ⟨by simp, [(Value.bool true)], by simp [e1_0, e1_35, e1_36, e1_37], A1_, rfl, S1_.pick [] (by decide) rfl⟩
def F_impl_IsSystem (fu : Nat) (x0 : List Int) : Option (Bool) :=
  bif (ile (llen x0) 12) then
    bd (F_impl_isSystem fu x0) fun r1 =>
    some r1
  else
    some false
theorem F_impl_IsSystem_w {fu : Nat} {H : AH} {v0 : Value} {x0 : List Int} {r : (Bool)} (hx0 : Sl H v0 (ints x0)) (hF : F_impl_IsSystem fu x0 = some r) :
    ACallT Try.prog 134 [v0] H (fun u G => AgB (Fr H) H G ∧ u = (Value.bool r) ∧ Sep G (Fr H) []) := by
  refine ACallT.of_body (nt := 10) (rs := [.tmp 2]) Try.func134 rfl rfl rfl rfl ?_
  have A0 : AgB (Fr H) H H := .refl _ _
  have S0 : Sep H (Fr H) [] := .nil
  have hB := Fr.up H
  unfold F_impl_IsSystem at hF
  refine DWp.seq ?_
  refine DWp.region fun K hK => ?_
  simp [-aBin', -aBin, -aBinI, -aUn, -aNil, -flatV, n_fn, b_add, b_sub, b_mul, b_lt, b_le, b_gt, b_ge, b_eq, b_ne, u_not]
  apply hK
  clear hK K
  simp only [andThen, leaves]
  refine DWp.seq ?_
  have q1 := lenG (P := Try.prog) (hx0.agree A0.agree) el_22
  rcases Bool.eq_false_or_eq_true (ile (llen x0) 12) with hb2 | hb2
  · replace hF := cd_t hb2 hF
    obtain ⟨r1, hc3, hF⟩ := bd_some hF
    refine DWp.region fun K hK => ?_
    simp [-aBin', -aBin, -aBinI, -aUn, -aNil, -flatV, n_fn, b_add, b_sub, b_mul, b_lt, b_le, b_gt, b_ge, b_eq, b_ne, u_not, hb2, q1, ((hx0.agree A0.agree).tup)]
    refine CallD.t (F_impl_isSystem_w (fu := fu) (hx0.agree A0.agree) hc3) ?_
    rintro _ G5 ⟨a8, rfl, S9⟩
    have A7 := A0.ext (hB.le A0.1) a8.agree
    have S6 : Sep G5 (Fr H) [] := S0.app a8.agree S9 (fun _ h => h) (hB.le A0.1)
    simp [-aBin', -aBin, -aBinI, -aUn, -aNil, -flatV, n_fn, b_add, b_sub, b_mul, b_lt, b_le, b_gt, b_ge, b_eq, b_ne, u_not, hb2, q1, a8.pre]
    apply hK
    clear hK K
    simp only [andThen, leaves]
    refine DWp.ret ?_
    obtain rfl := Option.some.inj hF
    exact ⟨by simp, [(Value.bool r1)], by simp [], A7, rfl, S6.pick [] (by decide) rfl⟩
  · replace hF := cd_f hb2 hF
    refine DWp.region fun K hK => ?_
    simp [-aBin', -aBin, -aBinI, -aUn, -aNil, -flatV, n_fn, b_add, b_sub, b_mul, b_lt, b_le, b_gt, b_ge, b_eq, b_ne, u_not, hb2, q1]
    apply hK
    clear hK K
    simp only [andThen, leaves]
    refine DWp.ret ?_
    obtain rfl := Option.some.inj hF
    exact ⟨by simp, [(Value.bool false)], by simp [], A0, rfl, S0.pick [] (by decide) rfl⟩
def F_impl_IsPair (fu : Nat) (x0_0 : List Int) (x0_1 : List Int) : Option (Bool) :=
  bd (F_impl_IsSystem fu x0_0) fun r1 =>
  bif r1 then
    bd (F_impl_IsSystem fu x0_1) fun r2 =>
    bif r2 then
      some (ieq (llen x0_0) (llen x0_1))
    else
      some false
  else
    some false
theorem F_impl_IsPair_w {fu : Nat} {H : AH} {v0_0 : Value} {v0_1 : Value} {x0_0 : List Int} {x0_1 : List Int} {r : (Bool)} (hx0_0 : Sl H v0_0 (ints x0_0)) (hx0_1 : Sl H v0_1 (ints x0_1)) (hF : F_impl_IsPair fu x0_0 x0_1 = some r) :
    ACallT Try.prog 96 [(Value.agg #[v0_0, v0_1])] H (fun u G => AgB (Fr H) H G ∧ u = (Value.bool r) ∧ Sep G (Fr H) []) := by
  refine ACallT.of_body (nt := 20) (rs := [.tmp 2]) Try.func96 rfl rfl rfl rfl ?_
  have A0 : AgB (Fr H) H H := .refl _ _
  have S0 : Sep H (Fr H) [] := .nil
  have hB := Fr.up H
  unfold F_impl_IsPair at hF
  refine DWp.seq ?_
  obtain ⟨G2, p4, q5, q6, a7, S1⟩ := S0.boxT (hB.le A0.1) 28 [v0_0, v0_1]
  have A3 := A0.ext (hB.le A0.1) a7
  replace S1 : Sep G2 (Fr H) [AL.box p4 [v0_0, v0_1]] := S1
  refine DWp.region fun K hK => ?_
  simp [-aBin', -aBin, -aBinI, -aUn, -aNil, -flatV, n_fn, b_add, b_sub, b_mul, b_lt, b_le, b_gt, b_ge, b_eq, b_ne, u_not, q5, q6, a7.to_pre, cells_agg]
  apply hK
  clear hK K
  simp only [andThen, leaves]
  refine DWp.seq ?_
  have q8 := S1.fieldT (P := Try.prog) (k := 0) rfl fa_28_0
  have q9 := S1.loadF (P := Try.prog) (k := 0) rfl sz_22 ag_22 (off := 0) rfl
  obtain ⟨r1, hc10, hF⟩ := bd_some hF
  refine DWp.region fun K hK => ?_
  simp [-aBin', -aBin, -aBinI, -aUn, -aNil, -flatV, n_fn, b_add, b_sub, b_mul, b_lt, b_le, b_gt, b_ge, b_eq, b_ne, u_not, q8, q9, ((hx0_0.agree A3.agree).tup)]
  refine CallD.t (F_impl_IsSystem_w (fu := fu) (hx0_0.agree A3.agree) hc10) ?_
  rintro _ G12 ⟨a15, rfl, S16⟩
  have A14 := A3.ext (hB.le A3.1) a15.agree
  have S13 : Sep G12 (Fr H) [AL.box p4 [v0_0, v0_1]] := S1.app a15.agree S16 (fun _ h => h) (hB.le A3.1)
  rcases Bool.eq_false_or_eq_true r1 with hb17 | hb17
  · replace hF := cd_t hb17 hF
    have q18 := S13.fieldT (P := Try.prog) (k := 0) rfl fa_28_1
    have q19 := S13.loadF (P := Try.prog) (k := 0) rfl sz_22 ag_22 (off := 1) rfl
    obtain ⟨r2, hc20, hF⟩ := bd_some hF
    simp [-aBin', -aBin, -aBinI, -aUn, -aNil, -flatV, n_fn, b_add, b_sub, b_mul, b_lt, b_le, b_gt, b_ge, b_eq, b_ne, u_not, hb17, q8, q9, a15.pre, q18, q19, ((hx0_1.agree A14.agree).tup)]
    refine CallD.t (F_impl_IsSystem_w (fu := fu) (hx0_1.agree A14.agree) hc20) ?_
    rintro _ G22 ⟨a25, rfl, S26⟩
    have A24 := A14.ext (hB.le A14.1) a25.agree
    have S23 : Sep G22 (Fr H) [AL.box p4 [v0_0, v0_1]] := S13.app a25.agree S26 (fun _ h => h) (hB.le A14.1)
    rcases Bool.eq_false_or_eq_true r2 with hb27 | hb27
    · replace hF := cd_t hb27 hF
      have q28 := S23.fieldT (P := Try.prog) (k := 0) rfl fa_28_0
      have q29 := S23.loadF (P := Try.prog) (k := 0) rfl sz_22 ag_22 (off := 0) rfl
      have q30 := lenG (P := Try.prog) (hx0_0.agree A24.agree) el_22
      have q31 := S23.fieldT (P := Try.prog) (k := 0) rfl fa_28_1
      have q32 := S23.loadF (P := Try.prog) (k := 0) rfl sz_22 ag_22 (off := 1) rfl
      have q33 := lenG (P := Try.prog) (hx0_1.agree A24.agree) el_22
      simp [-aBin', -aBin, -aBinI, -aUn, -aNil, -flatV, n_fn, b_add, b_sub, b_mul, b_lt, b_le, b_gt, b_ge, b_eq, b_ne, u_not, hb17, hb27, q8, q9, a15.pre, q18, q19, a25.pre, q28, q29, q30, q31, q32, q33]
      apply hK
      clear hK K
      simp only [andThen, leaves]
      refine DWp.ret ?_
      obtain rfl := Option.some.inj hF
      exact ⟨by simp, [(Value.bool (ieq (llen x0_0) (llen x0_1)))], by simp [], A24, rfl, S23.pick [] (by decide) rfl⟩
    · replace hF := cd_f hb27 hF
      simp [-aBin', -aBin, -aBinI, -aUn, -aNil, -flatV, n_fn, b_add, b_sub, b_mul, b_lt, b_le, b_gt, b_ge, b_eq, b_ne, u_not, hb17, hb27, q8, q9, a15.pre, q18, q19, a25.pre]
      apply hK
      clear hK K
      simp only [andThen, leaves]
      refine DWp.ret ?_
      obtain rfl := Option.some.inj hF
      exact ⟨by simp, [(Value.bool false)], by simp [], A24, rfl, S23.pick [] (by decide) rfl⟩
  · replace hF := cd_f hb17 hF
    simp [-aBin', -aBin, -aBinI, -aUn, -aNil, -flatV, n_fn, b_add, b_sub, b_mul, b_lt, b_le, b_gt, b_ge, b_eq, b_ne, u_not, hb17, q8, q9, a15.pre]
    apply hK
    clear hK K
    simp only [andThen, leaves]
    refine DWp.ret ?_
    obtain rfl := Option.some.inj hF
    exact ⟨by simp, [(Value.bool false)], by simp [], A14, rfl, S13.pick [] (by decide) rfl⟩
def F_impl_isCut (fu : Nat) (x0_0 : List Int) (x0_1 : List Int) : Option (Bool) :=
  bd (F_impl_IsPair fu x0_0 x0_1) fun r1 =>
  bif r1 then
    some (ilt 0 (llen x0_0))
  else
    some false
theorem F_impl_isCut_w {fu : Nat} {H : AH} {v0_0 : Value} {v0_1 : Value} {x0_0 : List Int} {x0_1 : List Int} {r : (Bool)} (hx0_0 : Sl H v0_0 (ints x0_0)) (hx0_1 : Sl H v0_1 (ints x0_1)) (hF : F_impl_isCut fu x0_0 x0_1 = some r) :
    ACallT Try.prog 111 [(Value.agg #[v0_0, v0_1])] H (fun u G => AgB (Fr H) H G ∧ u = (Value.bool r) ∧ Sep G (Fr H) []) := by
  refine ACallT.of_body (nt := 11) (rs := [.tmp 2]) Try.func111 rfl rfl rfl rfl ?_
  have A0 : AgB (Fr H) H H := .refl _ _
  have S0 : Sep H (Fr H) [] := .nil
  have hB := Fr.up H
  unfold F_impl_isCut at hF
  refine DWp.seq ?_
  obtain ⟨G2, p4, q5, q6, a7, S1⟩ := S0.boxT (hB.le A0.1) 28 [v0_0, v0_1]
  have A3 := A0.ext (hB.le A0.1) a7
  replace S1 : Sep G2 (Fr H) [AL.box p4 [v0_0, v0_1]] := S1
  refine DWp.region fun K hK => ?_
  simp [-aBin', -aBin, -aBinI, -aUn, -aNil, -flatV, n_fn, b_add, b_sub, b_mul, b_lt, b_le, b_gt, b_ge, b_eq, b_ne, u_not, q5, q6, a7.to_pre, cells_agg]
  apply hK
  clear hK K
  simp only [andThen, leaves]
  refine DWp.seq ?_
  have q8 := S1.loadAgg (P := Try.prog) (k := 0) rfl sz_28 ag_28 rfl
  obtain ⟨r1, hc9, hF⟩ := bd_some hF
  refine DWp.region fun K hK => ?_
  simp [-aBin', -aBin, -aBinI, -aUn, -aNil, -flatV, n_fn, b_add, b_sub, b_mul, b_lt, b_le, b_gt, b_ge, b_eq, b_ne, u_not, q8, ((hx0_0.agree A3.agree).tup), ((hx0_1.agree A3.agree).tup)]
  refine CallD.t (F_impl_IsPair_w (fu := fu) (hx0_0.agree A3.agree) (hx0_1.agree A3.agree) hc9) ?_
  rintro _ G11 ⟨a14, rfl, S15⟩
  have A13 := A3.ext (hB.le A3.1) a14.agree
  have S12 : Sep G11 (Fr H) [AL.box p4 [v0_0, v0_1]] := S1.app a14.agree S15 (fun _ h => h) (hB.le A3.1)
  rcases Bool.eq_false_or_eq_true r1 with hb16 | hb16
  · replace hF := cd_t hb16 hF
    have q17 := S12.fieldT (P := Try.prog) (k := 0) rfl fa_28_0
    have q18 := S12.loadF (P := Try.prog) (k := 0) rfl sz_22 ag_22 (off := 0) rfl
    have q19 := lenG (P := Try.prog) (hx0_0.agree A13.agree) el_22
    simp [-aBin', -aBin, -aBinI, -aUn, -aNil, -flatV, n_fn, b_add, b_sub, b_mul, b_lt, b_le, b_gt, b_ge, b_eq, b_ne, u_not, hb16, q8, a14.pre, q17, q18, q19]
    apply hK
    clear hK K
    simp only [andThen, leaves]
    refine DWp.ret ?_
    obtain rfl := Option.some.inj hF
    exact ⟨by simp, [(Value.bool (ilt 0 (llen x0_0)))], by simp [], A13, rfl, S12.pick [] (by decide) rfl⟩
  · replace hF := cd_f hb16 hF
    simp [-aBin', -aBin, -aBinI, -aUn, -aNil, -flatV, n_fn, b_add, b_sub, b_mul, b_lt, b_le, b_gt, b_ge, b_eq, b_ne, u_not, hb16, q8, a14.pre]
    apply hK
    clear hK K
    simp only [andThen, leaves]
    refine DWp.ret ?_
    obtain rfl := Option.some.inj hF
    exact ⟨by simp, [(Value.bool false)], by simp [], A13, rfl, S12.pick [] (by decide) rfl⟩
def F_impl_Meander_isClosed_L1 (fu : Nat) (k1_0 : Int) (k1_1 : Int) (k1_2 : List Int) (k1_3 : List Int) : Nat → Int → Option (LR (Bool) (Int))
  | 0, _ => none
  | n + 1, y1_7 =>
    bif (ile y1_7 k1_1) then
      bd (
        gd (inL k1_2 y1_7) (
        bd (F_impl_in fu (gat 0 k1_2 y1_7) k1_0 k1_1) fun r1 =>
        bif (bnot r1) then
          some true
        else
          gd (inL k1_3 y1_7) (
          bd (F_impl_in fu (gat 0 k1_3 y1_7) k1_0 k1_1) fun r2 =>
          some (bnot r2)))) fun s12 =>
      bif s12 then
        some (.ret false)
      else
        F_impl_Meander_isClosed_L1 fu k1_0 k1_1 k1_2 k1_3 n (iadd .i64 y1_7 1)
    else
      some (.brk y1_7)
def F_impl_Meander_isClosed (fu : Nat) (x0_0 : List Int) (x0_1 : List Int) (x1 : Int) (x2 : Int) : Option (Bool) :=
  bd (F_impl_Meander_isClosed_L1 fu x1 x2 x0_0 x0_1 fu x1) fun s1 =>
  lr s1 fun s1 =>
  some true
theorem F_impl_Meander_isClosed_w {fu : Nat} {H : AH} {v0_0 : Value} {v0_1 : Value} {x0_0 : List Int} {x0_1 : List Int} {x1 : Int} {x2 : Int} {r : (Bool)} (hx0_0 : Sl H v0_0 (ints x0_0)) (hx0_1 : Sl H v0_1 (ints x0_1)) (hF : F_impl_Meander_isClosed fu x0_0 x0_1 x1 x2 = some r) :
    ACallT Try.prog 93 [(Value.agg #[v0_0, v0_1]), (Value.int .i64 x1), (Value.int .i64 x2)] H (fun u G => AgB (Fr H) H G ∧ u = (Value.bool r) ∧ Sep G (Fr H) []) := by
  refine ACallT.of_body (nt := 34) (rs := [.tmp 6]) Try.func93 rfl rfl rfl rfl ?_
  have A0 : AgB (Fr H) H H := .refl _ _
  have S0 : Sep H (Fr H) [] := .nil
  have hB := Fr.up H
  unfold F_impl_Meander_isClosed at hF
  refine DWp.seq ?_
  obtain ⟨G2, p4, q5, q6, a7, S1⟩ := S0.boxT (hB.le A0.1) 28 [v0_0, v0_1]
  have A3 := A0.ext (hB.le A0.1) a7
  replace S1 : Sep G2 (Fr H) [AL.box p4 [v0_0, v0_1]] := S1
  refine DWp.region fun K hK => ?_
  simp [-aBin', -aBin, -aBinI, -aUn, -aNil, -flatV, n_fn, b_add, b_sub, b_mul, b_lt, b_le, b_gt, b_ge, b_eq, b_ne, u_not, q5, q6, a7.to_pre, cells_agg]
  apply hK
  clear hK K
  simp only [andThen, leaves]
  refine DWp.seq ?_
  refine DWp.seq ?_
  refine DWp.region fun K hK => ?_
  simp [-aBin', -aBin, -aBinI, -aUn, -aNil, -flatV, n_fn, b_add, b_sub, b_mul, b_lt, b_le, b_gt, b_ge, b_eq, b_ne, u_not]
  apply hK
  clear hK K
  simp only [andThen, leaves]
  refine DWp.block ?_
  obtain ⟨s8, hL9, hF⟩ := bd_some hF
  have S10 := S1.pick [0] (by decide) rfl
  refine DWp.loop (fun n env G => ∃ y1_7 : Int, F_impl_Meander_isClosed_L1 fu x1 x2 x0_0 x0_1 n y1_7 = some s8 ∧ Sep G (Fr H) [AL.box p4 [v0_0, v0_1]] ∧ AgB (Fr H) H G ∧ env 1 = some (Value.int .i64 x1) ∧ env 2 = some (Value.int .i64 x2) ∧ env 3 = some p4 ∧ env 7 = some (Value.int .i64 y1_7)) fu ⟨x1, hL9, S10, A3, by simp [], by simp [], by simp [], by simp []⟩ ?_
  rintro n1 env1 G1_ ⟨y1_7, hL9, S1_, A1_, e1_1, e1_2, e1_3, e1_7⟩
  cases n1 with
  | zero => cases hL9
  | succ n1 =>
    simp only [F_impl_Meander_isClosed_L1] at hL9
    refine DWp.seq ?_
    refine DWp.seq ?_
    refine DWp.region fun K hK => ?_
    simp [-aBin', -aBin, -aBinI, -aUn, -aNil, -flatV, n_fn, b_add, b_sub, b_mul, b_lt, b_le, b_gt, b_ge, b_eq, b_ne, u_not, e1_1, e1_2, e1_3, e1_7]
    apply hK
    clear hK K
    simp only [andThen, leaves]
    refine DWp.cond' (t := (ile y1_7 x2)) (by simp [e1_1, e1_2, e1_3, e1_7]) (fun hb11 => ?_) (fun hb11 => ?_)
    · replace hL9 := cd_t hb11 hL9
      refine DWp.skip ?_
      simp only [andThen, leaves]
      refine DWp.seq ?_
      refine DWp.block ?_
      obtain ⟨s12, hL13, hL9⟩ := bd_some hL9
      refine DWp.seq (DWp.join (fun env G => Sep G (Fr H) [AL.box p4 [v0_0, v0_1]] ∧ AgB (Fr H) H G ∧ env 1 = some (Value.int .i64 x1) ∧ env 2 = some (Value.int .i64 x2) ∧ env 3 = some p4 ∧ env 7 = some (Value.int .i64 y1_7) ∧ env 33 = some (Value.bool s12)) ?_ ?_)
      ·
        have q15 := S1_.fieldT (P := Try.prog) (k := 0) rfl fa_28_0
        have q16 := S1_.loadF (P := Try.prog) (k := 0) rfl sz_22 ag_22 (off := 0) rfl
        obtain ⟨g17, hL13⟩ := gd_some hL13
        have q18 := idxG (P := Try.prog) (kk := .i64) (hx0_0.agree A1_.agree) el_22 sz_3 g17
        have q19 := loadG (P := Try.prog) (hx0_0.agree A1_.agree) sz_3 ag_3 g17 0
        obtain ⟨r1, hc20, hL13⟩ := bd_some hL13
        refine DWp.region fun K hK => ?_
        simp [-aBin', -aBin, -aBinI, -aUn, -aNil, -flatV, n_fn, b_add, b_sub, b_mul, b_lt, b_le, b_gt, b_ge, b_eq, b_ne, u_not, e1_1, e1_2, e1_3, e1_7, q15, q16, q18, q19]
        refine CallD.t (F_impl_in_w (fu := fu)  hc20) ?_
        rintro _ G22 ⟨a25, rfl, S26⟩
        have A24 := A1_.ext (hB.le A1_.1) a25.agree
        have S23 : Sep G22 (Fr H) [AL.box p4 [v0_0, v0_1]] := S1_.app a25.agree S26 (fun _ h => h) (hB.le A1_.1)
        rcases Bool.eq_false_or_eq_true (bnot r1) with hb27 | hb27
        · replace hL13 := cd_t hb27 hL13
          simp [-aBin', -aBin, -aBinI, -aUn, -aNil, -flatV, n_fn, b_add, b_sub, b_mul, b_lt, b_le, b_gt, b_ge, b_eq, b_ne, u_not, e1_1, e1_2, e1_3, e1_7, hb27, q15, q16, q18, q19, a25.pre]
          apply hK
          clear hK K
          simp only [andThen, leaves]
          have S28 := S23.pick [0] (by decide) rfl
          obtain rfl := Option.some.inj hL13
          exact ⟨S28, A24, by simp [e1_1, e1_2, e1_3, e1_7], by simp [e1_1, e1_2, e1_3, e1_7], by simp [e1_1, e1_2, e1_3, e1_7], by simp [e1_1, e1_2, e1_3, e1_7], by simp [e1_1, e1_2, e1_3, e1_7]⟩
        · replace hL13 := cd_f hb27 hL13
          have q29 := S23.fieldT (P := Try.prog) (k := 0) rfl fa_28_1
          have q30 := S23.loadF (P := Try.prog) (k := 0) rfl sz_22 ag_22 (off := 1) rfl
          obtain ⟨g31, hL13⟩ := gd_some hL13
          have q32 := idxG (P := Try.prog) (kk := .i64) (hx0_1.agree A24.agree) el_22 sz_3 g31
          have q33 := loadG (P := Try.prog) (hx0_1.agree A24.agree) sz_3 ag_3 g31 0
          obtain ⟨r2, hc34, hL13⟩ := bd_some hL13
          simp [-aBin', -aBin, -aBinI, -aUn, -aNil, -flatV, n_fn, b_add, b_sub, b_mul, b_lt, b_le, b_gt, b_ge, b_eq, b_ne, u_not, e1_1, e1_2, e1_3, e1_7, hb27, q15, q16, q18, q19, a25.pre, q29, q30, q32, q33]
          refine CallD.t (F_impl_in_w (fu := fu)  hc34) ?_
          rintro _ G36 ⟨a39, rfl, S40⟩
          have A38 := A24.ext (hB.le A24.1) a39.agree
          have S37 : Sep G36 (Fr H) [AL.box p4 [v0_0, v0_1]] := S23.app a39.agree S40 (fun _ h => h) (hB.le A24.1)
          simp [-aBin', -aBin, -aBinI, -aUn, -aNil, -flatV, n_fn, b_add, b_sub, b_mul, b_lt, b_le, b_gt, b_ge, b_eq, b_ne, u_not, e1_1, e1_2, e1_3, e1_7, hb27, q15, q16, q18, q19, a25.pre, q29, q30, q32, q33, a39.pre]
          apply hK
          clear hK K
          simp only [andThen, leaves]
          have S41 := S37.pick [0] (by decide) rfl
          obtain rfl := Option.some.inj hL13
          exact ⟨S41, A38, by simp [e1_1, e1_2, e1_3, e1_7], by simp [e1_1, e1_2, e1_3, e1_7], by simp [e1_1, e1_2, e1_3, e1_7], by simp [e1_1, e1_2, e1_3, e1_7], by simp [e1_1, e1_2, e1_3, e1_7]⟩
      · rintro env Gj42 ⟨Sj42, Aj42, ej42_1, ej42_2, ej42_3, ej42_7, ej42_33⟩
        refine DWp.cond' (t := s12) (by simp [ej42_1, ej42_2, ej42_3, ej42_7, ej42_33]) (fun hb43 => ?_) (fun hb43 => ?_)
        · replace hL9 := cd_t hb43 hL9
          refine DWp.seq ?_
          refine DWp.region fun K hK => ?_
          simp [-aBin', -aBin, -aBinI, -aUn, -aNil, -flatV, n_fn, b_add, b_sub, b_mul, b_lt, b_le, b_gt, b_ge, b_eq, b_ne, u_not, ej42_1, ej42_2, ej42_3, ej42_7, ej42_33]
          apply hK
          clear hK K
          simp only [andThen, leaves]
          refine DWp.ret ?_
          simp only [andThen, leaves]
          obtain rfl := Option.some.inj hL9
          simp only [lr] at hF
          obtain rfl := Option.some.inj hF
          exact ⟨by simp, [(Value.bool false)], by simp [ej42_1, ej42_2, ej42_3, ej42_7, ej42_33], Aj42, rfl, Sj42.pick [] (by decide) rfl⟩
        · replace hL9 := cd_f hb43 hL9
          refine DWp.skip ?_
          simp only [andThen, leaves]
          refine DWp.region fun K hK => ?_
          simp [-aBin', -aBin, -aBinI, -aUn, -aNil, -flatV, n_fn, b_add, b_sub, b_mul, b_lt, b_le, b_gt, b_ge, b_eq, b_ne, u_not, ej42_1, ej42_2, ej42_3, ej42_7, ej42_33]
          apply hK
          clear hK K
          simp only [andThen, leaves]
          have S44 := Sj42.pick [0] (by decide) rfl
          exact ⟨n1, Nat.lt_succ_self _, (iadd .i64 y1_7 1), hL9, S44, Aj42, by simp [ej42_1, ej42_2, ej42_3, ej42_7, ej42_33], by simp [ej42_1, ej42_2, ej42_3, ej42_7, ej42_33], by simp [ej42_1, ej42_2, ej42_3, ej42_7, ej42_33], by simp [ej42_1, ej42_2, ej42_3, ej42_7, ej42_33]⟩
    · replace hL9 := cd_f hb11 hL9
      refine DWp.exit ?_
      simp only [andThen, leaves, if_true, if_false, reduceIte, Nat.reduceEqDiff]
      obtain rfl := Option.some.inj hL9
      simp only [lr] at hF
      refine DWp.seq ?_
      refine DWp.region fun K hK => ?_
      simp [-aBin', -aBin, -aBinI, -aUn, -aNil, -flatV, n_fn, b_add, b_sub, b_mul, b_lt, b_le, b_gt, b_ge, b_eq, b_ne, u_not, e1_1, e1_2, e1_3, e1_7]
      apply hK
      clear hK K
      simp only [andThen, leaves]
      refine DWp.ret ?_
      obtain rfl := Option.some.inj hF
      exact ⟨by simp, [(Value.bool true)], by simp [e1_1, e1_2, e1_3, e1_7], A1_, rfl, S1_.pick [] (by decide) rfl⟩
def F_impl_Meander_stretches_L2 (fu : Nat) (k2_0 : List Int) (k2_1 : List Int) (k2_2 : Int) (k2_3 : Int) : Nat → List (List Int) → Int → Option (List (List Int) × Int)
  | 0, _, _ => none
  | n + 1, l2_1, y2_5 =>
    bif (ilt y2_5 (llen k2_0)) then
      bd (
        bif (ilt (iadd .i64 (isub .i64 y2_5 k2_2) 1) (llen k2_0)) then
          bd (F_impl_Meander_isClosed fu k2_0 k2_1 k2_2 y2_5) fun r1 =>
          some r1
        else
          some false) fun s29 =>
      bif s29 then
        gd (l2_1.length + 1 ≤ 4294967296) (
        F_impl_Meander_stretches_L2 fu k2_0 k2_1 k2_2 k2_3 n (lapp l2_1 [[k2_2, y2_5]]) (iadd .i64 y2_5 1))
      else
        F_impl_Meander_stretches_L2 fu k2_0 k2_1 k2_2 k2_3 n l2_1 (iadd .i64 y2_5 1)
    else
      some (l2_1, y2_5)
def F_impl_Meander_stretches_L1 (fu : Nat) (k1_0 : List Int) (k1_1 : List Int) (k1_2 : Int) : Nat → List (List Int) → Int → Option (List (List Int) × Int)
  | 0, _, _ => none
  | n + 1, l1_1, y1_10 =>
    bif (ilt y1_10 k1_2) then
      bd (F_impl_Meander_stretches_L2 fu k1_0 k1_1 y1_10 k1_2 fu l1_1 (iadd .i64 y1_10 1)) fun s2 =>
      F_impl_Meander_stretches_L1 fu k1_0 k1_1 k1_2 n s2.1 (iadd .i64 y1_10 1)
    else
      some (l1_1, y1_10)
def F_impl_Meander_stretches (fu : Nat) (x0_0 : List Int) (x0_1 : List Int) : Option (List (List Int)) :=
  bd (F_impl_Meander_stretches_L1 fu x0_0 x0_1 (llen x0_0) fu [] 0) fun s1 =>
  some s1.1
theorem F_impl_Meander_stretches_w {fu : Nat} {H : AH} {v0_0 : Value} {v0_1 : Value} {x0_0 : List Int} {x0_1 : List Int} {r : (List (List Int))} (hx0_0 : Sl H v0_0 (ints x0_0)) (hx0_1 : Sl H v0_1 (ints x0_1)) (hF : F_impl_Meander_stretches fu x0_0 x0_1 = some r) :
    ACallT Try.prog 101 [(Value.agg #[v0_0, v0_1])] H (fun u G => AgB (Fr H) H G ∧ ∃ u0 : Value, ∃ C0 : List Value, u = u0 ∧ Sep G (Fr H) [rowsC u0 22 3 C0 (List.map ints r)]) := by
  refine ACallT.of_body (nt := 44) (rs := [.tmp 2]) Try.func101 rfl rfl rfl rfl ?_
  have A0 : AgB (Fr H) H H := .refl _ _
  have S0 : Sep H (Fr H) [] := .nil
  have hB := Fr.up H
  unfold F_impl_Meander_stretches at hF
  refine DWp.seq ?_
  obtain ⟨G2, p4, q5, q6, a7, S1⟩ := S0.boxT (hB.le A0.1) 28 [v0_0, v0_1]
  have A3 := A0.ext (hB.le A0.1) a7
  replace S1 : Sep G2 (Fr H) [AL.box p4 [v0_0, v0_1]] := S1
  refine DWp.region fun K hK => ?_
  simp [-aBin', -aBin, -aBinI, -aUn, -aNil, -flatV, n_fn, b_add, b_sub, b_mul, b_lt, b_le, b_gt, b_ge, b_eq, b_ne, u_not, q5, q6, a7.to_pre, cells_agg]
  apply hK
  clear hK K
  simp only [andThen, leaves]
  refine DWp.seq ?_
  obtain ⟨v8, G9, q10, S11, a13, _, _⟩ := S1.lit0 (P := Try.prog) (t := 36) (hB.le A3.1) el_36 ei_22 rfl
  have A12 := A3.ext (hB.le A3.1) a13
  replace S11 : Sep G9 (Fr H) [AL.box p4 [v0_0, v0_1], flat1 v8 22 []] := S11
  have S14 : Sep G9 (Fr H) [AL.box p4 [v0_0, v0_1], rowsC v8 22 3 [] (List.map ints [])] := S11.rowsOf0 (k := 1) rfl 3
  refine DWp.region fun K hK => ?_
  simp [-aBin', -aBin, -aBinI, -aUn, -aNil, -flatV, n_fn, b_add, b_sub, b_mul, b_lt, b_le, b_gt, b_ge, b_eq, b_ne, u_not, q10, a13.to_pre]
  apply hK
  clear hK K
  simp only [andThen, leaves]
  refine DWp.seq ?_
  refine DWp.seq ?_
  have q15 := S14.fieldT (P := Try.prog) (k := 0) rfl fa_28_0
  have q16 := S14.loadF (P := Try.prog) (k := 0) rfl sz_22 ag_22 (off := 0) rfl
  have q17 := lenG (P := Try.prog) (hx0_0.agree A12.agree) el_22
  refine DWp.region fun K hK => ?_
  simp [-aBin', -aBin, -aBinI, -aUn, -aNil, -flatV, n_fn, b_add, b_sub, b_mul, b_lt, b_le, b_gt, b_ge, b_eq, b_ne, u_not, q15, q16, q17]
  apply hK
  clear hK K
  simp only [andThen, leaves]
  refine DWp.block ?_
  obtain ⟨s18, hL19, hF⟩ := bd_some hF
  have S20 := S14.pick [0, 1] (by decide) rfl
  refine DWp.loop (fun n env G => ∃ l1_1 : List (List Int), ∃ y1_10 : Int, ∃ w1_1 : Value, ∃ D1_1 : List Value, F_impl_Meander_stretches_L1 fu x0_0 x0_1 (llen x0_0) n l1_1 y1_10 = some s18 ∧ Sep G (Fr H) [AL.box p4 [v0_0, v0_1], rowsC w1_1 22 3 D1_1 (List.map ints l1_1)] ∧ AgB (Fr H) H G ∧ env 1 = some p4 ∧ env 3 = some w1_1 ∧ env 9 = some (Value.int .i64 (llen x0_0)) ∧ env 10 = some (Value.int .i64 y1_10)) fu ⟨[], 0, v8, [], hL19, S20, A12, by simp [], by simp [], by simp [], by simp []⟩ ?_
  rintro n1 env1 G1_ ⟨l1_1, y1_10, w1_1, D1_1, hL19, S1_, A1_, e1_1, e1_3, e1_9, e1_10⟩
  cases n1 with
  | zero => cases hL19
  | succ n1 =>
    simp only [F_impl_Meander_stretches_L1] at hL19
    refine DWp.seq ?_
    refine DWp.region fun K hK => ?_
    simp [-aBin', -aBin, -aBinI, -aUn, -aNil, -flatV, n_fn, b_add, b_sub, b_mul, b_lt, b_le, b_gt, b_ge, b_eq, b_ne, u_not, e1_1, e1_3, e1_9, e1_10]
    apply hK
    clear hK K
    simp only [andThen, leaves]
    refine DWp.seq ?_
    refine DWp.cond' (t := (ilt y1_10 (llen x0_0))) (by simp [e1_1, e1_3, e1_9, e1_10]) (fun hb21 => ?_) (fun hb21 => ?_)
    · replace hL19 := cd_t hb21 hL19
      refine DWp.skip ?_
      simp only [andThen, leaves]
      refine DWp.seq ?_
      refine DWp.block ?_
      refine DWp.seq ?_
      refine DWp.region fun K hK => ?_
      simp [-aBin', -aBin, -aBinI, -aUn, -aNil, -flatV, n_fn, b_add, b_sub, b_mul, b_lt, b_le, b_gt, b_ge, b_eq, b_ne, u_not, e1_1, e1_3, e1_9, e1_10]
      apply hK
      clear hK K
      simp only [andThen, leaves]
      refine DWp.seq ?_
      refine DWp.region fun K hK => ?_
      simp [-aBin', -aBin, -aBinI, -aUn, -aNil, -flatV, n_fn, b_add, b_sub, b_mul, b_lt, b_le, b_gt, b_ge, b_eq, b_ne, u_not, e1_1, e1_3, e1_9, e1_10]
      apply hK
      clear hK K
      simp only [andThen, leaves]
      refine DWp.block ?_
      obtain ⟨s22, hL23, hL19⟩ := bd_some hL19
      have S24 := S1_.pick [0, 1] (by decide) rfl
      refine DWp.loop (fun n env G => ∃ l2_1 : List (List Int), ∃ y2_5 : Int, ∃ w2_1 : Value, ∃ D2_1 : List Value, F_impl_Meander_stretches_L2 fu x0_0 x0_1 y1_10 (llen x0_0) n l2_1 y2_5 = some s22 ∧ Sep G (Fr H) [AL.box p4 [v0_0, v0_1], rowsC w2_1 22 3 D2_1 (List.map ints l2_1)] ∧ AgB (Fr H) H G ∧ env 1 = some p4 ∧ env 3 = some w2_1 ∧ env 4 = some (Value.int .i64 y1_10) ∧ env 5 = some (Value.int .i64 y2_5) ∧ env 9 = some (Value.int .i64 (llen x0_0)) ∧ env 10 = some (Value.int .i64 y1_10)) fu ⟨l1_1, (iadd .i64 y1_10 1), w1_1, D1_1, hL23, S24, A1_, by simp [e1_1, e1_3, e1_9, e1_10], by simp [e1_1, e1_3, e1_9, e1_10], by simp [e1_1, e1_3, e1_9, e1_10], by simp [e1_1, e1_3, e1_9, e1_10], by simp [e1_1, e1_3, e1_9, e1_10], by simp [e1_1, e1_3, e1_9, e1_10]⟩ ?_
      rintro n2 env2 G2_ ⟨l2_1, y2_5, w2_1, D2_1, hL23, S2_, A2_, e2_1, e2_3, e2_4, e2_5, e2_9, e2_10⟩
      cases n2 with
      | zero => cases hL23
      | succ n2 =>
        simp only [F_impl_Meander_stretches_L2] at hL23
        refine DWp.seq ?_
        refine DWp.seq ?_
        have q25 := S2_.fieldT (P := Try.prog) (k := 0) rfl fa_28_0
        have q26 := S2_.loadF (P := Try.prog) (k := 0) rfl sz_22 ag_22 (off := 0) rfl
        have q27 := lenG (P := Try.prog) (hx0_0.agree A2_.agree) el_22
        refine DWp.region fun K hK => ?_
        simp [-aBin', -aBin, -aBinI, -aUn, -aNil, -flatV, n_fn, b_add, b_sub, b_mul, b_lt, b_le, b_gt, b_ge, b_eq, b_ne, u_not, e2_1, e2_3, e2_4, e2_5, e2_9, e2_10, q25, q26, q27]
        apply hK
        clear hK K
        simp only [andThen, leaves]
        refine DWp.cond' (t := (ilt y2_5 (llen x0_0))) (by simp [e2_1, e2_3, e2_4, e2_5, e2_9, e2_10]) (fun hb28 => ?_) (fun hb28 => ?_)
        · replace hL23 := cd_t hb28 hL23
          refine DWp.skip ?_
          simp only [andThen, leaves]
          refine DWp.seq ?_
          refine DWp.block ?_
          obtain ⟨s29, hL30, hL23⟩ := bd_some hL23
          refine DWp.seq (DWp.join (fun env G => Sep G (Fr H) [AL.box p4 [v0_0, v0_1], rowsC w2_1 22 3 D2_1 (List.map ints l2_1)] ∧ AgB (Fr H) H G ∧ env 1 = some p4 ∧ env 3 = some w2_1 ∧ env 4 = some (Value.int .i64 y1_10) ∧ env 5 = some (Value.int .i64 y2_5) ∧ env 9 = some (Value.int .i64 (llen x0_0)) ∧ env 10 = some (Value.int .i64 y1_10) ∧ env 35 = some (Value.bool s29)) ?_ ?_)
          ·
            have q32 := S2_.fieldT (P := Try.prog) (k := 0) rfl fa_28_0
            have q33 := S2_.loadF (P := Try.prog) (k := 0) rfl sz_22 ag_22 (off := 0) rfl
            have q34 := lenG (P := Try.prog) (hx0_0.agree A2_.agree) el_22
            rcases Bool.eq_false_or_eq_true (ilt (iadd .i64 (isub .i64 y2_5 y1_10) 1) (llen x0_0)) with hb35 | hb35
            · replace hL30 := cd_t hb35 hL30
              have q36 := S2_.loadAgg (P := Try.prog) (k := 0) rfl sz_28 ag_28 rfl
              obtain ⟨r1, hc37, hL30⟩ := bd_some hL30
              refine DWp.region fun K hK => ?_
              simp [-aBin', -aBin, -aBinI, -aUn, -aNil, -flatV, n_fn, b_add, b_sub, b_mul, b_lt, b_le, b_gt, b_ge, b_eq, b_ne, u_not, e2_1, e2_3, e2_4, e2_5, e2_9, e2_10, hb35, q32, q33, q34, q36, ((hx0_0.agree A2_.agree).tup), ((hx0_1.agree A2_.agree).tup)]
              refine CallD.t (F_impl_Meander_isClosed_w (fu := fu) (hx0_0.agree A2_.agree) (hx0_1.agree A2_.agree) hc37) ?_
              rintro _ G39 ⟨a42, rfl, S43⟩
              have A41 := A2_.ext (hB.le A2_.1) a42.agree
              have S40 : Sep G39 (Fr H) [AL.box p4 [v0_0, v0_1], rowsC w2_1 22 3 D2_1 (List.map ints l2_1)] := S2_.app a42.agree S43 (fun _ h => h) (hB.le A2_.1)
              simp [-aBin', -aBin, -aBinI, -aUn, -aNil, -flatV, n_fn, b_add, b_sub, b_mul, b_lt, b_le, b_gt, b_ge, b_eq, b_ne, u_not, e2_1, e2_3, e2_4, e2_5, e2_9, e2_10, hb35, q32, q33, q34, q36, a42.pre]
              apply hK
              clear hK K
              simp only [andThen, leaves]
              have S44 := S40.pick [0, 1] (by decide) rfl
              obtain rfl := Option.some.inj hL30
              exact ⟨S44, A41, by simp [e2_1, e2_3, e2_4, e2_5, e2_9, e2_10], by simp [e2_1, e2_3, e2_4, e2_5, e2_9, e2_10], by simp [e2_1, e2_3, e2_4, e2_5, e2_9, e2_10], by simp [e2_1, e2_3, e2_4, e2_5, e2_9, e2_10], by simp [e2_1, e2_3, e2_4, e2_5, e2_9, e2_10], by simp [e2_1, e2_3, e2_4, e2_5, e2_9, e2_10], by simp [e2_1, e2_3, e2_4, e2_5, e2_9, e2_10]⟩
            · replace hL30 := cd_f hb35 hL30
              refine DWp.region fun K hK => ?_
              simp [-aBin', -aBin, -aBinI, -aUn, -aNil, -flatV, n_fn, b_add, b_sub, b_mul, b_lt, b_le, b_gt, b_ge, b_eq, b_ne, u_not, e2_1, e2_3, e2_4, e2_5, e2_9, e2_10, hb35, q32, q33, q34]
              apply hK
              clear hK K
              simp only [andThen, leaves]
              have S45 := S2_.pick [0, 1] (by decide) rfl
              obtain rfl := Option.some.inj hL30
              exact ⟨S45, A2_, by simp [e2_1, e2_3, e2_4, e2_5, e2_9, e2_10], by simp [e2_1, e2_3, e2_4, e2_5, e2_9, e2_10], by simp [e2_1, e2_3, e2_4, e2_5, e2_9, e2_10], by simp [e2_1, e2_3, e2_4, e2_5, e2_9, e2_10], by simp [e2_1, e2_3, e2_4, e2_5, e2_9, e2_10], by simp [e2_1, e2_3, e2_4, e2_5, e2_9, e2_10], by simp [e2_1, e2_3, e2_4, e2_5, e2_9, e2_10]⟩
          · rintro env Gj46 ⟨Sj46, Aj46, ej46_1, ej46_3, ej46_4, ej46_5, ej46_9, ej46_10, ej46_35⟩
            refine DWp.cond' (t := s29) (by simp [ej46_1, ej46_3, ej46_4, ej46_5, ej46_9, ej46_10, ej46_35]) (fun hb47 => ?_) (fun hb47 => ?_)
            · replace hL23 := cd_t hb47 hL23
              obtain ⟨v48, G49, q50, S51, a53, _, _⟩ := Sj46.lit2 (P := Try.prog) (t := 22) (hB.le Aj46.1) el_22 ei_3 rfl (Value.int .i64 y1_10) (Value.int .i64 y2_5) rfl rfl rfl rfl
              have A52 := Aj46.ext (hB.le Aj46.1) a53
              replace S51 : Sep G49 (Fr H) [AL.box p4 [v0_0, v0_1], rowsC w2_1 22 3 D2_1 (List.map ints l2_1), flat1 v48 3 (ints [y1_10, y2_5])] := S51
              obtain ⟨v55, G56, q57, S58, a60, _, _⟩ := S51.lit1 (P := Try.prog) (t := 36) (hB.le A52.1) el_36 ei_22 rfl v48 ((S51.sl1 (k := 2) rfl).tup) ((S51.sl1 (k := 2) rfl).one)
              have A59 := A52.ext (hB.le A52.1) a60
              replace S58 : Sep G56 (Fr H) [AL.box p4 [v0_0, v0_1], rowsC w2_1 22 3 D2_1 (List.map ints l2_1), flat1 v48 3 (ints [y1_10, y2_5]), flat1 v55 22 [v48]] := S58
              have S61 := S58.weak (k := 2) rfl
              obtain ⟨g62, hL23⟩ := gd_some hL23
              obtain ⟨v68, G63, q64, S65, a67, q64t, _⟩ := S61.pushRow (u := w2_1) (fr := ints) (X := l2_1) (y := [y1_10, y2_5]) (P := Try.prog) (t := 36) (t2 := 36) (j := 1) (k := 2) (by decide) rfl rfl (hB.le A59.1) el_36 el_36 ei_22 rfl (S61.sl1 (k := 3) rfl) g62
              have A66 := A59.trans a67
              replace S65 : Sep G63 (Fr H) [AL.box p4 [v0_0, v0_1], rowsC v68 22 3 (D2_1 ++ [v48]) (List.map ints (lapp l2_1 [[y1_10, y2_5]])), emp, flat1 v55 22 [v48]] := S65
              refine DWp.region fun K hK => ?_
              simp [-aBin', -aBin, -aBinI, -aUn, -aNil, -flatV, n_fn, b_add, b_sub, b_mul, b_lt, b_le, b_gt, b_ge, b_eq, b_ne, u_not, ej46_1, ej46_3, ej46_4, ej46_5, ej46_9, ej46_10, ej46_35, q50, a53.to_pre, q57, a60.to_pre, ((S51.sl1 (k := 2) rfl).tup), q64, q64t]
              apply hK
              clear hK K
              simp only [andThen, leaves]
              refine DWp.region fun K hK => ?_
              simp [-aBin', -aBin, -aBinI, -aUn, -aNil, -flatV, n_fn, b_add, b_sub, b_mul, b_lt, b_le, b_gt, b_ge, b_eq, b_ne, u_not, ej46_1, ej46_3, ej46_4, ej46_5, ej46_9, ej46_10, ej46_35]
              apply hK
              clear hK K
              simp only [andThen, leaves]
              have S69 := S65.pick [0, 1] (by decide) rfl
              exact ⟨n2, Nat.lt_succ_self _, (lapp l2_1 [[y1_10, y2_5]]), (iadd .i64 y2_5 1), v68, (D2_1 ++ [v48]), hL23, S69, A66, by simp [ej46_1, ej46_3, ej46_4, ej46_5, ej46_9, ej46_10, ej46_35], by simp [ej46_1, ej46_3, ej46_4, ej46_5, ej46_9, ej46_10, ej46_35], by simp [ej46_1, ej46_3, ej46_4, ej46_5, ej46_9, ej46_10, ej46_35], by simp [ej46_1, ej46_3, ej46_4, ej46_5, ej46_9, ej46_10, ej46_35], by simp [ej46_1, ej46_3, ej46_4, ej46_5, ej46_9, ej46_10, ej46_35], by simp [ej46_1, ej46_3, ej46_4, ej46_5, ej46_9, ej46_10, ej46_35]⟩
            · replace hL23 := cd_f hb47 hL23
              refine DWp.skip ?_
              simp only [andThen, leaves]
              refine DWp.region fun K hK => ?_
              simp [-aBin', -aBin, -aBinI, -aUn, -aNil, -flatV, n_fn, b_add, b_sub, b_mul, b_lt, b_le, b_gt, b_ge, b_eq, b_ne, u_not, ej46_1, ej46_3, ej46_4, ej46_5, ej46_9, ej46_10, ej46_35]
              apply hK
              clear hK K
              simp only [andThen, leaves]
              have S70 := Sj46.pick [0, 1] (by decide) rfl
              exact ⟨n2, Nat.lt_succ_self _, l2_1, (iadd .i64 y2_5 1), w2_1, D2_1, hL23, S70, Aj46, by simp [ej46_1, ej46_3, ej46_4, ej46_5, ej46_9, ej46_10, ej46_35], by simp [ej46_1, ej46_3, ej46_4, ej46_5, ej46_9, ej46_10, ej46_35], by simp [ej46_1, ej46_3, ej46_4, ej46_5, ej46_9, ej46_10, ej46_35], by simp [ej46_1, ej46_3, ej46_4, ej46_5, ej46_9, ej46_10, ej46_35], by simp [ej46_1, ej46_3, ej46_4, ej46_5, ej46_9, ej46_10, ej46_35], by simp [ej46_1, ej46_3, ej46_4, ej46_5, ej46_9, ej46_10, ej46_35]⟩
        · replace hL23 := cd_f hb28 hL23
          refine DWp.exit ?_
          simp only [andThen, leaves, if_true, if_false, reduceIte, Nat.reduceEqDiff]
          obtain rfl := Option.some.inj hL23
          try dsimp only at hL19
          refine DWp.region fun K hK => ?_
          simp [-aBin', -aBin, -aBinI, -aUn, -aNil, -flatV, n_fn, b_add, b_sub, b_mul, b_lt, b_le, b_gt, b_ge, b_eq, b_ne, u_not, e2_1, e2_3, e2_4, e2_5, e2_9, e2_10]
          apply hK
          clear hK K
          simp only [andThen, leaves]
          have S71 := S2_.pick [0, 1] (by decide) rfl
          exact ⟨n1, Nat.lt_succ_self _, l2_1, (iadd .i64 y1_10 1), w2_1, D2_1, hL19, S71, A2_, by simp [e2_1, e2_3, e2_4, e2_5, e2_9, e2_10], by simp [e2_1, e2_3, e2_4, e2_5, e2_9, e2_10], by simp [e2_1, e2_3, e2_4, e2_5, e2_9, e2_10], by simp [e2_1, e2_3, e2_4, e2_5, e2_9, e2_10]⟩
    · replace hL19 := cd_f hb21 hL19
      refine DWp.exit ?_
      simp only [andThen, leaves, if_true, if_false, reduceIte, Nat.reduceEqDiff]
      obtain rfl := Option.some.inj hL19
      try dsimp only at hF
      refine DWp.seq ?_
      refine DWp.region fun K hK => ?_
      simp [-aBin', -aBin, -aBinI, -aUn, -aNil, -flatV, n_fn, b_add, b_sub, b_mul, b_lt, b_le, b_gt, b_ge, b_eq, b_ne, u_not, e1_1, e1_3, e1_9, e1_10]
      apply hK
      clear hK K
      simp only [andThen, leaves]
      refine DWp.ret ?_
      obtain rfl := Option.some.inj hF
      exact ⟨by simp, [w1_1], by simp [e1_1, e1_3, e1_9, e1_10, ((S1_.rd (k := 1) rfl).tup)], A1_, w1_1, D1_1, rfl, S1_.pick [1] (by decide) rfl⟩
def F_impl_Meander_shortest_L1 (fu : Nat) (k1_0 : Bool) (k1_1 : List (List Int)) (k1_2 : Int) : Nat → Int → Int → Option (Int × Int)
  | 0, _, _ => none
  | n + 1, y1_5, y1_11 =>
    bif (ilt y1_11 k1_2) then
      gd (inL k1_1 y1_11) (
      bd (
        gd (ilt y1_5 0 = true ∨ (rnL k1_1 y1_5) ≠ []) (
        bif (lemp (rnL k1_1 y1_5)) then
          some true
        else
          gd (inL (gat [] k1_1 y1_11) 1) (
          gd (inL (gat [] k1_1 y1_11) 0) (
          gd (inL (rnL k1_1 y1_5) 1) (
          gd (inL (rnL k1_1 y1_5) 0) (
          bif (ilt (isub .i64 (gat 0 (gat [] k1_1 y1_11) 1) (gat 0 (gat [] k1_1 y1_11) 0)) (isub .i64 (gat 0 (rnL k1_1 y1_5) 1) (gat 0 (rnL k1_1 y1_5) 0))) then
            some true
          else
            bif k1_0 then
              gd (inL (gat [] k1_1 y1_11) 1) (
              gd (inL (gat [] k1_1 y1_11) 0) (
              gd (inL (rnL k1_1 y1_5) 1) (
              gd (inL (rnL k1_1 y1_5) 0) (
              some (ieq (isub .i64 (gat 0 (gat [] k1_1 y1_11) 1) (gat 0 (gat [] k1_1 y1_11) 0)) (isub .i64 (gat 0 (rnL k1_1 y1_5) 1) (gat 0 (rnL k1_1 y1_5) 0)))))))
            else
              some false)))))) fun s24 =>
      bif s24 then
        F_impl_Meander_shortest_L1 fu k1_0 k1_1 k1_2 n y1_11 (iadd .i64 y1_11 1)
      else
        F_impl_Meander_shortest_L1 fu k1_0 k1_1 k1_2 n y1_5 (iadd .i64 y1_11 1))
    else
      some (y1_5, y1_11)
def F_impl_Meander_shortest (fu : Nat) (x0_0 : List Int) (x0_1 : List Int) (x1 : Bool) : Option (List Int) :=
  bd (F_impl_Meander_stretches fu x0_0 x0_1) fun r1 =>
  bd (F_impl_Meander_shortest_L1 fu x1 r1 (llen r1) fu (-1) 0) fun s1 =>
  bif (ilt s1.1 0) then
    some []
  else
    gd ((gat [] r1 s1.1) ≠ []) (
    some (gat [] r1 s1.1))
theorem F_impl_Meander_shortest_w {fu : Nat} {H : AH} {v0_0 : Value} {v0_1 : Value} {x0_0 : List Int} {x0_1 : List Int} {x1 : Bool} {r : (List Int)} (hx0_0 : Sl H v0_0 (ints x0_0)) (hx0_1 : Sl H v0_1 (ints x0_1)) (hF : F_impl_Meander_shortest fu x0_0 x0_1 x1 = some r) :
    ACallT Try.prog 99 [(Value.agg #[v0_0, v0_1]), (Value.bool x1)] H (fun u G => AgB (Fr H) H G ∧ ∃ u0 : Value, u = u0 ∧ Sep G (Fr H) [flat u0 3 (ints r)] ∧ (r = [] → u0 = nilV)) := by
  refine ACallT.of_body (nt := 57) (rs := [.tmp 4]) Try.func99 rfl rfl rfl rfl ?_
  have A0 : AgB (Fr H) H H := .refl _ _
  have S0 : Sep H (Fr H) [] := .nil
  have hB := Fr.up H
  unfold F_impl_Meander_shortest at hF
  refine DWp.seq ?_
  obtain ⟨G2, p4, q5, q6, a7, S1⟩ := S0.boxT (hB.le A0.1) 28 [v0_0, v0_1]
  have A3 := A0.ext (hB.le A0.1) a7
  replace S1 : Sep G2 (Fr H) [AL.box p4 [v0_0, v0_1]] := S1
  refine DWp.region fun K hK => ?_
  simp [-aBin', -aBin, -aBinI, -aUn, -aNil, -flatV, n_fn, b_add, b_sub, b_mul, b_lt, b_le, b_gt, b_ge, b_eq, b_ne, u_not, q5, q6, a7.to_pre, cells_agg]
  apply hK
  clear hK K
  simp only [andThen, leaves]
  refine DWp.seq ?_
  refine DWp.region fun K hK => ?_
  simp [-aBin', -aBin, -aBinI, -aUn, -aNil, -flatV, n_fn, b_add, b_sub, b_mul, b_lt, b_le, b_gt, b_ge, b_eq, b_ne, u_not]
  apply hK
  clear hK K
  simp only [andThen, leaves]
  refine DWp.seq ?_
  refine DWp.seq ?_
  have q8 := S1.loadAgg (P := Try.prog) (k := 0) rfl sz_28 ag_28 rfl
  obtain ⟨r1, hc9, hF⟩ := bd_some hF
  refine DWp.region fun K hK => ?_
  simp [-aBin', -aBin, -aBinI, -aUn, -aNil, -flatV, n_fn, b_add, b_sub, b_mul, b_lt, b_le, b_gt, b_ge, b_eq, b_ne, u_not, q8, ((hx0_0.agree A3.agree).tup), ((hx0_1.agree A3.agree).tup)]
  refine CallD.t (F_impl_Meander_stretches_w (fu := fu) (hx0_0.agree A3.agree) (hx0_1.agree A3.agree) hc9) ?_
  rintro c10_u0 G11 ⟨a14, _, c10_C0, rfl, S15⟩
  have A13 := A3.ext (hB.le A3.1) a14.agree
  have S12 : Sep G11 (Fr H) [AL.box p4 [v0_0, v0_1], rowsC c10_u0 22 3 c10_C0 (List.map ints r1)] := S1.app a14.agree S15 (fun _ h => h) (hB.le A3.1)
  have q16 := (S12.rd (k := 1) rfl).lenG (P := Try.prog) el_36
  simp [-aBin', -aBin, -aBinI, -aUn, -aNil, -flatV, n_fn, b_add, b_sub, b_mul, b_lt, b_le, b_gt, b_ge, b_eq, b_ne, u_not, q8, a14.pre, q16]
  apply hK
  clear hK K
  simp only [andThen, leaves]
  refine DWp.block ?_
  obtain ⟨s17, hL18, hF⟩ := bd_some hF
  have S19 := S12.pick [1] (by decide) rfl
  refine DWp.loop (fun n env G => ∃ y1_5 : Int, ∃ y1_11 : Int, F_impl_Meander_shortest_L1 fu x1 r1 (llen r1) n y1_5 y1_11 = some s17 ∧ Sep G (Fr H) [rowsC c10_u0 22 3 c10_C0 (List.map ints r1)] ∧ AgB (Fr H) H G ∧ env 1 = some (Value.bool x1) ∧ env 5 = some (rnV c10_C0 y1_5) ∧ env 9 = some c10_u0 ∧ env 10 = some (Value.int .i64 (llen r1)) ∧ env 11 = some (Value.int .i64 y1_11) ∧ (ilt y1_5 0 = true ∨ inL r1 y1_5)) fu ⟨(-1), 0, hL18, S19, A13, by simp [], by simp [], by simp [], by simp [], by simp [], .inl rfl⟩ ?_
  rintro n1 env1 G1_ ⟨y1_5, y1_11, hL18, S1_, A1_, e1_1, e1_5, e1_9, e1_10, e1_11, hrn_y1_5⟩
  cases n1 with
  | zero => cases hL18
  | succ n1 =>
    simp only [F_impl_Meander_shortest_L1] at hL18
    refine DWp.seq ?_
    refine DWp.region fun K hK => ?_
    simp [-aBin', -aBin, -aBinI, -aUn, -aNil, -flatV, n_fn, b_add, b_sub, b_mul, b_lt, b_le, b_gt, b_ge, b_eq, b_ne, u_not, e1_1, e1_5, e1_9, e1_10, e1_11]
    apply hK
    clear hK K
    simp only [andThen, leaves]
    refine DWp.seq ?_
    refine DWp.cond' (t := (ilt y1_11 (llen r1))) (by simp [e1_1, e1_5, e1_9, e1_10, e1_11]) (fun hb20 => ?_) (fun hb20 => ?_)
    · replace hL18 := cd_t hb20 hL18
      refine DWp.skip ?_
      simp only [andThen, leaves]
      refine DWp.seq ?_
      refine DWp.block ?_
      refine DWp.seq ?_
      obtain ⟨g21, hL18⟩ := gd_some hL18
      have q22 := (S1_.rd (k := 0) rfl).idxG (P := Try.prog) (kk := .i64) el_36 sz_22 g21
      have q23 := (S1_.rd (k := 0) rfl).loadG (P := Try.prog) sz_22 ag_22 g21
      refine DWp.region fun K hK => ?_
      simp [-aBin', -aBin, -aBinI, -aUn, -aNil, -flatV, n_fn, b_add, b_sub, b_mul, b_lt, b_le, b_gt, b_ge, b_eq, b_ne, u_not, e1_1, e1_5, e1_9, e1_10, e1_11, q22, q23]
      apply hK
      clear hK K
      simp only [andThen, leaves]
      obtain ⟨s24, hL25, hL18⟩ := bd_some hL18
      refine DWp.seq (DWp.join (fun env G => Sep G (Fr H) [rowsC c10_u0 22 3 c10_C0 (List.map ints r1)] ∧ AgB (Fr H) H G ∧ env 1 = some (Value.bool x1) ∧ env 5 = some (rnV c10_C0 y1_5) ∧ env 7 = some (gat nilV c10_C0 y1_11) ∧ env 9 = some c10_u0 ∧ env 10 = some (Value.int .i64 (llen r1)) ∧ env 11 = some (Value.int .i64 y1_11) ∧ env 53 = some (Value.bool s24)) ?_ ?_)
      ·
        obtain ⟨g27, hL25⟩ := gd_some hL25
        rcases Bool.eq_false_or_eq_true (lemp (rnL r1 y1_5)) with hb28 | hb28
        · replace hL25 := cd_t hb28 hL25
          refine DWp.drawn (B := [0, 1, 3, 7, 15, 31, 7, 71, 199, 511, 7, 1031, 3079, 7, 8199, 24583, 64519, 131071, 262143, 524287, 1048575, 2097151, 4194303, 8388607, 16777215, 4194303, 37748735, 104857599, 268435455, 4194303, 541065215, 1614807039, 4194303, 4299161599, 12889096191, 33827061759, 68719476735, 137438953471, 274877906943]) 39 mixed (by kernel_rfl) (by decide) fun K hK => ?_
          simp [-aBin', -aBin, -aBinI, -aUn, -aNil, -flatV, n_fn, b_add, b_sub, b_mul, b_lt, b_le, b_gt, b_ge, b_eq, b_ne, u_not, e1_1, e1_5, e1_9, e1_10, e1_11, hb28, nil_q us_22 (rn_sl (S1_.rd (k := 0) rfl) hrn_y1_5) (rn_nil g27), undef]
          apply hK
          clear hK K
          simp only [andThen, leaves]
          have S29 := S1_.pick [0] (by decide) rfl
          obtain rfl := Option.some.inj hL25
          exact ⟨S29, A1_, by simp [e1_1, e1_5, e1_9, e1_10, e1_11], by simp [e1_1, e1_5, e1_9, e1_10, e1_11], by simp [e1_1, e1_5, e1_9, e1_10, e1_11], by simp [e1_1, e1_5, e1_9, e1_10, e1_11], by simp [e1_1, e1_5, e1_9, e1_10, e1_11], by simp [e1_1, e1_5, e1_9, e1_10, e1_11], by simp [e1_1, e1_5, e1_9, e1_10, e1_11]⟩
        · replace hL25 := cd_f hb28 hL25
          obtain ⟨g30, hL25⟩ := gd_some hL25
          have q31 := idxG (P := Try.prog) (kk := .i64) ((S1_.rd (k := 0) rfl).rowAt [] g21) el_22 sz_3 g30
          replace q31 : aIndexAddr Try.prog G1_ 22 (gat nilV c10_C0 y1_11) (Value.int .i64 1) = some (elP (gat nilV c10_C0 y1_11) 1) := q31
          have q32 := loadG (P := Try.prog) ((S1_.rd (k := 0) rfl).rowAt [] g21) sz_3 ag_3 g30 0
          replace q32 : aLoad Try.prog G1_ 3 (elP (gat nilV c10_C0 y1_11) 1) = some (Value.int .i64 (gat 0 (gat [] r1 y1_11) 1)) := q32
          obtain ⟨g33, hL25⟩ := gd_some hL25
          have q34 := idxG (P := Try.prog) (kk := .i64) ((S1_.rd (k := 0) rfl).rowAt [] g21) el_22 sz_3 g33
          replace q34 : aIndexAddr Try.prog G1_ 22 (gat nilV c10_C0 y1_11) (Value.int .i64 0) = some (elP (gat nilV c10_C0 y1_11) 0) := q34
          have q35 := loadG (P := Try.prog) ((S1_.rd (k := 0) rfl).rowAt [] g21) sz_3 ag_3 g33 0
          replace q35 : aLoad Try.prog G1_ 3 (elP (gat nilV c10_C0 y1_11) 0) = some (Value.int .i64 (gat 0 (gat [] r1 y1_11) 0)) := q35
          obtain ⟨g36, hL25⟩ := gd_some hL25
          have q37 := idxG (P := Try.prog) (kk := .i64) (rn_sl (S1_.rd (k := 0) rfl) hrn_y1_5) el_22 sz_3 g36
          replace q37 : aIndexAddr Try.prog G1_ 22 (rnV c10_C0 y1_5) (Value.int .i64 1) = some (elP (rnV c10_C0 y1_5) 1) := q37
          have q38 := loadG (P := Try.prog) (rn_sl (S1_.rd (k := 0) rfl) hrn_y1_5) sz_3 ag_3 g36 0
          replace q38 : aLoad Try.prog G1_ 3 (elP (rnV c10_C0 y1_5) 1) = some (Value.int .i64 (gat 0 (rnL r1 y1_5) 1)) := q38
          obtain ⟨g39, hL25⟩ := gd_some hL25
          have q40 := idxG (P := Try.prog) (kk := .i64) (rn_sl (S1_.rd (k := 0) rfl) hrn_y1_5) el_22 sz_3 g39
          replace q40 : aIndexAddr Try.prog G1_ 22 (rnV c10_C0 y1_5) (Value.int .i64 0) = some (elP (rnV c10_C0 y1_5) 0) := q40
          have q41 := loadG (P := Try.prog) (rn_sl (S1_.rd (k := 0) rfl) hrn_y1_5) sz_3 ag_3 g39 0
          replace q41 : aLoad Try.prog G1_ 3 (elP (rnV c10_C0 y1_5) 0) = some (Value.int .i64 (gat 0 (rnL r1 y1_5) 0)) := q41
          rcases Bool.eq_false_or_eq_true (ilt (isub .i64 (gat 0 (gat [] r1 y1_11) 1) (gat 0 (gat [] r1 y1_11) 0)) (isub .i64 (gat 0 (rnL r1 y1_5) 1) (gat 0 (rnL r1 y1_5) 0))) with hb42 | hb42
          · replace hL25 := cd_t hb42 hL25
            refine DWp.drawn (B := [0, 1, 3, 7, 15, 31, 7, 71, 199, 511, 7, 1031, 3079, 7, 8199, 24583, 64519, 131071, 262143, 524287, 1048575, 2097151, 4194303, 8388607, 16777215, 4194303, 37748735, 104857599, 268435455, 4194303, 541065215, 1614807039, 4194303, 4299161599, 12889096191, 33827061759, 68719476735, 137438953471, 274877906943]) 39 mixed (by kernel_rfl) (by decide) fun K hK => ?_
            simp [-aBin', -aBin, -aBinI, -aUn, -aNil, -flatV, n_fn, b_add, b_sub, b_mul, b_lt, b_le, b_gt, b_ge, b_eq, b_ne, u_not, e1_1, e1_5, e1_9, e1_10, e1_11, hb28, hb42, nil_q us_22 (rn_sl (S1_.rd (k := 0) rfl) hrn_y1_5) (rn_nil g27), q31, q32, q34, q35, q37, q38, q40, q41, undef]
            apply hK
            clear hK K
            simp only [andThen, leaves]
            have S43 := S1_.pick [0] (by decide) rfl
            obtain rfl := Option.some.inj hL25
            exact ⟨S43, A1_, by simp [e1_1, e1_5, e1_9, e1_10, e1_11], by simp [e1_1, e1_5, e1_9, e1_10, e1_11], by simp [e1_1, e1_5, e1_9, e1_10, e1_11], by simp [e1_1, e1_5, e1_9, e1_10, e1_11], by simp [e1_1, e1_5, e1_9, e1_10, e1_11], by simp [e1_1, e1_5, e1_9, e1_10, e1_11], by simp [e1_1, e1_5, e1_9, e1_10, e1_11]⟩
          · replace hL25 := cd_f hb42 hL25
            rcases Bool.eq_false_or_eq_true x1 with hb44 | hb44
            · replace hL25 := cd_t hb44 hL25
              obtain ⟨g45, hL25⟩ := gd_some hL25
              have q46 := idxG (P := Try.prog) (kk := .i64) ((S1_.rd (k := 0) rfl).rowAt [] g21) el_22 sz_3 g45
              replace q46 : aIndexAddr Try.prog G1_ 22 (gat nilV c10_C0 y1_11) (Value.int .i64 1) = some (elP (gat nilV c10_C0 y1_11) 1) := q46
              have q47 := loadG (P := Try.prog) ((S1_.rd (k := 0) rfl).rowAt [] g21) sz_3 ag_3 g45 0
              replace q47 : aLoad Try.prog G1_ 3 (elP (gat nilV c10_C0 y1_11) 1) = some (Value.int .i64 (gat 0 (gat [] r1 y1_11) 1)) := q47
              obtain ⟨g48, hL25⟩ := gd_some hL25
              have q49 := idxG (P := Try.prog) (kk := .i64) ((S1_.rd (k := 0) rfl).rowAt [] g21) el_22 sz_3 g48
              replace q49 : aIndexAddr Try.prog G1_ 22 (gat nilV c10_C0 y1_11) (Value.int .i64 0) = some (elP (gat nilV c10_C0 y1_11) 0) := q49
              have q50 := loadG (P := Try.prog) ((S1_.rd (k := 0) rfl).rowAt [] g21) sz_3 ag_3 g48 0
              replace q50 : aLoad Try.prog G1_ 3 (elP (gat nilV c10_C0 y1_11) 0) = some (Value.int .i64 (gat 0 (gat [] r1 y1_11) 0)) := q50
              obtain ⟨g51, hL25⟩ := gd_some hL25
              have q52 := idxG (P := Try.prog) (kk := .i64) (rn_sl (S1_.rd (k := 0) rfl) hrn_y1_5) el_22 sz_3 g51
              replace q52 : aIndexAddr Try.prog G1_ 22 (rnV c10_C0 y1_5) (Value.int .i64 1) = some (elP (rnV c10_C0 y1_5) 1) := q52
              have q53 := loadG (P := Try.prog) (rn_sl (S1_.rd (k := 0) rfl) hrn_y1_5) sz_3 ag_3 g51 0
              replace q53 : aLoad Try.prog G1_ 3 (elP (rnV c10_C0 y1_5) 1) = some (Value.int .i64 (gat 0 (rnL r1 y1_5) 1)) := q53
              obtain ⟨g54, hL25⟩ := gd_some hL25
              have q55 := idxG (P := Try.prog) (kk := .i64) (rn_sl (S1_.rd (k := 0) rfl) hrn_y1_5) el_22 sz_3 g54
              replace q55 : aIndexAddr Try.prog G1_ 22 (rnV c10_C0 y1_5) (Value.int .i64 0) = some (elP (rnV c10_C0 y1_5) 0) := q55
              have q56 := loadG (P := Try.prog) (rn_sl (S1_.rd (k := 0) rfl) hrn_y1_5) sz_3 ag_3 g54 0
              replace q56 : aLoad Try.prog G1_ 3 (elP (rnV c10_C0 y1_5) 0) = some (Value.int .i64 (gat 0 (rnL r1 y1_5) 0)) := q56
              refine DWp.drawn (B := [0, 1, 3, 7, 15, 31, 7, 71, 199, 511, 7, 1031, 3079, 7, 8199, 24583, 64519, 131071, 262143, 524287, 1048575, 2097151, 4194303, 8388607, 16777215, 4194303, 37748735, 104857599, 268435455, 4194303, 541065215, 1614807039, 4194303, 4299161599, 12889096191, 33827061759, 68719476735, 137438953471, 274877906943]) 39 mixed (by kernel_rfl) (by decide) fun K hK => ?_
              simp [-aBin', -aBin, -aBinI, -aUn, -aNil, -flatV, n_fn, b_add, b_sub, b_mul, b_lt, b_le, b_gt, b_ge, b_eq, b_ne, u_not, e1_1, e1_5, e1_9, e1_10, e1_11, hb28, hb42, hb44, nil_q us_22 (rn_sl (S1_.rd (k := 0) rfl) hrn_y1_5) (rn_nil g27), q31, q32, q34, q35, q37, q38, q40, q41, q46, q47, q49, q50, q52, q53, q55, q56]
              apply hK
              clear hK K
              simp only [andThen, leaves]
              have S57 := S1_.pick [0] (by decide) rfl
              obtain rfl := Option.some.inj hL25
              exact ⟨S57, A1_, by simp [e1_1, e1_5, e1_9, e1_10, e1_11], by simp [e1_1, e1_5, e1_9, e1_10, e1_11], by simp [e1_1, e1_5, e1_9, e1_10, e1_11], by simp [e1_1, e1_5, e1_9, e1_10, e1_11], by simp [e1_1, e1_5, e1_9, e1_10, e1_11], by simp [e1_1, e1_5, e1_9, e1_10, e1_11], by simp [e1_1, e1_5, e1_9, e1_10, e1_11]⟩
            · replace hL25 := cd_f hb44 hL25
              refine DWp.drawn (B := [0, 1, 3, 7, 15, 31, 7, 71, 199, 511, 7, 1031, 3079, 7, 8199, 24583, 64519, 131071, 262143, 524287, 1048575, 2097151, 4194303, 8388607, 16777215, 4194303, 37748735, 104857599, 268435455, 4194303, 541065215, 1614807039, 4194303, 4299161599, 12889096191, 33827061759, 68719476735, 137438953471, 274877906943]) 39 mixed (by kernel_rfl) (by decide) fun K hK => ?_
              simp [-aBin', -aBin, -aBinI, -aUn, -aNil, -flatV, n_fn, b_add, b_sub, b_mul, b_lt, b_le, b_gt, b_ge, b_eq, b_ne, u_not, e1_1, e1_5, e1_9, e1_10, e1_11, hb28, hb42, hb44, nil_q us_22 (rn_sl (S1_.rd (k := 0) rfl) hrn_y1_5) (rn_nil g27), q31, q32, q34, q35, q37, q38, q40, q41]
              apply hK
              clear hK K
              simp only [andThen, leaves]
              have S58 := S1_.pick [0] (by decide) rfl
              obtain rfl := Option.some.inj hL25
              exact ⟨S58, A1_, by simp [e1_1, e1_5, e1_9, e1_10, e1_11], by simp [e1_1, e1_5, e1_9, e1_10, e1_11], by simp [e1_1, e1_5, e1_9, e1_10, e1_11], by simp [e1_1, e1_5, e1_9, e1_10, e1_11], by simp [e1_1, e1_5, e1_9, e1_10, e1_11], by simp [e1_1, e1_5, e1_9, e1_10, e1_11], by simp [e1_1, e1_5, e1_9, e1_10, e1_11]⟩
      · rintro env Gj59 ⟨Sj59, Aj59, ej59_1, ej59_5, ej59_7, ej59_9, ej59_10, ej59_11, ej59_53⟩
        refine DWp.cond' (t := s24) (by simp [ej59_1, ej59_5, ej59_7, ej59_9, ej59_10, ej59_11, ej59_53]) (fun hb60 => ?_) (fun hb60 => ?_)
        · replace hL18 := cd_t hb60 hL18
          refine DWp.region fun K hK => ?_
          simp [-aBin', -aBin, -aBinI, -aUn, -aNil, -flatV, n_fn, b_add, b_sub, b_mul, b_lt, b_le, b_gt, b_ge, b_eq, b_ne, u_not, ej59_1, ej59_5, ej59_7, ej59_9, ej59_10, ej59_11, ej59_53]
          apply hK
          clear hK K
          simp only [andThen, leaves]
          refine DWp.region fun K hK => ?_
          simp [-aBin', -aBin, -aBinI, -aUn, -aNil, -flatV, n_fn, b_add, b_sub, b_mul, b_lt, b_le, b_gt, b_ge, b_eq, b_ne, u_not, ej59_1, ej59_5, ej59_7, ej59_9, ej59_10, ej59_11, ej59_53]
          apply hK
          clear hK K
          simp only [andThen, leaves]
          have S61 := Sj59.pick [0] (by decide) rfl
          have q62 := rnV_in (C := c10_C0) g21
          exact ⟨n1, Nat.lt_succ_self _, y1_11, (iadd .i64 y1_11 1), hL18, S61, Aj59, by simp [ej59_1, ej59_5, ej59_7, ej59_9, ej59_10, ej59_11, ej59_53, q62], by simp [ej59_1, ej59_5, ej59_7, ej59_9, ej59_10, ej59_11, ej59_53, q62], by simp [ej59_1, ej59_5, ej59_7, ej59_9, ej59_10, ej59_11, ej59_53, q62], by simp [ej59_1, ej59_5, ej59_7, ej59_9, ej59_10, ej59_11, ej59_53, q62], by simp [ej59_1, ej59_5, ej59_7, ej59_9, ej59_10, ej59_11, ej59_53, q62], .inr g21⟩
        · replace hL18 := cd_f hb60 hL18
          refine DWp.skip ?_
          simp only [andThen, leaves]
          refine DWp.region fun K hK => ?_
          simp [-aBin', -aBin, -aBinI, -aUn, -aNil, -flatV, n_fn, b_add, b_sub, b_mul, b_lt, b_le, b_gt, b_ge, b_eq, b_ne, u_not, ej59_1, ej59_5, ej59_7, ej59_9, ej59_10, ej59_11, ej59_53]
          apply hK
          clear hK K
          simp only [andThen, leaves]
          have S63 := Sj59.pick [0] (by decide) rfl
          exact ⟨n1, Nat.lt_succ_self _, y1_5, (iadd .i64 y1_11 1), hL18, S63, Aj59, by simp [ej59_1, ej59_5, ej59_7, ej59_9, ej59_10, ej59_11, ej59_53], by simp [ej59_1, ej59_5, ej59_7, ej59_9, ej59_10, ej59_11, ej59_53], by simp [ej59_1, ej59_5, ej59_7, ej59_9, ej59_10, ej59_11, ej59_53], by simp [ej59_1, ej59_5, ej59_7, ej59_9, ej59_10, ej59_11, ej59_53], by simp [ej59_1, ej59_5, ej59_7, ej59_9, ej59_10, ej59_11, ej59_53], hrn_y1_5⟩
    · replace hL18 := cd_f hb20 hL18
      refine DWp.exit ?_
      simp only [andThen, leaves, if_true, if_false, reduceIte, Nat.reduceEqDiff]
      obtain rfl := Option.some.inj hL18
      try dsimp only at hF
      refine DWp.seq ?_
      refine DWp.region fun K hK => ?_
      simp [-aBin', -aBin, -aBinI, -aUn, -aNil, -flatV, n_fn, b_add, b_sub, b_mul, b_lt, b_le, b_gt, b_ge, b_eq, b_ne, u_not, e1_1, e1_5, e1_9, e1_10, e1_11]
      apply hK
      clear hK K
      simp only [andThen, leaves]
      refine DWp.ret ?_
      rcases Bool.eq_false_or_eq_true (ilt y1_5 0) with hb64 | hb64
      · replace hF := cd_t hb64 hF
        have q65 : rnV c10_C0 y1_5 = .slice none 0 0 := rnV_t hb64
        have S66 := S1_.nilItem (hB.le A1_.1) 3
        obtain rfl := Option.some.inj hF
        exact ⟨by simp, [(Value.slice none 0 0)], by simp [e1_1, e1_5, e1_9, e1_10, e1_11, q65], A1_, (Value.slice none 0 0), rfl, S66.pick [1] (by decide) rfl, fun _ => rfl⟩
      · replace hF := cd_f hb64 hF
        have g68 := hrn_y1_5.resolve_left (by rw [hb64]; decide)
        have q67 : rnV c10_C0 y1_5 = gat nilV c10_C0 y1_5 := rnV_f hb64
        obtain ⟨g69, hF⟩ := gd_some hF
        have S70 : Sep G1_ (Fr H) [rowsX c10_u0 22 3 c10_C0 (List.map ints r1) (y1_5).toNat, flat (gat nilV c10_C0 y1_5) 3 (ints (gat [] r1 y1_5))] := S1_.rowOut (fr := ints) (k := 0) rfl [] g68
        obtain rfl := Option.some.inj hF
        exact ⟨by simp, [(gat nilV c10_C0 y1_5)], by simp [e1_1, e1_5, e1_9, e1_10, e1_11, q67, (((S1_.rd (k := 0) rfl).rowAt [] g68).tup)], A1_, (gat nilV c10_C0 y1_5), rfl, S70.pick [1] (by decide) rfl, fun h_ => absurd h_ g69⟩
def F_impl_Meander_kept_1 (fu : Nat) (x0 : Int) (x1 : Int → Option (Bool)) : Option (Bool) :=
  bd (x1 x0) fun r1 =>
  some (bnot r1)
theorem F_impl_Meander_kept_1_w {fu : Nat} {H : AH} {p1 : Value} {f1 : FuncId} {c1 : List Value} {x0 : Int} {x1 : Int → Option (Bool)} {r : (Bool)} (hx1 : ∀ (G : AH), AgB (Fr H) H G → ∀ (y0 : Int) (q : (Bool)), x1 y0 = some q → ACallT Try.prog f1 ([(Value.int .i64 y0)] ++ c1) G (fun u G' => AgB (Fr G) G G' ∧ u = (Value.bool q) ∧ Sep G' (Fr G) [])) (hp1 : Bx H p1 [(Value.func (.func f1) #[] c1.toArray)]) (hF : F_impl_Meander_kept_1 fu x0 x1 = some r) :
    ACallT Try.prog 163 [(Value.int .i64 x0), p1] H (fun u G => AgB (Fr H) H G ∧ u = (Value.bool r) ∧ Sep G (Fr H) []) := by
  refine ACallT.of_body (nt := 8) (rs := [.tmp 3]) Try.func163 rfl rfl rfl rfl ?_
  have A0 : AgB (Fr H) H H := .refl _ _
  have S0 : Sep H (Fr H) [] := .nil
  have hB := Fr.up H
  unfold F_impl_Meander_kept_1 at hF
  refine DWp.seq ?_
  refine DWp.region fun K hK => ?_
  simp [-aBin', -aBin, -aBinI, -aUn, -aNil, -flatV, n_fn, b_add, b_sub, b_mul, b_lt, b_le, b_gt, b_ge, b_eq, b_ne, u_not]
  apply hK
  clear hK K
  simp only [andThen, leaves]
  refine DWp.seq ?_
  have q1 := (hp1.agree A0.agree).load0 (P := Try.prog) sz_53 ag_53
  obtain ⟨r1, hc2, hF⟩ := bd_some hF
  refine DWp.region fun K hK => ?_
  simp [-aBin', -aBin, -aBinI, -aUn, -aNil, -flatV, n_fn, b_add, b_sub, b_mul, b_lt, b_le, b_gt, b_ge, b_eq, b_ne, u_not, q1]
  refine CallD.t (hx1 _ A0 x0 _  hc2) ?_
  rintro _ G3 ⟨a6, rfl, S7⟩
  have A5 := A0.ext (hB.le A0.1) a6.agree
  have S4 : Sep G3 (Fr H) [] := S0.agree a6.agree
  simp [-aBin', -aBin, -aBinI, -aUn, -aNil, -flatV, n_fn, b_add, b_sub, b_mul, b_lt, b_le, b_gt, b_ge, b_eq, b_ne, u_not, q1, a6.pre]
  apply hK
  clear hK K
  simp only [andThen, leaves]
  refine DWp.ret ?_
  obtain rfl := Option.some.inj hF
  exact ⟨by simp, [(Value.bool (bnot r1))], by simp [], A5, rfl, S4.pick [] (by decide) rfl⟩
def F_impl_without_L2 (fu : Nat) (k2_0 : (Int → Option (Bool))) (k2_1 : List Int) (k2_2 : List Int) (k2_3 : Int) : Nat → List Int → Int → Option (List Int × Int)
  | 0, _, _ => none
  | n + 1, l2_1, y2_33 =>
    bif (ilt y2_33 k2_3) then
      gd (inL k2_2 y2_33) (
      bd (k2_0 y2_33) fun r2 =>
      bif (bnot r2) then
        gd (inL k2_1 (gat 0 k2_2 y2_33)) (
        gd (l2_1.length + [(gat 0 k2_1 (gat 0 k2_2 y2_33))].length ≤ 4294967296) (
        F_impl_without_L2 fu k2_0 k2_1 k2_2 k2_3 n (lapp l2_1 [(gat 0 k2_1 (gat 0 k2_2 y2_33))]) (iadd .i64 y2_33 1)))
      else
        F_impl_without_L2 fu k2_0 k2_1 k2_2 k2_3 n l2_1 (iadd .i64 y2_33 1))
    else
      some (l2_1, y2_33)
def F_impl_without_L1 (fu : Nat) (k1_0 : List Int) (k1_1 : (Int → Option (Bool))) (k1_2 : Int) : Nat → List Int → Int → Int → Option (List Int × Int × Int)
  | 0, _, _, _ => none
  | n + 1, l1_0, y1_6, y1_16 =>
    bif (ilt y1_16 k1_2) then
      gd (inL l1_0 y1_16) (
      bd (k1_1 y1_16) fun r1 =>
      bif (bnot r1) then
        F_impl_without_L1 fu k1_0 k1_1 k1_2 n (lset l1_0 y1_16 y1_6) (iadd .i64 y1_6 1) (iadd .i64 y1_16 1)
      else
        F_impl_without_L1 fu k1_0 k1_1 k1_2 n (lset l1_0 y1_16 y1_6) y1_6 (iadd .i64 y1_16 1))
    else
      some (l1_0, y1_6, y1_16)
def F_impl_without (fu : Nat) (x0 : List Int) (x1 : Int → Option (Bool)) : Option (List Int) :=
  gd (0 ≤ (llen x0) ∧ (llen x0) ≤ 4294967296) (
  bd (F_impl_without_L1 fu x0 x1 (llen x0) fu (lrep (llen x0) (0 : Int)) 0 0) fun s1 =>
  bd (F_impl_without_L2 fu x1 s1.1 x0 (llen x0) fu (@List.nil Int) 0) fun s2 =>
  some s2.1)
theorem F_impl_without_w {fu : Nat} {H : AH} {v0 : Value} {f1 : FuncId} {c1 : List Value} {x0 : List Int} {x1 : Int → Option (Bool)} {r : (List Int)} (hx0 : Sl H v0 (ints x0)) (hx1 : ∀ (G : AH), AgB (Fr H) H G → ∀ (y0 : Int) (q : (Bool)), x1 y0 = some q → ACallT Try.prog f1 ([(Value.int .i64 y0)] ++ c1) G (fun u G' => AgB (Fr G) G G' ∧ u = (Value.bool q) ∧ Sep G' (Fr G) [])) (hF : F_impl_without fu x0 x1 = some r) :
    ACallT Try.prog 164 [v0, (Value.func (.func f1) #[] c1.toArray)] H (fun u G => AgB (Fr H) H G ∧ ∃ u0 : Value, u = u0 ∧ Sep G (Fr H) [flat u0 3 (ints r)]) := by
  refine ACallT.of_body (nt := 51) (rs := [.tmp 4]) Try.func164 rfl rfl rfl rfl ?_
  have A0 : AgB (Fr H) H H := .refl _ _
  have S0 : Sep H (Fr H) [] := .nil
  have hB := Fr.up H
  unfold F_impl_without at hF
  refine DWp.seq ?_
  refine DWp.region fun K hK => ?_
  simp [-aBin', -aBin, -aBinI, -aUn, -aNil, -flatV, n_fn, b_add, b_sub, b_mul, b_lt, b_le, b_gt, b_ge, b_eq, b_ne, u_not]
  apply hK
  clear hK K
  simp only [andThen, leaves]
  refine DWp.seq ?_
  have q1 := lenG (P := Try.prog) (hx0.agree A0.agree) el_22
  obtain ⟨g2, hF⟩ := gd_some hF
  obtain ⟨v3, G4, q5, S6, a8, _⟩ := S0.make (f := (Value.int .i64)) (P := Try.prog) (t := 22) (hB.le A0.1) el_22 ei_3 rfl 0 rfl g2
  have A7 := A0.ext (hB.le A0.1) a8
  replace S6 : Sep G4 (Fr H) [flat v3 3 (ints (lrep (llen x0) (0 : Int)))] := S6
  refine DWp.region fun K hK => ?_
  simp [-aBin', -aBin, -aBinI, -aUn, -aNil, -flatV, n_fn, b_add, b_sub, b_mul, b_lt, b_le, b_gt, b_ge, b_eq, b_ne, u_not, q1, q5, a8.to_pre]
  apply hK
  clear hK K
  simp only [andThen, leaves]
  refine DWp.seq ?_
  refine DWp.seq ?_
  have q9 := lenG (P := Try.prog) (hx0.agree A7.agree) el_22
  refine DWp.region fun K hK => ?_
  simp [-aBin', -aBin, -aBinI, -aUn, -aNil, -flatV, n_fn, b_add, b_sub, b_mul, b_lt, b_le, b_gt, b_ge, b_eq, b_ne, u_not, q9]
  apply hK
  clear hK K
  simp only [andThen, leaves]
  refine DWp.block ?_
  obtain ⟨s10, hL11, hF⟩ := bd_some hF
  have S12 := S6.pick [0] (by decide) rfl
  refine DWp.loop (fun n env G => ∃ l1_0 : List Int, ∃ y1_6 : Int, ∃ y1_16 : Int, F_impl_without_L1 fu x0 x1 (llen x0) n l1_0 y1_6 y1_16 = some s10 ∧ Sep G (Fr H) [flat v3 3 (ints l1_0)] ∧ AgB (Fr H) H G ∧ env 0 = some v0 ∧ env 1 = some (Value.func (.func f1) #[] c1.toArray) ∧ env 5 = some v3 ∧ env 6 = some (Value.int .i64 y1_6) ∧ env 15 = some (Value.int .i64 (llen x0)) ∧ env 16 = some (Value.int .i64 y1_16)) fu ⟨(lrep (llen x0) (0 : Int)), 0, 0, hL11, S12, A7, by simp [], by simp [], by simp [], by simp [], by simp [], by simp []⟩ ?_
  rintro n1 env1 G1_ ⟨l1_0, y1_6, y1_16, hL11, S1_, A1_, e1_0, e1_1, e1_5, e1_6, e1_15, e1_16⟩
  cases n1 with
  | zero => cases hL11
  | succ n1 =>
    simp only [F_impl_without_L1] at hL11
    refine DWp.seq ?_
    refine DWp.region fun K hK => ?_
    simp [-aBin', -aBin, -aBinI, -aUn, -aNil, -flatV, n_fn, b_add, b_sub, b_mul, b_lt, b_le, b_gt, b_ge, b_eq, b_ne, u_not, e1_0, e1_1, e1_5, e1_6, e1_15, e1_16]
    apply hK
    clear hK K
    simp only [andThen, leaves]
    refine DWp.seq ?_
    refine DWp.cond' (t := (ilt y1_16 (llen x0))) (by simp [e1_0, e1_1, e1_5, e1_6, e1_15, e1_16]) (fun hb13 => ?_) (fun hb13 => ?_)
    · replace hL11 := cd_t hb13 hL11
      refine DWp.skip ?_
      simp only [andThen, leaves]
      refine DWp.seq ?_
      refine DWp.block ?_
      refine DWp.seq ?_
      refine DWp.region fun K hK => ?_
      simp [-aBin', -aBin, -aBinI, -aUn, -aNil, -flatV, n_fn, b_add, b_sub, b_mul, b_lt, b_le, b_gt, b_ge, b_eq, b_ne, u_not, e1_0, e1_1, e1_5, e1_6, e1_15, e1_16]
      apply hK
      clear hK K
      simp only [andThen, leaves]
      refine DWp.seq ?_
      obtain ⟨g14, hL11⟩ := gd_some hL11
      have q15 := idxG (P := Try.prog) (kk := .i64) (S1_.sl (k := 0) rfl) el_22 sz_3 g14
      obtain ⟨G16, q17, S18, a20⟩ := S1_.storeG (f := (Value.int .i64)) (P := Try.prog) (k := 0) (x := y1_6) rfl (hB.le A1_.1) sz_3 g14 rfl rfl
      have A19 := A1_.trans a20
      replace S18 : Sep G16 (Fr H) [flat v3 3 (ints (lset l1_0 y1_16 y1_6))] := S18
      refine DWp.region fun K hK => ?_
      simp [-aBin', -aBin, -aBinI, -aUn, -aNil, -flatV, n_fn, b_add, b_sub, b_mul, b_lt, b_le, b_gt, b_ge, b_eq, b_ne, u_not, e1_0, e1_1, e1_5, e1_6, e1_15, e1_16, q15, q17]
      apply hK
      clear hK K
      simp only [andThen, leaves]
      refine DWp.seq ?_
      obtain ⟨r1, hc21, hL11⟩ := bd_some hL11
      refine DWp.region fun K hK => ?_
      simp [-aBin', -aBin, -aBinI, -aUn, -aNil, -flatV, n_fn, b_add, b_sub, b_mul, b_lt, b_le, b_gt, b_ge, b_eq, b_ne, u_not, e1_0, e1_1, e1_5, e1_6, e1_15, e1_16]
      refine CallD.t (hx1 _ A19 y1_16 _  hc21) ?_
      rintro _ G22 ⟨a25, rfl, S26⟩
      have A24 := A19.ext (hB.le A19.1) a25.agree
      have S23 : Sep G22 (Fr H) [flat v3 3 (ints (lset l1_0 y1_16 y1_6))] := S18.agree a25.agree
      simp [-aBin', -aBin, -aBinI, -aUn, -aNil, -flatV, n_fn, b_add, b_sub, b_mul, b_lt, b_le, b_gt, b_ge, b_eq, b_ne, u_not, e1_0, e1_1, e1_5, e1_6, e1_15, e1_16, a25.pre]
      apply hK
      clear hK K
      simp only [andThen, leaves]
      refine DWp.cond' (t := (bnot r1)) (by simp [e1_0, e1_1, e1_5, e1_6, e1_15, e1_16]) (fun hb27 => ?_) (fun hb27 => ?_)
      · replace hL11 := cd_t hb27 hL11
        refine DWp.region fun K hK => ?_
        simp [-aBin', -aBin, -aBinI, -aUn, -aNil, -flatV, n_fn, b_add, b_sub, b_mul, b_lt, b_le, b_gt, b_ge, b_eq, b_ne, u_not, e1_0, e1_1, e1_5, e1_6, e1_15, e1_16]
        apply hK
        clear hK K
        simp only [andThen, leaves]
        refine DWp.region fun K hK => ?_
        simp [-aBin', -aBin, -aBinI, -aUn, -aNil, -flatV, n_fn, b_add, b_sub, b_mul, b_lt, b_le, b_gt, b_ge, b_eq, b_ne, u_not, e1_0, e1_1, e1_5, e1_6, e1_15, e1_16]
        apply hK
        clear hK K
        simp only [andThen, leaves]
        have S28 := S23.pick [0] (by decide) rfl
        exact ⟨n1, Nat.lt_succ_self _, (lset l1_0 y1_16 y1_6), (iadd .i64 y1_6 1), (iadd .i64 y1_16 1), hL11, S28, A24, by simp [e1_0, e1_1, e1_5, e1_6, e1_15, e1_16], by simp [e1_0, e1_1, e1_5, e1_6, e1_15, e1_16], by simp [e1_0, e1_1, e1_5, e1_6, e1_15, e1_16], by simp [e1_0, e1_1, e1_5, e1_6, e1_15, e1_16], by simp [e1_0, e1_1, e1_5, e1_6, e1_15, e1_16], by simp [e1_0, e1_1, e1_5, e1_6, e1_15, e1_16]⟩
      · replace hL11 := cd_f hb27 hL11
        refine DWp.skip ?_
        simp only [andThen, leaves]
        refine DWp.region fun K hK => ?_
        simp [-aBin', -aBin, -aBinI, -aUn, -aNil, -flatV, n_fn, b_add, b_sub, b_mul, b_lt, b_le, b_gt, b_ge, b_eq, b_ne, u_not, e1_0, e1_1, e1_5, e1_6, e1_15, e1_16]
        apply hK
        clear hK K
        simp only [andThen, leaves]
        have S29 := S23.pick [0] (by decide) rfl
        exact ⟨n1, Nat.lt_succ_self _, (lset l1_0 y1_16 y1_6), y1_6, (iadd .i64 y1_16 1), hL11, S29, A24, by simp [e1_0, e1_1, e1_5, e1_6, e1_15, e1_16], by simp [e1_0, e1_1, e1_5, e1_6, e1_15, e1_16], by simp [e1_0, e1_1, e1_5, e1_6, e1_15, e1_16], by simp [e1_0, e1_1, e1_5, e1_6, e1_15, e1_16], by simp [e1_0, e1_1, e1_5, e1_6, e1_15, e1_16], by simp [e1_0, e1_1, e1_5, e1_6, e1_15, e1_16]⟩
    · replace hL11 := cd_f hb13 hL11
      refine DWp.exit ?_
      simp only [andThen, leaves, if_true, if_false, reduceIte, Nat.reduceEqDiff]
      obtain rfl := Option.some.inj hL11
      try dsimp only at hF
      refine DWp.seq ?_
      obtain ⟨v30, G31, q32, S33, a35, _, _⟩ := S1_.lit0 (P := Try.prog) (t := 22) (hB.le A1_.1) el_22 ei_3 rfl
      have A34 := A1_.ext (hB.le A1_.1) a35
      replace S33 : Sep G31 (Fr H) [flat v3 3 (ints l1_0), flat1 v30 3 (ints (@List.nil Int))] := S33
      refine DWp.region fun K hK => ?_
      simp [-aBin', -aBin, -aBinI, -aUn, -aNil, -flatV, n_fn, b_add, b_sub, b_mul, b_lt, b_le, b_gt, b_ge, b_eq, b_ne, u_not, e1_0, e1_1, e1_5, e1_6, e1_15, e1_16, q32, a35.to_pre]
      apply hK
      clear hK K
      simp only [andThen, leaves]
      refine DWp.seq ?_
      refine DWp.seq ?_
      have q37 := lenG (P := Try.prog) (hx0.agree A34.agree) el_22
      refine DWp.region fun K hK => ?_
      simp [-aBin', -aBin, -aBinI, -aUn, -aNil, -flatV, n_fn, b_add, b_sub, b_mul, b_lt, b_le, b_gt, b_ge, b_eq, b_ne, u_not, e1_0, e1_1, e1_5, e1_6, e1_15, e1_16, q37]
      apply hK
      clear hK K
      simp only [andThen, leaves]
      refine DWp.block ?_
      obtain ⟨s38, hL39, hF⟩ := bd_some hF
      have S40 := S33.pick [0, 1] (by decide) rfl
      have S41 := S40.weak (k := 1) rfl
      refine DWp.loop (fun n env G => ∃ l2_1 : List Int, ∃ y2_33 : Int, ∃ w2_1 : Value, F_impl_without_L2 fu x1 l1_0 x0 (llen x0) n l2_1 y2_33 = some s38 ∧ Sep G (Fr H) [flat v3 3 (ints l1_0), flat w2_1 3 (ints l2_1)] ∧ AgB (Fr H) H G ∧ env 1 = some (Value.func (.func f1) #[] c1.toArray) ∧ env 5 = some v3 ∧ env 8 = some w2_1 ∧ env 31 = some v0 ∧ env 32 = some (Value.int .i64 (llen x0)) ∧ env 33 = some (Value.int .i64 y2_33)) fu ⟨(@List.nil Int), 0, v30, hL39, S41, A34, by simp [e1_0, e1_1, e1_5, e1_6, e1_15, e1_16], by simp [e1_0, e1_1, e1_5, e1_6, e1_15, e1_16], by simp [e1_0, e1_1, e1_5, e1_6, e1_15, e1_16], by simp [e1_0, e1_1, e1_5, e1_6, e1_15, e1_16], by simp [e1_0, e1_1, e1_5, e1_6, e1_15, e1_16], by simp [e1_0, e1_1, e1_5, e1_6, e1_15, e1_16]⟩ ?_
      rintro n1 env1 G1_ ⟨l2_1, y2_33, w2_1, hL39, S1_, A1_, e1_1, e1_5, e1_8, e1_31, e1_32, e1_33⟩
      cases n1 with
      | zero => cases hL39
      | succ n1 =>
        simp only [F_impl_without_L2] at hL39
        refine DWp.seq ?_
        refine DWp.region fun K hK => ?_
        simp [-aBin', -aBin, -aBinI, -aUn, -aNil, -flatV, n_fn, b_add, b_sub, b_mul, b_lt, b_le, b_gt, b_ge, b_eq, b_ne, u_not, e1_1, e1_5, e1_8, e1_31, e1_32, e1_33]
        apply hK
        clear hK K
        simp only [andThen, leaves]
        refine DWp.seq ?_
        refine DWp.cond' (t := (ilt y2_33 (llen x0))) (by simp [e1_1, e1_5, e1_8, e1_31, e1_32, e1_33]) (fun hb42 => ?_) (fun hb42 => ?_)
        · replace hL39 := cd_t hb42 hL39
          refine DWp.skip ?_
          simp only [andThen, leaves]
          refine DWp.seq ?_
          refine DWp.block ?_
          refine DWp.seq ?_
          obtain ⟨g43, hL39⟩ := gd_some hL39
          have q44 := idxG (P := Try.prog) (kk := .i64) (hx0.agree A1_.agree) el_22 sz_3 g43
          have q45 := loadG (P := Try.prog) (hx0.agree A1_.agree) sz_3 ag_3 g43 0
          refine DWp.region fun K hK => ?_
          simp [-aBin', -aBin, -aBinI, -aUn, -aNil, -flatV, n_fn, b_add, b_sub, b_mul, b_lt, b_le, b_gt, b_ge, b_eq, b_ne, u_not, e1_1, e1_5, e1_8, e1_31, e1_32, e1_33, q44, q45]
          apply hK
          clear hK K
          simp only [andThen, leaves]
          refine DWp.seq ?_
          obtain ⟨r2, hc46, hL39⟩ := bd_some hL39
          refine DWp.region fun K hK => ?_
          simp [-aBin', -aBin, -aBinI, -aUn, -aNil, -flatV, n_fn, b_add, b_sub, b_mul, b_lt, b_le, b_gt, b_ge, b_eq, b_ne, u_not, e1_1, e1_5, e1_8, e1_31, e1_32, e1_33]
          refine CallD.t (hx1 _ A1_ y2_33 _  hc46) ?_
          rintro _ G47 ⟨a50, rfl, S51⟩
          have A49 := A1_.ext (hB.le A1_.1) a50.agree
          have S48 : Sep G47 (Fr H) [flat v3 3 (ints l1_0), flat w2_1 3 (ints l2_1)] := S1_.agree a50.agree
          simp [-aBin', -aBin, -aBinI, -aUn, -aNil, -flatV, n_fn, b_add, b_sub, b_mul, b_lt, b_le, b_gt, b_ge, b_eq, b_ne, u_not, e1_1, e1_5, e1_8, e1_31, e1_32, e1_33, a50.pre]
          apply hK
          clear hK K
          simp only [andThen, leaves]
          refine DWp.cond' (t := (bnot r2)) (by simp [e1_1, e1_5, e1_8, e1_31, e1_32, e1_33]) (fun hb52 => ?_) (fun hb52 => ?_)
          · replace hL39 := cd_t hb52 hL39
            obtain ⟨g53, hL39⟩ := gd_some hL39
            have q54 := idxG (P := Try.prog) (kk := .i64) (S48.sl (k := 0) rfl) el_22 sz_3 g53
            have q55 := loadG (P := Try.prog) (S48.sl (k := 0) rfl) sz_3 ag_3 g53 0
            obtain ⟨v56, G57, q58, S59, a61, _, _⟩ := S48.lit1 (P := Try.prog) (t := 22) (hB.le A49.1) el_22 ei_3 rfl (Value.int .i64 (gat 0 l1_0 (gat 0 x0 y2_33))) rfl rfl
            have A60 := A49.ext (hB.le A49.1) a61
            replace S59 : Sep G57 (Fr H) [flat v3 3 (ints l1_0), flat w2_1 3 (ints l2_1), flat1 v56 3 (ints [(gat 0 l1_0 (gat 0 x0 y2_33))])] := S59
            obtain ⟨g63, hL39⟩ := gd_some hL39
            obtain ⟨v69, G64, q65, S66, a68, _, _⟩ := S59.appendG (f := (Value.int .i64)) (xs := l2_1) (ys := [(gat 0 l1_0 (gat 0 x0 y2_33))]) (P := Try.prog) (t := 22) (t2 := 22) (k := 1) rfl (hB.le A60.1) el_22 el_22 ei_3 rfl (S59.sl1 (k := 2) rfl) g63
            have A67 := A60.trans a68
            replace S66 : Sep G64 (Fr H) [flat v3 3 (ints l1_0), flat v69 3 (ints (lapp l2_1 [(gat 0 l1_0 (gat 0 x0 y2_33))])), flat1 v56 3 (ints [(gat 0 l1_0 (gat 0 x0 y2_33))])] := S66
            refine DWp.region fun K hK => ?_
            simp [-aBin', -aBin, -aBinI, -aUn, -aNil, -flatV, n_fn, b_add, b_sub, b_mul, b_lt, b_le, b_gt, b_ge, b_eq, b_ne, u_not, e1_1, e1_5, e1_8, e1_31, e1_32, e1_33, q54, q55, q58, a61.to_pre, q65]
            apply hK
            clear hK K
            simp only [andThen, leaves]
            refine DWp.region fun K hK => ?_
            simp [-aBin', -aBin, -aBinI, -aUn, -aNil, -flatV, n_fn, b_add, b_sub, b_mul, b_lt, b_le, b_gt, b_ge, b_eq, b_ne, u_not, e1_1, e1_5, e1_8, e1_31, e1_32, e1_33]
            apply hK
            clear hK K
            simp only [andThen, leaves]
            have S70 := S66.pick [0, 1] (by decide) rfl
            exact ⟨n1, Nat.lt_succ_self _, (lapp l2_1 [(gat 0 l1_0 (gat 0 x0 y2_33))]), (iadd .i64 y2_33 1), v69, hL39, S70, A67, by simp [e1_1, e1_5, e1_8, e1_31, e1_32, e1_33], by simp [e1_1, e1_5, e1_8, e1_31, e1_32, e1_33], by simp [e1_1, e1_5, e1_8, e1_31, e1_32, e1_33], by simp [e1_1, e1_5, e1_8, e1_31, e1_32, e1_33], by simp [e1_1, e1_5, e1_8, e1_31, e1_32, e1_33], by simp [e1_1, e1_5, e1_8, e1_31, e1_32, e1_33]⟩
          · replace hL39 := cd_f hb52 hL39
            refine DWp.skip ?_
            simp only [andThen, leaves]
            refine DWp.region fun K hK => ?_
            simp [-aBin', -aBin, -aBinI, -aUn, -aNil, -flatV, n_fn, b_add, b_sub, b_mul, b_lt, b_le, b_gt, b_ge, b_eq, b_ne, u_not, e1_1, e1_5, e1_8, e1_31, e1_32, e1_33]
            apply hK
            clear hK K
            simp only [andThen, leaves]
            have S71 := S48.pick [0, 1] (by decide) rfl
            exact ⟨n1, Nat.lt_succ_self _, l2_1, (iadd .i64 y2_33 1), w2_1, hL39, S71, A49, by simp [e1_1, e1_5, e1_8, e1_31, e1_32, e1_33], by simp [e1_1, e1_5, e1_8, e1_31, e1_32, e1_33], by simp [e1_1, e1_5, e1_8, e1_31, e1_32, e1_33], by simp [e1_1, e1_5, e1_8, e1_31, e1_32, e1_33], by simp [e1_1, e1_5, e1_8, e1_31, e1_32, e1_33], by simp [e1_1, e1_5, e1_8, e1_31, e1_32, e1_33]⟩
        · replace hL39 := cd_f hb42 hL39
          refine DWp.exit ?_
          simp only [andThen, leaves, if_true, if_false, reduceIte, Nat.reduceEqDiff]
          obtain rfl := Option.some.inj hL39
          try dsimp only at hF
          refine DWp.seq ?_
          refine DWp.region fun K hK => ?_
          simp [-aBin', -aBin, -aBinI, -aUn, -aNil, -flatV, n_fn, b_add, b_sub, b_mul, b_lt, b_le, b_gt, b_ge, b_eq, b_ne, u_not, e1_1, e1_5, e1_8, e1_31, e1_32, e1_33]
          apply hK
          clear hK K
          simp only [andThen, leaves]
          refine DWp.ret ?_
          obtain rfl := Option.some.inj hF
          exact ⟨by simp, [w2_1], by simp [e1_1, e1_5, e1_8, e1_31, e1_32, e1_33, ((S1_.sl (k := 1) rfl).tup)], A1_, w2_1, rfl, S1_.pick [1] (by decide) rfl⟩
def F_impl_Meander_kept (fu : Nat) (x0_0 : List Int) (x0_1 : List Int) (x1 : Int → Option (Bool)) : Option ((List Int × List Int)) :=
  bd (F_impl_without fu x0_0 (fun y0 => F_impl_Meander_kept_1 fu y0 x1)) fun r1 =>
  bd (F_impl_without fu x0_1 (fun y0 => F_impl_Meander_kept_1 fu y0 x1)) fun r2 =>
  some (r1, r2)
theorem F_impl_Meander_kept_w {fu : Nat} {H : AH} {v0_0 : Value} {v0_1 : Value} {f1 : FuncId} {c1 : List Value} {x0_0 : List Int} {x0_1 : List Int} {x1 : Int → Option (Bool)} {r : ((List Int × List Int))} (hx0_0 : Sl H v0_0 (ints x0_0)) (hx0_1 : Sl H v0_1 (ints x0_1)) (hx1 : ∀ (G : AH), AgB (Fr H) H G → ∀ (y0 : Int) (q : (Bool)), x1 y0 = some q → ACallT Try.prog f1 ([(Value.int .i64 y0)] ++ c1) G (fun u G' => AgB (Fr G) G G' ∧ u = (Value.bool q) ∧ Sep G' (Fr G) [])) (hF : F_impl_Meander_kept fu x0_0 x0_1 x1 = some r) :
    ACallT Try.prog 136 [(Value.agg #[v0_0, v0_1]), (Value.func (.func f1) #[] c1.toArray)] H (fun u G => AgB (Fr H) H G ∧ ∃ u0 : Value, ∃ u1 : Value, u = (Value.agg #[u0, u1]) ∧ Sep G (Fr H) [flat u0 3 (ints r.1), flat u1 3 (ints r.2)]) := by
  refine ACallT.of_body (nt := 16) (rs := [.cell 4 28]) Try.func136 rfl rfl rfl rfl ?_
  have A0 : AgB (Fr H) H H := .refl _ _
  have S0 : Sep H (Fr H) [] := .nil
  have hB := Fr.up H
  unfold F_impl_Meander_kept at hF
  refine DWp.seq ?_
  obtain ⟨G2, p4, q5, q6, a7, S1⟩ := S0.boxT (hB.le A0.1) 28 [v0_0, v0_1]
  have A3 := A0.ext (hB.le A0.1) a7
  replace S1 : Sep G2 (Fr H) [AL.box p4 [v0_0, v0_1]] := S1
  obtain ⟨G9, p11, q12, q13, a14, S8⟩ := S1.boxT (hB.le A3.1) 53 [(Value.func (.func f1) #[] c1.toArray)]
  have A10 := A3.ext (hB.le A3.1) a14
  replace S8 : Sep G9 (Fr H) [AL.box p4 [v0_0, v0_1], AL.box p11 [(Value.func (.func f1) #[] c1.toArray)]] := S8
  obtain ⟨G16, p18, q19, q21, a20, S15⟩ := S8.allocT (P := Try.prog) (hB.le A10.1) ze_28 rfl
  have A17 := A10.ext (hB.le A10.1) a20
  replace S15 : Sep G16 (Fr H) [AL.box p4 [v0_0, v0_1], AL.box p11 [(Value.func (.func f1) #[] c1.toArray)], AL.box p18 [(Value.slice none 0 0), (Value.slice none 0 0)]] := S15
  refine DWp.region fun K hK => ?_
  simp [-aBin', -aBin, -aBinI, -aUn, -aNil, -flatV, n_fn, b_add, b_sub, b_mul, b_lt, b_le, b_gt, b_ge, b_eq, b_ne, u_not, q5, q6, a7.to_pre, cells_agg, q12, q13, a14.to_pre, cells_fn, tup_fn, q19, q21, a20.to_pre]
  apply hK
  clear hK K
  simp only [andThen, leaves]
  refine DWp.seq ?_
  refine DWp.region fun K hK => ?_
  simp [-aBin', -aBin, -aBinI, -aUn, -aNil, -flatV, n_fn, b_add, b_sub, b_mul, b_lt, b_le, b_gt, b_ge, b_eq, b_ne, u_not, (S15.flatT (k := 1) rfl)]
  apply hK
  clear hK K
  simp only [andThen, leaves]
  refine DWp.seq ?_
  have q22 := S15.fieldT (P := Try.prog) (k := 0) rfl fa_28_0
  have q23 := S15.loadF (P := Try.prog) (k := 0) rfl sz_22 ag_22 (off := 0) rfl
  have hz23_0 := (fun (G_ : AH) (a_ : AgB (Fr G16) G16 G_) => hx1 G_ (A17.ext (hB.le A17.1) a_.agree))
  have hz23_1 := (S15.bxT (k := 1) rfl)
  obtain ⟨r1, hc25, hF⟩ := bd_some hF
  refine DWp.drawn (B := [0, 1, 0, 7, 0, 16, 0, 127, 255, 511]) 9 mixed (by kernel_rfl) (by decide) fun K hK => ?_
  simp [-aBin', -aBin, -aBinI, -aUn, -aNil, -flatV, n_fn, b_add, b_sub, b_mul, b_lt, b_le, b_gt, b_ge, b_eq, b_ne, u_not, q22, q23, ((hx0_0.agree A17.agree).tup), (S15.ptup (k := 1) rfl)]
  refine CallD.t (F_impl_without_w (fu := fu) (hx0_0.agree A17.agree) (fun G_ a_ y0 q_ hq_ => F_impl_Meander_kept_1_w (fu := fu) (fun G2_ b_ => hz23_0 G2_ (a_.ext ((Fr.up _).le a_.1) b_.agree)) (hz23_1.agree a_.agree) hq_) hc25) ?_
  rintro c26_u0 G27 ⟨a30, _, rfl, S31⟩
  have A29 := A17.ext (hB.le A17.1) a30.agree
  have S28 : Sep G27 (Fr H) [AL.box p4 [v0_0, v0_1], AL.box p11 [(Value.func (.func f1) #[] c1.toArray)], AL.box p18 [(Value.slice none 0 0), (Value.slice none 0 0)], flat c26_u0 3 (ints r1)] := S15.app a30.agree S31 (fun _ h => h) (hB.le A17.1)
  have q32 := S28.fieldT (P := Try.prog) (k := 0) rfl fa_28_1
  have q33 := S28.loadF (P := Try.prog) (k := 0) rfl sz_22 ag_22 (off := 1) rfl
  have hz33_0 := (fun (G_ : AH) (a_ : AgB (Fr G27) G27 G_) => hx1 G_ (A29.ext (hB.le A29.1) a_.agree))
  have hz33_1 := (S28.bxT (k := 1) rfl)
  obtain ⟨r2, hc35, hF⟩ := bd_some hF
  simp [-aBin', -aBin, -aBinI, -aUn, -aNil, -flatV, n_fn, b_add, b_sub, b_mul, b_lt, b_le, b_gt, b_ge, b_eq, b_ne, u_not, q22, q23, a30.pre, q32, q33, ((hx0_1.agree A29.agree).tup), (S28.ptup (k := 1) rfl)]
  refine CallD.t (F_impl_without_w (fu := fu) (hx0_1.agree A29.agree) (fun G_ a_ y0 q_ hq_ => F_impl_Meander_kept_1_w (fu := fu) (fun G2_ b_ => hz33_0 G2_ (a_.ext ((Fr.up _).le a_.1) b_.agree)) (hz33_1.agree a_.agree) hq_) hc35) ?_
  rintro c36_u0 G37 ⟨a40, _, rfl, S41⟩
  have A39 := A29.ext (hB.le A29.1) a40.agree
  have S38 : Sep G37 (Fr H) [AL.box p4 [v0_0, v0_1], AL.box p11 [(Value.func (.func f1) #[] c1.toArray)], AL.box p18 [(Value.slice none 0 0), (Value.slice none 0 0)], flat c26_u0 3 (ints r1), flat c36_u0 3 (ints r2)] := S28.app a40.agree S41 (fun _ h => h) (hB.le A29.1)
  obtain ⟨G42, q43, S44, a46⟩ := S38.putAgg (P := Try.prog) (k := 2) (xs := [c26_u0, c36_u0]) rfl (hB.le A39.1) sz_28 rfl rfl
  have A45 := A39.trans a46
  replace S44 : Sep G42 (Fr H) [AL.box p4 [v0_0, v0_1], AL.box p11 [(Value.func (.func f1) #[] c1.toArray)], AL.box p18 [c26_u0, c36_u0], flat c26_u0 3 (ints r1), flat c36_u0 3 (ints r2)] := S44
  simp [-aBin', -aBin, -aBinI, -aUn, -aNil, -flatV, n_fn, b_add, b_sub, b_mul, b_lt, b_le, b_gt, b_ge, b_eq, b_ne, u_not, q22, q23, a30.pre, q32, q33, a40.pre, bu_28 ((S38.sl (k := 3) rfl).tup) ((S38.sl (k := 3) rfl).one) ((S38.sl (k := 4) rfl).tup) ((S38.sl (k := 4) rfl).one), q43]
  apply hK
  clear hK K
  simp only [andThen, leaves]
  refine DWp.ret ?_
  have q47 := S44.loadAgg (P := Try.prog) (k := 2) rfl sz_28 ag_28 rfl
  obtain rfl := Option.some.inj hF
  exact ⟨by simp, [(Value.agg #[c26_u0, c36_u0])], by simp [q47, ((S44.sl (k := 3) rfl).tup), ((S44.sl (k := 4) rfl).tup)], A45, c26_u0, c36_u0, rfl, S44.pick [3, 4] (by decide) rfl⟩
end Go.Proofs.Ytbckijeffiofdaa.AL

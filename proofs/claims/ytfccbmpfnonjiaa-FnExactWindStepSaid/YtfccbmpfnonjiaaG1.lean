/- The walks of functions, each with its Lean function: spec.l1In, spec.l1All, spec.swSum, spec.swParts, spec.swGcd, spec.IndexOfThree, slices.IndexFunc[[]int,int], slices.ContainsFunc[[]int,int], impl.in, impl.areParts$1. No condition. -/
import Derived.Test.YtfccbmpfnonjiaaGSort
import Derived.Test.YtfccbmpfnonjiaaAL31
import Derived.Test.YtfccbmpfnonjiaaProg
import Derived.KernelRfl
namespace Go.Proofs.Ytfccbmpfnonjiaa.AL
open Go Go.RowKit
set_option linter.unusedVariables false
set_option linter.unusedSimpArgs false
set_option maxRecDepth 4096
theorem mixed : Try.prog.follows .mixedOrders = true := by kernel_rfl
theorem ag_3 : aggT Try.prog 3 = some false := by kernel_rfl
theorem ei_3 : einfo Try.prog 3 = some ⟨1, 8, .int .i64 0⟩ := by kernel_rfl
theorem el_22 : elemT Try.prog 22 = some 3 := by kernel_rfl
theorem sz_3 : sizeT Try.prog 3 = some 1 := by kernel_rfl
/-! loop.example/g01126/spec.l1In -/
def F_spec_l1In (fu : Nat) (x0 : Int) (x1 : Int) (x2 : Int) : Option (Bool) :=
  bif (ile x1 x0) then
    some (ile x0 x2)
  else
    some false
theorem F_spec_l1In_w {fu : Nat} {H : AH}  {x0 : Int} {x1 : Int} {x2 : Int} {r : (Bool)}  (hF : F_spec_l1In fu x0 x1 x2 = some r) :
    ACallT Try.prog 61 [(Value.int .i64 x0), (Value.int .i64 x1), (Value.int .i64 x2)] H (fun u G => AgB (Fr H) H G ∧ u = (Value.bool r) ∧ Sep G (Fr H) []) := by
  refine ACallT.of_body (nt := 15) (rs := [.tmp 6]) Try.func61 rfl rfl rfl rfl ?_
  have A0 : AgB (Fr H) H H := .refl _ _
  have S0 : Sep H (Fr H) [] := .nil
  have hB := Fr.up H
  unfold F_spec_l1In at hF
  refine DWp.seq ?_
  refine DWp.region fun K hK => ?_
  simp [-aBin', -aBin, -aBinI, -aUn, -aNil, -flatV, n_fn, b_add, b_sub, b_mul, b_lt, b_le, b_gt, b_ge, b_eq, b_ne, u_not]
  apply hK
  clear hK K
  simp only [andThen, leaves]
  refine DWp.seq ?_
  rcases Bool.eq_false_or_eq_true (ile x1 x0) with hb1 | hb1
  · replace hF := cd_t hb1 hF
    refine DWp.region fun K hK => ?_
    simp [-aBin', -aBin, -aBinI, -aUn, -aNil, -flatV, n_fn, b_add, b_sub, b_mul, b_lt, b_le, b_gt, b_ge, b_eq, b_ne, u_not, hb1]
    apply hK
    clear hK K
    simp only [andThen, leaves]
    refine DWp.ret ?_
    obtain rfl := Option.some.inj hF
    exact ⟨by simp, [(Value.bool (ile x0 x2))], by simp [], A0, rfl, S0.pick [] (by decide) rfl⟩
  · replace hF := cd_f hb1 hF
    refine DWp.region fun K hK => ?_
    simp [-aBin', -aBin, -aBinI, -aUn, -aNil, -flatV, n_fn, b_add, b_sub, b_mul, b_lt, b_le, b_gt, b_ge, b_eq, b_ne, u_not, hb1]
    apply hK
    clear hK K
    simp only [andThen, leaves]
    refine DWp.ret ?_
    obtain rfl := Option.some.inj hF
    exact ⟨by simp, [(Value.bool false)], by simp [], A0, rfl, S0.pick [] (by decide) rfl⟩
/-! loop.example/g01126/spec.l1All -/
def F_spec_l1All_L1 (fu : Nat) (k1_0 : Int) (k1_1 : Int) (k1_2 : List Int) (k1_3 : Int) : Nat → Int → Option (LR (Bool) (Int))
  | 0, _ => none
  | n + 1, y1_11 =>
    bif (ilt y1_11 k1_3) then
      gd (inL k1_2 y1_11) (
      bd (F_spec_l1In fu (gat 0 k1_2 y1_11) k1_0 k1_1) fun r1 =>
      bif (bnot r1) then
        some (.ret false)
      else
        F_spec_l1All_L1 fu k1_0 k1_1 k1_2 k1_3 n (iadd .i64 y1_11 1))
    else
      some (.brk y1_11)
def F_spec_l1All (fu : Nat) (x0 : List Int) (x1 : Int) (x2 : Int) : Option (Bool) :=
  bd (F_spec_l1All_L1 fu x1 x2 x0 (llen x0) fu 0) fun s1 =>
  lr s1 fun s1 =>
  some true
theorem F_spec_l1All_w {fu : Nat} {H : AH} {v0 : Value} {x0 : List Int} {x1 : Int} {x2 : Int} {r : (Bool)} (hx0 : Sl H v0 (ints x0)) (hF : F_spec_l1All fu x0 x1 x2 = some r) :
    ACallT Try.prog 82 [v0, (Value.int .i64 x1), (Value.int .i64 x2)] H (fun u G => AgB (Fr H) H G ∧ u = (Value.bool r) ∧ Sep G (Fr H) []) := by
  refine ACallT.of_body (nt := 21) (rs := [.tmp 6]) Try.func82 rfl rfl rfl rfl ?_
  have A0 : AgB (Fr H) H H := .refl _ _
  have S0 : Sep H (Fr H) [] := .nil
  have hB := Fr.up H
  unfold F_spec_l1All at hF
  refine DWp.seq ?_
  refine DWp.region fun K hK => ?_
  simp [-aBin', -aBin, -aBinI, -aUn, -aNil, -flatV, n_fn, b_add, b_sub, b_mul, b_lt, b_le, b_gt, b_ge, b_eq, b_ne, u_not]
  apply hK
  clear hK K
  simp only [andThen, leaves]
  refine DWp.seq ?_
  refine DWp.seq ?_
  have q1 := lenG (P := Try.prog) (hx0.agree A0.agree) el_22
  refine DWp.region fun K hK => ?_
  simp [-aBin', -aBin, -aBinI, -aUn, -aNil, -flatV, n_fn, b_add, b_sub, b_mul, b_lt, b_le, b_gt, b_ge, b_eq, b_ne, u_not, q1]
  apply hK
  clear hK K
  simp only [andThen, leaves]
  refine DWp.block ?_
  obtain ⟨s2, hL3, hF⟩ := bd_some hF
  have S4 := S0.pick [] (by decide) rfl
  refine DWp.loop (fun n env G => ∃ y1_11 : Int, F_spec_l1All_L1 fu x1 x2 x0 (llen x0) n y1_11 = some s2 ∧ Sep G (Fr H) [] ∧ AgB (Fr H) H G ∧ env 1 = some (Value.int .i64 x1) ∧ env 2 = some (Value.int .i64 x2) ∧ env 9 = some v0 ∧ env 10 = some (Value.int .i64 (llen x0)) ∧ env 11 = some (Value.int .i64 y1_11)) fu ⟨0, hL3, S4, A0, by simp [], by simp [], by simp [], by simp [], by simp []⟩ ?_
  rintro n1 env1 G1_ ⟨y1_11, hL3, S1_, A1_, e1_1, e1_2, e1_9, e1_10, e1_11⟩
  cases n1 with
  | zero => cases hL3
  | succ n1 =>
    simp only [F_spec_l1All_L1] at hL3
    refine DWp.seq ?_
    refine DWp.region fun K hK => ?_
    simp [-aBin', -aBin, -aBinI, -aUn, -aNil, -flatV, n_fn, b_add, b_sub, b_mul, b_lt, b_le, b_gt, b_ge, b_eq, b_ne, u_not, e1_1, e1_2, e1_9, e1_10, e1_11]
    apply hK
    clear hK K
    simp only [andThen, leaves]
    refine DWp.seq ?_
    refine DWp.cond' (t := (ilt y1_11 (llen x0))) (by simp [e1_1, e1_2, e1_9, e1_10, e1_11]) (fun hb5 => ?_) (fun hb5 => ?_)
    · replace hL3 := cd_t hb5 hL3
      refine DWp.skip ?_
      simp only [andThen, leaves]
      refine DWp.seq ?_
      refine DWp.block ?_
      refine DWp.seq ?_
      obtain ⟨g6, hL3⟩ := gd_some hL3
      have q7 := idxG (P := Try.prog) (kk := .i64) (hx0.agree A1_.agree) el_22 sz_3 g6
      have q8 := loadG (P := Try.prog) (hx0.agree A1_.agree) sz_3 ag_3 g6 0
      refine DWp.region fun K hK => ?_
      simp [-aBin', -aBin, -aBinI, -aUn, -aNil, -flatV, n_fn, b_add, b_sub, b_mul, b_lt, b_le, b_gt, b_ge, b_eq, b_ne, u_not, e1_1, e1_2, e1_9, e1_10, e1_11, q7, q8]
      apply hK
      clear hK K
      simp only [andThen, leaves]
      refine DWp.seq ?_
      obtain ⟨r1, hc9, hL3⟩ := bd_some hL3
      refine DWp.region fun K hK => ?_
      simp [-aBin', -aBin, -aBinI, -aUn, -aNil, -flatV, n_fn, b_add, b_sub, b_mul, b_lt, b_le, b_gt, b_ge, b_eq, b_ne, u_not, e1_1, e1_2, e1_9, e1_10, e1_11]
      refine CallD.t (F_spec_l1In_w (fu := fu)  hc9) ?_
      rintro _ G11 ⟨a14, rfl, S15⟩
      have A13 := A1_.ext (hB.le A1_.1) a14.agree
      have S12 : Sep G11 (Fr H) [] := S1_.app a14.agree S15 (fun _ h => h) (hB.le A1_.1)
      simp [-aBin', -aBin, -aBinI, -aUn, -aNil, -flatV, n_fn, b_add, b_sub, b_mul, b_lt, b_le, b_gt, b_ge, b_eq, b_ne, u_not, e1_1, e1_2, e1_9, e1_10, e1_11, a14.pre]
      apply hK
      clear hK K
      simp only [andThen, leaves]
      refine DWp.cond' (t := (bnot r1)) (by simp [e1_1, e1_2, e1_9, e1_10, e1_11]) (fun hb16 => ?_) (fun hb16 => ?_)
      · replace hL3 := cd_t hb16 hL3
        refine DWp.seq ?_
        refine DWp.region fun K hK => ?_
        simp [-aBin', -aBin, -aBinI, -aUn, -aNil, -flatV, n_fn, b_add, b_sub, b_mul, b_lt, b_le, b_gt, b_ge, b_eq, b_ne, u_not, e1_1, e1_2, e1_9, e1_10, e1_11]
        apply hK
        clear hK K
        simp only [andThen, leaves]
        refine DWp.ret ?_
        simp only [andThen, leaves]
        obtain rfl := Option.some.inj hL3
        simp only [lr] at hF
        obtain rfl := Option.some.inj hF
        exact ⟨by simp, [(Value.bool false)], by simp [e1_1, e1_2, e1_9, e1_10, e1_11], A13, rfl, S12.pick [] (by decide) rfl⟩
      · replace hL3 := cd_f hb16 hL3
        refine DWp.skip ?_
        simp only [andThen, leaves]
        refine DWp.region fun K hK => ?_
        simp [-aBin', -aBin, -aBinI, -aUn, -aNil, -flatV, n_fn, b_add, b_sub, b_mul, b_lt, b_le, b_gt, b_ge, b_eq, b_ne, u_not, e1_1, e1_2, e1_9, e1_10, e1_11]
        apply hK
        clear hK K
        simp only [andThen, leaves]
        have S17 := S12.pick [] (by decide) rfl
        exact ⟨n1, Nat.lt_succ_self _, (iadd .i64 y1_11 1), hL3, S17, A13, by simp [e1_1, e1_2, e1_9, e1_10, e1_11], by simp [e1_1, e1_2, e1_9, e1_10, e1_11], by simp [e1_1, e1_2, e1_9, e1_10, e1_11], by simp [e1_1, e1_2, e1_9, e1_10, e1_11], by simp [e1_1, e1_2, e1_9, e1_10, e1_11]⟩
    · replace hL3 := cd_f hb5 hL3
      refine DWp.exit ?_
      simp only [andThen, leaves, if_true, if_false, reduceIte, Nat.reduceEqDiff]
      obtain rfl := Option.some.inj hL3
      simp only [lr] at hF
      refine DWp.seq ?_
      refine DWp.region fun K hK => ?_
      simp [-aBin', -aBin, -aBinI, -aUn, -aNil, -flatV, n_fn, b_add, b_sub, b_mul, b_lt, b_le, b_gt, b_ge, b_eq, b_ne, u_not, e1_1, e1_2, e1_9, e1_10, e1_11]
      apply hK
      clear hK K
      simp only [andThen, leaves]
      refine DWp.ret ?_
      obtain rfl := Option.some.inj hF
      exact ⟨by simp, [(Value.bool true)], by simp [e1_1, e1_2, e1_9, e1_10, e1_11], A1_, rfl, S1_.pick [] (by decide) rfl⟩
/-! loop.example/g01126/spec.swSum -/
def F_spec_swSum_L1 (fu : Nat) (k1_0 : List Int) (k1_1 : Int) : Nat → Int → Int → Option (Int × Int)
  | 0, _, _ => none
  | n + 1, y1_3, y1_8 =>
    bif (ilt y1_8 k1_1) then
      gd (inL k1_0 y1_8) (
      F_spec_swSum_L1 fu k1_0 k1_1 n (iadd .i64 y1_3 (gat 0 k1_0 y1_8)) (iadd .i64 y1_8 1))
    else
      some (y1_3, y1_8)
def F_spec_swSum (fu : Nat) (x0 : List Int) : Option (Int) :=
  bd (F_spec_swSum_L1 fu x0 (llen x0) fu 0 0) fun s1 =>
  some s1.1
theorem F_spec_swSum_w {fu : Nat} {H : AH} {v0 : Value} {x0 : List Int} {r : (Int)} (hx0 : Sl H v0 (ints x0)) (hF : F_spec_swSum fu x0 = some r) :
    ACallT Try.prog 78 [v0] H (fun u G => AgB (Fr H) H G ∧ u = (Value.int .i64 r) ∧ Sep G (Fr H) []) := by
  refine ACallT.of_body (nt := 17) (rs := [.tmp 2]) Try.func78 rfl rfl rfl rfl ?_
  have A0 : AgB (Fr H) H H := .refl _ _
  have S0 : Sep H (Fr H) [] := .nil
  have hB := Fr.up H
  unfold F_spec_swSum at hF
  refine DWp.seq ?_
  refine DWp.region fun K hK => ?_
  simp [-aBin', -aBin, -aBinI, -aUn, -aNil, -flatV, n_fn, b_add, b_sub, b_mul, b_lt, b_le, b_gt, b_ge, b_eq, b_ne, u_not]
  apply hK
  clear hK K
  simp only [andThen, leaves]
  refine DWp.seq ?_
  refine DWp.region fun K hK => ?_
  simp [-aBin', -aBin, -aBinI, -aUn, -aNil, -flatV, n_fn, b_add, b_sub, b_mul, b_lt, b_le, b_gt, b_ge, b_eq, b_ne, u_not]
  apply hK
  clear hK K
  simp only [andThen, leaves]
  refine DWp.seq ?_
  refine DWp.seq ?_
  have q1 := lenG (P := Try.prog) (hx0.agree A0.agree) el_22
  refine DWp.region fun K hK => ?_
  simp [-aBin', -aBin, -aBinI, -aUn, -aNil, -flatV, n_fn, b_add, b_sub, b_mul, b_lt, b_le, b_gt, b_ge, b_eq, b_ne, u_not, q1]
  apply hK
  clear hK K
  simp only [andThen, leaves]
  refine DWp.block ?_
  obtain ⟨s2, hL3, hF⟩ := bd_some hF
  have S4 := S0.pick [] (by decide) rfl
  refine DWp.loop (fun n env G => ∃ y1_3 : Int, ∃ y1_8 : Int, F_spec_swSum_L1 fu x0 (llen x0) n y1_3 y1_8 = some s2 ∧ Sep G (Fr H) [] ∧ AgB (Fr H) H G ∧ env 3 = some (Value.int .i64 y1_3) ∧ env 6 = some v0 ∧ env 7 = some (Value.int .i64 (llen x0)) ∧ env 8 = some (Value.int .i64 y1_8)) fu ⟨0, 0, hL3, S4, A0, by simp [], by simp [], by simp [], by simp []⟩ ?_
  rintro n1 env1 G1_ ⟨y1_3, y1_8, hL3, S1_, A1_, e1_3, e1_6, e1_7, e1_8⟩
  cases n1 with
  | zero => cases hL3
  | succ n1 =>
    simp only [F_spec_swSum_L1] at hL3
    refine DWp.seq ?_
    refine DWp.region fun K hK => ?_
    simp [-aBin', -aBin, -aBinI, -aUn, -aNil, -flatV, n_fn, b_add, b_sub, b_mul, b_lt, b_le, b_gt, b_ge, b_eq, b_ne, u_not, e1_3, e1_6, e1_7, e1_8]
    apply hK
    clear hK K
    simp only [andThen, leaves]
    refine DWp.seq ?_
    refine DWp.cond' (t := (ilt y1_8 (llen x0))) (by simp [e1_3, e1_6, e1_7, e1_8]) (fun hb5 => ?_) (fun hb5 => ?_)
    · replace hL3 := cd_t hb5 hL3
      refine DWp.skip ?_
      simp only [andThen, leaves]
      refine DWp.seq ?_
      refine DWp.block ?_
      refine DWp.seq ?_
      obtain ⟨g6, hL3⟩ := gd_some hL3
      have q7 := idxG (P := Try.prog) (kk := .i64) (hx0.agree A1_.agree) el_22 sz_3 g6
      have q8 := loadG (P := Try.prog) (hx0.agree A1_.agree) sz_3 ag_3 g6 0
      refine DWp.region fun K hK => ?_
      simp [-aBin', -aBin, -aBinI, -aUn, -aNil, -flatV, n_fn, b_add, b_sub, b_mul, b_lt, b_le, b_gt, b_ge, b_eq, b_ne, u_not, e1_3, e1_6, e1_7, e1_8, q7, q8]
      apply hK
      clear hK K
      simp only [andThen, leaves]
      refine DWp.region fun K hK => ?_
      simp [-aBin', -aBin, -aBinI, -aUn, -aNil, -flatV, n_fn, b_add, b_sub, b_mul, b_lt, b_le, b_gt, b_ge, b_eq, b_ne, u_not, e1_3, e1_6, e1_7, e1_8]
      apply hK
      clear hK K
      simp only [andThen, leaves]
      refine DWp.region fun K hK => ?_
      simp [-aBin', -aBin, -aBinI, -aUn, -aNil, -flatV, n_fn, b_add, b_sub, b_mul, b_lt, b_le, b_gt, b_ge, b_eq, b_ne, u_not, e1_3, e1_6, e1_7, e1_8]
      apply hK
      clear hK K
      simp only [andThen, leaves]
      have S9 := S1_.pick [] (by decide) rfl
      exact ⟨n1, Nat.lt_succ_self _, (iadd .i64 y1_3 (gat 0 x0 y1_8)), (iadd .i64 y1_8 1), hL3, S9, A1_, by simp [e1_3, e1_6, e1_7, e1_8], by simp [e1_3, e1_6, e1_7, e1_8], by simp [e1_3, e1_6, e1_7, e1_8], by simp [e1_3, e1_6, e1_7, e1_8]⟩
    · replace hL3 := cd_f hb5 hL3
      refine DWp.exit ?_
      simp only [andThen, leaves, if_true, if_false, reduceIte, Nat.reduceEqDiff]
      obtain rfl := Option.some.inj hL3
      try dsimp only at hF
      refine DWp.seq ?_
      refine DWp.region fun K hK => ?_
      simp [-aBin', -aBin, -aBinI, -aUn, -aNil, -flatV, n_fn, b_add, b_sub, b_mul, b_lt, b_le, b_gt, b_ge, b_eq, b_ne, u_not, e1_3, e1_6, e1_7, e1_8]
      apply hK
      clear hK K
      simp only [andThen, leaves]
      refine DWp.ret ?_
      obtain rfl := Option.some.inj hF
      exact ⟨by simp, [(Value.int .i64 y1_3)], by simp [e1_3, e1_6, e1_7, e1_8], A1_, rfl, S1_.pick [] (by decide) rfl⟩
/-! loop.example/g01126/spec.swParts -/
def F_spec_swParts (fu : Nat) (x0 : List Int) : Option (Bool) :=
  bd (
    bif (ilt 20 (llen x0)) then
      some true
    else
      bd (F_spec_l1All fu x0 1 20) fun r1 =>
      some (bnot r1)) fun s1 =>
  bif s1 then
    some false
  else
    bd (F_spec_swSum fu x0) fun r2 =>
    some (ile r2 20)
theorem F_spec_swParts_w {fu : Nat} {H : AH} {v0 : Value} {x0 : List Int} {r : (Bool)} (hx0 : Sl H v0 (ints x0)) (hF : F_spec_swParts fu x0 = some r) :
    ACallT Try.prog 58 [v0] H (fun u G => AgB (Fr H) H G ∧ u = (Value.bool r) ∧ Sep G (Fr H) []) := by
  refine ACallT.of_body (nt := 14) (rs := [.tmp 2]) Try.func58 rfl rfl rfl rfl ?_
  have A0 : AgB (Fr H) H H := .refl _ _
  have S0 : Sep H (Fr H) [] := .nil
  have hB := Fr.up H
  unfold F_spec_swParts at hF
  refine DWp.seq ?_
  refine DWp.region fun K hK => ?_
  simp [-aBin', -aBin, -aBinI, -aUn, -aNil, -flatV, n_fn, b_add, b_sub, b_mul, b_lt, b_le, b_gt, b_ge, b_eq, b_ne, u_not]
  apply hK
  clear hK K
  simp only [andThen, leaves]
  refine DWp.seq ?_
  obtain ⟨s1, hL2, hF⟩ := bd_some hF
  refine DWp.seq (DWp.join (fun env G => Sep G (Fr H) [] ∧ AgB (Fr H) H G ∧ env 0 = some v0 ∧ env 10 = some (Value.bool s1)) ?_ ?_)
  ·
    have q4 := lenG (P := Try.prog) (hx0.agree A0.agree) el_22
    rcases Bool.eq_false_or_eq_true (ilt 20 (llen x0)) with hb5 | hb5
    · replace hL2 := cd_t hb5 hL2
      refine DWp.region fun K hK => ?_
      simp [-aBin', -aBin, -aBinI, -aUn, -aNil, -flatV, n_fn, b_add, b_sub, b_mul, b_lt, b_le, b_gt, b_ge, b_eq, b_ne, u_not, hb5, q4]
      apply hK
      clear hK K
      simp only [andThen, leaves]
      have S6 := S0.pick [] (by decide) rfl
      obtain rfl := Option.some.inj hL2
      exact ⟨S6, A0, by simp [], by simp []⟩
    · replace hL2 := cd_f hb5 hL2
      obtain ⟨r1, hc7, hL2⟩ := bd_some hL2
      refine DWp.region fun K hK => ?_
      simp [-aBin', -aBin, -aBinI, -aUn, -aNil, -flatV, n_fn, b_add, b_sub, b_mul, b_lt, b_le, b_gt, b_ge, b_eq, b_ne, u_not, hb5, q4, ((hx0.agree A0.agree).tup)]
      refine CallD.t (F_spec_l1All_w (fu := fu) (hx0.agree A0.agree) hc7) ?_
      rintro _ G9 ⟨a12, rfl, S13⟩
      have A11 := A0.ext (hB.le A0.1) a12.agree
      have S10 : Sep G9 (Fr H) [] := S0.app a12.agree S13 (fun _ h => h) (hB.le A0.1)
      simp [-aBin', -aBin, -aBinI, -aUn, -aNil, -flatV, n_fn, b_add, b_sub, b_mul, b_lt, b_le, b_gt, b_ge, b_eq, b_ne, u_not, hb5, q4, a12.pre]
      apply hK
      clear hK K
      simp only [andThen, leaves]
      have S14 := S10.pick [] (by decide) rfl
      obtain rfl := Option.some.inj hL2
      exact ⟨S14, A11, by simp [], by simp []⟩
  · rintro env Gj15 ⟨Sj15, Aj15, ej15_0, ej15_10⟩
    refine DWp.cond' (t := s1) (by simp [ej15_0, ej15_10]) (fun hb16 => ?_) (fun hb16 => ?_)
    · replace hF := cd_t hb16 hF
      refine DWp.seq ?_
      refine DWp.region fun K hK => ?_
      simp [-aBin', -aBin, -aBinI, -aUn, -aNil, -flatV, n_fn, b_add, b_sub, b_mul, b_lt, b_le, b_gt, b_ge, b_eq, b_ne, u_not, ej15_0, ej15_10]
      apply hK
      clear hK K
      simp only [andThen, leaves]
      refine DWp.ret ?_
      simp only [andThen, leaves]
      obtain rfl := Option.some.inj hF
      exact ⟨by simp, [(Value.bool false)], by simp [ej15_0, ej15_10], Aj15, rfl, Sj15.pick [] (by decide) rfl⟩
    · replace hF := cd_f hb16 hF
      refine DWp.skip ?_
      simp only [andThen, leaves]
      refine DWp.seq ?_
      obtain ⟨r2, hc17, hF⟩ := bd_some hF
      refine DWp.region fun K hK => ?_
      simp [-aBin', -aBin, -aBinI, -aUn, -aNil, -flatV, n_fn, b_add, b_sub, b_mul, b_lt, b_le, b_gt, b_ge, b_eq, b_ne, u_not, ej15_0, ej15_10, ((hx0.agree Aj15.agree).tup)]
      refine CallD.t (F_spec_swSum_w (fu := fu) (hx0.agree Aj15.agree) hc17) ?_
      rintro _ G19 ⟨a22, rfl, S23⟩
      have A21 := Aj15.ext (hB.le Aj15.1) a22.agree
      have S20 : Sep G19 (Fr H) [] := Sj15.app a22.agree S23 (fun _ h => h) (hB.le Aj15.1)
      simp [-aBin', -aBin, -aBinI, -aUn, -aNil, -flatV, n_fn, b_add, b_sub, b_mul, b_lt, b_le, b_gt, b_ge, b_eq, b_ne, u_not, ej15_0, ej15_10, a22.pre]
      apply hK
      clear hK K
      simp only [andThen, leaves]
      refine DWp.ret ?_
      obtain rfl := Option.some.inj hF
      exact ⟨by simp, [(Value.bool (ile r2 20))], by simp [ej15_0, ej15_10], A21, rfl, S20.pick [] (by decide) rfl⟩
/-! loop.example/g01126/spec.swGcd -/
def F_spec_swGcd : Nat → Int → Int → Option (Int)
  | 0, _, _ => none
  | fu + 1, x0, x1 =>
    bif (ieq x1 0) then
      some x0
    else
      gd (x1 ≠ 0) (
      bd (F_spec_swGcd fu x1 (irem x0 x1)) fun r1 =>
      some r1)
theorem F_spec_swGcd_w : ∀ {fu : Nat} {H : AH}  {x0 : Int} {x1 : Int} {r : (Int)}  (hF : F_spec_swGcd fu x0 x1 = some r),
    ACallT Try.prog 59 [(Value.int .i64 x0), (Value.int .i64 x1)] H (fun u G => AgB (Fr H) H G ∧ u = (Value.int .i64 r) ∧ Sep G (Fr H) []) := by
  intro fu
  induction fu with
  | zero => intros; rename_i hF; cases hF
  | succ fu ih =>
  intro H  x0 x1 r  hF
  simp only [F_spec_swGcd] at hF
  refine ACallT.of_body (nt := 13) (rs := [.tmp 4]) Try.func59 rfl rfl rfl rfl ?_
  have A0 : AgB (Fr H) H H := .refl _ _
  have S0 : Sep H (Fr H) [] := .nil
  have hB := Fr.up H
  refine DWp.seq ?_
  refine DWp.region fun K hK => ?_
  simp [-aBin', -aBin, -aBinI, -aUn, -aNil, -flatV, n_fn, b_add, b_sub, b_mul, b_lt, b_le, b_gt, b_ge, b_eq, b_ne, u_not]
  apply hK
  clear hK K
  simp only [andThen, leaves]
  refine DWp.seq ?_
  refine DWp.seq ?_
  refine DWp.region fun K hK => ?_
  simp [-aBin', -aBin, -aBinI, -aUn, -aNil, -flatV, n_fn, b_add, b_sub, b_mul, b_lt, b_le, b_gt, b_ge, b_eq, b_ne, u_not]
  apply hK
  clear hK K
  simp only [andThen, leaves]
  refine DWp.cond' (t := (ieq x1 0)) (by simp []) (fun hb1 => ?_) (fun hb1 => ?_)
  · replace hF := cd_t hb1 hF
    refine DWp.seq ?_
    refine DWp.region fun K hK => ?_
    simp [-aBin', -aBin, -aBinI, -aUn, -aNil, -flatV, n_fn, b_add, b_sub, b_mul, b_lt, b_le, b_gt, b_ge, b_eq, b_ne, u_not]
    apply hK
    clear hK K
    simp only [andThen, leaves]
    refine DWp.ret ?_
    simp only [andThen, leaves]
    obtain rfl := Option.some.inj hF
    exact ⟨by simp, [(Value.int .i64 x0)], by simp [], A0, rfl, S0.pick [] (by decide) rfl⟩
  · replace hF := cd_f hb1 hF
    refine DWp.skip ?_
    simp only [andThen, leaves]
    refine DWp.seq ?_
    obtain ⟨g2, hF⟩ := gd_some hF
    obtain ⟨r1, hc3, hF⟩ := bd_some hF
    refine DWp.region fun K hK => ?_
    simp [-aBin', -aBin, -aBinI, -aUn, -aNil, -flatV, n_fn, b_add, b_sub, b_mul, b_lt, b_le, b_gt, b_ge, b_eq, b_ne, u_not, b_rem g2]
    refine CallD.t (ih  hc3) ?_
    rintro _ G5 ⟨a8, rfl, S9⟩
    have A7 := A0.ext (hB.le A0.1) a8.agree
    have S6 : Sep G5 (Fr H) [] := S0.app a8.agree S9 (fun _ h => h) (hB.le A0.1)
    simp [-aBin', -aBin, -aBinI, -aUn, -aNil, -flatV, n_fn, b_add, b_sub, b_mul, b_lt, b_le, b_gt, b_ge, b_eq, b_ne, u_not, b_rem g2, a8.pre]
    apply hK
    clear hK K
    simp only [andThen, leaves]
    refine DWp.ret ?_
    obtain rfl := Option.some.inj hF
    exact ⟨by simp, [(Value.int .i64 r1)], by simp [], A7, rfl, S6.pick [] (by decide) rfl⟩
/-! loop.example/g01126/spec.IndexOfThree -/
def F_spec_IndexOfThree (fu : Nat) (x0 : Int) (x1 : Int) (x2 : Int) : Option (Int × Bool) :=
  bd (F_spec_swParts fu [x0, x1, x2]) fun r1 =>
  bif (bnot r1) then
    some (0, false)
  else
    bd (F_spec_swGcd fu (iadd .i64 x0 x1) (iadd .i64 x1 x2)) fun r2 =>
    some ((isub .i64 r2 1), true)
theorem F_spec_IndexOfThree_w {fu : Nat} {H : AH}  {x0 : Int} {x1 : Int} {x2 : Int} {r : (Int × Bool)}  (hF : F_spec_IndexOfThree fu x0 x1 x2 = some r) :
    ACallT Try.prog 19 [(Value.int .i64 x0), (Value.int .i64 x1), (Value.int .i64 x2)] H (fun u G => AgB (Fr H) H G ∧ u = (Value.tuple #[(Value.int .i64 r.1), (Value.bool r.2)]) ∧ Sep G (Fr H) []) := by
  refine ACallT.of_body (nt := 22) (rs := [.tmp 6, .tmp 7]) Try.func19 rfl rfl rfl rfl ?_
  have A0 : AgB (Fr H) H H := .refl _ _
  have S0 : Sep H (Fr H) [] := .nil
  have hB := Fr.up H
  unfold F_spec_IndexOfThree at hF
  refine DWp.seq ?_
  refine DWp.region fun K hK => ?_
  simp [-aBin', -aBin, -aBinI, -aUn, -aNil, -flatV, n_fn, b_add, b_sub, b_mul, b_lt, b_le, b_gt, b_ge, b_eq, b_ne, u_not]
  apply hK
  clear hK K
  simp only [andThen, leaves]
  refine DWp.seq ?_
  refine DWp.seq ?_
  obtain ⟨v1, G2, q3, S4, a6, _, _⟩ := S0.lit3 (P := Try.prog) (t := 22) (hB.le A0.1) el_22 ei_3 rfl (Value.int .i64 x0) (Value.int .i64 x1) (Value.int .i64 x2) rfl rfl rfl rfl rfl rfl
  have A5 := A0.ext (hB.le A0.1) a6
  replace S4 : Sep G2 (Fr H) [flat1 v1 3 (ints [x0, x1, x2])] := S4
  obtain ⟨r1, hc8, hF⟩ := bd_some hF
  refine DWp.region fun K hK => ?_
  simp [-aBin', -aBin, -aBinI, -aUn, -aNil, -flatV, n_fn, b_add, b_sub, b_mul, b_lt, b_le, b_gt, b_ge, b_eq, b_ne, u_not, q3, a6.to_pre, ((S4.sl1 (k := 0) rfl).tup)]
  refine CallD.t (F_spec_swParts_w (fu := fu) (S4.sl1 (k := 0) rfl) hc8) ?_
  rintro _ G10 ⟨a13, rfl, S14⟩
  have A12 := A5.ext (hB.le A5.1) a13.agree
  have S11 : Sep G10 (Fr H) [flat1 v1 3 (ints [x0, x1, x2])] := S4.app a13.agree S14 (fun _ h => h) (hB.le A5.1)
  simp [-aBin', -aBin, -aBinI, -aUn, -aNil, -flatV, n_fn, b_add, b_sub, b_mul, b_lt, b_le, b_gt, b_ge, b_eq, b_ne, u_not, q3, a6.to_pre, a13.pre]
  apply hK
  clear hK K
  simp only [andThen, leaves]
  refine DWp.cond' (t := (bnot r1)) (by simp []) (fun hb15 => ?_) (fun hb15 => ?_)
  · replace hF := cd_t hb15 hF
    refine DWp.seq ?_
    refine DWp.region fun K hK => ?_
    simp [-aBin', -aBin, -aBinI, -aUn, -aNil, -flatV, n_fn, b_add, b_sub, b_mul, b_lt, b_le, b_gt, b_ge, b_eq, b_ne, u_not]
    apply hK
    clear hK K
    simp only [andThen, leaves]
    refine DWp.ret ?_
    simp only [andThen, leaves]
    obtain rfl := Option.some.inj hF
    exact ⟨by simp, [(Value.int .i64 0), (Value.bool false)], by simp [], A12, rfl, S11.pick [] (by decide) rfl⟩
  · replace hF := cd_f hb15 hF
    refine DWp.skip ?_
    simp only [andThen, leaves]
    refine DWp.seq ?_
    obtain ⟨r2, hc16, hF⟩ := bd_some hF
    refine DWp.region fun K hK => ?_
    simp [-aBin', -aBin, -aBinI, -aUn, -aNil, -flatV, n_fn, b_add, b_sub, b_mul, b_lt, b_le, b_gt, b_ge, b_eq, b_ne, u_not]
    refine CallD.t (F_spec_swGcd_w (fu := fu)  hc16) ?_
    rintro _ G18 ⟨a21, rfl, S22⟩
    have A20 := A12.ext (hB.le A12.1) a21.agree
    have S19 : Sep G18 (Fr H) [flat1 v1 3 (ints [x0, x1, x2])] := S11.app a21.agree S22 (fun _ h => h) (hB.le A12.1)
    simp [-aBin', -aBin, -aBinI, -aUn, -aNil, -flatV, n_fn, b_add, b_sub, b_mul, b_lt, b_le, b_gt, b_ge, b_eq, b_ne, u_not, a21.pre]
    apply hK
    clear hK K
    simp only [andThen, leaves]
    refine DWp.ret ?_
    obtain rfl := Option.some.inj hF
    exact ⟨by simp, [(Value.int .i64 (isub .i64 r2 1)), (Value.bool true)], by simp [], A20, rfl, S19.pick [] (by decide) rfl⟩
/-! slices.IndexFunc[[]int,int] -/
def F_slices_IndexFunc_Sint_L1 (fu : Nat) (k1_0 : List Int) (k1_1 : (Int → Option (Bool))) (k1_2 : Int) : Nat → Int → Option (LR (Int) (Int))
  | 0, _ => none
  | n + 1, y1_8 =>
    bif (ilt y1_8 k1_2) then
      gd (inL k1_0 y1_8) (
      bd (k1_1 (gat 0 k1_0 y1_8)) fun r1 =>
      bif r1 then
        some (.ret y1_8)
      else
        F_slices_IndexFunc_Sint_L1 fu k1_0 k1_1 k1_2 n (iadd .i64 y1_8 1))
    else
      some (.brk y1_8)
def F_slices_IndexFunc_Sint (fu : Nat) (x0 : List Int) (x1 : Int → Option (Bool)) : Option (Int) :=
  bd (F_slices_IndexFunc_Sint_L1 fu x0 x1 (llen x0) fu 0) fun s1 =>
  lr s1 fun s1 =>
  some (-1)
theorem F_slices_IndexFunc_Sint_w {fu : Nat} {H : AH} {v0 : Value} {f1 : FuncId} {c1 : List Value} {x0 : List Int} {x1 : Int → Option (Bool)} {r : (Int)} (hx0 : Sl H v0 (ints x0)) (hx1 : ∀ (G : AH), AgB (Fr H) H G → ∀ (y0 : Int) (q : (Bool)), x1 y0 = some q → ACallT Try.prog f1 ([(Value.int .i64 y0)] ++ c1) G (fun u G' => AgB (Fr G) G G' ∧ u = (Value.bool q) ∧ Sep G' (Fr G) [])) (hF : F_slices_IndexFunc_Sint fu x0 x1 = some r) :
    ACallT Try.prog 95 [v0, (Value.func (.func f1) #[] c1.toArray)] H (fun u G => AgB (Fr H) H G ∧ u = (Value.int .i64 r) ∧ Sep G (Fr H) []) := by
  refine ACallT.of_body (nt := 19) (rs := [.tmp 4]) Try.func95 rfl rfl rfl rfl ?_
  have A0 : AgB (Fr H) H H := .refl _ _
  have S0 : Sep H (Fr H) [] := .nil
  have hB := Fr.up H
  unfold F_slices_IndexFunc_Sint at hF
  refine DWp.seq ?_
  refine DWp.region fun K hK => ?_
  simp [-aBin', -aBin, -aBinI, -aUn, -aNil, -flatV, n_fn, b_add, b_sub, b_mul, b_lt, b_le, b_gt, b_ge, b_eq, b_ne, u_not]
  apply hK
  clear hK K
  simp only [andThen, leaves]
  refine DWp.seq ?_
  refine DWp.seq ?_
  have q1 := lenG (P := Try.prog) (hx0.agree A0.agree) el_22
  refine DWp.region fun K hK => ?_
  simp [-aBin', -aBin, -aBinI, -aUn, -aNil, -flatV, n_fn, b_add, b_sub, b_mul, b_lt, b_le, b_gt, b_ge, b_eq, b_ne, u_not, q1]
  apply hK
  clear hK K
  simp only [andThen, leaves]
  refine DWp.block ?_
  obtain ⟨s2, hL3, hF⟩ := bd_some hF
  have S4 := S0.pick [] (by decide) rfl
  refine DWp.loop (fun n env G => ∃ y1_8 : Int, F_slices_IndexFunc_Sint_L1 fu x0 x1 (llen x0) n y1_8 = some s2 ∧ Sep G (Fr H) [] ∧ AgB (Fr H) H G ∧ env 0 = some v0 ∧ env 1 = some (Value.func (.func f1) #[] c1.toArray) ∧ env 7 = some (Value.int .i64 (llen x0)) ∧ env 8 = some (Value.int .i64 y1_8)) fu ⟨0, hL3, S4, A0, by simp [], by simp [], by simp [], by simp []⟩ ?_
  rintro n1 env1 G1_ ⟨y1_8, hL3, S1_, A1_, e1_0, e1_1, e1_7, e1_8⟩
  cases n1 with
  | zero => cases hL3
  | succ n1 =>
    simp only [F_slices_IndexFunc_Sint_L1] at hL3
    refine DWp.seq ?_
    refine DWp.region fun K hK => ?_
    simp [-aBin', -aBin, -aBinI, -aUn, -aNil, -flatV, n_fn, b_add, b_sub, b_mul, b_lt, b_le, b_gt, b_ge, b_eq, b_ne, u_not, e1_0, e1_1, e1_7, e1_8]
    apply hK
    clear hK K
    simp only [andThen, leaves]
    refine DWp.seq ?_
    refine DWp.cond' (t := (ilt y1_8 (llen x0))) (by simp [e1_0, e1_1, e1_7, e1_8]) (fun hb5 => ?_) (fun hb5 => ?_)
    · replace hL3 := cd_t hb5 hL3
      refine DWp.skip ?_
      simp only [andThen, leaves]
      refine DWp.seq ?_
      refine DWp.block ?_
      refine DWp.seq ?_
      refine DWp.region fun K hK => ?_
      simp [-aBin', -aBin, -aBinI, -aUn, -aNil, -flatV, n_fn, b_add, b_sub, b_mul, b_lt, b_le, b_gt, b_ge, b_eq, b_ne, u_not, e1_0, e1_1, e1_7, e1_8]
      apply hK
      clear hK K
      simp only [andThen, leaves]
      refine DWp.seq ?_
      obtain ⟨g6, hL3⟩ := gd_some hL3
      have q7 := idxG (P := Try.prog) (kk := .i64) (hx0.agree A1_.agree) el_22 sz_3 g6
      have q8 := loadG (P := Try.prog) (hx0.agree A1_.agree) sz_3 ag_3 g6 0
      obtain ⟨r1, hc9, hL3⟩ := bd_some hL3
      refine DWp.region fun K hK => ?_
      simp [-aBin', -aBin, -aBinI, -aUn, -aNil, -flatV, n_fn, b_add, b_sub, b_mul, b_lt, b_le, b_gt, b_ge, b_eq, b_ne, u_not, e1_0, e1_1, e1_7, e1_8, q7, q8]
      refine CallD.t (hx1 _ A1_ (gat 0 x0 y1_8) _  hc9) ?_
      rintro _ G10 ⟨a13, rfl, S14⟩
      have A12 := A1_.ext (hB.le A1_.1) a13.agree
      have S11 : Sep G10 (Fr H) [] := S1_.agree a13.agree
      simp [-aBin', -aBin, -aBinI, -aUn, -aNil, -flatV, n_fn, b_add, b_sub, b_mul, b_lt, b_le, b_gt, b_ge, b_eq, b_ne, u_not, e1_0, e1_1, e1_7, e1_8, q7, q8, a13.pre]
      apply hK
      clear hK K
      simp only [andThen, leaves]
      refine DWp.cond' (t := r1) (by simp [e1_0, e1_1, e1_7, e1_8]) (fun hb15 => ?_) (fun hb15 => ?_)
      · replace hL3 := cd_t hb15 hL3
        refine DWp.seq ?_
        refine DWp.region fun K hK => ?_
        simp [-aBin', -aBin, -aBinI, -aUn, -aNil, -flatV, n_fn, b_add, b_sub, b_mul, b_lt, b_le, b_gt, b_ge, b_eq, b_ne, u_not, e1_0, e1_1, e1_7, e1_8]
        apply hK
        clear hK K
        simp only [andThen, leaves]
        refine DWp.ret ?_
        simp only [andThen, leaves]
        obtain rfl := Option.some.inj hL3
        simp only [lr] at hF
        obtain rfl := Option.some.inj hF
        exact ⟨by simp, [(Value.int .i64 y1_8)], by simp [e1_0, e1_1, e1_7, e1_8], A12, rfl, S11.pick [] (by decide) rfl⟩
      · replace hL3 := cd_f hb15 hL3
        refine DWp.skip ?_
        simp only [andThen, leaves]
        refine DWp.region fun K hK => ?_
        simp [-aBin', -aBin, -aBinI, -aUn, -aNil, -flatV, n_fn, b_add, b_sub, b_mul, b_lt, b_le, b_gt, b_ge, b_eq, b_ne, u_not, e1_0, e1_1, e1_7, e1_8]
        apply hK
        clear hK K
        simp only [andThen, leaves]
        have S16 := S11.pick [] (by decide) rfl
        exact ⟨n1, Nat.lt_succ_self _, (iadd .i64 y1_8 1), hL3, S16, A12, by simp [e1_0, e1_1, e1_7, e1_8], by simp [e1_0, e1_1, e1_7, e1_8], by simp [e1_0, e1_1, e1_7, e1_8], by simp [e1_0, e1_1, e1_7, e1_8]⟩
    · replace hL3 := cd_f hb5 hL3
      refine DWp.exit ?_
      simp only [andThen, leaves, if_true, if_false, reduceIte, Nat.reduceEqDiff]
      obtain rfl := Option.some.inj hL3
      simp only [lr] at hF
      refine DWp.seq ?_
      refine DWp.region fun K hK => ?_
      simp [-aBin', -aBin, -aBinI, -aUn, -aNil, -flatV, n_fn, b_add, b_sub, b_mul, b_lt, b_le, b_gt, b_ge, b_eq, b_ne, u_not, e1_0, e1_1, e1_7, e1_8]
      apply hK
      clear hK K
      simp only [andThen, leaves]
      refine DWp.ret ?_
      obtain rfl := Option.some.inj hF
      exact ⟨by simp, [(Value.int .i64 (-1))], by simp [e1_0, e1_1, e1_7, e1_8], A1_, rfl, S1_.pick [] (by decide) rfl⟩
/-! slices.ContainsFunc[[]int,int] -/
def F_slices_ContainsFunc_Sint (fu : Nat) (x0 : List Int) (x1 : Int → Option (Bool)) : Option (Bool) :=
  bd (F_slices_IndexFunc_Sint fu x0 x1) fun r1 =>
  some (ile 0 r1)
theorem F_slices_ContainsFunc_Sint_w {fu : Nat} {H : AH} {v0 : Value} {f1 : FuncId} {c1 : List Value} {x0 : List Int} {x1 : Int → Option (Bool)} {r : (Bool)} (hx0 : Sl H v0 (ints x0)) (hx1 : ∀ (G : AH), AgB (Fr H) H G → ∀ (y0 : Int) (q : (Bool)), x1 y0 = some q → ACallT Try.prog f1 ([(Value.int .i64 y0)] ++ c1) G (fun u G' => AgB (Fr G) G G' ∧ u = (Value.bool q) ∧ Sep G' (Fr G) [])) (hF : F_slices_ContainsFunc_Sint fu x0 x1 = some r) :
    ACallT Try.prog 89 [v0, (Value.func (.func f1) #[] c1.toArray)] H (fun u G => AgB (Fr H) H G ∧ u = (Value.bool r) ∧ Sep G (Fr H) []) := by
  refine ACallT.of_body (nt := 9) (rs := [.tmp 4]) Try.func89 rfl rfl rfl rfl ?_
  have A0 : AgB (Fr H) H H := .refl _ _
  have S0 : Sep H (Fr H) [] := .nil
  have hB := Fr.up H
  unfold F_slices_ContainsFunc_Sint at hF
  refine DWp.seq ?_
  refine DWp.region fun K hK => ?_
  simp [-aBin', -aBin, -aBinI, -aUn, -aNil, -flatV, n_fn, b_add, b_sub, b_mul, b_lt, b_le, b_gt, b_ge, b_eq, b_ne, u_not]
  apply hK
  clear hK K
  simp only [andThen, leaves]
  refine DWp.seq ?_
  obtain ⟨r1, hc1, hF⟩ := bd_some hF
  refine DWp.region fun K hK => ?_
  simp [-aBin', -aBin, -aBinI, -aUn, -aNil, -flatV, n_fn, b_add, b_sub, b_mul, b_lt, b_le, b_gt, b_ge, b_eq, b_ne, u_not, ((hx0.agree A0.agree).tup)]
  refine CallD.t (F_slices_IndexFunc_Sint_w (fu := fu) (hx0.agree A0.agree) (fun G_ a_ => hx1 G_ (A0.ext (hB.le A0.1) a_.agree)) hc1) ?_
  rintro _ G3 ⟨a6, rfl, S7⟩
  have A5 := A0.ext (hB.le A0.1) a6.agree
  have S4 : Sep G3 (Fr H) [] := S0.app a6.agree S7 (fun _ h => h) (hB.le A0.1)
  simp [-aBin', -aBin, -aBinI, -aUn, -aNil, -flatV, n_fn, b_add, b_sub, b_mul, b_lt, b_le, b_gt, b_ge, b_eq, b_ne, u_not, a6.pre]
  apply hK
  clear hK K
  simp only [andThen, leaves]
  refine DWp.ret ?_
  obtain rfl := Option.some.inj hF
  exact ⟨by simp, [(Value.bool (ile 0 r1))], by simp [], A5, rfl, S4.pick [] (by decide) rfl⟩
/-! loop.example/g01126/impl.in -/
def F_impl_in (fu : Nat) (x0 : Int) (x1 : Int) (x2 : Int) : Option (Bool) :=
  bif (ile x1 x0) then
    some (ile x0 x2)
  else
    some false
theorem F_impl_in_w {fu : Nat} {H : AH}  {x0 : Int} {x1 : Int} {x2 : Int} {r : (Bool)}  (hF : F_impl_in fu x0 x1 x2 = some r) :
    ACallT Try.prog 64 [(Value.int .i64 x0), (Value.int .i64 x1), (Value.int .i64 x2)] H (fun u G => AgB (Fr H) H G ∧ u = (Value.bool r) ∧ Sep G (Fr H) []) := by
  refine ACallT.of_body (nt := 15) (rs := [.tmp 6]) Try.func64 rfl rfl rfl rfl ?_
  have A0 : AgB (Fr H) H H := .refl _ _
  have S0 : Sep H (Fr H) [] := .nil
  have hB := Fr.up H
  unfold F_impl_in at hF
  refine DWp.seq ?_
  refine DWp.region fun K hK => ?_
  simp [-aBin', -aBin, -aBinI, -aUn, -aNil, -flatV, n_fn, b_add, b_sub, b_mul, b_lt, b_le, b_gt, b_ge, b_eq, b_ne, u_not]
  apply hK
  clear hK K
  simp only [andThen, leaves]
  refine DWp.seq ?_
  rcases Bool.eq_false_or_eq_true (ile x1 x0) with hb1 | hb1
  · replace hF := cd_t hb1 hF
    refine DWp.region fun K hK => ?_
    simp [-aBin', -aBin, -aBinI, -aUn, -aNil, -flatV, n_fn, b_add, b_sub, b_mul, b_lt, b_le, b_gt, b_ge, b_eq, b_ne, u_not, hb1]
    apply hK
    clear hK K
    simp only [andThen, leaves]
    refine DWp.ret ?_
    obtain rfl := Option.some.inj hF
    exact ⟨by simp, [(Value.bool (ile x0 x2))], by simp [], A0, rfl, S0.pick [] (by decide) rfl⟩
  · replace hF := cd_f hb1 hF
    refine DWp.region fun K hK => ?_
    simp [-aBin', -aBin, -aBinI, -aUn, -aNil, -flatV, n_fn, b_add, b_sub, b_mul, b_lt, b_le, b_gt, b_ge, b_eq, b_ne, u_not, hb1]
    apply hK
    clear hK K
    simp only [andThen, leaves]
    refine DWp.ret ?_
    obtain rfl := Option.some.inj hF
    exact ⟨by simp, [(Value.bool false)], by simp [], A0, rfl, S0.pick [] (by decide) rfl⟩
/-! loop.example/g01126/impl.areParts$1 -/
def F_impl_areParts_1 (fu : Nat) (x0 : Int) : Option (Bool) :=
  bd (F_impl_in fu x0 1 20) fun r1 =>
  some (bnot r1)
theorem F_impl_areParts_1_w {fu : Nat} {H : AH}  {x0 : Int} {r : (Bool)}  (hF : F_impl_areParts_1 fu x0 = some r) :
    ACallT Try.prog 90 [(Value.int .i64 x0)] H (fun u G => AgB (Fr H) H G ∧ u = (Value.bool r) ∧ Sep G (Fr H) []) := by
  refine ACallT.of_body (nt := 6) (rs := [.tmp 2]) Try.func90 rfl rfl rfl rfl ?_
  have A0 : AgB (Fr H) H H := .refl _ _
  have S0 : Sep H (Fr H) [] := .nil
  have hB := Fr.up H
  unfold F_impl_areParts_1 at hF
  refine DWp.seq ?_
  refine DWp.region fun K hK => ?_
  simp [-aBin', -aBin, -aBinI, -aUn, -aNil, -flatV, n_fn, b_add, b_sub, b_mul, b_lt, b_le, b_gt, b_ge, b_eq, b_ne, u_not]
  apply hK
  clear hK K
  simp only [andThen, leaves]
  refine DWp.seq ?_
  obtain ⟨r1, hc1, hF⟩ := bd_some hF
  refine DWp.region fun K hK => ?_
  simp [-aBin', -aBin, -aBinI, -aUn, -aNil, -flatV, n_fn, b_add, b_sub, b_mul, b_lt, b_le, b_gt, b_ge, b_eq, b_ne, u_not]
  refine CallD.t (F_impl_in_w (fu := fu)  hc1) ?_
  rintro _ G3 ⟨a6, rfl, S7⟩
  have A5 := A0.ext (hB.le A0.1) a6.agree
  have S4 : Sep G3 (Fr H) [] := S0.app a6.agree S7 (fun _ h => h) (hB.le A0.1)
  simp [-aBin', -aBin, -aBinI, -aUn, -aNil, -flatV, n_fn, b_add, b_sub, b_mul, b_lt, b_le, b_gt, b_ge, b_eq, b_ne, u_not, a6.pre]
  apply hK
  clear hK K
  simp only [andThen, leaves]
  refine DWp.ret ?_
  obtain rfl := Option.some.inj hF
  exact ⟨by simp, [(Value.bool (bnot r1))], by simp [], A5, rfl, S4.pick [] (by decide) rfl⟩
end Go.Proofs.Ytfccbmpfnonjiaa.AL

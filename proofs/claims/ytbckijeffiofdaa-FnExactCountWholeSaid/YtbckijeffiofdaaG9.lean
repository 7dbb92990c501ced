/- The walks of functions, each with its Lean function: slices.Compare[[]int,int], impl.systems, impl.pairs, impl.CountByPieces, laws.FnExactCountByPieces. No condition. -/
import Derived.Test.YtbckijeffiofdaaG1
import Derived.Test.YtbckijeffiofdaaG2
import Derived.Test.YtbckijeffiofdaaG3
import Derived.Test.YtbckijeffiofdaaG4
import Derived.Test.YtbckijeffiofdaaG5
import Derived.Test.YtbckijeffiofdaaG6
import Derived.Test.YtbckijeffiofdaaG7
import Derived.Test.YtbckijeffiofdaaG8
import Derived.Test.YtbckijeffiofdaaALC
import Derived.Test.YtbckijeffiofdaaProg
import Derived.KernelRfl
namespace Go.Proofs.Ytbckijeffiofdaa.AL
open Go Go.RowKit
set_option linter.unusedVariables false
set_option linter.unusedSimpArgs false
set_option maxRecDepth 4096

def F_slices_Compare_Sint_L1 (fu : Nat) (k1_0 : List Int) (k1_1 : List Int) (k1_2 : Int) : Nat → Int → Option (LR (Int) (Int))
  | 0, _ => none
  | n + 1, y1_11 =>
    bif (ilt y1_11 k1_2) then
      gd (inL k1_0 y1_11) (
      bif (ile (llen k1_1) y1_11) then
        some (.ret 1)
      else
        gd (inL k1_1 y1_11) (
        bd (F_cmp_Compare_int fu (gat 0 k1_0 y1_11) (gat 0 k1_1 y1_11)) fun r1 =>
        bif (ine r1 0) then
          some (.ret r1)
        else
          F_slices_Compare_Sint_L1 fu k1_0 k1_1 k1_2 n (iadd .i64 y1_11 1)))
    else
      some (.brk y1_11)
def F_slices_Compare_Sint (fu : Nat) (x0 : List Int) (x1 : List Int) : Option (Int) :=
  bd (F_slices_Compare_Sint_L1 fu x0 x1 (llen x0) fu 0) fun s1 =>
  lr s1 fun s1 =>
  bif (ilt (llen x0) (llen x1)) then
    some (-1)
  else
    some 0
theorem F_slices_Compare_Sint_w {fu : Nat} {H : AH} {v0 : Value} {v1 : Value} {x0 : List Int} {x1 : List Int} {r : (Int)} (hx0 : Sl H v0 (ints x0)) (hx1 : Sl H v1 (ints x1)) (hF : F_slices_Compare_Sint fu x0 x1 = some r) :
    ACallT Try.prog 160 [v0, v1] H (fun u G => AgB (Fr H) H G ∧ u = (Value.int .i64 r) ∧ Sep G (Fr H) []) := by
  refine ACallT.of_body (nt := 36) (rs := [.tmp 4]) Try.func160 rfl rfl rfl rfl ?_
  have A0 : AgB (Fr H) H H := .refl _ _
  have S0 : Sep H (Fr H) [] := .nil
  have hB := Fr.up H
  unfold F_slices_Compare_Sint at hF
  refine DWp.seq ?_
  refine DWp.region fun K hK => ?_
  simp [-aBin', -aBin, -aBinI, -aUn, -aNil, -flatV, n_fn, b_add, b_sub, b_mul, b_lt, b_le, b_gt, b_ge, b_eq, b_ne, u_not]
  apply hK
  clear hK K
  simp only [andThen, leaves]
  refine DWp.seq ?_
  refine DWp.seq ?_
  have q1 := lenG (P := Try.prog) (hx0.agree A0.agree) el_22
  refine DWp.region fun K hK => ?_
  simp [-aBin', -aBin, -aBinI, -aUn, -aNil, -flatV, n_fn, b_add, b_sub, b_mul, b_lt, b_le, b_gt, b_ge, b_eq, b_ne, u_not, q1]
  apply hK
  clear hK K
  simp only [andThen, leaves]
  refine DWp.block ?_
  obtain ⟨s2, hL3, hF⟩ := bd_some hF
  have S4 := S0.pick [] (by decide) rfl
  refine DWp.loop (fun n env G => ∃ y1_11 : Int, F_slices_Compare_Sint_L1 fu x0 x1 (llen x0) n y1_11 = some s2 ∧ Sep G (Fr H) [] ∧ AgB (Fr H) H G ∧ env 0 = some v0 ∧ env 1 = some v1 ∧ env 9 = some v0 ∧ env 10 = some (Value.int .i64 (llen x0)) ∧ env 11 = some (Value.int .i64 y1_11)) fu ⟨0, hL3, S4, A0, by simp [], by simp [], by simp [], by simp [], by simp []⟩ ?_
  rintro n1 env1 G1_ ⟨y1_11, hL3, S1_, A1_, e1_0, e1_1, e1_9, e1_10, e1_11⟩
  cases n1 with
  | zero => cases hL3
  | succ n1 =>
    simp only [F_slices_Compare_Sint_L1] at hL3
    refine DWp.seq ?_
    refine DWp.region fun K hK => ?_
    simp [-aBin', -aBin, -aBinI, -aUn, -aNil, -flatV, n_fn, b_add, b_sub, b_mul, b_lt, b_le, b_gt, b_ge, b_eq, b_ne, u_not, e1_0, e1_1, e1_9, e1_10, e1_11]
    apply hK
    clear hK K
    simp only [andThen, leaves]
    refine DWp.seq ?_
    refine DWp.cond' (t := (ilt y1_11 (llen x0))) (by simp [e1_0, e1_1, e1_9, e1_10, e1_11]) (fun hb5 => ?_) (fun hb5 => ?_)
    · replace hL3 := cd_t hb5 hL3
      refine DWp.skip ?_
      simp only [andThen, leaves]
      refine DWp.seq ?_
      refine DWp.block ?_
      refine DWp.seq ?_
      obtain ⟨g6, hL3⟩ := gd_some hL3
      have q7 := idxG (P := Try.prog) (kk := .i64) (hx0.agree A1_.agree) el_22 sz_3 g6
      have q8 := loadG (P := Try.prog) (hx0.agree A1_.agree) sz_3 ag_3 g6 0
      refine DWp.region fun K hK => ?_
      simp [-aBin', -aBin, -aBinI, -aUn, -aNil, -flatV, n_fn, b_add, b_sub, b_mul, b_lt, b_le, b_gt, b_ge, b_eq, b_ne, u_not, e1_0, e1_1, e1_9, e1_10, e1_11, q7, q8]
      apply hK
      clear hK K
      simp only [andThen, leaves]
      refine DWp.seq ?_
      refine DWp.seq ?_
      have q9 := lenG (P := Try.prog) (hx1.agree A1_.agree) el_22
      refine DWp.region fun K hK => ?_
      simp [-aBin', -aBin, -aBinI, -aUn, -aNil, -flatV, n_fn, b_add, b_sub, b_mul, b_lt, b_le, b_gt, b_ge, b_eq, b_ne, u_not, e1_0, e1_1, e1_9, e1_10, e1_11, q9]
      apply hK
      clear hK K
      simp only [andThen, leaves]
      refine DWp.cond' (t := (ile (llen x1) y1_11)) (by simp [e1_0, e1_1, e1_9, e1_10, e1_11]) (fun hb10 => ?_) (fun hb10 => ?_)
      · replace hL3 := cd_t hb10 hL3
        refine DWp.seq ?_
        refine DWp.region fun K hK => ?_
        simp [-aBin', -aBin, -aBinI, -aUn, -aNil, -flatV, n_fn, b_add, b_sub, b_mul, b_lt, b_le, b_gt, b_ge, b_eq, b_ne, u_not, e1_0, e1_1, e1_9, e1_10, e1_11]
        apply hK
        clear hK K
        simp only [andThen, leaves]
        refine DWp.ret ?_
        simp only [andThen, leaves]
        obtain rfl := Option.some.inj hL3
        simp only [lr] at hF
        obtain rfl := Option.some.inj hF
        exact ⟨by simp, [(Value.int .i64 1)], by simp [e1_0, e1_1, e1_9, e1_10, e1_11], A1_, rfl, S1_.pick [] (by decide) rfl⟩
      · replace hL3 := cd_f hb10 hL3
        refine DWp.skip ?_
        simp only [andThen, leaves]
        refine DWp.seq ?_
        obtain ⟨g11, hL3⟩ := gd_some hL3
        have q12 := idxG (P := Try.prog) (kk := .i64) (hx1.agree A1_.agree) el_22 sz_3 g11
        have q13 := loadG (P := Try.prog) (hx1.agree A1_.agree) sz_3 ag_3 g11 0
        refine DWp.region fun K hK => ?_
        simp [-aBin', -aBin, -aBinI, -aUn, -aNil, -flatV, n_fn, b_add, b_sub, b_mul, b_lt, b_le, b_gt, b_ge, b_eq, b_ne, u_not, e1_0, e1_1, e1_9, e1_10, e1_11, q12, q13]
        apply hK
        clear hK K
        simp only [andThen, leaves]
        refine DWp.seq ?_
        obtain ⟨r1, hc14, hL3⟩ := bd_some hL3
        refine DWp.region fun K hK => ?_
        simp [-aBin', -aBin, -aBinI, -aUn, -aNil, -flatV, n_fn, b_add, b_sub, b_mul, b_lt, b_le, b_gt, b_ge, b_eq, b_ne, u_not, e1_0, e1_1, e1_9, e1_10, e1_11]
        refine CallD.t (F_cmp_Compare_int_w (fu := fu)  hc14) ?_
        rintro _ G16 ⟨a19, rfl, S20⟩
        have A18 := A1_.ext (hB.le A1_.1) a19.agree
        have S17 : Sep G16 (Fr H) [] := S1_.app a19.agree S20 (fun _ h => h) (hB.le A1_.1)
        simp [-aBin', -aBin, -aBinI, -aUn, -aNil, -flatV, n_fn, b_add, b_sub, b_mul, b_lt, b_le, b_gt, b_ge, b_eq, b_ne, u_not, e1_0, e1_1, e1_9, e1_10, e1_11, a19.pre]
        apply hK
        clear hK K
        simp only [andThen, leaves]
        refine DWp.seq ?_
        refine DWp.region fun K hK => ?_
        simp [-aBin', -aBin, -aBinI, -aUn, -aNil, -flatV, n_fn, b_add, b_sub, b_mul, b_lt, b_le, b_gt, b_ge, b_eq, b_ne, u_not, e1_0, e1_1, e1_9, e1_10, e1_11]
        apply hK
        clear hK K
        simp only [andThen, leaves]
        refine DWp.cond' (t := (ine r1 0)) (by simp [e1_0, e1_1, e1_9, e1_10, e1_11]) (fun hb21 => ?_) (fun hb21 => ?_)
        · replace hL3 := cd_t hb21 hL3
          refine DWp.seq ?_
          refine DWp.region fun K hK => ?_
          simp [-aBin', -aBin, -aBinI, -aUn, -aNil, -flatV, n_fn, b_add, b_sub, b_mul, b_lt, b_le, b_gt, b_ge, b_eq, b_ne, u_not, e1_0, e1_1, e1_9, e1_10, e1_11]
          apply hK
          clear hK K
          simp only [andThen, leaves]
          refine DWp.ret ?_
          simp only [andThen, leaves]
          obtain rfl := Option.some.inj hL3
          simp only [lr] at hF
          obtain rfl := Option.some.inj hF
          exact ⟨by simp, [(Value.int .i64 r1)], by simp [e1_0, e1_1, e1_9, e1_10, e1_11], A18, rfl, S17.pick [] (by decide) rfl⟩
        · replace hL3 := cd_f hb21 hL3
          refine DWp.skip ?_
          simp only [andThen, leaves]
          refine DWp.region fun K hK => ?_
          simp [-aBin', -aBin, -aBinI, -aUn, -aNil, -flatV, n_fn, b_add, b_sub, b_mul, b_lt, b_le, b_gt, b_ge, b_eq, b_ne, u_not, e1_0, e1_1, e1_9, e1_10, e1_11]
          apply hK
          clear hK K
          simp only [andThen, leaves]
          have S22 := S17.pick [] (by decide) rfl
          exact ⟨n1, Nat.lt_succ_self _, (iadd .i64 y1_11 1), hL3, S22, A18, by simp [e1_0, e1_1, e1_9, e1_10, e1_11], by simp [e1_0, e1_1, e1_9, e1_10, e1_11], by simp [e1_0, e1_1, e1_9, e1_10, e1_11], by simp [e1_0, e1_1, e1_9, e1_10, e1_11], by simp [e1_0, e1_1, e1_9, e1_10, e1_11]⟩
    · replace hL3 := cd_f hb5 hL3
      refine DWp.exit ?_
      simp only [andThen, leaves, if_true, if_false, reduceIte, Nat.reduceEqDiff]
      obtain rfl := Option.some.inj hL3
      simp only [lr] at hF
      refine DWp.seq ?_
      refine DWp.seq ?_
      have q23 := lenG (P := Try.prog) (hx0.agree A1_.agree) el_22
      have q24 := lenG (P := Try.prog) (hx1.agree A1_.agree) el_22
      refine DWp.region fun K hK => ?_
      simp [-aBin', -aBin, -aBinI, -aUn, -aNil, -flatV, n_fn, b_add, b_sub, b_mul, b_lt, b_le, b_gt, b_ge, b_eq, b_ne, u_not, e1_0, e1_1, e1_9, e1_10, e1_11, q23, q24]
      apply hK
      clear hK K
      simp only [andThen, leaves]
      refine DWp.cond' (t := (ilt (llen x0) (llen x1))) (by simp [e1_0, e1_1, e1_9, e1_10, e1_11]) (fun hb25 => ?_) (fun hb25 => ?_)
      · replace hF := cd_t hb25 hF
        refine DWp.seq ?_
        refine DWp.region fun K hK => ?_
        simp [-aBin', -aBin, -aBinI, -aUn, -aNil, -flatV, n_fn, b_add, b_sub, b_mul, b_lt, b_le, b_gt, b_ge, b_eq, b_ne, u_not, e1_0, e1_1, e1_9, e1_10, e1_11]
        apply hK
        clear hK K
        simp only [andThen, leaves]
        refine DWp.ret ?_
        simp only [andThen, leaves]
        obtain rfl := Option.some.inj hF
        exact ⟨by simp, [(Value.int .i64 (-1))], by simp [e1_0, e1_1, e1_9, e1_10, e1_11], A1_, rfl, S1_.pick [] (by decide) rfl⟩
      · replace hF := cd_f hb25 hF
        refine DWp.skip ?_
        simp only [andThen, leaves]
        refine DWp.seq ?_
        refine DWp.region fun K hK => ?_
        simp [-aBin', -aBin, -aBinI, -aUn, -aNil, -flatV, n_fn, b_add, b_sub, b_mul, b_lt, b_le, b_gt, b_ge, b_eq, b_ne, u_not, e1_0, e1_1, e1_9, e1_10, e1_11]
        apply hK
        clear hK K
        simp only [andThen, leaves]
        refine DWp.ret ?_
        obtain rfl := Option.some.inj hF
        exact ⟨by simp, [(Value.int .i64 0)], by simp [e1_0, e1_1, e1_9, e1_10, e1_11], A1_, rfl, S1_.pick [] (by decide) rfl⟩
def F_impl_systems_L3 (fu : Nat) (self_ : Int → Option (List (List Int))) (k3_0 : Int) (k3_1 : Int) (k3_2 : List Int) (k3_3 : List (List Int)) (k3_4 : Int) (k3_5 : Int) (k3_6 : List (List Int)) (k3_7 : Int) : Nat → List (List Int) → Int → Option (List (List Int) × Int)
  | 0, _, _ => none
  | n + 1, l3_0, y3_31 =>
    bif (ilt y3_31 k3_7) then
      gd (inL k3_6 y3_31) (
      bd (F_impl_covered fu k3_2) fun r3 =>
      bd (F_impl_joined fu r3 (gat [] k3_6 y3_31)) fun r4 =>
      gd (l3_0.length + 1 ≤ 4294967296) (
      F_impl_systems_L3 fu self_ k3_0 k3_1 k3_2 k3_3 k3_4 k3_5 k3_6 k3_7 n (lapp l3_0 [r4]) (iadd .i64 y3_31 1)))
    else
      some (l3_0, y3_31)
def F_impl_systems_L2 (fu : Nat) (self_ : Int → Option (List (List Int))) (k2_0 : Int) (k2_1 : Int) (k2_2 : List (List Int)) (k2_3 : Int) : Nat → List (List Int) → Int → Option (List (List Int) × Int)
  | 0, _, _ => none
  | n + 1, l2_0, y2_21 =>
    bif (ilt y2_21 k2_3) then
      gd (inL k2_2 y2_21) (
      bd (self_ (isub .i64 (isub .i64 k2_0 1) k2_1)) fun r2 =>
      bd (F_impl_systems_L3 fu self_ k2_0 k2_1 (gat [] k2_2 y2_21) k2_2 k2_3 y2_21 r2 (llen r2) fu l2_0 0) fun s3 =>
      F_impl_systems_L2 fu self_ k2_0 k2_1 k2_2 k2_3 n s3.1 (iadd .i64 y2_21 1))
    else
      some (l2_0, y2_21)
def F_impl_systems_L1 (fu : Nat) (self_ : Int → Option (List (List Int))) (k1_0 : Int) : Nat → List (List Int) → Int → Option (List (List Int) × Int)
  | 0, _, _ => none
  | n + 1, l1_0, y1_15 =>
    bif (ilt y1_15 k1_0) then
      bd (self_ y1_15) fun r1 =>
      bd (F_impl_systems_L2 fu self_ k1_0 y1_15 r1 (llen r1) fu l1_0 0) fun s2 =>
      F_impl_systems_L1 fu self_ k1_0 n s2.1 (iadd .i64 y1_15 1)
    else
      some (l1_0, y1_15)
def F_impl_systems : Nat → Int → Option (List (List Int))
  | 0, _ => none
  | fu + 1, x0 =>
    bif (ieq x0 0) then
      some [(@List.nil Int)]
    else
      bd (F_impl_systems_L1 fu (F_impl_systems fu) x0 fu [] 0) fun s1 =>
      bd (F_slices_SortFunc_SSint fu s1.1 (fun y0 y1 => F_slices_Compare_Sint fu y0 y1)) fun r5 =>
      some r5
theorem F_impl_systems_w : ∀ {fu : Nat} {H : AH}  {x0 : Int} {r : (List (List Int))}  (hF : F_impl_systems fu x0 = some r),
    ACallT Try.prog 131 [(Value.int .i64 x0)] H (fun u G => AgB (Fr H) H G ∧ ∃ u0 : Value, ∃ C0 : List Value, u = u0 ∧ Sep G (Fr H) [rowsC u0 22 3 C0 (List.map ints r)]) := by
  intro fu
  induction fu with
  | zero => intros; rename_i hF; cases hF
  | succ fu ih =>
  intro H  x0 r  hF
  simp only [F_impl_systems] at hF
  refine ACallT.of_body (nt := 48) (rs := [.tmp 2]) Try.func131 rfl rfl rfl rfl ?_
  have A0 : AgB (Fr H) H H := .refl _ _
  have S0 : Sep H (Fr H) [] := .nil
  have hB := Fr.up H
  refine DWp.seq ?_
  refine DWp.region fun K hK => ?_
  simp [-aBin', -aBin, -aBinI, -aUn, -aNil, -flatV, n_fn, b_add, b_sub, b_mul, b_lt, b_le, b_gt, b_ge, b_eq, b_ne, u_not]
  apply hK
  clear hK K
  simp only [andThen, leaves]
  refine DWp.seq ?_
  refine DWp.seq ?_
  refine DWp.region fun K hK => ?_
  simp [-aBin', -aBin, -aBinI, -aUn, -aNil, -flatV, n_fn, b_add, b_sub, b_mul, b_lt, b_le, b_gt, b_ge, b_eq, b_ne, u_not]
  apply hK
  clear hK K
  simp only [andThen, leaves]
  refine DWp.cond' (t := (ieq x0 0)) (by simp []) (fun hb1 => ?_) (fun hb1 => ?_)
  · replace hF := cd_t hb1 hF
    refine DWp.seq ?_
    obtain ⟨v2, G3, q4, S5, a7, _, _⟩ := S0.lit0 (P := Try.prog) (t := 22) (hB.le A0.1) el_22 ei_3 rfl
    have A6 := A0.ext (hB.le A0.1) a7
    replace S5 : Sep G3 (Fr H) [flat1 v2 3 (ints (@List.nil Int))] := S5
    obtain ⟨v9, G10, q11, S12, a14, _, _⟩ := S5.lit1 (P := Try.prog) (t := 36) (hB.le A6.1) el_36 ei_22 rfl v2 ((S5.sl1 (k := 0) rfl).tup) ((S5.sl1 (k := 0) rfl).one)
    have A13 := A6.ext (hB.le A6.1) a14
    replace S12 : Sep G10 (Fr H) [flat1 v2 3 (ints (@List.nil Int)), flat1 v9 22 [v2]] := S12
    refine DWp.region fun K hK => ?_
    simp [-aBin', -aBin, -aBinI, -aUn, -aNil, -flatV, n_fn, b_add, b_sub, b_mul, b_lt, b_le, b_gt, b_ge, b_eq, b_ne, u_not, q4, a7.to_pre, q11, a14.to_pre, ((S5.sl1 (k := 0) rfl).tup)]
    apply hK
    clear hK K
    simp only [andThen, leaves]
    refine DWp.ret ?_
    simp only [andThen, leaves]
    have S15 := S12.weak (k := 0) rfl
    have S16 : Sep G10 (Fr H) [emp, rowsC v9 22 3 [v2] (List.map ints [(@List.nil Int)])] := S15.rowsOf1 (j := 1) (k := 0) (by decide) rfl rfl
    obtain rfl := Option.some.inj hF
    exact ⟨by simp, [v9], by simp [((S16.rd (k := 1) rfl).tup)], A13, v9, [v2], rfl, S16.pick [1] (by decide) rfl⟩
  · replace hF := cd_f hb1 hF
    refine DWp.skip ?_
    simp only [andThen, leaves]
    refine DWp.seq ?_
    obtain ⟨v17, G18, q19, S20, a22, _, _⟩ := S0.lit0 (P := Try.prog) (t := 36) (hB.le A0.1) el_36 ei_22 rfl
    have A21 := A0.ext (hB.le A0.1) a22
    replace S20 : Sep G18 (Fr H) [flat1 v17 22 []] := S20
    have S23 : Sep G18 (Fr H) [rowsC v17 22 3 [] (List.map ints [])] := S20.rowsOf0 (k := 0) rfl 3
    refine DWp.region fun K hK => ?_
    simp [-aBin', -aBin, -aBinI, -aUn, -aNil, -flatV, n_fn, b_add, b_sub, b_mul, b_lt, b_le, b_gt, b_ge, b_eq, b_ne, u_not, q19, a22.to_pre]
    apply hK
    clear hK K
    simp only [andThen, leaves]
    refine DWp.seq ?_
    refine DWp.seq ?_
    refine DWp.region fun K hK => ?_
    simp [-aBin', -aBin, -aBinI, -aUn, -aNil, -flatV, n_fn, b_add, b_sub, b_mul, b_lt, b_le, b_gt, b_ge, b_eq, b_ne, u_not]
    apply hK
    clear hK K
    simp only [andThen, leaves]
    refine DWp.block ?_
    obtain ⟨s24, hL25, hF⟩ := bd_some hF
    have S26 := S23.pick [0] (by decide) rfl
    refine DWp.loop (fun n env G => ∃ l1_0 : List (List Int), ∃ y1_15 : Int, ∃ w1_0 : Value, ∃ D1_0 : List Value, F_impl_systems_L1 fu (F_impl_systems fu) x0 n l1_0 y1_15 = some s24 ∧ Sep G (Fr H) [rowsC w1_0 22 3 D1_0 (List.map ints l1_0)] ∧ AgB (Fr H) H G ∧ env 0 = some (Value.int .i64 x0) ∧ env 3 = some w1_0 ∧ env 14 = some (Value.int .i64 x0) ∧ env 15 = some (Value.int .i64 y1_15)) fu ⟨[], 0, v17, [], hL25, S26, A21, by simp [], by simp [], by simp [], by simp []⟩ ?_
    rintro n1 env1 G1_ ⟨l1_0, y1_15, w1_0, D1_0, hL25, S1_, A1_, e1_0, e1_3, e1_14, e1_15⟩
    cases n1 with
    | zero => cases hL25
    | succ n1 =>
      simp only [F_impl_systems_L1] at hL25
      refine DWp.seq ?_
      refine DWp.region fun K hK => ?_
      simp [-aBin', -aBin, -aBinI, -aUn, -aNil, -flatV, n_fn, b_add, b_sub, b_mul, b_lt, b_le, b_gt, b_ge, b_eq, b_ne, u_not, e1_0, e1_3, e1_14, e1_15]
      apply hK
      clear hK K
      simp only [andThen, leaves]
      refine DWp.seq ?_
      refine DWp.cond' (t := (ilt y1_15 x0)) (by simp [e1_0, e1_3, e1_14, e1_15]) (fun hb27 => ?_) (fun hb27 => ?_)
      · replace hL25 := cd_t hb27 hL25
        refine DWp.skip ?_
        simp only [andThen, leaves]
        refine DWp.seq ?_
        refine DWp.block ?_
        refine DWp.seq ?_
        refine DWp.region fun K hK => ?_
        simp [-aBin', -aBin, -aBinI, -aUn, -aNil, -flatV, n_fn, b_add, b_sub, b_mul, b_lt, b_le, b_gt, b_ge, b_eq, b_ne, u_not, e1_0, e1_3, e1_14, e1_15]
        apply hK
        clear hK K
        simp only [andThen, leaves]
        refine DWp.seq ?_
        obtain ⟨r1, hc28, hL25⟩ := bd_some hL25
        refine DWp.region fun K hK => ?_
        simp [-aBin', -aBin, -aBinI, -aUn, -aNil, -flatV, n_fn, b_add, b_sub, b_mul, b_lt, b_le, b_gt, b_ge, b_eq, b_ne, u_not, e1_0, e1_3, e1_14, e1_15]
        refine CallD.t (ih  hc28) ?_
        rintro c29_u0 G30 ⟨a33, _, c29_C0, rfl, S34⟩
        have A32 := A1_.ext (hB.le A1_.1) a33.agree
        have S31 : Sep G30 (Fr H) [rowsC w1_0 22 3 D1_0 (List.map ints l1_0), rowsC c29_u0 22 3 c29_C0 (List.map ints r1)] := S1_.app a33.agree S34 (fun _ h => h) (hB.le A1_.1)
        have q35 := (S31.rd (k := 1) rfl).lenG (P := Try.prog) el_36
        simp [-aBin', -aBin, -aBinI, -aUn, -aNil, -flatV, n_fn, b_add, b_sub, b_mul, b_lt, b_le, b_gt, b_ge, b_eq, b_ne, u_not, e1_0, e1_3, e1_14, e1_15, a33.pre, q35]
        apply hK
        clear hK K
        simp only [andThen, leaves]
        refine DWp.block ?_
        obtain ⟨s36, hL37, hL25⟩ := bd_some hL25
        have S38 := S31.pick [0, 1] (by decide) rfl
        refine DWp.loop (fun n env G => ∃ l2_0 : List (List Int), ∃ y2_21 : Int, ∃ w2_0 : Value, ∃ D2_0 : List Value, F_impl_systems_L2 fu (F_impl_systems fu) x0 y1_15 r1 (llen r1) n l2_0 y2_21 = some s36 ∧ Sep G (Fr H) [rowsC w2_0 22 3 D2_0 (List.map ints l2_0), rowsC c29_u0 22 3 c29_C0 (List.map ints r1)] ∧ AgB (Fr H) H G ∧ env 0 = some (Value.int .i64 x0) ∧ env 3 = some w2_0 ∧ env 4 = some (Value.int .i64 y1_15) ∧ env 14 = some (Value.int .i64 x0) ∧ env 15 = some (Value.int .i64 y1_15) ∧ env 19 = some c29_u0 ∧ env 20 = some (Value.int .i64 (llen r1)) ∧ env 21 = some (Value.int .i64 y2_21)) fu ⟨l1_0, 0, w1_0, D1_0, hL37, S38, A32, by simp [e1_0, e1_3, e1_14, e1_15], by simp [e1_0, e1_3, e1_14, e1_15], by simp [e1_0, e1_3, e1_14, e1_15], by simp [e1_0, e1_3, e1_14, e1_15], by simp [e1_0, e1_3, e1_14, e1_15], by simp [e1_0, e1_3, e1_14, e1_15], by simp [e1_0, e1_3, e1_14, e1_15], by simp [e1_0, e1_3, e1_14, e1_15]⟩ ?_
        rintro n2 env2 G2_ ⟨l2_0, y2_21, w2_0, D2_0, hL37, S2_, A2_, e2_0, e2_3, e2_4, e2_14, e2_15, e2_19, e2_20, e2_21⟩
        cases n2 with
        | zero => cases hL37
        | succ n2 =>
          simp only [F_impl_systems_L2] at hL37
          refine DWp.seq ?_
          refine DWp.region fun K hK => ?_
          simp [-aBin', -aBin, -aBinI, -aUn, -aNil, -flatV, n_fn, b_add, b_sub, b_mul, b_lt, b_le, b_gt, b_ge, b_eq, b_ne, u_not, e2_0, e2_3, e2_4, e2_14, e2_15, e2_19, e2_20, e2_21]
          apply hK
          clear hK K
          simp only [andThen, leaves]
          refine DWp.seq ?_
          refine DWp.cond' (t := (ilt y2_21 (llen r1))) (by simp [e2_0, e2_3, e2_4, e2_14, e2_15, e2_19, e2_20, e2_21]) (fun hb39 => ?_) (fun hb39 => ?_)
          · replace hL37 := cd_t hb39 hL37
            refine DWp.skip ?_
            simp only [andThen, leaves]
            refine DWp.seq ?_
            refine DWp.block ?_
            refine DWp.seq ?_
            obtain ⟨g40, hL37⟩ := gd_some hL37
            have q41 := (S2_.rd (k := 1) rfl).idxG (P := Try.prog) (kk := .i64) el_36 sz_22 g40
            have q42 := (S2_.rd (k := 1) rfl).loadG (P := Try.prog) sz_22 ag_22 g40
            refine DWp.region fun K hK => ?_
            simp [-aBin', -aBin, -aBinI, -aUn, -aNil, -flatV, n_fn, b_add, b_sub, b_mul, b_lt, b_le, b_gt, b_ge, b_eq, b_ne, u_not, e2_0, e2_3, e2_4, e2_14, e2_15, e2_19, e2_20, e2_21, q41, q42]
            apply hK
            clear hK K
            simp only [andThen, leaves]
            refine DWp.seq ?_
            obtain ⟨r2, hc43, hL37⟩ := bd_some hL37
            refine DWp.region fun K hK => ?_
            simp [-aBin', -aBin, -aBinI, -aUn, -aNil, -flatV, n_fn, b_add, b_sub, b_mul, b_lt, b_le, b_gt, b_ge, b_eq, b_ne, u_not, e2_0, e2_3, e2_4, e2_14, e2_15, e2_19, e2_20, e2_21]
            refine CallD.t (ih  hc43) ?_
            rintro c44_u0 G45 ⟨a48, _, c44_C0, rfl, S49⟩
            have A47 := A2_.ext (hB.le A2_.1) a48.agree
            have S46 : Sep G45 (Fr H) [rowsC w2_0 22 3 D2_0 (List.map ints l2_0), rowsC c29_u0 22 3 c29_C0 (List.map ints r1), rowsC c44_u0 22 3 c44_C0 (List.map ints r2)] := S2_.app a48.agree S49 (fun _ h => h) (hB.le A2_.1)
            have q50 := (S46.rd (k := 2) rfl).lenG (P := Try.prog) el_36
            simp [-aBin', -aBin, -aBinI, -aUn, -aNil, -flatV, n_fn, b_add, b_sub, b_mul, b_lt, b_le, b_gt, b_ge, b_eq, b_ne, u_not, e2_0, e2_3, e2_4, e2_14, e2_15, e2_19, e2_20, e2_21, a48.pre, q50]
            apply hK
            clear hK K
            simp only [andThen, leaves]
            refine DWp.block ?_
            obtain ⟨s51, hL52, hL37⟩ := bd_some hL37
            have S53 := S46.pick [0, 1, 2] (by decide) rfl
            refine DWp.loop (fun n env G => ∃ l3_0 : List (List Int), ∃ y3_31 : Int, ∃ w3_0 : Value, ∃ D3_0 : List Value, F_impl_systems_L3 fu (F_impl_systems fu) x0 y1_15 (gat [] r1 y2_21) r1 (llen r1) y2_21 r2 (llen r2) n l3_0 y3_31 = some s51 ∧ Sep G (Fr H) [rowsC w3_0 22 3 D3_0 (List.map ints l3_0), rowsC c29_u0 22 3 c29_C0 (List.map ints r1), rowsC c44_u0 22 3 c44_C0 (List.map ints r2)] ∧ AgB (Fr H) H G ∧ env 0 = some (Value.int .i64 x0) ∧ env 3 = some w3_0 ∧ env 4 = some (Value.int .i64 y1_15) ∧ env 6 = some (gat nilV c29_C0 y2_21) ∧ env 14 = some (Value.int .i64 x0) ∧ env 15 = some (Value.int .i64 y1_15) ∧ env 19 = some c29_u0 ∧ env 20 = some (Value.int .i64 (llen r1)) ∧ env 21 = some (Value.int .i64 y2_21) ∧ env 29 = some c44_u0 ∧ env 30 = some (Value.int .i64 (llen r2)) ∧ env 31 = some (Value.int .i64 y3_31)) fu ⟨l2_0, 0, w2_0, D2_0, hL52, S53, A47, by simp [e2_0, e2_3, e2_4, e2_14, e2_15, e2_19, e2_20, e2_21], by simp [e2_0, e2_3, e2_4, e2_14, e2_15, e2_19, e2_20, e2_21], by simp [e2_0, e2_3, e2_4, e2_14, e2_15, e2_19, e2_20, e2_21], by simp [e2_0, e2_3, e2_4, e2_14, e2_15, e2_19, e2_20, e2_21], by simp [e2_0, e2_3, e2_4, e2_14, e2_15, e2_19, e2_20, e2_21], by simp [e2_0, e2_3, e2_4, e2_14, e2_15, e2_19, e2_20, e2_21], by simp [e2_0, e2_3, e2_4, e2_14, e2_15, e2_19, e2_20, e2_21], by simp [e2_0, e2_3, e2_4, e2_14, e2_15, e2_19, e2_20, e2_21], by simp [e2_0, e2_3, e2_4, e2_14, e2_15, e2_19, e2_20, e2_21], by simp [e2_0, e2_3, e2_4, e2_14, e2_15, e2_19, e2_20, e2_21], by simp [e2_0, e2_3, e2_4, e2_14, e2_15, e2_19, e2_20, e2_21], by simp [e2_0, e2_3, e2_4, e2_14, e2_15, e2_19, e2_20, e2_21]⟩ ?_
            rintro n3 env3 G3_ ⟨l3_0, y3_31, w3_0, D3_0, hL52, S3_, A3_, e3_0, e3_3, e3_4, e3_6, e3_14, e3_15, e3_19, e3_20, e3_21, e3_29, e3_30, e3_31⟩
            cases n3 with
            | zero => cases hL52
            | succ n3 =>
              simp only [F_impl_systems_L3] at hL52
              refine DWp.seq ?_
              refine DWp.region fun K hK => ?_
              simp [-aBin', -aBin, -aBinI, -aUn, -aNil, -flatV, n_fn, b_add, b_sub, b_mul, b_lt, b_le, b_gt, b_ge, b_eq, b_ne, u_not, e3_0, e3_3, e3_4, e3_6, e3_14, e3_15, e3_19, e3_20, e3_21, e3_29, e3_30, e3_31]
              apply hK
              clear hK K
              simp only [andThen, leaves]
              refine DWp.seq ?_
              refine DWp.cond' (t := (ilt y3_31 (llen r2))) (by simp [e3_0, e3_3, e3_4, e3_6, e3_14, e3_15, e3_19, e3_20, e3_21, e3_29, e3_30, e3_31]) (fun hb54 => ?_) (fun hb54 => ?_)
              · replace hL52 := cd_t hb54 hL52
                refine DWp.skip ?_
                simp only [andThen, leaves]
                refine DWp.seq ?_
                refine DWp.block ?_
                refine DWp.seq ?_
                obtain ⟨g55, hL52⟩ := gd_some hL52
                have q56 := (S3_.rd (k := 2) rfl).idxG (P := Try.prog) (kk := .i64) el_36 sz_22 g55
                have q57 := (S3_.rd (k := 2) rfl).loadG (P := Try.prog) sz_22 ag_22 g55
                refine DWp.region fun K hK => ?_
                simp [-aBin', -aBin, -aBinI, -aUn, -aNil, -flatV, n_fn, b_add, b_sub, b_mul, b_lt, b_le, b_gt, b_ge, b_eq, b_ne, u_not, e3_0, e3_3, e3_4, e3_6, e3_14, e3_15, e3_19, e3_20, e3_21, e3_29, e3_30, e3_31, q56, q57]
                apply hK
                clear hK K
                simp only [andThen, leaves]
                obtain ⟨r3, hc58, hL52⟩ := bd_some hL52
                refine DWp.region fun K hK => ?_
                simp [-aBin', -aBin, -aBinI, -aUn, -aNil, -flatV, n_fn, b_add, b_sub, b_mul, b_lt, b_le, b_gt, b_ge, b_eq, b_ne, u_not, e3_0, e3_3, e3_4, e3_6, e3_14, e3_15, e3_19, e3_20, e3_21, e3_29, e3_30, e3_31, (((S3_.rd (k := 1) rfl).rowAt [] g40).tup)]
                refine CallD.t (F_impl_covered_w (fu := fu) ((S3_.rd (k := 1) rfl).rowAt [] g40) hc58) ?_
                rintro c59_u0 G60 ⟨a63, _, rfl, S64⟩
                have A62 := A3_.ext (hB.le A3_.1) a63.agree
                have S61 : Sep G60 (Fr H) [rowsC w3_0 22 3 D3_0 (List.map ints l3_0), rowsC c29_u0 22 3 c29_C0 (List.map ints r1), rowsC c44_u0 22 3 c44_C0 (List.map ints r2), flat c59_u0 3 (ints r3)] := S3_.app a63.agree S64 (fun _ h => h) (hB.le A3_.1)
                obtain ⟨r4, hc65, hL52⟩ := bd_some hL52
                simp [-aBin', -aBin, -aBinI, -aUn, -aNil, -flatV, n_fn, b_add, b_sub, b_mul, b_lt, b_le, b_gt, b_ge, b_eq, b_ne, u_not, e3_0, e3_3, e3_4, e3_6, e3_14, e3_15, e3_19, e3_20, e3_21, e3_29, e3_30, e3_31, a63.pre, ((S61.sl (k := 3) rfl).tup), (((S61.rd (k := 2) rfl).rowAt [] g55).tup)]
                refine CallD.t (F_impl_joined_w (fu := fu) (S61.sl (k := 3) rfl) ((S61.rd (k := 2) rfl).rowAt [] g55) hc65) ?_
                rintro c66_u0 G67 ⟨a70, _, rfl, S71⟩
                have A69 := A62.ext (hB.le A62.1) a70.agree
                have S68 : Sep G67 (Fr H) [rowsC w3_0 22 3 D3_0 (List.map ints l3_0), rowsC c29_u0 22 3 c29_C0 (List.map ints r1), rowsC c44_u0 22 3 c44_C0 (List.map ints r2), flat c59_u0 3 (ints r3), flat c66_u0 3 (ints r4)] := S61.app a70.agree S71 (fun _ h => h) (hB.le A62.1)
                obtain ⟨v72, G73, q74, S75, a77, _, _⟩ := S68.lit1 (P := Try.prog) (t := 36) (hB.le A69.1) el_36 ei_22 rfl c66_u0 ((S68.sl (k := 4) rfl).tup) ((S68.sl (k := 4) rfl).one)
                have A76 := A69.ext (hB.le A69.1) a77
                replace S75 : Sep G73 (Fr H) [rowsC w3_0 22 3 D3_0 (List.map ints l3_0), rowsC c29_u0 22 3 c29_C0 (List.map ints r1), rowsC c44_u0 22 3 c44_C0 (List.map ints r2), flat c59_u0 3 (ints r3), flat c66_u0 3 (ints r4), flat1 v72 22 [c66_u0]] := S75
                obtain ⟨g78, hL52⟩ := gd_some hL52
                obtain ⟨v84, G79, q80, S81, a83, q80t, _⟩ := S75.pushRow (u := w3_0) (fr := ints) (X := l3_0) (y := r4) (P := Try.prog) (t := 36) (t2 := 36) (j := 0) (k := 4) (by decide) rfl rfl (hB.le A76.1) el_36 el_36 ei_22 rfl (S75.sl1 (k := 5) rfl) g78
                have A82 := A76.trans a83
                replace S81 : Sep G79 (Fr H) [rowsC v84 22 3 (D3_0 ++ [c66_u0]) (List.map ints (lapp l3_0 [r4])), rowsC c29_u0 22 3 c29_C0 (List.map ints r1), rowsC c44_u0 22 3 c44_C0 (List.map ints r2), flat c59_u0 3 (ints r3), emp, flat1 v72 22 [c66_u0]] := S81
                simp [-aBin', -aBin, -aBinI, -aUn, -aNil, -flatV, n_fn, b_add, b_sub, b_mul, b_lt, b_le, b_gt, b_ge, b_eq, b_ne, u_not, e3_0, e3_3, e3_4, e3_6, e3_14, e3_15, e3_19, e3_20, e3_21, e3_29, e3_30, e3_31, a63.pre, a70.pre, q74, a77.to_pre, ((S68.sl (k := 4) rfl).tup), q80, q80t]
                apply hK
                clear hK K
                simp only [andThen, leaves]
                refine DWp.region fun K hK => ?_
                simp [-aBin', -aBin, -aBinI, -aUn, -aNil, -flatV, n_fn, b_add, b_sub, b_mul, b_lt, b_le, b_gt, b_ge, b_eq, b_ne, u_not, e3_0, e3_3, e3_4, e3_6, e3_14, e3_15, e3_19, e3_20, e3_21, e3_29, e3_30, e3_31]
                apply hK
                clear hK K
                simp only [andThen, leaves]
                have S85 := S81.pick [0, 1, 2] (by decide) rfl
                exact ⟨n3, Nat.lt_succ_self _, (lapp l3_0 [r4]), (iadd .i64 y3_31 1), v84, (D3_0 ++ [c66_u0]), hL52, S85, A82, by simp [e3_0, e3_3, e3_4, e3_6, e3_14, e3_15, e3_19, e3_20, e3_21, e3_29, e3_30, e3_31], by simp [e3_0, e3_3, e3_4, e3_6, e3_14, e3_15, e3_19, e3_20, e3_21, e3_29, e3_30, e3_31], by simp [e3_0, e3_3, e3_4, e3_6, e3_14, e3_15, e3_19, e3_20, e3_21, e3_29, e3_30, e3_31], by simp [e3_0, e3_3, e3_4, e3_6, e3_14, e3_15, e3_19, e3_20, e3_21, e3_29, e3_30, e3_31], by simp [e3_0, e3_3, e3_4, e3_6, e3_14, e3_15, e3_19, e3_20, e3_21, e3_29, e3_30, e3_31], by simp [e3_0, e3_3, e3_4, e3_6, e3_14, e3_15, e3_19, e3_20, e3_21, e3_29, e3_30, e3_31], by simp [e3_0, e3_3, e3_4, e3_6, e3_14, e3_15, e3_19, e3_20, e3_21, e3_29, e3_30, e3_31], by simp [e3_0, e3_3, e3_4, e3_6, e3_14, e3_15, e3_19, e3_20, e3_21, e3_29, e3_30, e3_31], by simp [e3_0, e3_3, e3_4, e3_6, e3_14, e3_15, e3_19, e3_20, e3_21, e3_29, e3_30, e3_31], by simp [e3_0, e3_3, e3_4, e3_6, e3_14, e3_15, e3_19, e3_20, e3_21, e3_29, e3_30, e3_31], by simp [e3_0, e3_3, e3_4, e3_6, e3_14, e3_15, e3_19, e3_20, e3_21, e3_29, e3_30, e3_31], by simp [e3_0, e3_3, e3_4, e3_6, e3_14, e3_15, e3_19, e3_20, e3_21, e3_29, e3_30, e3_31]⟩
              · replace hL52 := cd_f hb54 hL52
                refine DWp.exit ?_
                simp only [andThen, leaves, if_true, if_false, reduceIte, Nat.reduceEqDiff]
                obtain rfl := Option.some.inj hL52
                try dsimp only at hL37
                refine DWp.region fun K hK => ?_
                simp [-aBin', -aBin, -aBinI, -aUn, -aNil, -flatV, n_fn, b_add, b_sub, b_mul, b_lt, b_le, b_gt, b_ge, b_eq, b_ne, u_not, e3_0, e3_3, e3_4, e3_6, e3_14, e3_15, e3_19, e3_20, e3_21, e3_29, e3_30, e3_31]
                apply hK
                clear hK K
                simp only [andThen, leaves]
                have S86 := S3_.pick [0, 1] (by decide) rfl
                exact ⟨n2, Nat.lt_succ_self _, l3_0, (iadd .i64 y2_21 1), w3_0, D3_0, hL37, S86, A3_, by simp [e3_0, e3_3, e3_4, e3_6, e3_14, e3_15, e3_19, e3_20, e3_21, e3_29, e3_30, e3_31], by simp [e3_0, e3_3, e3_4, e3_6, e3_14, e3_15, e3_19, e3_20, e3_21, e3_29, e3_30, e3_31], by simp [e3_0, e3_3, e3_4, e3_6, e3_14, e3_15, e3_19, e3_20, e3_21, e3_29, e3_30, e3_31], by simp [e3_0, e3_3, e3_4, e3_6, e3_14, e3_15, e3_19, e3_20, e3_21, e3_29, e3_30, e3_31], by simp [e3_0, e3_3, e3_4, e3_6, e3_14, e3_15, e3_19, e3_20, e3_21, e3_29, e3_30, e3_31], by simp [e3_0, e3_3, e3_4, e3_6, e3_14, e3_15, e3_19, e3_20, e3_21, e3_29, e3_30, e3_31], by simp [e3_0, e3_3, e3_4, e3_6, e3_14, e3_15, e3_19, e3_20, e3_21, e3_29, e3_30, e3_31], by simp [e3_0, e3_3, e3_4, e3_6, e3_14, e3_15, e3_19, e3_20, e3_21, e3_29, e3_30, e3_31]⟩
          · replace hL37 := cd_f hb39 hL37
            refine DWp.exit ?_
            simp only [andThen, leaves, if_true, if_false, reduceIte, Nat.reduceEqDiff]
            obtain rfl := Option.some.inj hL37
            try dsimp only at hL25
            refine DWp.region fun K hK => ?_
            simp [-aBin', -aBin, -aBinI, -aUn, -aNil, -flatV, n_fn, b_add, b_sub, b_mul, b_lt, b_le, b_gt, b_ge, b_eq, b_ne, u_not, e2_0, e2_3, e2_4, e2_14, e2_15, e2_19, e2_20, e2_21]
            apply hK
            clear hK K
            simp only [andThen, leaves]
            have S87 := S2_.pick [0] (by decide) rfl
            exact ⟨n1, Nat.lt_succ_self _, l2_0, (iadd .i64 y1_15 1), w2_0, D2_0, hL25, S87, A2_, by simp [e2_0, e2_3, e2_4, e2_14, e2_15, e2_19, e2_20, e2_21], by simp [e2_0, e2_3, e2_4, e2_14, e2_15, e2_19, e2_20, e2_21], by simp [e2_0, e2_3, e2_4, e2_14, e2_15, e2_19, e2_20, e2_21], by simp [e2_0, e2_3, e2_4, e2_14, e2_15, e2_19, e2_20, e2_21]⟩
      · replace hL25 := cd_f hb27 hL25
        refine DWp.exit ?_
        simp only [andThen, leaves, if_true, if_false, reduceIte, Nat.reduceEqDiff]
        obtain rfl := Option.some.inj hL25
        try dsimp only at hF
        refine DWp.seq ?_
        obtain ⟨r5, hc89, hF⟩ := bd_some hF
        refine DWp.region fun K hK => ?_
        simp [-aBin', -aBin, -aBinI, -aUn, -aNil, -flatV, n_fn, b_add, b_sub, b_mul, b_lt, b_le, b_gt, b_ge, b_eq, b_ne, u_not, e1_0, e1_3, e1_14, e1_15, ((S1_.rd (k := 0) rfl).tup)]
        have S90 : Sep G1_ (Fr H) ([rowsC w1_0 22 3 D1_0 (List.map ints l1_0)] ++ []) := S1_.pick [0] (by decide) rfl
        obtain ⟨B96, S91, U92, M93, R94, C95⟩ := S90.frame (hB.le A1_.1)
        refine CallD.t (F_slices_SortFunc_SSint_w (fu := fu) U92 S91 (fun G_ a_ v0 v1 y0 y1 q_ hy0 hy1 hq_ => F_slices_Compare_Sint_w (fu := fu) hy0 hy1 hq_) hc89) ?_
        rintro _ G98 ⟨a101, c97_Cz0, rfl, S102⟩
        have A100 := A1_.trans (a101.mono M93)
        have S99 : Sep G98 (Fr H) [rowsC w1_0 22 3 c97_Cz0 (List.map ints r5)] := C95 _ _ a101 S102
        simp [-aBin', -aBin, -aBinI, -aUn, -aNil, -flatV, n_fn, b_add, b_sub, b_mul, b_lt, b_le, b_gt, b_ge, b_eq, b_ne, u_not, e1_0, e1_3, e1_14, e1_15]
        apply hK
        clear hK K
        simp only [andThen, leaves]
        refine DWp.seq ?_
        refine DWp.region fun K hK => ?_
        simp [-aBin', -aBin, -aBinI, -aUn, -aNil, -flatV, n_fn, b_add, b_sub, b_mul, b_lt, b_le, b_gt, b_ge, b_eq, b_ne, u_not, e1_0, e1_3, e1_14, e1_15]
        apply hK
        clear hK K
        simp only [andThen, leaves]
        refine DWp.ret ?_
        obtain rfl := Option.some.inj hF
        exact ⟨by simp, [w1_0], by simp [e1_0, e1_3, e1_14, e1_15, ((S99.rd (k := 0) rfl).tup)], A100, w1_0, c97_Cz0, rfl, S99.pick [0] (by decide) rfl⟩
def F_impl_pairs_L2 (fu : Nat) (k2_0 : Int) (k2_1 : List Int) (k2_2 : List (List Int)) (k2_3 : Int) (k2_4 : Int) (k2_5 : List (List Int)) (k2_6 : Int) : Nat → List (List Int × List Int) → Int → Option (List (List Int × List Int) × Int)
  | 0, _, _ => none
  | n + 1, l2_0, y2_19 =>
    bif (ilt y2_19 k2_6) then
      gd (inL k2_5 y2_19) (
      gd (k2_5.length ≤ 4294967296) (
      bd (F_slices_Clone_Sint fu k2_1) fun r3 =>
      gd (l2_0.length + 1 ≤ 4294967296) (
      F_impl_pairs_L2 fu k2_0 k2_1 k2_2 k2_3 k2_4 k2_5 k2_6 n (lapp l2_0 [(r3, (gat [] k2_5 y2_19))]) (iadd .i64 y2_19 1))))
    else
      some (l2_0, y2_19)
def F_impl_pairs_L1 (fu : Nat) (k1_0 : Int) (k1_1 : List (List Int)) (k1_2 : Int) : Nat → List (List Int × List Int) → Int → Option (List (List Int × List Int) × Int)
  | 0, _, _ => none
  | n + 1, l1_0, y1_12 =>
    bif (ilt y1_12 k1_2) then
      gd (inL k1_1 y1_12) (
      gd (k1_1.length ≤ 4294967296) (
      bd (F_impl_systems fu k1_0) fun r2 =>
      bd (F_impl_pairs_L2 fu k1_0 (gat [] k1_1 y1_12) k1_1 k1_2 y1_12 r2 (llen r2) fu l1_0 0) fun s2 =>
      F_impl_pairs_L1 fu k1_0 k1_1 k1_2 n s2.1 (iadd .i64 y1_12 1)))
    else
      some (l1_0, y1_12)
def F_impl_pairs (fu : Nat) (x0 : Int) : Option (List (List Int × List Int)) :=
  bd (F_impl_systems fu x0) fun r1 =>
  bd (F_impl_pairs_L1 fu x0 r1 (llen r1) fu (@List.nil (List Int × List Int)) 0) fun s1 =>
  some s1.1
theorem F_impl_pairs_w {fu : Nat} {H : AH}  {x0 : Int} {r : (List (List Int × List Int))}  (hF : F_impl_pairs fu x0 = some r) :
    ACallT Try.prog 118 [(Value.int .i64 x0)] H (fun u G => AgB (Fr H) H G ∧ ∃ u0 : Value, ∃ C0 : List Value, u = u0 ∧ Sep G (Fr H) [rowsP u0 28 3 C0 r]) := by
  refine ACallT.of_body (nt := 33) (rs := [.tmp 2]) Try.func118 rfl rfl rfl rfl ?_
  have A0 : AgB (Fr H) H H := .refl _ _
  have S0 : Sep H (Fr H) [] := .nil
  have hB := Fr.up H
  unfold F_impl_pairs at hF
  refine DWp.seq ?_
  refine DWp.region fun K hK => ?_
  simp [-aBin', -aBin, -aBinI, -aUn, -aNil, -flatV, n_fn, b_add, b_sub, b_mul, b_lt, b_le, b_gt, b_ge, b_eq, b_ne, u_not]
  apply hK
  clear hK K
  simp only [andThen, leaves]
  refine DWp.seq ?_
  obtain ⟨v1, G2, q3, S4, a6, _, _⟩ := S0.litP0 (P := Try.prog) (t := 46) (hB.le A0.1) 3 el_46 ei_28 rfl
  have A5 := A0.ext (hB.le A0.1) a6
  replace S4 : Sep G2 (Fr H) [rowsP v1 28 3 [] (@List.nil (List Int × List Int))] := S4
  refine DWp.region fun K hK => ?_
  simp [-aBin', -aBin, -aBinI, -aUn, -aNil, -flatV, n_fn, b_add, b_sub, b_mul, b_lt, b_le, b_gt, b_ge, b_eq, b_ne, u_not, q3, a6.to_pre]
  apply hK
  clear hK K
  simp only [andThen, leaves]
  refine DWp.seq ?_
  refine DWp.seq ?_
  obtain ⟨r1, hc7, hF⟩ := bd_some hF
  refine DWp.region fun K hK => ?_
  simp [-aBin', -aBin, -aBinI, -aUn, -aNil, -flatV, n_fn, b_add, b_sub, b_mul, b_lt, b_le, b_gt, b_ge, b_eq, b_ne, u_not]
  refine CallD.t (F_impl_systems_w (fu := fu)  hc7) ?_
  rintro c8_u0 G9 ⟨a12, _, c8_C0, rfl, S13⟩
  have A11 := A5.ext (hB.le A5.1) a12.agree
  have S10 : Sep G9 (Fr H) [rowsP v1 28 3 [] (@List.nil (List Int × List Int)), rowsC c8_u0 22 3 c8_C0 (List.map ints r1)] := S4.app a12.agree S13 (fun _ h => h) (hB.le A5.1)
  have q14 := (S10.rd (k := 1) rfl).lenG (P := Try.prog) el_36
  simp [-aBin', -aBin, -aBinI, -aUn, -aNil, -flatV, n_fn, b_add, b_sub, b_mul, b_lt, b_le, b_gt, b_ge, b_eq, b_ne, u_not, a12.pre, q14]
  apply hK
  clear hK K
  simp only [andThen, leaves]
  refine DWp.block ?_
  have S15 : Sep G9 (Fr H) [rowsP v1 28 3 [] (@List.nil (List Int × List Int)), rowsT c8_u0 22 3 c8_C0 (List.map ints r1) 0] := S10.toT (kk := 1) rfl
  obtain ⟨s16, hL17, hF⟩ := bd_some hF
  have S18 := S15.pick [0, 1] (by decide) rfl
  refine DWp.loop (fun n env G => ∃ l1_0 : List (List Int × List Int), ∃ y1_12 : Int, ∃ w1_0 : Value, ∃ D1_0 : List Value, F_impl_pairs_L1 fu x0 r1 (llen r1) n l1_0 y1_12 = some s16 ∧ Sep G (Fr H) [rowsP w1_0 28 3 D1_0 l1_0, rowsT c8_u0 22 3 c8_C0 (List.map ints r1) y1_12] ∧ AgB (Fr H) H G ∧ env 0 = some (Value.int .i64 x0) ∧ env 3 = some w1_0 ∧ env 10 = some c8_u0 ∧ env 11 = some (Value.int .i64 (llen r1)) ∧ env 12 = some (Value.int .i64 y1_12)) fu ⟨(@List.nil (List Int × List Int)), 0, v1, [], hL17, S18, A11, by simp [], by simp [], by simp [], by simp [], by simp []⟩ ?_
  rintro n1 env1 G1_ ⟨l1_0, y1_12, w1_0, D1_0, hL17, S1_, A1_, e1_0, e1_3, e1_10, e1_11, e1_12⟩
  cases n1 with
  | zero => cases hL17
  | succ n1 =>
    simp only [F_impl_pairs_L1] at hL17
    refine DWp.seq ?_
    refine DWp.region fun K hK => ?_
    simp [-aBin', -aBin, -aBinI, -aUn, -aNil, -flatV, n_fn, b_add, b_sub, b_mul, b_lt, b_le, b_gt, b_ge, b_eq, b_ne, u_not, e1_0, e1_3, e1_10, e1_11, e1_12]
    apply hK
    clear hK K
    simp only [andThen, leaves]
    refine DWp.seq ?_
    refine DWp.cond' (t := (ilt y1_12 (llen r1))) (by simp [e1_0, e1_3, e1_10, e1_11, e1_12]) (fun hb19 => ?_) (fun hb19 => ?_)
    · replace hL17 := cd_t hb19 hL17
      refine DWp.skip ?_
      simp only [andThen, leaves]
      refine DWp.seq ?_
      refine DWp.block ?_
      refine DWp.seq ?_
      obtain ⟨g20, hL17⟩ := gd_some hL17
      have q21 := S1_.idxT (P := Try.prog) (ki := .i64) (kk := 1) rfl el_36 sz_22 g20
      have q23 := S1_.loadT (P := Try.prog) (kk := 1) rfl sz_22 ag_22 g20
      obtain ⟨g24, hL17⟩ := gd_some hL17
      have S25 : Sep G1_ (Fr H) [rowsP w1_0 28 3 D1_0 l1_0, rowsT c8_u0 22 3 c8_C0 (List.map ints r1) (iadd .i64 y1_12 1), flat (gat nilV c8_C0 y1_12) 3 (ints (gat [] r1 y1_12))] := S1_.takeT (fr := ints) (kk := 1) rfl [] g20 g24
      refine DWp.region fun K hK => ?_
      simp [-aBin', -aBin, -aBinI, -aUn, -aNil, -flatV, n_fn, b_add, b_sub, b_mul, b_lt, b_le, b_gt, b_ge, b_eq, b_ne, u_not, e1_0, e1_3, e1_10, e1_11, e1_12, q21, q23]
      apply hK
      clear hK K
      simp only [andThen, leaves]
      refine DWp.seq ?_
      obtain ⟨r2, hc26, hL17⟩ := bd_some hL17
      refine DWp.region fun K hK => ?_
      simp [-aBin', -aBin, -aBinI, -aUn, -aNil, -flatV, n_fn, b_add, b_sub, b_mul, b_lt, b_le, b_gt, b_ge, b_eq, b_ne, u_not, e1_0, e1_3, e1_10, e1_11, e1_12]
      refine CallD.t (F_impl_systems_w (fu := fu)  hc26) ?_
      rintro c27_u0 G28 ⟨a31, _, c27_C0, rfl, S32⟩
      have A30 := A1_.ext (hB.le A1_.1) a31.agree
      have S29 : Sep G28 (Fr H) [rowsP w1_0 28 3 D1_0 l1_0, rowsT c8_u0 22 3 c8_C0 (List.map ints r1) (iadd .i64 y1_12 1), flat (gat nilV c8_C0 y1_12) 3 (ints (gat [] r1 y1_12)), rowsC c27_u0 22 3 c27_C0 (List.map ints r2)] := S25.app a31.agree S32 (fun _ h => h) (hB.le A1_.1)
      have q33 := (S29.rd (k := 3) rfl).lenG (P := Try.prog) el_36
      simp [-aBin', -aBin, -aBinI, -aUn, -aNil, -flatV, n_fn, b_add, b_sub, b_mul, b_lt, b_le, b_gt, b_ge, b_eq, b_ne, u_not, e1_0, e1_3, e1_10, e1_11, e1_12, a31.pre, q33]
      apply hK
      clear hK K
      simp only [andThen, leaves]
      refine DWp.block ?_
      have S34 : Sep G28 (Fr H) [rowsP w1_0 28 3 D1_0 l1_0, rowsT c8_u0 22 3 c8_C0 (List.map ints r1) (iadd .i64 y1_12 1), flat (gat nilV c8_C0 y1_12) 3 (ints (gat [] r1 y1_12)), rowsT c27_u0 22 3 c27_C0 (List.map ints r2) 0] := S29.toT (kk := 3) rfl
      obtain ⟨s35, hL36, hL17⟩ := bd_some hL17
      have S37 := S34.pick [0, 2, 1, 3] (by decide) rfl
      refine DWp.loop (fun n env G => ∃ l2_0 : List (List Int × List Int), ∃ y2_19 : Int, ∃ w2_0 : Value, ∃ D2_0 : List Value, F_impl_pairs_L2 fu x0 (gat [] r1 y1_12) r1 (llen r1) y1_12 r2 (llen r2) n l2_0 y2_19 = some s35 ∧ Sep G (Fr H) [rowsP w2_0 28 3 D2_0 l2_0, flat (gat nilV c8_C0 y1_12) 3 (ints (gat [] r1 y1_12)), rowsT c8_u0 22 3 c8_C0 (List.map ints r1) (iadd .i64 y1_12 1), rowsT c27_u0 22 3 c27_C0 (List.map ints r2) y2_19] ∧ AgB (Fr H) H G ∧ env 0 = some (Value.int .i64 x0) ∧ env 3 = some w2_0 ∧ env 5 = some (gat nilV c8_C0 y1_12) ∧ env 10 = some c8_u0 ∧ env 11 = some (Value.int .i64 (llen r1)) ∧ env 12 = some (Value.int .i64 y1_12) ∧ env 17 = some c27_u0 ∧ env 18 = some (Value.int .i64 (llen r2)) ∧ env 19 = some (Value.int .i64 y2_19)) fu ⟨l1_0, 0, w1_0, D1_0, hL36, S37, A30, by simp [e1_0, e1_3, e1_10, e1_11, e1_12], by simp [e1_0, e1_3, e1_10, e1_11, e1_12], by simp [e1_0, e1_3, e1_10, e1_11, e1_12], by simp [e1_0, e1_3, e1_10, e1_11, e1_12], by simp [e1_0, e1_3, e1_10, e1_11, e1_12], by simp [e1_0, e1_3, e1_10, e1_11, e1_12], by simp [e1_0, e1_3, e1_10, e1_11, e1_12], by simp [e1_0, e1_3, e1_10, e1_11, e1_12], by simp [e1_0, e1_3, e1_10, e1_11, e1_12]⟩ ?_
      rintro n2 env2 G2_ ⟨l2_0, y2_19, w2_0, D2_0, hL36, S2_, A2_, e2_0, e2_3, e2_5, e2_10, e2_11, e2_12, e2_17, e2_18, e2_19⟩
      cases n2 with
      | zero => cases hL36
      | succ n2 =>
        simp only [F_impl_pairs_L2] at hL36
        refine DWp.seq ?_
        refine DWp.region fun K hK => ?_
        simp [-aBin', -aBin, -aBinI, -aUn, -aNil, -flatV, n_fn, b_add, b_sub, b_mul, b_lt, b_le, b_gt, b_ge, b_eq, b_ne, u_not, e2_0, e2_3, e2_5, e2_10, e2_11, e2_12, e2_17, e2_18, e2_19]
        apply hK
        clear hK K
        simp only [andThen, leaves]
        refine DWp.seq ?_
        refine DWp.cond' (t := (ilt y2_19 (llen r2))) (by simp [e2_0, e2_3, e2_5, e2_10, e2_11, e2_12, e2_17, e2_18, e2_19]) (fun hb38 => ?_) (fun hb38 => ?_)
        · replace hL36 := cd_t hb38 hL36
          refine DWp.skip ?_
          simp only [andThen, leaves]
          refine DWp.seq ?_
          refine DWp.block ?_
          refine DWp.seq ?_
          obtain ⟨g39, hL36⟩ := gd_some hL36
          have q40 := S2_.idxT (P := Try.prog) (ki := .i64) (kk := 3) rfl el_36 sz_22 g39
          have q42 := S2_.loadT (P := Try.prog) (kk := 3) rfl sz_22 ag_22 g39
          obtain ⟨g43, hL36⟩ := gd_some hL36
          have S44 : Sep G2_ (Fr H) [rowsP w2_0 28 3 D2_0 l2_0, flat (gat nilV c8_C0 y1_12) 3 (ints (gat [] r1 y1_12)), rowsT c8_u0 22 3 c8_C0 (List.map ints r1) (iadd .i64 y1_12 1), rowsT c27_u0 22 3 c27_C0 (List.map ints r2) (iadd .i64 y2_19 1), flat (gat nilV c27_C0 y2_19) 3 (ints (gat [] r2 y2_19))] := S2_.takeT (fr := ints) (kk := 3) rfl [] g39 g43
          refine DWp.region fun K hK => ?_
          simp [-aBin', -aBin, -aBinI, -aUn, -aNil, -flatV, n_fn, b_add, b_sub, b_mul, b_lt, b_le, b_gt, b_ge, b_eq, b_ne, u_not, e2_0, e2_3, e2_5, e2_10, e2_11, e2_12, e2_17, e2_18, e2_19, q40, q42]
          apply hK
          clear hK K
          simp only [andThen, leaves]
          obtain ⟨r3, hc45, hL36⟩ := bd_some hL36
          refine DWp.region fun K hK => ?_
          simp [-aBin', -aBin, -aBinI, -aUn, -aNil, -flatV, n_fn, b_add, b_sub, b_mul, b_lt, b_le, b_gt, b_ge, b_eq, b_ne, u_not, e2_0, e2_3, e2_5, e2_10, e2_11, e2_12, e2_17, e2_18, e2_19, ((S44.sl (k := 1) rfl).tup)]
          refine CallD.t (F_slices_Clone_Sint_w (fu := fu) (S44.sl (k := 1) rfl) hc45) ?_
          rintro c46_u0 G47 ⟨a50, _, rfl, S51⟩
          have A49 := A2_.ext (hB.le A2_.1) a50.agree
          have S48 : Sep G47 (Fr H) [rowsP w2_0 28 3 D2_0 l2_0, flat (gat nilV c8_C0 y1_12) 3 (ints (gat [] r1 y1_12)), rowsT c8_u0 22 3 c8_C0 (List.map ints r1) (iadd .i64 y1_12 1), rowsT c27_u0 22 3 c27_C0 (List.map ints r2) (iadd .i64 y2_19 1), flat (gat nilV c27_C0 y2_19) 3 (ints (gat [] r2 y2_19)), flat c46_u0 3 (ints r3)] := S44.app a50.agree S51 (fun _ h => h) (hB.le A2_.1)
          obtain ⟨v52, G53, q54, S55, a57, _, _⟩ := S48.litP1 (P := Try.prog) (t := 46) (hB.le A49.1) el_46 ei_28 rfl c46_u0 (gat nilV c27_C0 y2_19)
          have A56 := A49.ext (hB.le A49.1) a57
          replace S55 : Sep G53 (Fr H) [rowsP w2_0 28 3 D2_0 l2_0, flat (gat nilV c8_C0 y1_12) 3 (ints (gat [] r1 y1_12)), rowsT c8_u0 22 3 c8_C0 (List.map ints r1) (iadd .i64 y1_12 1), rowsT c27_u0 22 3 c27_C0 (List.map ints r2) (iadd .i64 y2_19 1), flat (gat nilV c27_C0 y2_19) 3 (ints (gat [] r2 y2_19)), flat c46_u0 3 (ints r3), flatK 2 v52 28 1 [c46_u0, (gat nilV c27_C0 y2_19)]] := S55
          obtain ⟨g58, hL36⟩ := gd_some hL36
          obtain ⟨v64, G59, q60, S61, a63, q60t, _⟩ := S55.pushP (u := w2_0) (X := l2_0) (a := r3) (b := (gat [] r2 y2_19)) (P := Try.prog) (t := 46) (t2 := 46) (j := 0) (k1 := 5) (k2 := 4) (by decide) (by decide) (by decide) rfl rfl rfl (hB.le A56.1) el_46 el_46 ei_28 rfl (S55.flatKSl (k := 6) rfl) g58
          have A62 := A56.trans a63
          replace S61 : Sep G59 (Fr H) [rowsP v64 28 3 (D2_0 ++ [c46_u0, (gat nilV c27_C0 y2_19)]) (lapp l2_0 [(r3, (gat [] r2 y2_19))]), flat (gat nilV c8_C0 y1_12) 3 (ints (gat [] r1 y1_12)), rowsT c8_u0 22 3 c8_C0 (List.map ints r1) (iadd .i64 y1_12 1), rowsT c27_u0 22 3 c27_C0 (List.map ints r2) (iadd .i64 y2_19 1), emp, emp, flatK 2 v52 28 1 [c46_u0, (gat nilV c27_C0 y2_19)]] := S61
          simp [-aBin', -aBin, -aBinI, -aUn, -aNil, -flatV, n_fn, b_add, b_sub, b_mul, b_lt, b_le, b_gt, b_ge, b_eq, b_ne, u_not, e2_0, e2_3, e2_5, e2_10, e2_11, e2_12, e2_17, e2_18, e2_19, a50.pre, bu_28 ((S48.sl (k := 5) rfl).tup) ((S48.sl (k := 5) rfl).one) ((S48.sl (k := 4) rfl).tup) ((S48.sl (k := 4) rfl).one), q54, a57.to_pre, ((S48.sl (k := 5) rfl).tup), ((S48.sl (k := 4) rfl).tup), q60, q60t]
          apply hK
          clear hK K
          simp only [andThen, leaves]
          refine DWp.region fun K hK => ?_
          simp [-aBin', -aBin, -aBinI, -aUn, -aNil, -flatV, n_fn, b_add, b_sub, b_mul, b_lt, b_le, b_gt, b_ge, b_eq, b_ne, u_not, e2_0, e2_3, e2_5, e2_10, e2_11, e2_12, e2_17, e2_18, e2_19]
          apply hK
          clear hK K
          simp only [andThen, leaves]
          have S65 := S61.pick [0, 1, 2, 3] (by decide) rfl
          exact ⟨n2, Nat.lt_succ_self _, (lapp l2_0 [(r3, (gat [] r2 y2_19))]), (iadd .i64 y2_19 1), v64, (D2_0 ++ [c46_u0, (gat nilV c27_C0 y2_19)]), hL36, S65, A62, by simp [e2_0, e2_3, e2_5, e2_10, e2_11, e2_12, e2_17, e2_18, e2_19], by simp [e2_0, e2_3, e2_5, e2_10, e2_11, e2_12, e2_17, e2_18, e2_19], by simp [e2_0, e2_3, e2_5, e2_10, e2_11, e2_12, e2_17, e2_18, e2_19], by simp [e2_0, e2_3, e2_5, e2_10, e2_11, e2_12, e2_17, e2_18, e2_19], by simp [e2_0, e2_3, e2_5, e2_10, e2_11, e2_12, e2_17, e2_18, e2_19], by simp [e2_0, e2_3, e2_5, e2_10, e2_11, e2_12, e2_17, e2_18, e2_19], by simp [e2_0, e2_3, e2_5, e2_10, e2_11, e2_12, e2_17, e2_18, e2_19], by simp [e2_0, e2_3, e2_5, e2_10, e2_11, e2_12, e2_17, e2_18, e2_19], by simp [e2_0, e2_3, e2_5, e2_10, e2_11, e2_12, e2_17, e2_18, e2_19]⟩
        · replace hL36 := cd_f hb38 hL36
          refine DWp.exit ?_
          simp only [andThen, leaves, if_true, if_false, reduceIte, Nat.reduceEqDiff]
          obtain rfl := Option.some.inj hL36
          try dsimp only at hL17
          refine DWp.region fun K hK => ?_
          simp [-aBin', -aBin, -aBinI, -aUn, -aNil, -flatV, n_fn, b_add, b_sub, b_mul, b_lt, b_le, b_gt, b_ge, b_eq, b_ne, u_not, e2_0, e2_3, e2_5, e2_10, e2_11, e2_12, e2_17, e2_18, e2_19]
          apply hK
          clear hK K
          simp only [andThen, leaves]
          have S66 := S2_.pick [0, 2] (by decide) rfl
          exact ⟨n1, Nat.lt_succ_self _, l2_0, (iadd .i64 y1_12 1), w2_0, D2_0, hL17, S66, A2_, by simp [e2_0, e2_3, e2_5, e2_10, e2_11, e2_12, e2_17, e2_18, e2_19], by simp [e2_0, e2_3, e2_5, e2_10, e2_11, e2_12, e2_17, e2_18, e2_19], by simp [e2_0, e2_3, e2_5, e2_10, e2_11, e2_12, e2_17, e2_18, e2_19], by simp [e2_0, e2_3, e2_5, e2_10, e2_11, e2_12, e2_17, e2_18, e2_19], by simp [e2_0, e2_3, e2_5, e2_10, e2_11, e2_12, e2_17, e2_18, e2_19]⟩
    · replace hL17 := cd_f hb19 hL17
      refine DWp.exit ?_
      simp only [andThen, leaves, if_true, if_false, reduceIte, Nat.reduceEqDiff]
      obtain rfl := Option.some.inj hL17
      try dsimp only at hF
      refine DWp.seq ?_
      refine DWp.region fun K hK => ?_
      simp [-aBin', -aBin, -aBinI, -aUn, -aNil, -flatV, n_fn, b_add, b_sub, b_mul, b_lt, b_le, b_gt, b_ge, b_eq, b_ne, u_not, e1_0, e1_3, e1_10, e1_11, e1_12]
      apply hK
      clear hK K
      simp only [andThen, leaves]
      refine DWp.ret ?_
      obtain rfl := Option.some.inj hF
      exact ⟨by simp, [w1_0], by simp [e1_0, e1_3, e1_10, e1_11, e1_12, ((S1_.rdP (k := 0) rfl).tup)], A1_, w1_0, D1_0, rfl, S1_.pick [0] (by decide) rfl⟩
end Go.Proofs.Ytbckijeffiofdaa.AL

/- The walks of functions, each with its Lean function: impl.systems, impl.BetweenSystems$1, slices.IndexFunc[[][]int,[]int], slices.DeleteFunc[[][]int,[]int], impl.BetweenSystems, laws.eqIntS, laws.eqIntSS, laws.markIntS, laws.markIntSS, laws.heldIntS. No condition. -/
import Derived.Test.YtdghlhdpcmemjaaFBD
import Derived.Test.YtdghlhdpcmemjaaG1
import Derived.Test.YtdghlhdpcmemjaaG2
import Derived.Test.YtdghlhdpcmemjaaG3
import Derived.Test.YtdghlhdpcmemjaaALD
import Derived.Test.YtdghlhdpcmemjaaProg
import Derived.KernelRfl
namespace Go.Proofs.Ytdghlhdpcmemjaa.AL
open Go Go.RowKit
set_option linter.unusedVariables false
set_option linter.unusedSimpArgs false
set_option maxRecDepth 4096

def F_impl_systems_L3 (fu : Nat) (self_ : Int → Option (List (List Int))) (k3_0 : Int) (k3_1 : Int) (k3_2 : List Int) (k3_3 : List (List Int)) (k3_4 : Int) (k3_5 : Int) (k3_6 : List (List Int)) (k3_7 : Int) : Nat → List (List Int) → Int → Option (List (List Int) × Int)
  | 0, _, _ => none
  | n + 1, l3_0, y3_31 =>
    bif (ilt y3_31 k3_7) then
      gd (inL k3_6 y3_31) (
      bd (F_impl_covered fu k3_2) fun r3 =>
      bd (F_impl_joined fu r3 (gat [] k3_6 y3_31)) fun r4 =>
      gd (l3_0.length + 1 ≤ 4294967296) (
      F_impl_systems_L3 fu self_ k3_0 k3_1 k3_2 k3_3 k3_4 k3_5 k3_6 k3_7 n (lapp l3_0 [r4]) (iadd .i64 y3_31 1)))
    else
      some (l3_0, y3_31)
def F_impl_systems_L2 (fu : Nat) (self_ : Int → Option (List (List Int))) (k2_0 : Int) (k2_1 : Int) (k2_2 : List (List Int)) (k2_3 : Int) : Nat → List (List Int) → Int → Option (List (List Int) × Int)
  | 0, _, _ => none
  | n + 1, l2_0, y2_21 =>
    bif (ilt y2_21 k2_3) then
      gd (inL k2_2 y2_21) (
      bd (self_ (isub .i64 (isub .i64 k2_0 1) k2_1)) fun r2 =>
      bd (F_impl_systems_L3 fu self_ k2_0 k2_1 (gat [] k2_2 y2_21) k2_2 k2_3 y2_21 r2 (llen r2) fu l2_0 0) fun s3 =>
      F_impl_systems_L2 fu self_ k2_0 k2_1 k2_2 k2_3 n s3.1 (iadd .i64 y2_21 1))
    else
      some (l2_0, y2_21)
def F_impl_systems_L1 (fu : Nat) (self_ : Int → Option (List (List Int))) (k1_0 : Int) : Nat → List (List Int) → Int → Option (List (List Int) × Int)
  | 0, _, _ => none
  | n + 1, l1_0, y1_15 =>
    bif (ilt y1_15 k1_0) then
      bd (self_ y1_15) fun r1 =>
      bd (F_impl_systems_L2 fu self_ k1_0 y1_15 r1 (llen r1) fu l1_0 0) fun s2 =>
      F_impl_systems_L1 fu self_ k1_0 n s2.1 (iadd .i64 y1_15 1)
    else
      some (l1_0, y1_15)
def F_impl_systems : Nat → Int → Option (List (List Int))
  | 0, _ => none
  | fu + 1, x0 =>
    bif (ieq x0 0) then
      some [(@List.nil Int)]
    else
      bd (F_impl_systems_L1 fu (F_impl_systems fu) x0 fu [] 0) fun s1 =>
      bd (F_slices_SortFunc_SSint fu s1.1 (fun y0 y1 => F_slices_Compare_Sint fu y0 y1)) fun r5 =>
      some r5
theorem F_impl_systems_w : ∀ {fu : Nat} {H : AH}  {x0 : Int} {r : (List (List Int))}  (hF : F_impl_systems fu x0 = some r),
    ACallT Try.prog 78 [(Value.int .i64 x0)] H (fun u G => AgB (Fr H) H G ∧ ∃ u0 : Value, ∃ C0 : List Value, u = u0 ∧ Sep G (Fr H) [rowsC u0 22 3 C0 (List.map ints r)]) := by
  intro fu
  induction fu with
  | zero => intros; rename_i hF; cases hF
  | succ fu ih =>
  intro H  x0 r  hF
  simp only [F_impl_systems] at hF
  refine ACallT.of_body (nt := 48) (rs := [.tmp 2]) Try.func78 rfl rfl rfl rfl ?_
  have A0 : AgB (Fr H) H H := .refl _ _
  have S0 : Sep H (Fr H) [] := .nil
  have hB := Fr.up H
  refine DWp.seq ?_
  refine DWp.region fun K hK => ?_
  simp [-aBin', -aBin, -aBinI, -aUn, -aNil, -flatV, n_fn, b_add, b_sub, b_mul, b_lt, b_le, b_gt, b_ge, b_eq, b_ne, u_not]
  apply hK
  clear hK K
  simp only [andThen, leaves]
  refine DWp.seq ?_
  refine DWp.seq ?_
  refine DWp.region fun K hK => ?_
  simp [-aBin', -aBin, -aBinI, -aUn, -aNil, -flatV, n_fn, b_add, b_sub, b_mul, b_lt, b_le, b_gt, b_ge, b_eq, b_ne, u_not]
  apply hK
  clear hK K
  simp only [andThen, leaves]
  refine DWp.cond' (t := (ieq x0 0)) (by simp []) (fun hb1 => ?_) (fun hb1 => ?_)
  · replace hF := cd_t hb1 hF
    refine DWp.seq ?_
    obtain ⟨v2, G3, q4, S5, a7, _, _⟩ := S0.lit0 (P := Try.prog) (t := 22) (hB.le A0.1) el_22 ei_3 rfl
    have A6 := A0.ext (hB.le A0.1) a7
    replace S5 : Sep G3 (Fr H) [flat1 v2 3 (ints (@List.nil Int))] := S5
    obtain ⟨v9, G10, q11, S12, a14, _, _⟩ := S5.lit1 (P := Try.prog) (t := 23) (hB.le A6.1) el_23 ei_22 rfl v2 ((S5.sl1 (k := 0) rfl).tup) ((S5.sl1 (k := 0) rfl).one)
    have A13 := A6.ext (hB.le A6.1) a14
    replace S12 : Sep G10 (Fr H) [flat1 v2 3 (ints (@List.nil Int)), flat1 v9 22 [v2]] := S12
    refine DWp.region fun K hK => ?_
    simp [-aBin', -aBin, -aBinI, -aUn, -aNil, -flatV, n_fn, b_add, b_sub, b_mul, b_lt, b_le, b_gt, b_ge, b_eq, b_ne, u_not, q4, a7.to_pre, q11, a14.to_pre, ((S5.sl1 (k := 0) rfl).tup)]
    apply hK
    clear hK K
    simp only [andThen, leaves]
    refine DWp.ret ?_
    simp only [andThen, leaves]
    have S15 := S12.weak (k := 0) rfl
    have S16 : Sep G10 (Fr H) [emp, rowsC v9 22 3 [v2] (List.map ints [(@List.nil Int)])] := S15.rowsOf1 (j := 1) (k := 0) (by decide) rfl rfl
    obtain rfl := Option.some.inj hF
    exact ⟨by simp, [v9], by simp [((S16.rd (k := 1) rfl).tup)], A13, v9, [v2], rfl, S16.pick [1] (by decide) rfl⟩
  · replace hF := cd_f hb1 hF
    refine DWp.skip ?_
    simp only [andThen, leaves]
    refine DWp.seq ?_
    obtain ⟨v17, G18, q19, S20, a22, _, _⟩ := S0.lit0 (P := Try.prog) (t := 23) (hB.le A0.1) el_23 ei_22 rfl
    have A21 := A0.ext (hB.le A0.1) a22
    replace S20 : Sep G18 (Fr H) [flat1 v17 22 []] := S20
    have S23 : Sep G18 (Fr H) [rowsC v17 22 3 [] (List.map ints [])] := S20.rowsOf0 (k := 0) rfl 3
    refine DWp.region fun K hK => ?_
    simp [-aBin', -aBin, -aBinI, -aUn, -aNil, -flatV, n_fn, b_add, b_sub, b_mul, b_lt, b_le, b_gt, b_ge, b_eq, b_ne, u_not, q19, a22.to_pre]
    apply hK
    clear hK K
    simp only [andThen, leaves]
    refine DWp.seq ?_
    refine DWp.seq ?_
    refine DWp.region fun K hK => ?_
    simp [-aBin', -aBin, -aBinI, -aUn, -aNil, -flatV, n_fn, b_add, b_sub, b_mul, b_lt, b_le, b_gt, b_ge, b_eq, b_ne, u_not]
    apply hK
    clear hK K
    simp only [andThen, leaves]
    refine DWp.block ?_
    obtain ⟨s24, hL25, hF⟩ := bd_some hF
    have S26 := S23.pick [0] (by decide) rfl
    refine DWp.loop (fun n env G => ∃ l1_0 : List (List Int), ∃ y1_15 : Int, ∃ w1_0 : Value, ∃ D1_0 : List Value, F_impl_systems_L1 fu (F_impl_systems fu) x0 n l1_0 y1_15 = some s24 ∧ Sep G (Fr H) [rowsC w1_0 22 3 D1_0 (List.map ints l1_0)] ∧ AgB (Fr H) H G ∧ env 0 = some (Value.int .i64 x0) ∧ env 3 = some w1_0 ∧ env 14 = some (Value.int .i64 x0) ∧ env 15 = some (Value.int .i64 y1_15)) fu ⟨[], 0, v17, [], hL25, S26, A21, by simp [], by simp [], by simp [], by simp []⟩ ?_
    rintro n1 env1 G1_ ⟨l1_0, y1_15, w1_0, D1_0, hL25, S1_, A1_, e1_0, e1_3, e1_14, e1_15⟩
    cases n1 with
    | zero => cases hL25
    | succ n1 =>
      simp only [F_impl_systems_L1] at hL25
      refine DWp.seq ?_
      refine DWp.region fun K hK => ?_
      simp [-aBin', -aBin, -aBinI, -aUn, -aNil, -flatV, n_fn, b_add, b_sub, b_mul, b_lt, b_le, b_gt, b_ge, b_eq, b_ne, u_not, e1_0, e1_3, e1_14, e1_15]
      apply hK
      clear hK K
      simp only [andThen, leaves]
      refine DWp.seq ?_
      refine DWp.cond' (t := (ilt y1_15 x0)) (by simp [e1_0, e1_3, e1_14, e1_15]) (fun hb27 => ?_) (fun hb27 => ?_)
      · replace hL25 := cd_t hb27 hL25
        refine DWp.skip ?_
        simp only [andThen, leaves]
        refine DWp.seq ?_
        refine DWp.block ?_
        refine DWp.seq ?_
        refine DWp.region fun K hK => ?_
        simp [-aBin', -aBin, -aBinI, -aUn, -aNil, -flatV, n_fn, b_add, b_sub, b_mul, b_lt, b_le, b_gt, b_ge, b_eq, b_ne, u_not, e1_0, e1_3, e1_14, e1_15]
        apply hK
        clear hK K
        simp only [andThen, leaves]
        refine DWp.seq ?_
        obtain ⟨r1, hc28, hL25⟩ := bd_some hL25
        refine DWp.region fun K hK => ?_
        simp [-aBin', -aBin, -aBinI, -aUn, -aNil, -flatV, n_fn, b_add, b_sub, b_mul, b_lt, b_le, b_gt, b_ge, b_eq, b_ne, u_not, e1_0, e1_3, e1_14, e1_15]
        refine CallD.t (ih  hc28) ?_
        rintro c29_u0 G30 ⟨a33, _, c29_C0, rfl, S34⟩
        have A32 := A1_.ext (hB.le A1_.1) a33.agree
        have S31 : Sep G30 (Fr H) [rowsC w1_0 22 3 D1_0 (List.map ints l1_0), rowsC c29_u0 22 3 c29_C0 (List.map ints r1)] := S1_.app a33.agree S34 (fun _ h => h) (hB.le A1_.1)
        have q35 := (S31.rd (k := 1) rfl).lenG (P := Try.prog) el_23
        simp [-aBin', -aBin, -aBinI, -aUn, -aNil, -flatV, n_fn, b_add, b_sub, b_mul, b_lt, b_le, b_gt, b_ge, b_eq, b_ne, u_not, e1_0, e1_3, e1_14, e1_15, a33.pre, q35]
        apply hK
        clear hK K
        simp only [andThen, leaves]
        refine DWp.block ?_
        obtain ⟨s36, hL37, hL25⟩ := bd_some hL25
        have S38 := S31.pick [0, 1] (by decide) rfl
        refine DWp.loop (fun n env G => ∃ l2_0 : List (List Int), ∃ y2_21 : Int, ∃ w2_0 : Value, ∃ D2_0 : List Value, F_impl_systems_L2 fu (F_impl_systems fu) x0 y1_15 r1 (llen r1) n l2_0 y2_21 = some s36 ∧ Sep G (Fr H) [rowsC w2_0 22 3 D2_0 (List.map ints l2_0), rowsC c29_u0 22 3 c29_C0 (List.map ints r1)] ∧ AgB (Fr H) H G ∧ env 0 = some (Value.int .i64 x0) ∧ env 3 = some w2_0 ∧ env 4 = some (Value.int .i64 y1_15) ∧ env 14 = some (Value.int .i64 x0) ∧ env 15 = some (Value.int .i64 y1_15) ∧ env 19 = some c29_u0 ∧ env 20 = some (Value.int .i64 (llen r1)) ∧ env 21 = some (Value.int .i64 y2_21)) fu ⟨l1_0, 0, w1_0, D1_0, hL37, S38, A32, by simp [e1_0, e1_3, e1_14, e1_15], by simp [e1_0, e1_3, e1_14, e1_15], by simp [e1_0, e1_3, e1_14, e1_15], by simp [e1_0, e1_3, e1_14, e1_15], by simp [e1_0, e1_3, e1_14, e1_15], by simp [e1_0, e1_3, e1_14, e1_15], by simp [e1_0, e1_3, e1_14, e1_15], by simp [e1_0, e1_3, e1_14, e1_15]⟩ ?_
        rintro n2 env2 G2_ ⟨l2_0, y2_21, w2_0, D2_0, hL37, S2_, A2_, e2_0, e2_3, e2_4, e2_14, e2_15, e2_19, e2_20, e2_21⟩
        cases n2 with
        | zero => cases hL37
        | succ n2 =>
          simp only [F_impl_systems_L2] at hL37
          refine DWp.seq ?_
          refine DWp.region fun K hK => ?_
          simp [-aBin', -aBin, -aBinI, -aUn, -aNil, -flatV, n_fn, b_add, b_sub, b_mul, b_lt, b_le, b_gt, b_ge, b_eq, b_ne, u_not, e2_0, e2_3, e2_4, e2_14, e2_15, e2_19, e2_20, e2_21]
          apply hK
          clear hK K
          simp only [andThen, leaves]
          refine DWp.seq ?_
          refine DWp.cond' (t := (ilt y2_21 (llen r1))) (by simp [e2_0, e2_3, e2_4, e2_14, e2_15, e2_19, e2_20, e2_21]) (fun hb39 => ?_) (fun hb39 => ?_)
          · replace hL37 := cd_t hb39 hL37
            refine DWp.skip ?_
            simp only [andThen, leaves]
            refine DWp.seq ?_
            refine DWp.block ?_
            refine DWp.seq ?_
            obtain ⟨g40, hL37⟩ := gd_some hL37
            have q41 := (S2_.rd (k := 1) rfl).idxG (P := Try.prog) (kk := .i64) el_23 sz_22 g40
            have q42 := (S2_.rd (k := 1) rfl).loadG (P := Try.prog) sz_22 ag_22 g40
            refine DWp.region fun K hK => ?_
            simp [-aBin', -aBin, -aBinI, -aUn, -aNil, -flatV, n_fn, b_add, b_sub, b_mul, b_lt, b_le, b_gt, b_ge, b_eq, b_ne, u_not, e2_0, e2_3, e2_4, e2_14, e2_15, e2_19, e2_20, e2_21, q41, q42]
            apply hK
            clear hK K
            simp only [andThen, leaves]
            refine DWp.seq ?_
            obtain ⟨r2, hc43, hL37⟩ := bd_some hL37
            refine DWp.region fun K hK => ?_
            simp [-aBin', -aBin, -aBinI, -aUn, -aNil, -flatV, n_fn, b_add, b_sub, b_mul, b_lt, b_le, b_gt, b_ge, b_eq, b_ne, u_not, e2_0, e2_3, e2_4, e2_14, e2_15, e2_19, e2_20, e2_21]
            refine CallD.t (ih  hc43) ?_
            rintro c44_u0 G45 ⟨a48, _, c44_C0, rfl, S49⟩
            have A47 := A2_.ext (hB.le A2_.1) a48.agree
            have S46 : Sep G45 (Fr H) [rowsC w2_0 22 3 D2_0 (List.map ints l2_0), rowsC c29_u0 22 3 c29_C0 (List.map ints r1), rowsC c44_u0 22 3 c44_C0 (List.map ints r2)] := S2_.app a48.agree S49 (fun _ h => h) (hB.le A2_.1)
            have q50 := (S46.rd (k := 2) rfl).lenG (P := Try.prog) el_23
            simp [-aBin', -aBin, -aBinI, -aUn, -aNil, -flatV, n_fn, b_add, b_sub, b_mul, b_lt, b_le, b_gt, b_ge, b_eq, b_ne, u_not, e2_0, e2_3, e2_4, e2_14, e2_15, e2_19, e2_20, e2_21, a48.pre, q50]
            apply hK
            clear hK K
            simp only [andThen, leaves]
            refine DWp.block ?_
            obtain ⟨s51, hL52, hL37⟩ := bd_some hL37
            have S53 := S46.pick [0, 1, 2] (by decide) rfl
            refine DWp.loop (fun n env G => ∃ l3_0 : List (List Int), ∃ y3_31 : Int, ∃ w3_0 : Value, ∃ D3_0 : List Value, F_impl_systems_L3 fu (F_impl_systems fu) x0 y1_15 (gat [] r1 y2_21) r1 (llen r1) y2_21 r2 (llen r2) n l3_0 y3_31 = some s51 ∧ Sep G (Fr H) [rowsC w3_0 22 3 D3_0 (List.map ints l3_0), rowsC c29_u0 22 3 c29_C0 (List.map ints r1), rowsC c44_u0 22 3 c44_C0 (List.map ints r2)] ∧ AgB (Fr H) H G ∧ env 0 = some (Value.int .i64 x0) ∧ env 3 = some w3_0 ∧ env 4 = some (Value.int .i64 y1_15) ∧ env 6 = some (gat nilV c29_C0 y2_21) ∧ env 14 = some (Value.int .i64 x0) ∧ env 15 = some (Value.int .i64 y1_15) ∧ env 19 = some c29_u0 ∧ env 20 = some (Value.int .i64 (llen r1)) ∧ env 21 = some (Value.int .i64 y2_21) ∧ env 29 = some c44_u0 ∧ env 30 = some (Value.int .i64 (llen r2)) ∧ env 31 = some (Value.int .i64 y3_31)) fu ⟨l2_0, 0, w2_0, D2_0, hL52, S53, A47, by simp [e2_0, e2_3, e2_4, e2_14, e2_15, e2_19, e2_20, e2_21], by simp [e2_0, e2_3, e2_4, e2_14, e2_15, e2_19, e2_20, e2_21], by simp [e2_0, e2_3, e2_4, e2_14, e2_15, e2_19, e2_20, e2_21], by simp [e2_0, e2_3, e2_4, e2_14, e2_15, e2_19, e2_20, e2_21], by simp [e2_0, e2_3, e2_4, e2_14, e2_15, e2_19, e2_20, e2_21], by simp [e2_0, e2_3, e2_4, e2_14, e2_15, e2_19, e2_20, e2_21], by simp [e2_0, e2_3, e2_4, e2_14, e2_15, e2_19, e2_20, e2_21], by simp [e2_0, e2_3, e2_4, e2_14, e2_15, e2_19, e2_20, e2_21], by simp [e2_0, e2_3, e2_4, e2_14, e2_15, e2_19, e2_20, e2_21], by simp [e2_0, e2_3, e2_4, e2_14, e2_15, e2_19, e2_20, e2_21], by simp [e2_0, e2_3, e2_4, e2_14, e2_15, e2_19, e2_20, e2_21], by simp [e2_0, e2_3, e2_4, e2_14, e2_15, e2_19, e2_20, e2_21]⟩ ?_
            rintro n3 env3 G3_ ⟨l3_0, y3_31, w3_0, D3_0, hL52, S3_, A3_, e3_0, e3_3, e3_4, e3_6, e3_14, e3_15, e3_19, e3_20, e3_21, e3_29, e3_30, e3_31⟩
            cases n3 with
            | zero => cases hL52
            | succ n3 =>
              simp only [F_impl_systems_L3] at hL52
              refine DWp.seq ?_
              refine DWp.region fun K hK => ?_
              simp [-aBin', -aBin, -aBinI, -aUn, -aNil, -flatV, n_fn, b_add, b_sub, b_mul, b_lt, b_le, b_gt, b_ge, b_eq, b_ne, u_not, e3_0, e3_3, e3_4, e3_6, e3_14, e3_15, e3_19, e3_20, e3_21, e3_29, e3_30, e3_31]
              apply hK
              clear hK K
              simp only [andThen, leaves]
              refine DWp.seq ?_
              refine DWp.cond' (t := (ilt y3_31 (llen r2))) (by simp [e3_0, e3_3, e3_4, e3_6, e3_14, e3_15, e3_19, e3_20, e3_21, e3_29, e3_30, e3_31]) (fun hb54 => ?_) (fun hb54 => ?_)
              · replace hL52 := cd_t hb54 hL52
                refine DWp.skip ?_
                simp only [andThen, leaves]
                refine DWp.seq ?_
                refine DWp.block ?_
                refine DWp.seq ?_
                obtain ⟨g55, hL52⟩ := gd_some hL52
                have q56 := (S3_.rd (k := 2) rfl).idxG (P := Try.prog) (kk := .i64) el_23 sz_22 g55
                have q57 := (S3_.rd (k := 2) rfl).loadG (P := Try.prog) sz_22 ag_22 g55
                refine DWp.region fun K hK => ?_
                simp [-aBin', -aBin, -aBinI, -aUn, -aNil, -flatV, n_fn, b_add, b_sub, b_mul, b_lt, b_le, b_gt, b_ge, b_eq, b_ne, u_not, e3_0, e3_3, e3_4, e3_6, e3_14, e3_15, e3_19, e3_20, e3_21, e3_29, e3_30, e3_31, q56, q57]
                apply hK
                clear hK K
                simp only [andThen, leaves]
                obtain ⟨r3, hc58, hL52⟩ := bd_some hL52
                refine DWp.region fun K hK => ?_
                simp [-aBin', -aBin, -aBinI, -aUn, -aNil, -flatV, n_fn, b_add, b_sub, b_mul, b_lt, b_le, b_gt, b_ge, b_eq, b_ne, u_not, e3_0, e3_3, e3_4, e3_6, e3_14, e3_15, e3_19, e3_20, e3_21, e3_29, e3_30, e3_31, (((S3_.rd (k := 1) rfl).rowAt [] g40).tup)]
                refine CallD.t (F_impl_covered_w (fu := fu) ((S3_.rd (k := 1) rfl).rowAt [] g40) hc58) ?_
                rintro c59_u0 G60 ⟨a63, _, rfl, S64⟩
                have A62 := A3_.ext (hB.le A3_.1) a63.agree
                have S61 : Sep G60 (Fr H) [rowsC w3_0 22 3 D3_0 (List.map ints l3_0), rowsC c29_u0 22 3 c29_C0 (List.map ints r1), rowsC c44_u0 22 3 c44_C0 (List.map ints r2), flat c59_u0 3 (ints r3)] := S3_.app a63.agree S64 (fun _ h => h) (hB.le A3_.1)
                obtain ⟨r4, hc65, hL52⟩ := bd_some hL52
                simp [-aBin', -aBin, -aBinI, -aUn, -aNil, -flatV, n_fn, b_add, b_sub, b_mul, b_lt, b_le, b_gt, b_ge, b_eq, b_ne, u_not, e3_0, e3_3, e3_4, e3_6, e3_14, e3_15, e3_19, e3_20, e3_21, e3_29, e3_30, e3_31, a63.pre, ((S61.sl (k := 3) rfl).tup), (((S61.rd (k := 2) rfl).rowAt [] g55).tup)]
                refine CallD.t (F_impl_joined_w (fu := fu) (S61.sl (k := 3) rfl) ((S61.rd (k := 2) rfl).rowAt [] g55) hc65) ?_
                rintro c66_u0 G67 ⟨a70, _, rfl, S71⟩
                have A69 := A62.ext (hB.le A62.1) a70.agree
                have S68 : Sep G67 (Fr H) [rowsC w3_0 22 3 D3_0 (List.map ints l3_0), rowsC c29_u0 22 3 c29_C0 (List.map ints r1), rowsC c44_u0 22 3 c44_C0 (List.map ints r2), flat c59_u0 3 (ints r3), flat c66_u0 3 (ints r4)] := S61.app a70.agree S71 (fun _ h => h) (hB.le A62.1)
                obtain ⟨v72, G73, q74, S75, a77, _, _⟩ := S68.lit1 (P := Try.prog) (t := 23) (hB.le A69.1) el_23 ei_22 rfl c66_u0 ((S68.sl (k := 4) rfl).tup) ((S68.sl (k := 4) rfl).one)
                have A76 := A69.ext (hB.le A69.1) a77
                replace S75 : Sep G73 (Fr H) [rowsC w3_0 22 3 D3_0 (List.map ints l3_0), rowsC c29_u0 22 3 c29_C0 (List.map ints r1), rowsC c44_u0 22 3 c44_C0 (List.map ints r2), flat c59_u0 3 (ints r3), flat c66_u0 3 (ints r4), flat1 v72 22 [c66_u0]] := S75
                obtain ⟨g78, hL52⟩ := gd_some hL52
                obtain ⟨v84, G79, q80, S81, a83, q80t, _⟩ := S75.pushRow (u := w3_0) (fr := ints) (X := l3_0) (y := r4) (P := Try.prog) (t := 23) (t2 := 23) (j := 0) (k := 4) (by decide) rfl rfl (hB.le A76.1) el_23 el_23 ei_22 rfl (S75.sl1 (k := 5) rfl) g78
                have A82 := A76.trans a83
                replace S81 : Sep G79 (Fr H) [rowsC v84 22 3 (D3_0 ++ [c66_u0]) (List.map ints (lapp l3_0 [r4])), rowsC c29_u0 22 3 c29_C0 (List.map ints r1), rowsC c44_u0 22 3 c44_C0 (List.map ints r2), flat c59_u0 3 (ints r3), emp, flat1 v72 22 [c66_u0]] := S81
                simp [-aBin', -aBin, -aBinI, -aUn, -aNil, -flatV, n_fn, b_add, b_sub, b_mul, b_lt, b_le, b_gt, b_ge, b_eq, b_ne, u_not, e3_0, e3_3, e3_4, e3_6, e3_14, e3_15, e3_19, e3_20, e3_21, e3_29, e3_30, e3_31, a63.pre, a70.pre, q74, a77.to_pre, ((S68.sl (k := 4) rfl).tup), q80, q80t]
                apply hK
                clear hK K
                simp only [andThen, leaves]
                refine DWp.region fun K hK => ?_
                simp [-aBin', -aBin, -aBinI, -aUn, -aNil, -flatV, n_fn, b_add, b_sub, b_mul, b_lt, b_le, b_gt, b_ge, b_eq, b_ne, u_not, e3_0, e3_3, e3_4, e3_6, e3_14, e3_15, e3_19, e3_20, e3_21, e3_29, e3_30, e3_31]
                apply hK
                clear hK K
                simp only [andThen, leaves]
                have S85 := S81.pick [0, 1, 2] (by decide) rfl
                exact ⟨n3, Nat.lt_succ_self _, (lapp l3_0 [r4]), (iadd .i64 y3_31 1), v84, (D3_0 ++ [c66_u0]), hL52, S85, A82, by simp [e3_0, e3_3, e3_4, e3_6, e3_14, e3_15, e3_19, e3_20, e3_21, e3_29, e3_30, e3_31], by simp [e3_0, e3_3, e3_4, e3_6, e3_14, e3_15, e3_19, e3_20, e3_21, e3_29, e3_30, e3_31], by simp [e3_0, e3_3, e3_4, e3_6, e3_14, e3_15, e3_19, e3_20, e3_21, e3_29, e3_30, e3_31], by simp [e3_0, e3_3, e3_4, e3_6, e3_14, e3_15, e3_19, e3_20, e3_21, e3_29, e3_30, e3_31], by simp [e3_0, e3_3, e3_4, e3_6, e3_14, e3_15, e3_19, e3_20, e3_21, e3_29, e3_30, e3_31], by simp [e3_0, e3_3, e3_4, e3_6, e3_14, e3_15, e3_19, e3_20, e3_21, e3_29, e3_30, e3_31], by simp [e3_0, e3_3, e3_4, e3_6, e3_14, e3_15, e3_19, e3_20, e3_21, e3_29, e3_30, e3_31], by simp [e3_0, e3_3, e3_4, e3_6, e3_14, e3_15, e3_19, e3_20, e3_21, e3_29, e3_30, e3_31], by simp [e3_0, e3_3, e3_4, e3_6, e3_14, e3_15, e3_19, e3_20, e3_21, e3_29, e3_30, e3_31], by simp [e3_0, e3_3, e3_4, e3_6, e3_14, e3_15, e3_19, e3_20, e3_21, e3_29, e3_30, e3_31], by simp [e3_0, e3_3, e3_4, e3_6, e3_14, e3_15, e3_19, e3_20, e3_21, e3_29, e3_30, e3_31], by simp [e3_0, e3_3, e3_4, e3_6, e3_14, e3_15, e3_19, e3_20, e3_21, e3_29, e3_30, e3_31]⟩
              · replace hL52 := cd_f hb54 hL52
                refine DWp.exit ?_
                simp only [andThen, leaves, if_true, if_false, reduceIte, Nat.reduceEqDiff]
                obtain rfl := Option.some.inj hL52
                try dsimp only at hL37
                refine DWp.region fun K hK => ?_
                simp [-aBin', -aBin, -aBinI, -aUn, -aNil, -flatV, n_fn, b_add, b_sub, b_mul, b_lt, b_le, b_gt, b_ge, b_eq, b_ne, u_not, e3_0, e3_3, e3_4, e3_6, e3_14, e3_15, e3_19, e3_20, e3_21, e3_29, e3_30, e3_31]
                apply hK
                clear hK K
                simp only [andThen, leaves]
                have S86 := S3_.pick [0, 1] (by decide) rfl
                exact ⟨n2, Nat.lt_succ_self _, l3_0, (iadd .i64 y2_21 1), w3_0, D3_0, hL37, S86, A3_, by simp [e3_0, e3_3, e3_4, e3_6, e3_14, e3_15, e3_19, e3_20, e3_21, e3_29, e3_30, e3_31], by simp [e3_0, e3_3, e3_4, e3_6, e3_14, e3_15, e3_19, e3_20, e3_21, e3_29, e3_30, e3_31], by simp [e3_0, e3_3, e3_4, e3_6, e3_14, e3_15, e3_19, e3_20, e3_21, e3_29, e3_30, e3_31], by simp [e3_0, e3_3, e3_4, e3_6, e3_14, e3_15, e3_19, e3_20, e3_21, e3_29, e3_30, e3_31], by simp [e3_0, e3_3, e3_4, e3_6, e3_14, e3_15, e3_19, e3_20, e3_21, e3_29, e3_30, e3_31], by simp [e3_0, e3_3, e3_4, e3_6, e3_14, e3_15, e3_19, e3_20, e3_21, e3_29, e3_30, e3_31], by simp [e3_0, e3_3, e3_4, e3_6, e3_14, e3_15, e3_19, e3_20, e3_21, e3_29, e3_30, e3_31], by simp [e3_0, e3_3, e3_4, e3_6, e3_14, e3_15, e3_19, e3_20, e3_21, e3_29, e3_30, e3_31]⟩
          · replace hL37 := cd_f hb39 hL37
            refine DWp.exit ?_
            simp only [andThen, leaves, if_true, if_false, reduceIte, Nat.reduceEqDiff]
            obtain rfl := Option.some.inj hL37
            try dsimp only at hL25
            refine DWp.region fun K hK => ?_
            simp [-aBin', -aBin, -aBinI, -aUn, -aNil, -flatV, n_fn, b_add, b_sub, b_mul, b_lt, b_le, b_gt, b_ge, b_eq, b_ne, u_not, e2_0, e2_3, e2_4, e2_14, e2_15, e2_19, e2_20, e2_21]
            apply hK
            clear hK K
            simp only [andThen, leaves]
            have S87 := S2_.pick [0] (by decide) rfl
            exact ⟨n1, Nat.lt_succ_self _, l2_0, (iadd .i64 y1_15 1), w2_0, D2_0, hL25, S87, A2_, by simp [e2_0, e2_3, e2_4, e2_14, e2_15, e2_19, e2_20, e2_21], by simp [e2_0, e2_3, e2_4, e2_14, e2_15, e2_19, e2_20, e2_21], by simp [e2_0, e2_3, e2_4, e2_14, e2_15, e2_19, e2_20, e2_21], by simp [e2_0, e2_3, e2_4, e2_14, e2_15, e2_19, e2_20, e2_21]⟩
      · replace hL25 := cd_f hb27 hL25
        refine DWp.exit ?_
        simp only [andThen, leaves, if_true, if_false, reduceIte, Nat.reduceEqDiff]
        obtain rfl := Option.some.inj hL25
        try dsimp only at hF
        refine DWp.seq ?_
        obtain ⟨r5, hc89, hF⟩ := bd_some hF
        refine DWp.region fun K hK => ?_
        simp [-aBin', -aBin, -aBinI, -aUn, -aNil, -flatV, n_fn, b_add, b_sub, b_mul, b_lt, b_le, b_gt, b_ge, b_eq, b_ne, u_not, e1_0, e1_3, e1_14, e1_15, ((S1_.rd (k := 0) rfl).tup)]
        have S90 : Sep G1_ (Fr H) ([rowsC w1_0 22 3 D1_0 (List.map ints l1_0)] ++ []) := S1_.pick [0] (by decide) rfl
        obtain ⟨B96, S91, U92, M93, R94, C95⟩ := S90.frame (hB.le A1_.1)
        refine CallD.t (F_slices_SortFunc_SSint_w (fu := fu) U92 S91 (fun G_ a_ v0 v1 y0 y1 q_ hy0 hy1 hq_ => F_slices_Compare_Sint_w (fu := fu) hy0 hy1 hq_) hc89) ?_
        rintro _ G98 ⟨a101, c97_Cz0, rfl, S102⟩
        have A100 := A1_.trans (a101.mono M93)
        have S99 : Sep G98 (Fr H) [rowsC w1_0 22 3 c97_Cz0 (List.map ints r5)] := C95 _ _ a101 S102
        simp [-aBin', -aBin, -aBinI, -aUn, -aNil, -flatV, n_fn, b_add, b_sub, b_mul, b_lt, b_le, b_gt, b_ge, b_eq, b_ne, u_not, e1_0, e1_3, e1_14, e1_15]
        apply hK
        clear hK K
        simp only [andThen, leaves]
        refine DWp.seq ?_
        refine DWp.region fun K hK => ?_
        simp [-aBin', -aBin, -aBinI, -aUn, -aNil, -flatV, n_fn, b_add, b_sub, b_mul, b_lt, b_le, b_gt, b_ge, b_eq, b_ne, u_not, e1_0, e1_3, e1_14, e1_15]
        apply hK
        clear hK K
        simp only [andThen, leaves]
        refine DWp.ret ?_
        obtain rfl := Option.some.inj hF
        exact ⟨by simp, [w1_0], by simp [e1_0, e1_3, e1_14, e1_15, ((S99.rd (k := 0) rfl).tup)], A100, w1_0, c97_Cz0, rfl, S99.pick [0] (by decide) rfl⟩
def F_impl_BetweenSystems_1 (fu : Nat) (x0 : List Int) (x1 : List Int) (x2 : List Int) : Option (Bool) :=
  bd (F_impl_distance fu x1 x0) fun r1 =>
  bd (F_impl_distance fu x0 x2) fun r2 =>
  bd (F_impl_distance fu x1 x2) fun r3 =>
  some (ine (iadd .i64 r1 r2) r3)
theorem F_impl_BetweenSystems_1_w {fu : Nat} {H : AH} {v0 : Value} {p1 : Value} {v1 : Value} {p2 : Value} {v2 : Value} {x0 : List Int} {x1 : List Int} {x2 : List Int} {r : (Bool)} (hx0 : Sl H v0 (ints x0)) (hx1 : Sl H v1 (ints x1)) (hp1 : Bx H p1 [v1]) (hx2 : Sl H v2 (ints x2)) (hp2 : Bx H p2 [v2]) (hF : F_impl_BetweenSystems_1 fu x0 x1 x2 = some r) :
    ACallT Try.prog 79 [v0, p1, p2] H (fun u G => AgB (Fr H) H G ∧ u = (Value.bool r) ∧ Sep G (Fr H) []) := by
  refine ACallT.of_body (nt := 16) (rs := [.tmp 4]) Try.func79 rfl rfl rfl rfl ?_
  have A0 : AgB (Fr H) H H := .refl _ _
  have S0 : Sep H (Fr H) [] := .nil
  have hB := Fr.up H
  unfold F_impl_BetweenSystems_1 at hF
  refine DWp.seq ?_
  refine DWp.region fun K hK => ?_
  simp [-aBin', -aBin, -aBinI, -aUn, -aNil, -flatV, n_fn, b_add, b_sub, b_mul, b_lt, b_le, b_gt, b_ge, b_eq, b_ne, u_not]
  apply hK
  clear hK K
  simp only [andThen, leaves]
  refine DWp.seq ?_
  have q1 := (hp1.agree A0.agree).load0 (P := Try.prog) sz_22 ag_22
  obtain ⟨r1, hc2, hF⟩ := bd_some hF
  refine DWp.drawn (B := [0, 0, 3, 0, 0, 31, 63, 0, 0, 447, 1023, 2047]) 12 mixed (by kernel_rfl) (by decide) fun K hK => ?_
  simp [-aBin', -aBin, -aBinI, -aUn, -aNil, -flatV, n_fn, b_add, b_sub, b_mul, b_lt, b_le, b_gt, b_ge, b_eq, b_ne, u_not, q1, ((hx1.agree A0.agree).tup), ((hx0.agree A0.agree).tup)]
  refine CallD.t (F_impl_distance_w (fu := fu) (hx1.agree A0.agree) (hx0.agree A0.agree) hc2) ?_
  rintro _ G4 ⟨a7, rfl, S8⟩
  have A6 := A0.ext (hB.le A0.1) a7.agree
  have S5 : Sep G4 (Fr H) [] := S0.app a7.agree S8 (fun _ h => h) (hB.le A0.1)
  have q9 := (hp2.agree A6.agree).load0 (P := Try.prog) sz_22 ag_22
  obtain ⟨r2, hc10, hF⟩ := bd_some hF
  simp [-aBin', -aBin, -aBinI, -aUn, -aNil, -flatV, n_fn, b_add, b_sub, b_mul, b_lt, b_le, b_gt, b_ge, b_eq, b_ne, u_not, q1, a7.pre, q9, ((hx0.agree A6.agree).tup), ((hx2.agree A6.agree).tup)]
  refine CallD.t (F_impl_distance_w (fu := fu) (hx0.agree A6.agree) (hx2.agree A6.agree) hc10) ?_
  rintro _ G12 ⟨a15, rfl, S16⟩
  have A14 := A6.ext (hB.le A6.1) a15.agree
  have S13 : Sep G12 (Fr H) [] := S5.app a15.agree S16 (fun _ h => h) (hB.le A6.1)
  have q17 := (hp1.agree A14.agree).load0 (P := Try.prog) sz_22 ag_22
  have q18 := (hp2.agree A14.agree).load0 (P := Try.prog) sz_22 ag_22
  obtain ⟨r3, hc19, hF⟩ := bd_some hF
  simp [-aBin', -aBin, -aBinI, -aUn, -aNil, -flatV, n_fn, b_add, b_sub, b_mul, b_lt, b_le, b_gt, b_ge, b_eq, b_ne, u_not, q1, a7.pre, q9, a15.pre, q17, q18, ((hx1.agree A14.agree).tup), ((hx2.agree A14.agree).tup)]
  refine CallD.t (F_impl_distance_w (fu := fu) (hx1.agree A14.agree) (hx2.agree A14.agree) hc19) ?_
  rintro _ G21 ⟨a24, rfl, S25⟩
  have A23 := A14.ext (hB.le A14.1) a24.agree
  have S22 : Sep G21 (Fr H) [] := S13.app a24.agree S25 (fun _ h => h) (hB.le A14.1)
  simp [-aBin', -aBin, -aBinI, -aUn, -aNil, -flatV, n_fn, b_add, b_sub, b_mul, b_lt, b_le, b_gt, b_ge, b_eq, b_ne, u_not, q1, a7.pre, q9, a15.pre, q17, q18, a24.pre]
  apply hK
  clear hK K
  simp only [andThen, leaves]
  refine DWp.ret ?_
  obtain rfl := Option.some.inj hF
  exact ⟨by simp, [(Value.bool (ine (iadd .i64 r1 r2) r3))], by simp [], A23, rfl, S22.pick [] (by decide) rfl⟩
def F_slices_IndexFunc_SSint_L1 (fu : Nat) (k1_0 : List (List Int)) (k1_1 : ((List Int) → Option (Bool))) (k1_2 : Int) : Nat → Int → Option (LR (Int) (Int))
  | 0, _ => none
  | n + 1, y1_8 =>
    bif (ilt y1_8 k1_2) then
      gd (inL k1_0 y1_8) (
      bd (k1_1 (gat [] k1_0 y1_8)) fun r1 =>
      bif r1 then
        some (.ret y1_8)
      else
        F_slices_IndexFunc_SSint_L1 fu k1_0 k1_1 k1_2 n (iadd .i64 y1_8 1))
    else
      some (.brk y1_8)
def F_slices_IndexFunc_SSint (fu : Nat) (x0 : List (List Int)) (x1 : (List Int) → Option (Bool)) : Option (Int) :=
  bd (F_slices_IndexFunc_SSint_L1 fu x0 x1 (llen x0) fu 0) fun s1 =>
  lr s1 fun s1 =>
  some (-1)
theorem F_slices_IndexFunc_SSint_w {fu : Nat} {H : AH} {v0 : Value} {f1 : FuncId} {c1 : List Value} {x0 : List (List Int)} {x1 : (List Int) → Option (Bool)} {r : (Int)} (hx0 : SlSl H v0 (List.map ints x0)) (hx1 : ∀ (G : AH), AgB (Fr H) H G → ∀ (v0 : Value) (y0 : List Int) (q : (Bool)), Sl G v0 (ints y0) → x1 y0 = some q → ACallT Try.prog f1 ([v0] ++ c1) G (fun u G' => AgB (Fr G) G G' ∧ u = (Value.bool q) ∧ Sep G' (Fr G) [])) (hF : F_slices_IndexFunc_SSint fu x0 x1 = some r) :
    ACallT Try.prog 105 [v0, (Value.func (.func f1) #[] c1.toArray)] H (fun u G => AgB (Fr H) H G ∧ u = (Value.int .i64 r) ∧ Sep G (Fr H) []) := by
  refine ACallT.of_body (nt := 19) (rs := [.tmp 4]) Try.func105 rfl rfl rfl rfl ?_
  have A0 : AgB (Fr H) H H := .refl _ _
  have S0 : Sep H (Fr H) [] := .nil
  have hB := Fr.up H
  unfold F_slices_IndexFunc_SSint at hF
  obtain ⟨C0, hC0⟩ := hx0.rd
  refine DWp.seq ?_
  refine DWp.region fun K hK => ?_
  simp [-aBin', -aBin, -aBinI, -aUn, -aNil, -flatV, n_fn, b_add, b_sub, b_mul, b_lt, b_le, b_gt, b_ge, b_eq, b_ne, u_not]
  apply hK
  clear hK K
  simp only [andThen, leaves]
  refine DWp.seq ?_
  refine DWp.seq ?_
  have q1 := (hC0.agree A0.agree).lenG (P := Try.prog) el_23
  refine DWp.region fun K hK => ?_
  simp [-aBin', -aBin, -aBinI, -aUn, -aNil, -flatV, n_fn, b_add, b_sub, b_mul, b_lt, b_le, b_gt, b_ge, b_eq, b_ne, u_not, q1]
  apply hK
  clear hK K
  simp only [andThen, leaves]
  refine DWp.block ?_
  obtain ⟨s2, hL3, hF⟩ := bd_some hF
  have S4 := S0.pick [] (by decide) rfl
  refine DWp.loop (fun n env G => ∃ y1_8 : Int, F_slices_IndexFunc_SSint_L1 fu x0 x1 (llen x0) n y1_8 = some s2 ∧ Sep G (Fr H) [] ∧ AgB (Fr H) H G ∧ env 0 = some v0 ∧ env 1 = some (Value.func (.func f1) #[] c1.toArray) ∧ env 7 = some (Value.int .i64 (llen x0)) ∧ env 8 = some (Value.int .i64 y1_8)) fu ⟨0, hL3, S4, A0, by simp [], by simp [], by simp [], by simp []⟩ ?_
  rintro n1 env1 G1_ ⟨y1_8, hL3, S1_, A1_, e1_0, e1_1, e1_7, e1_8⟩
  cases n1 with
  | zero => cases hL3
  | succ n1 =>
    simp only [F_slices_IndexFunc_SSint_L1] at hL3
    refine DWp.seq ?_
    refine DWp.region fun K hK => ?_
    simp [-aBin', -aBin, -aBinI, -aUn, -aNil, -flatV, n_fn, b_add, b_sub, b_mul, b_lt, b_le, b_gt, b_ge, b_eq, b_ne, u_not, e1_0, e1_1, e1_7, e1_8]
    apply hK
    clear hK K
    simp only [andThen, leaves]
    refine DWp.seq ?_
    refine DWp.cond' (t := (ilt y1_8 (llen x0))) (by simp [e1_0, e1_1, e1_7, e1_8]) (fun hb5 => ?_) (fun hb5 => ?_)
    · replace hL3 := cd_t hb5 hL3
      refine DWp.skip ?_
      simp only [andThen, leaves]
      refine DWp.seq ?_
      refine DWp.block ?_
      refine DWp.seq ?_
      refine DWp.region fun K hK => ?_
      simp [-aBin', -aBin, -aBinI, -aUn, -aNil, -flatV, n_fn, b_add, b_sub, b_mul, b_lt, b_le, b_gt, b_ge, b_eq, b_ne, u_not, e1_0, e1_1, e1_7, e1_8]
      apply hK
      clear hK K
      simp only [andThen, leaves]
      refine DWp.seq ?_
      obtain ⟨g6, hL3⟩ := gd_some hL3
      have q7 := (hC0.agree A1_.agree).idxG (P := Try.prog) (kk := .i64) el_23 sz_22 g6
      have q8 := (hC0.agree A1_.agree).loadG (P := Try.prog) sz_22 ag_22 g6
      obtain ⟨r1, hc9, hL3⟩ := bd_some hL3
      refine DWp.region fun K hK => ?_
      simp [-aBin', -aBin, -aBinI, -aUn, -aNil, -flatV, n_fn, b_add, b_sub, b_mul, b_lt, b_le, b_gt, b_ge, b_eq, b_ne, u_not, e1_0, e1_1, e1_7, e1_8, q7, q8, (((hC0.agree A1_.agree).rowAt [] g6).tup)]
      refine CallD.t (hx1 _ A1_ (gat nilV C0 y1_8) (gat [] x0 y1_8) _ ((hC0.agree A1_.agree).rowAt [] g6) hc9) ?_
      rintro _ G10 ⟨a13, rfl, S14⟩
      have A12 := A1_.ext (hB.le A1_.1) a13.agree
      have S11 : Sep G10 (Fr H) [] := S1_.agree a13.agree
      simp [-aBin', -aBin, -aBinI, -aUn, -aNil, -flatV, n_fn, b_add, b_sub, b_mul, b_lt, b_le, b_gt, b_ge, b_eq, b_ne, u_not, e1_0, e1_1, e1_7, e1_8, q7, q8, a13.pre]
      apply hK
      clear hK K
      simp only [andThen, leaves]
      refine DWp.cond' (t := r1) (by simp [e1_0, e1_1, e1_7, e1_8]) (fun hb15 => ?_) (fun hb15 => ?_)
      · replace hL3 := cd_t hb15 hL3
        refine DWp.seq ?_
        refine DWp.region fun K hK => ?_
        simp [-aBin', -aBin, -aBinI, -aUn, -aNil, -flatV, n_fn, b_add, b_sub, b_mul, b_lt, b_le, b_gt, b_ge, b_eq, b_ne, u_not, e1_0, e1_1, e1_7, e1_8]
        apply hK
        clear hK K
        simp only [andThen, leaves]
        refine DWp.ret ?_
        simp only [andThen, leaves]
        obtain rfl := Option.some.inj hL3
        simp only [lr] at hF
        obtain rfl := Option.some.inj hF
        exact ⟨by simp, [(Value.int .i64 y1_8)], by simp [e1_0, e1_1, e1_7, e1_8], A12, rfl, S11.pick [] (by decide) rfl⟩
      · replace hL3 := cd_f hb15 hL3
        refine DWp.skip ?_
        simp only [andThen, leaves]
        refine DWp.region fun K hK => ?_
        simp [-aBin', -aBin, -aBinI, -aUn, -aNil, -flatV, n_fn, b_add, b_sub, b_mul, b_lt, b_le, b_gt, b_ge, b_eq, b_ne, u_not, e1_0, e1_1, e1_7, e1_8]
        apply hK
        clear hK K
        simp only [andThen, leaves]
        have S16 := S11.pick [] (by decide) rfl
        exact ⟨n1, Nat.lt_succ_self _, (iadd .i64 y1_8 1), hL3, S16, A12, by simp [e1_0, e1_1, e1_7, e1_8], by simp [e1_0, e1_1, e1_7, e1_8], by simp [e1_0, e1_1, e1_7, e1_8], by simp [e1_0, e1_1, e1_7, e1_8]⟩
    · replace hL3 := cd_f hb5 hL3
      refine DWp.exit ?_
      simp only [andThen, leaves, if_true, if_false, reduceIte, Nat.reduceEqDiff]
      obtain rfl := Option.some.inj hL3
      simp only [lr] at hF
      refine DWp.seq ?_
      refine DWp.region fun K hK => ?_
      simp [-aBin', -aBin, -aBinI, -aUn, -aNil, -flatV, n_fn, b_add, b_sub, b_mul, b_lt, b_le, b_gt, b_ge, b_eq, b_ne, u_not, e1_0, e1_1, e1_7, e1_8]
      apply hK
      clear hK K
      simp only [andThen, leaves]
      refine DWp.ret ?_
      obtain rfl := Option.some.inj hF
      exact ⟨by simp, [(Value.int .i64 (-1))], by simp [e1_0, e1_1, e1_7, e1_8], A1_, rfl, S1_.pick [] (by decide) rfl⟩
def F_slices_DeleteFunc_SSint_L1 (fu : Nat) (k1_0 : ((List Int) → Option (Bool))) : Nat → List (List Int) → Int → Int → Option (List (List Int) × Int × Int)
  | 0, _, _, _ => none
  | n + 1, l1_0, y1_5, y1_6 =>
    bif (ilt y1_6 (llen l1_0)) then
      gd (inL l1_0 y1_6) (
      gd ((y1_5).toNat ≤ (y1_6).toNat) (
      gd (l1_0.length ≤ 4294967296) (
      bd (k1_0 (gat [] l1_0 y1_6)) fun r2 =>
      bif (bnot r2) then
        gd (inL l1_0 y1_5) (
        gd ((y1_5).toNat < ((iadd .i64 y1_6 1)).toNat ∧ l1_0.length ≤ 4294967296) (
        F_slices_DeleteFunc_SSint_L1 fu k1_0 n (lset l1_0 y1_5 (gat [] l1_0 y1_6)) (iadd .i64 y1_5 1) (iadd .i64 y1_6 1)))
      else
        F_slices_DeleteFunc_SSint_L1 fu k1_0 n l1_0 y1_5 (iadd .i64 y1_6 1))))
    else
      some (l1_0, y1_5, y1_6)
def F_slices_DeleteFunc_SSint (fu : Nat) (x0 : List (List Int)) (x1 : (List Int) → Option (Bool)) : Option (List (List Int)) :=
  bd (F_slices_IndexFunc_SSint fu x0 x1) fun r1 =>
  bif (ieq r1 (-1)) then
    some x0
  else
    bd (F_slices_DeleteFunc_SSint_L1 fu x1 fu x0 r1 (iadd .i64 r1 1)) fun s1 =>
    gd (inL s1.1 s1.2.1) (
    gd (s1.2.2 = llen s1.1) (
    gd (inL s1.1 s1.2.1) (
    some (s1.1.take (s1.2.1).toNat))))
theorem F_slices_DeleteFunc_SSint_w {fu : Nat} {H : AH} {B : Nat → Prop} {v0 : Value} {C0 : List Value} {f1 : FuncId} {c1 : List Value} {x0 : List (List Int)} {x1 : (List Int) → Option (Bool)} {r : (List (List Int))} (hB : Up B H.length) (S0 : Sep H B [rowsC v0 22 3 C0 (List.map ints x0)]) (hx1 : ∀ (G : AH), AgB B H G → ∀ (v0 : Value) (y0 : List Int) (q : (Bool)), Sl G v0 (ints y0) → x1 y0 = some q → ACallT Try.prog f1 ([v0] ++ c1) G (fun u G' => AgB (Fr G) G G' ∧ u = (Value.bool q) ∧ Sep G' (Fr G) [])) (hF : F_slices_DeleteFunc_SSint fu x0 x1 = some r) :
    ACallT Try.prog 77 [v0, (Value.func (.func f1) #[] c1.toArray)] H (fun u G => AgB B H G ∧ ∃ u0 : Value, ∃ C0 : List Value, u = u0 ∧ Sep G B [rowsC u0 22 3 C0 (List.map ints r)]) := by
  refine ACallT.of_body (nt := 42) (rs := [.tmp 4]) Try.func77 rfl rfl rfl rfl ?_
  have A0 : AgB B H H := .refl _ _
  unfold F_slices_DeleteFunc_SSint at hF
  refine DWp.seq ?_
  refine DWp.region fun K hK => ?_
  simp [-aBin', -aBin, -aBinI, -aUn, -aNil, -flatV, n_fn, b_add, b_sub, b_mul, b_lt, b_le, b_gt, b_ge, b_eq, b_ne, u_not]
  apply hK
  clear hK K
  simp only [andThen, leaves]
  refine DWp.seq ?_
  obtain ⟨r1, hc1, hF⟩ := bd_some hF
  refine DWp.region fun K hK => ?_
  simp [-aBin', -aBin, -aBinI, -aUn, -aNil, -flatV, n_fn, b_add, b_sub, b_mul, b_lt, b_le, b_gt, b_ge, b_eq, b_ne, u_not, ((S0.rd (k := 0) rfl).tup)]
  refine CallD.t (F_slices_IndexFunc_SSint_w (fu := fu) ((S0.rd (k := 0) rfl).slsl) (fun (G_ : AH) (a_ : AgB (Fr H) H G_) => hx1 G_ (A0.ext (hB.le A0.1) a_.agree)) hc1) ?_
  rintro _ G3 ⟨a6, rfl, S7⟩
  have A5 := A0.ext (hB.le A0.1) a6.agree
  have S4 : Sep G3 B [rowsC v0 22 3 C0 (List.map ints x0)] := S0.app a6.agree S7 (fun _ h => h) (hB.le A0.1)
  simp [-aBin', -aBin, -aBinI, -aUn, -aNil, -flatV, n_fn, b_add, b_sub, b_mul, b_lt, b_le, b_gt, b_ge, b_eq, b_ne, u_not, a6.pre]
  apply hK
  clear hK K
  simp only [andThen, leaves]
  refine DWp.seq ?_
  refine DWp.seq ?_
  refine DWp.region fun K hK => ?_
  simp [-aBin', -aBin, -aBinI, -aUn, -aNil, -flatV, n_fn, b_add, b_sub, b_mul, b_lt, b_le, b_gt, b_ge, b_eq, b_ne, u_not]
  apply hK
  clear hK K
  simp only [andThen, leaves]
  refine DWp.cond' (t := (ieq r1 (-1))) (by simp []) (fun hb8 => ?_) (fun hb8 => ?_)
  · replace hF := cd_t hb8 hF
    refine DWp.seq ?_
    refine DWp.region fun K hK => ?_
    simp [-aBin', -aBin, -aBinI, -aUn, -aNil, -flatV, n_fn, b_add, b_sub, b_mul, b_lt, b_le, b_gt, b_ge, b_eq, b_ne, u_not]
    apply hK
    clear hK K
    simp only [andThen, leaves]
    refine DWp.ret ?_
    simp only [andThen, leaves]
    obtain rfl := Option.some.inj hF
    exact ⟨by simp, [v0], by simp [((S4.rd (k := 0) rfl).tup)], A5, v0, C0, rfl, S4.pick [0] (by decide) rfl⟩
  · replace hF := cd_f hb8 hF
    refine DWp.skip ?_
    simp only [andThen, leaves]
    refine DWp.seq ?_
    refine DWp.seq ?_
    refine DWp.region fun K hK => ?_
    simp [-aBin', -aBin, -aBinI, -aUn, -aNil, -flatV, n_fn, b_add, b_sub, b_mul, b_lt, b_le, b_gt, b_ge, b_eq, b_ne, u_not]
    apply hK
    clear hK K
    simp only [andThen, leaves]
    refine DWp.block ?_
    have S9 : Sep G3 B [rowsD v0 22 3 C0 (List.map ints x0) r1 (iadd .i64 r1 1)] := S4.toD (kk := 0) rfl r1 (iadd .i64 r1 1)
    obtain ⟨s10, hL11, hF⟩ := bd_some hF
    have S12 := S9.pick [0] (by decide) rfl
    refine DWp.loop (fun n env G => ∃ l1_0 : List (List Int), ∃ y1_5 : Int, ∃ y1_6 : Int, ∃ D1_0 : List Value, F_slices_DeleteFunc_SSint_L1 fu x1 n l1_0 y1_5 y1_6 = some s10 ∧ Sep G B [rowsD v0 22 3 D1_0 (List.map ints l1_0) y1_5 y1_6] ∧ AgB B H G ∧ env 0 = some v0 ∧ env 1 = some (Value.func (.func f1) #[] c1.toArray) ∧ env 5 = some (Value.int .i64 y1_5) ∧ env 6 = some (Value.int .i64 y1_6)) fu ⟨x0, r1, (iadd .i64 r1 1), C0, hL11, S12, A5, by simp [], by simp [], by simp [], by simp []⟩ ?_
    rintro n1 env1 G1_ ⟨l1_0, y1_5, y1_6, D1_0, hL11, S1_, A1_, e1_0, e1_1, e1_5, e1_6⟩
    cases n1 with
    | zero => cases hL11
    | succ n1 =>
      simp only [F_slices_DeleteFunc_SSint_L1] at hL11
      refine DWp.seq ?_
      refine DWp.seq ?_
      have q13 := S1_.lenD (P := Try.prog) (kk := 0) rfl el_23
      refine DWp.region fun K hK => ?_
      simp [-aBin', -aBin, -aBinI, -aUn, -aNil, -flatV, n_fn, b_add, b_sub, b_mul, b_lt, b_le, b_gt, b_ge, b_eq, b_ne, u_not, e1_0, e1_1, e1_5, e1_6, q13]
      apply hK
      clear hK K
      simp only [andThen, leaves]
      refine DWp.cond' (t := (ilt y1_6 (llen l1_0))) (by simp [e1_0, e1_1, e1_5, e1_6]) (fun hb14 => ?_) (fun hb14 => ?_)
      · replace hL11 := cd_t hb14 hL11
        refine DWp.skip ?_
        simp only [andThen, leaves]
        refine DWp.seq ?_
        refine DWp.block ?_
        refine DWp.seq ?_
        obtain ⟨g15, hL11⟩ := gd_some hL11
        have q16 := S1_.idxD (P := Try.prog) (ki := .i64) (kk := 0) rfl el_23 sz_22 g15
        obtain ⟨g19, hL11⟩ := gd_some hL11
        have q18 := S1_.loadD (P := Try.prog) (kk := 0) rfl sz_22 ag_22 g15
        obtain ⟨g20, hL11⟩ := gd_some hL11
        have S21 : Sep G1_ B [rowsD v0 22 3 D1_0 (List.map ints l1_0) y1_5 (iadd .i64 y1_6 1), flat (gat nilV D1_0 y1_6) 3 (ints (gat [] l1_0 y1_6))] := S1_.takeD (fr := ints) (kk := 0) rfl [] g15 g20 g19
        refine DWp.region fun K hK => ?_
        simp [-aBin', -aBin, -aBinI, -aUn, -aNil, -flatV, n_fn, b_add, b_sub, b_mul, b_lt, b_le, b_gt, b_ge, b_eq, b_ne, u_not, e1_0, e1_1, e1_5, e1_6, q16, q18]
        apply hK
        clear hK K
        simp only [andThen, leaves]
        refine DWp.seq ?_
        obtain ⟨r2, hc22, hL11⟩ := bd_some hL11
        refine DWp.region fun K hK => ?_
        simp [-aBin', -aBin, -aBinI, -aUn, -aNil, -flatV, n_fn, b_add, b_sub, b_mul, b_lt, b_le, b_gt, b_ge, b_eq, b_ne, u_not, e1_0, e1_1, e1_5, e1_6, ((S21.sl (k := 1) rfl).tup)]
        refine CallD.t (hx1 _ A1_ (gat nilV D1_0 y1_6) (gat [] l1_0 y1_6) _ (S21.sl (k := 1) rfl) hc22) ?_
        rintro _ G23 ⟨a26, rfl, S27⟩
        have A25 := A1_.ext (hB.le A1_.1) a26.agree
        have S24 : Sep G23 B [rowsD v0 22 3 D1_0 (List.map ints l1_0) y1_5 (iadd .i64 y1_6 1), flat (gat nilV D1_0 y1_6) 3 (ints (gat [] l1_0 y1_6))] := S21.agree a26.agree
        simp [-aBin', -aBin, -aBinI, -aUn, -aNil, -flatV, n_fn, b_add, b_sub, b_mul, b_lt, b_le, b_gt, b_ge, b_eq, b_ne, u_not, e1_0, e1_1, e1_5, e1_6, a26.pre]
        apply hK
        clear hK K
        simp only [andThen, leaves]
        refine DWp.cond' (t := (bnot r2)) (by simp [e1_0, e1_1, e1_5, e1_6]) (fun hb28 => ?_) (fun hb28 => ?_)
        · replace hL11 := cd_t hb28 hL11
          refine DWp.seq ?_
          obtain ⟨g29, hL11⟩ := gd_some hL11
          have q30 := S24.idxD (P := Try.prog) (ki := .i64) (kk := 0) rfl el_23 sz_22 g29
          obtain ⟨g36, hL11⟩ := gd_some hL11
          obtain ⟨G31, q32, S33, a35⟩ := S24.putD (fr := ints) (P := Try.prog) (kk := 0) (k1 := 1) (xs := (gat [] l1_0 y1_6)) (by decide) rfl rfl (hB.le A25.1) sz_22 g29 g36.1 g36.2 ((S24.sl (k := 1) rfl).tup) ((S24.sl (k := 1) rfl).one)
          have A34 := A25.trans a35
          replace S33 : Sep G31 B [rowsD v0 22 3 (lset D1_0 y1_5 (gat nilV D1_0 y1_6)) (List.map ints (lset l1_0 y1_5 (gat [] l1_0 y1_6))) (iadd .i64 y1_5 1) (iadd .i64 y1_6 1), emp] := S33
          refine DWp.region fun K hK => ?_
          simp [-aBin', -aBin, -aBinI, -aUn, -aNil, -flatV, n_fn, b_add, b_sub, b_mul, b_lt, b_le, b_gt, b_ge, b_eq, b_ne, u_not, e1_0, e1_1, e1_5, e1_6, q30, q32, ((S24.sl (k := 1) rfl).tup)]
          apply hK
          clear hK K
          simp only [andThen, leaves]
          refine DWp.region fun K hK => ?_
          simp [-aBin', -aBin, -aBinI, -aUn, -aNil, -flatV, n_fn, b_add, b_sub, b_mul, b_lt, b_le, b_gt, b_ge, b_eq, b_ne, u_not, e1_0, e1_1, e1_5, e1_6]
          apply hK
          clear hK K
          simp only [andThen, leaves]
          refine DWp.region fun K hK => ?_
          simp [-aBin', -aBin, -aBinI, -aUn, -aNil, -flatV, n_fn, b_add, b_sub, b_mul, b_lt, b_le, b_gt, b_ge, b_eq, b_ne, u_not, e1_0, e1_1, e1_5, e1_6]
          apply hK
          clear hK K
          simp only [andThen, leaves]
          have S37 := S33.pick [0] (by decide) rfl
          exact ⟨n1, Nat.lt_succ_self _, (lset l1_0 y1_5 (gat [] l1_0 y1_6)), (iadd .i64 y1_5 1), (iadd .i64 y1_6 1), (lset D1_0 y1_5 (gat nilV D1_0 y1_6)), hL11, S37, A34, by simp [e1_0, e1_1, e1_5, e1_6], by simp [e1_0, e1_1, e1_5, e1_6], by simp [e1_0, e1_1, e1_5, e1_6], by simp [e1_0, e1_1, e1_5, e1_6]⟩
        · replace hL11 := cd_f hb28 hL11
          refine DWp.skip ?_
          simp only [andThen, leaves]
          refine DWp.region fun K hK => ?_
          simp [-aBin', -aBin, -aBinI, -aUn, -aNil, -flatV, n_fn, b_add, b_sub, b_mul, b_lt, b_le, b_gt, b_ge, b_eq, b_ne, u_not, e1_0, e1_1, e1_5, e1_6]
          apply hK
          clear hK K
          simp only [andThen, leaves]
          have S38 := S24.pick [0] (by decide) rfl
          exact ⟨n1, Nat.lt_succ_self _, l1_0, y1_5, (iadd .i64 y1_6 1), D1_0, hL11, S38, A25, by simp [e1_0, e1_1, e1_5, e1_6], by simp [e1_0, e1_1, e1_5, e1_6], by simp [e1_0, e1_1, e1_5, e1_6], by simp [e1_0, e1_1, e1_5, e1_6]⟩
      · replace hL11 := cd_f hb14 hL11
        refine DWp.exit ?_
        simp only [andThen, leaves, if_true, if_false, reduceIte, Nat.reduceEqDiff]
        obtain rfl := Option.some.inj hL11
        try dsimp only at hF
        refine DWp.seq ?_
        obtain ⟨g39, hF⟩ := gd_some hF
        have q40 := S1_.tailVD (P := Try.prog) (kk := 0) rfl el_23 sz_22 g39
        obtain ⟨g41, hF⟩ := gd_some hF
        obtain ⟨G42, D47, q43, S44, a46⟩ := S1_.clearD (fr := ints) (P := Try.prog) (t := 23) (kk := 0) rfl (hB.le A1_.1) el_23 ei_22 rfl g39 g41
        have A45 := A1_.trans a46
        replace S44 : Sep G42 B [rowsD v0 22 3 D47 (List.map ints l1_0) y1_5 y1_6] := S44
        refine DWp.region fun K hK => ?_
        simp [-aBin', -aBin, -aBinI, -aUn, -aNil, -flatV, n_fn, b_add, b_sub, b_mul, b_lt, b_le, b_gt, b_ge, b_eq, b_ne, u_not, e1_0, e1_1, e1_5, e1_6, q40, q43]
        apply hK
        clear hK K
        simp only [andThen, leaves]
        refine DWp.seq ?_
        obtain ⟨g48, hF⟩ := gd_some hF
        have q49 := S44.headVD (P := Try.prog) (kk := 0) rfl el_23 sz_22 g48
        have S50 : Sep G42 B [rowsC (subV v0 0 y1_5) 22 3 (D47.take (y1_5).toNat) (List.map ints (l1_0.take (y1_5).toNat))] := S44.headD (fr := ints) (kk := 0) rfl g48
        refine DWp.region fun K hK => ?_
        simp [-aBin', -aBin, -aBinI, -aUn, -aNil, -flatV, n_fn, b_add, b_sub, b_mul, b_lt, b_le, b_gt, b_ge, b_eq, b_ne, u_not, e1_0, e1_1, e1_5, e1_6, q49, ((S50.rd (k := 0) rfl).tup)]
        apply hK
        clear hK K
        simp only [andThen, leaves]
        refine DWp.ret ?_
        obtain rfl := Option.some.inj hF
        exact ⟨by simp, [(subV v0 0 y1_5)], by simp [e1_0, e1_1, e1_5, e1_6, ((S50.rd (k := 0) rfl).tup)], A45, (subV v0 0 y1_5), (D47.take (y1_5).toNat), rfl, S50.pick [0] (by decide) rfl⟩
def F_impl_BetweenSystems (fu : Nat) (x0 : List Int) (x1 : List Int) : Option (List (List Int) × Bool) :=
  bd (F_impl_isExchanged fu x0 x1) fun r1 =>
  bif (bnot r1) then
    some ([], false)
  else
    bd (F_impl_systems fu (iquo .i64 (llen x0) 2)) fun r2 =>
    bd (F_slices_DeleteFunc_SSint fu r2 (fun y0 => F_impl_BetweenSystems_1 fu y0 x0 x1)) fun r3 =>
    some (r3, true)
theorem F_impl_BetweenSystems_w {fu : Nat} {H : AH} {v0 : Value} {v1 : Value} {x0 : List Int} {x1 : List Int} {r : (List (List Int) × Bool)} (hx0 : Sl H v0 (ints x0)) (hx1 : Sl H v1 (ints x1)) (hF : F_impl_BetweenSystems fu x0 x1 = some r) :
    ACallT Try.prog 40 [v0, v1] H (fun u G => AgB (Fr H) H G ∧ ∃ u0 : Value, ∃ C0 : List Value, u = (Value.tuple #[u0, (Value.bool r.2)]) ∧ Sep G (Fr H) [rowsC u0 22 3 C0 (List.map ints r.1)]) := by
  refine ACallT.of_body (nt := 16) (rs := [.tmp 4, .tmp 5]) Try.func40 rfl rfl rfl rfl ?_
  have A0 : AgB (Fr H) H H := .refl _ _
  have S0 : Sep H (Fr H) [] := .nil
  have hB := Fr.up H
  unfold F_impl_BetweenSystems at hF
  refine DWp.seq ?_
  obtain ⟨G2, p4, q5, q6, a7, S1⟩ := S0.boxT (hB.le A0.1) 22 [v0]
  have A3 := A0.ext (hB.le A0.1) a7
  replace S1 : Sep G2 (Fr H) [AL.box p4 [v0]] := S1
  obtain ⟨G9, p11, q12, q13, a14, S8⟩ := S1.boxT (hB.le A3.1) 22 [v1]
  have A10 := A3.ext (hB.le A3.1) a14
  replace S8 : Sep G9 (Fr H) [AL.box p4 [v0], AL.box p11 [v1]] := S8
  refine DWp.region fun K hK => ?_
  simp [-aBin', -aBin, -aBinI, -aUn, -aNil, -flatV, n_fn, b_add, b_sub, b_mul, b_lt, b_le, b_gt, b_ge, b_eq, b_ne, u_not, q5, q6, a7.to_pre, ((hx0.agree A0.agree).one), ((hx0.agree A0.agree).tup), q12, q13, a14.to_pre, ((hx1.agree A3.agree).one), ((hx1.agree A3.agree).tup)]
  apply hK
  clear hK K
  simp only [andThen, leaves]
  refine DWp.seq ?_
  refine DWp.seq ?_
  have q15 := S8.load0 (P := Try.prog) (k := 0) rfl sz_22 ag_22
  have q16 := S8.load0 (P := Try.prog) (k := 1) rfl sz_22 ag_22
  obtain ⟨r1, hc17, hF⟩ := bd_some hF
  refine DWp.region fun K hK => ?_
  simp [-aBin', -aBin, -aBinI, -aUn, -aNil, -flatV, n_fn, b_add, b_sub, b_mul, b_lt, b_le, b_gt, b_ge, b_eq, b_ne, u_not, q15, q16, ((hx0.agree A10.agree).tup), ((hx1.agree A10.agree).tup)]
  refine CallD.t (F_impl_isExchanged_w (fu := fu) (hx0.agree A10.agree) (hx1.agree A10.agree) hc17) ?_
  rintro _ G19 ⟨a22, rfl, S23⟩
  have A21 := A10.ext (hB.le A10.1) a22.agree
  have S20 : Sep G19 (Fr H) [AL.box p4 [v0], AL.box p11 [v1]] := S8.app a22.agree S23 (fun _ h => h) (hB.le A10.1)
  simp [-aBin', -aBin, -aBinI, -aUn, -aNil, -flatV, n_fn, b_add, b_sub, b_mul, b_lt, b_le, b_gt, b_ge, b_eq, b_ne, u_not, q15, q16, a22.pre]
  apply hK
  clear hK K
  simp only [andThen, leaves]
  refine DWp.cond' (t := (bnot r1)) (by simp []) (fun hb24 => ?_) (fun hb24 => ?_)
  · replace hF := cd_t hb24 hF
    refine DWp.seq ?_
    refine DWp.region fun K hK => ?_
    simp [-aBin', -aBin, -aBinI, -aUn, -aNil, -flatV, n_fn, b_add, b_sub, b_mul, b_lt, b_le, b_gt, b_ge, b_eq, b_ne, u_not]
    apply hK
    clear hK K
    simp only [andThen, leaves]
    refine DWp.ret ?_
    simp only [andThen, leaves]
    have S25 := S20.rowsNil (hB.le A21.1) 22 3
    obtain rfl := Option.some.inj hF
    exact ⟨by simp, [(Value.slice none 0 0), (Value.bool false)], by simp [], A21, nilV, [], rfl, S25.pick [2] (by decide) rfl⟩
  · replace hF := cd_f hb24 hF
    refine DWp.skip ?_
    simp only [andThen, leaves]
    refine DWp.seq ?_
    have q26 := S20.load0 (P := Try.prog) (k := 0) rfl sz_22 ag_22
    have q27 := lenG (P := Try.prog) (hx0.agree A21.agree) el_22
    have g28 : (2 : Int) ≠ 0 := by decide
    obtain ⟨r2, hc29, hF⟩ := bd_some hF
    refine DWp.region fun K hK => ?_
    simp [-aBin', -aBin, -aBinI, -aUn, -aNil, -flatV, n_fn, b_add, b_sub, b_mul, b_lt, b_le, b_gt, b_ge, b_eq, b_ne, u_not, q26, q27, b_quo g28]
    refine CallD.t (F_impl_systems_w (fu := fu)  hc29) ?_
    rintro c30_u0 G31 ⟨a34, _, c30_C0, rfl, S35⟩
    have A33 := A21.ext (hB.le A21.1) a34.agree
    have S32 : Sep G31 (Fr H) [AL.box p4 [v0], AL.box p11 [v1], rowsC c30_u0 22 3 c30_C0 (List.map ints r2)] := S20.app a34.agree S35 (fun _ h => h) (hB.le A21.1)
    obtain ⟨r3, hc36, hF⟩ := bd_some hF
    simp [-aBin', -aBin, -aBinI, -aUn, -aNil, -flatV, n_fn, b_add, b_sub, b_mul, b_lt, b_le, b_gt, b_ge, b_eq, b_ne, u_not, q26, q27, b_quo g28, a34.pre, (S32.flatT (k := 0) rfl), (S32.flatT (k := 1) rfl), ((S32.rd (k := 2) rfl).tup), (S32.ptup (k := 0) rfl), (S32.ptup (k := 1) rfl)]
    have S37 : Sep G31 (Fr H) ([rowsC c30_u0 22 3 c30_C0 (List.map ints r2)] ++ [AL.box p4 [v0], AL.box p11 [v1]]) := S32.pick [2, 0, 1] (by decide) rfl
    obtain ⟨B43, S38, U39, M40, R41, C42⟩ := S37.frame (hB.le A33.1)
    refine CallD.t (F_slices_DeleteFunc_SSint_w (fu := fu) U39 S38 (fun G_ a_ v0 y0 q_ hy0 hq_ => F_impl_BetweenSystems_1_w (fu := fu) hy0 ((hx0.agree A33.agree).agr a_ (fun i_ hi_ hb_ => Nat.not_le.2 (hx0.id_lt hi_) (M40 i_ hb_))) (Bx.later (R41 0 _ rfl) a_) ((hx1.agree A33.agree).agr a_ (fun i_ hi_ hb_ => Nat.not_le.2 (hx1.id_lt hi_) (M40 i_ hb_))) (Bx.later (R41 1 _ rfl) a_) hq_) hc36) ?_
    rintro c44_u0 G45 ⟨a48, _, c44_C0, rfl, S49⟩
    have A47 := A33.trans (a48.mono M40)
    have S46 : Sep G45 (Fr H) [rowsC c44_u0 22 3 c44_C0 (List.map ints r3), AL.box p4 [v0], AL.box p11 [v1]] := C42 _ _ a48 S49
    simp [-aBin', -aBin, -aBinI, -aUn, -aNil, -flatV, n_fn, b_add, b_sub, b_mul, b_lt, b_le, b_gt, b_ge, b_eq, b_ne, u_not, q26, q27, b_quo g28, a34.pre, (S32.flatT (k := 0) rfl), (S32.flatT (k := 1) rfl)]
    apply hK
    clear hK K
    simp only [andThen, leaves]
    refine DWp.ret ?_
    obtain rfl := Option.some.inj hF
    exact ⟨by simp, [c44_u0, (Value.bool true)], by simp [((S46.rd (k := 0) rfl).tup)], A47, c44_u0, c44_C0, rfl, S46.pick [0] (by decide) rfl⟩
def F_laws_eqIntS_L1 (fu : Nat) (k1_0 : List Int) (k1_1 : List Int) : Nat → Int → Option (LR (Bool) (Int))
  | 0, _ => none
  | n + 1, y1_5 =>
    bif (ilt y1_5 (llen k1_0)) then
      gd (inL k1_0 y1_5) (
      gd (inL k1_1 y1_5) (
      bif (ine (gat 0 k1_0 y1_5) (gat 0 k1_1 y1_5)) then
        some (.ret false)
      else
        F_laws_eqIntS_L1 fu k1_0 k1_1 n (iadd .i64 y1_5 1)))
    else
      some (.brk y1_5)
def F_laws_eqIntS (fu : Nat) (x0 : List Int) (x1 : List Int) : Option (Bool) :=
  bif (ine (llen x0) (llen x1)) then
    some false
  else
    bd (F_laws_eqIntS_L1 fu x0 x1 fu 0) fun s1 =>
    lr s1 fun s1 =>
    some true
theorem F_laws_eqIntS_w {fu : Nat} {H : AH} {v0 : Value} {v1 : Value} {x0 : List Int} {x1 : List Int} {r : (Bool)} (hx0 : Sl H v0 (ints x0)) (hx1 : Sl H v1 (ints x1)) (hF : F_laws_eqIntS fu x0 x1 = some r) :
    ACallT Try.prog 19 [v0, v1] H (fun u G => AgB (Fr H) H G ∧ u = (Value.bool r) ∧ Sep G (Fr H) []) := by
  refine ACallT.of_body (nt := 26) (rs := [.tmp 4]) Try.func19 rfl rfl rfl rfl ?_
  have A0 : AgB (Fr H) H H := .refl _ _
  have S0 : Sep H (Fr H) [] := .nil
  have hB := Fr.up H
  unfold F_laws_eqIntS at hF
  refine DWp.seq ?_
  refine DWp.region fun K hK => ?_
  simp [-aBin', -aBin, -aBinI, -aUn, -aNil, -flatV, n_fn, b_add, b_sub, b_mul, b_lt, b_le, b_gt, b_ge, b_eq, b_ne, u_not]
  apply hK
  clear hK K
  simp only [andThen, leaves]
  refine DWp.seq ?_
  refine DWp.seq ?_
  have q1 := lenG (P := Try.prog) (hx0.agree A0.agree) el_22
  have q2 := lenG (P := Try.prog) (hx1.agree A0.agree) el_22
  refine DWp.region fun K hK => ?_
  simp [-aBin', -aBin, -aBinI, -aUn, -aNil, -flatV, n_fn, b_add, b_sub, b_mul, b_lt, b_le, b_gt, b_ge, b_eq, b_ne, u_not, q1, q2]
  apply hK
  clear hK K
  simp only [andThen, leaves]
  refine DWp.cond' (t := (ine (llen x0) (llen x1))) (by simp []) (fun hb3 => ?_) (fun hb3 => ?_)
  · replace hF := cd_t hb3 hF
    refine DWp.seq ?_
    refine DWp.region fun K hK => ?_
    simp [-aBin', -aBin, -aBinI, -aUn, -aNil, -flatV, n_fn, b_add, b_sub, b_mul, b_lt, b_le, b_gt, b_ge, b_eq, b_ne, u_not]
    apply hK
    clear hK K
    simp only [andThen, leaves]
    refine DWp.ret ?_
    simp only [andThen, leaves]
    obtain rfl := Option.some.inj hF
    exact ⟨by simp, [(Value.bool false)], by simp [], A0, rfl, S0.pick [] (by decide) rfl⟩
  · replace hF := cd_f hb3 hF
    refine DWp.skip ?_
    simp only [andThen, leaves]
    refine DWp.seq ?_
    refine DWp.seq ?_
    refine DWp.region fun K hK => ?_
    simp [-aBin', -aBin, -aBinI, -aUn, -aNil, -flatV, n_fn, b_add, b_sub, b_mul, b_lt, b_le, b_gt, b_ge, b_eq, b_ne, u_not]
    apply hK
    clear hK K
    simp only [andThen, leaves]
    refine DWp.block ?_
    obtain ⟨s4, hL5, hF⟩ := bd_some hF
    have S6 := S0.pick [] (by decide) rfl
    refine DWp.loop (fun n env G => ∃ y1_5 : Int, F_laws_eqIntS_L1 fu x0 x1 n y1_5 = some s4 ∧ Sep G (Fr H) [] ∧ AgB (Fr H) H G ∧ env 0 = some v0 ∧ env 1 = some v1 ∧ env 5 = some (Value.int .i64 y1_5)) fu ⟨0, hL5, S6, A0, by simp [], by simp [], by simp []⟩ ?_
    rintro n1 env1 G1_ ⟨y1_5, hL5, S1_, A1_, e1_0, e1_1, e1_5⟩
    cases n1 with
    | zero => cases hL5
    | succ n1 =>
      simp only [F_laws_eqIntS_L1] at hL5
      refine DWp.seq ?_
      refine DWp.seq ?_
      have q7 := lenG (P := Try.prog) (hx0.agree A1_.agree) el_22
      refine DWp.region fun K hK => ?_
      simp [-aBin', -aBin, -aBinI, -aUn, -aNil, -flatV, n_fn, b_add, b_sub, b_mul, b_lt, b_le, b_gt, b_ge, b_eq, b_ne, u_not, e1_0, e1_1, e1_5, q7]
      apply hK
      clear hK K
      simp only [andThen, leaves]
      refine DWp.cond' (t := (ilt y1_5 (llen x0))) (by simp [e1_0, e1_1, e1_5]) (fun hb8 => ?_) (fun hb8 => ?_)
      · replace hL5 := cd_t hb8 hL5
        refine DWp.skip ?_
        simp only [andThen, leaves]
        refine DWp.seq ?_
        refine DWp.block ?_
        refine DWp.seq ?_
        obtain ⟨g9, hL5⟩ := gd_some hL5
        have q10 := idxG (P := Try.prog) (kk := .i64) (hx0.agree A1_.agree) el_22 sz_3 g9
        have q11 := loadG (P := Try.prog) (hx0.agree A1_.agree) sz_3 ag_3 g9 0
        obtain ⟨g12, hL5⟩ := gd_some hL5
        have q13 := idxG (P := Try.prog) (kk := .i64) (hx1.agree A1_.agree) el_22 sz_3 g12
        have q14 := loadG (P := Try.prog) (hx1.agree A1_.agree) sz_3 ag_3 g12 0
        refine DWp.drawn (B := [0, 0, 3, 7, 0, 0, 48, 112, 255]) 9 mixed (by kernel_rfl) (by decide) fun K hK => ?_
        simp [-aBin', -aBin, -aBinI, -aUn, -aNil, -flatV, n_fn, b_add, b_sub, b_mul, b_lt, b_le, b_gt, b_ge, b_eq, b_ne, u_not, e1_0, e1_1, e1_5, q10, q11, q13, q14]
        apply hK
        clear hK K
        simp only [andThen, leaves]
        refine DWp.cond' (t := (ine (gat 0 x0 y1_5) (gat 0 x1 y1_5))) (by simp [e1_0, e1_1, e1_5]) (fun hb15 => ?_) (fun hb15 => ?_)
        · replace hL5 := cd_t hb15 hL5
          refine DWp.seq ?_
          refine DWp.region fun K hK => ?_
          simp [-aBin', -aBin, -aBinI, -aUn, -aNil, -flatV, n_fn, b_add, b_sub, b_mul, b_lt, b_le, b_gt, b_ge, b_eq, b_ne, u_not, e1_0, e1_1, e1_5]
          apply hK
          clear hK K
          simp only [andThen, leaves]
          refine DWp.ret ?_
          simp only [andThen, leaves]
          obtain rfl := Option.some.inj hL5
          simp only [lr] at hF
          obtain rfl := Option.some.inj hF
          exact ⟨by simp, [(Value.bool false)], by simp [e1_0, e1_1, e1_5], A1_, rfl, S1_.pick [] (by decide) rfl⟩
        · replace hL5 := cd_f hb15 hL5
          refine DWp.skip ?_
          simp only [andThen, leaves]
          refine DWp.region fun K hK => ?_
          simp [-aBin', -aBin, -aBinI, -aUn, -aNil, -flatV, n_fn, b_add, b_sub, b_mul, b_lt, b_le, b_gt, b_ge, b_eq, b_ne, u_not, e1_0, e1_1, e1_5]
          apply hK
          clear hK K
          simp only [andThen, leaves]
          have S16 := S1_.pick [] (by decide) rfl
          exact ⟨n1, Nat.lt_succ_self _, (iadd .i64 y1_5 1), hL5, S16, A1_, by simp [e1_0, e1_1, e1_5], by simp [e1_0, e1_1, e1_5], by simp [e1_0, e1_1, e1_5]⟩
      · replace hL5 := cd_f hb8 hL5
        refine DWp.exit ?_
        simp only [andThen, leaves, if_true, if_false, reduceIte, Nat.reduceEqDiff]
        obtain rfl := Option.some.inj hL5
        simp only [lr] at hF
        refine DWp.seq ?_
        refine DWp.region fun K hK => ?_
        simp [-aBin', -aBin, -aBinI, -aUn, -aNil, -flatV, n_fn, b_add, b_sub, b_mul, b_lt, b_le, b_gt, b_ge, b_eq, b_ne, u_not, e1_0, e1_1, e1_5]
        apply hK
        clear hK K
        simp only [andThen, leaves]
        refine DWp.ret ?_
        obtain rfl := Option.some.inj hF
        exact ⟨by simp, [(Value.bool true)], by simp [e1_0, e1_1, e1_5], A1_, rfl, S1_.pick [] (by decide) rfl⟩
def F_laws_eqIntSS_L1 (fu : Nat) (k1_0 : List (List Int)) (k1_1 : List (List Int)) : Nat → Int → Option (LR (Bool) (Int))
  | 0, _ => none
  | n + 1, y1_5 =>
    bif (ilt y1_5 (llen k1_0)) then
      gd (inL k1_0 y1_5) (
      gd (inL k1_1 y1_5) (
      bd (F_laws_eqIntS fu (gat [] k1_0 y1_5) (gat [] k1_1 y1_5)) fun r1 =>
      bif (bnot r1) then
        some (.ret false)
      else
        F_laws_eqIntSS_L1 fu k1_0 k1_1 n (iadd .i64 y1_5 1)))
    else
      some (.brk y1_5)
def F_laws_eqIntSS (fu : Nat) (x0 : List (List Int)) (x1 : List (List Int)) : Option (Bool) :=
  bif (ine (llen x0) (llen x1)) then
    some false
  else
    bd (F_laws_eqIntSS_L1 fu x0 x1 fu 0) fun s1 =>
    lr s1 fun s1 =>
    some true
theorem F_laws_eqIntSS_w {fu : Nat} {H : AH} {v0 : Value} {v1 : Value} {x0 : List (List Int)} {x1 : List (List Int)} {r : (Bool)} (hx0 : SlSl H v0 (List.map ints x0)) (hx1 : SlSl H v1 (List.map ints x1)) (hF : F_laws_eqIntSS fu x0 x1 = some r) :
    ACallT Try.prog 18 [v0, v1] H (fun u G => AgB (Fr H) H G ∧ u = (Value.bool r) ∧ Sep G (Fr H) []) := by
  refine ACallT.of_body (nt := 27) (rs := [.tmp 4]) Try.func18 rfl rfl rfl rfl ?_
  have A0 : AgB (Fr H) H H := .refl _ _
  have S0 : Sep H (Fr H) [] := .nil
  have hB := Fr.up H
  unfold F_laws_eqIntSS at hF
  obtain ⟨C0, hC0⟩ := hx0.rd
  obtain ⟨C1, hC1⟩ := hx1.rd
  refine DWp.seq ?_
  refine DWp.region fun K hK => ?_
  simp [-aBin', -aBin, -aBinI, -aUn, -aNil, -flatV, n_fn, b_add, b_sub, b_mul, b_lt, b_le, b_gt, b_ge, b_eq, b_ne, u_not]
  apply hK
  clear hK K
  simp only [andThen, leaves]
  refine DWp.seq ?_
  refine DWp.seq ?_
  have q1 := (hC0.agree A0.agree).lenG (P := Try.prog) el_23
  have q2 := (hC1.agree A0.agree).lenG (P := Try.prog) el_23
  refine DWp.region fun K hK => ?_
  simp [-aBin', -aBin, -aBinI, -aUn, -aNil, -flatV, n_fn, b_add, b_sub, b_mul, b_lt, b_le, b_gt, b_ge, b_eq, b_ne, u_not, q1, q2]
  apply hK
  clear hK K
  simp only [andThen, leaves]
  refine DWp.cond' (t := (ine (llen x0) (llen x1))) (by simp []) (fun hb3 => ?_) (fun hb3 => ?_)
  · replace hF := cd_t hb3 hF
    refine DWp.seq ?_
    refine DWp.region fun K hK => ?_
    simp [-aBin', -aBin, -aBinI, -aUn, -aNil, -flatV, n_fn, b_add, b_sub, b_mul, b_lt, b_le, b_gt, b_ge, b_eq, b_ne, u_not]
    apply hK
    clear hK K
    simp only [andThen, leaves]
    refine DWp.ret ?_
    simp only [andThen, leaves]
    obtain rfl := Option.some.inj hF
    exact ⟨by simp, [(Value.bool false)], by simp [], A0, rfl, S0.pick [] (by decide) rfl⟩
  · replace hF := cd_f hb3 hF
    refine DWp.skip ?_
    simp only [andThen, leaves]
    refine DWp.seq ?_
    refine DWp.seq ?_
    refine DWp.region fun K hK => ?_
    simp [-aBin', -aBin, -aBinI, -aUn, -aNil, -flatV, n_fn, b_add, b_sub, b_mul, b_lt, b_le, b_gt, b_ge, b_eq, b_ne, u_not]
    apply hK
    clear hK K
    simp only [andThen, leaves]
    refine DWp.block ?_
    obtain ⟨s4, hL5, hF⟩ := bd_some hF
    have S6 := S0.pick [] (by decide) rfl
    refine DWp.loop (fun n env G => ∃ y1_5 : Int, F_laws_eqIntSS_L1 fu x0 x1 n y1_5 = some s4 ∧ Sep G (Fr H) [] ∧ AgB (Fr H) H G ∧ env 0 = some v0 ∧ env 1 = some v1 ∧ env 5 = some (Value.int .i64 y1_5)) fu ⟨0, hL5, S6, A0, by simp [], by simp [], by simp []⟩ ?_
    rintro n1 env1 G1_ ⟨y1_5, hL5, S1_, A1_, e1_0, e1_1, e1_5⟩
    cases n1 with
    | zero => cases hL5
    | succ n1 =>
      simp only [F_laws_eqIntSS_L1] at hL5
      refine DWp.seq ?_
      refine DWp.seq ?_
      have q7 := (hC0.agree A1_.agree).lenG (P := Try.prog) el_23
      refine DWp.region fun K hK => ?_
      simp [-aBin', -aBin, -aBinI, -aUn, -aNil, -flatV, n_fn, b_add, b_sub, b_mul, b_lt, b_le, b_gt, b_ge, b_eq, b_ne, u_not, e1_0, e1_1, e1_5, q7]
      apply hK
      clear hK K
      simp only [andThen, leaves]
      refine DWp.cond' (t := (ilt y1_5 (llen x0))) (by simp [e1_0, e1_1, e1_5]) (fun hb8 => ?_) (fun hb8 => ?_)
      · replace hL5 := cd_t hb8 hL5
        refine DWp.skip ?_
        simp only [andThen, leaves]
        refine DWp.seq ?_
        refine DWp.block ?_
        refine DWp.seq ?_
        obtain ⟨g9, hL5⟩ := gd_some hL5
        have q10 := (hC0.agree A1_.agree).idxG (P := Try.prog) (kk := .i64) el_23 sz_22 g9
        have q11 := (hC0.agree A1_.agree).loadG (P := Try.prog) sz_22 ag_22 g9
        obtain ⟨g12, hL5⟩ := gd_some hL5
        have q13 := (hC1.agree A1_.agree).idxG (P := Try.prog) (kk := .i64) el_23 sz_22 g12
        have q14 := (hC1.agree A1_.agree).loadG (P := Try.prog) sz_22 ag_22 g12
        obtain ⟨r1, hc15, hL5⟩ := bd_some hL5
        refine DWp.drawn (B := [0, 0, 3, 7, 0, 0, 48, 112, 255, 511]) 10 mixed (by kernel_rfl) (by decide) fun K hK => ?_
        simp [-aBin', -aBin, -aBinI, -aUn, -aNil, -flatV, n_fn, b_add, b_sub, b_mul, b_lt, b_le, b_gt, b_ge, b_eq, b_ne, u_not, e1_0, e1_1, e1_5, q10, q11, q13, q14, (((hC0.agree A1_.agree).rowAt [] g9).tup), (((hC1.agree A1_.agree).rowAt [] g12).tup)]
        refine CallD.t (F_laws_eqIntS_w (fu := fu) ((hC0.agree A1_.agree).rowAt [] g9) ((hC1.agree A1_.agree).rowAt [] g12) hc15) ?_
        rintro _ G17 ⟨a20, rfl, S21⟩
        have A19 := A1_.ext (hB.le A1_.1) a20.agree
        have S18 : Sep G17 (Fr H) [] := S1_.app a20.agree S21 (fun _ h => h) (hB.le A1_.1)
        simp [-aBin', -aBin, -aBinI, -aUn, -aNil, -flatV, n_fn, b_add, b_sub, b_mul, b_lt, b_le, b_gt, b_ge, b_eq, b_ne, u_not, e1_0, e1_1, e1_5, q10, q11, q13, q14, a20.pre]
        apply hK
        clear hK K
        simp only [andThen, leaves]
        refine DWp.cond' (t := (bnot r1)) (by simp [e1_0, e1_1, e1_5]) (fun hb22 => ?_) (fun hb22 => ?_)
        · replace hL5 := cd_t hb22 hL5
          refine DWp.seq ?_
          refine DWp.region fun K hK => ?_
          simp [-aBin', -aBin, -aBinI, -aUn, -aNil, -flatV, n_fn, b_add, b_sub, b_mul, b_lt, b_le, b_gt, b_ge, b_eq, b_ne, u_not, e1_0, e1_1, e1_5]
          apply hK
          clear hK K
          simp only [andThen, leaves]
          refine DWp.ret ?_
          simp only [andThen, leaves]
          obtain rfl := Option.some.inj hL5
          simp only [lr] at hF
          obtain rfl := Option.some.inj hF
          exact ⟨by simp, [(Value.bool false)], by simp [e1_0, e1_1, e1_5], A19, rfl, S18.pick [] (by decide) rfl⟩
        · replace hL5 := cd_f hb22 hL5
          refine DWp.skip ?_
          simp only [andThen, leaves]
          refine DWp.region fun K hK => ?_
          simp [-aBin', -aBin, -aBinI, -aUn, -aNil, -flatV, n_fn, b_add, b_sub, b_mul, b_lt, b_le, b_gt, b_ge, b_eq, b_ne, u_not, e1_0, e1_1, e1_5]
          apply hK
          clear hK K
          simp only [andThen, leaves]
          have S23 := S18.pick [] (by decide) rfl
          exact ⟨n1, Nat.lt_succ_self _, (iadd .i64 y1_5 1), hL5, S23, A19, by simp [e1_0, e1_1, e1_5], by simp [e1_0, e1_1, e1_5], by simp [e1_0, e1_1, e1_5]⟩
      · replace hL5 := cd_f hb8 hL5
        refine DWp.exit ?_
        simp only [andThen, leaves, if_true, if_false, reduceIte, Nat.reduceEqDiff]
        obtain rfl := Option.some.inj hL5
        simp only [lr] at hF
        refine DWp.seq ?_
        refine DWp.region fun K hK => ?_
        simp [-aBin', -aBin, -aBinI, -aUn, -aNil, -flatV, n_fn, b_add, b_sub, b_mul, b_lt, b_le, b_gt, b_ge, b_eq, b_ne, u_not, e1_0, e1_1, e1_5]
        apply hK
        clear hK K
        simp only [andThen, leaves]
        refine DWp.ret ?_
        obtain rfl := Option.some.inj hF
        exact ⟨by simp, [(Value.bool true)], by simp [e1_0, e1_1, e1_5], A1_, rfl, S1_.pick [] (by decide) rfl⟩
def F_laws_markIntS_L1 (fu : Nat)  : Nat → List Int → Int → Int → Option (List Int × Int × Int)
  | 0, _, _, _ => none
  | n + 1, l1_0, y1_1, y1_5 =>
    bif (ilt y1_5 (llen l1_0)) then
      gd (inL l1_0 y1_5) (
      F_laws_markIntS_L1 fu n (lset l1_0 y1_5 y1_1) (iadd .i64 y1_1 1) (iadd .i64 y1_5 1))
    else
      some (l1_0, y1_1, y1_5)
def F_laws_markIntS (fu : Nat) (x0 : List Int) (x1 : Int) : Option (Int × List Int) :=
  bd (F_laws_markIntS_L1 fu fu x0 x1 0) fun s1 =>
  some (s1.2.1, s1.1)
theorem F_laws_markIntS_w {fu : Nat} {H : AH} {B : Nat → Prop} {v0 : Value} {x0 : List Int} {x1 : Int} {r : (Int × List Int)} (hB : Up B H.length) (S0 : Sep H B [flat v0 3 (ints x0)]) (hF : F_laws_markIntS fu x0 x1 = some r) :
    ACallT Try.prog 20 [v0, (Value.int .i64 x1)] H (fun u G => AgB B H G ∧ u = (Value.int .i64 r.1) ∧ Sep G B [flat v0 3 (ints r.2)]) := by
  refine ACallT.of_body (nt := 19) (rs := [.tmp 4]) Try.func20 rfl rfl rfl rfl ?_
  have A0 : AgB B H H := .refl _ _
  unfold F_laws_markIntS at hF
  refine DWp.seq ?_
  refine DWp.region fun K hK => ?_
  simp [-aBin', -aBin, -aBinI, -aUn, -aNil, -flatV, n_fn, b_add, b_sub, b_mul, b_lt, b_le, b_gt, b_ge, b_eq, b_ne, u_not]
  apply hK
  clear hK K
  simp only [andThen, leaves]
  refine DWp.seq ?_
  refine DWp.seq ?_
  refine DWp.region fun K hK => ?_
  simp [-aBin', -aBin, -aBinI, -aUn, -aNil, -flatV, n_fn, b_add, b_sub, b_mul, b_lt, b_le, b_gt, b_ge, b_eq, b_ne, u_not]
  apply hK
  clear hK K
  simp only [andThen, leaves]
  refine DWp.block ?_
  obtain ⟨s1, hL2, hF⟩ := bd_some hF
  have S3 := S0.pick [0] (by decide) rfl
  refine DWp.loop (fun n env G => ∃ l1_0 : List Int, ∃ y1_1 : Int, ∃ y1_5 : Int, F_laws_markIntS_L1 fu n l1_0 y1_1 y1_5 = some s1 ∧ Sep G B [flat v0 3 (ints l1_0)] ∧ AgB B H G ∧ env 0 = some v0 ∧ env 1 = some (Value.int .i64 y1_1) ∧ env 5 = some (Value.int .i64 y1_5)) fu ⟨x0, x1, 0, hL2, S3, A0, by simp [], by simp [], by simp []⟩ ?_
  rintro n1 env1 G1_ ⟨l1_0, y1_1, y1_5, hL2, S1_, A1_, e1_0, e1_1, e1_5⟩
  cases n1 with
  | zero => cases hL2
  | succ n1 =>
    simp only [F_laws_markIntS_L1] at hL2
    refine DWp.seq ?_
    refine DWp.seq ?_
    have q4 := lenG (P := Try.prog) (S1_.sl (k := 0) rfl) el_22
    refine DWp.region fun K hK => ?_
    simp [-aBin', -aBin, -aBinI, -aUn, -aNil, -flatV, n_fn, b_add, b_sub, b_mul, b_lt, b_le, b_gt, b_ge, b_eq, b_ne, u_not, e1_0, e1_1, e1_5, q4]
    apply hK
    clear hK K
    simp only [andThen, leaves]
    refine DWp.cond' (t := (ilt y1_5 (llen l1_0))) (by simp [e1_0, e1_1, e1_5]) (fun hb5 => ?_) (fun hb5 => ?_)
    · replace hL2 := cd_t hb5 hL2
      refine DWp.skip ?_
      simp only [andThen, leaves]
      refine DWp.seq ?_
      refine DWp.block ?_
      refine DWp.seq ?_
      obtain ⟨g6, hL2⟩ := gd_some hL2
      have q7 := idxG (P := Try.prog) (kk := .i64) (S1_.sl (k := 0) rfl) el_22 sz_3 g6
      obtain ⟨G8, q9, S10, a12⟩ := S1_.storeG (f := (Value.int .i64)) (P := Try.prog) (k := 0) (x := y1_1) rfl (hB.le A1_.1) sz_3 g6 rfl rfl
      have A11 := A1_.trans a12
      replace S10 : Sep G8 B [flat v0 3 (ints (lset l1_0 y1_5 y1_1))] := S10
      refine DWp.region fun K hK => ?_
      simp [-aBin', -aBin, -aBinI, -aUn, -aNil, -flatV, n_fn, b_add, b_sub, b_mul, b_lt, b_le, b_gt, b_ge, b_eq, b_ne, u_not, e1_0, e1_1, e1_5, q7, q9]
      apply hK
      clear hK K
      simp only [andThen, leaves]
      refine DWp.region fun K hK => ?_
      simp [-aBin', -aBin, -aBinI, -aUn, -aNil, -flatV, n_fn, b_add, b_sub, b_mul, b_lt, b_le, b_gt, b_ge, b_eq, b_ne, u_not, e1_0, e1_1, e1_5]
      apply hK
      clear hK K
      simp only [andThen, leaves]
      refine DWp.region fun K hK => ?_
      simp [-aBin', -aBin, -aBinI, -aUn, -aNil, -flatV, n_fn, b_add, b_sub, b_mul, b_lt, b_le, b_gt, b_ge, b_eq, b_ne, u_not, e1_0, e1_1, e1_5]
      apply hK
      clear hK K
      simp only [andThen, leaves]
      have S13 := S10.pick [0] (by decide) rfl
      exact ⟨n1, Nat.lt_succ_self _, (lset l1_0 y1_5 y1_1), (iadd .i64 y1_1 1), (iadd .i64 y1_5 1), hL2, S13, A11, by simp [e1_0, e1_1, e1_5], by simp [e1_0, e1_1, e1_5], by simp [e1_0, e1_1, e1_5]⟩
    · replace hL2 := cd_f hb5 hL2
      refine DWp.exit ?_
      simp only [andThen, leaves, if_true, if_false, reduceIte, Nat.reduceEqDiff]
      obtain rfl := Option.some.inj hL2
      try dsimp only at hF
      refine DWp.seq ?_
      refine DWp.region fun K hK => ?_
      simp [-aBin', -aBin, -aBinI, -aUn, -aNil, -flatV, n_fn, b_add, b_sub, b_mul, b_lt, b_le, b_gt, b_ge, b_eq, b_ne, u_not, e1_0, e1_1, e1_5]
      apply hK
      clear hK K
      simp only [andThen, leaves]
      refine DWp.ret ?_
      obtain rfl := Option.some.inj hF
      exact ⟨by simp, [(Value.int .i64 y1_1)], by simp [e1_0, e1_1, e1_5], A1_, rfl, S1_.pick [0] (by decide) rfl⟩
def F_laws_markIntSS_L1 (fu : Nat)  : Nat → List (List Int) → Int → Int → Option (List (List Int) × Int × Int)
  | 0, _, _, _ => none
  | n + 1, l1_0, y1_1, y1_5 =>
    bif (ilt y1_5 (llen l1_0)) then
      gd (inL l1_0 y1_5) (
      bd (F_laws_markIntS fu (gat [] l1_0 y1_5) y1_1) fun r1 =>
      F_laws_markIntSS_L1 fu n (lset l1_0 y1_5 r1.2) r1.1 (iadd .i64 y1_5 1))
    else
      some (l1_0, y1_1, y1_5)
def F_laws_markIntSS (fu : Nat) (x0 : List (List Int)) (x1 : Int) : Option (Int × List (List Int)) :=
  bd (F_laws_markIntSS_L1 fu fu x0 x1 0) fun s1 =>
  some (s1.2.1, s1.1)
theorem F_laws_markIntSS_w {fu : Nat} {H : AH} {B : Nat → Prop} {v0 : Value} {C0 : List Value} {x0 : List (List Int)} {x1 : Int} {r : (Int × List (List Int))} (hB : Up B H.length) (S0 : Sep H B [rowsC v0 22 3 C0 (List.map ints x0)]) (hF : F_laws_markIntSS fu x0 x1 = some r) :
    ACallT Try.prog 21 [v0, (Value.int .i64 x1)] H (fun u G => AgB B H G ∧ ∃ Cz0 : List Value, u = (Value.int .i64 r.1) ∧ Sep G B [rowsC v0 22 3 Cz0 (List.map ints r.2)]) := by
  refine ACallT.of_body (nt := 19) (rs := [.tmp 4]) Try.func21 rfl rfl rfl rfl ?_
  have A0 : AgB B H H := .refl _ _
  unfold F_laws_markIntSS at hF
  refine DWp.seq ?_
  refine DWp.region fun K hK => ?_
  simp [-aBin', -aBin, -aBinI, -aUn, -aNil, -flatV, n_fn, b_add, b_sub, b_mul, b_lt, b_le, b_gt, b_ge, b_eq, b_ne, u_not]
  apply hK
  clear hK K
  simp only [andThen, leaves]
  refine DWp.seq ?_
  refine DWp.seq ?_
  refine DWp.region fun K hK => ?_
  simp [-aBin', -aBin, -aBinI, -aUn, -aNil, -flatV, n_fn, b_add, b_sub, b_mul, b_lt, b_le, b_gt, b_ge, b_eq, b_ne, u_not]
  apply hK
  clear hK K
  simp only [andThen, leaves]
  refine DWp.block ?_
  obtain ⟨s1, hL2, hF⟩ := bd_some hF
  have S3 := S0.pick [0] (by decide) rfl
  refine DWp.loop (fun n env G => ∃ l1_0 : List (List Int), ∃ y1_1 : Int, ∃ y1_5 : Int, ∃ D1_0 : List Value, F_laws_markIntSS_L1 fu n l1_0 y1_1 y1_5 = some s1 ∧ Sep G B [rowsC v0 22 3 D1_0 (List.map ints l1_0)] ∧ AgB B H G ∧ env 0 = some v0 ∧ env 1 = some (Value.int .i64 y1_1) ∧ env 5 = some (Value.int .i64 y1_5)) fu ⟨x0, x1, 0, C0, hL2, S3, A0, by simp [], by simp [], by simp []⟩ ?_
  rintro n1 env1 G1_ ⟨l1_0, y1_1, y1_5, D1_0, hL2, S1_, A1_, e1_0, e1_1, e1_5⟩
  cases n1 with
  | zero => cases hL2
  | succ n1 =>
    simp only [F_laws_markIntSS_L1] at hL2
    refine DWp.seq ?_
    refine DWp.seq ?_
    have q4 := (S1_.rd (k := 0) rfl).lenG (P := Try.prog) el_23
    refine DWp.region fun K hK => ?_
    simp [-aBin', -aBin, -aBinI, -aUn, -aNil, -flatV, n_fn, b_add, b_sub, b_mul, b_lt, b_le, b_gt, b_ge, b_eq, b_ne, u_not, e1_0, e1_1, e1_5, q4]
    apply hK
    clear hK K
    simp only [andThen, leaves]
    refine DWp.cond' (t := (ilt y1_5 (llen l1_0))) (by simp [e1_0, e1_1, e1_5]) (fun hb5 => ?_) (fun hb5 => ?_)
    · replace hL2 := cd_t hb5 hL2
      refine DWp.skip ?_
      simp only [andThen, leaves]
      refine DWp.seq ?_
      refine DWp.block ?_
      obtain ⟨g6, hL2⟩ := gd_some hL2
      have q7 := (S1_.rd (k := 0) rfl).idxG (P := Try.prog) (kk := .i64) el_23 sz_22 g6
      have q8 := (S1_.rd (k := 0) rfl).loadG (P := Try.prog) sz_22 ag_22 g6
      have S9 : Sep G1_ B [rowsX v0 22 3 D1_0 (List.map ints l1_0) (y1_5).toNat, flat (gat nilV D1_0 y1_5) 3 (ints (gat [] l1_0 y1_5))] := S1_.rowOut (fr := ints) (k := 0) rfl [] g6
      obtain ⟨r1, hc10, hL2⟩ := bd_some hL2
      refine DWp.region fun K hK => ?_
      simp [-aBin', -aBin, -aBinI, -aUn, -aNil, -flatV, n_fn, b_add, b_sub, b_mul, b_lt, b_le, b_gt, b_ge, b_eq, b_ne, u_not, e1_0, e1_1, e1_5, q7, q8, (((S1_.rd (k := 0) rfl).rowAt [] g6).tup)]
      have S11 : Sep G1_ B ([flat (gat nilV D1_0 y1_5) 3 (ints (gat [] l1_0 y1_5))] ++ [rowsX v0 22 3 D1_0 (List.map ints l1_0) (y1_5).toNat]) := S9.pick [1, 0] (by decide) rfl
      obtain ⟨B17, S12, U13, M14, R15, C16⟩ := S11.frame (hB.le A1_.1)
      refine CallD.t (F_laws_markIntS_w (fu := fu) U13 S12 hc10) ?_
      rintro _ G19 ⟨a22, rfl, S23⟩
      have A21 := A1_.trans (a22.mono M14)
      have S20 : Sep G19 B [flat (gat nilV D1_0 y1_5) 3 (ints r1.2), rowsX v0 22 3 D1_0 (List.map ints l1_0) (y1_5).toNat] := C16 _ _ a22 S23
      have S24 : Sep G19 B [emp, rowsC v0 22 3 D1_0 (List.map ints (lset l1_0 y1_5 r1.2))] := S20.rowIn (fr := ints) (j := 1) (k := 0) (by decide) rfl rfl g6
      simp [-aBin', -aBin, -aBinI, -aUn, -aNil, -flatV, n_fn, b_add, b_sub, b_mul, b_lt, b_le, b_gt, b_ge, b_eq, b_ne, u_not, e1_0, e1_1, e1_5, q7, q8]
      apply hK
      clear hK K
      simp only [andThen, leaves]
      refine DWp.region fun K hK => ?_
      simp [-aBin', -aBin, -aBinI, -aUn, -aNil, -flatV, n_fn, b_add, b_sub, b_mul, b_lt, b_le, b_gt, b_ge, b_eq, b_ne, u_not, e1_0, e1_1, e1_5]
      apply hK
      clear hK K
      simp only [andThen, leaves]
      have S25 := S24.pick [1] (by decide) rfl
      exact ⟨n1, Nat.lt_succ_self _, (lset l1_0 y1_5 r1.2), r1.1, (iadd .i64 y1_5 1), D1_0, hL2, S25, A21, by simp [e1_0, e1_1, e1_5], by simp [e1_0, e1_1, e1_5], by simp [e1_0, e1_1, e1_5]⟩
    · replace hL2 := cd_f hb5 hL2
      refine DWp.exit ?_
      simp only [andThen, leaves, if_true, if_false, reduceIte, Nat.reduceEqDiff]
      obtain rfl := Option.some.inj hL2
      try dsimp only at hF
      refine DWp.seq ?_
      refine DWp.region fun K hK => ?_
      simp [-aBin', -aBin, -aBinI, -aUn, -aNil, -flatV, n_fn, b_add, b_sub, b_mul, b_lt, b_le, b_gt, b_ge, b_eq, b_ne, u_not, e1_0, e1_1, e1_5]
      apply hK
      clear hK K
      simp only [andThen, leaves]
      refine DWp.ret ?_
      obtain rfl := Option.some.inj hF
      exact ⟨by simp, [(Value.int .i64 y1_1)], by simp [e1_0, e1_1, e1_5], A1_, D1_0, rfl, S1_.pick [0] (by decide) rfl⟩
def F_laws_heldIntS_L1 (fu : Nat) (k1_0 : List Int) : Nat → Int → Int → Option (LR (Int) (Int × Int))
  | 0, _, _ => none
  | n + 1, y1_1, y1_5 =>
    bif (ilt y1_5 (llen k1_0)) then
      gd (inL k1_0 y1_5) (
      bif (ine (gat 0 k1_0 y1_5) y1_1) then
        some (.ret (-1))
      else
        F_laws_heldIntS_L1 fu k1_0 n (iadd .i64 y1_1 1) (iadd .i64 y1_5 1))
    else
      some (.brk (y1_1, y1_5))
def F_laws_heldIntS (fu : Nat) (x0 : List Int) (x1 : Int) : Option (Int) :=
  bd (F_laws_heldIntS_L1 fu x0 fu x1 0) fun s1 =>
  lr s1 fun s1 =>
  some s1.1
theorem F_laws_heldIntS_w {fu : Nat} {H : AH} {v0 : Value} {x0 : List Int} {x1 : Int} {r : (Int)} (hx0 : Sl H v0 (ints x0)) (hF : F_laws_heldIntS fu x0 x1 = some r) :
    ACallT Try.prog 34 [v0, (Value.int .i64 x1)] H (fun u G => AgB (Fr H) H G ∧ u = (Value.int .i64 r) ∧ Sep G (Fr H) []) := by
  refine ACallT.of_body (nt := 21) (rs := [.tmp 4]) Try.func34 rfl rfl rfl rfl ?_
  have A0 : AgB (Fr H) H H := .refl _ _
  have S0 : Sep H (Fr H) [] := .nil
  have hB := Fr.up H
  unfold F_laws_heldIntS at hF
  refine DWp.seq ?_
  refine DWp.region fun K hK => ?_
  simp [-aBin', -aBin, -aBinI, -aUn, -aNil, -flatV, n_fn, b_add, b_sub, b_mul, b_lt, b_le, b_gt, b_ge, b_eq, b_ne, u_not]
  apply hK
  clear hK K
  simp only [andThen, leaves]
  refine DWp.seq ?_
  refine DWp.seq ?_
  refine DWp.region fun K hK => ?_
  simp [-aBin', -aBin, -aBinI, -aUn, -aNil, -flatV, n_fn, b_add, b_sub, b_mul, b_lt, b_le, b_gt, b_ge, b_eq, b_ne, u_not]
  apply hK
  clear hK K
  simp only [andThen, leaves]
  refine DWp.block ?_
  obtain ⟨s1, hL2, hF⟩ := bd_some hF
  have S3 := S0.pick [] (by decide) rfl
  refine DWp.loop (fun n env G => ∃ y1_1 : Int, ∃ y1_5 : Int, F_laws_heldIntS_L1 fu x0 n y1_1 y1_5 = some s1 ∧ Sep G (Fr H) [] ∧ AgB (Fr H) H G ∧ env 0 = some v0 ∧ env 1 = some (Value.int .i64 y1_1) ∧ env 5 = some (Value.int .i64 y1_5)) fu ⟨x1, 0, hL2, S3, A0, by simp [], by simp [], by simp []⟩ ?_
  rintro n1 env1 G1_ ⟨y1_1, y1_5, hL2, S1_, A1_, e1_0, e1_1, e1_5⟩
  cases n1 with
  | zero => cases hL2
  | succ n1 =>
    simp only [F_laws_heldIntS_L1] at hL2
    refine DWp.seq ?_
    refine DWp.seq ?_
    have q4 := lenG (P := Try.prog) (hx0.agree A1_.agree) el_22
    refine DWp.region fun K hK => ?_
    simp [-aBin', -aBin, -aBinI, -aUn, -aNil, -flatV, n_fn, b_add, b_sub, b_mul, b_lt, b_le, b_gt, b_ge, b_eq, b_ne, u_not, e1_0, e1_1, e1_5, q4]
    apply hK
    clear hK K
    simp only [andThen, leaves]
    refine DWp.cond' (t := (ilt y1_5 (llen x0))) (by simp [e1_0, e1_1, e1_5]) (fun hb5 => ?_) (fun hb5 => ?_)
    · replace hL2 := cd_t hb5 hL2
      refine DWp.skip ?_
      simp only [andThen, leaves]
      refine DWp.seq ?_
      refine DWp.block ?_
      refine DWp.seq ?_
      refine DWp.seq ?_
      obtain ⟨g6, hL2⟩ := gd_some hL2
      have q7 := idxG (P := Try.prog) (kk := .i64) (hx0.agree A1_.agree) el_22 sz_3 g6
      have q8 := loadG (P := Try.prog) (hx0.agree A1_.agree) sz_3 ag_3 g6 0
      refine DWp.region fun K hK => ?_
      simp [-aBin', -aBin, -aBinI, -aUn, -aNil, -flatV, n_fn, b_add, b_sub, b_mul, b_lt, b_le, b_gt, b_ge, b_eq, b_ne, u_not, e1_0, e1_1, e1_5, q7, q8]
      apply hK
      clear hK K
      simp only [andThen, leaves]
      refine DWp.cond' (t := (ine (gat 0 x0 y1_5) y1_1)) (by simp [e1_0, e1_1, e1_5]) (fun hb9 => ?_) (fun hb9 => ?_)
      · replace hL2 := cd_t hb9 hL2
        refine DWp.seq ?_
        refine DWp.region fun K hK => ?_
        simp [-aBin', -aBin, -aBinI, -aUn, -aNil, -flatV, n_fn, b_add, b_sub, b_mul, b_lt, b_le, b_gt, b_ge, b_eq, b_ne, u_not, e1_0, e1_1, e1_5]
        apply hK
        clear hK K
        simp only [andThen, leaves]
        refine DWp.ret ?_
        simp only [andThen, leaves]
        obtain rfl := Option.some.inj hL2
        simp only [lr] at hF
        obtain rfl := Option.some.inj hF
        exact ⟨by simp, [(Value.int .i64 (-1))], by simp [e1_0, e1_1, e1_5], A1_, rfl, S1_.pick [] (by decide) rfl⟩
      · replace hL2 := cd_f hb9 hL2
        refine DWp.skip ?_
        simp only [andThen, leaves]
        refine DWp.region fun K hK => ?_
        simp [-aBin', -aBin, -aBinI, -aUn, -aNil, -flatV, n_fn, b_add, b_sub, b_mul, b_lt, b_le, b_gt, b_ge, b_eq, b_ne, u_not, e1_0, e1_1, e1_5]
        apply hK
        clear hK K
        simp only [andThen, leaves]
        refine DWp.region fun K hK => ?_
        simp [-aBin', -aBin, -aBinI, -aUn, -aNil, -flatV, n_fn, b_add, b_sub, b_mul, b_lt, b_le, b_gt, b_ge, b_eq, b_ne, u_not, e1_0, e1_1, e1_5]
        apply hK
        clear hK K
        simp only [andThen, leaves]
        have S10 := S1_.pick [] (by decide) rfl
        exact ⟨n1, Nat.lt_succ_self _, (iadd .i64 y1_1 1), (iadd .i64 y1_5 1), hL2, S10, A1_, by simp [e1_0, e1_1, e1_5], by simp [e1_0, e1_1, e1_5], by simp [e1_0, e1_1, e1_5]⟩
    · replace hL2 := cd_f hb5 hL2
      refine DWp.exit ?_
      simp only [andThen, leaves, if_true, if_false, reduceIte, Nat.reduceEqDiff]
      obtain rfl := Option.some.inj hL2
      simp only [lr] at hF
      refine DWp.seq ?_
      refine DWp.region fun K hK => ?_
      simp [-aBin', -aBin, -aBinI, -aUn, -aNil, -flatV, n_fn, b_add, b_sub, b_mul, b_lt, b_le, b_gt, b_ge, b_eq, b_ne, u_not, e1_0, e1_1, e1_5]
      apply hK
      clear hK K
      simp only [andThen, leaves]
      refine DWp.ret ?_
      obtain rfl := Option.some.inj hF
      exact ⟨by simp, [(Value.int .i64 y1_1)], by simp [e1_0, e1_1, e1_5], A1_, rfl, S1_.pick [] (by decide) rfl⟩
end Go.Proofs.Ytdghlhdpcmemjaa.AL

/- The walks of functions, each with its Lean function: laws.FnExactMergePath, spec.SplitPath, impl.SplitPath, laws.FnExactSplitPath, spec.ahAll, spec.FarthestFrom, impl.covered, impl.joined, impl.systems, impl.Meander).isOne. No condition. -/
import Derived.Test.YtdghlhdpcmemjaaFBD
import Derived.Test.YtdghlhdpcmemjaaFBE
import Derived.Test.YtdghlhdpcmemjaaG1
import Derived.Test.YtdghlhdpcmemjaaG2
import Derived.Test.YtdghlhdpcmemjaaG3
import Derived.Test.YtdghlhdpcmemjaaG4
import Derived.Test.YtdghlhdpcmemjaaG5
import Derived.Test.YtdghlhdpcmemjaaG6
import Derived.Test.YtdghlhdpcmemjaaG7
import Derived.Test.YtdghlhdpcmemjaaG8
import Derived.Test.YtdghlhdpcmemjaaG9
import Derived.Test.YtdghlhdpcmemjaaALD
import Derived.Test.YtdghlhdpcmemjaaProg
import Derived.KernelRfl
namespace Go.Proofs.Ytdghlhdpcmemjaa.AL
open Go Go.RowKit
set_option linter.unusedVariables false
set_option linter.unusedSimpArgs false
set_option maxRecDepth 4096
def F_spec_ahAll_L3 (fu : Nat) (self_ : Int → Int → Option (List (List Int))) (k3_0 : Int) (k3_1 : Int) (k3_2 : Int) (k3_3 : List Int) (k3_4 : List (List Int)) (k3_5 : Int) (k3_6 : Int) (k3_7 : List (List Int)) (k3_8 : Int) : Nat → List (List Int) → Int → Option (List (List Int) × Int)
  | 0, _, _ => none
  | n + 1, l3_0, y3_40 =>
    bif (ilt y3_40 k3_8) then
      gd (inL k3_7 y3_40) (
      gd ([(iadd .i64 (iadd .i64 k3_1 (imul .i64 2 k3_2)) 1)].length + k3_3.length ≤ 4294967296) (
      gd ((lapp [(iadd .i64 (iadd .i64 k3_1 (imul .i64 2 k3_2)) 1)] k3_3).length + [k3_1].length ≤ 4294967296) (
      gd ((lapp (lapp [(iadd .i64 (iadd .i64 k3_1 (imul .i64 2 k3_2)) 1)] k3_3) [k3_1]).length + (gat [] k3_7 y3_40).length ≤ 4294967296) (
      gd (l3_0.length + 1 ≤ 4294967296) (
      F_spec_ahAll_L3 fu self_ k3_0 k3_1 k3_2 k3_3 k3_4 k3_5 k3_6 k3_7 k3_8 n (lapp l3_0 [(lapp (lapp (lapp [(iadd .i64 (iadd .i64 k3_1 (imul .i64 2 k3_2)) 1)] k3_3) [k3_1]) (gat [] k3_7 y3_40))]) (iadd .i64 y3_40 1))))))
    else
      some (l3_0, y3_40)
def F_spec_ahAll_L2 (fu : Nat) (self_ : Int → Int → Option (List (List Int))) (k2_0 : Int) (k2_1 : Int) (k2_2 : Int) (k2_3 : List (List Int)) (k2_4 : Int) : Nat → List (List Int) → Int → Option (List (List Int) × Int)
  | 0, _, _ => none
  | n + 1, l2_0, y2_25 =>
    bif (ilt y2_25 k2_4) then
      gd (inL k2_3 y2_25) (
      bd (self_ (isub .i64 (isub .i64 k2_0 1) k2_2) (iadd .i64 (iadd .i64 k2_1 (imul .i64 2 k2_2)) 2)) fun r2 =>
      bd (F_spec_ahAll_L3 fu self_ k2_0 k2_1 k2_2 (gat [] k2_3 y2_25) k2_3 k2_4 y2_25 r2 (llen r2) fu l2_0 0) fun s3 =>
      F_spec_ahAll_L2 fu self_ k2_0 k2_1 k2_2 k2_3 k2_4 n s3.1 (iadd .i64 y2_25 1))
    else
      some (l2_0, y2_25)
def F_spec_ahAll_L1 (fu : Nat) (self_ : Int → Int → Option (List (List Int))) (k1_0 : Int) (k1_1 : Int) : Nat → List (List Int) → Int → Option (List (List Int) × Int)
  | 0, _, _ => none
  | n + 1, l1_0, y1_6 =>
    bif (ilt y1_6 k1_0) then
      bd (self_ y1_6 (iadd .i64 k1_1 1)) fun r1 =>
      bd (F_spec_ahAll_L2 fu self_ k1_0 k1_1 y1_6 r1 (llen r1) fu l1_0 0) fun s2 =>
      F_spec_ahAll_L1 fu self_ k1_0 k1_1 n s2.1 (iadd .i64 y1_6 1)
    else
      some (l1_0, y1_6)
def F_spec_ahAll : Nat → Int → Int → Option (List (List Int))
  | 0, _, _ => none
  | fu + 1, x0, x1 =>
    bif (ieq x0 0) then
      some [[]]
    else
      bd (F_spec_ahAll_L1 fu (F_spec_ahAll fu) x0 x1 fu (@List.nil (List Int)) 0) fun s1 =>
      some s1.1
theorem F_spec_ahAll_w : ∀ {fu : Nat} {H : AH}  {x0 : Int} {x1 : Int} {r : (List (List Int))}  (hF : F_spec_ahAll fu x0 x1 = some r),
    ACallT Try.prog 73 [(Value.int .i64 x0), (Value.int .i64 x1)] H (fun u G => AgB (Fr H) H G ∧ ∃ u0 : Value, ∃ C0 : List Value, u = u0 ∧ Sep G (Fr H) [rowsC u0 22 3 C0 (List.map ints r)]) := by
  intro fu
  induction fu with
  | zero => intros; rename_i hF; cases hF
  | succ fu ih =>
  intro H  x0 x1 r  hF
  simp only [F_spec_ahAll] at hF
  refine ACallT.of_body (nt := 65) (rs := [.tmp 4]) Try.func73 rfl rfl rfl rfl ?_
  have A0 : AgB (Fr H) H H := .refl _ _
  have S0 : Sep H (Fr H) [] := .nil
  have hB := Fr.up H
  refine DWp.seq ?_
  refine DWp.region fun K hK => ?_
  simp [-aBin', -aBin, -aBinI, -aUn, -aNil, -flatV, n_fn, b_add, b_sub, b_mul, b_lt, b_le, b_gt, b_ge, b_eq, b_ne, u_not]
  apply hK
  clear hK K
  simp only [andThen, leaves]
  refine DWp.seq ?_
  refine DWp.seq ?_
  refine DWp.region fun K hK => ?_
  simp [-aBin', -aBin, -aBinI, -aUn, -aNil, -flatV, n_fn, b_add, b_sub, b_mul, b_lt, b_le, b_gt, b_ge, b_eq, b_ne, u_not]
  apply hK
  clear hK K
  simp only [andThen, leaves]
  refine DWp.cond' (t := (ieq x0 0)) (by simp []) (fun hb1 => ?_) (fun hb1 => ?_)
  · replace hF := cd_t hb1 hF
    refine DWp.seq ?_
    obtain ⟨v2, G3, q4, S5, a7, _, _⟩ := S0.lit1 (P := Try.prog) (t := 23) (hB.le A0.1) el_23 ei_22 rfl (Value.slice none 0 0) (rfl : isTup (Value.slice none 0 0) = false) (rfl : (Value.slice none 0 0).cells = #[(Value.slice none 0 0)])
    have A6 := A0.ext (hB.le A0.1) a7
    replace S5 : Sep G3 (Fr H) [flat1 v2 22 [(Value.slice none 0 0)]] := S5
    refine DWp.region fun K hK => ?_
    simp [-aBin', -aBin, -aBinI, -aUn, -aNil, -flatV, n_fn, b_add, b_sub, b_mul, b_lt, b_le, b_gt, b_ge, b_eq, b_ne, u_not, q4, a7.to_pre, (rfl : isTup (Value.slice none 0 0) = false)]
    apply hK
    clear hK K
    simp only [andThen, leaves]
    refine DWp.ret ?_
    simp only [andThen, leaves]
    have S8 := S5.nilItem (hB.le A6.1) 3
    have S9 : Sep G3 (Fr H) [rowsC v2 22 3 [(Value.slice none 0 0)] (List.map ints [[]]), emp] := S8.rowsOf1 (j := 0) (k := 1) (by decide) rfl rfl
    obtain rfl := Option.some.inj hF
    exact ⟨by simp, [v2], by simp [((S9.rd (k := 0) rfl).tup)], A6, v2, [(Value.slice none 0 0)], rfl, S9.pick [0] (by decide) rfl⟩
  · replace hF := cd_f hb1 hF
    refine DWp.skip ?_
    simp only [andThen, leaves]
    refine DWp.seq ?_
    refine DWp.region fun K hK => ?_
    simp [-aBin', -aBin, -aBinI, -aUn, -aNil, -flatV, n_fn, b_add, b_sub, b_mul, b_lt, b_le, b_gt, b_ge, b_eq, b_ne, u_not]
    apply hK
    clear hK K
    simp only [andThen, leaves]
    refine DWp.seq ?_
    refine DWp.seq ?_
    refine DWp.region fun K hK => ?_
    simp [-aBin', -aBin, -aBinI, -aUn, -aNil, -flatV, n_fn, b_add, b_sub, b_mul, b_lt, b_le, b_gt, b_ge, b_eq, b_ne, u_not]
    apply hK
    clear hK K
    simp only [andThen, leaves]
    refine DWp.block ?_
    have S10 := S0.rowsNil (hB.le A0.1) 22 3
    obtain ⟨s11, hL12, hF⟩ := bd_some hF
    have S13 := S10.pick [0] (by decide) rfl
    refine DWp.loop (fun n env G => ∃ l1_0 : List (List Int), ∃ y1_6 : Int, ∃ w1_0 : Value, ∃ D1_0 : List Value, F_spec_ahAll_L1 fu (F_spec_ahAll fu) x0 x1 n l1_0 y1_6 = some s11 ∧ Sep G (Fr H) [rowsC w1_0 22 3 D1_0 (List.map ints l1_0)] ∧ AgB (Fr H) H G ∧ env 0 = some (Value.int .i64 x0) ∧ env 1 = some (Value.int .i64 x1) ∧ env 5 = some w1_0 ∧ env 6 = some (Value.int .i64 y1_6)) fu ⟨(@List.nil (List Int)), 0, (Value.slice none 0 0), [], hL12, S13, A0, by simp [], by simp [], by simp [], by simp []⟩ ?_
    rintro n1 env1 G1_ ⟨l1_0, y1_6, w1_0, D1_0, hL12, S1_, A1_, e1_0, e1_1, e1_5, e1_6⟩
    cases n1 with
    | zero => cases hL12
    | succ n1 =>
      simp only [F_spec_ahAll_L1] at hL12
      refine DWp.seq ?_
      refine DWp.seq ?_
      refine DWp.region fun K hK => ?_
      simp [-aBin', -aBin, -aBinI, -aUn, -aNil, -flatV, n_fn, b_add, b_sub, b_mul, b_lt, b_le, b_gt, b_ge, b_eq, b_ne, u_not, e1_0, e1_1, e1_5, e1_6]
      apply hK
      clear hK K
      simp only [andThen, leaves]
      refine DWp.cond' (t := (ilt y1_6 x0)) (by simp [e1_0, e1_1, e1_5, e1_6]) (fun hb14 => ?_) (fun hb14 => ?_)
      · replace hL12 := cd_t hb14 hL12
        refine DWp.skip ?_
        simp only [andThen, leaves]
        refine DWp.seq ?_
        refine DWp.block ?_
        refine DWp.seq ?_
        obtain ⟨r1, hc15, hL12⟩ := bd_some hL12
        refine DWp.region fun K hK => ?_
        simp [-aBin', -aBin, -aBinI, -aUn, -aNil, -flatV, n_fn, b_add, b_sub, b_mul, b_lt, b_le, b_gt, b_ge, b_eq, b_ne, u_not, e1_0, e1_1, e1_5, e1_6]
        refine CallD.t (ih  hc15) ?_
        rintro c16_u0 G17 ⟨a20, _, c16_C0, rfl, S21⟩
        have A19 := A1_.ext (hB.le A1_.1) a20.agree
        have S18 : Sep G17 (Fr H) [rowsC w1_0 22 3 D1_0 (List.map ints l1_0), rowsC c16_u0 22 3 c16_C0 (List.map ints r1)] := S1_.app a20.agree S21 (fun _ h => h) (hB.le A1_.1)
        have q22 := (S18.rd (k := 1) rfl).lenG (P := Try.prog) el_23
        simp [-aBin', -aBin, -aBinI, -aUn, -aNil, -flatV, n_fn, b_add, b_sub, b_mul, b_lt, b_le, b_gt, b_ge, b_eq, b_ne, u_not, e1_0, e1_1, e1_5, e1_6, a20.pre, q22]
        apply hK
        clear hK K
        simp only [andThen, leaves]
        refine DWp.block ?_
        obtain ⟨s23, hL24, hL12⟩ := bd_some hL12
        have S25 := S18.pick [0, 1] (by decide) rfl
        refine DWp.loop (fun n env G => ∃ l2_0 : List (List Int), ∃ y2_25 : Int, ∃ w2_0 : Value, ∃ D2_0 : List Value, F_spec_ahAll_L2 fu (F_spec_ahAll fu) x0 x1 y1_6 r1 (llen r1) n l2_0 y2_25 = some s23 ∧ Sep G (Fr H) [rowsC w2_0 22 3 D2_0 (List.map ints l2_0), rowsC c16_u0 22 3 c16_C0 (List.map ints r1)] ∧ AgB (Fr H) H G ∧ env 0 = some (Value.int .i64 x0) ∧ env 1 = some (Value.int .i64 x1) ∧ env 5 = some w2_0 ∧ env 6 = some (Value.int .i64 y1_6) ∧ env 23 = some c16_u0 ∧ env 24 = some (Value.int .i64 (llen r1)) ∧ env 25 = some (Value.int .i64 y2_25)) fu ⟨l1_0, 0, w1_0, D1_0, hL24, S25, A19, by simp [e1_0, e1_1, e1_5, e1_6], by simp [e1_0, e1_1, e1_5, e1_6], by simp [e1_0, e1_1, e1_5, e1_6], by simp [e1_0, e1_1, e1_5, e1_6], by simp [e1_0, e1_1, e1_5, e1_6], by simp [e1_0, e1_1, e1_5, e1_6], by simp [e1_0, e1_1, e1_5, e1_6]⟩ ?_
        rintro n2 env2 G2_ ⟨l2_0, y2_25, w2_0, D2_0, hL24, S2_, A2_, e2_0, e2_1, e2_5, e2_6, e2_23, e2_24, e2_25⟩
        cases n2 with
        | zero => cases hL24
        | succ n2 =>
          simp only [F_spec_ahAll_L2] at hL24
          refine DWp.seq ?_
          refine DWp.region fun K hK => ?_
          simp [-aBin', -aBin, -aBinI, -aUn, -aNil, -flatV, n_fn, b_add, b_sub, b_mul, b_lt, b_le, b_gt, b_ge, b_eq, b_ne, u_not, e2_0, e2_1, e2_5, e2_6, e2_23, e2_24, e2_25]
          apply hK
          clear hK K
          simp only [andThen, leaves]
          refine DWp.seq ?_
          refine DWp.cond' (t := (ilt y2_25 (llen r1))) (by simp [e2_0, e2_1, e2_5, e2_6, e2_23, e2_24, e2_25]) (fun hb26 => ?_) (fun hb26 => ?_)
          · replace hL24 := cd_t hb26 hL24
            refine DWp.skip ?_
            simp only [andThen, leaves]
            refine DWp.seq ?_
            refine DWp.block ?_
            refine DWp.seq ?_
            obtain ⟨g27, hL24⟩ := gd_some hL24
            have q28 := (S2_.rd (k := 1) rfl).idxG (P := Try.prog) (kk := .i64) el_23 sz_22 g27
            have q29 := (S2_.rd (k := 1) rfl).loadG (P := Try.prog) sz_22 ag_22 g27
            refine DWp.region fun K hK => ?_
            simp [-aBin', -aBin, -aBinI, -aUn, -aNil, -flatV, n_fn, b_add, b_sub, b_mul, b_lt, b_le, b_gt, b_ge, b_eq, b_ne, u_not, e2_0, e2_1, e2_5, e2_6, e2_23, e2_24, e2_25, q28, q29]
            apply hK
            clear hK K
            simp only [andThen, leaves]
            refine DWp.seq ?_
            obtain ⟨r2, hc30, hL24⟩ := bd_some hL24
            refine DWp.region fun K hK => ?_
            simp [-aBin', -aBin, -aBinI, -aUn, -aNil, -flatV, n_fn, b_add, b_sub, b_mul, b_lt, b_le, b_gt, b_ge, b_eq, b_ne, u_not, e2_0, e2_1, e2_5, e2_6, e2_23, e2_24, e2_25]
            refine CallD.t (ih  hc30) ?_
            rintro c31_u0 G32 ⟨a35, _, c31_C0, rfl, S36⟩
            have A34 := A2_.ext (hB.le A2_.1) a35.agree
            have S33 : Sep G32 (Fr H) [rowsC w2_0 22 3 D2_0 (List.map ints l2_0), rowsC c16_u0 22 3 c16_C0 (List.map ints r1), rowsC c31_u0 22 3 c31_C0 (List.map ints r2)] := S2_.app a35.agree S36 (fun _ h => h) (hB.le A2_.1)
            have q37 := (S33.rd (k := 2) rfl).lenG (P := Try.prog) el_23
            simp [-aBin', -aBin, -aBinI, -aUn, -aNil, -flatV, n_fn, b_add, b_sub, b_mul, b_lt, b_le, b_gt, b_ge, b_eq, b_ne, u_not, e2_0, e2_1, e2_5, e2_6, e2_23, e2_24, e2_25, a35.pre, q37]
            apply hK
            clear hK K
            simp only [andThen, leaves]
            refine DWp.block ?_
            obtain ⟨s38, hL39, hL24⟩ := bd_some hL24
            have S40 := S33.pick [0, 1, 2] (by decide) rfl
            refine DWp.loop (fun n env G => ∃ l3_0 : List (List Int), ∃ y3_40 : Int, ∃ w3_0 : Value, ∃ D3_0 : List Value, F_spec_ahAll_L3 fu (F_spec_ahAll fu) x0 x1 y1_6 (gat [] r1 y2_25) r1 (llen r1) y2_25 r2 (llen r2) n l3_0 y3_40 = some s38 ∧ Sep G (Fr H) [rowsC w3_0 22 3 D3_0 (List.map ints l3_0), rowsC c16_u0 22 3 c16_C0 (List.map ints r1), rowsC c31_u0 22 3 c31_C0 (List.map ints r2)] ∧ AgB (Fr H) H G ∧ env 0 = some (Value.int .i64 x0) ∧ env 1 = some (Value.int .i64 x1) ∧ env 5 = some w3_0 ∧ env 6 = some (Value.int .i64 y1_6) ∧ env 8 = some (gat nilV c16_C0 y2_25) ∧ env 23 = some c16_u0 ∧ env 24 = some (Value.int .i64 (llen r1)) ∧ env 25 = some (Value.int .i64 y2_25) ∧ env 38 = some c31_u0 ∧ env 39 = some (Value.int .i64 (llen r2)) ∧ env 40 = some (Value.int .i64 y3_40)) fu ⟨l2_0, 0, w2_0, D2_0, hL39, S40, A34, by simp [e2_0, e2_1, e2_5, e2_6, e2_23, e2_24, e2_25], by simp [e2_0, e2_1, e2_5, e2_6, e2_23, e2_24, e2_25], by simp [e2_0, e2_1, e2_5, e2_6, e2_23, e2_24, e2_25], by simp [e2_0, e2_1, e2_5, e2_6, e2_23, e2_24, e2_25], by simp [e2_0, e2_1, e2_5, e2_6, e2_23, e2_24, e2_25], by simp [e2_0, e2_1, e2_5, e2_6, e2_23, e2_24, e2_25], by simp [e2_0, e2_1, e2_5, e2_6, e2_23, e2_24, e2_25], by simp [e2_0, e2_1, e2_5, e2_6, e2_23, e2_24, e2_25], by simp [e2_0, e2_1, e2_5, e2_6, e2_23, e2_24, e2_25], by simp [e2_0, e2_1, e2_5, e2_6, e2_23, e2_24, e2_25], by simp [e2_0, e2_1, e2_5, e2_6, e2_23, e2_24, e2_25]⟩ ?_
            rintro n3 env3 G3_ ⟨l3_0, y3_40, w3_0, D3_0, hL39, S3_, A3_, e3_0, e3_1, e3_5, e3_6, e3_8, e3_23, e3_24, e3_25, e3_38, e3_39, e3_40⟩
            cases n3 with
            | zero => cases hL39
            | succ n3 =>
              simp only [F_spec_ahAll_L3] at hL39
              refine DWp.seq ?_
              refine DWp.region fun K hK => ?_
              simp [-aBin', -aBin, -aBinI, -aUn, -aNil, -flatV, n_fn, b_add, b_sub, b_mul, b_lt, b_le, b_gt, b_ge, b_eq, b_ne, u_not, e3_0, e3_1, e3_5, e3_6, e3_8, e3_23, e3_24, e3_25, e3_38, e3_39, e3_40]
              apply hK
              clear hK K
              simp only [andThen, leaves]
              refine DWp.seq ?_
              refine DWp.cond' (t := (ilt y3_40 (llen r2))) (by simp [e3_0, e3_1, e3_5, e3_6, e3_8, e3_23, e3_24, e3_25, e3_38, e3_39, e3_40]) (fun hb41 => ?_) (fun hb41 => ?_)
              · replace hL39 := cd_t hb41 hL39
                refine DWp.skip ?_
                simp only [andThen, leaves]
                refine DWp.seq ?_
                refine DWp.block ?_
                refine DWp.seq ?_
                obtain ⟨g42, hL39⟩ := gd_some hL39
                have q43 := (S3_.rd (k := 2) rfl).idxG (P := Try.prog) (kk := .i64) el_23 sz_22 g42
                have q44 := (S3_.rd (k := 2) rfl).loadG (P := Try.prog) sz_22 ag_22 g42
                refine DWp.region fun K hK => ?_
                simp [-aBin', -aBin, -aBinI, -aUn, -aNil, -flatV, n_fn, b_add, b_sub, b_mul, b_lt, b_le, b_gt, b_ge, b_eq, b_ne, u_not, e3_0, e3_1, e3_5, e3_6, e3_8, e3_23, e3_24, e3_25, e3_38, e3_39, e3_40, q43, q44]
                apply hK
                clear hK K
                simp only [andThen, leaves]
                refine DWp.seq ?_
                obtain ⟨v45, G46, q47, S48, a50, _, _⟩ := S3_.lit1 (P := Try.prog) (t := 22) (hB.le A3_.1) el_22 ei_3 rfl (Value.int .i64 (iadd .i64 (iadd .i64 x1 (imul .i64 2 y1_6)) 1)) rfl rfl
                have A49 := A3_.ext (hB.le A3_.1) a50
                replace S48 : Sep G46 (Fr H) [rowsC w3_0 22 3 D3_0 (List.map ints l3_0), rowsC c16_u0 22 3 c16_C0 (List.map ints r1), rowsC c31_u0 22 3 c31_C0 (List.map ints r2), flat1 v45 3 (ints [(iadd .i64 (iadd .i64 x1 (imul .i64 2 y1_6)) 1)])] := S48
                obtain ⟨g52, hL39⟩ := gd_some hL39
                obtain ⟨v58, G53, q54, S55, a57, _, _⟩ := S48.append1 (f := (Value.int .i64)) (xs := [(iadd .i64 (iadd .i64 x1 (imul .i64 2 y1_6)) 1)]) (ys := (gat [] r1 y2_25)) (P := Try.prog) (t := 22) (t2 := 22) (k := 3) rfl (hB.le A49.1) el_22 el_22 ei_3 rfl ((S48.rd (k := 1) rfl).rowAt [] g27) g52
                have A56 := A49.trans a57
                replace S55 : Sep G53 (Fr H) [rowsC w3_0 22 3 D3_0 (List.map ints l3_0), rowsC c16_u0 22 3 c16_C0 (List.map ints r1), rowsC c31_u0 22 3 c31_C0 (List.map ints r2), flat v58 3 (ints (lapp [(iadd .i64 (iadd .i64 x1 (imul .i64 2 y1_6)) 1)] (gat [] r1 y2_25)))] := S55
                refine DWp.region fun K hK => ?_
                simp [-aBin', -aBin, -aBinI, -aUn, -aNil, -flatV, n_fn, b_add, b_sub, b_mul, b_lt, b_le, b_gt, b_ge, b_eq, b_ne, u_not, e3_0, e3_1, e3_5, e3_6, e3_8, e3_23, e3_24, e3_25, e3_38, e3_39, e3_40, q47, a50.to_pre, q54]
                apply hK
                clear hK K
                simp only [andThen, leaves]
                refine DWp.seq ?_
                obtain ⟨v59, G60, q61, S62, a64, _, _⟩ := S55.lit1 (P := Try.prog) (t := 22) (hB.le A56.1) el_22 ei_3 rfl (Value.int .i64 x1) rfl rfl
                have A63 := A56.ext (hB.le A56.1) a64
                replace S62 : Sep G60 (Fr H) [rowsC w3_0 22 3 D3_0 (List.map ints l3_0), rowsC c16_u0 22 3 c16_C0 (List.map ints r1), rowsC c31_u0 22 3 c31_C0 (List.map ints r2), flat v58 3 (ints (lapp [(iadd .i64 (iadd .i64 x1 (imul .i64 2 y1_6)) 1)] (gat [] r1 y2_25))), flat1 v59 3 (ints [x1])] := S62
                obtain ⟨g66, hL39⟩ := gd_some hL39
                obtain ⟨v72, G67, q68, S69, a71, _, _⟩ := S62.appendG (f := (Value.int .i64)) (xs := (lapp [(iadd .i64 (iadd .i64 x1 (imul .i64 2 y1_6)) 1)] (gat [] r1 y2_25))) (ys := [x1]) (P := Try.prog) (t := 22) (t2 := 22) (k := 3) rfl (hB.le A63.1) el_22 el_22 ei_3 rfl (S62.sl1 (k := 4) rfl) g66
                have A70 := A63.trans a71
                replace S69 : Sep G67 (Fr H) [rowsC w3_0 22 3 D3_0 (List.map ints l3_0), rowsC c16_u0 22 3 c16_C0 (List.map ints r1), rowsC c31_u0 22 3 c31_C0 (List.map ints r2), flat v72 3 (ints (lapp (lapp [(iadd .i64 (iadd .i64 x1 (imul .i64 2 y1_6)) 1)] (gat [] r1 y2_25)) [x1])), flat1 v59 3 (ints [x1])] := S69
                obtain ⟨g73, hL39⟩ := gd_some hL39
                obtain ⟨v79, G74, q75, S76, a78, _, _⟩ := S69.appendG (f := (Value.int .i64)) (xs := (lapp (lapp [(iadd .i64 (iadd .i64 x1 (imul .i64 2 y1_6)) 1)] (gat [] r1 y2_25)) [x1])) (ys := (gat [] r2 y3_40)) (P := Try.prog) (t := 22) (t2 := 22) (k := 3) rfl (hB.le A70.1) el_22 el_22 ei_3 rfl ((S69.rd (k := 2) rfl).rowAt [] g42) g73
                have A77 := A70.trans a78
                replace S76 : Sep G74 (Fr H) [rowsC w3_0 22 3 D3_0 (List.map ints l3_0), rowsC c16_u0 22 3 c16_C0 (List.map ints r1), rowsC c31_u0 22 3 c31_C0 (List.map ints r2), flat v79 3 (ints (lapp (lapp (lapp [(iadd .i64 (iadd .i64 x1 (imul .i64 2 y1_6)) 1)] (gat [] r1 y2_25)) [x1]) (gat [] r2 y3_40))), flat1 v59 3 (ints [x1])] := S76
                refine DWp.region fun K hK => ?_
                simp [-aBin', -aBin, -aBinI, -aUn, -aNil, -flatV, n_fn, b_add, b_sub, b_mul, b_lt, b_le, b_gt, b_ge, b_eq, b_ne, u_not, e3_0, e3_1, e3_5, e3_6, e3_8, e3_23, e3_24, e3_25, e3_38, e3_39, e3_40, q61, a64.to_pre, q68, q75]
                apply hK
                clear hK K
                simp only [andThen, leaves]
                obtain ⟨v80, G81, q82, S83, a85, _, _⟩ := S76.lit1 (P := Try.prog) (t := 23) (hB.le A77.1) el_23 ei_22 rfl v79 ((S76.sl (k := 3) rfl).tup) ((S76.sl (k := 3) rfl).one)
                have A84 := A77.ext (hB.le A77.1) a85
                replace S83 : Sep G81 (Fr H) [rowsC w3_0 22 3 D3_0 (List.map ints l3_0), rowsC c16_u0 22 3 c16_C0 (List.map ints r1), rowsC c31_u0 22 3 c31_C0 (List.map ints r2), flat v79 3 (ints (lapp (lapp (lapp [(iadd .i64 (iadd .i64 x1 (imul .i64 2 y1_6)) 1)] (gat [] r1 y2_25)) [x1]) (gat [] r2 y3_40))), flat1 v59 3 (ints [x1]), flat1 v80 22 [v79]] := S83
                obtain ⟨g86, hL39⟩ := gd_some hL39
                obtain ⟨v92, G87, q88, S89, a91, q88t, _⟩ := S83.pushRow (u := w3_0) (fr := ints) (X := l3_0) (y := (lapp (lapp (lapp [(iadd .i64 (iadd .i64 x1 (imul .i64 2 y1_6)) 1)] (gat [] r1 y2_25)) [x1]) (gat [] r2 y3_40))) (P := Try.prog) (t := 23) (t2 := 23) (j := 0) (k := 3) (by decide) rfl rfl (hB.le A84.1) el_23 el_23 ei_22 rfl (S83.sl1 (k := 5) rfl) g86
                have A90 := A84.trans a91
                replace S89 : Sep G87 (Fr H) [rowsC v92 22 3 (D3_0 ++ [v79]) (List.map ints (lapp l3_0 [(lapp (lapp (lapp [(iadd .i64 (iadd .i64 x1 (imul .i64 2 y1_6)) 1)] (gat [] r1 y2_25)) [x1]) (gat [] r2 y3_40))])), rowsC c16_u0 22 3 c16_C0 (List.map ints r1), rowsC c31_u0 22 3 c31_C0 (List.map ints r2), emp, flat1 v59 3 (ints [x1]), flat1 v80 22 [v79]] := S89
                have q93 := S89.lastV (fr := ints) (k := 0) rfl
                try simp only [List.cons_append, List.nil_append] at q93
                refine DWp.region fun K hK => ?_
                simp [-aBin', -aBin, -aBinI, -aUn, -aNil, -flatV, n_fn, b_add, b_sub, b_mul, b_lt, b_le, b_gt, b_ge, b_eq, b_ne, u_not, e3_0, e3_1, e3_5, e3_6, e3_8, e3_23, e3_24, e3_25, e3_38, e3_39, e3_40, q93, q82, a85.to_pre, ((S76.sl (k := 3) rfl).tup), q88, q88t]
                apply hK
                clear hK K
                simp only [andThen, leaves]
                refine DWp.region fun K hK => ?_
                simp [-aBin', -aBin, -aBinI, -aUn, -aNil, -flatV, n_fn, b_add, b_sub, b_mul, b_lt, b_le, b_gt, b_ge, b_eq, b_ne, u_not, e3_0, e3_1, e3_5, e3_6, e3_8, e3_23, e3_24, e3_25, e3_38, e3_39, e3_40, q93]
                apply hK
                clear hK K
                simp only [andThen, leaves]
                have S94 := S89.pick [0, 1, 2] (by decide) rfl
                exact ⟨n3, Nat.lt_succ_self _, (lapp l3_0 [(lapp (lapp (lapp [(iadd .i64 (iadd .i64 x1 (imul .i64 2 y1_6)) 1)] (gat [] r1 y2_25)) [x1]) (gat [] r2 y3_40))]), (iadd .i64 y3_40 1), v92, (D3_0 ++ [v79]), hL39, S94, A90, by simp [e3_0, e3_1, e3_5, e3_6, e3_8, e3_23, e3_24, e3_25, e3_38, e3_39, e3_40, q93], by simp [e3_0, e3_1, e3_5, e3_6, e3_8, e3_23, e3_24, e3_25, e3_38, e3_39, e3_40, q93], by simp [e3_0, e3_1, e3_5, e3_6, e3_8, e3_23, e3_24, e3_25, e3_38, e3_39, e3_40, q93], by simp [e3_0, e3_1, e3_5, e3_6, e3_8, e3_23, e3_24, e3_25, e3_38, e3_39, e3_40, q93], by simp [e3_0, e3_1, e3_5, e3_6, e3_8, e3_23, e3_24, e3_25, e3_38, e3_39, e3_40, q93], by simp [e3_0, e3_1, e3_5, e3_6, e3_8, e3_23, e3_24, e3_25, e3_38, e3_39, e3_40, q93], by simp [e3_0, e3_1, e3_5, e3_6, e3_8, e3_23, e3_24, e3_25, e3_38, e3_39, e3_40, q93], by simp [e3_0, e3_1, e3_5, e3_6, e3_8, e3_23, e3_24, e3_25, e3_38, e3_39, e3_40, q93], by simp [e3_0, e3_1, e3_5, e3_6, e3_8, e3_23, e3_24, e3_25, e3_38, e3_39, e3_40, q93], by simp [e3_0, e3_1, e3_5, e3_6, e3_8, e3_23, e3_24, e3_25, e3_38, e3_39, e3_40, q93], by simp [e3_0, e3_1, e3_5, e3_6, e3_8, e3_23, e3_24, e3_25, e3_38, e3_39, e3_40, q93]⟩
              · replace hL39 := cd_f hb41 hL39
                refine DWp.exit ?_
                simp only [andThen, leaves, if_true, if_false, reduceIte, Nat.reduceEqDiff]
                obtain rfl := Option.some.inj hL39
                try dsimp only at hL24
                refine DWp.region fun K hK => ?_
                simp [-aBin', -aBin, -aBinI, -aUn, -aNil, -flatV, n_fn, b_add, b_sub, b_mul, b_lt, b_le, b_gt, b_ge, b_eq, b_ne, u_not, e3_0, e3_1, e3_5, e3_6, e3_8, e3_23, e3_24, e3_25, e3_38, e3_39, e3_40]
                apply hK
                clear hK K
                simp only [andThen, leaves]
                have S95 := S3_.pick [0, 1] (by decide) rfl
                exact ⟨n2, Nat.lt_succ_self _, l3_0, (iadd .i64 y2_25 1), w3_0, D3_0, hL24, S95, A3_, by simp [e3_0, e3_1, e3_5, e3_6, e3_8, e3_23, e3_24, e3_25, e3_38, e3_39, e3_40], by simp [e3_0, e3_1, e3_5, e3_6, e3_8, e3_23, e3_24, e3_25, e3_38, e3_39, e3_40], by simp [e3_0, e3_1, e3_5, e3_6, e3_8, e3_23, e3_24, e3_25, e3_38, e3_39, e3_40], by simp [e3_0, e3_1, e3_5, e3_6, e3_8, e3_23, e3_24, e3_25, e3_38, e3_39, e3_40], by simp [e3_0, e3_1, e3_5, e3_6, e3_8, e3_23, e3_24, e3_25, e3_38, e3_39, e3_40], by simp [e3_0, e3_1, e3_5, e3_6, e3_8, e3_23, e3_24, e3_25, e3_38, e3_39, e3_40], by simp [e3_0, e3_1, e3_5, e3_6, e3_8, e3_23, e3_24, e3_25, e3_38, e3_39, e3_40]⟩
          · replace hL24 := cd_f hb26 hL24
            refine DWp.exit ?_
            simp only [andThen, leaves, if_true, if_false, reduceIte, Nat.reduceEqDiff]
            obtain rfl := Option.some.inj hL24
            try dsimp only at hL12
            refine DWp.region fun K hK => ?_
            simp [-aBin', -aBin, -aBinI, -aUn, -aNil, -flatV, n_fn, b_add, b_sub, b_mul, b_lt, b_le, b_gt, b_ge, b_eq, b_ne, u_not, e2_0, e2_1, e2_5, e2_6, e2_23, e2_24, e2_25]
            apply hK
            clear hK K
            simp only [andThen, leaves]
            have S96 := S2_.pick [0] (by decide) rfl
            exact ⟨n1, Nat.lt_succ_self _, l2_0, (iadd .i64 y1_6 1), w2_0, D2_0, hL12, S96, A2_, by simp [e2_0, e2_1, e2_5, e2_6, e2_23, e2_24, e2_25], by simp [e2_0, e2_1, e2_5, e2_6, e2_23, e2_24, e2_25], by simp [e2_0, e2_1, e2_5, e2_6, e2_23, e2_24, e2_25], by simp [e2_0, e2_1, e2_5, e2_6, e2_23, e2_24, e2_25]⟩
      · replace hL12 := cd_f hb14 hL12
        refine DWp.exit ?_
        simp only [andThen, leaves, if_true, if_false, reduceIte, Nat.reduceEqDiff]
        obtain rfl := Option.some.inj hL12
        try dsimp only at hF
        refine DWp.seq ?_
        refine DWp.region fun K hK => ?_
        simp [-aBin', -aBin, -aBinI, -aUn, -aNil, -flatV, n_fn, b_add, b_sub, b_mul, b_lt, b_le, b_gt, b_ge, b_eq, b_ne, u_not, e1_0, e1_1, e1_5, e1_6]
        apply hK
        clear hK K
        simp only [andThen, leaves]
        refine DWp.ret ?_
        obtain rfl := Option.some.inj hF
        exact ⟨by simp, [w1_0], by simp [e1_0, e1_1, e1_5, e1_6, ((S1_.rd (k := 0) rfl).tup)], A1_, w1_0, D1_0, rfl, S1_.pick [0] (by decide) rfl⟩
def F_spec_FarthestFrom_L1 (fu : Nat) (k1_0 : List Int) (k1_1 : List (List Int)) (k1_2 : Int) : Nat → Int → List (List Int) → Int → Option (Int × List (List Int) × Int)
  | 0, _, _, _ => none
  | n + 1, y1_4, l1_0, y1_22 =>
    bif (ilt y1_22 k1_2) then
      gd (inL k1_1 y1_22) (
      gd (k1_1.length ≤ 4294967296) (
      bd (F_spec_exDistance fu k1_0 (gat [] k1_1 y1_22)) fun r3 =>
      bd (
        bif (ilt y1_4 r3) then
          some (r3, [])
        else
          some (y1_4, l1_0)) fun s47 =>
      bif (ieq r3 s47.1) then
        gd (s47.2.length + 1 ≤ 4294967296) (
        F_spec_FarthestFrom_L1 fu k1_0 k1_1 k1_2 n s47.1 (lapp s47.2 [(gat [] k1_1 y1_22)]) (iadd .i64 y1_22 1))
      else
        F_spec_FarthestFrom_L1 fu k1_0 k1_1 k1_2 n s47.1 s47.2 (iadd .i64 y1_22 1)))
    else
      some (y1_4, l1_0, y1_22)
def F_spec_FarthestFrom (fu : Nat) (x0 : List Int) : Option (List (List Int) × Bool) :=
  bd (
    bd (F_spec_ahGood fu x0) fun r1 =>
    bif (bnot r1) then
      some true
    else
      some (ieq (llen x0) 0)) fun s1 =>
  bif s1 then
    some ([], false)
  else
    bd (F_spec_ahAll fu (iquo .i64 (llen x0) 2) 0) fun r2 =>
    bd (F_spec_FarthestFrom_L1 fu x0 r2 (llen r2) fu 0 (@List.nil (List Int)) 0) fun s1 =>
    some (s1.2.1, true)
theorem F_spec_FarthestFrom_w {fu : Nat} {H : AH} {v0 : Value} {x0 : List Int} {r : (List (List Int) × Bool)} (hx0 : Sl H v0 (ints x0)) (hF : F_spec_FarthestFrom fu x0 = some r) :
    ACallT Try.prog 37 [v0] H (fun u G => AgB (Fr H) H G ∧ ∃ u0 : Value, ∃ C0 : List Value, u = (Value.tuple #[u0, (Value.bool r.2)]) ∧ Sep G (Fr H) [rowsC u0 22 3 C0 (List.map ints r.1)]) := by
  refine ACallT.of_body (nt := 42) (rs := [.tmp 2, .tmp 3]) Try.func37 rfl rfl rfl rfl ?_
  have A0 : AgB (Fr H) H H := .refl _ _
  have S0 : Sep H (Fr H) [] := .nil
  have hB := Fr.up H
  unfold F_spec_FarthestFrom at hF
  refine DWp.seq ?_
  refine DWp.region fun K hK => ?_
  simp [-aBin', -aBin, -aBinI, -aUn, -aNil, -flatV, n_fn, b_add, b_sub, b_mul, b_lt, b_le, b_gt, b_ge, b_eq, b_ne, u_not]
  apply hK
  clear hK K
  simp only [andThen, leaves]
  refine DWp.seq ?_
  obtain ⟨s1, hL2, hF⟩ := bd_some hF
  refine DWp.seq (DWp.join (fun env G => Sep G (Fr H) [] ∧ AgB (Fr H) H G ∧ env 0 = some v0 ∧ env 16 = some (Value.bool s1)) ?_ ?_)
  ·
    obtain ⟨r1, hc4, hL2⟩ := bd_some hL2
    refine DWp.region fun K hK => ?_
    simp [-aBin', -aBin, -aBinI, -aUn, -aNil, -flatV, n_fn, b_add, b_sub, b_mul, b_lt, b_le, b_gt, b_ge, b_eq, b_ne, u_not, ((hx0.agree A0.agree).tup)]
    refine CallD.t (F_spec_ahGood_w (fu := fu) (hx0.agree A0.agree) hc4) ?_
    rintro _ G6 ⟨a9, rfl, S10⟩
    have A8 := A0.ext (hB.le A0.1) a9.agree
    have S7 : Sep G6 (Fr H) [] := S0.app a9.agree S10 (fun _ h => h) (hB.le A0.1)
    rcases Bool.eq_false_or_eq_true (bnot r1) with hb11 | hb11
    · replace hL2 := cd_t hb11 hL2
      simp [-aBin', -aBin, -aBinI, -aUn, -aNil, -flatV, n_fn, b_add, b_sub, b_mul, b_lt, b_le, b_gt, b_ge, b_eq, b_ne, u_not, hb11, a9.pre]
      apply hK
      clear hK K
      simp only [andThen, leaves]
      have S12 := S7.pick [] (by decide) rfl
      obtain rfl := Option.some.inj hL2
      exact ⟨S12, A8, by simp [], by simp []⟩
    · replace hL2 := cd_f hb11 hL2
      have q13 := lenG (P := Try.prog) (hx0.agree A8.agree) el_22
      simp [-aBin', -aBin, -aBinI, -aUn, -aNil, -flatV, n_fn, b_add, b_sub, b_mul, b_lt, b_le, b_gt, b_ge, b_eq, b_ne, u_not, hb11, a9.pre, q13]
      apply hK
      clear hK K
      simp only [andThen, leaves]
      have S14 := S7.pick [] (by decide) rfl
      obtain rfl := Option.some.inj hL2
      exact ⟨S14, A8, by simp [], by simp []⟩
  · rintro env Gj15 ⟨Sj15, Aj15, ej15_0, ej15_16⟩
    refine DWp.cond' (t := s1) (by simp [ej15_0, ej15_16]) (fun hb16 => ?_) (fun hb16 => ?_)
    · replace hF := cd_t hb16 hF
      refine DWp.seq ?_
      refine DWp.region fun K hK => ?_
      simp [-aBin', -aBin, -aBinI, -aUn, -aNil, -flatV, n_fn, b_add, b_sub, b_mul, b_lt, b_le, b_gt, b_ge, b_eq, b_ne, u_not, ej15_0, ej15_16]
      apply hK
      clear hK K
      simp only [andThen, leaves]
      refine DWp.ret ?_
      simp only [andThen, leaves]
      have S17 := Sj15.rowsNil (hB.le Aj15.1) 22 3
      obtain rfl := Option.some.inj hF
      exact ⟨by simp, [(Value.slice none 0 0), (Value.bool false)], by simp [ej15_0, ej15_16], Aj15, nilV, [], rfl, S17.pick [0] (by decide) rfl⟩
    · replace hF := cd_f hb16 hF
      refine DWp.skip ?_
      simp only [andThen, leaves]
      refine DWp.seq ?_
      refine DWp.region fun K hK => ?_
      simp [-aBin', -aBin, -aBinI, -aUn, -aNil, -flatV, n_fn, b_add, b_sub, b_mul, b_lt, b_le, b_gt, b_ge, b_eq, b_ne, u_not, ej15_0, ej15_16]
      apply hK
      clear hK K
      simp only [andThen, leaves]
      refine DWp.seq ?_
      refine DWp.region fun K hK => ?_
      simp [-aBin', -aBin, -aBinI, -aUn, -aNil, -flatV, n_fn, b_add, b_sub, b_mul, b_lt, b_le, b_gt, b_ge, b_eq, b_ne, u_not, ej15_0, ej15_16]
      apply hK
      clear hK K
      simp only [andThen, leaves]
      refine DWp.seq ?_
      refine DWp.seq ?_
      have q18 := lenG (P := Try.prog) (hx0.agree Aj15.agree) el_22
      have g19 : (2 : Int) ≠ 0 := by decide
      obtain ⟨r2, hc20, hF⟩ := bd_some hF
      refine DWp.region fun K hK => ?_
      simp [-aBin', -aBin, -aBinI, -aUn, -aNil, -flatV, n_fn, b_add, b_sub, b_mul, b_lt, b_le, b_gt, b_ge, b_eq, b_ne, u_not, ej15_0, ej15_16, q18, b_quo g19]
      refine CallD.t (F_spec_ahAll_w (fu := fu)  hc20) ?_
      rintro c21_u0 G22 ⟨a25, _, c21_C0, rfl, S26⟩
      have A24 := Aj15.ext (hB.le Aj15.1) a25.agree
      have S23 : Sep G22 (Fr H) [rowsC c21_u0 22 3 c21_C0 (List.map ints r2)] := Sj15.app a25.agree S26 (fun _ h => h) (hB.le Aj15.1)
      have q27 := (S23.rd (k := 0) rfl).lenG (P := Try.prog) el_23
      simp [-aBin', -aBin, -aBinI, -aUn, -aNil, -flatV, n_fn, b_add, b_sub, b_mul, b_lt, b_le, b_gt, b_ge, b_eq, b_ne, u_not, ej15_0, ej15_16, q18, b_quo g19, a25.pre, q27]
      apply hK
      clear hK K
      simp only [andThen, leaves]
      refine DWp.block ?_
      have S28 := S23.rowsNil (hB.le A24.1) 22 3
      have S29 : Sep G22 (Fr H) [rowsT c21_u0 22 3 c21_C0 (List.map ints r2) 0, rowsC (Value.slice none 0 0) 22 3 [] (List.map ints (@List.nil (List Int)))] := S28.toT (kk := 0) rfl
      obtain ⟨s30, hL31, hF⟩ := bd_some hF
      have S32 := S29.pick [1, 0] (by decide) rfl
      refine DWp.loop (fun n env G => ∃ y1_4 : Int, ∃ l1_0 : List (List Int), ∃ y1_22 : Int, ∃ w1_0 : Value, ∃ D1_0 : List Value, F_spec_FarthestFrom_L1 fu x0 r2 (llen r2) n y1_4 l1_0 y1_22 = some s30 ∧ Sep G (Fr H) [rowsC w1_0 22 3 D1_0 (List.map ints l1_0), rowsT c21_u0 22 3 c21_C0 (List.map ints r2) y1_22] ∧ AgB (Fr H) H G ∧ env 0 = some v0 ∧ env 4 = some (Value.int .i64 y1_4) ∧ env 5 = some w1_0 ∧ env 20 = some c21_u0 ∧ env 21 = some (Value.int .i64 (llen r2)) ∧ env 22 = some (Value.int .i64 y1_22)) fu ⟨0, (@List.nil (List Int)), 0, (Value.slice none 0 0), [], hL31, S32, A24, by simp [ej15_0, ej15_16], by simp [ej15_0, ej15_16], by simp [ej15_0, ej15_16], by simp [ej15_0, ej15_16], by simp [ej15_0, ej15_16], by simp [ej15_0, ej15_16]⟩ ?_
      rintro n1 env1 G1_ ⟨y1_4, l1_0, y1_22, w1_0, D1_0, hL31, S1_, A1_, e1_0, e1_4, e1_5, e1_20, e1_21, e1_22⟩
      cases n1 with
      | zero => cases hL31
      | succ n1 =>
        simp only [F_spec_FarthestFrom_L1] at hL31
        refine DWp.seq ?_
        refine DWp.region fun K hK => ?_
        simp [-aBin', -aBin, -aBinI, -aUn, -aNil, -flatV, n_fn, b_add, b_sub, b_mul, b_lt, b_le, b_gt, b_ge, b_eq, b_ne, u_not, e1_0, e1_4, e1_5, e1_20, e1_21, e1_22]
        apply hK
        clear hK K
        simp only [andThen, leaves]
        refine DWp.seq ?_
        refine DWp.cond' (t := (ilt y1_22 (llen r2))) (by simp [e1_0, e1_4, e1_5, e1_20, e1_21, e1_22]) (fun hb33 => ?_) (fun hb33 => ?_)
        · replace hL31 := cd_t hb33 hL31
          refine DWp.skip ?_
          simp only [andThen, leaves]
          refine DWp.seq ?_
          refine DWp.block ?_
          refine DWp.seq ?_
          obtain ⟨g34, hL31⟩ := gd_some hL31
          have q35 := S1_.idxT (P := Try.prog) (ki := .i64) (kk := 1) rfl el_23 sz_22 g34
          have q37 := S1_.loadT (P := Try.prog) (kk := 1) rfl sz_22 ag_22 g34
          obtain ⟨g38, hL31⟩ := gd_some hL31
          have S39 : Sep G1_ (Fr H) [rowsC w1_0 22 3 D1_0 (List.map ints l1_0), rowsT c21_u0 22 3 c21_C0 (List.map ints r2) (iadd .i64 y1_22 1), flat (gat nilV c21_C0 y1_22) 3 (ints (gat [] r2 y1_22))] := S1_.takeT (fr := ints) (kk := 1) rfl [] g34 g38
          refine DWp.region fun K hK => ?_
          simp [-aBin', -aBin, -aBinI, -aUn, -aNil, -flatV, n_fn, b_add, b_sub, b_mul, b_lt, b_le, b_gt, b_ge, b_eq, b_ne, u_not, e1_0, e1_4, e1_5, e1_20, e1_21, e1_22, q35, q37]
          apply hK
          clear hK K
          simp only [andThen, leaves]
          refine DWp.seq ?_
          obtain ⟨r3, hc40, hL31⟩ := bd_some hL31
          refine DWp.region fun K hK => ?_
          simp [-aBin', -aBin, -aBinI, -aUn, -aNil, -flatV, n_fn, b_add, b_sub, b_mul, b_lt, b_le, b_gt, b_ge, b_eq, b_ne, u_not, e1_0, e1_4, e1_5, e1_20, e1_21, e1_22, ((hx0.agree A1_.agree).tup), ((S39.sl (k := 2) rfl).tup)]
          refine CallD.t (F_spec_exDistance_w (fu := fu) (hx0.agree A1_.agree) (S39.sl (k := 2) rfl) hc40) ?_
          rintro _ G42 ⟨a45, rfl, S46⟩
          have A44 := A1_.ext (hB.le A1_.1) a45.agree
          have S43 : Sep G42 (Fr H) [rowsC w1_0 22 3 D1_0 (List.map ints l1_0), rowsT c21_u0 22 3 c21_C0 (List.map ints r2) (iadd .i64 y1_22 1), flat (gat nilV c21_C0 y1_22) 3 (ints (gat [] r2 y1_22))] := S39.app a45.agree S46 (fun _ h => h) (hB.le A1_.1)
          simp [-aBin', -aBin, -aBinI, -aUn, -aNil, -flatV, n_fn, b_add, b_sub, b_mul, b_lt, b_le, b_gt, b_ge, b_eq, b_ne, u_not, e1_0, e1_4, e1_5, e1_20, e1_21, e1_22, a45.pre]
          apply hK
          clear hK K
          simp only [andThen, leaves]
          obtain ⟨s47, hL48, hL31⟩ := bd_some hL31
          refine DWp.seq (DWp.join (fun env G => ∃ wj2_0 : Value, ∃ Dj2_0 : List Value, Sep G (Fr H) [rowsC wj2_0 22 3 Dj2_0 (List.map ints s47.2), flat (gat nilV c21_C0 y1_22) 3 (ints (gat [] r2 y1_22)), rowsT c21_u0 22 3 c21_C0 (List.map ints r2) (iadd .i64 y1_22 1)] ∧ AgB (Fr H) H G ∧ env 0 = some v0 ∧ env 4 = some (Value.int .i64 s47.1) ∧ env 5 = some wj2_0 ∧ env 7 = some (gat nilV c21_C0 y1_22) ∧ env 8 = some (Value.int .i64 r3) ∧ env 20 = some c21_u0 ∧ env 21 = some (Value.int .i64 (llen r2)) ∧ env 22 = some (Value.int .i64 y1_22)) ?_ ?_)
          ·
            refine DWp.seq ?_
            refine DWp.region fun K hK => ?_
            simp [-aBin', -aBin, -aBinI, -aUn, -aNil, -flatV, n_fn, b_add, b_sub, b_mul, b_lt, b_le, b_gt, b_ge, b_eq, b_ne, u_not, e1_0, e1_4, e1_5, e1_20, e1_21, e1_22]
            apply hK
            clear hK K
            simp only [andThen, leaves]
            refine DWp.cond' (t := (ilt y1_4 r3)) (by simp [e1_0, e1_4, e1_5, e1_20, e1_21, e1_22]) (fun hb50 => ?_) (fun hb50 => ?_)
            · replace hL48 := cd_t hb50 hL48
              refine DWp.seq ?_
              refine DWp.region fun K hK => ?_
              simp [-aBin', -aBin, -aBinI, -aUn, -aNil, -flatV, n_fn, b_add, b_sub, b_mul, b_lt, b_le, b_gt, b_ge, b_eq, b_ne, u_not, e1_0, e1_4, e1_5, e1_20, e1_21, e1_22]
              apply hK
              clear hK K
              simp only [andThen, leaves]
              refine DWp.region fun K hK => ?_
              simp [-aBin', -aBin, -aBinI, -aUn, -aNil, -flatV, n_fn, b_add, b_sub, b_mul, b_lt, b_le, b_gt, b_ge, b_eq, b_ne, u_not, e1_0, e1_4, e1_5, e1_20, e1_21, e1_22]
              apply hK
              clear hK K
              simp only [andThen, leaves]
              have S51 := S43.rowsNil (hB.le A44.1) 22 3
              have S52 := S51.pick [3, 2, 1] (by decide) rfl
              obtain rfl := Option.some.inj hL48
              exact ⟨(Value.slice none 0 0), [], S52, A44, by simp [e1_0, e1_4, e1_5, e1_20, e1_21, e1_22], by simp [e1_0, e1_4, e1_5, e1_20, e1_21, e1_22], by simp [e1_0, e1_4, e1_5, e1_20, e1_21, e1_22], by simp [e1_0, e1_4, e1_5, e1_20, e1_21, e1_22], by simp [e1_0, e1_4, e1_5, e1_20, e1_21, e1_22], by simp [e1_0, e1_4, e1_5, e1_20, e1_21, e1_22], by simp [e1_0, e1_4, e1_5, e1_20, e1_21, e1_22], by simp [e1_0, e1_4, e1_5, e1_20, e1_21, e1_22]⟩
            · replace hL48 := cd_f hb50 hL48
              refine DWp.skip ?_
              simp only [andThen, leaves]
              have S53 := S43.pick [0, 2, 1] (by decide) rfl
              obtain rfl := Option.some.inj hL48
              exact ⟨w1_0, D1_0, S53, A44, by simp [e1_0, e1_4, e1_5, e1_20, e1_21, e1_22], by simp [e1_0, e1_4, e1_5, e1_20, e1_21, e1_22], by simp [e1_0, e1_4, e1_5, e1_20, e1_21, e1_22], by simp [e1_0, e1_4, e1_5, e1_20, e1_21, e1_22], by simp [e1_0, e1_4, e1_5, e1_20, e1_21, e1_22], by simp [e1_0, e1_4, e1_5, e1_20, e1_21, e1_22], by simp [e1_0, e1_4, e1_5, e1_20, e1_21, e1_22], by simp [e1_0, e1_4, e1_5, e1_20, e1_21, e1_22]⟩
          · rintro env Gj54 ⟨wj2_0, Dj2_0, Sj54, Aj54, ej54_0, ej54_4, ej54_5, ej54_7, ej54_8, ej54_20, ej54_21, ej54_22⟩
            refine DWp.seq ?_
            refine DWp.region fun K hK => ?_
            simp [-aBin', -aBin, -aBinI, -aUn, -aNil, -flatV, n_fn, b_add, b_sub, b_mul, b_lt, b_le, b_gt, b_ge, b_eq, b_ne, u_not, ej54_0, ej54_4, ej54_5, ej54_7, ej54_8, ej54_20, ej54_21, ej54_22]
            apply hK
            clear hK K
            simp only [andThen, leaves]
            refine DWp.cond' (t := (ieq r3 s47.1)) (by simp [ej54_0, ej54_4, ej54_5, ej54_7, ej54_8, ej54_20, ej54_21, ej54_22]) (fun hb55 => ?_) (fun hb55 => ?_)
            · replace hL31 := cd_t hb55 hL31
              obtain ⟨v56, G57, q58, S59, a61, _, _⟩ := Sj54.lit1 (P := Try.prog) (t := 23) (hB.le Aj54.1) el_23 ei_22 rfl (gat nilV c21_C0 y1_22) ((Sj54.sl (k := 1) rfl).tup) ((Sj54.sl (k := 1) rfl).one)
              have A60 := Aj54.ext (hB.le Aj54.1) a61
              replace S59 : Sep G57 (Fr H) [rowsC wj2_0 22 3 Dj2_0 (List.map ints s47.2), flat (gat nilV c21_C0 y1_22) 3 (ints (gat [] r2 y1_22)), rowsT c21_u0 22 3 c21_C0 (List.map ints r2) (iadd .i64 y1_22 1), flat1 v56 22 [(gat nilV c21_C0 y1_22)]] := S59
              obtain ⟨g62, hL31⟩ := gd_some hL31
              obtain ⟨v68, G63, q64, S65, a67, q64t, _⟩ := S59.pushRow (u := wj2_0) (fr := ints) (X := s47.2) (y := (gat [] r2 y1_22)) (P := Try.prog) (t := 23) (t2 := 23) (j := 0) (k := 1) (by decide) rfl rfl (hB.le A60.1) el_23 el_23 ei_22 rfl (S59.sl1 (k := 3) rfl) g62
              have A66 := A60.trans a67
              replace S65 : Sep G63 (Fr H) [rowsC v68 22 3 (Dj2_0 ++ [(gat nilV c21_C0 y1_22)]) (List.map ints (lapp s47.2 [(gat [] r2 y1_22)])), emp, rowsT c21_u0 22 3 c21_C0 (List.map ints r2) (iadd .i64 y1_22 1), flat1 v56 22 [(gat nilV c21_C0 y1_22)]] := S65
              have q69 := S65.lastV (fr := ints) (k := 0) rfl
              try simp only [List.cons_append, List.nil_append] at q69
              refine DWp.region fun K hK => ?_
              simp [-aBin', -aBin, -aBinI, -aUn, -aNil, -flatV, n_fn, b_add, b_sub, b_mul, b_lt, b_le, b_gt, b_ge, b_eq, b_ne, u_not, ej54_0, ej54_4, ej54_5, ej54_7, ej54_8, ej54_20, ej54_21, ej54_22, q69, q58, a61.to_pre, ((Sj54.sl (k := 1) rfl).tup), q64, q64t]
              apply hK
              clear hK K
              simp only [andThen, leaves]
              refine DWp.region fun K hK => ?_
              simp [-aBin', -aBin, -aBinI, -aUn, -aNil, -flatV, n_fn, b_add, b_sub, b_mul, b_lt, b_le, b_gt, b_ge, b_eq, b_ne, u_not, ej54_0, ej54_4, ej54_5, ej54_7, ej54_8, ej54_20, ej54_21, ej54_22, q69]
              apply hK
              clear hK K
              simp only [andThen, leaves]
              have S70 := S65.pick [0, 2] (by decide) rfl
              exact ⟨n1, Nat.lt_succ_self _, s47.1, (lapp s47.2 [(gat [] r2 y1_22)]), (iadd .i64 y1_22 1), v68, (Dj2_0 ++ [(gat nilV c21_C0 y1_22)]), hL31, S70, A66, by simp [ej54_0, ej54_4, ej54_5, ej54_7, ej54_8, ej54_20, ej54_21, ej54_22, q69], by simp [ej54_0, ej54_4, ej54_5, ej54_7, ej54_8, ej54_20, ej54_21, ej54_22, q69], by simp [ej54_0, ej54_4, ej54_5, ej54_7, ej54_8, ej54_20, ej54_21, ej54_22, q69], by simp [ej54_0, ej54_4, ej54_5, ej54_7, ej54_8, ej54_20, ej54_21, ej54_22, q69], by simp [ej54_0, ej54_4, ej54_5, ej54_7, ej54_8, ej54_20, ej54_21, ej54_22, q69], by simp [ej54_0, ej54_4, ej54_5, ej54_7, ej54_8, ej54_20, ej54_21, ej54_22, q69]⟩
            · replace hL31 := cd_f hb55 hL31
              refine DWp.skip ?_
              simp only [andThen, leaves]
              refine DWp.region fun K hK => ?_
              simp [-aBin', -aBin, -aBinI, -aUn, -aNil, -flatV, n_fn, b_add, b_sub, b_mul, b_lt, b_le, b_gt, b_ge, b_eq, b_ne, u_not, ej54_0, ej54_4, ej54_5, ej54_7, ej54_8, ej54_20, ej54_21, ej54_22]
              apply hK
              clear hK K
              simp only [andThen, leaves]
              have S71 := Sj54.pick [0, 2] (by decide) rfl
              exact ⟨n1, Nat.lt_succ_self _, s47.1, s47.2, (iadd .i64 y1_22 1), wj2_0, Dj2_0, hL31, S71, Aj54, by simp [ej54_0, ej54_4, ej54_5, ej54_7, ej54_8, ej54_20, ej54_21, ej54_22], by simp [ej54_0, ej54_4, ej54_5, ej54_7, ej54_8, ej54_20, ej54_21, ej54_22], by simp [ej54_0, ej54_4, ej54_5, ej54_7, ej54_8, ej54_20, ej54_21, ej54_22], by simp [ej54_0, ej54_4, ej54_5, ej54_7, ej54_8, ej54_20, ej54_21, ej54_22], by simp [ej54_0, ej54_4, ej54_5, ej54_7, ej54_8, ej54_20, ej54_21, ej54_22], by simp [ej54_0, ej54_4, ej54_5, ej54_7, ej54_8, ej54_20, ej54_21, ej54_22]⟩
        · replace hL31 := cd_f hb33 hL31
          refine DWp.exit ?_
          simp only [andThen, leaves, if_true, if_false, reduceIte, Nat.reduceEqDiff]
          obtain rfl := Option.some.inj hL31
          try dsimp only at hF
          refine DWp.seq ?_
          refine DWp.region fun K hK => ?_
          simp [-aBin', -aBin, -aBinI, -aUn, -aNil, -flatV, n_fn, b_add, b_sub, b_mul, b_lt, b_le, b_gt, b_ge, b_eq, b_ne, u_not, e1_0, e1_4, e1_5, e1_20, e1_21, e1_22]
          apply hK
          clear hK K
          simp only [andThen, leaves]
          refine DWp.ret ?_
          obtain rfl := Option.some.inj hF
          exact ⟨by simp, [w1_0, (Value.bool true)], by simp [e1_0, e1_4, e1_5, e1_20, e1_21, e1_22, ((S1_.rd (k := 0) rfl).tup)], A1_, w1_0, D1_0, rfl, S1_.pick [0] (by decide) rfl⟩
def F_impl_covered_L1 (fu : Nat) (k1_0 : List Int) (k1_1 : Int) : Nat → List Int → Int → Option (List Int × Int)
  | 0, _, _ => none
  | n + 1, l1_0, y1_12 =>
    bif (ilt y1_12 k1_1) then
      gd (inL k1_0 y1_12) (
      gd (l1_0.length + [(iadd .i64 (gat 0 k1_0 y1_12) 1)].length ≤ 4294967296) (
      F_impl_covered_L1 fu k1_0 k1_1 n (lapp l1_0 [(iadd .i64 (gat 0 k1_0 y1_12) 1)]) (iadd .i64 y1_12 1)))
    else
      some (l1_0, y1_12)
def F_impl_covered (fu : Nat) (x0 : List Int) : Option (List Int) :=
  bd (F_impl_covered_L1 fu x0 (llen x0) fu [(iadd .i64 (llen x0) 1)] 0) fun s1 =>
  gd (s1.1.length + [0].length ≤ 4294967296) (
  some (lapp s1.1 [0]))
theorem F_impl_covered_w {fu : Nat} {H : AH} {v0 : Value} {x0 : List Int} {r : (List Int)} (hx0 : Sl H v0 (ints x0)) (hF : F_impl_covered fu x0 = some r) :
    ACallT Try.prog 107 [v0] H (fun u G => AgB (Fr H) H G ∧ ∃ u0 : Value, u = u0 ∧ Sep G (Fr H) [flat u0 3 (ints r)]) := by
  refine ACallT.of_body (nt := 25) (rs := [.tmp 2]) Try.func107 rfl rfl rfl rfl ?_
  have A0 : AgB (Fr H) H H := .refl _ _
  have S0 : Sep H (Fr H) [] := .nil
  have hB := Fr.up H
  unfold F_impl_covered at hF
  refine DWp.seq ?_
  refine DWp.region fun K hK => ?_
  simp [-aBin', -aBin, -aBinI, -aUn, -aNil, -flatV, n_fn, b_add, b_sub, b_mul, b_lt, b_le, b_gt, b_ge, b_eq, b_ne, u_not]
  apply hK
  clear hK K
  simp only [andThen, leaves]
  refine DWp.seq ?_
  have q1 := lenG (P := Try.prog) (hx0.agree A0.agree) el_22
  obtain ⟨v2, G3, q4, S5, a7, _, _⟩ := S0.lit1 (P := Try.prog) (t := 22) (hB.le A0.1) el_22 ei_3 rfl (Value.int .i64 (iadd .i64 (llen x0) 1)) rfl rfl
  have A6 := A0.ext (hB.le A0.1) a7
  replace S5 : Sep G3 (Fr H) [flat1 v2 3 (ints [(iadd .i64 (llen x0) 1)])] := S5
  refine DWp.region fun K hK => ?_
  simp [-aBin', -aBin, -aBinI, -aUn, -aNil, -flatV, n_fn, b_add, b_sub, b_mul, b_lt, b_le, b_gt, b_ge, b_eq, b_ne, u_not, q1, q4, a7.to_pre]
  apply hK
  clear hK K
  simp only [andThen, leaves]
  refine DWp.seq ?_
  refine DWp.seq ?_
  have q9 := lenG (P := Try.prog) (hx0.agree A6.agree) el_22
  refine DWp.region fun K hK => ?_
  simp [-aBin', -aBin, -aBinI, -aUn, -aNil, -flatV, n_fn, b_add, b_sub, b_mul, b_lt, b_le, b_gt, b_ge, b_eq, b_ne, u_not, q9]
  apply hK
  clear hK K
  simp only [andThen, leaves]
  refine DWp.block ?_
  obtain ⟨s10, hL11, hF⟩ := bd_some hF
  have S12 := S5.pick [0] (by decide) rfl
  have S13 := S12.weak (k := 0) rfl
  refine DWp.loop (fun n env G => ∃ l1_0 : List Int, ∃ y1_12 : Int, ∃ w1_0 : Value, F_impl_covered_L1 fu x0 (llen x0) n l1_0 y1_12 = some s10 ∧ Sep G (Fr H) [flat w1_0 3 (ints l1_0)] ∧ AgB (Fr H) H G ∧ env 3 = some w1_0 ∧ env 10 = some v0 ∧ env 11 = some (Value.int .i64 (llen x0)) ∧ env 12 = some (Value.int .i64 y1_12)) fu ⟨[(iadd .i64 (llen x0) 1)], 0, v2, hL11, S13, A6, by simp [], by simp [], by simp [], by simp []⟩ ?_
  rintro n1 env1 G1_ ⟨l1_0, y1_12, w1_0, hL11, S1_, A1_, e1_3, e1_10, e1_11, e1_12⟩
  cases n1 with
  | zero => cases hL11
  | succ n1 =>
    simp only [F_impl_covered_L1] at hL11
    refine DWp.seq ?_
    refine DWp.region fun K hK => ?_
    simp [-aBin', -aBin, -aBinI, -aUn, -aNil, -flatV, n_fn, b_add, b_sub, b_mul, b_lt, b_le, b_gt, b_ge, b_eq, b_ne, u_not, e1_3, e1_10, e1_11, e1_12]
    apply hK
    clear hK K
    simp only [andThen, leaves]
    refine DWp.seq ?_
    refine DWp.cond' (t := (ilt y1_12 (llen x0))) (by simp [e1_3, e1_10, e1_11, e1_12]) (fun hb14 => ?_) (fun hb14 => ?_)
    · replace hL11 := cd_t hb14 hL11
      refine DWp.skip ?_
      simp only [andThen, leaves]
      refine DWp.seq ?_
      refine DWp.block ?_
      refine DWp.seq ?_
      obtain ⟨g15, hL11⟩ := gd_some hL11
      have q16 := idxG (P := Try.prog) (kk := .i64) (hx0.agree A1_.agree) el_22 sz_3 g15
      have q17 := loadG (P := Try.prog) (hx0.agree A1_.agree) sz_3 ag_3 g15 0
      refine DWp.region fun K hK => ?_
      simp [-aBin', -aBin, -aBinI, -aUn, -aNil, -flatV, n_fn, b_add, b_sub, b_mul, b_lt, b_le, b_gt, b_ge, b_eq, b_ne, u_not, e1_3, e1_10, e1_11, e1_12, q16, q17]
      apply hK
      clear hK K
      simp only [andThen, leaves]
      obtain ⟨v18, G19, q20, S21, a23, _, _⟩ := S1_.lit1 (P := Try.prog) (t := 22) (hB.le A1_.1) el_22 ei_3 rfl (Value.int .i64 (iadd .i64 (gat 0 x0 y1_12) 1)) rfl rfl
      have A22 := A1_.ext (hB.le A1_.1) a23
      replace S21 : Sep G19 (Fr H) [flat w1_0 3 (ints l1_0), flat1 v18 3 (ints [(iadd .i64 (gat 0 x0 y1_12) 1)])] := S21
      obtain ⟨g25, hL11⟩ := gd_some hL11
      obtain ⟨v31, G26, q27, S28, a30, _, _⟩ := S21.appendG (f := (Value.int .i64)) (xs := l1_0) (ys := [(iadd .i64 (gat 0 x0 y1_12) 1)]) (P := Try.prog) (t := 22) (t2 := 22) (k := 0) rfl (hB.le A22.1) el_22 el_22 ei_3 rfl (S21.sl1 (k := 1) rfl) g25
      have A29 := A22.trans a30
      replace S28 : Sep G26 (Fr H) [flat v31 3 (ints (lapp l1_0 [(iadd .i64 (gat 0 x0 y1_12) 1)])), flat1 v18 3 (ints [(iadd .i64 (gat 0 x0 y1_12) 1)])] := S28
      refine DWp.region fun K hK => ?_
      simp [-aBin', -aBin, -aBinI, -aUn, -aNil, -flatV, n_fn, b_add, b_sub, b_mul, b_lt, b_le, b_gt, b_ge, b_eq, b_ne, u_not, e1_3, e1_10, e1_11, e1_12, q20, a23.to_pre, q27]
      apply hK
      clear hK K
      simp only [andThen, leaves]
      refine DWp.region fun K hK => ?_
      simp [-aBin', -aBin, -aBinI, -aUn, -aNil, -flatV, n_fn, b_add, b_sub, b_mul, b_lt, b_le, b_gt, b_ge, b_eq, b_ne, u_not, e1_3, e1_10, e1_11, e1_12]
      apply hK
      clear hK K
      simp only [andThen, leaves]
      have S32 := S28.pick [0] (by decide) rfl
      exact ⟨n1, Nat.lt_succ_self _, (lapp l1_0 [(iadd .i64 (gat 0 x0 y1_12) 1)]), (iadd .i64 y1_12 1), v31, hL11, S32, A29, by simp [e1_3, e1_10, e1_11, e1_12], by simp [e1_3, e1_10, e1_11, e1_12], by simp [e1_3, e1_10, e1_11, e1_12], by simp [e1_3, e1_10, e1_11, e1_12]⟩
    · replace hL11 := cd_f hb14 hL11
      refine DWp.exit ?_
      simp only [andThen, leaves, if_true, if_false, reduceIte, Nat.reduceEqDiff]
      obtain rfl := Option.some.inj hL11
      try dsimp only at hF
      refine DWp.seq ?_
      obtain ⟨v33, G34, q35, S36, a38, _, _⟩ := S1_.lit1 (P := Try.prog) (t := 22) (hB.le A1_.1) el_22 ei_3 rfl (Value.int .i64 0) rfl rfl
      have A37 := A1_.ext (hB.le A1_.1) a38
      replace S36 : Sep G34 (Fr H) [flat w1_0 3 (ints l1_0), flat1 v33 3 (ints [0])] := S36
      obtain ⟨g40, hF⟩ := gd_some hF
      obtain ⟨v46, G41, q42, S43, a45, _, _⟩ := S36.appendG (f := (Value.int .i64)) (xs := l1_0) (ys := [0]) (P := Try.prog) (t := 22) (t2 := 22) (k := 0) rfl (hB.le A37.1) el_22 el_22 ei_3 rfl (S36.sl1 (k := 1) rfl) g40
      have A44 := A37.trans a45
      replace S43 : Sep G41 (Fr H) [flat v46 3 (ints (lapp l1_0 [0])), flat1 v33 3 (ints [0])] := S43
      refine DWp.region fun K hK => ?_
      simp [-aBin', -aBin, -aBinI, -aUn, -aNil, -flatV, n_fn, b_add, b_sub, b_mul, b_lt, b_le, b_gt, b_ge, b_eq, b_ne, u_not, e1_3, e1_10, e1_11, e1_12, q35, a38.to_pre, q42]
      apply hK
      clear hK K
      simp only [andThen, leaves]
      refine DWp.ret ?_
      obtain rfl := Option.some.inj hF
      exact ⟨by simp, [v46], by simp [e1_3, e1_10, e1_11, e1_12, ((S43.sl (k := 0) rfl).tup)], A44, v46, rfl, S43.pick [0] (by decide) rfl⟩
def F_impl_joined_L1 (fu : Nat) (k1_0 : List Int) (k1_1 : List Int) (k1_2 : Int) : Nat → List Int → Int → Option (List Int × Int)
  | 0, _, _ => none
  | n + 1, l1_0, y1_12 =>
    bif (ilt y1_12 k1_2) then
      gd (inL k1_1 y1_12) (
      gd (l1_0.length + [(iadd .i64 (gat 0 k1_1 y1_12) (llen k1_0))].length ≤ 4294967296) (
      F_impl_joined_L1 fu k1_0 k1_1 k1_2 n (lapp l1_0 [(iadd .i64 (gat 0 k1_1 y1_12) (llen k1_0))]) (iadd .i64 y1_12 1)))
    else
      some (l1_0, y1_12)
def F_impl_joined (fu : Nat) (x0 : List Int) (x1 : List Int) : Option (List Int) :=
  bd (F_slices_Clone_Sint fu x0) fun r1 =>
  bd (F_impl_joined_L1 fu x0 x1 (llen x1) fu r1 0) fun s1 =>
  some s1.1
theorem F_impl_joined_w {fu : Nat} {H : AH} {v0 : Value} {v1 : Value} {x0 : List Int} {x1 : List Int} {r : (List Int)} (hx0 : Sl H v0 (ints x0)) (hx1 : Sl H v1 (ints x1)) (hF : F_impl_joined fu x0 x1 = some r) :
    ACallT Try.prog 106 [v0, v1] H (fun u G => AgB (Fr H) H G ∧ ∃ u0 : Value, u = u0 ∧ Sep G (Fr H) [flat u0 3 (ints r)]) := by
  refine ACallT.of_body (nt := 25) (rs := [.tmp 4]) Try.func106 rfl rfl rfl rfl ?_
  have A0 : AgB (Fr H) H H := .refl _ _
  have S0 : Sep H (Fr H) [] := .nil
  have hB := Fr.up H
  unfold F_impl_joined at hF
  refine DWp.seq ?_
  refine DWp.region fun K hK => ?_
  simp [-aBin', -aBin, -aBinI, -aUn, -aNil, -flatV, n_fn, b_add, b_sub, b_mul, b_lt, b_le, b_gt, b_ge, b_eq, b_ne, u_not]
  apply hK
  clear hK K
  simp only [andThen, leaves]
  refine DWp.seq ?_
  obtain ⟨r1, hc1, hF⟩ := bd_some hF
  refine DWp.region fun K hK => ?_
  simp [-aBin', -aBin, -aBinI, -aUn, -aNil, -flatV, n_fn, b_add, b_sub, b_mul, b_lt, b_le, b_gt, b_ge, b_eq, b_ne, u_not, ((hx0.agree A0.agree).tup)]
  refine CallD.t (F_slices_Clone_Sint_w (fu := fu) (hx0.agree A0.agree) hc1) ?_
  rintro c2_u0 G3 ⟨a6, _, rfl, S7⟩
  have A5 := A0.ext (hB.le A0.1) a6.agree
  have S4 : Sep G3 (Fr H) [flat c2_u0 3 (ints r1)] := S0.app a6.agree S7 (fun _ h => h) (hB.le A0.1)
  simp [-aBin', -aBin, -aBinI, -aUn, -aNil, -flatV, n_fn, b_add, b_sub, b_mul, b_lt, b_le, b_gt, b_ge, b_eq, b_ne, u_not, a6.pre]
  apply hK
  clear hK K
  simp only [andThen, leaves]
  refine DWp.seq ?_
  refine DWp.seq ?_
  have q8 := lenG (P := Try.prog) (hx1.agree A5.agree) el_22
  refine DWp.region fun K hK => ?_
  simp [-aBin', -aBin, -aBinI, -aUn, -aNil, -flatV, n_fn, b_add, b_sub, b_mul, b_lt, b_le, b_gt, b_ge, b_eq, b_ne, u_not, q8]
  apply hK
  clear hK K
  simp only [andThen, leaves]
  refine DWp.block ?_
  obtain ⟨s9, hL10, hF⟩ := bd_some hF
  have S11 := S4.pick [0] (by decide) rfl
  refine DWp.loop (fun n env G => ∃ l1_0 : List Int, ∃ y1_12 : Int, ∃ w1_0 : Value, F_impl_joined_L1 fu x0 x1 (llen x1) n l1_0 y1_12 = some s9 ∧ Sep G (Fr H) [flat w1_0 3 (ints l1_0)] ∧ AgB (Fr H) H G ∧ env 0 = some v0 ∧ env 5 = some w1_0 ∧ env 10 = some v1 ∧ env 11 = some (Value.int .i64 (llen x1)) ∧ env 12 = some (Value.int .i64 y1_12)) fu ⟨r1, 0, c2_u0, hL10, S11, A5, by simp [], by simp [], by simp [], by simp [], by simp []⟩ ?_
  rintro n1 env1 G1_ ⟨l1_0, y1_12, w1_0, hL10, S1_, A1_, e1_0, e1_5, e1_10, e1_11, e1_12⟩
  cases n1 with
  | zero => cases hL10
  | succ n1 =>
    simp only [F_impl_joined_L1] at hL10
    refine DWp.seq ?_
    refine DWp.region fun K hK => ?_
    simp [-aBin', -aBin, -aBinI, -aUn, -aNil, -flatV, n_fn, b_add, b_sub, b_mul, b_lt, b_le, b_gt, b_ge, b_eq, b_ne, u_not, e1_0, e1_5, e1_10, e1_11, e1_12]
    apply hK
    clear hK K
    simp only [andThen, leaves]
    refine DWp.seq ?_
    refine DWp.cond' (t := (ilt y1_12 (llen x1))) (by simp [e1_0, e1_5, e1_10, e1_11, e1_12]) (fun hb12 => ?_) (fun hb12 => ?_)
    · replace hL10 := cd_t hb12 hL10
      refine DWp.skip ?_
      simp only [andThen, leaves]
      refine DWp.seq ?_
      refine DWp.block ?_
      refine DWp.seq ?_
      obtain ⟨g13, hL10⟩ := gd_some hL10
      have q14 := idxG (P := Try.prog) (kk := .i64) (hx1.agree A1_.agree) el_22 sz_3 g13
      have q15 := loadG (P := Try.prog) (hx1.agree A1_.agree) sz_3 ag_3 g13 0
      refine DWp.region fun K hK => ?_
      simp [-aBin', -aBin, -aBinI, -aUn, -aNil, -flatV, n_fn, b_add, b_sub, b_mul, b_lt, b_le, b_gt, b_ge, b_eq, b_ne, u_not, e1_0, e1_5, e1_10, e1_11, e1_12, q14, q15]
      apply hK
      clear hK K
      simp only [andThen, leaves]
      have q16 := lenG (P := Try.prog) (hx0.agree A1_.agree) el_22
      obtain ⟨v17, G18, q19, S20, a22, _, _⟩ := S1_.lit1 (P := Try.prog) (t := 22) (hB.le A1_.1) el_22 ei_3 rfl (Value.int .i64 (iadd .i64 (gat 0 x1 y1_12) (llen x0))) rfl rfl
      have A21 := A1_.ext (hB.le A1_.1) a22
      replace S20 : Sep G18 (Fr H) [flat w1_0 3 (ints l1_0), flat1 v17 3 (ints [(iadd .i64 (gat 0 x1 y1_12) (llen x0))])] := S20
      obtain ⟨g24, hL10⟩ := gd_some hL10
      obtain ⟨v30, G25, q26, S27, a29, _, _⟩ := S20.appendG (f := (Value.int .i64)) (xs := l1_0) (ys := [(iadd .i64 (gat 0 x1 y1_12) (llen x0))]) (P := Try.prog) (t := 22) (t2 := 22) (k := 0) rfl (hB.le A21.1) el_22 el_22 ei_3 rfl (S20.sl1 (k := 1) rfl) g24
      have A28 := A21.trans a29
      replace S27 : Sep G25 (Fr H) [flat v30 3 (ints (lapp l1_0 [(iadd .i64 (gat 0 x1 y1_12) (llen x0))])), flat1 v17 3 (ints [(iadd .i64 (gat 0 x1 y1_12) (llen x0))])] := S27
      refine DWp.region fun K hK => ?_
      simp [-aBin', -aBin, -aBinI, -aUn, -aNil, -flatV, n_fn, b_add, b_sub, b_mul, b_lt, b_le, b_gt, b_ge, b_eq, b_ne, u_not, e1_0, e1_5, e1_10, e1_11, e1_12, q16, q19, a22.to_pre, q26]
      apply hK
      clear hK K
      simp only [andThen, leaves]
      refine DWp.region fun K hK => ?_
      simp [-aBin', -aBin, -aBinI, -aUn, -aNil, -flatV, n_fn, b_add, b_sub, b_mul, b_lt, b_le, b_gt, b_ge, b_eq, b_ne, u_not, e1_0, e1_5, e1_10, e1_11, e1_12]
      apply hK
      clear hK K
      simp only [andThen, leaves]
      have S31 := S27.pick [0] (by decide) rfl
      exact ⟨n1, Nat.lt_succ_self _, (lapp l1_0 [(iadd .i64 (gat 0 x1 y1_12) (llen x0))]), (iadd .i64 y1_12 1), v30, hL10, S31, A28, by simp [e1_0, e1_5, e1_10, e1_11, e1_12], by simp [e1_0, e1_5, e1_10, e1_11, e1_12], by simp [e1_0, e1_5, e1_10, e1_11, e1_12], by simp [e1_0, e1_5, e1_10, e1_11, e1_12], by simp [e1_0, e1_5, e1_10, e1_11, e1_12]⟩
    · replace hL10 := cd_f hb12 hL10
      refine DWp.exit ?_
      simp only [andThen, leaves, if_true, if_false, reduceIte, Nat.reduceEqDiff]
      obtain rfl := Option.some.inj hL10
      try dsimp only at hF
      refine DWp.seq ?_
      refine DWp.region fun K hK => ?_
      simp [-aBin', -aBin, -aBinI, -aUn, -aNil, -flatV, n_fn, b_add, b_sub, b_mul, b_lt, b_le, b_gt, b_ge, b_eq, b_ne, u_not, e1_0, e1_5, e1_10, e1_11, e1_12]
      apply hK
      clear hK K
      simp only [andThen, leaves]
      refine DWp.ret ?_
      obtain rfl := Option.some.inj hF
      exact ⟨by simp, [w1_0], by simp [e1_0, e1_5, e1_10, e1_11, e1_12, ((S1_.sl (k := 0) rfl).tup)], A1_, w1_0, rfl, S1_.pick [0] (by decide) rfl⟩
def F_impl_systems_L3 (fu : Nat) (self_ : Int → Option (List (List Int))) (k3_0 : Int) (k3_1 : Int) (k3_2 : List Int) (k3_3 : List (List Int)) (k3_4 : Int) (k3_5 : Int) (k3_6 : List (List Int)) (k3_7 : Int) : Nat → List (List Int) → Int → Option (List (List Int) × Int)
  | 0, _, _ => none
  | n + 1, l3_0, y3_31 =>
    bif (ilt y3_31 k3_7) then
      gd (inL k3_6 y3_31) (
      bd (F_impl_covered fu k3_2) fun r3 =>
      bd (F_impl_joined fu r3 (gat [] k3_6 y3_31)) fun r4 =>
      gd (l3_0.length + 1 ≤ 4294967296) (
      F_impl_systems_L3 fu self_ k3_0 k3_1 k3_2 k3_3 k3_4 k3_5 k3_6 k3_7 n (lapp l3_0 [r4]) (iadd .i64 y3_31 1)))
    else
      some (l3_0, y3_31)
def F_impl_systems_L2 (fu : Nat) (self_ : Int → Option (List (List Int))) (k2_0 : Int) (k2_1 : Int) (k2_2 : List (List Int)) (k2_3 : Int) : Nat → List (List Int) → Int → Option (List (List Int) × Int)
  | 0, _, _ => none
  | n + 1, l2_0, y2_21 =>
    bif (ilt y2_21 k2_3) then
      gd (inL k2_2 y2_21) (
      bd (self_ (isub .i64 (isub .i64 k2_0 1) k2_1)) fun r2 =>
      bd (F_impl_systems_L3 fu self_ k2_0 k2_1 (gat [] k2_2 y2_21) k2_2 k2_3 y2_21 r2 (llen r2) fu l2_0 0) fun s3 =>
      F_impl_systems_L2 fu self_ k2_0 k2_1 k2_2 k2_3 n s3.1 (iadd .i64 y2_21 1))
    else
      some (l2_0, y2_21)
def F_impl_systems_L1 (fu : Nat) (self_ : Int → Option (List (List Int))) (k1_0 : Int) : Nat → List (List Int) → Int → Option (List (List Int) × Int)
  | 0, _, _ => none
  | n + 1, l1_0, y1_15 =>
    bif (ilt y1_15 k1_0) then
      bd (self_ y1_15) fun r1 =>
      bd (F_impl_systems_L2 fu self_ k1_0 y1_15 r1 (llen r1) fu l1_0 0) fun s2 =>
      F_impl_systems_L1 fu self_ k1_0 n s2.1 (iadd .i64 y1_15 1)
    else
      some (l1_0, y1_15)
def F_impl_systems : Nat → Int → Option (List (List Int))
  | 0, _ => none
  | fu + 1, x0 =>
    bif (ieq x0 0) then
      some [(@List.nil Int)]
    else
      bd (F_impl_systems_L1 fu (F_impl_systems fu) x0 fu [] 0) fun s1 =>
      bd (F_slices_SortFunc_SSint fu s1.1 (fun y0 y1 => F_slices_Compare_Sint fu y0 y1)) fun r5 =>
      some r5
theorem F_impl_systems_w : ∀ {fu : Nat} {H : AH}  {x0 : Int} {r : (List (List Int))}  (hF : F_impl_systems fu x0 = some r),
    ACallT Try.prog 78 [(Value.int .i64 x0)] H (fun u G => AgB (Fr H) H G ∧ ∃ u0 : Value, ∃ C0 : List Value, u = u0 ∧ Sep G (Fr H) [rowsC u0 22 3 C0 (List.map ints r)]) := by
  intro fu
  induction fu with
  | zero => intros; rename_i hF; cases hF
  | succ fu ih =>
  intro H  x0 r  hF
  simp only [F_impl_systems] at hF
  refine ACallT.of_body (nt := 48) (rs := [.tmp 2]) Try.func78 rfl rfl rfl rfl ?_
  have A0 : AgB (Fr H) H H := .refl _ _
  have S0 : Sep H (Fr H) [] := .nil
  have hB := Fr.up H
  refine DWp.seq ?_
  refine DWp.region fun K hK => ?_
  simp [-aBin', -aBin, -aBinI, -aUn, -aNil, -flatV, n_fn, b_add, b_sub, b_mul, b_lt, b_le, b_gt, b_ge, b_eq, b_ne, u_not]
  apply hK
  clear hK K
  simp only [andThen, leaves]
  refine DWp.seq ?_
  refine DWp.seq ?_
  refine DWp.region fun K hK => ?_
  simp [-aBin', -aBin, -aBinI, -aUn, -aNil, -flatV, n_fn, b_add, b_sub, b_mul, b_lt, b_le, b_gt, b_ge, b_eq, b_ne, u_not]
  apply hK
  clear hK K
  simp only [andThen, leaves]
  refine DWp.cond' (t := (ieq x0 0)) (by simp []) (fun hb1 => ?_) (fun hb1 => ?_)
  · replace hF := cd_t hb1 hF
    refine DWp.seq ?_
    obtain ⟨v2, G3, q4, S5, a7, _, _⟩ := S0.lit0 (P := Try.prog) (t := 22) (hB.le A0.1) el_22 ei_3 rfl
    have A6 := A0.ext (hB.le A0.1) a7
    replace S5 : Sep G3 (Fr H) [flat1 v2 3 (ints (@List.nil Int))] := S5
    obtain ⟨v9, G10, q11, S12, a14, _, _⟩ := S5.lit1 (P := Try.prog) (t := 23) (hB.le A6.1) el_23 ei_22 rfl v2 ((S5.sl1 (k := 0) rfl).tup) ((S5.sl1 (k := 0) rfl).one)
    have A13 := A6.ext (hB.le A6.1) a14
    replace S12 : Sep G10 (Fr H) [flat1 v2 3 (ints (@List.nil Int)), flat1 v9 22 [v2]] := S12
    refine DWp.region fun K hK => ?_
    simp [-aBin', -aBin, -aBinI, -aUn, -aNil, -flatV, n_fn, b_add, b_sub, b_mul, b_lt, b_le, b_gt, b_ge, b_eq, b_ne, u_not, q4, a7.to_pre, q11, a14.to_pre, ((S5.sl1 (k := 0) rfl).tup)]
    apply hK
    clear hK K
    simp only [andThen, leaves]
    refine DWp.ret ?_
    simp only [andThen, leaves]
    have S15 := S12.weak (k := 0) rfl
    have S16 : Sep G10 (Fr H) [emp, rowsC v9 22 3 [v2] (List.map ints [(@List.nil Int)])] := S15.rowsOf1 (j := 1) (k := 0) (by decide) rfl rfl
    obtain rfl := Option.some.inj hF
    exact ⟨by simp, [v9], by simp [((S16.rd (k := 1) rfl).tup)], A13, v9, [v2], rfl, S16.pick [1] (by decide) rfl⟩
  · replace hF := cd_f hb1 hF
    refine DWp.skip ?_
    simp only [andThen, leaves]
    refine DWp.seq ?_
    obtain ⟨v17, G18, q19, S20, a22, _, _⟩ := S0.lit0 (P := Try.prog) (t := 23) (hB.le A0.1) el_23 ei_22 rfl
    have A21 := A0.ext (hB.le A0.1) a22
    replace S20 : Sep G18 (Fr H) [flat1 v17 22 []] := S20
    have S23 : Sep G18 (Fr H) [rowsC v17 22 3 [] (List.map ints [])] := S20.rowsOf0 (k := 0) rfl 3
    refine DWp.region fun K hK => ?_
    simp [-aBin', -aBin, -aBinI, -aUn, -aNil, -flatV, n_fn, b_add, b_sub, b_mul, b_lt, b_le, b_gt, b_ge, b_eq, b_ne, u_not, q19, a22.to_pre]
    apply hK
    clear hK K
    simp only [andThen, leaves]
    refine DWp.seq ?_
    refine DWp.seq ?_
    refine DWp.region fun K hK => ?_
    simp [-aBin', -aBin, -aBinI, -aUn, -aNil, -flatV, n_fn, b_add, b_sub, b_mul, b_lt, b_le, b_gt, b_ge, b_eq, b_ne, u_not]
    apply hK
    clear hK K
    simp only [andThen, leaves]
    refine DWp.block ?_
    obtain ⟨s24, hL25, hF⟩ := bd_some hF
    have S26 := S23.pick [0] (by decide) rfl
    refine DWp.loop (fun n env G => ∃ l1_0 : List (List Int), ∃ y1_15 : Int, ∃ w1_0 : Value, ∃ D1_0 : List Value, F_impl_systems_L1 fu (F_impl_systems fu) x0 n l1_0 y1_15 = some s24 ∧ Sep G (Fr H) [rowsC w1_0 22 3 D1_0 (List.map ints l1_0)] ∧ AgB (Fr H) H G ∧ env 0 = some (Value.int .i64 x0) ∧ env 3 = some w1_0 ∧ env 14 = some (Value.int .i64 x0) ∧ env 15 = some (Value.int .i64 y1_15)) fu ⟨[], 0, v17, [], hL25, S26, A21, by simp [], by simp [], by simp [], by simp []⟩ ?_
    rintro n1 env1 G1_ ⟨l1_0, y1_15, w1_0, D1_0, hL25, S1_, A1_, e1_0, e1_3, e1_14, e1_15⟩
    cases n1 with
    | zero => cases hL25
    | succ n1 =>
      simp only [F_impl_systems_L1] at hL25
      refine DWp.seq ?_
      refine DWp.region fun K hK => ?_
      simp [-aBin', -aBin, -aBinI, -aUn, -aNil, -flatV, n_fn, b_add, b_sub, b_mul, b_lt, b_le, b_gt, b_ge, b_eq, b_ne, u_not, e1_0, e1_3, e1_14, e1_15]
      apply hK
      clear hK K
      simp only [andThen, leaves]
      refine DWp.seq ?_
      refine DWp.cond' (t := (ilt y1_15 x0)) (by simp [e1_0, e1_3, e1_14, e1_15]) (fun hb27 => ?_) (fun hb27 => ?_)
      · replace hL25 := cd_t hb27 hL25
        refine DWp.skip ?_
        simp only [andThen, leaves]
        refine DWp.seq ?_
        refine DWp.block ?_
        refine DWp.seq ?_
        refine DWp.region fun K hK => ?_
        simp [-aBin', -aBin, -aBinI, -aUn, -aNil, -flatV, n_fn, b_add, b_sub, b_mul, b_lt, b_le, b_gt, b_ge, b_eq, b_ne, u_not, e1_0, e1_3, e1_14, e1_15]
        apply hK
        clear hK K
        simp only [andThen, leaves]
        refine DWp.seq ?_
        obtain ⟨r1, hc28, hL25⟩ := bd_some hL25
        refine DWp.region fun K hK => ?_
        simp [-aBin', -aBin, -aBinI, -aUn, -aNil, -flatV, n_fn, b_add, b_sub, b_mul, b_lt, b_le, b_gt, b_ge, b_eq, b_ne, u_not, e1_0, e1_3, e1_14, e1_15]
        refine CallD.t (ih  hc28) ?_
        rintro c29_u0 G30 ⟨a33, _, c29_C0, rfl, S34⟩
        have A32 := A1_.ext (hB.le A1_.1) a33.agree
        have S31 : Sep G30 (Fr H) [rowsC w1_0 22 3 D1_0 (List.map ints l1_0), rowsC c29_u0 22 3 c29_C0 (List.map ints r1)] := S1_.app a33.agree S34 (fun _ h => h) (hB.le A1_.1)
        have q35 := (S31.rd (k := 1) rfl).lenG (P := Try.prog) el_23
        simp [-aBin', -aBin, -aBinI, -aUn, -aNil, -flatV, n_fn, b_add, b_sub, b_mul, b_lt, b_le, b_gt, b_ge, b_eq, b_ne, u_not, e1_0, e1_3, e1_14, e1_15, a33.pre, q35]
        apply hK
        clear hK K
        simp only [andThen, leaves]
        refine DWp.block ?_
        obtain ⟨s36, hL37, hL25⟩ := bd_some hL25
        have S38 := S31.pick [0, 1] (by decide) rfl
        refine DWp.loop (fun n env G => ∃ l2_0 : List (List Int), ∃ y2_21 : Int, ∃ w2_0 : Value, ∃ D2_0 : List Value, F_impl_systems_L2 fu (F_impl_systems fu) x0 y1_15 r1 (llen r1) n l2_0 y2_21 = some s36 ∧ Sep G (Fr H) [rowsC w2_0 22 3 D2_0 (List.map ints l2_0), rowsC c29_u0 22 3 c29_C0 (List.map ints r1)] ∧ AgB (Fr H) H G ∧ env 0 = some (Value.int .i64 x0) ∧ env 3 = some w2_0 ∧ env 4 = some (Value.int .i64 y1_15) ∧ env 14 = some (Value.int .i64 x0) ∧ env 15 = some (Value.int .i64 y1_15) ∧ env 19 = some c29_u0 ∧ env 20 = some (Value.int .i64 (llen r1)) ∧ env 21 = some (Value.int .i64 y2_21)) fu ⟨l1_0, 0, w1_0, D1_0, hL37, S38, A32, by simp [e1_0, e1_3, e1_14, e1_15], by simp [e1_0, e1_3, e1_14, e1_15], by simp [e1_0, e1_3, e1_14, e1_15], by simp [e1_0, e1_3, e1_14, e1_15], by simp [e1_0, e1_3, e1_14, e1_15], by simp [e1_0, e1_3, e1_14, e1_15], by simp [e1_0, e1_3, e1_14, e1_15], by simp [e1_0, e1_3, e1_14, e1_15]⟩ ?_
        rintro n2 env2 G2_ ⟨l2_0, y2_21, w2_0, D2_0, hL37, S2_, A2_, e2_0, e2_3, e2_4, e2_14, e2_15, e2_19, e2_20, e2_21⟩
        cases n2 with
        | zero => cases hL37
        | succ n2 =>
          simp only [F_impl_systems_L2] at hL37
          refine DWp.seq ?_
          refine DWp.region fun K hK => ?_
          simp [-aBin', -aBin, -aBinI, -aUn, -aNil, -flatV, n_fn, b_add, b_sub, b_mul, b_lt, b_le, b_gt, b_ge, b_eq, b_ne, u_not, e2_0, e2_3, e2_4, e2_14, e2_15, e2_19, e2_20, e2_21]
          apply hK
          clear hK K
          simp only [andThen, leaves]
          refine DWp.seq ?_
          refine DWp.cond' (t := (ilt y2_21 (llen r1))) (by simp [e2_0, e2_3, e2_4, e2_14, e2_15, e2_19, e2_20, e2_21]) (fun hb39 => ?_) (fun hb39 => ?_)
          · replace hL37 := cd_t hb39 hL37
            refine DWp.skip ?_
            simp only [andThen, leaves]
            refine DWp.seq ?_
            refine DWp.block ?_
            refine DWp.seq ?_
            obtain ⟨g40, hL37⟩ := gd_some hL37
            have q41 := (S2_.rd (k := 1) rfl).idxG (P := Try.prog) (kk := .i64) el_23 sz_22 g40
            have q42 := (S2_.rd (k := 1) rfl).loadG (P := Try.prog) sz_22 ag_22 g40
            refine DWp.region fun K hK => ?_
            simp [-aBin', -aBin, -aBinI, -aUn, -aNil, -flatV, n_fn, b_add, b_sub, b_mul, b_lt, b_le, b_gt, b_ge, b_eq, b_ne, u_not, e2_0, e2_3, e2_4, e2_14, e2_15, e2_19, e2_20, e2_21, q41, q42]
            apply hK
            clear hK K
            simp only [andThen, leaves]
            refine DWp.seq ?_
            obtain ⟨r2, hc43, hL37⟩ := bd_some hL37
            refine DWp.region fun K hK => ?_
            simp [-aBin', -aBin, -aBinI, -aUn, -aNil, -flatV, n_fn, b_add, b_sub, b_mul, b_lt, b_le, b_gt, b_ge, b_eq, b_ne, u_not, e2_0, e2_3, e2_4, e2_14, e2_15, e2_19, e2_20, e2_21]
            refine CallD.t (ih  hc43) ?_
            rintro c44_u0 G45 ⟨a48, _, c44_C0, rfl, S49⟩
            have A47 := A2_.ext (hB.le A2_.1) a48.agree
            have S46 : Sep G45 (Fr H) [rowsC w2_0 22 3 D2_0 (List.map ints l2_0), rowsC c29_u0 22 3 c29_C0 (List.map ints r1), rowsC c44_u0 22 3 c44_C0 (List.map ints r2)] := S2_.app a48.agree S49 (fun _ h => h) (hB.le A2_.1)
            have q50 := (S46.rd (k := 2) rfl).lenG (P := Try.prog) el_23
            simp [-aBin', -aBin, -aBinI, -aUn, -aNil, -flatV, n_fn, b_add, b_sub, b_mul, b_lt, b_le, b_gt, b_ge, b_eq, b_ne, u_not, e2_0, e2_3, e2_4, e2_14, e2_15, e2_19, e2_20, e2_21, a48.pre, q50]
            apply hK
            clear hK K
            simp only [andThen, leaves]
            refine DWp.block ?_
            obtain ⟨s51, hL52, hL37⟩ := bd_some hL37
            have S53 := S46.pick [0, 1, 2] (by decide) rfl
            refine DWp.loop (fun n env G => ∃ l3_0 : List (List Int), ∃ y3_31 : Int, ∃ w3_0 : Value, ∃ D3_0 : List Value, F_impl_systems_L3 fu (F_impl_systems fu) x0 y1_15 (gat [] r1 y2_21) r1 (llen r1) y2_21 r2 (llen r2) n l3_0 y3_31 = some s51 ∧ Sep G (Fr H) [rowsC w3_0 22 3 D3_0 (List.map ints l3_0), rowsC c29_u0 22 3 c29_C0 (List.map ints r1), rowsC c44_u0 22 3 c44_C0 (List.map ints r2)] ∧ AgB (Fr H) H G ∧ env 0 = some (Value.int .i64 x0) ∧ env 3 = some w3_0 ∧ env 4 = some (Value.int .i64 y1_15) ∧ env 6 = some (gat nilV c29_C0 y2_21) ∧ env 14 = some (Value.int .i64 x0) ∧ env 15 = some (Value.int .i64 y1_15) ∧ env 19 = some c29_u0 ∧ env 20 = some (Value.int .i64 (llen r1)) ∧ env 21 = some (Value.int .i64 y2_21) ∧ env 29 = some c44_u0 ∧ env 30 = some (Value.int .i64 (llen r2)) ∧ env 31 = some (Value.int .i64 y3_31)) fu ⟨l2_0, 0, w2_0, D2_0, hL52, S53, A47, by simp [e2_0, e2_3, e2_4, e2_14, e2_15, e2_19, e2_20, e2_21], by simp [e2_0, e2_3, e2_4, e2_14, e2_15, e2_19, e2_20, e2_21], by simp [e2_0, e2_3, e2_4, e2_14, e2_15, e2_19, e2_20, e2_21], by simp [e2_0, e2_3, e2_4, e2_14, e2_15, e2_19, e2_20, e2_21], by simp [e2_0, e2_3, e2_4, e2_14, e2_15, e2_19, e2_20, e2_21], by simp [e2_0, e2_3, e2_4, e2_14, e2_15, e2_19, e2_20, e2_21], by simp [e2_0, e2_3, e2_4, e2_14, e2_15, e2_19, e2_20, e2_21], by simp [e2_0, e2_3, e2_4, e2_14, e2_15, e2_19, e2_20, e2_21], by simp [e2_0, e2_3, e2_4, e2_14, e2_15, e2_19, e2_20, e2_21], by simp [e2_0, e2_3, e2_4, e2_14, e2_15, e2_19, e2_20, e2_21], by simp [e2_0, e2_3, e2_4, e2_14, e2_15, e2_19, e2_20, e2_21], by simp [e2_0, e2_3, e2_4, e2_14, e2_15, e2_19, e2_20, e2_21]⟩ ?_
            rintro n3 env3 G3_ ⟨l3_0, y3_31, w3_0, D3_0, hL52, S3_, A3_, e3_0, e3_3, e3_4, e3_6, e3_14, e3_15, e3_19, e3_20, e3_21, e3_29, e3_30, e3_31⟩
            cases n3 with
            | zero => cases hL52
            | succ n3 =>
              simp only [F_impl_systems_L3] at hL52
              refine DWp.seq ?_
              refine DWp.region fun K hK => ?_
              simp [-aBin', -aBin, -aBinI, -aUn, -aNil, -flatV, n_fn, b_add, b_sub, b_mul, b_lt, b_le, b_gt, b_ge, b_eq, b_ne, u_not, e3_0, e3_3, e3_4, e3_6, e3_14, e3_15, e3_19, e3_20, e3_21, e3_29, e3_30, e3_31]
              apply hK
              clear hK K
              simp only [andThen, leaves]
              refine DWp.seq ?_
              refine DWp.cond' (t := (ilt y3_31 (llen r2))) (by simp [e3_0, e3_3, e3_4, e3_6, e3_14, e3_15, e3_19, e3_20, e3_21, e3_29, e3_30, e3_31]) (fun hb54 => ?_) (fun hb54 => ?_)
              · replace hL52 := cd_t hb54 hL52
                refine DWp.skip ?_
                simp only [andThen, leaves]
                refine DWp.seq ?_
                refine DWp.block ?_
                refine DWp.seq ?_
                obtain ⟨g55, hL52⟩ := gd_some hL52
                have q56 := (S3_.rd (k := 2) rfl).idxG (P := Try.prog) (kk := .i64) el_23 sz_22 g55
                have q57 := (S3_.rd (k := 2) rfl).loadG (P := Try.prog) sz_22 ag_22 g55
                refine DWp.region fun K hK => ?_
                simp [-aBin', -aBin, -aBinI, -aUn, -aNil, -flatV, n_fn, b_add, b_sub, b_mul, b_lt, b_le, b_gt, b_ge, b_eq, b_ne, u_not, e3_0, e3_3, e3_4, e3_6, e3_14, e3_15, e3_19, e3_20, e3_21, e3_29, e3_30, e3_31, q56, q57]
                apply hK
                clear hK K
                simp only [andThen, leaves]
                obtain ⟨r3, hc58, hL52⟩ := bd_some hL52
                refine DWp.region fun K hK => ?_
                simp [-aBin', -aBin, -aBinI, -aUn, -aNil, -flatV, n_fn, b_add, b_sub, b_mul, b_lt, b_le, b_gt, b_ge, b_eq, b_ne, u_not, e3_0, e3_3, e3_4, e3_6, e3_14, e3_15, e3_19, e3_20, e3_21, e3_29, e3_30, e3_31, (((S3_.rd (k := 1) rfl).rowAt [] g40).tup)]
                refine CallD.t (F_impl_covered_w (fu := fu) ((S3_.rd (k := 1) rfl).rowAt [] g40) hc58) ?_
                rintro c59_u0 G60 ⟨a63, _, rfl, S64⟩
                have A62 := A3_.ext (hB.le A3_.1) a63.agree
                have S61 : Sep G60 (Fr H) [rowsC w3_0 22 3 D3_0 (List.map ints l3_0), rowsC c29_u0 22 3 c29_C0 (List.map ints r1), rowsC c44_u0 22 3 c44_C0 (List.map ints r2), flat c59_u0 3 (ints r3)] := S3_.app a63.agree S64 (fun _ h => h) (hB.le A3_.1)
                obtain ⟨r4, hc65, hL52⟩ := bd_some hL52
                simp [-aBin', -aBin, -aBinI, -aUn, -aNil, -flatV, n_fn, b_add, b_sub, b_mul, b_lt, b_le, b_gt, b_ge, b_eq, b_ne, u_not, e3_0, e3_3, e3_4, e3_6, e3_14, e3_15, e3_19, e3_20, e3_21, e3_29, e3_30, e3_31, a63.pre, ((S61.sl (k := 3) rfl).tup), (((S61.rd (k := 2) rfl).rowAt [] g55).tup)]
                refine CallD.t (F_impl_joined_w (fu := fu) (S61.sl (k := 3) rfl) ((S61.rd (k := 2) rfl).rowAt [] g55) hc65) ?_
                rintro c66_u0 G67 ⟨a70, _, rfl, S71⟩
                have A69 := A62.ext (hB.le A62.1) a70.agree
                have S68 : Sep G67 (Fr H) [rowsC w3_0 22 3 D3_0 (List.map ints l3_0), rowsC c29_u0 22 3 c29_C0 (List.map ints r1), rowsC c44_u0 22 3 c44_C0 (List.map ints r2), flat c59_u0 3 (ints r3), flat c66_u0 3 (ints r4)] := S61.app a70.agree S71 (fun _ h => h) (hB.le A62.1)
                obtain ⟨v72, G73, q74, S75, a77, _, _⟩ := S68.lit1 (P := Try.prog) (t := 23) (hB.le A69.1) el_23 ei_22 rfl c66_u0 ((S68.sl (k := 4) rfl).tup) ((S68.sl (k := 4) rfl).one)
                have A76 := A69.ext (hB.le A69.1) a77
                replace S75 : Sep G73 (Fr H) [rowsC w3_0 22 3 D3_0 (List.map ints l3_0), rowsC c29_u0 22 3 c29_C0 (List.map ints r1), rowsC c44_u0 22 3 c44_C0 (List.map ints r2), flat c59_u0 3 (ints r3), flat c66_u0 3 (ints r4), flat1 v72 22 [c66_u0]] := S75
                obtain ⟨g78, hL52⟩ := gd_some hL52
                obtain ⟨v84, G79, q80, S81, a83, q80t, _⟩ := S75.pushRow (u := w3_0) (fr := ints) (X := l3_0) (y := r4) (P := Try.prog) (t := 23) (t2 := 23) (j := 0) (k := 4) (by decide) rfl rfl (hB.le A76.1) el_23 el_23 ei_22 rfl (S75.sl1 (k := 5) rfl) g78
                have A82 := A76.trans a83
                replace S81 : Sep G79 (Fr H) [rowsC v84 22 3 (D3_0 ++ [c66_u0]) (List.map ints (lapp l3_0 [r4])), rowsC c29_u0 22 3 c29_C0 (List.map ints r1), rowsC c44_u0 22 3 c44_C0 (List.map ints r2), flat c59_u0 3 (ints r3), emp, flat1 v72 22 [c66_u0]] := S81
                have q85 := S81.lastV (fr := ints) (k := 0) rfl
                try simp only [List.cons_append, List.nil_append] at q85
                simp [-aBin', -aBin, -aBinI, -aUn, -aNil, -flatV, n_fn, b_add, b_sub, b_mul, b_lt, b_le, b_gt, b_ge, b_eq, b_ne, u_not, e3_0, e3_3, e3_4, e3_6, e3_14, e3_15, e3_19, e3_20, e3_21, e3_29, e3_30, e3_31, q85, a63.pre, a70.pre, q74, a77.to_pre, ((S68.sl (k := 4) rfl).tup), q80, q80t]
                apply hK
                clear hK K
                simp only [andThen, leaves]
                refine DWp.region fun K hK => ?_
                simp [-aBin', -aBin, -aBinI, -aUn, -aNil, -flatV, n_fn, b_add, b_sub, b_mul, b_lt, b_le, b_gt, b_ge, b_eq, b_ne, u_not, e3_0, e3_3, e3_4, e3_6, e3_14, e3_15, e3_19, e3_20, e3_21, e3_29, e3_30, e3_31, q85]
                apply hK
                clear hK K
                simp only [andThen, leaves]
                have S86 := S81.pick [0, 1, 2] (by decide) rfl
                exact ⟨n3, Nat.lt_succ_self _, (lapp l3_0 [r4]), (iadd .i64 y3_31 1), v84, (D3_0 ++ [c66_u0]), hL52, S86, A82, by simp [e3_0, e3_3, e3_4, e3_6, e3_14, e3_15, e3_19, e3_20, e3_21, e3_29, e3_30, e3_31, q85], by simp [e3_0, e3_3, e3_4, e3_6, e3_14, e3_15, e3_19, e3_20, e3_21, e3_29, e3_30, e3_31, q85], by simp [e3_0, e3_3, e3_4, e3_6, e3_14, e3_15, e3_19, e3_20, e3_21, e3_29, e3_30, e3_31, q85], by simp [e3_0, e3_3, e3_4, e3_6, e3_14, e3_15, e3_19, e3_20, e3_21, e3_29, e3_30, e3_31, q85], by simp [e3_0, e3_3, e3_4, e3_6, e3_14, e3_15, e3_19, e3_20, e3_21, e3_29, e3_30, e3_31, q85], by simp [e3_0, e3_3, e3_4, e3_6, e3_14, e3_15, e3_19, e3_20, e3_21, e3_29, e3_30, e3_31, q85], by simp [e3_0, e3_3, e3_4, e3_6, e3_14, e3_15, e3_19, e3_20, e3_21, e3_29, e3_30, e3_31, q85], by simp [e3_0, e3_3, e3_4, e3_6, e3_14, e3_15, e3_19, e3_20, e3_21, e3_29, e3_30, e3_31, q85], by simp [e3_0, e3_3, e3_4, e3_6, e3_14, e3_15, e3_19, e3_20, e3_21, e3_29, e3_30, e3_31, q85], by simp [e3_0, e3_3, e3_4, e3_6, e3_14, e3_15, e3_19, e3_20, e3_21, e3_29, e3_30, e3_31, q85], by simp [e3_0, e3_3, e3_4, e3_6, e3_14, e3_15, e3_19, e3_20, e3_21, e3_29, e3_30, e3_31, q85], by simp [e3_0, e3_3, e3_4, e3_6, e3_14, e3_15, e3_19, e3_20, e3_21, e3_29, e3_30, e3_31, q85]⟩
              · replace hL52 := cd_f hb54 hL52
                refine DWp.exit ?_
                simp only [andThen, leaves, if_true, if_false, reduceIte, Nat.reduceEqDiff]
                obtain rfl := Option.some.inj hL52
                try dsimp only at hL37
                refine DWp.region fun K hK => ?_
                simp [-aBin', -aBin, -aBinI, -aUn, -aNil, -flatV, n_fn, b_add, b_sub, b_mul, b_lt, b_le, b_gt, b_ge, b_eq, b_ne, u_not, e3_0, e3_3, e3_4, e3_6, e3_14, e3_15, e3_19, e3_20, e3_21, e3_29, e3_30, e3_31]
                apply hK
                clear hK K
                simp only [andThen, leaves]
                have S87 := S3_.pick [0, 1] (by decide) rfl
                exact ⟨n2, Nat.lt_succ_self _, l3_0, (iadd .i64 y2_21 1), w3_0, D3_0, hL37, S87, A3_, by simp [e3_0, e3_3, e3_4, e3_6, e3_14, e3_15, e3_19, e3_20, e3_21, e3_29, e3_30, e3_31], by simp [e3_0, e3_3, e3_4, e3_6, e3_14, e3_15, e3_19, e3_20, e3_21, e3_29, e3_30, e3_31], by simp [e3_0, e3_3, e3_4, e3_6, e3_14, e3_15, e3_19, e3_20, e3_21, e3_29, e3_30, e3_31], by simp [e3_0, e3_3, e3_4, e3_6, e3_14, e3_15, e3_19, e3_20, e3_21, e3_29, e3_30, e3_31], by simp [e3_0, e3_3, e3_4, e3_6, e3_14, e3_15, e3_19, e3_20, e3_21, e3_29, e3_30, e3_31], by simp [e3_0, e3_3, e3_4, e3_6, e3_14, e3_15, e3_19, e3_20, e3_21, e3_29, e3_30, e3_31], by simp [e3_0, e3_3, e3_4, e3_6, e3_14, e3_15, e3_19, e3_20, e3_21, e3_29, e3_30, e3_31], by simp [e3_0, e3_3, e3_4, e3_6, e3_14, e3_15, e3_19, e3_20, e3_21, e3_29, e3_30, e3_31]⟩
          · replace hL37 := cd_f hb39 hL37
            refine DWp.exit ?_
            simp only [andThen, leaves, if_true, if_false, reduceIte, Nat.reduceEqDiff]
            obtain rfl := Option.some.inj hL37
            try dsimp only at hL25
            refine DWp.region fun K hK => ?_
            simp [-aBin', -aBin, -aBinI, -aUn, -aNil, -flatV, n_fn, b_add, b_sub, b_mul, b_lt, b_le, b_gt, b_ge, b_eq, b_ne, u_not, e2_0, e2_3, e2_4, e2_14, e2_15, e2_19, e2_20, e2_21]
            apply hK
            clear hK K
            simp only [andThen, leaves]
            have S88 := S2_.pick [0] (by decide) rfl
            exact ⟨n1, Nat.lt_succ_self _, l2_0, (iadd .i64 y1_15 1), w2_0, D2_0, hL25, S88, A2_, by simp [e2_0, e2_3, e2_4, e2_14, e2_15, e2_19, e2_20, e2_21], by simp [e2_0, e2_3, e2_4, e2_14, e2_15, e2_19, e2_20, e2_21], by simp [e2_0, e2_3, e2_4, e2_14, e2_15, e2_19, e2_20, e2_21], by simp [e2_0, e2_3, e2_4, e2_14, e2_15, e2_19, e2_20, e2_21]⟩
      · replace hL25 := cd_f hb27 hL25
        refine DWp.exit ?_
        simp only [andThen, leaves, if_true, if_false, reduceIte, Nat.reduceEqDiff]
        obtain rfl := Option.some.inj hL25
        try dsimp only at hF
        refine DWp.seq ?_
        obtain ⟨r5, hc90, hF⟩ := bd_some hF
        refine DWp.region fun K hK => ?_
        simp [-aBin', -aBin, -aBinI, -aUn, -aNil, -flatV, n_fn, b_add, b_sub, b_mul, b_lt, b_le, b_gt, b_ge, b_eq, b_ne, u_not, e1_0, e1_3, e1_14, e1_15, ((S1_.rd (k := 0) rfl).tup)]
        have S91 : Sep G1_ (Fr H) ([rowsC w1_0 22 3 D1_0 (List.map ints l1_0)] ++ []) := S1_.pick [0] (by decide) rfl
        obtain ⟨B97, S92, U93, M94, R95, C96⟩ := S91.frame (hB.le A1_.1)
        refine CallD.t (F_slices_SortFunc_SSint_w (fu := fu) U93 S92 (fun G_ a_ v0 v1 y0 y1 q_ hy0 hy1 hq_ => F_slices_Compare_Sint_w (fu := fu) hy0 hy1 hq_) hc90) ?_
        rintro _ G99 ⟨a102, c98_Cz0, rfl, S103⟩
        have A101 := A1_.trans (a102.mono M94)
        have S100 : Sep G99 (Fr H) [rowsC w1_0 22 3 c98_Cz0 (List.map ints r5)] := C96 _ _ a102 S103
        simp [-aBin', -aBin, -aBinI, -aUn, -aNil, -flatV, n_fn, b_add, b_sub, b_mul, b_lt, b_le, b_gt, b_ge, b_eq, b_ne, u_not, e1_0, e1_3, e1_14, e1_15]
        apply hK
        clear hK K
        simp only [andThen, leaves]
        refine DWp.seq ?_
        refine DWp.region fun K hK => ?_
        simp [-aBin', -aBin, -aBinI, -aUn, -aNil, -flatV, n_fn, b_add, b_sub, b_mul, b_lt, b_le, b_gt, b_ge, b_eq, b_ne, u_not, e1_0, e1_3, e1_14, e1_15]
        apply hK
        clear hK K
        simp only [andThen, leaves]
        refine DWp.ret ?_
        obtain rfl := Option.some.inj hF
        exact ⟨by simp, [w1_0], by simp [e1_0, e1_3, e1_14, e1_15, ((S100.rd (k := 0) rfl).tup)], A101, w1_0, c98_Cz0, rfl, S100.pick [0] (by decide) rfl⟩
def F_impl_Meander_isOne (fu : Nat) (x0_0 : List Int) (x0_1 : List Int) : Option (Bool) :=
  bd (F_impl_Meander_components fu x0_0 x0_1) fun r1 =>
  some (ieq r1 1)
theorem F_impl_Meander_isOne_w {fu : Nat} {H : AH} {v0_0 : Value} {v0_1 : Value} {x0_0 : List Int} {x0_1 : List Int} {r : (Bool)} (hx0_0 : Sl H v0_0 (ints x0_0)) (hx0_1 : Sl H v0_1 (ints x0_1)) (hF : F_impl_Meander_isOne fu x0_0 x0_1 = some r) :
    ACallT Try.prog 104 [(Value.agg #[v0_0, v0_1])] H (fun u G => AgB (Fr H) H G ∧ u = (Value.bool r) ∧ Sep G (Fr H) []) := by
  refine ACallT.of_body (nt := 6) (rs := [.tmp 2]) Try.func104 rfl rfl rfl rfl ?_
  have A0 : AgB (Fr H) H H := .refl _ _
  have S0 : Sep H (Fr H) [] := .nil
  have hB := Fr.up H
  unfold F_impl_Meander_isOne at hF
  refine DWp.seq ?_
  obtain ⟨G2, p4, q5, q6, a7, S1⟩ := S0.boxT (hB.le A0.1) 38 [v0_0, v0_1]
  have A3 := A0.ext (hB.le A0.1) a7
  replace S1 : Sep G2 (Fr H) [AL.box p4 [v0_0, v0_1]] := S1
  refine DWp.region fun K hK => ?_
  simp [-aBin', -aBin, -aBinI, -aUn, -aNil, -flatV, n_fn, b_add, b_sub, b_mul, b_lt, b_le, b_gt, b_ge, b_eq, b_ne, u_not, q5, q6, a7.to_pre, cells_agg]
  apply hK
  clear hK K
  simp only [andThen, leaves]
  refine DWp.seq ?_
  have q8 := S1.loadAgg (P := Try.prog) (k := 0) rfl sz_38 ag_38 rfl
  obtain ⟨r1, hc9, hF⟩ := bd_some hF
  refine DWp.region fun K hK => ?_
  simp [-aBin', -aBin, -aBinI, -aUn, -aNil, -flatV, n_fn, b_add, b_sub, b_mul, b_lt, b_le, b_gt, b_ge, b_eq, b_ne, u_not, q8, ((hx0_0.agree A3.agree).tup), ((hx0_1.agree A3.agree).tup)]
  refine CallD.t (F_impl_Meander_components_w (fu := fu) (hx0_0.agree A3.agree) (hx0_1.agree A3.agree) hc9) ?_
  rintro _ G11 ⟨a14, rfl, S15⟩
  have A13 := A3.ext (hB.le A3.1) a14.agree
  have S12 : Sep G11 (Fr H) [AL.box p4 [v0_0, v0_1]] := S1.app a14.agree S15 (fun _ h => h) (hB.le A3.1)
  simp [-aBin', -aBin, -aBinI, -aUn, -aNil, -flatV, n_fn, b_add, b_sub, b_mul, b_lt, b_le, b_gt, b_ge, b_eq, b_ne, u_not, q8, a14.pre]
  apply hK
  clear hK K
  simp only [andThen, leaves]
  refine DWp.ret ?_
  obtain rfl := Option.some.inj hF
  exact ⟨by simp, [(Value.bool (ieq r1 1))], by simp [], A13, rfl, S12.pick [] (by decide) rfl⟩
end Go.Proofs.Ytdghlhdpcmemjaa.AL

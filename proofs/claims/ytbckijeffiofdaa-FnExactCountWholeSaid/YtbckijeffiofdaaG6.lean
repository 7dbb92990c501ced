/- The walks of functions, each with its Lean function: spec.PiecesOf, impl.PiecesOf, laws.FnExactPiecesOf, spec.ahAll, spec.siPairs, spec.CountByPieces, impl.covered, slices.Clone[[]int,int], impl.joined, bits.Len32. No condition. -/
import Derived.Test.YtbckijeffiofdaaG1
import Derived.Test.YtbckijeffiofdaaG2
import Derived.Test.YtbckijeffiofdaaG3
import Derived.Test.YtbckijeffiofdaaG4
import Derived.Test.YtbckijeffiofdaaG5
import Derived.Test.YtbckijeffiofdaaALC
import Derived.Test.YtbckijeffiofdaaProg
import Derived.KernelRfl
namespace Go.Proofs.Ytbckijeffiofdaa.AL
open Go Go.RowKit
set_option linter.unusedVariables false
set_option linter.unusedSimpArgs false
set_option maxRecDepth 4096
theorem un_3 : Try.prog.underlying 3 = some (.int .i64) := by kernel_rfl
theorem un_5 : Try.prog.underlying 5 = some (.int .u8) := by kernel_rfl
theorem un_9 : Try.prog.underlying 9 = some .string := by kernel_rfl
def F_spec_ahAll_L3 (fu : Nat) (self_ : Int → Int → Option (List (List Int))) (k3_0 : Int) (k3_1 : Int) (k3_2 : Int) (k3_3 : List Int) (k3_4 : List (List Int)) (k3_5 : Int) (k3_6 : Int) (k3_7 : List (List Int)) (k3_8 : Int) : Nat → List (List Int) → Int → Option (List (List Int) × Int)
  | 0, _, _ => none
  | n + 1, l3_0, y3_40 =>
    bif (ilt y3_40 k3_8) then
      gd (inL k3_7 y3_40) (
      gd ([(iadd .i64 (iadd .i64 k3_1 (imul .i64 2 k3_2)) 1)].length + k3_3.length ≤ 4294967296) (
      gd ((lapp [(iadd .i64 (iadd .i64 k3_1 (imul .i64 2 k3_2)) 1)] k3_3).length + [k3_1].length ≤ 4294967296) (
      gd ((lapp (lapp [(iadd .i64 (iadd .i64 k3_1 (imul .i64 2 k3_2)) 1)] k3_3) [k3_1]).length + (gat [] k3_7 y3_40).length ≤ 4294967296) (
      gd (l3_0.length + 1 ≤ 4294967296) (
      F_spec_ahAll_L3 fu self_ k3_0 k3_1 k3_2 k3_3 k3_4 k3_5 k3_6 k3_7 k3_8 n (lapp l3_0 [(lapp (lapp (lapp [(iadd .i64 (iadd .i64 k3_1 (imul .i64 2 k3_2)) 1)] k3_3) [k3_1]) (gat [] k3_7 y3_40))]) (iadd .i64 y3_40 1))))))
    else
      some (l3_0, y3_40)
def F_spec_ahAll_L2 (fu : Nat) (self_ : Int → Int → Option (List (List Int))) (k2_0 : Int) (k2_1 : Int) (k2_2 : Int) (k2_3 : List (List Int)) (k2_4 : Int) : Nat → List (List Int) → Int → Option (List (List Int) × Int)
  | 0, _, _ => none
  | n + 1, l2_0, y2_25 =>
    bif (ilt y2_25 k2_4) then
      gd (inL k2_3 y2_25) (
      bd (self_ (isub .i64 (isub .i64 k2_0 1) k2_2) (iadd .i64 (iadd .i64 k2_1 (imul .i64 2 k2_2)) 2)) fun r2 =>
      bd (F_spec_ahAll_L3 fu self_ k2_0 k2_1 k2_2 (gat [] k2_3 y2_25) k2_3 k2_4 y2_25 r2 (llen r2) fu l2_0 0) fun s3 =>
      F_spec_ahAll_L2 fu self_ k2_0 k2_1 k2_2 k2_3 k2_4 n s3.1 (iadd .i64 y2_25 1))
    else
      some (l2_0, y2_25)
def F_spec_ahAll_L1 (fu : Nat) (self_ : Int → Int → Option (List (List Int))) (k1_0 : Int) (k1_1 : Int) : Nat → List (List Int) → Int → Option (List (List Int) × Int)
  | 0, _, _ => none
  | n + 1, l1_0, y1_6 =>
    bif (ilt y1_6 k1_0) then
      bd (self_ y1_6 (iadd .i64 k1_1 1)) fun r1 =>
      bd (F_spec_ahAll_L2 fu self_ k1_0 k1_1 y1_6 r1 (llen r1) fu l1_0 0) fun s2 =>
      F_spec_ahAll_L1 fu self_ k1_0 k1_1 n s2.1 (iadd .i64 y1_6 1)
    else
      some (l1_0, y1_6)
def F_spec_ahAll : Nat → Int → Int → Option (List (List Int))
  | 0, _, _ => none
  | fu + 1, x0, x1 =>
    bif (ieq x0 0) then
      some [[]]
    else
      bd (F_spec_ahAll_L1 fu (F_spec_ahAll fu) x0 x1 fu (@List.nil (List Int)) 0) fun s1 =>
      some s1.1
theorem F_spec_ahAll_w : ∀ {fu : Nat} {H : AH}  {x0 : Int} {x1 : Int} {r : (List (List Int))}  (hF : F_spec_ahAll fu x0 x1 = some r),
    ACallT Try.prog 143 [(Value.int .i64 x0), (Value.int .i64 x1)] H (fun u G => AgB (Fr H) H G ∧ ∃ u0 : Value, ∃ C0 : List Value, u = u0 ∧ Sep G (Fr H) [rowsC u0 22 3 C0 (List.map ints r)]) := by
  intro fu
  induction fu with
  | zero => intros; rename_i hF; cases hF
  | succ fu ih =>
  intro H  x0 x1 r  hF
  simp only [F_spec_ahAll] at hF
  refine ACallT.of_body (nt := 65) (rs := [.tmp 4]) Try.func143 rfl rfl rfl rfl ?_
  have A0 : AgB (Fr H) H H := .refl _ _
  have S0 : Sep H (Fr H) [] := .nil
  have hB := Fr.up H
  refine DWp.seq ?_
  refine DWp.region fun K hK => ?_
  simp [-aBin', -aBin, -aBinI, -aUn, -aNil, -flatV, n_fn, b_add, b_sub, b_mul, b_lt, b_le, b_gt, b_ge, b_eq, b_ne, u_not]
  apply hK
  clear hK K
  simp only [andThen, leaves]
  refine DWp.seq ?_
  refine DWp.seq ?_
  refine DWp.region fun K hK => ?_
  simp [-aBin', -aBin, -aBinI, -aUn, -aNil, -flatV, n_fn, b_add, b_sub, b_mul, b_lt, b_le, b_gt, b_ge, b_eq, b_ne, u_not]
  apply hK
  clear hK K
  simp only [andThen, leaves]
  refine DWp.cond' (t := (ieq x0 0)) (by simp []) (fun hb1 => ?_) (fun hb1 => ?_)
  · replace hF := cd_t hb1 hF
    refine DWp.seq ?_
    obtain ⟨v2, G3, q4, S5, a7, _, _⟩ := S0.lit1 (P := Try.prog) (t := 36) (hB.le A0.1) el_36 ei_22 rfl (Value.slice none 0 0) (rfl : isTup (Value.slice none 0 0) = false) (rfl : (Value.slice none 0 0).cells = #[(Value.slice none 0 0)])
    have A6 := A0.ext (hB.le A0.1) a7
    replace S5 : Sep G3 (Fr H) [flat1 v2 22 [(Value.slice none 0 0)]] := S5
    refine DWp.region fun K hK => ?_
    simp [-aBin', -aBin, -aBinI, -aUn, -aNil, -flatV, n_fn, b_add, b_sub, b_mul, b_lt, b_le, b_gt, b_ge, b_eq, b_ne, u_not, q4, a7.to_pre, (rfl : isTup (Value.slice none 0 0) = false)]
    apply hK
    clear hK K
    simp only [andThen, leaves]
    refine DWp.ret ?_
    simp only [andThen, leaves]
    have S8 := S5.nilItem (hB.le A6.1) 3
    have S9 : Sep G3 (Fr H) [rowsC v2 22 3 [(Value.slice none 0 0)] (List.map ints [[]]), emp] := S8.rowsOf1 (j := 0) (k := 1) (by decide) rfl rfl
    obtain rfl := Option.some.inj hF
    exact ⟨by simp, [v2], by simp [((S9.rd (k := 0) rfl).tup)], A6, v2, [(Value.slice none 0 0)], rfl, S9.pick [0] (by decide) rfl⟩
  · replace hF := cd_f hb1 hF
    refine DWp.skip ?_
    simp only [andThen, leaves]
    refine DWp.seq ?_
    refine DWp.region fun K hK => ?_
    simp [-aBin', -aBin, -aBinI, -aUn, -aNil, -flatV, n_fn, b_add, b_sub, b_mul, b_lt, b_le, b_gt, b_ge, b_eq, b_ne, u_not]
    apply hK
    clear hK K
    simp only [andThen, leaves]
    refine DWp.seq ?_
    refine DWp.seq ?_
    refine DWp.region fun K hK => ?_
    simp [-aBin', -aBin, -aBinI, -aUn, -aNil, -flatV, n_fn, b_add, b_sub, b_mul, b_lt, b_le, b_gt, b_ge, b_eq, b_ne, u_not]
    apply hK
    clear hK K
    simp only [andThen, leaves]
    refine DWp.block ?_
    have S10 := S0.rowsNil (hB.le A0.1) 22 3
    obtain ⟨s11, hL12, hF⟩ := bd_some hF
    have S13 := S10.pick [0] (by decide) rfl
    refine DWp.loop (fun n env G => ∃ l1_0 : List (List Int), ∃ y1_6 : Int, ∃ w1_0 : Value, ∃ D1_0 : List Value, F_spec_ahAll_L1 fu (F_spec_ahAll fu) x0 x1 n l1_0 y1_6 = some s11 ∧ Sep G (Fr H) [rowsC w1_0 22 3 D1_0 (List.map ints l1_0)] ∧ AgB (Fr H) H G ∧ env 0 = some (Value.int .i64 x0) ∧ env 1 = some (Value.int .i64 x1) ∧ env 5 = some w1_0 ∧ env 6 = some (Value.int .i64 y1_6)) fu ⟨(@List.nil (List Int)), 0, (Value.slice none 0 0), [], hL12, S13, A0, by simp [], by simp [], by simp [], by simp []⟩ ?_
    rintro n1 env1 G1_ ⟨l1_0, y1_6, w1_0, D1_0, hL12, S1_, A1_, e1_0, e1_1, e1_5, e1_6⟩
    cases n1 with
    | zero => cases hL12
    | succ n1 =>
      simp only [F_spec_ahAll_L1] at hL12
      refine DWp.seq ?_
      refine DWp.seq ?_
      refine DWp.region fun K hK => ?_
      simp [-aBin', -aBin, -aBinI, -aUn, -aNil, -flatV, n_fn, b_add, b_sub, b_mul, b_lt, b_le, b_gt, b_ge, b_eq, b_ne, u_not, e1_0, e1_1, e1_5, e1_6]
      apply hK
      clear hK K
      simp only [andThen, leaves]
      refine DWp.cond' (t := (ilt y1_6 x0)) (by simp [e1_0, e1_1, e1_5, e1_6]) (fun hb14 => ?_) (fun hb14 => ?_)
      · replace hL12 := cd_t hb14 hL12
        refine DWp.skip ?_
        simp only [andThen, leaves]
        refine DWp.seq ?_
        refine DWp.block ?_
        refine DWp.seq ?_
        obtain ⟨r1, hc15, hL12⟩ := bd_some hL12
        refine DWp.region fun K hK => ?_
        simp [-aBin', -aBin, -aBinI, -aUn, -aNil, -flatV, n_fn, b_add, b_sub, b_mul, b_lt, b_le, b_gt, b_ge, b_eq, b_ne, u_not, e1_0, e1_1, e1_5, e1_6]
        refine CallD.t (ih  hc15) ?_
        rintro c16_u0 G17 ⟨a20, _, c16_C0, rfl, S21⟩
        have A19 := A1_.ext (hB.le A1_.1) a20.agree
        have S18 : Sep G17 (Fr H) [rowsC w1_0 22 3 D1_0 (List.map ints l1_0), rowsC c16_u0 22 3 c16_C0 (List.map ints r1)] := S1_.app a20.agree S21 (fun _ h => h) (hB.le A1_.1)
        have q22 := (S18.rd (k := 1) rfl).lenG (P := Try.prog) el_36
        simp [-aBin', -aBin, -aBinI, -aUn, -aNil, -flatV, n_fn, b_add, b_sub, b_mul, b_lt, b_le, b_gt, b_ge, b_eq, b_ne, u_not, e1_0, e1_1, e1_5, e1_6, a20.pre, q22]
        apply hK
        clear hK K
        simp only [andThen, leaves]
        refine DWp.block ?_
        obtain ⟨s23, hL24, hL12⟩ := bd_some hL12
        have S25 := S18.pick [0, 1] (by decide) rfl
        refine DWp.loop (fun n env G => ∃ l2_0 : List (List Int), ∃ y2_25 : Int, ∃ w2_0 : Value, ∃ D2_0 : List Value, F_spec_ahAll_L2 fu (F_spec_ahAll fu) x0 x1 y1_6 r1 (llen r1) n l2_0 y2_25 = some s23 ∧ Sep G (Fr H) [rowsC w2_0 22 3 D2_0 (List.map ints l2_0), rowsC c16_u0 22 3 c16_C0 (List.map ints r1)] ∧ AgB (Fr H) H G ∧ env 0 = some (Value.int .i64 x0) ∧ env 1 = some (Value.int .i64 x1) ∧ env 5 = some w2_0 ∧ env 6 = some (Value.int .i64 y1_6) ∧ env 23 = some c16_u0 ∧ env 24 = some (Value.int .i64 (llen r1)) ∧ env 25 = some (Value.int .i64 y2_25)) fu ⟨l1_0, 0, w1_0, D1_0, hL24, S25, A19, by simp [e1_0, e1_1, e1_5, e1_6], by simp [e1_0, e1_1, e1_5, e1_6], by simp [e1_0, e1_1, e1_5, e1_6], by simp [e1_0, e1_1, e1_5, e1_6], by simp [e1_0, e1_1, e1_5, e1_6], by simp [e1_0, e1_1, e1_5, e1_6], by simp [e1_0, e1_1, e1_5, e1_6]⟩ ?_
        rintro n2 env2 G2_ ⟨l2_0, y2_25, w2_0, D2_0, hL24, S2_, A2_, e2_0, e2_1, e2_5, e2_6, e2_23, e2_24, e2_25⟩
        cases n2 with
        | zero => cases hL24
        | succ n2 =>
          simp only [F_spec_ahAll_L2] at hL24
          refine DWp.seq ?_
          refine DWp.region fun K hK => ?_
          simp [-aBin', -aBin, -aBinI, -aUn, -aNil, -flatV, n_fn, b_add, b_sub, b_mul, b_lt, b_le, b_gt, b_ge, b_eq, b_ne, u_not, e2_0, e2_1, e2_5, e2_6, e2_23, e2_24, e2_25]
          apply hK
          clear hK K
          simp only [andThen, leaves]
          refine DWp.seq ?_
          refine DWp.cond' (t := (ilt y2_25 (llen r1))) (by simp [e2_0, e2_1, e2_5, e2_6, e2_23, e2_24, e2_25]) (fun hb26 => ?_) (fun hb26 => ?_)
          · replace hL24 := cd_t hb26 hL24
            refine DWp.skip ?_
            simp only [andThen, leaves]
            refine DWp.seq ?_
            refine DWp.block ?_
            refine DWp.seq ?_
            obtain ⟨g27, hL24⟩ := gd_some hL24
            have q28 := (S2_.rd (k := 1) rfl).idxG (P := Try.prog) (kk := .i64) el_36 sz_22 g27
            have q29 := (S2_.rd (k := 1) rfl).loadG (P := Try.prog) sz_22 ag_22 g27
            refine DWp.region fun K hK => ?_
            simp [-aBin', -aBin, -aBinI, -aUn, -aNil, -flatV, n_fn, b_add, b_sub, b_mul, b_lt, b_le, b_gt, b_ge, b_eq, b_ne, u_not, e2_0, e2_1, e2_5, e2_6, e2_23, e2_24, e2_25, q28, q29]
            apply hK
            clear hK K
            simp only [andThen, leaves]
            refine DWp.seq ?_
            obtain ⟨r2, hc30, hL24⟩ := bd_some hL24
            refine DWp.region fun K hK => ?_
            simp [-aBin', -aBin, -aBinI, -aUn, -aNil, -flatV, n_fn, b_add, b_sub, b_mul, b_lt, b_le, b_gt, b_ge, b_eq, b_ne, u_not, e2_0, e2_1, e2_5, e2_6, e2_23, e2_24, e2_25]
            refine CallD.t (ih  hc30) ?_
            rintro c31_u0 G32 ⟨a35, _, c31_C0, rfl, S36⟩
            have A34 := A2_.ext (hB.le A2_.1) a35.agree
            have S33 : Sep G32 (Fr H) [rowsC w2_0 22 3 D2_0 (List.map ints l2_0), rowsC c16_u0 22 3 c16_C0 (List.map ints r1), rowsC c31_u0 22 3 c31_C0 (List.map ints r2)] := S2_.app a35.agree S36 (fun _ h => h) (hB.le A2_.1)
            have q37 := (S33.rd (k := 2) rfl).lenG (P := Try.prog) el_36
            simp [-aBin', -aBin, -aBinI, -aUn, -aNil, -flatV, n_fn, b_add, b_sub, b_mul, b_lt, b_le, b_gt, b_ge, b_eq, b_ne, u_not, e2_0, e2_1, e2_5, e2_6, e2_23, e2_24, e2_25, a35.pre, q37]
            apply hK
            clear hK K
            simp only [andThen, leaves]
            refine DWp.block ?_
            obtain ⟨s38, hL39, hL24⟩ := bd_some hL24
            have S40 := S33.pick [0, 1, 2] (by decide) rfl
            refine DWp.loop (fun n env G => ∃ l3_0 : List (List Int), ∃ y3_40 : Int, ∃ w3_0 : Value, ∃ D3_0 : List Value, F_spec_ahAll_L3 fu (F_spec_ahAll fu) x0 x1 y1_6 (gat [] r1 y2_25) r1 (llen r1) y2_25 r2 (llen r2) n l3_0 y3_40 = some s38 ∧ Sep G (Fr H) [rowsC w3_0 22 3 D3_0 (List.map ints l3_0), rowsC c16_u0 22 3 c16_C0 (List.map ints r1), rowsC c31_u0 22 3 c31_C0 (List.map ints r2)] ∧ AgB (Fr H) H G ∧ env 0 = some (Value.int .i64 x0) ∧ env 1 = some (Value.int .i64 x1) ∧ env 5 = some w3_0 ∧ env 6 = some (Value.int .i64 y1_6) ∧ env 8 = some (gat nilV c16_C0 y2_25) ∧ env 23 = some c16_u0 ∧ env 24 = some (Value.int .i64 (llen r1)) ∧ env 25 = some (Value.int .i64 y2_25) ∧ env 38 = some c31_u0 ∧ env 39 = some (Value.int .i64 (llen r2)) ∧ env 40 = some (Value.int .i64 y3_40)) fu ⟨l2_0, 0, w2_0, D2_0, hL39, S40, A34, by simp [e2_0, e2_1, e2_5, e2_6, e2_23, e2_24, e2_25], by simp [e2_0, e2_1, e2_5, e2_6, e2_23, e2_24, e2_25], by simp [e2_0, e2_1, e2_5, e2_6, e2_23, e2_24, e2_25], by simp [e2_0, e2_1, e2_5, e2_6, e2_23, e2_24, e2_25], by simp [e2_0, e2_1, e2_5, e2_6, e2_23, e2_24, e2_25], by simp [e2_0, e2_1, e2_5, e2_6, e2_23, e2_24, e2_25], by simp [e2_0, e2_1, e2_5, e2_6, e2_23, e2_24, e2_25], by simp [e2_0, e2_1, e2_5, e2_6, e2_23, e2_24, e2_25], by simp [e2_0, e2_1, e2_5, e2_6, e2_23, e2_24, e2_25], by simp [e2_0, e2_1, e2_5, e2_6, e2_23, e2_24, e2_25], by simp [e2_0, e2_1, e2_5, e2_6, e2_23, e2_24, e2_25]⟩ ?_
            rintro n3 env3 G3_ ⟨l3_0, y3_40, w3_0, D3_0, hL39, S3_, A3_, e3_0, e3_1, e3_5, e3_6, e3_8, e3_23, e3_24, e3_25, e3_38, e3_39, e3_40⟩
            cases n3 with
            | zero => cases hL39
            | succ n3 =>
              simp only [F_spec_ahAll_L3] at hL39
              refine DWp.seq ?_
              refine DWp.region fun K hK => ?_
              simp [-aBin', -aBin, -aBinI, -aUn, -aNil, -flatV, n_fn, b_add, b_sub, b_mul, b_lt, b_le, b_gt, b_ge, b_eq, b_ne, u_not, e3_0, e3_1, e3_5, e3_6, e3_8, e3_23, e3_24, e3_25, e3_38, e3_39, e3_40]
              apply hK
              clear hK K
              simp only [andThen, leaves]
              refine DWp.seq ?_
              refine DWp.cond' (t := (ilt y3_40 (llen r2))) (by simp [e3_0, e3_1, e3_5, e3_6, e3_8, e3_23, e3_24, e3_25, e3_38, e3_39, e3_40]) (fun hb41 => ?_) (fun hb41 => ?_)
              · replace hL39 := cd_t hb41 hL39
                refine DWp.skip ?_
                simp only [andThen, leaves]
                refine DWp.seq ?_
                refine DWp.block ?_
                refine DWp.seq ?_
                obtain ⟨g42, hL39⟩ := gd_some hL39
                have q43 := (S3_.rd (k := 2) rfl).idxG (P := Try.prog) (kk := .i64) el_36 sz_22 g42
                have q44 := (S3_.rd (k := 2) rfl).loadG (P := Try.prog) sz_22 ag_22 g42
                refine DWp.region fun K hK => ?_
                simp [-aBin', -aBin, -aBinI, -aUn, -aNil, -flatV, n_fn, b_add, b_sub, b_mul, b_lt, b_le, b_gt, b_ge, b_eq, b_ne, u_not, e3_0, e3_1, e3_5, e3_6, e3_8, e3_23, e3_24, e3_25, e3_38, e3_39, e3_40, q43, q44]
                apply hK
                clear hK K
                simp only [andThen, leaves]
                refine DWp.seq ?_
                obtain ⟨v45, G46, q47, S48, a50, _, _⟩ := S3_.lit1 (P := Try.prog) (t := 22) (hB.le A3_.1) el_22 ei_3 rfl (Value.int .i64 (iadd .i64 (iadd .i64 x1 (imul .i64 2 y1_6)) 1)) rfl rfl
                have A49 := A3_.ext (hB.le A3_.1) a50
                replace S48 : Sep G46 (Fr H) [rowsC w3_0 22 3 D3_0 (List.map ints l3_0), rowsC c16_u0 22 3 c16_C0 (List.map ints r1), rowsC c31_u0 22 3 c31_C0 (List.map ints r2), flat1 v45 3 (ints [(iadd .i64 (iadd .i64 x1 (imul .i64 2 y1_6)) 1)])] := S48
                obtain ⟨g52, hL39⟩ := gd_some hL39
                obtain ⟨v58, G53, q54, S55, a57, _, _⟩ := S48.append1 (f := (Value.int .i64)) (xs := [(iadd .i64 (iadd .i64 x1 (imul .i64 2 y1_6)) 1)]) (ys := (gat [] r1 y2_25)) (P := Try.prog) (t := 22) (t2 := 22) (k := 3) rfl (hB.le A49.1) el_22 el_22 ei_3 rfl ((S48.rd (k := 1) rfl).rowAt [] g27) g52
                have A56 := A49.trans a57
                replace S55 : Sep G53 (Fr H) [rowsC w3_0 22 3 D3_0 (List.map ints l3_0), rowsC c16_u0 22 3 c16_C0 (List.map ints r1), rowsC c31_u0 22 3 c31_C0 (List.map ints r2), flat v58 3 (ints (lapp [(iadd .i64 (iadd .i64 x1 (imul .i64 2 y1_6)) 1)] (gat [] r1 y2_25)))] := S55
                refine DWp.region fun K hK => ?_
                simp [-aBin', -aBin, -aBinI, -aUn, -aNil, -flatV, n_fn, b_add, b_sub, b_mul, b_lt, b_le, b_gt, b_ge, b_eq, b_ne, u_not, e3_0, e3_1, e3_5, e3_6, e3_8, e3_23, e3_24, e3_25, e3_38, e3_39, e3_40, q47, a50.to_pre, q54]
                apply hK
                clear hK K
                simp only [andThen, leaves]
                refine DWp.seq ?_
                obtain ⟨v59, G60, q61, S62, a64, _, _⟩ := S55.lit1 (P := Try.prog) (t := 22) (hB.le A56.1) el_22 ei_3 rfl (Value.int .i64 x1) rfl rfl
                have A63 := A56.ext (hB.le A56.1) a64
                replace S62 : Sep G60 (Fr H) [rowsC w3_0 22 3 D3_0 (List.map ints l3_0), rowsC c16_u0 22 3 c16_C0 (List.map ints r1), rowsC c31_u0 22 3 c31_C0 (List.map ints r2), flat v58 3 (ints (lapp [(iadd .i64 (iadd .i64 x1 (imul .i64 2 y1_6)) 1)] (gat [] r1 y2_25))), flat1 v59 3 (ints [x1])] := S62
                obtain ⟨g66, hL39⟩ := gd_some hL39
                obtain ⟨v72, G67, q68, S69, a71, _, _⟩ := S62.appendG (f := (Value.int .i64)) (xs := (lapp [(iadd .i64 (iadd .i64 x1 (imul .i64 2 y1_6)) 1)] (gat [] r1 y2_25))) (ys := [x1]) (P := Try.prog) (t := 22) (t2 := 22) (k := 3) rfl (hB.le A63.1) el_22 el_22 ei_3 rfl (S62.sl1 (k := 4) rfl) g66
                have A70 := A63.trans a71
                replace S69 : Sep G67 (Fr H) [rowsC w3_0 22 3 D3_0 (List.map ints l3_0), rowsC c16_u0 22 3 c16_C0 (List.map ints r1), rowsC c31_u0 22 3 c31_C0 (List.map ints r2), flat v72 3 (ints (lapp (lapp [(iadd .i64 (iadd .i64 x1 (imul .i64 2 y1_6)) 1)] (gat [] r1 y2_25)) [x1])), flat1 v59 3 (ints [x1])] := S69
                obtain ⟨g73, hL39⟩ := gd_some hL39
                obtain ⟨v79, G74, q75, S76, a78, _, _⟩ := S69.appendG (f := (Value.int .i64)) (xs := (lapp (lapp [(iadd .i64 (iadd .i64 x1 (imul .i64 2 y1_6)) 1)] (gat [] r1 y2_25)) [x1])) (ys := (gat [] r2 y3_40)) (P := Try.prog) (t := 22) (t2 := 22) (k := 3) rfl (hB.le A70.1) el_22 el_22 ei_3 rfl ((S69.rd (k := 2) rfl).rowAt [] g42) g73
                have A77 := A70.trans a78
                replace S76 : Sep G74 (Fr H) [rowsC w3_0 22 3 D3_0 (List.map ints l3_0), rowsC c16_u0 22 3 c16_C0 (List.map ints r1), rowsC c31_u0 22 3 c31_C0 (List.map ints r2), flat v79 3 (ints (lapp (lapp (lapp [(iadd .i64 (iadd .i64 x1 (imul .i64 2 y1_6)) 1)] (gat [] r1 y2_25)) [x1]) (gat [] r2 y3_40))), flat1 v59 3 (ints [x1])] := S76
                refine DWp.region fun K hK => ?_
                simp [-aBin', -aBin, -aBinI, -aUn, -aNil, -flatV, n_fn, b_add, b_sub, b_mul, b_lt, b_le, b_gt, b_ge, b_eq, b_ne, u_not, e3_0, e3_1, e3_5, e3_6, e3_8, e3_23, e3_24, e3_25, e3_38, e3_39, e3_40, q61, a64.to_pre, q68, q75]
                apply hK
                clear hK K
                simp only [andThen, leaves]
                obtain ⟨v80, G81, q82, S83, a85, _, _⟩ := S76.lit1 (P := Try.prog) (t := 36) (hB.le A77.1) el_36 ei_22 rfl v79 ((S76.sl (k := 3) rfl).tup) ((S76.sl (k := 3) rfl).one)
                have A84 := A77.ext (hB.le A77.1) a85
                replace S83 : Sep G81 (Fr H) [rowsC w3_0 22 3 D3_0 (List.map ints l3_0), rowsC c16_u0 22 3 c16_C0 (List.map ints r1), rowsC c31_u0 22 3 c31_C0 (List.map ints r2), flat v79 3 (ints (lapp (lapp (lapp [(iadd .i64 (iadd .i64 x1 (imul .i64 2 y1_6)) 1)] (gat [] r1 y2_25)) [x1]) (gat [] r2 y3_40))), flat1 v59 3 (ints [x1]), flat1 v80 22 [v79]] := S83
                obtain ⟨g86, hL39⟩ := gd_some hL39
                obtain ⟨v92, G87, q88, S89, a91, q88t, _⟩ := S83.pushRow (u := w3_0) (fr := ints) (X := l3_0) (y := (lapp (lapp (lapp [(iadd .i64 (iadd .i64 x1 (imul .i64 2 y1_6)) 1)] (gat [] r1 y2_25)) [x1]) (gat [] r2 y3_40))) (P := Try.prog) (t := 36) (t2 := 36) (j := 0) (k := 3) (by decide) rfl rfl (hB.le A84.1) el_36 el_36 ei_22 rfl (S83.sl1 (k := 5) rfl) g86
                have A90 := A84.trans a91
                replace S89 : Sep G87 (Fr H) [rowsC v92 22 3 (D3_0 ++ [v79]) (List.map ints (lapp l3_0 [(lapp (lapp (lapp [(iadd .i64 (iadd .i64 x1 (imul .i64 2 y1_6)) 1)] (gat [] r1 y2_25)) [x1]) (gat [] r2 y3_40))])), rowsC c16_u0 22 3 c16_C0 (List.map ints r1), rowsC c31_u0 22 3 c31_C0 (List.map ints r2), emp, flat1 v59 3 (ints [x1]), flat1 v80 22 [v79]] := S89
                refine DWp.region fun K hK => ?_
                simp [-aBin', -aBin, -aBinI, -aUn, -aNil, -flatV, n_fn, b_add, b_sub, b_mul, b_lt, b_le, b_gt, b_ge, b_eq, b_ne, u_not, e3_0, e3_1, e3_5, e3_6, e3_8, e3_23, e3_24, e3_25, e3_38, e3_39, e3_40, q82, a85.to_pre, ((S76.sl (k := 3) rfl).tup), q88, q88t]
                apply hK
                clear hK K
                simp only [andThen, leaves]
                refine DWp.region fun K hK => ?_
                simp [-aBin', -aBin, -aBinI, -aUn, -aNil, -flatV, n_fn, b_add, b_sub, b_mul, b_lt, b_le, b_gt, b_ge, b_eq, b_ne, u_not, e3_0, e3_1, e3_5, e3_6, e3_8, e3_23, e3_24, e3_25, e3_38, e3_39, e3_40]
                apply hK
                clear hK K
                simp only [andThen, leaves]
                have S93 := S89.pick [0, 1, 2] (by decide) rfl
                exact ⟨n3, Nat.lt_succ_self _, (lapp l3_0 [(lapp (lapp (lapp [(iadd .i64 (iadd .i64 x1 (imul .i64 2 y1_6)) 1)] (gat [] r1 y2_25)) [x1]) (gat [] r2 y3_40))]), (iadd .i64 y3_40 1), v92, (D3_0 ++ [v79]), hL39, S93, A90, by simp [e3_0, e3_1, e3_5, e3_6, e3_8, e3_23, e3_24, e3_25, e3_38, e3_39, e3_40], by simp [e3_0, e3_1, e3_5, e3_6, e3_8, e3_23, e3_24, e3_25, e3_38, e3_39, e3_40], by simp [e3_0, e3_1, e3_5, e3_6, e3_8, e3_23, e3_24, e3_25, e3_38, e3_39, e3_40], by simp [e3_0, e3_1, e3_5, e3_6, e3_8, e3_23, e3_24, e3_25, e3_38, e3_39, e3_40], by simp [e3_0, e3_1, e3_5, e3_6, e3_8, e3_23, e3_24, e3_25, e3_38, e3_39, e3_40], by simp [e3_0, e3_1, e3_5, e3_6, e3_8, e3_23, e3_24, e3_25, e3_38, e3_39, e3_40], by simp [e3_0, e3_1, e3_5, e3_6, e3_8, e3_23, e3_24, e3_25, e3_38, e3_39, e3_40], by simp [e3_0, e3_1, e3_5, e3_6, e3_8, e3_23, e3_24, e3_25, e3_38, e3_39, e3_40], by simp [e3_0, e3_1, e3_5, e3_6, e3_8, e3_23, e3_24, e3_25, e3_38, e3_39, e3_40], by simp [e3_0, e3_1, e3_5, e3_6, e3_8, e3_23, e3_24, e3_25, e3_38, e3_39, e3_40], by simp [e3_0, e3_1, e3_5, e3_6, e3_8, e3_23, e3_24, e3_25, e3_38, e3_39, e3_40]⟩
              · replace hL39 := cd_f hb41 hL39
                refine DWp.exit ?_
                simp only [andThen, leaves, if_true, if_false, reduceIte, Nat.reduceEqDiff]
                obtain rfl := Option.some.inj hL39
                try dsimp only at hL24
                refine DWp.region fun K hK => ?_
                simp [-aBin', -aBin, -aBinI, -aUn, -aNil, -flatV, n_fn, b_add, b_sub, b_mul, b_lt, b_le, b_gt, b_ge, b_eq, b_ne, u_not, e3_0, e3_1, e3_5, e3_6, e3_8, e3_23, e3_24, e3_25, e3_38, e3_39, e3_40]
                apply hK
                clear hK K
                simp only [andThen, leaves]
                have S94 := S3_.pick [0, 1] (by decide) rfl
                exact ⟨n2, Nat.lt_succ_self _, l3_0, (iadd .i64 y2_25 1), w3_0, D3_0, hL24, S94, A3_, by simp [e3_0, e3_1, e3_5, e3_6, e3_8, e3_23, e3_24, e3_25, e3_38, e3_39, e3_40], by simp [e3_0, e3_1, e3_5, e3_6, e3_8, e3_23, e3_24, e3_25, e3_38, e3_39, e3_40], by simp [e3_0, e3_1, e3_5, e3_6, e3_8, e3_23, e3_24, e3_25, e3_38, e3_39, e3_40], by simp [e3_0, e3_1, e3_5, e3_6, e3_8, e3_23, e3_24, e3_25, e3_38, e3_39, e3_40], by simp [e3_0, e3_1, e3_5, e3_6, e3_8, e3_23, e3_24, e3_25, e3_38, e3_39, e3_40], by simp [e3_0, e3_1, e3_5, e3_6, e3_8, e3_23, e3_24, e3_25, e3_38, e3_39, e3_40], by simp [e3_0, e3_1, e3_5, e3_6, e3_8, e3_23, e3_24, e3_25, e3_38, e3_39, e3_40]⟩
          · replace hL24 := cd_f hb26 hL24
            refine DWp.exit ?_
            simp only [andThen, leaves, if_true, if_false, reduceIte, Nat.reduceEqDiff]
            obtain rfl := Option.some.inj hL24
            try dsimp only at hL12
            refine DWp.region fun K hK => ?_
            simp [-aBin', -aBin, -aBinI, -aUn, -aNil, -flatV, n_fn, b_add, b_sub, b_mul, b_lt, b_le, b_gt, b_ge, b_eq, b_ne, u_not, e2_0, e2_1, e2_5, e2_6, e2_23, e2_24, e2_25]
            apply hK
            clear hK K
            simp only [andThen, leaves]
            have S95 := S2_.pick [0] (by decide) rfl
            exact ⟨n1, Nat.lt_succ_self _, l2_0, (iadd .i64 y1_6 1), w2_0, D2_0, hL12, S95, A2_, by simp [e2_0, e2_1, e2_5, e2_6, e2_23, e2_24, e2_25], by simp [e2_0, e2_1, e2_5, e2_6, e2_23, e2_24, e2_25], by simp [e2_0, e2_1, e2_5, e2_6, e2_23, e2_24, e2_25], by simp [e2_0, e2_1, e2_5, e2_6, e2_23, e2_24, e2_25]⟩
      · replace hL12 := cd_f hb14 hL12
        refine DWp.exit ?_
        simp only [andThen, leaves, if_true, if_false, reduceIte, Nat.reduceEqDiff]
        obtain rfl := Option.some.inj hL12
        try dsimp only at hF
        refine DWp.seq ?_
        refine DWp.region fun K hK => ?_
        simp [-aBin', -aBin, -aBinI, -aUn, -aNil, -flatV, n_fn, b_add, b_sub, b_mul, b_lt, b_le, b_gt, b_ge, b_eq, b_ne, u_not, e1_0, e1_1, e1_5, e1_6]
        apply hK
        clear hK K
        simp only [andThen, leaves]
        refine DWp.ret ?_
        obtain rfl := Option.some.inj hF
        exact ⟨by simp, [w1_0], by simp [e1_0, e1_1, e1_5, e1_6, ((S1_.rd (k := 0) rfl).tup)], A1_, w1_0, D1_0, rfl, S1_.pick [0] (by decide) rfl⟩
def F_spec_siPairs_L2 (fu : Nat) (k2_0 : List (List Int)) (k2_1 : List Int) (k2_2 : Int) (k2_3 : Int) : Nat → List (List Int × List Int) → Int → Option (List (List Int × List Int) × Int)
  | 0, _, _ => none
  | n + 1, l2_1, y2_19 =>
    bif (ilt y2_19 k2_2) then
      gd (inL k2_0 y2_19) (
      bd (F_spec_l1Own fu k2_1) fun r2 =>
      bd (F_spec_l1Own fu (gat [] k2_0 y2_19)) fun r3 =>
      gd (l2_1.length + 1 ≤ 4294967296) (
      F_spec_siPairs_L2 fu k2_0 k2_1 k2_2 k2_3 n (lapp l2_1 [(r2, r3)]) (iadd .i64 y2_19 1)))
    else
      some (l2_1, y2_19)
def F_spec_siPairs_L1 (fu : Nat) (k1_0 : List (List Int)) (k1_1 : Int) : Nat → List (List Int × List Int) → Int → Option (List (List Int × List Int) × Int)
  | 0, _, _ => none
  | n + 1, l1_1, y1_13 =>
    bif (ilt y1_13 k1_1) then
      gd (inL k1_0 y1_13) (
      bd (F_spec_siPairs_L2 fu k1_0 (gat [] k1_0 y1_13) k1_1 y1_13 fu l1_1 0) fun s2 =>
      F_spec_siPairs_L1 fu k1_0 k1_1 n s2.1 (iadd .i64 y1_13 1))
    else
      some (l1_1, y1_13)
def F_spec_siPairs (fu : Nat) (x0 : Int) : Option (List (List Int × List Int)) :=
  bd (F_spec_ahAll fu x0 0) fun r1 =>
  bd (F_spec_siPairs_L1 fu r1 (llen r1) fu (@List.nil (List Int × List Int)) 0) fun s1 =>
  some s1.1
theorem F_spec_siPairs_w {fu : Nat} {H : AH}  {x0 : Int} {r : (List (List Int × List Int))}  (hF : F_spec_siPairs fu x0 = some r) :
    ACallT Try.prog 115 [(Value.int .i64 x0)] H (fun u G => AgB (Fr H) H G ∧ ∃ u0 : Value, ∃ C0 : List Value, u = u0 ∧ Sep G (Fr H) [rowsP u0 28 3 C0 r]) := by
  refine ACallT.of_body (nt := 34) (rs := [.tmp 2]) Try.func115 rfl rfl rfl rfl ?_
  have A0 : AgB (Fr H) H H := .refl _ _
  have S0 : Sep H (Fr H) [] := .nil
  have hB := Fr.up H
  unfold F_spec_siPairs at hF
  refine DWp.seq ?_
  refine DWp.region fun K hK => ?_
  simp [-aBin', -aBin, -aBinI, -aUn, -aNil, -flatV, n_fn, b_add, b_sub, b_mul, b_lt, b_le, b_gt, b_ge, b_eq, b_ne, u_not]
  apply hK
  clear hK K
  simp only [andThen, leaves]
  refine DWp.seq ?_
  obtain ⟨r1, hc1, hF⟩ := bd_some hF
  refine DWp.region fun K hK => ?_
  simp [-aBin', -aBin, -aBinI, -aUn, -aNil, -flatV, n_fn, b_add, b_sub, b_mul, b_lt, b_le, b_gt, b_ge, b_eq, b_ne, u_not]
  refine CallD.t (F_spec_ahAll_w (fu := fu)  hc1) ?_
  rintro c2_u0 G3 ⟨a6, _, c2_C0, rfl, S7⟩
  have A5 := A0.ext (hB.le A0.1) a6.agree
  have S4 : Sep G3 (Fr H) [rowsC c2_u0 22 3 c2_C0 (List.map ints r1)] := S0.app a6.agree S7 (fun _ h => h) (hB.le A0.1)
  simp [-aBin', -aBin, -aBinI, -aUn, -aNil, -flatV, n_fn, b_add, b_sub, b_mul, b_lt, b_le, b_gt, b_ge, b_eq, b_ne, u_not, a6.pre]
  apply hK
  clear hK K
  simp only [andThen, leaves]
  refine DWp.seq ?_
  refine DWp.region fun K hK => ?_
  simp [-aBin', -aBin, -aBinI, -aUn, -aNil, -flatV, n_fn, b_add, b_sub, b_mul, b_lt, b_le, b_gt, b_ge, b_eq, b_ne, u_not]
  apply hK
  clear hK K
  simp only [andThen, leaves]
  refine DWp.seq ?_
  refine DWp.seq ?_
  have q8 := (S4.rd (k := 0) rfl).lenG (P := Try.prog) el_36
  refine DWp.region fun K hK => ?_
  simp [-aBin', -aBin, -aBinI, -aUn, -aNil, -flatV, n_fn, b_add, b_sub, b_mul, b_lt, b_le, b_gt, b_ge, b_eq, b_ne, u_not, q8]
  apply hK
  clear hK K
  simp only [andThen, leaves]
  refine DWp.block ?_
  have S9 := S4.rpNil (hB.le A5.1) 28 3
  obtain ⟨s10, hL11, hF⟩ := bd_some hF
  have S12 := S9.pick [0, 1] (by decide) rfl
  refine DWp.loop (fun n env G => ∃ l1_1 : List (List Int × List Int), ∃ y1_13 : Int, ∃ w1_1 : Value, ∃ D1_1 : List Value, F_spec_siPairs_L1 fu r1 (llen r1) n l1_1 y1_13 = some s10 ∧ Sep G (Fr H) [rowsC c2_u0 22 3 c2_C0 (List.map ints r1), rowsP w1_1 28 3 D1_1 l1_1] ∧ AgB (Fr H) H G ∧ env 3 = some c2_u0 ∧ env 4 = some w1_1 ∧ env 11 = some c2_u0 ∧ env 12 = some (Value.int .i64 (llen r1)) ∧ env 13 = some (Value.int .i64 y1_13)) fu ⟨(@List.nil (List Int × List Int)), 0, (Value.slice none 0 0), [], hL11, S12, A5, by simp [], by simp [], by simp [], by simp [], by simp []⟩ ?_
  rintro n1 env1 G1_ ⟨l1_1, y1_13, w1_1, D1_1, hL11, S1_, A1_, e1_3, e1_4, e1_11, e1_12, e1_13⟩
  cases n1 with
  | zero => cases hL11
  | succ n1 =>
    simp only [F_spec_siPairs_L1] at hL11
    refine DWp.seq ?_
    refine DWp.region fun K hK => ?_
    simp [-aBin', -aBin, -aBinI, -aUn, -aNil, -flatV, n_fn, b_add, b_sub, b_mul, b_lt, b_le, b_gt, b_ge, b_eq, b_ne, u_not, e1_3, e1_4, e1_11, e1_12, e1_13]
    apply hK
    clear hK K
    simp only [andThen, leaves]
    refine DWp.seq ?_
    refine DWp.cond' (t := (ilt y1_13 (llen r1))) (by simp [e1_3, e1_4, e1_11, e1_12, e1_13]) (fun hb13 => ?_) (fun hb13 => ?_)
    · replace hL11 := cd_t hb13 hL11
      refine DWp.skip ?_
      simp only [andThen, leaves]
      refine DWp.seq ?_
      refine DWp.block ?_
      refine DWp.seq ?_
      obtain ⟨g14, hL11⟩ := gd_some hL11
      have q15 := (S1_.rd (k := 0) rfl).idxG (P := Try.prog) (kk := .i64) el_36 sz_22 g14
      have q16 := (S1_.rd (k := 0) rfl).loadG (P := Try.prog) sz_22 ag_22 g14
      refine DWp.region fun K hK => ?_
      simp [-aBin', -aBin, -aBinI, -aUn, -aNil, -flatV, n_fn, b_add, b_sub, b_mul, b_lt, b_le, b_gt, b_ge, b_eq, b_ne, u_not, e1_3, e1_4, e1_11, e1_12, e1_13, q15, q16]
      apply hK
      clear hK K
      simp only [andThen, leaves]
      refine DWp.seq ?_
      have q17 := (S1_.rd (k := 0) rfl).lenG (P := Try.prog) el_36
      refine DWp.region fun K hK => ?_
      simp [-aBin', -aBin, -aBinI, -aUn, -aNil, -flatV, n_fn, b_add, b_sub, b_mul, b_lt, b_le, b_gt, b_ge, b_eq, b_ne, u_not, e1_3, e1_4, e1_11, e1_12, e1_13, q17]
      apply hK
      clear hK K
      simp only [andThen, leaves]
      refine DWp.block ?_
      obtain ⟨s18, hL19, hL11⟩ := bd_some hL11
      have S20 := S1_.pick [0, 1] (by decide) rfl
      refine DWp.loop (fun n env G => ∃ l2_1 : List (List Int × List Int), ∃ y2_19 : Int, ∃ w2_1 : Value, ∃ D2_1 : List Value, F_spec_siPairs_L2 fu r1 (gat [] r1 y1_13) (llen r1) y1_13 n l2_1 y2_19 = some s18 ∧ Sep G (Fr H) [rowsC c2_u0 22 3 c2_C0 (List.map ints r1), rowsP w2_1 28 3 D2_1 l2_1] ∧ AgB (Fr H) H G ∧ env 3 = some c2_u0 ∧ env 4 = some w2_1 ∧ env 6 = some (gat nilV c2_C0 y1_13) ∧ env 11 = some c2_u0 ∧ env 12 = some (Value.int .i64 (llen r1)) ∧ env 13 = some (Value.int .i64 y1_13) ∧ env 17 = some c2_u0 ∧ env 18 = some (Value.int .i64 (llen r1)) ∧ env 19 = some (Value.int .i64 y2_19)) fu ⟨l1_1, 0, w1_1, D1_1, hL19, S20, A1_, by simp [e1_3, e1_4, e1_11, e1_12, e1_13], by simp [e1_3, e1_4, e1_11, e1_12, e1_13], by simp [e1_3, e1_4, e1_11, e1_12, e1_13], by simp [e1_3, e1_4, e1_11, e1_12, e1_13], by simp [e1_3, e1_4, e1_11, e1_12, e1_13], by simp [e1_3, e1_4, e1_11, e1_12, e1_13], by simp [e1_3, e1_4, e1_11, e1_12, e1_13], by simp [e1_3, e1_4, e1_11, e1_12, e1_13], by simp [e1_3, e1_4, e1_11, e1_12, e1_13]⟩ ?_
      rintro n2 env2 G2_ ⟨l2_1, y2_19, w2_1, D2_1, hL19, S2_, A2_, e2_3, e2_4, e2_6, e2_11, e2_12, e2_13, e2_17, e2_18, e2_19⟩
      cases n2 with
      | zero => cases hL19
      | succ n2 =>
        simp only [F_spec_siPairs_L2] at hL19
        refine DWp.seq ?_
        refine DWp.region fun K hK => ?_
        simp [-aBin', -aBin, -aBinI, -aUn, -aNil, -flatV, n_fn, b_add, b_sub, b_mul, b_lt, b_le, b_gt, b_ge, b_eq, b_ne, u_not, e2_3, e2_4, e2_6, e2_11, e2_12, e2_13, e2_17, e2_18, e2_19]
        apply hK
        clear hK K
        simp only [andThen, leaves]
        refine DWp.seq ?_
        refine DWp.cond' (t := (ilt y2_19 (llen r1))) (by simp [e2_3, e2_4, e2_6, e2_11, e2_12, e2_13, e2_17, e2_18, e2_19]) (fun hb21 => ?_) (fun hb21 => ?_)
        · replace hL19 := cd_t hb21 hL19
          refine DWp.skip ?_
          simp only [andThen, leaves]
          refine DWp.seq ?_
          refine DWp.block ?_
          refine DWp.seq ?_
          obtain ⟨g22, hL19⟩ := gd_some hL19
          have q23 := (S2_.rd (k := 0) rfl).idxG (P := Try.prog) (kk := .i64) el_36 sz_22 g22
          have q24 := (S2_.rd (k := 0) rfl).loadG (P := Try.prog) sz_22 ag_22 g22
          refine DWp.region fun K hK => ?_
          simp [-aBin', -aBin, -aBinI, -aUn, -aNil, -flatV, n_fn, b_add, b_sub, b_mul, b_lt, b_le, b_gt, b_ge, b_eq, b_ne, u_not, e2_3, e2_4, e2_6, e2_11, e2_12, e2_13, e2_17, e2_18, e2_19, q23, q24]
          apply hK
          clear hK K
          simp only [andThen, leaves]
          obtain ⟨r2, hc25, hL19⟩ := bd_some hL19
          refine DWp.region fun K hK => ?_
          simp [-aBin', -aBin, -aBinI, -aUn, -aNil, -flatV, n_fn, b_add, b_sub, b_mul, b_lt, b_le, b_gt, b_ge, b_eq, b_ne, u_not, e2_3, e2_4, e2_6, e2_11, e2_12, e2_13, e2_17, e2_18, e2_19, (((S2_.rd (k := 0) rfl).rowAt [] g14).tup)]
          refine CallD.t (F_spec_l1Own_w (fu := fu) ((S2_.rd (k := 0) rfl).rowAt [] g14) hc25) ?_
          rintro c26_u0 G27 ⟨a30, _, rfl, S31⟩
          have A29 := A2_.ext (hB.le A2_.1) a30.agree
          have S28 : Sep G27 (Fr H) [rowsC c2_u0 22 3 c2_C0 (List.map ints r1), rowsP w2_1 28 3 D2_1 l2_1, flat c26_u0 3 (ints r2)] := S2_.app a30.agree S31 (fun _ h => h) (hB.le A2_.1)
          obtain ⟨r3, hc32, hL19⟩ := bd_some hL19
          simp [-aBin', -aBin, -aBinI, -aUn, -aNil, -flatV, n_fn, b_add, b_sub, b_mul, b_lt, b_le, b_gt, b_ge, b_eq, b_ne, u_not, e2_3, e2_4, e2_6, e2_11, e2_12, e2_13, e2_17, e2_18, e2_19, a30.pre, (((S28.rd (k := 0) rfl).rowAt [] g22).tup)]
          refine CallD.t (F_spec_l1Own_w (fu := fu) ((S28.rd (k := 0) rfl).rowAt [] g22) hc32) ?_
          rintro c33_u0 G34 ⟨a37, _, rfl, S38⟩
          have A36 := A29.ext (hB.le A29.1) a37.agree
          have S35 : Sep G34 (Fr H) [rowsC c2_u0 22 3 c2_C0 (List.map ints r1), rowsP w2_1 28 3 D2_1 l2_1, flat c26_u0 3 (ints r2), flat c33_u0 3 (ints r3)] := S28.app a37.agree S38 (fun _ h => h) (hB.le A29.1)
          obtain ⟨v39, G40, q41, S42, a44, _, _⟩ := S35.litP1 (P := Try.prog) (t := 46) (hB.le A36.1) el_46 ei_28 rfl c26_u0 c33_u0
          have A43 := A36.ext (hB.le A36.1) a44
          replace S42 : Sep G40 (Fr H) [rowsC c2_u0 22 3 c2_C0 (List.map ints r1), rowsP w2_1 28 3 D2_1 l2_1, flat c26_u0 3 (ints r2), flat c33_u0 3 (ints r3), flatK 2 v39 28 1 [c26_u0, c33_u0]] := S42
          obtain ⟨g45, hL19⟩ := gd_some hL19
          obtain ⟨v51, G46, q47, S48, a50, q47t, _⟩ := S42.pushP (u := w2_1) (X := l2_1) (a := r2) (b := r3) (P := Try.prog) (t := 46) (t2 := 46) (j := 1) (k1 := 2) (k2 := 3) (by decide) (by decide) (by decide) rfl rfl rfl (hB.le A43.1) el_46 el_46 ei_28 rfl (S42.flatKSl (k := 4) rfl) g45
          have A49 := A43.trans a50
          replace S48 : Sep G46 (Fr H) [rowsC c2_u0 22 3 c2_C0 (List.map ints r1), rowsP v51 28 3 (D2_1 ++ [c26_u0, c33_u0]) (lapp l2_1 [(r2, r3)]), emp, emp, flatK 2 v39 28 1 [c26_u0, c33_u0]] := S48
          simp [-aBin', -aBin, -aBinI, -aUn, -aNil, -flatV, n_fn, b_add, b_sub, b_mul, b_lt, b_le, b_gt, b_ge, b_eq, b_ne, u_not, e2_3, e2_4, e2_6, e2_11, e2_12, e2_13, e2_17, e2_18, e2_19, a30.pre, a37.pre, bu_28 ((S35.sl (k := 2) rfl).tup) ((S35.sl (k := 2) rfl).one) ((S35.sl (k := 3) rfl).tup) ((S35.sl (k := 3) rfl).one), q41, a44.to_pre, ((S35.sl (k := 2) rfl).tup), ((S35.sl (k := 3) rfl).tup), q47, q47t]
          apply hK
          clear hK K
          simp only [andThen, leaves]
          refine DWp.region fun K hK => ?_
          simp [-aBin', -aBin, -aBinI, -aUn, -aNil, -flatV, n_fn, b_add, b_sub, b_mul, b_lt, b_le, b_gt, b_ge, b_eq, b_ne, u_not, e2_3, e2_4, e2_6, e2_11, e2_12, e2_13, e2_17, e2_18, e2_19]
          apply hK
          clear hK K
          simp only [andThen, leaves]
          have S52 := S48.pick [0, 1] (by decide) rfl
          exact ⟨n2, Nat.lt_succ_self _, (lapp l2_1 [(r2, r3)]), (iadd .i64 y2_19 1), v51, (D2_1 ++ [c26_u0, c33_u0]), hL19, S52, A49, by simp [e2_3, e2_4, e2_6, e2_11, e2_12, e2_13, e2_17, e2_18, e2_19], by simp [e2_3, e2_4, e2_6, e2_11, e2_12, e2_13, e2_17, e2_18, e2_19], by simp [e2_3, e2_4, e2_6, e2_11, e2_12, e2_13, e2_17, e2_18, e2_19], by simp [e2_3, e2_4, e2_6, e2_11, e2_12, e2_13, e2_17, e2_18, e2_19], by simp [e2_3, e2_4, e2_6, e2_11, e2_12, e2_13, e2_17, e2_18, e2_19], by simp [e2_3, e2_4, e2_6, e2_11, e2_12, e2_13, e2_17, e2_18, e2_19], by simp [e2_3, e2_4, e2_6, e2_11, e2_12, e2_13, e2_17, e2_18, e2_19], by simp [e2_3, e2_4, e2_6, e2_11, e2_12, e2_13, e2_17, e2_18, e2_19], by simp [e2_3, e2_4, e2_6, e2_11, e2_12, e2_13, e2_17, e2_18, e2_19]⟩
        · replace hL19 := cd_f hb21 hL19
          refine DWp.exit ?_
          simp only [andThen, leaves, if_true, if_false, reduceIte, Nat.reduceEqDiff]
          obtain rfl := Option.some.inj hL19
          try dsimp only at hL11
          refine DWp.region fun K hK => ?_
          simp [-aBin', -aBin, -aBinI, -aUn, -aNil, -flatV, n_fn, b_add, b_sub, b_mul, b_lt, b_le, b_gt, b_ge, b_eq, b_ne, u_not, e2_3, e2_4, e2_6, e2_11, e2_12, e2_13, e2_17, e2_18, e2_19]
          apply hK
          clear hK K
          simp only [andThen, leaves]
          have S53 := S2_.pick [0, 1] (by decide) rfl
          exact ⟨n1, Nat.lt_succ_self _, l2_1, (iadd .i64 y1_13 1), w2_1, D2_1, hL11, S53, A2_, by simp [e2_3, e2_4, e2_6, e2_11, e2_12, e2_13, e2_17, e2_18, e2_19], by simp [e2_3, e2_4, e2_6, e2_11, e2_12, e2_13, e2_17, e2_18, e2_19], by simp [e2_3, e2_4, e2_6, e2_11, e2_12, e2_13, e2_17, e2_18, e2_19], by simp [e2_3, e2_4, e2_6, e2_11, e2_12, e2_13, e2_17, e2_18, e2_19], by simp [e2_3, e2_4, e2_6, e2_11, e2_12, e2_13, e2_17, e2_18, e2_19]⟩
    · replace hL11 := cd_f hb13 hL11
      refine DWp.exit ?_
      simp only [andThen, leaves, if_true, if_false, reduceIte, Nat.reduceEqDiff]
      obtain rfl := Option.some.inj hL11
      try dsimp only at hF
      refine DWp.seq ?_
      refine DWp.region fun K hK => ?_
      simp [-aBin', -aBin, -aBinI, -aUn, -aNil, -flatV, n_fn, b_add, b_sub, b_mul, b_lt, b_le, b_gt, b_ge, b_eq, b_ne, u_not, e1_3, e1_4, e1_11, e1_12, e1_13]
      apply hK
      clear hK K
      simp only [andThen, leaves]
      refine DWp.ret ?_
      obtain rfl := Option.some.inj hF
      exact ⟨by simp, [w1_1], by simp [e1_3, e1_4, e1_11, e1_12, e1_13, ((S1_.rdP (k := 1) rfl).tup)], A1_, w1_1, D1_1, rfl, S1_.pick [1] (by decide) rfl⟩
def F_impl_covered_L1 (fu : Nat) (k1_0 : List Int) (k1_1 : Int) : Nat → List Int → Int → Option (List Int × Int)
  | 0, _, _ => none
  | n + 1, l1_0, y1_12 =>
    bif (ilt y1_12 k1_1) then
      gd (inL k1_0 y1_12) (
      gd (l1_0.length + [(iadd .i64 (gat 0 k1_0 y1_12) 1)].length ≤ 4294967296) (
      F_impl_covered_L1 fu k1_0 k1_1 n (lapp l1_0 [(iadd .i64 (gat 0 k1_0 y1_12) 1)]) (iadd .i64 y1_12 1)))
    else
      some (l1_0, y1_12)
def F_impl_covered (fu : Nat) (x0 : List Int) : Option (List Int) :=
  bd (F_impl_covered_L1 fu x0 (llen x0) fu [(iadd .i64 (llen x0) 1)] 0) fun s1 =>
  gd (s1.1.length + [0].length ≤ 4294967296) (
  some (lapp s1.1 [0]))
theorem F_impl_covered_w {fu : Nat} {H : AH} {v0 : Value} {x0 : List Int} {r : (List Int)} (hx0 : Sl H v0 (ints x0)) (hF : F_impl_covered fu x0 = some r) :
    ACallT Try.prog 158 [v0] H (fun u G => AgB (Fr H) H G ∧ ∃ u0 : Value, u = u0 ∧ Sep G (Fr H) [flat u0 3 (ints r)]) := by
  refine ACallT.of_body (nt := 25) (rs := [.tmp 2]) Try.func158 rfl rfl rfl rfl ?_
  have A0 : AgB (Fr H) H H := .refl _ _
  have S0 : Sep H (Fr H) [] := .nil
  have hB := Fr.up H
  unfold F_impl_covered at hF
  refine DWp.seq ?_
  refine DWp.region fun K hK => ?_
  simp [-aBin', -aBin, -aBinI, -aUn, -aNil, -flatV, n_fn, b_add, b_sub, b_mul, b_lt, b_le, b_gt, b_ge, b_eq, b_ne, u_not]
  apply hK
  clear hK K
  simp only [andThen, leaves]
  refine DWp.seq ?_
  have q1 := lenG (P := Try.prog) (hx0.agree A0.agree) el_22
  obtain ⟨v2, G3, q4, S5, a7, _, _⟩ := S0.lit1 (P := Try.prog) (t := 22) (hB.le A0.1) el_22 ei_3 rfl (Value.int .i64 (iadd .i64 (llen x0) 1)) rfl rfl
  have A6 := A0.ext (hB.le A0.1) a7
  replace S5 : Sep G3 (Fr H) [flat1 v2 3 (ints [(iadd .i64 (llen x0) 1)])] := S5
  refine DWp.region fun K hK => ?_
  simp [-aBin', -aBin, -aBinI, -aUn, -aNil, -flatV, n_fn, b_add, b_sub, b_mul, b_lt, b_le, b_gt, b_ge, b_eq, b_ne, u_not, q1, q4, a7.to_pre]
  apply hK
  clear hK K
  simp only [andThen, leaves]
  refine DWp.seq ?_
  refine DWp.seq ?_
  have q9 := lenG (P := Try.prog) (hx0.agree A6.agree) el_22
  refine DWp.region fun K hK => ?_
  simp [-aBin', -aBin, -aBinI, -aUn, -aNil, -flatV, n_fn, b_add, b_sub, b_mul, b_lt, b_le, b_gt, b_ge, b_eq, b_ne, u_not, q9]
  apply hK
  clear hK K
  simp only [andThen, leaves]
  refine DWp.block ?_
  obtain ⟨s10, hL11, hF⟩ := bd_some hF
  have S12 := S5.pick [0] (by decide) rfl
  have S13 := S12.weak (k := 0) rfl
  refine DWp.loop (fun n env G => ∃ l1_0 : List Int, ∃ y1_12 : Int, ∃ w1_0 : Value, F_impl_covered_L1 fu x0 (llen x0) n l1_0 y1_12 = some s10 ∧ Sep G (Fr H) [flat w1_0 3 (ints l1_0)] ∧ AgB (Fr H) H G ∧ env 3 = some w1_0 ∧ env 10 = some v0 ∧ env 11 = some (Value.int .i64 (llen x0)) ∧ env 12 = some (Value.int .i64 y1_12)) fu ⟨[(iadd .i64 (llen x0) 1)], 0, v2, hL11, S13, A6, by simp [], by simp [], by simp [], by simp []⟩ ?_
  rintro n1 env1 G1_ ⟨l1_0, y1_12, w1_0, hL11, S1_, A1_, e1_3, e1_10, e1_11, e1_12⟩
  cases n1 with
  | zero => cases hL11
  | succ n1 =>
    simp only [F_impl_covered_L1] at hL11
    refine DWp.seq ?_
    refine DWp.region fun K hK => ?_
    simp [-aBin', -aBin, -aBinI, -aUn, -aNil, -flatV, n_fn, b_add, b_sub, b_mul, b_lt, b_le, b_gt, b_ge, b_eq, b_ne, u_not, e1_3, e1_10, e1_11, e1_12]
    apply hK
    clear hK K
    simp only [andThen, leaves]
    refine DWp.seq ?_
    refine DWp.cond' (t := (ilt y1_12 (llen x0))) (by simp [e1_3, e1_10, e1_11, e1_12]) (fun hb14 => ?_) (fun hb14 => ?_)
    · replace hL11 := cd_t hb14 hL11
      refine DWp.skip ?_
      simp only [andThen, leaves]
      refine DWp.seq ?_
      refine DWp.block ?_
      refine DWp.seq ?_
      obtain ⟨g15, hL11⟩ := gd_some hL11
      have q16 := idxG (P := Try.prog) (kk := .i64) (hx0.agree A1_.agree) el_22 sz_3 g15
      have q17 := loadG (P := Try.prog) (hx0.agree A1_.agree) sz_3 ag_3 g15 0
      refine DWp.region fun K hK => ?_
      simp [-aBin', -aBin, -aBinI, -aUn, -aNil, -flatV, n_fn, b_add, b_sub, b_mul, b_lt, b_le, b_gt, b_ge, b_eq, b_ne, u_not, e1_3, e1_10, e1_11, e1_12, q16, q17]
      apply hK
      clear hK K
      simp only [andThen, leaves]
      obtain ⟨v18, G19, q20, S21, a23, _, _⟩ := S1_.lit1 (P := Try.prog) (t := 22) (hB.le A1_.1) el_22 ei_3 rfl (Value.int .i64 (iadd .i64 (gat 0 x0 y1_12) 1)) rfl rfl
      have A22 := A1_.ext (hB.le A1_.1) a23
      replace S21 : Sep G19 (Fr H) [flat w1_0 3 (ints l1_0), flat1 v18 3 (ints [(iadd .i64 (gat 0 x0 y1_12) 1)])] := S21
      obtain ⟨g25, hL11⟩ := gd_some hL11
      obtain ⟨v31, G26, q27, S28, a30, _, _⟩ := S21.appendG (f := (Value.int .i64)) (xs := l1_0) (ys := [(iadd .i64 (gat 0 x0 y1_12) 1)]) (P := Try.prog) (t := 22) (t2 := 22) (k := 0) rfl (hB.le A22.1) el_22 el_22 ei_3 rfl (S21.sl1 (k := 1) rfl) g25
      have A29 := A22.trans a30
      replace S28 : Sep G26 (Fr H) [flat v31 3 (ints (lapp l1_0 [(iadd .i64 (gat 0 x0 y1_12) 1)])), flat1 v18 3 (ints [(iadd .i64 (gat 0 x0 y1_12) 1)])] := S28
      refine DWp.region fun K hK => ?_
      simp [-aBin', -aBin, -aBinI, -aUn, -aNil, -flatV, n_fn, b_add, b_sub, b_mul, b_lt, b_le, b_gt, b_ge, b_eq, b_ne, u_not, e1_3, e1_10, e1_11, e1_12, q20, a23.to_pre, q27]
      apply hK
      clear hK K
      simp only [andThen, leaves]
      refine DWp.region fun K hK => ?_
      simp [-aBin', -aBin, -aBinI, -aUn, -aNil, -flatV, n_fn, b_add, b_sub, b_mul, b_lt, b_le, b_gt, b_ge, b_eq, b_ne, u_not, e1_3, e1_10, e1_11, e1_12]
      apply hK
      clear hK K
      simp only [andThen, leaves]
      have S32 := S28.pick [0] (by decide) rfl
      exact ⟨n1, Nat.lt_succ_self _, (lapp l1_0 [(iadd .i64 (gat 0 x0 y1_12) 1)]), (iadd .i64 y1_12 1), v31, hL11, S32, A29, by simp [e1_3, e1_10, e1_11, e1_12], by simp [e1_3, e1_10, e1_11, e1_12], by simp [e1_3, e1_10, e1_11, e1_12], by simp [e1_3, e1_10, e1_11, e1_12]⟩
    · replace hL11 := cd_f hb14 hL11
      refine DWp.exit ?_
      simp only [andThen, leaves, if_true, if_false, reduceIte, Nat.reduceEqDiff]
      obtain rfl := Option.some.inj hL11
      try dsimp only at hF
      refine DWp.seq ?_
      obtain ⟨v33, G34, q35, S36, a38, _, _⟩ := S1_.lit1 (P := Try.prog) (t := 22) (hB.le A1_.1) el_22 ei_3 rfl (Value.int .i64 0) rfl rfl
      have A37 := A1_.ext (hB.le A1_.1) a38
      replace S36 : Sep G34 (Fr H) [flat w1_0 3 (ints l1_0), flat1 v33 3 (ints [0])] := S36
      obtain ⟨g40, hF⟩ := gd_some hF
      obtain ⟨v46, G41, q42, S43, a45, _, _⟩ := S36.appendG (f := (Value.int .i64)) (xs := l1_0) (ys := [0]) (P := Try.prog) (t := 22) (t2 := 22) (k := 0) rfl (hB.le A37.1) el_22 el_22 ei_3 rfl (S36.sl1 (k := 1) rfl) g40
      have A44 := A37.trans a45
      replace S43 : Sep G41 (Fr H) [flat v46 3 (ints (lapp l1_0 [0])), flat1 v33 3 (ints [0])] := S43
      refine DWp.region fun K hK => ?_
      simp [-aBin', -aBin, -aBinI, -aUn, -aNil, -flatV, n_fn, b_add, b_sub, b_mul, b_lt, b_le, b_gt, b_ge, b_eq, b_ne, u_not, e1_3, e1_10, e1_11, e1_12, q35, a38.to_pre, q42]
      apply hK
      clear hK K
      simp only [andThen, leaves]
      refine DWp.ret ?_
      obtain rfl := Option.some.inj hF
      exact ⟨by simp, [v46], by simp [e1_3, e1_10, e1_11, e1_12, ((S43.sl (k := 0) rfl).tup)], A44, v46, rfl, S43.pick [0] (by decide) rfl⟩
def F_slices_Clone_Sint (fu : Nat) (x0 : List Int) : Option (List Int) :=
  gd ((@List.nil Int).length + x0.length ≤ 4294967296) (
  some (lapp (@List.nil Int) x0))
theorem F_slices_Clone_Sint_w {fu : Nat} {H : AH} {v0 : Value} {x0 : List Int} {r : (List Int)} (hx0 : Sl H v0 (ints x0)) (hF : F_slices_Clone_Sint fu x0 = some r) :
    ACallT Try.prog 132 [v0] H (fun u G => AgB (Fr H) H G ∧ ∃ u0 : Value, u = u0 ∧ Sep G (Fr H) [flat u0 3 (ints r)]) := by
  refine ACallT.of_body (nt := 8) (rs := [.tmp 2]) Try.func132 rfl rfl rfl rfl ?_
  have A0 : AgB (Fr H) H H := .refl _ _
  have S0 : Sep H (Fr H) [] := .nil
  have hB := Fr.up H
  by_cases hn0 : v0 = .slice none 0 0
  ·
    subst hn0
    have hx1 : x0 = [] := by
      rcases hx0 with ⟨_, h_⟩ | ⟨_, _, _, _, _, h_, _⟩
      · cases x0 with
        | nil => rfl
        | cons a_ b_ => cases h_
      · cases h_
    subst hx1
    have hF2 : (some [] : Option (List Int)) = some r := by
      rw [← hF]
      unfold F_slices_Clone_Sint
      rw [gd_true (by simp)]
      rfl
    refine DWp.seq ?_
    refine DWp.region fun K hK => ?_
    simp [-aBin', -aBin, -aBinI, -aUn, -aNil, -flatV, n_fn, b_add, b_sub, b_mul, b_lt, b_le, b_gt, b_ge, b_eq, b_ne, u_not]
    apply hK
    clear hK K
    simp only [andThen, leaves]
    refine DWp.seq ?_
    refine DWp.seq ?_
    refine DWp.region fun K hK => ?_
    simp [-aBin', -aBin, -aBinI, -aUn, -aNil, -flatV, n_fn, b_add, b_sub, b_mul, b_lt, b_le, b_gt, b_ge, b_eq, b_ne, u_not, nil_tt us_22]
    apply hK
    clear hK K
    simp only [andThen, leaves]
    refine DWp.ct (by simp [bnot]) ?_
    refine DWp.seq ?_
    refine DWp.region fun K hK => ?_
    simp [-aBin', -aBin, -aBinI, -aUn, -aNil, -flatV, n_fn, b_add, b_sub, b_mul, b_lt, b_le, b_gt, b_ge, b_eq, b_ne, u_not]
    apply hK
    clear hK K
    simp only [andThen, leaves]
    refine DWp.ret ?_
    simp only [andThen, leaves]
    have S1 := S0.nilItem (hB.le A0.1) 3
    obtain rfl := Option.some.inj hF2
    exact ⟨by simp, [(Value.slice none 0 0)], by simp [], A0, (Value.slice none 0 0), rfl, S1.pick [0] (by decide) rfl⟩
  · unfold F_slices_Clone_Sint at hF
    refine DWp.seq ?_
    refine DWp.region fun K hK => ?_
    simp [-aBin', -aBin, -aBinI, -aUn, -aNil, -flatV, n_fn, b_add, b_sub, b_mul, b_lt, b_le, b_gt, b_ge, b_eq, b_ne, u_not]
    apply hK
    clear hK K
    simp only [andThen, leaves]
    refine DWp.seq ?_
    refine DWp.seq ?_
    refine DWp.region fun K hK => ?_
    simp [-aBin', -aBin, -aBinI, -aUn, -aNil, -flatV, n_fn, b_add, b_sub, b_mul, b_lt, b_le, b_gt, b_ge, b_eq, b_ne, u_not, nil_ff us_22 (hx0.agree A0.agree) hn0]
    apply hK
    clear hK K
    simp only [andThen, leaves]
    refine DWp.cf (by simp [bnot]) ?_
    refine DWp.skip ?_
    simp only [andThen, leaves]
    refine DWp.seq ?_
    obtain ⟨v1, G2, q3, S4, a6, _, _⟩ := S0.lit0 (P := Try.prog) (t := 22) (hB.le A0.1) el_22 ei_3 rfl
    have A5 := A0.ext (hB.le A0.1) a6
    replace S4 : Sep G2 (Fr H) [flat1 v1 3 (ints (@List.nil Int))] := S4
    obtain ⟨g8, hF⟩ := gd_some hF
    obtain ⟨v14, G9, q10, S11, a13, _, _⟩ := S4.append1 (f := (Value.int .i64)) (xs := (@List.nil Int)) (ys := x0) (P := Try.prog) (t := 22) (t2 := 22) (k := 0) rfl (hB.le A5.1) el_22 el_22 ei_3 rfl (hx0.agree A5.agree) g8
    have A12 := A5.trans a13
    replace S11 : Sep G9 (Fr H) [flat v14 3 (ints (lapp (@List.nil Int) x0))] := S11
    refine DWp.region fun K hK => ?_
    simp [-aBin', -aBin, -aBinI, -aUn, -aNil, -flatV, n_fn, b_add, b_sub, b_mul, b_lt, b_le, b_gt, b_ge, b_eq, b_ne, u_not, q3, a6.to_pre, q10]
    apply hK
    clear hK K
    simp only [andThen, leaves]
    refine DWp.ret ?_
    obtain rfl := Option.some.inj hF
    exact ⟨by simp, [v14], by simp [((S11.sl (k := 0) rfl).tup)], A12, v14, rfl, S11.pick [0] (by decide) rfl⟩
def F_impl_joined_L1 (fu : Nat) (k1_0 : List Int) (k1_1 : List Int) (k1_2 : Int) : Nat → List Int → Int → Option (List Int × Int)
  | 0, _, _ => none
  | n + 1, l1_0, y1_12 =>
    bif (ilt y1_12 k1_2) then
      gd (inL k1_1 y1_12) (
      gd (l1_0.length + [(iadd .i64 (gat 0 k1_1 y1_12) (llen k1_0))].length ≤ 4294967296) (
      F_impl_joined_L1 fu k1_0 k1_1 k1_2 n (lapp l1_0 [(iadd .i64 (gat 0 k1_1 y1_12) (llen k1_0))]) (iadd .i64 y1_12 1)))
    else
      some (l1_0, y1_12)
def F_impl_joined (fu : Nat) (x0 : List Int) (x1 : List Int) : Option (List Int) :=
  bd (F_slices_Clone_Sint fu x0) fun r1 =>
  bd (F_impl_joined_L1 fu x0 x1 (llen x1) fu r1 0) fun s1 =>
  some s1.1
theorem F_impl_joined_w {fu : Nat} {H : AH} {v0 : Value} {v1 : Value} {x0 : List Int} {x1 : List Int} {r : (List Int)} (hx0 : Sl H v0 (ints x0)) (hx1 : Sl H v1 (ints x1)) (hF : F_impl_joined fu x0 x1 = some r) :
    ACallT Try.prog 157 [v0, v1] H (fun u G => AgB (Fr H) H G ∧ ∃ u0 : Value, u = u0 ∧ Sep G (Fr H) [flat u0 3 (ints r)]) := by
  refine ACallT.of_body (nt := 25) (rs := [.tmp 4]) Try.func157 rfl rfl rfl rfl ?_
  have A0 : AgB (Fr H) H H := .refl _ _
  have S0 : Sep H (Fr H) [] := .nil
  have hB := Fr.up H
  unfold F_impl_joined at hF
  refine DWp.seq ?_
  refine DWp.region fun K hK => ?_
  simp [-aBin', -aBin, -aBinI, -aUn, -aNil, -flatV, n_fn, b_add, b_sub, b_mul, b_lt, b_le, b_gt, b_ge, b_eq, b_ne, u_not]
  apply hK
  clear hK K
  simp only [andThen, leaves]
  refine DWp.seq ?_
  obtain ⟨r1, hc1, hF⟩ := bd_some hF
  refine DWp.region fun K hK => ?_
  simp [-aBin', -aBin, -aBinI, -aUn, -aNil, -flatV, n_fn, b_add, b_sub, b_mul, b_lt, b_le, b_gt, b_ge, b_eq, b_ne, u_not, ((hx0.agree A0.agree).tup)]
  refine CallD.t (F_slices_Clone_Sint_w (fu := fu) (hx0.agree A0.agree) hc1) ?_
  rintro c2_u0 G3 ⟨a6, _, rfl, S7⟩
  have A5 := A0.ext (hB.le A0.1) a6.agree
  have S4 : Sep G3 (Fr H) [flat c2_u0 3 (ints r1)] := S0.app a6.agree S7 (fun _ h => h) (hB.le A0.1)
  simp [-aBin', -aBin, -aBinI, -aUn, -aNil, -flatV, n_fn, b_add, b_sub, b_mul, b_lt, b_le, b_gt, b_ge, b_eq, b_ne, u_not, a6.pre]
  apply hK
  clear hK K
  simp only [andThen, leaves]
  refine DWp.seq ?_
  refine DWp.seq ?_
  have q8 := lenG (P := Try.prog) (hx1.agree A5.agree) el_22
  refine DWp.region fun K hK => ?_
  simp [-aBin', -aBin, -aBinI, -aUn, -aNil, -flatV, n_fn, b_add, b_sub, b_mul, b_lt, b_le, b_gt, b_ge, b_eq, b_ne, u_not, q8]
  apply hK
  clear hK K
  simp only [andThen, leaves]
  refine DWp.block ?_
  obtain ⟨s9, hL10, hF⟩ := bd_some hF
  have S11 := S4.pick [0] (by decide) rfl
  refine DWp.loop (fun n env G => ∃ l1_0 : List Int, ∃ y1_12 : Int, ∃ w1_0 : Value, F_impl_joined_L1 fu x0 x1 (llen x1) n l1_0 y1_12 = some s9 ∧ Sep G (Fr H) [flat w1_0 3 (ints l1_0)] ∧ AgB (Fr H) H G ∧ env 0 = some v0 ∧ env 5 = some w1_0 ∧ env 10 = some v1 ∧ env 11 = some (Value.int .i64 (llen x1)) ∧ env 12 = some (Value.int .i64 y1_12)) fu ⟨r1, 0, c2_u0, hL10, S11, A5, by simp [], by simp [], by simp [], by simp [], by simp []⟩ ?_
  rintro n1 env1 G1_ ⟨l1_0, y1_12, w1_0, hL10, S1_, A1_, e1_0, e1_5, e1_10, e1_11, e1_12⟩
  cases n1 with
  | zero => cases hL10
  | succ n1 =>
    simp only [F_impl_joined_L1] at hL10
    refine DWp.seq ?_
    refine DWp.region fun K hK => ?_
    simp [-aBin', -aBin, -aBinI, -aUn, -aNil, -flatV, n_fn, b_add, b_sub, b_mul, b_lt, b_le, b_gt, b_ge, b_eq, b_ne, u_not, e1_0, e1_5, e1_10, e1_11, e1_12]
    apply hK
    clear hK K
    simp only [andThen, leaves]
    refine DWp.seq ?_
    refine DWp.cond' (t := (ilt y1_12 (llen x1))) (by simp [e1_0, e1_5, e1_10, e1_11, e1_12]) (fun hb12 => ?_) (fun hb12 => ?_)
    · replace hL10 := cd_t hb12 hL10
      refine DWp.skip ?_
      simp only [andThen, leaves]
      refine DWp.seq ?_
      refine DWp.block ?_
      refine DWp.seq ?_
      obtain ⟨g13, hL10⟩ := gd_some hL10
      have q14 := idxG (P := Try.prog) (kk := .i64) (hx1.agree A1_.agree) el_22 sz_3 g13
      have q15 := loadG (P := Try.prog) (hx1.agree A1_.agree) sz_3 ag_3 g13 0
      refine DWp.region fun K hK => ?_
      simp [-aBin', -aBin, -aBinI, -aUn, -aNil, -flatV, n_fn, b_add, b_sub, b_mul, b_lt, b_le, b_gt, b_ge, b_eq, b_ne, u_not, e1_0, e1_5, e1_10, e1_11, e1_12, q14, q15]
      apply hK
      clear hK K
      simp only [andThen, leaves]
      have q16 := lenG (P := Try.prog) (hx0.agree A1_.agree) el_22
      obtain ⟨v17, G18, q19, S20, a22, _, _⟩ := S1_.lit1 (P := Try.prog) (t := 22) (hB.le A1_.1) el_22 ei_3 rfl (Value.int .i64 (iadd .i64 (gat 0 x1 y1_12) (llen x0))) rfl rfl
      have A21 := A1_.ext (hB.le A1_.1) a22
      replace S20 : Sep G18 (Fr H) [flat w1_0 3 (ints l1_0), flat1 v17 3 (ints [(iadd .i64 (gat 0 x1 y1_12) (llen x0))])] := S20
      obtain ⟨g24, hL10⟩ := gd_some hL10
      obtain ⟨v30, G25, q26, S27, a29, _, _⟩ := S20.appendG (f := (Value.int .i64)) (xs := l1_0) (ys := [(iadd .i64 (gat 0 x1 y1_12) (llen x0))]) (P := Try.prog) (t := 22) (t2 := 22) (k := 0) rfl (hB.le A21.1) el_22 el_22 ei_3 rfl (S20.sl1 (k := 1) rfl) g24
      have A28 := A21.trans a29
      replace S27 : Sep G25 (Fr H) [flat v30 3 (ints (lapp l1_0 [(iadd .i64 (gat 0 x1 y1_12) (llen x0))])), flat1 v17 3 (ints [(iadd .i64 (gat 0 x1 y1_12) (llen x0))])] := S27
      refine DWp.region fun K hK => ?_
      simp [-aBin', -aBin, -aBinI, -aUn, -aNil, -flatV, n_fn, b_add, b_sub, b_mul, b_lt, b_le, b_gt, b_ge, b_eq, b_ne, u_not, e1_0, e1_5, e1_10, e1_11, e1_12, q16, q19, a22.to_pre, q26]
      apply hK
      clear hK K
      simp only [andThen, leaves]
      refine DWp.region fun K hK => ?_
      simp [-aBin', -aBin, -aBinI, -aUn, -aNil, -flatV, n_fn, b_add, b_sub, b_mul, b_lt, b_le, b_gt, b_ge, b_eq, b_ne, u_not, e1_0, e1_5, e1_10, e1_11, e1_12]
      apply hK
      clear hK K
      simp only [andThen, leaves]
      have S31 := S27.pick [0] (by decide) rfl
      exact ⟨n1, Nat.lt_succ_self _, (lapp l1_0 [(iadd .i64 (gat 0 x1 y1_12) (llen x0))]), (iadd .i64 y1_12 1), v30, hL10, S31, A28, by simp [e1_0, e1_5, e1_10, e1_11, e1_12], by simp [e1_0, e1_5, e1_10, e1_11, e1_12], by simp [e1_0, e1_5, e1_10, e1_11, e1_12], by simp [e1_0, e1_5, e1_10, e1_11, e1_12], by simp [e1_0, e1_5, e1_10, e1_11, e1_12]⟩
    · replace hL10 := cd_f hb12 hL10
      refine DWp.exit ?_
      simp only [andThen, leaves, if_true, if_false, reduceIte, Nat.reduceEqDiff]
      obtain rfl := Option.some.inj hL10
      try dsimp only at hF
      refine DWp.seq ?_
      refine DWp.region fun K hK => ?_
      simp [-aBin', -aBin, -aBinI, -aUn, -aNil, -flatV, n_fn, b_add, b_sub, b_mul, b_lt, b_le, b_gt, b_ge, b_eq, b_ne, u_not, e1_0, e1_5, e1_10, e1_11, e1_12]
      apply hK
      clear hK K
      simp only [andThen, leaves]
      refine DWp.ret ?_
      obtain rfl := Option.some.inj hF
      exact ⟨by simp, [w1_0], by simp [e1_0, e1_5, e1_10, e1_11, e1_12, ((S1_.sl (k := 0) rfl).tup)], A1_, w1_0, rfl, S1_.pick [0] (by decide) rfl⟩
end Go.Proofs.Ytbckijeffiofdaa.AL

/- The walks of functions, each with its Lean function: slices.partitionCmpFunc[[]int], slices.pdqsortCmpFunc[[]int], slices.SortFunc[[][]int,[]int], impl.neighbours, impl.ExchangesOf, laws.eqIntSS, laws.markIntSS, laws.heldIntSS, laws.FnExactExchangesOf, spec.exStep. No condition. -/
import Derived.Test.YtdghlhdpcmemjaaFBD
import Derived.Test.YtdghlhdpcmemjaaFBE
import Derived.Test.YtdghlhdpcmemjaaG1
import Derived.Test.YtdghlhdpcmemjaaG2
import Derived.Test.YtdghlhdpcmemjaaG3
import Derived.Test.YtdghlhdpcmemjaaG4
import Derived.Test.YtdghlhdpcmemjaaG5
import Derived.Test.YtdghlhdpcmemjaaG6
import Derived.Test.YtdghlhdpcmemjaaALD
import Derived.Test.YtdghlhdpcmemjaaProg
import Derived.KernelRfl
namespace Go.Proofs.Ytdghlhdpcmemjaa.AL
open Go Go.RowKit
set_option linter.unusedVariables false
set_option linter.unusedSimpArgs false
set_option maxRecDepth 4096
theorem pl_38 : placeT Try.prog 38 = some (.agg #[.slice none 0 0, .slice none 0 0], fun i => [(0, 1), (1, 1)].toArray[i]?) := by kernel_rfl
theorem bu_38 {a0 a1 : Value} (t0 : isTup a0 = false) (c0 : a0.cells = #[a0]) (t1 : isTup a1 = false) (c1 : a1.cells = #[a1]) : aBuild Try.prog 38 [(0, a0), (1, a1)] = some (.agg #[a0, a1]) := buildT2 pl_38 rfl rfl t0 c0 t1 c1
def F_slices_partitionCmpFunc_Sint_L1 (fu : Nat) (k1_0 : List (List Int)) (k1_1 : Int) (k1_2 : ((List Int) → (List Int) → Option (Int))) (k1_3 : Int) : Nat → Int → Option (Int)
  | 0, _ => none
  | n + 1, y1_12 =>
    bif (ile y1_12 k1_3) then
      gd (inL k1_0 y1_12) (
      gd (inL k1_0 k1_1) (
      bd (k1_2 (gat [] k1_0 y1_12) (gat [] k1_0 k1_1)) fun r1 =>
      bif (ilt r1 0) then
        F_slices_partitionCmpFunc_Sint_L1 fu k1_0 k1_1 k1_2 k1_3 n (iadd .i64 y1_12 1)
      else
        some y1_12))
    else
      some y1_12
def F_slices_partitionCmpFunc_Sint_L2 (fu : Nat) (k2_0 : List (List Int)) (k2_1 : Int) (k2_2 : ((List Int) → (List Int) → Option (Int))) (k2_3 : Int) : Nat → Int → Option (Int)
  | 0, _ => none
  | n + 1, y2_13 =>
    bif (ile k2_3 y2_13) then
      gd (inL k2_0 y2_13) (
      gd (inL k2_0 k2_1) (
      bd (k2_2 (gat [] k2_0 y2_13) (gat [] k2_0 k2_1)) fun r2 =>
      bif (bnot (ilt r2 0)) then
        F_slices_partitionCmpFunc_Sint_L2 fu k2_0 k2_1 k2_2 k2_3 n (isub .i64 y2_13 1)
      else
        some y2_13))
    else
      some y2_13
def F_slices_partitionCmpFunc_Sint_L4 (fu : Nat) (k4_0 : List (List Int)) (k4_1 : Int) (k4_2 : ((List Int) → (List Int) → Option (Int))) (k4_3 : Int) : Nat → Int → Option (Int)
  | 0, _ => none
  | n + 1, y4_12 =>
    bif (ile y4_12 k4_3) then
      gd (inL k4_0 y4_12) (
      gd (inL k4_0 k4_1) (
      bd (k4_2 (gat [] k4_0 y4_12) (gat [] k4_0 k4_1)) fun r3 =>
      bif (ilt r3 0) then
        F_slices_partitionCmpFunc_Sint_L4 fu k4_0 k4_1 k4_2 k4_3 n (iadd .i64 y4_12 1)
      else
        some y4_12))
    else
      some y4_12
def F_slices_partitionCmpFunc_Sint_L5 (fu : Nat) (k5_0 : List (List Int)) (k5_1 : Int) (k5_2 : ((List Int) → (List Int) → Option (Int))) (k5_3 : Int) : Nat → Int → Option (Int)
  | 0, _ => none
  | n + 1, y5_13 =>
    bif (ile k5_3 y5_13) then
      gd (inL k5_0 y5_13) (
      gd (inL k5_0 k5_1) (
      bd (k5_2 (gat [] k5_0 y5_13) (gat [] k5_0 k5_1)) fun r4 =>
      bif (bnot (ilt r4 0)) then
        F_slices_partitionCmpFunc_Sint_L5 fu k5_0 k5_1 k5_2 k5_3 n (isub .i64 y5_13 1)
      else
        some y5_13))
    else
      some y5_13
def F_slices_partitionCmpFunc_Sint_L3 (fu : Nat) (k3_0 : Int) (k3_1 : ((List Int) → (List Int) → Option (Int))) : Nat → List (List Int) → Int → Int → Option (List (List Int) × Int × Int)
  | 0, _, _, _ => none
  | n + 1, l3_0, y3_12, y3_13 =>
    bd (
      bd (F_slices_partitionCmpFunc_Sint_L4 fu l3_0 k3_0 k3_1 y3_13 fu y3_12) fun s4 =>
      some s4) fun s141 =>
    bd (
      bd (F_slices_partitionCmpFunc_Sint_L5 fu l3_0 k3_0 k3_1 s141 fu y3_13) fun s5 =>
      some s5) fun s164 =>
    bif (ilt s164 s141) then
      some (l3_0, s141, s164)
    else
      gd (inL l3_0 s164) (
      gd (inL l3_0 s141) (
      gd (inL l3_0 s141) (
      gd (inL l3_0 s164) (
      F_slices_partitionCmpFunc_Sint_L3 fu k3_0 k3_1 n (lset (lset l3_0 s141 (gat [] l3_0 s164)) s164 (gat [] l3_0 s141)) (iadd .i64 s141 1) (isub .i64 s164 1)))))
def F_slices_partitionCmpFunc_Sint (fu : Nat) (x0 : List (List Int)) (x1 : Int) (x2 : Int) (x3 : Int) (x4 : (List Int) → (List Int) → Option (Int)) : Option (Int × Bool × List (List Int)) :=
  gd (inL x0 x3) (
  gd (inL x0 x1) (
  gd (inL x0 x1) (
  gd (inL x0 x3) (
  bd (
    bd (F_slices_partitionCmpFunc_Sint_L1 fu (lset (lset x0 x1 (gat [] x0 x3)) x3 (gat [] x0 x1)) x1 x4 (isub .i64 x2 1) fu (iadd .i64 x1 1)) fun s1 =>
    some s1) fun s31 =>
  bd (
    bd (F_slices_partitionCmpFunc_Sint_L2 fu (lset (lset x0 x1 (gat [] x0 x3)) x3 (gat [] x0 x1)) x1 x4 s31 fu (isub .i64 x2 1)) fun s2 =>
    some s2) fun s54 =>
  bif (ilt s54 s31) then
    gd (inL (lset (lset x0 x1 (gat [] x0 x3)) x3 (gat [] x0 x1)) x1) (
    gd (inL (lset (lset x0 x1 (gat [] x0 x3)) x3 (gat [] x0 x1)) s54) (
    gd (inL (lset (lset x0 x1 (gat [] x0 x3)) x3 (gat [] x0 x1)) s54) (
    gd (inL (lset (lset x0 x1 (gat [] x0 x3)) x3 (gat [] x0 x1)) x1) (
    some (s54, true, (lset (lset (lset (lset x0 x1 (gat [] x0 x3)) x3 (gat [] x0 x1)) s54 (gat [] (lset (lset x0 x1 (gat [] x0 x3)) x3 (gat [] x0 x1)) x1)) x1 (gat [] (lset (lset x0 x1 (gat [] x0 x3)) x3 (gat [] x0 x1)) s54)))))))
  else
    gd (inL (lset (lset x0 x1 (gat [] x0 x3)) x3 (gat [] x0 x1)) s54) (
    gd (inL (lset (lset x0 x1 (gat [] x0 x3)) x3 (gat [] x0 x1)) s31) (
    gd (inL (lset (lset x0 x1 (gat [] x0 x3)) x3 (gat [] x0 x1)) s31) (
    gd (inL (lset (lset x0 x1 (gat [] x0 x3)) x3 (gat [] x0 x1)) s54) (
    bd (F_slices_partitionCmpFunc_Sint_L3 fu x1 x4 fu (lset (lset (lset (lset x0 x1 (gat [] x0 x3)) x3 (gat [] x0 x1)) s31 (gat [] (lset (lset x0 x1 (gat [] x0 x3)) x3 (gat [] x0 x1)) s54)) s54 (gat [] (lset (lset x0 x1 (gat [] x0 x3)) x3 (gat [] x0 x1)) s31)) (iadd .i64 s31 1) (isub .i64 s54 1)) fun s3 =>
    gd (inL s3.1 x1) (
    gd (inL s3.1 s3.2.2) (
    gd (inL s3.1 s3.2.2) (
    gd (inL s3.1 x1) (
    some (s3.2.2, false, (lset (lset s3.1 s3.2.2 (gat [] s3.1 x1)) x1 (gat [] s3.1 s3.2.2)))))))))))))))
theorem F_slices_partitionCmpFunc_Sint_w {fu : Nat} {H : AH} {B : Nat → Prop} {v0 : Value} {C0 : List Value} {f4 : FuncId} {c4 : List Value} {x0 : List (List Int)} {x1 : Int} {x2 : Int} {x3 : Int} {x4 : (List Int) → (List Int) → Option (Int)} {r : (Int × Bool × List (List Int))} (hB : Up B H.length) (S0 : Sep H B [rowsC v0 22 3 C0 (List.map ints x0)]) (hx4 : ∀ (G : AH), AgB B H G → ∀ (v0 : Value) (v1 : Value) (y0 : List Int) (y1 : List Int) (q : (Int)), Sl G v0 (ints y0) → Sl G v1 (ints y1) → x4 y0 y1 = some q → ACallT Try.prog f4 ([v0, v1] ++ c4) G (fun u G' => AgB (Fr G) G G' ∧ u = (Value.int .i64 q) ∧ Sep G' (Fr G) [])) (hF : F_slices_partitionCmpFunc_Sint fu x0 x1 x2 x3 x4 = some r) :
    ACallT Try.prog 140 [v0, (Value.int .i64 x1), (Value.int .i64 x2), (Value.int .i64 x3), (Value.func (.func f4) #[] c4.toArray)] H (fun u G => AgB B H G ∧ ∃ Cz0 : List Value, u = (Value.tuple #[(Value.int .i64 r.1), (Value.bool r.2.1)]) ∧ Sep G B [rowsC v0 22 3 Cz0 (List.map ints r.2.2)]) := by
  refine ACallT.of_body (nt := 178) (rs := [.tmp 10, .tmp 11]) Try.func140 rfl rfl rfl rfl ?_
  have A0 : AgB B H H := .refl _ _
  unfold F_slices_partitionCmpFunc_Sint at hF
  refine DWp.seq ?_
  refine DWp.region fun K hK => ?_
  simp [-aBin', -aBin, -aBinI, -aUn, -aNil, -flatV, n_fn, b_add, b_sub, b_mul, b_lt, b_le, b_gt, b_ge, b_eq, b_ne, u_not]
  apply hK
  clear hK K
  simp only [andThen, leaves]
  refine DWp.seq ?_
  obtain ⟨g1, hF⟩ := gd_some hF
  have q2 := (S0.rd (k := 0) rfl).idxG (P := Try.prog) (kk := .i64) el_23 sz_22 g1
  have q3 := (S0.rd (k := 0) rfl).loadG (P := Try.prog) sz_22 ag_22 g1
  obtain ⟨g4, hF⟩ := gd_some hF
  have q5 := (S0.rd (k := 0) rfl).idxG (P := Try.prog) (kk := .i64) el_23 sz_22 g4
  have q6 := (S0.rd (k := 0) rfl).loadG (P := Try.prog) sz_22 ag_22 g4
  obtain ⟨g7, hF⟩ := gd_some hF
  have q8 := (S0.rd (k := 0) rfl).idxG (P := Try.prog) (kk := .i64) el_23 sz_22 g7
  obtain ⟨G14, q15, S16, a18⟩ := S0.swap1 (fr := ints) (P := Try.prog) (k := 0) [] rfl (hB.le A0.1) sz_22 g7 g1
  have A17 := A0.trans a18
  replace S16 : Sep G14 B [rowsS v0 22 3 (lset C0 x1 (gat nilV C0 x3)) C0 (List.map ints x0)] := S16
  obtain ⟨g19, hF⟩ := gd_some hF
  have q20 := S16.idxS (P := Try.prog) (ki := .i64) (kk := 0) rfl el_23 sz_22 g19
  obtain ⟨G26, q27, S28, a30⟩ := S16.swap2 (fr := ints) (P := Try.prog) (k := 0) [] rfl (hB.le A17.1) sz_22 g7 g1
  have A29 := A17.trans a30
  replace S28 : Sep G26 B [rowsC v0 22 3 (lset (lset C0 x1 (gat nilV C0 x3)) x3 (gat nilV C0 x1)) (List.map ints (lset (lset x0 x1 (gat [] x0 x3)) x3 (gat [] x0 x1)))] := S28
  refine DWp.drawn (B := [0, 0, 0, 0, 0, 0, 48, 112, 0, 0, 768, 1792, 4083, 8179, 16383, 32767]) 13 mixed (by kernel_rfl) (by decide) fun K hK => ?_
  simp [-aBin', -aBin, -aBinI, -aUn, -aNil, -flatV, n_fn, b_add, b_sub, b_mul, b_lt, b_le, b_gt, b_ge, b_eq, b_ne, u_not, q2, q3, q5, q6, q8, (((S0.rd (k := 0) rfl).rowAt [] g1).tup), q15, q20, q27]
  apply hK
  clear hK K
  simp only [andThen, leaves]
  refine DWp.seq ?_
  refine DWp.region fun K hK => ?_
  simp [-aBin', -aBin, -aBinI, -aUn, -aNil, -flatV, n_fn, b_add, b_sub, b_mul, b_lt, b_le, b_gt, b_ge, b_eq, b_ne, u_not]
  apply hK
  clear hK K
  simp only [andThen, leaves]
  obtain ⟨s31, hL32, hF⟩ := bd_some hF
  refine DWp.seq (DWp.join (fun env G => Sep G B [rowsC v0 22 3 (lset (lset C0 x1 (gat nilV C0 x3)) x3 (gat nilV C0 x1)) (List.map ints (lset (lset x0 x1 (gat [] x0 x3)) x3 (gat [] x0 x1)))] ∧ AgB B H G ∧ env 0 = some v0 ∧ env 1 = some (Value.int .i64 x1) ∧ env 4 = some (Value.func (.func f4) #[] c4.toArray) ∧ env 12 = some (Value.int .i64 s31) ∧ env 13 = some (Value.int .i64 (isub .i64 x2 1))) ?_ ?_)
  ·
    refine DWp.block ?_
    obtain ⟨s34, hL35, hL32⟩ := bd_some hL32
    have S36 := S28.pick [0] (by decide) rfl
    refine DWp.loop (fun n env G => ∃ y1_12 : Int, F_slices_partitionCmpFunc_Sint_L1 fu (lset (lset x0 x1 (gat [] x0 x3)) x3 (gat [] x0 x1)) x1 x4 (isub .i64 x2 1) n y1_12 = some s34 ∧ Sep G B [rowsC v0 22 3 (lset (lset C0 x1 (gat nilV C0 x3)) x3 (gat nilV C0 x1)) (List.map ints (lset (lset x0 x1 (gat [] x0 x3)) x3 (gat [] x0 x1)))] ∧ AgB B H G ∧ env 0 = some v0 ∧ env 1 = some (Value.int .i64 x1) ∧ env 4 = some (Value.func (.func f4) #[] c4.toArray) ∧ env 12 = some (Value.int .i64 y1_12) ∧ env 13 = some (Value.int .i64 (isub .i64 x2 1))) fu ⟨(iadd .i64 x1 1), hL35, S36, A29, by simp [], by simp [], by simp [], by simp [], by simp []⟩ ?_
    rintro n2 env2 G2_ ⟨y1_12, hL35, S2_, A2_, e2_0, e2_1, e2_4, e2_12, e2_13⟩
    cases n2 with
    | zero => cases hL35
    | succ n2 =>
      simp only [F_slices_partitionCmpFunc_Sint_L1] at hL35
      refine DWp.seq ?_
      refine DWp.seq ?_
      rcases Bool.eq_false_or_eq_true (ile y1_12 (isub .i64 x2 1)) with hb37 | hb37
      · replace hL35 := cd_t hb37 hL35
        obtain ⟨g38, hL35⟩ := gd_some hL35
        have q39 := (S2_.rd (k := 0) rfl).idxG (P := Try.prog) (kk := .i64) el_23 sz_22 g38
        have q40 := (S2_.rd (k := 0) rfl).loadG (P := Try.prog) sz_22 ag_22 g38
        obtain ⟨g41, hL35⟩ := gd_some hL35
        have q42 := (S2_.rd (k := 0) rfl).idxG (P := Try.prog) (kk := .i64) el_23 sz_22 g41
        have q43 := (S2_.rd (k := 0) rfl).loadG (P := Try.prog) sz_22 ag_22 g41
        obtain ⟨r1, hc44, hL35⟩ := bd_some hL35
        refine DWp.drawn (B := [0, 0, 3, 7, 15, 15, 15, 111, 239, 15, 15, 1551, 3599, 8191, 16383, 32767]) 16 mixed (by kernel_rfl) (by decide) fun K hK => ?_
        simp [-aBin', -aBin, -aBinI, -aUn, -aNil, -flatV, n_fn, b_add, b_sub, b_mul, b_lt, b_le, b_gt, b_ge, b_eq, b_ne, u_not, e2_0, e2_1, e2_4, e2_12, e2_13, hb37, q39, q40, q42, q43, (((S2_.rd (k := 0) rfl).rowAt [] g38).tup), (((S2_.rd (k := 0) rfl).rowAt [] g41).tup)]
        refine CallD.t (hx4 _ A2_ (gat nilV (lset (lset C0 x1 (gat nilV C0 x3)) x3 (gat nilV C0 x1)) y1_12) (gat nilV (lset (lset C0 x1 (gat nilV C0 x3)) x3 (gat nilV C0 x1)) x1) (gat [] (lset (lset x0 x1 (gat [] x0 x3)) x3 (gat [] x0 x1)) y1_12) (gat [] (lset (lset x0 x1 (gat [] x0 x3)) x3 (gat [] x0 x1)) x1) _ ((S2_.rd (k := 0) rfl).rowAt [] g38) ((S2_.rd (k := 0) rfl).rowAt [] g41) hc44) ?_
        rintro _ G45 ⟨a48, rfl, S49⟩
        have A47 := A2_.ext (hB.le A2_.1) a48.agree
        have S46 : Sep G45 B [rowsC v0 22 3 (lset (lset C0 x1 (gat nilV C0 x3)) x3 (gat nilV C0 x1)) (List.map ints (lset (lset x0 x1 (gat [] x0 x3)) x3 (gat [] x0 x1)))] := S2_.agree a48.agree
        simp [-aBin', -aBin, -aBinI, -aUn, -aNil, -flatV, n_fn, b_add, b_sub, b_mul, b_lt, b_le, b_gt, b_ge, b_eq, b_ne, u_not, e2_0, e2_1, e2_4, e2_12, e2_13, hb37, q39, q40, q42, q43, a48.pre]
        apply hK
        clear hK K
        simp only [andThen, leaves]
        refine DWp.cond' (t := (ilt r1 0)) (by simp [e2_0, e2_1, e2_4, e2_12, e2_13]) (fun hb50 => ?_) (fun hb50 => ?_)
        · replace hL35 := cd_t hb50 hL35
          refine DWp.skip ?_
          simp only [andThen, leaves]
          refine DWp.block ?_
          refine DWp.region fun K hK => ?_
          simp [-aBin', -aBin, -aBinI, -aUn, -aNil, -flatV, n_fn, b_add, b_sub, b_mul, b_lt, b_le, b_gt, b_ge, b_eq, b_ne, u_not, e2_0, e2_1, e2_4, e2_12, e2_13]
          apply hK
          clear hK K
          simp only [andThen, leaves]
          have S51 := S46.pick [0] (by decide) rfl
          exact ⟨n2, Nat.lt_succ_self _, (iadd .i64 y1_12 1), hL35, S51, A47, by simp [e2_0, e2_1, e2_4, e2_12, e2_13], by simp [e2_0, e2_1, e2_4, e2_12, e2_13], by simp [e2_0, e2_1, e2_4, e2_12, e2_13], by simp [e2_0, e2_1, e2_4, e2_12, e2_13], by simp [e2_0, e2_1, e2_4, e2_12, e2_13]⟩
        · replace hL35 := cd_f hb50 hL35
          refine DWp.exit ?_
          simp only [andThen, leaves, if_true, if_false, reduceIte, Nat.reduceEqDiff]
          obtain rfl := Option.some.inj hL35
          have S52 := S46.pick [0] (by decide) rfl
          obtain rfl := Option.some.inj hL32
          exact ⟨S52, A47, by simp [e2_0, e2_1, e2_4, e2_12, e2_13], by simp [e2_0, e2_1, e2_4, e2_12, e2_13], by simp [e2_0, e2_1, e2_4, e2_12, e2_13], by simp [e2_0, e2_1, e2_4, e2_12, e2_13], by simp [e2_0, e2_1, e2_4, e2_12, e2_13]⟩
      · replace hL35 := cd_f hb37 hL35
        refine DWp.drawn (B := [0, 0, 3, 7, 15, 15, 15, 111, 239, 15, 15, 1551, 3599, 8191, 16383, 32767]) 16 mixed (by kernel_rfl) (by decide) fun K hK => ?_
        simp [-aBin', -aBin, -aBinI, -aUn, -aNil, -flatV, n_fn, b_add, b_sub, b_mul, b_lt, b_le, b_gt, b_ge, b_eq, b_ne, u_not, e2_0, e2_1, e2_4, e2_12, e2_13, hb37]
        apply hK
        clear hK K
        simp only [andThen, leaves]
        refine DWp.cf (by simp [e2_0, e2_1, e2_4, e2_12, e2_13, bnot]) ?_
        refine DWp.exit ?_
        simp only [andThen, leaves, if_true, if_false, reduceIte, Nat.reduceEqDiff]
        obtain rfl := Option.some.inj hL35
        have S53 := S2_.pick [0] (by decide) rfl
        obtain rfl := Option.some.inj hL32
        exact ⟨S53, A2_, by simp [e2_0, e2_1, e2_4, e2_12, e2_13], by simp [e2_0, e2_1, e2_4, e2_12, e2_13], by simp [e2_0, e2_1, e2_4, e2_12, e2_13], by simp [e2_0, e2_1, e2_4, e2_12, e2_13], by simp [e2_0, e2_1, e2_4, e2_12, e2_13]⟩
  · rintro env Gj54 ⟨Sj54, Aj54, ej54_0, ej54_1, ej54_4, ej54_12, ej54_13⟩
    obtain ⟨s55, hL56, hF⟩ := bd_some hF
    refine DWp.seq (DWp.join (fun env G => Sep G B [rowsC v0 22 3 (lset (lset C0 x1 (gat nilV C0 x3)) x3 (gat nilV C0 x1)) (List.map ints (lset (lset x0 x1 (gat [] x0 x3)) x3 (gat [] x0 x1)))] ∧ AgB B H G ∧ env 0 = some v0 ∧ env 1 = some (Value.int .i64 x1) ∧ env 4 = some (Value.func (.func f4) #[] c4.toArray) ∧ env 12 = some (Value.int .i64 s31) ∧ env 13 = some (Value.int .i64 s55)) ?_ ?_)
    ·
      refine DWp.block ?_
      obtain ⟨s58, hL59, hL56⟩ := bd_some hL56
      have S60 := Sj54.pick [0] (by decide) rfl
      refine DWp.loop (fun n env G => ∃ y2_13 : Int, F_slices_partitionCmpFunc_Sint_L2 fu (lset (lset x0 x1 (gat [] x0 x3)) x3 (gat [] x0 x1)) x1 x4 s31 n y2_13 = some s58 ∧ Sep G B [rowsC v0 22 3 (lset (lset C0 x1 (gat nilV C0 x3)) x3 (gat nilV C0 x1)) (List.map ints (lset (lset x0 x1 (gat [] x0 x3)) x3 (gat [] x0 x1)))] ∧ AgB B H G ∧ env 0 = some v0 ∧ env 1 = some (Value.int .i64 x1) ∧ env 4 = some (Value.func (.func f4) #[] c4.toArray) ∧ env 12 = some (Value.int .i64 s31) ∧ env 13 = some (Value.int .i64 y2_13)) fu ⟨(isub .i64 x2 1), hL59, S60, Aj54, by simp [ej54_0, ej54_1, ej54_4, ej54_12, ej54_13], by simp [ej54_0, ej54_1, ej54_4, ej54_12, ej54_13], by simp [ej54_0, ej54_1, ej54_4, ej54_12, ej54_13], by simp [ej54_0, ej54_1, ej54_4, ej54_12, ej54_13], by simp [ej54_0, ej54_1, ej54_4, ej54_12, ej54_13]⟩ ?_
      rintro n2 env2 G2_ ⟨y2_13, hL59, S2_, A2_, e2_0, e2_1, e2_4, e2_12, e2_13⟩
      cases n2 with
      | zero => cases hL59
      | succ n2 =>
        simp only [F_slices_partitionCmpFunc_Sint_L2] at hL59
        refine DWp.seq ?_
        refine DWp.seq ?_
        rcases Bool.eq_false_or_eq_true (ile s31 y2_13) with hb61 | hb61
        · replace hL59 := cd_t hb61 hL59
          obtain ⟨g62, hL59⟩ := gd_some hL59
          have q63 := (S2_.rd (k := 0) rfl).idxG (P := Try.prog) (kk := .i64) el_23 sz_22 g62
          have q64 := (S2_.rd (k := 0) rfl).loadG (P := Try.prog) sz_22 ag_22 g62
          obtain ⟨g65, hL59⟩ := gd_some hL59
          have q66 := (S2_.rd (k := 0) rfl).idxG (P := Try.prog) (kk := .i64) el_23 sz_22 g65
          have q67 := (S2_.rd (k := 0) rfl).loadG (P := Try.prog) sz_22 ag_22 g65
          obtain ⟨r2, hc68, hL59⟩ := bd_some hL59
          refine DWp.drawn (B := [0, 0, 3, 7, 15, 15, 15, 111, 239, 15, 15, 1551, 3599, 8191, 16383, 32767, 65535]) 17 mixed (by kernel_rfl) (by decide) fun K hK => ?_
          simp [-aBin', -aBin, -aBinI, -aUn, -aNil, -flatV, n_fn, b_add, b_sub, b_mul, b_lt, b_le, b_gt, b_ge, b_eq, b_ne, u_not, e2_0, e2_1, e2_4, e2_12, e2_13, hb61, q63, q64, q66, q67, (((S2_.rd (k := 0) rfl).rowAt [] g62).tup), (((S2_.rd (k := 0) rfl).rowAt [] g65).tup)]
          refine CallD.t (hx4 _ A2_ (gat nilV (lset (lset C0 x1 (gat nilV C0 x3)) x3 (gat nilV C0 x1)) y2_13) (gat nilV (lset (lset C0 x1 (gat nilV C0 x3)) x3 (gat nilV C0 x1)) x1) (gat [] (lset (lset x0 x1 (gat [] x0 x3)) x3 (gat [] x0 x1)) y2_13) (gat [] (lset (lset x0 x1 (gat [] x0 x3)) x3 (gat [] x0 x1)) x1) _ ((S2_.rd (k := 0) rfl).rowAt [] g62) ((S2_.rd (k := 0) rfl).rowAt [] g65) hc68) ?_
          rintro _ G69 ⟨a72, rfl, S73⟩
          have A71 := A2_.ext (hB.le A2_.1) a72.agree
          have S70 : Sep G69 B [rowsC v0 22 3 (lset (lset C0 x1 (gat nilV C0 x3)) x3 (gat nilV C0 x1)) (List.map ints (lset (lset x0 x1 (gat [] x0 x3)) x3 (gat [] x0 x1)))] := S2_.agree a72.agree
          simp [-aBin', -aBin, -aBinI, -aUn, -aNil, -flatV, n_fn, b_add, b_sub, b_mul, b_lt, b_le, b_gt, b_ge, b_eq, b_ne, u_not, e2_0, e2_1, e2_4, e2_12, e2_13, hb61, q63, q64, q66, q67, a72.pre]
          apply hK
          clear hK K
          simp only [andThen, leaves]
          refine DWp.cond' (t := (bnot (ilt r2 0))) (by simp [e2_0, e2_1, e2_4, e2_12, e2_13]) (fun hb74 => ?_) (fun hb74 => ?_)
          · replace hL59 := cd_t hb74 hL59
            refine DWp.skip ?_
            simp only [andThen, leaves]
            refine DWp.block ?_
            refine DWp.region fun K hK => ?_
            simp [-aBin', -aBin, -aBinI, -aUn, -aNil, -flatV, n_fn, b_add, b_sub, b_mul, b_lt, b_le, b_gt, b_ge, b_eq, b_ne, u_not, e2_0, e2_1, e2_4, e2_12, e2_13]
            apply hK
            clear hK K
            simp only [andThen, leaves]
            have S75 := S70.pick [0] (by decide) rfl
            exact ⟨n2, Nat.lt_succ_self _, (isub .i64 y2_13 1), hL59, S75, A71, by simp [e2_0, e2_1, e2_4, e2_12, e2_13], by simp [e2_0, e2_1, e2_4, e2_12, e2_13], by simp [e2_0, e2_1, e2_4, e2_12, e2_13], by simp [e2_0, e2_1, e2_4, e2_12, e2_13], by simp [e2_0, e2_1, e2_4, e2_12, e2_13]⟩
          · replace hL59 := cd_f hb74 hL59
            refine DWp.exit ?_
            simp only [andThen, leaves, if_true, if_false, reduceIte, Nat.reduceEqDiff]
            obtain rfl := Option.some.inj hL59
            have S76 := S70.pick [0] (by decide) rfl
            obtain rfl := Option.some.inj hL56
            exact ⟨S76, A71, by simp [e2_0, e2_1, e2_4, e2_12, e2_13], by simp [e2_0, e2_1, e2_4, e2_12, e2_13], by simp [e2_0, e2_1, e2_4, e2_12, e2_13], by simp [e2_0, e2_1, e2_4, e2_12, e2_13], by simp [e2_0, e2_1, e2_4, e2_12, e2_13]⟩
        · replace hL59 := cd_f hb61 hL59
          refine DWp.drawn (B := [0, 0, 3, 7, 15, 15, 15, 111, 239, 15, 15, 1551, 3599, 8191, 16383, 32767, 65535]) 17 mixed (by kernel_rfl) (by decide) fun K hK => ?_
          simp [-aBin', -aBin, -aBinI, -aUn, -aNil, -flatV, n_fn, b_add, b_sub, b_mul, b_lt, b_le, b_gt, b_ge, b_eq, b_ne, u_not, e2_0, e2_1, e2_4, e2_12, e2_13, hb61]
          apply hK
          clear hK K
          simp only [andThen, leaves]
          refine DWp.cf (by simp [e2_0, e2_1, e2_4, e2_12, e2_13, bnot]) ?_
          refine DWp.exit ?_
          simp only [andThen, leaves, if_true, if_false, reduceIte, Nat.reduceEqDiff]
          obtain rfl := Option.some.inj hL59
          have S77 := S2_.pick [0] (by decide) rfl
          obtain rfl := Option.some.inj hL56
          exact ⟨S77, A2_, by simp [e2_0, e2_1, e2_4, e2_12, e2_13], by simp [e2_0, e2_1, e2_4, e2_12, e2_13], by simp [e2_0, e2_1, e2_4, e2_12, e2_13], by simp [e2_0, e2_1, e2_4, e2_12, e2_13], by simp [e2_0, e2_1, e2_4, e2_12, e2_13]⟩
    · rintro env Gj78 ⟨Sj78, Aj78, ej78_0, ej78_1, ej78_4, ej78_12, ej78_13⟩
      refine DWp.seq ?_
      refine DWp.seq ?_
      refine DWp.region fun K hK => ?_
      simp [-aBin', -aBin, -aBinI, -aUn, -aNil, -flatV, n_fn, b_add, b_sub, b_mul, b_lt, b_le, b_gt, b_ge, b_eq, b_ne, u_not, ej78_0, ej78_1, ej78_4, ej78_12, ej78_13]
      apply hK
      clear hK K
      simp only [andThen, leaves]
      refine DWp.cond' (t := (ilt s55 s31)) (by simp [ej78_0, ej78_1, ej78_4, ej78_12, ej78_13]) (fun hb79 => ?_) (fun hb79 => ?_)
      · replace hF := cd_t hb79 hF
        refine DWp.seq ?_
        obtain ⟨g80, hF⟩ := gd_some hF
        have q81 := (Sj78.rd (k := 0) rfl).idxG (P := Try.prog) (kk := .i64) el_23 sz_22 g80
        have q82 := (Sj78.rd (k := 0) rfl).loadG (P := Try.prog) sz_22 ag_22 g80
        obtain ⟨g83, hF⟩ := gd_some hF
        have q84 := (Sj78.rd (k := 0) rfl).idxG (P := Try.prog) (kk := .i64) el_23 sz_22 g83
        have q85 := (Sj78.rd (k := 0) rfl).loadG (P := Try.prog) sz_22 ag_22 g83
        obtain ⟨g86, hF⟩ := gd_some hF
        have q87 := (Sj78.rd (k := 0) rfl).idxG (P := Try.prog) (kk := .i64) el_23 sz_22 g86
        obtain ⟨G93, q94, S95, a97⟩ := Sj78.swap1 (fr := ints) (P := Try.prog) (k := 0) [] rfl (hB.le Aj78.1) sz_22 g86 g80
        have A96 := Aj78.trans a97
        replace S95 : Sep G93 B [rowsS v0 22 3 (lset (lset (lset C0 x1 (gat nilV C0 x3)) x3 (gat nilV C0 x1)) s55 (gat nilV (lset (lset C0 x1 (gat nilV C0 x3)) x3 (gat nilV C0 x1)) x1)) (lset (lset C0 x1 (gat nilV C0 x3)) x3 (gat nilV C0 x1)) (List.map ints (lset (lset x0 x1 (gat [] x0 x3)) x3 (gat [] x0 x1)))] := S95
        obtain ⟨g98, hF⟩ := gd_some hF
        have q99 := S95.idxS (P := Try.prog) (ki := .i64) (kk := 0) rfl el_23 sz_22 g98
        obtain ⟨G105, q106, S107, a109⟩ := S95.swap2 (fr := ints) (P := Try.prog) (k := 0) [] rfl (hB.le A96.1) sz_22 g86 g80
        have A108 := A96.trans a109
        replace S107 : Sep G105 B [rowsC v0 22 3 (lset (lset (lset (lset C0 x1 (gat nilV C0 x3)) x3 (gat nilV C0 x1)) s55 (gat nilV (lset (lset C0 x1 (gat nilV C0 x3)) x3 (gat nilV C0 x1)) x1)) x1 (gat nilV (lset (lset C0 x1 (gat nilV C0 x3)) x3 (gat nilV C0 x1)) s55)) (List.map ints (lset (lset (lset (lset x0 x1 (gat [] x0 x3)) x3 (gat [] x0 x1)) s55 (gat [] (lset (lset x0 x1 (gat [] x0 x3)) x3 (gat [] x0 x1)) x1)) x1 (gat [] (lset (lset x0 x1 (gat [] x0 x3)) x3 (gat [] x0 x1)) s55)))] := S107
        refine DWp.drawn (B := [0, 0, 0, 0, 0, 0, 48, 112, 0, 0, 768, 1792, 4083, 8179, 16383, 32767]) 13 mixed (by kernel_rfl) (by decide) fun K hK => ?_
        simp [-aBin', -aBin, -aBinI, -aUn, -aNil, -flatV, n_fn, b_add, b_sub, b_mul, b_lt, b_le, b_gt, b_ge, b_eq, b_ne, u_not, ej78_0, ej78_1, ej78_4, ej78_12, ej78_13, q81, q82, q84, q85, q87, (((Sj78.rd (k := 0) rfl).rowAt [] g80).tup), q94, q99, q106]
        apply hK
        clear hK K
        simp only [andThen, leaves]
        refine DWp.seq ?_
        refine DWp.region fun K hK => ?_
        simp [-aBin', -aBin, -aBinI, -aUn, -aNil, -flatV, n_fn, b_add, b_sub, b_mul, b_lt, b_le, b_gt, b_ge, b_eq, b_ne, u_not, ej78_0, ej78_1, ej78_4, ej78_12, ej78_13]
        apply hK
        clear hK K
        simp only [andThen, leaves]
        refine DWp.ret ?_
        simp only [andThen, leaves]
        obtain rfl := Option.some.inj hF
        exact ⟨by simp, [(Value.int .i64 s55), (Value.bool true)], by simp [ej78_0, ej78_1, ej78_4, ej78_12, ej78_13], A108, (lset (lset (lset (lset C0 x1 (gat nilV C0 x3)) x3 (gat nilV C0 x1)) s55 (gat nilV (lset (lset C0 x1 (gat nilV C0 x3)) x3 (gat nilV C0 x1)) x1)) x1 (gat nilV (lset (lset C0 x1 (gat nilV C0 x3)) x3 (gat nilV C0 x1)) s55)), rfl, S107.pick [0] (by decide) rfl⟩
      · replace hF := cd_f hb79 hF
        refine DWp.skip ?_
        simp only [andThen, leaves]
        refine DWp.seq ?_
        obtain ⟨g110, hF⟩ := gd_some hF
        have q111 := (Sj78.rd (k := 0) rfl).idxG (P := Try.prog) (kk := .i64) el_23 sz_22 g110
        have q112 := (Sj78.rd (k := 0) rfl).loadG (P := Try.prog) sz_22 ag_22 g110
        obtain ⟨g113, hF⟩ := gd_some hF
        have q114 := (Sj78.rd (k := 0) rfl).idxG (P := Try.prog) (kk := .i64) el_23 sz_22 g113
        have q115 := (Sj78.rd (k := 0) rfl).loadG (P := Try.prog) sz_22 ag_22 g113
        obtain ⟨g116, hF⟩ := gd_some hF
        have q117 := (Sj78.rd (k := 0) rfl).idxG (P := Try.prog) (kk := .i64) el_23 sz_22 g116
        obtain ⟨G123, q124, S125, a127⟩ := Sj78.swap1 (fr := ints) (P := Try.prog) (k := 0) [] rfl (hB.le Aj78.1) sz_22 g116 g110
        have A126 := Aj78.trans a127
        replace S125 : Sep G123 B [rowsS v0 22 3 (lset (lset (lset C0 x1 (gat nilV C0 x3)) x3 (gat nilV C0 x1)) s31 (gat nilV (lset (lset C0 x1 (gat nilV C0 x3)) x3 (gat nilV C0 x1)) s55)) (lset (lset C0 x1 (gat nilV C0 x3)) x3 (gat nilV C0 x1)) (List.map ints (lset (lset x0 x1 (gat [] x0 x3)) x3 (gat [] x0 x1)))] := S125
        obtain ⟨g128, hF⟩ := gd_some hF
        have q129 := S125.idxS (P := Try.prog) (ki := .i64) (kk := 0) rfl el_23 sz_22 g128
        obtain ⟨G135, q136, S137, a139⟩ := S125.swap2 (fr := ints) (P := Try.prog) (k := 0) [] rfl (hB.le A126.1) sz_22 g116 g110
        have A138 := A126.trans a139
        replace S137 : Sep G135 B [rowsC v0 22 3 (lset (lset (lset (lset C0 x1 (gat nilV C0 x3)) x3 (gat nilV C0 x1)) s31 (gat nilV (lset (lset C0 x1 (gat nilV C0 x3)) x3 (gat nilV C0 x1)) s55)) s55 (gat nilV (lset (lset C0 x1 (gat nilV C0 x3)) x3 (gat nilV C0 x1)) s31)) (List.map ints (lset (lset (lset (lset x0 x1 (gat [] x0 x3)) x3 (gat [] x0 x1)) s31 (gat [] (lset (lset x0 x1 (gat [] x0 x3)) x3 (gat [] x0 x1)) s55)) s55 (gat [] (lset (lset x0 x1 (gat [] x0 x3)) x3 (gat [] x0 x1)) s31)))] := S137
        refine DWp.drawn (B := [0, 0, 0, 0, 0, 0, 48, 112, 0, 0, 768, 1792, 4083, 8179, 16383, 32767]) 13 mixed (by kernel_rfl) (by decide) fun K hK => ?_
        simp [-aBin', -aBin, -aBinI, -aUn, -aNil, -flatV, n_fn, b_add, b_sub, b_mul, b_lt, b_le, b_gt, b_ge, b_eq, b_ne, u_not, ej78_0, ej78_1, ej78_4, ej78_12, ej78_13, q111, q112, q114, q115, q117, (((Sj78.rd (k := 0) rfl).rowAt [] g110).tup), q124, q129, q136]
        apply hK
        clear hK K
        simp only [andThen, leaves]
        refine DWp.seq ?_
        refine DWp.region fun K hK => ?_
        simp [-aBin', -aBin, -aBinI, -aUn, -aNil, -flatV, n_fn, b_add, b_sub, b_mul, b_lt, b_le, b_gt, b_ge, b_eq, b_ne, u_not, ej78_0, ej78_1, ej78_4, ej78_12, ej78_13]
        apply hK
        clear hK K
        simp only [andThen, leaves]
        refine DWp.seq ?_
        refine DWp.region fun K hK => ?_
        simp [-aBin', -aBin, -aBinI, -aUn, -aNil, -flatV, n_fn, b_add, b_sub, b_mul, b_lt, b_le, b_gt, b_ge, b_eq, b_ne, u_not, ej78_0, ej78_1, ej78_4, ej78_12, ej78_13]
        apply hK
        clear hK K
        simp only [andThen, leaves]
        refine DWp.seq ?_
        refine DWp.block ?_
        obtain ⟨s140, hL141, hF⟩ := bd_some hF
        have S142 := S137.pick [0] (by decide) rfl
        refine DWp.loop (fun n env G => ∃ l3_0 : List (List Int), ∃ y3_12 : Int, ∃ y3_13 : Int, ∃ D3_0 : List Value, F_slices_partitionCmpFunc_Sint_L3 fu x1 x4 n l3_0 y3_12 y3_13 = some s140 ∧ Sep G B [rowsC v0 22 3 D3_0 (List.map ints l3_0)] ∧ AgB B H G ∧ env 0 = some v0 ∧ env 1 = some (Value.int .i64 x1) ∧ env 4 = some (Value.func (.func f4) #[] c4.toArray) ∧ env 12 = some (Value.int .i64 y3_12) ∧ env 13 = some (Value.int .i64 y3_13)) fu ⟨(lset (lset (lset (lset x0 x1 (gat [] x0 x3)) x3 (gat [] x0 x1)) s31 (gat [] (lset (lset x0 x1 (gat [] x0 x3)) x3 (gat [] x0 x1)) s55)) s55 (gat [] (lset (lset x0 x1 (gat [] x0 x3)) x3 (gat [] x0 x1)) s31)), (iadd .i64 s31 1), (isub .i64 s55 1), (lset (lset (lset (lset C0 x1 (gat nilV C0 x3)) x3 (gat nilV C0 x1)) s31 (gat nilV (lset (lset C0 x1 (gat nilV C0 x3)) x3 (gat nilV C0 x1)) s55)) s55 (gat nilV (lset (lset C0 x1 (gat nilV C0 x3)) x3 (gat nilV C0 x1)) s31)), hL141, S142, A138, by simp [ej78_0, ej78_1, ej78_4, ej78_12, ej78_13], by simp [ej78_0, ej78_1, ej78_4, ej78_12, ej78_13], by simp [ej78_0, ej78_1, ej78_4, ej78_12, ej78_13], by simp [ej78_0, ej78_1, ej78_4, ej78_12, ej78_13], by simp [ej78_0, ej78_1, ej78_4, ej78_12, ej78_13]⟩ ?_
        rintro n1 env1 G1_ ⟨l3_0, y3_12, y3_13, D3_0, hL141, S1_, A1_, e1_0, e1_1, e1_4, e1_12, e1_13⟩
        cases n1 with
        | zero => cases hL141
        | succ n1 =>
          simp only [F_slices_partitionCmpFunc_Sint_L3] at hL141
          refine DWp.block ?_
          obtain ⟨s143, hL144, hL141⟩ := bd_some hL141
          refine DWp.seq (DWp.join (fun env G => Sep G B [rowsC v0 22 3 D3_0 (List.map ints l3_0)] ∧ AgB B H G ∧ env 0 = some v0 ∧ env 1 = some (Value.int .i64 x1) ∧ env 4 = some (Value.func (.func f4) #[] c4.toArray) ∧ env 12 = some (Value.int .i64 s143) ∧ env 13 = some (Value.int .i64 y3_13)) ?_ ?_)
          ·
            refine DWp.block ?_
            obtain ⟨s146, hL147, hL144⟩ := bd_some hL144
            have S148 := S1_.pick [0] (by decide) rfl
            refine DWp.loop (fun n env G => ∃ y4_12 : Int, F_slices_partitionCmpFunc_Sint_L4 fu l3_0 x1 x4 y3_13 n y4_12 = some s146 ∧ Sep G B [rowsC v0 22 3 D3_0 (List.map ints l3_0)] ∧ AgB B H G ∧ env 0 = some v0 ∧ env 1 = some (Value.int .i64 x1) ∧ env 4 = some (Value.func (.func f4) #[] c4.toArray) ∧ env 12 = some (Value.int .i64 y4_12) ∧ env 13 = some (Value.int .i64 y3_13)) fu ⟨y3_12, hL147, S148, A1_, by simp [e1_0, e1_1, e1_4, e1_12, e1_13], by simp [e1_0, e1_1, e1_4, e1_12, e1_13], by simp [e1_0, e1_1, e1_4, e1_12, e1_13], by simp [e1_0, e1_1, e1_4, e1_12, e1_13], by simp [e1_0, e1_1, e1_4, e1_12, e1_13]⟩ ?_
            rintro n3 env3 G3_ ⟨y4_12, hL147, S3_, A3_, e3_0, e3_1, e3_4, e3_12, e3_13⟩
            cases n3 with
            | zero => cases hL147
            | succ n3 =>
              simp only [F_slices_partitionCmpFunc_Sint_L4] at hL147
              refine DWp.seq ?_
              refine DWp.seq ?_
              rcases Bool.eq_false_or_eq_true (ile y4_12 y3_13) with hb149 | hb149
              · replace hL147 := cd_t hb149 hL147
                obtain ⟨g150, hL147⟩ := gd_some hL147
                have q151 := (S3_.rd (k := 0) rfl).idxG (P := Try.prog) (kk := .i64) el_23 sz_22 g150
                have q152 := (S3_.rd (k := 0) rfl).loadG (P := Try.prog) sz_22 ag_22 g150
                obtain ⟨g153, hL147⟩ := gd_some hL147
                have q154 := (S3_.rd (k := 0) rfl).idxG (P := Try.prog) (kk := .i64) el_23 sz_22 g153
                have q155 := (S3_.rd (k := 0) rfl).loadG (P := Try.prog) sz_22 ag_22 g153
                obtain ⟨r3, hc156, hL147⟩ := bd_some hL147
                refine DWp.drawn (B := [0, 0, 3, 7, 15, 15, 15, 111, 239, 15, 15, 1551, 3599, 8191, 16383, 32767]) 16 mixed (by kernel_rfl) (by decide) fun K hK => ?_
                simp [-aBin', -aBin, -aBinI, -aUn, -aNil, -flatV, n_fn, b_add, b_sub, b_mul, b_lt, b_le, b_gt, b_ge, b_eq, b_ne, u_not, e3_0, e3_1, e3_4, e3_12, e3_13, hb149, q151, q152, q154, q155, (((S3_.rd (k := 0) rfl).rowAt [] g150).tup), (((S3_.rd (k := 0) rfl).rowAt [] g153).tup)]
                refine CallD.t (hx4 _ A3_ (gat nilV D3_0 y4_12) (gat nilV D3_0 x1) (gat [] l3_0 y4_12) (gat [] l3_0 x1) _ ((S3_.rd (k := 0) rfl).rowAt [] g150) ((S3_.rd (k := 0) rfl).rowAt [] g153) hc156) ?_
                rintro _ G157 ⟨a160, rfl, S161⟩
                have A159 := A3_.ext (hB.le A3_.1) a160.agree
                have S158 : Sep G157 B [rowsC v0 22 3 D3_0 (List.map ints l3_0)] := S3_.agree a160.agree
                simp [-aBin', -aBin, -aBinI, -aUn, -aNil, -flatV, n_fn, b_add, b_sub, b_mul, b_lt, b_le, b_gt, b_ge, b_eq, b_ne, u_not, e3_0, e3_1, e3_4, e3_12, e3_13, hb149, q151, q152, q154, q155, a160.pre]
                apply hK
                clear hK K
                simp only [andThen, leaves]
                refine DWp.cond' (t := (ilt r3 0)) (by simp [e3_0, e3_1, e3_4, e3_12, e3_13]) (fun hb162 => ?_) (fun hb162 => ?_)
                · replace hL147 := cd_t hb162 hL147
                  refine DWp.skip ?_
                  simp only [andThen, leaves]
                  refine DWp.block ?_
                  refine DWp.region fun K hK => ?_
                  simp [-aBin', -aBin, -aBinI, -aUn, -aNil, -flatV, n_fn, b_add, b_sub, b_mul, b_lt, b_le, b_gt, b_ge, b_eq, b_ne, u_not, e3_0, e3_1, e3_4, e3_12, e3_13]
                  apply hK
                  clear hK K
                  simp only [andThen, leaves]
                  have S163 := S158.pick [0] (by decide) rfl
                  exact ⟨n3, Nat.lt_succ_self _, (iadd .i64 y4_12 1), hL147, S163, A159, by simp [e3_0, e3_1, e3_4, e3_12, e3_13], by simp [e3_0, e3_1, e3_4, e3_12, e3_13], by simp [e3_0, e3_1, e3_4, e3_12, e3_13], by simp [e3_0, e3_1, e3_4, e3_12, e3_13], by simp [e3_0, e3_1, e3_4, e3_12, e3_13]⟩
                · replace hL147 := cd_f hb162 hL147
                  refine DWp.exit ?_
                  simp only [andThen, leaves, if_true, if_false, reduceIte, Nat.reduceEqDiff]
                  obtain rfl := Option.some.inj hL147
                  have S164 := S158.pick [0] (by decide) rfl
                  obtain rfl := Option.some.inj hL144
                  exact ⟨S164, A159, by simp [e3_0, e3_1, e3_4, e3_12, e3_13], by simp [e3_0, e3_1, e3_4, e3_12, e3_13], by simp [e3_0, e3_1, e3_4, e3_12, e3_13], by simp [e3_0, e3_1, e3_4, e3_12, e3_13], by simp [e3_0, e3_1, e3_4, e3_12, e3_13]⟩
              · replace hL147 := cd_f hb149 hL147
                refine DWp.drawn (B := [0, 0, 3, 7, 15, 15, 15, 111, 239, 15, 15, 1551, 3599, 8191, 16383, 32767]) 16 mixed (by kernel_rfl) (by decide) fun K hK => ?_
                simp [-aBin', -aBin, -aBinI, -aUn, -aNil, -flatV, n_fn, b_add, b_sub, b_mul, b_lt, b_le, b_gt, b_ge, b_eq, b_ne, u_not, e3_0, e3_1, e3_4, e3_12, e3_13, hb149]
                apply hK
                clear hK K
                simp only [andThen, leaves]
                refine DWp.cf (by simp [e3_0, e3_1, e3_4, e3_12, e3_13, bnot]) ?_
                refine DWp.exit ?_
                simp only [andThen, leaves, if_true, if_false, reduceIte, Nat.reduceEqDiff]
                obtain rfl := Option.some.inj hL147
                have S165 := S3_.pick [0] (by decide) rfl
                obtain rfl := Option.some.inj hL144
                exact ⟨S165, A3_, by simp [e3_0, e3_1, e3_4, e3_12, e3_13], by simp [e3_0, e3_1, e3_4, e3_12, e3_13], by simp [e3_0, e3_1, e3_4, e3_12, e3_13], by simp [e3_0, e3_1, e3_4, e3_12, e3_13], by simp [e3_0, e3_1, e3_4, e3_12, e3_13]⟩
          · rintro env Gj166 ⟨Sj166, Aj166, ej166_0, ej166_1, ej166_4, ej166_12, ej166_13⟩
            obtain ⟨s167, hL168, hL141⟩ := bd_some hL141
            refine DWp.seq (DWp.join (fun env G => Sep G B [rowsC v0 22 3 D3_0 (List.map ints l3_0)] ∧ AgB B H G ∧ env 0 = some v0 ∧ env 1 = some (Value.int .i64 x1) ∧ env 4 = some (Value.func (.func f4) #[] c4.toArray) ∧ env 12 = some (Value.int .i64 s143) ∧ env 13 = some (Value.int .i64 s167)) ?_ ?_)
            ·
              refine DWp.block ?_
              obtain ⟨s170, hL171, hL168⟩ := bd_some hL168
              have S172 := Sj166.pick [0] (by decide) rfl
              refine DWp.loop (fun n env G => ∃ y5_13 : Int, F_slices_partitionCmpFunc_Sint_L5 fu l3_0 x1 x4 s143 n y5_13 = some s170 ∧ Sep G B [rowsC v0 22 3 D3_0 (List.map ints l3_0)] ∧ AgB B H G ∧ env 0 = some v0 ∧ env 1 = some (Value.int .i64 x1) ∧ env 4 = some (Value.func (.func f4) #[] c4.toArray) ∧ env 12 = some (Value.int .i64 s143) ∧ env 13 = some (Value.int .i64 y5_13)) fu ⟨y3_13, hL171, S172, Aj166, by simp [ej166_0, ej166_1, ej166_4, ej166_12, ej166_13], by simp [ej166_0, ej166_1, ej166_4, ej166_12, ej166_13], by simp [ej166_0, ej166_1, ej166_4, ej166_12, ej166_13], by simp [ej166_0, ej166_1, ej166_4, ej166_12, ej166_13], by simp [ej166_0, ej166_1, ej166_4, ej166_12, ej166_13]⟩ ?_
              rintro n3 env3 G3_ ⟨y5_13, hL171, S3_, A3_, e3_0, e3_1, e3_4, e3_12, e3_13⟩
              cases n3 with
              | zero => cases hL171
              | succ n3 =>
                simp only [F_slices_partitionCmpFunc_Sint_L5] at hL171
                refine DWp.seq ?_
                refine DWp.seq ?_
                rcases Bool.eq_false_or_eq_true (ile s143 y5_13) with hb173 | hb173
                · replace hL171 := cd_t hb173 hL171
                  obtain ⟨g174, hL171⟩ := gd_some hL171
                  have q175 := (S3_.rd (k := 0) rfl).idxG (P := Try.prog) (kk := .i64) el_23 sz_22 g174
                  have q176 := (S3_.rd (k := 0) rfl).loadG (P := Try.prog) sz_22 ag_22 g174
                  obtain ⟨g177, hL171⟩ := gd_some hL171
                  have q178 := (S3_.rd (k := 0) rfl).idxG (P := Try.prog) (kk := .i64) el_23 sz_22 g177
                  have q179 := (S3_.rd (k := 0) rfl).loadG (P := Try.prog) sz_22 ag_22 g177
                  obtain ⟨r4, hc180, hL171⟩ := bd_some hL171
                  refine DWp.drawn (B := [0, 0, 3, 7, 15, 15, 15, 111, 239, 15, 15, 1551, 3599, 8191, 16383, 32767, 65535]) 17 mixed (by kernel_rfl) (by decide) fun K hK => ?_
                  simp [-aBin', -aBin, -aBinI, -aUn, -aNil, -flatV, n_fn, b_add, b_sub, b_mul, b_lt, b_le, b_gt, b_ge, b_eq, b_ne, u_not, e3_0, e3_1, e3_4, e3_12, e3_13, hb173, q175, q176, q178, q179, (((S3_.rd (k := 0) rfl).rowAt [] g174).tup), (((S3_.rd (k := 0) rfl).rowAt [] g177).tup)]
                  refine CallD.t (hx4 _ A3_ (gat nilV D3_0 y5_13) (gat nilV D3_0 x1) (gat [] l3_0 y5_13) (gat [] l3_0 x1) _ ((S3_.rd (k := 0) rfl).rowAt [] g174) ((S3_.rd (k := 0) rfl).rowAt [] g177) hc180) ?_
                  rintro _ G181 ⟨a184, rfl, S185⟩
                  have A183 := A3_.ext (hB.le A3_.1) a184.agree
                  have S182 : Sep G181 B [rowsC v0 22 3 D3_0 (List.map ints l3_0)] := S3_.agree a184.agree
                  simp [-aBin', -aBin, -aBinI, -aUn, -aNil, -flatV, n_fn, b_add, b_sub, b_mul, b_lt, b_le, b_gt, b_ge, b_eq, b_ne, u_not, e3_0, e3_1, e3_4, e3_12, e3_13, hb173, q175, q176, q178, q179, a184.pre]
                  apply hK
                  clear hK K
                  simp only [andThen, leaves]
                  refine DWp.cond' (t := (bnot (ilt r4 0))) (by simp [e3_0, e3_1, e3_4, e3_12, e3_13]) (fun hb186 => ?_) (fun hb186 => ?_)
                  · replace hL171 := cd_t hb186 hL171
                    refine DWp.skip ?_
                    simp only [andThen, leaves]
                    refine DWp.block ?_
                    refine DWp.region fun K hK => ?_
                    simp [-aBin', -aBin, -aBinI, -aUn, -aNil, -flatV, n_fn, b_add, b_sub, b_mul, b_lt, b_le, b_gt, b_ge, b_eq, b_ne, u_not, e3_0, e3_1, e3_4, e3_12, e3_13]
                    apply hK
                    clear hK K
                    simp only [andThen, leaves]
                    have S187 := S182.pick [0] (by decide) rfl
                    exact ⟨n3, Nat.lt_succ_self _, (isub .i64 y5_13 1), hL171, S187, A183, by simp [e3_0, e3_1, e3_4, e3_12, e3_13], by simp [e3_0, e3_1, e3_4, e3_12, e3_13], by simp [e3_0, e3_1, e3_4, e3_12, e3_13], by simp [e3_0, e3_1, e3_4, e3_12, e3_13], by simp [e3_0, e3_1, e3_4, e3_12, e3_13]⟩
                  · replace hL171 := cd_f hb186 hL171
                    refine DWp.exit ?_
                    simp only [andThen, leaves, if_true, if_false, reduceIte, Nat.reduceEqDiff]
                    obtain rfl := Option.some.inj hL171
                    have S188 := S182.pick [0] (by decide) rfl
                    obtain rfl := Option.some.inj hL168
                    exact ⟨S188, A183, by simp [e3_0, e3_1, e3_4, e3_12, e3_13], by simp [e3_0, e3_1, e3_4, e3_12, e3_13], by simp [e3_0, e3_1, e3_4, e3_12, e3_13], by simp [e3_0, e3_1, e3_4, e3_12, e3_13], by simp [e3_0, e3_1, e3_4, e3_12, e3_13]⟩
                · replace hL171 := cd_f hb173 hL171
                  refine DWp.drawn (B := [0, 0, 3, 7, 15, 15, 15, 111, 239, 15, 15, 1551, 3599, 8191, 16383, 32767, 65535]) 17 mixed (by kernel_rfl) (by decide) fun K hK => ?_
                  simp [-aBin', -aBin, -aBinI, -aUn, -aNil, -flatV, n_fn, b_add, b_sub, b_mul, b_lt, b_le, b_gt, b_ge, b_eq, b_ne, u_not, e3_0, e3_1, e3_4, e3_12, e3_13, hb173]
                  apply hK
                  clear hK K
                  simp only [andThen, leaves]
                  refine DWp.cf (by simp [e3_0, e3_1, e3_4, e3_12, e3_13, bnot]) ?_
                  refine DWp.exit ?_
                  simp only [andThen, leaves, if_true, if_false, reduceIte, Nat.reduceEqDiff]
                  obtain rfl := Option.some.inj hL171
                  have S189 := S3_.pick [0] (by decide) rfl
                  obtain rfl := Option.some.inj hL168
                  exact ⟨S189, A3_, by simp [e3_0, e3_1, e3_4, e3_12, e3_13], by simp [e3_0, e3_1, e3_4, e3_12, e3_13], by simp [e3_0, e3_1, e3_4, e3_12, e3_13], by simp [e3_0, e3_1, e3_4, e3_12, e3_13], by simp [e3_0, e3_1, e3_4, e3_12, e3_13]⟩
            · rintro env Gj190 ⟨Sj190, Aj190, ej190_0, ej190_1, ej190_4, ej190_12, ej190_13⟩
              refine DWp.seq ?_
              refine DWp.seq ?_
              refine DWp.region fun K hK => ?_
              simp [-aBin', -aBin, -aBinI, -aUn, -aNil, -flatV, n_fn, b_add, b_sub, b_mul, b_lt, b_le, b_gt, b_ge, b_eq, b_ne, u_not, ej190_0, ej190_1, ej190_4, ej190_12, ej190_13]
              apply hK
              clear hK K
              simp only [andThen, leaves]
              refine DWp.cond' (t := (ilt s167 s143)) (by simp [ej190_0, ej190_1, ej190_4, ej190_12, ej190_13]) (fun hb191 => ?_) (fun hb191 => ?_)
              · replace hL141 := cd_t hb191 hL141
                refine DWp.exit ?_
                simp only [andThen, leaves, if_true, if_false, reduceIte, Nat.reduceEqDiff]
                obtain rfl := Option.some.inj hL141
                try dsimp only at hF
                refine DWp.seq ?_
                obtain ⟨g192, hF⟩ := gd_some hF
                have q193 := (Sj190.rd (k := 0) rfl).idxG (P := Try.prog) (kk := .i64) el_23 sz_22 g192
                have q194 := (Sj190.rd (k := 0) rfl).loadG (P := Try.prog) sz_22 ag_22 g192
                obtain ⟨g195, hF⟩ := gd_some hF
                have q196 := (Sj190.rd (k := 0) rfl).idxG (P := Try.prog) (kk := .i64) el_23 sz_22 g195
                have q197 := (Sj190.rd (k := 0) rfl).loadG (P := Try.prog) sz_22 ag_22 g195
                obtain ⟨g198, hF⟩ := gd_some hF
                have q199 := (Sj190.rd (k := 0) rfl).idxG (P := Try.prog) (kk := .i64) el_23 sz_22 g198
                obtain ⟨G205, q206, S207, a209⟩ := Sj190.swap1 (fr := ints) (P := Try.prog) (k := 0) [] rfl (hB.le Aj190.1) sz_22 g198 g192
                have A208 := Aj190.trans a209
                replace S207 : Sep G205 B [rowsS v0 22 3 (lset D3_0 s167 (gat nilV D3_0 x1)) D3_0 (List.map ints l3_0)] := S207
                obtain ⟨g210, hF⟩ := gd_some hF
                have q211 := S207.idxS (P := Try.prog) (ki := .i64) (kk := 0) rfl el_23 sz_22 g210
                obtain ⟨G217, q218, S219, a221⟩ := S207.swap2 (fr := ints) (P := Try.prog) (k := 0) [] rfl (hB.le A208.1) sz_22 g198 g192
                have A220 := A208.trans a221
                replace S219 : Sep G217 B [rowsC v0 22 3 (lset (lset D3_0 s167 (gat nilV D3_0 x1)) x1 (gat nilV D3_0 s167)) (List.map ints (lset (lset l3_0 s167 (gat [] l3_0 x1)) x1 (gat [] l3_0 s167)))] := S219
                refine DWp.drawn (B := [0, 0, 0, 0, 0, 0, 48, 112, 0, 0, 768, 1792, 4083, 8179, 16383, 32767]) 13 mixed (by kernel_rfl) (by decide) fun K hK => ?_
                simp [-aBin', -aBin, -aBinI, -aUn, -aNil, -flatV, n_fn, b_add, b_sub, b_mul, b_lt, b_le, b_gt, b_ge, b_eq, b_ne, u_not, ej190_0, ej190_1, ej190_4, ej190_12, ej190_13, q193, q194, q196, q197, q199, (((Sj190.rd (k := 0) rfl).rowAt [] g192).tup), q206, q211, q218]
                apply hK
                clear hK K
                simp only [andThen, leaves]
                refine DWp.seq ?_
                refine DWp.region fun K hK => ?_
                simp [-aBin', -aBin, -aBinI, -aUn, -aNil, -flatV, n_fn, b_add, b_sub, b_mul, b_lt, b_le, b_gt, b_ge, b_eq, b_ne, u_not, ej190_0, ej190_1, ej190_4, ej190_12, ej190_13]
                apply hK
                clear hK K
                simp only [andThen, leaves]
                refine DWp.ret ?_
                obtain rfl := Option.some.inj hF
                exact ⟨by simp, [(Value.int .i64 s167), (Value.bool false)], by simp [ej190_0, ej190_1, ej190_4, ej190_12, ej190_13], A220, (lset (lset D3_0 s167 (gat nilV D3_0 x1)) x1 (gat nilV D3_0 s167)), rfl, S219.pick [0] (by decide) rfl⟩
              · replace hL141 := cd_f hb191 hL141
                refine DWp.skip ?_
                simp only [andThen, leaves]
                refine DWp.seq ?_
                obtain ⟨g222, hL141⟩ := gd_some hL141
                have q223 := (Sj190.rd (k := 0) rfl).idxG (P := Try.prog) (kk := .i64) el_23 sz_22 g222
                have q224 := (Sj190.rd (k := 0) rfl).loadG (P := Try.prog) sz_22 ag_22 g222
                obtain ⟨g225, hL141⟩ := gd_some hL141
                have q226 := (Sj190.rd (k := 0) rfl).idxG (P := Try.prog) (kk := .i64) el_23 sz_22 g225
                have q227 := (Sj190.rd (k := 0) rfl).loadG (P := Try.prog) sz_22 ag_22 g225
                obtain ⟨g228, hL141⟩ := gd_some hL141
                have q229 := (Sj190.rd (k := 0) rfl).idxG (P := Try.prog) (kk := .i64) el_23 sz_22 g228
                obtain ⟨G235, q236, S237, a239⟩ := Sj190.swap1 (fr := ints) (P := Try.prog) (k := 0) [] rfl (hB.le Aj190.1) sz_22 g228 g222
                have A238 := Aj190.trans a239
                replace S237 : Sep G235 B [rowsS v0 22 3 (lset D3_0 s143 (gat nilV D3_0 s167)) D3_0 (List.map ints l3_0)] := S237
                obtain ⟨g240, hL141⟩ := gd_some hL141
                have q241 := S237.idxS (P := Try.prog) (ki := .i64) (kk := 0) rfl el_23 sz_22 g240
                obtain ⟨G247, q248, S249, a251⟩ := S237.swap2 (fr := ints) (P := Try.prog) (k := 0) [] rfl (hB.le A238.1) sz_22 g228 g222
                have A250 := A238.trans a251
                replace S249 : Sep G247 B [rowsC v0 22 3 (lset (lset D3_0 s143 (gat nilV D3_0 s167)) s167 (gat nilV D3_0 s143)) (List.map ints (lset (lset l3_0 s143 (gat [] l3_0 s167)) s167 (gat [] l3_0 s143)))] := S249
                refine DWp.drawn (B := [0, 0, 0, 0, 0, 0, 48, 112, 0, 0, 768, 1792, 4083, 8179, 16383, 32767]) 13 mixed (by kernel_rfl) (by decide) fun K hK => ?_
                simp [-aBin', -aBin, -aBinI, -aUn, -aNil, -flatV, n_fn, b_add, b_sub, b_mul, b_lt, b_le, b_gt, b_ge, b_eq, b_ne, u_not, ej190_0, ej190_1, ej190_4, ej190_12, ej190_13, q223, q224, q226, q227, q229, (((Sj190.rd (k := 0) rfl).rowAt [] g222).tup), q236, q241, q248]
                apply hK
                clear hK K
                simp only [andThen, leaves]
                refine DWp.seq ?_
                refine DWp.region fun K hK => ?_
                simp [-aBin', -aBin, -aBinI, -aUn, -aNil, -flatV, n_fn, b_add, b_sub, b_mul, b_lt, b_le, b_gt, b_ge, b_eq, b_ne, u_not, ej190_0, ej190_1, ej190_4, ej190_12, ej190_13]
                apply hK
                clear hK K
                simp only [andThen, leaves]
                refine DWp.region fun K hK => ?_
                simp [-aBin', -aBin, -aBinI, -aUn, -aNil, -flatV, n_fn, b_add, b_sub, b_mul, b_lt, b_le, b_gt, b_ge, b_eq, b_ne, u_not, ej190_0, ej190_1, ej190_4, ej190_12, ej190_13]
                apply hK
                clear hK K
                simp only [andThen, leaves]
                have S252 := S249.pick [0] (by decide) rfl
                exact ⟨n1, Nat.lt_succ_self _, (lset (lset l3_0 s143 (gat [] l3_0 s167)) s167 (gat [] l3_0 s143)), (iadd .i64 s143 1), (isub .i64 s167 1), (lset (lset D3_0 s143 (gat nilV D3_0 s167)) s167 (gat nilV D3_0 s143)), hL141, S252, A250, by simp [ej190_0, ej190_1, ej190_4, ej190_12, ej190_13], by simp [ej190_0, ej190_1, ej190_4, ej190_12, ej190_13], by simp [ej190_0, ej190_1, ej190_4, ej190_12, ej190_13], by simp [ej190_0, ej190_1, ej190_4, ej190_12, ej190_13], by simp [ej190_0, ej190_1, ej190_4, ej190_12, ej190_13]⟩
def F_slices_pdqsortCmpFunc_Sint_L1 (fu : Nat) (self_ : (List (List Int)) → Int → Int → Int → ((List Int) → (List Int) → Option (Int)) → Option (List (List Int))) (k1_0 : ((List Int) → (List Int) → Option (Int))) : Nat → List (List Int) → Int → Int → Int → Bool → Bool → Option (LR (List (List Int)) (List (List Int) × Int × Int × Int × Bool × Bool))
  | 0, _, _, _, _, _, _ => none
  | n + 1, l1_0, y1_1, y1_2, y1_3, y1_10, y1_11 =>
    bif (ile (isub .i64 y1_2 y1_1) 12) then
      bd (F_slices_insertionSortCmpFunc_Sint fu l1_0 y1_1 y1_2 k1_0) fun r1 =>
      some (.ret r1)
    else
      bif (ieq y1_3 0) then
        bd (F_slices_heapSortCmpFunc_Sint fu l1_0 y1_1 y1_2 k1_0) fun r2 =>
        some (.ret r2)
      else
        bd (
          bif (bnot y1_10) then
            bd (F_slices_breakPatternsCmpFunc_Sint fu l1_0 y1_1 y1_2 k1_0) fun r3 =>
            some (r3, (isub .i64 y1_3 1))
          else
            some (l1_0, y1_3)) fun s34 =>
        bd (F_slices_choosePivotCmpFunc_Sint fu s34.1 y1_1 y1_2 k1_0) fun r4 =>
        bd (
          bif (ieq r4.2 2) then
            bd (F_slices_reverseRangeCmpFunc_Sint fu s34.1 y1_1 y1_2 k1_0) fun r5 =>
            some (r5, (isub .i64 (isub .i64 y1_2 1) (isub .i64 r4.1 y1_1)), 1)
          else
            some (s34.1, r4.1, r4.2)) fun s62 =>
        bd (
          bif y1_10 then
            bif y1_11 then
              some (ieq s62.2.2 1)
            else
              some false
          else
            some false) fun s83 =>
        bif s83 then
          bd (F_slices_partialInsertionSortCmpFunc_Sint fu s62.1 y1_1 y1_2 k1_0) fun r6 =>
          bif r6.1 then
            some (.ret r6.2)
          else
            bd (
              bif (ilt 0 y1_1) then
                gd (inL r6.2 (isub .i64 y1_1 1)) (
                gd (inL r6.2 s62.2.1) (
                bd (k1_0 (gat [] r6.2 (isub .i64 y1_1 1)) (gat [] r6.2 s62.2.1)) fun r7 =>
                some (bnot (ilt r7 0))))
              else
                some false) fun s108 =>
            bif s108 then
              bd (F_slices_partitionEqualCmpFunc_Sint fu r6.2 y1_1 y1_2 s62.2.1 k1_0) fun r8 =>
              F_slices_pdqsortCmpFunc_Sint_L1 fu self_ k1_0 n r8.2 r8.1 y1_2 s34.2 y1_10 y1_11
            else
              bd (F_slices_partitionCmpFunc_Sint fu r6.2 y1_1 y1_2 s62.2.1 k1_0) fun r9 =>
              bif (ilt (isub .i64 r9.1 y1_1) (isub .i64 y1_2 r9.1)) then
                bd (self_ r9.2.2 y1_1 r9.1 s34.2 k1_0) fun r10 =>
                F_slices_pdqsortCmpFunc_Sint_L1 fu self_ k1_0 n r10 (iadd .i64 r9.1 1) y1_2 s34.2 (ile (iquo .i64 (isub .i64 y1_2 y1_1) 8) (isub .i64 r9.1 y1_1)) r9.2.1
              else
                bd (self_ r9.2.2 (iadd .i64 r9.1 1) y1_2 s34.2 k1_0) fun r11 =>
                F_slices_pdqsortCmpFunc_Sint_L1 fu self_ k1_0 n r11 y1_1 r9.1 s34.2 (ile (iquo .i64 (isub .i64 y1_2 y1_1) 8) (isub .i64 y1_2 r9.1)) r9.2.1
        else
          bd (
            bif (ilt 0 y1_1) then
              gd (inL s62.1 (isub .i64 y1_1 1)) (
              gd (inL s62.1 s62.2.1) (
              bd (k1_0 (gat [] s62.1 (isub .i64 y1_1 1)) (gat [] s62.1 s62.2.1)) fun r12 =>
              some (bnot (ilt r12 0))))
            else
              some false) fun s189 =>
          bif s189 then
            bd (F_slices_partitionEqualCmpFunc_Sint fu s62.1 y1_1 y1_2 s62.2.1 k1_0) fun r13 =>
            F_slices_pdqsortCmpFunc_Sint_L1 fu self_ k1_0 n r13.2 r13.1 y1_2 s34.2 y1_10 y1_11
          else
            bd (F_slices_partitionCmpFunc_Sint fu s62.1 y1_1 y1_2 s62.2.1 k1_0) fun r14 =>
            bif (ilt (isub .i64 r14.1 y1_1) (isub .i64 y1_2 r14.1)) then
              bd (self_ r14.2.2 y1_1 r14.1 s34.2 k1_0) fun r15 =>
              F_slices_pdqsortCmpFunc_Sint_L1 fu self_ k1_0 n r15 (iadd .i64 r14.1 1) y1_2 s34.2 (ile (iquo .i64 (isub .i64 y1_2 y1_1) 8) (isub .i64 r14.1 y1_1)) r14.2.1
            else
              bd (self_ r14.2.2 (iadd .i64 r14.1 1) y1_2 s34.2 k1_0) fun r16 =>
              F_slices_pdqsortCmpFunc_Sint_L1 fu self_ k1_0 n r16 y1_1 r14.1 s34.2 (ile (iquo .i64 (isub .i64 y1_2 y1_1) 8) (isub .i64 y1_2 r14.1)) r14.2.1
def F_slices_pdqsortCmpFunc_Sint : Nat → (List (List Int)) → Int → Int → Int → ((List Int) → (List Int) → Option (Int)) → Option (List (List Int))
  | 0, _, _, _, _, _ => none
  | fu + 1, x0, x1, x2, x3, x4 =>
    bd (F_slices_pdqsortCmpFunc_Sint_L1 fu (F_slices_pdqsortCmpFunc_Sint fu) x4 fu x0 x1 x2 x3 true true) fun s1 => lr s1 fun _ => none
theorem F_slices_pdqsortCmpFunc_Sint_w : ∀ {fu : Nat} {H : AH} {B : Nat → Prop} {v0 : Value} {C0 : List Value} {f4 : FuncId} {c4 : List Value} {x0 : List (List Int)} {x1 : Int} {x2 : Int} {x3 : Int} {x4 : (List Int) → (List Int) → Option (Int)} {r : (List (List Int))} (hB : Up B H.length) (S0 : Sep H B [rowsC v0 22 3 C0 (List.map ints x0)]) (hx4 : ∀ (G : AH), AgB B H G → ∀ (v0 : Value) (v1 : Value) (y0 : List Int) (y1 : List Int) (q : (Int)), Sl G v0 (ints y0) → Sl G v1 (ints y1) → x4 y0 y1 = some q → ACallT Try.prog f4 ([v0, v1] ++ c4) G (fun u G' => AgB (Fr G) G G' ∧ u = (Value.int .i64 q) ∧ Sep G' (Fr G) [])) (hF : F_slices_pdqsortCmpFunc_Sint fu x0 x1 x2 x3 x4 = some r),
    ACallT Try.prog 119 [v0, (Value.int .i64 x1), (Value.int .i64 x2), (Value.int .i64 x3), (Value.func (.func f4) #[] c4.toArray)] H (fun u G => AgB B H G ∧ ∃ Cz0 : List Value, u = (Value.tuple #[]) ∧ Sep G B [rowsC v0 22 3 Cz0 (List.map ints r)]) := by
  intro fu
  induction fu with
  | zero => intros; rename_i hF; cases hF
  | succ fu ih =>
  intro H B v0 C0 f4 c4 x0 x1 x2 x3 x4 r hB S0 hx4 hF
  simp only [F_slices_pdqsortCmpFunc_Sint] at hF
  refine ACallT.of_body (nt := 148) (rs := []) Try.func119 rfl rfl rfl rfl ?_
  have A0 : AgB B H H := .refl _ _
  refine DWp.seq ?_
  refine DWp.region fun K hK => ?_
  simp [-aBin', -aBin, -aBinI, -aUn, -aNil, -flatV, n_fn, b_add, b_sub, b_mul, b_lt, b_le, b_gt, b_ge, b_eq, b_ne, u_not]
  apply hK
  clear hK K
  simp only [andThen, leaves]
  refine DWp.seq ?_
  refine DWp.region fun K hK => ?_
  simp [-aBin', -aBin, -aBinI, -aUn, -aNil, -flatV, n_fn, b_add, b_sub, b_mul, b_lt, b_le, b_gt, b_ge, b_eq, b_ne, u_not]
  apply hK
  clear hK K
  simp only [andThen, leaves]
  refine DWp.block ?_
  obtain ⟨s1, hL2, hF⟩ := bd_some hF
  have S3 := S0.pick [0] (by decide) rfl
  refine DWp.loop (fun n env G => ∃ l1_0 : List (List Int), ∃ y1_1 : Int, ∃ y1_2 : Int, ∃ y1_3 : Int, ∃ y1_10 : Bool, ∃ y1_11 : Bool, ∃ D1_0 : List Value, F_slices_pdqsortCmpFunc_Sint_L1 fu (F_slices_pdqsortCmpFunc_Sint fu) x4 n l1_0 y1_1 y1_2 y1_3 y1_10 y1_11 = some s1 ∧ Sep G B [rowsC v0 22 3 D1_0 (List.map ints l1_0)] ∧ AgB B H G ∧ env 0 = some v0 ∧ env 1 = some (Value.int .i64 y1_1) ∧ env 2 = some (Value.int .i64 y1_2) ∧ env 3 = some (Value.int .i64 y1_3) ∧ env 4 = some (Value.func (.func f4) #[] c4.toArray) ∧ env 10 = some (Value.bool y1_10) ∧ env 11 = some (Value.bool y1_11)) fu ⟨x0, x1, x2, x3, true, true, C0, hL2, S3, A0, by simp [], by simp [], by simp [], by simp [], by simp [], by simp [], by simp []⟩ ?_
  rintro n1 env1 G1_ ⟨l1_0, y1_1, y1_2, y1_3, y1_10, y1_11, D1_0, hL2, S1_, A1_, e1_0, e1_1, e1_2, e1_3, e1_4, e1_10, e1_11⟩
  cases n1 with
  | zero => cases hL2
  | succ n1 =>
    simp only [F_slices_pdqsortCmpFunc_Sint_L1] at hL2
    refine DWp.block ?_
    refine DWp.seq ?_
    refine DWp.region fun K hK => ?_
    simp [-aBin', -aBin, -aBinI, -aUn, -aNil, -flatV, n_fn, b_add, b_sub, b_mul, b_lt, b_le, b_gt, b_ge, b_eq, b_ne, u_not, e1_0, e1_1, e1_2, e1_3, e1_4, e1_10, e1_11]
    apply hK
    clear hK K
    simp only [andThen, leaves]
    refine DWp.seq ?_
    refine DWp.seq ?_
    refine DWp.region fun K hK => ?_
    simp [-aBin', -aBin, -aBinI, -aUn, -aNil, -flatV, n_fn, b_add, b_sub, b_mul, b_lt, b_le, b_gt, b_ge, b_eq, b_ne, u_not, e1_0, e1_1, e1_2, e1_3, e1_4, e1_10, e1_11]
    apply hK
    clear hK K
    simp only [andThen, leaves]
    refine DWp.cond' (t := (ile (isub .i64 y1_2 y1_1) 12)) (by simp [e1_0, e1_1, e1_2, e1_3, e1_4, e1_10, e1_11]) (fun hb4 => ?_) (fun hb4 => ?_)
    · replace hL2 := cd_t hb4 hL2
      refine DWp.seq ?_
      obtain ⟨r1, hc5, hL2⟩ := bd_some hL2
      refine DWp.region fun K hK => ?_
      simp [-aBin', -aBin, -aBinI, -aUn, -aNil, -flatV, n_fn, b_add, b_sub, b_mul, b_lt, b_le, b_gt, b_ge, b_eq, b_ne, u_not, e1_0, e1_1, e1_2, e1_3, e1_4, e1_10, e1_11, ((S1_.rd (k := 0) rfl).tup)]
      have S6 : Sep G1_ B ([rowsC v0 22 3 D1_0 (List.map ints l1_0)] ++ []) := S1_.pick [0] (by decide) rfl
      obtain ⟨B12, S7, U8, M9, R10, C11⟩ := S6.frame (hB.le A1_.1)
      refine CallD.t (F_slices_insertionSortCmpFunc_Sint_w (fu := fu) U8 S7 (fun G_ a_ => hx4 G_ (A1_.trans (a_.mono M9))) hc5) ?_
      rintro _ G14 ⟨a17, c13_Cz0, rfl, S18⟩
      have A16 := A1_.trans (a17.mono M9)
      have S15 : Sep G14 B [rowsC v0 22 3 c13_Cz0 (List.map ints r1)] := C11 _ _ a17 S18
      simp [-aBin', -aBin, -aBinI, -aUn, -aNil, -flatV, n_fn, b_add, b_sub, b_mul, b_lt, b_le, b_gt, b_ge, b_eq, b_ne, u_not, e1_0, e1_1, e1_2, e1_3, e1_4, e1_10, e1_11]
      apply hK
      clear hK K
      simp only [andThen, leaves]
      refine DWp.ret ?_
      simp only [andThen, leaves]
      obtain rfl := Option.some.inj hL2
      simp only [lr] at hF
      obtain rfl := Option.some.inj hF
      exact ⟨by simp, [], by simp [e1_0, e1_1, e1_2, e1_3, e1_4, e1_10, e1_11], A16, c13_Cz0, rfl, S15.pick [0] (by decide) rfl⟩
    · replace hL2 := cd_f hb4 hL2
      refine DWp.skip ?_
      simp only [andThen, leaves]
      refine DWp.seq ?_
      refine DWp.seq ?_
      refine DWp.region fun K hK => ?_
      simp [-aBin', -aBin, -aBinI, -aUn, -aNil, -flatV, n_fn, b_add, b_sub, b_mul, b_lt, b_le, b_gt, b_ge, b_eq, b_ne, u_not, e1_0, e1_1, e1_2, e1_3, e1_4, e1_10, e1_11]
      apply hK
      clear hK K
      simp only [andThen, leaves]
      refine DWp.cond' (t := (ieq y1_3 0)) (by simp [e1_0, e1_1, e1_2, e1_3, e1_4, e1_10, e1_11]) (fun hb19 => ?_) (fun hb19 => ?_)
      · replace hL2 := cd_t hb19 hL2
        refine DWp.seq ?_
        obtain ⟨r2, hc20, hL2⟩ := bd_some hL2
        refine DWp.region fun K hK => ?_
        simp [-aBin', -aBin, -aBinI, -aUn, -aNil, -flatV, n_fn, b_add, b_sub, b_mul, b_lt, b_le, b_gt, b_ge, b_eq, b_ne, u_not, e1_0, e1_1, e1_2, e1_3, e1_4, e1_10, e1_11, ((S1_.rd (k := 0) rfl).tup)]
        have S21 : Sep G1_ B ([rowsC v0 22 3 D1_0 (List.map ints l1_0)] ++ []) := S1_.pick [0] (by decide) rfl
        obtain ⟨B27, S22, U23, M24, R25, C26⟩ := S21.frame (hB.le A1_.1)
        refine CallD.t (F_slices_heapSortCmpFunc_Sint_w (fu := fu) U23 S22 (fun G_ a_ => hx4 G_ (A1_.trans (a_.mono M24))) hc20) ?_
        rintro _ G29 ⟨a32, c28_Cz0, rfl, S33⟩
        have A31 := A1_.trans (a32.mono M24)
        have S30 : Sep G29 B [rowsC v0 22 3 c28_Cz0 (List.map ints r2)] := C26 _ _ a32 S33
        simp [-aBin', -aBin, -aBinI, -aUn, -aNil, -flatV, n_fn, b_add, b_sub, b_mul, b_lt, b_le, b_gt, b_ge, b_eq, b_ne, u_not, e1_0, e1_1, e1_2, e1_3, e1_4, e1_10, e1_11]
        apply hK
        clear hK K
        simp only [andThen, leaves]
        refine DWp.ret ?_
        simp only [andThen, leaves]
        obtain rfl := Option.some.inj hL2
        simp only [lr] at hF
        obtain rfl := Option.some.inj hF
        exact ⟨by simp, [], by simp [e1_0, e1_1, e1_2, e1_3, e1_4, e1_10, e1_11], A31, c28_Cz0, rfl, S30.pick [0] (by decide) rfl⟩
      · replace hL2 := cd_f hb19 hL2
        refine DWp.skip ?_
        simp only [andThen, leaves]
        obtain ⟨s34, hL35, hL2⟩ := bd_some hL2
        refine DWp.seq (DWp.join (fun env G => ∃ Dj1_0 : List Value, Sep G B [rowsC v0 22 3 Dj1_0 (List.map ints s34.1)] ∧ AgB B H G ∧ env 0 = some v0 ∧ env 1 = some (Value.int .i64 y1_1) ∧ env 2 = some (Value.int .i64 y1_2) ∧ env 3 = some (Value.int .i64 s34.2) ∧ env 4 = some (Value.func (.func f4) #[] c4.toArray) ∧ env 10 = some (Value.bool y1_10) ∧ env 11 = some (Value.bool y1_11) ∧ env 12 = some (Value.int .i64 (isub .i64 y1_2 y1_1))) ?_ ?_)
        ·
          refine DWp.seq ?_
          refine DWp.region fun K hK => ?_
          simp [-aBin', -aBin, -aBinI, -aUn, -aNil, -flatV, n_fn, b_add, b_sub, b_mul, b_lt, b_le, b_gt, b_ge, b_eq, b_ne, u_not, e1_0, e1_1, e1_2, e1_3, e1_4, e1_10, e1_11]
          apply hK
          clear hK K
          simp only [andThen, leaves]
          refine DWp.cond' (t := (bnot y1_10)) (by simp [e1_0, e1_1, e1_2, e1_3, e1_4, e1_10, e1_11]) (fun hb37 => ?_) (fun hb37 => ?_)
          · replace hL35 := cd_t hb37 hL35
            refine DWp.seq ?_
            obtain ⟨r3, hc38, hL35⟩ := bd_some hL35
            refine DWp.region fun K hK => ?_
            simp [-aBin', -aBin, -aBinI, -aUn, -aNil, -flatV, n_fn, b_add, b_sub, b_mul, b_lt, b_le, b_gt, b_ge, b_eq, b_ne, u_not, e1_0, e1_1, e1_2, e1_3, e1_4, e1_10, e1_11, ((S1_.rd (k := 0) rfl).tup)]
            have S39 : Sep G1_ B ([rowsC v0 22 3 D1_0 (List.map ints l1_0)] ++ []) := S1_.pick [0] (by decide) rfl
            obtain ⟨B45, S40, U41, M42, R43, C44⟩ := S39.frame (hB.le A1_.1)
            refine CallD.t (F_slices_breakPatternsCmpFunc_Sint_w (fu := fu) U41 S40 (fun G_ a_ => hx4 G_ (A1_.trans (a_.mono M42))) hc38) ?_
            rintro _ G47 ⟨a50, c46_Cz0, rfl, S51⟩
            have A49 := A1_.trans (a50.mono M42)
            have S48 : Sep G47 B [rowsC v0 22 3 c46_Cz0 (List.map ints r3)] := C44 _ _ a50 S51
            simp [-aBin', -aBin, -aBinI, -aUn, -aNil, -flatV, n_fn, b_add, b_sub, b_mul, b_lt, b_le, b_gt, b_ge, b_eq, b_ne, u_not, e1_0, e1_1, e1_2, e1_3, e1_4, e1_10, e1_11]
            apply hK
            clear hK K
            simp only [andThen, leaves]
            refine DWp.region fun K hK => ?_
            simp [-aBin', -aBin, -aBinI, -aUn, -aNil, -flatV, n_fn, b_add, b_sub, b_mul, b_lt, b_le, b_gt, b_ge, b_eq, b_ne, u_not, e1_0, e1_1, e1_2, e1_3, e1_4, e1_10, e1_11]
            apply hK
            clear hK K
            simp only [andThen, leaves]
            have S52 := S48.pick [0] (by decide) rfl
            obtain rfl := Option.some.inj hL35
            exact ⟨c46_Cz0, S52, A49, by simp [e1_0, e1_1, e1_2, e1_3, e1_4, e1_10, e1_11], by simp [e1_0, e1_1, e1_2, e1_3, e1_4, e1_10, e1_11], by simp [e1_0, e1_1, e1_2, e1_3, e1_4, e1_10, e1_11], by simp [e1_0, e1_1, e1_2, e1_3, e1_4, e1_10, e1_11], by simp [e1_0, e1_1, e1_2, e1_3, e1_4, e1_10, e1_11], by simp [e1_0, e1_1, e1_2, e1_3, e1_4, e1_10, e1_11], by simp [e1_0, e1_1, e1_2, e1_3, e1_4, e1_10, e1_11], by simp [e1_0, e1_1, e1_2, e1_3, e1_4, e1_10, e1_11]⟩
          · replace hL35 := cd_f hb37 hL35
            refine DWp.skip ?_
            simp only [andThen, leaves]
            have S53 := S1_.pick [0] (by decide) rfl
            obtain rfl := Option.some.inj hL35
            exact ⟨D1_0, S53, A1_, by simp [e1_0, e1_1, e1_2, e1_3, e1_4, e1_10, e1_11], by simp [e1_0, e1_1, e1_2, e1_3, e1_4, e1_10, e1_11], by simp [e1_0, e1_1, e1_2, e1_3, e1_4, e1_10, e1_11], by simp [e1_0, e1_1, e1_2, e1_3, e1_4, e1_10, e1_11], by simp [e1_0, e1_1, e1_2, e1_3, e1_4, e1_10, e1_11], by simp [e1_0, e1_1, e1_2, e1_3, e1_4, e1_10, e1_11], by simp [e1_0, e1_1, e1_2, e1_3, e1_4, e1_10, e1_11], by simp [e1_0, e1_1, e1_2, e1_3, e1_4, e1_10, e1_11]⟩
        · rintro env Gj54 ⟨Dj1_0, Sj54, Aj54, ej54_0, ej54_1, ej54_2, ej54_3, ej54_4, ej54_10, ej54_11, ej54_12⟩
          refine DWp.seq ?_
          obtain ⟨r4, hc55, hL2⟩ := bd_some hL2
          refine DWp.region fun K hK => ?_
          simp [-aBin', -aBin, -aBinI, -aUn, -aNil, -flatV, n_fn, b_add, b_sub, b_mul, b_lt, b_le, b_gt, b_ge, b_eq, b_ne, u_not, ej54_0, ej54_1, ej54_2, ej54_3, ej54_4, ej54_10, ej54_11, ej54_12, ((Sj54.rd (k := 0) rfl).tup)]
          refine CallD.t (F_slices_choosePivotCmpFunc_Sint_w (fu := fu) ((Sj54.rd (k := 0) rfl).slsl) (fun (G_ : AH) (a_ : AgB (Fr Gj54) Gj54 G_) => hx4 G_ (Aj54.ext (hB.le Aj54.1) a_.agree)) hc55) ?_
          rintro _ G57 ⟨a60, rfl, S61⟩
          have A59 := Aj54.ext (hB.le Aj54.1) a60.agree
          have S58 : Sep G57 B [rowsC v0 22 3 Dj1_0 (List.map ints s34.1)] := Sj54.app a60.agree S61 (fun _ h => h) (hB.le Aj54.1)
          simp [-aBin', -aBin, -aBinI, -aUn, -aNil, -flatV, n_fn, b_add, b_sub, b_mul, b_lt, b_le, b_gt, b_ge, b_eq, b_ne, u_not, ej54_0, ej54_1, ej54_2, ej54_3, ej54_4, ej54_10, ej54_11, ej54_12, a60.pre]
          apply hK
          clear hK K
          simp only [andThen, leaves]
          obtain ⟨s62, hL63, hL2⟩ := bd_some hL2
          refine DWp.seq (DWp.join (fun env G => ∃ Dj2_0 : List Value, Sep G B [rowsC v0 22 3 Dj2_0 (List.map ints s62.1)] ∧ AgB B H G ∧ env 0 = some v0 ∧ env 1 = some (Value.int .i64 y1_1) ∧ env 2 = some (Value.int .i64 y1_2) ∧ env 3 = some (Value.int .i64 s34.2) ∧ env 4 = some (Value.func (.func f4) #[] c4.toArray) ∧ env 10 = some (Value.bool y1_10) ∧ env 11 = some (Value.bool y1_11) ∧ env 12 = some (Value.int .i64 (isub .i64 y1_2 y1_1)) ∧ env 13 = some (Value.int .i64 s62.2.1) ∧ env 14 = some (Value.int .i64 s62.2.2)) ?_ ?_)
          ·
            refine DWp.seq ?_
            refine DWp.region fun K hK => ?_
            simp [-aBin', -aBin, -aBinI, -aUn, -aNil, -flatV, n_fn, b_add, b_sub, b_mul, b_lt, b_le, b_gt, b_ge, b_eq, b_ne, u_not, ej54_0, ej54_1, ej54_2, ej54_3, ej54_4, ej54_10, ej54_11, ej54_12]
            apply hK
            clear hK K
            simp only [andThen, leaves]
            refine DWp.cond' (t := (ieq r4.2 2)) (by simp [ej54_0, ej54_1, ej54_2, ej54_3, ej54_4, ej54_10, ej54_11, ej54_12]) (fun hb65 => ?_) (fun hb65 => ?_)
            · replace hL63 := cd_t hb65 hL63
              refine DWp.seq ?_
              obtain ⟨r5, hc66, hL63⟩ := bd_some hL63
              refine DWp.region fun K hK => ?_
              simp [-aBin', -aBin, -aBinI, -aUn, -aNil, -flatV, n_fn, b_add, b_sub, b_mul, b_lt, b_le, b_gt, b_ge, b_eq, b_ne, u_not, ej54_0, ej54_1, ej54_2, ej54_3, ej54_4, ej54_10, ej54_11, ej54_12, ((S58.rd (k := 0) rfl).tup)]
              have S67 : Sep G57 B ([rowsC v0 22 3 Dj1_0 (List.map ints s34.1)] ++ []) := S58.pick [0] (by decide) rfl
              obtain ⟨B73, S68, U69, M70, R71, C72⟩ := S67.frame (hB.le A59.1)
              refine CallD.t (F_slices_reverseRangeCmpFunc_Sint_w (fu := fu) U69 S68 (fun G_ a_ => hx4 G_ (A59.trans (a_.mono M70))) hc66) ?_
              rintro _ G75 ⟨a78, c74_Cz0, rfl, S79⟩
              have A77 := A59.trans (a78.mono M70)
              have S76 : Sep G75 B [rowsC v0 22 3 c74_Cz0 (List.map ints r5)] := C72 _ _ a78 S79
              simp [-aBin', -aBin, -aBinI, -aUn, -aNil, -flatV, n_fn, b_add, b_sub, b_mul, b_lt, b_le, b_gt, b_ge, b_eq, b_ne, u_not, ej54_0, ej54_1, ej54_2, ej54_3, ej54_4, ej54_10, ej54_11, ej54_12]
              apply hK
              clear hK K
              simp only [andThen, leaves]
              refine DWp.seq ?_
              refine DWp.region fun K hK => ?_
              simp [-aBin', -aBin, -aBinI, -aUn, -aNil, -flatV, n_fn, b_add, b_sub, b_mul, b_lt, b_le, b_gt, b_ge, b_eq, b_ne, u_not, ej54_0, ej54_1, ej54_2, ej54_3, ej54_4, ej54_10, ej54_11, ej54_12]
              apply hK
              clear hK K
              simp only [andThen, leaves]
              refine DWp.region fun K hK => ?_
              simp [-aBin', -aBin, -aBinI, -aUn, -aNil, -flatV, n_fn, b_add, b_sub, b_mul, b_lt, b_le, b_gt, b_ge, b_eq, b_ne, u_not, ej54_0, ej54_1, ej54_2, ej54_3, ej54_4, ej54_10, ej54_11, ej54_12]
              apply hK
              clear hK K
              simp only [andThen, leaves]
              have S80 := S76.pick [0] (by decide) rfl
              obtain rfl := Option.some.inj hL63
              exact ⟨c74_Cz0, S80, A77, by simp [ej54_0, ej54_1, ej54_2, ej54_3, ej54_4, ej54_10, ej54_11, ej54_12], by simp [ej54_0, ej54_1, ej54_2, ej54_3, ej54_4, ej54_10, ej54_11, ej54_12], by simp [ej54_0, ej54_1, ej54_2, ej54_3, ej54_4, ej54_10, ej54_11, ej54_12], by simp [ej54_0, ej54_1, ej54_2, ej54_3, ej54_4, ej54_10, ej54_11, ej54_12], by simp [ej54_0, ej54_1, ej54_2, ej54_3, ej54_4, ej54_10, ej54_11, ej54_12], by simp [ej54_0, ej54_1, ej54_2, ej54_3, ej54_4, ej54_10, ej54_11, ej54_12], by simp [ej54_0, ej54_1, ej54_2, ej54_3, ej54_4, ej54_10, ej54_11, ej54_12], by simp [ej54_0, ej54_1, ej54_2, ej54_3, ej54_4, ej54_10, ej54_11, ej54_12], by simp [ej54_0, ej54_1, ej54_2, ej54_3, ej54_4, ej54_10, ej54_11, ej54_12], by simp [ej54_0, ej54_1, ej54_2, ej54_3, ej54_4, ej54_10, ej54_11, ej54_12]⟩
            · replace hL63 := cd_f hb65 hL63
              refine DWp.skip ?_
              simp only [andThen, leaves]
              have S81 := S58.pick [0] (by decide) rfl
              obtain rfl := Option.some.inj hL63
              exact ⟨Dj1_0, S81, A59, by simp [ej54_0, ej54_1, ej54_2, ej54_3, ej54_4, ej54_10, ej54_11, ej54_12], by simp [ej54_0, ej54_1, ej54_2, ej54_3, ej54_4, ej54_10, ej54_11, ej54_12], by simp [ej54_0, ej54_1, ej54_2, ej54_3, ej54_4, ej54_10, ej54_11, ej54_12], by simp [ej54_0, ej54_1, ej54_2, ej54_3, ej54_4, ej54_10, ej54_11, ej54_12], by simp [ej54_0, ej54_1, ej54_2, ej54_3, ej54_4, ej54_10, ej54_11, ej54_12], by simp [ej54_0, ej54_1, ej54_2, ej54_3, ej54_4, ej54_10, ej54_11, ej54_12], by simp [ej54_0, ej54_1, ej54_2, ej54_3, ej54_4, ej54_10, ej54_11, ej54_12], by simp [ej54_0, ej54_1, ej54_2, ej54_3, ej54_4, ej54_10, ej54_11, ej54_12], by simp [ej54_0, ej54_1, ej54_2, ej54_3, ej54_4, ej54_10, ej54_11, ej54_12], by simp [ej54_0, ej54_1, ej54_2, ej54_3, ej54_4, ej54_10, ej54_11, ej54_12]⟩
          · rintro env Gj82 ⟨Dj2_0, Sj82, Aj82, ej82_0, ej82_1, ej82_2, ej82_3, ej82_4, ej82_10, ej82_11, ej82_12, ej82_13, ej82_14⟩
            refine DWp.seq ?_
            obtain ⟨s83, hL84, hL2⟩ := bd_some hL2
            refine DWp.seq (DWp.join (fun env G => Sep G B [rowsC v0 22 3 Dj2_0 (List.map ints s62.1)] ∧ AgB B H G ∧ env 0 = some v0 ∧ env 1 = some (Value.int .i64 y1_1) ∧ env 2 = some (Value.int .i64 y1_2) ∧ env 3 = some (Value.int .i64 s34.2) ∧ env 4 = some (Value.func (.func f4) #[] c4.toArray) ∧ env 10 = some (Value.bool y1_10) ∧ env 11 = some (Value.bool y1_11) ∧ env 12 = some (Value.int .i64 (isub .i64 y1_2 y1_1)) ∧ env 13 = some (Value.int .i64 s62.2.1) ∧ env 75 = some (Value.bool s83)) ?_ ?_)
            ·
              rcases Bool.eq_false_or_eq_true y1_10 with hb86 | hb86
              · replace hL84 := cd_t hb86 hL84
                rcases Bool.eq_false_or_eq_true y1_11 with hb87 | hb87
                · replace hL84 := cd_t hb87 hL84
                  refine DWp.region fun K hK => ?_
                  simp [-aBin', -aBin, -aBinI, -aUn, -aNil, -flatV, n_fn, b_add, b_sub, b_mul, b_lt, b_le, b_gt, b_ge, b_eq, b_ne, u_not, ej82_0, ej82_1, ej82_2, ej82_3, ej82_4, ej82_10, ej82_11, ej82_12, ej82_13, ej82_14, hb86, hb87]
                  apply hK
                  clear hK K
                  simp only [andThen, leaves]
                  have S88 := Sj82.pick [0] (by decide) rfl
                  obtain rfl := Option.some.inj hL84
                  exact ⟨S88, Aj82, by simp [ej82_0, ej82_1, ej82_2, ej82_3, ej82_4, ej82_10, ej82_11, ej82_12, ej82_13, ej82_14], by simp [ej82_0, ej82_1, ej82_2, ej82_3, ej82_4, ej82_10, ej82_11, ej82_12, ej82_13, ej82_14], by simp [ej82_0, ej82_1, ej82_2, ej82_3, ej82_4, ej82_10, ej82_11, ej82_12, ej82_13, ej82_14], by simp [ej82_0, ej82_1, ej82_2, ej82_3, ej82_4, ej82_10, ej82_11, ej82_12, ej82_13, ej82_14], by simp [ej82_0, ej82_1, ej82_2, ej82_3, ej82_4, ej82_10, ej82_11, ej82_12, ej82_13, ej82_14], by simp [ej82_0, ej82_1, ej82_2, ej82_3, ej82_4, ej82_10, ej82_11, ej82_12, ej82_13, ej82_14], by simp [ej82_0, ej82_1, ej82_2, ej82_3, ej82_4, ej82_10, ej82_11, ej82_12, ej82_13, ej82_14], by simp [ej82_0, ej82_1, ej82_2, ej82_3, ej82_4, ej82_10, ej82_11, ej82_12, ej82_13, ej82_14], by simp [ej82_0, ej82_1, ej82_2, ej82_3, ej82_4, ej82_10, ej82_11, ej82_12, ej82_13, ej82_14], by simp [ej82_0, ej82_1, ej82_2, ej82_3, ej82_4, ej82_10, ej82_11, ej82_12, ej82_13, ej82_14]⟩
                · replace hL84 := cd_f hb87 hL84
                  refine DWp.region fun K hK => ?_
                  simp [-aBin', -aBin, -aBinI, -aUn, -aNil, -flatV, n_fn, b_add, b_sub, b_mul, b_lt, b_le, b_gt, b_ge, b_eq, b_ne, u_not, ej82_0, ej82_1, ej82_2, ej82_3, ej82_4, ej82_10, ej82_11, ej82_12, ej82_13, ej82_14, hb86, hb87]
                  apply hK
                  clear hK K
                  simp only [andThen, leaves]
                  have S89 := Sj82.pick [0] (by decide) rfl
                  obtain rfl := Option.some.inj hL84
                  exact ⟨S89, Aj82, by simp [ej82_0, ej82_1, ej82_2, ej82_3, ej82_4, ej82_10, ej82_11, ej82_12, ej82_13, ej82_14], by simp [ej82_0, ej82_1, ej82_2, ej82_3, ej82_4, ej82_10, ej82_11, ej82_12, ej82_13, ej82_14], by simp [ej82_0, ej82_1, ej82_2, ej82_3, ej82_4, ej82_10, ej82_11, ej82_12, ej82_13, ej82_14], by simp [ej82_0, ej82_1, ej82_2, ej82_3, ej82_4, ej82_10, ej82_11, ej82_12, ej82_13, ej82_14], by simp [ej82_0, ej82_1, ej82_2, ej82_3, ej82_4, ej82_10, ej82_11, ej82_12, ej82_13, ej82_14], by simp [ej82_0, ej82_1, ej82_2, ej82_3, ej82_4, ej82_10, ej82_11, ej82_12, ej82_13, ej82_14], by simp [ej82_0, ej82_1, ej82_2, ej82_3, ej82_4, ej82_10, ej82_11, ej82_12, ej82_13, ej82_14], by simp [ej82_0, ej82_1, ej82_2, ej82_3, ej82_4, ej82_10, ej82_11, ej82_12, ej82_13, ej82_14], by simp [ej82_0, ej82_1, ej82_2, ej82_3, ej82_4, ej82_10, ej82_11, ej82_12, ej82_13, ej82_14], by simp [ej82_0, ej82_1, ej82_2, ej82_3, ej82_4, ej82_10, ej82_11, ej82_12, ej82_13, ej82_14]⟩
              · replace hL84 := cd_f hb86 hL84
                refine DWp.region fun K hK => ?_
                simp [-aBin', -aBin, -aBinI, -aUn, -aNil, -flatV, n_fn, b_add, b_sub, b_mul, b_lt, b_le, b_gt, b_ge, b_eq, b_ne, u_not, ej82_0, ej82_1, ej82_2, ej82_3, ej82_4, ej82_10, ej82_11, ej82_12, ej82_13, ej82_14, hb86]
                apply hK
                clear hK K
                simp only [andThen, leaves]
                have S90 := Sj82.pick [0] (by decide) rfl
                obtain rfl := Option.some.inj hL84
                exact ⟨S90, Aj82, by simp [ej82_0, ej82_1, ej82_2, ej82_3, ej82_4, ej82_10, ej82_11, ej82_12, ej82_13, ej82_14], by simp [ej82_0, ej82_1, ej82_2, ej82_3, ej82_4, ej82_10, ej82_11, ej82_12, ej82_13, ej82_14], by simp [ej82_0, ej82_1, ej82_2, ej82_3, ej82_4, ej82_10, ej82_11, ej82_12, ej82_13, ej82_14], by simp [ej82_0, ej82_1, ej82_2, ej82_3, ej82_4, ej82_10, ej82_11, ej82_12, ej82_13, ej82_14], by simp [ej82_0, ej82_1, ej82_2, ej82_3, ej82_4, ej82_10, ej82_11, ej82_12, ej82_13, ej82_14], by simp [ej82_0, ej82_1, ej82_2, ej82_3, ej82_4, ej82_10, ej82_11, ej82_12, ej82_13, ej82_14], by simp [ej82_0, ej82_1, ej82_2, ej82_3, ej82_4, ej82_10, ej82_11, ej82_12, ej82_13, ej82_14], by simp [ej82_0, ej82_1, ej82_2, ej82_3, ej82_4, ej82_10, ej82_11, ej82_12, ej82_13, ej82_14], by simp [ej82_0, ej82_1, ej82_2, ej82_3, ej82_4, ej82_10, ej82_11, ej82_12, ej82_13, ej82_14], by simp [ej82_0, ej82_1, ej82_2, ej82_3, ej82_4, ej82_10, ej82_11, ej82_12, ej82_13, ej82_14]⟩
            · rintro env Gj91 ⟨Sj91, Aj91, ej91_0, ej91_1, ej91_2, ej91_3, ej91_4, ej91_10, ej91_11, ej91_12, ej91_13, ej91_75⟩
              refine DWp.cond' (t := s83) (by simp [ej91_0, ej91_1, ej91_2, ej91_3, ej91_4, ej91_10, ej91_11, ej91_12, ej91_13, ej91_75]) (fun hb92 => ?_) (fun hb92 => ?_)
              · replace hL2 := cd_t hb92 hL2
                refine DWp.seq ?_
                obtain ⟨r6, hc93, hL2⟩ := bd_some hL2
                refine DWp.region fun K hK => ?_
                simp [-aBin', -aBin, -aBinI, -aUn, -aNil, -flatV, n_fn, b_add, b_sub, b_mul, b_lt, b_le, b_gt, b_ge, b_eq, b_ne, u_not, ej91_0, ej91_1, ej91_2, ej91_3, ej91_4, ej91_10, ej91_11, ej91_12, ej91_13, ej91_75, ((Sj91.rd (k := 0) rfl).tup)]
                have S94 : Sep Gj91 B ([rowsC v0 22 3 Dj2_0 (List.map ints s62.1)] ++ []) := Sj91.pick [0] (by decide) rfl
                obtain ⟨B100, S95, U96, M97, R98, C99⟩ := S94.frame (hB.le Aj91.1)
                refine CallD.t (F_slices_partialInsertionSortCmpFunc_Sint_w (fu := fu) U96 S95 (fun G_ a_ => hx4 G_ (Aj91.trans (a_.mono M97))) hc93) ?_
                rintro _ G102 ⟨a105, c101_Cz0, rfl, S106⟩
                have A104 := Aj91.trans (a105.mono M97)
                have S103 : Sep G102 B [rowsC v0 22 3 c101_Cz0 (List.map ints r6.2)] := C99 _ _ a105 S106
                simp [-aBin', -aBin, -aBinI, -aUn, -aNil, -flatV, n_fn, b_add, b_sub, b_mul, b_lt, b_le, b_gt, b_ge, b_eq, b_ne, u_not, ej91_0, ej91_1, ej91_2, ej91_3, ej91_4, ej91_10, ej91_11, ej91_12, ej91_13, ej91_75]
                apply hK
                clear hK K
                simp only [andThen, leaves]
                refine DWp.cond' (t := r6.1) (by simp [ej91_0, ej91_1, ej91_2, ej91_3, ej91_4, ej91_10, ej91_11, ej91_12, ej91_13, ej91_75]) (fun hb107 => ?_) (fun hb107 => ?_)
                · replace hL2 := cd_t hb107 hL2
                  refine DWp.ret ?_
                  simp only [andThen, leaves]
                  obtain rfl := Option.some.inj hL2
                  simp only [lr] at hF
                  obtain rfl := Option.some.inj hF
                  exact ⟨by simp, [], by simp [ej91_0, ej91_1, ej91_2, ej91_3, ej91_4, ej91_10, ej91_11, ej91_12, ej91_13, ej91_75], A104, c101_Cz0, rfl, S103.pick [0] (by decide) rfl⟩
                · replace hL2 := cd_f hb107 hL2
                  refine DWp.skip ?_
                  simp only [andThen, leaves]
                  refine DWp.seq ?_
                  obtain ⟨s108, hL109, hL2⟩ := bd_some hL2
                  refine DWp.seq (DWp.join (fun env G => Sep G B [rowsC v0 22 3 c101_Cz0 (List.map ints r6.2)] ∧ AgB B H G ∧ env 0 = some v0 ∧ env 1 = some (Value.int .i64 y1_1) ∧ env 2 = some (Value.int .i64 y1_2) ∧ env 3 = some (Value.int .i64 s34.2) ∧ env 4 = some (Value.func (.func f4) #[] c4.toArray) ∧ env 10 = some (Value.bool y1_10) ∧ env 11 = some (Value.bool y1_11) ∧ env 12 = some (Value.int .i64 (isub .i64 y1_2 y1_1)) ∧ env 13 = some (Value.int .i64 s62.2.1) ∧ env 97 = some (Value.bool s108)) ?_ ?_)
                  ·
                    rcases Bool.eq_false_or_eq_true (ilt 0 y1_1) with hb111 | hb111
                    · replace hL109 := cd_t hb111 hL109
                      obtain ⟨g112, hL109⟩ := gd_some hL109
                      have q113 := (S103.rd (k := 0) rfl).idxG (P := Try.prog) (kk := .i64) el_23 sz_22 g112
                      have q114 := (S103.rd (k := 0) rfl).loadG (P := Try.prog) sz_22 ag_22 g112
                      obtain ⟨g115, hL109⟩ := gd_some hL109
                      have q116 := (S103.rd (k := 0) rfl).idxG (P := Try.prog) (kk := .i64) el_23 sz_22 g115
                      have q117 := (S103.rd (k := 0) rfl).loadG (P := Try.prog) sz_22 ag_22 g115
                      obtain ⟨r7, hc118, hL109⟩ := bd_some hL109
                      refine DWp.drawn (B := [0, 1, 3, 7, 7, 7, 39, 119, 247, 7, 7, 1543, 3591, 8191, 16383, 32767, 65535]) 17 mixed (by kernel_rfl) (by decide) fun K hK => ?_
                      simp [-aBin', -aBin, -aBinI, -aUn, -aNil, -flatV, n_fn, b_add, b_sub, b_mul, b_lt, b_le, b_gt, b_ge, b_eq, b_ne, u_not, ej91_0, ej91_1, ej91_2, ej91_3, ej91_4, ej91_10, ej91_11, ej91_12, ej91_13, ej91_75, hb111, q113, q114, q116, q117, (((S103.rd (k := 0) rfl).rowAt [] g112).tup), (((S103.rd (k := 0) rfl).rowAt [] g115).tup)]
                      refine CallD.t (hx4 _ A104 (gat nilV c101_Cz0 (isub .i64 y1_1 1)) (gat nilV c101_Cz0 s62.2.1) (gat [] r6.2 (isub .i64 y1_1 1)) (gat [] r6.2 s62.2.1) _ ((S103.rd (k := 0) rfl).rowAt [] g112) ((S103.rd (k := 0) rfl).rowAt [] g115) hc118) ?_
                      rintro _ G119 ⟨a122, rfl, S123⟩
                      have A121 := A104.ext (hB.le A104.1) a122.agree
                      have S120 : Sep G119 B [rowsC v0 22 3 c101_Cz0 (List.map ints r6.2)] := S103.agree a122.agree
                      simp [-aBin', -aBin, -aBinI, -aUn, -aNil, -flatV, n_fn, b_add, b_sub, b_mul, b_lt, b_le, b_gt, b_ge, b_eq, b_ne, u_not, ej91_0, ej91_1, ej91_2, ej91_3, ej91_4, ej91_10, ej91_11, ej91_12, ej91_13, ej91_75, hb111, q113, q114, q116, q117, a122.pre]
                      apply hK
                      clear hK K
                      simp only [andThen, leaves]
                      have S124 := S120.pick [0] (by decide) rfl
                      obtain rfl := Option.some.inj hL109
                      exact ⟨S124, A121, by simp [ej91_0, ej91_1, ej91_2, ej91_3, ej91_4, ej91_10, ej91_11, ej91_12, ej91_13, ej91_75], by simp [ej91_0, ej91_1, ej91_2, ej91_3, ej91_4, ej91_10, ej91_11, ej91_12, ej91_13, ej91_75], by simp [ej91_0, ej91_1, ej91_2, ej91_3, ej91_4, ej91_10, ej91_11, ej91_12, ej91_13, ej91_75], by simp [ej91_0, ej91_1, ej91_2, ej91_3, ej91_4, ej91_10, ej91_11, ej91_12, ej91_13, ej91_75], by simp [ej91_0, ej91_1, ej91_2, ej91_3, ej91_4, ej91_10, ej91_11, ej91_12, ej91_13, ej91_75], by simp [ej91_0, ej91_1, ej91_2, ej91_3, ej91_4, ej91_10, ej91_11, ej91_12, ej91_13, ej91_75], by simp [ej91_0, ej91_1, ej91_2, ej91_3, ej91_4, ej91_10, ej91_11, ej91_12, ej91_13, ej91_75], by simp [ej91_0, ej91_1, ej91_2, ej91_3, ej91_4, ej91_10, ej91_11, ej91_12, ej91_13, ej91_75], by simp [ej91_0, ej91_1, ej91_2, ej91_3, ej91_4, ej91_10, ej91_11, ej91_12, ej91_13, ej91_75], by simp [ej91_0, ej91_1, ej91_2, ej91_3, ej91_4, ej91_10, ej91_11, ej91_12, ej91_13, ej91_75]⟩
                    · replace hL109 := cd_f hb111 hL109
                      refine DWp.drawn (B := [0, 1, 3, 7, 7, 7, 39, 119, 247, 7, 7, 1543, 3591, 8191, 16383, 32767, 65535]) 17 mixed (by kernel_rfl) (by decide) fun K hK => ?_
                      simp [-aBin', -aBin, -aBinI, -aUn, -aNil, -flatV, n_fn, b_add, b_sub, b_mul, b_lt, b_le, b_gt, b_ge, b_eq, b_ne, u_not, ej91_0, ej91_1, ej91_2, ej91_3, ej91_4, ej91_10, ej91_11, ej91_12, ej91_13, ej91_75, hb111]
                      apply hK
                      clear hK K
                      simp only [andThen, leaves]
                      have S125 := S103.pick [0] (by decide) rfl
                      obtain rfl := Option.some.inj hL109
                      exact ⟨S125, A104, by simp [ej91_0, ej91_1, ej91_2, ej91_3, ej91_4, ej91_10, ej91_11, ej91_12, ej91_13, ej91_75], by simp [ej91_0, ej91_1, ej91_2, ej91_3, ej91_4, ej91_10, ej91_11, ej91_12, ej91_13, ej91_75], by simp [ej91_0, ej91_1, ej91_2, ej91_3, ej91_4, ej91_10, ej91_11, ej91_12, ej91_13, ej91_75], by simp [ej91_0, ej91_1, ej91_2, ej91_3, ej91_4, ej91_10, ej91_11, ej91_12, ej91_13, ej91_75], by simp [ej91_0, ej91_1, ej91_2, ej91_3, ej91_4, ej91_10, ej91_11, ej91_12, ej91_13, ej91_75], by simp [ej91_0, ej91_1, ej91_2, ej91_3, ej91_4, ej91_10, ej91_11, ej91_12, ej91_13, ej91_75], by simp [ej91_0, ej91_1, ej91_2, ej91_3, ej91_4, ej91_10, ej91_11, ej91_12, ej91_13, ej91_75], by simp [ej91_0, ej91_1, ej91_2, ej91_3, ej91_4, ej91_10, ej91_11, ej91_12, ej91_13, ej91_75], by simp [ej91_0, ej91_1, ej91_2, ej91_3, ej91_4, ej91_10, ej91_11, ej91_12, ej91_13, ej91_75], by simp [ej91_0, ej91_1, ej91_2, ej91_3, ej91_4, ej91_10, ej91_11, ej91_12, ej91_13, ej91_75]⟩
                  · rintro env Gj126 ⟨Sj126, Aj126, ej126_0, ej126_1, ej126_2, ej126_3, ej126_4, ej126_10, ej126_11, ej126_12, ej126_13, ej126_97⟩
                    refine DWp.cond' (t := s108) (by simp [ej126_0, ej126_1, ej126_2, ej126_3, ej126_4, ej126_10, ej126_11, ej126_12, ej126_13, ej126_97]) (fun hb127 => ?_) (fun hb127 => ?_)
                    · replace hL2 := cd_t hb127 hL2
                      refine DWp.seq ?_
                      obtain ⟨r8, hc128, hL2⟩ := bd_some hL2
                      refine DWp.region fun K hK => ?_
                      simp [-aBin', -aBin, -aBinI, -aUn, -aNil, -flatV, n_fn, b_add, b_sub, b_mul, b_lt, b_le, b_gt, b_ge, b_eq, b_ne, u_not, ej126_0, ej126_1, ej126_2, ej126_3, ej126_4, ej126_10, ej126_11, ej126_12, ej126_13, ej126_97, ((Sj126.rd (k := 0) rfl).tup)]
                      have S129 : Sep Gj126 B ([rowsC v0 22 3 c101_Cz0 (List.map ints r6.2)] ++ []) := Sj126.pick [0] (by decide) rfl
                      obtain ⟨B135, S130, U131, M132, R133, C134⟩ := S129.frame (hB.le Aj126.1)
                      refine CallD.t (F_slices_partitionEqualCmpFunc_Sint_w (fu := fu) U131 S130 (fun G_ a_ => hx4 G_ (Aj126.trans (a_.mono M132))) hc128) ?_
                      rintro _ G137 ⟨a140, c136_Cz0, rfl, S141⟩
                      have A139 := Aj126.trans (a140.mono M132)
                      have S138 : Sep G137 B [rowsC v0 22 3 c136_Cz0 (List.map ints r8.2)] := C134 _ _ a140 S141
                      simp [-aBin', -aBin, -aBinI, -aUn, -aNil, -flatV, n_fn, b_add, b_sub, b_mul, b_lt, b_le, b_gt, b_ge, b_eq, b_ne, u_not, ej126_0, ej126_1, ej126_2, ej126_3, ej126_4, ej126_10, ej126_11, ej126_12, ej126_13, ej126_97]
                      apply hK
                      clear hK K
                      simp only [andThen, leaves]
                      refine DWp.seq ?_
                      refine DWp.region fun K hK => ?_
                      simp [-aBin', -aBin, -aBinI, -aUn, -aNil, -flatV, n_fn, b_add, b_sub, b_mul, b_lt, b_le, b_gt, b_ge, b_eq, b_ne, u_not, ej126_0, ej126_1, ej126_2, ej126_3, ej126_4, ej126_10, ej126_11, ej126_12, ej126_13, ej126_97]
                      apply hK
                      clear hK K
                      simp only [andThen, leaves]
                      refine DWp.exit ?_
                      simp only [andThen, leaves, if_true, if_false, reduceIte, Nat.reduceEqDiff]
                      have S142 := S138.pick [0] (by decide) rfl
                      exact ⟨n1, Nat.lt_succ_self _, r8.2, r8.1, y1_2, s34.2, y1_10, y1_11, c136_Cz0, hL2, S142, A139, by simp [ej126_0, ej126_1, ej126_2, ej126_3, ej126_4, ej126_10, ej126_11, ej126_12, ej126_13, ej126_97], by simp [ej126_0, ej126_1, ej126_2, ej126_3, ej126_4, ej126_10, ej126_11, ej126_12, ej126_13, ej126_97], by simp [ej126_0, ej126_1, ej126_2, ej126_3, ej126_4, ej126_10, ej126_11, ej126_12, ej126_13, ej126_97], by simp [ej126_0, ej126_1, ej126_2, ej126_3, ej126_4, ej126_10, ej126_11, ej126_12, ej126_13, ej126_97], by simp [ej126_0, ej126_1, ej126_2, ej126_3, ej126_4, ej126_10, ej126_11, ej126_12, ej126_13, ej126_97], by simp [ej126_0, ej126_1, ej126_2, ej126_3, ej126_4, ej126_10, ej126_11, ej126_12, ej126_13, ej126_97], by simp [ej126_0, ej126_1, ej126_2, ej126_3, ej126_4, ej126_10, ej126_11, ej126_12, ej126_13, ej126_97]⟩
                    · replace hL2 := cd_f hb127 hL2
                      refine DWp.skip ?_
                      simp only [andThen, leaves]
                      refine DWp.seq ?_
                      obtain ⟨r9, hc143, hL2⟩ := bd_some hL2
                      refine DWp.region fun K hK => ?_
                      simp [-aBin', -aBin, -aBinI, -aUn, -aNil, -flatV, n_fn, b_add, b_sub, b_mul, b_lt, b_le, b_gt, b_ge, b_eq, b_ne, u_not, ej126_0, ej126_1, ej126_2, ej126_3, ej126_4, ej126_10, ej126_11, ej126_12, ej126_13, ej126_97, ((Sj126.rd (k := 0) rfl).tup)]
                      have S144 : Sep Gj126 B ([rowsC v0 22 3 c101_Cz0 (List.map ints r6.2)] ++ []) := Sj126.pick [0] (by decide) rfl
                      obtain ⟨B150, S145, U146, M147, R148, C149⟩ := S144.frame (hB.le Aj126.1)
                      refine CallD.t (F_slices_partitionCmpFunc_Sint_w (fu := fu) U146 S145 (fun G_ a_ => hx4 G_ (Aj126.trans (a_.mono M147))) hc143) ?_
                      rintro _ G152 ⟨a155, c151_Cz0, rfl, S156⟩
                      have A154 := Aj126.trans (a155.mono M147)
                      have S153 : Sep G152 B [rowsC v0 22 3 c151_Cz0 (List.map ints r9.2.2)] := C149 _ _ a155 S156
                      simp [-aBin', -aBin, -aBinI, -aUn, -aNil, -flatV, n_fn, b_add, b_sub, b_mul, b_lt, b_le, b_gt, b_ge, b_eq, b_ne, u_not, ej126_0, ej126_1, ej126_2, ej126_3, ej126_4, ej126_10, ej126_11, ej126_12, ej126_13, ej126_97]
                      apply hK
                      clear hK K
                      simp only [andThen, leaves]
                      refine DWp.seq ?_
                      refine DWp.region fun K hK => ?_
                      simp [-aBin', -aBin, -aBinI, -aUn, -aNil, -flatV, n_fn, b_add, b_sub, b_mul, b_lt, b_le, b_gt, b_ge, b_eq, b_ne, u_not, ej126_0, ej126_1, ej126_2, ej126_3, ej126_4, ej126_10, ej126_11, ej126_12, ej126_13, ej126_97]
                      apply hK
                      clear hK K
                      simp only [andThen, leaves]
                      refine DWp.seq ?_
                      refine DWp.region fun K hK => ?_
                      simp [-aBin', -aBin, -aBinI, -aUn, -aNil, -flatV, n_fn, b_add, b_sub, b_mul, b_lt, b_le, b_gt, b_ge, b_eq, b_ne, u_not, ej126_0, ej126_1, ej126_2, ej126_3, ej126_4, ej126_10, ej126_11, ej126_12, ej126_13, ej126_97]
                      apply hK
                      clear hK K
                      simp only [andThen, leaves]
                      refine DWp.seq ?_
                      have g157 : (8 : Int) ≠ 0 := by decide
                      refine DWp.region fun K hK => ?_
                      simp [-aBin', -aBin, -aBinI, -aUn, -aNil, -flatV, n_fn, b_add, b_sub, b_mul, b_lt, b_le, b_gt, b_ge, b_eq, b_ne, u_not, ej126_0, ej126_1, ej126_2, ej126_3, ej126_4, ej126_10, ej126_11, ej126_12, ej126_13, ej126_97, b_quo g157]
                      apply hK
                      clear hK K
                      simp only [andThen, leaves]
                      refine DWp.seq ?_
                      refine DWp.region fun K hK => ?_
                      simp [-aBin', -aBin, -aBinI, -aUn, -aNil, -flatV, n_fn, b_add, b_sub, b_mul, b_lt, b_le, b_gt, b_ge, b_eq, b_ne, u_not, ej126_0, ej126_1, ej126_2, ej126_3, ej126_4, ej126_10, ej126_11, ej126_12, ej126_13, ej126_97]
                      apply hK
                      clear hK K
                      simp only [andThen, leaves]
                      refine DWp.cond' (t := (ilt (isub .i64 r9.1 y1_1) (isub .i64 y1_2 r9.1))) (by simp [ej126_0, ej126_1, ej126_2, ej126_3, ej126_4, ej126_10, ej126_11, ej126_12, ej126_13, ej126_97]) (fun hb158 => ?_) (fun hb158 => ?_)
                      · replace hL2 := cd_t hb158 hL2
                        refine DWp.seq ?_
                        refine DWp.region fun K hK => ?_
                        simp [-aBin', -aBin, -aBinI, -aUn, -aNil, -flatV, n_fn, b_add, b_sub, b_mul, b_lt, b_le, b_gt, b_ge, b_eq, b_ne, u_not, ej126_0, ej126_1, ej126_2, ej126_3, ej126_4, ej126_10, ej126_11, ej126_12, ej126_13, ej126_97]
                        apply hK
                        clear hK K
                        simp only [andThen, leaves]
                        refine DWp.seq ?_
                        obtain ⟨r10, hc159, hL2⟩ := bd_some hL2
                        refine DWp.region fun K hK => ?_
                        simp [-aBin', -aBin, -aBinI, -aUn, -aNil, -flatV, n_fn, b_add, b_sub, b_mul, b_lt, b_le, b_gt, b_ge, b_eq, b_ne, u_not, ej126_0, ej126_1, ej126_2, ej126_3, ej126_4, ej126_10, ej126_11, ej126_12, ej126_13, ej126_97, ((S153.rd (k := 0) rfl).tup)]
                        have S160 : Sep G152 B ([rowsC v0 22 3 c151_Cz0 (List.map ints r9.2.2)] ++ []) := S153.pick [0] (by decide) rfl
                        obtain ⟨B166, S161, U162, M163, R164, C165⟩ := S160.frame (hB.le A154.1)
                        refine CallD.t (ih U162 S161 (fun G_ a_ => hx4 G_ (A154.trans (a_.mono M163))) hc159) ?_
                        rintro _ G168 ⟨a171, c167_Cz0, rfl, S172⟩
                        have A170 := A154.trans (a171.mono M163)
                        have S169 : Sep G168 B [rowsC v0 22 3 c167_Cz0 (List.map ints r10)] := C165 _ _ a171 S172
                        simp [-aBin', -aBin, -aBinI, -aUn, -aNil, -flatV, n_fn, b_add, b_sub, b_mul, b_lt, b_le, b_gt, b_ge, b_eq, b_ne, u_not, ej126_0, ej126_1, ej126_2, ej126_3, ej126_4, ej126_10, ej126_11, ej126_12, ej126_13, ej126_97]
                        apply hK
                        clear hK K
                        simp only [andThen, leaves]
                        refine DWp.region fun K hK => ?_
                        simp [-aBin', -aBin, -aBinI, -aUn, -aNil, -flatV, n_fn, b_add, b_sub, b_mul, b_lt, b_le, b_gt, b_ge, b_eq, b_ne, u_not, ej126_0, ej126_1, ej126_2, ej126_3, ej126_4, ej126_10, ej126_11, ej126_12, ej126_13, ej126_97]
                        apply hK
                        clear hK K
                        simp only [andThen, leaves]
                        have S173 := S169.pick [0] (by decide) rfl
                        exact ⟨n1, Nat.lt_succ_self _, r10, (iadd .i64 r9.1 1), y1_2, s34.2, (ile (iquo .i64 (isub .i64 y1_2 y1_1) 8) (isub .i64 r9.1 y1_1)), r9.2.1, c167_Cz0, hL2, S173, A170, by simp [ej126_0, ej126_1, ej126_2, ej126_3, ej126_4, ej126_10, ej126_11, ej126_12, ej126_13, ej126_97], by simp [ej126_0, ej126_1, ej126_2, ej126_3, ej126_4, ej126_10, ej126_11, ej126_12, ej126_13, ej126_97], by simp [ej126_0, ej126_1, ej126_2, ej126_3, ej126_4, ej126_10, ej126_11, ej126_12, ej126_13, ej126_97], by simp [ej126_0, ej126_1, ej126_2, ej126_3, ej126_4, ej126_10, ej126_11, ej126_12, ej126_13, ej126_97], by simp [ej126_0, ej126_1, ej126_2, ej126_3, ej126_4, ej126_10, ej126_11, ej126_12, ej126_13, ej126_97], by simp [ej126_0, ej126_1, ej126_2, ej126_3, ej126_4, ej126_10, ej126_11, ej126_12, ej126_13, ej126_97], by simp [ej126_0, ej126_1, ej126_2, ej126_3, ej126_4, ej126_10, ej126_11, ej126_12, ej126_13, ej126_97]⟩
                      · replace hL2 := cd_f hb158 hL2
                        refine DWp.seq ?_
                        refine DWp.region fun K hK => ?_
                        simp [-aBin', -aBin, -aBinI, -aUn, -aNil, -flatV, n_fn, b_add, b_sub, b_mul, b_lt, b_le, b_gt, b_ge, b_eq, b_ne, u_not, ej126_0, ej126_1, ej126_2, ej126_3, ej126_4, ej126_10, ej126_11, ej126_12, ej126_13, ej126_97]
                        apply hK
                        clear hK K
                        simp only [andThen, leaves]
                        refine DWp.seq ?_
                        obtain ⟨r11, hc174, hL2⟩ := bd_some hL2
                        refine DWp.region fun K hK => ?_
                        simp [-aBin', -aBin, -aBinI, -aUn, -aNil, -flatV, n_fn, b_add, b_sub, b_mul, b_lt, b_le, b_gt, b_ge, b_eq, b_ne, u_not, ej126_0, ej126_1, ej126_2, ej126_3, ej126_4, ej126_10, ej126_11, ej126_12, ej126_13, ej126_97, ((S153.rd (k := 0) rfl).tup)]
                        have S175 : Sep G152 B ([rowsC v0 22 3 c151_Cz0 (List.map ints r9.2.2)] ++ []) := S153.pick [0] (by decide) rfl
                        obtain ⟨B181, S176, U177, M178, R179, C180⟩ := S175.frame (hB.le A154.1)
                        refine CallD.t (ih U177 S176 (fun G_ a_ => hx4 G_ (A154.trans (a_.mono M178))) hc174) ?_
                        rintro _ G183 ⟨a186, c182_Cz0, rfl, S187⟩
                        have A185 := A154.trans (a186.mono M178)
                        have S184 : Sep G183 B [rowsC v0 22 3 c182_Cz0 (List.map ints r11)] := C180 _ _ a186 S187
                        simp [-aBin', -aBin, -aBinI, -aUn, -aNil, -flatV, n_fn, b_add, b_sub, b_mul, b_lt, b_le, b_gt, b_ge, b_eq, b_ne, u_not, ej126_0, ej126_1, ej126_2, ej126_3, ej126_4, ej126_10, ej126_11, ej126_12, ej126_13, ej126_97]
                        apply hK
                        clear hK K
                        simp only [andThen, leaves]
                        refine DWp.region fun K hK => ?_
                        simp [-aBin', -aBin, -aBinI, -aUn, -aNil, -flatV, n_fn, b_add, b_sub, b_mul, b_lt, b_le, b_gt, b_ge, b_eq, b_ne, u_not, ej126_0, ej126_1, ej126_2, ej126_3, ej126_4, ej126_10, ej126_11, ej126_12, ej126_13, ej126_97]
                        apply hK
                        clear hK K
                        simp only [andThen, leaves]
                        have S188 := S184.pick [0] (by decide) rfl
                        exact ⟨n1, Nat.lt_succ_self _, r11, y1_1, r9.1, s34.2, (ile (iquo .i64 (isub .i64 y1_2 y1_1) 8) (isub .i64 y1_2 r9.1)), r9.2.1, c182_Cz0, hL2, S188, A185, by simp [ej126_0, ej126_1, ej126_2, ej126_3, ej126_4, ej126_10, ej126_11, ej126_12, ej126_13, ej126_97], by simp [ej126_0, ej126_1, ej126_2, ej126_3, ej126_4, ej126_10, ej126_11, ej126_12, ej126_13, ej126_97], by simp [ej126_0, ej126_1, ej126_2, ej126_3, ej126_4, ej126_10, ej126_11, ej126_12, ej126_13, ej126_97], by simp [ej126_0, ej126_1, ej126_2, ej126_3, ej126_4, ej126_10, ej126_11, ej126_12, ej126_13, ej126_97], by simp [ej126_0, ej126_1, ej126_2, ej126_3, ej126_4, ej126_10, ej126_11, ej126_12, ej126_13, ej126_97], by simp [ej126_0, ej126_1, ej126_2, ej126_3, ej126_4, ej126_10, ej126_11, ej126_12, ej126_13, ej126_97], by simp [ej126_0, ej126_1, ej126_2, ej126_3, ej126_4, ej126_10, ej126_11, ej126_12, ej126_13, ej126_97]⟩
              · replace hL2 := cd_f hb92 hL2
                refine DWp.skip ?_
                simp only [andThen, leaves]
                refine DWp.seq ?_
                obtain ⟨s189, hL190, hL2⟩ := bd_some hL2
                refine DWp.seq (DWp.join (fun env G => Sep G B [rowsC v0 22 3 Dj2_0 (List.map ints s62.1)] ∧ AgB B H G ∧ env 0 = some v0 ∧ env 1 = some (Value.int .i64 y1_1) ∧ env 2 = some (Value.int .i64 y1_2) ∧ env 3 = some (Value.int .i64 s34.2) ∧ env 4 = some (Value.func (.func f4) #[] c4.toArray) ∧ env 10 = some (Value.bool y1_10) ∧ env 11 = some (Value.bool y1_11) ∧ env 12 = some (Value.int .i64 (isub .i64 y1_2 y1_1)) ∧ env 13 = some (Value.int .i64 s62.2.1) ∧ env 97 = some (Value.bool s189)) ?_ ?_)
                ·
                  rcases Bool.eq_false_or_eq_true (ilt 0 y1_1) with hb192 | hb192
                  · replace hL190 := cd_t hb192 hL190
                    obtain ⟨g193, hL190⟩ := gd_some hL190
                    have q194 := (Sj91.rd (k := 0) rfl).idxG (P := Try.prog) (kk := .i64) el_23 sz_22 g193
                    have q195 := (Sj91.rd (k := 0) rfl).loadG (P := Try.prog) sz_22 ag_22 g193
                    obtain ⟨g196, hL190⟩ := gd_some hL190
                    have q197 := (Sj91.rd (k := 0) rfl).idxG (P := Try.prog) (kk := .i64) el_23 sz_22 g196
                    have q198 := (Sj91.rd (k := 0) rfl).loadG (P := Try.prog) sz_22 ag_22 g196
                    obtain ⟨r12, hc199, hL190⟩ := bd_some hL190
                    refine DWp.drawn (B := [0, 1, 3, 7, 7, 7, 39, 119, 247, 7, 7, 1543, 3591, 8191, 16383, 32767, 65535]) 17 mixed (by kernel_rfl) (by decide) fun K hK => ?_
                    simp [-aBin', -aBin, -aBinI, -aUn, -aNil, -flatV, n_fn, b_add, b_sub, b_mul, b_lt, b_le, b_gt, b_ge, b_eq, b_ne, u_not, ej91_0, ej91_1, ej91_2, ej91_3, ej91_4, ej91_10, ej91_11, ej91_12, ej91_13, ej91_75, hb192, q194, q195, q197, q198, (((Sj91.rd (k := 0) rfl).rowAt [] g193).tup), (((Sj91.rd (k := 0) rfl).rowAt [] g196).tup)]
                    refine CallD.t (hx4 _ Aj91 (gat nilV Dj2_0 (isub .i64 y1_1 1)) (gat nilV Dj2_0 s62.2.1) (gat [] s62.1 (isub .i64 y1_1 1)) (gat [] s62.1 s62.2.1) _ ((Sj91.rd (k := 0) rfl).rowAt [] g193) ((Sj91.rd (k := 0) rfl).rowAt [] g196) hc199) ?_
                    rintro _ G200 ⟨a203, rfl, S204⟩
                    have A202 := Aj91.ext (hB.le Aj91.1) a203.agree
                    have S201 : Sep G200 B [rowsC v0 22 3 Dj2_0 (List.map ints s62.1)] := Sj91.agree a203.agree
                    simp [-aBin', -aBin, -aBinI, -aUn, -aNil, -flatV, n_fn, b_add, b_sub, b_mul, b_lt, b_le, b_gt, b_ge, b_eq, b_ne, u_not, ej91_0, ej91_1, ej91_2, ej91_3, ej91_4, ej91_10, ej91_11, ej91_12, ej91_13, ej91_75, hb192, q194, q195, q197, q198, a203.pre]
                    apply hK
                    clear hK K
                    simp only [andThen, leaves]
                    have S205 := S201.pick [0] (by decide) rfl
                    obtain rfl := Option.some.inj hL190
                    exact ⟨S205, A202, by simp [ej91_0, ej91_1, ej91_2, ej91_3, ej91_4, ej91_10, ej91_11, ej91_12, ej91_13, ej91_75], by simp [ej91_0, ej91_1, ej91_2, ej91_3, ej91_4, ej91_10, ej91_11, ej91_12, ej91_13, ej91_75], by simp [ej91_0, ej91_1, ej91_2, ej91_3, ej91_4, ej91_10, ej91_11, ej91_12, ej91_13, ej91_75], by simp [ej91_0, ej91_1, ej91_2, ej91_3, ej91_4, ej91_10, ej91_11, ej91_12, ej91_13, ej91_75], by simp [ej91_0, ej91_1, ej91_2, ej91_3, ej91_4, ej91_10, ej91_11, ej91_12, ej91_13, ej91_75], by simp [ej91_0, ej91_1, ej91_2, ej91_3, ej91_4, ej91_10, ej91_11, ej91_12, ej91_13, ej91_75], by simp [ej91_0, ej91_1, ej91_2, ej91_3, ej91_4, ej91_10, ej91_11, ej91_12, ej91_13, ej91_75], by simp [ej91_0, ej91_1, ej91_2, ej91_3, ej91_4, ej91_10, ej91_11, ej91_12, ej91_13, ej91_75], by simp [ej91_0, ej91_1, ej91_2, ej91_3, ej91_4, ej91_10, ej91_11, ej91_12, ej91_13, ej91_75], by simp [ej91_0, ej91_1, ej91_2, ej91_3, ej91_4, ej91_10, ej91_11, ej91_12, ej91_13, ej91_75]⟩
                  · replace hL190 := cd_f hb192 hL190
                    refine DWp.drawn (B := [0, 1, 3, 7, 7, 7, 39, 119, 247, 7, 7, 1543, 3591, 8191, 16383, 32767, 65535]) 17 mixed (by kernel_rfl) (by decide) fun K hK => ?_
                    simp [-aBin', -aBin, -aBinI, -aUn, -aNil, -flatV, n_fn, b_add, b_sub, b_mul, b_lt, b_le, b_gt, b_ge, b_eq, b_ne, u_not, ej91_0, ej91_1, ej91_2, ej91_3, ej91_4, ej91_10, ej91_11, ej91_12, ej91_13, ej91_75, hb192]
                    apply hK
                    clear hK K
                    simp only [andThen, leaves]
                    have S206 := Sj91.pick [0] (by decide) rfl
                    obtain rfl := Option.some.inj hL190
                    exact ⟨S206, Aj91, by simp [ej91_0, ej91_1, ej91_2, ej91_3, ej91_4, ej91_10, ej91_11, ej91_12, ej91_13, ej91_75], by simp [ej91_0, ej91_1, ej91_2, ej91_3, ej91_4, ej91_10, ej91_11, ej91_12, ej91_13, ej91_75], by simp [ej91_0, ej91_1, ej91_2, ej91_3, ej91_4, ej91_10, ej91_11, ej91_12, ej91_13, ej91_75], by simp [ej91_0, ej91_1, ej91_2, ej91_3, ej91_4, ej91_10, ej91_11, ej91_12, ej91_13, ej91_75], by simp [ej91_0, ej91_1, ej91_2, ej91_3, ej91_4, ej91_10, ej91_11, ej91_12, ej91_13, ej91_75], by simp [ej91_0, ej91_1, ej91_2, ej91_3, ej91_4, ej91_10, ej91_11, ej91_12, ej91_13, ej91_75], by simp [ej91_0, ej91_1, ej91_2, ej91_3, ej91_4, ej91_10, ej91_11, ej91_12, ej91_13, ej91_75], by simp [ej91_0, ej91_1, ej91_2, ej91_3, ej91_4, ej91_10, ej91_11, ej91_12, ej91_13, ej91_75], by simp [ej91_0, ej91_1, ej91_2, ej91_3, ej91_4, ej91_10, ej91_11, ej91_12, ej91_13, ej91_75], by simp [ej91_0, ej91_1, ej91_2, ej91_3, ej91_4, ej91_10, ej91_11, ej91_12, ej91_13, ej91_75]⟩
                · rintro env Gj207 ⟨Sj207, Aj207, ej207_0, ej207_1, ej207_2, ej207_3, ej207_4, ej207_10, ej207_11, ej207_12, ej207_13, ej207_97⟩
                  refine DWp.cond' (t := s189) (by simp [ej207_0, ej207_1, ej207_2, ej207_3, ej207_4, ej207_10, ej207_11, ej207_12, ej207_13, ej207_97]) (fun hb208 => ?_) (fun hb208 => ?_)
                  · replace hL2 := cd_t hb208 hL2
                    refine DWp.seq ?_
                    obtain ⟨r13, hc209, hL2⟩ := bd_some hL2
                    refine DWp.region fun K hK => ?_
                    simp [-aBin', -aBin, -aBinI, -aUn, -aNil, -flatV, n_fn, b_add, b_sub, b_mul, b_lt, b_le, b_gt, b_ge, b_eq, b_ne, u_not, ej207_0, ej207_1, ej207_2, ej207_3, ej207_4, ej207_10, ej207_11, ej207_12, ej207_13, ej207_97, ((Sj207.rd (k := 0) rfl).tup)]
                    have S210 : Sep Gj207 B ([rowsC v0 22 3 Dj2_0 (List.map ints s62.1)] ++ []) := Sj207.pick [0] (by decide) rfl
                    obtain ⟨B216, S211, U212, M213, R214, C215⟩ := S210.frame (hB.le Aj207.1)
                    refine CallD.t (F_slices_partitionEqualCmpFunc_Sint_w (fu := fu) U212 S211 (fun G_ a_ => hx4 G_ (Aj207.trans (a_.mono M213))) hc209) ?_
                    rintro _ G218 ⟨a221, c217_Cz0, rfl, S222⟩
                    have A220 := Aj207.trans (a221.mono M213)
                    have S219 : Sep G218 B [rowsC v0 22 3 c217_Cz0 (List.map ints r13.2)] := C215 _ _ a221 S222
                    simp [-aBin', -aBin, -aBinI, -aUn, -aNil, -flatV, n_fn, b_add, b_sub, b_mul, b_lt, b_le, b_gt, b_ge, b_eq, b_ne, u_not, ej207_0, ej207_1, ej207_2, ej207_3, ej207_4, ej207_10, ej207_11, ej207_12, ej207_13, ej207_97]
                    apply hK
                    clear hK K
                    simp only [andThen, leaves]
                    refine DWp.seq ?_
                    refine DWp.region fun K hK => ?_
                    simp [-aBin', -aBin, -aBinI, -aUn, -aNil, -flatV, n_fn, b_add, b_sub, b_mul, b_lt, b_le, b_gt, b_ge, b_eq, b_ne, u_not, ej207_0, ej207_1, ej207_2, ej207_3, ej207_4, ej207_10, ej207_11, ej207_12, ej207_13, ej207_97]
                    apply hK
                    clear hK K
                    simp only [andThen, leaves]
                    refine DWp.exit ?_
                    simp only [andThen, leaves, if_true, if_false, reduceIte, Nat.reduceEqDiff]
                    have S223 := S219.pick [0] (by decide) rfl
                    exact ⟨n1, Nat.lt_succ_self _, r13.2, r13.1, y1_2, s34.2, y1_10, y1_11, c217_Cz0, hL2, S223, A220, by simp [ej207_0, ej207_1, ej207_2, ej207_3, ej207_4, ej207_10, ej207_11, ej207_12, ej207_13, ej207_97], by simp [ej207_0, ej207_1, ej207_2, ej207_3, ej207_4, ej207_10, ej207_11, ej207_12, ej207_13, ej207_97], by simp [ej207_0, ej207_1, ej207_2, ej207_3, ej207_4, ej207_10, ej207_11, ej207_12, ej207_13, ej207_97], by simp [ej207_0, ej207_1, ej207_2, ej207_3, ej207_4, ej207_10, ej207_11, ej207_12, ej207_13, ej207_97], by simp [ej207_0, ej207_1, ej207_2, ej207_3, ej207_4, ej207_10, ej207_11, ej207_12, ej207_13, ej207_97], by simp [ej207_0, ej207_1, ej207_2, ej207_3, ej207_4, ej207_10, ej207_11, ej207_12, ej207_13, ej207_97], by simp [ej207_0, ej207_1, ej207_2, ej207_3, ej207_4, ej207_10, ej207_11, ej207_12, ej207_13, ej207_97]⟩
                  · replace hL2 := cd_f hb208 hL2
                    refine DWp.skip ?_
                    simp only [andThen, leaves]
                    refine DWp.seq ?_
                    obtain ⟨r14, hc224, hL2⟩ := bd_some hL2
                    refine DWp.region fun K hK => ?_
                    simp [-aBin', -aBin, -aBinI, -aUn, -aNil, -flatV, n_fn, b_add, b_sub, b_mul, b_lt, b_le, b_gt, b_ge, b_eq, b_ne, u_not, ej207_0, ej207_1, ej207_2, ej207_3, ej207_4, ej207_10, ej207_11, ej207_12, ej207_13, ej207_97, ((Sj207.rd (k := 0) rfl).tup)]
                    have S225 : Sep Gj207 B ([rowsC v0 22 3 Dj2_0 (List.map ints s62.1)] ++ []) := Sj207.pick [0] (by decide) rfl
                    obtain ⟨B231, S226, U227, M228, R229, C230⟩ := S225.frame (hB.le Aj207.1)
                    refine CallD.t (F_slices_partitionCmpFunc_Sint_w (fu := fu) U227 S226 (fun G_ a_ => hx4 G_ (Aj207.trans (a_.mono M228))) hc224) ?_
                    rintro _ G233 ⟨a236, c232_Cz0, rfl, S237⟩
                    have A235 := Aj207.trans (a236.mono M228)
                    have S234 : Sep G233 B [rowsC v0 22 3 c232_Cz0 (List.map ints r14.2.2)] := C230 _ _ a236 S237
                    simp [-aBin', -aBin, -aBinI, -aUn, -aNil, -flatV, n_fn, b_add, b_sub, b_mul, b_lt, b_le, b_gt, b_ge, b_eq, b_ne, u_not, ej207_0, ej207_1, ej207_2, ej207_3, ej207_4, ej207_10, ej207_11, ej207_12, ej207_13, ej207_97]
                    apply hK
                    clear hK K
                    simp only [andThen, leaves]
                    refine DWp.seq ?_
                    refine DWp.region fun K hK => ?_
                    simp [-aBin', -aBin, -aBinI, -aUn, -aNil, -flatV, n_fn, b_add, b_sub, b_mul, b_lt, b_le, b_gt, b_ge, b_eq, b_ne, u_not, ej207_0, ej207_1, ej207_2, ej207_3, ej207_4, ej207_10, ej207_11, ej207_12, ej207_13, ej207_97]
                    apply hK
                    clear hK K
                    simp only [andThen, leaves]
                    refine DWp.seq ?_
                    refine DWp.region fun K hK => ?_
                    simp [-aBin', -aBin, -aBinI, -aUn, -aNil, -flatV, n_fn, b_add, b_sub, b_mul, b_lt, b_le, b_gt, b_ge, b_eq, b_ne, u_not, ej207_0, ej207_1, ej207_2, ej207_3, ej207_4, ej207_10, ej207_11, ej207_12, ej207_13, ej207_97]
                    apply hK
                    clear hK K
                    simp only [andThen, leaves]
                    refine DWp.seq ?_
                    have g238 : (8 : Int) ≠ 0 := by decide
                    refine DWp.region fun K hK => ?_
                    simp [-aBin', -aBin, -aBinI, -aUn, -aNil, -flatV, n_fn, b_add, b_sub, b_mul, b_lt, b_le, b_gt, b_ge, b_eq, b_ne, u_not, ej207_0, ej207_1, ej207_2, ej207_3, ej207_4, ej207_10, ej207_11, ej207_12, ej207_13, ej207_97, b_quo g238]
                    apply hK
                    clear hK K
                    simp only [andThen, leaves]
                    refine DWp.seq ?_
                    refine DWp.region fun K hK => ?_
                    simp [-aBin', -aBin, -aBinI, -aUn, -aNil, -flatV, n_fn, b_add, b_sub, b_mul, b_lt, b_le, b_gt, b_ge, b_eq, b_ne, u_not, ej207_0, ej207_1, ej207_2, ej207_3, ej207_4, ej207_10, ej207_11, ej207_12, ej207_13, ej207_97]
                    apply hK
                    clear hK K
                    simp only [andThen, leaves]
                    refine DWp.cond' (t := (ilt (isub .i64 r14.1 y1_1) (isub .i64 y1_2 r14.1))) (by simp [ej207_0, ej207_1, ej207_2, ej207_3, ej207_4, ej207_10, ej207_11, ej207_12, ej207_13, ej207_97]) (fun hb239 => ?_) (fun hb239 => ?_)
                    · replace hL2 := cd_t hb239 hL2
                      refine DWp.seq ?_
                      refine DWp.region fun K hK => ?_
                      simp [-aBin', -aBin, -aBinI, -aUn, -aNil, -flatV, n_fn, b_add, b_sub, b_mul, b_lt, b_le, b_gt, b_ge, b_eq, b_ne, u_not, ej207_0, ej207_1, ej207_2, ej207_3, ej207_4, ej207_10, ej207_11, ej207_12, ej207_13, ej207_97]
                      apply hK
                      clear hK K
                      simp only [andThen, leaves]
                      refine DWp.seq ?_
                      obtain ⟨r15, hc240, hL2⟩ := bd_some hL2
                      refine DWp.region fun K hK => ?_
                      simp [-aBin', -aBin, -aBinI, -aUn, -aNil, -flatV, n_fn, b_add, b_sub, b_mul, b_lt, b_le, b_gt, b_ge, b_eq, b_ne, u_not, ej207_0, ej207_1, ej207_2, ej207_3, ej207_4, ej207_10, ej207_11, ej207_12, ej207_13, ej207_97, ((S234.rd (k := 0) rfl).tup)]
                      have S241 : Sep G233 B ([rowsC v0 22 3 c232_Cz0 (List.map ints r14.2.2)] ++ []) := S234.pick [0] (by decide) rfl
                      obtain ⟨B247, S242, U243, M244, R245, C246⟩ := S241.frame (hB.le A235.1)
                      refine CallD.t (ih U243 S242 (fun G_ a_ => hx4 G_ (A235.trans (a_.mono M244))) hc240) ?_
                      rintro _ G249 ⟨a252, c248_Cz0, rfl, S253⟩
                      have A251 := A235.trans (a252.mono M244)
                      have S250 : Sep G249 B [rowsC v0 22 3 c248_Cz0 (List.map ints r15)] := C246 _ _ a252 S253
                      simp [-aBin', -aBin, -aBinI, -aUn, -aNil, -flatV, n_fn, b_add, b_sub, b_mul, b_lt, b_le, b_gt, b_ge, b_eq, b_ne, u_not, ej207_0, ej207_1, ej207_2, ej207_3, ej207_4, ej207_10, ej207_11, ej207_12, ej207_13, ej207_97]
                      apply hK
                      clear hK K
                      simp only [andThen, leaves]
                      refine DWp.region fun K hK => ?_
                      simp [-aBin', -aBin, -aBinI, -aUn, -aNil, -flatV, n_fn, b_add, b_sub, b_mul, b_lt, b_le, b_gt, b_ge, b_eq, b_ne, u_not, ej207_0, ej207_1, ej207_2, ej207_3, ej207_4, ej207_10, ej207_11, ej207_12, ej207_13, ej207_97]
                      apply hK
                      clear hK K
                      simp only [andThen, leaves]
                      have S254 := S250.pick [0] (by decide) rfl
                      exact ⟨n1, Nat.lt_succ_self _, r15, (iadd .i64 r14.1 1), y1_2, s34.2, (ile (iquo .i64 (isub .i64 y1_2 y1_1) 8) (isub .i64 r14.1 y1_1)), r14.2.1, c248_Cz0, hL2, S254, A251, by simp [ej207_0, ej207_1, ej207_2, ej207_3, ej207_4, ej207_10, ej207_11, ej207_12, ej207_13, ej207_97], by simp [ej207_0, ej207_1, ej207_2, ej207_3, ej207_4, ej207_10, ej207_11, ej207_12, ej207_13, ej207_97], by simp [ej207_0, ej207_1, ej207_2, ej207_3, ej207_4, ej207_10, ej207_11, ej207_12, ej207_13, ej207_97], by simp [ej207_0, ej207_1, ej207_2, ej207_3, ej207_4, ej207_10, ej207_11, ej207_12, ej207_13, ej207_97], by simp [ej207_0, ej207_1, ej207_2, ej207_3, ej207_4, ej207_10, ej207_11, ej207_12, ej207_13, ej207_97], by simp [ej207_0, ej207_1, ej207_2, ej207_3, ej207_4, ej207_10, ej207_11, ej207_12, ej207_13, ej207_97], by simp [ej207_0, ej207_1, ej207_2, ej207_3, ej207_4, ej207_10, ej207_11, ej207_12, ej207_13, ej207_97]⟩
                    · replace hL2 := cd_f hb239 hL2
                      refine DWp.seq ?_
                      refine DWp.region fun K hK => ?_
                      simp [-aBin', -aBin, -aBinI, -aUn, -aNil, -flatV, n_fn, b_add, b_sub, b_mul, b_lt, b_le, b_gt, b_ge, b_eq, b_ne, u_not, ej207_0, ej207_1, ej207_2, ej207_3, ej207_4, ej207_10, ej207_11, ej207_12, ej207_13, ej207_97]
                      apply hK
                      clear hK K
                      simp only [andThen, leaves]
                      refine DWp.seq ?_
                      obtain ⟨r16, hc255, hL2⟩ := bd_some hL2
                      refine DWp.region fun K hK => ?_
                      simp [-aBin', -aBin, -aBinI, -aUn, -aNil, -flatV, n_fn, b_add, b_sub, b_mul, b_lt, b_le, b_gt, b_ge, b_eq, b_ne, u_not, ej207_0, ej207_1, ej207_2, ej207_3, ej207_4, ej207_10, ej207_11, ej207_12, ej207_13, ej207_97, ((S234.rd (k := 0) rfl).tup)]
                      have S256 : Sep G233 B ([rowsC v0 22 3 c232_Cz0 (List.map ints r14.2.2)] ++ []) := S234.pick [0] (by decide) rfl
                      obtain ⟨B262, S257, U258, M259, R260, C261⟩ := S256.frame (hB.le A235.1)
                      refine CallD.t (ih U258 S257 (fun G_ a_ => hx4 G_ (A235.trans (a_.mono M259))) hc255) ?_
                      rintro _ G264 ⟨a267, c263_Cz0, rfl, S268⟩
                      have A266 := A235.trans (a267.mono M259)
                      have S265 : Sep G264 B [rowsC v0 22 3 c263_Cz0 (List.map ints r16)] := C261 _ _ a267 S268
                      simp [-aBin', -aBin, -aBinI, -aUn, -aNil, -flatV, n_fn, b_add, b_sub, b_mul, b_lt, b_le, b_gt, b_ge, b_eq, b_ne, u_not, ej207_0, ej207_1, ej207_2, ej207_3, ej207_4, ej207_10, ej207_11, ej207_12, ej207_13, ej207_97]
                      apply hK
                      clear hK K
                      simp only [andThen, leaves]
                      refine DWp.region fun K hK => ?_
                      simp [-aBin', -aBin, -aBinI, -aUn, -aNil, -flatV, n_fn, b_add, b_sub, b_mul, b_lt, b_le, b_gt, b_ge, b_eq, b_ne, u_not, ej207_0, ej207_1, ej207_2, ej207_3, ej207_4, ej207_10, ej207_11, ej207_12, ej207_13, ej207_97]
                      apply hK
                      clear hK K
                      simp only [andThen, leaves]
                      have S269 := S265.pick [0] (by decide) rfl
                      exact ⟨n1, Nat.lt_succ_self _, r16, y1_1, r14.1, s34.2, (ile (iquo .i64 (isub .i64 y1_2 y1_1) 8) (isub .i64 y1_2 r14.1)), r14.2.1, c263_Cz0, hL2, S269, A266, by simp [ej207_0, ej207_1, ej207_2, ej207_3, ej207_4, ej207_10, ej207_11, ej207_12, ej207_13, ej207_97], by simp [ej207_0, ej207_1, ej207_2, ej207_3, ej207_4, ej207_10, ej207_11, ej207_12, ej207_13, ej207_97], by simp [ej207_0, ej207_1, ej207_2, ej207_3, ej207_4, ej207_10, ej207_11, ej207_12, ej207_13, ej207_97], by simp [ej207_0, ej207_1, ej207_2, ej207_3, ej207_4, ej207_10, ej207_11, ej207_12, ej207_13, ej207_97], by simp [ej207_0, ej207_1, ej207_2, ej207_3, ej207_4, ej207_10, ej207_11, ej207_12, ej207_13, ej207_97], by simp [ej207_0, ej207_1, ej207_2, ej207_3, ej207_4, ej207_10, ej207_11, ej207_12, ej207_13, ej207_97], by simp [ej207_0, ej207_1, ej207_2, ej207_3, ej207_4, ej207_10, ej207_11, ej207_12, ej207_13, ej207_97]⟩
def F_slices_SortFunc_SSint (fu : Nat) (x0 : List (List Int)) (x1 : (List Int) → (List Int) → Option (Int)) : Option (List (List Int)) :=
  bd (F_math_bits_Len fu (iwr .u64 (llen x0))) fun r1 =>
  bd (F_slices_pdqsortCmpFunc_Sint fu x0 0 (llen x0) r1 x1) fun r2 =>
  some r2
theorem F_slices_SortFunc_SSint_w {fu : Nat} {H : AH} {B : Nat → Prop} {v0 : Value} {C0 : List Value} {f1 : FuncId} {c1 : List Value} {x0 : List (List Int)} {x1 : (List Int) → (List Int) → Option (Int)} {r : (List (List Int))} (hB : Up B H.length) (S0 : Sep H B [rowsC v0 22 3 C0 (List.map ints x0)]) (hx1 : ∀ (G : AH), AgB B H G → ∀ (v0 : Value) (v1 : Value) (y0 : List Int) (y1 : List Int) (q : (Int)), Sl G v0 (ints y0) → Sl G v1 (ints y1) → x1 y0 y1 = some q → ACallT Try.prog f1 ([v0, v1] ++ c1) G (fun u G' => AgB (Fr G) G G' ∧ u = (Value.int .i64 q) ∧ Sep G' (Fr G) [])) (hF : F_slices_SortFunc_SSint fu x0 x1 = some r) :
    ACallT Try.prog 102 [v0, (Value.func (.func f1) #[] c1.toArray)] H (fun u G => AgB B H G ∧ ∃ Cz0 : List Value, u = (Value.tuple #[]) ∧ Sep G B [rowsC v0 22 3 Cz0 (List.map ints r)]) := by
  refine ACallT.of_body (nt := 14) (rs := []) Try.func102 rfl rfl rfl rfl ?_
  have A0 : AgB B H H := .refl _ _
  unfold F_slices_SortFunc_SSint at hF
  refine DWp.seq ?_
  have q1 := (S0.rd (k := 0) rfl).lenG (P := Try.prog) el_23
  refine DWp.region fun K hK => ?_
  simp [-aBin', -aBin, -aBinI, -aUn, -aNil, -flatV, n_fn, b_add, b_sub, b_mul, b_lt, b_le, b_gt, b_ge, b_eq, b_ne, u_not, q1]
  apply hK
  clear hK K
  simp only [andThen, leaves]
  obtain ⟨r1, hc2, hF⟩ := bd_some hF
  refine DWp.region fun K hK => ?_
  simp [-aBin', -aBin, -aBinI, -aUn, -aNil, -flatV, n_fn, b_add, b_sub, b_mul, b_lt, b_le, b_gt, b_ge, b_eq, b_ne, u_not, c_int un_3 un_93]
  refine CallD.t (F_math_bits_Len_w (fu := fu)  hc2) ?_
  rintro _ G4 ⟨a7, rfl, S8⟩
  have A6 := A0.ext (hB.le A0.1) a7.agree
  have S5 : Sep G4 B [rowsC v0 22 3 C0 (List.map ints x0)] := S0.app a7.agree S8 (fun _ h => h) (hB.le A0.1)
  obtain ⟨r2, hc9, hF⟩ := bd_some hF
  simp [-aBin', -aBin, -aBinI, -aUn, -aNil, -flatV, n_fn, b_add, b_sub, b_mul, b_lt, b_le, b_gt, b_ge, b_eq, b_ne, u_not, c_int un_3 un_93, a7.pre, ((S5.rd (k := 0) rfl).tup)]
  have S10 : Sep G4 B ([rowsC v0 22 3 C0 (List.map ints x0)] ++ []) := S5.pick [0] (by decide) rfl
  obtain ⟨B16, S11, U12, M13, R14, C15⟩ := S10.frame (hB.le A6.1)
  refine CallD.t (F_slices_pdqsortCmpFunc_Sint_w (fu := fu) U12 S11 (fun G_ a_ => hx1 G_ (A6.trans (a_.mono M13))) hc9) ?_
  rintro _ G18 ⟨a21, c17_Cz0, rfl, S22⟩
  have A20 := A6.trans (a21.mono M13)
  have S19 : Sep G18 B [rowsC v0 22 3 c17_Cz0 (List.map ints r2)] := C15 _ _ a21 S22
  simp [-aBin', -aBin, -aBinI, -aUn, -aNil, -flatV, n_fn, b_add, b_sub, b_mul, b_lt, b_le, b_gt, b_ge, b_eq, b_ne, u_not, c_int un_3 un_93, a7.pre]
  apply hK
  clear hK K
  obtain rfl := Option.some.inj hF
  exact ⟨by simp, [], by simp [], A20, c17_Cz0, rfl, S19.pick [0] (by decide) rfl⟩
def F_laws_eqIntSS_L1 (fu : Nat) (k1_0 : List (List Int)) (k1_1 : List (List Int)) : Nat → Int → Option (LR (Bool) (Int))
  | 0, _ => none
  | n + 1, y1_5 =>
    bif (ilt y1_5 (llen k1_0)) then
      gd (inL k1_0 y1_5) (
      gd (inL k1_1 y1_5) (
      bd (F_laws_eqIntS fu (gat [] k1_0 y1_5) (gat [] k1_1 y1_5)) fun r1 =>
      bif (bnot r1) then
        some (.ret false)
      else
        F_laws_eqIntSS_L1 fu k1_0 k1_1 n (iadd .i64 y1_5 1)))
    else
      some (.brk y1_5)
def F_laws_eqIntSS (fu : Nat) (x0 : List (List Int)) (x1 : List (List Int)) : Option (Bool) :=
  bif (ine (llen x0) (llen x1)) then
    some false
  else
    bd (F_laws_eqIntSS_L1 fu x0 x1 fu 0) fun s1 =>
    lr s1 fun s1 =>
    some true
theorem F_laws_eqIntSS_w {fu : Nat} {H : AH} {v0 : Value} {v1 : Value} {x0 : List (List Int)} {x1 : List (List Int)} {r : (Bool)} (hx0 : SlSl H v0 (List.map ints x0)) (hx1 : SlSl H v1 (List.map ints x1)) (hF : F_laws_eqIntSS fu x0 x1 = some r) :
    ACallT Try.prog 18 [v0, v1] H (fun u G => AgB (Fr H) H G ∧ u = (Value.bool r) ∧ Sep G (Fr H) []) := by
  refine ACallT.of_body (nt := 27) (rs := [.tmp 4]) Try.func18 rfl rfl rfl rfl ?_
  have A0 : AgB (Fr H) H H := .refl _ _
  have S0 : Sep H (Fr H) [] := .nil
  have hB := Fr.up H
  unfold F_laws_eqIntSS at hF
  obtain ⟨C0, hC0⟩ := hx0.rd
  obtain ⟨C1, hC1⟩ := hx1.rd
  refine DWp.seq ?_
  refine DWp.region fun K hK => ?_
  simp [-aBin', -aBin, -aBinI, -aUn, -aNil, -flatV, n_fn, b_add, b_sub, b_mul, b_lt, b_le, b_gt, b_ge, b_eq, b_ne, u_not]
  apply hK
  clear hK K
  simp only [andThen, leaves]
  refine DWp.seq ?_
  refine DWp.seq ?_
  have q1 := (hC0.agree A0.agree).lenG (P := Try.prog) el_23
  have q2 := (hC1.agree A0.agree).lenG (P := Try.prog) el_23
  refine DWp.region fun K hK => ?_
  simp [-aBin', -aBin, -aBinI, -aUn, -aNil, -flatV, n_fn, b_add, b_sub, b_mul, b_lt, b_le, b_gt, b_ge, b_eq, b_ne, u_not, q1, q2]
  apply hK
  clear hK K
  simp only [andThen, leaves]
  refine DWp.cond' (t := (ine (llen x0) (llen x1))) (by simp []) (fun hb3 => ?_) (fun hb3 => ?_)
  · replace hF := cd_t hb3 hF
    refine DWp.seq ?_
    refine DWp.region fun K hK => ?_
    simp [-aBin', -aBin, -aBinI, -aUn, -aNil, -flatV, n_fn, b_add, b_sub, b_mul, b_lt, b_le, b_gt, b_ge, b_eq, b_ne, u_not]
    apply hK
    clear hK K
    simp only [andThen, leaves]
    refine DWp.ret ?_
    simp only [andThen, leaves]
    obtain rfl := Option.some.inj hF
    exact ⟨by simp, [(Value.bool false)], by simp [], A0, rfl, S0.pick [] (by decide) rfl⟩
  · replace hF := cd_f hb3 hF
    refine DWp.skip ?_
    simp only [andThen, leaves]
    refine DWp.seq ?_
    refine DWp.seq ?_
    refine DWp.region fun K hK => ?_
    simp [-aBin', -aBin, -aBinI, -aUn, -aNil, -flatV, n_fn, b_add, b_sub, b_mul, b_lt, b_le, b_gt, b_ge, b_eq, b_ne, u_not]
    apply hK
    clear hK K
    simp only [andThen, leaves]
    refine DWp.block ?_
    obtain ⟨s4, hL5, hF⟩ := bd_some hF
    have S6 := S0.pick [] (by decide) rfl
    refine DWp.loop (fun n env G => ∃ y1_5 : Int, F_laws_eqIntSS_L1 fu x0 x1 n y1_5 = some s4 ∧ Sep G (Fr H) [] ∧ AgB (Fr H) H G ∧ env 0 = some v0 ∧ env 1 = some v1 ∧ env 5 = some (Value.int .i64 y1_5)) fu ⟨0, hL5, S6, A0, by simp [], by simp [], by simp []⟩ ?_
    rintro n1 env1 G1_ ⟨y1_5, hL5, S1_, A1_, e1_0, e1_1, e1_5⟩
    cases n1 with
    | zero => cases hL5
    | succ n1 =>
      simp only [F_laws_eqIntSS_L1] at hL5
      refine DWp.seq ?_
      refine DWp.seq ?_
      have q7 := (hC0.agree A1_.agree).lenG (P := Try.prog) el_23
      refine DWp.region fun K hK => ?_
      simp [-aBin', -aBin, -aBinI, -aUn, -aNil, -flatV, n_fn, b_add, b_sub, b_mul, b_lt, b_le, b_gt, b_ge, b_eq, b_ne, u_not, e1_0, e1_1, e1_5, q7]
      apply hK
      clear hK K
      simp only [andThen, leaves]
      refine DWp.cond' (t := (ilt y1_5 (llen x0))) (by simp [e1_0, e1_1, e1_5]) (fun hb8 => ?_) (fun hb8 => ?_)
      · replace hL5 := cd_t hb8 hL5
        refine DWp.skip ?_
        simp only [andThen, leaves]
        refine DWp.seq ?_
        refine DWp.block ?_
        refine DWp.seq ?_
        obtain ⟨g9, hL5⟩ := gd_some hL5
        have q10 := (hC0.agree A1_.agree).idxG (P := Try.prog) (kk := .i64) el_23 sz_22 g9
        have q11 := (hC0.agree A1_.agree).loadG (P := Try.prog) sz_22 ag_22 g9
        obtain ⟨g12, hL5⟩ := gd_some hL5
        have q13 := (hC1.agree A1_.agree).idxG (P := Try.prog) (kk := .i64) el_23 sz_22 g12
        have q14 := (hC1.agree A1_.agree).loadG (P := Try.prog) sz_22 ag_22 g12
        obtain ⟨r1, hc15, hL5⟩ := bd_some hL5
        refine DWp.drawn (B := [0, 0, 3, 7, 0, 0, 48, 112, 255, 511]) 10 mixed (by kernel_rfl) (by decide) fun K hK => ?_
        simp [-aBin', -aBin, -aBinI, -aUn, -aNil, -flatV, n_fn, b_add, b_sub, b_mul, b_lt, b_le, b_gt, b_ge, b_eq, b_ne, u_not, e1_0, e1_1, e1_5, q10, q11, q13, q14, (((hC0.agree A1_.agree).rowAt [] g9).tup), (((hC1.agree A1_.agree).rowAt [] g12).tup)]
        refine CallD.t (F_laws_eqIntS_w (fu := fu) ((hC0.agree A1_.agree).rowAt [] g9) ((hC1.agree A1_.agree).rowAt [] g12) hc15) ?_
        rintro _ G17 ⟨a20, rfl, S21⟩
        have A19 := A1_.ext (hB.le A1_.1) a20.agree
        have S18 : Sep G17 (Fr H) [] := S1_.app a20.agree S21 (fun _ h => h) (hB.le A1_.1)
        simp [-aBin', -aBin, -aBinI, -aUn, -aNil, -flatV, n_fn, b_add, b_sub, b_mul, b_lt, b_le, b_gt, b_ge, b_eq, b_ne, u_not, e1_0, e1_1, e1_5, q10, q11, q13, q14, a20.pre]
        apply hK
        clear hK K
        simp only [andThen, leaves]
        refine DWp.cond' (t := (bnot r1)) (by simp [e1_0, e1_1, e1_5]) (fun hb22 => ?_) (fun hb22 => ?_)
        · replace hL5 := cd_t hb22 hL5
          refine DWp.seq ?_
          refine DWp.region fun K hK => ?_
          simp [-aBin', -aBin, -aBinI, -aUn, -aNil, -flatV, n_fn, b_add, b_sub, b_mul, b_lt, b_le, b_gt, b_ge, b_eq, b_ne, u_not, e1_0, e1_1, e1_5]
          apply hK
          clear hK K
          simp only [andThen, leaves]
          refine DWp.ret ?_
          simp only [andThen, leaves]
          obtain rfl := Option.some.inj hL5
          simp only [lr] at hF
          obtain rfl := Option.some.inj hF
          exact ⟨by simp, [(Value.bool false)], by simp [e1_0, e1_1, e1_5], A19, rfl, S18.pick [] (by decide) rfl⟩
        · replace hL5 := cd_f hb22 hL5
          refine DWp.skip ?_
          simp only [andThen, leaves]
          refine DWp.region fun K hK => ?_
          simp [-aBin', -aBin, -aBinI, -aUn, -aNil, -flatV, n_fn, b_add, b_sub, b_mul, b_lt, b_le, b_gt, b_ge, b_eq, b_ne, u_not, e1_0, e1_1, e1_5]
          apply hK
          clear hK K
          simp only [andThen, leaves]
          have S23 := S18.pick [] (by decide) rfl
          exact ⟨n1, Nat.lt_succ_self _, (iadd .i64 y1_5 1), hL5, S23, A19, by simp [e1_0, e1_1, e1_5], by simp [e1_0, e1_1, e1_5], by simp [e1_0, e1_1, e1_5]⟩
      · replace hL5 := cd_f hb8 hL5
        refine DWp.exit ?_
        simp only [andThen, leaves, if_true, if_false, reduceIte, Nat.reduceEqDiff]
        obtain rfl := Option.some.inj hL5
        simp only [lr] at hF
        refine DWp.seq ?_
        refine DWp.region fun K hK => ?_
        simp [-aBin', -aBin, -aBinI, -aUn, -aNil, -flatV, n_fn, b_add, b_sub, b_mul, b_lt, b_le, b_gt, b_ge, b_eq, b_ne, u_not, e1_0, e1_1, e1_5]
        apply hK
        clear hK K
        simp only [andThen, leaves]
        refine DWp.ret ?_
        obtain rfl := Option.some.inj hF
        exact ⟨by simp, [(Value.bool true)], by simp [e1_0, e1_1, e1_5], A1_, rfl, S1_.pick [] (by decide) rfl⟩
def F_laws_markIntSS_L1 (fu : Nat)  : Nat → List (List Int) → Int → Int → Option (List (List Int) × Int × Int)
  | 0, _, _, _ => none
  | n + 1, l1_0, y1_1, y1_5 =>
    bif (ilt y1_5 (llen l1_0)) then
      gd (inL l1_0 y1_5) (
      bd (F_laws_markIntS fu (gat [] l1_0 y1_5) y1_1) fun r1 =>
      F_laws_markIntSS_L1 fu n (lset l1_0 y1_5 r1.2) r1.1 (iadd .i64 y1_5 1))
    else
      some (l1_0, y1_1, y1_5)
def F_laws_markIntSS (fu : Nat) (x0 : List (List Int)) (x1 : Int) : Option (Int × List (List Int)) :=
  bd (F_laws_markIntSS_L1 fu fu x0 x1 0) fun s1 =>
  some (s1.2.1, s1.1)
theorem F_laws_markIntSS_w {fu : Nat} {H : AH} {B : Nat → Prop} {v0 : Value} {C0 : List Value} {x0 : List (List Int)} {x1 : Int} {r : (Int × List (List Int))} (hB : Up B H.length) (S0 : Sep H B [rowsC v0 22 3 C0 (List.map ints x0)]) (hF : F_laws_markIntSS fu x0 x1 = some r) :
    ACallT Try.prog 21 [v0, (Value.int .i64 x1)] H (fun u G => AgB B H G ∧ ∃ Cz0 : List Value, u = (Value.int .i64 r.1) ∧ Sep G B [rowsC v0 22 3 Cz0 (List.map ints r.2)]) := by
  refine ACallT.of_body (nt := 19) (rs := [.tmp 4]) Try.func21 rfl rfl rfl rfl ?_
  have A0 : AgB B H H := .refl _ _
  unfold F_laws_markIntSS at hF
  refine DWp.seq ?_
  refine DWp.region fun K hK => ?_
  simp [-aBin', -aBin, -aBinI, -aUn, -aNil, -flatV, n_fn, b_add, b_sub, b_mul, b_lt, b_le, b_gt, b_ge, b_eq, b_ne, u_not]
  apply hK
  clear hK K
  simp only [andThen, leaves]
  refine DWp.seq ?_
  refine DWp.seq ?_
  refine DWp.region fun K hK => ?_
  simp [-aBin', -aBin, -aBinI, -aUn, -aNil, -flatV, n_fn, b_add, b_sub, b_mul, b_lt, b_le, b_gt, b_ge, b_eq, b_ne, u_not]
  apply hK
  clear hK K
  simp only [andThen, leaves]
  refine DWp.block ?_
  obtain ⟨s1, hL2, hF⟩ := bd_some hF
  have S3 := S0.pick [0] (by decide) rfl
  refine DWp.loop (fun n env G => ∃ l1_0 : List (List Int), ∃ y1_1 : Int, ∃ y1_5 : Int, ∃ D1_0 : List Value, F_laws_markIntSS_L1 fu n l1_0 y1_1 y1_5 = some s1 ∧ Sep G B [rowsC v0 22 3 D1_0 (List.map ints l1_0)] ∧ AgB B H G ∧ env 0 = some v0 ∧ env 1 = some (Value.int .i64 y1_1) ∧ env 5 = some (Value.int .i64 y1_5)) fu ⟨x0, x1, 0, C0, hL2, S3, A0, by simp [], by simp [], by simp []⟩ ?_
  rintro n1 env1 G1_ ⟨l1_0, y1_1, y1_5, D1_0, hL2, S1_, A1_, e1_0, e1_1, e1_5⟩
  cases n1 with
  | zero => cases hL2
  | succ n1 =>
    simp only [F_laws_markIntSS_L1] at hL2
    refine DWp.seq ?_
    refine DWp.seq ?_
    have q4 := (S1_.rd (k := 0) rfl).lenG (P := Try.prog) el_23
    refine DWp.region fun K hK => ?_
    simp [-aBin', -aBin, -aBinI, -aUn, -aNil, -flatV, n_fn, b_add, b_sub, b_mul, b_lt, b_le, b_gt, b_ge, b_eq, b_ne, u_not, e1_0, e1_1, e1_5, q4]
    apply hK
    clear hK K
    simp only [andThen, leaves]
    refine DWp.cond' (t := (ilt y1_5 (llen l1_0))) (by simp [e1_0, e1_1, e1_5]) (fun hb5 => ?_) (fun hb5 => ?_)
    · replace hL2 := cd_t hb5 hL2
      refine DWp.skip ?_
      simp only [andThen, leaves]
      refine DWp.seq ?_
      refine DWp.block ?_
      obtain ⟨g6, hL2⟩ := gd_some hL2
      have q7 := (S1_.rd (k := 0) rfl).idxG (P := Try.prog) (kk := .i64) el_23 sz_22 g6
      have q8 := (S1_.rd (k := 0) rfl).loadG (P := Try.prog) sz_22 ag_22 g6
      have S9 : Sep G1_ B [rowsX v0 22 3 D1_0 (List.map ints l1_0) (y1_5).toNat, flat (gat nilV D1_0 y1_5) 3 (ints (gat [] l1_0 y1_5))] := S1_.rowOut (fr := ints) (k := 0) rfl [] g6
      obtain ⟨r1, hc10, hL2⟩ := bd_some hL2
      refine DWp.region fun K hK => ?_
      simp [-aBin', -aBin, -aBinI, -aUn, -aNil, -flatV, n_fn, b_add, b_sub, b_mul, b_lt, b_le, b_gt, b_ge, b_eq, b_ne, u_not, e1_0, e1_1, e1_5, q7, q8, (((S1_.rd (k := 0) rfl).rowAt [] g6).tup)]
      have S11 : Sep G1_ B ([flat (gat nilV D1_0 y1_5) 3 (ints (gat [] l1_0 y1_5))] ++ [rowsX v0 22 3 D1_0 (List.map ints l1_0) (y1_5).toNat]) := S9.pick [1, 0] (by decide) rfl
      obtain ⟨B17, S12, U13, M14, R15, C16⟩ := S11.frame (hB.le A1_.1)
      refine CallD.t (F_laws_markIntS_w (fu := fu) U13 S12 hc10) ?_
      rintro _ G19 ⟨a22, rfl, S23⟩
      have A21 := A1_.trans (a22.mono M14)
      have S20 : Sep G19 B [flat (gat nilV D1_0 y1_5) 3 (ints r1.2), rowsX v0 22 3 D1_0 (List.map ints l1_0) (y1_5).toNat] := C16 _ _ a22 S23
      have S24 : Sep G19 B [emp, rowsC v0 22 3 D1_0 (List.map ints (lset l1_0 y1_5 r1.2))] := S20.rowIn (fr := ints) (j := 1) (k := 0) (by decide) rfl rfl g6
      simp [-aBin', -aBin, -aBinI, -aUn, -aNil, -flatV, n_fn, b_add, b_sub, b_mul, b_lt, b_le, b_gt, b_ge, b_eq, b_ne, u_not, e1_0, e1_1, e1_5, q7, q8]
      apply hK
      clear hK K
      simp only [andThen, leaves]
      refine DWp.region fun K hK => ?_
      simp [-aBin', -aBin, -aBinI, -aUn, -aNil, -flatV, n_fn, b_add, b_sub, b_mul, b_lt, b_le, b_gt, b_ge, b_eq, b_ne, u_not, e1_0, e1_1, e1_5]
      apply hK
      clear hK K
      simp only [andThen, leaves]
      have S25 := S24.pick [1] (by decide) rfl
      exact ⟨n1, Nat.lt_succ_self _, (lset l1_0 y1_5 r1.2), r1.1, (iadd .i64 y1_5 1), D1_0, hL2, S25, A21, by simp [e1_0, e1_1, e1_5], by simp [e1_0, e1_1, e1_5], by simp [e1_0, e1_1, e1_5]⟩
    · replace hL2 := cd_f hb5 hL2
      refine DWp.exit ?_
      simp only [andThen, leaves, if_true, if_false, reduceIte, Nat.reduceEqDiff]
      obtain rfl := Option.some.inj hL2
      try dsimp only at hF
      refine DWp.seq ?_
      refine DWp.region fun K hK => ?_
      simp [-aBin', -aBin, -aBinI, -aUn, -aNil, -flatV, n_fn, b_add, b_sub, b_mul, b_lt, b_le, b_gt, b_ge, b_eq, b_ne, u_not, e1_0, e1_1, e1_5]
      apply hK
      clear hK K
      simp only [andThen, leaves]
      refine DWp.ret ?_
      obtain rfl := Option.some.inj hF
      exact ⟨by simp, [(Value.int .i64 y1_1)], by simp [e1_0, e1_1, e1_5], A1_, D1_0, rfl, S1_.pick [0] (by decide) rfl⟩
def F_laws_heldIntSS_L1 (fu : Nat) (k1_0 : List (List Int)) : Nat → Int → Int → Option (LR (Int) (Int × Int))
  | 0, _, _ => none
  | n + 1, y1_1, y1_5 =>
    bif (ilt y1_5 (llen k1_0)) then
      gd (inL k1_0 y1_5) (
      bd (F_laws_heldIntS fu (gat [] k1_0 y1_5) y1_1) fun r1 =>
      bif (ilt r1 0) then
        some (.ret (-1))
      else
        F_laws_heldIntSS_L1 fu k1_0 n r1 (iadd .i64 y1_5 1))
    else
      some (.brk (y1_1, y1_5))
def F_laws_heldIntSS (fu : Nat) (x0 : List (List Int)) (x1 : Int) : Option (Int) :=
  bd (F_laws_heldIntSS_L1 fu x0 fu x1 0) fun s1 =>
  lr s1 fun s1 =>
  some s1.1
theorem F_laws_heldIntSS_w {fu : Nat} {H : AH} {v0 : Value} {x0 : List (List Int)} {x1 : Int} {r : (Int)} (hx0 : SlSl H v0 (List.map ints x0)) (hF : F_laws_heldIntSS fu x0 x1 = some r) :
    ACallT Try.prog 22 [v0, (Value.int .i64 x1)] H (fun u G => AgB (Fr H) H G ∧ u = (Value.int .i64 r) ∧ Sep G (Fr H) []) := by
  refine ACallT.of_body (nt := 21) (rs := [.tmp 4]) Try.func22 rfl rfl rfl rfl ?_
  have A0 : AgB (Fr H) H H := .refl _ _
  have S0 : Sep H (Fr H) [] := .nil
  have hB := Fr.up H
  unfold F_laws_heldIntSS at hF
  obtain ⟨C0, hC0⟩ := hx0.rd
  refine DWp.seq ?_
  refine DWp.region fun K hK => ?_
  simp [-aBin', -aBin, -aBinI, -aUn, -aNil, -flatV, n_fn, b_add, b_sub, b_mul, b_lt, b_le, b_gt, b_ge, b_eq, b_ne, u_not]
  apply hK
  clear hK K
  simp only [andThen, leaves]
  refine DWp.seq ?_
  refine DWp.seq ?_
  refine DWp.region fun K hK => ?_
  simp [-aBin', -aBin, -aBinI, -aUn, -aNil, -flatV, n_fn, b_add, b_sub, b_mul, b_lt, b_le, b_gt, b_ge, b_eq, b_ne, u_not]
  apply hK
  clear hK K
  simp only [andThen, leaves]
  refine DWp.block ?_
  obtain ⟨s1, hL2, hF⟩ := bd_some hF
  have S3 := S0.pick [] (by decide) rfl
  refine DWp.loop (fun n env G => ∃ y1_1 : Int, ∃ y1_5 : Int, F_laws_heldIntSS_L1 fu x0 n y1_1 y1_5 = some s1 ∧ Sep G (Fr H) [] ∧ AgB (Fr H) H G ∧ env 0 = some v0 ∧ env 1 = some (Value.int .i64 y1_1) ∧ env 5 = some (Value.int .i64 y1_5)) fu ⟨x1, 0, hL2, S3, A0, by simp [], by simp [], by simp []⟩ ?_
  rintro n1 env1 G1_ ⟨y1_1, y1_5, hL2, S1_, A1_, e1_0, e1_1, e1_5⟩
  cases n1 with
  | zero => cases hL2
  | succ n1 =>
    simp only [F_laws_heldIntSS_L1] at hL2
    refine DWp.seq ?_
    refine DWp.seq ?_
    have q4 := (hC0.agree A1_.agree).lenG (P := Try.prog) el_23
    refine DWp.region fun K hK => ?_
    simp [-aBin', -aBin, -aBinI, -aUn, -aNil, -flatV, n_fn, b_add, b_sub, b_mul, b_lt, b_le, b_gt, b_ge, b_eq, b_ne, u_not, e1_0, e1_1, e1_5, q4]
    apply hK
    clear hK K
    simp only [andThen, leaves]
    refine DWp.cond' (t := (ilt y1_5 (llen x0))) (by simp [e1_0, e1_1, e1_5]) (fun hb5 => ?_) (fun hb5 => ?_)
    · replace hL2 := cd_t hb5 hL2
      refine DWp.skip ?_
      simp only [andThen, leaves]
      refine DWp.seq ?_
      refine DWp.block ?_
      refine DWp.seq ?_
      obtain ⟨g6, hL2⟩ := gd_some hL2
      have q7 := (hC0.agree A1_.agree).idxG (P := Try.prog) (kk := .i64) el_23 sz_22 g6
      have q8 := (hC0.agree A1_.agree).loadG (P := Try.prog) sz_22 ag_22 g6
      obtain ⟨r1, hc9, hL2⟩ := bd_some hL2
      refine DWp.region fun K hK => ?_
      simp [-aBin', -aBin, -aBinI, -aUn, -aNil, -flatV, n_fn, b_add, b_sub, b_mul, b_lt, b_le, b_gt, b_ge, b_eq, b_ne, u_not, e1_0, e1_1, e1_5, q7, q8, (((hC0.agree A1_.agree).rowAt [] g6).tup)]
      refine CallD.t (F_laws_heldIntS_w (fu := fu) ((hC0.agree A1_.agree).rowAt [] g6) hc9) ?_
      rintro _ G11 ⟨a14, rfl, S15⟩
      have A13 := A1_.ext (hB.le A1_.1) a14.agree
      have S12 : Sep G11 (Fr H) [] := S1_.app a14.agree S15 (fun _ h => h) (hB.le A1_.1)
      simp [-aBin', -aBin, -aBinI, -aUn, -aNil, -flatV, n_fn, b_add, b_sub, b_mul, b_lt, b_le, b_gt, b_ge, b_eq, b_ne, u_not, e1_0, e1_1, e1_5, q7, q8, a14.pre]
      apply hK
      clear hK K
      simp only [andThen, leaves]
      refine DWp.seq ?_
      refine DWp.region fun K hK => ?_
      simp [-aBin', -aBin, -aBinI, -aUn, -aNil, -flatV, n_fn, b_add, b_sub, b_mul, b_lt, b_le, b_gt, b_ge, b_eq, b_ne, u_not, e1_0, e1_1, e1_5]
      apply hK
      clear hK K
      simp only [andThen, leaves]
      refine DWp.cond' (t := (ilt r1 0)) (by simp [e1_0, e1_1, e1_5]) (fun hb16 => ?_) (fun hb16 => ?_)
      · replace hL2 := cd_t hb16 hL2
        refine DWp.seq ?_
        refine DWp.region fun K hK => ?_
        simp [-aBin', -aBin, -aBinI, -aUn, -aNil, -flatV, n_fn, b_add, b_sub, b_mul, b_lt, b_le, b_gt, b_ge, b_eq, b_ne, u_not, e1_0, e1_1, e1_5]
        apply hK
        clear hK K
        simp only [andThen, leaves]
        refine DWp.ret ?_
        simp only [andThen, leaves]
        obtain rfl := Option.some.inj hL2
        simp only [lr] at hF
        obtain rfl := Option.some.inj hF
        exact ⟨by simp, [(Value.int .i64 (-1))], by simp [e1_0, e1_1, e1_5], A13, rfl, S12.pick [] (by decide) rfl⟩
      · replace hL2 := cd_f hb16 hL2
        refine DWp.skip ?_
        simp only [andThen, leaves]
        refine DWp.region fun K hK => ?_
        simp [-aBin', -aBin, -aBinI, -aUn, -aNil, -flatV, n_fn, b_add, b_sub, b_mul, b_lt, b_le, b_gt, b_ge, b_eq, b_ne, u_not, e1_0, e1_1, e1_5]
        apply hK
        clear hK K
        simp only [andThen, leaves]
        have S17 := S12.pick [] (by decide) rfl
        exact ⟨n1, Nat.lt_succ_self _, r1, (iadd .i64 y1_5 1), hL2, S17, A13, by simp [e1_0, e1_1, e1_5], by simp [e1_0, e1_1, e1_5], by simp [e1_0, e1_1, e1_5]⟩
    · replace hL2 := cd_f hb5 hL2
      refine DWp.exit ?_
      simp only [andThen, leaves, if_true, if_false, reduceIte, Nat.reduceEqDiff]
      obtain rfl := Option.some.inj hL2
      simp only [lr] at hF
      refine DWp.seq ?_
      refine DWp.region fun K hK => ?_
      simp [-aBin', -aBin, -aBinI, -aUn, -aNil, -flatV, n_fn, b_add, b_sub, b_mul, b_lt, b_le, b_gt, b_ge, b_eq, b_ne, u_not, e1_0, e1_1, e1_5]
      apply hK
      clear hK K
      simp only [andThen, leaves]
      refine DWp.ret ?_
      obtain rfl := Option.some.inj hF
      exact ⟨by simp, [(Value.int .i64 y1_1)], by simp [e1_0, e1_1, e1_5], A1_, rfl, S1_.pick [] (by decide) rfl⟩
end Go.Proofs.Ytdghlhdpcmemjaa.AL

/- The walks of functions, each with its Lean function: slices.partitionCmpFunc[[]int], slices.pdqsortCmpFunc[[]int], slices.SortFunc[[][]int,[]int], impl.neighbours, impl.ExchangesOf, laws.eqIntSS, laws.markIntSS, laws.heldIntSS, laws.FnExactExchangesOf, spec.exStep. No condition. -/
import Derived.Test.YtdghlhdpcmemjaaFBD
import Derived.Test.YtdghlhdpcmemjaaFBE
import Derived.Test.YtdghlhdpcmemjaaG1
import Derived.Test.YtdghlhdpcmemjaaG2
import Derived.Test.YtdghlhdpcmemjaaG3
import Derived.Test.YtdghlhdpcmemjaaG4
import Derived.Test.YtdghlhdpcmemjaaG5
import Derived.Test.YtdghlhdpcmemjaaG6
import Derived.Test.YtdghlhdpcmemjaaALD
import Derived.Test.YtdghlhdpcmemjaaProg
import Derived.KernelRfl
namespace Go.Proofs.Ytdghlhdpcmemjaa.AL
open Go Go.RowKit
set_option linter.unusedVariables false
set_option linter.unusedSimpArgs false
set_option maxRecDepth 4096
theorem pl_38 : placeT Try.prog 38 = some (.agg #[.slice none 0 0, .slice none 0 0], fun i => [(0, 1), (1, 1)].toArray[i]?) := by kernel_rfl
theorem ze_62 : zeroT Try.prog 62 = some (.agg #[.int .i64 0, .int .i64 0]) := by kernel_rfl
theorem bu_38 {a0 a1 : Value} (t0 : isTup a0 = false) (c0 : a0.cells = #[a0]) (t1 : isTup a1 = false) (c1 : a1.cells = #[a1]) : aBuild Try.prog 38 [(0, a0), (1, a1)] = some (.agg #[a0, a1]) := buildT2 pl_38 rfl rfl t0 c0 t1 c1
def F_laws_eqIntSS_L1 (fu : Nat) (k1_0 : List (List Int)) (k1_1 : List (List Int)) : Nat → Int → Option (LR (Bool) (Int))
  | 0, _ => none
  | n + 1, y1_5 =>
    bif (ilt y1_5 (llen k1_0)) then
      gd (inL k1_0 y1_5) (
      gd (inL k1_1 y1_5) (
      bd (F_laws_eqIntS fu (gat [] k1_0 y1_5) (gat [] k1_1 y1_5)) fun r1 =>
      bif (bnot r1) then
        some (.ret false)
      else
        F_laws_eqIntSS_L1 fu k1_0 k1_1 n (iadd .i64 y1_5 1)))
    else
      some (.brk y1_5)
def F_laws_eqIntSS (fu : Nat) (x0 : List (List Int)) (x1 : List (List Int)) : Option (Bool) :=
  bif (ine (llen x0) (llen x1)) then
    some false
  else
    bd (F_laws_eqIntSS_L1 fu x0 x1 fu 0) fun s1 =>
    lr s1 fun s1 =>
    some true
theorem F_laws_eqIntSS_w {fu : Nat} {H : AH} {v0 : Value} {v1 : Value} {x0 : List (List Int)} {x1 : List (List Int)} {r : (Bool)} (hx0 : SlSl H v0 (List.map ints x0)) (hx1 : SlSl H v1 (List.map ints x1)) (hF : F_laws_eqIntSS fu x0 x1 = some r) :
    ACallT Try.prog 18 [v0, v1] H (fun u G => AgB (Fr H) H G ∧ u = (Value.bool r) ∧ Sep G (Fr H) []) := by
  refine ACallT.of_body (nt := 27) (rs := [.tmp 4]) Try.func18 rfl rfl rfl rfl ?_
  have A0 : AgB (Fr H) H H := .refl _ _
  have S0 : Sep H (Fr H) [] := .nil
  have hB := Fr.up H
  unfold F_laws_eqIntSS at hF
  obtain ⟨C0, hC0⟩ := hx0.rd
  obtain ⟨C1, hC1⟩ := hx1.rd
  refine DWp.seq ?_
  refine DWp.region fun K hK => ?_
  simp [-aBin', -aBin, -aBinI, -aUn, -aNil, -flatV, n_fn, b_add, b_sub, b_mul, b_lt, b_le, b_gt, b_ge, b_eq, b_ne, u_not]
  apply hK
  clear hK K
  simp only [andThen, leaves]
  refine DWp.seq ?_
  refine DWp.seq ?_
  have q1 := (hC0.agree A0.agree).lenG (P := Try.prog) el_23
  have q2 := (hC1.agree A0.agree).lenG (P := Try.prog) el_23
  refine DWp.region fun K hK => ?_
  simp [-aBin', -aBin, -aBinI, -aUn, -aNil, -flatV, n_fn, b_add, b_sub, b_mul, b_lt, b_le, b_gt, b_ge, b_eq, b_ne, u_not, q1, q2]
  apply hK
  clear hK K
  simp only [andThen, leaves]
  refine DWp.cond' (t := (ine (llen x0) (llen x1))) (by simp []) (fun hb3 => ?_) (fun hb3 => ?_)
  · replace hF := cd_t hb3 hF
    refine DWp.seq ?_
    refine DWp.region fun K hK => ?_
    simp [-aBin', -aBin, -aBinI, -aUn, -aNil, -flatV, n_fn, b_add, b_sub, b_mul, b_lt, b_le, b_gt, b_ge, b_eq, b_ne, u_not]
    apply hK
    clear hK K
    simp only [andThen, leaves]
    refine DWp.ret ?_
    simp only [andThen, leaves]
    obtain rfl := Option.some.inj hF
    exact ⟨by simp, [(Value.bool false)], by simp [], A0, rfl, S0.pick [] (by decide) rfl⟩
  · replace hF := cd_f hb3 hF
    refine DWp.skip ?_
    simp only [andThen, leaves]
    refine DWp.seq ?_
    refine DWp.seq ?_
    refine DWp.region fun K hK => ?_
    simp [-aBin', -aBin, -aBinI, -aUn, -aNil, -flatV, n_fn, b_add, b_sub, b_mul, b_lt, b_le, b_gt, b_ge, b_eq, b_ne, u_not]
    apply hK
    clear hK K
    simp only [andThen, leaves]
    refine DWp.block ?_
    obtain ⟨s4, hL5, hF⟩ := bd_some hF
    have S6 := S0.pick [] (by decide) rfl
    refine DWp.loop (fun n env G => ∃ y1_5 : Int, F_laws_eqIntSS_L1 fu x0 x1 n y1_5 = some s4 ∧ Sep G (Fr H) [] ∧ AgB (Fr H) H G ∧ env 0 = some v0 ∧ env 1 = some v1 ∧ env 5 = some (Value.int .i64 y1_5)) fu ⟨0, hL5, S6, A0, by simp [], by simp [], by simp []⟩ ?_
    rintro n1 env1 G1_ ⟨y1_5, hL5, S1_, A1_, e1_0, e1_1, e1_5⟩
    cases n1 with
    | zero => cases hL5
    | succ n1 =>
      simp only [F_laws_eqIntSS_L1] at hL5
      refine DWp.seq ?_
      refine DWp.seq ?_
      have q7 := (hC0.agree A1_.agree).lenG (P := Try.prog) el_23
      refine DWp.region fun K hK => ?_
      simp [-aBin', -aBin, -aBinI, -aUn, -aNil, -flatV, n_fn, b_add, b_sub, b_mul, b_lt, b_le, b_gt, b_ge, b_eq, b_ne, u_not, e1_0, e1_1, e1_5, q7]
      apply hK
      clear hK K
      simp only [andThen, leaves]
      refine DWp.cond' (t := (ilt y1_5 (llen x0))) (by simp [e1_0, e1_1, e1_5]) (fun hb8 => ?_) (fun hb8 => ?_)
      · replace hL5 := cd_t hb8 hL5
        refine DWp.skip ?_
        simp only [andThen, leaves]
        refine DWp.seq ?_
        refine DWp.block ?_
        refine DWp.seq ?_
        obtain ⟨g9, hL5⟩ := gd_some hL5
        have q10 := (hC0.agree A1_.agree).idxG (P := Try.prog) (kk := .i64) el_23 sz_22 g9
        have q11 := (hC0.agree A1_.agree).loadG (P := Try.prog) sz_22 ag_22 g9
        obtain ⟨g12, hL5⟩ := gd_some hL5
        have q13 := (hC1.agree A1_.agree).idxG (P := Try.prog) (kk := .i64) el_23 sz_22 g12
        have q14 := (hC1.agree A1_.agree).loadG (P := Try.prog) sz_22 ag_22 g12
        obtain ⟨r1, hc15, hL5⟩ := bd_some hL5
        refine DWp.drawn (B := [0, 0, 3, 7, 0, 0, 48, 112, 255, 511]) 10 mixed (by kernel_rfl) (by decide) fun K hK => ?_
        simp [-aBin', -aBin, -aBinI, -aUn, -aNil, -flatV, n_fn, b_add, b_sub, b_mul, b_lt, b_le, b_gt, b_ge, b_eq, b_ne, u_not, e1_0, e1_1, e1_5, q10, q11, q13, q14, (((hC0.agree A1_.agree).rowAt [] g9).tup), (((hC1.agree A1_.agree).rowAt [] g12).tup)]
        refine CallD.t (F_laws_eqIntS_w (fu := fu) ((hC0.agree A1_.agree).rowAt [] g9) ((hC1.agree A1_.agree).rowAt [] g12) hc15) ?_
        rintro _ G17 ⟨a20, rfl, S21⟩
        have A19 := A1_.ext (hB.le A1_.1) a20.agree
        have S18 : Sep G17 (Fr H) [] := S1_.app a20.agree S21 (fun _ h => h) (hB.le A1_.1)
        simp [-aBin', -aBin, -aBinI, -aUn, -aNil, -flatV, n_fn, b_add, b_sub, b_mul, b_lt, b_le, b_gt, b_ge, b_eq, b_ne, u_not, e1_0, e1_1, e1_5, q10, q11, q13, q14, a20.pre]
        apply hK
        clear hK K
        simp only [andThen, leaves]
        refine DWp.cond' (t := (bnot r1)) (by simp [e1_0, e1_1, e1_5]) (fun hb22 => ?_) (fun hb22 => ?_)
        · replace hL5 := cd_t hb22 hL5
          refine DWp.seq ?_
          refine DWp.region fun K hK => ?_
          simp [-aBin', -aBin, -aBinI, -aUn, -aNil, -flatV, n_fn, b_add, b_sub, b_mul, b_lt, b_le, b_gt, b_ge, b_eq, b_ne, u_not, e1_0, e1_1, e1_5]
          apply hK
          clear hK K
          simp only [andThen, leaves]
          refine DWp.ret ?_
          simp only [andThen, leaves]
          obtain rfl := Option.some.inj hL5
          simp only [lr] at hF
          obtain rfl := Option.some.inj hF
          exact ⟨by simp, [(Value.bool false)], by simp [e1_0, e1_1, e1_5], A19, rfl, S18.pick [] (by decide) rfl⟩
        · replace hL5 := cd_f hb22 hL5
          refine DWp.skip ?_
          simp only [andThen, leaves]
          refine DWp.region fun K hK => ?_
          simp [-aBin', -aBin, -aBinI, -aUn, -aNil, -flatV, n_fn, b_add, b_sub, b_mul, b_lt, b_le, b_gt, b_ge, b_eq, b_ne, u_not, e1_0, e1_1, e1_5]
          apply hK
          clear hK K
          simp only [andThen, leaves]
          have S23 := S18.pick [] (by decide) rfl
          exact ⟨n1, Nat.lt_succ_self _, (iadd .i64 y1_5 1), hL5, S23, A19, by simp [e1_0, e1_1, e1_5], by simp [e1_0, e1_1, e1_5], by simp [e1_0, e1_1, e1_5]⟩
      · replace hL5 := cd_f hb8 hL5
        refine DWp.exit ?_
        simp only [andThen, leaves, if_true, if_false, reduceIte, Nat.reduceEqDiff]
        obtain rfl := Option.some.inj hL5
        simp only [lr] at hF
        refine DWp.seq ?_
        refine DWp.region fun K hK => ?_
        simp [-aBin', -aBin, -aBinI, -aUn, -aNil, -flatV, n_fn, b_add, b_sub, b_mul, b_lt, b_le, b_gt, b_ge, b_eq, b_ne, u_not, e1_0, e1_1, e1_5]
        apply hK
        clear hK K
        simp only [andThen, leaves]
        refine DWp.ret ?_
        obtain rfl := Option.some.inj hF
        exact ⟨by simp, [(Value.bool true)], by simp [e1_0, e1_1, e1_5], A1_, rfl, S1_.pick [] (by decide) rfl⟩
def F_laws_markIntSS_L1 (fu : Nat)  : Nat → List (List Int) → Int → Int → Option (List (List Int) × Int × Int)
  | 0, _, _, _ => none
  | n + 1, l1_0, y1_1, y1_5 =>
    bif (ilt y1_5 (llen l1_0)) then
      gd (inL l1_0 y1_5) (
      bd (F_laws_markIntS fu (gat [] l1_0 y1_5) y1_1) fun r1 =>
      F_laws_markIntSS_L1 fu n (lset l1_0 y1_5 r1.2) r1.1 (iadd .i64 y1_5 1))
    else
      some (l1_0, y1_1, y1_5)
def F_laws_markIntSS (fu : Nat) (x0 : List (List Int)) (x1 : Int) : Option (Int × List (List Int)) :=
  bd (F_laws_markIntSS_L1 fu fu x0 x1 0) fun s1 =>
  some (s1.2.1, s1.1)
theorem F_laws_markIntSS_w {fu : Nat} {H : AH} {B : Nat → Prop} {v0 : Value} {C0 : List Value} {x0 : List (List Int)} {x1 : Int} {r : (Int × List (List Int))} (hB : Up B H.length) (S0 : Sep H B [rowsC v0 22 3 C0 (List.map ints x0)]) (hF : F_laws_markIntSS fu x0 x1 = some r) :
    ACallT Try.prog 21 [v0, (Value.int .i64 x1)] H (fun u G => AgB B H G ∧ ∃ Cz0 : List Value, u = (Value.int .i64 r.1) ∧ Sep G B [rowsC v0 22 3 Cz0 (List.map ints r.2)]) := by
  refine ACallT.of_body (nt := 19) (rs := [.tmp 4]) Try.func21 rfl rfl rfl rfl ?_
  have A0 : AgB B H H := .refl _ _
  unfold F_laws_markIntSS at hF
  refine DWp.seq ?_
  refine DWp.region fun K hK => ?_
  simp [-aBin', -aBin, -aBinI, -aUn, -aNil, -flatV, n_fn, b_add, b_sub, b_mul, b_lt, b_le, b_gt, b_ge, b_eq, b_ne, u_not]
  apply hK
  clear hK K
  simp only [andThen, leaves]
  refine DWp.seq ?_
  refine DWp.seq ?_
  refine DWp.region fun K hK => ?_
  simp [-aBin', -aBin, -aBinI, -aUn, -aNil, -flatV, n_fn, b_add, b_sub, b_mul, b_lt, b_le, b_gt, b_ge, b_eq, b_ne, u_not]
  apply hK
  clear hK K
  simp only [andThen, leaves]
  refine DWp.block ?_
  obtain ⟨s1, hL2, hF⟩ := bd_some hF
  have S3 := S0.pick [0] (by decide) rfl
  refine DWp.loop (fun n env G => ∃ l1_0 : List (List Int), ∃ y1_1 : Int, ∃ y1_5 : Int, ∃ D1_0 : List Value, F_laws_markIntSS_L1 fu n l1_0 y1_1 y1_5 = some s1 ∧ Sep G B [rowsC v0 22 3 D1_0 (List.map ints l1_0)] ∧ AgB B H G ∧ env 0 = some v0 ∧ env 1 = some (Value.int .i64 y1_1) ∧ env 5 = some (Value.int .i64 y1_5)) fu ⟨x0, x1, 0, C0, hL2, S3, A0, by simp [], by simp [], by simp []⟩ ?_
  rintro n1 env1 G1_ ⟨l1_0, y1_1, y1_5, D1_0, hL2, S1_, A1_, e1_0, e1_1, e1_5⟩
  cases n1 with
  | zero => cases hL2
  | succ n1 =>
    simp only [F_laws_markIntSS_L1] at hL2
    refine DWp.seq ?_
    refine DWp.seq ?_
    have q4 := (S1_.rd (k := 0) rfl).lenG (P := Try.prog) el_23
    refine DWp.region fun K hK => ?_
    simp [-aBin', -aBin, -aBinI, -aUn, -aNil, -flatV, n_fn, b_add, b_sub, b_mul, b_lt, b_le, b_gt, b_ge, b_eq, b_ne, u_not, e1_0, e1_1, e1_5, q4]
    apply hK
    clear hK K
    simp only [andThen, leaves]
    refine DWp.cond' (t := (ilt y1_5 (llen l1_0))) (by simp [e1_0, e1_1, e1_5]) (fun hb5 => ?_) (fun hb5 => ?_)
    · replace hL2 := cd_t hb5 hL2
      refine DWp.skip ?_
      simp only [andThen, leaves]
      refine DWp.seq ?_
      refine DWp.block ?_
      obtain ⟨g6, hL2⟩ := gd_some hL2
      have q7 := (S1_.rd (k := 0) rfl).idxG (P := Try.prog) (kk := .i64) el_23 sz_22 g6
      have q8 := (S1_.rd (k := 0) rfl).loadG (P := Try.prog) sz_22 ag_22 g6
      have S9 : Sep G1_ B [rowsX v0 22 3 D1_0 (List.map ints l1_0) (y1_5).toNat, flat (gat nilV D1_0 y1_5) 3 (ints (gat [] l1_0 y1_5))] := S1_.rowOut (fr := ints) (k := 0) rfl [] g6
      obtain ⟨r1, hc10, hL2⟩ := bd_some hL2
      refine DWp.region fun K hK => ?_
      simp [-aBin', -aBin, -aBinI, -aUn, -aNil, -flatV, n_fn, b_add, b_sub, b_mul, b_lt, b_le, b_gt, b_ge, b_eq, b_ne, u_not, e1_0, e1_1, e1_5, q7, q8, (((S1_.rd (k := 0) rfl).rowAt [] g6).tup)]
      have S11 : Sep G1_ B ([flat (gat nilV D1_0 y1_5) 3 (ints (gat [] l1_0 y1_5))] ++ [rowsX v0 22 3 D1_0 (List.map ints l1_0) (y1_5).toNat]) := S9.pick [1, 0] (by decide) rfl
      obtain ⟨B17, S12, U13, M14, R15, C16⟩ := S11.frame (hB.le A1_.1)
      refine CallD.t (F_laws_markIntS_w (fu := fu) U13 S12 hc10) ?_
      rintro _ G19 ⟨a22, rfl, S23⟩
      have A21 := A1_.trans (a22.mono M14)
      have S20 : Sep G19 B [flat (gat nilV D1_0 y1_5) 3 (ints r1.2), rowsX v0 22 3 D1_0 (List.map ints l1_0) (y1_5).toNat] := C16 _ _ a22 S23
      have S24 : Sep G19 B [emp, rowsC v0 22 3 D1_0 (List.map ints (lset l1_0 y1_5 r1.2))] := S20.rowIn (fr := ints) (j := 1) (k := 0) (by decide) rfl rfl g6
      simp [-aBin', -aBin, -aBinI, -aUn, -aNil, -flatV, n_fn, b_add, b_sub, b_mul, b_lt, b_le, b_gt, b_ge, b_eq, b_ne, u_not, e1_0, e1_1, e1_5, q7, q8]
      apply hK
      clear hK K
      simp only [andThen, leaves]
      refine DWp.region fun K hK => ?_
      simp [-aBin', -aBin, -aBinI, -aUn, -aNil, -flatV, n_fn, b_add, b_sub, b_mul, b_lt, b_le, b_gt, b_ge, b_eq, b_ne, u_not, e1_0, e1_1, e1_5]
      apply hK
      clear hK K
      simp only [andThen, leaves]
      have S25 := S24.pick [1] (by decide) rfl
      exact ⟨n1, Nat.lt_succ_self _, (lset l1_0 y1_5 r1.2), r1.1, (iadd .i64 y1_5 1), D1_0, hL2, S25, A21, by simp [e1_0, e1_1, e1_5], by simp [e1_0, e1_1, e1_5], by simp [e1_0, e1_1, e1_5]⟩
    · replace hL2 := cd_f hb5 hL2
      refine DWp.exit ?_
      simp only [andThen, leaves, if_true, if_false, reduceIte, Nat.reduceEqDiff]
      obtain rfl := Option.some.inj hL2
      try dsimp only at hF
      refine DWp.seq ?_
      refine DWp.region fun K hK => ?_
      simp [-aBin', -aBin, -aBinI, -aUn, -aNil, -flatV, n_fn, b_add, b_sub, b_mul, b_lt, b_le, b_gt, b_ge, b_eq, b_ne, u_not, e1_0, e1_1, e1_5]
      apply hK
      clear hK K
      simp only [andThen, leaves]
      refine DWp.ret ?_
      obtain rfl := Option.some.inj hF
      exact ⟨by simp, [(Value.int .i64 y1_1)], by simp [e1_0, e1_1, e1_5], A1_, D1_0, rfl, S1_.pick [0] (by decide) rfl⟩
def F_laws_heldIntSS_L1 (fu : Nat) (k1_0 : List (List Int)) : Nat → Int → Int → Option (LR (Int) (Int × Int))
  | 0, _, _ => none
  | n + 1, y1_1, y1_5 =>
    bif (ilt y1_5 (llen k1_0)) then
      gd (inL k1_0 y1_5) (
      bd (F_laws_heldIntS fu (gat [] k1_0 y1_5) y1_1) fun r1 =>
      bif (ilt r1 0) then
        some (.ret (-1))
      else
        F_laws_heldIntSS_L1 fu k1_0 n r1 (iadd .i64 y1_5 1))
    else
      some (.brk (y1_1, y1_5))
def F_laws_heldIntSS (fu : Nat) (x0 : List (List Int)) (x1 : Int) : Option (Int) :=
  bd (F_laws_heldIntSS_L1 fu x0 fu x1 0) fun s1 =>
  lr s1 fun s1 =>
  some s1.1
theorem F_laws_heldIntSS_w {fu : Nat} {H : AH} {v0 : Value} {x0 : List (List Int)} {x1 : Int} {r : (Int)} (hx0 : SlSl H v0 (List.map ints x0)) (hF : F_laws_heldIntSS fu x0 x1 = some r) :
    ACallT Try.prog 22 [v0, (Value.int .i64 x1)] H (fun u G => AgB (Fr H) H G ∧ u = (Value.int .i64 r) ∧ Sep G (Fr H) []) := by
  refine ACallT.of_body (nt := 21) (rs := [.tmp 4]) Try.func22 rfl rfl rfl rfl ?_
  have A0 : AgB (Fr H) H H := .refl _ _
  have S0 : Sep H (Fr H) [] := .nil
  have hB := Fr.up H
  unfold F_laws_heldIntSS at hF
  obtain ⟨C0, hC0⟩ := hx0.rd
  refine DWp.seq ?_
  refine DWp.region fun K hK => ?_
  simp [-aBin', -aBin, -aBinI, -aUn, -aNil, -flatV, n_fn, b_add, b_sub, b_mul, b_lt, b_le, b_gt, b_ge, b_eq, b_ne, u_not]
  apply hK
  clear hK K
  simp only [andThen, leaves]
  refine DWp.seq ?_
  refine DWp.seq ?_
  refine DWp.region fun K hK => ?_
  simp [-aBin', -aBin, -aBinI, -aUn, -aNil, -flatV, n_fn, b_add, b_sub, b_mul, b_lt, b_le, b_gt, b_ge, b_eq, b_ne, u_not]
  apply hK
  clear hK K
  simp only [andThen, leaves]
  refine DWp.block ?_
  obtain ⟨s1, hL2, hF⟩ := bd_some hF
  have S3 := S0.pick [] (by decide) rfl
  refine DWp.loop (fun n env G => ∃ y1_1 : Int, ∃ y1_5 : Int, F_laws_heldIntSS_L1 fu x0 n y1_1 y1_5 = some s1 ∧ Sep G (Fr H) [] ∧ AgB (Fr H) H G ∧ env 0 = some v0 ∧ env 1 = some (Value.int .i64 y1_1) ∧ env 5 = some (Value.int .i64 y1_5)) fu ⟨x1, 0, hL2, S3, A0, by simp [], by simp [], by simp []⟩ ?_
  rintro n1 env1 G1_ ⟨y1_1, y1_5, hL2, S1_, A1_, e1_0, e1_1, e1_5⟩
  cases n1 with
  | zero => cases hL2
  | succ n1 =>
    simp only [F_laws_heldIntSS_L1] at hL2
    refine DWp.seq ?_
    refine DWp.seq ?_
    have q4 := (hC0.agree A1_.agree).lenG (P := Try.prog) el_23
    refine DWp.region fun K hK => ?_
    simp [-aBin', -aBin, -aBinI, -aUn, -aNil, -flatV, n_fn, b_add, b_sub, b_mul, b_lt, b_le, b_gt, b_ge, b_eq, b_ne, u_not, e1_0, e1_1, e1_5, q4]
    apply hK
    clear hK K
    simp only [andThen, leaves]
    refine DWp.cond' (t := (ilt y1_5 (llen x0))) (by simp [e1_0, e1_1, e1_5]) (fun hb5 => ?_) (fun hb5 => ?_)
    · replace hL2 := cd_t hb5 hL2
      refine DWp.skip ?_
      simp only [andThen, leaves]
      refine DWp.seq ?_
      refine DWp.block ?_
      refine DWp.seq ?_
      obtain ⟨g6, hL2⟩ := gd_some hL2
      have q7 := (hC0.agree A1_.agree).idxG (P := Try.prog) (kk := .i64) el_23 sz_22 g6
      have q8 := (hC0.agree A1_.agree).loadG (P := Try.prog) sz_22 ag_22 g6
      obtain ⟨r1, hc9, hL2⟩ := bd_some hL2
      refine DWp.region fun K hK => ?_
      simp [-aBin', -aBin, -aBinI, -aUn, -aNil, -flatV, n_fn, b_add, b_sub, b_mul, b_lt, b_le, b_gt, b_ge, b_eq, b_ne, u_not, e1_0, e1_1, e1_5, q7, q8, (((hC0.agree A1_.agree).rowAt [] g6).tup)]
      refine CallD.t (F_laws_heldIntS_w (fu := fu) ((hC0.agree A1_.agree).rowAt [] g6) hc9) ?_
      rintro _ G11 ⟨a14, rfl, S15⟩
      have A13 := A1_.ext (hB.le A1_.1) a14.agree
      have S12 : Sep G11 (Fr H) [] := S1_.app a14.agree S15 (fun _ h => h) (hB.le A1_.1)
      simp [-aBin', -aBin, -aBinI, -aUn, -aNil, -flatV, n_fn, b_add, b_sub, b_mul, b_lt, b_le, b_gt, b_ge, b_eq, b_ne, u_not, e1_0, e1_1, e1_5, q7, q8, a14.pre]
      apply hK
      clear hK K
      simp only [andThen, leaves]
      refine DWp.seq ?_
      refine DWp.region fun K hK => ?_
      simp [-aBin', -aBin, -aBinI, -aUn, -aNil, -flatV, n_fn, b_add, b_sub, b_mul, b_lt, b_le, b_gt, b_ge, b_eq, b_ne, u_not, e1_0, e1_1, e1_5]
      apply hK
      clear hK K
      simp only [andThen, leaves]
      refine DWp.cond' (t := (ilt r1 0)) (by simp [e1_0, e1_1, e1_5]) (fun hb16 => ?_) (fun hb16 => ?_)
      · replace hL2 := cd_t hb16 hL2
        refine DWp.seq ?_
        refine DWp.region fun K hK => ?_
        simp [-aBin', -aBin, -aBinI, -aUn, -aNil, -flatV, n_fn, b_add, b_sub, b_mul, b_lt, b_le, b_gt, b_ge, b_eq, b_ne, u_not, e1_0, e1_1, e1_5]
        apply hK
        clear hK K
        simp only [andThen, leaves]
        refine DWp.ret ?_
        simp only [andThen, leaves]
        obtain rfl := Option.some.inj hL2
        simp only [lr] at hF
        obtain rfl := Option.some.inj hF
        exact ⟨by simp, [(Value.int .i64 (-1))], by simp [e1_0, e1_1, e1_5], A13, rfl, S12.pick [] (by decide) rfl⟩
      · replace hL2 := cd_f hb16 hL2
        refine DWp.skip ?_
        simp only [andThen, leaves]
        refine DWp.region fun K hK => ?_
        simp [-aBin', -aBin, -aBinI, -aUn, -aNil, -flatV, n_fn, b_add, b_sub, b_mul, b_lt, b_le, b_gt, b_ge, b_eq, b_ne, u_not, e1_0, e1_1, e1_5]
        apply hK
        clear hK K
        simp only [andThen, leaves]
        have S17 := S12.pick [] (by decide) rfl
        exact ⟨n1, Nat.lt_succ_self _, r1, (iadd .i64 y1_5 1), hL2, S17, A13, by simp [e1_0, e1_1, e1_5], by simp [e1_0, e1_1, e1_5], by simp [e1_0, e1_1, e1_5]⟩
    · replace hL2 := cd_f hb5 hL2
      refine DWp.exit ?_
      simp only [andThen, leaves, if_true, if_false, reduceIte, Nat.reduceEqDiff]
      obtain rfl := Option.some.inj hL2
      simp only [lr] at hF
      refine DWp.seq ?_
      refine DWp.region fun K hK => ?_
      simp [-aBin', -aBin, -aBinI, -aUn, -aNil, -flatV, n_fn, b_add, b_sub, b_mul, b_lt, b_le, b_gt, b_ge, b_eq, b_ne, u_not, e1_0, e1_1, e1_5]
      apply hK
      clear hK K
      simp only [andThen, leaves]
      refine DWp.ret ?_
      obtain rfl := Option.some.inj hF
      exact ⟨by simp, [(Value.int .i64 y1_1)], by simp [e1_0, e1_1, e1_5], A1_, rfl, S1_.pick [] (by decide) rfl⟩
def F_spec_exStep_L1 (fu : Nat) (k1_0 : List Int) (k1_1 : List Int) (k1_2 : Int) (k1_3 : Int) (k1_4 : List (List Int)) (k1_5 : Int) : Nat → Int → Option (LR (List Int × Bool) (Int))
  | 0, _ => none
  | n + 1, y1_19 =>
    bif (ilt y1_19 k1_5) then
      gd (inL k1_4 y1_19) (
      gd (inL (gat [] k1_4 y1_19) 0) (
      gd (inL (gat [] k1_4 y1_19) 1) (
      bd (F_spec_exAt fu k1_0 (gat 0 (gat [] k1_4 y1_19) 0) (gat 0 (gat [] k1_4 y1_19) 1)) fun r3 =>
      bd (F_spec_meCount fu r3 k1_1) fun r4 =>
      bif (ieq r4 (iadd .i64 k1_3 k1_2)) then
        some (.ret (r3, true))
      else
        F_spec_exStep_L1 fu k1_0 k1_1 k1_2 k1_3 k1_4 k1_5 n (iadd .i64 y1_19 1))))
    else
      some (.brk y1_19)
def F_spec_exStep (fu : Nat) (x0 : List Int) (x1 : List Int) (x2 : Int) : Option (List Int × Bool) :=
  bd (F_spec_meCount fu x0 x1) fun r1 =>
  bd (F_spec_exPairs fu x0) fun r2 =>
  bd (F_spec_exStep_L1 fu x0 x1 x2 r1 r2 (llen r2) fu 0) fun s1 =>
  lr s1 fun s1 =>
  some ([], false)
theorem F_spec_exStep_w {fu : Nat} {H : AH} {v0 : Value} {v1 : Value} {x0 : List Int} {x1 : List Int} {x2 : Int} {r : (List Int × Bool)} (hx0 : Sl H v0 (ints x0)) (hx1 : Sl H v1 (ints x1)) (hF : F_spec_exStep fu x0 x1 x2 = some r) :
    ACallT Try.prog 108 [v0, v1, (Value.int .i64 x2)] H (fun u G => AgB (Fr H) H G ∧ ∃ u0 : Value, u = (Value.tuple #[u0, (Value.bool r.2)]) ∧ Sep G (Fr H) [flat u0 3 (ints r.1)]) := by
  refine ACallT.of_body (nt := 41) (rs := [.tmp 6, .tmp 7]) Try.func108 rfl rfl rfl rfl ?_
  have A0 : AgB (Fr H) H H := .refl _ _
  have S0 : Sep H (Fr H) [] := .nil
  have hB := Fr.up H
  unfold F_spec_exStep at hF
  refine DWp.seq ?_
  refine DWp.region fun K hK => ?_
  simp [-aBin', -aBin, -aBinI, -aUn, -aNil, -flatV, n_fn, b_add, b_sub, b_mul, b_lt, b_le, b_gt, b_ge, b_eq, b_ne, u_not]
  apply hK
  clear hK K
  simp only [andThen, leaves]
  refine DWp.seq ?_
  obtain ⟨r1, hc1, hF⟩ := bd_some hF
  refine DWp.region fun K hK => ?_
  simp [-aBin', -aBin, -aBinI, -aUn, -aNil, -flatV, n_fn, b_add, b_sub, b_mul, b_lt, b_le, b_gt, b_ge, b_eq, b_ne, u_not, bu_38 ((hx0.agree A0.agree).tup) ((hx0.agree A0.agree).one) ((hx1.agree A0.agree).tup) ((hx1.agree A0.agree).one), ((hx0.agree A0.agree).tup), ((hx1.agree A0.agree).tup)]
  refine CallD.t (F_spec_meCount_w (fu := fu) (hx0.agree A0.agree) (hx1.agree A0.agree) hc1) ?_
  rintro _ G3 ⟨a6, rfl, S7⟩
  have A5 := A0.ext (hB.le A0.1) a6.agree
  have S4 : Sep G3 (Fr H) [] := S0.app a6.agree S7 (fun _ h => h) (hB.le A0.1)
  simp [-aBin', -aBin, -aBinI, -aUn, -aNil, -flatV, n_fn, b_add, b_sub, b_mul, b_lt, b_le, b_gt, b_ge, b_eq, b_ne, u_not, bu_38 ((hx0.agree A0.agree).tup) ((hx0.agree A0.agree).one) ((hx1.agree A0.agree).tup) ((hx1.agree A0.agree).one), a6.pre]
  apply hK
  clear hK K
  simp only [andThen, leaves]
  refine DWp.seq ?_
  refine DWp.seq ?_
  obtain ⟨r2, hc8, hF⟩ := bd_some hF
  refine DWp.region fun K hK => ?_
  simp [-aBin', -aBin, -aBinI, -aUn, -aNil, -flatV, n_fn, b_add, b_sub, b_mul, b_lt, b_le, b_gt, b_ge, b_eq, b_ne, u_not, ((hx0.agree A5.agree).tup)]
  refine CallD.t (F_spec_exPairs_w (fu := fu) (hx0.agree A5.agree) hc8) ?_
  rintro c9_u0 G10 ⟨a13, _, c9_C0, rfl, S14⟩
  have A12 := A5.ext (hB.le A5.1) a13.agree
  have S11 : Sep G10 (Fr H) [rowsC c9_u0 22 3 c9_C0 (List.map ints r2)] := S4.app a13.agree S14 (fun _ h => h) (hB.le A5.1)
  have q15 := (S11.rd (k := 0) rfl).lenG (P := Try.prog) el_23
  simp [-aBin', -aBin, -aBinI, -aUn, -aNil, -flatV, n_fn, b_add, b_sub, b_mul, b_lt, b_le, b_gt, b_ge, b_eq, b_ne, u_not, a13.pre, q15]
  apply hK
  clear hK K
  simp only [andThen, leaves]
  refine DWp.block ?_
  obtain ⟨s16, hL17, hF⟩ := bd_some hF
  have S18 := S11.pick [0] (by decide) rfl
  refine DWp.loop (fun n env G => ∃ y1_19 : Int, F_spec_exStep_L1 fu x0 x1 x2 r1 r2 (llen r2) n y1_19 = some s16 ∧ Sep G (Fr H) [rowsC c9_u0 22 3 c9_C0 (List.map ints r2)] ∧ AgB (Fr H) H G ∧ env 0 = some v0 ∧ env 1 = some v1 ∧ env 2 = some (Value.int .i64 x2) ∧ env 8 = some (Value.int .i64 r1) ∧ env 17 = some c9_u0 ∧ env 18 = some (Value.int .i64 (llen r2)) ∧ env 19 = some (Value.int .i64 y1_19)) fu ⟨0, hL17, S18, A12, by simp [], by simp [], by simp [], by simp [], by simp [], by simp [], by simp []⟩ ?_
  rintro n1 env1 G1_ ⟨y1_19, hL17, S1_, A1_, e1_0, e1_1, e1_2, e1_8, e1_17, e1_18, e1_19⟩
  cases n1 with
  | zero => cases hL17
  | succ n1 =>
    simp only [F_spec_exStep_L1] at hL17
    refine DWp.seq ?_
    refine DWp.region fun K hK => ?_
    simp [-aBin', -aBin, -aBinI, -aUn, -aNil, -flatV, n_fn, b_add, b_sub, b_mul, b_lt, b_le, b_gt, b_ge, b_eq, b_ne, u_not, e1_0, e1_1, e1_2, e1_8, e1_17, e1_18, e1_19]
    apply hK
    clear hK K
    simp only [andThen, leaves]
    refine DWp.seq ?_
    refine DWp.cond' (t := (ilt y1_19 (llen r2))) (by simp [e1_0, e1_1, e1_2, e1_8, e1_17, e1_18, e1_19]) (fun hb19 => ?_) (fun hb19 => ?_)
    · replace hL17 := cd_t hb19 hL17
      refine DWp.skip ?_
      simp only [andThen, leaves]
      refine DWp.seq ?_
      refine DWp.block ?_
      refine DWp.seq ?_
      obtain ⟨g20, hL17⟩ := gd_some hL17
      have q21 := (S1_.rd (k := 0) rfl).idxG (P := Try.prog) (kk := .i64) el_23 sz_22 g20
      have q22 := (S1_.rd (k := 0) rfl).loadG (P := Try.prog) sz_22 ag_22 g20
      refine DWp.region fun K hK => ?_
      simp [-aBin', -aBin, -aBinI, -aUn, -aNil, -flatV, n_fn, b_add, b_sub, b_mul, b_lt, b_le, b_gt, b_ge, b_eq, b_ne, u_not, e1_0, e1_1, e1_2, e1_8, e1_17, e1_18, e1_19, q21, q22]
      apply hK
      clear hK K
      simp only [andThen, leaves]
      refine DWp.seq ?_
      obtain ⟨g23, hL17⟩ := gd_some hL17
      have q24 := idxG (P := Try.prog) (kk := .i64) ((S1_.rd (k := 0) rfl).rowAt [] g20) el_22 sz_3 g23
      replace q24 : aIndexAddr Try.prog G1_ 22 (gat nilV c9_C0 y1_19) (Value.int .i64 0) = some (elP (gat nilV c9_C0 y1_19) 0) := q24
      have q25 := loadG (P := Try.prog) ((S1_.rd (k := 0) rfl).rowAt [] g20) sz_3 ag_3 g23 0
      replace q25 : aLoad Try.prog G1_ 3 (elP (gat nilV c9_C0 y1_19) 0) = some (Value.int .i64 (gat 0 (gat [] r2 y1_19) 0)) := q25
      obtain ⟨g26, hL17⟩ := gd_some hL17
      have q27 := idxG (P := Try.prog) (kk := .i64) ((S1_.rd (k := 0) rfl).rowAt [] g20) el_22 sz_3 g26
      replace q27 : aIndexAddr Try.prog G1_ 22 (gat nilV c9_C0 y1_19) (Value.int .i64 1) = some (elP (gat nilV c9_C0 y1_19) 1) := q27
      have q28 := loadG (P := Try.prog) ((S1_.rd (k := 0) rfl).rowAt [] g20) sz_3 ag_3 g26 0
      replace q28 : aLoad Try.prog G1_ 3 (elP (gat nilV c9_C0 y1_19) 1) = some (Value.int .i64 (gat 0 (gat [] r2 y1_19) 1)) := q28
      obtain ⟨r3, hc29, hL17⟩ := bd_some hL17
      refine DWp.drawn (B := [0, 0, 2, 6, 0, 16, 48, 127, 255]) 9 mixed (by kernel_rfl) (by decide) fun K hK => ?_
      simp [-aBin', -aBin, -aBinI, -aUn, -aNil, -flatV, n_fn, b_add, b_sub, b_mul, b_lt, b_le, b_gt, b_ge, b_eq, b_ne, u_not, e1_0, e1_1, e1_2, e1_8, e1_17, e1_18, e1_19, q24, q25, q27, q28, ((hx0.agree A1_.agree).tup)]
      refine CallD.t (F_spec_exAt_w (fu := fu) (hx0.agree A1_.agree) hc29) ?_
      rintro c30_u0 G31 ⟨a34, _, rfl, S35⟩
      have A33 := A1_.ext (hB.le A1_.1) a34.agree
      have S32 : Sep G31 (Fr H) [rowsC c9_u0 22 3 c9_C0 (List.map ints r2), flat c30_u0 3 (ints r3)] := S1_.app a34.agree S35 (fun _ h => h) (hB.le A1_.1)
      simp [-aBin', -aBin, -aBinI, -aUn, -aNil, -flatV, n_fn, b_add, b_sub, b_mul, b_lt, b_le, b_gt, b_ge, b_eq, b_ne, u_not, e1_0, e1_1, e1_2, e1_8, e1_17, e1_18, e1_19, q24, q25, q27, q28, a34.pre]
      apply hK
      clear hK K
      simp only [andThen, leaves]
      refine DWp.seq ?_
      obtain ⟨r4, hc36, hL17⟩ := bd_some hL17
      refine DWp.region fun K hK => ?_
      simp [-aBin', -aBin, -aBinI, -aUn, -aNil, -flatV, n_fn, b_add, b_sub, b_mul, b_lt, b_le, b_gt, b_ge, b_eq, b_ne, u_not, e1_0, e1_1, e1_2, e1_8, e1_17, e1_18, e1_19, bu_38 ((S32.sl (k := 1) rfl).tup) ((S32.sl (k := 1) rfl).one) ((hx1.agree A33.agree).tup) ((hx1.agree A33.agree).one), ((S32.sl (k := 1) rfl).tup), ((hx1.agree A33.agree).tup)]
      refine CallD.t (F_spec_meCount_w (fu := fu) (S32.sl (k := 1) rfl) (hx1.agree A33.agree) hc36) ?_
      rintro _ G38 ⟨a41, rfl, S42⟩
      have A40 := A33.ext (hB.le A33.1) a41.agree
      have S39 : Sep G38 (Fr H) [rowsC c9_u0 22 3 c9_C0 (List.map ints r2), flat c30_u0 3 (ints r3)] := S32.app a41.agree S42 (fun _ h => h) (hB.le A33.1)
      simp [-aBin', -aBin, -aBinI, -aUn, -aNil, -flatV, n_fn, b_add, b_sub, b_mul, b_lt, b_le, b_gt, b_ge, b_eq, b_ne, u_not, e1_0, e1_1, e1_2, e1_8, e1_17, e1_18, e1_19, bu_38 ((S32.sl (k := 1) rfl).tup) ((S32.sl (k := 1) rfl).one) ((hx1.agree A33.agree).tup) ((hx1.agree A33.agree).one), a41.pre]
      apply hK
      clear hK K
      simp only [andThen, leaves]
      refine DWp.cond' (t := (ieq r4 (iadd .i64 r1 x2))) (by simp [e1_0, e1_1, e1_2, e1_8, e1_17, e1_18, e1_19]) (fun hb43 => ?_) (fun hb43 => ?_)
      · replace hL17 := cd_t hb43 hL17
        refine DWp.seq ?_
        refine DWp.region fun K hK => ?_
        simp [-aBin', -aBin, -aBinI, -aUn, -aNil, -flatV, n_fn, b_add, b_sub, b_mul, b_lt, b_le, b_gt, b_ge, b_eq, b_ne, u_not, e1_0, e1_1, e1_2, e1_8, e1_17, e1_18, e1_19]
        apply hK
        clear hK K
        simp only [andThen, leaves]
        refine DWp.ret ?_
        simp only [andThen, leaves]
        obtain rfl := Option.some.inj hL17
        simp only [lr] at hF
        obtain rfl := Option.some.inj hF
        exact ⟨by simp, [c30_u0, (Value.bool true)], by simp [e1_0, e1_1, e1_2, e1_8, e1_17, e1_18, e1_19, ((S39.sl (k := 1) rfl).tup)], A40, c30_u0, rfl, S39.pick [1] (by decide) rfl⟩
      · replace hL17 := cd_f hb43 hL17
        refine DWp.skip ?_
        simp only [andThen, leaves]
        refine DWp.region fun K hK => ?_
        simp [-aBin', -aBin, -aBinI, -aUn, -aNil, -flatV, n_fn, b_add, b_sub, b_mul, b_lt, b_le, b_gt, b_ge, b_eq, b_ne, u_not, e1_0, e1_1, e1_2, e1_8, e1_17, e1_18, e1_19]
        apply hK
        clear hK K
        simp only [andThen, leaves]
        have S44 := S39.pick [0] (by decide) rfl
        exact ⟨n1, Nat.lt_succ_self _, (iadd .i64 y1_19 1), hL17, S44, A40, by simp [e1_0, e1_1, e1_2, e1_8, e1_17, e1_18, e1_19], by simp [e1_0, e1_1, e1_2, e1_8, e1_17, e1_18, e1_19], by simp [e1_0, e1_1, e1_2, e1_8, e1_17, e1_18, e1_19], by simp [e1_0, e1_1, e1_2, e1_8, e1_17, e1_18, e1_19], by simp [e1_0, e1_1, e1_2, e1_8, e1_17, e1_18, e1_19], by simp [e1_0, e1_1, e1_2, e1_8, e1_17, e1_18, e1_19], by simp [e1_0, e1_1, e1_2, e1_8, e1_17, e1_18, e1_19]⟩
    · replace hL17 := cd_f hb19 hL17
      refine DWp.exit ?_
      simp only [andThen, leaves, if_true, if_false, reduceIte, Nat.reduceEqDiff]
      obtain rfl := Option.some.inj hL17
      simp only [lr] at hF
      refine DWp.seq ?_
      refine DWp.region fun K hK => ?_
      simp [-aBin', -aBin, -aBinI, -aUn, -aNil, -flatV, n_fn, b_add, b_sub, b_mul, b_lt, b_le, b_gt, b_ge, b_eq, b_ne, u_not, e1_0, e1_1, e1_2, e1_8, e1_17, e1_18, e1_19]
      apply hK
      clear hK K
      simp only [andThen, leaves]
      refine DWp.ret ?_
      have S45 := S1_.nilItem (hB.le A1_.1) 3
      obtain rfl := Option.some.inj hF
      exact ⟨by simp, [(Value.slice none 0 0), (Value.bool false)], by simp [e1_0, e1_1, e1_2, e1_8, e1_17, e1_18, e1_19], A1_, (Value.slice none 0 0), rfl, S45.pick [1] (by decide) rfl⟩
end Go.Proofs.Ytdghlhdpcmemjaa.AL

/- The walks of functions, each with its Lean function: impl.CountExchanges, laws.eqIntS, laws.FnExactCountExchanges, spec.l1Own, spec.exAt, spec.ExchangeAt, slices.Index[[][2]int,[2]int], slices.Contains[[][2]int,[2]int], slices.Clone[[]int,int], impl.exchanged$1. No condition. -/
import Derived.Test.YtdghlhdpcmemjaaFBD
import Derived.Test.YtdghlhdpcmemjaaFBE
import Derived.Test.YtdghlhdpcmemjaaG1
import Derived.Test.YtdghlhdpcmemjaaG2
import Derived.Test.YtdghlhdpcmemjaaG3
import Derived.Test.YtdghlhdpcmemjaaALD
import Derived.Test.YtdghlhdpcmemjaaProg
import Derived.KernelRfl
namespace Go.Proofs.Ytdghlhdpcmemjaa.AL
open Go Go.RowKit
set_option linter.unusedVariables false
set_option linter.unusedSimpArgs false
set_option maxRecDepth 4096
theorem un_4 : Try.prog.underlying 4 = some .bool := by kernel_rfl
theorem us_22 : Try.prog.underlying 22 = some (.slice 3) := by kernel_rfl
def F_laws_eqIntS_L1 (fu : Nat) (k1_0 : List Int) (k1_1 : List Int) : Nat → Int → Option (LR (Bool) (Int))
  | 0, _ => none
  | n + 1, y1_5 =>
    bif (ilt y1_5 (llen k1_0)) then
      gd (inL k1_0 y1_5) (
      gd (inL k1_1 y1_5) (
      bif (ine (gat 0 k1_0 y1_5) (gat 0 k1_1 y1_5)) then
        some (.ret false)
      else
        F_laws_eqIntS_L1 fu k1_0 k1_1 n (iadd .i64 y1_5 1)))
    else
      some (.brk y1_5)
def F_laws_eqIntS (fu : Nat) (x0 : List Int) (x1 : List Int) : Option (Bool) :=
  bif (ine (llen x0) (llen x1)) then
    some false
  else
    bd (F_laws_eqIntS_L1 fu x0 x1 fu 0) fun s1 =>
    lr s1 fun s1 =>
    some true
theorem F_laws_eqIntS_w {fu : Nat} {H : AH} {v0 : Value} {v1 : Value} {x0 : List Int} {x1 : List Int} {r : (Bool)} (hx0 : Sl H v0 (ints x0)) (hx1 : Sl H v1 (ints x1)) (hF : F_laws_eqIntS fu x0 x1 = some r) :
    ACallT Try.prog 19 [v0, v1] H (fun u G => AgB (Fr H) H G ∧ u = (Value.bool r) ∧ Sep G (Fr H) []) := by
  refine ACallT.of_body (nt := 26) (rs := [.tmp 4]) Try.func19 rfl rfl rfl rfl ?_
  have A0 : AgB (Fr H) H H := .refl _ _
  have S0 : Sep H (Fr H) [] := .nil
  have hB := Fr.up H
  unfold F_laws_eqIntS at hF
  refine DWp.seq ?_
  refine DWp.region fun K hK => ?_
  simp [-aBin', -aBin, -aBinI, -aUn, -aNil, -flatV, n_fn, b_add, b_sub, b_mul, b_lt, b_le, b_gt, b_ge, b_eq, b_ne, u_not]
  apply hK
  clear hK K
  simp only [andThen, leaves]
  refine DWp.seq ?_
  refine DWp.seq ?_
  have q1 := lenG (P := Try.prog) (hx0.agree A0.agree) el_22
  have q2 := lenG (P := Try.prog) (hx1.agree A0.agree) el_22
  refine DWp.region fun K hK => ?_
  simp [-aBin', -aBin, -aBinI, -aUn, -aNil, -flatV, n_fn, b_add, b_sub, b_mul, b_lt, b_le, b_gt, b_ge, b_eq, b_ne, u_not, q1, q2]
  apply hK
  clear hK K
  simp only [andThen, leaves]
  refine DWp.cond' (t := (ine (llen x0) (llen x1))) (by simp []) (fun hb3 => ?_) (fun hb3 => ?_)
  · replace hF := cd_t hb3 hF
    refine DWp.seq ?_
    refine DWp.region fun K hK => ?_
    simp [-aBin', -aBin, -aBinI, -aUn, -aNil, -flatV, n_fn, b_add, b_sub, b_mul, b_lt, b_le, b_gt, b_ge, b_eq, b_ne, u_not]
    apply hK
    clear hK K
    simp only [andThen, leaves]
    refine DWp.ret ?_
    simp only [andThen, leaves]
    obtain rfl := Option.some.inj hF
    exact ⟨by simp, [(Value.bool false)], by simp [], A0, rfl, S0.pick [] (by decide) rfl⟩
  · replace hF := cd_f hb3 hF
    refine DWp.skip ?_
    simp only [andThen, leaves]
    refine DWp.seq ?_
    refine DWp.seq ?_
    refine DWp.region fun K hK => ?_
    simp [-aBin', -aBin, -aBinI, -aUn, -aNil, -flatV, n_fn, b_add, b_sub, b_mul, b_lt, b_le, b_gt, b_ge, b_eq, b_ne, u_not]
    apply hK
    clear hK K
    simp only [andThen, leaves]
    refine DWp.block ?_
    obtain ⟨s4, hL5, hF⟩ := bd_some hF
    have S6 := S0.pick [] (by decide) rfl
    refine DWp.loop (fun n env G => ∃ y1_5 : Int, F_laws_eqIntS_L1 fu x0 x1 n y1_5 = some s4 ∧ Sep G (Fr H) [] ∧ AgB (Fr H) H G ∧ env 0 = some v0 ∧ env 1 = some v1 ∧ env 5 = some (Value.int .i64 y1_5)) fu ⟨0, hL5, S6, A0, by simp [], by simp [], by simp []⟩ ?_
    rintro n1 env1 G1_ ⟨y1_5, hL5, S1_, A1_, e1_0, e1_1, e1_5⟩
    cases n1 with
    | zero => cases hL5
    | succ n1 =>
      simp only [F_laws_eqIntS_L1] at hL5
      refine DWp.seq ?_
      refine DWp.seq ?_
      have q7 := lenG (P := Try.prog) (hx0.agree A1_.agree) el_22
      refine DWp.region fun K hK => ?_
      simp [-aBin', -aBin, -aBinI, -aUn, -aNil, -flatV, n_fn, b_add, b_sub, b_mul, b_lt, b_le, b_gt, b_ge, b_eq, b_ne, u_not, e1_0, e1_1, e1_5, q7]
      apply hK
      clear hK K
      simp only [andThen, leaves]
      refine DWp.cond' (t := (ilt y1_5 (llen x0))) (by simp [e1_0, e1_1, e1_5]) (fun hb8 => ?_) (fun hb8 => ?_)
      · replace hL5 := cd_t hb8 hL5
        refine DWp.skip ?_
        simp only [andThen, leaves]
        refine DWp.seq ?_
        refine DWp.block ?_
        refine DWp.seq ?_
        obtain ⟨g9, hL5⟩ := gd_some hL5
        have q10 := idxG (P := Try.prog) (kk := .i64) (hx0.agree A1_.agree) el_22 sz_3 g9
        have q11 := loadG (P := Try.prog) (hx0.agree A1_.agree) sz_3 ag_3 g9 0
        obtain ⟨g12, hL5⟩ := gd_some hL5
        have q13 := idxG (P := Try.prog) (kk := .i64) (hx1.agree A1_.agree) el_22 sz_3 g12
        have q14 := loadG (P := Try.prog) (hx1.agree A1_.agree) sz_3 ag_3 g12 0
        refine DWp.drawn (B := [0, 0, 3, 7, 0, 0, 48, 112, 255]) 9 mixed (by kernel_rfl) (by decide) fun K hK => ?_
        simp [-aBin', -aBin, -aBinI, -aUn, -aNil, -flatV, n_fn, b_add, b_sub, b_mul, b_lt, b_le, b_gt, b_ge, b_eq, b_ne, u_not, e1_0, e1_1, e1_5, q10, q11, q13, q14]
        apply hK
        clear hK K
        simp only [andThen, leaves]
        refine DWp.cond' (t := (ine (gat 0 x0 y1_5) (gat 0 x1 y1_5))) (by simp [e1_0, e1_1, e1_5]) (fun hb15 => ?_) (fun hb15 => ?_)
        · replace hL5 := cd_t hb15 hL5
          refine DWp.seq ?_
          refine DWp.region fun K hK => ?_
          simp [-aBin', -aBin, -aBinI, -aUn, -aNil, -flatV, n_fn, b_add, b_sub, b_mul, b_lt, b_le, b_gt, b_ge, b_eq, b_ne, u_not, e1_0, e1_1, e1_5]
          apply hK
          clear hK K
          simp only [andThen, leaves]
          refine DWp.ret ?_
          simp only [andThen, leaves]
          obtain rfl := Option.some.inj hL5
          simp only [lr] at hF
          obtain rfl := Option.some.inj hF
          exact ⟨by simp, [(Value.bool false)], by simp [e1_0, e1_1, e1_5], A1_, rfl, S1_.pick [] (by decide) rfl⟩
        · replace hL5 := cd_f hb15 hL5
          refine DWp.skip ?_
          simp only [andThen, leaves]
          refine DWp.region fun K hK => ?_
          simp [-aBin', -aBin, -aBinI, -aUn, -aNil, -flatV, n_fn, b_add, b_sub, b_mul, b_lt, b_le, b_gt, b_ge, b_eq, b_ne, u_not, e1_0, e1_1, e1_5]
          apply hK
          clear hK K
          simp only [andThen, leaves]
          have S16 := S1_.pick [] (by decide) rfl
          exact ⟨n1, Nat.lt_succ_self _, (iadd .i64 y1_5 1), hL5, S16, A1_, by simp [e1_0, e1_1, e1_5], by simp [e1_0, e1_1, e1_5], by simp [e1_0, e1_1, e1_5]⟩
      · replace hL5 := cd_f hb8 hL5
        refine DWp.exit ?_
        simp only [andThen, leaves, if_true, if_false, reduceIte, Nat.reduceEqDiff]
        obtain rfl := Option.some.inj hL5
        simp only [lr] at hF
        refine DWp.seq ?_
        refine DWp.region fun K hK => ?_
        simp [-aBin', -aBin, -aBinI, -aUn, -aNil, -flatV, n_fn, b_add, b_sub, b_mul, b_lt, b_le, b_gt, b_ge, b_eq, b_ne, u_not, e1_0, e1_1, e1_5]
        apply hK
        clear hK K
        simp only [andThen, leaves]
        refine DWp.ret ?_
        obtain rfl := Option.some.inj hF
        exact ⟨by simp, [(Value.bool true)], by simp [e1_0, e1_1, e1_5], A1_, rfl, S1_.pick [] (by decide) rfl⟩
def F_spec_l1Own (fu : Nat) (x0 : List Int) : Option (List Int) :=
  gd ((@List.nil Int).length + x0.length ≤ 4294967296) (
  some (lapp (@List.nil Int) x0))
theorem F_spec_l1Own_w {fu : Nat} {H : AH} {v0 : Value} {x0 : List Int} {r : (List Int)} (hx0 : Sl H v0 (ints x0)) (hF : F_spec_l1Own fu x0 = some r) :
    ACallT Try.prog 96 [v0] H (fun u G => AgB (Fr H) H G ∧ ∃ u0 : Value, u = u0 ∧ Sep G (Fr H) [flat u0 3 (ints r)]) := by
  refine ACallT.of_body (nt := 6) (rs := [.tmp 2]) Try.func96 rfl rfl rfl rfl ?_
  have A0 : AgB (Fr H) H H := .refl _ _
  have S0 : Sep H (Fr H) [] := .nil
  have hB := Fr.up H
  unfold F_spec_l1Own at hF
  refine DWp.seq ?_
  refine DWp.region fun K hK => ?_
  simp [-aBin', -aBin, -aBinI, -aUn, -aNil, -flatV, n_fn, b_add, b_sub, b_mul, b_lt, b_le, b_gt, b_ge, b_eq, b_ne, u_not]
  apply hK
  clear hK K
  simp only [andThen, leaves]
  refine DWp.seq ?_
  obtain ⟨v1, G2, q3, S4, a6, _, _⟩ := S0.lit0 (P := Try.prog) (t := 22) (hB.le A0.1) el_22 ei_3 rfl
  have A5 := A0.ext (hB.le A0.1) a6
  replace S4 : Sep G2 (Fr H) [flat1 v1 3 (ints (@List.nil Int))] := S4
  obtain ⟨g8, hF⟩ := gd_some hF
  obtain ⟨v14, G9, q10, S11, a13, _, _⟩ := S4.append1 (f := (Value.int .i64)) (xs := (@List.nil Int)) (ys := x0) (P := Try.prog) (t := 22) (t2 := 22) (k := 0) rfl (hB.le A5.1) el_22 el_22 ei_3 rfl (hx0.agree A5.agree) g8
  have A12 := A5.trans a13
  replace S11 : Sep G9 (Fr H) [flat v14 3 (ints (lapp (@List.nil Int) x0))] := S11
  refine DWp.region fun K hK => ?_
  simp [-aBin', -aBin, -aBinI, -aUn, -aNil, -flatV, n_fn, b_add, b_sub, b_mul, b_lt, b_le, b_gt, b_ge, b_eq, b_ne, u_not, q3, a6.to_pre, q10]
  apply hK
  clear hK K
  simp only [andThen, leaves]
  refine DWp.ret ?_
  obtain rfl := Option.some.inj hF
  exact ⟨by simp, [v14], by simp [((S11.sl (k := 0) rfl).tup)], A12, v14, rfl, S11.pick [0] (by decide) rfl⟩
def F_spec_exAt (fu : Nat) (x0 : List Int) (x1 : Int) (x2 : Int) : Option (List Int) :=
  bd (F_spec_l1Own fu x0) fun r1 =>
  gd (inL x0 x1) (
  gd (inL x0 x2) (
  bif (ilt (gat 0 x0 x1) x2) then
    gd (inL r1 x1) (
    gd (inL (lset r1 x1 (gat 0 x0 x2)) (gat 0 x0 x2)) (
    gd (inL (lset (lset r1 x1 (gat 0 x0 x2)) (gat 0 x0 x2) x1) (gat 0 x0 x1)) (
    gd (inL (lset (lset (lset r1 x1 (gat 0 x0 x2)) (gat 0 x0 x2) x1) (gat 0 x0 x1) x2) x2) (
    some (lset (lset (lset (lset r1 x1 (gat 0 x0 x2)) (gat 0 x0 x2) x1) (gat 0 x0 x1) x2) x2 (gat 0 x0 x1))))))
  else
    gd (inL r1 x1) (
    gd (inL (lset r1 x1 x2) x2) (
    gd (inL (lset (lset r1 x1 x2) x2 x1) (gat 0 x0 x2)) (
    gd (inL (lset (lset (lset r1 x1 x2) x2 x1) (gat 0 x0 x2) (gat 0 x0 x1)) (gat 0 x0 x1)) (
    some (lset (lset (lset (lset r1 x1 x2) x2 x1) (gat 0 x0 x2) (gat 0 x0 x1)) (gat 0 x0 x1) (gat 0 x0 x2))))))))
theorem F_spec_exAt_w {fu : Nat} {H : AH} {v0 : Value} {x0 : List Int} {x1 : Int} {x2 : Int} {r : (List Int)} (hx0 : Sl H v0 (ints x0)) (hF : F_spec_exAt fu x0 x1 x2 = some r) :
    ACallT Try.prog 68 [v0, (Value.int .i64 x1), (Value.int .i64 x2)] H (fun u G => AgB (Fr H) H G ∧ ∃ u0 : Value, u = u0 ∧ Sep G (Fr H) [flat u0 3 (ints r)]) := by
  refine ACallT.of_body (nt := 56) (rs := [.tmp 6]) Try.func68 rfl rfl rfl rfl ?_
  have A0 : AgB (Fr H) H H := .refl _ _
  have S0 : Sep H (Fr H) [] := .nil
  have hB := Fr.up H
  unfold F_spec_exAt at hF
  refine DWp.seq ?_
  refine DWp.region fun K hK => ?_
  simp [-aBin', -aBin, -aBinI, -aUn, -aNil, -flatV, n_fn, b_add, b_sub, b_mul, b_lt, b_le, b_gt, b_ge, b_eq, b_ne, u_not]
  apply hK
  clear hK K
  simp only [andThen, leaves]
  refine DWp.seq ?_
  obtain ⟨r1, hc1, hF⟩ := bd_some hF
  refine DWp.region fun K hK => ?_
  simp [-aBin', -aBin, -aBinI, -aUn, -aNil, -flatV, n_fn, b_add, b_sub, b_mul, b_lt, b_le, b_gt, b_ge, b_eq, b_ne, u_not, ((hx0.agree A0.agree).tup)]
  refine CallD.t (F_spec_l1Own_w (fu := fu) (hx0.agree A0.agree) hc1) ?_
  rintro c2_u0 G3 ⟨a6, _, rfl, S7⟩
  have A5 := A0.ext (hB.le A0.1) a6.agree
  have S4 : Sep G3 (Fr H) [flat c2_u0 3 (ints r1)] := S0.app a6.agree S7 (fun _ h => h) (hB.le A0.1)
  simp [-aBin', -aBin, -aBinI, -aUn, -aNil, -flatV, n_fn, b_add, b_sub, b_mul, b_lt, b_le, b_gt, b_ge, b_eq, b_ne, u_not, a6.pre]
  apply hK
  clear hK K
  simp only [andThen, leaves]
  refine DWp.seq ?_
  obtain ⟨g8, hF⟩ := gd_some hF
  have q9 := idxG (P := Try.prog) (kk := .i64) (hx0.agree A5.agree) el_22 sz_3 g8
  have q10 := loadG (P := Try.prog) (hx0.agree A5.agree) sz_3 ag_3 g8 0
  obtain ⟨g11, hF⟩ := gd_some hF
  have q12 := idxG (P := Try.prog) (kk := .i64) (hx0.agree A5.agree) el_22 sz_3 g11
  have q13 := loadG (P := Try.prog) (hx0.agree A5.agree) sz_3 ag_3 g11 0
  refine DWp.drawn (B := [0, 0, 3, 7, 0, 0, 48, 112, 15, 511]) 10 mixed (by kernel_rfl) (by decide) fun K hK => ?_
  simp [-aBin', -aBin, -aBinI, -aUn, -aNil, -flatV, n_fn, b_add, b_sub, b_mul, b_lt, b_le, b_gt, b_ge, b_eq, b_ne, u_not, q9, q10, q12, q13]
  apply hK
  clear hK K
  simp only [andThen, leaves]
  refine DWp.seq ?_
  refine DWp.seq ?_
  refine DWp.region fun K hK => ?_
  simp [-aBin', -aBin, -aBinI, -aUn, -aNil, -flatV, n_fn, b_add, b_sub, b_mul, b_lt, b_le, b_gt, b_ge, b_eq, b_ne, u_not]
  apply hK
  clear hK K
  simp only [andThen, leaves]
  refine DWp.cond' (t := (ilt (gat 0 x0 x1) x2)) (by simp []) (fun hb14 => ?_) (fun hb14 => ?_)
  · replace hF := cd_t hb14 hF
    refine DWp.seq ?_
    obtain ⟨g15, hF⟩ := gd_some hF
    have q16 := idxG (P := Try.prog) (kk := .i64) (S4.sl (k := 0) rfl) el_22 sz_3 g15
    obtain ⟨G17, q18, S19, a21⟩ := S4.storeG (f := (Value.int .i64)) (P := Try.prog) (k := 0) (x := (gat 0 x0 x2)) rfl (hB.le A5.1) sz_3 g15 rfl rfl
    have A20 := A5.trans a21
    replace S19 : Sep G17 (Fr H) [flat c2_u0 3 (ints (lset r1 x1 (gat 0 x0 x2)))] := S19
    refine DWp.region fun K hK => ?_
    simp [-aBin', -aBin, -aBinI, -aUn, -aNil, -flatV, n_fn, b_add, b_sub, b_mul, b_lt, b_le, b_gt, b_ge, b_eq, b_ne, u_not, q16, q18]
    apply hK
    clear hK K
    simp only [andThen, leaves]
    refine DWp.seq ?_
    obtain ⟨g22, hF⟩ := gd_some hF
    have q23 := idxG (P := Try.prog) (kk := .i64) (S19.sl (k := 0) rfl) el_22 sz_3 g22
    obtain ⟨G24, q25, S26, a28⟩ := S19.storeG (f := (Value.int .i64)) (P := Try.prog) (k := 0) (x := x1) rfl (hB.le A20.1) sz_3 g22 rfl rfl
    have A27 := A20.trans a28
    replace S26 : Sep G24 (Fr H) [flat c2_u0 3 (ints (lset (lset r1 x1 (gat 0 x0 x2)) (gat 0 x0 x2) x1))] := S26
    refine DWp.region fun K hK => ?_
    simp [-aBin', -aBin, -aBinI, -aUn, -aNil, -flatV, n_fn, b_add, b_sub, b_mul, b_lt, b_le, b_gt, b_ge, b_eq, b_ne, u_not, q23, q25]
    apply hK
    clear hK K
    simp only [andThen, leaves]
    refine DWp.seq ?_
    obtain ⟨g29, hF⟩ := gd_some hF
    have q30 := idxG (P := Try.prog) (kk := .i64) (S26.sl (k := 0) rfl) el_22 sz_3 g29
    obtain ⟨G31, q32, S33, a35⟩ := S26.storeG (f := (Value.int .i64)) (P := Try.prog) (k := 0) (x := x2) rfl (hB.le A27.1) sz_3 g29 rfl rfl
    have A34 := A27.trans a35
    replace S33 : Sep G31 (Fr H) [flat c2_u0 3 (ints (lset (lset (lset r1 x1 (gat 0 x0 x2)) (gat 0 x0 x2) x1) (gat 0 x0 x1) x2))] := S33
    refine DWp.region fun K hK => ?_
    simp [-aBin', -aBin, -aBinI, -aUn, -aNil, -flatV, n_fn, b_add, b_sub, b_mul, b_lt, b_le, b_gt, b_ge, b_eq, b_ne, u_not, q30, q32]
    apply hK
    clear hK K
    simp only [andThen, leaves]
    obtain ⟨g36, hF⟩ := gd_some hF
    have q37 := idxG (P := Try.prog) (kk := .i64) (S33.sl (k := 0) rfl) el_22 sz_3 g36
    obtain ⟨G38, q39, S40, a42⟩ := S33.storeG (f := (Value.int .i64)) (P := Try.prog) (k := 0) (x := (gat 0 x0 x1)) rfl (hB.le A34.1) sz_3 g36 rfl rfl
    have A41 := A34.trans a42
    replace S40 : Sep G38 (Fr H) [flat c2_u0 3 (ints (lset (lset (lset (lset r1 x1 (gat 0 x0 x2)) (gat 0 x0 x2) x1) (gat 0 x0 x1) x2) x2 (gat 0 x0 x1)))] := S40
    refine DWp.region fun K hK => ?_
    simp [-aBin', -aBin, -aBinI, -aUn, -aNil, -flatV, n_fn, b_add, b_sub, b_mul, b_lt, b_le, b_gt, b_ge, b_eq, b_ne, u_not, q37, q39]
    apply hK
    clear hK K
    simp only [andThen, leaves]
    refine DWp.seq ?_
    refine DWp.region fun K hK => ?_
    simp [-aBin', -aBin, -aBinI, -aUn, -aNil, -flatV, n_fn, b_add, b_sub, b_mul, b_lt, b_le, b_gt, b_ge, b_eq, b_ne, u_not]
    apply hK
    clear hK K
    simp only [andThen, leaves]
    refine DWp.ret ?_
    obtain rfl := Option.some.inj hF
    exact ⟨by simp, [c2_u0], by simp [((S40.sl (k := 0) rfl).tup)], A41, c2_u0, rfl, S40.pick [0] (by decide) rfl⟩
  · replace hF := cd_f hb14 hF
    refine DWp.seq ?_
    obtain ⟨g43, hF⟩ := gd_some hF
    have q44 := idxG (P := Try.prog) (kk := .i64) (S4.sl (k := 0) rfl) el_22 sz_3 g43
    obtain ⟨G45, q46, S47, a49⟩ := S4.storeG (f := (Value.int .i64)) (P := Try.prog) (k := 0) (x := x2) rfl (hB.le A5.1) sz_3 g43 rfl rfl
    have A48 := A5.trans a49
    replace S47 : Sep G45 (Fr H) [flat c2_u0 3 (ints (lset r1 x1 x2))] := S47
    refine DWp.region fun K hK => ?_
    simp [-aBin', -aBin, -aBinI, -aUn, -aNil, -flatV, n_fn, b_add, b_sub, b_mul, b_lt, b_le, b_gt, b_ge, b_eq, b_ne, u_not, q44, q46]
    apply hK
    clear hK K
    simp only [andThen, leaves]
    refine DWp.seq ?_
    obtain ⟨g50, hF⟩ := gd_some hF
    have q51 := idxG (P := Try.prog) (kk := .i64) (S47.sl (k := 0) rfl) el_22 sz_3 g50
    obtain ⟨G52, q53, S54, a56⟩ := S47.storeG (f := (Value.int .i64)) (P := Try.prog) (k := 0) (x := x1) rfl (hB.le A48.1) sz_3 g50 rfl rfl
    have A55 := A48.trans a56
    replace S54 : Sep G52 (Fr H) [flat c2_u0 3 (ints (lset (lset r1 x1 x2) x2 x1))] := S54
    refine DWp.region fun K hK => ?_
    simp [-aBin', -aBin, -aBinI, -aUn, -aNil, -flatV, n_fn, b_add, b_sub, b_mul, b_lt, b_le, b_gt, b_ge, b_eq, b_ne, u_not, q51, q53]
    apply hK
    clear hK K
    simp only [andThen, leaves]
    refine DWp.seq ?_
    obtain ⟨g57, hF⟩ := gd_some hF
    have q58 := idxG (P := Try.prog) (kk := .i64) (S54.sl (k := 0) rfl) el_22 sz_3 g57
    obtain ⟨G59, q60, S61, a63⟩ := S54.storeG (f := (Value.int .i64)) (P := Try.prog) (k := 0) (x := (gat 0 x0 x1)) rfl (hB.le A55.1) sz_3 g57 rfl rfl
    have A62 := A55.trans a63
    replace S61 : Sep G59 (Fr H) [flat c2_u0 3 (ints (lset (lset (lset r1 x1 x2) x2 x1) (gat 0 x0 x2) (gat 0 x0 x1)))] := S61
    refine DWp.region fun K hK => ?_
    simp [-aBin', -aBin, -aBinI, -aUn, -aNil, -flatV, n_fn, b_add, b_sub, b_mul, b_lt, b_le, b_gt, b_ge, b_eq, b_ne, u_not, q58, q60]
    apply hK
    clear hK K
    simp only [andThen, leaves]
    obtain ⟨g64, hF⟩ := gd_some hF
    have q65 := idxG (P := Try.prog) (kk := .i64) (S61.sl (k := 0) rfl) el_22 sz_3 g64
    obtain ⟨G66, q67, S68, a70⟩ := S61.storeG (f := (Value.int .i64)) (P := Try.prog) (k := 0) (x := (gat 0 x0 x2)) rfl (hB.le A62.1) sz_3 g64 rfl rfl
    have A69 := A62.trans a70
    replace S68 : Sep G66 (Fr H) [flat c2_u0 3 (ints (lset (lset (lset (lset r1 x1 x2) x2 x1) (gat 0 x0 x2) (gat 0 x0 x1)) (gat 0 x0 x1) (gat 0 x0 x2)))] := S68
    refine DWp.region fun K hK => ?_
    simp [-aBin', -aBin, -aBinI, -aUn, -aNil, -flatV, n_fn, b_add, b_sub, b_mul, b_lt, b_le, b_gt, b_ge, b_eq, b_ne, u_not, q65, q67]
    apply hK
    clear hK K
    simp only [andThen, leaves]
    refine DWp.seq ?_
    refine DWp.region fun K hK => ?_
    simp [-aBin', -aBin, -aBinI, -aUn, -aNil, -flatV, n_fn, b_add, b_sub, b_mul, b_lt, b_le, b_gt, b_ge, b_eq, b_ne, u_not]
    apply hK
    clear hK K
    simp only [andThen, leaves]
    refine DWp.ret ?_
    obtain rfl := Option.some.inj hF
    exact ⟨by simp, [c2_u0], by simp [((S68.sl (k := 0) rfl).tup)], A69, c2_u0, rfl, S68.pick [0] (by decide) rfl⟩
def F_spec_ExchangeAt_L1 (fu : Nat) (k1_0 : List Int) (k1_1 : Int) (k1_2 : Int) (k1_3 : List (List Int)) (k1_4 : Int) : Nat → Int → Option (LR (List Int × Bool) (Int))
  | 0, _ => none
  | n + 1, y1_16 =>
    bif (ilt y1_16 k1_4) then
      gd (inL k1_3 y1_16) (
      bd (
        gd (inL (gat [] k1_3 y1_16) 0) (
        bif (ieq (gat 0 (gat [] k1_3 y1_16) 0) k1_1) then
          gd (inL (gat [] k1_3 y1_16) 1) (
          some (ieq (gat 0 (gat [] k1_3 y1_16) 1) k1_2))
        else
          some false)) fun s25 =>
      bif s25 then
        bd (F_spec_exAt fu k1_0 k1_1 k1_2) fun r3 =>
        some (.ret (r3, true))
      else
        F_spec_ExchangeAt_L1 fu k1_0 k1_1 k1_2 k1_3 k1_4 n (iadd .i64 y1_16 1))
    else
      some (.brk y1_16)
def F_spec_ExchangeAt (fu : Nat) (x0 : List Int) (x1 : Int) (x2 : Int) : Option (List Int × Bool) :=
  bd (F_spec_ahGood fu x0) fun r1 =>
  bif (bnot r1) then
    some ([], false)
  else
    bd (F_spec_exPairs fu x0) fun r2 =>
    bd (F_spec_ExchangeAt_L1 fu x0 x1 x2 r2 (llen r2) fu 0) fun s1 =>
    lr s1 fun s1 =>
    some ([], false)
theorem F_spec_ExchangeAt_w {fu : Nat} {H : AH} {v0 : Value} {x0 : List Int} {x1 : Int} {x2 : Int} {r : (List Int × Bool)} (hx0 : Sl H v0 (ints x0)) (hF : F_spec_ExchangeAt fu x0 x1 x2 = some r) :
    ACallT Try.prog 32 [v0, (Value.int .i64 x1), (Value.int .i64 x2)] H (fun u G => AgB (Fr H) H G ∧ ∃ u0 : Value, u = (Value.tuple #[u0, (Value.bool r.2)]) ∧ Sep G (Fr H) [flat u0 3 (ints r.1)]) := by
  refine ACallT.of_body (nt := 37) (rs := [.tmp 6, .tmp 7]) Try.func32 rfl rfl rfl rfl ?_
  have A0 : AgB (Fr H) H H := .refl _ _
  have S0 : Sep H (Fr H) [] := .nil
  have hB := Fr.up H
  unfold F_spec_ExchangeAt at hF
  refine DWp.seq ?_
  refine DWp.region fun K hK => ?_
  simp [-aBin', -aBin, -aBinI, -aUn, -aNil, -flatV, n_fn, b_add, b_sub, b_mul, b_lt, b_le, b_gt, b_ge, b_eq, b_ne, u_not]
  apply hK
  clear hK K
  simp only [andThen, leaves]
  refine DWp.seq ?_
  refine DWp.seq ?_
  obtain ⟨r1, hc1, hF⟩ := bd_some hF
  refine DWp.region fun K hK => ?_
  simp [-aBin', -aBin, -aBinI, -aUn, -aNil, -flatV, n_fn, b_add, b_sub, b_mul, b_lt, b_le, b_gt, b_ge, b_eq, b_ne, u_not, ((hx0.agree A0.agree).tup)]
  refine CallD.t (F_spec_ahGood_w (fu := fu) (hx0.agree A0.agree) hc1) ?_
  rintro _ G3 ⟨a6, rfl, S7⟩
  have A5 := A0.ext (hB.le A0.1) a6.agree
  have S4 : Sep G3 (Fr H) [] := S0.app a6.agree S7 (fun _ h => h) (hB.le A0.1)
  simp [-aBin', -aBin, -aBinI, -aUn, -aNil, -flatV, n_fn, b_add, b_sub, b_mul, b_lt, b_le, b_gt, b_ge, b_eq, b_ne, u_not, a6.pre]
  apply hK
  clear hK K
  simp only [andThen, leaves]
  refine DWp.cond' (t := (bnot r1)) (by simp []) (fun hb8 => ?_) (fun hb8 => ?_)
  · replace hF := cd_t hb8 hF
    refine DWp.seq ?_
    refine DWp.region fun K hK => ?_
    simp [-aBin', -aBin, -aBinI, -aUn, -aNil, -flatV, n_fn, b_add, b_sub, b_mul, b_lt, b_le, b_gt, b_ge, b_eq, b_ne, u_not]
    apply hK
    clear hK K
    simp only [andThen, leaves]
    refine DWp.ret ?_
    simp only [andThen, leaves]
    have S9 := S4.nilItem (hB.le A5.1) 3
    obtain rfl := Option.some.inj hF
    exact ⟨by simp, [(Value.slice none 0 0), (Value.bool false)], by simp [], A5, (Value.slice none 0 0), rfl, S9.pick [0] (by decide) rfl⟩
  · replace hF := cd_f hb8 hF
    refine DWp.skip ?_
    simp only [andThen, leaves]
    refine DWp.seq ?_
    refine DWp.seq ?_
    obtain ⟨r2, hc10, hF⟩ := bd_some hF
    refine DWp.region fun K hK => ?_
    simp [-aBin', -aBin, -aBinI, -aUn, -aNil, -flatV, n_fn, b_add, b_sub, b_mul, b_lt, b_le, b_gt, b_ge, b_eq, b_ne, u_not, ((hx0.agree A5.agree).tup)]
    refine CallD.t (F_spec_exPairs_w (fu := fu) (hx0.agree A5.agree) hc10) ?_
    rintro c11_u0 G12 ⟨a15, _, c11_C0, rfl, S16⟩
    have A14 := A5.ext (hB.le A5.1) a15.agree
    have S13 : Sep G12 (Fr H) [rowsC c11_u0 22 3 c11_C0 (List.map ints r2)] := S4.app a15.agree S16 (fun _ h => h) (hB.le A5.1)
    have q17 := (S13.rd (k := 0) rfl).lenG (P := Try.prog) el_23
    simp [-aBin', -aBin, -aBinI, -aUn, -aNil, -flatV, n_fn, b_add, b_sub, b_mul, b_lt, b_le, b_gt, b_ge, b_eq, b_ne, u_not, a15.pre, q17]
    apply hK
    clear hK K
    simp only [andThen, leaves]
    refine DWp.block ?_
    obtain ⟨s18, hL19, hF⟩ := bd_some hF
    have S20 := S13.pick [0] (by decide) rfl
    refine DWp.loop (fun n env G => ∃ y1_16 : Int, F_spec_ExchangeAt_L1 fu x0 x1 x2 r2 (llen r2) n y1_16 = some s18 ∧ Sep G (Fr H) [rowsC c11_u0 22 3 c11_C0 (List.map ints r2)] ∧ AgB (Fr H) H G ∧ env 0 = some v0 ∧ env 1 = some (Value.int .i64 x1) ∧ env 2 = some (Value.int .i64 x2) ∧ env 14 = some c11_u0 ∧ env 15 = some (Value.int .i64 (llen r2)) ∧ env 16 = some (Value.int .i64 y1_16)) fu ⟨0, hL19, S20, A14, by simp [], by simp [], by simp [], by simp [], by simp [], by simp []⟩ ?_
    rintro n1 env1 G1_ ⟨y1_16, hL19, S1_, A1_, e1_0, e1_1, e1_2, e1_14, e1_15, e1_16⟩
    cases n1 with
    | zero => cases hL19
    | succ n1 =>
      simp only [F_spec_ExchangeAt_L1] at hL19
      refine DWp.seq ?_
      refine DWp.region fun K hK => ?_
      simp [-aBin', -aBin, -aBinI, -aUn, -aNil, -flatV, n_fn, b_add, b_sub, b_mul, b_lt, b_le, b_gt, b_ge, b_eq, b_ne, u_not, e1_0, e1_1, e1_2, e1_14, e1_15, e1_16]
      apply hK
      clear hK K
      simp only [andThen, leaves]
      refine DWp.seq ?_
      refine DWp.cond' (t := (ilt y1_16 (llen r2))) (by simp [e1_0, e1_1, e1_2, e1_14, e1_15, e1_16]) (fun hb21 => ?_) (fun hb21 => ?_)
      · replace hL19 := cd_t hb21 hL19
        refine DWp.skip ?_
        simp only [andThen, leaves]
        refine DWp.seq ?_
        refine DWp.block ?_
        refine DWp.seq ?_
        obtain ⟨g22, hL19⟩ := gd_some hL19
        have q23 := (S1_.rd (k := 0) rfl).idxG (P := Try.prog) (kk := .i64) el_23 sz_22 g22
        have q24 := (S1_.rd (k := 0) rfl).loadG (P := Try.prog) sz_22 ag_22 g22
        refine DWp.region fun K hK => ?_
        simp [-aBin', -aBin, -aBinI, -aUn, -aNil, -flatV, n_fn, b_add, b_sub, b_mul, b_lt, b_le, b_gt, b_ge, b_eq, b_ne, u_not, e1_0, e1_1, e1_2, e1_14, e1_15, e1_16, q23, q24]
        apply hK
        clear hK K
        simp only [andThen, leaves]
        obtain ⟨s25, hL26, hL19⟩ := bd_some hL19
        refine DWp.seq (DWp.join (fun env G => Sep G (Fr H) [rowsC c11_u0 22 3 c11_C0 (List.map ints r2)] ∧ AgB (Fr H) H G ∧ env 0 = some v0 ∧ env 1 = some (Value.int .i64 x1) ∧ env 2 = some (Value.int .i64 x2) ∧ env 14 = some c11_u0 ∧ env 15 = some (Value.int .i64 (llen r2)) ∧ env 16 = some (Value.int .i64 y1_16) ∧ env 31 = some (Value.bool s25)) ?_ ?_)
        ·
          obtain ⟨g28, hL26⟩ := gd_some hL26
          have q29 := idxG (P := Try.prog) (kk := .i64) ((S1_.rd (k := 0) rfl).rowAt [] g22) el_22 sz_3 g28
          replace q29 : aIndexAddr Try.prog G1_ 22 (gat nilV c11_C0 y1_16) (Value.int .i64 0) = some (elP (gat nilV c11_C0 y1_16) 0) := q29
          have q30 := loadG (P := Try.prog) ((S1_.rd (k := 0) rfl).rowAt [] g22) sz_3 ag_3 g28 0
          replace q30 : aLoad Try.prog G1_ 3 (elP (gat nilV c11_C0 y1_16) 0) = some (Value.int .i64 (gat 0 (gat [] r2 y1_16) 0)) := q30
          rcases Bool.eq_false_or_eq_true (ieq (gat 0 (gat [] r2 y1_16) 0) x1) with hb31 | hb31
          · replace hL26 := cd_t hb31 hL26
            obtain ⟨g32, hL26⟩ := gd_some hL26
            have q33 := idxG (P := Try.prog) (kk := .i64) ((S1_.rd (k := 0) rfl).rowAt [] g22) el_22 sz_3 g32
            replace q33 : aIndexAddr Try.prog G1_ 22 (gat nilV c11_C0 y1_16) (Value.int .i64 1) = some (elP (gat nilV c11_C0 y1_16) 1) := q33
            have q34 := loadG (P := Try.prog) ((S1_.rd (k := 0) rfl).rowAt [] g22) sz_3 ag_3 g32 0
            replace q34 : aLoad Try.prog G1_ 3 (elP (gat nilV c11_C0 y1_16) 1) = some (Value.int .i64 (gat 0 (gat [] r2 y1_16) 1)) := q34
            refine DWp.region fun K hK => ?_
            simp [-aBin', -aBin, -aBinI, -aUn, -aNil, -flatV, n_fn, b_add, b_sub, b_mul, b_lt, b_le, b_gt, b_ge, b_eq, b_ne, u_not, e1_0, e1_1, e1_2, e1_14, e1_15, e1_16, hb31, q29, q30, q33, q34]
            apply hK
            clear hK K
            simp only [andThen, leaves]
            have S35 := S1_.pick [0] (by decide) rfl
            obtain rfl := Option.some.inj hL26
            exact ⟨S35, A1_, by simp [e1_0, e1_1, e1_2, e1_14, e1_15, e1_16], by simp [e1_0, e1_1, e1_2, e1_14, e1_15, e1_16], by simp [e1_0, e1_1, e1_2, e1_14, e1_15, e1_16], by simp [e1_0, e1_1, e1_2, e1_14, e1_15, e1_16], by simp [e1_0, e1_1, e1_2, e1_14, e1_15, e1_16], by simp [e1_0, e1_1, e1_2, e1_14, e1_15, e1_16], by simp [e1_0, e1_1, e1_2, e1_14, e1_15, e1_16]⟩
          · replace hL26 := cd_f hb31 hL26
            refine DWp.region fun K hK => ?_
            simp [-aBin', -aBin, -aBinI, -aUn, -aNil, -flatV, n_fn, b_add, b_sub, b_mul, b_lt, b_le, b_gt, b_ge, b_eq, b_ne, u_not, e1_0, e1_1, e1_2, e1_14, e1_15, e1_16, hb31, q29, q30]
            apply hK
            clear hK K
            simp only [andThen, leaves]
            have S36 := S1_.pick [0] (by decide) rfl
            obtain rfl := Option.some.inj hL26
            exact ⟨S36, A1_, by simp [e1_0, e1_1, e1_2, e1_14, e1_15, e1_16], by simp [e1_0, e1_1, e1_2, e1_14, e1_15, e1_16], by simp [e1_0, e1_1, e1_2, e1_14, e1_15, e1_16], by simp [e1_0, e1_1, e1_2, e1_14, e1_15, e1_16], by simp [e1_0, e1_1, e1_2, e1_14, e1_15, e1_16], by simp [e1_0, e1_1, e1_2, e1_14, e1_15, e1_16], by simp [e1_0, e1_1, e1_2, e1_14, e1_15, e1_16]⟩
        · rintro env Gj37 ⟨Sj37, Aj37, ej37_0, ej37_1, ej37_2, ej37_14, ej37_15, ej37_16, ej37_31⟩
          refine DWp.cond' (t := s25) (by simp [ej37_0, ej37_1, ej37_2, ej37_14, ej37_15, ej37_16, ej37_31]) (fun hb38 => ?_) (fun hb38 => ?_)
          · replace hL19 := cd_t hb38 hL19
            refine DWp.seq ?_
            obtain ⟨r3, hc39, hL19⟩ := bd_some hL19
            refine DWp.region fun K hK => ?_
            simp [-aBin', -aBin, -aBinI, -aUn, -aNil, -flatV, n_fn, b_add, b_sub, b_mul, b_lt, b_le, b_gt, b_ge, b_eq, b_ne, u_not, ej37_0, ej37_1, ej37_2, ej37_14, ej37_15, ej37_16, ej37_31, ((hx0.agree Aj37.agree).tup)]
            refine CallD.t (F_spec_exAt_w (fu := fu) (hx0.agree Aj37.agree) hc39) ?_
            rintro c40_u0 G41 ⟨a44, _, rfl, S45⟩
            have A43 := Aj37.ext (hB.le Aj37.1) a44.agree
            have S42 : Sep G41 (Fr H) [rowsC c11_u0 22 3 c11_C0 (List.map ints r2), flat c40_u0 3 (ints r3)] := Sj37.app a44.agree S45 (fun _ h => h) (hB.le Aj37.1)
            simp [-aBin', -aBin, -aBinI, -aUn, -aNil, -flatV, n_fn, b_add, b_sub, b_mul, b_lt, b_le, b_gt, b_ge, b_eq, b_ne, u_not, ej37_0, ej37_1, ej37_2, ej37_14, ej37_15, ej37_16, ej37_31, a44.pre]
            apply hK
            clear hK K
            simp only [andThen, leaves]
            refine DWp.ret ?_
            simp only [andThen, leaves]
            obtain rfl := Option.some.inj hL19
            simp only [lr] at hF
            obtain rfl := Option.some.inj hF
            exact ⟨by simp, [c40_u0, (Value.bool true)], by simp [ej37_0, ej37_1, ej37_2, ej37_14, ej37_15, ej37_16, ej37_31, ((S42.sl (k := 1) rfl).tup)], A43, c40_u0, rfl, S42.pick [1] (by decide) rfl⟩
          · replace hL19 := cd_f hb38 hL19
            refine DWp.skip ?_
            simp only [andThen, leaves]
            refine DWp.region fun K hK => ?_
            simp [-aBin', -aBin, -aBinI, -aUn, -aNil, -flatV, n_fn, b_add, b_sub, b_mul, b_lt, b_le, b_gt, b_ge, b_eq, b_ne, u_not, ej37_0, ej37_1, ej37_2, ej37_14, ej37_15, ej37_16, ej37_31]
            apply hK
            clear hK K
            simp only [andThen, leaves]
            have S46 := Sj37.pick [0] (by decide) rfl
            exact ⟨n1, Nat.lt_succ_self _, (iadd .i64 y1_16 1), hL19, S46, Aj37, by simp [ej37_0, ej37_1, ej37_2, ej37_14, ej37_15, ej37_16, ej37_31], by simp [ej37_0, ej37_1, ej37_2, ej37_14, ej37_15, ej37_16, ej37_31], by simp [ej37_0, ej37_1, ej37_2, ej37_14, ej37_15, ej37_16, ej37_31], by simp [ej37_0, ej37_1, ej37_2, ej37_14, ej37_15, ej37_16, ej37_31], by simp [ej37_0, ej37_1, ej37_2, ej37_14, ej37_15, ej37_16, ej37_31], by simp [ej37_0, ej37_1, ej37_2, ej37_14, ej37_15, ej37_16, ej37_31]⟩
      · replace hL19 := cd_f hb21 hL19
        refine DWp.exit ?_
        simp only [andThen, leaves, if_true, if_false, reduceIte, Nat.reduceEqDiff]
        obtain rfl := Option.some.inj hL19
        simp only [lr] at hF
        refine DWp.seq ?_
        refine DWp.region fun K hK => ?_
        simp [-aBin', -aBin, -aBinI, -aUn, -aNil, -flatV, n_fn, b_add, b_sub, b_mul, b_lt, b_le, b_gt, b_ge, b_eq, b_ne, u_not, e1_0, e1_1, e1_2, e1_14, e1_15, e1_16]
        apply hK
        clear hK K
        simp only [andThen, leaves]
        refine DWp.ret ?_
        have S47 := S1_.nilItem (hB.le A1_.1) 3
        obtain rfl := Option.some.inj hF
        exact ⟨by simp, [(Value.slice none 0 0), (Value.bool false)], by simp [e1_0, e1_1, e1_2, e1_14, e1_15, e1_16], A1_, (Value.slice none 0 0), rfl, S47.pick [1] (by decide) rfl⟩
def F_slices_Index_S_2_int_L1 (fu : Nat) (k1_0 : List (Int × Int)) (k1_1 : Int) (k1_2 : Int) (k1_3 : Int) : Nat → Int → Option (LR (Int) (Int))
  | 0, _ => none
  | n + 1, y1_8 =>
    bif (ilt y1_8 k1_3) then
      gd (inL k1_0 y1_8) (
      bif (aeq2 k1_1 k1_2 ((gat i2 k1_0 y1_8).1) ((gat i2 k1_0 y1_8).2)) then
        some (.ret y1_8)
      else
        F_slices_Index_S_2_int_L1 fu k1_0 k1_1 k1_2 k1_3 n (iadd .i64 y1_8 1))
    else
      some (.brk y1_8)
def F_slices_Index_S_2_int (fu : Nat) (x0 : List (Int × Int)) (x1_0 : Int) (x1_1 : Int) : Option (Int) :=
  bd (F_slices_Index_S_2_int_L1 fu x0 x1_0 x1_1 (llen x0) fu 0) fun s1 =>
  lr s1 fun s1 =>
  some (-1)
theorem F_slices_Index_S_2_int_w {fu : Nat} {H : AH} {v0 : Value} {x0 : List (Int × Int)} {x1_0 : Int} {x1_1 : Int} {r : (Int)} (hx0 : SlI H v0 x0) (hF : F_slices_Index_S_2_int fu x0 x1_0 x1_1 = some r) :
    ACallT Try.prog 97 [v0, (Value.agg #[(Value.int .i64 x1_0), (Value.int .i64 x1_1)])] H (fun u G => AgB (Fr H) H G ∧ u = (Value.int .i64 r) ∧ Sep G (Fr H) []) := by
  refine ACallT.of_body (nt := 19) (rs := [.tmp 4]) Try.func97 rfl rfl rfl rfl ?_
  have A0 : AgB (Fr H) H H := .refl _ _
  have S0 : Sep H (Fr H) [] := .nil
  have hB := Fr.up H
  unfold F_slices_Index_S_2_int at hF
  refine DWp.seq ?_
  obtain ⟨G2, p4, q5, q6, a7, S1⟩ := S0.boxT (hB.le A0.1) 62 [(Value.int .i64 x1_0), (Value.int .i64 x1_1)]
  have A3 := A0.ext (hB.le A0.1) a7
  replace S1 : Sep G2 (Fr H) [AL.box p4 [(Value.int .i64 x1_0), (Value.int .i64 x1_1)]] := S1
  refine DWp.region fun K hK => ?_
  simp [-aBin', -aBin, -aBinI, -aUn, -aNil, -flatV, n_fn, b_add, b_sub, b_mul, b_lt, b_le, b_gt, b_ge, b_eq, b_ne, u_not, q5, q6, a7.to_pre, cells_agg]
  apply hK
  clear hK K
  simp only [andThen, leaves]
  refine DWp.seq ?_
  refine DWp.seq ?_
  have q8 := (hx0.agree A3.agree).lenG (P := Try.prog) el_58
  refine DWp.region fun K hK => ?_
  simp [-aBin', -aBin, -aBinI, -aUn, -aNil, -flatV, n_fn, b_add, b_sub, b_mul, b_lt, b_le, b_gt, b_ge, b_eq, b_ne, u_not, q8]
  apply hK
  clear hK K
  simp only [andThen, leaves]
  refine DWp.block ?_
  obtain ⟨s9, hL10, hF⟩ := bd_some hF
  have S11 := S1.pick [0] (by decide) rfl
  refine DWp.loop (fun n env G => ∃ y1_8 : Int, F_slices_Index_S_2_int_L1 fu x0 x1_0 x1_1 (llen x0) n y1_8 = some s9 ∧ Sep G (Fr H) [AL.box p4 [(Value.int .i64 x1_0), (Value.int .i64 x1_1)]] ∧ AgB (Fr H) H G ∧ env 0 = some v0 ∧ env 3 = some p4 ∧ env 7 = some (Value.int .i64 (llen x0)) ∧ env 8 = some (Value.int .i64 y1_8)) fu ⟨0, hL10, S11, A3, by simp [], by simp [], by simp [], by simp []⟩ ?_
  rintro n1 env1 G1_ ⟨y1_8, hL10, S1_, A1_, e1_0, e1_3, e1_7, e1_8⟩
  cases n1 with
  | zero => cases hL10
  | succ n1 =>
    simp only [F_slices_Index_S_2_int_L1] at hL10
    refine DWp.seq ?_
    refine DWp.region fun K hK => ?_
    simp [-aBin', -aBin, -aBinI, -aUn, -aNil, -flatV, n_fn, b_add, b_sub, b_mul, b_lt, b_le, b_gt, b_ge, b_eq, b_ne, u_not, e1_0, e1_3, e1_7, e1_8]
    apply hK
    clear hK K
    simp only [andThen, leaves]
    refine DWp.seq ?_
    refine DWp.cond' (t := (ilt y1_8 (llen x0))) (by simp [e1_0, e1_3, e1_7, e1_8]) (fun hb12 => ?_) (fun hb12 => ?_)
    · replace hL10 := cd_t hb12 hL10
      refine DWp.skip ?_
      simp only [andThen, leaves]
      refine DWp.seq ?_
      refine DWp.block ?_
      refine DWp.seq ?_
      refine DWp.region fun K hK => ?_
      simp [-aBin', -aBin, -aBinI, -aUn, -aNil, -flatV, n_fn, b_add, b_sub, b_mul, b_lt, b_le, b_gt, b_ge, b_eq, b_ne, u_not, e1_0, e1_3, e1_7, e1_8]
      apply hK
      clear hK K
      simp only [andThen, leaves]
      refine DWp.seq ?_
      have q13 := S1_.loadAgg (P := Try.prog) (k := 0) rfl sz_62 ag_62 rfl
      obtain ⟨g14, hL10⟩ := gd_some hL10
      have q15 := (hx0.agree A1_.agree).idxG (P := Try.prog) (kk := .i64) el_58 sz_62 g14
      have q16 := (hx0.agree A1_.agree).loadG (P := Try.prog) sz_62 ag_62 g14
      refine DWp.drawn (B := [0, 0, 0, 6, 14, 31]) 6 mixed (by kernel_rfl) (by decide) fun K hK => ?_
      simp [-aBin', -aBin, -aBinI, -aUn, -aNil, -flatV, n_fn, b_add, b_sub, b_mul, b_lt, b_le, b_gt, b_ge, b_eq, b_ne, u_not, e1_0, e1_3, e1_7, e1_8, q13, q15, q16, b_arr ua_62 un_3 sz_3]
      apply hK
      clear hK K
      simp only [andThen, leaves]
      refine DWp.cond' (t := (aeq2 x1_0 x1_1 ((gat i2 x0 y1_8).1) ((gat i2 x0 y1_8).2))) (by simp [e1_0, e1_3, e1_7, e1_8]) (fun hb17 => ?_) (fun hb17 => ?_)
      · replace hL10 := cd_t hb17 hL10
        refine DWp.seq ?_
        refine DWp.region fun K hK => ?_
        simp [-aBin', -aBin, -aBinI, -aUn, -aNil, -flatV, n_fn, b_add, b_sub, b_mul, b_lt, b_le, b_gt, b_ge, b_eq, b_ne, u_not, e1_0, e1_3, e1_7, e1_8]
        apply hK
        clear hK K
        simp only [andThen, leaves]
        refine DWp.ret ?_
        simp only [andThen, leaves]
        obtain rfl := Option.some.inj hL10
        simp only [lr] at hF
        obtain rfl := Option.some.inj hF
        exact ⟨by simp, [(Value.int .i64 y1_8)], by simp [e1_0, e1_3, e1_7, e1_8], A1_, rfl, S1_.pick [] (by decide) rfl⟩
      · replace hL10 := cd_f hb17 hL10
        refine DWp.skip ?_
        simp only [andThen, leaves]
        refine DWp.region fun K hK => ?_
        simp [-aBin', -aBin, -aBinI, -aUn, -aNil, -flatV, n_fn, b_add, b_sub, b_mul, b_lt, b_le, b_gt, b_ge, b_eq, b_ne, u_not, e1_0, e1_3, e1_7, e1_8]
        apply hK
        clear hK K
        simp only [andThen, leaves]
        have S18 := S1_.pick [0] (by decide) rfl
        exact ⟨n1, Nat.lt_succ_self _, (iadd .i64 y1_8 1), hL10, S18, A1_, by simp [e1_0, e1_3, e1_7, e1_8], by simp [e1_0, e1_3, e1_7, e1_8], by simp [e1_0, e1_3, e1_7, e1_8], by simp [e1_0, e1_3, e1_7, e1_8]⟩
    · replace hL10 := cd_f hb12 hL10
      refine DWp.exit ?_
      simp only [andThen, leaves, if_true, if_false, reduceIte, Nat.reduceEqDiff]
      obtain rfl := Option.some.inj hL10
      simp only [lr] at hF
      refine DWp.seq ?_
      refine DWp.region fun K hK => ?_
      simp [-aBin', -aBin, -aBinI, -aUn, -aNil, -flatV, n_fn, b_add, b_sub, b_mul, b_lt, b_le, b_gt, b_ge, b_eq, b_ne, u_not, e1_0, e1_3, e1_7, e1_8]
      apply hK
      clear hK K
      simp only [andThen, leaves]
      refine DWp.ret ?_
      obtain rfl := Option.some.inj hF
      exact ⟨by simp, [(Value.int .i64 (-1))], by simp [e1_0, e1_3, e1_7, e1_8], A1_, rfl, S1_.pick [] (by decide) rfl⟩
def F_slices_Contains_S_2_int (fu : Nat) (x0 : List (Int × Int)) (x1_0 : Int) (x1_1 : Int) : Option (Bool) :=
  bd (F_slices_Index_S_2_int fu x0 x1_0 x1_1) fun r1 =>
  some (ile 0 r1)
theorem F_slices_Contains_S_2_int_w {fu : Nat} {H : AH} {v0 : Value} {x0 : List (Int × Int)} {x1_0 : Int} {x1_1 : Int} {r : (Bool)} (hx0 : SlI H v0 x0) (hF : F_slices_Contains_S_2_int fu x0 x1_0 x1_1 = some r) :
    ACallT Try.prog 69 [v0, (Value.agg #[(Value.int .i64 x1_0), (Value.int .i64 x1_1)])] H (fun u G => AgB (Fr H) H G ∧ u = (Value.bool r) ∧ Sep G (Fr H) []) := by
  refine ACallT.of_body (nt := 9) (rs := [.tmp 4]) Try.func69 rfl rfl rfl rfl ?_
  have A0 : AgB (Fr H) H H := .refl _ _
  have S0 : Sep H (Fr H) [] := .nil
  have hB := Fr.up H
  unfold F_slices_Contains_S_2_int at hF
  refine DWp.seq ?_
  obtain ⟨G2, p4, q5, q6, a7, S1⟩ := S0.boxT (hB.le A0.1) 62 [(Value.int .i64 x1_0), (Value.int .i64 x1_1)]
  have A3 := A0.ext (hB.le A0.1) a7
  replace S1 : Sep G2 (Fr H) [AL.box p4 [(Value.int .i64 x1_0), (Value.int .i64 x1_1)]] := S1
  refine DWp.region fun K hK => ?_
  simp [-aBin', -aBin, -aBinI, -aUn, -aNil, -flatV, n_fn, b_add, b_sub, b_mul, b_lt, b_le, b_gt, b_ge, b_eq, b_ne, u_not, q5, q6, a7.to_pre, cells_agg]
  apply hK
  clear hK K
  simp only [andThen, leaves]
  refine DWp.seq ?_
  have q8 := S1.loadAgg (P := Try.prog) (k := 0) rfl sz_62 ag_62 rfl
  obtain ⟨r1, hc9, hF⟩ := bd_some hF
  refine DWp.region fun K hK => ?_
  simp [-aBin', -aBin, -aBinI, -aUn, -aNil, -flatV, n_fn, b_add, b_sub, b_mul, b_lt, b_le, b_gt, b_ge, b_eq, b_ne, u_not, q8, ((hx0.agree A3.agree).tup)]
  refine CallD.t (F_slices_Index_S_2_int_w (fu := fu) (hx0.agree A3.agree) hc9) ?_
  rintro _ G11 ⟨a14, rfl, S15⟩
  have A13 := A3.ext (hB.le A3.1) a14.agree
  have S12 : Sep G11 (Fr H) [AL.box p4 [(Value.int .i64 x1_0), (Value.int .i64 x1_1)]] := S1.app a14.agree S15 (fun _ h => h) (hB.le A3.1)
  simp [-aBin', -aBin, -aBinI, -aUn, -aNil, -flatV, n_fn, b_add, b_sub, b_mul, b_lt, b_le, b_gt, b_ge, b_eq, b_ne, u_not, q8, a14.pre]
  apply hK
  clear hK K
  simp only [andThen, leaves]
  refine DWp.ret ?_
  obtain rfl := Option.some.inj hF
  exact ⟨by simp, [(Value.bool (ile 0 r1))], by simp [], A13, rfl, S12.pick [] (by decide) rfl⟩
def F_slices_Clone_Sint (fu : Nat) (x0 : List Int) : Option (List Int) :=
  gd ((@List.nil Int).length + x0.length ≤ 4294967296) (
  some (lapp (@List.nil Int) x0))
theorem F_slices_Clone_Sint_w {fu : Nat} {H : AH} {v0 : Value} {x0 : List Int} {r : (List Int)} (hx0 : Sl H v0 (ints x0)) (hF : F_slices_Clone_Sint fu x0 = some r) :
    ACallT Try.prog 98 [v0] H (fun u G => AgB (Fr H) H G ∧ ∃ u0 : Value, u = u0 ∧ Sep G (Fr H) [flat u0 3 (ints r)]) := by
  refine ACallT.of_body (nt := 8) (rs := [.tmp 2]) Try.func98 rfl rfl rfl rfl ?_
  have A0 : AgB (Fr H) H H := .refl _ _
  have S0 : Sep H (Fr H) [] := .nil
  have hB := Fr.up H
  by_cases hn0 : v0 = .slice none 0 0
  ·
    subst hn0
    have hx1 : x0 = [] := by
      rcases hx0 with ⟨_, h_⟩ | ⟨_, _, _, _, _, h_, _⟩
      · cases x0 with
        | nil => rfl
        | cons a_ b_ => cases h_
      · cases h_
    subst hx1
    have hF2 : (some [] : Option (List Int)) = some r := by
      rw [← hF]
      unfold F_slices_Clone_Sint
      rw [gd_true (by simp)]
      rfl
    refine DWp.seq ?_
    refine DWp.region fun K hK => ?_
    simp [-aBin', -aBin, -aBinI, -aUn, -aNil, -flatV, n_fn, b_add, b_sub, b_mul, b_lt, b_le, b_gt, b_ge, b_eq, b_ne, u_not]
    apply hK
    clear hK K
    simp only [andThen, leaves]
    refine DWp.seq ?_
    refine DWp.seq ?_
    refine DWp.region fun K hK => ?_
    simp [-aBin', -aBin, -aBinI, -aUn, -aNil, -flatV, n_fn, b_add, b_sub, b_mul, b_lt, b_le, b_gt, b_ge, b_eq, b_ne, u_not, nil_tt us_22]
    apply hK
    clear hK K
    simp only [andThen, leaves]
    refine DWp.ct (by simp [bnot]) ?_
    refine DWp.seq ?_
    refine DWp.region fun K hK => ?_
    simp [-aBin', -aBin, -aBinI, -aUn, -aNil, -flatV, n_fn, b_add, b_sub, b_mul, b_lt, b_le, b_gt, b_ge, b_eq, b_ne, u_not]
    apply hK
    clear hK K
    simp only [andThen, leaves]
    refine DWp.ret ?_
    simp only [andThen, leaves]
    have S1 := S0.nilItem (hB.le A0.1) 3
    obtain rfl := Option.some.inj hF2
    exact ⟨by simp, [(Value.slice none 0 0)], by simp [], A0, (Value.slice none 0 0), rfl, S1.pick [0] (by decide) rfl⟩
  · unfold F_slices_Clone_Sint at hF
    refine DWp.seq ?_
    refine DWp.region fun K hK => ?_
    simp [-aBin', -aBin, -aBinI, -aUn, -aNil, -flatV, n_fn, b_add, b_sub, b_mul, b_lt, b_le, b_gt, b_ge, b_eq, b_ne, u_not]
    apply hK
    clear hK K
    simp only [andThen, leaves]
    refine DWp.seq ?_
    refine DWp.seq ?_
    refine DWp.region fun K hK => ?_
    simp [-aBin', -aBin, -aBinI, -aUn, -aNil, -flatV, n_fn, b_add, b_sub, b_mul, b_lt, b_le, b_gt, b_ge, b_eq, b_ne, u_not, nil_ff us_22 (hx0.agree A0.agree) hn0]
    apply hK
    clear hK K
    simp only [andThen, leaves]
    refine DWp.cf (by simp [bnot]) ?_
    refine DWp.skip ?_
    simp only [andThen, leaves]
    refine DWp.seq ?_
    obtain ⟨v1, G2, q3, S4, a6, _, _⟩ := S0.lit0 (P := Try.prog) (t := 22) (hB.le A0.1) el_22 ei_3 rfl
    have A5 := A0.ext (hB.le A0.1) a6
    replace S4 : Sep G2 (Fr H) [flat1 v1 3 (ints (@List.nil Int))] := S4
    obtain ⟨g8, hF⟩ := gd_some hF
    obtain ⟨v14, G9, q10, S11, a13, _, _⟩ := S4.append1 (f := (Value.int .i64)) (xs := (@List.nil Int)) (ys := x0) (P := Try.prog) (t := 22) (t2 := 22) (k := 0) rfl (hB.le A5.1) el_22 el_22 ei_3 rfl (hx0.agree A5.agree) g8
    have A12 := A5.trans a13
    replace S11 : Sep G9 (Fr H) [flat v14 3 (ints (lapp (@List.nil Int) x0))] := S11
    refine DWp.region fun K hK => ?_
    simp [-aBin', -aBin, -aBinI, -aUn, -aNil, -flatV, n_fn, b_add, b_sub, b_mul, b_lt, b_le, b_gt, b_ge, b_eq, b_ne, u_not, q3, a6.to_pre, q10]
    apply hK
    clear hK K
    simp only [andThen, leaves]
    refine DWp.ret ?_
    obtain rfl := Option.some.inj hF
    exact ⟨by simp, [v14], by simp [((S11.sl (k := 0) rfl).tup)], A12, v14, rfl, S11.pick [0] (by decide) rfl⟩
def F_impl_exchanged_1 (fu : Nat) (x0 : Int) (x1 : Int) (x2 : List Int) : Option (List Int) :=
  gd (inL x2 x0) (
  gd (inL (lset x2 x0 x1) x1) (
  some (lset (lset x2 x0 x1) x1 x0)))
theorem F_impl_exchanged_1_w {fu : Nat} {H : AH} {B : Nat → Prop} {p2 : Value} {v2 : Value} {x0 : Int} {x1 : Int} {x2 : List Int} {r : (List Int)} (hB : Up B H.length) (S0 : Sep H B [flat v2 3 (ints x2), AL.box p2 [v2]]) (hF : F_impl_exchanged_1 fu x0 x1 x2 = some r) :
    ACallT Try.prog 99 [(Value.int .i64 x0), (Value.int .i64 x1), p2] H (fun u G => AgB B H G ∧ u = (Value.tuple #[]) ∧ Sep G B [flat v2 3 (ints r), AL.box p2 [v2]]) := by
  refine ACallT.of_body (nt := 13) (rs := []) Try.func99 rfl rfl rfl rfl ?_
  have A0 : AgB B H H := .refl _ _
  unfold F_impl_exchanged_1 at hF
  have q1 := S0.load0 (P := Try.prog) (k := 1) rfl sz_22 ag_22
  have q2 : RefK (kpl [p2]) H.length p2 := refK_box S0 (k := 1) rfl (by simp)
  have q3 := S0.load0 (P := Try.prog) (k := 1) rfl sz_22 ag_22
  obtain ⟨g4, hF⟩ := gd_some hF
  have q5 := idxG (P := Try.prog) (kk := .i64) (S0.sl (k := 0) rfl) el_22 sz_3 g4
  obtain ⟨G6, q7, S8, a10⟩ := S0.storeG (f := (Value.int .i64)) (P := Try.prog) (k := 0) (x := x1) rfl (hB.le A0.1) sz_3 g4 rfl rfl
  have t11 : Stand (kpl [p2]) H G6 := stand_kpl (store_same q7) (by
    simp only [List.mem_cons, List.not_mem_nil, or_false, forall_eq_or_imp, forall_eq, false_imp_iff, implies_true]
    exact S0.ids_apartB (k := 0) (j := 1) rfl rfl (by decide))
  have A9 := A0.trans a10
  replace S8 : Sep G6 B [flat v2 3 (ints (lset x2 x0 x1)), AL.box p2 [v2]] := S8
  obtain ⟨g12, hF⟩ := gd_some hF
  have q13 := idxG (P := Try.prog) (kk := .i64) (S8.sl (k := 0) rfl) el_22 sz_3 g12
  obtain ⟨G14, q15, S16, a18⟩ := S8.storeG (f := (Value.int .i64)) (P := Try.prog) (k := 0) (x := x0) rfl (hB.le A9.1) sz_3 g12 rfl rfl
  have t19 : Stand (kpl [p2]) G6 G14 := stand_kpl (store_same q15) (by
    simp only [List.mem_cons, List.not_mem_nil, or_false, forall_eq_or_imp, forall_eq, false_imp_iff, implies_true]
    exact S8.ids_apartB (k := 0) (j := 1) rfl rfl (by decide))
  have A17 := A9.trans a18
  replace S16 : Sep G14 B [flat v2 3 (ints (lset (lset x2 x0 x1) x1 x0)), AL.box p2 [v2]] := S16
  have t20 : Stand (kN G6.length) H G6 := stand_top a10.1
  have t21 : Stand (kN G6.length) G6 G14 := stand_top (Nat.le_refl _)
  refine DWp.drawn0 (B := [0, 0, 0, 0, 0, 0, 19, 83, 255, 511]) (X0 := [2]) (π := [0, 1, 2, 3, 4, 5, 6, 7, 8, 9]) (σ := [0, 1, 2, 3, 4, 5, 6, 7, 8, 9]) 7 (kpl [p2]) G6.length mixed (by kernel_rfl) (by kernel_rfl) (by decide) fun K hK => ?_
  simp only [rl0, rlb0, List.filterMap_cons, List.filterMap_nil, List.getElem?_cons_zero, List.getElem?_cons_succ, Option.map_some, Option.map_none]
  simp (config := { maxSteps := 4000000 }) [-aBin', -aBin, -aBinI, -aUn, -aNil, -flatV, n_fn, b_add, b_sub, b_mul, b_lt, b_le, b_gt, b_ge, b_eq, b_ne, u_not, q1, q2, q3, q5, t11, q7, q13, t19, q15, t20, t21]
  apply hK
  clear hK K
  obtain rfl := Option.some.inj hF
  exact ⟨by simp, [], by simp [], A17, rfl, S16.pick [0, 1] (by decide) rfl⟩
end Go.Proofs.Ytdghlhdpcmemjaa.AL

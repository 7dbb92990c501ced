/- The walks of functions, each with its Lean function: impl.CountExchanges, laws.eqIntS, laws.FnExactCountExchanges, spec.l1Own, spec.exAt, spec.ExchangeAt, slices.Index[[][2]int,[2]int], slices.Contains[[][2]int,[2]int], slices.Clone[[]int,int], impl.exchanged$1. No condition. -/
import Derived.Test.YtdghlhdpcmemjaaFBD
import Derived.Test.YtdghlhdpcmemjaaFBE
import Derived.Test.YtdghlhdpcmemjaaG1
import Derived.Test.YtdghlhdpcmemjaaG2
import Derived.Test.YtdghlhdpcmemjaaG3
import Derived.Test.YtdghlhdpcmemjaaALD
import Derived.Test.YtdghlhdpcmemjaaProg
import Derived.KernelRfl
namespace Go.Proofs.Ytdghlhdpcmemjaa.AL
open Go Go.RowKit
set_option linter.unusedVariables false
set_option linter.unusedSimpArgs false
set_option maxRecDepth 4096
theorem un_4 : Try.prog.underlying 4 = some .bool := by kernel_rfl
theorem us_22 : Try.prog.underlying 22 = some (.slice 3) := by kernel_rfl
def F_laws_eqIntS_L1 (fu : Nat) (k1_0 : List Int) (k1_1 : List Int) : Nat → Int → Option (LR (Bool) (Int))
  | 0, _ => none
  | n + 1, y1_5 =>
    bif (ilt y1_5 (llen k1_0)) then
      gd (inL k1_0 y1_5) (
      gd (inL k1_1 y1_5) (
      bif (ine (gat 0 k1_0 y1_5) (gat 0 k1_1 y1_5)) then
        some (.ret false)
      else
        F_laws_eqIntS_L1 fu k1_0 k1_1 n (iadd .i64 y1_5 1)))
    else
      some (.brk y1_5)
def F_laws_eqIntS (fu : Nat) (x0 : List Int) (x1 : List Int) : Option (Bool) :=
  bif (ine (llen x0) (llen x1)) then
    some false
  else
    bd (F_laws_eqIntS_L1 fu x0 x1 fu 0) fun s1 =>
    lr s1 fun s1 =>
    some true
theorem F_laws_eqIntS_w {fu : Nat} {H : AH} {v0 : Value} {v1 : Value} {x0 : List Int} {x1 : List Int} {r : (Bool)} (hx0 : Sl H v0 (ints x0)) (hx1 : Sl H v1 (ints x1)) (hF : F_laws_eqIntS fu x0 x1 = some r) :
    ACallT Try.prog 19 [v0, v1] H (fun u G => AgB (Fr H) H G ∧ u = (Value.bool r) ∧ Sep G (Fr H) []) := by
  refine ACallT.of_body (nt := 26) (rs := [.tmp 4]) Try.func19 rfl rfl rfl rfl ?_
  have A0 : AgB (Fr H) H H := .refl _ _
  have S0 : Sep H (Fr H) [] := .nil
  have hB := Fr.up H
  unfold F_laws_eqIntS at hF
  refine DWp.seq ?_
  refine DWp.region fun K hK => ?_
  simp [-aBin', -aBin, -aBinI, -aUn, -aNil, -flatV, n_fn, b_add, b_sub, b_mul, b_lt, b_le, b_gt, b_ge, b_eq, b_ne, u_not]
  apply hK
  clear hK K
  simp only [andThen, leaves]
  refine DWp.seq ?_
  refine DWp.seq ?_
  have q1 := lenG (P := Try.prog) (hx0.agree A0.agree) el_22
  have q2 := lenG (P := Try.prog) (hx1.agree A0.agree) el_22
  refine DWp.region fun K hK => ?_
  simp [-aBin', -aBin, -aBinI, -aUn, -aNil, -flatV, n_fn, b_add, b_sub, b_mul, b_lt, b_le, b_gt, b_ge, b_eq, b_ne, u_not, q1, q2]
  apply hK
  clear hK K
  simp only [andThen, leaves]
  refine DWp.cond' (t := (ine (llen x0) (llen x1))) (by simp []) (fun hb3 => ?_) (fun hb3 => ?_)
  · replace hF := cd_t hb3 hF
    refine DWp.seq ?_
    refine DWp.region fun K hK => ?_
    simp [-aBin', -aBin, -aBinI, -aUn, -aNil, -flatV, n_fn, b_add, b_sub, b_mul, b_lt, b_le, b_gt, b_ge, b_eq, b_ne, u_not]
    apply hK
    clear hK K
    simp only [andThen, leaves]
    refine DWp.ret ?_
    simp only [andThen, leaves]
    obtain rfl := Option.some.inj hF
    exact ⟨by simp, [(Value.bool false)], by simp [], A0, rfl, S0.pick [] (by decide) rfl⟩
  · replace hF := cd_f hb3 hF
    refine DWp.skip ?_
    simp only [andThen, leaves]
    refine DWp.seq ?_
    refine DWp.seq ?_
    refine DWp.region fun K hK => ?_
    simp [-aBin', -aBin, -aBinI, -aUn, -aNil, -flatV, n_fn, b_add, b_sub, b_mul, b_lt, b_le, b_gt, b_ge, b_eq, b_ne, u_not]
    apply hK
    clear hK K
    simp only [andThen, leaves]
    refine DWp.block ?_
    obtain ⟨s4, hL5, hF⟩ := bd_some hF
    have S6 := S0.pick [] (by decide) rfl
    refine DWp.loop (fun n env G => ∃ y1_5 : Int, F_laws_eqIntS_L1 fu x0 x1 n y1_5 = some s4 ∧ Sep G (Fr H) [] ∧ AgB (Fr H) H G ∧ env 0 = some v0 ∧ env 1 = some v1 ∧ env 5 = some (Value.int .i64 y1_5)) fu ⟨0, hL5, S6, A0, by simp [], by simp [], by simp []⟩ ?_
    rintro n1 env1 G1_ ⟨y1_5, hL5, S1_, A1_, e1_0, e1_1, e1_5⟩
    cases n1 with
    | zero => cases hL5
    | succ n1 =>
      simp only [F_laws_eqIntS_L1] at hL5
      refine DWp.seq ?_
      refine DWp.seq ?_
      have q7 := lenG (P := Try.prog) (hx0.agree A1_.agree) el_22
      refine DWp.region fun K hK => ?_
      simp [-aBin', -aBin, -aBinI, -aUn, -aNil, -flatV, n_fn, b_add, b_sub, b_mul, b_lt, b_le, b_gt, b_ge, b_eq, b_ne, u_not, e1_0, e1_1, e1_5, q7]
      apply hK
      clear hK K
      simp only [andThen, leaves]
      refine DWp.cond' (t := (ilt y1_5 (llen x0))) (by simp [e1_0, e1_1, e1_5]) (fun hb8 => ?_) (fun hb8 => ?_)
      · replace hL5 := cd_t hb8 hL5
        refine DWp.skip ?_
        simp only [andThen, leaves]
        refine DWp.seq ?_
        refine DWp.block ?_
        refine DWp.seq ?_
        obtain ⟨g9, hL5⟩ := gd_some hL5
        have q10 := idxG (P := Try.prog) (kk := .i64) (hx0.agree A1_.agree) el_22 sz_3 g9
        have q11 := loadG (P := Try.prog) (hx0.agree A1_.agree) sz_3 ag_3 g9 0
        obtain ⟨g12, hL5⟩ := gd_some hL5
        have q13 := idxG (P := Try.prog) (kk := .i64) (hx1.agree A1_.agree) el_22 sz_3 g12
        have q14 := loadG (P := Try.prog) (hx1.agree A1_.agree) sz_3 ag_3 g12 0
        refine DWp.drawn (B := [0, 0, 3, 7, 0, 0, 48, 112, 255]) 9 mixed (by kernel_rfl) (by decide) fun K hK => ?_
        simp [-aBin', -aBin, -aBinI, -aUn, -aNil, -flatV, n_fn, b_add, b_sub, b_mul, b_lt, b_le, b_gt, b_ge, b_eq, b_ne, u_not, e1_0, e1_1, e1_5, q10, q11, q13, q14]
        apply hK
        clear hK K
        simp only [andThen, leaves]
        refine DWp.cond' (t := (ine (gat 0 x0 y1_5) (gat 0 x1 y1_5))) (by simp [e1_0, e1_1, e1_5]) (fun hb15 => ?_) (fun hb15 => ?_)
        · replace hL5 := cd_t hb15 hL5
          refine DWp.seq ?_
          refine DWp.region fun K hK => ?_
          simp [-aBin', -aBin, -aBinI, -aUn, -aNil, -flatV, n_fn, b_add, b_sub, b_mul, b_lt, b_le, b_gt, b_ge, b_eq, b_ne, u_not, e1_0, e1_1, e1_5]
          apply hK
          clear hK K
          simp only [andThen, leaves]
          refine DWp.ret ?_
          simp only [andThen, leaves]
          obtain rfl := Option.some.inj hL5
          simp only [lr] at hF
          obtain rfl := Option.some.inj hF
          exact ⟨by simp, [(Value.bool false)], by simp [e1_0, e1_1, e1_5], A1_, rfl, S1_.pick [] (by decide) rfl⟩
        · replace hL5 := cd_f hb15 hL5
          refine DWp.skip ?_
          simp only [andThen, leaves]
          refine DWp.region fun K hK => ?_
          simp [-aBin', -aBin, -aBinI, -aUn, -aNil, -flatV, n_fn, b_add, b_sub, b_mul, b_lt, b_le, b_gt, b_ge, b_eq, b_ne, u_not, e1_0, e1_1, e1_5]
          apply hK
          clear hK K
          simp only [andThen, leaves]
          have S16 := S1_.pick [] (by decide) rfl
          exact ⟨n1, Nat.lt_succ_self _, (iadd .i64 y1_5 1), hL5, S16, A1_, by simp [e1_0, e1_1, e1_5], by simp [e1_0, e1_1, e1_5], by simp [e1_0, e1_1, e1_5]⟩
      · replace hL5 := cd_f hb8 hL5
        refine DWp.exit ?_
        simp only [andThen, leaves, if_true, if_false, reduceIte, Nat.reduceEqDiff]
        obtain rfl := Option.some.inj hL5
        simp only [lr] at hF
        refine DWp.seq ?_
        refine DWp.region fun K hK => ?_
        simp [-aBin', -aBin, -aBinI, -aUn, -aNil, -flatV, n_fn, b_add, b_sub, b_mul, b_lt, b_le, b_gt, b_ge, b_eq, b_ne, u_not, e1_0, e1_1, e1_5]
        apply hK
        clear hK K
        simp only [andThen, leaves]
        refine DWp.ret ?_
        obtain rfl := Option.some.inj hF
        exact ⟨by simp, [(Value.bool true)], by simp [e1_0, e1_1, e1_5], A1_, rfl, S1_.pick [] (by decide) rfl⟩
def F_slices_Clone_Sint (fu : Nat) (x0 : List Int) : Option (List Int) :=
  gd ((@List.nil Int).length + x0.length ≤ 4294967296) (
  some (lapp (@List.nil Int) x0))
theorem F_slices_Clone_Sint_w {fu : Nat} {H : AH} {v0 : Value} {x0 : List Int} {r : (List Int)} (hx0 : Sl H v0 (ints x0)) (hF : F_slices_Clone_Sint fu x0 = some r) :
    ACallT Try.prog 98 [v0] H (fun u G => AgB (Fr H) H G ∧ ∃ u0 : Value, u = u0 ∧ Sep G (Fr H) [flat u0 3 (ints r)]) := by
  refine ACallT.of_body (nt := 8) (rs := [.tmp 2]) Try.func98 rfl rfl rfl rfl ?_
  have A0 : AgB (Fr H) H H := .refl _ _
  have S0 : Sep H (Fr H) [] := .nil
  have hB := Fr.up H
  by_cases hn0 : v0 = .slice none 0 0
  ·
    subst hn0
    have hx1 : x0 = [] := by
      rcases hx0 with ⟨_, h_⟩ | ⟨_, _, _, _, _, h_, _⟩
      · cases x0 with
        | nil => rfl
        | cons a_ b_ => cases h_
      · cases h_
    subst hx1
    have hF2 : (some [] : Option (List Int)) = some r := by
      rw [← hF]
      unfold F_slices_Clone_Sint
      rw [gd_true (by simp)]
      rfl
    refine DWp.seq ?_
    refine DWp.region fun K hK => ?_
    simp [-aBin', -aBin, -aBinI, -aUn, -aNil, -flatV, n_fn, b_add, b_sub, b_mul, b_lt, b_le, b_gt, b_ge, b_eq, b_ne, u_not]
    apply hK
    clear hK K
    simp only [andThen, leaves]
    refine DWp.seq ?_
    refine DWp.seq ?_
    refine DWp.region fun K hK => ?_
    simp [-aBin', -aBin, -aBinI, -aUn, -aNil, -flatV, n_fn, b_add, b_sub, b_mul, b_lt, b_le, b_gt, b_ge, b_eq, b_ne, u_not, nil_tt us_22]
    apply hK
    clear hK K
    simp only [andThen, leaves]
    refine DWp.ct (by simp [bnot]) ?_
    refine DWp.seq ?_
    refine DWp.region fun K hK => ?_
    simp [-aBin', -aBin, -aBinI, -aUn, -aNil, -flatV, n_fn, b_add, b_sub, b_mul, b_lt, b_le, b_gt, b_ge, b_eq, b_ne, u_not]
    apply hK
    clear hK K
    simp only [andThen, leaves]
    refine DWp.ret ?_
    simp only [andThen, leaves]
    have S1 := S0.nilItem (hB.le A0.1) 3
    obtain rfl := Option.some.inj hF2
    exact ⟨by simp, [(Value.slice none 0 0)], by simp [], A0, (Value.slice none 0 0), rfl, S1.pick [0] (by decide) rfl⟩
  · unfold F_slices_Clone_Sint at hF
    refine DWp.seq ?_
    refine DWp.region fun K hK => ?_
    simp [-aBin', -aBin, -aBinI, -aUn, -aNil, -flatV, n_fn, b_add, b_sub, b_mul, b_lt, b_le, b_gt, b_ge, b_eq, b_ne, u_not]
    apply hK
    clear hK K
    simp only [andThen, leaves]
    refine DWp.seq ?_
    refine DWp.seq ?_
    refine DWp.region fun K hK => ?_
    simp [-aBin', -aBin, -aBinI, -aUn, -aNil, -flatV, n_fn, b_add, b_sub, b_mul, b_lt, b_le, b_gt, b_ge, b_eq, b_ne, u_not, nil_ff us_22 (hx0.agree A0.agree) hn0]
    apply hK
    clear hK K
    simp only [andThen, leaves]
    refine DWp.cf (by simp [bnot]) ?_
    refine DWp.skip ?_
    simp only [andThen, leaves]
    refine DWp.seq ?_
    obtain ⟨v1, G2, q3, S4, a6, _, _⟩ := S0.lit0 (P := Try.prog) (t := 22) (hB.le A0.1) el_22 ei_3 rfl
    have A5 := A0.ext (hB.le A0.1) a6
    replace S4 : Sep G2 (Fr H) [flat1 v1 3 (ints (@List.nil Int))] := S4
    obtain ⟨g8, hF⟩ := gd_some hF
    obtain ⟨v14, G9, q10, S11, a13, _, _⟩ := S4.append1 (f := (Value.int .i64)) (xs := (@List.nil Int)) (ys := x0) (P := Try.prog) (t := 22) (t2 := 22) (k := 0) rfl (hB.le A5.1) el_22 el_22 ei_3 rfl (hx0.agree A5.agree) g8
    have A12 := A5.trans a13
    replace S11 : Sep G9 (Fr H) [flat v14 3 (ints (lapp (@List.nil Int) x0))] := S11
    refine DWp.region fun K hK => ?_
    simp [-aBin', -aBin, -aBinI, -aUn, -aNil, -flatV, n_fn, b_add, b_sub, b_mul, b_lt, b_le, b_gt, b_ge, b_eq, b_ne, u_not, q3, a6.to_pre, q10]
    apply hK
    clear hK K
    simp only [andThen, leaves]
    refine DWp.ret ?_
    obtain rfl := Option.some.inj hF
    exact ⟨by simp, [v14], by simp [((S11.sl (k := 0) rfl).tup)], A12, v14, rfl, S11.pick [0] (by decide) rfl⟩
end Go.Proofs.Ytdghlhdpcmemjaa.AL

/- The walks of functions, each with its Lean function: impl.neighbours, impl.ExchangesOf, spec.exBefore, spec.l1Same, spec.exPut, spec.ExchangesOf, impl.CountExchanges, impl.FacesOf, spec.FacesOf, laws.sSameRows. No condition. -/
import Derived.Test.YtogghgecmjnieaaGreatG1
import Derived.Test.YtogghgecmjnieaaGreatG2
import Derived.Test.YtogghgecmjnieaaGreatG3
import Derived.Test.YtogghgecmjnieaaGreatG4
import Derived.Test.YtogghgecmjnieaaGreatG5
import Derived.Test.YtogghgecmjnieaaGreatG6
import Derived.Test.YtogghgecmjnieaaGreatG7
import Derived.Test.YtogghgecmjnieaaGreatALD
import Derived.Test.YtogghgecmjnieaaGreatProg
import Derived.KernelRfl
namespace Go.Proofs.YtogghgecmjnieaaGreat.AL
open Go Go.RowKit
set_option linter.unusedVariables false
set_option linter.unusedSimpArgs false
set_option maxRecDepth 4096
attribute [local simp] n_fn b_add b_sub b_mul b_lt b_le b_gt b_ge b_eq b_ne u_not
theorem ze_66 : zeroT Tryz.prog 66 = some (.agg #[.int .i64 0, .int .i64 0]) := by kernel_rfl
def F_laws_sSameRows_L1 (fu : Nat) (k1_0 : List (List Int)) (k1_1 : List (List Int)) (k1_2 : Int) : Nat → Int → Option (LR (Bool) (Int))
  | 0, _ => none
  | n + 1, y1_13 =>
    bif (ilt y1_13 k1_2) then
      gd (inL k1_0 y1_13) (
      gd (inL k1_1 y1_13) (
      bd (F_laws_sSame fu (gat [] k1_0 y1_13) (gat [] k1_1 y1_13)) fun r1 =>
      bif (bnot r1) then
        some (.ret false)
      else
        F_laws_sSameRows_L1 fu k1_0 k1_1 k1_2 n (iadd .i64 y1_13 1)))
    else
      some (.brk y1_13)
def F_laws_sSameRows (fu : Nat) (x0 : List (List Int)) (x1 : List (List Int)) : Option (Bool) :=
  bif (ine (llen x0) (llen x1)) then
    some false
  else
    bd (F_laws_sSameRows_L1 fu x0 x1 (llen x0) fu 0) fun s1 =>
    lr s1 fun s1 =>
    some true
theorem F_laws_sSameRows_w {fu : Nat} {H : AH} {v0 : Value} {v1 : Value} {x0 : List (List Int)} {x1 : List (List Int)} {r : (Bool)} (hx0 : SlSl H v0 (List.map ints x0)) (hx1 : SlSl H v1 (List.map ints x1)) (hF : F_laws_sSameRows fu x0 x1 = some r) :
    ACallT Tryz.prog 17 [v0, v1] H (fun u G => AgB (Fr H) H G ∧ u = (Value.bool r) ∧ Sep G (Fr H) []) := by
 refine ACallT.of_body (nt := 27) (rs := [.tmp 4]) Tryz.func17 rfl rfl rfl rfl ?_;have A0 : AgB (Fr H) H H := .refl _ _;have S0 : Sep H (Fr H) [] := .nil;have hB := Fr.up H;unfold F_laws_sSameRows at hF;obtain ⟨C0, hC0⟩ := hx0.rd;obtain ⟨C1, hC1⟩ := hx1.rd;refine .sr fun K hK => ?_;simp [];apply hK;refine .seq ?_;have q1 := (hC0.agree A0.agree).lenG el_31;have q2 := (hC1.agree A0.agree).lenG el_31;refine .sr fun K hK => ?_;simp [q1, q2];apply hK;refine DWp.cond' (t := (ine (llen x0) (llen x1))) (by simp []) (fun hb3 => ?_) (fun hb3 => ?_)
 ·replace hF := cd_t hb3 hF;refine .sr fun K hK => ?_;simp [];apply hK;refine DWp.ret ?_;simp only [andThen, leaves];obtain rfl := Option.some.inj hF;exact ⟨by simp, [(Value.bool false)], by simp [], A0, rfl, S0.pick [] (by decide) rfl⟩
 ·replace hF := cd_f hb3 hF;refine DWp.skip ?_;simp only [andThen, leaves];refine .seq ?_;have q4 := (hC0.agree A0.agree).lenG el_31;refine .sr fun K hK => ?_;simp [q4];apply hK;refine .block ?_;obtain ⟨s5, hL6, hF⟩ := bd_some hF;have S7 := S0.pick [] (by decide) rfl;refine DWp.loop (fun n env G => ∃ y1_13 : Int, F_laws_sSameRows_L1 fu x0 x1 (llen x0) n y1_13 = some s5 ∧ Sep G (Fr H) [] ∧ AgB (Fr H) H G ∧ env 0 = some v0 ∧ env 1 = some v1 ∧ env 12 = some (Value.int .i64 (llen x0)) ∧ env 13 = some (Value.int .i64 y1_13)) fu ⟨0, hL6, S7, A0, by simp []⟩ ?_;rintro n1 env1 G1_ ⟨y1_13, hL6, S1_, A1_, e1_⟩;cases n1 with
  | zero => cases hL6
  | succ n1 =>
   simp only [F_laws_sSameRows_L1] at hL6;refine .sr fun K hK => ?_;simp [e1_];apply hK;refine .seq ?_;refine DWp.cond' (t := (ilt y1_13 (llen x0))) (by simp [e1_]) (fun hb8 => ?_) (fun hb8 => ?_)
   ·replace hL6 := cd_t hb8 hL6;refine DWp.skip ?_;simp only [andThen, leaves];refine .seq ?_;refine .block ?_;refine .sr fun K hK => ?_;simp [e1_];apply hK;obtain ⟨g9, hL6⟩ := gd_some hL6;have q10 := (hC0.agree A1_.agree).idxG (kk := .i64) el_31 sz_24 g9;have q11 := (hC0.agree A1_.agree).loadG sz_24 ag_24 g9;obtain ⟨g12, hL6⟩ := gd_some hL6;have q13 := (hC1.agree A1_.agree).idxG (kk := .i64) el_31 sz_24 g12;have q14 := (hC1.agree A1_.agree).loadG sz_24 ag_24 g12;obtain ⟨r1, hc15, hL6⟩ := bd_some hL6;refine .sd (B := [0, 0, 3, 7, 0, 0, 48, 112, 255, 511]) 10 mixed (by kernel_rfl) (by decide) fun K hK => ?_;simp [e1_, q10, q11, q13, q14, (((hC0.agree A1_.agree).rowAt [] g9).tup), (((hC1.agree A1_.agree).rowAt [] g12).tup)];refine CallD.t (F_laws_sSame_w (fu := fu) ((hC0.agree A1_.agree).rowAt [] g9) ((hC1.agree A1_.agree).rowAt [] g12) hc15) ?_;rintro _ G17 ⟨a20, rfl, S21⟩;have A19 := A1_.ext (hB.le A1_.1) a20.agree;have S18 : Sep G17 (Fr H) [] := S1_.app a20.agree S21 (fun _ h => h) (hB.le A1_.1);simp [e1_, q10, q11, q13, q14, a20.pre];apply hK;refine DWp.cond' (t := (bnot r1)) (by simp [e1_]) (fun hb22 => ?_) (fun hb22 => ?_)
    ·replace hL6 := cd_t hb22 hL6;refine .sr fun K hK => ?_;simp [e1_];apply hK;refine DWp.ret ?_;simp only [andThen, leaves];obtain rfl := Option.some.inj hL6;simp only [lr] at hF;obtain rfl := Option.some.inj hF;exact ⟨by simp, [(Value.bool false)], by simp [e1_], A19, rfl, S18.pick [] (by decide) rfl⟩
    ·replace hL6 := cd_f hb22 hL6;refine DWp.skip ?_;simp only [andThen, leaves];refine .region fun K hK => ?_;simp [e1_];apply hK;simp only [andThen, leaves];have S23 := S18.pick [] (by decide) rfl;exact ⟨n1, Nat.lt_succ_self _, (iadd .i64 y1_13 1), hL6, S23, A19, by simp [e1_]⟩
   ·replace hL6 := cd_f hb8 hL6;refine DWp.exit ?_;simp only [andThen, leaves, if_true, if_false, reduceIte, Nat.reduceEqDiff];obtain rfl := Option.some.inj hL6;simp only [lr] at hF;refine .sr fun K hK => ?_;simp [e1_];apply hK;refine DWp.ret ?_;obtain rfl := Option.some.inj hF;exact ⟨by simp, [(Value.bool true)], by simp [e1_], A1_, rfl, S1_.pick [] (by decide) rfl⟩
end Go.Proofs.YtogghgecmjnieaaGreat.AL

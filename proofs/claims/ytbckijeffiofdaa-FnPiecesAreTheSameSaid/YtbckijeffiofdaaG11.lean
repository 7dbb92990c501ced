/- The walks of functions, each with its Lean function: laws.FnExactCountByPieces, laws.szIntS, laws.szMeander, laws.toIntS, laws.toMeander, spec.l1All, spec.ahGood, spec.mePair, spec.IsSimple, impl.isCut. No condition. -/
import Derived.Test.YtbckijeffiofdaaG1
import Derived.Test.YtbckijeffiofdaaG10
import Derived.Test.YtbckijeffiofdaaG2
import Derived.Test.YtbckijeffiofdaaG3
import Derived.Test.YtbckijeffiofdaaG4
import Derived.Test.YtbckijeffiofdaaG5
import Derived.Test.YtbckijeffiofdaaG6
import Derived.Test.YtbckijeffiofdaaG7
import Derived.Test.YtbckijeffiofdaaG8
import Derived.Test.YtbckijeffiofdaaG9
import Derived.Test.YtbckijeffiofdaaALD
import Derived.Test.YtbckijeffiofdaaProg
import Derived.KernelRfl
namespace Go.Proofs.Ytbckijeffiofdaa.AL
open Go Go.RowKit
set_option linter.unusedVariables false
set_option linter.unusedSimpArgs false
set_option maxRecDepth 4096
attribute [local simp] n_fn b_add b_sub b_mul b_lt b_le b_gt b_ge b_eq b_ne u_not
def F_spec_l1All_L1 (fu : Nat) (k1_0 : Int) (k1_1 : Int) (k1_2 : List Int) (k1_3 : Int) : Nat → Int → Option (LR (Bool) (Int))
  | 0, _ => none
  | n + 1, y1_11 =>
    bif (ilt y1_11 k1_3) then
      gd (inL k1_2 y1_11) (
      bd (F_spec_l1In fu (gat 0 k1_2 y1_11) k1_0 k1_1) fun r1 =>
      bif (bnot r1) then
        some (.ret false)
      else
        F_spec_l1All_L1 fu k1_0 k1_1 k1_2 k1_3 n (iadd .i64 y1_11 1))
    else
      some (.brk y1_11)
def F_spec_l1All (fu : Nat) (x0 : List Int) (x1 : Int) (x2 : Int) : Option (Bool) :=
  bd (F_spec_l1All_L1 fu x1 x2 x0 (llen x0) fu 0) fun s1 =>
  lr s1 fun s1 =>
  some true
theorem F_spec_l1All_w {fu : Nat} {H : AH} {v0 : Value} {x0 : List Int} {x1 : Int} {x2 : Int} {r : (Bool)} (hx0 : Sl H v0 (ints x0)) (hF : F_spec_l1All fu x0 x1 x2 = some r) :
    ACallT Try.prog 161 [v0, (Value.int .i64 x1), (Value.int .i64 x2)] H (fun u G => AgB (Fr H) H G ∧ u = (Value.bool r) ∧ Sep G (Fr H) []) := by
 refine ACallT.of_body (nt := 21) (rs := [.tmp 6]) Try.func161 rfl rfl rfl rfl ?_;have A0 : AgB (Fr H) H H := .refl _ _;have S0 : Sep H (Fr H) [] := .nil;have hB := Fr.up H;unfold F_spec_l1All at hF;refine .sr fun K hK => ?_;simp [];apply hK;clear hK K;refine .seq ?_;have q1 := lenG (P := Try.prog) (hx0.agree A0.agree) el_22;refine .sr fun K hK => ?_;simp [q1];apply hK;clear hK K;refine .block ?_;obtain ⟨s2, hL3, hF⟩ := bd_some hF;have S4 := S0.pick [] (by decide) rfl;refine DWp.loop (fun n env G => ∃ y1_11 : Int, F_spec_l1All_L1 fu x1 x2 x0 (llen x0) n y1_11 = some s2 ∧ Sep G (Fr H) [] ∧ AgB (Fr H) H G ∧ env 1 = some (Value.int .i64 x1) ∧ env 2 = some (Value.int .i64 x2) ∧ env 9 = some v0 ∧ env 10 = some (Value.int .i64 (llen x0)) ∧ env 11 = some (Value.int .i64 y1_11)) fu ⟨0, hL3, S4, A0, by simp []⟩ ?_;rintro n1 env1 G1_ ⟨y1_11, hL3, S1_, A1_, e1_1, e1_2, e1_9, e1_10, e1_11⟩;cases n1 with
 | zero => cases hL3
 | succ n1 =>
  simp only [F_spec_l1All_L1] at hL3;refine .sr fun K hK => ?_;simp [e1_1, e1_2, e1_9, e1_10, e1_11];apply hK;clear hK K;refine .seq ?_;refine DWp.cond' (t := (ilt y1_11 (llen x0))) (by simp [e1_1, e1_2, e1_9, e1_10, e1_11]) (fun hb5 => ?_) (fun hb5 => ?_)
  ·replace hL3 := cd_t hb5 hL3;refine DWp.skip ?_;simp only [andThen, leaves];refine .seq ?_;refine .block ?_;obtain ⟨g6, hL3⟩ := gd_some hL3;have q7 := idxG (P := Try.prog) (kk := .i64) (hx0.agree A1_.agree) el_22 sz_3 g6;have q8 := loadG (P := Try.prog) (hx0.agree A1_.agree) sz_3 ag_3 g6 0;refine .sr fun K hK => ?_;simp [e1_1, e1_2, e1_9, e1_10, e1_11, q7, q8];apply hK;clear hK K;obtain ⟨r1, hc9, hL3⟩ := bd_some hL3;refine .sr fun K hK => ?_;simp [e1_1, e1_2, e1_9, e1_10, e1_11];refine CallD.t (F_spec_l1In_w (fu := fu)  hc9) ?_;rintro _ G11 ⟨a14, rfl, S15⟩;have A13 := A1_.ext (hB.le A1_.1) a14.agree;have S12 : Sep G11 (Fr H) [] := S1_.app a14.agree S15 (fun _ h => h) (hB.le A1_.1);simp [e1_1, e1_2, e1_9, e1_10, e1_11, a14.pre];apply hK;clear hK K;refine DWp.cond' (t := (bnot r1)) (by simp [e1_1, e1_2, e1_9, e1_10, e1_11]) (fun hb16 => ?_) (fun hb16 => ?_)
   ·replace hL3 := cd_t hb16 hL3;refine .sr fun K hK => ?_;simp [e1_1, e1_2, e1_9, e1_10, e1_11];apply hK;clear hK K;refine DWp.ret ?_;simp only [andThen, leaves];obtain rfl := Option.some.inj hL3;simp only [lr] at hF;obtain rfl := Option.some.inj hF;exact ⟨by simp, [(Value.bool false)], by simp [e1_1, e1_2, e1_9, e1_10, e1_11], A13, rfl, S12.pick [] (by decide) rfl⟩
   ·replace hL3 := cd_f hb16 hL3;refine DWp.skip ?_;simp only [andThen, leaves];refine .region fun K hK => ?_;simp [e1_1, e1_2, e1_9, e1_10, e1_11];apply hK;clear hK K;simp only [andThen, leaves];have S17 := S12.pick [] (by decide) rfl;exact ⟨n1, Nat.lt_succ_self _, (iadd .i64 y1_11 1), hL3, S17, A13, by simp [e1_1, e1_2, e1_9, e1_10, e1_11]⟩
  ·replace hL3 := cd_f hb5 hL3;refine DWp.exit ?_;simp only [andThen, leaves, if_true, if_false, reduceIte, Nat.reduceEqDiff];obtain rfl := Option.some.inj hL3;simp only [lr] at hF;refine .sr fun K hK => ?_;simp [e1_1, e1_2, e1_9, e1_10, e1_11];apply hK;clear hK K;refine DWp.ret ?_;obtain rfl := Option.some.inj hF;exact ⟨by simp, [(Value.bool true)], by simp [e1_1, e1_2, e1_9, e1_10, e1_11], A1_, rfl, S1_.pick [] (by decide) rfl⟩
def F_spec_ahGood_L1 (fu : Nat) (k1_0 : List Int) (k1_1 : Int) : Nat → List Int → Int → Option (LR (Bool) (List Int × Int))
  | 0, _, _ => none
  | n + 1, l1_0, y1_25 =>
    bif (ilt y1_25 k1_1) then
      gd (inL k1_0 y1_25) (
      bd (
        bif (ilt y1_25 (gat 0 k1_0 y1_25)) then
          gd (inL k1_0 (gat 0 k1_0 y1_25)) (
          some (ieq (gat 0 k1_0 (gat 0 k1_0 y1_25)) y1_25))
        else
          some false) fun s31 =>
      bif s31 then
        gd ([y1_25].length + l1_0.length ≤ 4294967296) (
        F_spec_ahGood_L1 fu k1_0 k1_1 n (lapp [y1_25] l1_0) (iadd .i64 y1_25 1))
      else
        bd (
          bif (ilt (gat 0 k1_0 y1_25) y1_25) then
            bif (ilt 0 (llen l1_0)) then
              gd (inL l1_0 0) (
              some (ieq (gat 0 l1_0 0) (gat 0 k1_0 y1_25)))
            else
              some false
          else
            some false) fun s57 =>
        bif s57 then
          gd (subL l1_0 1 (llen l1_0)) (
          F_spec_ahGood_L1 fu k1_0 k1_1 n (lsub l1_0 1 (llen l1_0)) (iadd .i64 y1_25 1))
        else
          some (.ret false))
    else
      some (.brk (l1_0, y1_25))
def F_spec_ahGood (fu : Nat) (x0 : List Int) : Option (Bool) :=
  bd (
    bif (ieq (irem (llen x0) 2) 1) then
      some true
    else
      bif (ilt 12 (llen x0)) then
        some true
      else
        bd (F_spec_l1All fu x0 0 (isub .i64 (llen x0) 1)) fun r1 =>
        some (bnot r1)) fun s1 =>
  bif s1 then
    some false
  else
    bd (F_spec_ahGood_L1 fu x0 (llen x0) fu (@List.nil Int) 0) fun s1 =>
    lr s1 fun s1 =>
    some true
theorem F_spec_ahGood_w {fu : Nat} {H : AH} {v0 : Value} {x0 : List Int} {r : (Bool)} (hx0 : Sl H v0 (ints x0)) (hF : F_spec_ahGood fu x0 = some r) :
    ACallT Try.prog 133 [v0] H (fun u G => AgB (Fr H) H G ∧ u = (Value.bool r) ∧ Sep G (Fr H) []) := by
 refine ACallT.of_body (nt := 65) (rs := [.tmp 2]) Try.func133 rfl rfl rfl rfl ?_;have A0 : AgB (Fr H) H H := .refl _ _;have S0 : Sep H (Fr H) [] := .nil;have hB := Fr.up H;unfold F_spec_ahGood at hF;refine .sr fun K hK => ?_;simp [];apply hK;clear hK K;refine .seq ?_;obtain ⟨s1, hL2, hF⟩ := bd_some hF;refine DWp.seq (DWp.join (fun env G => Sep G (Fr H) [] ∧ AgB (Fr H) H G ∧ env 0 = some v0 ∧ env 22 = some (Value.bool s1)) ?_ ?_)
 ·
  have q4 := lenG (P := Try.prog) (hx0.agree A0.agree) el_22;have g5 : (2 : Int) ≠ 0 := by decide
  rcases Bool.eq_false_or_eq_true (ieq (irem (llen x0) 2) 1) with hb6 | hb6
  ·replace hL2 := cd_t hb6 hL2;refine .region fun K hK => ?_;simp [hb6, q4, b_rem g5];apply hK;clear hK K;simp only [andThen, leaves];have S7 := S0.pick [] (by decide) rfl;obtain rfl := Option.some.inj hL2;exact ⟨S7, A0, by simp []⟩
  ·replace hL2 := cd_f hb6 hL2;have q8 := lenG (P := Try.prog) (hx0.agree A0.agree) el_22;rcases Bool.eq_false_or_eq_true (ilt 12 (llen x0)) with hb9 | hb9
   ·replace hL2 := cd_t hb9 hL2;refine .region fun K hK => ?_;simp [hb6, hb9, q4, b_rem g5, q8];apply hK;clear hK K;simp only [andThen, leaves];have S10 := S0.pick [] (by decide) rfl;obtain rfl := Option.some.inj hL2;exact ⟨S10, A0, by simp []⟩
   ·replace hL2 := cd_f hb9 hL2;have q11 := lenG (P := Try.prog) (hx0.agree A0.agree) el_22;obtain ⟨r1, hc12, hL2⟩ := bd_some hL2;refine .region fun K hK => ?_;simp [hb6, hb9, q4, b_rem g5, q8, q11, ((hx0.agree A0.agree).tup)];refine CallD.t (F_spec_l1All_w (fu := fu) (hx0.agree A0.agree) hc12) ?_;rintro _ G14 ⟨a17, rfl, S18⟩;have A16 := A0.ext (hB.le A0.1) a17.agree;have S15 : Sep G14 (Fr H) [] := S0.app a17.agree S18 (fun _ h => h) (hB.le A0.1);simp [hb6, hb9, q4, b_rem g5, q8, q11, a17.pre];apply hK;clear hK K;simp only [andThen, leaves];have S19 := S15.pick [] (by decide) rfl;obtain rfl := Option.some.inj hL2;exact ⟨S19, A16, by simp []⟩
 ·rintro env Gj20 ⟨Sj20, Aj20, ej20_0, ej20_22⟩;refine DWp.cond' (t := s1) (by simp [ej20_0, ej20_22]) (fun hb21 => ?_) (fun hb21 => ?_)
  ·replace hF := cd_t hb21 hF;refine .sr fun K hK => ?_;simp [ej20_0, ej20_22];apply hK;clear hK K;refine DWp.ret ?_;simp only [andThen, leaves];obtain rfl := Option.some.inj hF;exact ⟨by simp, [(Value.bool false)], by simp [ej20_0, ej20_22], Aj20, rfl, Sj20.pick [] (by decide) rfl⟩
  ·replace hF := cd_f hb21 hF;refine DWp.skip ?_;simp only [andThen, leaves];refine .sr fun K hK => ?_;simp [ej20_0, ej20_22];apply hK;clear hK K;refine .seq ?_;have q22 := lenG (P := Try.prog) (hx0.agree Aj20.agree) el_22;refine .sr fun K hK => ?_;simp [ej20_0, ej20_22, q22];apply hK;clear hK K;refine .block ?_;have S23 := Sj20.nilItem (hB.le Aj20.1) 3;obtain ⟨s24, hL25, hF⟩ := bd_some hF;have S26 := S23.pick [0] (by decide) rfl;refine DWp.loop (fun n env G => ∃ l1_0 : List Int, ∃ y1_25 : Int, ∃ w1_0 : Value, F_spec_ahGood_L1 fu x0 (llen x0) n l1_0 y1_25 = some s24 ∧ Sep G (Fr H) [flat w1_0 3 (ints l1_0)] ∧ AgB (Fr H) H G ∧ env 0 = some v0 ∧ env 3 = some w1_0 ∧ env 23 = some v0 ∧ env 24 = some (Value.int .i64 (llen x0)) ∧ env 25 = some (Value.int .i64 y1_25)) fu ⟨(@List.nil Int), 0, (Value.slice none 0 0), hL25, S26, Aj20, by simp [ej20_0, ej20_22]⟩ ?_;rintro n1 env1 G1_ ⟨l1_0, y1_25, w1_0, hL25, S1_, A1_, e1_0, e1_3, e1_23, e1_24, e1_25⟩;cases n1 with
   | zero => cases hL25
   | succ n1 =>
    simp only [F_spec_ahGood_L1] at hL25;refine .sr fun K hK => ?_;simp [e1_0, e1_3, e1_23, e1_24, e1_25];apply hK;clear hK K;refine .seq ?_;refine DWp.cond' (t := (ilt y1_25 (llen x0))) (by simp [e1_0, e1_3, e1_23, e1_24, e1_25]) (fun hb27 => ?_) (fun hb27 => ?_)
    ·replace hL25 := cd_t hb27 hL25;refine DWp.skip ?_;simp only [andThen, leaves];refine .seq ?_;refine .block ?_;obtain ⟨g28, hL25⟩ := gd_some hL25;have q29 := idxG (P := Try.prog) (kk := .i64) (hx0.agree A1_.agree) el_22 sz_3 g28;have q30 := loadG (P := Try.prog) (hx0.agree A1_.agree) sz_3 ag_3 g28 0;refine .sr fun K hK => ?_;simp [e1_0, e1_3, e1_23, e1_24, e1_25, q29, q30];apply hK;clear hK K;refine .block ?_;obtain ⟨s31, hL32, hL25⟩ := bd_some hL25;refine DWp.seq (DWp.join (fun env G => Sep G (Fr H) [flat w1_0 3 (ints l1_0)] ∧ AgB (Fr H) H G ∧ env 0 = some v0 ∧ env 3 = some w1_0 ∧ env 4 = some (Value.int .i64 y1_25) ∧ env 5 = some (Value.int .i64 (gat 0 x0 y1_25)) ∧ env 23 = some v0 ∧ env 24 = some (Value.int .i64 (llen x0)) ∧ env 25 = some (Value.int .i64 y1_25) ∧ env 30 = some (Value.bool s31)) ?_ ?_)
     ·
      rcases Bool.eq_false_or_eq_true (ilt y1_25 (gat 0 x0 y1_25)) with hb34 | hb34
      ·replace hL32 := cd_t hb34 hL32;obtain ⟨g35, hL32⟩ := gd_some hL32;have q36 := idxG (P := Try.prog) (kk := .i64) (hx0.agree A1_.agree) el_22 sz_3 g35;have q37 := loadG (P := Try.prog) (hx0.agree A1_.agree) sz_3 ag_3 g35 0;refine .region fun K hK => ?_;simp [e1_0, e1_3, e1_23, e1_24, e1_25, hb34, q36, q37];apply hK;clear hK K;simp only [andThen, leaves];have S38 := S1_.pick [0] (by decide) rfl;obtain rfl := Option.some.inj hL32;exact ⟨S38, A1_, by simp [e1_0, e1_3, e1_23, e1_24, e1_25]⟩
      ·replace hL32 := cd_f hb34 hL32;refine .region fun K hK => ?_;simp [e1_0, e1_3, e1_23, e1_24, e1_25, hb34];apply hK;clear hK K;simp only [andThen, leaves];have S39 := S1_.pick [0] (by decide) rfl;obtain rfl := Option.some.inj hL32;exact ⟨S39, A1_, by simp [e1_0, e1_3, e1_23, e1_24, e1_25]⟩
     ·rintro env Gj40 ⟨Sj40, Aj40, ej40_0, ej40_3, ej40_4, ej40_5, ej40_23, ej40_24, ej40_25, ej40_30⟩;refine DWp.cond' (t := s31) (by simp [ej40_0, ej40_3, ej40_4, ej40_5, ej40_23, ej40_24, ej40_25, ej40_30]) (fun hb41 => ?_) (fun hb41 => ?_)
      ·replace hL25 := cd_t hb41 hL25;obtain ⟨v42, G43, q44, S45, a47, _, _⟩ := Sj40.lit1 (P := Try.prog) (t := 22) (hB.le Aj40.1) el_22 ei_3 rfl (Value.int .i64 y1_25) rfl rfl;have A46 := Aj40.ext (hB.le Aj40.1) a47;replace S45 : Sep G43 (Fr H) [flat w1_0 3 (ints l1_0), flat1 v42 3 (ints [y1_25])] := S45;obtain ⟨g49, hL25⟩ := gd_some hL25;obtain ⟨v55, G50, q51, S52, a54, _, _⟩ := S45.append1 (f := (Value.int .i64)) (xs := [y1_25]) (ys := l1_0) (P := Try.prog) (t := 22) (t2 := 22) (k := 1) rfl (hB.le A46.1) el_22 el_22 ei_3 rfl (S45.sl (k := 0) rfl) g49;have A53 := A46.trans a54;replace S52 : Sep G50 (Fr H) [flat w1_0 3 (ints l1_0), flat v55 3 (ints (lapp [y1_25] l1_0))] := S52;refine .region fun K hK => ?_;simp [ej40_0, ej40_3, ej40_4, ej40_5, ej40_23, ej40_24, ej40_25, ej40_30, q44, a47.to_pre, q51];apply hK;clear hK K;simp only [andThen, leaves];refine .region fun K hK => ?_;simp [ej40_0, ej40_3, ej40_4, ej40_5, ej40_23, ej40_24, ej40_25, ej40_30];apply hK;clear hK K;simp only [andThen, leaves];have S56 := S52.pick [1] (by decide) rfl;exact ⟨n1, Nat.lt_succ_self _, (lapp [y1_25] l1_0), (iadd .i64 y1_25 1), v55, hL25, S56, A53, by simp [ej40_0, ej40_3, ej40_4, ej40_5, ej40_23, ej40_24, ej40_25, ej40_30]⟩
      ·replace hL25 := cd_f hb41 hL25;obtain ⟨s57, hL58, hL25⟩ := bd_some hL25;refine DWp.seq (DWp.join (fun env G => Sep G (Fr H) [flat w1_0 3 (ints l1_0)] ∧ AgB (Fr H) H G ∧ env 0 = some v0 ∧ env 3 = some w1_0 ∧ env 23 = some v0 ∧ env 24 = some (Value.int .i64 (llen x0)) ∧ env 25 = some (Value.int .i64 y1_25) ∧ env 46 = some (Value.bool s57)) ?_ ?_)
       ·
        rcases Bool.eq_false_or_eq_true (ilt (gat 0 x0 y1_25) y1_25) with hb60 | hb60
        ·replace hL58 := cd_t hb60 hL58;have q61 := lenG (P := Try.prog) (Sj40.sl (k := 0) rfl) el_22;rcases Bool.eq_false_or_eq_true (ilt 0 (llen l1_0)) with hb62 | hb62
         ·replace hL58 := cd_t hb62 hL58;obtain ⟨g63, hL58⟩ := gd_some hL58;have q64 := idxG (P := Try.prog) (kk := .i64) (Sj40.sl (k := 0) rfl) el_22 sz_3 g63;replace q64 : aIndexAddr Try.prog Gj40 22 w1_0 (Value.int .i64 0) = some (elP w1_0 0) := q64;have q65 := loadG (P := Try.prog) (Sj40.sl (k := 0) rfl) sz_3 ag_3 g63 0;replace q65 : aLoad Try.prog Gj40 3 (elP w1_0 0) = some (Value.int .i64 (gat 0 l1_0 0)) := q65;refine .region fun K hK => ?_;simp [ej40_0, ej40_3, ej40_4, ej40_5, ej40_23, ej40_24, ej40_25, ej40_30, hb60, hb62, q61, q64, q65];apply hK;clear hK K;simp only [andThen, leaves];have S66 := Sj40.pick [0] (by decide) rfl;obtain rfl := Option.some.inj hL58;exact ⟨S66, Aj40, by simp [ej40_0, ej40_3, ej40_4, ej40_5, ej40_23, ej40_24, ej40_25, ej40_30]⟩
         ·replace hL58 := cd_f hb62 hL58;refine .region fun K hK => ?_;simp [ej40_0, ej40_3, ej40_4, ej40_5, ej40_23, ej40_24, ej40_25, ej40_30, hb60, hb62, q61];apply hK;clear hK K;simp only [andThen, leaves];have S67 := Sj40.pick [0] (by decide) rfl;obtain rfl := Option.some.inj hL58;exact ⟨S67, Aj40, by simp [ej40_0, ej40_3, ej40_4, ej40_5, ej40_23, ej40_24, ej40_25, ej40_30]⟩
        ·replace hL58 := cd_f hb60 hL58;refine .region fun K hK => ?_;simp [ej40_0, ej40_3, ej40_4, ej40_5, ej40_23, ej40_24, ej40_25, ej40_30, hb60];apply hK;clear hK K;simp only [andThen, leaves];have S68 := Sj40.pick [0] (by decide) rfl;obtain rfl := Option.some.inj hL58;exact ⟨S68, Aj40, by simp [ej40_0, ej40_3, ej40_4, ej40_5, ej40_23, ej40_24, ej40_25, ej40_30]⟩
       ·rintro env Gj69 ⟨Sj69, Aj69, ej69_0, ej69_3, ej69_23, ej69_24, ej69_25, ej69_46⟩;refine DWp.cond' (t := s57) (by simp [ej69_0, ej69_3, ej69_23, ej69_24, ej69_25, ej69_46]) (fun hb70 => ?_) (fun hb70 => ?_)
        ·replace hL25 := cd_t hb70 hL25;obtain ⟨g71, hL25⟩ := gd_some hL25;have q72 := aSub10 (P := Try.prog) (t := 22) (Sj69.sl (k := 0) rfl) el_22 sz_3 g71;refine .region fun K hK => ?_;simp [ej69_0, ej69_3, ej69_23, ej69_24, ej69_25, ej69_46, q72, ((subSl (Sj69.sl (k := 0) rfl) g71).tup)];apply hK;clear hK K;simp only [andThen, leaves];refine .region fun K hK => ?_;simp [ej69_0, ej69_3, ej69_23, ej69_24, ej69_25, ej69_46];apply hK;clear hK K;simp only [andThen, leaves];have S73 : Sep Gj69 (Fr H) [flat (subV w1_0 1 (llen l1_0)) 3 (ints (lsub l1_0 1 (llen l1_0)))] := Sj69.resub (k := 0) rfl g71;have S74 := S73.pick [0] (by decide) rfl;exact ⟨n1, Nat.lt_succ_self _, (lsub l1_0 1 (llen l1_0)), (iadd .i64 y1_25 1), (subV w1_0 1 (llen l1_0)), hL25, S74, Aj69, by simp [ej69_0, ej69_3, ej69_23, ej69_24, ej69_25, ej69_46]⟩
        ·replace hL25 := cd_f hb70 hL25;refine .sr fun K hK => ?_;simp [ej69_0, ej69_3, ej69_23, ej69_24, ej69_25, ej69_46];apply hK;clear hK K;refine DWp.ret ?_;simp only [andThen, leaves];obtain rfl := Option.some.inj hL25;simp only [lr] at hF;obtain rfl := Option.some.inj hF;exact ⟨by simp, [(Value.bool false)], by simp [ej69_0, ej69_3, ej69_23, ej69_24, ej69_25, ej69_46], Aj69, rfl, Sj69.pick [] (by decide) rfl⟩
    ·replace hL25 := cd_f hb27 hL25;refine DWp.exit ?_;simp only [andThen, leaves, if_true, if_false, reduceIte, Nat.reduceEqDiff];obtain rfl := Option.some.inj hL25;simp only [lr] at hF;refine .sr fun K hK => ?_;simp [e1_0, e1_3, e1_23, e1_24, e1_25];apply hK;clear hK K;refine DWp.ret ?_;obtain rfl := Option.some.inj hF;exact ⟨by simp, [(Value.bool true)], by simp [e1_0, e1_3, e1_23, e1_24, e1_25], A1_, rfl, S1_.pick [] (by decide) rfl⟩
def F_spec_mePair (fu : Nat) (x0_0 : List Int) (x0_1 : List Int) : Option (Bool) :=
  bd (F_spec_ahGood fu x0_0) fun r1 =>
  bif r1 then
    bd (F_spec_ahGood fu x0_1) fun r2 =>
    bif r2 then
      some (ieq (llen x0_0) (llen x0_1))
    else
      some false
  else
    some false
theorem F_spec_mePair_w {fu : Nat} {H : AH} {v0_0 : Value} {v0_1 : Value} {x0_0 : List Int} {x0_1 : List Int} {r : (Bool)} (hx0_0 : Sl H v0_0 (ints x0_0)) (hx0_1 : Sl H v0_1 (ints x0_1)) (hF : F_spec_mePair fu x0_0 x0_1 = some r) :
    ACallT Try.prog 94 [(Value.agg #[v0_0, v0_1])] H (fun u G => AgB (Fr H) H G ∧ u = (Value.bool r) ∧ Sep G (Fr H) []) := by
 refine ACallT.of_body (nt := 20) (rs := [.tmp 2]) Try.func94 rfl rfl rfl rfl ?_;have A0 : AgB (Fr H) H H := .refl _ _;have S0 : Sep H (Fr H) [] := .nil;have hB := Fr.up H;unfold F_spec_mePair at hF;obtain ⟨G2, p4, q5, q6, a7, S1⟩ := S0.boxT (hB.le A0.1) 28 [v0_0, v0_1];have A3 := A0.ext (hB.le A0.1) a7;replace S1 : Sep G2 (Fr H) [AL.box p4 [v0_0, v0_1]] := S1;refine .sr fun K hK => ?_;simp [q5, q6, a7.to_pre, cells_agg];apply hK;clear hK K;have q8 := S1.fieldT (P := Try.prog) (k := 0) rfl fa_28_0;have q9 := S1.loadF (P := Try.prog) (k := 0) rfl sz_22 ag_22 (off := 0) rfl;obtain ⟨r1, hc10, hF⟩ := bd_some hF;refine .sr fun K hK => ?_;simp [q8, q9, ((hx0_0.agree A3.agree).tup)];refine CallD.t (F_spec_ahGood_w (fu := fu) (hx0_0.agree A3.agree) hc10) ?_;rintro _ G12 ⟨a15, rfl, S16⟩;have A14 := A3.ext (hB.le A3.1) a15.agree;have S13 : Sep G12 (Fr H) [AL.box p4 [v0_0, v0_1]] := S1.app a15.agree S16 (fun _ h => h) (hB.le A3.1);rcases Bool.eq_false_or_eq_true r1 with hb17 | hb17
 ·replace hF := cd_t hb17 hF;have q18 := S13.fieldT (P := Try.prog) (k := 0) rfl fa_28_1;have q19 := S13.loadF (P := Try.prog) (k := 0) rfl sz_22 ag_22 (off := 1) rfl;obtain ⟨r2, hc20, hF⟩ := bd_some hF;simp [hb17, q8, q9, a15.pre, q18, q19, ((hx0_1.agree A14.agree).tup)];refine CallD.t (F_spec_ahGood_w (fu := fu) (hx0_1.agree A14.agree) hc20) ?_;rintro _ G22 ⟨a25, rfl, S26⟩;have A24 := A14.ext (hB.le A14.1) a25.agree;have S23 : Sep G22 (Fr H) [AL.box p4 [v0_0, v0_1]] := S13.app a25.agree S26 (fun _ h => h) (hB.le A14.1);rcases Bool.eq_false_or_eq_true r2 with hb27 | hb27
  ·replace hF := cd_t hb27 hF;have q28 := S23.fieldT (P := Try.prog) (k := 0) rfl fa_28_0;have q29 := S23.loadF (P := Try.prog) (k := 0) rfl sz_22 ag_22 (off := 0) rfl;have q30 := lenG (P := Try.prog) (hx0_0.agree A24.agree) el_22;have q31 := S23.fieldT (P := Try.prog) (k := 0) rfl fa_28_1;have q32 := S23.loadF (P := Try.prog) (k := 0) rfl sz_22 ag_22 (off := 1) rfl;have q33 := lenG (P := Try.prog) (hx0_1.agree A24.agree) el_22;simp [hb17, hb27, q8, q9, a15.pre, q18, q19, a25.pre, q28, q29, q30, q31, q32, q33];apply hK;clear hK K;refine DWp.ret ?_;obtain rfl := Option.some.inj hF;exact ⟨by simp, [(Value.bool (ieq (llen x0_0) (llen x0_1)))], by simp [], A24, rfl, S23.pick [] (by decide) rfl⟩
  ·replace hF := cd_f hb27 hF;simp [hb17, hb27, q8, q9, a15.pre, q18, q19, a25.pre];apply hK;clear hK K;refine DWp.ret ?_;obtain rfl := Option.some.inj hF;exact ⟨by simp, [(Value.bool false)], by simp [], A24, rfl, S23.pick [] (by decide) rfl⟩
 ·replace hF := cd_f hb17 hF;simp [hb17, q8, q9, a15.pre];apply hK;clear hK K;refine DWp.ret ?_;obtain rfl := Option.some.inj hF;exact ⟨by simp, [(Value.bool false)], by simp [], A14, rfl, S13.pick [] (by decide) rfl⟩
def F_spec_IsSimple (fu : Nat) (x0_0 : List Int) (x0_1 : List Int) : Option (Bool × Bool) :=
  bd (
    bd (F_spec_mePair fu x0_0 x0_1) fun r1 =>
    bif (bnot r1) then
      some true
    else
      some (ieq (llen x0_0) 0)) fun s8 =>
  bif s8 then
    some (false, false)
  else
    bd (F_spec_siSimple fu x0_0 x0_1) fun r2 =>
    some (r2, true)
theorem F_spec_IsSimple_w {fu : Nat} {H : AH} {v0_0 : Value} {v0_1 : Value} {x0_0 : List Int} {x0_1 : List Int} {r : (Bool × Bool)} (hx0_0 : Sl H v0_0 (ints x0_0)) (hx0_1 : Sl H v0_1 (ints x0_1)) (hF : F_spec_IsSimple fu x0_0 x0_1 = some r) :
    ACallT Try.prog 43 [(Value.agg #[v0_0, v0_1])] H (fun u G => AgB (Fr H) H G ∧ u = (Value.tuple #[(Value.bool r.1), (Value.bool r.2)]) ∧ Sep G (Fr H) []) := by
 refine ACallT.of_body (nt := 15) (rs := [.tmp 2, .tmp 3]) Try.func43 rfl rfl rfl rfl ?_;have A0 : AgB (Fr H) H H := .refl _ _;have S0 : Sep H (Fr H) [] := .nil;have hB := Fr.up H;unfold F_spec_IsSimple at hF;obtain ⟨G2, p4, q5, q6, a7, S1⟩ := S0.boxT (hB.le A0.1) 28 [v0_0, v0_1];have A3 := A0.ext (hB.le A0.1) a7;replace S1 : Sep G2 (Fr H) [AL.box p4 [v0_0, v0_1]] := S1;refine .sr fun K hK => ?_;simp [q5, q6, a7.to_pre, cells_agg];apply hK;clear hK K;refine .seq ?_;obtain ⟨s8, hL9, hF⟩ := bd_some hF;refine DWp.seq (DWp.join (fun env G => Sep G (Fr H) [AL.box p4 [v0_0, v0_1]] ∧ AgB (Fr H) H G ∧ env 1 = some p4 ∧ env 12 = some (Value.bool s8)) ?_ ?_)
 ·
  have q11 := S1.loadAgg (P := Try.prog) (k := 0) rfl sz_28 ag_28 rfl;obtain ⟨r1, hc12, hL9⟩ := bd_some hL9;refine .region fun K hK => ?_;simp [q11, ((hx0_0.agree A3.agree).tup), ((hx0_1.agree A3.agree).tup)];refine CallD.t (F_spec_mePair_w (fu := fu) (hx0_0.agree A3.agree) (hx0_1.agree A3.agree) hc12) ?_;rintro _ G14 ⟨a17, rfl, S18⟩;have A16 := A3.ext (hB.le A3.1) a17.agree;have S15 : Sep G14 (Fr H) [AL.box p4 [v0_0, v0_1]] := S1.app a17.agree S18 (fun _ h => h) (hB.le A3.1);rcases Bool.eq_false_or_eq_true (bnot r1) with hb19 | hb19
  ·replace hL9 := cd_t hb19 hL9;simp [hb19, q11, a17.pre];apply hK;clear hK K;simp only [andThen, leaves];have S20 := S15.pick [0] (by decide) rfl;obtain rfl := Option.some.inj hL9;exact ⟨S20, A16, by simp []⟩
  ·replace hL9 := cd_f hb19 hL9;have q21 := S15.fieldT (P := Try.prog) (k := 0) rfl fa_28_0;have q22 := S15.loadF (P := Try.prog) (k := 0) rfl sz_22 ag_22 (off := 0) rfl;have q23 := lenG (P := Try.prog) (hx0_0.agree A16.agree) el_22;simp [hb19, q11, a17.pre, q21, q22, q23];apply hK;clear hK K;simp only [andThen, leaves];have S24 := S15.pick [0] (by decide) rfl;obtain rfl := Option.some.inj hL9;exact ⟨S24, A16, by simp []⟩
 ·rintro env Gj25 ⟨Sj25, Aj25, ej25_1, ej25_12⟩;refine DWp.cond' (t := s8) (by simp [ej25_1, ej25_12]) (fun hb26 => ?_) (fun hb26 => ?_)
  ·replace hF := cd_t hb26 hF;refine .sr fun K hK => ?_;simp [ej25_1, ej25_12];apply hK;clear hK K;refine DWp.ret ?_;simp only [andThen, leaves];obtain rfl := Option.some.inj hF;exact ⟨by simp, [(Value.bool false), (Value.bool false)], by simp [ej25_1, ej25_12], Aj25, rfl, Sj25.pick [] (by decide) rfl⟩
  ·replace hF := cd_f hb26 hF;refine DWp.skip ?_;simp only [andThen, leaves];have q27 := Sj25.loadAgg (P := Try.prog) (k := 0) rfl sz_28 ag_28 rfl;obtain ⟨r2, hc28, hF⟩ := bd_some hF;refine .sr fun K hK => ?_;simp [ej25_1, ej25_12, q27, ((hx0_0.agree Aj25.agree).tup), ((hx0_1.agree Aj25.agree).tup)];refine CallD.t (F_spec_siSimple_w (fu := fu) (hx0_0.agree Aj25.agree) (hx0_1.agree Aj25.agree) hc28) ?_;rintro _ G30 ⟨a33, rfl, S34⟩;have A32 := Aj25.ext (hB.le Aj25.1) a33.agree;have S31 : Sep G30 (Fr H) [AL.box p4 [v0_0, v0_1]] := Sj25.app a33.agree S34 (fun _ h => h) (hB.le Aj25.1);simp [ej25_1, ej25_12, q27, a33.pre];apply hK;clear hK K;refine DWp.ret ?_;obtain rfl := Option.some.inj hF;exact ⟨by simp, [(Value.bool r2), (Value.bool true)], by simp [ej25_1, ej25_12], A32, rfl, S31.pick [] (by decide) rfl⟩
def F_impl_isCut (fu : Nat) (x0_0 : List Int) (x0_1 : List Int) : Option (Bool) :=
  bd (F_impl_IsPair fu x0_0 x0_1) fun r1 =>
  bif r1 then
    some (ilt 0 (llen x0_0))
  else
    some false
theorem F_impl_isCut_w {fu : Nat} {H : AH} {v0_0 : Value} {v0_1 : Value} {x0_0 : List Int} {x0_1 : List Int} {r : (Bool)} (hx0_0 : Sl H v0_0 (ints x0_0)) (hx0_1 : Sl H v0_1 (ints x0_1)) (hF : F_impl_isCut fu x0_0 x0_1 = some r) :
    ACallT Try.prog 111 [(Value.agg #[v0_0, v0_1])] H (fun u G => AgB (Fr H) H G ∧ u = (Value.bool r) ∧ Sep G (Fr H) []) := by
 refine ACallT.of_body (nt := 11) (rs := [.tmp 2]) Try.func111 rfl rfl rfl rfl ?_;have A0 : AgB (Fr H) H H := .refl _ _;have S0 : Sep H (Fr H) [] := .nil;have hB := Fr.up H;unfold F_impl_isCut at hF;obtain ⟨G2, p4, q5, q6, a7, S1⟩ := S0.boxT (hB.le A0.1) 28 [v0_0, v0_1];have A3 := A0.ext (hB.le A0.1) a7;replace S1 : Sep G2 (Fr H) [AL.box p4 [v0_0, v0_1]] := S1;refine .sr fun K hK => ?_;simp [q5, q6, a7.to_pre, cells_agg];apply hK;clear hK K;have q8 := S1.loadAgg (P := Try.prog) (k := 0) rfl sz_28 ag_28 rfl;obtain ⟨r1, hc9, hF⟩ := bd_some hF;refine .sr fun K hK => ?_;simp [q8, ((hx0_0.agree A3.agree).tup), ((hx0_1.agree A3.agree).tup)];refine CallD.t (F_impl_IsPair_w (fu := fu) (hx0_0.agree A3.agree) (hx0_1.agree A3.agree) hc9) ?_;rintro _ G11 ⟨a14, rfl, S15⟩;have A13 := A3.ext (hB.le A3.1) a14.agree;have S12 : Sep G11 (Fr H) [AL.box p4 [v0_0, v0_1]] := S1.app a14.agree S15 (fun _ h => h) (hB.le A3.1);rcases Bool.eq_false_or_eq_true r1 with hb16 | hb16
 ·replace hF := cd_t hb16 hF;have q17 := S12.fieldT (P := Try.prog) (k := 0) rfl fa_28_0;have q18 := S12.loadF (P := Try.prog) (k := 0) rfl sz_22 ag_22 (off := 0) rfl;have q19 := lenG (P := Try.prog) (hx0_0.agree A13.agree) el_22;simp [hb16, q8, a14.pre, q17, q18, q19];apply hK;clear hK K;refine DWp.ret ?_;obtain rfl := Option.some.inj hF;exact ⟨by simp, [(Value.bool (ilt 0 (llen x0_0)))], by simp [], A13, rfl, S12.pick [] (by decide) rfl⟩
 ·replace hF := cd_f hb16 hF;simp [hb16, q8, a14.pre];apply hK;clear hK K;refine DWp.ret ?_;obtain rfl := Option.some.inj hF;exact ⟨by simp, [(Value.bool false)], by simp [], A13, rfl, S12.pick [] (by decide) rfl⟩
end Go.Proofs.Ytbckijeffiofdaa.AL

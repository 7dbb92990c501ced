/- The walks of functions, each with its Lean function: spec.l1All, spec.ahGood, spec.exFaces, spec.exPairs, spec.DrawExchangeAt, impl.in, impl.isSystem, impl.IsSystem, impl.under, impl.faces. No condition. -/
import Derived.Test.YtogghgecmjnieaaGreatG1
import Derived.Test.YtogghgecmjnieaaGreatALD
import Derived.Test.YtogghgecmjnieaaGreatProg
import Derived.KernelRfl
namespace Go.Proofs.YtogghgecmjnieaaGreat.AL
open Go Go.RowKit
set_option linter.unusedVariables false
set_option linter.unusedSimpArgs false
set_option maxRecDepth 4096
attribute [local simp] n_fn b_add b_sub b_mul b_lt b_le b_gt b_ge b_eq b_ne u_not
theorem ag_24 : aggT Tryz.prog 24 = some false := by kernel_rfl
theorem ei_24 : einfo Tryz.prog 24 = some ⟨1, 24, .slice none 0 0⟩ := by kernel_rfl
theorem el_31 : elemT Tryz.prog 31 = some 24 := by kernel_rfl
theorem pl_59 : placeT Tryz.prog 59 = some (.agg #[.slice none 0 0, .int .i64 0, .int .u64 0], fun i => [(0, 1), (1, 1), (2, 1)].toArray[i]?) := by kernel_rfl
theorem sz_24 : sizeT Tryz.prog 24 = some 1 := by kernel_rfl
theorem bv_59 {x : Value} (tx : isTup x = false) (cx : x.cells = #[x]) : aBuild Tryz.prog 59 [(0, x)] = some (.agg #[x, (Value.int .i64 0), (Value.int .u64 0)]) := build1of pl_59 rfl rfl rfl tx cx
def F_spec_l1All_L1 (fu : Nat) (k1_0 : Int) (k1_1 : Int) (k1_2 : List Int) (k1_3 : Int) : Nat → Int → Option (LR (Bool) (Int))
  | 0, _ => none
  | n + 1, y1_11 =>
    bif (ilt y1_11 k1_3) then
      gd (inL k1_2 y1_11) (
      bd (F_spec_l1In fu (gat 0 k1_2 y1_11) k1_0 k1_1) fun r1 =>
      bif (bnot r1) then
        some (.ret false)
      else
        F_spec_l1All_L1 fu k1_0 k1_1 k1_2 k1_3 n (iadd .i64 y1_11 1))
    else
      some (.brk y1_11)
def F_spec_l1All (fu : Nat) (x0 : List Int) (x1 : Int) (x2 : Int) : Option (Bool) :=
  bd (F_spec_l1All_L1 fu x1 x2 x0 (llen x0) fu 0) fun s1 =>
  lr s1 fun s1 =>
  some true
theorem F_spec_l1All_w {fu : Nat} {H : AH} {v0 : Value} {x0 : List Int} {x1 : Int} {x2 : Int} {r : (Bool)} (hx0 : Sl H v0 (ints x0)) (hF : F_spec_l1All fu x0 x1 x2 = some r) :
    ACallT Tryz.prog 97 [v0, (Value.int .i64 x1), (Value.int .i64 x2)] H (fun u G => AgB (Fr H) H G ∧ u = (Value.bool r) ∧ Sep G (Fr H) []) := by
 refine ACallT.of_body (nt := 21) (rs := [.tmp 6]) Tryz.func97 rfl rfl rfl rfl ?_;have A0 : AgB (Fr H) H H := .refl _ _;have S0 : Sep H (Fr H) [] := .nil;have hB := Fr.up H;unfold F_spec_l1All at hF;refine .sr fun K hK => ?_;simp [];apply hK;refine .seq ?_;have q1 := lenG (hx0.agree A0.agree) el_24;refine .sr fun K hK => ?_;simp [q1];apply hK;refine .block ?_;obtain ⟨s2, hL3, hF⟩ := bd_some hF;have S4 := S0.pick [] (by decide) rfl;refine DWp.loop (fun n env G => ∃ y1_11 : Int, F_spec_l1All_L1 fu x1 x2 x0 (llen x0) n y1_11 = some s2 ∧ Sep G (Fr H) [] ∧ AgB (Fr H) H G ∧ env 1 = some (Value.int .i64 x1) ∧ env 2 = some (Value.int .i64 x2) ∧ env 9 = some v0 ∧ env 10 = some (Value.int .i64 (llen x0)) ∧ env 11 = some (Value.int .i64 y1_11)) fu ⟨0, hL3, S4, A0, by simp []⟩ ?_;rintro n1 env1 G1_ ⟨y1_11, hL3, S1_, A1_, e1_⟩;cases n1 with
 | zero => cases hL3
 | succ n1 =>
  simp only [F_spec_l1All_L1] at hL3;refine .sr fun K hK => ?_;simp [e1_];apply hK;refine .seq ?_;refine DWp.cond' (t := (ilt y1_11 (llen x0))) (by simp [e1_]) (fun hb5 => ?_) (fun hb5 => ?_)
  ·replace hL3 := cd_t hb5 hL3;refine DWp.skip ?_;simp only [andThen, leaves];refine .seq ?_;refine .block ?_;obtain ⟨g6, hL3⟩ := gd_some hL3;have q7 := idxG (kk := .i64) (hx0.agree A1_.agree) el_24 sz_3 g6;have q8 := loadG (hx0.agree A1_.agree) sz_3 ag_3 g6 0;refine .sr fun K hK => ?_;simp [e1_, q7, q8];apply hK;obtain ⟨r1, hc9, hL3⟩ := bd_some hL3;refine .sr fun K hK => ?_;simp [e1_];refine CallD.t (F_spec_l1In_w (fu := fu)  hc9) ?_;rintro _ G11 ⟨a14, rfl, S15⟩;have A13 := A1_.ext (hB.le A1_.1) a14.agree;have S12 : Sep G11 (Fr H) [] := S1_.app a14.agree S15 (fun _ h => h) (hB.le A1_.1);simp [e1_, a14.pre];apply hK;refine DWp.cond' (t := (bnot r1)) (by simp [e1_]) (fun hb16 => ?_) (fun hb16 => ?_)
   ·replace hL3 := cd_t hb16 hL3;refine .sr fun K hK => ?_;simp [e1_];apply hK;refine DWp.ret ?_;simp only [andThen, leaves];obtain rfl := Option.some.inj hL3;simp only [lr] at hF;obtain rfl := Option.some.inj hF;exact ⟨by simp, [(Value.bool false)], by simp [e1_], A13, rfl, S12.pick [] (by decide) rfl⟩
   ·replace hL3 := cd_f hb16 hL3;refine DWp.skip ?_;simp only [andThen, leaves];refine .region fun K hK => ?_;simp [e1_];apply hK;simp only [andThen, leaves];have S17 := S12.pick [] (by decide) rfl;exact ⟨n1, Nat.lt_succ_self _, (iadd .i64 y1_11 1), hL3, S17, A13, by simp [e1_]⟩
  ·replace hL3 := cd_f hb5 hL3;refine DWp.exit ?_;simp only [andThen, leaves, if_true, if_false, reduceIte, Nat.reduceEqDiff];obtain rfl := Option.some.inj hL3;simp only [lr] at hF;refine .sr fun K hK => ?_;simp [e1_];apply hK;refine DWp.ret ?_;obtain rfl := Option.some.inj hF;exact ⟨by simp, [(Value.bool true)], by simp [e1_], A1_, rfl, S1_.pick [] (by decide) rfl⟩
def F_spec_ahGood_L1 (fu : Nat) (k1_0 : List Int) (k1_1 : Int) : Nat → List Int → Int → Option (LR (Bool) (List Int × Int))
  | 0, _, _ => none
  | n + 1, l1_0, y1_25 =>
    bif (ilt y1_25 k1_1) then
      gd (inL k1_0 y1_25) (
      bd (
        bif (ilt y1_25 (gat 0 k1_0 y1_25)) then
          gd (inL k1_0 (gat 0 k1_0 y1_25)) (
          some (ieq (gat 0 k1_0 (gat 0 k1_0 y1_25)) y1_25))
        else
          some false) fun s31 =>
      bif s31 then
        gd ([y1_25].length + l1_0.length ≤ 4294967296) (
        F_spec_ahGood_L1 fu k1_0 k1_1 n (lapp [y1_25] l1_0) (iadd .i64 y1_25 1))
      else
        bd (
          bif (ilt (gat 0 k1_0 y1_25) y1_25) then
            bif (ilt 0 (llen l1_0)) then
              gd (inL l1_0 0) (
              some (ieq (gat 0 l1_0 0) (gat 0 k1_0 y1_25)))
            else
              some false
          else
            some false) fun s57 =>
        bif s57 then
          gd (subL l1_0 1 (llen l1_0)) (
          F_spec_ahGood_L1 fu k1_0 k1_1 n (lsub l1_0 1 (llen l1_0)) (iadd .i64 y1_25 1))
        else
          some (.ret false))
    else
      some (.brk (l1_0, y1_25))
def F_spec_ahGood (fu : Nat) (x0 : List Int) : Option (Bool) :=
  bd (
    bif (ieq (irem (llen x0) 2) 1) then
      some true
    else
      bif (ilt 12 (llen x0)) then
        some true
      else
        bd (F_spec_l1All fu x0 0 (isub .i64 (llen x0) 1)) fun r1 =>
        some (bnot r1)) fun s1 =>
  bif s1 then
    some false
  else
    bd (F_spec_ahGood_L1 fu x0 (llen x0) fu (@List.nil Int) 0) fun s1 =>
    lr s1 fun s1 =>
    some true
theorem F_spec_ahGood_w {fu : Nat} {H : AH} {v0 : Value} {x0 : List Int} {r : (Bool)} (hx0 : Sl H v0 (ints x0)) (hF : F_spec_ahGood fu x0 = some r) :
    ACallT Tryz.prog 52 [v0] H (fun u G => AgB (Fr H) H G ∧ u = (Value.bool r) ∧ Sep G (Fr H) []) := by
 refine ACallT.of_body (nt := 65) (rs := [.tmp 2]) Tryz.func52 rfl rfl rfl rfl ?_;have A0 : AgB (Fr H) H H := .refl _ _;have S0 : Sep H (Fr H) [] := .nil;have hB := Fr.up H;unfold F_spec_ahGood at hF;refine .sr fun K hK => ?_;simp [];apply hK;refine .seq ?_;obtain ⟨s1, hL2, hF⟩ := bd_some hF;refine DWp.seq (DWp.join (fun env G => Sep G (Fr H) [] ∧ AgB (Fr H) H G ∧ env 0 = some v0 ∧ env 22 = some (Value.bool s1)) ?_ ?_)
 ·
  have q4 := lenG (hx0.agree A0.agree) el_24;have g5 : (2 : Int) ≠ 0 := by decide
  rcases Bool.eq_false_or_eq_true (ieq (irem (llen x0) 2) 1) with hb6 | hb6
  ·replace hL2 := cd_t hb6 hL2;refine .region fun K hK => ?_;simp [hb6, q4, b_rem g5];apply hK;simp only [andThen, leaves];have S7 := S0.pick [] (by decide) rfl;obtain rfl := Option.some.inj hL2;exact ⟨S7, A0, by simp []⟩
  ·replace hL2 := cd_f hb6 hL2;have q8 := lenG (hx0.agree A0.agree) el_24;rcases Bool.eq_false_or_eq_true (ilt 12 (llen x0)) with hb9 | hb9
   ·replace hL2 := cd_t hb9 hL2;refine .region fun K hK => ?_;simp [hb6, hb9, q4, b_rem g5, q8];apply hK;simp only [andThen, leaves];have S10 := S0.pick [] (by decide) rfl;obtain rfl := Option.some.inj hL2;exact ⟨S10, A0, by simp []⟩
   ·replace hL2 := cd_f hb9 hL2;have q11 := lenG (hx0.agree A0.agree) el_24;obtain ⟨r1, hc12, hL2⟩ := bd_some hL2;refine .region fun K hK => ?_;simp [hb6, hb9, q4, b_rem g5, q8, q11, ((hx0.agree A0.agree).tup)];refine CallD.t (F_spec_l1All_w (fu := fu) (hx0.agree A0.agree) hc12) ?_;rintro _ G14 ⟨a17, rfl, S18⟩;have A16 := A0.ext (hB.le A0.1) a17.agree;have S15 : Sep G14 (Fr H) [] := S0.app a17.agree S18 (fun _ h => h) (hB.le A0.1);simp [hb6, hb9, q4, b_rem g5, q8, q11, a17.pre];apply hK;simp only [andThen, leaves];have S19 := S15.pick [] (by decide) rfl;obtain rfl := Option.some.inj hL2;exact ⟨S19, A16, by simp []⟩
 ·rintro env Gj20 ⟨Sj20, Aj20, ej20_⟩;refine DWp.cond' (t := s1) (by simp [ej20_]) (fun hb21 => ?_) (fun hb21 => ?_)
  ·replace hF := cd_t hb21 hF;refine .sr fun K hK => ?_;simp [ej20_];apply hK;refine DWp.ret ?_;simp only [andThen, leaves];obtain rfl := Option.some.inj hF;exact ⟨by simp, [(Value.bool false)], by simp [ej20_], Aj20, rfl, Sj20.pick [] (by decide) rfl⟩
  ·replace hF := cd_f hb21 hF;refine DWp.skip ?_;simp only [andThen, leaves];refine .sr fun K hK => ?_;simp [ej20_];apply hK;refine .seq ?_;have q22 := lenG (hx0.agree Aj20.agree) el_24;refine .sr fun K hK => ?_;simp [ej20_, q22];apply hK;refine .block ?_;have S23 := Sj20.nilItem (hB.le Aj20.1) 3;obtain ⟨s24, hL25, hF⟩ := bd_some hF;have S26 := S23.pick [0] (by decide) rfl;refine DWp.loop (fun n env G => ∃ l1_0 : List Int, ∃ y1_25 : Int, ∃ w1_0 : Value, F_spec_ahGood_L1 fu x0 (llen x0) n l1_0 y1_25 = some s24 ∧ Sep G (Fr H) [flat w1_0 3 (ints l1_0)] ∧ AgB (Fr H) H G ∧ env 0 = some v0 ∧ env 3 = some w1_0 ∧ env 23 = some v0 ∧ env 24 = some (Value.int .i64 (llen x0)) ∧ env 25 = some (Value.int .i64 y1_25)) fu ⟨(@List.nil Int), 0, (Value.slice none 0 0), hL25, S26, Aj20, by simp [ej20_]⟩ ?_;rintro n1 env1 G1_ ⟨l1_0, y1_25, w1_0, hL25, S1_, A1_, e1_⟩;cases n1 with
   | zero => cases hL25
   | succ n1 =>
    simp only [F_spec_ahGood_L1] at hL25;refine .sr fun K hK => ?_;simp [e1_];apply hK;refine .seq ?_;refine DWp.cond' (t := (ilt y1_25 (llen x0))) (by simp [e1_]) (fun hb27 => ?_) (fun hb27 => ?_)
    ·replace hL25 := cd_t hb27 hL25;refine DWp.skip ?_;simp only [andThen, leaves];refine .seq ?_;refine .block ?_;obtain ⟨g28, hL25⟩ := gd_some hL25;have q29 := idxG (kk := .i64) (hx0.agree A1_.agree) el_24 sz_3 g28;have q30 := loadG (hx0.agree A1_.agree) sz_3 ag_3 g28 0;refine .sr fun K hK => ?_;simp [e1_, q29, q30];apply hK;refine .block ?_;obtain ⟨s31, hL32, hL25⟩ := bd_some hL25;refine DWp.seq (DWp.join (fun env G => Sep G (Fr H) [flat w1_0 3 (ints l1_0)] ∧ AgB (Fr H) H G ∧ env 0 = some v0 ∧ env 3 = some w1_0 ∧ env 4 = some (Value.int .i64 y1_25) ∧ env 5 = some (Value.int .i64 (gat 0 x0 y1_25)) ∧ env 23 = some v0 ∧ env 24 = some (Value.int .i64 (llen x0)) ∧ env 25 = some (Value.int .i64 y1_25) ∧ env 30 = some (Value.bool s31)) ?_ ?_)
     ·
      rcases Bool.eq_false_or_eq_true (ilt y1_25 (gat 0 x0 y1_25)) with hb34 | hb34
      ·replace hL32 := cd_t hb34 hL32;obtain ⟨g35, hL32⟩ := gd_some hL32;have q36 := idxG (kk := .i64) (hx0.agree A1_.agree) el_24 sz_3 g35;have q37 := loadG (hx0.agree A1_.agree) sz_3 ag_3 g35 0;refine .region fun K hK => ?_;simp [e1_, hb34, q36, q37];apply hK;simp only [andThen, leaves];have S38 := S1_.pick [0] (by decide) rfl;obtain rfl := Option.some.inj hL32;exact ⟨S38, A1_, by simp [e1_]⟩
      ·replace hL32 := cd_f hb34 hL32;refine .region fun K hK => ?_;simp [e1_, hb34];apply hK;simp only [andThen, leaves];have S39 := S1_.pick [0] (by decide) rfl;obtain rfl := Option.some.inj hL32;exact ⟨S39, A1_, by simp [e1_]⟩
     ·rintro env Gj40 ⟨Sj40, Aj40, ej40_⟩;refine DWp.cond' (t := s31) (by simp [ej40_]) (fun hb41 => ?_) (fun hb41 => ?_)
      ·replace hL25 := cd_t hb41 hL25;obtain ⟨v42, G43, q44, S45, a47, _, _⟩ := Sj40.lit1 (t := 24) (hB.le Aj40.1) el_24 ei_3 rfl (Value.int .i64 y1_25) rfl rfl;have A46 := Aj40.ext (hB.le Aj40.1) a47;replace S45 : Sep G43 (Fr H) [flat w1_0 3 (ints l1_0), flat1 v42 3 (ints [y1_25])] := S45;obtain ⟨g49, hL25⟩ := gd_some hL25;obtain ⟨v55, G50, q51, S52, a54, _, _⟩ := S45.append1 (f := (Value.int .i64)) (xs := [y1_25]) (ys := l1_0) (t := 24) (t2 := 24) (k := 1) rfl (hB.le A46.1) el_24 el_24 ei_3 rfl (S45.sl (k := 0) rfl) g49;have A53 := A46.trans a54;replace S52 : Sep G50 (Fr H) [flat w1_0 3 (ints l1_0), flat v55 3 (ints (lapp [y1_25] l1_0))] := S52;refine .region fun K hK => ?_;simp [ej40_, q44, a47.to_pre, q51];apply hK;simp only [andThen, leaves];refine .region fun K hK => ?_;simp [ej40_];apply hK;simp only [andThen, leaves];have S56 := S52.pick [1] (by decide) rfl;exact ⟨n1, Nat.lt_succ_self _, (lapp [y1_25] l1_0), (iadd .i64 y1_25 1), v55, hL25, S56, A53, by simp [ej40_]⟩
      ·replace hL25 := cd_f hb41 hL25;obtain ⟨s57, hL58, hL25⟩ := bd_some hL25;refine DWp.seq (DWp.join (fun env G => Sep G (Fr H) [flat w1_0 3 (ints l1_0)] ∧ AgB (Fr H) H G ∧ env 0 = some v0 ∧ env 3 = some w1_0 ∧ env 23 = some v0 ∧ env 24 = some (Value.int .i64 (llen x0)) ∧ env 25 = some (Value.int .i64 y1_25) ∧ env 46 = some (Value.bool s57)) ?_ ?_)
       ·
        rcases Bool.eq_false_or_eq_true (ilt (gat 0 x0 y1_25) y1_25) with hb60 | hb60
        ·replace hL58 := cd_t hb60 hL58;have q61 := lenG (Sj40.sl (k := 0) rfl) el_24;rcases Bool.eq_false_or_eq_true (ilt 0 (llen l1_0)) with hb62 | hb62
         ·replace hL58 := cd_t hb62 hL58;obtain ⟨g63, hL58⟩ := gd_some hL58;have q64 := idxG (kk := .i64) (Sj40.sl (k := 0) rfl) el_24 sz_3 g63;replace q64 : aIndexAddr Tryz.prog Gj40 24 w1_0 (Value.int .i64 0) = some (elP w1_0 0) := q64;have q65 := loadG (Sj40.sl (k := 0) rfl) sz_3 ag_3 g63 0;replace q65 : aLoad Tryz.prog Gj40 3 (elP w1_0 0) = some (Value.int .i64 (gat 0 l1_0 0)) := q65;refine .region fun K hK => ?_;simp [ej40_, hb60, hb62, q61, q64, q65];apply hK;simp only [andThen, leaves];have S66 := Sj40.pick [0] (by decide) rfl;obtain rfl := Option.some.inj hL58;exact ⟨S66, Aj40, by simp [ej40_]⟩
         ·replace hL58 := cd_f hb62 hL58;refine .region fun K hK => ?_;simp [ej40_, hb60, hb62, q61];apply hK;simp only [andThen, leaves];have S67 := Sj40.pick [0] (by decide) rfl;obtain rfl := Option.some.inj hL58;exact ⟨S67, Aj40, by simp [ej40_]⟩
        ·replace hL58 := cd_f hb60 hL58;refine .region fun K hK => ?_;simp [ej40_, hb60];apply hK;simp only [andThen, leaves];have S68 := Sj40.pick [0] (by decide) rfl;obtain rfl := Option.some.inj hL58;exact ⟨S68, Aj40, by simp [ej40_]⟩
       ·rintro env Gj69 ⟨Sj69, Aj69, ej69_⟩;refine DWp.cond' (t := s57) (by simp [ej69_]) (fun hb70 => ?_) (fun hb70 => ?_)
        ·replace hL25 := cd_t hb70 hL25;obtain ⟨g71, hL25⟩ := gd_some hL25;have q72 := aSub10 (t := 24) (Sj69.sl (k := 0) rfl) el_24 sz_3 g71;refine .region fun K hK => ?_;simp [ej69_, q72, ((subSl (Sj69.sl (k := 0) rfl) g71).tup)];apply hK;simp only [andThen, leaves];refine .region fun K hK => ?_;simp [ej69_];apply hK;simp only [andThen, leaves];have S73 : Sep Gj69 (Fr H) [flat (subV w1_0 1 (llen l1_0)) 3 (ints (lsub l1_0 1 (llen l1_0)))] := Sj69.resub (k := 0) rfl g71;have S74 := S73.pick [0] (by decide) rfl;exact ⟨n1, Nat.lt_succ_self _, (lsub l1_0 1 (llen l1_0)), (iadd .i64 y1_25 1), (subV w1_0 1 (llen l1_0)), hL25, S74, Aj69, by simp [ej69_]⟩
        ·replace hL25 := cd_f hb70 hL25;refine .sr fun K hK => ?_;simp [ej69_];apply hK;refine DWp.ret ?_;simp only [andThen, leaves];obtain rfl := Option.some.inj hL25;simp only [lr] at hF;obtain rfl := Option.some.inj hF;exact ⟨by simp, [(Value.bool false)], by simp [ej69_], Aj69, rfl, Sj69.pick [] (by decide) rfl⟩
    ·replace hL25 := cd_f hb27 hL25;refine DWp.exit ?_;simp only [andThen, leaves, if_true, if_false, reduceIte, Nat.reduceEqDiff];obtain rfl := Option.some.inj hL25;simp only [lr] at hF;refine .sr fun K hK => ?_;simp [e1_];apply hK;refine DWp.ret ?_;obtain rfl := Option.some.inj hF;exact ⟨by simp, [(Value.bool true)], by simp [e1_], A1_, rfl, S1_.pick [] (by decide) rfl⟩
def F_spec_exFaces_L3 (fu : Nat) (k3_0 : List Int) (k3_1 : List (List Int)) (k3_2 : Int) (k3_3 : Int) (k3_4 : Int) : Nat → List Int → Int → Option (List Int × Int)
  | 0, _, _ => none
  | n + 1, l3_1, y3_9 =>
    bif (ilt y3_9 k3_2) then
      gd (l3_1.length + [y3_9].length ≤ 4294967296) (
      gd (inL k3_0 y3_9) (
      F_spec_exFaces_L3 fu k3_0 k3_1 k3_2 k3_3 k3_4 n (lapp l3_1 [y3_9]) (iadd .i64 (gat 0 k3_0 y3_9) 1)))
    else
      some (l3_1, y3_9)
def F_spec_exFaces_L2 (fu : Nat) (k2_0 : List Int) (k2_1 : Int) : Nat → List (List Int) → Int → Option (List (List Int) × Int)
  | 0, _, _ => none
  | n + 1, l2_0, y2_27 =>
    bif (ilt y2_27 k2_1) then
      gd (inL k2_0 y2_27) (
      bif (ilt (gat 0 k2_0 y2_27) y2_27) then
        F_spec_exFaces_L2 fu k2_0 k2_1 n l2_0 (iadd .i64 y2_27 1)
      else
        bd (F_spec_exFaces_L3 fu k2_0 l2_0 (gat 0 k2_0 y2_27) k2_1 y2_27 fu [y2_27] (iadd .i64 y2_27 1)) fun s3 =>
        gd (l2_0.length + 1 ≤ 4294967296) (
        F_spec_exFaces_L2 fu k2_0 k2_1 n (lapp l2_0 [s3.1]) (iadd .i64 y2_27 1)))
    else
      some (l2_0, y2_27)
def F_spec_exFaces_L1 (fu : Nat) (k1_0 : List Int) : Nat → List Int → Int → Option (List Int × Int)
  | 0, _, _ => none
  | n + 1, l1_0, y1_4 =>
    bif (ilt y1_4 (llen k1_0)) then
      gd (l1_0.length + [y1_4].length ≤ 4294967296) (
      gd (inL k1_0 y1_4) (
      F_spec_exFaces_L1 fu k1_0 n (lapp l1_0 [y1_4]) (iadd .i64 (gat 0 k1_0 y1_4) 1)))
    else
      some (l1_0, y1_4)
def F_spec_exFaces (fu : Nat) (x0 : List Int) : Option (List (List Int)) :=
  bd (F_spec_exFaces_L1 fu x0 fu (@List.nil Int) 0) fun s1 =>
  bd (F_spec_exFaces_L2 fu x0 (llen x0) fu [s1.1] 0) fun s2 =>
  some s2.1
theorem F_spec_exFaces_w {fu : Nat} {H : AH} {v0 : Value} {x0 : List Int} {r : (List (List Int))} (hx0 : Sl H v0 (ints x0)) (hF : F_spec_exFaces fu x0 = some r) :
    ACallT Tryz.prog 64 [v0] H (fun u G => AgB (Fr H) H G ∧ ∃ u0 : Value, ∃ C0 : List Value, u = u0 ∧ Sep G (Fr H) [rowsC u0 24 3 C0 (List.map ints r)]) := by
 refine ACallT.of_body (nt := 57) (rs := [.tmp 2]) Tryz.func64 rfl rfl rfl rfl ?_;have A0 : AgB (Fr H) H H := .refl _ _;have S0 : Sep H (Fr H) [] := .nil;have hB := Fr.up H;unfold F_spec_exFaces at hF;refine .sr fun K hK => ?_;simp [];apply hK;refine .sr fun K hK => ?_;simp [];apply hK;refine .seq ?_;refine .sr fun K hK => ?_;simp [];apply hK;refine .block ?_;have S1 := S0.nilItem (hB.le A0.1) 3;obtain ⟨s2, hL3, hF⟩ := bd_some hF;have S4 := S1.pick [0] (by decide) rfl;refine DWp.loop (fun n env G => ∃ l1_0 : List Int, ∃ y1_4 : Int, ∃ w1_0 : Value, F_spec_exFaces_L1 fu x0 n l1_0 y1_4 = some s2 ∧ Sep G (Fr H) [flat w1_0 3 (ints l1_0)] ∧ AgB (Fr H) H G ∧ env 0 = some v0 ∧ env 3 = some w1_0 ∧ env 4 = some (Value.int .i64 y1_4)) fu ⟨(@List.nil Int), 0, (Value.slice none 0 0), hL3, S4, A0, by simp []⟩ ?_;rintro n1 env1 G1_ ⟨l1_0, y1_4, w1_0, hL3, S1_, A1_, e1_⟩;cases n1 with
 | zero => cases hL3
 | succ n1 =>
  simp only [F_spec_exFaces_L1] at hL3;refine .seq ?_;have q5 := lenG (hx0.agree A1_.agree) el_24;refine .sr fun K hK => ?_;simp [e1_, q5];apply hK;refine DWp.cond' (t := (ilt y1_4 (llen x0))) (by simp [e1_]) (fun hb6 => ?_) (fun hb6 => ?_)
  ·replace hL3 := cd_t hb6 hL3;refine DWp.skip ?_;simp only [andThen, leaves];refine .seq ?_;refine .block ?_;obtain ⟨v7, G8, q9, S10, a12, _, _⟩ := S1_.lit1 (t := 24) (hB.le A1_.1) el_24 ei_3 rfl (Value.int .i64 y1_4) rfl rfl;have A11 := A1_.ext (hB.le A1_.1) a12;replace S10 : Sep G8 (Fr H) [flat w1_0 3 (ints l1_0), flat1 v7 3 (ints [y1_4])] := S10;obtain ⟨g14, hL3⟩ := gd_some hL3;obtain ⟨v20, G15, q16, S17, a19, _, _⟩ := S10.appendG (f := (Value.int .i64)) (xs := l1_0) (ys := [y1_4]) (t := 24) (t2 := 24) (k := 0) rfl (hB.le A11.1) el_24 el_24 ei_3 rfl (S10.sl1 (k := 1) rfl) g14;have A18 := A11.trans a19;replace S17 : Sep G15 (Fr H) [flat v20 3 (ints (lapp l1_0 [y1_4])), flat1 v7 3 (ints [y1_4])] := S17;refine .region fun K hK => ?_;simp [e1_, q9, a12.to_pre, q16];apply hK;simp only [andThen, leaves];obtain ⟨g21, hL3⟩ := gd_some hL3;have q22 := idxG (kk := .i64) (hx0.agree A18.agree) el_24 sz_3 g21;have q23 := loadG (hx0.agree A18.agree) sz_3 ag_3 g21 0;refine .region fun K hK => ?_;simp [e1_, q22, q23];apply hK;simp only [andThen, leaves];have S24 := S17.pick [0] (by decide) rfl;exact ⟨n1, Nat.lt_succ_self _, (lapp l1_0 [y1_4]), (iadd .i64 (gat 0 x0 y1_4) 1), v20, hL3, S24, A18, by simp [e1_]⟩
  ·replace hL3 := cd_f hb6 hL3;refine DWp.exit ?_;simp only [andThen, leaves, if_true, if_false, reduceIte, Nat.reduceEqDiff];obtain rfl := Option.some.inj hL3;try dsimp only at hF
   obtain ⟨v25, G26, q27, S28, a30, _, _⟩ := S1_.lit1 (t := 31) (hB.le A1_.1) el_31 ei_24 rfl w1_0 ((S1_.sl (k := 0) rfl).tup) ((S1_.sl (k := 0) rfl).one);have A29 := A1_.ext (hB.le A1_.1) a30;replace S28 : Sep G26 (Fr H) [flat w1_0 3 (ints l1_0), flat1 v25 24 [w1_0]] := S28;refine .sr fun K hK => ?_;simp [e1_, q27, a30.to_pre, ((S1_.sl (k := 0) rfl).tup)];apply hK;refine .seq ?_;have q31 := lenG (hx0.agree A29.agree) el_24;refine .sr fun K hK => ?_;simp [e1_, q31];apply hK;refine .block ?_;have S32 : Sep G26 (Fr H) [emp, rowsC v25 24 3 [w1_0] (List.map ints [l1_0])] := S28.rowsOf1 (j := 1) (k := 0) (by decide) rfl rfl;obtain ⟨s33, hL34, hF⟩ := bd_some hF;have S35 := S32.pick [1] (by decide) rfl;refine DWp.loop (fun n env G => ∃ l2_0 : List (List Int), ∃ y2_27 : Int, ∃ w2_0 : Value, ∃ D2_0 : List Value, F_spec_exFaces_L2 fu x0 (llen x0) n l2_0 y2_27 = some s33 ∧ Sep G (Fr H) [rowsC w2_0 24 3 D2_0 (List.map ints l2_0)] ∧ AgB (Fr H) H G ∧ env 0 = some v0 ∧ env 5 = some w2_0 ∧ env 25 = some v0 ∧ env 26 = some (Value.int .i64 (llen x0)) ∧ env 27 = some (Value.int .i64 y2_27)) fu ⟨[l1_0], 0, v25, [w1_0], hL34, S35, A29, by simp [e1_]⟩ ?_;rintro n1 env1 G1_ ⟨l2_0, y2_27, w2_0, D2_0, hL34, S1_, A1_, e1_⟩;cases n1 with
   | zero => cases hL34
   | succ n1 =>
    simp only [F_spec_exFaces_L2] at hL34;refine .sr fun K hK => ?_;simp [e1_];apply hK;refine .seq ?_;refine DWp.cond' (t := (ilt y2_27 (llen x0))) (by simp [e1_]) (fun hb36 => ?_) (fun hb36 => ?_)
    ·replace hL34 := cd_t hb36 hL34;refine DWp.skip ?_;simp only [andThen, leaves];refine .seq ?_;refine .block ?_;obtain ⟨g37, hL34⟩ := gd_some hL34;have q38 := idxG (kk := .i64) (hx0.agree A1_.agree) el_24 sz_3 g37;have q39 := loadG (hx0.agree A1_.agree) sz_3 ag_3 g37 0;refine .sr fun K hK => ?_;simp [e1_, q38, q39];apply hK;refine .seq ?_;refine .sr fun K hK => ?_;simp [e1_];apply hK;refine DWp.cond' (t := (ilt (gat 0 x0 y2_27) y2_27)) (by simp [e1_]) (fun hb40 => ?_) (fun hb40 => ?_)
     ·replace hL34 := cd_t hb40 hL34;refine DWp.exit ?_;simp only [andThen, leaves, if_true, if_false, reduceIte, Nat.reduceEqDiff];refine .region fun K hK => ?_;simp [e1_];apply hK;simp only [andThen, leaves];have S41 := S1_.pick [0] (by decide) rfl;exact ⟨n1, Nat.lt_succ_self _, l2_0, (iadd .i64 y2_27 1), w2_0, D2_0, hL34, S41, A1_, by simp [e1_]⟩
     ·replace hL34 := cd_f hb40 hL34;refine DWp.skip ?_;simp only [andThen, leaves];obtain ⟨v42, G43, q44, S45, a47, _, _⟩ := S1_.lit1 (t := 24) (hB.le A1_.1) el_24 ei_3 rfl (Value.int .i64 y2_27) rfl rfl;have A46 := A1_.ext (hB.le A1_.1) a47;replace S45 : Sep G43 (Fr H) [rowsC w2_0 24 3 D2_0 (List.map ints l2_0), flat1 v42 3 (ints [y2_27])] := S45;refine .sr fun K hK => ?_;simp [e1_, q44, a47.to_pre];apply hK;refine .seq ?_;refine .sr fun K hK => ?_;simp [e1_];apply hK;refine .block ?_;obtain ⟨s49, hL50, hL34⟩ := bd_some hL34;have S51 := S45.pick [0, 1] (by decide) rfl;have S52 := S51.weak (k := 1) rfl;refine DWp.loop (fun n env G => ∃ l3_1 : List Int, ∃ y3_9 : Int, ∃ w3_1 : Value, F_spec_exFaces_L3 fu x0 l2_0 (gat 0 x0 y2_27) (llen x0) y2_27 n l3_1 y3_9 = some s49 ∧ Sep G (Fr H) [rowsC w2_0 24 3 D2_0 (List.map ints l2_0), flat w3_1 3 (ints l3_1)] ∧ AgB (Fr H) H G ∧ env 0 = some v0 ∧ env 5 = some w2_0 ∧ env 7 = some (Value.int .i64 (gat 0 x0 y2_27)) ∧ env 8 = some w3_1 ∧ env 9 = some (Value.int .i64 y3_9) ∧ env 25 = some v0 ∧ env 26 = some (Value.int .i64 (llen x0)) ∧ env 27 = some (Value.int .i64 y2_27)) fu ⟨[y2_27], (iadd .i64 y2_27 1), v42, hL50, S52, A46, by simp [e1_]⟩ ?_;rintro n2 env2 G2_ ⟨l3_1, y3_9, w3_1, hL50, S2_, A2_, e2_⟩;cases n2 with
      | zero => cases hL50
      | succ n2 =>
       simp only [F_spec_exFaces_L3] at hL50;refine .seq ?_;refine .sr fun K hK => ?_;simp [e2_];apply hK;refine DWp.cond' (t := (ilt y3_9 (gat 0 x0 y2_27))) (by simp [e2_]) (fun hb53 => ?_) (fun hb53 => ?_)
       ·replace hL50 := cd_t hb53 hL50;refine DWp.skip ?_;simp only [andThen, leaves];refine .seq ?_;refine .block ?_;obtain ⟨v54, G55, q56, S57, a59, _, _⟩ := S2_.lit1 (t := 24) (hB.le A2_.1) el_24 ei_3 rfl (Value.int .i64 y3_9) rfl rfl;have A58 := A2_.ext (hB.le A2_.1) a59;replace S57 : Sep G55 (Fr H) [rowsC w2_0 24 3 D2_0 (List.map ints l2_0), flat w3_1 3 (ints l3_1), flat1 v54 3 (ints [y3_9])] := S57;obtain ⟨g61, hL50⟩ := gd_some hL50;obtain ⟨v67, G62, q63, S64, a66, _, _⟩ := S57.appendG (f := (Value.int .i64)) (xs := l3_1) (ys := [y3_9]) (t := 24) (t2 := 24) (k := 1) rfl (hB.le A58.1) el_24 el_24 ei_3 rfl (S57.sl1 (k := 2) rfl) g61;have A65 := A58.trans a66;replace S64 : Sep G62 (Fr H) [rowsC w2_0 24 3 D2_0 (List.map ints l2_0), flat v67 3 (ints (lapp l3_1 [y3_9])), flat1 v54 3 (ints [y3_9])] := S64;refine .region fun K hK => ?_;simp [e2_, q56, a59.to_pre, q63];apply hK;simp only [andThen, leaves];obtain ⟨g68, hL50⟩ := gd_some hL50;have q69 := idxG (kk := .i64) (hx0.agree A65.agree) el_24 sz_3 g68;have q70 := loadG (hx0.agree A65.agree) sz_3 ag_3 g68 0;refine .region fun K hK => ?_;simp [e2_, q69, q70];apply hK;simp only [andThen, leaves];have S71 := S64.pick [0, 1] (by decide) rfl;exact ⟨n2, Nat.lt_succ_self _, (lapp l3_1 [y3_9]), (iadd .i64 (gat 0 x0 y3_9) 1), v67, hL50, S71, A65, by simp [e2_]⟩
       ·replace hL50 := cd_f hb53 hL50;refine DWp.exit ?_;simp only [andThen, leaves, if_true, if_false, reduceIte, Nat.reduceEqDiff];obtain rfl := Option.some.inj hL50;try dsimp only at hL34
        obtain ⟨v72, G73, q74, S75, a77, _, _⟩ := S2_.lit1 (t := 31) (hB.le A2_.1) el_31 ei_24 rfl w3_1 ((S2_.sl (k := 1) rfl).tup) ((S2_.sl (k := 1) rfl).one);have A76 := A2_.ext (hB.le A2_.1) a77;replace S75 : Sep G73 (Fr H) [rowsC w2_0 24 3 D2_0 (List.map ints l2_0), flat w3_1 3 (ints l3_1), flat1 v72 24 [w3_1]] := S75;obtain ⟨g78, hL34⟩ := gd_some hL34;obtain ⟨v84, G79, q80, S81, a83, q80t, _⟩ := S75.pushRow (u := w2_0) (fr := ints) (X := l2_0) (y := l3_1) (t := 31) (t2 := 31) (j := 0) (k := 1) (by decide) rfl rfl (hB.le A76.1) el_31 el_31 ei_24 rfl (S75.sl1 (k := 2) rfl) g78;have A82 := A76.trans a83;replace S81 : Sep G79 (Fr H) [rowsC v84 24 3 (D2_0 ++ [w3_1]) (List.map ints (lapp l2_0 [l3_1])), emp, flat1 v72 24 [w3_1]] := S81;have q85 := S81.lastV (fr := ints) (k := 0) rfl;try simp only [List.cons_append, List.nil_append] at q85
        refine .region fun K hK => ?_;simp [e2_, q85, q74, a77.to_pre, ((S2_.sl (k := 1) rfl).tup), q80, q80t];apply hK;simp only [andThen, leaves];refine .region fun K hK => ?_;simp [e2_, q85];apply hK;simp only [andThen, leaves];have S86 := S81.pick [0] (by decide) rfl;exact ⟨n1, Nat.lt_succ_self _, (lapp l2_0 [l3_1]), (iadd .i64 y2_27 1), v84, (D2_0 ++ [w3_1]), hL34, S86, A82, by simp [e2_, q85]⟩
    ·replace hL34 := cd_f hb36 hL34;refine DWp.exit ?_;simp only [andThen, leaves, if_true, if_false, reduceIte, Nat.reduceEqDiff];obtain rfl := Option.some.inj hL34;try dsimp only at hF
     refine .sr fun K hK => ?_;simp [e1_];apply hK;refine DWp.ret ?_;obtain rfl := Option.some.inj hF;exact ⟨by simp, [w2_0], by simp [e1_, ((S1_.rd (k := 0) rfl).tup)], A1_, w2_0, D2_0, rfl, S1_.pick [0] (by decide) rfl⟩
def F_spec_exPairs_L4 (fu : Nat) (k4_0 : List (List Int)) (k4_1 : List Int) (k4_2 : List (List Int)) (k4_3 : Int) (k4_4 : Int) (k4_5 : Int) (k4_6 : Int) (k4_7 : Int) (k4_8 : Int) (k4_9 : List Int) (k4_10 : Int) (k4_11 : Int) : Nat → Int → Option (Int)
  | 0, _ => none
  | n + 1, y4_10 =>
    bif (ilt 0 y4_10) then
      gd (inL k4_0 (isub .i64 y4_10 1)) (
      gd (inL (gat [] k4_0 (isub .i64 y4_10 1)) 0) (
      bif (ilt k4_4 (gat 0 (gat [] k4_0 (isub .i64 y4_10 1)) 0)) then
        F_spec_exPairs_L4 fu k4_0 k4_1 k4_2 k4_3 k4_4 k4_5 k4_6 k4_7 k4_8 k4_9 k4_10 k4_11 n (isub .i64 y4_10 1)
      else
        gd (inL k4_0 (isub .i64 y4_10 1)) (
        gd (inL (gat [] k4_0 (isub .i64 y4_10 1)) 0) (
        bif (ieq (gat 0 (gat [] k4_0 (isub .i64 y4_10 1)) 0) k4_4) then
          gd (inL k4_0 (isub .i64 y4_10 1)) (
          gd (inL (gat [] k4_0 (isub .i64 y4_10 1)) 1) (
          bif (ilt k4_3 (gat 0 (gat [] k4_0 (isub .i64 y4_10 1)) 1)) then
            F_spec_exPairs_L4 fu k4_0 k4_1 k4_2 k4_3 k4_4 k4_5 k4_6 k4_7 k4_8 k4_9 k4_10 k4_11 n (isub .i64 y4_10 1)
          else
            some y4_10))
        else
          some y4_10))))
    else
      some y4_10
def F_spec_exPairs_L3 (fu : Nat) (k3_0 : List Int) (k3_1 : List (List Int)) (k3_2 : Int) (k3_3 : Int) (k3_4 : Int) (k3_5 : Int) (k3_6 : Int) (k3_7 : List Int) (k3_8 : Int) : Nat → List (List Int) → Int → Option (List (List Int) × Int)
  | 0, _, _ => none
  | n + 1, l3_0, y3_30 =>
    bif (ilt y3_30 k3_8) then
      gd (inL k3_7 y3_30) (
      bd (
        bd (F_spec_exPairs_L4 fu l3_0 k3_0 k3_1 k3_2 (gat 0 k3_7 y3_30) k3_3 k3_4 k3_5 k3_6 k3_7 k3_8 y3_30 fu (llen l3_0)) fun s4 =>
        some s4) fun s36 =>
      gd (subL l3_0 0 s36) (
      gd (l3_0.length + 1 ≤ 4294967296) (
      gd (subL l3_0 s36 (llen l3_0)) (
      F_spec_exPairs_L3 fu k3_0 k3_1 k3_2 k3_3 k3_4 k3_5 k3_6 k3_7 k3_8 n (lins l3_0 s36 [(gat 0 k3_7 y3_30), k3_2]) (iadd .i64 y3_30 1)))))
    else
      some (l3_0, y3_30)
def F_spec_exPairs_L2 (fu : Nat) (k2_0 : List Int) (k2_1 : List (List Int)) (k2_2 : Int) (k2_3 : Int) (k2_4 : Int) : Nat → List (List Int) → Int → Option (List (List Int) × Int)
  | 0, _, _ => none
  | n + 1, l2_0, y2_21 =>
    bif (ilt y2_21 k2_4) then
      gd (inL k2_0 y2_21) (
      gd (subL k2_0 0 y2_21) (
      bd (F_spec_exPairs_L3 fu k2_0 k2_1 (gat 0 k2_0 y2_21) k2_2 k2_3 k2_4 y2_21 (lsub k2_0 0 y2_21) (llen (lsub k2_0 0 y2_21)) fu l2_0 0) fun s3 =>
      F_spec_exPairs_L2 fu k2_0 k2_1 k2_2 k2_3 k2_4 n s3.1 (iadd .i64 y2_21 1)))
    else
      some (l2_0, y2_21)
def F_spec_exPairs_L1 (fu : Nat) (k1_0 : List (List Int)) (k1_1 : Int) : Nat → List (List Int) → Int → Option (List (List Int) × Int)
  | 0, _, _ => none
  | n + 1, l1_0, y1_15 =>
    bif (ilt y1_15 k1_1) then
      gd (inL k1_0 y1_15) (
      bd (F_spec_exPairs_L2 fu (gat [] k1_0 y1_15) k1_0 k1_1 y1_15 (llen (gat [] k1_0 y1_15)) fu l1_0 0) fun s2 =>
      F_spec_exPairs_L1 fu k1_0 k1_1 n s2.1 (iadd .i64 y1_15 1))
    else
      some (l1_0, y1_15)
def F_spec_exPairs (fu : Nat) (x0 : List Int) : Option (List (List Int)) :=
  bd (F_spec_exFaces fu x0) fun r1 =>
  bd (F_spec_exPairs_L1 fu r1 (llen r1) fu (@List.nil (List Int)) 0) fun s1 =>
  some s1.1
theorem F_spec_exPairs_w {fu : Nat} {H : AH} {v0 : Value} {x0 : List Int} {r : (List (List Int))} (hx0 : Sl H v0 (ints x0)) (hF : F_spec_exPairs fu x0 = some r) :
    ACallT Tryz.prog 53 [v0] H (fun u G => AgB (Fr H) H G ∧ ∃ u0 : Value, ∃ C0 : List Value, u = u0 ∧ Sep G (Fr H) [rowsC u0 24 3 C0 (List.map ints r)]) := by
 refine ACallT.of_body (nt := 92) (rs := [.tmp 2]) Tryz.func53 rfl rfl rfl rfl ?_;have A0 : AgB (Fr H) H H := .refl _ _;have S0 : Sep H (Fr H) [] := .nil;have hB := Fr.up H;unfold F_spec_exPairs at hF;refine .sr fun K hK => ?_;simp [];apply hK;refine .sr fun K hK => ?_;simp [];apply hK;refine .seq ?_;obtain ⟨r1, hc1, hF⟩ := bd_some hF;refine .sr fun K hK => ?_;simp [((hx0.agree A0.agree).tup)];refine CallD.t (F_spec_exFaces_w (fu := fu) (hx0.agree A0.agree) hc1) ?_;rintro c2_u0 G3 ⟨a6, _, c2_C0, rfl, S7⟩;have A5 := A0.ext (hB.le A0.1) a6.agree;have S4 : Sep G3 (Fr H) [rowsC c2_u0 24 3 c2_C0 (List.map ints r1)] := S0.app a6.agree S7 (fun _ h => h) (hB.le A0.1);have q8 := (S4.rd (k := 0) rfl).lenG el_31;simp [a6.pre, q8];apply hK;refine .block ?_;have S9 := S4.rowsNil (hB.le A5.1) 24 3;obtain ⟨s10, hL11, hF⟩ := bd_some hF;have S12 := S9.pick [1, 0] (by decide) rfl;refine DWp.loop (fun n env G => ∃ l1_0 : List (List Int), ∃ y1_15 : Int, ∃ w1_0 : Value, ∃ D1_0 : List Value, F_spec_exPairs_L1 fu r1 (llen r1) n l1_0 y1_15 = some s10 ∧ Sep G (Fr H) [rowsC w1_0 24 3 D1_0 (List.map ints l1_0), rowsC c2_u0 24 3 c2_C0 (List.map ints r1)] ∧ AgB (Fr H) H G ∧ env 3 = some w1_0 ∧ env 13 = some c2_u0 ∧ env 14 = some (Value.int .i64 (llen r1)) ∧ env 15 = some (Value.int .i64 y1_15)) fu ⟨(@List.nil (List Int)), 0, (Value.slice none 0 0), [], hL11, S12, A5, by simp []⟩ ?_;rintro n1 env1 G1_ ⟨l1_0, y1_15, w1_0, D1_0, hL11, S1_, A1_, e1_⟩;cases n1 with
 | zero => cases hL11
 | succ n1 =>
  simp only [F_spec_exPairs_L1] at hL11;refine .sr fun K hK => ?_;simp [e1_];apply hK;refine .seq ?_;refine DWp.cond' (t := (ilt y1_15 (llen r1))) (by simp [e1_]) (fun hb13 => ?_) (fun hb13 => ?_)
  ·replace hL11 := cd_t hb13 hL11;refine DWp.skip ?_;simp only [andThen, leaves];refine .seq ?_;refine .block ?_;obtain ⟨g14, hL11⟩ := gd_some hL11;have q15 := (S1_.rd (k := 1) rfl).idxG (kk := .i64) el_31 sz_24 g14;have q16 := (S1_.rd (k := 1) rfl).loadG sz_24 ag_24 g14;refine .sr fun K hK => ?_;simp [e1_, q15, q16];apply hK;have q17 := lenG ((S1_.rd (k := 1) rfl).rowAt [] g14) el_24;refine .sr fun K hK => ?_;simp [e1_, q17];apply hK;refine .block ?_;obtain ⟨s18, hL19, hL11⟩ := bd_some hL11;have S20 := S1_.pick [0, 1] (by decide) rfl;refine DWp.loop (fun n env G => ∃ l2_0 : List (List Int), ∃ y2_21 : Int, ∃ w2_0 : Value, ∃ D2_0 : List Value, F_spec_exPairs_L2 fu (gat [] r1 y1_15) r1 (llen r1) y1_15 (llen (gat [] r1 y1_15)) n l2_0 y2_21 = some s18 ∧ Sep G (Fr H) [rowsC w2_0 24 3 D2_0 (List.map ints l2_0), rowsC c2_u0 24 3 c2_C0 (List.map ints r1)] ∧ AgB (Fr H) H G ∧ env 3 = some w2_0 ∧ env 5 = some (gat nilV c2_C0 y1_15) ∧ env 13 = some c2_u0 ∧ env 14 = some (Value.int .i64 (llen r1)) ∧ env 15 = some (Value.int .i64 y1_15) ∧ env 19 = some (gat nilV c2_C0 y1_15) ∧ env 20 = some (Value.int .i64 (llen (gat [] r1 y1_15))) ∧ env 21 = some (Value.int .i64 y2_21)) fu ⟨l1_0, 0, w1_0, D1_0, hL19, S20, A1_, by simp [e1_]⟩ ?_;rintro n2 env2 G2_ ⟨l2_0, y2_21, w2_0, D2_0, hL19, S2_, A2_, e2_⟩;cases n2 with
   | zero => cases hL19
   | succ n2 =>
    simp only [F_spec_exPairs_L2] at hL19;refine .sr fun K hK => ?_;simp [e2_];apply hK;refine .seq ?_;refine DWp.cond' (t := (ilt y2_21 (llen (gat [] r1 y1_15)))) (by simp [e2_]) (fun hb21 => ?_) (fun hb21 => ?_)
    ·replace hL19 := cd_t hb21 hL19;refine DWp.skip ?_;simp only [andThen, leaves];refine .seq ?_;refine .block ?_;obtain ⟨g22, hL19⟩ := gd_some hL19;have q23 := idxG (kk := .i64) ((S2_.rd (k := 1) rfl).rowAt [] g14) el_24 sz_3 g22;have q24 := loadG ((S2_.rd (k := 1) rfl).rowAt [] g14) sz_3 ag_3 g22 0;refine .sr fun K hK => ?_;simp [e2_, q23, q24];apply hK;obtain ⟨g25, hL19⟩ := gd_some hL19;have q26 := aSub01 (t := 24) ((S2_.rd (k := 1) rfl).rowAt [] g14) el_24 sz_3 g25;have q27 := lenG (subSl ((S2_.rd (k := 1) rfl).rowAt [] g14) g25) el_24;refine .sr fun K hK => ?_;simp [e2_, q26, ((subSl ((S2_.rd (k := 1) rfl).rowAt [] g14) g25).tup), q27];apply hK;refine .block ?_;obtain ⟨s28, hL29, hL19⟩ := bd_some hL19;have S30 := S2_.pick [0, 1] (by decide) rfl
     refine DWp.loop (fun n env G => ∃ l3_0 : List (List Int), ∃ y3_30 : Int, ∃ w3_0 : Value, ∃ D3_0 : List Value, F_spec_exPairs_L3 fu (gat [] r1 y1_15) r1 (gat 0 (gat [] r1 y1_15) y2_21) (llen r1) y1_15 (llen (gat [] r1 y1_15)) y2_21 (lsub (gat [] r1 y1_15) 0 y2_21) (llen (lsub (gat [] r1 y1_15) 0 y2_21)) n l3_0 y3_30 = some s28 ∧ Sep G (Fr H) [rowsC w3_0 24 3 D3_0 (List.map ints l3_0), rowsC c2_u0 24 3 c2_C0 (List.map ints r1)] ∧ AgB (Fr H) H G ∧ env 3 = some w3_0 ∧ env 5 = some (gat nilV c2_C0 y1_15) ∧ env 7 = some (Value.int .i64 (gat 0 (gat [] r1 y1_15) y2_21)) ∧ env 13 = some c2_u0 ∧ env 14 = some (Value.int .i64 (llen r1)) ∧ env 15 = some (Value.int .i64 y1_15) ∧ env 19 = some (gat nilV c2_C0 y1_15) ∧ env 20 = some (Value.int .i64 (llen (gat [] r1 y1_15))) ∧ env 21 = some (Value.int .i64 y2_21) ∧ env 28 = some (subV (gat nilV c2_C0 y1_15) 0 y2_21) ∧ env 29 = some (Value.int .i64 (llen (lsub (gat [] r1 y1_15) 0 y2_21))) ∧ env 30 = some (Value.int .i64 y3_30)) fu ⟨l2_0, 0, w2_0, D2_0, hL29, S30, A2_, by simp [e2_]⟩ ?_;rintro n3 env3 G3_ ⟨l3_0, y3_30, w3_0, D3_0, hL29, S3_, A3_, e3_⟩;cases n3 with
     | zero => cases hL29
     | succ n3 =>
      simp only [F_spec_exPairs_L3] at hL29;refine .sr fun K hK => ?_;simp [e3_];apply hK;refine .seq ?_;refine DWp.cond' (t := (ilt y3_30 (llen (lsub (gat [] r1 y1_15) 0 y2_21)))) (by simp [e3_]) (fun hb31 => ?_) (fun hb31 => ?_)
      ·replace hL29 := cd_t hb31 hL29;refine DWp.skip ?_;simp only [andThen, leaves];refine .seq ?_;refine .block ?_;obtain ⟨g32, hL29⟩ := gd_some hL29;have q33 := idxG (kk := .i64) (subSl ((S3_.rd (k := 1) rfl).rowAt [] g14) g25) el_24 sz_3 g32;have q34 := loadG (subSl ((S3_.rd (k := 1) rfl).rowAt [] g14) g25) sz_3 ag_3 g32 0;refine .sr fun K hK => ?_;simp [e3_, q33, q34];apply hK;have q35 := (S3_.rd (k := 0) rfl).lenG el_31;refine .sr fun K hK => ?_;simp [e3_, q35];apply hK;obtain ⟨s36, hL37, hL29⟩ := bd_some hL29;refine DWp.seq (DWp.join (fun env G => Sep G (Fr H) [rowsC w3_0 24 3 D3_0 (List.map ints l3_0), rowsC c2_u0 24 3 c2_C0 (List.map ints r1)] ∧ AgB (Fr H) H G ∧ env 3 = some w3_0 ∧ env 5 = some (gat nilV c2_C0 y1_15) ∧ env 7 = some (Value.int .i64 (gat 0 (gat [] r1 y1_15) y2_21)) ∧ env 9 = some (Value.int .i64 (gat 0 (lsub (gat [] r1 y1_15) 0 y2_21) y3_30)) ∧ env 10 = some (Value.int .i64 s36) ∧ env 13 = some c2_u0 ∧ env 14 = some (Value.int .i64 (llen r1)) ∧ env 15 = some (Value.int .i64 y1_15) ∧ env 19 = some (gat nilV c2_C0 y1_15) ∧ env 20 = some (Value.int .i64 (llen (gat [] r1 y1_15))) ∧ env 21 = some (Value.int .i64 y2_21) ∧ env 28 = some (subV (gat nilV c2_C0 y1_15) 0 y2_21) ∧ env 29 = some (Value.int .i64 (llen (lsub (gat [] r1 y1_15) 0 y2_21))) ∧ env 30 = some (Value.int .i64 y3_30)) ?_ ?_)
       ·
        refine .block ?_;obtain ⟨s39, hL40, hL37⟩ := bd_some hL37;have S41 := S3_.pick [0, 1] (by decide) rfl;refine DWp.loop (fun n env G => ∃ y4_10 : Int, F_spec_exPairs_L4 fu l3_0 (gat [] r1 y1_15) r1 (gat 0 (gat [] r1 y1_15) y2_21) (gat 0 (lsub (gat [] r1 y1_15) 0 y2_21) y3_30) (llen r1) y1_15 (llen (gat [] r1 y1_15)) y2_21 (lsub (gat [] r1 y1_15) 0 y2_21) (llen (lsub (gat [] r1 y1_15) 0 y2_21)) y3_30 n y4_10 = some s39 ∧ Sep G (Fr H) [rowsC w3_0 24 3 D3_0 (List.map ints l3_0), rowsC c2_u0 24 3 c2_C0 (List.map ints r1)] ∧ AgB (Fr H) H G ∧ env 3 = some w3_0 ∧ env 5 = some (gat nilV c2_C0 y1_15) ∧ env 7 = some (Value.int .i64 (gat 0 (gat [] r1 y1_15) y2_21)) ∧ env 9 = some (Value.int .i64 (gat 0 (lsub (gat [] r1 y1_15) 0 y2_21) y3_30)) ∧ env 10 = some (Value.int .i64 y4_10) ∧ env 13 = some c2_u0 ∧ env 14 = some (Value.int .i64 (llen r1)) ∧ env 15 = some (Value.int .i64 y1_15) ∧ env 19 = some (gat nilV c2_C0 y1_15) ∧ env 20 = some (Value.int .i64 (llen (gat [] r1 y1_15))) ∧ env 21 = some (Value.int .i64 y2_21) ∧ env 28 = some (subV (gat nilV c2_C0 y1_15) 0 y2_21) ∧ env 29 = some (Value.int .i64 (llen (lsub (gat [] r1 y1_15) 0 y2_21))) ∧ env 30 = some (Value.int .i64 y3_30)) fu ⟨(llen l3_0), hL40, S41, A3_, by simp [e3_]⟩ ?_;rintro n5 env5 G5_ ⟨y4_10, hL40, S5_, A5_, e5_⟩;cases n5 with
        | zero => cases hL40
        | succ n5 =>
         simp only [F_spec_exPairs_L4] at hL40;refine .seq ?_;rcases Bool.eq_false_or_eq_true (ilt 0 y4_10) with hb42 | hb42
         ·replace hL40 := cd_t hb42 hL40;obtain ⟨g43, hL40⟩ := gd_some hL40;have q44 := (S5_.rd (k := 0) rfl).idxG (kk := .i64) el_31 sz_24 g43;have q45 := (S5_.rd (k := 0) rfl).loadG sz_24 ag_24 g43;obtain ⟨g46, hL40⟩ := gd_some hL40;have q47 := idxG (kk := .i64) ((S5_.rd (k := 0) rfl).rowAt [] g43) el_24 sz_3 g46;replace q47 : aIndexAddr Tryz.prog G5_ 24 (gat nilV D3_0 (isub .i64 y4_10 1)) (Value.int .i64 0) = some (elP (gat nilV D3_0 (isub .i64 y4_10 1)) 0) := q47;have q48 := loadG ((S5_.rd (k := 0) rfl).rowAt [] g43) sz_3 ag_3 g46 0;replace q48 : aLoad Tryz.prog G5_ 3 (elP (gat nilV D3_0 (isub .i64 y4_10 1)) 0) = some (Value.int .i64 (gat 0 (gat [] l3_0 (isub .i64 y4_10 1)) 0)) := q48;rcases Bool.eq_false_or_eq_true (ilt (gat 0 (lsub (gat [] r1 y1_15) 0 y2_21) y3_30) (gat 0 (gat [] l3_0 (isub .i64 y4_10 1)) 0)) with hb49 | hb49
          ·replace hL40 := cd_t hb49 hL40;refine .sr fun K hK => ?_;simp [e5_, hb42, hb49, q44, q45, q47, q48, undef];apply hK;refine DWp.ct (by simp [e5_, bnot]) ?_;refine DWp.skip ?_;simp only [andThen, leaves];refine .block ?_;refine .region fun K hK => ?_;simp [e5_];apply hK;simp only [andThen, leaves];have S50 := S5_.pick [0, 1] (by decide) rfl;exact ⟨n5, Nat.lt_succ_self _, (isub .i64 y4_10 1), hL40, S50, A5_, by simp [e5_]⟩
          ·replace hL40 := cd_f hb49 hL40;obtain ⟨g51, hL40⟩ := gd_some hL40;have q52 := (S5_.rd (k := 0) rfl).idxG (kk := .i64) el_31 sz_24 g51;have q53 := (S5_.rd (k := 0) rfl).loadG sz_24 ag_24 g51;obtain ⟨g54, hL40⟩ := gd_some hL40;have q55 := idxG (kk := .i64) ((S5_.rd (k := 0) rfl).rowAt [] g51) el_24 sz_3 g54;replace q55 : aIndexAddr Tryz.prog G5_ 24 (gat nilV D3_0 (isub .i64 y4_10 1)) (Value.int .i64 0) = some (elP (gat nilV D3_0 (isub .i64 y4_10 1)) 0) := q55;have q56 := loadG ((S5_.rd (k := 0) rfl).rowAt [] g51) sz_3 ag_3 g54 0;replace q56 : aLoad Tryz.prog G5_ 3 (elP (gat nilV D3_0 (isub .i64 y4_10 1)) 0) = some (Value.int .i64 (gat 0 (gat [] l3_0 (isub .i64 y4_10 1)) 0)) := q56;rcases Bool.eq_false_or_eq_true (ieq (gat 0 (gat [] l3_0 (isub .i64 y4_10 1)) 0) (gat 0 (lsub (gat [] r1 y1_15) 0 y2_21) y3_30)) with hb57 | hb57
           ·replace hL40 := cd_t hb57 hL40;obtain ⟨g58, hL40⟩ := gd_some hL40;have q59 := (S5_.rd (k := 0) rfl).idxG (kk := .i64) el_31 sz_24 g58;have q60 := (S5_.rd (k := 0) rfl).loadG sz_24 ag_24 g58;obtain ⟨g61, hL40⟩ := gd_some hL40;have q62 := idxG (kk := .i64) ((S5_.rd (k := 0) rfl).rowAt [] g58) el_24 sz_3 g61;replace q62 : aIndexAddr Tryz.prog G5_ 24 (gat nilV D3_0 (isub .i64 y4_10 1)) (Value.int .i64 1) = some (elP (gat nilV D3_0 (isub .i64 y4_10 1)) 1) := q62;have q63 := loadG ((S5_.rd (k := 0) rfl).rowAt [] g58) sz_3 ag_3 g61 0;replace q63 : aLoad Tryz.prog G5_ 3 (elP (gat nilV D3_0 (isub .i64 y4_10 1)) 1) = some (Value.int .i64 (gat 0 (gat [] l3_0 (isub .i64 y4_10 1)) 1)) := q63;refine .sr fun K hK => ?_;simp [e5_, hb42, hb49, hb57, q44, q45, q47, q48, q52, q53, q55, q56, q59, q60, q62, q63];apply hK;refine DWp.cond' (t := (ilt (gat 0 (gat [] r1 y1_15) y2_21) (gat 0 (gat [] l3_0 (isub .i64 y4_10 1)) 1))) (by simp [e5_]) (fun hb64 => ?_) (fun hb64 => ?_)
            ·replace hL40 := cd_t hb64 hL40;refine DWp.skip ?_;simp only [andThen, leaves];refine .block ?_;refine .region fun K hK => ?_;simp [e5_];apply hK;simp only [andThen, leaves];have S65 := S5_.pick [0, 1] (by decide) rfl;exact ⟨n5, Nat.lt_succ_self _, (isub .i64 y4_10 1), hL40, S65, A5_, by simp [e5_]⟩
            ·replace hL40 := cd_f hb64 hL40;refine DWp.exit ?_;simp only [andThen, leaves, if_true, if_false, reduceIte, Nat.reduceEqDiff];obtain rfl := Option.some.inj hL40;have S66 := S5_.pick [0, 1] (by decide) rfl;obtain rfl := Option.some.inj hL37;exact ⟨S66, A5_, by simp [e5_]⟩
           ·replace hL40 := cd_f hb57 hL40;refine .sr fun K hK => ?_;simp [e5_, hb42, hb49, hb57, q44, q45, q47, q48, q52, q53, q55, q56];apply hK;refine DWp.cf (by simp [e5_, bnot]) ?_;refine DWp.exit ?_;simp only [andThen, leaves, if_true, if_false, reduceIte, Nat.reduceEqDiff];obtain rfl := Option.some.inj hL40;have S67 := S5_.pick [0, 1] (by decide) rfl;obtain rfl := Option.some.inj hL37;exact ⟨S67, A5_, by simp [e5_]⟩
         ·replace hL40 := cd_f hb42 hL40;refine .sr fun K hK => ?_;simp [e5_, hb42, undef];apply hK;refine DWp.cf (by simp [e5_, bnot]) ?_;refine DWp.exit ?_;simp only [andThen, leaves, if_true, if_false, reduceIte, Nat.reduceEqDiff];obtain rfl := Option.some.inj hL40;have S68 := S5_.pick [0, 1] (by decide) rfl;obtain rfl := Option.some.inj hL37;exact ⟨S68, A5_, by simp [e5_]⟩
       ·rintro env Gj69 ⟨Sj69, Aj69, ej69_⟩;obtain ⟨v70, G71, q72, S73, a75, _, _⟩ := Sj69.lit0 (t := 31) (hB.le Aj69.1) el_31 ei_24 rfl;have A74 := Aj69.ext (hB.le Aj69.1) a75;replace S73 : Sep G71 (Fr H) [rowsC w3_0 24 3 D3_0 (List.map ints l3_0), rowsC c2_u0 24 3 c2_C0 (List.map ints r1), flat1 v70 24 []] := S73;have S76 : Sep G71 (Fr H) [rowsC w3_0 24 3 D3_0 (List.map ints l3_0), rowsC c2_u0 24 3 c2_C0 (List.map ints r1), rowsC v70 24 3 [] (List.map ints [])] := S73.rowsOf0 (k := 2) rfl 3;obtain ⟨g77, hL29⟩ := gd_some hL29;have q78 := ((S76.rd (k := 0) rfl).raw01 el_31 sz_24 g77).1;have S85 := S76.rawOf0 (k := 2) rfl;obtain ⟨g86, hL29⟩ := gd_some hL29;obtain ⟨v84, G79, q80, S81, a83, q80t, _⟩ := S85.ins1 (t := 31) (t2 := 31) (k := 2) (j := 0) (fr := ints) (X := l3_0) (C := D3_0) (b := s36) rfl rfl (hB.le A74.1) el_31 el_31 ei_24 rfl ((S85.rd (k := 0) rfl).raw01 el_31 sz_24 g77).2 g86;have A82 := A74.trans a83;replace S81 : Sep G79 (Fr H) [rowsC w3_0 24 3 D3_0 (List.map ints l3_0), rowsC c2_u0 24 3 c2_C0 (List.map ints r1), flat v84 24 (D3_0.take (s36).toNat)] := S81;refine .sr fun K hK => ?_;simp [ej69_, q72, a75.to_pre, q78, (((S76.rd (k := 0) rfl).raw01 el_31 sz_24 g77).2.tup), q80, q80t];apply hK;obtain ⟨v87, G88, q89, S90, a92, fl93⟩ := S81.lit2E (t := 24) (hB.le A82.1) el_24 ei_3 rfl (Value.int .i64 (gat 0 (lsub (gat [] r1 y1_15) 0 y2_21) y3_30)) (Value.int .i64 (gat 0 (gat [] r1 y1_15) y2_21)) rfl rfl rfl rfl;have A91 := A82.ext (hB.le A82.1) a92
        replace S90 : Sep G88 (Fr H) [rowsC w3_0 24 3 D3_0 (List.map ints l3_0), rowsC c2_u0 24 3 c2_C0 (List.map ints r1), flat v84 24 (D3_0.take (s36).toNat), flat1 v87 3 (ints [(gat 0 (lsub (gat [] r1 y1_15) 0 y2_21) y3_30), (gat 0 (gat [] r1 y1_15) y2_21)])] := S90;obtain ⟨v94, G95, q96, S97, a99, _, _⟩ := S90.lit1 (t := 31) (hB.le A91.1) el_31 ei_24 rfl v87 ((S90.sl1 (k := 3) rfl).tup) ((S90.sl1 (k := 3) rfl).one);have A98 := A91.ext (hB.le A91.1) a99;replace S97 : Sep G95 (Fr H) [rowsC w3_0 24 3 D3_0 (List.map ints l3_0), rowsC c2_u0 24 3 c2_C0 (List.map ints r1), flat v84 24 (D3_0.take (s36).toNat), flat1 v87 3 (ints [(gat 0 (lsub (gat [] r1 y1_15) 0 y2_21) y3_30), (gat 0 (gat [] r1 y1_15) y2_21)]), flat1 v94 24 [v87]] := S97;have q100 : RefK (kpl [w3_0]) G95.length w3_0 := refK_sl (S97.rd (k := 0) rfl).out (by simp);obtain ⟨g101, hL29⟩ := gd_some hL29;have q102 := ((S97.rd (k := 0) rfl).raw10 el_31 sz_24 g101).1;have S109 := S97.weak (k := 3) rfl;obtain ⟨v108, G103, q104, S105, a107, q104t, _⟩ := S109.ins2 (t := 31) (t2 := 31) (k := 2) (j := 0) (fr := ints) (X := l3_0) (C := D3_0) (b := s36) rfl rfl (hB.le A98.1) el_31 el_31 ei_24 rfl (S109.sl1 (k := 4) rfl) g86;have t110 : Stand (kpl [w3_0]) G95 G103 := stand_kpl (append_same q104) (by
         simp only [List.mem_cons, List.not_mem_nil, or_false, forall_eq_or_imp, forall_eq, false_imp_iff, implies_true];exact S109.ids_apartR (k := 2) (j := 0) rfl rfl (by decide))
        have A106 := A98.trans a107;replace S105 : Sep G103 (Fr H) [rowsC w3_0 24 3 D3_0 (List.map ints l3_0), rowsC c2_u0 24 3 c2_C0 (List.map ints r1), flat v108 24 (D3_0.take (s36).toNat ++ [v87]), flat v87 3 (ints [(gat 0 (lsub (gat [] r1 y1_15) 0 y2_21) y3_30), (gat 0 (gat [] r1 y1_15) y2_21)]), flat1 v94 24 [v87]] := S105;obtain ⟨v116, G111, q112, S113, a115, q112t, _⟩ := S105.ins3 (t := 31) (t2 := 31) (k := 2) (j := 0) (fr := ints) (X := l3_0) (C := D3_0) (b := s36) (c := v87) rfl rfl (hB.le A106.1) el_31 el_31 ei_24 rfl ((S105.rd (k := 0) rfl).raw10 el_31 sz_24 g101).2 g86;have t117 : Stand (kpl [w3_0]) G103 G111 := stand_kpl (append_same q112) (by
         simp only [List.mem_cons, List.not_mem_nil, or_false, forall_eq_or_imp, forall_eq, false_imp_iff, implies_true];exact S105.ids_apartR (k := 2) (j := 0) rfl rfl (by decide))
        have A114 := A106.trans a115;replace S113 : Sep G111 (Fr H) [rowsC w3_0 24 3 D3_0 (List.map ints l3_0), rowsC c2_u0 24 3 c2_C0 (List.map ints r1), flat v116 24 (cins D3_0 s36 v87), flat v87 3 (ints [(gat 0 (lsub (gat [] r1 y1_15) 0 y2_21) y3_30), (gat 0 (gat [] r1 y1_15) y2_21)]), flat1 v94 24 [v87]] := S113;have S118 : Sep G111 (Fr H) [emp, rowsC c2_u0 24 3 c2_C0 (List.map ints r1), rowsC v116 24 3 (cins D3_0 s36 v87) (List.map ints (lins l3_0 s36 [(gat 0 (lsub (gat [] r1 y1_15) 0 y2_21) y3_30), (gat 0 (gat [] r1 y1_15) y2_21)])), emp, flat1 v94 24 [v87]] := S113.rowsIns (fr := ints) (w := 2) (j := 0) (k := 3) (by decide) (by decide) (by decide) rfl rfl rfl g77;refine .drawn0 (B := [0, 0, 0, 6, 14, 0, 0, 96, 31, 511, 1023]) (X0 := [7]) (π := [0, 1, 2, 3, 4, 6, 7, 8, 5, 9, 10]) (σ := [0, 1, 2, 3, 4, 8, 5, 6, 7, 9, 10]) 8 (kpl [w3_0]) none mixed (by kernel_rfl) (by kernel_rfl) (by decide) fun K hK => ?_;simp only [rl0, rlb0, List.filterMap_cons, List.filterMap_nil, List.getElem?_cons_zero, List.getElem?_cons_succ, Option.map_some, Option.map_none];simp (config := { maxSteps := 4000000 }) [ej69_, q89, a92.to_pre, q96, a99.to_pre, ((S90.sl1 (k := 3) rfl).tup), q100, q102, (((S97.rd (k := 0) rfl).raw10 el_31 sz_24 g101).2.tup), t110, q104, q104t, t117, q112, q112t];apply hK;simp only [andThen, leaves];refine .region fun K hK => ?_;simp [ej69_];apply hK;simp only [andThen, leaves];have S119 := S118.pick [2, 1] (by decide) rfl;exact ⟨n3, Nat.lt_succ_self _, (lins l3_0 s36 [(gat 0 (lsub (gat [] r1 y1_15) 0 y2_21) y3_30), (gat 0 (gat [] r1 y1_15) y2_21)]), (iadd .i64 y3_30 1), v116, (cins D3_0 s36 v87), hL29, S119, A114, by simp [ej69_]⟩
      ·replace hL29 := cd_f hb31 hL29;refine DWp.exit ?_;simp only [andThen, leaves, if_true, if_false, reduceIte, Nat.reduceEqDiff];obtain rfl := Option.some.inj hL29;try dsimp only at hL19
       refine .region fun K hK => ?_;simp [e3_];apply hK;simp only [andThen, leaves];have S120 := S3_.pick [0, 1] (by decide) rfl;exact ⟨n2, Nat.lt_succ_self _, l3_0, (iadd .i64 y2_21 1), w3_0, D3_0, hL19, S120, A3_, by simp [e3_]⟩
    ·replace hL19 := cd_f hb21 hL19;refine DWp.exit ?_;simp only [andThen, leaves, if_true, if_false, reduceIte, Nat.reduceEqDiff];obtain rfl := Option.some.inj hL19;try dsimp only at hL11
     refine .region fun K hK => ?_;simp [e2_];apply hK;simp only [andThen, leaves];have S121 := S2_.pick [0, 1] (by decide) rfl;exact ⟨n1, Nat.lt_succ_self _, l2_0, (iadd .i64 y1_15 1), w2_0, D2_0, hL11, S121, A2_, by simp [e2_]⟩
  ·replace hL11 := cd_f hb13 hL11;refine DWp.exit ?_;simp only [andThen, leaves, if_true, if_false, reduceIte, Nat.reduceEqDiff];obtain rfl := Option.some.inj hL11;try dsimp only at hF
   refine .sr fun K hK => ?_;simp [e1_];apply hK;refine DWp.ret ?_;obtain rfl := Option.some.inj hF;exact ⟨by simp, [w1_0], by simp [e1_, ((S1_.rd (k := 0) rfl).tup)], A1_, w1_0, D1_0, rfl, S1_.pick [0] (by decide) rfl⟩
def F_impl_in (fu : Nat) (x0 : Int) (x1 : Int) (x2 : Int) : Option (Bool) :=
  bif (ile x1 x0) then
    some (ile x0 x2)
  else
    some false
theorem F_impl_in_w {fu : Nat} {H : AH}  {x0 : Int} {x1 : Int} {x2 : Int} {r : (Bool)}  (hF : F_impl_in fu x0 x1 x2 = some r) :
    ACallT Tryz.prog 110 [(Value.int .i64 x0), (Value.int .i64 x1), (Value.int .i64 x2)] H (fun u G => AgB (Fr H) H G ∧ u = (Value.bool r) ∧ Sep G (Fr H) []) := by
 refine ACallT.of_body (nt := 15) (rs := [.tmp 6]) Tryz.func110 rfl rfl rfl rfl ?_;have A0 : AgB (Fr H) H H := .refl _ _;have S0 : Sep H (Fr H) [] := .nil;have hB := Fr.up H;unfold F_impl_in at hF;refine .sr fun K hK => ?_;simp [];apply hK;rcases Bool.eq_false_or_eq_true (ile x1 x0) with hb1 | hb1
 ·replace hF := cd_t hb1 hF;refine .sr fun K hK => ?_;simp [hb1];apply hK;refine DWp.ret ?_;obtain rfl := Option.some.inj hF;exact ⟨by simp, [(Value.bool (ile x0 x2))], by simp [], A0, rfl, S0.pick [] (by decide) rfl⟩
 ·replace hF := cd_f hb1 hF;refine .sr fun K hK => ?_;simp [hb1];apply hK;refine DWp.ret ?_;obtain rfl := Option.some.inj hF;exact ⟨by simp, [(Value.bool false)], by simp [], A0, rfl, S0.pick [] (by decide) rfl⟩
def F_impl_isSystem_L3 (fu : Nat) (k3_0 : List Int) (k3_1 : Int) (k3_2 : Int) (k3_3 : Int) : Nat → Int → Option (LR (LR (Bool) (Int)) (Int))
  | 0, _ => none
  | n + 1, y3_7 =>
    bif (ilt y3_7 k3_2) then
      gd (inL k3_0 y3_7) (
      bd (F_impl_in fu (gat 0 k3_0 y3_7) k3_1 k3_2) fun r2 =>
      bif (bnot r2) then
        some (.ret (.ret false))
      else
        F_impl_isSystem_L3 fu k3_0 k3_1 k3_2 k3_3 n (iadd .i64 y3_7 1))
    else
      some (.brk y3_7)
def F_impl_isSystem_L2 (fu : Nat) (k2_0 : List Int) (k2_1 : Int) : Nat → Int → Option (LR (Bool) (Int))
  | 0, _ => none
  | n + 1, y2_37 =>
    bif (ilt y2_37 k2_1) then
      gd (inL k2_0 y2_37) (
      bd (F_impl_isSystem_L3 fu k2_0 y2_37 (gat 0 k2_0 y2_37) k2_1 fu (iadd .i64 y2_37 1)) fun s3 =>
      lr s3 fun s3 =>
      F_impl_isSystem_L2 fu k2_0 k2_1 n (iadd .i64 y2_37 1))
    else
      some (.brk y2_37)
def F_impl_isSystem_L1 (fu : Nat) (k1_0 : List Int) (k1_1 : Int) : Nat → Int → Option (LR (Bool) (Int))
  | 0, _ => none
  | n + 1, y1_10 =>
    bif (ilt y1_10 k1_1) then
      gd (inL k1_0 y1_10) (
      bd (
        bd (F_impl_in fu (gat 0 k1_0 y1_10) 0 (isub .i64 (llen k1_0) 1)) fun r1 =>
        bif (bnot r1) then
          some true
        else
          bif (ieq (gat 0 k1_0 y1_10) y1_10) then
            some true
          else
            gd (inL k1_0 (gat 0 k1_0 y1_10)) (
            some (ine (gat 0 k1_0 (gat 0 k1_0 y1_10)) y1_10))) fun s9 =>
      bif s9 then
        some (.ret false)
      else
        F_impl_isSystem_L1 fu k1_0 k1_1 n (iadd .i64 y1_10 1))
    else
      some (.brk y1_10)
def F_impl_isSystem (fu : Nat) (x0 : List Int) : Option (Bool) :=
  bd (F_impl_isSystem_L1 fu x0 (llen x0) fu 0) fun s1 =>
  lr s1 fun s1 =>
  bd (F_impl_isSystem_L2 fu x0 (llen x0) fu 0) fun s2 =>
  lr s2 fun s2 =>
  some true
theorem F_impl_isSystem_w {fu : Nat} {H : AH} {v0 : Value} {x0 : List Int} {r : (Bool)} (hx0 : Sl H v0 (ints x0)) (hF : F_impl_isSystem fu x0 = some r) :
    ACallT Tryz.prog 69 [v0] H (fun u G => AgB (Fr H) H G ∧ u = (Value.bool r) ∧ Sep G (Fr H) []) := by
 refine ACallT.of_body (nt := 58) (rs := [.tmp 2]) Tryz.func69 rfl rfl rfl rfl ?_;have A0 : AgB (Fr H) H H := .refl _ _;have S0 : Sep H (Fr H) [] := .nil;have hB := Fr.up H;unfold F_impl_isSystem at hF;refine .sr fun K hK => ?_;simp [];apply hK;refine .seq ?_;have q1 := lenG (hx0.agree A0.agree) el_24;refine .sr fun K hK => ?_;simp [q1];apply hK;refine .block ?_;obtain ⟨s2, hL3, hF⟩ := bd_some hF;have S4 := S0.pick [] (by decide) rfl;refine DWp.loop (fun n env G => ∃ y1_10 : Int, F_impl_isSystem_L1 fu x0 (llen x0) n y1_10 = some s2 ∧ Sep G (Fr H) [] ∧ AgB (Fr H) H G ∧ env 0 = some v0 ∧ env 8 = some v0 ∧ env 9 = some (Value.int .i64 (llen x0)) ∧ env 10 = some (Value.int .i64 y1_10)) fu ⟨0, hL3, S4, A0, by simp []⟩ ?_;rintro n1 env1 G1_ ⟨y1_10, hL3, S1_, A1_, e1_⟩;cases n1 with
 | zero => cases hL3
 | succ n1 =>
  simp only [F_impl_isSystem_L1] at hL3;refine .sr fun K hK => ?_;simp [e1_];apply hK;refine .seq ?_;refine DWp.cond' (t := (ilt y1_10 (llen x0))) (by simp [e1_]) (fun hb5 => ?_) (fun hb5 => ?_)
  ·replace hL3 := cd_t hb5 hL3;refine DWp.skip ?_;simp only [andThen, leaves];refine .seq ?_;refine .block ?_;obtain ⟨g6, hL3⟩ := gd_some hL3;have q7 := idxG (kk := .i64) (hx0.agree A1_.agree) el_24 sz_3 g6;have q8 := loadG (hx0.agree A1_.agree) sz_3 ag_3 g6 0;refine .sr fun K hK => ?_;simp [e1_, q7, q8];apply hK;obtain ⟨s9, hL10, hL3⟩ := bd_some hL3;refine DWp.seq (DWp.join (fun env G => Sep G (Fr H) [] ∧ AgB (Fr H) H G ∧ env 0 = some v0 ∧ env 8 = some v0 ∧ env 9 = some (Value.int .i64 (llen x0)) ∧ env 10 = some (Value.int .i64 y1_10) ∧ env 33 = some (Value.bool s9)) ?_ ?_)
   ·
    have q12 := lenG (hx0.agree A1_.agree) el_24;obtain ⟨r1, hc13, hL10⟩ := bd_some hL10;refine .region fun K hK => ?_;simp [e1_, q12];refine CallD.t (F_impl_in_w (fu := fu)  hc13) ?_;rintro _ G15 ⟨a18, rfl, S19⟩;have A17 := A1_.ext (hB.le A1_.1) a18.agree;have S16 : Sep G15 (Fr H) [] := S1_.app a18.agree S19 (fun _ h => h) (hB.le A1_.1);rcases Bool.eq_false_or_eq_true (bnot r1) with hb20 | hb20
    ·replace hL10 := cd_t hb20 hL10;simp [e1_, hb20, q12, a18.pre];apply hK;simp only [andThen, leaves];have S21 := S16.pick [] (by decide) rfl;obtain rfl := Option.some.inj hL10;exact ⟨S21, A17, by simp [e1_]⟩
    ·replace hL10 := cd_f hb20 hL10;rcases Bool.eq_false_or_eq_true (ieq (gat 0 x0 y1_10) y1_10) with hb22 | hb22
     ·replace hL10 := cd_t hb22 hL10;simp [e1_, hb20, hb22, q12, a18.pre];apply hK;simp only [andThen, leaves];have S23 := S16.pick [] (by decide) rfl;obtain rfl := Option.some.inj hL10;exact ⟨S23, A17, by simp [e1_]⟩
     ·replace hL10 := cd_f hb22 hL10;obtain ⟨g24, hL10⟩ := gd_some hL10;have q25 := idxG (kk := .i64) (hx0.agree A17.agree) el_24 sz_3 g24;have q26 := loadG (hx0.agree A17.agree) sz_3 ag_3 g24 0;simp [e1_, hb20, hb22, q12, a18.pre, q25, q26];apply hK;simp only [andThen, leaves];have S27 := S16.pick [] (by decide) rfl;obtain rfl := Option.some.inj hL10;exact ⟨S27, A17, by simp [e1_]⟩
   ·rintro env Gj28 ⟨Sj28, Aj28, ej28_⟩;refine DWp.cond' (t := s9) (by simp [ej28_]) (fun hb29 => ?_) (fun hb29 => ?_)
    ·replace hL3 := cd_t hb29 hL3;refine .sr fun K hK => ?_;simp [ej28_];apply hK;refine DWp.ret ?_;simp only [andThen, leaves];obtain rfl := Option.some.inj hL3;simp only [lr] at hF;obtain rfl := Option.some.inj hF;exact ⟨by simp, [(Value.bool false)], by simp [ej28_], Aj28, rfl, Sj28.pick [] (by decide) rfl⟩
    ·replace hL3 := cd_f hb29 hL3;refine DWp.skip ?_;simp only [andThen, leaves];refine .region fun K hK => ?_;simp [ej28_];apply hK;simp only [andThen, leaves];have S30 := Sj28.pick [] (by decide) rfl;exact ⟨n1, Nat.lt_succ_self _, (iadd .i64 y1_10 1), hL3, S30, Aj28, by simp [ej28_]⟩
  ·replace hL3 := cd_f hb5 hL3;refine DWp.exit ?_;simp only [andThen, leaves, if_true, if_false, reduceIte, Nat.reduceEqDiff];obtain rfl := Option.some.inj hL3;simp only [lr] at hF;refine .seq ?_;have q31 := lenG (hx0.agree A1_.agree) el_24;refine .sr fun K hK => ?_;simp [e1_, q31];apply hK;refine .block ?_;obtain ⟨s32, hL33, hF⟩ := bd_some hF;have S34 := S1_.pick [] (by decide) rfl;refine DWp.loop (fun n env G => ∃ y2_37 : Int, F_impl_isSystem_L2 fu x0 (llen x0) n y2_37 = some s32 ∧ Sep G (Fr H) [] ∧ AgB (Fr H) H G ∧ env 0 = some v0 ∧ env 35 = some v0 ∧ env 36 = some (Value.int .i64 (llen x0)) ∧ env 37 = some (Value.int .i64 y2_37)) fu ⟨0, hL33, S34, A1_, by simp [e1_]⟩ ?_;rintro n1 env1 G1_ ⟨y2_37, hL33, S1_, A1_, e1_⟩;cases n1 with
   | zero => cases hL33
   | succ n1 =>
    simp only [F_impl_isSystem_L2] at hL33;refine .sr fun K hK => ?_;simp [e1_];apply hK;refine .seq ?_;refine DWp.cond' (t := (ilt y2_37 (llen x0))) (by simp [e1_]) (fun hb35 => ?_) (fun hb35 => ?_)
    ·replace hL33 := cd_t hb35 hL33;refine DWp.skip ?_;simp only [andThen, leaves];refine .seq ?_;refine .block ?_;obtain ⟨g36, hL33⟩ := gd_some hL33;have q37 := idxG (kk := .i64) (hx0.agree A1_.agree) el_24 sz_3 g36;have q38 := loadG (hx0.agree A1_.agree) sz_3 ag_3 g36 0;refine .sr fun K hK => ?_;simp [e1_, q37, q38];apply hK;refine .sr fun K hK => ?_;simp [e1_];apply hK;refine .block ?_;obtain ⟨s39, hL40, hL33⟩ := bd_some hL33;have S41 := S1_.pick [] (by decide) rfl;refine DWp.loop (fun n env G => ∃ y3_7 : Int, F_impl_isSystem_L3 fu x0 y2_37 (gat 0 x0 y2_37) (llen x0) n y3_7 = some s39 ∧ Sep G (Fr H) [] ∧ AgB (Fr H) H G ∧ env 0 = some v0 ∧ env 5 = some (Value.int .i64 y2_37) ∧ env 6 = some (Value.int .i64 (gat 0 x0 y2_37)) ∧ env 7 = some (Value.int .i64 y3_7) ∧ env 35 = some v0 ∧ env 36 = some (Value.int .i64 (llen x0)) ∧ env 37 = some (Value.int .i64 y2_37)) fu ⟨(iadd .i64 y2_37 1), hL40, S41, A1_, by simp [e1_]⟩ ?_;rintro n2 env2 G2_ ⟨y3_7, hL40, S2_, A2_, e2_⟩;cases n2 with
     | zero => cases hL40
     | succ n2 =>
      simp only [F_impl_isSystem_L3] at hL40;refine .seq ?_;refine .sr fun K hK => ?_;simp [e2_];apply hK;refine DWp.cond' (t := (ilt y3_7 (gat 0 x0 y2_37))) (by simp [e2_]) (fun hb42 => ?_) (fun hb42 => ?_)
      ·replace hL40 := cd_t hb42 hL40;refine DWp.skip ?_;simp only [andThen, leaves];refine .seq ?_;refine .block ?_;obtain ⟨g43, hL40⟩ := gd_some hL40;have q44 := idxG (kk := .i64) (hx0.agree A2_.agree) el_24 sz_3 g43;have q45 := loadG (hx0.agree A2_.agree) sz_3 ag_3 g43 0;obtain ⟨r2, hc46, hL40⟩ := bd_some hL40;refine .sr fun K hK => ?_;simp [e2_, q44, q45];refine CallD.t (F_impl_in_w (fu := fu)  hc46) ?_;rintro _ G48 ⟨a51, rfl, S52⟩;have A50 := A2_.ext (hB.le A2_.1) a51.agree;have S49 : Sep G48 (Fr H) [] := S2_.app a51.agree S52 (fun _ h => h) (hB.le A2_.1);simp [e2_, q44, q45, a51.pre];apply hK;refine DWp.cond' (t := (bnot r2)) (by simp [e2_]) (fun hb53 => ?_) (fun hb53 => ?_)
       ·replace hL40 := cd_t hb53 hL40;refine .sr fun K hK => ?_;simp [e2_];apply hK;refine DWp.ret ?_;simp only [andThen, leaves];obtain rfl := Option.some.inj hL40;simp only [lr] at hL33;obtain rfl := Option.some.inj hL33;simp only [lr] at hF;obtain rfl := Option.some.inj hF;exact ⟨by simp, [(Value.bool false)], by simp [e2_], A50, rfl, S49.pick [] (by decide) rfl⟩
       ·replace hL40 := cd_f hb53 hL40;refine DWp.skip ?_;simp only [andThen, leaves];refine .region fun K hK => ?_;simp [e2_];apply hK;simp only [andThen, leaves];have S54 := S49.pick [] (by decide) rfl;exact ⟨n2, Nat.lt_succ_self _, (iadd .i64 y3_7 1), hL40, S54, A50, by simp [e2_]⟩
      ·replace hL40 := cd_f hb42 hL40;refine DWp.exit ?_;simp only [andThen, leaves, if_true, if_false, reduceIte, Nat.reduceEqDiff];obtain rfl := Option.some.inj hL40;simp only [lr] at hL33;refine .region fun K hK => ?_;simp [e2_];apply hK;simp only [andThen, leaves];have S55 := S2_.pick [] (by decide) rfl;exact ⟨n1, Nat.lt_succ_self _, (iadd .i64 y2_37 1), hL33, S55, A2_, by simp [e2_]⟩
    ·replace hL33 := cd_f hb35 hL33;refine DWp.exit ?_;simp only [andThen, leaves, if_true, if_false, reduceIte, Nat.reduceEqDiff];obtain rfl := Option.some.inj hL33;simp only [lr] at hF;refine .sr fun K hK => ?_;simp [e1_];apply hK;refine DWp.ret ?_;obtain rfl := Option.some.inj hF;exact ⟨by simp, [(Value.bool true)], by simp [e1_], A1_, rfl, S1_.pick [] (by decide) rfl⟩
def F_impl_IsSystem (fu : Nat) (x0 : List Int) : Option (Bool) :=
  bif (ile (llen x0) 12) then
    bd (F_impl_isSystem fu x0) fun r1 =>
    some r1
  else
    some false
theorem F_impl_IsSystem_w {fu : Nat} {H : AH} {v0 : Value} {x0 : List Int} {r : (Bool)} (hx0 : Sl H v0 (ints x0)) (hF : F_impl_IsSystem fu x0 = some r) :
    ACallT Tryz.prog 22 [v0] H (fun u G => AgB (Fr H) H G ∧ u = (Value.bool r) ∧ Sep G (Fr H) []) := by
 refine ACallT.of_body (nt := 10) (rs := [.tmp 2]) Tryz.func22 rfl rfl rfl rfl ?_;have A0 : AgB (Fr H) H H := .refl _ _;have S0 : Sep H (Fr H) [] := .nil;have hB := Fr.up H;unfold F_impl_IsSystem at hF;refine .sr fun K hK => ?_;simp [];apply hK;have q1 := lenG (hx0.agree A0.agree) el_24;rcases Bool.eq_false_or_eq_true (ile (llen x0) 12) with hb2 | hb2
 ·replace hF := cd_t hb2 hF;obtain ⟨r1, hc3, hF⟩ := bd_some hF;refine .sr fun K hK => ?_;simp [hb2, q1, ((hx0.agree A0.agree).tup)];refine CallD.t (F_impl_isSystem_w (fu := fu) (hx0.agree A0.agree) hc3) ?_;rintro _ G5 ⟨a8, rfl, S9⟩;have A7 := A0.ext (hB.le A0.1) a8.agree;have S6 : Sep G5 (Fr H) [] := S0.app a8.agree S9 (fun _ h => h) (hB.le A0.1);simp [hb2, q1, a8.pre];apply hK;refine DWp.ret ?_;obtain rfl := Option.some.inj hF;exact ⟨by simp, [(Value.bool r1)], by simp [], A7, rfl, S6.pick [] (by decide) rfl⟩
 ·replace hF := cd_f hb2 hF;refine .sr fun K hK => ?_;simp [hb2, q1];apply hK;refine DWp.ret ?_;obtain rfl := Option.some.inj hF;exact ⟨by simp, [(Value.bool false)], by simp [], A0, rfl, S0.pick [] (by decide) rfl⟩
def F_impl_under_L1 (fu : Nat) (k1_0 : List Int) (k1_1 : Int) : Nat → List Int → Int → Option (List Int × Int)
  | 0, _, _ => none
  | n + 1, l1_0, y1_8 =>
    bif (ilt y1_8 k1_1) then
      gd (l1_0.length + [y1_8].length ≤ 4294967296) (
      gd (inL k1_0 y1_8) (
      F_impl_under_L1 fu k1_0 k1_1 n (lapp l1_0 [y1_8]) (iadd .i64 (gat 0 k1_0 y1_8) 1)))
    else
      some (l1_0, y1_8)
def F_impl_under (fu : Nat) (x0 : List Int) (x1 : Int) (x2 : Int) : Option (List Int) :=
  bd (F_impl_under_L1 fu x0 x2 fu (@List.nil Int) x1) fun s1 =>
  some s1.1
theorem F_impl_under_w {fu : Nat} {H : AH} {v0 : Value} {x0 : List Int} {x1 : Int} {x2 : Int} {r : (List Int)} (hx0 : Sl H v0 (ints x0)) (hF : F_impl_under fu x0 x1 x2 = some r) :
    ACallT Tryz.prog 109 [v0, (Value.int .i64 x1), (Value.int .i64 x2)] H (fun u G => AgB (Fr H) H G ∧ ∃ u0 : Value, u = u0 ∧ Sep G (Fr H) [flat u0 3 (ints r)]) := by
 refine ACallT.of_body (nt := 24) (rs := [.tmp 6]) Tryz.func109 rfl rfl rfl rfl ?_;have A0 : AgB (Fr H) H H := .refl _ _;have S0 : Sep H (Fr H) [] := .nil;have hB := Fr.up H;unfold F_impl_under at hF;refine .sr fun K hK => ?_;simp [];apply hK;obtain ⟨v1, G2, q3, S4, a6, _, _⟩ := S0.lit0 (t := 24) (hB.le A0.1) el_24 ei_3 rfl;have A5 := A0.ext (hB.le A0.1) a6;replace S4 : Sep G2 (Fr H) [flat1 v1 3 (ints (@List.nil Int))] := S4;refine .sr fun K hK => ?_;simp [q3, a6.to_pre];apply hK;refine .seq ?_;refine .sr fun K hK => ?_;simp [];apply hK;refine .block ?_;obtain ⟨s8, hL9, hF⟩ := bd_some hF;have S10 := S4.pick [0] (by decide) rfl;have S11 := S10.weak (k := 0) rfl;refine DWp.loop (fun n env G => ∃ l1_0 : List Int, ∃ y1_8 : Int, ∃ w1_0 : Value, F_impl_under_L1 fu x0 x2 n l1_0 y1_8 = some s8 ∧ Sep G (Fr H) [flat w1_0 3 (ints l1_0)] ∧ AgB (Fr H) H G ∧ env 0 = some v0 ∧ env 2 = some (Value.int .i64 x2) ∧ env 7 = some w1_0 ∧ env 8 = some (Value.int .i64 y1_8)) fu ⟨(@List.nil Int), x1, v1, hL9, S11, A5, by simp []⟩ ?_;rintro n1 env1 G1_ ⟨l1_0, y1_8, w1_0, hL9, S1_, A1_, e1_⟩;cases n1 with
 | zero => cases hL9
 | succ n1 =>
  simp only [F_impl_under_L1] at hL9;refine .seq ?_;refine .sr fun K hK => ?_;simp [e1_];apply hK;refine DWp.cond' (t := (ilt y1_8 x2)) (by simp [e1_]) (fun hb12 => ?_) (fun hb12 => ?_)
  ·replace hL9 := cd_t hb12 hL9;refine DWp.skip ?_;simp only [andThen, leaves];refine .seq ?_;refine .block ?_;obtain ⟨v13, G14, q15, S16, a18, _, _⟩ := S1_.lit1 (t := 24) (hB.le A1_.1) el_24 ei_3 rfl (Value.int .i64 y1_8) rfl rfl;have A17 := A1_.ext (hB.le A1_.1) a18;replace S16 : Sep G14 (Fr H) [flat w1_0 3 (ints l1_0), flat1 v13 3 (ints [y1_8])] := S16;obtain ⟨g20, hL9⟩ := gd_some hL9;obtain ⟨v26, G21, q22, S23, a25, _, _⟩ := S16.appendG (f := (Value.int .i64)) (xs := l1_0) (ys := [y1_8]) (t := 24) (t2 := 24) (k := 0) rfl (hB.le A17.1) el_24 el_24 ei_3 rfl (S16.sl1 (k := 1) rfl) g20;have A24 := A17.trans a25;replace S23 : Sep G21 (Fr H) [flat v26 3 (ints (lapp l1_0 [y1_8])), flat1 v13 3 (ints [y1_8])] := S23;refine .region fun K hK => ?_;simp [e1_, q15, a18.to_pre, q22];apply hK;simp only [andThen, leaves];obtain ⟨g27, hL9⟩ := gd_some hL9;have q28 := idxG (kk := .i64) (hx0.agree A24.agree) el_24 sz_3 g27;have q29 := loadG (hx0.agree A24.agree) sz_3 ag_3 g27 0;refine .region fun K hK => ?_;simp [e1_, q28, q29];apply hK;simp only [andThen, leaves];have S30 := S23.pick [0] (by decide) rfl;exact ⟨n1, Nat.lt_succ_self _, (lapp l1_0 [y1_8]), (iadd .i64 (gat 0 x0 y1_8) 1), v26, hL9, S30, A24, by simp [e1_]⟩
  ·replace hL9 := cd_f hb12 hL9;refine DWp.exit ?_;simp only [andThen, leaves, if_true, if_false, reduceIte, Nat.reduceEqDiff];obtain rfl := Option.some.inj hL9;try dsimp only at hF
   refine .sr fun K hK => ?_;simp [e1_];apply hK;refine DWp.ret ?_;obtain rfl := Option.some.inj hF;exact ⟨by simp, [w1_0], by simp [e1_, ((S1_.sl (k := 0) rfl).tup)], A1_, w1_0, rfl, S1_.pick [0] (by decide) rfl⟩
def F_impl_faces_L1 (fu : Nat) (k1_0 : List Int) (k1_1 : Int) : Nat → List (List Int) → Int → Option (List (List Int) × Int)
  | 0, _, _ => none
  | n + 1, l1_0, y1_13 =>
    bif (ilt y1_13 k1_1) then
      gd (inL k1_0 y1_13) (
      bif (ilt y1_13 (gat 0 k1_0 y1_13)) then
        bd (F_impl_under fu k1_0 (iadd .i64 y1_13 1) (gat 0 k1_0 y1_13)) fun r2 =>
        gd ([y1_13].length + r2.length ≤ 4294967296) (
        gd (l1_0.length + 1 ≤ 4294967296) (
        F_impl_faces_L1 fu k1_0 k1_1 n (lapp l1_0 [(lapp [y1_13] r2)]) (iadd .i64 y1_13 1)))
      else
        F_impl_faces_L1 fu k1_0 k1_1 n l1_0 (iadd .i64 y1_13 1))
    else
      some (l1_0, y1_13)
def F_impl_faces (fu : Nat) (x0 : List Int) : Option (List (List Int)) :=
  bd (F_impl_under fu x0 0 (llen x0)) fun r1 =>
  bd (F_impl_faces_L1 fu x0 (llen x0) fu [r1] 0) fun s1 =>
  some s1.1
theorem F_impl_faces_w {fu : Nat} {H : AH} {v0 : Value} {x0 : List Int} {r : (List (List Int))} (hx0 : Sl H v0 (ints x0)) (hF : F_impl_faces fu x0 = some r) :
    ACallT Tryz.prog 63 [v0] H (fun u G => AgB (Fr H) H G ∧ ∃ u0 : Value, ∃ C0 : List Value, u = u0 ∧ Sep G (Fr H) [rowsC u0 24 3 C0 (List.map ints r)]) := by
 refine ACallT.of_body (nt := 34) (rs := [.tmp 2]) Tryz.func63 rfl rfl rfl rfl ?_;have A0 : AgB (Fr H) H H := .refl _ _;have S0 : Sep H (Fr H) [] := .nil;have hB := Fr.up H;unfold F_impl_faces at hF;refine .sr fun K hK => ?_;simp [];apply hK;have q1 := lenG (hx0.agree A0.agree) el_24;obtain ⟨r1, hc2, hF⟩ := bd_some hF;refine .sr fun K hK => ?_;simp [q1, ((hx0.agree A0.agree).tup)];refine CallD.t (F_impl_under_w (fu := fu) (hx0.agree A0.agree) hc2) ?_;rintro c3_u0 G4 ⟨a7, _, rfl, S8⟩;have A6 := A0.ext (hB.le A0.1) a7.agree;have S5 : Sep G4 (Fr H) [flat c3_u0 3 (ints r1)] := S0.app a7.agree S8 (fun _ h => h) (hB.le A0.1);obtain ⟨v9, G10, q11, S12, a14, _, _⟩ := S5.lit1 (t := 31) (hB.le A6.1) el_31 ei_24 rfl c3_u0 ((S5.sl (k := 0) rfl).tup) ((S5.sl (k := 0) rfl).one);have A13 := A6.ext (hB.le A6.1) a14;replace S12 : Sep G10 (Fr H) [flat c3_u0 3 (ints r1), flat1 v9 24 [c3_u0]] := S12;simp [q1, a7.pre, q11, a14.to_pre, ((S5.sl (k := 0) rfl).tup)];apply hK;refine .seq ?_;have q15 := lenG (hx0.agree A13.agree) el_24;refine .sr fun K hK => ?_;simp [q15];apply hK;refine .block ?_;have S16 : Sep G10 (Fr H) [emp, rowsC v9 24 3 [c3_u0] (List.map ints [r1])] := S12.rowsOf1 (j := 1) (k := 0) (by decide) rfl rfl;obtain ⟨s17, hL18, hF⟩ := bd_some hF;have S19 := S16.pick [1] (by decide) rfl
 refine DWp.loop (fun n env G => ∃ l1_0 : List (List Int), ∃ y1_13 : Int, ∃ w1_0 : Value, ∃ D1_0 : List Value, F_impl_faces_L1 fu x0 (llen x0) n l1_0 y1_13 = some s17 ∧ Sep G (Fr H) [rowsC w1_0 24 3 D1_0 (List.map ints l1_0)] ∧ AgB (Fr H) H G ∧ env 0 = some v0 ∧ env 3 = some w1_0 ∧ env 11 = some v0 ∧ env 12 = some (Value.int .i64 (llen x0)) ∧ env 13 = some (Value.int .i64 y1_13)) fu ⟨[r1], 0, v9, [c3_u0], hL18, S19, A13, by simp []⟩ ?_;rintro n1 env1 G1_ ⟨l1_0, y1_13, w1_0, D1_0, hL18, S1_, A1_, e1_⟩;cases n1 with
 | zero => cases hL18
 | succ n1 =>
  simp only [F_impl_faces_L1] at hL18;refine .sr fun K hK => ?_;simp [e1_];apply hK;refine .seq ?_;refine DWp.cond' (t := (ilt y1_13 (llen x0))) (by simp [e1_]) (fun hb20 => ?_) (fun hb20 => ?_)
  ·replace hL18 := cd_t hb20 hL18;refine DWp.skip ?_;simp only [andThen, leaves];refine .seq ?_;refine .block ?_;obtain ⟨g21, hL18⟩ := gd_some hL18;have q22 := idxG (kk := .i64) (hx0.agree A1_.agree) el_24 sz_3 g21;have q23 := loadG (hx0.agree A1_.agree) sz_3 ag_3 g21 0;refine .sr fun K hK => ?_;simp [e1_, q22, q23];apply hK;refine .sr fun K hK => ?_;simp [e1_];apply hK;refine DWp.cond' (t := (ilt y1_13 (gat 0 x0 y1_13))) (by simp [e1_]) (fun hb24 => ?_) (fun hb24 => ?_)
   ·replace hL18 := cd_t hb24 hL18;obtain ⟨v25, G26, q27, S28, a30, _, _⟩ := S1_.lit1 (t := 24) (hB.le A1_.1) el_24 ei_3 rfl (Value.int .i64 y1_13) rfl rfl;have A29 := A1_.ext (hB.le A1_.1) a30;replace S28 : Sep G26 (Fr H) [rowsC w1_0 24 3 D1_0 (List.map ints l1_0), flat1 v25 3 (ints [y1_13])] := S28;obtain ⟨r2, hc32, hL18⟩ := bd_some hL18;refine .region fun K hK => ?_;simp [e1_, q27, a30.to_pre, ((hx0.agree A29.agree).tup)];refine CallD.t (F_impl_under_w (fu := fu) (hx0.agree A29.agree) hc32) ?_;rintro c33_u0 G34 ⟨a37, _, rfl, S38⟩;have A36 := A29.ext (hB.le A29.1) a37.agree;have S35 : Sep G34 (Fr H) [rowsC w1_0 24 3 D1_0 (List.map ints l1_0), flat1 v25 3 (ints [y1_13]), flat c33_u0 3 (ints r2)] := S28.app a37.agree S38 (fun _ h => h) (hB.le A29.1);obtain ⟨g39, hL18⟩ := gd_some hL18;obtain ⟨v45, G40, q41, S42, a44, _, _⟩ := S35.append1 (f := (Value.int .i64)) (xs := [y1_13]) (ys := r2) (t := 24) (t2 := 24) (k := 1) rfl (hB.le A36.1) el_24 el_24 ei_3 rfl (S35.sl (k := 2) rfl) g39;have A43 := A36.trans a44;replace S42 : Sep G40 (Fr H) [rowsC w1_0 24 3 D1_0 (List.map ints l1_0), flat v45 3 (ints (lapp [y1_13] r2)), flat c33_u0 3 (ints r2)] := S42;obtain ⟨v46, G47, q48, S49, a51, _, _⟩ := S42.lit1 (t := 31) (hB.le A43.1) el_31 ei_24 rfl v45 ((S42.sl (k := 1) rfl).tup) ((S42.sl (k := 1) rfl).one);have A50 := A43.ext (hB.le A43.1) a51;replace S49 : Sep G47 (Fr H) [rowsC w1_0 24 3 D1_0 (List.map ints l1_0), flat v45 3 (ints (lapp [y1_13] r2)), flat c33_u0 3 (ints r2), flat1 v46 24 [v45]] := S49;obtain ⟨g52, hL18⟩ := gd_some hL18
    obtain ⟨v58, G53, q54, S55, a57, q54t, _⟩ := S49.pushRow (u := w1_0) (fr := ints) (X := l1_0) (y := (lapp [y1_13] r2)) (t := 31) (t2 := 31) (j := 0) (k := 1) (by decide) rfl rfl (hB.le A50.1) el_31 el_31 ei_24 rfl (S49.sl1 (k := 3) rfl) g52;have A56 := A50.trans a57;replace S55 : Sep G53 (Fr H) [rowsC v58 24 3 (D1_0 ++ [v45]) (List.map ints (lapp l1_0 [(lapp [y1_13] r2)])), emp, flat c33_u0 3 (ints r2), flat1 v46 24 [v45]] := S55;have q59 := S55.lastV (fr := ints) (k := 0) rfl;try simp only [List.cons_append, List.nil_append] at q59
    simp [e1_, q59, q27, a30.to_pre, a37.pre, q41, q48, a51.to_pre, ((S42.sl (k := 1) rfl).tup), q54, q54t];apply hK;simp only [andThen, leaves];refine .region fun K hK => ?_;simp [e1_, q59];apply hK;simp only [andThen, leaves];have S60 := S55.pick [0] (by decide) rfl;exact ⟨n1, Nat.lt_succ_self _, (lapp l1_0 [(lapp [y1_13] r2)]), (iadd .i64 y1_13 1), v58, (D1_0 ++ [v45]), hL18, S60, A56, by simp [e1_, q59]⟩
   ·replace hL18 := cd_f hb24 hL18;refine DWp.skip ?_;simp only [andThen, leaves];refine .region fun K hK => ?_;simp [e1_];apply hK;simp only [andThen, leaves];have S61 := S1_.pick [0] (by decide) rfl;exact ⟨n1, Nat.lt_succ_self _, l1_0, (iadd .i64 y1_13 1), w1_0, D1_0, hL18, S61, A1_, by simp [e1_]⟩
  ·replace hL18 := cd_f hb20 hL18;refine DWp.exit ?_;simp only [andThen, leaves, if_true, if_false, reduceIte, Nat.reduceEqDiff];obtain rfl := Option.some.inj hL18;try dsimp only at hF
   refine .sr fun K hK => ?_;simp [e1_];apply hK;refine DWp.ret ?_;obtain rfl := Option.some.inj hF;exact ⟨by simp, [w1_0], by simp [e1_, ((S1_.rd (k := 0) rfl).tup)], A1_, w1_0, D1_0, rfl, S1_.pick [0] (by decide) rfl⟩
end Go.Proofs.YtogghgecmjnieaaGreat.AL

/- The walks of functions, each with its Lean function: laws.FnExchangesChangeByOne. No condition. -/
import Derived.Test.YtogghgecmjnieaaGreatG1
import Derived.Test.YtogghgecmjnieaaGreatG10
import Derived.Test.YtogghgecmjnieaaGreatG2
import Derived.Test.YtogghgecmjnieaaGreatG3
import Derived.Test.YtogghgecmjnieaaGreatG4
import Derived.Test.YtogghgecmjnieaaGreatG5
import Derived.Test.YtogghgecmjnieaaGreatG6
import Derived.Test.YtogghgecmjnieaaGreatG7
import Derived.Test.YtogghgecmjnieaaGreatG8
import Derived.Test.YtogghgecmjnieaaGreatG9
import Derived.Test.YtogghgecmjnieaaGreatALD
import Derived.Test.YtogghgecmjnieaaGreatProg
import Derived.KernelRfl
namespace Go.Proofs.YtogghgecmjnieaaGreat.AL
open Go Go.RowKit
set_option linter.unusedVariables false
set_option linter.unusedSimpArgs false
set_option maxRecDepth 4096
attribute [local simp] n_fn b_add b_sub b_mul b_lt b_le b_gt b_ge b_eq b_ne u_not
theorem un_4 : Tryz.prog.underlying 4 = some .bool := by kernel_rfl
def F_laws_FnExchangesChangeByOne_L3 (fu : Nat) (k3_0 : List Int) (k3_1 : List Int) (k3_2 : List Int) (k3_3 : List (List Int)) : Nat → Int → Option (LR (Bool) (Int))
  | 0, _ => none
  | n + 1, y3_39 =>
    bif (ilt y3_39 6) then
      gd ((llen k3_3) ≠ 0) (
      gd (inL k3_3 (irem (iadd .i64 (imul .i64 y3_39 11) (llen k3_0)) (llen k3_3))) (
      bd (F_laws_sCount fu k3_2 (gat [] k3_3 (irem (iadd .i64 (imul .i64 y3_39 11) (llen k3_0)) (llen k3_3)))) fun r22 =>
      bd (F_laws_sCount fu k3_1 (gat [] k3_3 (irem (iadd .i64 (imul .i64 y3_39 11) (llen k3_0)) (llen k3_3)))) fun r23 =>
      bd (
        bif (ine (isub .i64 r22 r23) 1) then
          some (ine (isub .i64 r22 r23) (-1))
        else
          some false) fun s273 =>
      bif s273 then
        some (.ret false)
      else
        F_laws_FnExchangesChangeByOne_L3 fu k3_0 k3_1 k3_2 k3_3 n (iadd .i64 y3_39 1)))
    else
      some (.brk y3_39)
def F_laws_FnExchangesChangeByOne_L2 (fu : Nat) (k2_0 : List Int) (k2_1 : List Int) (k2_2 : List Int) (k2_3 : Bool) (k2_4 : List Int) (k2_5 : List (List Int)) (k2_6 : Int) : Nat → Int → Option (LR (Bool) (Int))
  | 0, _ => none
  | n + 1, y2_178 =>
    bif (ilt y2_178 k2_6) then
      gd (inL k2_5 y2_178) (
      bd (F_impl_ExchangeDistance fu k2_4 (gat [] k2_5 y2_178)) fun r14 =>
      bd (
        bif (bnot r14.2) then
          some true
        else
          bif (ine r14.1 1) then
            some true
          else
            bif (ilt 0 y2_178) then
              gd (inL k2_5 (isub .i64 y2_178 1)) (
              bd (F_laws_sLess fu (gat [] k2_5 (isub .i64 y2_178 1)) (gat [] k2_5 y2_178)) fun r15 =>
              some (bnot r15))
            else
              some false) fun s163 =>
      bif s163 then
        some (.ret false)
      else
        F_laws_FnExchangesChangeByOne_L2 fu k2_0 k2_1 k2_2 k2_3 k2_4 k2_5 k2_6 n (iadd .i64 y2_178 1))
    else
      some (.brk y2_178)
def F_laws_FnExchangesChangeByOne_L1 (fu : Nat) (k1_0 : List Int) (k1_1 : List Int) (k1_2 : List Int) (k1_3 : Bool) (k1_4 : List Int) (k1_5 : List (List Int)) (k1_6 : Int) (k1_7 : List (List Int)) (k1_8 : Int) : Nat → Int → Int → Int → Option (Int × Int × Int)
  | 0, _, _, _ => none
  | n + 1, y1_23, y1_24, y1_134 =>
    bif (ilt y1_134 k1_8) then
      gd (inL k1_7 y1_134) (
      F_laws_FnExchangesChangeByOne_L1 fu k1_0 k1_1 k1_2 k1_3 k1_4 k1_5 k1_6 k1_7 k1_8 n (iadd .i64 y1_23 (iquo .i64 (imul .i64 (llen (gat [] k1_7 y1_134)) (isub .i64 (llen (gat [] k1_7 y1_134)) 1)) 2)) (iadd .i64 y1_24 (llen (gat [] k1_7 y1_134))) (iadd .i64 y1_134 1))
    else
      some (y1_23, y1_24, y1_134)
def F_laws_FnExchangesChangeByOne_L4 (fu : Nat) (k4_0 : List Int) (k4_1 : List Int) (k4_2 : List Int) (k4_3 : List (List Int)) : Nat → Int → Option (LR (Bool) (Int))
  | 0, _ => none
  | n + 1, y4_39 =>
    bif (ilt y4_39 6) then
      gd ((llen k4_3) ≠ 0) (
      gd (inL k4_3 (irem (iadd .i64 (imul .i64 y4_39 11) (llen k4_0)) (llen k4_3))) (
      bd (F_laws_sCount fu k4_2 (gat [] k4_3 (irem (iadd .i64 (imul .i64 y4_39 11) (llen k4_0)) (llen k4_3)))) fun r30 =>
      bd (F_laws_sCount fu k4_1 (gat [] k4_3 (irem (iadd .i64 (imul .i64 y4_39 11) (llen k4_0)) (llen k4_3)))) fun r31 =>
      bd (
        bif (ine (isub .i64 r30 r31) 1) then
          some (ine (isub .i64 r30 r31) (-1))
        else
          some false) fun s369 =>
      bif s369 then
        some (.ret false)
      else
        F_laws_FnExchangesChangeByOne_L4 fu k4_0 k4_1 k4_2 k4_3 n (iadd .i64 y4_39 1)))
    else
      some (.brk y4_39)
def F_laws_FnExchangesChangeByOne (fu : Nat) (x0 : List Int) (x1 : List Int) : Option (Bool) :=
  bd (F_laws_big fu x0 x1) fun r1 =>
  bif r1 then
    some true
  else
    bd (F_spec_DrawExchangeAt fu x0) fun r2 =>
    bd (F_impl_ExchangeAt fu r2.1 r2.2.1 r2.2.2) fun r3 =>
    bd (F_spec_ExchangeAt fu r2.1 r2.2.1 r2.2.2) fun r4 =>
    bd (
      bif (bne' r3.2 r4.2) then
        some true
      else
        bd (F_laws_sSame fu r3.1 r4.1) fun r5 =>
        some (bnot r5)) fun s30 =>
    bif s30 then
      some false
    else
      bd (F_spec_DrawExchangesOf fu x1) fun r6 =>
      bd (F_impl_ExchangesOf fu r6) fun r7 =>
      bd (F_spec_ExchangesOf fu r6) fun r8 =>
      bd (F_impl_CountExchanges fu r6) fun r9 =>
      bd (F_impl_FacesOf fu r6) fun r10 =>
      bd (F_spec_FacesOf fu r6) fun r11 =>
      bd (
        bif (bne' r7.2 r8.2) then
          some true
        else
          bd (F_laws_sSameRows fu r7.1 r8.1) fun r12 =>
          bif (bnot r12) then
            some true
          else
            bif (bne' r9.2 r7.2) then
              some true
            else
              bif (bne' r10.2 r11.2) then
                some true
              else
                bd (F_laws_sSameRows fu r10.1 r11.1) fun r13 =>
                bif (bnot r13) then
                  some true
                else
                  some (bne' r10.2 r7.2)) fun s87 =>
      bif s87 then
        some false
      else
        bif r7.2 then
          bd (F_laws_FnExchangesChangeByOne_L1 fu x1 r2.1 r3.1 r4.2 r6 r7.1 r9.1 r10.1 (llen r10.1) fu 0 0 0) fun s1 =>
          bd (
            bif (ine s1.1 r9.1) then
              some true
            else
              bif (ine (llen r7.1) r9.1) then
                some true
              else
                bif (ine s1.2.1 (llen r6)) then
                  some true
                else
                  some (ine (llen r10.1) (iadd .i64 (iquo .i64 (llen r6) 2) 1))) fun s131 =>
          bif s131 then
            some false
          else
            bd (F_laws_FnExchangesChangeByOne_L2 fu x1 r2.1 r3.1 r4.2 r6 r7.1 (llen r7.1) fu 0) fun s2 =>
            lr s2 fun s2 =>
            bif (bnot r4.2) then
              some true
            else
              bd (F_impl_AllSystems fu (iquo .i64 (llen r2.1) 2)) fun r16 =>
              bd (F_impl_ExchangesOf fu r3.1) fun r17 =>
              bd (F_impl_SignOf fu r2.1) fun r18 =>
              bd (F_impl_SignOf fu r3.1) fun r19 =>
              bd (
                bif (bnot r16.2) then
                  some true
                else
                  bif (bnot r17.2) then
                    some true
                  else
                    bif (bnot r18.2) then
                      some true
                    else
                      bif (bnot r19.2) then
                        some true
                      else
                        bd (F_impl_IsSystem fu r3.1) fun r20 =>
                        bif (bnot r20) then
                          some true
                        else
                          bd (F_laws_sHas fu r17.1 r2.1) fun r21 =>
                          bif (bnot r21) then
                            some true
                          else
                            some (ine r18.1 (isub .i64 0 r19.1))) fun s217 =>
              bif s217 then
                some false
              else
                bd (F_laws_FnExchangesChangeByOne_L3 fu x1 r2.1 r3.1 r16.1 fu 0) fun s3 =>
                lr s3 fun s3 =>
                some true
        else
          bif (bnot r4.2) then
            some true
          else
            bd (F_impl_AllSystems fu (iquo .i64 (llen r2.1) 2)) fun r24 =>
            bd (F_impl_ExchangesOf fu r3.1) fun r25 =>
            bd (F_impl_SignOf fu r2.1) fun r26 =>
            bd (F_impl_SignOf fu r3.1) fun r27 =>
            bd (
              bif (bnot r24.2) then
                some true
              else
                bif (bnot r25.2) then
                  some true
                else
                  bif (bnot r26.2) then
                    some true
                  else
                    bif (bnot r27.2) then
                      some true
                    else
                      bd (F_impl_IsSystem fu r3.1) fun r28 =>
                      bif (bnot r28) then
                        some true
                      else
                        bd (F_laws_sHas fu r25.1 r2.1) fun r29 =>
                        bif (bnot r29) then
                          some true
                        else
                          some (ine r26.1 (isub .i64 0 r27.1))) fun s313 =>
            bif s313 then
              some false
            else
              bd (F_laws_FnExchangesChangeByOne_L4 fu x1 r2.1 r3.1 r24.1 fu 0) fun s4 =>
              lr s4 fun s4 =>
              some true
set_option maxHeartbeats 4000000 in
theorem F_laws_FnExchangesChangeByOne_w {fu : Nat} {H : AH} {v0 : Value} {v1 : Value} {x0 : List Int} {x1 : List Int} {r : (Bool)} (hx0 : Sl H v0 (u8s x0)) (hx1 : Sl H v1 (u8s x1)) (hF : F_laws_FnExchangesChangeByOne fu x0 x1 = some r) :
    ACallT Tryz.prog 3 [v0, v1] H (fun u G => AgB (Fr H) H G ∧ u = (Value.bool r) ∧ Sep G (Fr H) []) := by
 refine ACallT.of_body (nt := 293) (rs := [.tmp 4]) Tryz.func3 rfl rfl rfl rfl ?_;have A0 : AgB (Fr H) H H := .refl _ _;have S0 : Sep H (Fr H) [] := .nil;have hB := Fr.up H;unfold F_laws_FnExchangesChangeByOne at hF;refine .sr fun K hK => ?_;simp [];apply hK;clear hK K;refine .seq ?_;obtain ⟨r1, hc1, hF⟩ := bd_some hF;refine .sr fun K hK => ?_;simp [((hx0.agree A0.agree).tup), ((hx1.agree A0.agree).tup)];refine CallD.t (F_laws_big_w (fu := fu) (hx0.agree A0.agree) (hx1.agree A0.agree) hc1) ?_;rintro _ G3 ⟨a6, rfl, S7⟩;have A5 := A0.ext (hB.le A0.1) a6.agree;have S4 : Sep G3 (Fr H) [] := S0.app a6.agree S7 (fun _ h => h) (hB.le A0.1);simp [a6.pre];apply hK;clear hK K;refine DWp.cond' (t := r1) (by simp []) (fun hb8 => ?_) (fun hb8 => ?_)
 ·replace hF := cd_t hb8 hF;refine .sr fun K hK => ?_;simp [];apply hK;clear hK K;refine DWp.ret ?_;simp only [andThen, leaves];obtain rfl := Option.some.inj hF;exact ⟨by simp, [(Value.bool true)], by simp [], A5, rfl, S4.pick [] (by decide) rfl⟩
 ·replace hF := cd_f hb8 hF;refine DWp.skip ?_;simp only [andThen, leaves];obtain ⟨r2, hc9, hF⟩ := bd_some hF;refine .sr fun K hK => ?_;simp [((hx0.agree A5.agree).tup)];refine CallD.t (F_spec_DrawExchangeAt_w (fu := fu) (hx0.agree A5.agree) hc9) ?_;rintro _ G11 ⟨a14, c10_u0, rfl, S15⟩;have A13 := A5.ext (hB.le A5.1) a14.agree;have S12 : Sep G11 (Fr H) [flat c10_u0 3 (ints r2.1)] := S4.app a14.agree S15 (fun _ h => h) (hB.le A5.1);simp [a14.pre];apply hK;clear hK K;obtain ⟨r3, hc16, hF⟩ := bd_some hF;refine .sr fun K hK => ?_;simp [((S12.sl (k := 0) rfl).tup)];refine CallD.t (F_impl_ExchangeAt_w (fu := fu) (S12.sl (k := 0) rfl) hc16) ?_;rintro _ G18 ⟨a21, c17_u0, rfl, S22⟩;have A20 := A13.ext (hB.le A13.1) a21.agree;have S19 : Sep G18 (Fr H) [flat c10_u0 3 (ints r2.1), flat c17_u0 3 (ints r3.1)] := S12.app a21.agree S22 (fun _ h => h) (hB.le A13.1);simp [a21.pre];apply hK;clear hK K;obtain ⟨r4, hc23, hF⟩ := bd_some hF;refine .sr fun K hK => ?_;simp [((S19.sl (k := 0) rfl).tup)];refine CallD.t (F_spec_ExchangeAt_w (fu := fu) (S19.sl (k := 0) rfl) hc23) ?_;rintro _ G25 ⟨a28, c24_u0, rfl, S29⟩;have A27 := A20.ext (hB.le A20.1) a28.agree;have S26 : Sep G25 (Fr H) [flat c10_u0 3 (ints r2.1), flat c17_u0 3 (ints r3.1), flat c24_u0 3 (ints r4.1)] := S19.app a28.agree S29 (fun _ h => h) (hB.le A20.1);simp [a28.pre];apply hK;clear hK K;refine .seq ?_;obtain ⟨s30, hL31, hF⟩ := bd_some hF;refine DWp.seq (DWp.join (fun env G => Sep G (Fr H) [flat c10_u0 3 (ints r2.1), flat c17_u0 3 (ints r3.1)] ∧ AgB (Fr H) H G ∧ env 1 = some v1 ∧ env 5 = some c10_u0 ∧ env 8 = some c17_u0 ∧ env 11 = some (Value.bool r4.2) ∧ env 73 = some (Value.bool s30)) ?_ ?_)
  ·
   rcases Bool.eq_false_or_eq_true (bne' r3.2 r4.2) with hb33 | hb33
   ·replace hL31 := cd_t hb33 hL31;refine .region fun K hK => ?_;simp [hb33, b_bne un_4];apply hK;clear hK K;simp only [andThen, leaves];have S34 := S26.pick [0, 1] (by decide) rfl;obtain rfl := Option.some.inj hL31;exact ⟨S34, A27, by simp []⟩
   ·replace hL31 := cd_f hb33 hL31;obtain ⟨r5, hc35, hL31⟩ := bd_some hL31;refine .region fun K hK => ?_;simp [hb33, b_bne un_4, ((S26.sl (k := 1) rfl).tup), ((S26.sl (k := 2) rfl).tup)];refine CallD.t (F_laws_sSame_w (fu := fu) (S26.sl (k := 1) rfl) (S26.sl (k := 2) rfl) hc35) ?_;rintro _ G37 ⟨a40, rfl, S41⟩;have A39 := A27.ext (hB.le A27.1) a40.agree;have S38 : Sep G37 (Fr H) [flat c10_u0 3 (ints r2.1), flat c17_u0 3 (ints r3.1), flat c24_u0 3 (ints r4.1)] := S26.app a40.agree S41 (fun _ h => h) (hB.le A27.1);simp [hb33, b_bne un_4, a40.pre];apply hK;clear hK K;simp only [andThen, leaves];have S42 := S38.pick [0, 1] (by decide) rfl;obtain rfl := Option.some.inj hL31;exact ⟨S42, A39, by simp []⟩
  ·rintro env Gj43 ⟨Sj43, Aj43, ej43_1, ej43_5, ej43_8, ej43_11, ej43_73⟩;refine DWp.cond' (t := s30) (by simp [ej43_1, ej43_5, ej43_8, ej43_11, ej43_73]) (fun hb44 => ?_) (fun hb44 => ?_)
   ·replace hF := cd_t hb44 hF;refine .sr fun K hK => ?_;simp [ej43_1, ej43_5, ej43_8, ej43_11, ej43_73];apply hK;clear hK K;refine DWp.ret ?_;simp only [andThen, leaves];obtain rfl := Option.some.inj hF;exact ⟨by simp, [(Value.bool false)], by simp [ej43_1, ej43_5, ej43_8, ej43_11, ej43_73], Aj43, rfl, Sj43.pick [] (by decide) rfl⟩
   ·replace hF := cd_f hb44 hF;refine DWp.skip ?_;simp only [andThen, leaves];obtain ⟨r6, hc45, hF⟩ := bd_some hF;refine .sr fun K hK => ?_;simp [ej43_1, ej43_5, ej43_8, ej43_11, ej43_73, ((hx1.agree Aj43.agree).tup)];refine CallD.t (F_spec_DrawExchangesOf_w (fu := fu) (hx1.agree Aj43.agree) hc45) ?_;rintro c46_u0 G47 ⟨a50, _, rfl, S51⟩;have A49 := Aj43.ext (hB.le Aj43.1) a50.agree;have S48 : Sep G47 (Fr H) [flat c10_u0 3 (ints r2.1), flat c17_u0 3 (ints r3.1), flat c46_u0 3 (ints r6)] := Sj43.app a50.agree S51 (fun _ h => h) (hB.le Aj43.1);simp [ej43_1, ej43_5, ej43_8, ej43_11, ej43_73, a50.pre];apply hK;clear hK K;obtain ⟨r7, hc52, hF⟩ := bd_some hF;refine .sr fun K hK => ?_;simp [ej43_1, ej43_5, ej43_8, ej43_11, ej43_73, ((S48.sl (k := 2) rfl).tup)];refine CallD.t (F_impl_ExchangesOf_w (fu := fu) (S48.sl (k := 2) rfl) hc52) ?_;rintro _ G54 ⟨a57, c53_u0, c53_C0, rfl, S58⟩;have A56 := A49.ext (hB.le A49.1) a57.agree;have S55 : Sep G54 (Fr H) [flat c10_u0 3 (ints r2.1), flat c17_u0 3 (ints r3.1), flat c46_u0 3 (ints r6), rowsC c53_u0 24 3 c53_C0 (List.map ints r7.1)] := S48.app a57.agree S58 (fun _ h => h) (hB.le A49.1);simp [ej43_1, ej43_5, ej43_8, ej43_11, ej43_73, a57.pre];apply hK;clear hK K;obtain ⟨r8, hc59, hF⟩ := bd_some hF;refine .sr fun K hK => ?_;simp [ej43_1, ej43_5, ej43_8, ej43_11, ej43_73, ((S55.sl (k := 2) rfl).tup)];refine CallD.t (F_spec_ExchangesOf_w (fu := fu) (S55.sl (k := 2) rfl) hc59) ?_;rintro _ G61 ⟨a64, c60_u0, c60_C0, rfl, S65⟩;have A63 := A56.ext (hB.le A56.1) a64.agree;have S62 : Sep G61 (Fr H) [flat c10_u0 3 (ints r2.1), flat c17_u0 3 (ints r3.1), flat c46_u0 3 (ints r6), rowsC c53_u0 24 3 c53_C0 (List.map ints r7.1), rowsC c60_u0 24 3 c60_C0 (List.map ints r8.1)] := S55.app a64.agree S65 (fun _ h => h) (hB.le A56.1)
    simp [ej43_1, ej43_5, ej43_8, ej43_11, ej43_73, a64.pre];apply hK;clear hK K;obtain ⟨r9, hc66, hF⟩ := bd_some hF;refine .sr fun K hK => ?_;simp [ej43_1, ej43_5, ej43_8, ej43_11, ej43_73, ((S62.sl (k := 2) rfl).tup)];refine CallD.t (F_impl_CountExchanges_w (fu := fu) (S62.sl (k := 2) rfl) hc66) ?_;rintro _ G68 ⟨a71, rfl, S72⟩;have A70 := A63.ext (hB.le A63.1) a71.agree;have S69 : Sep G68 (Fr H) [flat c10_u0 3 (ints r2.1), flat c17_u0 3 (ints r3.1), flat c46_u0 3 (ints r6), rowsC c53_u0 24 3 c53_C0 (List.map ints r7.1), rowsC c60_u0 24 3 c60_C0 (List.map ints r8.1)] := S62.app a71.agree S72 (fun _ h => h) (hB.le A63.1);simp [ej43_1, ej43_5, ej43_8, ej43_11, ej43_73, a71.pre];apply hK;clear hK K;obtain ⟨r10, hc73, hF⟩ := bd_some hF;refine .sr fun K hK => ?_;simp [ej43_1, ej43_5, ej43_8, ej43_11, ej43_73, ((S69.sl (k := 2) rfl).tup)];refine CallD.t (F_impl_FacesOf_w (fu := fu) (S69.sl (k := 2) rfl) hc73) ?_;rintro _ G75 ⟨a78, c74_u0, c74_C0, rfl, S79⟩;have A77 := A70.ext (hB.le A70.1) a78.agree;have S76 : Sep G75 (Fr H) [flat c10_u0 3 (ints r2.1), flat c17_u0 3 (ints r3.1), flat c46_u0 3 (ints r6), rowsC c53_u0 24 3 c53_C0 (List.map ints r7.1), rowsC c60_u0 24 3 c60_C0 (List.map ints r8.1), rowsC c74_u0 24 3 c74_C0 (List.map ints r10.1)] := S69.app a78.agree S79 (fun _ h => h) (hB.le A70.1);simp [ej43_1, ej43_5, ej43_8, ej43_11, ej43_73, a78.pre];apply hK;clear hK K;obtain ⟨r11, hc80, hF⟩ := bd_some hF;refine .sr fun K hK => ?_;simp [ej43_1, ej43_5, ej43_8, ej43_11, ej43_73, ((S76.sl (k := 2) rfl).tup)];refine CallD.t (F_spec_FacesOf_w (fu := fu) (S76.sl (k := 2) rfl) hc80) ?_;rintro _ G82 ⟨a85, c81_u0, c81_C0, rfl, S86⟩;have A84 := A77.ext (hB.le A77.1) a85.agree
    have S83 : Sep G82 (Fr H) [flat c10_u0 3 (ints r2.1), flat c17_u0 3 (ints r3.1), flat c46_u0 3 (ints r6), rowsC c53_u0 24 3 c53_C0 (List.map ints r7.1), rowsC c60_u0 24 3 c60_C0 (List.map ints r8.1), rowsC c74_u0 24 3 c74_C0 (List.map ints r10.1), rowsC c81_u0 24 3 c81_C0 (List.map ints r11.1)] := S76.app a85.agree S86 (fun _ h => h) (hB.le A77.1);simp [ej43_1, ej43_5, ej43_8, ej43_11, ej43_73, a85.pre];apply hK;clear hK K;refine .seq ?_;obtain ⟨s87, hL88, hF⟩ := bd_some hF;refine DWp.seq (DWp.join (fun env G => Sep G (Fr H) [flat c10_u0 3 (ints r2.1), flat c17_u0 3 (ints r3.1), flat c46_u0 3 (ints r6), rowsC c53_u0 24 3 c53_C0 (List.map ints r7.1), rowsC c74_u0 24 3 c74_C0 (List.map ints r10.1)] ∧ AgB (Fr H) H G ∧ env 1 = some v1 ∧ env 5 = some c10_u0 ∧ env 8 = some c17_u0 ∧ env 11 = some (Value.bool r4.2) ∧ env 12 = some c46_u0 ∧ env 13 = some c53_u0 ∧ env 14 = some (Value.bool r7.2) ∧ env 17 = some (Value.int .i64 r9.1) ∧ env 19 = some c74_u0 ∧ env 130 = some (Value.bool s87)) ?_ ?_)
    ·
     rcases Bool.eq_false_or_eq_true (bne' r7.2 r8.2) with hb90 | hb90
     ·replace hL88 := cd_t hb90 hL88;refine .region fun K hK => ?_;simp [ej43_1, ej43_5, ej43_8, ej43_11, ej43_73, hb90, b_bne un_4];apply hK;clear hK K;simp only [andThen, leaves];have S91 := S83.pick [0, 1, 2, 3, 5] (by decide) rfl;obtain rfl := Option.some.inj hL88;exact ⟨S91, A84, by simp [ej43_1, ej43_5, ej43_8, ej43_11, ej43_73]⟩
     ·replace hL88 := cd_f hb90 hL88;obtain ⟨r12, hc92, hL88⟩ := bd_some hL88;refine .region fun K hK => ?_;simp [ej43_1, ej43_5, ej43_8, ej43_11, ej43_73, hb90, b_bne un_4, ((S83.rd (k := 3) rfl).tup), ((S83.rd (k := 4) rfl).tup)];refine CallD.t (F_laws_sSameRows_w (fu := fu) ((S83.rd (k := 3) rfl).slsl) ((S83.rd (k := 4) rfl).slsl) hc92) ?_;rintro _ G94 ⟨a97, rfl, S98⟩;have A96 := A84.ext (hB.le A84.1) a97.agree;have S95 : Sep G94 (Fr H) [flat c10_u0 3 (ints r2.1), flat c17_u0 3 (ints r3.1), flat c46_u0 3 (ints r6), rowsC c53_u0 24 3 c53_C0 (List.map ints r7.1), rowsC c60_u0 24 3 c60_C0 (List.map ints r8.1), rowsC c74_u0 24 3 c74_C0 (List.map ints r10.1), rowsC c81_u0 24 3 c81_C0 (List.map ints r11.1)] := S83.app a97.agree S98 (fun _ h => h) (hB.le A84.1);rcases Bool.eq_false_or_eq_true (bnot r12) with hb99 | hb99
      ·replace hL88 := cd_t hb99 hL88;simp [ej43_1, ej43_5, ej43_8, ej43_11, ej43_73, hb90, hb99, b_bne un_4, a97.pre];apply hK;clear hK K;simp only [andThen, leaves];have S100 := S95.pick [0, 1, 2, 3, 5] (by decide) rfl;obtain rfl := Option.some.inj hL88;exact ⟨S100, A96, by simp [ej43_1, ej43_5, ej43_8, ej43_11, ej43_73]⟩
      ·replace hL88 := cd_f hb99 hL88;rcases Bool.eq_false_or_eq_true (bne' r9.2 r7.2) with hb101 | hb101
       ·replace hL88 := cd_t hb101 hL88;simp [ej43_1, ej43_5, ej43_8, ej43_11, ej43_73, hb90, hb99, hb101, b_bne un_4, a97.pre];apply hK;clear hK K;simp only [andThen, leaves];have S102 := S95.pick [0, 1, 2, 3, 5] (by decide) rfl;obtain rfl := Option.some.inj hL88;exact ⟨S102, A96, by simp [ej43_1, ej43_5, ej43_8, ej43_11, ej43_73]⟩
       ·replace hL88 := cd_f hb101 hL88;rcases Bool.eq_false_or_eq_true (bne' r10.2 r11.2) with hb103 | hb103
        ·replace hL88 := cd_t hb103 hL88;simp [ej43_1, ej43_5, ej43_8, ej43_11, ej43_73, hb90, hb99, hb101, hb103, b_bne un_4, a97.pre];apply hK;clear hK K;simp only [andThen, leaves];have S104 := S95.pick [0, 1, 2, 3, 5] (by decide) rfl;obtain rfl := Option.some.inj hL88;exact ⟨S104, A96, by simp [ej43_1, ej43_5, ej43_8, ej43_11, ej43_73]⟩
        ·replace hL88 := cd_f hb103 hL88;obtain ⟨r13, hc105, hL88⟩ := bd_some hL88;simp [ej43_1, ej43_5, ej43_8, ej43_11, ej43_73, hb90, hb99, hb101, hb103, b_bne un_4, a97.pre, ((S95.rd (k := 5) rfl).tup), ((S95.rd (k := 6) rfl).tup)];refine CallD.t (F_laws_sSameRows_w (fu := fu) ((S95.rd (k := 5) rfl).slsl) ((S95.rd (k := 6) rfl).slsl) hc105) ?_;rintro _ G107 ⟨a110, rfl, S111⟩;have A109 := A96.ext (hB.le A96.1) a110.agree;have S108 : Sep G107 (Fr H) [flat c10_u0 3 (ints r2.1), flat c17_u0 3 (ints r3.1), flat c46_u0 3 (ints r6), rowsC c53_u0 24 3 c53_C0 (List.map ints r7.1), rowsC c60_u0 24 3 c60_C0 (List.map ints r8.1), rowsC c74_u0 24 3 c74_C0 (List.map ints r10.1), rowsC c81_u0 24 3 c81_C0 (List.map ints r11.1)] := S95.app a110.agree S111 (fun _ h => h) (hB.le A96.1);rcases Bool.eq_false_or_eq_true (bnot r13) with hb112 | hb112
         ·replace hL88 := cd_t hb112 hL88;simp [ej43_1, ej43_5, ej43_8, ej43_11, ej43_73, hb90, hb99, hb101, hb103, hb112, b_bne un_4, a97.pre, a110.pre];apply hK;clear hK K;simp only [andThen, leaves];have S113 := S108.pick [0, 1, 2, 3, 5] (by decide) rfl;obtain rfl := Option.some.inj hL88;exact ⟨S113, A109, by simp [ej43_1, ej43_5, ej43_8, ej43_11, ej43_73]⟩
         ·replace hL88 := cd_f hb112 hL88;simp [ej43_1, ej43_5, ej43_8, ej43_11, ej43_73, hb90, hb99, hb101, hb103, hb112, b_bne un_4, a97.pre, a110.pre];apply hK;clear hK K;simp only [andThen, leaves];have S114 := S108.pick [0, 1, 2, 3, 5] (by decide) rfl;obtain rfl := Option.some.inj hL88;exact ⟨S114, A109, by simp [ej43_1, ej43_5, ej43_8, ej43_11, ej43_73]⟩
    ·rintro env Gj115 ⟨Sj115, Aj115, ej115_1, ej115_5, ej115_8, ej115_11, ej115_12, ej115_13, ej115_14, ej115_17, ej115_19, ej115_130⟩;refine DWp.cond' (t := s87) (by simp [ej115_1, ej115_5, ej115_8, ej115_11, ej115_12, ej115_13, ej115_14, ej115_17, ej115_19, ej115_130]) (fun hb116 => ?_) (fun hb116 => ?_)
     ·replace hF := cd_t hb116 hF;refine .sr fun K hK => ?_;simp [ej115_1, ej115_5, ej115_8, ej115_11, ej115_12, ej115_13, ej115_14, ej115_17, ej115_19, ej115_130];apply hK;clear hK K;refine DWp.ret ?_;simp only [andThen, leaves];obtain rfl := Option.some.inj hF;exact ⟨by simp, [(Value.bool false)], by simp [ej115_1, ej115_5, ej115_8, ej115_11, ej115_12, ej115_13, ej115_14, ej115_17, ej115_19, ej115_130], Aj115, rfl, Sj115.pick [] (by decide) rfl⟩
     ·replace hF := cd_f hb116 hF;refine DWp.skip ?_;simp only [andThen, leaves];refine .seq ?_;refine .sr fun K hK => ?_;simp [ej115_1, ej115_5, ej115_8, ej115_11, ej115_12, ej115_13, ej115_14, ej115_17, ej115_19, ej115_130];apply hK;clear hK K;refine DWp.cond' (t := r7.2) (by simp [ej115_1, ej115_5, ej115_8, ej115_11, ej115_12, ej115_13, ej115_14, ej115_17, ej115_19, ej115_130]) (fun hb117 => ?_) (fun hb117 => ?_)
      ·replace hF := cd_t hb117 hF;refine .sr fun K hK => ?_;simp [ej115_1, ej115_5, ej115_8, ej115_11, ej115_12, ej115_13, ej115_14, ej115_17, ej115_19, ej115_130];apply hK;clear hK K;refine .seq ?_;have q118 := (Sj115.rd (k := 4) rfl).lenG (P := Tryz.prog) el_31;refine .sr fun K hK => ?_;simp [ej115_1, ej115_5, ej115_8, ej115_11, ej115_12, ej115_13, ej115_14, ej115_17, ej115_19, ej115_130, q118];apply hK;clear hK K;refine .block ?_;obtain ⟨s119, hL120, hF⟩ := bd_some hF;have S121 := Sj115.pick [0, 1, 2, 3, 4] (by decide) rfl;refine DWp.loop (fun n env G => ∃ y1_23 : Int, ∃ y1_24 : Int, ∃ y1_134 : Int, F_laws_FnExchangesChangeByOne_L1 fu x1 r2.1 r3.1 r4.2 r6 r7.1 r9.1 r10.1 (llen r10.1) n y1_23 y1_24 y1_134 = some s119 ∧ Sep G (Fr H) [flat c10_u0 3 (ints r2.1), flat c17_u0 3 (ints r3.1), flat c46_u0 3 (ints r6), rowsC c53_u0 24 3 c53_C0 (List.map ints r7.1), rowsC c74_u0 24 3 c74_C0 (List.map ints r10.1)] ∧ AgB (Fr H) H G ∧ env 1 = some v1 ∧ env 5 = some c10_u0 ∧ env 8 = some c17_u0 ∧ env 11 = some (Value.bool r4.2) ∧ env 12 = some c46_u0 ∧ env 13 = some c53_u0 ∧ env 17 = some (Value.int .i64 r9.1) ∧ env 19 = some c74_u0 ∧ env 23 = some (Value.int .i64 y1_23) ∧ env 24 = some (Value.int .i64 y1_24) ∧ env 132 = some c74_u0 ∧ env 133 = some (Value.int .i64 (llen r10.1)) ∧ env 134 = some (Value.int .i64 y1_134)) fu ⟨0, 0, 0, hL120, S121, Aj115, by simp [ej115_1, ej115_5, ej115_8, ej115_11, ej115_12, ej115_13, ej115_14, ej115_17, ej115_19, ej115_130]⟩ ?_;rintro n1 env1 G1_ ⟨y1_23, y1_24, y1_134, hL120, S1_, A1_, e1_1, e1_5, e1_8, e1_11, e1_12, e1_13, e1_17, e1_19, e1_23, e1_24, e1_132, e1_133, e1_134⟩;cases n1 with
       | zero => cases hL120
       | succ n1 =>
        simp only [F_laws_FnExchangesChangeByOne_L1] at hL120;refine .sr fun K hK => ?_;simp [e1_1, e1_5, e1_8, e1_11, e1_12, e1_13, e1_17, e1_19, e1_23, e1_24, e1_132, e1_133, e1_134];apply hK;clear hK K;refine .seq ?_;refine DWp.cond' (t := (ilt y1_134 (llen r10.1))) (by simp [e1_1, e1_5, e1_8, e1_11, e1_12, e1_13, e1_17, e1_19, e1_23, e1_24, e1_132, e1_133, e1_134]) (fun hb122 => ?_) (fun hb122 => ?_)
        ·replace hL120 := cd_t hb122 hL120;refine DWp.skip ?_;simp only [andThen, leaves];refine .seq ?_;refine .block ?_;obtain ⟨g123, hL120⟩ := gd_some hL120;have q124 := (S1_.rd (k := 4) rfl).idxG (P := Tryz.prog) (kk := .i64) el_31 sz_24 g123;have q125 := (S1_.rd (k := 4) rfl).loadG (P := Tryz.prog) sz_24 ag_24 g123;refine .sr fun K hK => ?_;simp [e1_1, e1_5, e1_8, e1_11, e1_12, e1_13, e1_17, e1_19, e1_23, e1_24, e1_132, e1_133, e1_134, q124, q125];apply hK;clear hK K;have q126 := lenG (P := Tryz.prog) ((S1_.rd (k := 4) rfl).rowAt [] g123) el_24;have q127 := lenG (P := Tryz.prog) ((S1_.rd (k := 4) rfl).rowAt [] g123) el_24;have g128 : (2 : Int) ≠ 0 := by decide
         refine .sr fun K hK => ?_;simp [e1_1, e1_5, e1_8, e1_11, e1_12, e1_13, e1_17, e1_19, e1_23, e1_24, e1_132, e1_133, e1_134, q126, q127, b_quo g128];apply hK;clear hK K;have q129 := lenG (P := Tryz.prog) ((S1_.rd (k := 4) rfl).rowAt [] g123) el_24;refine .region fun K hK => ?_;simp [e1_1, e1_5, e1_8, e1_11, e1_12, e1_13, e1_17, e1_19, e1_23, e1_24, e1_132, e1_133, e1_134, q129];apply hK;clear hK K;simp only [andThen, leaves];refine .region fun K hK => ?_;simp [e1_1, e1_5, e1_8, e1_11, e1_12, e1_13, e1_17, e1_19, e1_23, e1_24, e1_132, e1_133, e1_134];apply hK;clear hK K;simp only [andThen, leaves];have S130 := S1_.pick [0, 1, 2, 3, 4] (by decide) rfl;exact ⟨n1, Nat.lt_succ_self _, (iadd .i64 y1_23 (iquo .i64 (imul .i64 (llen (gat [] r10.1 y1_134)) (isub .i64 (llen (gat [] r10.1 y1_134)) 1)) 2)), (iadd .i64 y1_24 (llen (gat [] r10.1 y1_134))), (iadd .i64 y1_134 1), hL120, S130, A1_, by simp [e1_1, e1_5, e1_8, e1_11, e1_12, e1_13, e1_17, e1_19, e1_23, e1_24, e1_132, e1_133, e1_134]⟩
        ·replace hL120 := cd_f hb122 hL120;refine DWp.exit ?_;simp only [andThen, leaves, if_true, if_false, reduceIte, Nat.reduceEqDiff];obtain rfl := Option.some.inj hL120;try dsimp only at hF
         refine .seq ?_;obtain ⟨s131, hL132, hF⟩ := bd_some hF;refine DWp.seq (DWp.join (fun env G => Sep G (Fr H) [flat c10_u0 3 (ints r2.1), flat c17_u0 3 (ints r3.1), flat c46_u0 3 (ints r6), rowsC c53_u0 24 3 c53_C0 (List.map ints r7.1)] ∧ AgB (Fr H) H G ∧ env 1 = some v1 ∧ env 5 = some c10_u0 ∧ env 8 = some c17_u0 ∧ env 11 = some (Value.bool r4.2) ∧ env 12 = some c46_u0 ∧ env 13 = some c53_u0 ∧ env 175 = some (Value.bool s131)) ?_ ?_)
         ·
          rcases Bool.eq_false_or_eq_true (ine y1_23 r9.1) with hb134 | hb134
          ·replace hL132 := cd_t hb134 hL132;refine .region fun K hK => ?_;simp [e1_1, e1_5, e1_8, e1_11, e1_12, e1_13, e1_17, e1_19, e1_23, e1_24, e1_132, e1_133, e1_134, hb134];apply hK;clear hK K;simp only [andThen, leaves];have S135 := S1_.pick [0, 1, 2, 3] (by decide) rfl;obtain rfl := Option.some.inj hL132;exact ⟨S135, A1_, by simp [e1_1, e1_5, e1_8, e1_11, e1_12, e1_13, e1_17, e1_19, e1_23, e1_24, e1_132, e1_133, e1_134]⟩
          ·replace hL132 := cd_f hb134 hL132;have q136 := (S1_.rd (k := 3) rfl).lenG (P := Tryz.prog) el_31;rcases Bool.eq_false_or_eq_true (ine (llen r7.1) r9.1) with hb137 | hb137
           ·replace hL132 := cd_t hb137 hL132;refine .region fun K hK => ?_;simp [e1_1, e1_5, e1_8, e1_11, e1_12, e1_13, e1_17, e1_19, e1_23, e1_24, e1_132, e1_133, e1_134, hb134, hb137, q136];apply hK;clear hK K;simp only [andThen, leaves];have S138 := S1_.pick [0, 1, 2, 3] (by decide) rfl;obtain rfl := Option.some.inj hL132;exact ⟨S138, A1_, by simp [e1_1, e1_5, e1_8, e1_11, e1_12, e1_13, e1_17, e1_19, e1_23, e1_24, e1_132, e1_133, e1_134]⟩
           ·replace hL132 := cd_f hb137 hL132;have q139 := lenG (P := Tryz.prog) (S1_.sl (k := 2) rfl) el_24;rcases Bool.eq_false_or_eq_true (ine y1_24 (llen r6)) with hb140 | hb140
            ·replace hL132 := cd_t hb140 hL132;refine .region fun K hK => ?_;simp [e1_1, e1_5, e1_8, e1_11, e1_12, e1_13, e1_17, e1_19, e1_23, e1_24, e1_132, e1_133, e1_134, hb134, hb137, hb140, q136, q139];apply hK;clear hK K;simp only [andThen, leaves];have S141 := S1_.pick [0, 1, 2, 3] (by decide) rfl;obtain rfl := Option.some.inj hL132;exact ⟨S141, A1_, by simp [e1_1, e1_5, e1_8, e1_11, e1_12, e1_13, e1_17, e1_19, e1_23, e1_24, e1_132, e1_133, e1_134]⟩
            ·replace hL132 := cd_f hb140 hL132;have q142 := (S1_.rd (k := 4) rfl).lenG (P := Tryz.prog) el_31;have q143 := lenG (P := Tryz.prog) (S1_.sl (k := 2) rfl) el_24;have g144 : (2 : Int) ≠ 0 := by decide
             refine .region fun K hK => ?_;simp [e1_1, e1_5, e1_8, e1_11, e1_12, e1_13, e1_17, e1_19, e1_23, e1_24, e1_132, e1_133, e1_134, hb134, hb137, hb140, q136, q139, q142, q143, b_quo g144];apply hK;clear hK K;simp only [andThen, leaves];have S145 := S1_.pick [0, 1, 2, 3] (by decide) rfl;obtain rfl := Option.some.inj hL132;exact ⟨S145, A1_, by simp [e1_1, e1_5, e1_8, e1_11, e1_12, e1_13, e1_17, e1_19, e1_23, e1_24, e1_132, e1_133, e1_134]⟩
         ·rintro env Gj146 ⟨Sj146, Aj146, ej146_1, ej146_5, ej146_8, ej146_11, ej146_12, ej146_13, ej146_175⟩;refine DWp.cond' (t := s131) (by simp [ej146_1, ej146_5, ej146_8, ej146_11, ej146_12, ej146_13, ej146_175]) (fun hb147 => ?_) (fun hb147 => ?_)
          ·replace hF := cd_t hb147 hF;refine .sr fun K hK => ?_;simp [ej146_1, ej146_5, ej146_8, ej146_11, ej146_12, ej146_13, ej146_175];apply hK;clear hK K;refine DWp.ret ?_;simp only [andThen, leaves];obtain rfl := Option.some.inj hF;exact ⟨by simp, [(Value.bool false)], by simp [ej146_1, ej146_5, ej146_8, ej146_11, ej146_12, ej146_13, ej146_175], Aj146, rfl, Sj146.pick [] (by decide) rfl⟩
          ·replace hF := cd_f hb147 hF;refine DWp.skip ?_;simp only [andThen, leaves];have q148 := (Sj146.rd (k := 3) rfl).lenG (P := Tryz.prog) el_31;refine .sr fun K hK => ?_;simp [ej146_1, ej146_5, ej146_8, ej146_11, ej146_12, ej146_13, ej146_175, q148];apply hK;clear hK K;refine .block ?_;obtain ⟨s149, hL150, hF⟩ := bd_some hF;have S151 := Sj146.pick [0, 1, 2, 3] (by decide) rfl;refine DWp.loop (fun n env G => ∃ y2_178 : Int, F_laws_FnExchangesChangeByOne_L2 fu x1 r2.1 r3.1 r4.2 r6 r7.1 (llen r7.1) n y2_178 = some s149 ∧ Sep G (Fr H) [flat c10_u0 3 (ints r2.1), flat c17_u0 3 (ints r3.1), flat c46_u0 3 (ints r6), rowsC c53_u0 24 3 c53_C0 (List.map ints r7.1)] ∧ AgB (Fr H) H G ∧ env 1 = some v1 ∧ env 5 = some c10_u0 ∧ env 8 = some c17_u0 ∧ env 11 = some (Value.bool r4.2) ∧ env 12 = some c46_u0 ∧ env 13 = some c53_u0 ∧ env 176 = some c53_u0 ∧ env 177 = some (Value.int .i64 (llen r7.1)) ∧ env 178 = some (Value.int .i64 y2_178)) fu ⟨0, hL150, S151, Aj146, by simp [ej146_1, ej146_5, ej146_8, ej146_11, ej146_12, ej146_13, ej146_175]⟩ ?_;rintro n1 env1 G1_ ⟨y2_178, hL150, S1_, A1_, e1_1, e1_5, e1_8, e1_11, e1_12, e1_13, e1_176, e1_177, e1_178⟩;cases n1 with
           | zero => cases hL150
           | succ n1 =>
            simp only [F_laws_FnExchangesChangeByOne_L2] at hL150;refine .sr fun K hK => ?_;simp [e1_1, e1_5, e1_8, e1_11, e1_12, e1_13, e1_176, e1_177, e1_178];apply hK;clear hK K;refine .seq ?_;refine DWp.cond' (t := (ilt y2_178 (llen r7.1))) (by simp [e1_1, e1_5, e1_8, e1_11, e1_12, e1_13, e1_176, e1_177, e1_178]) (fun hb152 => ?_) (fun hb152 => ?_)
            ·replace hL150 := cd_t hb152 hL150;refine DWp.skip ?_;simp only [andThen, leaves];refine .seq ?_;refine .block ?_;obtain ⟨g153, hL150⟩ := gd_some hL150;have q154 := (S1_.rd (k := 3) rfl).idxG (P := Tryz.prog) (kk := .i64) el_31 sz_24 g153;have q155 := (S1_.rd (k := 3) rfl).loadG (P := Tryz.prog) sz_24 ag_24 g153;refine .sr fun K hK => ?_;simp [e1_1, e1_5, e1_8, e1_11, e1_12, e1_13, e1_176, e1_177, e1_178, q154, q155];apply hK;clear hK K;obtain ⟨r14, hc156, hL150⟩ := bd_some hL150;refine .sr fun K hK => ?_;simp [e1_1, e1_5, e1_8, e1_11, e1_12, e1_13, e1_176, e1_177, e1_178, ((S1_.sl (k := 2) rfl).tup), (((S1_.rd (k := 3) rfl).rowAt [] g153).tup)];refine CallD.t (F_impl_ExchangeDistance_w (fu := fu) (S1_.sl (k := 2) rfl) ((S1_.rd (k := 3) rfl).rowAt [] g153) hc156) ?_;rintro _ G158 ⟨a161, rfl, S162⟩;have A160 := A1_.ext (hB.le A1_.1) a161.agree;have S159 : Sep G158 (Fr H) [flat c10_u0 3 (ints r2.1), flat c17_u0 3 (ints r3.1), flat c46_u0 3 (ints r6), rowsC c53_u0 24 3 c53_C0 (List.map ints r7.1)] := S1_.app a161.agree S162 (fun _ h => h) (hB.le A1_.1);simp [e1_1, e1_5, e1_8, e1_11, e1_12, e1_13, e1_176, e1_177, e1_178, a161.pre];apply hK;clear hK K;obtain ⟨s163, hL164, hL150⟩ := bd_some hL150;refine DWp.seq (DWp.join (fun env G => Sep G (Fr H) [flat c10_u0 3 (ints r2.1), flat c17_u0 3 (ints r3.1), flat c46_u0 3 (ints r6), rowsC c53_u0 24 3 c53_C0 (List.map ints r7.1)] ∧ AgB (Fr H) H G ∧ env 1 = some v1 ∧ env 5 = some c10_u0 ∧ env 8 = some c17_u0 ∧ env 11 = some (Value.bool r4.2) ∧ env 12 = some c46_u0 ∧ env 13 = some c53_u0 ∧ env 176 = some c53_u0 ∧ env 177 = some (Value.int .i64 (llen r7.1)) ∧ env 178 = some (Value.int .i64 y2_178) ∧ env 208 = some (Value.bool s163)) ?_ ?_)
             ·
              rcases Bool.eq_false_or_eq_true (bnot r14.2) with hb166 | hb166
              ·replace hL164 := cd_t hb166 hL164;refine .region fun K hK => ?_;simp [e1_1, e1_5, e1_8, e1_11, e1_12, e1_13, e1_176, e1_177, e1_178, hb166, undef];apply hK;clear hK K;simp only [andThen, leaves];have S167 := S159.pick [0, 1, 2, 3] (by decide) rfl;obtain rfl := Option.some.inj hL164;exact ⟨S167, A160, by simp [e1_1, e1_5, e1_8, e1_11, e1_12, e1_13, e1_176, e1_177, e1_178]⟩
              ·replace hL164 := cd_f hb166 hL164;rcases Bool.eq_false_or_eq_true (ine r14.1 1) with hb168 | hb168
               ·replace hL164 := cd_t hb168 hL164;refine .region fun K hK => ?_;simp [e1_1, e1_5, e1_8, e1_11, e1_12, e1_13, e1_176, e1_177, e1_178, hb166, hb168, undef];apply hK;clear hK K;simp only [andThen, leaves];have S169 := S159.pick [0, 1, 2, 3] (by decide) rfl;obtain rfl := Option.some.inj hL164;exact ⟨S169, A160, by simp [e1_1, e1_5, e1_8, e1_11, e1_12, e1_13, e1_176, e1_177, e1_178]⟩
               ·replace hL164 := cd_f hb168 hL164;rcases Bool.eq_false_or_eq_true (ilt 0 y2_178) with hb170 | hb170
                ·replace hL164 := cd_t hb170 hL164;obtain ⟨g171, hL164⟩ := gd_some hL164;have q172 := (S159.rd (k := 3) rfl).idxG (P := Tryz.prog) (kk := .i64) el_31 sz_24 g171;have q173 := (S159.rd (k := 3) rfl).loadG (P := Tryz.prog) sz_24 ag_24 g171;obtain ⟨r15, hc174, hL164⟩ := bd_some hL164;refine .region fun K hK => ?_;simp [e1_1, e1_5, e1_8, e1_11, e1_12, e1_13, e1_176, e1_177, e1_178, hb166, hb168, hb170, q172, q173, (((S159.rd (k := 3) rfl).rowAt [] g171).tup), (((S159.rd (k := 3) rfl).rowAt [] g153).tup)];refine CallD.t (F_laws_sLess_w (fu := fu) ((S159.rd (k := 3) rfl).rowAt [] g171) ((S159.rd (k := 3) rfl).rowAt [] g153) hc174) ?_;rintro _ G176 ⟨a179, rfl, S180⟩;have A178 := A160.ext (hB.le A160.1) a179.agree;have S177 : Sep G176 (Fr H) [flat c10_u0 3 (ints r2.1), flat c17_u0 3 (ints r3.1), flat c46_u0 3 (ints r6), rowsC c53_u0 24 3 c53_C0 (List.map ints r7.1)] := S159.app a179.agree S180 (fun _ h => h) (hB.le A160.1);simp [e1_1, e1_5, e1_8, e1_11, e1_12, e1_13, e1_176, e1_177, e1_178, hb166, hb168, hb170, q172, q173, a179.pre];apply hK;clear hK K;simp only [andThen, leaves];have S181 := S177.pick [0, 1, 2, 3] (by decide) rfl;obtain rfl := Option.some.inj hL164;exact ⟨S181, A178, by simp [e1_1, e1_5, e1_8, e1_11, e1_12, e1_13, e1_176, e1_177, e1_178]⟩
                ·replace hL164 := cd_f hb170 hL164;refine .region fun K hK => ?_;simp [e1_1, e1_5, e1_8, e1_11, e1_12, e1_13, e1_176, e1_177, e1_178, hb166, hb168, hb170];apply hK;clear hK K;simp only [andThen, leaves];have S182 := S159.pick [0, 1, 2, 3] (by decide) rfl;obtain rfl := Option.some.inj hL164;exact ⟨S182, A160, by simp [e1_1, e1_5, e1_8, e1_11, e1_12, e1_13, e1_176, e1_177, e1_178]⟩
             ·rintro env Gj183 ⟨Sj183, Aj183, ej183_1, ej183_5, ej183_8, ej183_11, ej183_12, ej183_13, ej183_176, ej183_177, ej183_178, ej183_208⟩;refine DWp.cond' (t := s163) (by simp [ej183_1, ej183_5, ej183_8, ej183_11, ej183_12, ej183_13, ej183_176, ej183_177, ej183_178, ej183_208]) (fun hb184 => ?_) (fun hb184 => ?_)
              ·replace hL150 := cd_t hb184 hL150;refine .sr fun K hK => ?_;simp [ej183_1, ej183_5, ej183_8, ej183_11, ej183_12, ej183_13, ej183_176, ej183_177, ej183_178, ej183_208];apply hK;clear hK K;refine DWp.ret ?_;simp only [andThen, leaves];obtain rfl := Option.some.inj hL150;simp only [lr] at hF;obtain rfl := Option.some.inj hF;exact ⟨by simp, [(Value.bool false)], by simp [ej183_1, ej183_5, ej183_8, ej183_11, ej183_12, ej183_13, ej183_176, ej183_177, ej183_178, ej183_208], Aj183, rfl, Sj183.pick [] (by decide) rfl⟩
              ·replace hL150 := cd_f hb184 hL150;refine DWp.skip ?_;simp only [andThen, leaves];refine .region fun K hK => ?_;simp [ej183_1, ej183_5, ej183_8, ej183_11, ej183_12, ej183_13, ej183_176, ej183_177, ej183_178, ej183_208];apply hK;clear hK K;simp only [andThen, leaves];have S185 := Sj183.pick [0, 1, 2, 3] (by decide) rfl;exact ⟨n1, Nat.lt_succ_self _, (iadd .i64 y2_178 1), hL150, S185, Aj183, by simp [ej183_1, ej183_5, ej183_8, ej183_11, ej183_12, ej183_13, ej183_176, ej183_177, ej183_178, ej183_208]⟩
            ·replace hL150 := cd_f hb152 hL150;refine DWp.exit ?_;simp only [andThen, leaves, if_true, if_false, reduceIte, Nat.reduceEqDiff];obtain rfl := Option.some.inj hL150;simp only [lr] at hF;refine .seq ?_;refine .sr fun K hK => ?_;simp [e1_1, e1_5, e1_8, e1_11, e1_12, e1_13, e1_176, e1_177, e1_178];apply hK;clear hK K;refine DWp.cond' (t := (bnot r4.2)) (by simp [e1_1, e1_5, e1_8, e1_11, e1_12, e1_13, e1_176, e1_177, e1_178]) (fun hb186 => ?_) (fun hb186 => ?_)
             ·replace hF := cd_t hb186 hF;refine .sr fun K hK => ?_;simp [e1_1, e1_5, e1_8, e1_11, e1_12, e1_13, e1_176, e1_177, e1_178];apply hK;clear hK K;refine DWp.ret ?_;simp only [andThen, leaves];obtain rfl := Option.some.inj hF;exact ⟨by simp, [(Value.bool true)], by simp [e1_1, e1_5, e1_8, e1_11, e1_12, e1_13, e1_176, e1_177, e1_178], A1_, rfl, S1_.pick [] (by decide) rfl⟩
             ·replace hF := cd_f hb186 hF;refine DWp.skip ?_;simp only [andThen, leaves];have q187 := lenG (P := Tryz.prog) (S1_.sl (k := 0) rfl) el_24;have g188 : (2 : Int) ≠ 0 := by decide
              obtain ⟨r16, hc189, hF⟩ := bd_some hF;refine .sr fun K hK => ?_;simp [e1_1, e1_5, e1_8, e1_11, e1_12, e1_13, e1_176, e1_177, e1_178, q187, b_quo g188];refine CallD.t (F_impl_AllSystems_w (fu := fu)  hc189) ?_;rintro _ G191 ⟨a194, c190_u0, c190_C0, rfl, S195⟩;have A193 := A1_.ext (hB.le A1_.1) a194.agree;have S192 : Sep G191 (Fr H) [flat c10_u0 3 (ints r2.1), flat c17_u0 3 (ints r3.1), flat c46_u0 3 (ints r6), rowsC c53_u0 24 3 c53_C0 (List.map ints r7.1), rowsC c190_u0 24 3 c190_C0 (List.map ints r16.1)] := S1_.app a194.agree S195 (fun _ h => h) (hB.le A1_.1);simp [e1_1, e1_5, e1_8, e1_11, e1_12, e1_13, e1_176, e1_177, e1_178, q187, b_quo g188, a194.pre];apply hK;clear hK K;obtain ⟨r17, hc196, hF⟩ := bd_some hF;refine .sr fun K hK => ?_;simp [e1_1, e1_5, e1_8, e1_11, e1_12, e1_13, e1_176, e1_177, e1_178, ((S192.sl (k := 1) rfl).tup)];refine CallD.t (F_impl_ExchangesOf_w (fu := fu) (S192.sl (k := 1) rfl) hc196) ?_;rintro _ G198 ⟨a201, c197_u0, c197_C0, rfl, S202⟩;have A200 := A193.ext (hB.le A193.1) a201.agree;have S199 : Sep G198 (Fr H) [flat c10_u0 3 (ints r2.1), flat c17_u0 3 (ints r3.1), flat c46_u0 3 (ints r6), rowsC c53_u0 24 3 c53_C0 (List.map ints r7.1), rowsC c190_u0 24 3 c190_C0 (List.map ints r16.1), rowsC c197_u0 24 3 c197_C0 (List.map ints r17.1)] := S192.app a201.agree S202 (fun _ h => h) (hB.le A193.1);simp [e1_1, e1_5, e1_8, e1_11, e1_12, e1_13, e1_176, e1_177, e1_178, a201.pre];apply hK;clear hK K;obtain ⟨r18, hc203, hF⟩ := bd_some hF;refine .sr fun K hK => ?_;simp [e1_1, e1_5, e1_8, e1_11, e1_12, e1_13, e1_176, e1_177, e1_178, ((S199.sl (k := 0) rfl).tup)];refine CallD.t (F_impl_SignOf_w (fu := fu) (S199.sl (k := 0) rfl) hc203) ?_;rintro _ G205 ⟨a208, rfl, S209⟩;have A207 := A200.ext (hB.le A200.1) a208.agree
              have S206 : Sep G205 (Fr H) [flat c10_u0 3 (ints r2.1), flat c17_u0 3 (ints r3.1), flat c46_u0 3 (ints r6), rowsC c53_u0 24 3 c53_C0 (List.map ints r7.1), rowsC c190_u0 24 3 c190_C0 (List.map ints r16.1), rowsC c197_u0 24 3 c197_C0 (List.map ints r17.1)] := S199.app a208.agree S209 (fun _ h => h) (hB.le A200.1);simp [e1_1, e1_5, e1_8, e1_11, e1_12, e1_13, e1_176, e1_177, e1_178, a208.pre];apply hK;clear hK K;obtain ⟨r19, hc210, hF⟩ := bd_some hF;refine .sr fun K hK => ?_;simp [e1_1, e1_5, e1_8, e1_11, e1_12, e1_13, e1_176, e1_177, e1_178, ((S206.sl (k := 1) rfl).tup)];refine CallD.t (F_impl_SignOf_w (fu := fu) (S206.sl (k := 1) rfl) hc210) ?_;rintro _ G212 ⟨a215, rfl, S216⟩;have A214 := A207.ext (hB.le A207.1) a215.agree;have S213 : Sep G212 (Fr H) [flat c10_u0 3 (ints r2.1), flat c17_u0 3 (ints r3.1), flat c46_u0 3 (ints r6), rowsC c53_u0 24 3 c53_C0 (List.map ints r7.1), rowsC c190_u0 24 3 c190_C0 (List.map ints r16.1), rowsC c197_u0 24 3 c197_C0 (List.map ints r17.1)] := S206.app a215.agree S216 (fun _ h => h) (hB.le A207.1);simp [e1_1, e1_5, e1_8, e1_11, e1_12, e1_13, e1_176, e1_177, e1_178, a215.pre];apply hK;clear hK K;refine .seq ?_;obtain ⟨s217, hL218, hF⟩ := bd_some hF;refine DWp.seq (DWp.join (fun env G => Sep G (Fr H) [flat c10_u0 3 (ints r2.1), flat c17_u0 3 (ints r3.1), rowsC c190_u0 24 3 c190_C0 (List.map ints r16.1)] ∧ AgB (Fr H) H G ∧ env 1 = some v1 ∧ env 5 = some c10_u0 ∧ env 8 = some c17_u0 ∧ env 31 = some c190_u0 ∧ env 264 = some (Value.bool s217)) ?_ ?_)
              ·
               rcases Bool.eq_false_or_eq_true (bnot r16.2) with hb220 | hb220
               ·replace hL218 := cd_t hb220 hL218;refine .region fun K hK => ?_;simp [e1_1, e1_5, e1_8, e1_11, e1_12, e1_13, e1_176, e1_177, e1_178, hb220];apply hK;clear hK K;simp only [andThen, leaves];have S221 := S213.pick [0, 1, 4] (by decide) rfl;obtain rfl := Option.some.inj hL218;exact ⟨S221, A214, by simp [e1_1, e1_5, e1_8, e1_11, e1_12, e1_13, e1_176, e1_177, e1_178]⟩
               ·replace hL218 := cd_f hb220 hL218;rcases Bool.eq_false_or_eq_true (bnot r17.2) with hb222 | hb222
                ·replace hL218 := cd_t hb222 hL218;refine .region fun K hK => ?_;simp [e1_1, e1_5, e1_8, e1_11, e1_12, e1_13, e1_176, e1_177, e1_178, hb220, hb222];apply hK;clear hK K;simp only [andThen, leaves];have S223 := S213.pick [0, 1, 4] (by decide) rfl;obtain rfl := Option.some.inj hL218;exact ⟨S223, A214, by simp [e1_1, e1_5, e1_8, e1_11, e1_12, e1_13, e1_176, e1_177, e1_178]⟩
                ·replace hL218 := cd_f hb222 hL218;rcases Bool.eq_false_or_eq_true (bnot r18.2) with hb224 | hb224
                 ·replace hL218 := cd_t hb224 hL218;refine .region fun K hK => ?_;simp [e1_1, e1_5, e1_8, e1_11, e1_12, e1_13, e1_176, e1_177, e1_178, hb220, hb222, hb224];apply hK;clear hK K;simp only [andThen, leaves];have S225 := S213.pick [0, 1, 4] (by decide) rfl;obtain rfl := Option.some.inj hL218;exact ⟨S225, A214, by simp [e1_1, e1_5, e1_8, e1_11, e1_12, e1_13, e1_176, e1_177, e1_178]⟩
                 ·replace hL218 := cd_f hb224 hL218;rcases Bool.eq_false_or_eq_true (bnot r19.2) with hb226 | hb226
                  ·replace hL218 := cd_t hb226 hL218;refine .region fun K hK => ?_;simp [e1_1, e1_5, e1_8, e1_11, e1_12, e1_13, e1_176, e1_177, e1_178, hb220, hb222, hb224, hb226];apply hK;clear hK K;simp only [andThen, leaves];have S227 := S213.pick [0, 1, 4] (by decide) rfl;obtain rfl := Option.some.inj hL218;exact ⟨S227, A214, by simp [e1_1, e1_5, e1_8, e1_11, e1_12, e1_13, e1_176, e1_177, e1_178]⟩
                  ·replace hL218 := cd_f hb226 hL218;obtain ⟨r20, hc228, hL218⟩ := bd_some hL218;refine .region fun K hK => ?_;simp [e1_1, e1_5, e1_8, e1_11, e1_12, e1_13, e1_176, e1_177, e1_178, hb220, hb222, hb224, hb226, ((S213.sl (k := 1) rfl).tup)];refine CallD.t (F_impl_IsSystem_w (fu := fu) (S213.sl (k := 1) rfl) hc228) ?_;rintro _ G230 ⟨a233, rfl, S234⟩;have A232 := A214.ext (hB.le A214.1) a233.agree;have S231 : Sep G230 (Fr H) [flat c10_u0 3 (ints r2.1), flat c17_u0 3 (ints r3.1), flat c46_u0 3 (ints r6), rowsC c53_u0 24 3 c53_C0 (List.map ints r7.1), rowsC c190_u0 24 3 c190_C0 (List.map ints r16.1), rowsC c197_u0 24 3 c197_C0 (List.map ints r17.1)] := S213.app a233.agree S234 (fun _ h => h) (hB.le A214.1);rcases Bool.eq_false_or_eq_true (bnot r20) with hb235 | hb235
                   ·replace hL218 := cd_t hb235 hL218;simp [e1_1, e1_5, e1_8, e1_11, e1_12, e1_13, e1_176, e1_177, e1_178, hb220, hb222, hb224, hb226, hb235, a233.pre];apply hK;clear hK K;simp only [andThen, leaves];have S236 := S231.pick [0, 1, 4] (by decide) rfl;obtain rfl := Option.some.inj hL218;exact ⟨S236, A232, by simp [e1_1, e1_5, e1_8, e1_11, e1_12, e1_13, e1_176, e1_177, e1_178]⟩
                   ·replace hL218 := cd_f hb235 hL218;obtain ⟨r21, hc237, hL218⟩ := bd_some hL218;simp [e1_1, e1_5, e1_8, e1_11, e1_12, e1_13, e1_176, e1_177, e1_178, hb220, hb222, hb224, hb226, hb235, a233.pre, ((S231.rd (k := 5) rfl).tup), ((S231.sl (k := 0) rfl).tup)];refine CallD.t (F_laws_sHas_w (fu := fu) ((S231.rd (k := 5) rfl).slsl) (S231.sl (k := 0) rfl) hc237) ?_;rintro _ G239 ⟨a242, rfl, S243⟩;have A241 := A232.ext (hB.le A232.1) a242.agree;have S240 : Sep G239 (Fr H) [flat c10_u0 3 (ints r2.1), flat c17_u0 3 (ints r3.1), flat c46_u0 3 (ints r6), rowsC c53_u0 24 3 c53_C0 (List.map ints r7.1), rowsC c190_u0 24 3 c190_C0 (List.map ints r16.1), rowsC c197_u0 24 3 c197_C0 (List.map ints r17.1)] := S231.app a242.agree S243 (fun _ h => h) (hB.le A232.1);rcases Bool.eq_false_or_eq_true (bnot r21) with hb244 | hb244
                    ·replace hL218 := cd_t hb244 hL218;simp [e1_1, e1_5, e1_8, e1_11, e1_12, e1_13, e1_176, e1_177, e1_178, hb220, hb222, hb224, hb226, hb235, hb244, a233.pre, a242.pre];apply hK;clear hK K;simp only [andThen, leaves];have S245 := S240.pick [0, 1, 4] (by decide) rfl;obtain rfl := Option.some.inj hL218;exact ⟨S245, A241, by simp [e1_1, e1_5, e1_8, e1_11, e1_12, e1_13, e1_176, e1_177, e1_178]⟩
                    ·replace hL218 := cd_f hb244 hL218;simp [e1_1, e1_5, e1_8, e1_11, e1_12, e1_13, e1_176, e1_177, e1_178, hb220, hb222, hb224, hb226, hb235, hb244, a233.pre, a242.pre, u_neg];apply hK;clear hK K;simp only [andThen, leaves];have S246 := S240.pick [0, 1, 4] (by decide) rfl;obtain rfl := Option.some.inj hL218;exact ⟨S246, A241, by simp [e1_1, e1_5, e1_8, e1_11, e1_12, e1_13, e1_176, e1_177, e1_178]⟩
              ·rintro env Gj247 ⟨Sj247, Aj247, ej247_1, ej247_5, ej247_8, ej247_31, ej247_264⟩;refine DWp.cond' (t := s217) (by simp [ej247_1, ej247_5, ej247_8, ej247_31, ej247_264]) (fun hb248 => ?_) (fun hb248 => ?_)
               ·replace hF := cd_t hb248 hF;refine .sr fun K hK => ?_;simp [ej247_1, ej247_5, ej247_8, ej247_31, ej247_264];apply hK;clear hK K;refine DWp.ret ?_;simp only [andThen, leaves];obtain rfl := Option.some.inj hF;exact ⟨by simp, [(Value.bool false)], by simp [ej247_1, ej247_5, ej247_8, ej247_31, ej247_264], Aj247, rfl, Sj247.pick [] (by decide) rfl⟩
               ·replace hF := cd_f hb248 hF;refine DWp.skip ?_;simp only [andThen, leaves];refine .seq ?_;refine .sr fun K hK => ?_;simp [ej247_1, ej247_5, ej247_8, ej247_31, ej247_264];apply hK;clear hK K;refine .block ?_;obtain ⟨s249, hL250, hF⟩ := bd_some hF;have S251 := Sj247.pick [0, 1, 2] (by decide) rfl;refine DWp.loop (fun n env G => ∃ y3_39 : Int, F_laws_FnExchangesChangeByOne_L3 fu x1 r2.1 r3.1 r16.1 n y3_39 = some s249 ∧ Sep G (Fr H) [flat c10_u0 3 (ints r2.1), flat c17_u0 3 (ints r3.1), rowsC c190_u0 24 3 c190_C0 (List.map ints r16.1)] ∧ AgB (Fr H) H G ∧ env 1 = some v1 ∧ env 5 = some c10_u0 ∧ env 8 = some c17_u0 ∧ env 31 = some c190_u0 ∧ env 39 = some (Value.int .i64 y3_39)) fu ⟨0, hL250, S251, Aj247, by simp [ej247_1, ej247_5, ej247_8, ej247_31, ej247_264]⟩ ?_;rintro n1 env1 G1_ ⟨y3_39, hL250, S1_, A1_, e1_1, e1_5, e1_8, e1_31, e1_39⟩;cases n1 with
                | zero => cases hL250
                | succ n1 =>
                 simp only [F_laws_FnExchangesChangeByOne_L3] at hL250;refine .seq ?_;refine .sr fun K hK => ?_;simp [e1_1, e1_5, e1_8, e1_31, e1_39];apply hK;clear hK K;refine DWp.cond' (t := (ilt y3_39 6)) (by simp [e1_1, e1_5, e1_8, e1_31, e1_39]) (fun hb252 => ?_) (fun hb252 => ?_)
                 ·replace hL250 := cd_t hb252 hL250;refine DWp.skip ?_;simp only [andThen, leaves];refine .seq ?_;refine .block ?_;have q253 := lenG (P := Tryz.prog) (hx1.agree A1_.agree) el_22;have q254 := (S1_.rd (k := 2) rfl).lenG (P := Tryz.prog) el_31;obtain ⟨g255, hL250⟩ := gd_some hL250;obtain ⟨g256, hL250⟩ := gd_some hL250;have q257 := (S1_.rd (k := 2) rfl).idxG (P := Tryz.prog) (kk := .i64) el_31 sz_24 g256;have q258 := (S1_.rd (k := 2) rfl).loadG (P := Tryz.prog) sz_24 ag_24 g256;refine .sr fun K hK => ?_;simp [e1_1, e1_5, e1_8, e1_31, e1_39, q253, q254, b_rem g255, q257, q258];apply hK;clear hK K;obtain ⟨r22, hc259, hL250⟩ := bd_some hL250;refine .sr fun K hK => ?_;simp [e1_1, e1_5, e1_8, e1_31, e1_39, ((S1_.sl (k := 1) rfl).tup), (((S1_.rd (k := 2) rfl).rowAt [] g256).tup)];refine CallD.t (F_laws_sCount_w (fu := fu) (S1_.sl (k := 1) rfl) ((S1_.rd (k := 2) rfl).rowAt [] g256) hc259) ?_;rintro _ G261 ⟨a264, rfl, S265⟩;have A263 := A1_.ext (hB.le A1_.1) a264.agree;have S262 : Sep G261 (Fr H) [flat c10_u0 3 (ints r2.1), flat c17_u0 3 (ints r3.1), rowsC c190_u0 24 3 c190_C0 (List.map ints r16.1)] := S1_.app a264.agree S265 (fun _ h => h) (hB.le A1_.1);obtain ⟨r23, hc266, hL250⟩ := bd_some hL250;simp [e1_1, e1_5, e1_8, e1_31, e1_39, a264.pre, ((S262.sl (k := 0) rfl).tup), (((S262.rd (k := 2) rfl).rowAt [] g256).tup)];refine CallD.t (F_laws_sCount_w (fu := fu) (S262.sl (k := 0) rfl) ((S262.rd (k := 2) rfl).rowAt [] g256) hc266) ?_;rintro _ G268 ⟨a271, rfl, S272⟩;have A270 := A263.ext (hB.le A263.1) a271.agree;have S269 : Sep G268 (Fr H) [flat c10_u0 3 (ints r2.1), flat c17_u0 3 (ints r3.1), rowsC c190_u0 24 3 c190_C0 (List.map ints r16.1)] := S262.app a271.agree S272 (fun _ h => h) (hB.le A263.1);simp [e1_1, e1_5, e1_8, e1_31, e1_39, a264.pre, a271.pre];apply hK
                  clear hK K;obtain ⟨s273, hL274, hL250⟩ := bd_some hL250;refine DWp.seq (DWp.join (fun env G => Sep G (Fr H) [flat c10_u0 3 (ints r2.1), flat c17_u0 3 (ints r3.1), rowsC c190_u0 24 3 c190_C0 (List.map ints r16.1)] ∧ AgB (Fr H) H G ∧ env 1 = some v1 ∧ env 5 = some c10_u0 ∧ env 8 = some c17_u0 ∧ env 31 = some c190_u0 ∧ env 39 = some (Value.int .i64 y3_39) ∧ env 292 = some (Value.bool s273)) ?_ ?_)
                  ·
                   rcases Bool.eq_false_or_eq_true (ine (isub .i64 r22 r23) 1) with hb276 | hb276
                   ·replace hL274 := cd_t hb276 hL274;refine .region fun K hK => ?_;simp [e1_1, e1_5, e1_8, e1_31, e1_39, hb276];apply hK;clear hK K;simp only [andThen, leaves];have S277 := S269.pick [0, 1, 2] (by decide) rfl;obtain rfl := Option.some.inj hL274;exact ⟨S277, A270, by simp [e1_1, e1_5, e1_8, e1_31, e1_39]⟩
                   ·replace hL274 := cd_f hb276 hL274;refine .region fun K hK => ?_;simp [e1_1, e1_5, e1_8, e1_31, e1_39, hb276];apply hK;clear hK K;simp only [andThen, leaves];have S278 := S269.pick [0, 1, 2] (by decide) rfl;obtain rfl := Option.some.inj hL274;exact ⟨S278, A270, by simp [e1_1, e1_5, e1_8, e1_31, e1_39]⟩
                  ·rintro env Gj279 ⟨Sj279, Aj279, ej279_1, ej279_5, ej279_8, ej279_31, ej279_39, ej279_292⟩;refine DWp.cond' (t := s273) (by simp [ej279_1, ej279_5, ej279_8, ej279_31, ej279_39, ej279_292]) (fun hb280 => ?_) (fun hb280 => ?_)
                   ·replace hL250 := cd_t hb280 hL250;refine .sr fun K hK => ?_;simp [ej279_1, ej279_5, ej279_8, ej279_31, ej279_39, ej279_292];apply hK;clear hK K;refine DWp.ret ?_;simp only [andThen, leaves];obtain rfl := Option.some.inj hL250;simp only [lr] at hF;obtain rfl := Option.some.inj hF;exact ⟨by simp, [(Value.bool false)], by simp [ej279_1, ej279_5, ej279_8, ej279_31, ej279_39, ej279_292], Aj279, rfl, Sj279.pick [] (by decide) rfl⟩
                   ·replace hL250 := cd_f hb280 hL250;refine DWp.skip ?_;simp only [andThen, leaves];refine .region fun K hK => ?_;simp [ej279_1, ej279_5, ej279_8, ej279_31, ej279_39, ej279_292];apply hK;clear hK K;simp only [andThen, leaves];have S281 := Sj279.pick [0, 1, 2] (by decide) rfl;exact ⟨n1, Nat.lt_succ_self _, (iadd .i64 y3_39 1), hL250, S281, Aj279, by simp [ej279_1, ej279_5, ej279_8, ej279_31, ej279_39, ej279_292]⟩
                 ·replace hL250 := cd_f hb252 hL250;refine DWp.exit ?_;simp only [andThen, leaves, if_true, if_false, reduceIte, Nat.reduceEqDiff];obtain rfl := Option.some.inj hL250;simp only [lr] at hF;refine .sr fun K hK => ?_;simp [e1_1, e1_5, e1_8, e1_31, e1_39];apply hK;clear hK K;refine DWp.ret ?_;obtain rfl := Option.some.inj hF;exact ⟨by simp, [(Value.bool true)], by simp [e1_1, e1_5, e1_8, e1_31, e1_39], A1_, rfl, S1_.pick [] (by decide) rfl⟩
      ·replace hF := cd_f hb117 hF;refine DWp.skip ?_;simp only [andThen, leaves];refine .seq ?_;refine .sr fun K hK => ?_;simp [ej115_1, ej115_5, ej115_8, ej115_11, ej115_12, ej115_13, ej115_14, ej115_17, ej115_19, ej115_130];apply hK;clear hK K;refine DWp.cond' (t := (bnot r4.2)) (by simp [ej115_1, ej115_5, ej115_8, ej115_11, ej115_12, ej115_13, ej115_14, ej115_17, ej115_19, ej115_130]) (fun hb282 => ?_) (fun hb282 => ?_)
       ·replace hF := cd_t hb282 hF;refine .sr fun K hK => ?_;simp [ej115_1, ej115_5, ej115_8, ej115_11, ej115_12, ej115_13, ej115_14, ej115_17, ej115_19, ej115_130];apply hK;clear hK K;refine DWp.ret ?_;simp only [andThen, leaves];obtain rfl := Option.some.inj hF;exact ⟨by simp, [(Value.bool true)], by simp [ej115_1, ej115_5, ej115_8, ej115_11, ej115_12, ej115_13, ej115_14, ej115_17, ej115_19, ej115_130], Aj115, rfl, Sj115.pick [] (by decide) rfl⟩
       ·replace hF := cd_f hb282 hF;refine DWp.skip ?_;simp only [andThen, leaves];have q283 := lenG (P := Tryz.prog) (Sj115.sl (k := 0) rfl) el_24;have g284 : (2 : Int) ≠ 0 := by decide
        obtain ⟨r24, hc285, hF⟩ := bd_some hF;refine .sr fun K hK => ?_;simp [ej115_1, ej115_5, ej115_8, ej115_11, ej115_12, ej115_13, ej115_14, ej115_17, ej115_19, ej115_130, q283, b_quo g284];refine CallD.t (F_impl_AllSystems_w (fu := fu)  hc285) ?_;rintro _ G287 ⟨a290, c286_u0, c286_C0, rfl, S291⟩;have A289 := Aj115.ext (hB.le Aj115.1) a290.agree;have S288 : Sep G287 (Fr H) [flat c10_u0 3 (ints r2.1), flat c17_u0 3 (ints r3.1), flat c46_u0 3 (ints r6), rowsC c53_u0 24 3 c53_C0 (List.map ints r7.1), rowsC c74_u0 24 3 c74_C0 (List.map ints r10.1), rowsC c286_u0 24 3 c286_C0 (List.map ints r24.1)] := Sj115.app a290.agree S291 (fun _ h => h) (hB.le Aj115.1);simp [ej115_1, ej115_5, ej115_8, ej115_11, ej115_12, ej115_13, ej115_14, ej115_17, ej115_19, ej115_130, q283, b_quo g284, a290.pre];apply hK;clear hK K;obtain ⟨r25, hc292, hF⟩ := bd_some hF;refine .sr fun K hK => ?_;simp [ej115_1, ej115_5, ej115_8, ej115_11, ej115_12, ej115_13, ej115_14, ej115_17, ej115_19, ej115_130, ((S288.sl (k := 1) rfl).tup)];refine CallD.t (F_impl_ExchangesOf_w (fu := fu) (S288.sl (k := 1) rfl) hc292) ?_;rintro _ G294 ⟨a297, c293_u0, c293_C0, rfl, S298⟩;have A296 := A289.ext (hB.le A289.1) a297.agree;have S295 : Sep G294 (Fr H) [flat c10_u0 3 (ints r2.1), flat c17_u0 3 (ints r3.1), flat c46_u0 3 (ints r6), rowsC c53_u0 24 3 c53_C0 (List.map ints r7.1), rowsC c74_u0 24 3 c74_C0 (List.map ints r10.1), rowsC c286_u0 24 3 c286_C0 (List.map ints r24.1), rowsC c293_u0 24 3 c293_C0 (List.map ints r25.1)] := S288.app a297.agree S298 (fun _ h => h) (hB.le A289.1);simp [ej115_1, ej115_5, ej115_8, ej115_11, ej115_12, ej115_13, ej115_14, ej115_17, ej115_19, ej115_130, a297.pre];apply hK;clear hK K;obtain ⟨r26, hc299, hF⟩ := bd_some hF;refine .sr fun K hK => ?_
        simp [ej115_1, ej115_5, ej115_8, ej115_11, ej115_12, ej115_13, ej115_14, ej115_17, ej115_19, ej115_130, ((S295.sl (k := 0) rfl).tup)];refine CallD.t (F_impl_SignOf_w (fu := fu) (S295.sl (k := 0) rfl) hc299) ?_;rintro _ G301 ⟨a304, rfl, S305⟩;have A303 := A296.ext (hB.le A296.1) a304.agree;have S302 : Sep G301 (Fr H) [flat c10_u0 3 (ints r2.1), flat c17_u0 3 (ints r3.1), flat c46_u0 3 (ints r6), rowsC c53_u0 24 3 c53_C0 (List.map ints r7.1), rowsC c74_u0 24 3 c74_C0 (List.map ints r10.1), rowsC c286_u0 24 3 c286_C0 (List.map ints r24.1), rowsC c293_u0 24 3 c293_C0 (List.map ints r25.1)] := S295.app a304.agree S305 (fun _ h => h) (hB.le A296.1);simp [ej115_1, ej115_5, ej115_8, ej115_11, ej115_12, ej115_13, ej115_14, ej115_17, ej115_19, ej115_130, a304.pre];apply hK;clear hK K;obtain ⟨r27, hc306, hF⟩ := bd_some hF;refine .sr fun K hK => ?_;simp [ej115_1, ej115_5, ej115_8, ej115_11, ej115_12, ej115_13, ej115_14, ej115_17, ej115_19, ej115_130, ((S302.sl (k := 1) rfl).tup)];refine CallD.t (F_impl_SignOf_w (fu := fu) (S302.sl (k := 1) rfl) hc306) ?_;rintro _ G308 ⟨a311, rfl, S312⟩;have A310 := A303.ext (hB.le A303.1) a311.agree;have S309 : Sep G308 (Fr H) [flat c10_u0 3 (ints r2.1), flat c17_u0 3 (ints r3.1), flat c46_u0 3 (ints r6), rowsC c53_u0 24 3 c53_C0 (List.map ints r7.1), rowsC c74_u0 24 3 c74_C0 (List.map ints r10.1), rowsC c286_u0 24 3 c286_C0 (List.map ints r24.1), rowsC c293_u0 24 3 c293_C0 (List.map ints r25.1)] := S302.app a311.agree S312 (fun _ h => h) (hB.le A303.1);simp [ej115_1, ej115_5, ej115_8, ej115_11, ej115_12, ej115_13, ej115_14, ej115_17, ej115_19, ej115_130, a311.pre];apply hK;clear hK K;refine .seq ?_;obtain ⟨s313, hL314, hF⟩ := bd_some hF
        refine DWp.seq (DWp.join (fun env G => Sep G (Fr H) [flat c10_u0 3 (ints r2.1), flat c17_u0 3 (ints r3.1), rowsC c286_u0 24 3 c286_C0 (List.map ints r24.1)] ∧ AgB (Fr H) H G ∧ env 1 = some v1 ∧ env 5 = some c10_u0 ∧ env 8 = some c17_u0 ∧ env 31 = some c286_u0 ∧ env 264 = some (Value.bool s313)) ?_ ?_)
        ·
         rcases Bool.eq_false_or_eq_true (bnot r24.2) with hb316 | hb316
         ·replace hL314 := cd_t hb316 hL314;refine .region fun K hK => ?_;simp [ej115_1, ej115_5, ej115_8, ej115_11, ej115_12, ej115_13, ej115_14, ej115_17, ej115_19, ej115_130, hb316];apply hK;clear hK K;simp only [andThen, leaves];have S317 := S309.pick [0, 1, 5] (by decide) rfl;obtain rfl := Option.some.inj hL314;exact ⟨S317, A310, by simp [ej115_1, ej115_5, ej115_8, ej115_11, ej115_12, ej115_13, ej115_14, ej115_17, ej115_19, ej115_130]⟩
         ·replace hL314 := cd_f hb316 hL314;rcases Bool.eq_false_or_eq_true (bnot r25.2) with hb318 | hb318
          ·replace hL314 := cd_t hb318 hL314;refine .region fun K hK => ?_;simp [ej115_1, ej115_5, ej115_8, ej115_11, ej115_12, ej115_13, ej115_14, ej115_17, ej115_19, ej115_130, hb316, hb318];apply hK;clear hK K;simp only [andThen, leaves];have S319 := S309.pick [0, 1, 5] (by decide) rfl;obtain rfl := Option.some.inj hL314;exact ⟨S319, A310, by simp [ej115_1, ej115_5, ej115_8, ej115_11, ej115_12, ej115_13, ej115_14, ej115_17, ej115_19, ej115_130]⟩
          ·replace hL314 := cd_f hb318 hL314;rcases Bool.eq_false_or_eq_true (bnot r26.2) with hb320 | hb320
           ·replace hL314 := cd_t hb320 hL314;refine .region fun K hK => ?_;simp [ej115_1, ej115_5, ej115_8, ej115_11, ej115_12, ej115_13, ej115_14, ej115_17, ej115_19, ej115_130, hb316, hb318, hb320];apply hK;clear hK K;simp only [andThen, leaves];have S321 := S309.pick [0, 1, 5] (by decide) rfl;obtain rfl := Option.some.inj hL314;exact ⟨S321, A310, by simp [ej115_1, ej115_5, ej115_8, ej115_11, ej115_12, ej115_13, ej115_14, ej115_17, ej115_19, ej115_130]⟩
           ·replace hL314 := cd_f hb320 hL314;rcases Bool.eq_false_or_eq_true (bnot r27.2) with hb322 | hb322
            ·replace hL314 := cd_t hb322 hL314;refine .region fun K hK => ?_;simp [ej115_1, ej115_5, ej115_8, ej115_11, ej115_12, ej115_13, ej115_14, ej115_17, ej115_19, ej115_130, hb316, hb318, hb320, hb322];apply hK;clear hK K;simp only [andThen, leaves];have S323 := S309.pick [0, 1, 5] (by decide) rfl;obtain rfl := Option.some.inj hL314;exact ⟨S323, A310, by simp [ej115_1, ej115_5, ej115_8, ej115_11, ej115_12, ej115_13, ej115_14, ej115_17, ej115_19, ej115_130]⟩
            ·replace hL314 := cd_f hb322 hL314;obtain ⟨r28, hc324, hL314⟩ := bd_some hL314;refine .region fun K hK => ?_;simp [ej115_1, ej115_5, ej115_8, ej115_11, ej115_12, ej115_13, ej115_14, ej115_17, ej115_19, ej115_130, hb316, hb318, hb320, hb322, ((S309.sl (k := 1) rfl).tup)];refine CallD.t (F_impl_IsSystem_w (fu := fu) (S309.sl (k := 1) rfl) hc324) ?_;rintro _ G326 ⟨a329, rfl, S330⟩;have A328 := A310.ext (hB.le A310.1) a329.agree;have S327 : Sep G326 (Fr H) [flat c10_u0 3 (ints r2.1), flat c17_u0 3 (ints r3.1), flat c46_u0 3 (ints r6), rowsC c53_u0 24 3 c53_C0 (List.map ints r7.1), rowsC c74_u0 24 3 c74_C0 (List.map ints r10.1), rowsC c286_u0 24 3 c286_C0 (List.map ints r24.1), rowsC c293_u0 24 3 c293_C0 (List.map ints r25.1)] := S309.app a329.agree S330 (fun _ h => h) (hB.le A310.1);rcases Bool.eq_false_or_eq_true (bnot r28) with hb331 | hb331
             ·replace hL314 := cd_t hb331 hL314;simp [ej115_1, ej115_5, ej115_8, ej115_11, ej115_12, ej115_13, ej115_14, ej115_17, ej115_19, ej115_130, hb316, hb318, hb320, hb322, hb331, a329.pre];apply hK;clear hK K;simp only [andThen, leaves];have S332 := S327.pick [0, 1, 5] (by decide) rfl;obtain rfl := Option.some.inj hL314;exact ⟨S332, A328, by simp [ej115_1, ej115_5, ej115_8, ej115_11, ej115_12, ej115_13, ej115_14, ej115_17, ej115_19, ej115_130]⟩
             ·replace hL314 := cd_f hb331 hL314;obtain ⟨r29, hc333, hL314⟩ := bd_some hL314;simp [ej115_1, ej115_5, ej115_8, ej115_11, ej115_12, ej115_13, ej115_14, ej115_17, ej115_19, ej115_130, hb316, hb318, hb320, hb322, hb331, a329.pre, ((S327.rd (k := 6) rfl).tup), ((S327.sl (k := 0) rfl).tup)];refine CallD.t (F_laws_sHas_w (fu := fu) ((S327.rd (k := 6) rfl).slsl) (S327.sl (k := 0) rfl) hc333) ?_;rintro _ G335 ⟨a338, rfl, S339⟩;have A337 := A328.ext (hB.le A328.1) a338.agree;have S336 : Sep G335 (Fr H) [flat c10_u0 3 (ints r2.1), flat c17_u0 3 (ints r3.1), flat c46_u0 3 (ints r6), rowsC c53_u0 24 3 c53_C0 (List.map ints r7.1), rowsC c74_u0 24 3 c74_C0 (List.map ints r10.1), rowsC c286_u0 24 3 c286_C0 (List.map ints r24.1), rowsC c293_u0 24 3 c293_C0 (List.map ints r25.1)] := S327.app a338.agree S339 (fun _ h => h) (hB.le A328.1);rcases Bool.eq_false_or_eq_true (bnot r29) with hb340 | hb340
              ·replace hL314 := cd_t hb340 hL314;simp [ej115_1, ej115_5, ej115_8, ej115_11, ej115_12, ej115_13, ej115_14, ej115_17, ej115_19, ej115_130, hb316, hb318, hb320, hb322, hb331, hb340, a329.pre, a338.pre];apply hK;clear hK K;simp only [andThen, leaves];have S341 := S336.pick [0, 1, 5] (by decide) rfl;obtain rfl := Option.some.inj hL314;exact ⟨S341, A337, by simp [ej115_1, ej115_5, ej115_8, ej115_11, ej115_12, ej115_13, ej115_14, ej115_17, ej115_19, ej115_130]⟩
              ·replace hL314 := cd_f hb340 hL314;simp [ej115_1, ej115_5, ej115_8, ej115_11, ej115_12, ej115_13, ej115_14, ej115_17, ej115_19, ej115_130, hb316, hb318, hb320, hb322, hb331, hb340, a329.pre, a338.pre, u_neg];apply hK;clear hK K;simp only [andThen, leaves];have S342 := S336.pick [0, 1, 5] (by decide) rfl;obtain rfl := Option.some.inj hL314;exact ⟨S342, A337, by simp [ej115_1, ej115_5, ej115_8, ej115_11, ej115_12, ej115_13, ej115_14, ej115_17, ej115_19, ej115_130]⟩
        ·rintro env Gj343 ⟨Sj343, Aj343, ej343_1, ej343_5, ej343_8, ej343_31, ej343_264⟩;refine DWp.cond' (t := s313) (by simp [ej343_1, ej343_5, ej343_8, ej343_31, ej343_264]) (fun hb344 => ?_) (fun hb344 => ?_)
         ·replace hF := cd_t hb344 hF;refine .sr fun K hK => ?_;simp [ej343_1, ej343_5, ej343_8, ej343_31, ej343_264];apply hK;clear hK K;refine DWp.ret ?_;simp only [andThen, leaves];obtain rfl := Option.some.inj hF;exact ⟨by simp, [(Value.bool false)], by simp [ej343_1, ej343_5, ej343_8, ej343_31, ej343_264], Aj343, rfl, Sj343.pick [] (by decide) rfl⟩
         ·replace hF := cd_f hb344 hF;refine DWp.skip ?_;simp only [andThen, leaves];refine .seq ?_;refine .sr fun K hK => ?_;simp [ej343_1, ej343_5, ej343_8, ej343_31, ej343_264];apply hK;clear hK K;refine .block ?_;obtain ⟨s345, hL346, hF⟩ := bd_some hF;have S347 := Sj343.pick [0, 1, 2] (by decide) rfl;refine DWp.loop (fun n env G => ∃ y4_39 : Int, F_laws_FnExchangesChangeByOne_L4 fu x1 r2.1 r3.1 r24.1 n y4_39 = some s345 ∧ Sep G (Fr H) [flat c10_u0 3 (ints r2.1), flat c17_u0 3 (ints r3.1), rowsC c286_u0 24 3 c286_C0 (List.map ints r24.1)] ∧ AgB (Fr H) H G ∧ env 1 = some v1 ∧ env 5 = some c10_u0 ∧ env 8 = some c17_u0 ∧ env 31 = some c286_u0 ∧ env 39 = some (Value.int .i64 y4_39)) fu ⟨0, hL346, S347, Aj343, by simp [ej343_1, ej343_5, ej343_8, ej343_31, ej343_264]⟩ ?_;rintro n1 env1 G1_ ⟨y4_39, hL346, S1_, A1_, e1_1, e1_5, e1_8, e1_31, e1_39⟩;cases n1 with
          | zero => cases hL346
          | succ n1 =>
           simp only [F_laws_FnExchangesChangeByOne_L4] at hL346;refine .seq ?_;refine .sr fun K hK => ?_;simp [e1_1, e1_5, e1_8, e1_31, e1_39];apply hK;clear hK K;refine DWp.cond' (t := (ilt y4_39 6)) (by simp [e1_1, e1_5, e1_8, e1_31, e1_39]) (fun hb348 => ?_) (fun hb348 => ?_)
           ·replace hL346 := cd_t hb348 hL346;refine DWp.skip ?_;simp only [andThen, leaves];refine .seq ?_;refine .block ?_;have q349 := lenG (P := Tryz.prog) (hx1.agree A1_.agree) el_22;have q350 := (S1_.rd (k := 2) rfl).lenG (P := Tryz.prog) el_31;obtain ⟨g351, hL346⟩ := gd_some hL346;obtain ⟨g352, hL346⟩ := gd_some hL346;have q353 := (S1_.rd (k := 2) rfl).idxG (P := Tryz.prog) (kk := .i64) el_31 sz_24 g352;have q354 := (S1_.rd (k := 2) rfl).loadG (P := Tryz.prog) sz_24 ag_24 g352;refine .sr fun K hK => ?_;simp [e1_1, e1_5, e1_8, e1_31, e1_39, q349, q350, b_rem g351, q353, q354];apply hK;clear hK K;obtain ⟨r30, hc355, hL346⟩ := bd_some hL346;refine .sr fun K hK => ?_;simp [e1_1, e1_5, e1_8, e1_31, e1_39, ((S1_.sl (k := 1) rfl).tup), (((S1_.rd (k := 2) rfl).rowAt [] g352).tup)];refine CallD.t (F_laws_sCount_w (fu := fu) (S1_.sl (k := 1) rfl) ((S1_.rd (k := 2) rfl).rowAt [] g352) hc355) ?_;rintro _ G357 ⟨a360, rfl, S361⟩;have A359 := A1_.ext (hB.le A1_.1) a360.agree;have S358 : Sep G357 (Fr H) [flat c10_u0 3 (ints r2.1), flat c17_u0 3 (ints r3.1), rowsC c286_u0 24 3 c286_C0 (List.map ints r24.1)] := S1_.app a360.agree S361 (fun _ h => h) (hB.le A1_.1);obtain ⟨r31, hc362, hL346⟩ := bd_some hL346;simp [e1_1, e1_5, e1_8, e1_31, e1_39, a360.pre, ((S358.sl (k := 0) rfl).tup), (((S358.rd (k := 2) rfl).rowAt [] g352).tup)];refine CallD.t (F_laws_sCount_w (fu := fu) (S358.sl (k := 0) rfl) ((S358.rd (k := 2) rfl).rowAt [] g352) hc362) ?_;rintro _ G364 ⟨a367, rfl, S368⟩;have A366 := A359.ext (hB.le A359.1) a367.agree;have S365 : Sep G364 (Fr H) [flat c10_u0 3 (ints r2.1), flat c17_u0 3 (ints r3.1), rowsC c286_u0 24 3 c286_C0 (List.map ints r24.1)] := S358.app a367.agree S368 (fun _ h => h) (hB.le A359.1);simp [e1_1, e1_5, e1_8, e1_31, e1_39, a360.pre, a367.pre];apply hK;clear hK K
            obtain ⟨s369, hL370, hL346⟩ := bd_some hL346;refine DWp.seq (DWp.join (fun env G => Sep G (Fr H) [flat c10_u0 3 (ints r2.1), flat c17_u0 3 (ints r3.1), rowsC c286_u0 24 3 c286_C0 (List.map ints r24.1)] ∧ AgB (Fr H) H G ∧ env 1 = some v1 ∧ env 5 = some c10_u0 ∧ env 8 = some c17_u0 ∧ env 31 = some c286_u0 ∧ env 39 = some (Value.int .i64 y4_39) ∧ env 292 = some (Value.bool s369)) ?_ ?_)
            ·
             rcases Bool.eq_false_or_eq_true (ine (isub .i64 r30 r31) 1) with hb372 | hb372
             ·replace hL370 := cd_t hb372 hL370;refine .region fun K hK => ?_;simp [e1_1, e1_5, e1_8, e1_31, e1_39, hb372];apply hK;clear hK K;simp only [andThen, leaves];have S373 := S365.pick [0, 1, 2] (by decide) rfl;obtain rfl := Option.some.inj hL370;exact ⟨S373, A366, by simp [e1_1, e1_5, e1_8, e1_31, e1_39]⟩
             ·replace hL370 := cd_f hb372 hL370;refine .region fun K hK => ?_;simp [e1_1, e1_5, e1_8, e1_31, e1_39, hb372];apply hK;clear hK K;simp only [andThen, leaves];have S374 := S365.pick [0, 1, 2] (by decide) rfl;obtain rfl := Option.some.inj hL370;exact ⟨S374, A366, by simp [e1_1, e1_5, e1_8, e1_31, e1_39]⟩
            ·rintro env Gj375 ⟨Sj375, Aj375, ej375_1, ej375_5, ej375_8, ej375_31, ej375_39, ej375_292⟩;refine DWp.cond' (t := s369) (by simp [ej375_1, ej375_5, ej375_8, ej375_31, ej375_39, ej375_292]) (fun hb376 => ?_) (fun hb376 => ?_)
             ·replace hL346 := cd_t hb376 hL346;refine .sr fun K hK => ?_;simp [ej375_1, ej375_5, ej375_8, ej375_31, ej375_39, ej375_292];apply hK;clear hK K;refine DWp.ret ?_;simp only [andThen, leaves];obtain rfl := Option.some.inj hL346;simp only [lr] at hF;obtain rfl := Option.some.inj hF;exact ⟨by simp, [(Value.bool false)], by simp [ej375_1, ej375_5, ej375_8, ej375_31, ej375_39, ej375_292], Aj375, rfl, Sj375.pick [] (by decide) rfl⟩
             ·replace hL346 := cd_f hb376 hL346;refine DWp.skip ?_;simp only [andThen, leaves];refine .region fun K hK => ?_;simp [ej375_1, ej375_5, ej375_8, ej375_31, ej375_39, ej375_292];apply hK;clear hK K;simp only [andThen, leaves];have S377 := Sj375.pick [0, 1, 2] (by decide) rfl;exact ⟨n1, Nat.lt_succ_self _, (iadd .i64 y4_39 1), hL346, S377, Aj375, by simp [ej375_1, ej375_5, ej375_8, ej375_31, ej375_39, ej375_292]⟩
           ·replace hL346 := cd_f hb348 hL346;refine DWp.exit ?_;simp only [andThen, leaves, if_true, if_false, reduceIte, Nat.reduceEqDiff];obtain rfl := Option.some.inj hL346;simp only [lr] at hF;refine .sr fun K hK => ?_;simp [e1_1, e1_5, e1_8, e1_31, e1_39];apply hK;clear hK K;refine DWp.ret ?_;obtain rfl := Option.some.inj hF;exact ⟨by simp, [(Value.bool true)], by simp [e1_1, e1_5, e1_8, e1_31, e1_39], A1_, rfl, S1_.pick [] (by decide) rfl⟩
end Go.Proofs.YtogghgecmjnieaaGreat.AL

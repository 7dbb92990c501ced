/- The walks of functions, each with its Lean function: laws.FnExactWindRun. No condition. -/
import Derived.Test.YtcbdgkgdopkofaaDoorG1
import Derived.Test.YtcbdgkgdopkofaaDoorG2
import Derived.Test.YtcbdgkgdopkofaaDoorG3
import Derived.Test.YtcbdgkgdopkofaaDoorG4
import Derived.Test.YtcbdgkgdopkofaaDoorG5
import Derived.Test.YtcbdgkgdopkofaaDoorG6
import Derived.Test.YtcbdgkgdopkofaaDoorG7
import Derived.Test.YtcbdgkgdopkofaaDoorGJoin
import Derived.Test.YtcbdgkgdopkofaaDoorGRun
import Derived.Test.YtcbdgkgdopkofaaDoorALD
import Derived.Test.YtcbdgkgdopkofaaDoorProg
import Derived.KernelRfl
namespace Go.Proofs.YtcbdgkgdopkofaaDoor.AL
open Go Go.RowKit
set_option linter.unusedVariables false
set_option linter.unusedSimpArgs false
set_option maxRecDepth 4096
attribute [local simp] n_fn b_add b_sub b_mul b_lt b_le b_gt b_ge b_eq b_ne u_not

def F_laws_FnExactWindRun (fu : Nat) (x0_0 : List Int) (x0_1 : List Int) : Option (Bool) :=
  bd (F_laws_szSeaweed fu x0_0 x0_1 1048576) fun r1 =>
  bif (ilt r1 0) then
    some true
  else
    bd (F_laws_toSeaweed fu x0_0 x0_1) fun r2 =>
    bd (F_spec_WindRun fu r2.1 r2.2) fun r3 =>
    bd (F_laws_toSeaweed fu x0_0 x0_1) fun r4 =>
    bd (F_impl_WindRun fu r4.1 r4.2) fun r5 =>
    bd (
      bd (F_laws_eqStringS fu r5.1 r3.1) fun r6 =>
      bif (bnot r6) then
        some true
      else
        some (bne' r5.2 r3.2)) fun s60 =>
    bif s60 then
      some false
    else
      bd (F_laws_toSeaweed fu x0_0 x0_1) fun r7 =>
      bd (F_laws_eqSeaweed fu r4.1 r4.2 r7.1 r7.2) fun r8 =>
      bif (bnot r8) then
        some false
      else
        bd (F_laws_markSeaweed fu r4.1 r4.2 1) fun r9 =>
        bd (
          bif (ilt r9.1 0) then
            some true
          else
            bd (F_laws_eqStringS fu r5.1 r3.1) fun r10 =>
            bif (bnot r10) then
              some true
            else
              some (bne' r5.2 r3.2)) fun s107 =>
        bif s107 then
          some false
        else
          bd (F_laws_markStringS fu r5.1 1) fun r11 =>
          bd (F_laws_heldStringS fu r11.2 1) fun r12 =>
          bif (ilt r12 0) then
            some false
          else
            bif (ine r12 r11.1) then
              some false
            else
              bd (F_laws_toSeaweed fu x0_0 x0_1) fun r13 =>
              bd (F_impl_WindRun fu r13.1 r13.2) fun r14 =>
              bd (
                bd (F_laws_eqStringS fu r14.1 r3.1) fun r15 =>
                bif (bnot r15) then
                  some true
                else
                  some (bne' r14.2 r3.2)) fun s162 =>
              bif s162 then
                some false
              else
                bd (F_laws_heldStringS fu r11.2 1) fun r16 =>
                bif (ilt r16 0) then
                  some false
                else
                  bif (ine r16 r11.1) then
                    some false
                  else
                    some true
theorem F_laws_FnExactWindRun_w {fu : Nat} {H : AH} {v0_0 : Value} {v0_1 : Value} {x0_0 : List Int} {x0_1 : List Int} {r : (Bool)} (hx0_0 : Sl H v0_0 (ints x0_0)) (hx0_1 : Sl H v0_1 (ints x0_1)) (hF : F_laws_FnExactWindRun fu x0_0 x0_1 = some r) :
    ACallT Tryd.prog 4 [(Value.agg #[v0_0, v0_1])] H (fun u G => AgB (Fr H) H G ∧ u = (Value.bool r) ∧ Sep G (Fr H) []) := by
 refine ACallT.of_body (nt := 96) (rs := [.tmp 2]) Tryd.func4 rfl rfl rfl rfl ?_;have A0 : AgB (Fr H) H H := .refl _ _;have S0 : Sep H (Fr H) [] := .nil;have hB := Fr.up H;unfold F_laws_FnExactWindRun at hF;obtain ⟨G2, p4, q5, q6, a7, S1⟩ := S0.boxT (hB.le A0.1) 24 [v0_0, v0_1];have A3 := A0.ext (hB.le A0.1) a7;replace S1 : Sep G2 (Fr H) [AL.box p4 [v0_0, v0_1]] := S1;refine .sr fun K hK => ?_;simp [q5, q6, a7.to_pre, cells_agg];apply hK;clear hK K;refine .sr fun K hK => ?_;simp [];apply hK;clear hK K;have q8 := S1.loadAgg (P := Tryd.prog) (k := 0) rfl sz_24 ag_24 rfl;obtain ⟨r1, hc9, hF⟩ := bd_some hF;refine .sr fun K hK => ?_;simp [q8, ((hx0_0.agree A3.agree).tup), ((hx0_1.agree A3.agree).tup)];refine CallD.t (F_laws_szSeaweed_w (fu := fu) (hx0_0.agree A3.agree) (hx0_1.agree A3.agree) hc9) ?_;rintro _ G11 ⟨a14, rfl, S15⟩;have A13 := A3.ext (hB.le A3.1) a14.agree;have S12 : Sep G11 (Fr H) [AL.box p4 [v0_0, v0_1]] := S1.app a14.agree S15 (fun _ h => h) (hB.le A3.1);simp [q8, a14.pre];apply hK;clear hK K;refine .seq ?_;refine .sr fun K hK => ?_;simp [];apply hK;clear hK K;refine DWp.cond' (t := (ilt r1 0)) (by simp []) (fun hb16 => ?_) (fun hb16 => ?_)
 ·replace hF := cd_t hb16 hF;refine .sr fun K hK => ?_;simp [];apply hK;clear hK K;refine DWp.ret ?_;simp only [andThen, leaves];obtain rfl := Option.some.inj hF;exact ⟨by simp, [(Value.bool true)], by simp [], A13, rfl, S12.pick [] (by decide) rfl⟩
 ·replace hF := cd_f hb16 hF;refine DWp.skip ?_;simp only [andThen, leaves];have q17 := S12.loadAgg (P := Tryd.prog) (k := 0) rfl sz_24 ag_24 rfl;obtain ⟨r2, hc18, hF⟩ := bd_some hF;refine .sr fun K hK => ?_;simp [q17, ((hx0_0.agree A13.agree).tup), ((hx0_1.agree A13.agree).tup)];refine CallD.t (F_laws_toSeaweed_w (fu := fu) (hx0_0.agree A13.agree) (hx0_1.agree A13.agree) hc18) ?_;rintro _ G20 ⟨a23, c19_u0, c19_u1, rfl, S24⟩;have A22 := A13.ext (hB.le A13.1) a23.agree;have S21 : Sep G20 (Fr H) [AL.box p4 [v0_0, v0_1], flat c19_u0 3 (ints r2.1), flat c19_u1 3 (ints r2.2)] := S12.app a23.agree S24 (fun _ h => h) (hB.le A13.1);obtain ⟨r3, hc25, hF⟩ := bd_some hF;simp [q17, a23.pre, ((S21.sl (k := 1) rfl).tup), ((S21.sl (k := 2) rfl).tup)];refine CallD.t (F_spec_WindRun_w (fu := fu) (S21.sl (k := 1) rfl) (S21.sl (k := 2) rfl) hc25) ?_;rintro _ G27 ⟨a30, c26_u0, rfl, S31⟩;have A29 := A22.ext (hB.le A22.1) a30.agree;have S28 : Sep G27 (Fr H) [AL.box p4 [v0_0, v0_1], flat c19_u0 3 (ints r2.1), flat c19_u1 3 (ints r2.2), flat c26_u0 9 (strs r3.1)] := S21.app a30.agree S31 (fun _ h => h) (hB.le A22.1);simp [q17, a23.pre, a30.pre];apply hK;clear hK K;have q32 := S28.loadAgg (P := Tryd.prog) (k := 0) rfl sz_24 ag_24 rfl;obtain ⟨r4, hc33, hF⟩ := bd_some hF;refine .sr fun K hK => ?_;simp [q32, ((hx0_0.agree A29.agree).tup), ((hx0_1.agree A29.agree).tup)];refine CallD.t (F_laws_toSeaweed_w (fu := fu) (hx0_0.agree A29.agree) (hx0_1.agree A29.agree) hc33) ?_;rintro _ G35 ⟨a38, c34_u0, c34_u1, rfl, S39⟩;have A37 := A29.ext (hB.le A29.1) a38.agree;have S36 : Sep G35 (Fr H) [AL.box p4 [v0_0, v0_1], flat c19_u0 3 (ints r2.1), flat c19_u1 3 (ints r2.2), flat c26_u0 9 (strs r3.1), flat c34_u0 3 (ints r4.1), flat c34_u1 3 (ints r4.2)] := S28.app a38.agree S39 (fun _ h => h) (hB.le A29.1)
  obtain ⟨G41, p43, q44, q46, a45, S40⟩ := S36.allocT (P := Tryd.prog) (hB.le A37.1) ze_28 rfl;have A42 := A37.ext (hB.le A37.1) a45;replace S40 : Sep G41 (Fr H) [AL.box p4 [v0_0, v0_1], flat c19_u0 3 (ints r2.1), flat c19_u1 3 (ints r2.2), flat c26_u0 9 (strs r3.1), flat c34_u0 3 (ints r4.1), flat c34_u1 3 (ints r4.2), AL.box p43 [(Value.slice none 0 0), (Value.slice none 0 0)]] := S40;obtain ⟨G47, q48, S49, a51⟩ := S40.putAgg (P := Tryd.prog) (k := 6) (xs := [c34_u0, c34_u1]) rfl (hB.le A42.1) sz_28 rfl rfl;have A50 := A42.trans a51;replace S49 : Sep G47 (Fr H) [AL.box p4 [v0_0, v0_1], flat c19_u0 3 (ints r2.1), flat c19_u1 3 (ints r2.2), flat c26_u0 9 (strs r3.1), flat c34_u0 3 (ints r4.1), flat c34_u1 3 (ints r4.2), AL.box p43 [c34_u0, c34_u1]] := S49;simp [q32, a38.pre, q44, q46, a45.to_pre, q48];apply hK;clear hK K;have q52 := S49.loadAgg (P := Tryd.prog) (k := 6) rfl sz_28 ag_28 rfl;obtain ⟨r5, hc53, hF⟩ := bd_some hF;refine .sr fun K hK => ?_;simp [q52, ((S49.sl (k := 4) rfl).tup), ((S49.sl (k := 5) rfl).tup)];refine CallD.t (F_impl_WindRun_w (fu := fu) (S49.sl (k := 4) rfl) (S49.sl (k := 5) rfl) hc53) ?_;rintro _ G55 ⟨a58, c54_u0, rfl, S59⟩;have A57 := A50.ext (hB.le A50.1) a58.agree;have S56 : Sep G55 (Fr H) [AL.box p4 [v0_0, v0_1], flat c19_u0 3 (ints r2.1), flat c19_u1 3 (ints r2.2), flat c26_u0 9 (strs r3.1), flat c34_u0 3 (ints r4.1), flat c34_u1 3 (ints r4.2), AL.box p43 [c34_u0, c34_u1], flat c54_u0 9 (strs r5.1)] := S49.app a58.agree S59 (fun _ h => h) (hB.le A50.1);simp [q52, a58.pre];apply hK;clear hK K;refine .seq ?_;obtain ⟨s60, hL61, hF⟩ := bd_some hF
  refine DWp.seq (DWp.join (fun env G => Sep G (Fr H) [AL.box p4 [v0_0, v0_1], flat c26_u0 9 (strs r3.1), AL.box p43 [c34_u0, c34_u1], flat c34_u0 3 (ints r4.1), flat c34_u1 3 (ints r4.2), flat c54_u0 9 (strs r5.1)] ∧ AgB (Fr H) H G ∧ env 1 = some p4 ∧ env 4 = some c26_u0 ∧ env 5 = some (Value.bool r3.2) ∧ env 6 = some p43 ∧ env 7 = some c54_u0 ∧ env 8 = some (Value.bool r5.2) ∧ env 40 = some (Value.bool s60)) ?_ ?_)
  ·
   obtain ⟨r6, hc63, hL61⟩ := bd_some hL61;refine .region fun K hK => ?_;simp [((S56.sl (k := 7) rfl).tup), ((S56.sl (k := 3) rfl).tup)];refine CallD.t (F_laws_eqStringS_w (fu := fu) (S56.sl (k := 7) rfl) (S56.sl (k := 3) rfl) hc63) ?_;rintro _ G65 ⟨a68, rfl, S69⟩;have A67 := A57.ext (hB.le A57.1) a68.agree;have S66 : Sep G65 (Fr H) [AL.box p4 [v0_0, v0_1], flat c19_u0 3 (ints r2.1), flat c19_u1 3 (ints r2.2), flat c26_u0 9 (strs r3.1), flat c34_u0 3 (ints r4.1), flat c34_u1 3 (ints r4.2), AL.box p43 [c34_u0, c34_u1], flat c54_u0 9 (strs r5.1)] := S56.app a68.agree S69 (fun _ h => h) (hB.le A57.1);rcases Bool.eq_false_or_eq_true (bnot r6) with hb70 | hb70
   ·replace hL61 := cd_t hb70 hL61;simp [hb70, a68.pre];apply hK;clear hK K;simp only [andThen, leaves];have S71 := S66.pick [0, 3, 6, 4, 5, 7] (by decide) rfl;obtain rfl := Option.some.inj hL61;exact ⟨S71, A67, by simp []⟩
   ·replace hL61 := cd_f hb70 hL61;simp [hb70, a68.pre, b_bne un_4];apply hK;clear hK K;simp only [andThen, leaves];have S72 := S66.pick [0, 3, 6, 4, 5, 7] (by decide) rfl;obtain rfl := Option.some.inj hL61;exact ⟨S72, A67, by simp []⟩
  ·rintro env Gj73 ⟨Sj73, Aj73, ej73_⟩;refine DWp.cond' (t := s60) (by simp [ej73_]) (fun hb74 => ?_) (fun hb74 => ?_)
   ·replace hF := cd_t hb74 hF;refine .sr fun K hK => ?_;simp [ej73_];apply hK;clear hK K;refine DWp.ret ?_;simp only [andThen, leaves];obtain rfl := Option.some.inj hF;exact ⟨by simp, [(Value.bool false)], by simp [ej73_], Aj73, rfl, Sj73.pick [] (by decide) rfl⟩
   ·replace hF := cd_f hb74 hF;refine DWp.skip ?_;simp only [andThen, leaves];refine .seq ?_;have q75 := Sj73.loadAgg (P := Tryd.prog) (k := 2) rfl sz_28 ag_28 rfl;have q76 := Sj73.loadAgg (P := Tryd.prog) (k := 0) rfl sz_24 ag_24 rfl;obtain ⟨r7, hc77, hF⟩ := bd_some hF;refine .sd (B := [0, 0, 2, 7, 15]) 5 mixed (by kernel_rfl) (by decide) fun K hK => ?_;simp [ej73_, q75, q76, ((hx0_0.agree Aj73.agree).tup), ((hx0_1.agree Aj73.agree).tup)];refine CallD.t (F_laws_toSeaweed_w (fu := fu) (hx0_0.agree Aj73.agree) (hx0_1.agree Aj73.agree) hc77) ?_;rintro _ G79 ⟨a82, c78_u0, c78_u1, rfl, S83⟩;have A81 := Aj73.ext (hB.le Aj73.1) a82.agree;have S80 : Sep G79 (Fr H) [AL.box p4 [v0_0, v0_1], flat c26_u0 9 (strs r3.1), AL.box p43 [c34_u0, c34_u1], flat c34_u0 3 (ints r4.1), flat c34_u1 3 (ints r4.2), flat c54_u0 9 (strs r5.1), flat c78_u0 3 (ints r7.1), flat c78_u1 3 (ints r7.2)] := Sj73.app a82.agree S83 (fun _ h => h) (hB.le Aj73.1);obtain ⟨r8, hc84, hF⟩ := bd_some hF;simp [ej73_, q75, q76, a82.pre, ((S80.sl (k := 3) rfl).tup), ((S80.sl (k := 4) rfl).tup), ((S80.sl (k := 6) rfl).tup), ((S80.sl (k := 7) rfl).tup)];refine CallD.t (F_laws_eqSeaweed_w (fu := fu) (S80.sl (k := 3) rfl) (S80.sl (k := 4) rfl) (S80.sl (k := 6) rfl) (S80.sl (k := 7) rfl) hc84) ?_;rintro _ G86 ⟨a89, rfl, S90⟩;have A88 := A81.ext (hB.le A81.1) a89.agree;have S87 : Sep G86 (Fr H) [AL.box p4 [v0_0, v0_1], flat c26_u0 9 (strs r3.1), AL.box p43 [c34_u0, c34_u1], flat c34_u0 3 (ints r4.1), flat c34_u1 3 (ints r4.2), flat c54_u0 9 (strs r5.1), flat c78_u0 3 (ints r7.1), flat c78_u1 3 (ints r7.2)] := S80.app a89.agree S90 (fun _ h => h) (hB.le A81.1);simp [ej73_, q75, q76, a82.pre, a89.pre];apply hK;clear hK K;refine DWp.cond' (t := (bnot r8)) (by simp [ej73_]) (fun hb91 => ?_) (fun hb91 => ?_)
    ·replace hF := cd_t hb91 hF;refine .sr fun K hK => ?_;simp [ej73_];apply hK;clear hK K;refine DWp.ret ?_;simp only [andThen, leaves];obtain rfl := Option.some.inj hF;exact ⟨by simp, [(Value.bool false)], by simp [ej73_], A88, rfl, S87.pick [] (by decide) rfl⟩
    ·replace hF := cd_f hb91 hF;refine DWp.skip ?_;simp only [andThen, leaves];refine .sr fun K hK => ?_;simp [ej73_];apply hK;clear hK K;have q92 := S87.loadAgg (P := Tryd.prog) (k := 2) rfl sz_28 ag_28 rfl;obtain ⟨r9, hc93, hF⟩ := bd_some hF;refine .sr fun K hK => ?_;simp [ej73_, q92, ((S87.sl (k := 3) rfl).tup), ((S87.sl (k := 4) rfl).tup)];have S94 : Sep G86 (Fr H) ([flat c34_u0 3 (ints r4.1), flat c34_u1 3 (ints r4.2)] ++ [AL.box p4 [v0_0, v0_1], flat c26_u0 9 (strs r3.1), AL.box p43 [c34_u0, c34_u1], flat c54_u0 9 (strs r5.1), flat c78_u0 3 (ints r7.1), flat c78_u1 3 (ints r7.2)]) := S87.pick [3, 4, 0, 1, 2, 5, 6, 7] (by decide) rfl;obtain ⟨B100, S95, U96, M97, R98, C99⟩ := S94.frame (hB.le A88.1);refine CallD.t (F_laws_markSeaweed_w (fu := fu) U96 S95 hc93) ?_;rintro _ G102 ⟨a105, rfl, S106⟩;have A104 := A88.trans (a105.mono M97);have S103 : Sep G102 (Fr H) [flat c34_u0 3 (ints r9.2.1), flat c34_u1 3 (ints r9.2.2), AL.box p4 [v0_0, v0_1], flat c26_u0 9 (strs r3.1), AL.box p43 [c34_u0, c34_u1], flat c54_u0 9 (strs r5.1), flat c78_u0 3 (ints r7.1), flat c78_u1 3 (ints r7.2)] := C99 _ _ a105 S106;simp [ej73_, q92];apply hK;clear hK K;refine .seq ?_;obtain ⟨s107, hL108, hF⟩ := bd_some hF;refine DWp.seq (DWp.join (fun env G => Sep G (Fr H) [AL.box p4 [v0_0, v0_1], flat c26_u0 9 (strs r3.1), flat c54_u0 9 (strs r5.1)] ∧ AgB (Fr H) H G ∧ env 1 = some p4 ∧ env 4 = some c26_u0 ∧ env 5 = some (Value.bool r3.2) ∧ env 7 = some c54_u0 ∧ env 61 = some (Value.bool s107)) ?_ ?_)
     ·
      rcases Bool.eq_false_or_eq_true (ilt r9.1 0) with hb110 | hb110
      ·replace hL108 := cd_t hb110 hL108;refine .region fun K hK => ?_;simp [ej73_, hb110];apply hK;clear hK K;simp only [andThen, leaves];have S111 := S103.pick [2, 3, 5] (by decide) rfl;obtain rfl := Option.some.inj hL108;exact ⟨S111, A104, by simp [ej73_]⟩
      ·replace hL108 := cd_f hb110 hL108;obtain ⟨r10, hc112, hL108⟩ := bd_some hL108;refine .region fun K hK => ?_;simp [ej73_, hb110, ((S103.sl (k := 5) rfl).tup), ((S103.sl (k := 3) rfl).tup)];refine CallD.t (F_laws_eqStringS_w (fu := fu) (S103.sl (k := 5) rfl) (S103.sl (k := 3) rfl) hc112) ?_;rintro _ G114 ⟨a117, rfl, S118⟩;have A116 := A104.ext (hB.le A104.1) a117.agree;have S115 : Sep G114 (Fr H) [flat c34_u0 3 (ints r9.2.1), flat c34_u1 3 (ints r9.2.2), AL.box p4 [v0_0, v0_1], flat c26_u0 9 (strs r3.1), AL.box p43 [c34_u0, c34_u1], flat c54_u0 9 (strs r5.1), flat c78_u0 3 (ints r7.1), flat c78_u1 3 (ints r7.2)] := S103.app a117.agree S118 (fun _ h => h) (hB.le A104.1);rcases Bool.eq_false_or_eq_true (bnot r10) with hb119 | hb119
       ·replace hL108 := cd_t hb119 hL108;simp [ej73_, hb110, hb119, a117.pre];apply hK;clear hK K;simp only [andThen, leaves];have S120 := S115.pick [2, 3, 5] (by decide) rfl;obtain rfl := Option.some.inj hL108;exact ⟨S120, A116, by simp [ej73_]⟩
       ·replace hL108 := cd_f hb119 hL108;simp [ej73_, hb110, hb119, a117.pre, b_bne un_4];apply hK;clear hK K;simp only [andThen, leaves];have S121 := S115.pick [2, 3, 5] (by decide) rfl;obtain rfl := Option.some.inj hL108;exact ⟨S121, A116, by simp [ej73_]⟩
     ·rintro env Gj122 ⟨Sj122, Aj122, ej122_⟩;refine DWp.cond' (t := s107) (by simp [ej122_]) (fun hb123 => ?_) (fun hb123 => ?_)
      ·replace hF := cd_t hb123 hF;refine .sr fun K hK => ?_;simp [ej122_];apply hK;clear hK K;refine DWp.ret ?_;simp only [andThen, leaves];obtain rfl := Option.some.inj hF;exact ⟨by simp, [(Value.bool false)], by simp [ej122_], Aj122, rfl, Sj122.pick [] (by decide) rfl⟩
      ·replace hF := cd_f hb123 hF;refine DWp.skip ?_;simp only [andThen, leaves];refine .sr fun K hK => ?_;simp [ej122_];apply hK;clear hK K;obtain ⟨r11, hc124, hF⟩ := bd_some hF;refine .sr fun K hK => ?_;simp [ej122_, ((Sj122.sl (k := 2) rfl).tup)];have S125 : Sep Gj122 (Fr H) ([flat c54_u0 9 (strs r5.1)] ++ [AL.box p4 [v0_0, v0_1], flat c26_u0 9 (strs r3.1)]) := Sj122.pick [2, 0, 1] (by decide) rfl;obtain ⟨B131, S126, U127, M128, R129, C130⟩ := S125.frame (hB.le Aj122.1);refine CallD.t (F_laws_markStringS_w (fu := fu) U127 S126 hc124) ?_;rintro _ G133 ⟨a136, rfl, S137⟩;have A135 := Aj122.trans (a136.mono M128);have S134 : Sep G133 (Fr H) [flat c54_u0 9 (strs r11.2), AL.box p4 [v0_0, v0_1], flat c26_u0 9 (strs r3.1)] := C130 _ _ a136 S137;simp [ej122_];apply hK;clear hK K;refine .sr fun K hK => ?_;simp [ej122_];apply hK;clear hK K;obtain ⟨r12, hc138, hF⟩ := bd_some hF;refine .sr fun K hK => ?_;simp [ej122_, ((S134.sl (k := 0) rfl).tup)];refine CallD.t (F_laws_heldStringS_w (fu := fu) (S134.sl (k := 0) rfl) hc138) ?_;rintro _ G140 ⟨a143, rfl, S144⟩;have A142 := A135.ext (hB.le A135.1) a143.agree;have S141 : Sep G140 (Fr H) [flat c54_u0 9 (strs r11.2), AL.box p4 [v0_0, v0_1], flat c26_u0 9 (strs r3.1)] := S134.app a143.agree S144 (fun _ h => h) (hB.le A135.1);simp [ej122_, a143.pre];apply hK;clear hK K;refine .seq ?_;refine .sr fun K hK => ?_;simp [ej122_];apply hK;clear hK K;refine DWp.cond' (t := (ilt r12 0)) (by simp [ej122_]) (fun hb145 => ?_) (fun hb145 => ?_)
       ·replace hF := cd_t hb145 hF;refine .sr fun K hK => ?_;simp [ej122_];apply hK;clear hK K;refine DWp.ret ?_;simp only [andThen, leaves];obtain rfl := Option.some.inj hF;exact ⟨by simp, [(Value.bool false)], by simp [ej122_], A142, rfl, S141.pick [] (by decide) rfl⟩
       ·replace hF := cd_f hb145 hF;refine DWp.skip ?_;simp only [andThen, leaves];refine .seq ?_;refine .sr fun K hK => ?_;simp [ej122_];apply hK;clear hK K;refine DWp.cond' (t := (ine r12 r11.1)) (by simp [ej122_]) (fun hb146 => ?_) (fun hb146 => ?_)
        ·replace hF := cd_t hb146 hF;refine .sr fun K hK => ?_;simp [ej122_];apply hK;clear hK K;refine DWp.ret ?_;simp only [andThen, leaves];obtain rfl := Option.some.inj hF;exact ⟨by simp, [(Value.bool false)], by simp [ej122_], A142, rfl, S141.pick [] (by decide) rfl⟩
        ·replace hF := cd_f hb146 hF;refine DWp.skip ?_;simp only [andThen, leaves];have q147 := S141.loadAgg (P := Tryd.prog) (k := 1) rfl sz_24 ag_24 rfl;obtain ⟨r13, hc148, hF⟩ := bd_some hF;refine .sr fun K hK => ?_;simp [ej122_, q147, ((hx0_0.agree A142.agree).tup), ((hx0_1.agree A142.agree).tup)];refine CallD.t (F_laws_toSeaweed_w (fu := fu) (hx0_0.agree A142.agree) (hx0_1.agree A142.agree) hc148) ?_;rintro _ G150 ⟨a153, c149_u0, c149_u1, rfl, S154⟩;have A152 := A142.ext (hB.le A142.1) a153.agree;have S151 : Sep G150 (Fr H) [flat c54_u0 9 (strs r11.2), AL.box p4 [v0_0, v0_1], flat c26_u0 9 (strs r3.1), flat c149_u0 3 (ints r13.1), flat c149_u1 3 (ints r13.2)] := S141.app a153.agree S154 (fun _ h => h) (hB.le A142.1);obtain ⟨r14, hc155, hF⟩ := bd_some hF;simp [ej122_, q147, a153.pre, ((S151.sl (k := 3) rfl).tup), ((S151.sl (k := 4) rfl).tup)];refine CallD.t (F_impl_WindRun_w (fu := fu) (S151.sl (k := 3) rfl) (S151.sl (k := 4) rfl) hc155) ?_;rintro _ G157 ⟨a160, c156_u0, rfl, S161⟩;have A159 := A152.ext (hB.le A152.1) a160.agree;have S158 : Sep G157 (Fr H) [flat c54_u0 9 (strs r11.2), AL.box p4 [v0_0, v0_1], flat c26_u0 9 (strs r3.1), flat c149_u0 3 (ints r13.1), flat c149_u1 3 (ints r13.2), flat c156_u0 9 (strs r14.1)] := S151.app a160.agree S161 (fun _ h => h) (hB.le A152.1);simp [ej122_, q147, a153.pre, a160.pre];apply hK;clear hK K;refine .seq ?_;obtain ⟨s162, hL163, hF⟩ := bd_some hF;refine DWp.seq (DWp.join (fun env G => Sep G (Fr H) [flat c54_u0 9 (strs r11.2)] ∧ AgB (Fr H) H G ∧ env 7 = some c54_u0 ∧ env 10 = some (Value.int .i64 r11.1) ∧ env 87 = some (Value.bool s162)) ?_ ?_)
         ·
          obtain ⟨r15, hc165, hL163⟩ := bd_some hL163;refine .region fun K hK => ?_;simp [ej122_, ((S158.sl (k := 5) rfl).tup), ((S158.sl (k := 2) rfl).tup)];refine CallD.t (F_laws_eqStringS_w (fu := fu) (S158.sl (k := 5) rfl) (S158.sl (k := 2) rfl) hc165) ?_;rintro _ G167 ⟨a170, rfl, S171⟩;have A169 := A159.ext (hB.le A159.1) a170.agree;have S168 : Sep G167 (Fr H) [flat c54_u0 9 (strs r11.2), AL.box p4 [v0_0, v0_1], flat c26_u0 9 (strs r3.1), flat c149_u0 3 (ints r13.1), flat c149_u1 3 (ints r13.2), flat c156_u0 9 (strs r14.1)] := S158.app a170.agree S171 (fun _ h => h) (hB.le A159.1);rcases Bool.eq_false_or_eq_true (bnot r15) with hb172 | hb172
          ·replace hL163 := cd_t hb172 hL163;simp [ej122_, hb172, a170.pre];apply hK;clear hK K;simp only [andThen, leaves];have S173 := S168.pick [0] (by decide) rfl;obtain rfl := Option.some.inj hL163;exact ⟨S173, A169, by simp [ej122_]⟩
          ·replace hL163 := cd_f hb172 hL163;simp [ej122_, hb172, a170.pre, b_bne un_4];apply hK;clear hK K;simp only [andThen, leaves];have S174 := S168.pick [0] (by decide) rfl;obtain rfl := Option.some.inj hL163;exact ⟨S174, A169, by simp [ej122_]⟩
         ·rintro env Gj175 ⟨Sj175, Aj175, ej175_⟩;refine DWp.cond' (t := s162) (by simp [ej175_]) (fun hb176 => ?_) (fun hb176 => ?_)
          ·replace hF := cd_t hb176 hF;refine .sr fun K hK => ?_;simp [ej175_];apply hK;clear hK K;refine DWp.ret ?_;simp only [andThen, leaves];obtain rfl := Option.some.inj hF;exact ⟨by simp, [(Value.bool false)], by simp [ej175_], Aj175, rfl, Sj175.pick [] (by decide) rfl⟩
          ·replace hF := cd_f hb176 hF;refine DWp.skip ?_;simp only [andThen, leaves];refine .sr fun K hK => ?_;simp [ej175_];apply hK;clear hK K;obtain ⟨r16, hc177, hF⟩ := bd_some hF;refine .sr fun K hK => ?_;simp [ej175_, ((Sj175.sl (k := 0) rfl).tup)];refine CallD.t (F_laws_heldStringS_w (fu := fu) (Sj175.sl (k := 0) rfl) hc177) ?_;rintro _ G179 ⟨a182, rfl, S183⟩;have A181 := Aj175.ext (hB.le Aj175.1) a182.agree;have S180 : Sep G179 (Fr H) [flat c54_u0 9 (strs r11.2)] := Sj175.app a182.agree S183 (fun _ h => h) (hB.le Aj175.1);simp [ej175_, a182.pre];apply hK;clear hK K;refine .seq ?_;refine .sr fun K hK => ?_;simp [ej175_];apply hK;clear hK K;refine DWp.cond' (t := (ilt r16 0)) (by simp [ej175_]) (fun hb184 => ?_) (fun hb184 => ?_)
           ·replace hF := cd_t hb184 hF;refine .sr fun K hK => ?_;simp [ej175_];apply hK;clear hK K;refine DWp.ret ?_;simp only [andThen, leaves];obtain rfl := Option.some.inj hF;exact ⟨by simp, [(Value.bool false)], by simp [ej175_], A181, rfl, S180.pick [] (by decide) rfl⟩
           ·replace hF := cd_f hb184 hF;refine DWp.skip ?_;simp only [andThen, leaves];refine .seq ?_;refine .sr fun K hK => ?_;simp [ej175_];apply hK;clear hK K;refine DWp.cond' (t := (ine r16 r11.1)) (by simp [ej175_]) (fun hb185 => ?_) (fun hb185 => ?_)
            ·replace hF := cd_t hb185 hF;refine .sr fun K hK => ?_;simp [ej175_];apply hK;clear hK K;refine DWp.ret ?_;simp only [andThen, leaves];obtain rfl := Option.some.inj hF;exact ⟨by simp, [(Value.bool false)], by simp [ej175_], A181, rfl, S180.pick [] (by decide) rfl⟩
            ·replace hF := cd_f hb185 hF;refine DWp.skip ?_;simp only [andThen, leaves];refine .sr fun K hK => ?_;simp [ej175_];apply hK;clear hK K;refine DWp.ret ?_;obtain rfl := Option.some.inj hF;exact ⟨by simp, [(Value.bool true)], by simp [ej175_], A181, rfl, S180.pick [] (by decide) rfl⟩
end Go.Proofs.YtcbdgkgdopkofaaDoor.AL

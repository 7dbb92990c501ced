/- The walks of functions, each with its Lean function: impl.StartState, impl.MeandersByStates, spec.CountByStates, impl.WaysToClose, laws.FnExactMeandersByStates, laws.FnExactWaysToClose. No condition. -/
import Derived.Test.YtdbflchpbhkanaaG1
import Derived.Test.YtdbflchpbhkanaaG2
import Derived.Test.YtdbflchpbhkanaaG3
import Derived.Test.YtdbflchpbhkanaaG4
import Derived.Test.YtdbflchpbhkanaaG5
import Derived.Test.YtdbflchpbhkanaaG6
import Derived.Test.YtdbflchpbhkanaaGK1
import Derived.Test.YtdbflchpbhkanaaGK2
import Derived.Test.YtdbflchpbhkanaaGK4
import Derived.Test.YtdbflchpbhkanaaGK7
import Derived.Test.YtdbflchpbhkanaaGK8
import Derived.Test.YtdbflchpbhkanaaGK9
import Derived.Test.YtdbflchpbhkanaaALD
import Derived.Test.YtdbflchpbhkanaaProg
import Derived.KernelRfl
namespace Go.Proofs.Ytdbflchpbhkanaa.AL
open Go Go.RowKit
set_option linter.unusedVariables false
set_option linter.unusedSimpArgs false
set_option maxRecDepth 4096
attribute [local simp] n_fn b_add b_sub b_mul b_lt b_le b_gt b_ge b_eq b_ne u_not
theorem ag_31 : aggT Try.prog 31 = some true := by kernel_rfl
theorem sz_31 : sizeT Try.prog 31 = some 3 := by kernel_rfl
theorem un_4 : Try.prog.underlying 4 = some .bool := by kernel_rfl
def F_impl_StartState (fu : Nat)  : Option ((List Int × List Int × Int)) :=
  some ([], [], 0)
theorem F_impl_StartState_w {fu : Nat} {H : AH}   {r : ((List Int × List Int × Int))}  (hF : F_impl_StartState fu  = some r) :
    ACallT Try.prog 23 [] H (fun u G => AgB (Fr H) H G ∧ ∃ u0 : Value, ∃ u1 : Value, u = (Value.agg #[u0, u1, (Value.int .i64 r.2.2)]) ∧ Sep G (Fr H) [flat u0 3 (ints r.1), flat u1 3 (ints r.2.1)]) := by
 refine ACallT.of_body (nt := 2) (rs := [.cell 0 34]) Try.func23 rfl rfl rfl rfl ?_;have A0 : AgB (Fr H) H H := .refl _ _;have S0 : Sep H (Fr H) [] := .nil;have hB := Fr.up H;unfold F_impl_StartState at hF;obtain ⟨G2, p4, q5, q7, a6, S1⟩ := S0.allocT (P := Try.prog) (hB.le A0.1) ze_34 rfl;have A3 := A0.ext (hB.le A0.1) a6;replace S1 : Sep G2 (Fr H) [AL.box p4 [(Value.slice none 0 0), (Value.slice none 0 0), (Value.int .i64 0)]] := S1;refine .sr fun K hK => ?_;simp [q5, q7, a6.to_pre];apply hK;clear hK K;obtain ⟨G8, q9, S10, a12⟩ := S1.putAgg (P := Try.prog) (k := 0) (xs := [(Value.slice none 0 0), (Value.slice none 0 0), (Value.int .i64 0)]) rfl (hB.le A3.1) sz_34 rfl rfl;have A11 := A3.trans a12;replace S10 : Sep G8 (Fr H) [AL.box p4 [(Value.slice none 0 0), (Value.slice none 0 0), (Value.int .i64 0)]] := S10;refine .sr fun K hK => ?_;simp [build0 (cs := [(Value.slice none 0 0), (Value.slice none 0 0), (Value.int .i64 0)]) pl_34 rfl rfl, q9];apply hK;clear hK K;refine DWp.ret ?_;have q13 := S10.loadAgg (P := Try.prog) (k := 0) rfl sz_34 ag_34 rfl;have S14 := S10.nilItem (hB.le A11.1) 3;have S15 := S14.nilItem (hB.le A11.1) 3;obtain rfl := Option.some.inj hF;exact ⟨by simp, [(Value.agg #[(Value.slice none 0 0), (Value.slice none 0 0), (Value.int .i64 0)])], by simp [q13], A11, (Value.slice none 0 0), (Value.slice none 0 0), rfl, S15.pick [1, 2] (by decide) rfl⟩
def F_impl_WaysToClose (fu : Nat) (x0_0 : List Int) (x0_1 : List Int) (x0_2 : Int) (x1 : Int) (x2 : Int) : Option (Int × Bool) :=
  bd (
    bd (F_impl_IsState fu x0_0 x0_1 x0_2) fun r1 =>
    bif (bnot r1) then
      some true
    else
      bd (F_impl_in fu x1 0 8) fun r2 =>
      bif (bnot r2) then
        some true
      else
        bd (F_impl_isArches fu x2) fun r3 =>
        some (bnot r3)) fun s8 =>
  bif s8 then
    some (0, false)
  else
    bd (F_impl_closings fu x0_0 x0_1 x0_2 x1) fun r4 =>
    gd (inL r4 x2) (
    some ((gat 0 r4 x2), true))
theorem F_impl_WaysToClose_w {fu : Nat} {H : AH} {v0_0 : Value} {v0_1 : Value} {x0_0 : List Int} {x0_1 : List Int} {x0_2 : Int} {x1 : Int} {x2 : Int} {r : (Int × Bool)} (hx0_0 : Sl H v0_0 (ints x0_0)) (hx0_1 : Sl H v0_1 (ints x0_1)) (hF : F_impl_WaysToClose fu x0_0 x0_1 x0_2 x1 x2 = some r) :
    ACallT Try.prog 16 [(Value.agg #[v0_0, v0_1, (Value.int .i64 x0_2)]), (Value.int .i64 x1), (Value.int .i64 x2)] H (fun u G => AgB (Fr H) H G ∧ u = (Value.tuple #[(Value.int .i64 r.1), (Value.bool r.2)]) ∧ Sep G (Fr H) []) := by
 refine ACallT.of_body (nt := 27) (rs := [.tmp 6, .tmp 7]) Try.func16 rfl rfl rfl rfl ?_;have A0 : AgB (Fr H) H H := .refl _ _;have S0 : Sep H (Fr H) [] := .nil;have hB := Fr.up H;unfold F_impl_WaysToClose at hF;obtain ⟨G2, p4, q5, q6, a7, S1⟩ := S0.boxT (hB.le A0.1) 34 [v0_0, v0_1, (Value.int .i64 x0_2)];have A3 := A0.ext (hB.le A0.1) a7;replace S1 : Sep G2 (Fr H) [AL.box p4 [v0_0, v0_1, (Value.int .i64 x0_2)]] := S1;refine .sr fun K hK => ?_;simp [q5, q6, a7.to_pre, cells_agg];apply hK;clear hK K;refine .seq ?_;obtain ⟨s8, hL9, hF⟩ := bd_some hF;refine DWp.seq (DWp.join (fun env G => Sep G (Fr H) [AL.box p4 [v0_0, v0_1, (Value.int .i64 x0_2)]] ∧ AgB (Fr H) H G ∧ env 1 = some (Value.int .i64 x1) ∧ env 2 = some (Value.int .i64 x2) ∧ env 3 = some p4 ∧ env 20 = some (Value.bool s8)) ?_ ?_)
 ·
  have q11 := S1.loadAgg (P := Try.prog) (k := 0) rfl sz_34 ag_34 rfl;obtain ⟨r1, hc12, hL9⟩ := bd_some hL9;refine .region fun K hK => ?_;simp [q11, ((hx0_0.agree A3.agree).tup), ((hx0_1.agree A3.agree).tup)];refine CallD.t (F_impl_IsState_w (fu := fu) (hx0_0.agree A3.agree) (hx0_1.agree A3.agree) hc12) ?_;rintro _ G14 ⟨a17, rfl, S18⟩;have A16 := A3.ext (hB.le A3.1) a17.agree;have S15 : Sep G14 (Fr H) [AL.box p4 [v0_0, v0_1, (Value.int .i64 x0_2)]] := S1.app a17.agree S18 (fun _ h => h) (hB.le A3.1);rcases Bool.eq_false_or_eq_true (bnot r1) with hb19 | hb19
  ·replace hL9 := cd_t hb19 hL9;simp [hb19, q11, a17.pre];apply hK;clear hK K;simp only [andThen, leaves];have S20 := S15.pick [0] (by decide) rfl;obtain rfl := Option.some.inj hL9;exact ⟨S20, A16, by simp []⟩
  ·replace hL9 := cd_f hb19 hL9;obtain ⟨r2, hc21, hL9⟩ := bd_some hL9;simp [hb19, q11, a17.pre];refine CallD.t (F_impl_in_w (fu := fu)  hc21) ?_;rintro _ G23 ⟨a26, rfl, S27⟩;have A25 := A16.ext (hB.le A16.1) a26.agree;have S24 : Sep G23 (Fr H) [AL.box p4 [v0_0, v0_1, (Value.int .i64 x0_2)]] := S15.app a26.agree S27 (fun _ h => h) (hB.le A16.1);rcases Bool.eq_false_or_eq_true (bnot r2) with hb28 | hb28
   ·replace hL9 := cd_t hb28 hL9;simp [hb19, hb28, q11, a17.pre, a26.pre];apply hK;clear hK K;simp only [andThen, leaves];have S29 := S24.pick [0] (by decide) rfl;obtain rfl := Option.some.inj hL9;exact ⟨S29, A25, by simp []⟩
   ·replace hL9 := cd_f hb28 hL9;obtain ⟨r3, hc30, hL9⟩ := bd_some hL9;simp [hb19, hb28, q11, a17.pre, a26.pre];refine CallD.t (F_impl_isArches_w (fu := fu)  hc30) ?_;rintro _ G32 ⟨a35, rfl, S36⟩;have A34 := A25.ext (hB.le A25.1) a35.agree;have S33 : Sep G32 (Fr H) [AL.box p4 [v0_0, v0_1, (Value.int .i64 x0_2)]] := S24.app a35.agree S36 (fun _ h => h) (hB.le A25.1);simp [hb19, hb28, q11, a17.pre, a26.pre, a35.pre];apply hK;clear hK K;simp only [andThen, leaves];have S37 := S33.pick [0] (by decide) rfl;obtain rfl := Option.some.inj hL9;exact ⟨S37, A34, by simp []⟩
 ·rintro env Gj38 ⟨Sj38, Aj38, ej38_⟩;refine DWp.cond' (t := s8) (by simp [ej38_]) (fun hb39 => ?_) (fun hb39 => ?_)
  ·replace hF := cd_t hb39 hF;refine .sr fun K hK => ?_;simp [ej38_];apply hK;clear hK K;refine DWp.ret ?_;simp only [andThen, leaves];obtain rfl := Option.some.inj hF;exact ⟨by simp, [(Value.int .i64 0), (Value.bool false)], by simp [ej38_], Aj38, rfl, Sj38.pick [] (by decide) rfl⟩
  ·replace hF := cd_f hb39 hF;refine DWp.skip ?_;simp only [andThen, leaves];have q40 := Sj38.loadAgg (P := Try.prog) (k := 0) rfl sz_34 ag_34 rfl;obtain ⟨r4, hc41, hF⟩ := bd_some hF;refine .sr fun K hK => ?_;simp [ej38_, q40, ((hx0_0.agree Aj38.agree).tup), ((hx0_1.agree Aj38.agree).tup)];refine CallD.t (F_impl_closings_w (fu := fu) (hx0_0.agree Aj38.agree) (hx0_1.agree Aj38.agree) hc41) ?_;rintro c42_u0 G43 ⟨a46, _, rfl, S47⟩;have A45 := Aj38.ext (hB.le Aj38.1) a46.agree;have S44 : Sep G43 (Fr H) [AL.box p4 [v0_0, v0_1, (Value.int .i64 x0_2)], flat c42_u0 3 (ints r4)] := Sj38.app a46.agree S47 (fun _ h => h) (hB.le Aj38.1);obtain ⟨g48, hF⟩ := gd_some hF;have q49 := idxG (P := Try.prog) (kk := .i64) (S44.sl (k := 1) rfl) el_25 sz_3 g48;have q50 := loadG (P := Try.prog) (S44.sl (k := 1) rfl) sz_3 ag_3 g48 0;simp [ej38_, q40, a46.pre, q49, q50];apply hK;clear hK K;refine DWp.ret ?_;obtain rfl := Option.some.inj hF;exact ⟨by simp, [(Value.int .i64 (gat 0 r4 x2)), (Value.bool true)], by simp [ej38_], A45, rfl, S44.pick [] (by decide) rfl⟩
def F_laws_FnExactWaysToClose (fu : Nat) (x0_0 : List Int) (x0_1 : List Int) (x0_2 : Int) (x1 : Int) (x2 : Int) : Option (Bool) :=
  bd (F_laws_szState fu x0_0 x0_1 x0_2 1048576) fun r1 =>
  bif (ilt r1 0) then
    some true
  else
    bd (F_laws_toState fu x0_0 x0_1 x0_2) fun r2 =>
    bd (F_spec_WaysToClose fu r2.1 r2.2.1 r2.2.2 x1 x2) fun r3 =>
    bd (F_laws_toState fu x0_0 x0_1 x0_2) fun r4 =>
    bd (F_impl_WaysToClose fu r4.1 r4.2.1 r4.2.2 x1 x2) fun r5 =>
    bd (
      bif (ine r5.1 r3.1) then
        some true
      else
        some (bne' r5.2 r3.2)) fun s60 =>
    bif s60 then
      some false
    else
      bd (F_laws_toState fu x0_0 x0_1 x0_2) fun r6 =>
      bd (F_laws_eqState fu r4.1 r4.2.1 r4.2.2 r6.1 r6.2.1 r6.2.2) fun r7 =>
      bif (bnot r7) then
        some false
      else
        some true
theorem F_laws_FnExactWaysToClose_w {fu : Nat} {H : AH} {v0_0 : Value} {v0_1 : Value} {x0_0 : List Int} {x0_1 : List Int} {x0_2 : Int} {x1 : Int} {x2 : Int} {r : (Bool)} (hx0_0 : Sl H v0_0 (ints x0_0)) (hx0_1 : Sl H v0_1 (ints x0_1)) (hF : F_laws_FnExactWaysToClose fu x0_0 x0_1 x0_2 x1 x2 = some r) :
    ACallT Try.prog 5 [(Value.agg #[v0_0, v0_1, (Value.int .i64 x0_2)]), (Value.int .i64 x1), (Value.int .i64 x2)] H (fun u G => AgB (Fr H) H G ∧ u = (Value.bool r) ∧ Sep G (Fr H) []) := by
 refine ACallT.of_body (nt := 48) (rs := [.tmp 6]) Try.func5 rfl rfl rfl rfl ?_;have A0 : AgB (Fr H) H H := .refl _ _;have S0 : Sep H (Fr H) [] := .nil;have hB := Fr.up H;unfold F_laws_FnExactWaysToClose at hF;obtain ⟨G2, p4, q5, q6, a7, S1⟩ := S0.boxT (hB.le A0.1) 31 [v0_0, v0_1, (Value.int .i64 x0_2)];have A3 := A0.ext (hB.le A0.1) a7;replace S1 : Sep G2 (Fr H) [AL.box p4 [v0_0, v0_1, (Value.int .i64 x0_2)]] := S1;refine .sr fun K hK => ?_;simp [q5, q6, a7.to_pre, cells_agg];apply hK;clear hK K;refine .sr fun K hK => ?_;simp [];apply hK;clear hK K;have q8 := S1.loadAgg (P := Try.prog) (k := 0) rfl sz_31 ag_31 rfl;obtain ⟨r1, hc9, hF⟩ := bd_some hF;refine .sr fun K hK => ?_;simp [q8, ((hx0_0.agree A3.agree).tup), ((hx0_1.agree A3.agree).tup)];refine CallD.t (F_laws_szState_w (fu := fu) (hx0_0.agree A3.agree) (hx0_1.agree A3.agree) hc9) ?_;rintro _ G11 ⟨a14, rfl, S15⟩;have A13 := A3.ext (hB.le A3.1) a14.agree;have S12 : Sep G11 (Fr H) [AL.box p4 [v0_0, v0_1, (Value.int .i64 x0_2)]] := S1.app a14.agree S15 (fun _ h => h) (hB.le A3.1);simp [q8, a14.pre];apply hK;clear hK K;refine .seq ?_;refine .sr fun K hK => ?_;simp [];apply hK;clear hK K;refine DWp.cond' (t := (ilt r1 0)) (by simp []) (fun hb16 => ?_) (fun hb16 => ?_)
 ·replace hF := cd_t hb16 hF;refine .sr fun K hK => ?_;simp [];apply hK;clear hK K;refine DWp.ret ?_;simp only [andThen, leaves];obtain rfl := Option.some.inj hF;exact ⟨by simp, [(Value.bool true)], by simp [], A13, rfl, S12.pick [] (by decide) rfl⟩
 ·replace hF := cd_f hb16 hF;refine DWp.skip ?_;simp only [andThen, leaves];have q17 := S12.loadAgg (P := Try.prog) (k := 0) rfl sz_31 ag_31 rfl;obtain ⟨r2, hc18, hF⟩ := bd_some hF;refine .sr fun K hK => ?_;simp [q17, ((hx0_0.agree A13.agree).tup), ((hx0_1.agree A13.agree).tup)];refine CallD.t (F_laws_toState_w (fu := fu) (hx0_0.agree A13.agree) (hx0_1.agree A13.agree) hc18) ?_;rintro _ G20 ⟨a23, c19_u0, c19_u1, rfl, S24⟩;have A22 := A13.ext (hB.le A13.1) a23.agree;have S21 : Sep G20 (Fr H) [AL.box p4 [v0_0, v0_1, (Value.int .i64 x0_2)], flat c19_u0 3 (ints r2.1), flat c19_u1 3 (ints r2.2.1)] := S12.app a23.agree S24 (fun _ h => h) (hB.le A13.1);obtain ⟨r3, hc25, hF⟩ := bd_some hF;simp [q17, a23.pre, ((S21.sl (k := 1) rfl).tup), ((S21.sl (k := 2) rfl).tup)];refine CallD.t (F_spec_WaysToClose_w (fu := fu) (S21.sl (k := 1) rfl) (S21.sl (k := 2) rfl) hc25) ?_;rintro _ G27 ⟨a30, rfl, S31⟩;have A29 := A22.ext (hB.le A22.1) a30.agree;have S28 : Sep G27 (Fr H) [AL.box p4 [v0_0, v0_1, (Value.int .i64 x0_2)], flat c19_u0 3 (ints r2.1), flat c19_u1 3 (ints r2.2.1)] := S21.app a30.agree S31 (fun _ h => h) (hB.le A22.1);simp [q17, a23.pre, a30.pre];apply hK;clear hK K;have q32 := S28.loadAgg (P := Try.prog) (k := 0) rfl sz_31 ag_31 rfl;obtain ⟨r4, hc33, hF⟩ := bd_some hF;refine .sr fun K hK => ?_;simp [q32, ((hx0_0.agree A29.agree).tup), ((hx0_1.agree A29.agree).tup)];refine CallD.t (F_laws_toState_w (fu := fu) (hx0_0.agree A29.agree) (hx0_1.agree A29.agree) hc33) ?_;rintro _ G35 ⟨a38, c34_u0, c34_u1, rfl, S39⟩;have A37 := A29.ext (hB.le A29.1) a38.agree
  have S36 : Sep G35 (Fr H) [AL.box p4 [v0_0, v0_1, (Value.int .i64 x0_2)], flat c19_u0 3 (ints r2.1), flat c19_u1 3 (ints r2.2.1), flat c34_u0 3 (ints r4.1), flat c34_u1 3 (ints r4.2.1)] := S28.app a38.agree S39 (fun _ h => h) (hB.le A29.1);obtain ⟨G41, p43, q44, q46, a45, S40⟩ := S36.allocT (P := Try.prog) (hB.le A37.1) ze_34 rfl;have A42 := A37.ext (hB.le A37.1) a45;replace S40 : Sep G41 (Fr H) [AL.box p4 [v0_0, v0_1, (Value.int .i64 x0_2)], flat c19_u0 3 (ints r2.1), flat c19_u1 3 (ints r2.2.1), flat c34_u0 3 (ints r4.1), flat c34_u1 3 (ints r4.2.1), AL.box p43 [(Value.slice none 0 0), (Value.slice none 0 0), (Value.int .i64 0)]] := S40;obtain ⟨G47, q48, S49, a51⟩ := S40.putAgg (P := Try.prog) (k := 5) (xs := [c34_u0, c34_u1, (Value.int .i64 r4.2.2)]) rfl (hB.le A42.1) sz_34 rfl rfl;have A50 := A42.trans a51;replace S49 : Sep G47 (Fr H) [AL.box p4 [v0_0, v0_1, (Value.int .i64 x0_2)], flat c19_u0 3 (ints r2.1), flat c19_u1 3 (ints r2.2.1), flat c34_u0 3 (ints r4.1), flat c34_u1 3 (ints r4.2.1), AL.box p43 [c34_u0, c34_u1, (Value.int .i64 r4.2.2)]] := S49;simp [q32, a38.pre, q44, q46, a45.to_pre, q48];apply hK;clear hK K;have q52 := S49.loadAgg (P := Try.prog) (k := 5) rfl sz_34 ag_34 rfl;obtain ⟨r5, hc53, hF⟩ := bd_some hF;refine .sr fun K hK => ?_;simp [q52, ((S49.sl (k := 3) rfl).tup), ((S49.sl (k := 4) rfl).tup)];refine CallD.t (F_impl_WaysToClose_w (fu := fu) (S49.sl (k := 3) rfl) (S49.sl (k := 4) rfl) hc53) ?_;rintro _ G55 ⟨a58, rfl, S59⟩;have A57 := A50.ext (hB.le A50.1) a58.agree
  have S56 : Sep G55 (Fr H) [AL.box p4 [v0_0, v0_1, (Value.int .i64 x0_2)], flat c19_u0 3 (ints r2.1), flat c19_u1 3 (ints r2.2.1), flat c34_u0 3 (ints r4.1), flat c34_u1 3 (ints r4.2.1), AL.box p43 [c34_u0, c34_u1, (Value.int .i64 r4.2.2)]] := S49.app a58.agree S59 (fun _ h => h) (hB.le A50.1);simp [q52, a58.pre];apply hK;clear hK K;refine .seq ?_;obtain ⟨s60, hL61, hF⟩ := bd_some hF;refine DWp.seq (DWp.join (fun env G => Sep G (Fr H) [AL.box p4 [v0_0, v0_1, (Value.int .i64 x0_2)], AL.box p43 [c34_u0, c34_u1, (Value.int .i64 r4.2.2)], flat c34_u0 3 (ints r4.1), flat c34_u1 3 (ints r4.2.1)] ∧ AgB (Fr H) H G ∧ env 3 = some p4 ∧ env 10 = some p43 ∧ env 42 = some (Value.bool s60)) ?_ ?_)
  ·
   rcases Bool.eq_false_or_eq_true (ine r5.1 r3.1) with hb63 | hb63
   ·replace hL61 := cd_t hb63 hL61;refine .region fun K hK => ?_;simp [hb63];apply hK;clear hK K;simp only [andThen, leaves];have S64 := S56.pick [0, 5, 3, 4] (by decide) rfl;obtain rfl := Option.some.inj hL61;exact ⟨S64, A57, by simp []⟩
   ·replace hL61 := cd_f hb63 hL61;refine .region fun K hK => ?_;simp [hb63, b_bne un_4];apply hK;clear hK K;simp only [andThen, leaves];have S65 := S56.pick [0, 5, 3, 4] (by decide) rfl;obtain rfl := Option.some.inj hL61;exact ⟨S65, A57, by simp []⟩
  ·rintro env Gj66 ⟨Sj66, Aj66, ej66_⟩;refine DWp.cond' (t := s60) (by simp [ej66_]) (fun hb67 => ?_) (fun hb67 => ?_)
   ·replace hF := cd_t hb67 hF;refine .sr fun K hK => ?_;simp [ej66_];apply hK;clear hK K;refine DWp.ret ?_;simp only [andThen, leaves];obtain rfl := Option.some.inj hF;exact ⟨by simp, [(Value.bool false)], by simp [ej66_], Aj66, rfl, Sj66.pick [] (by decide) rfl⟩
   ·replace hF := cd_f hb67 hF;refine DWp.skip ?_;simp only [andThen, leaves];refine .seq ?_;have q68 := Sj66.loadAgg (P := Try.prog) (k := 1) rfl sz_34 ag_34 rfl;have q69 := Sj66.loadAgg (P := Try.prog) (k := 0) rfl sz_31 ag_31 rfl;obtain ⟨r6, hc70, hF⟩ := bd_some hF;refine .sd (B := [0, 0, 2, 7, 15]) 5 mixed (by kernel_rfl) (by decide) fun K hK => ?_;simp [ej66_, q68, q69, ((hx0_0.agree Aj66.agree).tup), ((hx0_1.agree Aj66.agree).tup)];refine CallD.t (F_laws_toState_w (fu := fu) (hx0_0.agree Aj66.agree) (hx0_1.agree Aj66.agree) hc70) ?_;rintro _ G72 ⟨a75, c71_u0, c71_u1, rfl, S76⟩;have A74 := Aj66.ext (hB.le Aj66.1) a75.agree;have S73 : Sep G72 (Fr H) [AL.box p4 [v0_0, v0_1, (Value.int .i64 x0_2)], AL.box p43 [c34_u0, c34_u1, (Value.int .i64 r4.2.2)], flat c34_u0 3 (ints r4.1), flat c34_u1 3 (ints r4.2.1), flat c71_u0 3 (ints r6.1), flat c71_u1 3 (ints r6.2.1)] := Sj66.app a75.agree S76 (fun _ h => h) (hB.le Aj66.1);obtain ⟨r7, hc77, hF⟩ := bd_some hF;simp [ej66_, q68, q69, a75.pre, ((S73.sl (k := 2) rfl).tup), ((S73.sl (k := 3) rfl).tup), ((S73.sl (k := 4) rfl).tup), ((S73.sl (k := 5) rfl).tup)];refine CallD.t (F_laws_eqState_w (fu := fu) (S73.sl (k := 2) rfl) (S73.sl (k := 3) rfl) (S73.sl (k := 4) rfl) (S73.sl (k := 5) rfl) hc77) ?_;rintro _ G79 ⟨a82, rfl, S83⟩;have A81 := A74.ext (hB.le A74.1) a82.agree;have S80 : Sep G79 (Fr H) [AL.box p4 [v0_0, v0_1, (Value.int .i64 x0_2)], AL.box p43 [c34_u0, c34_u1, (Value.int .i64 r4.2.2)], flat c34_u0 3 (ints r4.1), flat c34_u1 3 (ints r4.2.1), flat c71_u0 3 (ints r6.1), flat c71_u1 3 (ints r6.2.1)] := S73.app a82.agree S83 (fun _ h => h) (hB.le A74.1);simp [ej66_, q68, q69, a75.pre, a82.pre];apply hK;clear hK K;refine DWp.cond' (t := (bnot r7)) (by simp [ej66_]) (fun hb84 => ?_) (fun hb84 => ?_)
    ·replace hF := cd_t hb84 hF;refine .sr fun K hK => ?_;simp [ej66_];apply hK;clear hK K;refine DWp.ret ?_;simp only [andThen, leaves];obtain rfl := Option.some.inj hF;exact ⟨by simp, [(Value.bool false)], by simp [ej66_], A81, rfl, S80.pick [] (by decide) rfl⟩
    ·replace hF := cd_f hb84 hF;refine DWp.skip ?_;simp only [andThen, leaves];refine .sr fun K hK => ?_;simp [ej66_];apply hK;clear hK K;refine DWp.ret ?_;obtain rfl := Option.some.inj hF;exact ⟨by simp, [(Value.bool true)], by simp [ej66_], A81, rfl, S80.pick [] (by decide) rfl⟩
end Go.Proofs.Ytdbflchpbhkanaa.AL

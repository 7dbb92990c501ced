/- The walks of functions, each with its Lean function: impl.SplitPath, spec.SplitPath, spec.DrawFarthestFrom, impl.Meander).isOne, impl.ClosingWith$1, slices.IndexFunc[[][]int,[]int], slices.DeleteFunc[[][]int,[]int], impl.ClosingWith, impl.FarthestFrom, spec.ahAll. No condition. -/
import Derived.Test.YtogghgecmjnieaaGreatG1
import Derived.Test.YtogghgecmjnieaaGreatG10
import Derived.Test.YtogghgecmjnieaaGreatG11
import Derived.Test.YtogghgecmjnieaaGreatG12
import Derived.Test.YtogghgecmjnieaaGreatG13
import Derived.Test.YtogghgecmjnieaaGreatG2
import Derived.Test.YtogghgecmjnieaaGreatG3
import Derived.Test.YtogghgecmjnieaaGreatG4
import Derived.Test.YtogghgecmjnieaaGreatG5
import Derived.Test.YtogghgecmjnieaaGreatG6
import Derived.Test.YtogghgecmjnieaaGreatG7
import Derived.Test.YtogghgecmjnieaaGreatG8
import Derived.Test.YtogghgecmjnieaaGreatG9
import Derived.Test.YtogghgecmjnieaaGreatALD
import Derived.Test.YtogghgecmjnieaaGreatProg
import Derived.KernelRfl
namespace Go.Proofs.YtogghgecmjnieaaGreat.AL
open Go Go.RowKit
set_option linter.unusedVariables false
set_option linter.unusedSimpArgs false
set_option maxRecDepth 4096
attribute [local simp] n_fn b_add b_sub b_mul b_lt b_le b_gt b_ge b_eq b_ne u_not

def F_impl_SplitPath (fu : Nat) (x0_0 : List Int) (x0_1 : List Int) : Option (List (List Int × List Int) × Bool) :=
  bd (F_impl_isCut fu x0_0 x0_1) fun r1 =>
  bif (bnot r1) then
    some ([], false)
  else
    bd (F_impl_turnedPath fu x0_0 x0_1 (iquo .i64 (llen x0_0) 2)) fun r2 =>
    some (r2, true)
theorem F_impl_SplitPath_w {fu : Nat} {H : AH} {v0_0 : Value} {v0_1 : Value} {x0_0 : List Int} {x0_1 : List Int} {r : (List (List Int × List Int) × Bool)} (hx0_0 : Sl H v0_0 (ints x0_0)) (hx0_1 : Sl H v0_1 (ints x0_1)) (hF : F_impl_SplitPath fu x0_0 x0_1 = some r) :
    ACallT Tryz.prog 30 [(Value.agg #[v0_0, v0_1])] H (fun u G => AgB (Fr H) H G ∧ ∃ u0 : Value, ∃ C0 : List Value, u = (Value.tuple #[u0, (Value.bool r.2)]) ∧ Sep G (Fr H) [rowsP u0 43 3 C0 r.1]) := by
 refine ACallT.of_body (nt := 13) (rs := [.tmp 2, .tmp 3]) Tryz.func30 rfl rfl rfl rfl ?_;have A0 : AgB (Fr H) H H := .refl _ _;have S0 : Sep H (Fr H) [] := .nil;have hB := Fr.up H;unfold F_impl_SplitPath at hF;obtain ⟨G2, p4, q5, q6, a7, S1⟩ := S0.boxT (hB.le A0.1) 43 [v0_0, v0_1];have A3 := A0.ext (hB.le A0.1) a7;replace S1 : Sep G2 (Fr H) [AL.box p4 [v0_0, v0_1]] := S1;refine .sr fun K hK => ?_;simp [q5, q6, a7.to_pre, cells_agg];apply hK;refine .seq ?_;have q8 := S1.loadAgg (k := 0) rfl sz_43 ag_43 rfl;obtain ⟨r1, hc9, hF⟩ := bd_some hF;refine .sr fun K hK => ?_;simp [q8, ((hx0_0.agree A3.agree).tup), ((hx0_1.agree A3.agree).tup)];refine CallD.t (F_impl_isCut_w (fu := fu) (hx0_0.agree A3.agree) (hx0_1.agree A3.agree) hc9) ?_;rintro _ G11 ⟨a14, rfl, S15⟩;have A13 := A3.ext (hB.le A3.1) a14.agree;have S12 : Sep G11 (Fr H) [AL.box p4 [v0_0, v0_1]] := S1.app a14.agree S15 (fun _ h => h) (hB.le A3.1);simp [q8, a14.pre];apply hK;refine DWp.cond' (t := (bnot r1)) (by simp []) (fun hb16 => ?_) (fun hb16 => ?_)
 ·replace hF := cd_t hb16 hF;refine .sr fun K hK => ?_;simp [];apply hK;refine DWp.ret ?_;simp only [andThen, leaves];have S17 := S12.rpNil (hB.le A13.1) 43 3;obtain rfl := Option.some.inj hF;exact ⟨by simp, [(Value.slice none 0 0), (Value.bool false)], by simp [], A13, nilV, [], rfl, S17.pick [1] (by decide) rfl⟩
 ·replace hF := cd_f hb16 hF;refine DWp.skip ?_;simp only [andThen, leaves];have q18 := S12.loadAgg (k := 0) rfl sz_43 ag_43 rfl;have q19 := S12.fieldT (k := 0) rfl fa_43_0;have q20 := S12.loadF (k := 0) rfl sz_24 ag_24 (off := 0) rfl;have q21 := lenG (hx0_0.agree A13.agree) el_24;have g22 : (2 : Int) ≠ 0 := by decide
  obtain ⟨r2, hc23, hF⟩ := bd_some hF;refine .sr fun K hK => ?_;simp [q18, q19, q20, q21, b_quo g22, ((hx0_0.agree A13.agree).tup), ((hx0_1.agree A13.agree).tup)];refine CallD.t (F_impl_turnedPath_w (fu := fu) (hx0_0.agree A13.agree) (hx0_1.agree A13.agree) hc23) ?_;rintro c24_u0 G25 ⟨a28, _, c24_C0, rfl, S29⟩;have A27 := A13.ext (hB.le A13.1) a28.agree;have S26 : Sep G25 (Fr H) [AL.box p4 [v0_0, v0_1], rowsP c24_u0 43 3 c24_C0 r2] := S12.app a28.agree S29 (fun _ h => h) (hB.le A13.1);simp [q18, q19, q20, q21, b_quo g22, a28.pre];apply hK;refine DWp.ret ?_;obtain rfl := Option.some.inj hF;exact ⟨by simp, [c24_u0, (Value.bool true)], by simp [((S26.rdP (k := 1) rfl).tup)], A27, c24_u0, c24_C0, rfl, S26.pick [1] (by decide) rfl⟩
def F_spec_SplitPath (fu : Nat) (x0_0 : List Int) (x0_1 : List Int) : Option (List (List Int × List Int) × Bool) :=
  bd (F_spec_exSome fu x0_0 x0_1) fun r1 =>
  bif (bnot r1) then
    some ([], false)
  else
    bd (F_spec_exPath fu x0_0 x0_1 1) fun r2 =>
    bd (F_spec_exMeanders fu r2 x0_1) fun r3 =>
    some (r3, true)
theorem F_spec_SplitPath_w {fu : Nat} {H : AH} {v0_0 : Value} {v0_1 : Value} {x0_0 : List Int} {x0_1 : List Int} {r : (List (List Int × List Int) × Bool)} (hx0_0 : Sl H v0_0 (ints x0_0)) (hx0_1 : Sl H v0_1 (ints x0_1)) (hF : F_spec_SplitPath fu x0_0 x0_1 = some r) :
    ACallT Tryz.prog 31 [(Value.agg #[v0_0, v0_1])] H (fun u G => AgB (Fr H) H G ∧ ∃ u0 : Value, ∃ C0 : List Value, u = (Value.tuple #[u0, (Value.bool r.2)]) ∧ Sep G (Fr H) [rowsP u0 43 3 C0 r.1]) := by
 refine ACallT.of_body (nt := 15) (rs := [.tmp 2, .tmp 3]) Tryz.func31 rfl rfl rfl rfl ?_;have A0 : AgB (Fr H) H H := .refl _ _;have S0 : Sep H (Fr H) [] := .nil;have hB := Fr.up H;unfold F_spec_SplitPath at hF;obtain ⟨G2, p4, q5, q6, a7, S1⟩ := S0.boxT (hB.le A0.1) 43 [v0_0, v0_1];have A3 := A0.ext (hB.le A0.1) a7;replace S1 : Sep G2 (Fr H) [AL.box p4 [v0_0, v0_1]] := S1;refine .sr fun K hK => ?_;simp [q5, q6, a7.to_pre, cells_agg];apply hK;refine .seq ?_;have q8 := S1.loadAgg (k := 0) rfl sz_43 ag_43 rfl;obtain ⟨r1, hc9, hF⟩ := bd_some hF;refine .sr fun K hK => ?_;simp [q8, ((hx0_0.agree A3.agree).tup), ((hx0_1.agree A3.agree).tup)];refine CallD.t (F_spec_exSome_w (fu := fu) (hx0_0.agree A3.agree) (hx0_1.agree A3.agree) hc9) ?_;rintro _ G11 ⟨a14, rfl, S15⟩;have A13 := A3.ext (hB.le A3.1) a14.agree;have S12 : Sep G11 (Fr H) [AL.box p4 [v0_0, v0_1]] := S1.app a14.agree S15 (fun _ h => h) (hB.le A3.1);simp [q8, a14.pre];apply hK;refine DWp.cond' (t := (bnot r1)) (by simp []) (fun hb16 => ?_) (fun hb16 => ?_)
 ·replace hF := cd_t hb16 hF;refine .sr fun K hK => ?_;simp [];apply hK;refine DWp.ret ?_;simp only [andThen, leaves];have S17 := S12.rpNil (hB.le A13.1) 43 3;obtain rfl := Option.some.inj hF;exact ⟨by simp, [(Value.slice none 0 0), (Value.bool false)], by simp [], A13, nilV, [], rfl, S17.pick [1] (by decide) rfl⟩
 ·replace hF := cd_f hb16 hF;refine DWp.skip ?_;simp only [andThen, leaves];have q18 := S12.fieldT (k := 0) rfl fa_43_0;have q19 := S12.loadF (k := 0) rfl sz_24 ag_24 (off := 0) rfl;have q20 := S12.fieldT (k := 0) rfl fa_43_1;have q21 := S12.loadF (k := 0) rfl sz_24 ag_24 (off := 1) rfl;obtain ⟨r2, hc22, hF⟩ := bd_some hF;refine .sd (B := [0, 1, 0, 4, 15, 0, 32, 127, 255, 511]) 7 mixed (by kernel_rfl) (by decide) fun K hK => ?_;simp [q18, q19, q20, q21, ((hx0_0.agree A13.agree).tup), ((hx0_1.agree A13.agree).tup)];refine CallD.t (F_spec_exPath_w (fu := fu) (hx0_0.agree A13.agree) (hx0_1.agree A13.agree) hc22) ?_;rintro c23_u0 G24 ⟨a27, _, c23_C0, rfl, S28⟩;have A26 := A13.ext (hB.le A13.1) a27.agree;have S25 : Sep G24 (Fr H) [AL.box p4 [v0_0, v0_1], rowsC c23_u0 24 3 c23_C0 (List.map ints r2)] := S12.app a27.agree S28 (fun _ h => h) (hB.le A13.1);have q29 := S25.fieldT (k := 0) rfl fa_43_1;have q30 := S25.loadF (k := 0) rfl sz_24 ag_24 (off := 1) rfl;obtain ⟨r3, hc31, hF⟩ := bd_some hF;simp [q18, q19, q20, q21, a27.pre, q29, q30, ((S25.rd (k := 1) rfl).tup), ((hx0_1.agree A26.agree).tup)];have S32 : Sep G24 (Fr H) ([rowsC c23_u0 24 3 c23_C0 (List.map ints r2)] ++ [AL.box p4 [v0_0, v0_1]]) := S25.pick [1, 0] (by decide) rfl;obtain ⟨B38, S33, U34, M35, R36, C37⟩ := S32.frame (hB.le A26.1);refine CallD.t (F_spec_exMeanders_w (fu := fu) U34 S33 (hx0_1.agree A26.agree) (fun i_ hi_ hb_ => Nat.not_le.2 (hx0_1.id_lt hi_) (M35 i_ hb_)) hc31) ?_;rintro c39_u0 G40 ⟨a43, _, c39_C0, rfl, S44⟩;have A42 := A26.trans (a43.mono M35);have S41 : Sep G40 (Fr H) [rowsP c39_u0 43 3 c39_C0 r3, AL.box p4 [v0_0, v0_1]] := C37 _ _ a43 S44;simp [q18, q19, q20, q21, a27.pre, q29, q30];apply hK
  clear hK K;refine DWp.ret ?_;obtain rfl := Option.some.inj hF;exact ⟨by simp, [c39_u0, (Value.bool true)], by simp [((S41.rdP (k := 0) rfl).tup)], A42, c39_u0, c39_C0, rfl, S41.pick [0] (by decide) rfl⟩
def F_spec_DrawFarthestFrom (fu : Nat) (x0 : List Int) : Option (List Int) :=
  bd (F_spec_l1Cur_system fu x0 0 0 5) fun r1 =>
  some r1.1
theorem F_spec_DrawFarthestFrom_w {fu : Nat} {H : AH} {v0 : Value} {x0 : List Int} {r : (List Int)} (hx0 : Sl H v0 (u8s x0)) (hF : F_spec_DrawFarthestFrom fu x0 = some r) :
    ACallT Tryz.prog 32 [v0] H (fun u G => AgB (Fr H) H G ∧ ∃ u0 : Value, u = u0 ∧ Sep G (Fr H) [flat u0 3 (ints r)]) := by
 refine ACallT.of_body (nt := 9) (rs := [.tmp 2]) Tryz.func32 rfl rfl rfl rfl ?_;have A0 : AgB (Fr H) H H := .refl _ _;have S0 : Sep H (Fr H) [] := .nil;have hB := Fr.up H;unfold F_spec_DrawFarthestFrom at hF;refine .sr fun K hK => ?_;simp [];apply hK;obtain ⟨G2, p4, q5, q6, a7, S1⟩ := S0.boxT (hB.le A0.1) 59 [v0, (Value.int .i64 0), (Value.int .u64 0)];have A3 := A0.ext (hB.le A0.1) a7;replace S1 : Sep G2 (Fr H) [AL.box p4 [v0, (Value.int .i64 0), (Value.int .u64 0)]] := S1;refine .sr fun K hK => ?_;simp [bv_59 ((hx0.agree A0.agree).tup) ((hx0.agree A0.agree).one), q5, q6, a7.to_pre, cells_agg];apply hK;obtain ⟨r1, hc8, hF⟩ := bd_some hF;refine .sr fun K hK => ?_;simp [(S1.ptup (k := 0) rfl)];have S9 : Sep G2 (Fr H) ([AL.box p4 [v0, (Value.int .i64 0), (Value.int .u64 0)]] ++ []) := S1.pick [0] (by decide) rfl;obtain ⟨B15, S10, U11, M12, R13, C14⟩ := S9.frame (hB.le A3.1);refine CallD.t (F_spec_l1Cur_system_w (fu := fu) U11 S10 (hx0.agree A3.agree) (fun i_ hi_ hb_ => Nat.not_le.2 (hx0.id_lt hi_) (M12 i_ hb_)) hc8) ?_;rintro c16_u0 G17 ⟨a20, _, rfl, S21⟩;have A19 := A3.trans (a20.mono M12);have S18 : Sep G17 (Fr H) [flat c16_u0 3 (ints r1.1), AL.box p4 [v0, (Value.int .i64 r1.2.1), (Value.int .u64 r1.2.2)]] := C14 _ _ a20 S21;simp [];apply hK;refine DWp.ret ?_;obtain rfl := Option.some.inj hF;exact ⟨by simp, [c16_u0], by simp [((S18.sl (k := 0) rfl).tup)], A19, c16_u0, rfl, S18.pick [0] (by decide) rfl⟩
def F_impl_Meander_isOne (fu : Nat) (x0_0 : List Int) (x0_1 : List Int) : Option (Bool) :=
  bd (F_impl_Meander_components fu x0_0 x0_1) fun r1 =>
  some (ieq r1 1)
theorem F_impl_Meander_isOne_w {fu : Nat} {H : AH} {v0_0 : Value} {v0_1 : Value} {x0_0 : List Int} {x0_1 : List Int} {r : (Bool)} (hx0_0 : Sl H v0_0 (ints x0_0)) (hx0_1 : Sl H v0_1 (ints x0_1)) (hF : F_impl_Meander_isOne fu x0_0 x0_1 = some r) :
    ACallT Tryz.prog 82 [(Value.agg #[v0_0, v0_1])] H (fun u G => AgB (Fr H) H G ∧ u = (Value.bool r) ∧ Sep G (Fr H) []) := by
 refine ACallT.of_body (nt := 6) (rs := [.tmp 2]) Tryz.func82 rfl rfl rfl rfl ?_;have A0 : AgB (Fr H) H H := .refl _ _;have S0 : Sep H (Fr H) [] := .nil;have hB := Fr.up H;unfold F_impl_Meander_isOne at hF;obtain ⟨G2, p4, q5, q6, a7, S1⟩ := S0.boxT (hB.le A0.1) 43 [v0_0, v0_1];have A3 := A0.ext (hB.le A0.1) a7;replace S1 : Sep G2 (Fr H) [AL.box p4 [v0_0, v0_1]] := S1;refine .sr fun K hK => ?_;simp [q5, q6, a7.to_pre, cells_agg];apply hK;have q8 := S1.loadAgg (k := 0) rfl sz_43 ag_43 rfl;obtain ⟨r1, hc9, hF⟩ := bd_some hF;refine .sr fun K hK => ?_;simp [q8, ((hx0_0.agree A3.agree).tup), ((hx0_1.agree A3.agree).tup)];refine CallD.t (F_impl_Meander_components_w (fu := fu) (hx0_0.agree A3.agree) (hx0_1.agree A3.agree) hc9) ?_;rintro _ G11 ⟨a14, rfl, S15⟩;have A13 := A3.ext (hB.le A3.1) a14.agree;have S12 : Sep G11 (Fr H) [AL.box p4 [v0_0, v0_1]] := S1.app a14.agree S15 (fun _ h => h) (hB.le A3.1);simp [q8, a14.pre];apply hK;refine DWp.ret ?_;obtain rfl := Option.some.inj hF;exact ⟨by simp, [(Value.bool (ieq r1 1))], by simp [], A13, rfl, S12.pick [] (by decide) rfl⟩
def F_impl_ClosingWith_1 (fu : Nat) (x0 : List Int) (x1 : List Int) : Option (Bool) :=
  bd (F_impl_Meander_isOne fu x1 x0) fun r1 =>
  some (bnot r1)
theorem F_impl_ClosingWith_1_w {fu : Nat} {H : AH} {v0 : Value} {p1 : Value} {v1 : Value} {x0 : List Int} {x1 : List Int} {r : (Bool)} (hx0 : Sl H v0 (ints x0)) (hx1 : Sl H v1 (ints x1)) (hp1 : Bx H p1 [v1]) (hF : F_impl_ClosingWith_1 fu x0 x1 = some r) :
    ACallT Tryz.prog 81 [v0, p1] H (fun u G => AgB (Fr H) H G ∧ u = (Value.bool r) ∧ Sep G (Fr H) []) := by
 refine ACallT.of_body (nt := 9) (rs := [.tmp 3]) Tryz.func81 rfl rfl rfl rfl ?_;have A0 : AgB (Fr H) H H := .refl _ _;have S0 : Sep H (Fr H) [] := .nil;have hB := Fr.up H;unfold F_impl_ClosingWith_1 at hF;refine .sr fun K hK => ?_;simp [];apply hK;have q1 := (hp1.agree A0.agree).load0 sz_24 ag_24;obtain ⟨r1, hc2, hF⟩ := bd_some hF;refine .sr fun K hK => ?_;simp [q1, bu_43 ((hx1.agree A0.agree).tup) ((hx1.agree A0.agree).one) ((hx0.agree A0.agree).tup) ((hx0.agree A0.agree).one), ((hx1.agree A0.agree).tup), ((hx0.agree A0.agree).tup)];refine CallD.t (F_impl_Meander_isOne_w (fu := fu) (hx1.agree A0.agree) (hx0.agree A0.agree) hc2) ?_;rintro _ G4 ⟨a7, rfl, S8⟩;have A6 := A0.ext (hB.le A0.1) a7.agree;have S5 : Sep G4 (Fr H) [] := S0.app a7.agree S8 (fun _ h => h) (hB.le A0.1);simp [q1, bu_43 ((hx1.agree A0.agree).tup) ((hx1.agree A0.agree).one) ((hx0.agree A0.agree).tup) ((hx0.agree A0.agree).one), a7.pre];apply hK;refine DWp.ret ?_;obtain rfl := Option.some.inj hF;exact ⟨by simp, [(Value.bool (bnot r1))], by simp [], A6, rfl, S5.pick [] (by decide) rfl⟩
def F_slices_IndexFunc_SSint_L1 (fu : Nat) (k1_0 : List (List Int)) (k1_1 : ((List Int) → Option (Bool))) (k1_2 : Int) : Nat → Int → Option (LR (Int) (Int))
  | 0, _ => none
  | n + 1, y1_8 =>
    bif (ilt y1_8 k1_2) then
      gd (inL k1_0 y1_8) (
      bd (k1_1 (gat [] k1_0 y1_8)) fun r1 =>
      bif r1 then
        some (.ret y1_8)
      else
        F_slices_IndexFunc_SSint_L1 fu k1_0 k1_1 k1_2 n (iadd .i64 y1_8 1))
    else
      some (.brk y1_8)
def F_slices_IndexFunc_SSint (fu : Nat) (x0 : List (List Int)) (x1 : (List Int) → Option (Bool)) : Option (Int) :=
  bd (F_slices_IndexFunc_SSint_L1 fu x0 x1 (llen x0) fu 0) fun s1 =>
  lr s1 fun s1 =>
  some (-1)
theorem F_slices_IndexFunc_SSint_w {fu : Nat} {H : AH} {v0 : Value} {f1 : FuncId} {c1 : List Value} {x0 : List (List Int)} {x1 : (List Int) → Option (Bool)} {r : (Int)} (hx0 : SlSl H v0 (List.map ints x0)) (hx1 : ∀ (G : AH), AgB (Fr H) H G → ∀ (v0 : Value) (y0 : List Int) (q : (Bool)), Sl G v0 (ints y0) → x1 y0 = some q → ACallT Tryz.prog f1 ([v0] ++ c1) G (fun u G' => AgB (Fr G) G G' ∧ u = (Value.bool q) ∧ Sep G' (Fr G) [])) (hF : F_slices_IndexFunc_SSint fu x0 x1 = some r) :
    ACallT Tryz.prog 119 [v0, (Value.func (.func f1) #[] c1.toArray)] H (fun u G => AgB (Fr H) H G ∧ u = (Value.int .i64 r) ∧ Sep G (Fr H) []) := by
 refine ACallT.of_body (nt := 19) (rs := [.tmp 4]) Tryz.func119 rfl rfl rfl rfl ?_;have A0 : AgB (Fr H) H H := .refl _ _;have S0 : Sep H (Fr H) [] := .nil;have hB := Fr.up H;unfold F_slices_IndexFunc_SSint at hF;obtain ⟨C0, hC0⟩ := hx0.rd;refine .sr fun K hK => ?_;simp [];apply hK;refine .seq ?_;have q1 := (hC0.agree A0.agree).lenG el_31;refine .sr fun K hK => ?_;simp [q1];apply hK;refine .block ?_;obtain ⟨s2, hL3, hF⟩ := bd_some hF;have S4 := S0.pick [] (by decide) rfl;refine DWp.loop (fun n env G => ∃ y1_8 : Int, F_slices_IndexFunc_SSint_L1 fu x0 x1 (llen x0) n y1_8 = some s2 ∧ Sep G (Fr H) [] ∧ AgB (Fr H) H G ∧ env 0 = some v0 ∧ env 1 = some (Value.func (.func f1) #[] c1.toArray) ∧ env 7 = some (Value.int .i64 (llen x0)) ∧ env 8 = some (Value.int .i64 y1_8)) fu ⟨0, hL3, S4, A0, by simp []⟩ ?_;rintro n1 env1 G1_ ⟨y1_8, hL3, S1_, A1_, e1_⟩;cases n1 with
 | zero => cases hL3
 | succ n1 =>
  simp only [F_slices_IndexFunc_SSint_L1] at hL3;refine .sr fun K hK => ?_;simp [e1_];apply hK;refine .seq ?_;refine DWp.cond' (t := (ilt y1_8 (llen x0))) (by simp [e1_]) (fun hb5 => ?_) (fun hb5 => ?_)
  ·replace hL3 := cd_t hb5 hL3;refine DWp.skip ?_;simp only [andThen, leaves];refine .seq ?_;refine .block ?_;refine .sr fun K hK => ?_;simp [e1_];apply hK;obtain ⟨g6, hL3⟩ := gd_some hL3;have q7 := (hC0.agree A1_.agree).idxG (kk := .i64) el_31 sz_24 g6;have q8 := (hC0.agree A1_.agree).loadG sz_24 ag_24 g6;obtain ⟨r1, hc9, hL3⟩ := bd_some hL3;refine .sr fun K hK => ?_;simp [e1_, q7, q8, (((hC0.agree A1_.agree).rowAt [] g6).tup)];refine CallD.t (hx1 _ A1_ (gat nilV C0 y1_8) (gat [] x0 y1_8) _ ((hC0.agree A1_.agree).rowAt [] g6) hc9) ?_;rintro _ G10 ⟨a13, rfl, S14⟩;have A12 := A1_.ext (hB.le A1_.1) a13.agree;have S11 : Sep G10 (Fr H) [] := S1_.agree a13.agree;simp [e1_, q7, q8, a13.pre];apply hK;refine DWp.cond' (t := r1) (by simp [e1_]) (fun hb15 => ?_) (fun hb15 => ?_)
   ·replace hL3 := cd_t hb15 hL3;refine .sr fun K hK => ?_;simp [e1_];apply hK;refine DWp.ret ?_;simp only [andThen, leaves];obtain rfl := Option.some.inj hL3;simp only [lr] at hF;obtain rfl := Option.some.inj hF;exact ⟨by simp, [(Value.int .i64 y1_8)], by simp [e1_], A12, rfl, S11.pick [] (by decide) rfl⟩
   ·replace hL3 := cd_f hb15 hL3;refine DWp.skip ?_;simp only [andThen, leaves];refine .region fun K hK => ?_;simp [e1_];apply hK;simp only [andThen, leaves];have S16 := S11.pick [] (by decide) rfl;exact ⟨n1, Nat.lt_succ_self _, (iadd .i64 y1_8 1), hL3, S16, A12, by simp [e1_]⟩
  ·replace hL3 := cd_f hb5 hL3;refine DWp.exit ?_;simp only [andThen, leaves, if_true, if_false, reduceIte, Nat.reduceEqDiff];obtain rfl := Option.some.inj hL3;simp only [lr] at hF;refine .sr fun K hK => ?_;simp [e1_];apply hK;refine DWp.ret ?_;obtain rfl := Option.some.inj hF;exact ⟨by simp, [(Value.int .i64 (-1))], by simp [e1_], A1_, rfl, S1_.pick [] (by decide) rfl⟩
def F_slices_DeleteFunc_SSint_L1 (fu : Nat) (k1_0 : ((List Int) → Option (Bool))) : Nat → List (List Int) → Int → Int → Option (List (List Int) × Int × Int)
  | 0, _, _, _ => none
  | n + 1, l1_0, y1_5, y1_6 =>
    bif (ilt y1_6 (llen l1_0)) then
      gd (inL l1_0 y1_6) (
      gd ((y1_5).toNat ≤ (y1_6).toNat) (
      gd (l1_0.length ≤ 4294967296) (
      bd (k1_0 (gat [] l1_0 y1_6)) fun r2 =>
      bif (bnot r2) then
        gd (inL l1_0 y1_5) (
        gd ((y1_5).toNat < ((iadd .i64 y1_6 1)).toNat ∧ l1_0.length ≤ 4294967296) (
        F_slices_DeleteFunc_SSint_L1 fu k1_0 n (lset l1_0 y1_5 (gat [] l1_0 y1_6)) (iadd .i64 y1_5 1) (iadd .i64 y1_6 1)))
      else
        F_slices_DeleteFunc_SSint_L1 fu k1_0 n l1_0 y1_5 (iadd .i64 y1_6 1))))
    else
      some (l1_0, y1_5, y1_6)
def F_slices_DeleteFunc_SSint (fu : Nat) (x0 : List (List Int)) (x1 : (List Int) → Option (Bool)) : Option (List (List Int)) :=
  bd (F_slices_IndexFunc_SSint fu x0 x1) fun r1 =>
  bif (ieq r1 (-1)) then
    some x0
  else
    bd (F_slices_DeleteFunc_SSint_L1 fu x1 fu x0 r1 (iadd .i64 r1 1)) fun s1 =>
    gd (inL s1.1 s1.2.1) (
    gd (s1.2.2 = llen s1.1) (
    gd (inL s1.1 s1.2.1) (
    some (s1.1.take (s1.2.1).toNat))))
theorem F_slices_DeleteFunc_SSint_w {fu : Nat} {H : AH} {B : Nat → Prop} {v0 : Value} {C0 : List Value} {f1 : FuncId} {c1 : List Value} {x0 : List (List Int)} {x1 : (List Int) → Option (Bool)} {r : (List (List Int))} (hB : Up B H.length) (S0 : Sep H B [rowsC v0 24 3 C0 (List.map ints x0)]) (hx1 : ∀ (G : AH), AgB B H G → ∀ (v0 : Value) (y0 : List Int) (q : (Bool)), Sl G v0 (ints y0) → x1 y0 = some q → ACallT Tryz.prog f1 ([v0] ++ c1) G (fun u G' => AgB (Fr G) G G' ∧ u = (Value.bool q) ∧ Sep G' (Fr G) [])) (hF : F_slices_DeleteFunc_SSint fu x0 x1 = some r) :
    ACallT Tryz.prog 80 [v0, (Value.func (.func f1) #[] c1.toArray)] H (fun u G => AgB B H G ∧ ∃ u0 : Value, ∃ C0 : List Value, u = u0 ∧ Sep G B [rowsC u0 24 3 C0 (List.map ints r)]) := by
 refine ACallT.of_body (nt := 42) (rs := [.tmp 4]) Tryz.func80 rfl rfl rfl rfl ?_;have A0 : AgB B H H := .refl _ _;unfold F_slices_DeleteFunc_SSint at hF;refine .sr fun K hK => ?_;simp [];apply hK;obtain ⟨r1, hc1, hF⟩ := bd_some hF;refine .sr fun K hK => ?_;simp [((S0.rd (k := 0) rfl).tup)];refine CallD.t (F_slices_IndexFunc_SSint_w (fu := fu) ((S0.rd (k := 0) rfl).slsl) (fun (G_ : AH) (a_ : AgB (Fr H) H G_) => hx1 G_ (A0.ext (hB.le A0.1) a_.agree)) hc1) ?_;rintro _ G3 ⟨a6, rfl, S7⟩;have A5 := A0.ext (hB.le A0.1) a6.agree;have S4 : Sep G3 B [rowsC v0 24 3 C0 (List.map ints x0)] := S0.app a6.agree S7 (fun _ h => h) (hB.le A0.1);simp [a6.pre];apply hK;refine .seq ?_;refine .sr fun K hK => ?_;simp [];apply hK;refine DWp.cond' (t := (ieq r1 (-1))) (by simp []) (fun hb8 => ?_) (fun hb8 => ?_)
 ·replace hF := cd_t hb8 hF;refine .sr fun K hK => ?_;simp [];apply hK;refine DWp.ret ?_;simp only [andThen, leaves];obtain rfl := Option.some.inj hF;exact ⟨by simp, [v0], by simp [((S4.rd (k := 0) rfl).tup)], A5, v0, C0, rfl, S4.pick [0] (by decide) rfl⟩
 ·replace hF := cd_f hb8 hF;refine DWp.skip ?_;simp only [andThen, leaves];refine .seq ?_;refine .sr fun K hK => ?_;simp [];apply hK;refine .block ?_;have S9 : Sep G3 B [rowsD v0 24 3 C0 (List.map ints x0) r1 (iadd .i64 r1 1)] := S4.toD (kk := 0) rfl r1 (iadd .i64 r1 1);obtain ⟨s10, hL11, hF⟩ := bd_some hF;have S12 := S9.pick [0] (by decide) rfl;refine DWp.loop (fun n env G => ∃ l1_0 : List (List Int), ∃ y1_5 : Int, ∃ y1_6 : Int, ∃ D1_0 : List Value, F_slices_DeleteFunc_SSint_L1 fu x1 n l1_0 y1_5 y1_6 = some s10 ∧ Sep G B [rowsD v0 24 3 D1_0 (List.map ints l1_0) y1_5 y1_6] ∧ AgB B H G ∧ env 0 = some v0 ∧ env 1 = some (Value.func (.func f1) #[] c1.toArray) ∧ env 5 = some (Value.int .i64 y1_5) ∧ env 6 = some (Value.int .i64 y1_6)) fu ⟨x0, r1, (iadd .i64 r1 1), C0, hL11, S12, A5, by simp []⟩ ?_;rintro n1 env1 G1_ ⟨l1_0, y1_5, y1_6, D1_0, hL11, S1_, A1_, e1_⟩;cases n1 with
  | zero => cases hL11
  | succ n1 =>
   simp only [F_slices_DeleteFunc_SSint_L1] at hL11;refine .seq ?_;have q13 := S1_.lenD (kk := 0) rfl el_31;refine .sr fun K hK => ?_;simp [e1_, q13];apply hK;refine DWp.cond' (t := (ilt y1_6 (llen l1_0))) (by simp [e1_]) (fun hb14 => ?_) (fun hb14 => ?_)
   ·replace hL11 := cd_t hb14 hL11;refine DWp.skip ?_;simp only [andThen, leaves];refine .seq ?_;refine .block ?_;obtain ⟨g15, hL11⟩ := gd_some hL11;have q16 := S1_.idxD (ki := .i64) (kk := 0) rfl el_31 sz_24 g15;obtain ⟨g19, hL11⟩ := gd_some hL11;have q18 := S1_.loadD (kk := 0) rfl sz_24 ag_24 g15;obtain ⟨g20, hL11⟩ := gd_some hL11;have S21 : Sep G1_ B [rowsD v0 24 3 D1_0 (List.map ints l1_0) y1_5 (iadd .i64 y1_6 1), flat (gat nilV D1_0 y1_6) 3 (ints (gat [] l1_0 y1_6))] := S1_.takeD (fr := ints) (kk := 0) rfl [] g15 g20 g19;refine .sr fun K hK => ?_;simp [e1_, q16, q18];apply hK;obtain ⟨r2, hc22, hL11⟩ := bd_some hL11;refine .sr fun K hK => ?_;simp [e1_, ((S21.sl (k := 1) rfl).tup)];refine CallD.t (hx1 _ A1_ (gat nilV D1_0 y1_6) (gat [] l1_0 y1_6) _ (S21.sl (k := 1) rfl) hc22) ?_;rintro _ G23 ⟨a26, rfl, S27⟩;have A25 := A1_.ext (hB.le A1_.1) a26.agree;have S24 : Sep G23 B [rowsD v0 24 3 D1_0 (List.map ints l1_0) y1_5 (iadd .i64 y1_6 1), flat (gat nilV D1_0 y1_6) 3 (ints (gat [] l1_0 y1_6))] := S21.agree a26.agree;simp [e1_, a26.pre];apply hK;refine DWp.cond' (t := (bnot r2)) (by simp [e1_]) (fun hb28 => ?_) (fun hb28 => ?_)
    ·replace hL11 := cd_t hb28 hL11;obtain ⟨g29, hL11⟩ := gd_some hL11;have q30 := S24.idxD (ki := .i64) (kk := 0) rfl el_31 sz_24 g29;obtain ⟨g36, hL11⟩ := gd_some hL11;obtain ⟨G31, q32, S33, a35⟩ := S24.putD (fr := ints) (kk := 0) (k1 := 1) (xs := (gat [] l1_0 y1_6)) (by decide) rfl rfl (hB.le A25.1) sz_24 g29 g36.1 g36.2 ((S24.sl (k := 1) rfl).tup) ((S24.sl (k := 1) rfl).one);have A34 := A25.trans a35;replace S33 : Sep G31 B [rowsD v0 24 3 (lset D1_0 y1_5 (gat nilV D1_0 y1_6)) (List.map ints (lset l1_0 y1_5 (gat [] l1_0 y1_6))) (iadd .i64 y1_5 1) (iadd .i64 y1_6 1), emp] := S33;refine .sr fun K hK => ?_;simp [e1_, q30, q32, ((S24.sl (k := 1) rfl).tup)];apply hK;refine .region fun K hK => ?_;simp [e1_];apply hK;simp only [andThen, leaves];refine .region fun K hK => ?_;simp [e1_];apply hK;simp only [andThen, leaves];have S37 := S33.pick [0] (by decide) rfl;exact ⟨n1, Nat.lt_succ_self _, (lset l1_0 y1_5 (gat [] l1_0 y1_6)), (iadd .i64 y1_5 1), (iadd .i64 y1_6 1), (lset D1_0 y1_5 (gat nilV D1_0 y1_6)), hL11, S37, A34, by simp [e1_]⟩
    ·replace hL11 := cd_f hb28 hL11;refine DWp.skip ?_;simp only [andThen, leaves];refine .region fun K hK => ?_;simp [e1_];apply hK;simp only [andThen, leaves];have S38 := S24.pick [0] (by decide) rfl;exact ⟨n1, Nat.lt_succ_self _, l1_0, y1_5, (iadd .i64 y1_6 1), D1_0, hL11, S38, A25, by simp [e1_]⟩
   ·replace hL11 := cd_f hb14 hL11;refine DWp.exit ?_;simp only [andThen, leaves, if_true, if_false, reduceIte, Nat.reduceEqDiff];obtain rfl := Option.some.inj hL11;try dsimp only at hF
    obtain ⟨g39, hF⟩ := gd_some hF;have q40 := S1_.tailVD (kk := 0) rfl el_31 sz_24 g39;obtain ⟨g41, hF⟩ := gd_some hF;obtain ⟨G42, D47, q43, S44, a46⟩ := S1_.clearD (fr := ints) (t := 31) (kk := 0) rfl (hB.le A1_.1) el_31 ei_24 rfl g39 g41;have A45 := A1_.trans a46;replace S44 : Sep G42 B [rowsD v0 24 3 D47 (List.map ints l1_0) y1_5 y1_6] := S44;refine .sr fun K hK => ?_;simp [e1_, q40, q43];apply hK;obtain ⟨g48, hF⟩ := gd_some hF;have q49 := S44.headVD (kk := 0) rfl el_31 sz_24 g48;have S50 : Sep G42 B [rowsC (subV v0 0 y1_5) 24 3 (D47.take (y1_5).toNat) (List.map ints (l1_0.take (y1_5).toNat))] := S44.headD (fr := ints) (kk := 0) rfl g48;refine .sr fun K hK => ?_;simp [e1_, q49, ((S50.rd (k := 0) rfl).tup)];apply hK;refine DWp.ret ?_;obtain rfl := Option.some.inj hF;exact ⟨by simp, [(subV v0 0 y1_5)], by simp [e1_, ((S50.rd (k := 0) rfl).tup)], A45, (subV v0 0 y1_5), (D47.take (y1_5).toNat), rfl, S50.pick [0] (by decide) rfl⟩
def F_impl_ClosingWith (fu : Nat) (x0 : List Int) : Option (List (List Int) × Bool) :=
  bd (
    bd (F_impl_IsSystem fu x0) fun r1 =>
    bif (bnot r1) then
      some true
    else
      some (ieq (llen x0) 0)) fun s8 =>
  bif s8 then
    some ([], false)
  else
    bd (F_impl_systems fu (iquo .i64 (llen x0) 2)) fun r2 =>
    bd (F_slices_DeleteFunc_SSint fu r2 (fun y0 => F_impl_ClosingWith_1 fu y0 x0)) fun r3 =>
    some (r3, true)
theorem F_impl_ClosingWith_w {fu : Nat} {H : AH} {v0 : Value} {x0 : List Int} {r : (List (List Int) × Bool)} (hx0 : Sl H v0 (ints x0)) (hF : F_impl_ClosingWith fu x0 = some r) :
    ACallT Tryz.prog 35 [v0] H (fun u G => AgB (Fr H) H G ∧ ∃ u0 : Value, ∃ C0 : List Value, u = (Value.tuple #[u0, (Value.bool r.2)]) ∧ Sep G (Fr H) [rowsC u0 24 3 C0 (List.map ints r.1)]) := by
 refine ACallT.of_body (nt := 18) (rs := [.tmp 2, .tmp 3]) Tryz.func35 rfl rfl rfl rfl ?_;have A0 : AgB (Fr H) H H := .refl _ _;have S0 : Sep H (Fr H) [] := .nil;have hB := Fr.up H;unfold F_impl_ClosingWith at hF;obtain ⟨G2, p4, q5, q6, a7, S1⟩ := S0.boxT (hB.le A0.1) 24 [v0];have A3 := A0.ext (hB.le A0.1) a7;replace S1 : Sep G2 (Fr H) [AL.box p4 [v0]] := S1;refine .sr fun K hK => ?_;simp [q5, q6, a7.to_pre, ((hx0.agree A0.agree).one), ((hx0.agree A0.agree).tup)];apply hK;refine .seq ?_;obtain ⟨s8, hL9, hF⟩ := bd_some hF;refine DWp.seq (DWp.join (fun env G => Sep G (Fr H) [AL.box p4 [v0]] ∧ AgB (Fr H) H G ∧ env 1 = some p4 ∧ env 11 = some (Value.bool s8)) ?_ ?_)
 ·
  have q11 := S1.load0 (k := 0) rfl sz_24 ag_24;obtain ⟨r1, hc12, hL9⟩ := bd_some hL9;refine .region fun K hK => ?_;simp [q11, ((hx0.agree A3.agree).tup)];refine CallD.t (F_impl_IsSystem_w (fu := fu) (hx0.agree A3.agree) hc12) ?_;rintro _ G14 ⟨a17, rfl, S18⟩;have A16 := A3.ext (hB.le A3.1) a17.agree;have S15 : Sep G14 (Fr H) [AL.box p4 [v0]] := S1.app a17.agree S18 (fun _ h => h) (hB.le A3.1);rcases Bool.eq_false_or_eq_true (bnot r1) with hb19 | hb19
  ·replace hL9 := cd_t hb19 hL9;simp [hb19, q11, a17.pre];apply hK;simp only [andThen, leaves];have S20 := S15.pick [0] (by decide) rfl;obtain rfl := Option.some.inj hL9;exact ⟨S20, A16, by simp []⟩
  ·replace hL9 := cd_f hb19 hL9;have q21 := S15.load0 (k := 0) rfl sz_24 ag_24;have q22 := lenG (hx0.agree A16.agree) el_24;simp [hb19, q11, a17.pre, q21, q22];apply hK;simp only [andThen, leaves];have S23 := S15.pick [0] (by decide) rfl;obtain rfl := Option.some.inj hL9;exact ⟨S23, A16, by simp []⟩
 ·rintro env Gj24 ⟨Sj24, Aj24, ej24_⟩;refine DWp.cond' (t := s8) (by simp [ej24_]) (fun hb25 => ?_) (fun hb25 => ?_)
  ·replace hF := cd_t hb25 hF;refine .sr fun K hK => ?_;simp [ej24_];apply hK;refine DWp.ret ?_;simp only [andThen, leaves];have S26 := Sj24.rowsNil (hB.le Aj24.1) 24 3;obtain rfl := Option.some.inj hF;exact ⟨by simp, [(Value.slice none 0 0), (Value.bool false)], by simp [ej24_], Aj24, nilV, [], rfl, S26.pick [1] (by decide) rfl⟩
  ·replace hF := cd_f hb25 hF;refine DWp.skip ?_;simp only [andThen, leaves];have q27 := Sj24.load0 (k := 0) rfl sz_24 ag_24;have q28 := lenG (hx0.agree Aj24.agree) el_24;have g29 : (2 : Int) ≠ 0 := by decide
   obtain ⟨r2, hc30, hF⟩ := bd_some hF;refine .sr fun K hK => ?_;simp [ej24_, q27, q28, b_quo g29];refine CallD.t (F_impl_systems_w (fu := fu)  hc30) ?_;rintro c31_u0 G32 ⟨a35, _, c31_C0, rfl, S36⟩;have A34 := Aj24.ext (hB.le Aj24.1) a35.agree;have S33 : Sep G32 (Fr H) [AL.box p4 [v0], rowsC c31_u0 24 3 c31_C0 (List.map ints r2)] := Sj24.app a35.agree S36 (fun _ h => h) (hB.le Aj24.1);obtain ⟨r3, hc37, hF⟩ := bd_some hF;simp [ej24_, q27, q28, b_quo g29, a35.pre, (S33.flatT (k := 0) rfl), ((S33.rd (k := 1) rfl).tup), (S33.ptup (k := 0) rfl)];have S38 : Sep G32 (Fr H) ([rowsC c31_u0 24 3 c31_C0 (List.map ints r2)] ++ [AL.box p4 [v0]]) := S33.pick [1, 0] (by decide) rfl;obtain ⟨B44, S39, U40, M41, R42, C43⟩ := S38.frame (hB.le A34.1);refine CallD.t (F_slices_DeleteFunc_SSint_w (fu := fu) U40 S39 (fun G_ a_ v0 y0 q_ hy0 hq_ => F_impl_ClosingWith_1_w (fu := fu) hy0 ((hx0.agree A34.agree).agr a_ (fun i_ hi_ hb_ => Nat.not_le.2 (hx0.id_lt hi_) (M41 i_ hb_))) (Bx.later (R42 0 _ rfl) a_) hq_) hc37) ?_;rintro c45_u0 G46 ⟨a49, _, c45_C0, rfl, S50⟩;have A48 := A34.trans (a49.mono M41);have S47 : Sep G46 (Fr H) [rowsC c45_u0 24 3 c45_C0 (List.map ints r3), AL.box p4 [v0]] := C43 _ _ a49 S50;simp [ej24_, q27, q28, b_quo g29, a35.pre, (S33.flatT (k := 0) rfl)];apply hK;refine DWp.ret ?_;obtain rfl := Option.some.inj hF;exact ⟨by simp, [c45_u0, (Value.bool true)], by simp [ej24_, ((S47.rd (k := 0) rfl).tup)], A48, c45_u0, c45_C0, rfl, S47.pick [0] (by decide) rfl⟩
def F_impl_FarthestFrom (fu : Nat) (x0 : List Int) : Option (List (List Int) × Bool) :=
  bd (F_impl_ClosingWith fu x0) fun r1 =>
  some (r1.1, r1.2)
theorem F_impl_FarthestFrom_w {fu : Nat} {H : AH} {v0 : Value} {x0 : List Int} {r : (List (List Int) × Bool)} (hx0 : Sl H v0 (ints x0)) (hF : F_impl_FarthestFrom fu x0 = some r) :
    ACallT Tryz.prog 33 [v0] H (fun u G => AgB (Fr H) H G ∧ ∃ u0 : Value, ∃ C0 : List Value, u = (Value.tuple #[u0, (Value.bool r.2)]) ∧ Sep G (Fr H) [rowsC u0 24 3 C0 (List.map ints r.1)]) := by
 refine ACallT.of_body (nt := 8) (rs := [.tmp 2, .tmp 3]) Tryz.func33 rfl rfl rfl rfl ?_;have A0 : AgB (Fr H) H H := .refl _ _;have S0 : Sep H (Fr H) [] := .nil;have hB := Fr.up H;unfold F_impl_FarthestFrom at hF;refine .sr fun K hK => ?_;simp [];apply hK;obtain ⟨r1, hc1, hF⟩ := bd_some hF;refine .sr fun K hK => ?_;simp [((hx0.agree A0.agree).tup)];refine CallD.t (F_impl_ClosingWith_w (fu := fu) (hx0.agree A0.agree) hc1) ?_;rintro _ G3 ⟨a6, c2_u0, c2_C0, rfl, S7⟩;have A5 := A0.ext (hB.le A0.1) a6.agree;have S4 : Sep G3 (Fr H) [rowsC c2_u0 24 3 c2_C0 (List.map ints r1.1)] := S0.app a6.agree S7 (fun _ h => h) (hB.le A0.1);simp [a6.pre];apply hK;refine DWp.ret ?_;obtain rfl := Option.some.inj hF;exact ⟨by simp, [c2_u0, (Value.bool r1.2)], by simp [((S4.rd (k := 0) rfl).tup)], A5, c2_u0, c2_C0, rfl, S4.pick [0] (by decide) rfl⟩
def F_spec_ahAll_L3 (fu : Nat) (self_ : Int → Int → Option (List (List Int))) (k3_0 : Int) (k3_1 : Int) (k3_2 : Int) (k3_3 : List Int) (k3_4 : List (List Int)) (k3_5 : Int) (k3_6 : Int) (k3_7 : List (List Int)) (k3_8 : Int) : Nat → List (List Int) → Int → Option (List (List Int) × Int)
  | 0, _, _ => none
  | n + 1, l3_0, y3_40 =>
    bif (ilt y3_40 k3_8) then
      gd (inL k3_7 y3_40) (
      gd ([(iadd .i64 (iadd .i64 k3_1 (imul .i64 2 k3_2)) 1)].length + k3_3.length ≤ 4294967296) (
      gd ((lapp [(iadd .i64 (iadd .i64 k3_1 (imul .i64 2 k3_2)) 1)] k3_3).length + [k3_1].length ≤ 4294967296) (
      gd ((lapp (lapp [(iadd .i64 (iadd .i64 k3_1 (imul .i64 2 k3_2)) 1)] k3_3) [k3_1]).length + (gat [] k3_7 y3_40).length ≤ 4294967296) (
      gd (l3_0.length + 1 ≤ 4294967296) (
      F_spec_ahAll_L3 fu self_ k3_0 k3_1 k3_2 k3_3 k3_4 k3_5 k3_6 k3_7 k3_8 n (lapp l3_0 [(lapp (lapp (lapp [(iadd .i64 (iadd .i64 k3_1 (imul .i64 2 k3_2)) 1)] k3_3) [k3_1]) (gat [] k3_7 y3_40))]) (iadd .i64 y3_40 1))))))
    else
      some (l3_0, y3_40)
def F_spec_ahAll_L2 (fu : Nat) (self_ : Int → Int → Option (List (List Int))) (k2_0 : Int) (k2_1 : Int) (k2_2 : Int) (k2_3 : List (List Int)) (k2_4 : Int) : Nat → List (List Int) → Int → Option (List (List Int) × Int)
  | 0, _, _ => none
  | n + 1, l2_0, y2_25 =>
    bif (ilt y2_25 k2_4) then
      gd (inL k2_3 y2_25) (
      bd (self_ (isub .i64 (isub .i64 k2_0 1) k2_2) (iadd .i64 (iadd .i64 k2_1 (imul .i64 2 k2_2)) 2)) fun r2 =>
      bd (F_spec_ahAll_L3 fu self_ k2_0 k2_1 k2_2 (gat [] k2_3 y2_25) k2_3 k2_4 y2_25 r2 (llen r2) fu l2_0 0) fun s3 =>
      F_spec_ahAll_L2 fu self_ k2_0 k2_1 k2_2 k2_3 k2_4 n s3.1 (iadd .i64 y2_25 1))
    else
      some (l2_0, y2_25)
def F_spec_ahAll_L1 (fu : Nat) (self_ : Int → Int → Option (List (List Int))) (k1_0 : Int) (k1_1 : Int) : Nat → List (List Int) → Int → Option (List (List Int) × Int)
  | 0, _, _ => none
  | n + 1, l1_0, y1_6 =>
    bif (ilt y1_6 k1_0) then
      bd (self_ y1_6 (iadd .i64 k1_1 1)) fun r1 =>
      bd (F_spec_ahAll_L2 fu self_ k1_0 k1_1 y1_6 r1 (llen r1) fu l1_0 0) fun s2 =>
      F_spec_ahAll_L1 fu self_ k1_0 k1_1 n s2.1 (iadd .i64 y1_6 1)
    else
      some (l1_0, y1_6)
def F_spec_ahAll : Nat → Int → Int → Option (List (List Int))
  | 0, _, _ => none
  | fu + 1, x0, x1 =>
    bif (ieq x0 0) then
      some [[]]
    else
      bd (F_spec_ahAll_L1 fu (F_spec_ahAll fu) x0 x1 fu (@List.nil (List Int)) 0) fun s1 =>
      some s1.1
theorem F_spec_ahAll_w : ∀ {fu : Nat} {H : AH}  {x0 : Int} {x1 : Int} {r : (List (List Int))}  (hF : F_spec_ahAll fu x0 x1 = some r),
    ACallT Tryz.prog 78 [(Value.int .i64 x0), (Value.int .i64 x1)] H (fun u G => AgB (Fr H) H G ∧ ∃ u0 : Value, ∃ C0 : List Value, u = u0 ∧ Sep G (Fr H) [rowsC u0 24 3 C0 (List.map ints r)]) := by
 intro fu;induction fu with
 | zero => intros; rename_i hF; cases hF
 | succ fu ih =>
 intro H  x0 x1 r  hF;simp only [F_spec_ahAll] at hF;refine ACallT.of_body (nt := 65) (rs := [.tmp 4]) Tryz.func78 rfl rfl rfl rfl ?_;have A0 : AgB (Fr H) H H := .refl _ _;have S0 : Sep H (Fr H) [] := .nil;have hB := Fr.up H;refine .sr fun K hK => ?_;simp [];apply hK;refine .seq ?_;refine .sr fun K hK => ?_;simp [];apply hK;refine DWp.cond' (t := (ieq x0 0)) (by simp []) (fun hb1 => ?_) (fun hb1 => ?_)
 ·replace hF := cd_t hb1 hF;obtain ⟨v2, G3, q4, S5, a7, _, _⟩ := S0.lit1 (t := 31) (hB.le A0.1) el_31 ei_24 rfl (Value.slice none 0 0) (rfl : isTup (Value.slice none 0 0) = false) (rfl : (Value.slice none 0 0).cells = #[(Value.slice none 0 0)]);have A6 := A0.ext (hB.le A0.1) a7;replace S5 : Sep G3 (Fr H) [flat1 v2 24 [(Value.slice none 0 0)]] := S5;refine .sr fun K hK => ?_;simp [q4, a7.to_pre, (rfl : isTup (Value.slice none 0 0) = false)];apply hK;refine DWp.ret ?_;simp only [andThen, leaves];have S8 := S5.nilItem (hB.le A6.1) 3;have S9 : Sep G3 (Fr H) [rowsC v2 24 3 [(Value.slice none 0 0)] (List.map ints [[]]), emp] := S8.rowsOf1 (j := 0) (k := 1) (by decide) rfl rfl;obtain rfl := Option.some.inj hF;exact ⟨by simp, [v2], by simp [((S9.rd (k := 0) rfl).tup)], A6, v2, [(Value.slice none 0 0)], rfl, S9.pick [0] (by decide) rfl⟩
 ·replace hF := cd_f hb1 hF;refine DWp.skip ?_;simp only [andThen, leaves];refine .sr fun K hK => ?_;simp [];apply hK;refine .seq ?_;refine .sr fun K hK => ?_;simp [];apply hK;refine .block ?_;have S10 := S0.rowsNil (hB.le A0.1) 24 3;obtain ⟨s11, hL12, hF⟩ := bd_some hF;have S13 := S10.pick [0] (by decide) rfl;refine DWp.loop (fun n env G => ∃ l1_0 : List (List Int), ∃ y1_6 : Int, ∃ w1_0 : Value, ∃ D1_0 : List Value, F_spec_ahAll_L1 fu (F_spec_ahAll fu) x0 x1 n l1_0 y1_6 = some s11 ∧ Sep G (Fr H) [rowsC w1_0 24 3 D1_0 (List.map ints l1_0)] ∧ AgB (Fr H) H G ∧ env 0 = some (Value.int .i64 x0) ∧ env 1 = some (Value.int .i64 x1) ∧ env 5 = some w1_0 ∧ env 6 = some (Value.int .i64 y1_6)) fu ⟨(@List.nil (List Int)), 0, (Value.slice none 0 0), [], hL12, S13, A0, by simp []⟩ ?_;rintro n1 env1 G1_ ⟨l1_0, y1_6, w1_0, D1_0, hL12, S1_, A1_, e1_⟩;cases n1 with
  | zero => cases hL12
  | succ n1 =>
   simp only [F_spec_ahAll_L1] at hL12;refine .seq ?_;refine .sr fun K hK => ?_;simp [e1_];apply hK;refine DWp.cond' (t := (ilt y1_6 x0)) (by simp [e1_]) (fun hb14 => ?_) (fun hb14 => ?_)
   ·replace hL12 := cd_t hb14 hL12;refine DWp.skip ?_;simp only [andThen, leaves];refine .seq ?_;refine .block ?_;obtain ⟨r1, hc15, hL12⟩ := bd_some hL12;refine .sr fun K hK => ?_;simp [e1_];refine CallD.t (ih  hc15) ?_;rintro c16_u0 G17 ⟨a20, _, c16_C0, rfl, S21⟩;have A19 := A1_.ext (hB.le A1_.1) a20.agree;have S18 : Sep G17 (Fr H) [rowsC w1_0 24 3 D1_0 (List.map ints l1_0), rowsC c16_u0 24 3 c16_C0 (List.map ints r1)] := S1_.app a20.agree S21 (fun _ h => h) (hB.le A1_.1);have q22 := (S18.rd (k := 1) rfl).lenG el_31;simp [e1_, a20.pre, q22];apply hK;refine .block ?_;obtain ⟨s23, hL24, hL12⟩ := bd_some hL12;have S25 := S18.pick [0, 1] (by decide) rfl;refine DWp.loop (fun n env G => ∃ l2_0 : List (List Int), ∃ y2_25 : Int, ∃ w2_0 : Value, ∃ D2_0 : List Value, F_spec_ahAll_L2 fu (F_spec_ahAll fu) x0 x1 y1_6 r1 (llen r1) n l2_0 y2_25 = some s23 ∧ Sep G (Fr H) [rowsC w2_0 24 3 D2_0 (List.map ints l2_0), rowsC c16_u0 24 3 c16_C0 (List.map ints r1)] ∧ AgB (Fr H) H G ∧ env 0 = some (Value.int .i64 x0) ∧ env 1 = some (Value.int .i64 x1) ∧ env 5 = some w2_0 ∧ env 6 = some (Value.int .i64 y1_6) ∧ env 23 = some c16_u0 ∧ env 24 = some (Value.int .i64 (llen r1)) ∧ env 25 = some (Value.int .i64 y2_25)) fu ⟨l1_0, 0, w1_0, D1_0, hL24, S25, A19, by simp [e1_]⟩ ?_;rintro n2 env2 G2_ ⟨l2_0, y2_25, w2_0, D2_0, hL24, S2_, A2_, e2_⟩;cases n2 with
    | zero => cases hL24
    | succ n2 =>
     simp only [F_spec_ahAll_L2] at hL24;refine .sr fun K hK => ?_;simp [e2_];apply hK;refine .seq ?_;refine DWp.cond' (t := (ilt y2_25 (llen r1))) (by simp [e2_]) (fun hb26 => ?_) (fun hb26 => ?_)
     ·replace hL24 := cd_t hb26 hL24;refine DWp.skip ?_;simp only [andThen, leaves];refine .seq ?_;refine .block ?_;obtain ⟨g27, hL24⟩ := gd_some hL24;have q28 := (S2_.rd (k := 1) rfl).idxG (kk := .i64) el_31 sz_24 g27;have q29 := (S2_.rd (k := 1) rfl).loadG sz_24 ag_24 g27;refine .sr fun K hK => ?_;simp [e2_, q28, q29];apply hK;obtain ⟨r2, hc30, hL24⟩ := bd_some hL24;refine .sr fun K hK => ?_;simp [e2_];refine CallD.t (ih  hc30) ?_;rintro c31_u0 G32 ⟨a35, _, c31_C0, rfl, S36⟩;have A34 := A2_.ext (hB.le A2_.1) a35.agree;have S33 : Sep G32 (Fr H) [rowsC w2_0 24 3 D2_0 (List.map ints l2_0), rowsC c16_u0 24 3 c16_C0 (List.map ints r1), rowsC c31_u0 24 3 c31_C0 (List.map ints r2)] := S2_.app a35.agree S36 (fun _ h => h) (hB.le A2_.1);have q37 := (S33.rd (k := 2) rfl).lenG el_31;simp [e2_, a35.pre, q37];apply hK;refine .block ?_;obtain ⟨s38, hL39, hL24⟩ := bd_some hL24;have S40 := S33.pick [0, 1, 2] (by decide) rfl
      refine DWp.loop (fun n env G => ∃ l3_0 : List (List Int), ∃ y3_40 : Int, ∃ w3_0 : Value, ∃ D3_0 : List Value, F_spec_ahAll_L3 fu (F_spec_ahAll fu) x0 x1 y1_6 (gat [] r1 y2_25) r1 (llen r1) y2_25 r2 (llen r2) n l3_0 y3_40 = some s38 ∧ Sep G (Fr H) [rowsC w3_0 24 3 D3_0 (List.map ints l3_0), rowsC c16_u0 24 3 c16_C0 (List.map ints r1), rowsC c31_u0 24 3 c31_C0 (List.map ints r2)] ∧ AgB (Fr H) H G ∧ env 0 = some (Value.int .i64 x0) ∧ env 1 = some (Value.int .i64 x1) ∧ env 5 = some w3_0 ∧ env 6 = some (Value.int .i64 y1_6) ∧ env 8 = some (gat nilV c16_C0 y2_25) ∧ env 23 = some c16_u0 ∧ env 24 = some (Value.int .i64 (llen r1)) ∧ env 25 = some (Value.int .i64 y2_25) ∧ env 38 = some c31_u0 ∧ env 39 = some (Value.int .i64 (llen r2)) ∧ env 40 = some (Value.int .i64 y3_40)) fu ⟨l2_0, 0, w2_0, D2_0, hL39, S40, A34, by simp [e2_]⟩ ?_;rintro n3 env3 G3_ ⟨l3_0, y3_40, w3_0, D3_0, hL39, S3_, A3_, e3_⟩;cases n3 with
      | zero => cases hL39
      | succ n3 =>
       simp only [F_spec_ahAll_L3] at hL39;refine .sr fun K hK => ?_;simp [e3_];apply hK;refine .seq ?_;refine DWp.cond' (t := (ilt y3_40 (llen r2))) (by simp [e3_]) (fun hb41 => ?_) (fun hb41 => ?_)
       ·replace hL39 := cd_t hb41 hL39;refine DWp.skip ?_;simp only [andThen, leaves];refine .seq ?_;refine .block ?_;obtain ⟨g42, hL39⟩ := gd_some hL39;have q43 := (S3_.rd (k := 2) rfl).idxG (kk := .i64) el_31 sz_24 g42;have q44 := (S3_.rd (k := 2) rfl).loadG sz_24 ag_24 g42;refine .sr fun K hK => ?_;simp [e3_, q43, q44];apply hK;obtain ⟨v45, G46, q47, S48, a50, _, _⟩ := S3_.lit1 (t := 24) (hB.le A3_.1) el_24 ei_3 rfl (Value.int .i64 (iadd .i64 (iadd .i64 x1 (imul .i64 2 y1_6)) 1)) rfl rfl;have A49 := A3_.ext (hB.le A3_.1) a50;replace S48 : Sep G46 (Fr H) [rowsC w3_0 24 3 D3_0 (List.map ints l3_0), rowsC c16_u0 24 3 c16_C0 (List.map ints r1), rowsC c31_u0 24 3 c31_C0 (List.map ints r2), flat1 v45 3 (ints [(iadd .i64 (iadd .i64 x1 (imul .i64 2 y1_6)) 1)])] := S48;obtain ⟨g52, hL39⟩ := gd_some hL39;obtain ⟨v58, G53, q54, S55, a57, _, _⟩ := S48.append1 (f := (Value.int .i64)) (xs := [(iadd .i64 (iadd .i64 x1 (imul .i64 2 y1_6)) 1)]) (ys := (gat [] r1 y2_25)) (t := 24) (t2 := 24) (k := 3) rfl (hB.le A49.1) el_24 el_24 ei_3 rfl ((S48.rd (k := 1) rfl).rowAt [] g27) g52;have A56 := A49.trans a57;replace S55 : Sep G53 (Fr H) [rowsC w3_0 24 3 D3_0 (List.map ints l3_0), rowsC c16_u0 24 3 c16_C0 (List.map ints r1), rowsC c31_u0 24 3 c31_C0 (List.map ints r2), flat v58 3 (ints (lapp [(iadd .i64 (iadd .i64 x1 (imul .i64 2 y1_6)) 1)] (gat [] r1 y2_25)))] := S55;refine .sr fun K hK => ?_;simp [e3_, q47, a50.to_pre, q54];apply hK;obtain ⟨v59, G60, q61, S62, a64, _, _⟩ := S55.lit1 (t := 24) (hB.le A56.1) el_24 ei_3 rfl (Value.int .i64 x1) rfl rfl;have A63 := A56.ext (hB.le A56.1) a64
        replace S62 : Sep G60 (Fr H) [rowsC w3_0 24 3 D3_0 (List.map ints l3_0), rowsC c16_u0 24 3 c16_C0 (List.map ints r1), rowsC c31_u0 24 3 c31_C0 (List.map ints r2), flat v58 3 (ints (lapp [(iadd .i64 (iadd .i64 x1 (imul .i64 2 y1_6)) 1)] (gat [] r1 y2_25))), flat1 v59 3 (ints [x1])] := S62;obtain ⟨g66, hL39⟩ := gd_some hL39;obtain ⟨v72, G67, q68, S69, a71, _, _⟩ := S62.appendG (f := (Value.int .i64)) (xs := (lapp [(iadd .i64 (iadd .i64 x1 (imul .i64 2 y1_6)) 1)] (gat [] r1 y2_25))) (ys := [x1]) (t := 24) (t2 := 24) (k := 3) rfl (hB.le A63.1) el_24 el_24 ei_3 rfl (S62.sl1 (k := 4) rfl) g66;have A70 := A63.trans a71;replace S69 : Sep G67 (Fr H) [rowsC w3_0 24 3 D3_0 (List.map ints l3_0), rowsC c16_u0 24 3 c16_C0 (List.map ints r1), rowsC c31_u0 24 3 c31_C0 (List.map ints r2), flat v72 3 (ints (lapp (lapp [(iadd .i64 (iadd .i64 x1 (imul .i64 2 y1_6)) 1)] (gat [] r1 y2_25)) [x1])), flat1 v59 3 (ints [x1])] := S69;obtain ⟨g73, hL39⟩ := gd_some hL39;obtain ⟨v79, G74, q75, S76, a78, _, _⟩ := S69.appendG (f := (Value.int .i64)) (xs := (lapp (lapp [(iadd .i64 (iadd .i64 x1 (imul .i64 2 y1_6)) 1)] (gat [] r1 y2_25)) [x1])) (ys := (gat [] r2 y3_40)) (t := 24) (t2 := 24) (k := 3) rfl (hB.le A70.1) el_24 el_24 ei_3 rfl ((S69.rd (k := 2) rfl).rowAt [] g42) g73;have A77 := A70.trans a78;replace S76 : Sep G74 (Fr H) [rowsC w3_0 24 3 D3_0 (List.map ints l3_0), rowsC c16_u0 24 3 c16_C0 (List.map ints r1), rowsC c31_u0 24 3 c31_C0 (List.map ints r2), flat v79 3 (ints (lapp (lapp (lapp [(iadd .i64 (iadd .i64 x1 (imul .i64 2 y1_6)) 1)] (gat [] r1 y2_25)) [x1]) (gat [] r2 y3_40))), flat1 v59 3 (ints [x1])] := S76;refine .sr fun K hK => ?_;simp [e3_, q61, a64.to_pre, q68, q75];apply hK
        obtain ⟨v80, G81, q82, S83, a85, _, _⟩ := S76.lit1 (t := 31) (hB.le A77.1) el_31 ei_24 rfl v79 ((S76.sl (k := 3) rfl).tup) ((S76.sl (k := 3) rfl).one);have A84 := A77.ext (hB.le A77.1) a85;replace S83 : Sep G81 (Fr H) [rowsC w3_0 24 3 D3_0 (List.map ints l3_0), rowsC c16_u0 24 3 c16_C0 (List.map ints r1), rowsC c31_u0 24 3 c31_C0 (List.map ints r2), flat v79 3 (ints (lapp (lapp (lapp [(iadd .i64 (iadd .i64 x1 (imul .i64 2 y1_6)) 1)] (gat [] r1 y2_25)) [x1]) (gat [] r2 y3_40))), flat1 v59 3 (ints [x1]), flat1 v80 24 [v79]] := S83;obtain ⟨g86, hL39⟩ := gd_some hL39;obtain ⟨v92, G87, q88, S89, a91, q88t, _⟩ := S83.pushRow (u := w3_0) (fr := ints) (X := l3_0) (y := (lapp (lapp (lapp [(iadd .i64 (iadd .i64 x1 (imul .i64 2 y1_6)) 1)] (gat [] r1 y2_25)) [x1]) (gat [] r2 y3_40))) (t := 31) (t2 := 31) (j := 0) (k := 3) (by decide) rfl rfl (hB.le A84.1) el_31 el_31 ei_24 rfl (S83.sl1 (k := 5) rfl) g86;have A90 := A84.trans a91;replace S89 : Sep G87 (Fr H) [rowsC v92 24 3 (D3_0 ++ [v79]) (List.map ints (lapp l3_0 [(lapp (lapp (lapp [(iadd .i64 (iadd .i64 x1 (imul .i64 2 y1_6)) 1)] (gat [] r1 y2_25)) [x1]) (gat [] r2 y3_40))])), rowsC c16_u0 24 3 c16_C0 (List.map ints r1), rowsC c31_u0 24 3 c31_C0 (List.map ints r2), emp, flat1 v59 3 (ints [x1]), flat1 v80 24 [v79]] := S89;have q93 := S89.lastV (fr := ints) (k := 0) rfl;try simp only [List.cons_append, List.nil_append] at q93
        refine .region fun K hK => ?_;simp [e3_, q93, q82, a85.to_pre, ((S76.sl (k := 3) rfl).tup), q88, q88t];apply hK;simp only [andThen, leaves];refine .region fun K hK => ?_;simp [e3_, q93];apply hK;simp only [andThen, leaves];have S94 := S89.pick [0, 1, 2] (by decide) rfl;exact ⟨n3, Nat.lt_succ_self _, (lapp l3_0 [(lapp (lapp (lapp [(iadd .i64 (iadd .i64 x1 (imul .i64 2 y1_6)) 1)] (gat [] r1 y2_25)) [x1]) (gat [] r2 y3_40))]), (iadd .i64 y3_40 1), v92, (D3_0 ++ [v79]), hL39, S94, A90, by simp [e3_, q93]⟩
       ·replace hL39 := cd_f hb41 hL39;refine DWp.exit ?_;simp only [andThen, leaves, if_true, if_false, reduceIte, Nat.reduceEqDiff];obtain rfl := Option.some.inj hL39;try dsimp only at hL24
        refine .region fun K hK => ?_;simp [e3_];apply hK;simp only [andThen, leaves];have S95 := S3_.pick [0, 1] (by decide) rfl;exact ⟨n2, Nat.lt_succ_self _, l3_0, (iadd .i64 y2_25 1), w3_0, D3_0, hL24, S95, A3_, by simp [e3_]⟩
     ·replace hL24 := cd_f hb26 hL24;refine DWp.exit ?_;simp only [andThen, leaves, if_true, if_false, reduceIte, Nat.reduceEqDiff];obtain rfl := Option.some.inj hL24;try dsimp only at hL12
      refine .region fun K hK => ?_;simp [e2_];apply hK;simp only [andThen, leaves];have S96 := S2_.pick [0] (by decide) rfl;exact ⟨n1, Nat.lt_succ_self _, l2_0, (iadd .i64 y1_6 1), w2_0, D2_0, hL12, S96, A2_, by simp [e2_]⟩
   ·replace hL12 := cd_f hb14 hL12;refine DWp.exit ?_;simp only [andThen, leaves, if_true, if_false, reduceIte, Nat.reduceEqDiff];obtain rfl := Option.some.inj hL12;try dsimp only at hF
    refine .sr fun K hK => ?_;simp [e1_];apply hK;refine DWp.ret ?_;obtain rfl := Option.some.inj hF;exact ⟨by simp, [w1_0], by simp [e1_, ((S1_.rd (k := 0) rfl).tup)], A1_, w1_0, D1_0, rfl, S1_.pick [0] (by decide) rfl⟩
end Go.Proofs.YtogghgecmjnieaaGreat.AL

/- The walks of functions, each with its Lean function: impl.exchanged, impl.neighbours, spec.l1In, spec.l1All, spec.ahGood, spec.mePair, spec.exPair, spec.exFew, spec.meWay, spec.meColours. No condition. -/
import Derived.Test.YtjgnpkedkjbmcaaG1
import Derived.Test.YtjgnpkedkjbmcaaG2
import Derived.Test.YtjgnpkedkjbmcaaG3
import Derived.Test.YtjgnpkedkjbmcaaG4
import Derived.Test.YtjgnpkedkjbmcaaG5
import Derived.Test.YtjgnpkedkjbmcaaG6
import Derived.Test.YtjgnpkedkjbmcaaALD
import Derived.Test.YtjgnpkedkjbmcaaProg
import Derived.KernelRfl
namespace Go.Proofs.Ytjgnpkedkjbmcaa.AL
open Go Go.RowKit
set_option linter.unusedVariables false
set_option linter.unusedSimpArgs false
set_option maxRecDepth 4096
attribute [local simp] n_fn b_add b_sub b_mul b_lt b_le b_gt b_ge b_eq b_ne u_not
theorem ze_22 : zeroT Try.prog 22 = some (.slice none 0 0) := by kernel_rfl
theorem ze_44 : zeroT Try.prog 44 = some (.agg #[.int .i64 0, .int .i64 0]) := by kernel_rfl
def F_impl_exchanged (fu : Nat) (x0 : List Int) (x1 : Int) (x2 : Int) : Option (List Int) :=
  bd (F_slices_Clone_Sint fu x0) fun r1 =>
  gd (inL x0 x2) (
  gd (inL x0 x1) (
  bif (ilt (gat 0 x0 x2) (gat 0 x0 x1)) then
    bd (F_impl_exchanged_1 fu x1 x2 r1) fun r2 =>
    gd (inL x0 x2) (
    gd (inL x0 x1) (
    bd (F_impl_exchanged_1 fu (gat 0 x0 x2) (gat 0 x0 x1) r2) fun r3 =>
    some r3))
  else
    gd (inL x0 x2) (
    bd (F_impl_exchanged_1 fu x1 (gat 0 x0 x2) r1) fun r4 =>
    gd (inL x0 x1) (
    bd (F_impl_exchanged_1 fu (gat 0 x0 x1) x2 r4) fun r5 =>
    some r5))))
theorem F_impl_exchanged_w {fu : Nat} {H : AH} {v0 : Value} {x0 : List Int} {x1 : Int} {x2 : Int} {r : (List Int)} (hx0 : Sl H v0 (ints x0)) (hF : F_impl_exchanged fu x0 x1 x2 = some r) :
    ACallT Try.prog 30 [v0, (Value.int .i64 x1), (Value.int .i64 x2)] H (fun u G => AgB (Fr H) H G ∧ ∃ u0 : Value, u = u0 ∧ Sep G (Fr H) [flat u0 3 (ints r)]) := by
 refine ACallT.of_body (nt := 50) (rs := [.tmp 6]) Try.func30 rfl rfl rfl rfl ?_;have A0 : AgB (Fr H) H H := .refl _ _;have S0 : Sep H (Fr H) [] := .nil;have hB := Fr.up H;unfold F_impl_exchanged at hF;refine .sr fun K hK => ?_;simp [];apply hK;clear hK K;obtain ⟨r1, hc1, hF⟩ := bd_some hF;refine .sr fun K hK => ?_;simp [((hx0.agree A0.agree).tup)];refine CallD.t (F_slices_Clone_Sint_w (fu := fu) (hx0.agree A0.agree) hc1) ?_;rintro c2_u0 G3 ⟨a6, _, rfl, S7⟩;have A5 := A0.ext (hB.le A0.1) a6.agree;have S4 : Sep G3 (Fr H) [flat c2_u0 3 (ints r1)] := S0.app a6.agree S7 (fun _ h => h) (hB.le A0.1);obtain ⟨G9, p11, q12, q14, a13, S8⟩ := S4.allocT (P := Try.prog) (hB.le A5.1) ze_22 rfl;have A10 := A5.ext (hB.le A5.1) a13;replace S8 : Sep G9 (Fr H) [flat c2_u0 3 (ints r1), AL.box p11 [(Value.slice none 0 0)]] := S8;obtain ⟨G15, q16, S17, a19⟩ := S8.put0 (P := Try.prog) (k := 1) rfl (hB.le A10.1) sz_22 ((S8.sl (k := 0) rfl).tup) ((S8.sl (k := 0) rfl).one);have A18 := A10.trans a19;replace S17 : Sep G15 (Fr H) [flat c2_u0 3 (ints r1), AL.box p11 [c2_u0]] := S17;simp [a6.pre, q12, q14, a13.to_pre, q16];apply hK;clear hK K;refine .sr fun K hK => ?_;simp [(S17.flatT (k := 1) rfl)];apply hK;clear hK K;refine .seq ?_;obtain ⟨g20, hF⟩ := gd_some hF;have q21 := idxG (P := Try.prog) (kk := .i64) (hx0.agree A18.agree) el_22 sz_3 g20;have q22 := loadG (P := Try.prog) (hx0.agree A18.agree) sz_3 ag_3 g20 0;obtain ⟨g23, hF⟩ := gd_some hF;have q24 := idxG (P := Try.prog) (kk := .i64) (hx0.agree A18.agree) el_22 sz_3 g23;have q25 := loadG (P := Try.prog) (hx0.agree A18.agree) sz_3 ag_3 g23 0;refine .sd (B := [0, 0, 3, 7, 0, 0, 48, 112, 255]) 9 mixed (by kernel_rfl) (by decide) fun K hK => ?_;simp [q21, q22, q24, q25];apply hK;clear hK K
 refine DWp.cond' (t := (ilt (gat 0 x0 x2) (gat 0 x0 x1))) (by simp []) (fun hb26 => ?_) (fun hb26 => ?_)
 ·replace hF := cd_t hb26 hF;obtain ⟨r2, hc27, hF⟩ := bd_some hF;refine .sr fun K hK => ?_;simp [(S17.ptup (k := 1) rfl)];have S28 : Sep G15 (Fr H) ([flat c2_u0 3 (ints r1), AL.box p11 [c2_u0]] ++ []) := S17.pick [0, 1] (by decide) rfl;obtain ⟨B34, S29, U30, M31, R32, C33⟩ := S28.frame (hB.le A18.1);refine CallD.t (F_impl_exchanged_1_w (fu := fu) U30 S29 hc27) ?_;rintro _ G36 ⟨a39, rfl, S40⟩;have A38 := A18.trans (a39.mono M31);have S37 : Sep G36 (Fr H) [flat c2_u0 3 (ints r2), AL.box p11 [c2_u0]] := C33 _ _ a39 S40;simp [];apply hK;clear hK K;obtain ⟨g41, hF⟩ := gd_some hF;have q42 := idxG (P := Try.prog) (kk := .i64) (hx0.agree A38.agree) el_22 sz_3 g41;have q43 := loadG (P := Try.prog) (hx0.agree A38.agree) sz_3 ag_3 g41 0;obtain ⟨g44, hF⟩ := gd_some hF;have q45 := idxG (P := Try.prog) (kk := .i64) (hx0.agree A38.agree) el_22 sz_3 g44;have q46 := loadG (P := Try.prog) (hx0.agree A38.agree) sz_3 ag_3 g44 0;obtain ⟨r3, hc47, hF⟩ := bd_some hF;refine .drawn (B := [0, 0, 0, 6, 14, 0, 0, 96, 224, 511]) 9 mixed (by kernel_rfl) (by decide) fun K hK => ?_;simp [q42, q43, q45, q46, (S37.ptup (k := 1) rfl)];have S48 : Sep G36 (Fr H) ([flat c2_u0 3 (ints r2), AL.box p11 [c2_u0]] ++ []) := S37.pick [0, 1] (by decide) rfl;obtain ⟨B54, S49, U50, M51, R52, C53⟩ := S48.frame (hB.le A38.1);refine CallD.t (F_impl_exchanged_1_w (fu := fu) U50 S49 hc47) ?_;rintro _ G56 ⟨a59, rfl, S60⟩;have A58 := A38.trans (a59.mono M51);have S57 : Sep G56 (Fr H) [flat c2_u0 3 (ints r3), AL.box p11 [c2_u0]] := C53 _ _ a59 S60;simp [q42, q43, q45, q46];apply hK;clear hK K;simp only [andThen, leaves];have q61 := S57.load0 (P := Try.prog) (k := 1) rfl sz_22 ag_22;refine .sr fun K hK => ?_;simp [q61];apply hK;clear hK K;refine DWp.ret ?_;obtain rfl := Option.some.inj hF
  exact ⟨by simp, [c2_u0], by simp [((S57.sl (k := 0) rfl).tup)], A58, c2_u0, rfl, S57.pick [0] (by decide) rfl⟩
 ·replace hF := cd_f hb26 hF;obtain ⟨g62, hF⟩ := gd_some hF;have q63 := idxG (P := Try.prog) (kk := .i64) (hx0.agree A18.agree) el_22 sz_3 g62;have q64 := loadG (P := Try.prog) (hx0.agree A18.agree) sz_3 ag_3 g62 0;obtain ⟨r4, hc65, hF⟩ := bd_some hF;refine .sr fun K hK => ?_;simp [q63, q64, (S17.ptup (k := 1) rfl)];have S66 : Sep G15 (Fr H) ([flat c2_u0 3 (ints r1), AL.box p11 [c2_u0]] ++ []) := S17.pick [0, 1] (by decide) rfl;obtain ⟨B72, S67, U68, M69, R70, C71⟩ := S66.frame (hB.le A18.1);refine CallD.t (F_impl_exchanged_1_w (fu := fu) U68 S67 hc65) ?_;rintro _ G74 ⟨a77, rfl, S78⟩;have A76 := A18.trans (a77.mono M69);have S75 : Sep G74 (Fr H) [flat c2_u0 3 (ints r4), AL.box p11 [c2_u0]] := C71 _ _ a77 S78;simp [q63, q64];apply hK;clear hK K;obtain ⟨g79, hF⟩ := gd_some hF;have q80 := idxG (P := Try.prog) (kk := .i64) (hx0.agree A76.agree) el_22 sz_3 g79;have q81 := loadG (P := Try.prog) (hx0.agree A76.agree) sz_3 ag_3 g79 0;obtain ⟨r5, hc82, hF⟩ := bd_some hF;refine .region fun K hK => ?_;simp [q80, q81, (S75.ptup (k := 1) rfl)];have S83 : Sep G74 (Fr H) ([flat c2_u0 3 (ints r4), AL.box p11 [c2_u0]] ++ []) := S75.pick [0, 1] (by decide) rfl;obtain ⟨B89, S84, U85, M86, R87, C88⟩ := S83.frame (hB.le A76.1);refine CallD.t (F_impl_exchanged_1_w (fu := fu) U85 S84 hc82) ?_;rintro _ G91 ⟨a94, rfl, S95⟩;have A93 := A76.trans (a94.mono M86);have S92 : Sep G91 (Fr H) [flat c2_u0 3 (ints r5), AL.box p11 [c2_u0]] := C88 _ _ a94 S95;simp [q80, q81];apply hK;clear hK K;simp only [andThen, leaves];have q96 := S92.load0 (P := Try.prog) (k := 1) rfl sz_22 ag_22;refine .sr fun K hK => ?_;simp [q96];apply hK;clear hK K;refine DWp.ret ?_;obtain rfl := Option.some.inj hF;exact ⟨by simp, [c2_u0], by simp [((S92.sl (k := 0) rfl).tup)], A93, c2_u0, rfl, S92.pick [0] (by decide) rfl⟩
def F_impl_neighbours_L1 (fu : Nat) (k1_0 : List Int) (k1_1 : List (Int × Int)) (k1_2 : Int) : Nat → List (List Int) → Int → Option (List (List Int) × Int)
  | 0, _, _ => none
  | n + 1, l1_0, y1_10 =>
    bif (ilt y1_10 k1_2) then
      gd (inL k1_1 y1_10) (
      bd (F_impl_exchanged fu k1_0 ((gat i2 k1_1 y1_10).1) ((gat i2 k1_1 y1_10).2)) fun r2 =>
      gd (l1_0.length + 1 ≤ 4294967296) (
      F_impl_neighbours_L1 fu k1_0 k1_1 k1_2 n (lapp l1_0 [r2]) (iadd .i64 y1_10 1)))
    else
      some (l1_0, y1_10)
def F_impl_neighbours (fu : Nat) (x0 : List Int) : Option (List (List Int)) :=
  bd (F_impl_couples fu x0) fun r1 =>
  bd (F_impl_neighbours_L1 fu x0 r1 (llen r1) fu [] 0) fun s1 =>
  bd (F_slices_SortFunc_SSint fu s1.1 (fun y0 y1 => F_slices_Compare_Sint fu y0 y1)) fun r3 =>
  some r3
theorem F_impl_neighbours_w {fu : Nat} {H : AH} {v0 : Value} {x0 : List Int} {r : (List (List Int))} (hx0 : Sl H v0 (ints x0)) (hF : F_impl_neighbours fu x0 = some r) :
    ACallT Try.prog 19 [v0] H (fun u G => AgB (Fr H) H G ∧ ∃ u0 : Value, ∃ C0 : List Value, u = u0 ∧ Sep G (Fr H) [rowsC u0 22 3 C0 (List.map ints r)]) := by
 refine ACallT.of_body (nt := 27) (rs := [.tmp 2]) Try.func19 rfl rfl rfl rfl ?_;have A0 : AgB (Fr H) H H := .refl _ _;have S0 : Sep H (Fr H) [] := .nil;have hB := Fr.up H;unfold F_impl_neighbours at hF;refine .sr fun K hK => ?_;simp [];apply hK;clear hK K;obtain ⟨v1, G2, q3, S4, a6, _, _⟩ := S0.lit0 (P := Try.prog) (t := 30) (hB.le A0.1) el_30 ei_22 rfl;have A5 := A0.ext (hB.le A0.1) a6;replace S4 : Sep G2 (Fr H) [flat1 v1 22 []] := S4;have S7 : Sep G2 (Fr H) [rowsC v1 22 3 [] (List.map ints [])] := S4.rowsOf0 (k := 0) rfl 3;refine .sr fun K hK => ?_;simp [q3, a6.to_pre];apply hK;clear hK K;refine .seq ?_;obtain ⟨r1, hc8, hF⟩ := bd_some hF;refine .sr fun K hK => ?_;simp [((hx0.agree A5.agree).tup)];refine CallD.t (F_impl_couples_w (fu := fu) (hx0.agree A5.agree) hc8) ?_;rintro c9_u0 G10 ⟨a13, _, rfl, S14⟩;have A12 := A5.ext (hB.le A5.1) a13.agree;have S11 : Sep G10 (Fr H) [rowsC v1 22 3 [] (List.map ints []), flatI c9_u0 44 r1] := S7.app a13.agree S14 (fun _ h => h) (hB.le A5.1);have q15 := (S11.slI (k := 1) rfl).lenG (P := Try.prog) el_42;simp [a13.pre, q15];apply hK;clear hK K;refine .block ?_;obtain ⟨s16, hL17, hF⟩ := bd_some hF;have S18 := S11.pick [0, 1] (by decide) rfl;refine DWp.loop (fun n env G => ∃ l1_0 : List (List Int), ∃ y1_10 : Int, ∃ w1_0 : Value, ∃ D1_0 : List Value, F_impl_neighbours_L1 fu x0 r1 (llen r1) n l1_0 y1_10 = some s16 ∧ Sep G (Fr H) [rowsC w1_0 22 3 D1_0 (List.map ints l1_0), flatI c9_u0 44 r1] ∧ AgB (Fr H) H G ∧ env 0 = some v0 ∧ env 3 = some w1_0 ∧ env 8 = some c9_u0 ∧ env 9 = some (Value.int .i64 (llen r1)) ∧ env 10 = some (Value.int .i64 y1_10)) fu ⟨[], 0, v1, [], hL17, S18, A12, by simp []⟩ ?_;rintro n1 env1 G1_ ⟨l1_0, y1_10, w1_0, D1_0, hL17, S1_, A1_, e1_⟩;cases n1 with
 | zero => cases hL17
 | succ n1 =>
  simp only [F_impl_neighbours_L1] at hL17;refine .sr fun K hK => ?_;simp [e1_];apply hK;clear hK K;refine .seq ?_;refine DWp.cond' (t := (ilt y1_10 (llen r1))) (by simp [e1_]) (fun hb19 => ?_) (fun hb19 => ?_)
  ·replace hL17 := cd_t hb19 hL17;refine DWp.skip ?_;simp only [andThen, leaves];refine .seq ?_;refine .block ?_;obtain ⟨g20, hL17⟩ := gd_some hL17;have q21 := (S1_.slI (k := 1) rfl).idxG (P := Try.prog) (kk := .i64) el_42 sz_44 g20;have q22 := (S1_.slI (k := 1) rfl).loadG (P := Try.prog) sz_44 ag_44 g20;obtain ⟨G24, p26, q27, q29, a28, S23⟩ := S1_.allocT (P := Try.prog) (hB.le A1_.1) ze_44 rfl;have A25 := A1_.ext (hB.le A1_.1) a28;replace S23 : Sep G24 (Fr H) [rowsC w1_0 22 3 D1_0 (List.map ints l1_0), flatI c9_u0 44 r1, AL.box p26 [(Value.int .i64 0), (Value.int .i64 0)]] := S23;obtain ⟨G30, q31, S32, a34⟩ := S23.putAgg (P := Try.prog) (k := 2) (xs := [(Value.int .i64 (gat i2 r1 y1_10).1), (Value.int .i64 (gat i2 r1 y1_10).2)]) rfl (hB.le A25.1) sz_44 rfl rfl;have A33 := A25.trans a34;replace S32 : Sep G30 (Fr H) [rowsC w1_0 22 3 D1_0 (List.map ints l1_0), flatI c9_u0 44 r1, AL.box p26 [(Value.int .i64 (gat i2 r1 y1_10).1), (Value.int .i64 (gat i2 r1 y1_10).2)]] := S32;refine .sr fun K hK => ?_;simp [e1_, q21, q22, q27, q29, a28.to_pre, q31];apply hK;clear hK K;have q35 : aIndexAddr Try.prog G30 44 p26 (Value.int .i64 0) = some (fldP p26 0) := S32.arrI (P := Try.prog) (kk := .i64) (k := 2) (n := 0) rfl ua_44 sz_3 (by decide);have q36 := S32.loadF (P := Try.prog) (k := 2) rfl sz_3 ag_3 (off := 0) rfl;have q37 : aIndexAddr Try.prog G30 44 p26 (Value.int .i64 1) = some (fldP p26 1) := S32.arrI (P := Try.prog) (kk := .i64) (k := 2) (n := 1) rfl ua_44 sz_3 (by decide);have q38 := S32.loadF (P := Try.prog) (k := 2) rfl sz_3 ag_3 (off := 1) rfl;obtain ⟨r2, hc39, hL17⟩ := bd_some hL17;refine .region fun K hK => ?_;simp [e1_, q35, q36, q37, q38, ((hx0.agree A33.agree).tup)];refine CallD.t (F_impl_exchanged_w (fu := fu) (hx0.agree A33.agree) hc39) ?_
   rintro c40_u0 G41 ⟨a44, _, rfl, S45⟩;have A43 := A33.ext (hB.le A33.1) a44.agree;have S42 : Sep G41 (Fr H) [rowsC w1_0 22 3 D1_0 (List.map ints l1_0), flatI c9_u0 44 r1, AL.box p26 [(Value.int .i64 (gat i2 r1 y1_10).1), (Value.int .i64 (gat i2 r1 y1_10).2)], flat c40_u0 3 (ints r2)] := S32.app a44.agree S45 (fun _ h => h) (hB.le A33.1);obtain ⟨v46, G47, q48, S49, a51, _, _⟩ := S42.lit1 (P := Try.prog) (t := 30) (hB.le A43.1) el_30 ei_22 rfl c40_u0 ((S42.sl (k := 3) rfl).tup) ((S42.sl (k := 3) rfl).one);have A50 := A43.ext (hB.le A43.1) a51;replace S49 : Sep G47 (Fr H) [rowsC w1_0 22 3 D1_0 (List.map ints l1_0), flatI c9_u0 44 r1, AL.box p26 [(Value.int .i64 (gat i2 r1 y1_10).1), (Value.int .i64 (gat i2 r1 y1_10).2)], flat c40_u0 3 (ints r2), flat1 v46 22 [c40_u0]] := S49;obtain ⟨g52, hL17⟩ := gd_some hL17;obtain ⟨v58, G53, q54, S55, a57, q54t, _⟩ := S49.pushRow (u := w1_0) (fr := ints) (X := l1_0) (y := r2) (P := Try.prog) (t := 30) (t2 := 30) (j := 0) (k := 3) (by decide) rfl rfl (hB.le A50.1) el_30 el_30 ei_22 rfl (S49.sl1 (k := 4) rfl) g52;have A56 := A50.trans a57;replace S55 : Sep G53 (Fr H) [rowsC v58 22 3 (D1_0 ++ [c40_u0]) (List.map ints (lapp l1_0 [r2])), flatI c9_u0 44 r1, AL.box p26 [(Value.int .i64 (gat i2 r1 y1_10).1), (Value.int .i64 (gat i2 r1 y1_10).2)], emp, flat1 v46 22 [c40_u0]] := S55;have q59 := S55.lastV (fr := ints) (k := 0) rfl;try simp only [List.cons_append, List.nil_append] at q59
   simp [e1_, q59, q35, q36, q37, q38, a44.pre, q48, a51.to_pre, ((S42.sl (k := 3) rfl).tup), q54, q54t];apply hK;clear hK K;simp only [andThen, leaves];refine .region fun K hK => ?_;simp [e1_, q59];apply hK;clear hK K;simp only [andThen, leaves];have S60 := S55.pick [0, 1] (by decide) rfl;exact ⟨n1, Nat.lt_succ_self _, (lapp l1_0 [r2]), (iadd .i64 y1_10 1), v58, (D1_0 ++ [c40_u0]), hL17, S60, A56, by simp [e1_, q59]⟩
  ·replace hL17 := cd_f hb19 hL17;refine DWp.exit ?_;simp only [andThen, leaves, if_true, if_false, reduceIte, Nat.reduceEqDiff];obtain rfl := Option.some.inj hL17;try dsimp only at hF
   obtain ⟨r3, hc62, hF⟩ := bd_some hF;refine .sr fun K hK => ?_;simp [e1_, ((S1_.rd (k := 0) rfl).tup)];have S63 : Sep G1_ (Fr H) ([rowsC w1_0 22 3 D1_0 (List.map ints l1_0)] ++ [flatI c9_u0 44 r1]) := S1_.pick [0, 1] (by decide) rfl;obtain ⟨B69, S64, U65, M66, R67, C68⟩ := S63.frame (hB.le A1_.1);refine CallD.t (F_slices_SortFunc_SSint_w (fu := fu) U65 S64 (fun G_ a_ v0 v1 y0 y1 q_ hy0 hy1 hq_ => F_slices_Compare_Sint_w (fu := fu) hy0 hy1 hq_) hc62) ?_;rintro _ G71 ⟨a74, c70_Cz0, rfl, S75⟩;have A73 := A1_.trans (a74.mono M66);have S72 : Sep G71 (Fr H) [rowsC w1_0 22 3 c70_Cz0 (List.map ints r3), flatI c9_u0 44 r1] := C68 _ _ a74 S75;simp [e1_];apply hK;clear hK K;refine .sr fun K hK => ?_;simp [e1_];apply hK;clear hK K;refine DWp.ret ?_;obtain rfl := Option.some.inj hF;exact ⟨by simp, [w1_0], by simp [e1_, ((S72.rd (k := 0) rfl).tup)], A73, w1_0, c70_Cz0, rfl, S72.pick [0] (by decide) rfl⟩
def F_spec_l1In (fu : Nat) (x0 : Int) (x1 : Int) (x2 : Int) : Option (Bool) :=
  bif (ile x1 x0) then
    some (ile x0 x2)
  else
    some false
theorem F_spec_l1In_w {fu : Nat} {H : AH}  {x0 : Int} {x1 : Int} {x2 : Int} {r : (Bool)}  (hF : F_spec_l1In fu x0 x1 x2 = some r) :
    ACallT Try.prog 65 [(Value.int .i64 x0), (Value.int .i64 x1), (Value.int .i64 x2)] H (fun u G => AgB (Fr H) H G ∧ u = (Value.bool r) ∧ Sep G (Fr H) []) := by
 refine ACallT.of_body (nt := 15) (rs := [.tmp 6]) Try.func65 rfl rfl rfl rfl ?_;have A0 : AgB (Fr H) H H := .refl _ _;have S0 : Sep H (Fr H) [] := .nil;have hB := Fr.up H;unfold F_spec_l1In at hF;refine .sr fun K hK => ?_;simp [];apply hK;clear hK K;rcases Bool.eq_false_or_eq_true (ile x1 x0) with hb1 | hb1
 ·replace hF := cd_t hb1 hF;refine .sr fun K hK => ?_;simp [hb1];apply hK;clear hK K;refine DWp.ret ?_;obtain rfl := Option.some.inj hF;exact ⟨by simp, [(Value.bool (ile x0 x2))], by simp [], A0, rfl, S0.pick [] (by decide) rfl⟩
 ·replace hF := cd_f hb1 hF;refine .sr fun K hK => ?_;simp [hb1];apply hK;clear hK K;refine DWp.ret ?_;obtain rfl := Option.some.inj hF;exact ⟨by simp, [(Value.bool false)], by simp [], A0, rfl, S0.pick [] (by decide) rfl⟩
def F_spec_l1All_L1 (fu : Nat) (k1_0 : Int) (k1_1 : Int) (k1_2 : List Int) (k1_3 : Int) : Nat → Int → Option (LR (Bool) (Int))
  | 0, _ => none
  | n + 1, y1_11 =>
    bif (ilt y1_11 k1_3) then
      gd (inL k1_2 y1_11) (
      bd (F_spec_l1In fu (gat 0 k1_2 y1_11) k1_0 k1_1) fun r1 =>
      bif (bnot r1) then
        some (.ret false)
      else
        F_spec_l1All_L1 fu k1_0 k1_1 k1_2 k1_3 n (iadd .i64 y1_11 1))
    else
      some (.brk y1_11)
def F_spec_l1All (fu : Nat) (x0 : List Int) (x1 : Int) (x2 : Int) : Option (Bool) :=
  bd (F_spec_l1All_L1 fu x1 x2 x0 (llen x0) fu 0) fun s1 =>
  lr s1 fun s1 =>
  some true
theorem F_spec_l1All_w {fu : Nat} {H : AH} {v0 : Value} {x0 : List Int} {x1 : Int} {x2 : Int} {r : (Bool)} (hx0 : Sl H v0 (ints x0)) (hF : F_spec_l1All fu x0 x1 x2 = some r) :
    ACallT Try.prog 47 [v0, (Value.int .i64 x1), (Value.int .i64 x2)] H (fun u G => AgB (Fr H) H G ∧ u = (Value.bool r) ∧ Sep G (Fr H) []) := by
 refine ACallT.of_body (nt := 21) (rs := [.tmp 6]) Try.func47 rfl rfl rfl rfl ?_;have A0 : AgB (Fr H) H H := .refl _ _;have S0 : Sep H (Fr H) [] := .nil;have hB := Fr.up H;unfold F_spec_l1All at hF;refine .sr fun K hK => ?_;simp [];apply hK;clear hK K;refine .seq ?_;have q1 := lenG (P := Try.prog) (hx0.agree A0.agree) el_22;refine .sr fun K hK => ?_;simp [q1];apply hK;clear hK K;refine .block ?_;obtain ⟨s2, hL3, hF⟩ := bd_some hF;have S4 := S0.pick [] (by decide) rfl;refine DWp.loop (fun n env G => ∃ y1_11 : Int, F_spec_l1All_L1 fu x1 x2 x0 (llen x0) n y1_11 = some s2 ∧ Sep G (Fr H) [] ∧ AgB (Fr H) H G ∧ env 1 = some (Value.int .i64 x1) ∧ env 2 = some (Value.int .i64 x2) ∧ env 9 = some v0 ∧ env 10 = some (Value.int .i64 (llen x0)) ∧ env 11 = some (Value.int .i64 y1_11)) fu ⟨0, hL3, S4, A0, by simp []⟩ ?_;rintro n1 env1 G1_ ⟨y1_11, hL3, S1_, A1_, e1_⟩;cases n1 with
 | zero => cases hL3
 | succ n1 =>
  simp only [F_spec_l1All_L1] at hL3;refine .sr fun K hK => ?_;simp [e1_];apply hK;clear hK K;refine .seq ?_;refine DWp.cond' (t := (ilt y1_11 (llen x0))) (by simp [e1_]) (fun hb5 => ?_) (fun hb5 => ?_)
  ·replace hL3 := cd_t hb5 hL3;refine DWp.skip ?_;simp only [andThen, leaves];refine .seq ?_;refine .block ?_;obtain ⟨g6, hL3⟩ := gd_some hL3;have q7 := idxG (P := Try.prog) (kk := .i64) (hx0.agree A1_.agree) el_22 sz_3 g6;have q8 := loadG (P := Try.prog) (hx0.agree A1_.agree) sz_3 ag_3 g6 0;refine .sr fun K hK => ?_;simp [e1_, q7, q8];apply hK;clear hK K;obtain ⟨r1, hc9, hL3⟩ := bd_some hL3;refine .sr fun K hK => ?_;simp [e1_];refine CallD.t (F_spec_l1In_w (fu := fu)  hc9) ?_;rintro _ G11 ⟨a14, rfl, S15⟩;have A13 := A1_.ext (hB.le A1_.1) a14.agree;have S12 : Sep G11 (Fr H) [] := S1_.app a14.agree S15 (fun _ h => h) (hB.le A1_.1);simp [e1_, a14.pre];apply hK;clear hK K;refine DWp.cond' (t := (bnot r1)) (by simp [e1_]) (fun hb16 => ?_) (fun hb16 => ?_)
   ·replace hL3 := cd_t hb16 hL3;refine .sr fun K hK => ?_;simp [e1_];apply hK;clear hK K;refine DWp.ret ?_;simp only [andThen, leaves];obtain rfl := Option.some.inj hL3;simp only [lr] at hF;obtain rfl := Option.some.inj hF;exact ⟨by simp, [(Value.bool false)], by simp [e1_], A13, rfl, S12.pick [] (by decide) rfl⟩
   ·replace hL3 := cd_f hb16 hL3;refine DWp.skip ?_;simp only [andThen, leaves];refine .region fun K hK => ?_;simp [e1_];apply hK;clear hK K;simp only [andThen, leaves];have S17 := S12.pick [] (by decide) rfl;exact ⟨n1, Nat.lt_succ_self _, (iadd .i64 y1_11 1), hL3, S17, A13, by simp [e1_]⟩
  ·replace hL3 := cd_f hb5 hL3;refine DWp.exit ?_;simp only [andThen, leaves, if_true, if_false, reduceIte, Nat.reduceEqDiff];obtain rfl := Option.some.inj hL3;simp only [lr] at hF;refine .sr fun K hK => ?_;simp [e1_];apply hK;clear hK K;refine DWp.ret ?_;obtain rfl := Option.some.inj hF;exact ⟨by simp, [(Value.bool true)], by simp [e1_], A1_, rfl, S1_.pick [] (by decide) rfl⟩
def F_spec_ahGood_L1 (fu : Nat) (k1_0 : List Int) (k1_1 : Int) : Nat → List Int → Int → Option (LR (Bool) (List Int × Int))
  | 0, _, _ => none
  | n + 1, l1_0, y1_25 =>
    bif (ilt y1_25 k1_1) then
      gd (inL k1_0 y1_25) (
      bd (
        bif (ilt y1_25 (gat 0 k1_0 y1_25)) then
          gd (inL k1_0 (gat 0 k1_0 y1_25)) (
          some (ieq (gat 0 k1_0 (gat 0 k1_0 y1_25)) y1_25))
        else
          some false) fun s31 =>
      bif s31 then
        gd ([y1_25].length + l1_0.length ≤ 4294967296) (
        F_spec_ahGood_L1 fu k1_0 k1_1 n (lapp [y1_25] l1_0) (iadd .i64 y1_25 1))
      else
        bd (
          bif (ilt (gat 0 k1_0 y1_25) y1_25) then
            bif (ilt 0 (llen l1_0)) then
              gd (inL l1_0 0) (
              some (ieq (gat 0 l1_0 0) (gat 0 k1_0 y1_25)))
            else
              some false
          else
            some false) fun s57 =>
        bif s57 then
          gd (subL l1_0 1 (llen l1_0)) (
          F_spec_ahGood_L1 fu k1_0 k1_1 n (lsub l1_0 1 (llen l1_0)) (iadd .i64 y1_25 1))
        else
          some (.ret false))
    else
      some (.brk (l1_0, y1_25))
def F_spec_ahGood (fu : Nat) (x0 : List Int) : Option (Bool) :=
  bd (
    bif (ieq (irem (llen x0) 2) 1) then
      some true
    else
      bif (ilt 12 (llen x0)) then
        some true
      else
        bd (F_spec_l1All fu x0 0 (isub .i64 (llen x0) 1)) fun r1 =>
        some (bnot r1)) fun s1 =>
  bif s1 then
    some false
  else
    bd (F_spec_ahGood_L1 fu x0 (llen x0) fu (@List.nil Int) 0) fun s1 =>
    lr s1 fun s1 =>
    some true
theorem F_spec_ahGood_w {fu : Nat} {H : AH} {v0 : Value} {x0 : List Int} {r : (Bool)} (hx0 : Sl H v0 (ints x0)) (hF : F_spec_ahGood fu x0 = some r) :
    ACallT Try.prog 32 [v0] H (fun u G => AgB (Fr H) H G ∧ u = (Value.bool r) ∧ Sep G (Fr H) []) := by
 refine ACallT.of_body (nt := 65) (rs := [.tmp 2]) Try.func32 rfl rfl rfl rfl ?_;have A0 : AgB (Fr H) H H := .refl _ _;have S0 : Sep H (Fr H) [] := .nil;have hB := Fr.up H;unfold F_spec_ahGood at hF;refine .sr fun K hK => ?_;simp [];apply hK;clear hK K;refine .seq ?_;obtain ⟨s1, hL2, hF⟩ := bd_some hF;refine DWp.seq (DWp.join (fun env G => Sep G (Fr H) [] ∧ AgB (Fr H) H G ∧ env 0 = some v0 ∧ env 22 = some (Value.bool s1)) ?_ ?_)
 ·
  have q4 := lenG (P := Try.prog) (hx0.agree A0.agree) el_22;have g5 : (2 : Int) ≠ 0 := by decide
  rcases Bool.eq_false_or_eq_true (ieq (irem (llen x0) 2) 1) with hb6 | hb6
  ·replace hL2 := cd_t hb6 hL2;refine .region fun K hK => ?_;simp [hb6, q4, b_rem g5];apply hK;clear hK K;simp only [andThen, leaves];have S7 := S0.pick [] (by decide) rfl;obtain rfl := Option.some.inj hL2;exact ⟨S7, A0, by simp []⟩
  ·replace hL2 := cd_f hb6 hL2;have q8 := lenG (P := Try.prog) (hx0.agree A0.agree) el_22;rcases Bool.eq_false_or_eq_true (ilt 12 (llen x0)) with hb9 | hb9
   ·replace hL2 := cd_t hb9 hL2;refine .region fun K hK => ?_;simp [hb6, hb9, q4, b_rem g5, q8];apply hK;clear hK K;simp only [andThen, leaves];have S10 := S0.pick [] (by decide) rfl;obtain rfl := Option.some.inj hL2;exact ⟨S10, A0, by simp []⟩
   ·replace hL2 := cd_f hb9 hL2;have q11 := lenG (P := Try.prog) (hx0.agree A0.agree) el_22;obtain ⟨r1, hc12, hL2⟩ := bd_some hL2;refine .region fun K hK => ?_;simp [hb6, hb9, q4, b_rem g5, q8, q11, ((hx0.agree A0.agree).tup)];refine CallD.t (F_spec_l1All_w (fu := fu) (hx0.agree A0.agree) hc12) ?_;rintro _ G14 ⟨a17, rfl, S18⟩;have A16 := A0.ext (hB.le A0.1) a17.agree;have S15 : Sep G14 (Fr H) [] := S0.app a17.agree S18 (fun _ h => h) (hB.le A0.1);simp [hb6, hb9, q4, b_rem g5, q8, q11, a17.pre];apply hK;clear hK K;simp only [andThen, leaves];have S19 := S15.pick [] (by decide) rfl;obtain rfl := Option.some.inj hL2;exact ⟨S19, A16, by simp []⟩
 ·rintro env Gj20 ⟨Sj20, Aj20, ej20_⟩;refine DWp.cond' (t := s1) (by simp [ej20_]) (fun hb21 => ?_) (fun hb21 => ?_)
  ·replace hF := cd_t hb21 hF;refine .sr fun K hK => ?_;simp [ej20_];apply hK;clear hK K;refine DWp.ret ?_;simp only [andThen, leaves];obtain rfl := Option.some.inj hF;exact ⟨by simp, [(Value.bool false)], by simp [ej20_], Aj20, rfl, Sj20.pick [] (by decide) rfl⟩
  ·replace hF := cd_f hb21 hF;refine DWp.skip ?_;simp only [andThen, leaves];refine .sr fun K hK => ?_;simp [ej20_];apply hK;clear hK K;refine .seq ?_;have q22 := lenG (P := Try.prog) (hx0.agree Aj20.agree) el_22;refine .sr fun K hK => ?_;simp [ej20_, q22];apply hK;clear hK K;refine .block ?_;have S23 := Sj20.nilItem (hB.le Aj20.1) 3;obtain ⟨s24, hL25, hF⟩ := bd_some hF;have S26 := S23.pick [0] (by decide) rfl;refine DWp.loop (fun n env G => ∃ l1_0 : List Int, ∃ y1_25 : Int, ∃ w1_0 : Value, F_spec_ahGood_L1 fu x0 (llen x0) n l1_0 y1_25 = some s24 ∧ Sep G (Fr H) [flat w1_0 3 (ints l1_0)] ∧ AgB (Fr H) H G ∧ env 0 = some v0 ∧ env 3 = some w1_0 ∧ env 23 = some v0 ∧ env 24 = some (Value.int .i64 (llen x0)) ∧ env 25 = some (Value.int .i64 y1_25)) fu ⟨(@List.nil Int), 0, (Value.slice none 0 0), hL25, S26, Aj20, by simp [ej20_]⟩ ?_;rintro n1 env1 G1_ ⟨l1_0, y1_25, w1_0, hL25, S1_, A1_, e1_⟩;cases n1 with
   | zero => cases hL25
   | succ n1 =>
    simp only [F_spec_ahGood_L1] at hL25;refine .sr fun K hK => ?_;simp [e1_];apply hK;clear hK K;refine .seq ?_;refine DWp.cond' (t := (ilt y1_25 (llen x0))) (by simp [e1_]) (fun hb27 => ?_) (fun hb27 => ?_)
    ·replace hL25 := cd_t hb27 hL25;refine DWp.skip ?_;simp only [andThen, leaves];refine .seq ?_;refine .block ?_;obtain ⟨g28, hL25⟩ := gd_some hL25;have q29 := idxG (P := Try.prog) (kk := .i64) (hx0.agree A1_.agree) el_22 sz_3 g28;have q30 := loadG (P := Try.prog) (hx0.agree A1_.agree) sz_3 ag_3 g28 0;refine .sr fun K hK => ?_;simp [e1_, q29, q30];apply hK;clear hK K;refine .block ?_;obtain ⟨s31, hL32, hL25⟩ := bd_some hL25;refine DWp.seq (DWp.join (fun env G => Sep G (Fr H) [flat w1_0 3 (ints l1_0)] ∧ AgB (Fr H) H G ∧ env 0 = some v0 ∧ env 3 = some w1_0 ∧ env 4 = some (Value.int .i64 y1_25) ∧ env 5 = some (Value.int .i64 (gat 0 x0 y1_25)) ∧ env 23 = some v0 ∧ env 24 = some (Value.int .i64 (llen x0)) ∧ env 25 = some (Value.int .i64 y1_25) ∧ env 30 = some (Value.bool s31)) ?_ ?_)
     ·
      rcases Bool.eq_false_or_eq_true (ilt y1_25 (gat 0 x0 y1_25)) with hb34 | hb34
      ·replace hL32 := cd_t hb34 hL32;obtain ⟨g35, hL32⟩ := gd_some hL32;have q36 := idxG (P := Try.prog) (kk := .i64) (hx0.agree A1_.agree) el_22 sz_3 g35;have q37 := loadG (P := Try.prog) (hx0.agree A1_.agree) sz_3 ag_3 g35 0;refine .region fun K hK => ?_;simp [e1_, hb34, q36, q37];apply hK;clear hK K;simp only [andThen, leaves];have S38 := S1_.pick [0] (by decide) rfl;obtain rfl := Option.some.inj hL32;exact ⟨S38, A1_, by simp [e1_]⟩
      ·replace hL32 := cd_f hb34 hL32;refine .region fun K hK => ?_;simp [e1_, hb34];apply hK;clear hK K;simp only [andThen, leaves];have S39 := S1_.pick [0] (by decide) rfl;obtain rfl := Option.some.inj hL32;exact ⟨S39, A1_, by simp [e1_]⟩
     ·rintro env Gj40 ⟨Sj40, Aj40, ej40_⟩;refine DWp.cond' (t := s31) (by simp [ej40_]) (fun hb41 => ?_) (fun hb41 => ?_)
      ·replace hL25 := cd_t hb41 hL25;obtain ⟨v42, G43, q44, S45, a47, _, _⟩ := Sj40.lit1 (P := Try.prog) (t := 22) (hB.le Aj40.1) el_22 ei_3 rfl (Value.int .i64 y1_25) rfl rfl;have A46 := Aj40.ext (hB.le Aj40.1) a47;replace S45 : Sep G43 (Fr H) [flat w1_0 3 (ints l1_0), flat1 v42 3 (ints [y1_25])] := S45;obtain ⟨g49, hL25⟩ := gd_some hL25;obtain ⟨v55, G50, q51, S52, a54, _, _⟩ := S45.append1 (f := (Value.int .i64)) (xs := [y1_25]) (ys := l1_0) (P := Try.prog) (t := 22) (t2 := 22) (k := 1) rfl (hB.le A46.1) el_22 el_22 ei_3 rfl (S45.sl (k := 0) rfl) g49;have A53 := A46.trans a54;replace S52 : Sep G50 (Fr H) [flat w1_0 3 (ints l1_0), flat v55 3 (ints (lapp [y1_25] l1_0))] := S52;refine .region fun K hK => ?_;simp [ej40_, q44, a47.to_pre, q51];apply hK;clear hK K;simp only [andThen, leaves];refine .region fun K hK => ?_;simp [ej40_];apply hK;clear hK K;simp only [andThen, leaves];have S56 := S52.pick [1] (by decide) rfl;exact ⟨n1, Nat.lt_succ_self _, (lapp [y1_25] l1_0), (iadd .i64 y1_25 1), v55, hL25, S56, A53, by simp [ej40_]⟩
      ·replace hL25 := cd_f hb41 hL25;obtain ⟨s57, hL58, hL25⟩ := bd_some hL25;refine DWp.seq (DWp.join (fun env G => Sep G (Fr H) [flat w1_0 3 (ints l1_0)] ∧ AgB (Fr H) H G ∧ env 0 = some v0 ∧ env 3 = some w1_0 ∧ env 23 = some v0 ∧ env 24 = some (Value.int .i64 (llen x0)) ∧ env 25 = some (Value.int .i64 y1_25) ∧ env 46 = some (Value.bool s57)) ?_ ?_)
       ·
        rcases Bool.eq_false_or_eq_true (ilt (gat 0 x0 y1_25) y1_25) with hb60 | hb60
        ·replace hL58 := cd_t hb60 hL58;have q61 := lenG (P := Try.prog) (Sj40.sl (k := 0) rfl) el_22;rcases Bool.eq_false_or_eq_true (ilt 0 (llen l1_0)) with hb62 | hb62
         ·replace hL58 := cd_t hb62 hL58;obtain ⟨g63, hL58⟩ := gd_some hL58;have q64 := idxG (P := Try.prog) (kk := .i64) (Sj40.sl (k := 0) rfl) el_22 sz_3 g63;replace q64 : aIndexAddr Try.prog Gj40 22 w1_0 (Value.int .i64 0) = some (elP w1_0 0) := q64;have q65 := loadG (P := Try.prog) (Sj40.sl (k := 0) rfl) sz_3 ag_3 g63 0;replace q65 : aLoad Try.prog Gj40 3 (elP w1_0 0) = some (Value.int .i64 (gat 0 l1_0 0)) := q65;refine .region fun K hK => ?_;simp [ej40_, hb60, hb62, q61, q64, q65];apply hK;clear hK K;simp only [andThen, leaves];have S66 := Sj40.pick [0] (by decide) rfl;obtain rfl := Option.some.inj hL58;exact ⟨S66, Aj40, by simp [ej40_]⟩
         ·replace hL58 := cd_f hb62 hL58;refine .region fun K hK => ?_;simp [ej40_, hb60, hb62, q61];apply hK;clear hK K;simp only [andThen, leaves];have S67 := Sj40.pick [0] (by decide) rfl;obtain rfl := Option.some.inj hL58;exact ⟨S67, Aj40, by simp [ej40_]⟩
        ·replace hL58 := cd_f hb60 hL58;refine .region fun K hK => ?_;simp [ej40_, hb60];apply hK;clear hK K;simp only [andThen, leaves];have S68 := Sj40.pick [0] (by decide) rfl;obtain rfl := Option.some.inj hL58;exact ⟨S68, Aj40, by simp [ej40_]⟩
       ·rintro env Gj69 ⟨Sj69, Aj69, ej69_⟩;refine DWp.cond' (t := s57) (by simp [ej69_]) (fun hb70 => ?_) (fun hb70 => ?_)
        ·replace hL25 := cd_t hb70 hL25;obtain ⟨g71, hL25⟩ := gd_some hL25;have q72 := aSub10 (P := Try.prog) (t := 22) (Sj69.sl (k := 0) rfl) el_22 sz_3 g71;refine .region fun K hK => ?_;simp [ej69_, q72, ((subSl (Sj69.sl (k := 0) rfl) g71).tup)];apply hK;clear hK K;simp only [andThen, leaves];refine .region fun K hK => ?_;simp [ej69_];apply hK;clear hK K;simp only [andThen, leaves];have S73 : Sep Gj69 (Fr H) [flat (subV w1_0 1 (llen l1_0)) 3 (ints (lsub l1_0 1 (llen l1_0)))] := Sj69.resub (k := 0) rfl g71;have S74 := S73.pick [0] (by decide) rfl;exact ⟨n1, Nat.lt_succ_self _, (lsub l1_0 1 (llen l1_0)), (iadd .i64 y1_25 1), (subV w1_0 1 (llen l1_0)), hL25, S74, Aj69, by simp [ej69_]⟩
        ·replace hL25 := cd_f hb70 hL25;refine .sr fun K hK => ?_;simp [ej69_];apply hK;clear hK K;refine DWp.ret ?_;simp only [andThen, leaves];obtain rfl := Option.some.inj hL25;simp only [lr] at hF;obtain rfl := Option.some.inj hF;exact ⟨by simp, [(Value.bool false)], by simp [ej69_], Aj69, rfl, Sj69.pick [] (by decide) rfl⟩
    ·replace hL25 := cd_f hb27 hL25;refine DWp.exit ?_;simp only [andThen, leaves, if_true, if_false, reduceIte, Nat.reduceEqDiff];obtain rfl := Option.some.inj hL25;simp only [lr] at hF;refine .sr fun K hK => ?_;simp [e1_];apply hK;clear hK K;refine DWp.ret ?_;obtain rfl := Option.some.inj hF;exact ⟨by simp, [(Value.bool true)], by simp [e1_], A1_, rfl, S1_.pick [] (by decide) rfl⟩
def F_spec_mePair (fu : Nat) (x0_0 : List Int) (x0_1 : List Int) : Option (Bool) :=
  bd (F_spec_ahGood fu x0_0) fun r1 =>
  bif r1 then
    bd (F_spec_ahGood fu x0_1) fun r2 =>
    bif r2 then
      some (ieq (llen x0_0) (llen x0_1))
    else
      some false
  else
    some false
theorem F_spec_mePair_w {fu : Nat} {H : AH} {v0_0 : Value} {v0_1 : Value} {x0_0 : List Int} {x0_1 : List Int} {r : (Bool)} (hx0_0 : Sl H v0_0 (ints x0_0)) (hx0_1 : Sl H v0_1 (ints x0_1)) (hF : F_spec_mePair fu x0_0 x0_1 = some r) :
    ACallT Try.prog 20 [(Value.agg #[v0_0, v0_1])] H (fun u G => AgB (Fr H) H G ∧ u = (Value.bool r) ∧ Sep G (Fr H) []) := by
 refine ACallT.of_body (nt := 20) (rs := [.tmp 2]) Try.func20 rfl rfl rfl rfl ?_;have A0 : AgB (Fr H) H H := .refl _ _;have S0 : Sep H (Fr H) [] := .nil;have hB := Fr.up H;unfold F_spec_mePair at hF;obtain ⟨G2, p4, q5, q6, a7, S1⟩ := S0.boxT (hB.le A0.1) 35 [v0_0, v0_1];have A3 := A0.ext (hB.le A0.1) a7;replace S1 : Sep G2 (Fr H) [AL.box p4 [v0_0, v0_1]] := S1;refine .sr fun K hK => ?_;simp [q5, q6, a7.to_pre, cells_agg];apply hK;clear hK K;have q8 := S1.fieldT (P := Try.prog) (k := 0) rfl fa_35_0;have q9 := S1.loadF (P := Try.prog) (k := 0) rfl sz_22 ag_22 (off := 0) rfl;obtain ⟨r1, hc10, hF⟩ := bd_some hF;refine .sr fun K hK => ?_;simp [q8, q9, ((hx0_0.agree A3.agree).tup)];refine CallD.t (F_spec_ahGood_w (fu := fu) (hx0_0.agree A3.agree) hc10) ?_;rintro _ G12 ⟨a15, rfl, S16⟩;have A14 := A3.ext (hB.le A3.1) a15.agree;have S13 : Sep G12 (Fr H) [AL.box p4 [v0_0, v0_1]] := S1.app a15.agree S16 (fun _ h => h) (hB.le A3.1);rcases Bool.eq_false_or_eq_true r1 with hb17 | hb17
 ·replace hF := cd_t hb17 hF;have q18 := S13.fieldT (P := Try.prog) (k := 0) rfl fa_35_1;have q19 := S13.loadF (P := Try.prog) (k := 0) rfl sz_22 ag_22 (off := 1) rfl;obtain ⟨r2, hc20, hF⟩ := bd_some hF;simp [hb17, q8, q9, a15.pre, q18, q19, ((hx0_1.agree A14.agree).tup)];refine CallD.t (F_spec_ahGood_w (fu := fu) (hx0_1.agree A14.agree) hc20) ?_;rintro _ G22 ⟨a25, rfl, S26⟩;have A24 := A14.ext (hB.le A14.1) a25.agree;have S23 : Sep G22 (Fr H) [AL.box p4 [v0_0, v0_1]] := S13.app a25.agree S26 (fun _ h => h) (hB.le A14.1);rcases Bool.eq_false_or_eq_true r2 with hb27 | hb27
  ·replace hF := cd_t hb27 hF;have q28 := S23.fieldT (P := Try.prog) (k := 0) rfl fa_35_0;have q29 := S23.loadF (P := Try.prog) (k := 0) rfl sz_22 ag_22 (off := 0) rfl;have q30 := lenG (P := Try.prog) (hx0_0.agree A24.agree) el_22;have q31 := S23.fieldT (P := Try.prog) (k := 0) rfl fa_35_1;have q32 := S23.loadF (P := Try.prog) (k := 0) rfl sz_22 ag_22 (off := 1) rfl;have q33 := lenG (P := Try.prog) (hx0_1.agree A24.agree) el_22;simp [hb17, hb27, q8, q9, a15.pre, q18, q19, a25.pre, q28, q29, q30, q31, q32, q33];apply hK;clear hK K;refine DWp.ret ?_;obtain rfl := Option.some.inj hF;exact ⟨by simp, [(Value.bool (ieq (llen x0_0) (llen x0_1)))], by simp [], A24, rfl, S23.pick [] (by decide) rfl⟩
  ·replace hF := cd_f hb27 hF;simp [hb17, hb27, q8, q9, a15.pre, q18, q19, a25.pre];apply hK;clear hK K;refine DWp.ret ?_;obtain rfl := Option.some.inj hF;exact ⟨by simp, [(Value.bool false)], by simp [], A24, rfl, S23.pick [] (by decide) rfl⟩
 ·replace hF := cd_f hb17 hF;simp [hb17, q8, q9, a15.pre];apply hK;clear hK K;refine DWp.ret ?_;obtain rfl := Option.some.inj hF;exact ⟨by simp, [(Value.bool false)], by simp [], A14, rfl, S13.pick [] (by decide) rfl⟩
def F_spec_exPair (fu : Nat) (x0 : List Int) (x1 : List Int) : Option (Bool) :=
  bd (F_spec_mePair fu x0 x1) fun r1 =>
  some r1
theorem F_spec_exPair_w {fu : Nat} {H : AH} {v0 : Value} {v1 : Value} {x0 : List Int} {x1 : List Int} {r : (Bool)} (hx0 : Sl H v0 (ints x0)) (hx1 : Sl H v1 (ints x1)) (hF : F_spec_exPair fu x0 x1 = some r) :
    ACallT Try.prog 12 [v0, v1] H (fun u G => AgB (Fr H) H G ∧ u = (Value.bool r) ∧ Sep G (Fr H) []) := by
 refine ACallT.of_body (nt := 9) (rs := [.tmp 4]) Try.func12 rfl rfl rfl rfl ?_;have A0 : AgB (Fr H) H H := .refl _ _;have S0 : Sep H (Fr H) [] := .nil;have hB := Fr.up H;unfold F_spec_exPair at hF;refine .sr fun K hK => ?_;simp [];apply hK;clear hK K;obtain ⟨r1, hc1, hF⟩ := bd_some hF;refine .sr fun K hK => ?_;simp [bu_35 ((hx0.agree A0.agree).tup) ((hx0.agree A0.agree).one) ((hx1.agree A0.agree).tup) ((hx1.agree A0.agree).one), ((hx0.agree A0.agree).tup), ((hx1.agree A0.agree).tup)];refine CallD.t (F_spec_mePair_w (fu := fu) (hx0.agree A0.agree) (hx1.agree A0.agree) hc1) ?_;rintro _ G3 ⟨a6, rfl, S7⟩;have A5 := A0.ext (hB.le A0.1) a6.agree;have S4 : Sep G3 (Fr H) [] := S0.app a6.agree S7 (fun _ h => h) (hB.le A0.1);simp [bu_35 ((hx0.agree A0.agree).tup) ((hx0.agree A0.agree).one) ((hx1.agree A0.agree).tup) ((hx1.agree A0.agree).one), a6.pre];apply hK;clear hK K;refine DWp.ret ?_;obtain rfl := Option.some.inj hF;exact ⟨by simp, [(Value.bool r1)], by simp [], A5, rfl, S4.pick [] (by decide) rfl⟩
def F_spec_exFew (fu : Nat) (x0 : List Int) (x1 : List Int) : Option (Bool) :=
  bd (F_spec_exPair fu x0 x1) fun r1 =>
  bif r1 then
    some (ile (llen x0) 10)
  else
    some false
theorem F_spec_exFew_w {fu : Nat} {H : AH} {v0 : Value} {v1 : Value} {x0 : List Int} {x1 : List Int} {r : (Bool)} (hx0 : Sl H v0 (ints x0)) (hx1 : Sl H v1 (ints x1)) (hF : F_spec_exFew fu x0 x1 = some r) :
    ACallT Try.prog 8 [v0, v1] H (fun u G => AgB (Fr H) H G ∧ u = (Value.bool r) ∧ Sep G (Fr H) []) := by
 refine ACallT.of_body (nt := 13) (rs := [.tmp 4]) Try.func8 rfl rfl rfl rfl ?_;have A0 : AgB (Fr H) H H := .refl _ _;have S0 : Sep H (Fr H) [] := .nil;have hB := Fr.up H;unfold F_spec_exFew at hF;refine .sr fun K hK => ?_;simp [];apply hK;clear hK K;obtain ⟨r1, hc1, hF⟩ := bd_some hF;refine .sr fun K hK => ?_;simp [((hx0.agree A0.agree).tup), ((hx1.agree A0.agree).tup)];refine CallD.t (F_spec_exPair_w (fu := fu) (hx0.agree A0.agree) (hx1.agree A0.agree) hc1) ?_;rintro _ G3 ⟨a6, rfl, S7⟩;have A5 := A0.ext (hB.le A0.1) a6.agree;have S4 : Sep G3 (Fr H) [] := S0.app a6.agree S7 (fun _ h => h) (hB.le A0.1);rcases Bool.eq_false_or_eq_true r1 with hb8 | hb8
 ·replace hF := cd_t hb8 hF;have q9 := lenG (P := Try.prog) (hx0.agree A5.agree) el_22;simp [hb8, a6.pre, q9];apply hK;clear hK K;refine DWp.ret ?_;obtain rfl := Option.some.inj hF;exact ⟨by simp, [(Value.bool (ile (llen x0) 10))], by simp [], A5, rfl, S4.pick [] (by decide) rfl⟩
 ·replace hF := cd_f hb8 hF;simp [hb8, a6.pre];apply hK;clear hK K;refine DWp.ret ?_;obtain rfl := Option.some.inj hF;exact ⟨by simp, [(Value.bool false)], by simp [], A5, rfl, S4.pick [] (by decide) rfl⟩
def F_spec_meWay_L1 (fu : Nat) (k1_0 : Int) (k1_1 : List Int) (k1_2 : List Int) : Nat → List Int → Int → Option (List Int × Int)
  | 0, _, _ => none
  | n + 1, l1_1, y1_6 =>
    bif (ine y1_6 k1_0) then
      gd (inL k1_1 y1_6) (
      gd (l1_1.length + [y1_6, (gat 0 k1_1 y1_6)].length ≤ 4294967296) (
      gd (inL k1_1 y1_6) (
      gd (inL k1_2 (gat 0 k1_1 y1_6)) (
      F_spec_meWay_L1 fu k1_0 k1_1 k1_2 n (lapp l1_1 [y1_6, (gat 0 k1_1 y1_6)]) (gat 0 k1_2 (gat 0 k1_1 y1_6))))))
    else
      some (l1_1, y1_6)
def F_spec_meWay (fu : Nat) (x0_0 : List Int) (x0_1 : List Int) (x1 : Int) : Option (List Int) :=
  gd (inL x0_0 x1) (
  gd (inL x0_0 x1) (
  gd (inL x0_1 (gat 0 x0_0 x1)) (
  bd (F_spec_meWay_L1 fu x1 x0_0 x0_1 fu [x1, (gat 0 x0_0 x1)] (gat 0 x0_1 (gat 0 x0_0 x1))) fun s1 =>
  some s1.1)))
theorem F_spec_meWay_w {fu : Nat} {H : AH} {v0_0 : Value} {v0_1 : Value} {x0_0 : List Int} {x0_1 : List Int} {x1 : Int} {r : (List Int)} (hx0_0 : Sl H v0_0 (ints x0_0)) (hx0_1 : Sl H v0_1 (ints x0_1)) (hF : F_spec_meWay fu x0_0 x0_1 x1 = some r) :
    ACallT Try.prog 48 [(Value.agg #[v0_0, v0_1]), (Value.int .i64 x1)] H (fun u G => AgB (Fr H) H G ∧ ∃ u0 : Value, u = u0 ∧ Sep G (Fr H) [flat u0 3 (ints r)]) := by
 refine ACallT.of_body (nt := 45) (rs := [.tmp 4]) Try.func48 rfl rfl rfl rfl ?_;have A0 : AgB (Fr H) H H := .refl _ _;have S0 : Sep H (Fr H) [] := .nil;have hB := Fr.up H;unfold F_spec_meWay at hF;obtain ⟨G2, p4, q5, q6, a7, S1⟩ := S0.boxT (hB.le A0.1) 35 [v0_0, v0_1];have A3 := A0.ext (hB.le A0.1) a7;replace S1 : Sep G2 (Fr H) [AL.box p4 [v0_0, v0_1]] := S1;refine .sr fun K hK => ?_;simp [q5, q6, a7.to_pre, cells_agg];apply hK;clear hK K;have q8 := S1.fieldT (P := Try.prog) (k := 0) rfl fa_35_0;have q9 := S1.loadF (P := Try.prog) (k := 0) rfl sz_22 ag_22 (off := 0) rfl;obtain ⟨g10, hF⟩ := gd_some hF;have q11 := idxG (P := Try.prog) (kk := .i64) (hx0_0.agree A3.agree) el_22 sz_3 g10;have q12 := loadG (P := Try.prog) (hx0_0.agree A3.agree) sz_3 ag_3 g10 0;obtain ⟨v13, G14, q15, S16, a18, _, _⟩ := S1.lit2 (P := Try.prog) (t := 22) (hB.le A3.1) el_22 ei_3 rfl (Value.int .i64 x1) (Value.int .i64 (gat 0 x0_0 x1)) rfl rfl rfl rfl;have A17 := A3.ext (hB.le A3.1) a18;replace S16 : Sep G14 (Fr H) [AL.box p4 [v0_0, v0_1], flat1 v13 3 (ints [x1, (gat 0 x0_0 x1)])] := S16;refine .sr fun K hK => ?_;simp [q8, q9, q11, q12, q15, a18.to_pre];apply hK;clear hK K;refine .seq ?_;have q20 := S16.fieldT (P := Try.prog) (k := 0) rfl fa_35_1;have q21 := S16.loadF (P := Try.prog) (k := 0) rfl sz_22 ag_22 (off := 1) rfl;have q22 := S16.fieldT (P := Try.prog) (k := 0) rfl fa_35_0;have q23 := S16.loadF (P := Try.prog) (k := 0) rfl sz_22 ag_22 (off := 0) rfl;obtain ⟨g24, hF⟩ := gd_some hF;have q25 := idxG (P := Try.prog) (kk := .i64) (hx0_0.agree A17.agree) el_22 sz_3 g24;have q26 := loadG (P := Try.prog) (hx0_0.agree A17.agree) sz_3 ag_3 g24 0;obtain ⟨g27, hF⟩ := gd_some hF;have q28 := idxG (P := Try.prog) (kk := .i64) (hx0_1.agree A17.agree) el_22 sz_3 g27
 have q29 := loadG (P := Try.prog) (hx0_1.agree A17.agree) sz_3 ag_3 g27 0;refine .sd (B := [0, 1, 0, 4, 0, 28, 60, 127, 255, 511]) 10 mixed (by kernel_rfl) (by decide) fun K hK => ?_;simp [q20, q21, q22, q23, q25, q26, q28, q29];apply hK;clear hK K;refine .block ?_;obtain ⟨s30, hL31, hF⟩ := bd_some hF;have S32 := S16.pick [0, 1] (by decide) rfl;have S33 := S32.weak (k := 1) rfl;refine DWp.loop (fun n env G => ∃ l1_1 : List Int, ∃ y1_6 : Int, ∃ w1_1 : Value, F_spec_meWay_L1 fu x1 x0_0 x0_1 n l1_1 y1_6 = some s30 ∧ Sep G (Fr H) [AL.box p4 [v0_0, v0_1], flat w1_1 3 (ints l1_1)] ∧ AgB (Fr H) H G ∧ env 1 = some (Value.int .i64 x1) ∧ env 2 = some p4 ∧ env 5 = some w1_1 ∧ env 6 = some (Value.int .i64 y1_6)) fu ⟨[x1, (gat 0 x0_0 x1)], (gat 0 x0_1 (gat 0 x0_0 x1)), v13, hL31, S33, A17, by simp []⟩ ?_;rintro n1 env1 G1_ ⟨l1_1, y1_6, w1_1, hL31, S1_, A1_, e1_⟩;cases n1 with
 | zero => cases hL31
 | succ n1 =>
  simp only [F_spec_meWay_L1] at hL31;refine .seq ?_;refine .sr fun K hK => ?_;simp [e1_];apply hK;clear hK K;refine DWp.cond' (t := (ine y1_6 x1)) (by simp [e1_]) (fun hb34 => ?_) (fun hb34 => ?_)
  ·replace hL31 := cd_t hb34 hL31;refine DWp.skip ?_;simp only [andThen, leaves];refine .seq ?_;refine .block ?_;have q35 := S1_.fieldT (P := Try.prog) (k := 0) rfl fa_35_0;have q36 := S1_.loadF (P := Try.prog) (k := 0) rfl sz_22 ag_22 (off := 0) rfl;obtain ⟨g37, hL31⟩ := gd_some hL31;have q38 := idxG (P := Try.prog) (kk := .i64) (hx0_0.agree A1_.agree) el_22 sz_3 g37;have q39 := loadG (P := Try.prog) (hx0_0.agree A1_.agree) sz_3 ag_3 g37 0;obtain ⟨v40, G41, q42, S43, a45, _, _⟩ := S1_.lit2 (P := Try.prog) (t := 22) (hB.le A1_.1) el_22 ei_3 rfl (Value.int .i64 y1_6) (Value.int .i64 (gat 0 x0_0 y1_6)) rfl rfl rfl rfl;have A44 := A1_.ext (hB.le A1_.1) a45;replace S43 : Sep G41 (Fr H) [AL.box p4 [v0_0, v0_1], flat w1_1 3 (ints l1_1), flat1 v40 3 (ints [y1_6, (gat 0 x0_0 y1_6)])] := S43;obtain ⟨g47, hL31⟩ := gd_some hL31;obtain ⟨v53, G48, q49, S50, a52, _, _⟩ := S43.appendG (f := (Value.int .i64)) (xs := l1_1) (ys := [y1_6, (gat 0 x0_0 y1_6)]) (P := Try.prog) (t := 22) (t2 := 22) (k := 1) rfl (hB.le A44.1) el_22 el_22 ei_3 rfl (S43.sl1 (k := 2) rfl) g47;have A51 := A44.trans a52;replace S50 : Sep G48 (Fr H) [AL.box p4 [v0_0, v0_1], flat v53 3 (ints (lapp l1_1 [y1_6, (gat 0 x0_0 y1_6)])), flat1 v40 3 (ints [y1_6, (gat 0 x0_0 y1_6)])] := S50;refine .region fun K hK => ?_;simp [e1_, q35, q36, q38, q39, q42, a45.to_pre, q49];apply hK;clear hK K;simp only [andThen, leaves];have q54 := S50.fieldT (P := Try.prog) (k := 0) rfl fa_35_1;have q55 := S50.loadF (P := Try.prog) (k := 0) rfl sz_22 ag_22 (off := 1) rfl;have q56 := S50.fieldT (P := Try.prog) (k := 0) rfl fa_35_0;have q57 := S50.loadF (P := Try.prog) (k := 0) rfl sz_22 ag_22 (off := 0) rfl;obtain ⟨g58, hL31⟩ := gd_some hL31;have q59 := idxG (P := Try.prog) (kk := .i64) (hx0_0.agree A51.agree) el_22 sz_3 g58
   have q60 := loadG (P := Try.prog) (hx0_0.agree A51.agree) sz_3 ag_3 g58 0;obtain ⟨g61, hL31⟩ := gd_some hL31;have q62 := idxG (P := Try.prog) (kk := .i64) (hx0_1.agree A51.agree) el_22 sz_3 g61;have q63 := loadG (P := Try.prog) (hx0_1.agree A51.agree) sz_3 ag_3 g61 0;refine .drawn (B := [0, 1, 0, 4, 0, 28, 60, 127, 255, 511]) 10 mixed (by kernel_rfl) (by decide) fun K hK => ?_;simp [e1_, q54, q55, q56, q57, q59, q60, q62, q63];apply hK;clear hK K;simp only [andThen, leaves];have S64 := S50.pick [0, 1] (by decide) rfl;exact ⟨n1, Nat.lt_succ_self _, (lapp l1_1 [y1_6, (gat 0 x0_0 y1_6)]), (gat 0 x0_1 (gat 0 x0_0 y1_6)), v53, hL31, S64, A51, by simp [e1_]⟩
  ·replace hL31 := cd_f hb34 hL31;refine DWp.exit ?_;simp only [andThen, leaves, if_true, if_false, reduceIte, Nat.reduceEqDiff];obtain rfl := Option.some.inj hL31;try dsimp only at hF
   refine .sr fun K hK => ?_;simp [e1_];apply hK;clear hK K;refine DWp.ret ?_;obtain rfl := Option.some.inj hF;exact ⟨by simp, [w1_1], by simp [e1_, ((S1_.sl (k := 1) rfl).tup)], A1_, w1_1, rfl, S1_.pick [1] (by decide) rfl⟩
def F_spec_meColours_L3 (fu : Nat) (k3_0 : List Int) (k3_1 : List Int) (k3_2 : Int) (k3_3 : Int) (k3_4 : Int) (k3_5 : List Int) (k3_6 : Int) : Nat → List Int → Int → Option (List Int × Int)
  | 0, _, _ => none
  | n + 1, l3_1, y3_36 =>
    bif (ilt y3_36 k3_6) then
      gd (inL k3_5 y3_36) (
      gd (inL l3_1 (gat 0 k3_5 y3_36)) (
      F_spec_meColours_L3 fu k3_0 k3_1 k3_2 k3_3 k3_4 k3_5 k3_6 n (lset l3_1 (gat 0 k3_5 y3_36) k3_2) (iadd .i64 y3_36 1)))
    else
      some (l3_1, y3_36)
def F_spec_meColours_L2 (fu : Nat) (k2_0 : List Int) (k2_1 : List Int) (k2_2 : Int) : Nat → List Int → Int → Int → Option (List Int × Int × Int)
  | 0, _, _, _ => none
  | n + 1, l2_1, y2_5, y2_24 =>
    bif (ilt y2_24 k2_2) then
      gd (inL l2_1 y2_24) (
      bif (ile 0 (gat 0 l2_1 y2_24)) then
        F_spec_meColours_L2 fu k2_0 k2_1 k2_2 n l2_1 y2_5 (iadd .i64 y2_24 1)
      else
        bd (F_spec_meWay fu k2_0 k2_1 y2_24) fun r1 =>
        bd (F_spec_meColours_L3 fu k2_0 k2_1 y2_5 k2_2 y2_24 r1 (llen r1) fu l2_1 0) fun s3 =>
        F_spec_meColours_L2 fu k2_0 k2_1 k2_2 n s3.1 (iadd .i64 y2_5 1) (iadd .i64 y2_24 1))
    else
      some (l2_1, y2_5, y2_24)
def F_spec_meColours_L1 (fu : Nat) (k1_0 : List Int) (k1_1 : List Int) (k1_2 : Int) : Nat → List Int → Int → Option (List Int × Int)
  | 0, _, _ => none
  | n + 1, l1_1, y1_15 =>
    bif (ilt y1_15 k1_2) then
      gd (inL l1_1 y1_15) (
      F_spec_meColours_L1 fu k1_0 k1_1 k1_2 n (lset l1_1 y1_15 (-1)) (iadd .i64 y1_15 1))
    else
      some (l1_1, y1_15)
def F_spec_meColours (fu : Nat) (x0_0 : List Int) (x0_1 : List Int) : Option (List Int) :=
  gd (0 ≤ (llen x0_0) ∧ (llen x0_0) ≤ 4294967296) (
  bd (F_spec_meColours_L1 fu x0_0 x0_1 (llen (lrep (llen x0_0) (0 : Int))) fu (lrep (llen x0_0) (0 : Int)) 0) fun s1 =>
  bd (F_spec_meColours_L2 fu x0_0 x0_1 (llen s1.1) fu s1.1 0 0) fun s2 =>
  some s2.1)
theorem F_spec_meColours_w {fu : Nat} {H : AH} {v0_0 : Value} {v0_1 : Value} {x0_0 : List Int} {x0_1 : List Int} {r : (List Int)} (hx0_0 : Sl H v0_0 (ints x0_0)) (hx0_1 : Sl H v0_1 (ints x0_1)) (hF : F_spec_meColours fu x0_0 x0_1 = some r) :
    ACallT Try.prog 33 [(Value.agg #[v0_0, v0_1])] H (fun u G => AgB (Fr H) H G ∧ ∃ u0 : Value, u = u0 ∧ Sep G (Fr H) [flat u0 3 (ints r)]) := by
 refine ACallT.of_body (nt := 49) (rs := [.tmp 2]) Try.func33 rfl rfl rfl rfl ?_;have A0 : AgB (Fr H) H H := .refl _ _;have S0 : Sep H (Fr H) [] := .nil;have hB := Fr.up H;unfold F_spec_meColours at hF;obtain ⟨G2, p4, q5, q6, a7, S1⟩ := S0.boxT (hB.le A0.1) 35 [v0_0, v0_1];have A3 := A0.ext (hB.le A0.1) a7;replace S1 : Sep G2 (Fr H) [AL.box p4 [v0_0, v0_1]] := S1;refine .sr fun K hK => ?_;simp [q5, q6, a7.to_pre, cells_agg];apply hK;clear hK K;have q8 := S1.fieldT (P := Try.prog) (k := 0) rfl fa_35_0;have q9 := S1.loadF (P := Try.prog) (k := 0) rfl sz_22 ag_22 (off := 0) rfl;have q10 := lenG (P := Try.prog) (hx0_0.agree A3.agree) el_22;obtain ⟨g11, hF⟩ := gd_some hF;obtain ⟨v12, G13, q14, S15, a17, _⟩ := S1.make (f := (Value.int .i64)) (P := Try.prog) (t := 22) (hB.le A3.1) el_22 ei_3 rfl 0 rfl g11;have A16 := A3.ext (hB.le A3.1) a17;replace S15 : Sep G13 (Fr H) [AL.box p4 [v0_0, v0_1], flat v12 3 (ints (lrep (llen x0_0) (0 : Int)))] := S15;refine .sr fun K hK => ?_;simp [q8, q9, q10, q14, a17.to_pre];apply hK;clear hK K;refine .seq ?_;have q18 := lenG (P := Try.prog) (S15.sl (k := 1) rfl) el_22;refine .sr fun K hK => ?_;simp [q18];apply hK;clear hK K;refine .block ?_;obtain ⟨s19, hL20, hF⟩ := bd_some hF;have S21 := S15.pick [0, 1] (by decide) rfl;refine DWp.loop (fun n env G => ∃ l1_1 : List Int, ∃ y1_15 : Int, F_spec_meColours_L1 fu x0_0 x0_1 (llen (lrep (llen x0_0) (0 : Int))) n l1_1 y1_15 = some s19 ∧ Sep G (Fr H) [AL.box p4 [v0_0, v0_1], flat v12 3 (ints l1_1)] ∧ AgB (Fr H) H G ∧ env 1 = some p4 ∧ env 3 = some v12 ∧ env 14 = some (Value.int .i64 (llen (lrep (llen x0_0) (0 : Int)))) ∧ env 15 = some (Value.int .i64 y1_15)) fu ⟨(lrep (llen x0_0) (0 : Int)), 0, hL20, S21, A16, by simp []⟩ ?_;rintro n1 env1 G1_ ⟨l1_1, y1_15, hL20, S1_, A1_, e1_⟩;cases n1 with
 | zero => cases hL20
 | succ n1 =>
  simp only [F_spec_meColours_L1] at hL20;refine .sr fun K hK => ?_;simp [e1_];apply hK;clear hK K;refine .seq ?_;refine DWp.cond' (t := (ilt y1_15 (llen (lrep (llen x0_0) (0 : Int))))) (by simp [e1_]) (fun hb22 => ?_) (fun hb22 => ?_)
  ·replace hL20 := cd_t hb22 hL20;refine DWp.skip ?_;simp only [andThen, leaves];refine .seq ?_;refine .block ?_;refine .sr fun K hK => ?_;simp [e1_];apply hK;clear hK K;obtain ⟨g23, hL20⟩ := gd_some hL20;have q24 := idxG (P := Try.prog) (kk := .i64) (S1_.sl (k := 1) rfl) el_22 sz_3 g23;obtain ⟨G25, q26, S27, a29⟩ := S1_.storeG (f := (Value.int .i64)) (P := Try.prog) (k := 1) (x := (-1)) rfl (hB.le A1_.1) sz_3 g23 rfl rfl;have A28 := A1_.trans a29;replace S27 : Sep G25 (Fr H) [AL.box p4 [v0_0, v0_1], flat v12 3 (ints (lset l1_1 y1_15 (-1)))] := S27;refine .region fun K hK => ?_;simp [e1_, q24, q26];apply hK;clear hK K;simp only [andThen, leaves];refine .region fun K hK => ?_;simp [e1_];apply hK;clear hK K;simp only [andThen, leaves];have S30 := S27.pick [0, 1] (by decide) rfl;exact ⟨n1, Nat.lt_succ_self _, (lset l1_1 y1_15 (-1)), (iadd .i64 y1_15 1), hL20, S30, A28, by simp [e1_]⟩
  ·replace hL20 := cd_f hb22 hL20;refine DWp.exit ?_;simp only [andThen, leaves, if_true, if_false, reduceIte, Nat.reduceEqDiff];obtain rfl := Option.some.inj hL20;try dsimp only at hF
   refine .sr fun K hK => ?_;simp [e1_];apply hK;clear hK K;refine .seq ?_;have q31 := lenG (P := Try.prog) (S1_.sl (k := 1) rfl) el_22;refine .sr fun K hK => ?_;simp [e1_, q31];apply hK;clear hK K;refine .block ?_;obtain ⟨s32, hL33, hF⟩ := bd_some hF;have S34 := S1_.pick [0, 1] (by decide) rfl;refine DWp.loop (fun n env G => ∃ l2_1 : List Int, ∃ y2_5 : Int, ∃ y2_24 : Int, F_spec_meColours_L2 fu x0_0 x0_1 (llen l1_1) n l2_1 y2_5 y2_24 = some s32 ∧ Sep G (Fr H) [AL.box p4 [v0_0, v0_1], flat v12 3 (ints l2_1)] ∧ AgB (Fr H) H G ∧ env 1 = some p4 ∧ env 3 = some v12 ∧ env 5 = some (Value.int .i64 y2_5) ∧ env 23 = some (Value.int .i64 (llen l1_1)) ∧ env 24 = some (Value.int .i64 y2_24)) fu ⟨l1_1, 0, 0, hL33, S34, A1_, by simp [e1_]⟩ ?_;rintro n1 env1 G1_ ⟨l2_1, y2_5, y2_24, hL33, S1_, A1_, e1_⟩;cases n1 with
   | zero => cases hL33
   | succ n1 =>
    simp only [F_spec_meColours_L2] at hL33;refine .sr fun K hK => ?_;simp [e1_];apply hK;clear hK K;refine .seq ?_;refine DWp.cond' (t := (ilt y2_24 (llen l1_1))) (by simp [e1_]) (fun hb35 => ?_) (fun hb35 => ?_)
    ·replace hL33 := cd_t hb35 hL33;refine DWp.skip ?_;simp only [andThen, leaves];refine .seq ?_;refine .block ?_;refine .sr fun K hK => ?_;simp [e1_];apply hK;clear hK K;refine .seq ?_;obtain ⟨g36, hL33⟩ := gd_some hL33;have q37 := idxG (P := Try.prog) (kk := .i64) (S1_.sl (k := 1) rfl) el_22 sz_3 g36;have q38 := loadG (P := Try.prog) (S1_.sl (k := 1) rfl) sz_3 ag_3 g36 0;refine .sr fun K hK => ?_;simp [e1_, q37, q38];apply hK;clear hK K;refine DWp.cond' (t := (ile 0 (gat 0 l2_1 y2_24))) (by simp [e1_]) (fun hb39 => ?_) (fun hb39 => ?_)
     ·replace hL33 := cd_t hb39 hL33;refine DWp.exit ?_;simp only [andThen, leaves, if_true, if_false, reduceIte, Nat.reduceEqDiff];refine .region fun K hK => ?_;simp [e1_];apply hK;clear hK K;simp only [andThen, leaves];have S40 := S1_.pick [0, 1] (by decide) rfl;exact ⟨n1, Nat.lt_succ_self _, l2_1, y2_5, (iadd .i64 y2_24 1), hL33, S40, A1_, by simp [e1_]⟩
     ·replace hL33 := cd_f hb39 hL33;refine DWp.skip ?_;simp only [andThen, leaves];refine .seq ?_;have q41 := S1_.loadAgg (P := Try.prog) (k := 0) rfl sz_35 ag_35 rfl;obtain ⟨r1, hc42, hL33⟩ := bd_some hL33;refine .sr fun K hK => ?_;simp [e1_, q41, ((hx0_0.agree A1_.agree).tup), ((hx0_1.agree A1_.agree).tup)];refine CallD.t (F_spec_meWay_w (fu := fu) (hx0_0.agree A1_.agree) (hx0_1.agree A1_.agree) hc42) ?_;rintro c43_u0 G44 ⟨a47, _, rfl, S48⟩;have A46 := A1_.ext (hB.le A1_.1) a47.agree;have S45 : Sep G44 (Fr H) [AL.box p4 [v0_0, v0_1], flat v12 3 (ints l2_1), flat c43_u0 3 (ints r1)] := S1_.app a47.agree S48 (fun _ h => h) (hB.le A1_.1);have q49 := lenG (P := Try.prog) (S45.sl (k := 2) rfl) el_22;simp [e1_, q41, a47.pre, q49];apply hK;clear hK K;refine .block ?_;obtain ⟨s50, hL51, hL33⟩ := bd_some hL33;have S52 := S45.pick [0, 1, 2] (by decide) rfl;refine DWp.loop (fun n env G => ∃ l3_1 : List Int, ∃ y3_36 : Int, F_spec_meColours_L3 fu x0_0 x0_1 y2_5 (llen l1_1) y2_24 r1 (llen r1) n l3_1 y3_36 = some s50 ∧ Sep G (Fr H) [AL.box p4 [v0_0, v0_1], flat v12 3 (ints l3_1), flat c43_u0 3 (ints r1)] ∧ AgB (Fr H) H G ∧ env 1 = some p4 ∧ env 3 = some v12 ∧ env 5 = some (Value.int .i64 y2_5) ∧ env 23 = some (Value.int .i64 (llen l1_1)) ∧ env 24 = some (Value.int .i64 y2_24) ∧ env 34 = some c43_u0 ∧ env 35 = some (Value.int .i64 (llen r1)) ∧ env 36 = some (Value.int .i64 y3_36)) fu ⟨l2_1, 0, hL51, S52, A46, by simp [e1_]⟩ ?_;rintro n2 env2 G2_ ⟨l3_1, y3_36, hL51, S2_, A2_, e2_⟩;cases n2 with
      | zero => cases hL51
      | succ n2 =>
       simp only [F_spec_meColours_L3] at hL51;refine .sr fun K hK => ?_;simp [e2_];apply hK;clear hK K;refine .seq ?_;refine DWp.cond' (t := (ilt y3_36 (llen r1))) (by simp [e2_]) (fun hb53 => ?_) (fun hb53 => ?_)
       ·replace hL51 := cd_t hb53 hL51;refine DWp.skip ?_;simp only [andThen, leaves];refine .seq ?_;refine .block ?_;obtain ⟨g54, hL51⟩ := gd_some hL51;have q55 := idxG (P := Try.prog) (kk := .i64) (S2_.sl (k := 2) rfl) el_22 sz_3 g54;have q56 := loadG (P := Try.prog) (S2_.sl (k := 2) rfl) sz_3 ag_3 g54 0;refine .sr fun K hK => ?_;simp [e2_, q55, q56];apply hK;clear hK K;obtain ⟨g57, hL51⟩ := gd_some hL51;have q58 := idxG (P := Try.prog) (kk := .i64) (S2_.sl (k := 1) rfl) el_22 sz_3 g57;obtain ⟨G59, q60, S61, a63⟩ := S2_.storeG (f := (Value.int .i64)) (P := Try.prog) (k := 1) (x := y2_5) rfl (hB.le A2_.1) sz_3 g57 rfl rfl;have A62 := A2_.trans a63;replace S61 : Sep G59 (Fr H) [AL.box p4 [v0_0, v0_1], flat v12 3 (ints (lset l3_1 (gat 0 r1 y3_36) y2_5)), flat c43_u0 3 (ints r1)] := S61;refine .region fun K hK => ?_;simp [e2_, q58, q60];apply hK;clear hK K;simp only [andThen, leaves];refine .region fun K hK => ?_;simp [e2_];apply hK;clear hK K;simp only [andThen, leaves];have S64 := S61.pick [0, 1, 2] (by decide) rfl;exact ⟨n2, Nat.lt_succ_self _, (lset l3_1 (gat 0 r1 y3_36) y2_5), (iadd .i64 y3_36 1), hL51, S64, A62, by simp [e2_]⟩
       ·replace hL51 := cd_f hb53 hL51;refine DWp.exit ?_;simp only [andThen, leaves, if_true, if_false, reduceIte, Nat.reduceEqDiff];obtain rfl := Option.some.inj hL51;try dsimp only at hL33
        refine .region fun K hK => ?_;simp [e2_];apply hK;clear hK K;simp only [andThen, leaves];refine .region fun K hK => ?_;simp [e2_];apply hK;clear hK K;simp only [andThen, leaves];have S65 := S2_.pick [0, 1] (by decide) rfl;exact ⟨n1, Nat.lt_succ_self _, l3_1, (iadd .i64 y2_5 1), (iadd .i64 y2_24 1), hL33, S65, A2_, by simp [e2_]⟩
    ·replace hL33 := cd_f hb35 hL33;refine DWp.exit ?_;simp only [andThen, leaves, if_true, if_false, reduceIte, Nat.reduceEqDiff];obtain rfl := Option.some.inj hL33;try dsimp only at hF
     refine .sr fun K hK => ?_;simp [e1_];apply hK;clear hK K;refine DWp.ret ?_;obtain rfl := Option.some.inj hF;exact ⟨by simp, [v12], by simp [e1_, ((S1_.sl (k := 1) rfl).tup)], A1_, v12, rfl, S1_.pick [1] (by decide) rfl⟩
end Go.Proofs.Ytjgnpkedkjbmcaa.AL

/- The walks of functions, each with its Lean function: impl.neighbours, impl.ExchangesOf, spec.exBefore, spec.l1Same, spec.exPut, spec.ExchangesOf, impl.CountExchanges, impl.FacesOf, spec.FacesOf, laws.sSameRows. No condition. -/
import Derived.Test.YtogghgecmjnieaaGreatG1
import Derived.Test.YtogghgecmjnieaaGreatG2
import Derived.Test.YtogghgecmjnieaaGreatG3
import Derived.Test.YtogghgecmjnieaaGreatG4
import Derived.Test.YtogghgecmjnieaaGreatG5
import Derived.Test.YtogghgecmjnieaaGreatG6
import Derived.Test.YtogghgecmjnieaaGreatG7
import Derived.Test.YtogghgecmjnieaaGreatALD
import Derived.Test.YtogghgecmjnieaaGreatProg
import Derived.KernelRfl
namespace Go.Proofs.YtogghgecmjnieaaGreat.AL
open Go Go.RowKit
set_option linter.unusedVariables false
set_option linter.unusedSimpArgs false
set_option maxRecDepth 4096
attribute [local simp] n_fn b_add b_sub b_mul b_lt b_le b_gt b_ge b_eq b_ne u_not
theorem ze_66 : zeroT Tryz.prog 66 = some (.agg #[.int .i64 0, .int .i64 0]) := by kernel_rfl
def F_impl_neighbours_L1 (fu : Nat) (k1_0 : List Int) (k1_1 : List (Int × Int)) (k1_2 : Int) : Nat → List (List Int) → Int → Option (List (List Int) × Int)
  | 0, _, _ => none
  | n + 1, l1_0, y1_10 =>
    bif (ilt y1_10 k1_2) then
      gd (inL k1_1 y1_10) (
      bd (F_impl_exchanged fu k1_0 ((gat i2 k1_1 y1_10).1) ((gat i2 k1_1 y1_10).2)) fun r2 =>
      gd (l1_0.length + 1 ≤ 4294967296) (
      F_impl_neighbours_L1 fu k1_0 k1_1 k1_2 n (lapp l1_0 [r2]) (iadd .i64 y1_10 1)))
    else
      some (l1_0, y1_10)
def F_impl_neighbours (fu : Nat) (x0 : List Int) : Option (List (List Int)) :=
  bd (F_impl_couples fu x0) fun r1 =>
  bd (F_impl_neighbours_L1 fu x0 r1 (llen r1) fu [] 0) fun s1 =>
  bd (F_slices_SortFunc_SSint fu s1.1 (fun y0 y1 => F_slices_Compare_Sint fu y0 y1)) fun r3 =>
  some r3
theorem F_impl_neighbours_w {fu : Nat} {H : AH} {v0 : Value} {x0 : List Int} {r : (List (List Int))} (hx0 : Sl H v0 (ints x0)) (hF : F_impl_neighbours fu x0 = some r) :
    ACallT Tryz.prog 61 [v0] H (fun u G => AgB (Fr H) H G ∧ ∃ u0 : Value, ∃ C0 : List Value, u = u0 ∧ Sep G (Fr H) [rowsC u0 24 3 C0 (List.map ints r)]) := by
 refine ACallT.of_body (nt := 27) (rs := [.tmp 2]) Tryz.func61 rfl rfl rfl rfl ?_;have A0 : AgB (Fr H) H H := .refl _ _;have S0 : Sep H (Fr H) [] := .nil;have hB := Fr.up H;unfold F_impl_neighbours at hF;refine .sr fun K hK => ?_;simp [];apply hK;clear hK K;obtain ⟨v1, G2, q3, S4, a6, _, _⟩ := S0.lit0 (P := Tryz.prog) (t := 31) (hB.le A0.1) el_31 ei_24 rfl;have A5 := A0.ext (hB.le A0.1) a6;replace S4 : Sep G2 (Fr H) [flat1 v1 24 []] := S4;have S7 : Sep G2 (Fr H) [rowsC v1 24 3 [] (List.map ints [])] := S4.rowsOf0 (k := 0) rfl 3;refine .sr fun K hK => ?_;simp [q3, a6.to_pre];apply hK;clear hK K;refine .seq ?_;obtain ⟨r1, hc8, hF⟩ := bd_some hF;refine .sr fun K hK => ?_;simp [((hx0.agree A5.agree).tup)];refine CallD.t (F_impl_couples_w (fu := fu) (hx0.agree A5.agree) hc8) ?_;rintro c9_u0 G10 ⟨a13, _, rfl, S14⟩;have A12 := A5.ext (hB.le A5.1) a13.agree;have S11 : Sep G10 (Fr H) [rowsC v1 24 3 [] (List.map ints []), flatI c9_u0 66 r1] := S7.app a13.agree S14 (fun _ h => h) (hB.le A5.1);have q15 := (S11.slI (k := 1) rfl).lenG (P := Tryz.prog) el_65;simp [a13.pre, q15];apply hK;clear hK K;refine .block ?_;obtain ⟨s16, hL17, hF⟩ := bd_some hF;have S18 := S11.pick [0, 1] (by decide) rfl;refine DWp.loop (fun n env G => ∃ l1_0 : List (List Int), ∃ y1_10 : Int, ∃ w1_0 : Value, ∃ D1_0 : List Value, F_impl_neighbours_L1 fu x0 r1 (llen r1) n l1_0 y1_10 = some s16 ∧ Sep G (Fr H) [rowsC w1_0 24 3 D1_0 (List.map ints l1_0), flatI c9_u0 66 r1] ∧ AgB (Fr H) H G ∧ env 0 = some v0 ∧ env 3 = some w1_0 ∧ env 8 = some c9_u0 ∧ env 9 = some (Value.int .i64 (llen r1)) ∧ env 10 = some (Value.int .i64 y1_10)) fu ⟨[], 0, v1, [], hL17, S18, A12, by simp []⟩ ?_;rintro n1 env1 G1_ ⟨l1_0, y1_10, w1_0, D1_0, hL17, S1_, A1_, e1_0, e1_3, e1_8, e1_9, e1_10⟩;cases n1 with
 | zero => cases hL17
 | succ n1 =>
  simp only [F_impl_neighbours_L1] at hL17;refine .sr fun K hK => ?_;simp [e1_0, e1_3, e1_8, e1_9, e1_10];apply hK;clear hK K;refine .seq ?_;refine DWp.cond' (t := (ilt y1_10 (llen r1))) (by simp [e1_0, e1_3, e1_8, e1_9, e1_10]) (fun hb19 => ?_) (fun hb19 => ?_)
  ·replace hL17 := cd_t hb19 hL17;refine DWp.skip ?_;simp only [andThen, leaves];refine .seq ?_;refine .block ?_;obtain ⟨g20, hL17⟩ := gd_some hL17;have q21 := (S1_.slI (k := 1) rfl).idxG (P := Tryz.prog) (kk := .i64) el_65 sz_66 g20;have q22 := (S1_.slI (k := 1) rfl).loadG (P := Tryz.prog) sz_66 ag_66 g20;obtain ⟨G24, p26, q27, q29, a28, S23⟩ := S1_.allocT (P := Tryz.prog) (hB.le A1_.1) ze_66 rfl;have A25 := A1_.ext (hB.le A1_.1) a28;replace S23 : Sep G24 (Fr H) [rowsC w1_0 24 3 D1_0 (List.map ints l1_0), flatI c9_u0 66 r1, AL.box p26 [(Value.int .i64 0), (Value.int .i64 0)]] := S23;obtain ⟨G30, q31, S32, a34⟩ := S23.putAgg (P := Tryz.prog) (k := 2) (xs := [(Value.int .i64 (gat i2 r1 y1_10).1), (Value.int .i64 (gat i2 r1 y1_10).2)]) rfl (hB.le A25.1) sz_66 rfl rfl;have A33 := A25.trans a34;replace S32 : Sep G30 (Fr H) [rowsC w1_0 24 3 D1_0 (List.map ints l1_0), flatI c9_u0 66 r1, AL.box p26 [(Value.int .i64 (gat i2 r1 y1_10).1), (Value.int .i64 (gat i2 r1 y1_10).2)]] := S32;refine .sr fun K hK => ?_;simp [e1_0, e1_3, e1_8, e1_9, e1_10, q21, q22, q27, q29, a28.to_pre, q31];apply hK;clear hK K;have q35 : aIndexAddr Tryz.prog G30 66 p26 (Value.int .i64 0) = some (fldP p26 0) := S32.arrI (P := Tryz.prog) (kk := .i64) (k := 2) (n := 0) rfl ua_66 sz_3 (by decide);have q36 := S32.loadF (P := Tryz.prog) (k := 2) rfl sz_3 ag_3 (off := 0) rfl;have q37 : aIndexAddr Tryz.prog G30 66 p26 (Value.int .i64 1) = some (fldP p26 1) := S32.arrI (P := Tryz.prog) (kk := .i64) (k := 2) (n := 1) rfl ua_66 sz_3 (by decide);have q38 := S32.loadF (P := Tryz.prog) (k := 2) rfl sz_3 ag_3 (off := 1) rfl;obtain ⟨r2, hc39, hL17⟩ := bd_some hL17;refine .region fun K hK => ?_;simp [e1_0, e1_3, e1_8, e1_9, e1_10, q35, q36, q37, q38, ((hx0.agree A33.agree).tup)]
   refine CallD.t (F_impl_exchanged_w (fu := fu) (hx0.agree A33.agree) hc39) ?_;rintro c40_u0 G41 ⟨a44, _, rfl, S45⟩;have A43 := A33.ext (hB.le A33.1) a44.agree;have S42 : Sep G41 (Fr H) [rowsC w1_0 24 3 D1_0 (List.map ints l1_0), flatI c9_u0 66 r1, AL.box p26 [(Value.int .i64 (gat i2 r1 y1_10).1), (Value.int .i64 (gat i2 r1 y1_10).2)], flat c40_u0 3 (ints r2)] := S32.app a44.agree S45 (fun _ h => h) (hB.le A33.1);obtain ⟨v46, G47, q48, S49, a51, _, _⟩ := S42.lit1 (P := Tryz.prog) (t := 31) (hB.le A43.1) el_31 ei_24 rfl c40_u0 ((S42.sl (k := 3) rfl).tup) ((S42.sl (k := 3) rfl).one);have A50 := A43.ext (hB.le A43.1) a51;replace S49 : Sep G47 (Fr H) [rowsC w1_0 24 3 D1_0 (List.map ints l1_0), flatI c9_u0 66 r1, AL.box p26 [(Value.int .i64 (gat i2 r1 y1_10).1), (Value.int .i64 (gat i2 r1 y1_10).2)], flat c40_u0 3 (ints r2), flat1 v46 24 [c40_u0]] := S49;obtain ⟨g52, hL17⟩ := gd_some hL17;obtain ⟨v58, G53, q54, S55, a57, q54t, _⟩ := S49.pushRow (u := w1_0) (fr := ints) (X := l1_0) (y := r2) (P := Tryz.prog) (t := 31) (t2 := 31) (j := 0) (k := 3) (by decide) rfl rfl (hB.le A50.1) el_31 el_31 ei_24 rfl (S49.sl1 (k := 4) rfl) g52;have A56 := A50.trans a57;replace S55 : Sep G53 (Fr H) [rowsC v58 24 3 (D1_0 ++ [c40_u0]) (List.map ints (lapp l1_0 [r2])), flatI c9_u0 66 r1, AL.box p26 [(Value.int .i64 (gat i2 r1 y1_10).1), (Value.int .i64 (gat i2 r1 y1_10).2)], emp, flat1 v46 24 [c40_u0]] := S55;have q59 := S55.lastV (fr := ints) (k := 0) rfl;try simp only [List.cons_append, List.nil_append] at q59
   simp [e1_0, e1_3, e1_8, e1_9, e1_10, q59, q35, q36, q37, q38, a44.pre, q48, a51.to_pre, ((S42.sl (k := 3) rfl).tup), q54, q54t];apply hK;clear hK K;simp only [andThen, leaves];refine .region fun K hK => ?_;simp [e1_0, e1_3, e1_8, e1_9, e1_10, q59];apply hK;clear hK K;simp only [andThen, leaves];have S60 := S55.pick [0, 1] (by decide) rfl;exact ⟨n1, Nat.lt_succ_self _, (lapp l1_0 [r2]), (iadd .i64 y1_10 1), v58, (D1_0 ++ [c40_u0]), hL17, S60, A56, by simp [e1_0, e1_3, e1_8, e1_9, e1_10, q59]⟩
  ·replace hL17 := cd_f hb19 hL17;refine DWp.exit ?_;simp only [andThen, leaves, if_true, if_false, reduceIte, Nat.reduceEqDiff];obtain rfl := Option.some.inj hL17;try dsimp only at hF
   obtain ⟨r3, hc62, hF⟩ := bd_some hF;refine .sr fun K hK => ?_;simp [e1_0, e1_3, e1_8, e1_9, e1_10, ((S1_.rd (k := 0) rfl).tup)];have S63 : Sep G1_ (Fr H) ([rowsC w1_0 24 3 D1_0 (List.map ints l1_0)] ++ [flatI c9_u0 66 r1]) := S1_.pick [0, 1] (by decide) rfl;obtain ⟨B69, S64, U65, M66, R67, C68⟩ := S63.frame (hB.le A1_.1);refine CallD.t (F_slices_SortFunc_SSint_w (fu := fu) U65 S64 (fun G_ a_ v0 v1 y0 y1 q_ hy0 hy1 hq_ => F_slices_Compare_Sint_w (fu := fu) hy0 hy1 hq_) hc62) ?_;rintro _ G71 ⟨a74, c70_Cz0, rfl, S75⟩;have A73 := A1_.trans (a74.mono M66);have S72 : Sep G71 (Fr H) [rowsC w1_0 24 3 c70_Cz0 (List.map ints r3), flatI c9_u0 66 r1] := C68 _ _ a74 S75;simp [e1_0, e1_3, e1_8, e1_9, e1_10];apply hK;clear hK K;refine .sr fun K hK => ?_;simp [e1_0, e1_3, e1_8, e1_9, e1_10];apply hK;clear hK K;refine DWp.ret ?_;obtain rfl := Option.some.inj hF;exact ⟨by simp, [w1_0], by simp [e1_0, e1_3, e1_8, e1_9, e1_10, ((S72.rd (k := 0) rfl).tup)], A73, w1_0, c70_Cz0, rfl, S72.pick [0] (by decide) rfl⟩
def F_impl_ExchangesOf (fu : Nat) (x0 : List Int) : Option (List (List Int) × Bool) :=
  bd (F_impl_IsSystem fu x0) fun r1 =>
  bif (bnot r1) then
    some ([], false)
  else
    bd (F_impl_neighbours fu x0) fun r2 =>
    some (r2, true)
theorem F_impl_ExchangesOf_w {fu : Nat} {H : AH} {v0 : Value} {x0 : List Int} {r : (List (List Int) × Bool)} (hx0 : Sl H v0 (ints x0)) (hF : F_impl_ExchangesOf fu x0 = some r) :
    ACallT Tryz.prog 12 [v0] H (fun u G => AgB (Fr H) H G ∧ ∃ u0 : Value, ∃ C0 : List Value, u = (Value.tuple #[u0, (Value.bool r.2)]) ∧ Sep G (Fr H) [rowsC u0 24 3 C0 (List.map ints r.1)]) := by
 refine ACallT.of_body (nt := 9) (rs := [.tmp 2, .tmp 3]) Tryz.func12 rfl rfl rfl rfl ?_;have A0 : AgB (Fr H) H H := .refl _ _;have S0 : Sep H (Fr H) [] := .nil;have hB := Fr.up H;unfold F_impl_ExchangesOf at hF;refine .sr fun K hK => ?_;simp [];apply hK;clear hK K;refine .seq ?_;obtain ⟨r1, hc1, hF⟩ := bd_some hF;refine .sr fun K hK => ?_;simp [((hx0.agree A0.agree).tup)];refine CallD.t (F_impl_IsSystem_w (fu := fu) (hx0.agree A0.agree) hc1) ?_;rintro _ G3 ⟨a6, rfl, S7⟩;have A5 := A0.ext (hB.le A0.1) a6.agree;have S4 : Sep G3 (Fr H) [] := S0.app a6.agree S7 (fun _ h => h) (hB.le A0.1);simp [a6.pre];apply hK;clear hK K;refine DWp.cond' (t := (bnot r1)) (by simp []) (fun hb8 => ?_) (fun hb8 => ?_)
 ·replace hF := cd_t hb8 hF;refine .sr fun K hK => ?_;simp [];apply hK;clear hK K;refine DWp.ret ?_;simp only [andThen, leaves];have S9 := S4.rowsNil (hB.le A5.1) 24 3;obtain rfl := Option.some.inj hF;exact ⟨by simp, [(Value.slice none 0 0), (Value.bool false)], by simp [], A5, nilV, [], rfl, S9.pick [0] (by decide) rfl⟩
 ·replace hF := cd_f hb8 hF;refine DWp.skip ?_;simp only [andThen, leaves];obtain ⟨r2, hc10, hF⟩ := bd_some hF;refine .sr fun K hK => ?_;simp [((hx0.agree A5.agree).tup)];refine CallD.t (F_impl_neighbours_w (fu := fu) (hx0.agree A5.agree) hc10) ?_;rintro c11_u0 G12 ⟨a15, _, c11_C0, rfl, S16⟩;have A14 := A5.ext (hB.le A5.1) a15.agree;have S13 : Sep G12 (Fr H) [rowsC c11_u0 24 3 c11_C0 (List.map ints r2)] := S4.app a15.agree S16 (fun _ h => h) (hB.le A5.1);simp [a15.pre];apply hK;clear hK K;refine DWp.ret ?_;obtain rfl := Option.some.inj hF;exact ⟨by simp, [c11_u0, (Value.bool true)], by simp [((S13.rd (k := 0) rfl).tup)], A14, c11_u0, c11_C0, rfl, S13.pick [0] (by decide) rfl⟩
def F_spec_exBefore_L1 (fu : Nat) (k1_0 : List Int) (k1_1 : List Int) (k1_2 : Int) : Nat → Int → Option (LR (Bool) (Int))
  | 0, _ => none
  | n + 1, y1_8 =>
    bif (ilt y1_8 k1_2) then
      gd (inL k1_0 y1_8) (
      gd (inL k1_1 y1_8) (
      bif (ine (gat 0 k1_0 y1_8) (gat 0 k1_1 y1_8)) then
        gd (inL k1_0 y1_8) (
        gd (inL k1_1 y1_8) (
        some (.ret (ilt (gat 0 k1_0 y1_8) (gat 0 k1_1 y1_8)))))
      else
        F_spec_exBefore_L1 fu k1_0 k1_1 k1_2 n (iadd .i64 y1_8 1)))
    else
      some (.brk y1_8)
def F_spec_exBefore (fu : Nat) (x0 : List Int) (x1 : List Int) : Option (Bool) :=
  bd (F_spec_exBefore_L1 fu x0 x1 (llen x0) fu 0) fun s1 =>
  lr s1 fun s1 =>
  some false
theorem F_spec_exBefore_w {fu : Nat} {H : AH} {v0 : Value} {v1 : Value} {x0 : List Int} {x1 : List Int} {r : (Bool)} (hx0 : Sl H v0 (ints x0)) (hx1 : Sl H v1 (ints x1)) (hF : F_spec_exBefore fu x0 x1 = some r) :
    ACallT Tryz.prog 107 [v0, v1] H (fun u G => AgB (Fr H) H G ∧ u = (Value.bool r) ∧ Sep G (Fr H) []) := by
 refine ACallT.of_body (nt := 30) (rs := [.tmp 4]) Tryz.func107 rfl rfl rfl rfl ?_;have A0 : AgB (Fr H) H H := .refl _ _;have S0 : Sep H (Fr H) [] := .nil;have hB := Fr.up H;unfold F_spec_exBefore at hF;refine .sr fun K hK => ?_;simp [];apply hK;clear hK K;refine .seq ?_;have q1 := lenG (P := Tryz.prog) (hx0.agree A0.agree) el_24;refine .sr fun K hK => ?_;simp [q1];apply hK;clear hK K;refine .block ?_;obtain ⟨s2, hL3, hF⟩ := bd_some hF;have S4 := S0.pick [] (by decide) rfl;refine DWp.loop (fun n env G => ∃ y1_8 : Int, F_spec_exBefore_L1 fu x0 x1 (llen x0) n y1_8 = some s2 ∧ Sep G (Fr H) [] ∧ AgB (Fr H) H G ∧ env 0 = some v0 ∧ env 1 = some v1 ∧ env 7 = some (Value.int .i64 (llen x0)) ∧ env 8 = some (Value.int .i64 y1_8)) fu ⟨0, hL3, S4, A0, by simp []⟩ ?_;rintro n1 env1 G1_ ⟨y1_8, hL3, S1_, A1_, e1_0, e1_1, e1_7, e1_8⟩;cases n1 with
 | zero => cases hL3
 | succ n1 =>
  simp only [F_spec_exBefore_L1] at hL3;refine .sr fun K hK => ?_;simp [e1_0, e1_1, e1_7, e1_8];apply hK;clear hK K;refine .seq ?_;refine DWp.cond' (t := (ilt y1_8 (llen x0))) (by simp [e1_0, e1_1, e1_7, e1_8]) (fun hb5 => ?_) (fun hb5 => ?_)
  ·replace hL3 := cd_t hb5 hL3;refine DWp.skip ?_;simp only [andThen, leaves];refine .seq ?_;refine .block ?_;refine .sr fun K hK => ?_;simp [e1_0, e1_1, e1_7, e1_8];apply hK;clear hK K;obtain ⟨g6, hL3⟩ := gd_some hL3;have q7 := idxG (P := Tryz.prog) (kk := .i64) (hx0.agree A1_.agree) el_24 sz_3 g6;have q8 := loadG (P := Tryz.prog) (hx0.agree A1_.agree) sz_3 ag_3 g6 0;obtain ⟨g9, hL3⟩ := gd_some hL3;have q10 := idxG (P := Tryz.prog) (kk := .i64) (hx1.agree A1_.agree) el_24 sz_3 g9;have q11 := loadG (P := Tryz.prog) (hx1.agree A1_.agree) sz_3 ag_3 g9 0;refine .sd (B := [0, 0, 3, 7, 0, 0, 48, 112, 255]) 9 mixed (by kernel_rfl) (by decide) fun K hK => ?_;simp [e1_0, e1_1, e1_7, e1_8, q7, q8, q10, q11];apply hK;clear hK K;refine DWp.cond' (t := (ine (gat 0 x0 y1_8) (gat 0 x1 y1_8))) (by simp [e1_0, e1_1, e1_7, e1_8]) (fun hb12 => ?_) (fun hb12 => ?_)
   ·replace hL3 := cd_t hb12 hL3;obtain ⟨g13, hL3⟩ := gd_some hL3;have q14 := idxG (P := Tryz.prog) (kk := .i64) (hx0.agree A1_.agree) el_24 sz_3 g13;have q15 := loadG (P := Tryz.prog) (hx0.agree A1_.agree) sz_3 ag_3 g13 0;obtain ⟨g16, hL3⟩ := gd_some hL3;have q17 := idxG (P := Tryz.prog) (kk := .i64) (hx1.agree A1_.agree) el_24 sz_3 g16;have q18 := loadG (P := Tryz.prog) (hx1.agree A1_.agree) sz_3 ag_3 g16 0;refine .sd (B := [0, 0, 3, 7, 0, 0, 48, 112, 255, 511]) 10 mixed (by kernel_rfl) (by decide) fun K hK => ?_;simp [e1_0, e1_1, e1_7, e1_8, q14, q15, q17, q18];apply hK;clear hK K;refine DWp.ret ?_;simp only [andThen, leaves];obtain rfl := Option.some.inj hL3;simp only [lr] at hF;obtain rfl := Option.some.inj hF;exact ⟨by simp, [(Value.bool (ilt (gat 0 x0 y1_8) (gat 0 x1 y1_8)))], by simp [e1_0, e1_1, e1_7, e1_8], A1_, rfl, S1_.pick [] (by decide) rfl⟩
   ·replace hL3 := cd_f hb12 hL3;refine DWp.skip ?_;simp only [andThen, leaves];refine .region fun K hK => ?_;simp [e1_0, e1_1, e1_7, e1_8];apply hK;clear hK K;simp only [andThen, leaves];have S19 := S1_.pick [] (by decide) rfl;exact ⟨n1, Nat.lt_succ_self _, (iadd .i64 y1_8 1), hL3, S19, A1_, by simp [e1_0, e1_1, e1_7, e1_8]⟩
  ·replace hL3 := cd_f hb5 hL3;refine DWp.exit ?_;simp only [andThen, leaves, if_true, if_false, reduceIte, Nat.reduceEqDiff];obtain rfl := Option.some.inj hL3;simp only [lr] at hF;refine .sr fun K hK => ?_;simp [e1_0, e1_1, e1_7, e1_8];apply hK;clear hK K;refine DWp.ret ?_;obtain rfl := Option.some.inj hF;exact ⟨by simp, [(Value.bool false)], by simp [e1_0, e1_1, e1_7, e1_8], A1_, rfl, S1_.pick [] (by decide) rfl⟩
def F_spec_l1Same_L1 (fu : Nat) (k1_0 : List Int) (k1_1 : List Int) (k1_2 : Int) : Nat → Int → Option (LR (Bool) (Int))
  | 0, _ => none
  | n + 1, y1_13 =>
    bif (ilt y1_13 k1_2) then
      gd (inL k1_0 y1_13) (
      gd (inL k1_1 y1_13) (
      bif (ine (gat 0 k1_0 y1_13) (gat 0 k1_1 y1_13)) then
        some (.ret false)
      else
        F_spec_l1Same_L1 fu k1_0 k1_1 k1_2 n (iadd .i64 y1_13 1)))
    else
      some (.brk y1_13)
def F_spec_l1Same (fu : Nat) (x0 : List Int) (x1 : List Int) : Option (Bool) :=
  bif (ine (llen x0) (llen x1)) then
    some false
  else
    bd (F_spec_l1Same_L1 fu x0 x1 (llen x0) fu 0) fun s1 =>
    lr s1 fun s1 =>
    some true
theorem F_spec_l1Same_w {fu : Nat} {H : AH} {v0 : Value} {v1 : Value} {x0 : List Int} {x1 : List Int} {r : (Bool)} (hx0 : Sl H v0 (ints x0)) (hx1 : Sl H v1 (ints x1)) (hF : F_spec_l1Same fu x0 x1 = some r) :
    ACallT Tryz.prog 108 [v0, v1] H (fun u G => AgB (Fr H) H G ∧ u = (Value.bool r) ∧ Sep G (Fr H) []) := by
 refine ACallT.of_body (nt := 26) (rs := [.tmp 4]) Tryz.func108 rfl rfl rfl rfl ?_;have A0 : AgB (Fr H) H H := .refl _ _;have S0 : Sep H (Fr H) [] := .nil;have hB := Fr.up H;unfold F_spec_l1Same at hF;refine .sr fun K hK => ?_;simp [];apply hK;clear hK K;refine .seq ?_;have q1 := lenG (P := Tryz.prog) (hx0.agree A0.agree) el_24;have q2 := lenG (P := Tryz.prog) (hx1.agree A0.agree) el_24;refine .sr fun K hK => ?_;simp [q1, q2];apply hK;clear hK K;refine DWp.cond' (t := (ine (llen x0) (llen x1))) (by simp []) (fun hb3 => ?_) (fun hb3 => ?_)
 ·replace hF := cd_t hb3 hF;refine .sr fun K hK => ?_;simp [];apply hK;clear hK K;refine DWp.ret ?_;simp only [andThen, leaves];obtain rfl := Option.some.inj hF;exact ⟨by simp, [(Value.bool false)], by simp [], A0, rfl, S0.pick [] (by decide) rfl⟩
 ·replace hF := cd_f hb3 hF;refine DWp.skip ?_;simp only [andThen, leaves];refine .seq ?_;have q4 := lenG (P := Tryz.prog) (hx0.agree A0.agree) el_24;refine .sr fun K hK => ?_;simp [q4];apply hK;clear hK K;refine .block ?_;obtain ⟨s5, hL6, hF⟩ := bd_some hF;have S7 := S0.pick [] (by decide) rfl;refine DWp.loop (fun n env G => ∃ y1_13 : Int, F_spec_l1Same_L1 fu x0 x1 (llen x0) n y1_13 = some s5 ∧ Sep G (Fr H) [] ∧ AgB (Fr H) H G ∧ env 0 = some v0 ∧ env 1 = some v1 ∧ env 12 = some (Value.int .i64 (llen x0)) ∧ env 13 = some (Value.int .i64 y1_13)) fu ⟨0, hL6, S7, A0, by simp []⟩ ?_;rintro n1 env1 G1_ ⟨y1_13, hL6, S1_, A1_, e1_0, e1_1, e1_12, e1_13⟩;cases n1 with
  | zero => cases hL6
  | succ n1 =>
   simp only [F_spec_l1Same_L1] at hL6;refine .sr fun K hK => ?_;simp [e1_0, e1_1, e1_12, e1_13];apply hK;clear hK K;refine .seq ?_;refine DWp.cond' (t := (ilt y1_13 (llen x0))) (by simp [e1_0, e1_1, e1_12, e1_13]) (fun hb8 => ?_) (fun hb8 => ?_)
   ·replace hL6 := cd_t hb8 hL6;refine DWp.skip ?_;simp only [andThen, leaves];refine .seq ?_;refine .block ?_;refine .sr fun K hK => ?_;simp [e1_0, e1_1, e1_12, e1_13];apply hK;clear hK K;obtain ⟨g9, hL6⟩ := gd_some hL6;have q10 := idxG (P := Tryz.prog) (kk := .i64) (hx0.agree A1_.agree) el_24 sz_3 g9;have q11 := loadG (P := Tryz.prog) (hx0.agree A1_.agree) sz_3 ag_3 g9 0;obtain ⟨g12, hL6⟩ := gd_some hL6;have q13 := idxG (P := Tryz.prog) (kk := .i64) (hx1.agree A1_.agree) el_24 sz_3 g12;have q14 := loadG (P := Tryz.prog) (hx1.agree A1_.agree) sz_3 ag_3 g12 0;refine .sd (B := [0, 0, 3, 7, 0, 0, 48, 112, 255]) 9 mixed (by kernel_rfl) (by decide) fun K hK => ?_;simp [e1_0, e1_1, e1_12, e1_13, q10, q11, q13, q14];apply hK;clear hK K;refine DWp.cond' (t := (ine (gat 0 x0 y1_13) (gat 0 x1 y1_13))) (by simp [e1_0, e1_1, e1_12, e1_13]) (fun hb15 => ?_) (fun hb15 => ?_)
    ·replace hL6 := cd_t hb15 hL6;refine .sr fun K hK => ?_;simp [e1_0, e1_1, e1_12, e1_13];apply hK;clear hK K;refine DWp.ret ?_;simp only [andThen, leaves];obtain rfl := Option.some.inj hL6;simp only [lr] at hF;obtain rfl := Option.some.inj hF;exact ⟨by simp, [(Value.bool false)], by simp [e1_0, e1_1, e1_12, e1_13], A1_, rfl, S1_.pick [] (by decide) rfl⟩
    ·replace hL6 := cd_f hb15 hL6;refine DWp.skip ?_;simp only [andThen, leaves];refine .region fun K hK => ?_;simp [e1_0, e1_1, e1_12, e1_13];apply hK;clear hK K;simp only [andThen, leaves];have S16 := S1_.pick [] (by decide) rfl;exact ⟨n1, Nat.lt_succ_self _, (iadd .i64 y1_13 1), hL6, S16, A1_, by simp [e1_0, e1_1, e1_12, e1_13]⟩
   ·replace hL6 := cd_f hb8 hL6;refine DWp.exit ?_;simp only [andThen, leaves, if_true, if_false, reduceIte, Nat.reduceEqDiff];obtain rfl := Option.some.inj hL6;simp only [lr] at hF;refine .sr fun K hK => ?_;simp [e1_0, e1_1, e1_12, e1_13];apply hK;clear hK K;refine DWp.ret ?_;obtain rfl := Option.some.inj hF;exact ⟨by simp, [(Value.bool true)], by simp [e1_0, e1_1, e1_12, e1_13], A1_, rfl, S1_.pick [] (by decide) rfl⟩
def F_spec_exPut_L1 (fu : Nat) (k1_0 : List (List Int)) (k1_1 : List Int) : Nat → Int → Option (Int)
  | 0, _ => none
  | n + 1, y1_5 =>
    bif (ilt y1_5 (llen k1_0)) then
      gd (inL k1_0 y1_5) (
      bd (F_spec_exBefore fu (gat [] k1_0 y1_5) k1_1) fun r1 =>
      bif r1 then
        F_spec_exPut_L1 fu k1_0 k1_1 n (iadd .i64 y1_5 1)
      else
        some y1_5)
    else
      some y1_5
def F_spec_exPut (fu : Nat) (x0 : List (List Int)) (x1 : List Int) : Option (List (List Int)) :=
  bd (
    bd (F_spec_exPut_L1 fu x0 x1 fu 0) fun s1 =>
    some s1) fun s1 =>
  bd (
    bif (ilt s1 (llen x0)) then
      gd (inL x0 s1) (
      bd (F_spec_l1Same fu (gat [] x0 s1) x1) fun r2 =>
      some r2)
    else
      some false) fun s23 =>
  bif s23 then
    some x0
  else
    gd (subL x0 0 s1) (
    gd (x0.length + 1 ≤ 4294967296) (
    gd (subL x0 s1 (llen x0)) (
    some (lins x0 s1 x1))))
theorem F_spec_exPut_w {fu : Nat} {H : AH} {B : Nat → Prop} {v0 : Value} {C0 : List Value} {v1 : Value} {x0 : List (List Int)} {x1 : List Int} {r : (List (List Int))} (hB : Up B H.length) (S0 : Sep H B [rowsC v0 24 3 C0 (List.map ints x0), flat v1 3 (ints x1)]) (hF : F_spec_exPut fu x0 x1 = some r) :
    ACallT Tryz.prog 62 [v0, v1] H (fun u G => AgB B H G ∧ ∃ u0 : Value, ∃ C0 : List Value, u = u0 ∧ Sep G B [rowsC u0 24 3 C0 (List.map ints r)]) := by
 refine ACallT.of_body (nt := 47) (rs := [.tmp 4]) Tryz.func62 rfl rfl rfl rfl ?_;have A0 : AgB B H H := .refl _ _;unfold F_spec_exPut at hF;refine .sr fun K hK => ?_;simp [];apply hK;clear hK K;refine .sr fun K hK => ?_;simp [];apply hK;clear hK K;obtain ⟨s1, hL2, hF⟩ := bd_some hF;refine DWp.seq (DWp.join (fun env G => Sep G B [rowsC v0 24 3 C0 (List.map ints x0), flat v1 3 (ints x1)] ∧ AgB B H G ∧ env 0 = some v0 ∧ env 1 = some v1 ∧ env 5 = some (Value.int .i64 s1)) ?_ ?_)
 ·
  refine .block ?_;obtain ⟨s4, hL5, hL2⟩ := bd_some hL2;have S6 := S0.pick [0, 1] (by decide) rfl;refine DWp.loop (fun n env G => ∃ y1_5 : Int, F_spec_exPut_L1 fu x0 x1 n y1_5 = some s4 ∧ Sep G B [rowsC v0 24 3 C0 (List.map ints x0), flat v1 3 (ints x1)] ∧ AgB B H G ∧ env 0 = some v0 ∧ env 1 = some v1 ∧ env 5 = some (Value.int .i64 y1_5)) fu ⟨0, hL5, S6, A0, by simp []⟩ ?_;rintro n2 env2 G2_ ⟨y1_5, hL5, S2_, A2_, e2_0, e2_1, e2_5⟩;cases n2 with
  | zero => cases hL5
  | succ n2 =>
   simp only [F_spec_exPut_L1] at hL5;refine .seq ?_;have q7 := (S2_.rd (k := 0) rfl).lenG (P := Tryz.prog) el_31;rcases Bool.eq_false_or_eq_true (ilt y1_5 (llen x0)) with hb8 | hb8
   ·replace hL5 := cd_t hb8 hL5;obtain ⟨g9, hL5⟩ := gd_some hL5;have q10 := (S2_.rd (k := 0) rfl).idxG (P := Tryz.prog) (kk := .i64) el_31 sz_24 g9;have q11 := (S2_.rd (k := 0) rfl).loadG (P := Tryz.prog) sz_24 ag_24 g9;obtain ⟨r1, hc12, hL5⟩ := bd_some hL5;refine .sr fun K hK => ?_;simp [e2_0, e2_1, e2_5, hb8, q7, q10, q11, (((S2_.rd (k := 0) rfl).rowAt [] g9).tup), ((S2_.sl (k := 1) rfl).tup)];refine CallD.t (F_spec_exBefore_w (fu := fu) ((S2_.rd (k := 0) rfl).rowAt [] g9) (S2_.sl (k := 1) rfl) hc12) ?_;rintro _ G14 ⟨a17, rfl, S18⟩;have A16 := A2_.ext (hB.le A2_.1) a17.agree;have S15 : Sep G14 B [rowsC v0 24 3 C0 (List.map ints x0), flat v1 3 (ints x1)] := S2_.app a17.agree S18 (fun _ h => h) (hB.le A2_.1);simp [e2_0, e2_1, e2_5, hb8, q7, q10, q11, a17.pre];apply hK;clear hK K;refine DWp.cond' (t := r1) (by simp [e2_0, e2_1, e2_5]) (fun hb19 => ?_) (fun hb19 => ?_)
    ·replace hL5 := cd_t hb19 hL5;refine DWp.skip ?_;simp only [andThen, leaves];refine .block ?_;refine .region fun K hK => ?_;simp [e2_0, e2_1, e2_5];apply hK;clear hK K;simp only [andThen, leaves];have S20 := S15.pick [0, 1] (by decide) rfl;exact ⟨n2, Nat.lt_succ_self _, (iadd .i64 y1_5 1), hL5, S20, A16, by simp [e2_0, e2_1, e2_5]⟩
    ·replace hL5 := cd_f hb19 hL5;refine DWp.exit ?_;simp only [andThen, leaves, if_true, if_false, reduceIte, Nat.reduceEqDiff];obtain rfl := Option.some.inj hL5;have S21 := S15.pick [0, 1] (by decide) rfl;obtain rfl := Option.some.inj hL2;exact ⟨S21, A16, by simp [e2_0, e2_1, e2_5]⟩
   ·replace hL5 := cd_f hb8 hL5;refine .sr fun K hK => ?_;simp [e2_0, e2_1, e2_5, hb8, q7];apply hK;clear hK K;refine DWp.cf (by simp [e2_0, e2_1, e2_5, bnot]) ?_;refine DWp.exit ?_;simp only [andThen, leaves, if_true, if_false, reduceIte, Nat.reduceEqDiff];obtain rfl := Option.some.inj hL5;have S22 := S2_.pick [0, 1] (by decide) rfl;obtain rfl := Option.some.inj hL2;exact ⟨S22, A2_, by simp [e2_0, e2_1, e2_5]⟩
 ·rintro env Gj23 ⟨Sj23, Aj23, ej23_0, ej23_1, ej23_5⟩;refine .seq ?_;obtain ⟨s24, hL25, hF⟩ := bd_some hF;refine DWp.seq (DWp.join (fun env G => Sep G B [rowsC v0 24 3 C0 (List.map ints x0), flat v1 3 (ints x1)] ∧ AgB B H G ∧ env 0 = some v0 ∧ env 1 = some v1 ∧ env 5 = some (Value.int .i64 s1) ∧ env 32 = some (Value.bool s24)) ?_ ?_)
  ·
   have q27 := (Sj23.rd (k := 0) rfl).lenG (P := Tryz.prog) el_31;rcases Bool.eq_false_or_eq_true (ilt s1 (llen x0)) with hb28 | hb28
   ·replace hL25 := cd_t hb28 hL25;obtain ⟨g29, hL25⟩ := gd_some hL25;have q30 := (Sj23.rd (k := 0) rfl).idxG (P := Tryz.prog) (kk := .i64) el_31 sz_24 g29;have q31 := (Sj23.rd (k := 0) rfl).loadG (P := Tryz.prog) sz_24 ag_24 g29;obtain ⟨r2, hc32, hL25⟩ := bd_some hL25;refine .region fun K hK => ?_;simp [ej23_0, ej23_1, ej23_5, hb28, q27, q30, q31, (((Sj23.rd (k := 0) rfl).rowAt [] g29).tup), ((Sj23.sl (k := 1) rfl).tup)];refine CallD.t (F_spec_l1Same_w (fu := fu) ((Sj23.rd (k := 0) rfl).rowAt [] g29) (Sj23.sl (k := 1) rfl) hc32) ?_;rintro _ G34 ⟨a37, rfl, S38⟩;have A36 := Aj23.ext (hB.le Aj23.1) a37.agree;have S35 : Sep G34 B [rowsC v0 24 3 C0 (List.map ints x0), flat v1 3 (ints x1)] := Sj23.app a37.agree S38 (fun _ h => h) (hB.le Aj23.1);simp [ej23_0, ej23_1, ej23_5, hb28, q27, q30, q31, a37.pre];apply hK;clear hK K;simp only [andThen, leaves];have S39 := S35.pick [0, 1] (by decide) rfl;obtain rfl := Option.some.inj hL25;exact ⟨S39, A36, by simp [ej23_0, ej23_1, ej23_5]⟩
   ·replace hL25 := cd_f hb28 hL25;refine .region fun K hK => ?_;simp [ej23_0, ej23_1, ej23_5, hb28, q27];apply hK;clear hK K;simp only [andThen, leaves];have S40 := Sj23.pick [0, 1] (by decide) rfl;obtain rfl := Option.some.inj hL25;exact ⟨S40, Aj23, by simp [ej23_0, ej23_1, ej23_5]⟩
  ·rintro env Gj41 ⟨Sj41, Aj41, ej41_0, ej41_1, ej41_5, ej41_32⟩;refine DWp.cond' (t := s24) (by simp [ej41_0, ej41_1, ej41_5, ej41_32]) (fun hb42 => ?_) (fun hb42 => ?_)
   ·replace hF := cd_t hb42 hF;refine .sr fun K hK => ?_;simp [ej41_0, ej41_1, ej41_5, ej41_32];apply hK;clear hK K;refine DWp.ret ?_;simp only [andThen, leaves];obtain rfl := Option.some.inj hF;exact ⟨by simp, [v0], by simp [ej41_0, ej41_1, ej41_5, ej41_32, ((Sj41.rd (k := 0) rfl).tup)], Aj41, v0, C0, rfl, Sj41.pick [0] (by decide) rfl⟩
   ·replace hF := cd_f hb42 hF;refine DWp.skip ?_;simp only [andThen, leaves];obtain ⟨v43, G44, q45, S46, a48, _, _⟩ := Sj41.lit0 (P := Tryz.prog) (t := 31) (hB.le Aj41.1) el_31 ei_24 rfl;have A47 := Aj41.ext (hB.le Aj41.1) a48;replace S46 : Sep G44 B [rowsC v0 24 3 C0 (List.map ints x0), flat v1 3 (ints x1), flat1 v43 24 []] := S46;have S49 : Sep G44 B [rowsC v0 24 3 C0 (List.map ints x0), flat v1 3 (ints x1), rowsC v43 24 3 [] (List.map ints [])] := S46.rowsOf0 (k := 2) rfl 3;obtain ⟨g50, hF⟩ := gd_some hF;have q51 := ((S49.rd (k := 0) rfl).raw01 (P := Tryz.prog) el_31 sz_24 g50).1;have S58 := S49.rawOf0 (k := 2) rfl;obtain ⟨g59, hF⟩ := gd_some hF;obtain ⟨v57, G52, q53, S54, a56, q53t, _⟩ := S58.ins1 (P := Tryz.prog) (t := 31) (t2 := 31) (k := 2) (j := 0) (fr := ints) (X := x0) (C := C0) (b := s1) rfl rfl (hB.le A47.1) el_31 el_31 ei_24 rfl ((S58.rd (k := 0) rfl).raw01 (P := Tryz.prog) el_31 sz_24 g50).2 g59;have A55 := A47.trans a56;replace S54 : Sep G52 B [rowsC v0 24 3 C0 (List.map ints x0), flat v1 3 (ints x1), flat v57 24 (C0.take (s1).toNat)] := S54;refine .sr fun K hK => ?_;simp [ej41_0, ej41_1, ej41_5, ej41_32, q45, a48.to_pre, q51, (((S49.rd (k := 0) rfl).raw01 (P := Tryz.prog) el_31 sz_24 g50).2.tup), q53, q53t];apply hK;clear hK K;obtain ⟨v60, G61, q62, S63, a65, _, _⟩ := S54.lit1 (P := Tryz.prog) (t := 31) (hB.le A55.1) el_31 ei_24 rfl v1 ((S54.sl (k := 1) rfl).tup) ((S54.sl (k := 1) rfl).one);have A64 := A55.ext (hB.le A55.1) a65;replace S63 : Sep G61 B [rowsC v0 24 3 C0 (List.map ints x0), flat v1 3 (ints x1), flat v57 24 (C0.take (s1).toNat), flat1 v60 24 [v1]] := S63;have q66 : RefK (kpl [v0]) G61.length v0 := refK_sl (S63.rd (k := 0) rfl).out (by simp);obtain ⟨g67, hF⟩ := gd_some hF;have q68 := ((S63.rd (k := 0) rfl).raw10 (P := Tryz.prog) el_31 sz_24 g67).1
    obtain ⟨v74, G69, q70, S71, a73, q70t, _⟩ := S63.ins2 (P := Tryz.prog) (t := 31) (t2 := 31) (k := 2) (j := 0) (fr := ints) (X := x0) (C := C0) (b := s1) rfl rfl (hB.le A64.1) el_31 el_31 ei_24 rfl (S63.sl1 (k := 3) rfl) g59;have t75 : Stand (kpl [v0]) G61 G69 := stand_kpl (append_same q70) (by
     simp only [List.mem_cons, List.not_mem_nil, or_false, forall_eq_or_imp, forall_eq, false_imp_iff, implies_true];exact S63.ids_apartR (k := 2) (j := 0) rfl rfl (by decide))
    have A72 := A64.trans a73;replace S71 : Sep G69 B [rowsC v0 24 3 C0 (List.map ints x0), flat v1 3 (ints x1), flat v74 24 (C0.take (s1).toNat ++ [v1]), flat1 v60 24 [v1]] := S71;obtain ⟨v81, G76, q77, S78, a80, q77t, _⟩ := S71.ins3 (P := Tryz.prog) (t := 31) (t2 := 31) (k := 2) (j := 0) (fr := ints) (X := x0) (C := C0) (b := s1) (c := v1) rfl rfl (hB.le A72.1) el_31 el_31 ei_24 rfl ((S71.rd (k := 0) rfl).raw10 (P := Tryz.prog) el_31 sz_24 g67).2 g59;have t82 : Stand (kpl [v0]) G69 G76 := stand_kpl (append_same q77) (by
     simp only [List.mem_cons, List.not_mem_nil, or_false, forall_eq_or_imp, forall_eq, false_imp_iff, implies_true];exact S71.ids_apartR (k := 2) (j := 0) rfl rfl (by decide))
    have A79 := A72.trans a80;replace S78 : Sep G76 B [rowsC v0 24 3 C0 (List.map ints x0), flat v1 3 (ints x1), flat v81 24 (cins C0 s1 v1), flat1 v60 24 [v1]] := S78;have S83 : Sep G76 B [emp, emp, rowsC v81 24 3 (cins C0 s1 v1) (List.map ints (lins x0 s1 x1)), flat1 v60 24 [v1]] := S78.rowsIns (fr := ints) (w := 2) (j := 0) (k := 1) (by decide) (by decide) (by decide) rfl rfl rfl g50;have t84 : Stand (kN G69.length) G61 G69 := stand_top a73.1;have t85 : Stand (kN G69.length) G69 G76 := stand_top (Nat.le_refl _);refine .sl (B := [0, 0, 2, 0, 0, 24, 7, 127, 255]) (X0 := [5]) (π := [0, 1, 2, 4, 5, 6, 3, 7, 8]) (σ := [0, 1, 2, 6, 3, 4, 5, 7, 8]) 6 (kpl [v0]) G69.length mixed (by kernel_rfl) (by kernel_rfl) (by decide) fun K hK => ?_;simp only [rl0, rlb0, List.filterMap_cons, List.filterMap_nil, List.getElem?_cons_zero, List.getElem?_cons_succ, Option.map_some, Option.map_none];simp (config := { maxSteps := 4000000 }) [ej41_0, ej41_1, ej41_5, ej41_32, q62, a65.to_pre, ((S54.sl (k := 1) rfl).tup), q66, q68, (((S63.rd (k := 0) rfl).raw10 (P := Tryz.prog) el_31 sz_24 g67).2.tup), t75, q70, q70t, t82, q77, q77t, t84, t85];apply hK;clear hK K;refine DWp.ret ?_;obtain rfl := Option.some.inj hF;exact ⟨by simp, [v81], by simp [ej41_0, ej41_1, ej41_5, ej41_32, ((S83.rd (k := 2) rfl).tup)], A79, v81, (cins C0 s1 v1), rfl, S83.pick [2] (by decide) rfl⟩
def F_spec_ExchangesOf_L1 (fu : Nat) (k1_0 : List Int) (k1_1 : List (List Int)) (k1_2 : Int) : Nat → List (List Int) → Int → Option (List (List Int) × Int)
  | 0, _, _ => none
  | n + 1, l1_0, y1_13 =>
    bif (ilt y1_13 k1_2) then
      gd (inL k1_1 y1_13) (
      gd (inL (gat [] k1_1 y1_13) 0) (
      gd (inL (gat [] k1_1 y1_13) 1) (
      bd (F_spec_exAt fu k1_0 (gat 0 (gat [] k1_1 y1_13) 0) (gat 0 (gat [] k1_1 y1_13) 1)) fun r3 =>
      bd (F_spec_exPut fu l1_0 r3) fun r4 =>
      F_spec_ExchangesOf_L1 fu k1_0 k1_1 k1_2 n r4 (iadd .i64 y1_13 1))))
    else
      some (l1_0, y1_13)
def F_spec_ExchangesOf (fu : Nat) (x0 : List Int) : Option (List (List Int) × Bool) :=
  bd (F_spec_ahGood fu x0) fun r1 =>
  bif (bnot r1) then
    some ([], false)
  else
    bd (F_spec_exPairs fu x0) fun r2 =>
    bd (F_spec_ExchangesOf_L1 fu x0 r2 (llen r2) fu (@List.nil (List Int)) 0) fun s1 =>
    some (s1.1, true)
theorem F_spec_ExchangesOf_w {fu : Nat} {H : AH} {v0 : Value} {x0 : List Int} {r : (List (List Int) × Bool)} (hx0 : Sl H v0 (ints x0)) (hF : F_spec_ExchangesOf fu x0 = some r) :
    ACallT Tryz.prog 13 [v0] H (fun u G => AgB (Fr H) H G ∧ ∃ u0 : Value, ∃ C0 : List Value, u = (Value.tuple #[u0, (Value.bool r.2)]) ∧ Sep G (Fr H) [rowsC u0 24 3 C0 (List.map ints r.1)]) := by
 refine ACallT.of_body (nt := 29) (rs := [.tmp 2, .tmp 3]) Tryz.func13 rfl rfl rfl rfl ?_;have A0 : AgB (Fr H) H H := .refl _ _;have S0 : Sep H (Fr H) [] := .nil;have hB := Fr.up H;unfold F_spec_ExchangesOf at hF;refine .sr fun K hK => ?_;simp [];apply hK;clear hK K;refine .seq ?_;obtain ⟨r1, hc1, hF⟩ := bd_some hF;refine .sr fun K hK => ?_;simp [((hx0.agree A0.agree).tup)];refine CallD.t (F_spec_ahGood_w (fu := fu) (hx0.agree A0.agree) hc1) ?_;rintro _ G3 ⟨a6, rfl, S7⟩;have A5 := A0.ext (hB.le A0.1) a6.agree;have S4 : Sep G3 (Fr H) [] := S0.app a6.agree S7 (fun _ h => h) (hB.le A0.1);simp [a6.pre];apply hK;clear hK K;refine DWp.cond' (t := (bnot r1)) (by simp []) (fun hb8 => ?_) (fun hb8 => ?_)
 ·replace hF := cd_t hb8 hF;refine .sr fun K hK => ?_;simp [];apply hK;clear hK K;refine DWp.ret ?_;simp only [andThen, leaves];have S9 := S4.rowsNil (hB.le A5.1) 24 3;obtain rfl := Option.some.inj hF;exact ⟨by simp, [(Value.slice none 0 0), (Value.bool false)], by simp [], A5, nilV, [], rfl, S9.pick [0] (by decide) rfl⟩
 ·replace hF := cd_f hb8 hF;refine DWp.skip ?_;simp only [andThen, leaves];refine .sr fun K hK => ?_;simp [];apply hK;clear hK K;refine .seq ?_;obtain ⟨r2, hc10, hF⟩ := bd_some hF;refine .sr fun K hK => ?_;simp [((hx0.agree A5.agree).tup)];refine CallD.t (F_spec_exPairs_w (fu := fu) (hx0.agree A5.agree) hc10) ?_;rintro c11_u0 G12 ⟨a15, _, c11_C0, rfl, S16⟩;have A14 := A5.ext (hB.le A5.1) a15.agree;have S13 : Sep G12 (Fr H) [rowsC c11_u0 24 3 c11_C0 (List.map ints r2)] := S4.app a15.agree S16 (fun _ h => h) (hB.le A5.1);have q17 := (S13.rd (k := 0) rfl).lenG (P := Tryz.prog) el_31;simp [a15.pre, q17];apply hK;clear hK K;refine .block ?_;have S18 := S13.rowsNil (hB.le A14.1) 24 3;obtain ⟨s19, hL20, hF⟩ := bd_some hF;have S21 := S18.pick [1, 0] (by decide) rfl;refine DWp.loop (fun n env G => ∃ l1_0 : List (List Int), ∃ y1_13 : Int, ∃ w1_0 : Value, ∃ D1_0 : List Value, F_spec_ExchangesOf_L1 fu x0 r2 (llen r2) n l1_0 y1_13 = some s19 ∧ Sep G (Fr H) [rowsC w1_0 24 3 D1_0 (List.map ints l1_0), rowsC c11_u0 24 3 c11_C0 (List.map ints r2)] ∧ AgB (Fr H) H G ∧ env 0 = some v0 ∧ env 4 = some w1_0 ∧ env 11 = some c11_u0 ∧ env 12 = some (Value.int .i64 (llen r2)) ∧ env 13 = some (Value.int .i64 y1_13)) fu ⟨(@List.nil (List Int)), 0, (Value.slice none 0 0), [], hL20, S21, A14, by simp []⟩ ?_;rintro n1 env1 G1_ ⟨l1_0, y1_13, w1_0, D1_0, hL20, S1_, A1_, e1_0, e1_4, e1_11, e1_12, e1_13⟩;cases n1 with
  | zero => cases hL20
  | succ n1 =>
   simp only [F_spec_ExchangesOf_L1] at hL20;refine .sr fun K hK => ?_;simp [e1_0, e1_4, e1_11, e1_12, e1_13];apply hK;clear hK K;refine .seq ?_;refine DWp.cond' (t := (ilt y1_13 (llen r2))) (by simp [e1_0, e1_4, e1_11, e1_12, e1_13]) (fun hb22 => ?_) (fun hb22 => ?_)
   ·replace hL20 := cd_t hb22 hL20;refine DWp.skip ?_;simp only [andThen, leaves];refine .seq ?_;refine .block ?_;obtain ⟨g23, hL20⟩ := gd_some hL20;have q24 := (S1_.rd (k := 1) rfl).idxG (P := Tryz.prog) (kk := .i64) el_31 sz_24 g23;have q25 := (S1_.rd (k := 1) rfl).loadG (P := Tryz.prog) sz_24 ag_24 g23;refine .sr fun K hK => ?_;simp [e1_0, e1_4, e1_11, e1_12, e1_13, q24, q25];apply hK;clear hK K;obtain ⟨g26, hL20⟩ := gd_some hL20;have q27 := idxG (P := Tryz.prog) (kk := .i64) ((S1_.rd (k := 1) rfl).rowAt [] g23) el_24 sz_3 g26;replace q27 : aIndexAddr Tryz.prog G1_ 24 (gat nilV c11_C0 y1_13) (Value.int .i64 0) = some (elP (gat nilV c11_C0 y1_13) 0) := q27;have q28 := loadG (P := Tryz.prog) ((S1_.rd (k := 1) rfl).rowAt [] g23) sz_3 ag_3 g26 0;replace q28 : aLoad Tryz.prog G1_ 3 (elP (gat nilV c11_C0 y1_13) 0) = some (Value.int .i64 (gat 0 (gat [] r2 y1_13) 0)) := q28;obtain ⟨g29, hL20⟩ := gd_some hL20;have q30 := idxG (P := Tryz.prog) (kk := .i64) ((S1_.rd (k := 1) rfl).rowAt [] g23) el_24 sz_3 g29;replace q30 : aIndexAddr Tryz.prog G1_ 24 (gat nilV c11_C0 y1_13) (Value.int .i64 1) = some (elP (gat nilV c11_C0 y1_13) 1) := q30;have q31 := loadG (P := Tryz.prog) ((S1_.rd (k := 1) rfl).rowAt [] g23) sz_3 ag_3 g29 0;replace q31 : aLoad Tryz.prog G1_ 3 (elP (gat nilV c11_C0 y1_13) 1) = some (Value.int .i64 (gat 0 (gat [] r2 y1_13) 1)) := q31;obtain ⟨r3, hc32, hL20⟩ := bd_some hL20;refine .drawn (B := [0, 0, 0, 4, 12, 0, 32, 96, 254, 511, 1023]) 9 mixed (by kernel_rfl) (by decide) fun K hK => ?_;simp [e1_0, e1_4, e1_11, e1_12, e1_13, q27, q28, q30, q31, ((hx0.agree A1_.agree).tup)];refine CallD.t (F_spec_exAt_w (fu := fu) (hx0.agree A1_.agree) hc32) ?_;rintro c33_u0 G34 ⟨a37, _, rfl, S38⟩;have A36 := A1_.ext (hB.le A1_.1) a37.agree
    have S35 : Sep G34 (Fr H) [rowsC w1_0 24 3 D1_0 (List.map ints l1_0), rowsC c11_u0 24 3 c11_C0 (List.map ints r2), flat c33_u0 3 (ints r3)] := S1_.app a37.agree S38 (fun _ h => h) (hB.le A1_.1);obtain ⟨r4, hc39, hL20⟩ := bd_some hL20;simp [e1_0, e1_4, e1_11, e1_12, e1_13, q27, q28, q30, q31, a37.pre, ((S35.rd (k := 0) rfl).tup), ((S35.sl (k := 2) rfl).tup)];have S40 : Sep G34 (Fr H) ([rowsC w1_0 24 3 D1_0 (List.map ints l1_0), flat c33_u0 3 (ints r3)] ++ [rowsC c11_u0 24 3 c11_C0 (List.map ints r2)]) := S35.pick [0, 2, 1] (by decide) rfl;obtain ⟨B46, S41, U42, M43, R44, C45⟩ := S40.frame (hB.le A36.1);refine CallD.t (F_spec_exPut_w (fu := fu) U42 S41 hc39) ?_;rintro c47_u0 G48 ⟨a51, _, c47_C0, rfl, S52⟩;have A50 := A36.trans (a51.mono M43);have S49 : Sep G48 (Fr H) [rowsC c47_u0 24 3 c47_C0 (List.map ints r4), rowsC c11_u0 24 3 c11_C0 (List.map ints r2)] := C45 _ _ a51 S52;simp [e1_0, e1_4, e1_11, e1_12, e1_13, q27, q28, q30, q31, a37.pre];apply hK;clear hK K;simp only [andThen, leaves];refine .region fun K hK => ?_;simp [e1_0, e1_4, e1_11, e1_12, e1_13];apply hK;clear hK K;simp only [andThen, leaves];have S53 := S49.pick [0, 1] (by decide) rfl;exact ⟨n1, Nat.lt_succ_self _, r4, (iadd .i64 y1_13 1), c47_u0, c47_C0, hL20, S53, A50, by simp [e1_0, e1_4, e1_11, e1_12, e1_13]⟩
   ·replace hL20 := cd_f hb22 hL20;refine DWp.exit ?_;simp only [andThen, leaves, if_true, if_false, reduceIte, Nat.reduceEqDiff];obtain rfl := Option.some.inj hL20;try dsimp only at hF
    refine .sr fun K hK => ?_;simp [e1_0, e1_4, e1_11, e1_12, e1_13];apply hK;clear hK K;refine DWp.ret ?_;obtain rfl := Option.some.inj hF;exact ⟨by simp, [w1_0, (Value.bool true)], by simp [e1_0, e1_4, e1_11, e1_12, e1_13, ((S1_.rd (k := 0) rfl).tup)], A1_, w1_0, D1_0, rfl, S1_.pick [0] (by decide) rfl⟩
def F_impl_CountExchanges (fu : Nat) (x0 : List Int) : Option (Int × Bool) :=
  bd (F_impl_IsSystem fu x0) fun r1 =>
  bif (bnot r1) then
    some (0, false)
  else
    bd (F_impl_couples fu x0) fun r2 =>
    some ((llen r2), true)
theorem F_impl_CountExchanges_w {fu : Nat} {H : AH} {v0 : Value} {x0 : List Int} {r : (Int × Bool)} (hx0 : Sl H v0 (ints x0)) (hF : F_impl_CountExchanges fu x0 = some r) :
    ACallT Tryz.prog 14 [v0] H (fun u G => AgB (Fr H) H G ∧ u = (Value.tuple #[(Value.int .i64 r.1), (Value.bool r.2)]) ∧ Sep G (Fr H) []) := by
 refine ACallT.of_body (nt := 10) (rs := [.tmp 2, .tmp 3]) Tryz.func14 rfl rfl rfl rfl ?_;have A0 : AgB (Fr H) H H := .refl _ _;have S0 : Sep H (Fr H) [] := .nil;have hB := Fr.up H;unfold F_impl_CountExchanges at hF;refine .sr fun K hK => ?_;simp [];apply hK;clear hK K;refine .seq ?_;obtain ⟨r1, hc1, hF⟩ := bd_some hF;refine .sr fun K hK => ?_;simp [((hx0.agree A0.agree).tup)];refine CallD.t (F_impl_IsSystem_w (fu := fu) (hx0.agree A0.agree) hc1) ?_;rintro _ G3 ⟨a6, rfl, S7⟩;have A5 := A0.ext (hB.le A0.1) a6.agree;have S4 : Sep G3 (Fr H) [] := S0.app a6.agree S7 (fun _ h => h) (hB.le A0.1);simp [a6.pre];apply hK;clear hK K;refine DWp.cond' (t := (bnot r1)) (by simp []) (fun hb8 => ?_) (fun hb8 => ?_)
 ·replace hF := cd_t hb8 hF;refine .sr fun K hK => ?_;simp [];apply hK;clear hK K;refine DWp.ret ?_;simp only [andThen, leaves];obtain rfl := Option.some.inj hF;exact ⟨by simp, [(Value.int .i64 0), (Value.bool false)], by simp [], A5, rfl, S4.pick [] (by decide) rfl⟩
 ·replace hF := cd_f hb8 hF;refine DWp.skip ?_;simp only [andThen, leaves];obtain ⟨r2, hc9, hF⟩ := bd_some hF;refine .sr fun K hK => ?_;simp [((hx0.agree A5.agree).tup)];refine CallD.t (F_impl_couples_w (fu := fu) (hx0.agree A5.agree) hc9) ?_;rintro c10_u0 G11 ⟨a14, _, rfl, S15⟩;have A13 := A5.ext (hB.le A5.1) a14.agree;have S12 : Sep G11 (Fr H) [flatI c10_u0 66 r2] := S4.app a14.agree S15 (fun _ h => h) (hB.le A5.1);have q16 := (S12.slI (k := 0) rfl).lenG (P := Tryz.prog) el_65;simp [a14.pre, q16];apply hK;clear hK K;refine DWp.ret ?_;obtain rfl := Option.some.inj hF;exact ⟨by simp, [(Value.int .i64 (llen r2)), (Value.bool true)], by simp [], A13, rfl, S12.pick [] (by decide) rfl⟩
def F_impl_FacesOf (fu : Nat) (x0 : List Int) : Option (List (List Int) × Bool) :=
  bd (F_impl_IsSystem fu x0) fun r1 =>
  bif (bnot r1) then
    some ([], false)
  else
    bd (F_impl_faces fu x0) fun r2 =>
    some (r2, true)
theorem F_impl_FacesOf_w {fu : Nat} {H : AH} {v0 : Value} {x0 : List Int} {r : (List (List Int) × Bool)} (hx0 : Sl H v0 (ints x0)) (hF : F_impl_FacesOf fu x0 = some r) :
    ACallT Tryz.prog 15 [v0] H (fun u G => AgB (Fr H) H G ∧ ∃ u0 : Value, ∃ C0 : List Value, u = (Value.tuple #[u0, (Value.bool r.2)]) ∧ Sep G (Fr H) [rowsC u0 24 3 C0 (List.map ints r.1)]) := by
 refine ACallT.of_body (nt := 9) (rs := [.tmp 2, .tmp 3]) Tryz.func15 rfl rfl rfl rfl ?_;have A0 : AgB (Fr H) H H := .refl _ _;have S0 : Sep H (Fr H) [] := .nil;have hB := Fr.up H;unfold F_impl_FacesOf at hF;refine .sr fun K hK => ?_;simp [];apply hK;clear hK K;refine .seq ?_;obtain ⟨r1, hc1, hF⟩ := bd_some hF;refine .sr fun K hK => ?_;simp [((hx0.agree A0.agree).tup)];refine CallD.t (F_impl_IsSystem_w (fu := fu) (hx0.agree A0.agree) hc1) ?_;rintro _ G3 ⟨a6, rfl, S7⟩;have A5 := A0.ext (hB.le A0.1) a6.agree;have S4 : Sep G3 (Fr H) [] := S0.app a6.agree S7 (fun _ h => h) (hB.le A0.1);simp [a6.pre];apply hK;clear hK K;refine DWp.cond' (t := (bnot r1)) (by simp []) (fun hb8 => ?_) (fun hb8 => ?_)
 ·replace hF := cd_t hb8 hF;refine .sr fun K hK => ?_;simp [];apply hK;clear hK K;refine DWp.ret ?_;simp only [andThen, leaves];have S9 := S4.rowsNil (hB.le A5.1) 24 3;obtain rfl := Option.some.inj hF;exact ⟨by simp, [(Value.slice none 0 0), (Value.bool false)], by simp [], A5, nilV, [], rfl, S9.pick [0] (by decide) rfl⟩
 ·replace hF := cd_f hb8 hF;refine DWp.skip ?_;simp only [andThen, leaves];obtain ⟨r2, hc10, hF⟩ := bd_some hF;refine .sr fun K hK => ?_;simp [((hx0.agree A5.agree).tup)];refine CallD.t (F_impl_faces_w (fu := fu) (hx0.agree A5.agree) hc10) ?_;rintro c11_u0 G12 ⟨a15, _, c11_C0, rfl, S16⟩;have A14 := A5.ext (hB.le A5.1) a15.agree;have S13 : Sep G12 (Fr H) [rowsC c11_u0 24 3 c11_C0 (List.map ints r2)] := S4.app a15.agree S16 (fun _ h => h) (hB.le A5.1);simp [a15.pre];apply hK;clear hK K;refine DWp.ret ?_;obtain rfl := Option.some.inj hF;exact ⟨by simp, [c11_u0, (Value.bool true)], by simp [((S13.rd (k := 0) rfl).tup)], A14, c11_u0, c11_C0, rfl, S13.pick [0] (by decide) rfl⟩
def F_spec_FacesOf (fu : Nat) (x0 : List Int) : Option (List (List Int) × Bool) :=
  bd (F_spec_ahGood fu x0) fun r1 =>
  bif (bnot r1) then
    some ([], false)
  else
    bd (F_spec_exFaces fu x0) fun r2 =>
    some (r2, true)
theorem F_spec_FacesOf_w {fu : Nat} {H : AH} {v0 : Value} {x0 : List Int} {r : (List (List Int) × Bool)} (hx0 : Sl H v0 (ints x0)) (hF : F_spec_FacesOf fu x0 = some r) :
    ACallT Tryz.prog 16 [v0] H (fun u G => AgB (Fr H) H G ∧ ∃ u0 : Value, ∃ C0 : List Value, u = (Value.tuple #[u0, (Value.bool r.2)]) ∧ Sep G (Fr H) [rowsC u0 24 3 C0 (List.map ints r.1)]) := by
 refine ACallT.of_body (nt := 9) (rs := [.tmp 2, .tmp 3]) Tryz.func16 rfl rfl rfl rfl ?_;have A0 : AgB (Fr H) H H := .refl _ _;have S0 : Sep H (Fr H) [] := .nil;have hB := Fr.up H;unfold F_spec_FacesOf at hF;refine .sr fun K hK => ?_;simp [];apply hK;clear hK K;refine .seq ?_;obtain ⟨r1, hc1, hF⟩ := bd_some hF;refine .sr fun K hK => ?_;simp [((hx0.agree A0.agree).tup)];refine CallD.t (F_spec_ahGood_w (fu := fu) (hx0.agree A0.agree) hc1) ?_;rintro _ G3 ⟨a6, rfl, S7⟩;have A5 := A0.ext (hB.le A0.1) a6.agree;have S4 : Sep G3 (Fr H) [] := S0.app a6.agree S7 (fun _ h => h) (hB.le A0.1);simp [a6.pre];apply hK;clear hK K;refine DWp.cond' (t := (bnot r1)) (by simp []) (fun hb8 => ?_) (fun hb8 => ?_)
 ·replace hF := cd_t hb8 hF;refine .sr fun K hK => ?_;simp [];apply hK;clear hK K;refine DWp.ret ?_;simp only [andThen, leaves];have S9 := S4.rowsNil (hB.le A5.1) 24 3;obtain rfl := Option.some.inj hF;exact ⟨by simp, [(Value.slice none 0 0), (Value.bool false)], by simp [], A5, nilV, [], rfl, S9.pick [0] (by decide) rfl⟩
 ·replace hF := cd_f hb8 hF;refine DWp.skip ?_;simp only [andThen, leaves];obtain ⟨r2, hc10, hF⟩ := bd_some hF;refine .sr fun K hK => ?_;simp [((hx0.agree A5.agree).tup)];refine CallD.t (F_spec_exFaces_w (fu := fu) (hx0.agree A5.agree) hc10) ?_;rintro c11_u0 G12 ⟨a15, _, c11_C0, rfl, S16⟩;have A14 := A5.ext (hB.le A5.1) a15.agree;have S13 : Sep G12 (Fr H) [rowsC c11_u0 24 3 c11_C0 (List.map ints r2)] := S4.app a15.agree S16 (fun _ h => h) (hB.le A5.1);simp [a15.pre];apply hK;clear hK K;refine DWp.ret ?_;obtain rfl := Option.some.inj hF;exact ⟨by simp, [c11_u0, (Value.bool true)], by simp [((S13.rd (k := 0) rfl).tup)], A14, c11_u0, c11_C0, rfl, S13.pick [0] (by decide) rfl⟩
def F_laws_sSameRows_L1 (fu : Nat) (k1_0 : List (List Int)) (k1_1 : List (List Int)) (k1_2 : Int) : Nat → Int → Option (LR (Bool) (Int))
  | 0, _ => none
  | n + 1, y1_13 =>
    bif (ilt y1_13 k1_2) then
      gd (inL k1_0 y1_13) (
      gd (inL k1_1 y1_13) (
      bd (F_laws_sSame fu (gat [] k1_0 y1_13) (gat [] k1_1 y1_13)) fun r1 =>
      bif (bnot r1) then
        some (.ret false)
      else
        F_laws_sSameRows_L1 fu k1_0 k1_1 k1_2 n (iadd .i64 y1_13 1)))
    else
      some (.brk y1_13)
def F_laws_sSameRows (fu : Nat) (x0 : List (List Int)) (x1 : List (List Int)) : Option (Bool) :=
  bif (ine (llen x0) (llen x1)) then
    some false
  else
    bd (F_laws_sSameRows_L1 fu x0 x1 (llen x0) fu 0) fun s1 =>
    lr s1 fun s1 =>
    some true
theorem F_laws_sSameRows_w {fu : Nat} {H : AH} {v0 : Value} {v1 : Value} {x0 : List (List Int)} {x1 : List (List Int)} {r : (Bool)} (hx0 : SlSl H v0 (List.map ints x0)) (hx1 : SlSl H v1 (List.map ints x1)) (hF : F_laws_sSameRows fu x0 x1 = some r) :
    ACallT Tryz.prog 17 [v0, v1] H (fun u G => AgB (Fr H) H G ∧ u = (Value.bool r) ∧ Sep G (Fr H) []) := by
 refine ACallT.of_body (nt := 27) (rs := [.tmp 4]) Tryz.func17 rfl rfl rfl rfl ?_;have A0 : AgB (Fr H) H H := .refl _ _;have S0 : Sep H (Fr H) [] := .nil;have hB := Fr.up H;unfold F_laws_sSameRows at hF;obtain ⟨C0, hC0⟩ := hx0.rd;obtain ⟨C1, hC1⟩ := hx1.rd;refine .sr fun K hK => ?_;simp [];apply hK;clear hK K;refine .seq ?_;have q1 := (hC0.agree A0.agree).lenG (P := Tryz.prog) el_31;have q2 := (hC1.agree A0.agree).lenG (P := Tryz.prog) el_31;refine .sr fun K hK => ?_;simp [q1, q2];apply hK;clear hK K;refine DWp.cond' (t := (ine (llen x0) (llen x1))) (by simp []) (fun hb3 => ?_) (fun hb3 => ?_)
 ·replace hF := cd_t hb3 hF;refine .sr fun K hK => ?_;simp [];apply hK;clear hK K;refine DWp.ret ?_;simp only [andThen, leaves];obtain rfl := Option.some.inj hF;exact ⟨by simp, [(Value.bool false)], by simp [], A0, rfl, S0.pick [] (by decide) rfl⟩
 ·replace hF := cd_f hb3 hF;refine DWp.skip ?_;simp only [andThen, leaves];refine .seq ?_;have q4 := (hC0.agree A0.agree).lenG (P := Tryz.prog) el_31;refine .sr fun K hK => ?_;simp [q4];apply hK;clear hK K;refine .block ?_;obtain ⟨s5, hL6, hF⟩ := bd_some hF;have S7 := S0.pick [] (by decide) rfl;refine DWp.loop (fun n env G => ∃ y1_13 : Int, F_laws_sSameRows_L1 fu x0 x1 (llen x0) n y1_13 = some s5 ∧ Sep G (Fr H) [] ∧ AgB (Fr H) H G ∧ env 0 = some v0 ∧ env 1 = some v1 ∧ env 12 = some (Value.int .i64 (llen x0)) ∧ env 13 = some (Value.int .i64 y1_13)) fu ⟨0, hL6, S7, A0, by simp []⟩ ?_;rintro n1 env1 G1_ ⟨y1_13, hL6, S1_, A1_, e1_0, e1_1, e1_12, e1_13⟩;cases n1 with
  | zero => cases hL6
  | succ n1 =>
   simp only [F_laws_sSameRows_L1] at hL6;refine .sr fun K hK => ?_;simp [e1_0, e1_1, e1_12, e1_13];apply hK;clear hK K;refine .seq ?_;refine DWp.cond' (t := (ilt y1_13 (llen x0))) (by simp [e1_0, e1_1, e1_12, e1_13]) (fun hb8 => ?_) (fun hb8 => ?_)
   ·replace hL6 := cd_t hb8 hL6;refine DWp.skip ?_;simp only [andThen, leaves];refine .seq ?_;refine .block ?_;refine .sr fun K hK => ?_;simp [e1_0, e1_1, e1_12, e1_13];apply hK;clear hK K;obtain ⟨g9, hL6⟩ := gd_some hL6;have q10 := (hC0.agree A1_.agree).idxG (P := Tryz.prog) (kk := .i64) el_31 sz_24 g9;have q11 := (hC0.agree A1_.agree).loadG (P := Tryz.prog) sz_24 ag_24 g9;obtain ⟨g12, hL6⟩ := gd_some hL6;have q13 := (hC1.agree A1_.agree).idxG (P := Tryz.prog) (kk := .i64) el_31 sz_24 g12;have q14 := (hC1.agree A1_.agree).loadG (P := Tryz.prog) sz_24 ag_24 g12;obtain ⟨r1, hc15, hL6⟩ := bd_some hL6;refine .sd (B := [0, 0, 3, 7, 0, 0, 48, 112, 255, 511]) 10 mixed (by kernel_rfl) (by decide) fun K hK => ?_;simp [e1_0, e1_1, e1_12, e1_13, q10, q11, q13, q14, (((hC0.agree A1_.agree).rowAt [] g9).tup), (((hC1.agree A1_.agree).rowAt [] g12).tup)];refine CallD.t (F_laws_sSame_w (fu := fu) ((hC0.agree A1_.agree).rowAt [] g9) ((hC1.agree A1_.agree).rowAt [] g12) hc15) ?_;rintro _ G17 ⟨a20, rfl, S21⟩;have A19 := A1_.ext (hB.le A1_.1) a20.agree;have S18 : Sep G17 (Fr H) [] := S1_.app a20.agree S21 (fun _ h => h) (hB.le A1_.1);simp [e1_0, e1_1, e1_12, e1_13, q10, q11, q13, q14, a20.pre];apply hK;clear hK K;refine DWp.cond' (t := (bnot r1)) (by simp [e1_0, e1_1, e1_12, e1_13]) (fun hb22 => ?_) (fun hb22 => ?_)
    ·replace hL6 := cd_t hb22 hL6;refine .sr fun K hK => ?_;simp [e1_0, e1_1, e1_12, e1_13];apply hK;clear hK K;refine DWp.ret ?_;simp only [andThen, leaves];obtain rfl := Option.some.inj hL6;simp only [lr] at hF;obtain rfl := Option.some.inj hF;exact ⟨by simp, [(Value.bool false)], by simp [e1_0, e1_1, e1_12, e1_13], A19, rfl, S18.pick [] (by decide) rfl⟩
    ·replace hL6 := cd_f hb22 hL6;refine DWp.skip ?_;simp only [andThen, leaves];refine .region fun K hK => ?_;simp [e1_0, e1_1, e1_12, e1_13];apply hK;clear hK K;simp only [andThen, leaves];have S23 := S18.pick [] (by decide) rfl;exact ⟨n1, Nat.lt_succ_self _, (iadd .i64 y1_13 1), hL6, S23, A19, by simp [e1_0, e1_1, e1_12, e1_13]⟩
   ·replace hL6 := cd_f hb8 hL6;refine DWp.exit ?_;simp only [andThen, leaves, if_true, if_false, reduceIte, Nat.reduceEqDiff];obtain rfl := Option.some.inj hL6;simp only [lr] at hF;refine .sr fun K hK => ?_;simp [e1_0, e1_1, e1_12, e1_13];apply hK;clear hK K;refine DWp.ret ?_;obtain rfl := Option.some.inj hF;exact ⟨by simp, [(Value.bool true)], by simp [e1_0, e1_1, e1_12, e1_13], A1_, rfl, S1_.pick [] (by decide) rfl⟩
end Go.Proofs.YtogghgecmjnieaaGreat.AL

/- The walks of functions, each with its Lean function: spec.l1Own, spec.exAt, spec.ExchangeAt, laws.sSame, spec.DrawIsSystem, spec.DrawExchangesOf, slices.insertionSortCmpFunc[[]int], slices.siftDownCmpFunc[[]int], slices.heapSortCmpFunc[[]int], slices.breakPatternsCmpFunc[[]int]. No condition. -/
import Derived.Test.YtogghgecmjnieaaGreatG1
import Derived.Test.YtogghgecmjnieaaGreatG2
import Derived.Test.YtogghgecmjnieaaGreatG3
import Derived.Test.YtogghgecmjnieaaGreatG4
import Derived.Test.YtogghgecmjnieaaGreatG5
import Derived.Test.YtogghgecmjnieaaGreatALD
import Derived.Test.YtogghgecmjnieaaGreatProg
import Derived.KernelRfl
namespace Go.Proofs.YtogghgecmjnieaaGreat.AL
open Go Go.RowKit
set_option linter.unusedVariables false
set_option linter.unusedSimpArgs false
set_option maxRecDepth 4096
attribute [local simp] n_fn b_add b_sub b_mul b_lt b_le b_gt b_ge b_eq b_ne u_not

def F_spec_l1Own (fu : Nat) (x0 : List Int) : Option (List Int) :=
  gd ((@List.nil Int).length + x0.length ≤ 4294967296) (
  some (lapp (@List.nil Int) x0))
theorem F_spec_l1Own_w {fu : Nat} {H : AH} {v0 : Value} {x0 : List Int} {r : (List Int)} (hx0 : Sl H v0 (ints x0)) (hF : F_spec_l1Own fu x0 = some r) :
    ACallT Tryz.prog 105 [v0] H (fun u G => AgB (Fr H) H G ∧ ∃ u0 : Value, u = u0 ∧ Sep G (Fr H) [flat u0 3 (ints r)]) := by
 refine ACallT.of_body (nt := 6) (rs := [.tmp 2]) Tryz.func105 rfl rfl rfl rfl ?_;have A0 : AgB (Fr H) H H := .refl _ _;have S0 : Sep H (Fr H) [] := .nil;have hB := Fr.up H;unfold F_spec_l1Own at hF;refine .sr fun K hK => ?_;simp [];apply hK;obtain ⟨v1, G2, q3, S4, a6, _, _⟩ := S0.lit0 (t := 24) (hB.le A0.1) el_24 ei_3 rfl;have A5 := A0.ext (hB.le A0.1) a6;replace S4 : Sep G2 (Fr H) [flat1 v1 3 (ints (@List.nil Int))] := S4;obtain ⟨g8, hF⟩ := gd_some hF;obtain ⟨v14, G9, q10, S11, a13, _, _⟩ := S4.append1 (f := (Value.int .i64)) (xs := (@List.nil Int)) (ys := x0) (t := 24) (t2 := 24) (k := 0) rfl (hB.le A5.1) el_24 el_24 ei_3 rfl (hx0.agree A5.agree) g8;have A12 := A5.trans a13;replace S11 : Sep G9 (Fr H) [flat v14 3 (ints (lapp (@List.nil Int) x0))] := S11;refine .sr fun K hK => ?_;simp [q3, a6.to_pre, q10];apply hK;refine DWp.ret ?_;obtain rfl := Option.some.inj hF;exact ⟨by simp, [v14], by simp [((S11.sl (k := 0) rfl).tup)], A12, v14, rfl, S11.pick [0] (by decide) rfl⟩
def F_spec_exAt (fu : Nat) (x0 : List Int) (x1 : Int) (x2 : Int) : Option (List Int) :=
  bd (F_spec_l1Own fu x0) fun r1 =>
  gd (inL x0 x1) (
  gd (inL x0 x2) (
  bif (ilt (gat 0 x0 x1) x2) then
    gd (inL r1 x1) (
    gd (inL (lset r1 x1 (gat 0 x0 x2)) (gat 0 x0 x2)) (
    gd (inL (lset (lset r1 x1 (gat 0 x0 x2)) (gat 0 x0 x2) x1) (gat 0 x0 x1)) (
    gd (inL (lset (lset (lset r1 x1 (gat 0 x0 x2)) (gat 0 x0 x2) x1) (gat 0 x0 x1) x2) x2) (
    some (lset (lset (lset (lset r1 x1 (gat 0 x0 x2)) (gat 0 x0 x2) x1) (gat 0 x0 x1) x2) x2 (gat 0 x0 x1))))))
  else
    gd (inL r1 x1) (
    gd (inL (lset r1 x1 x2) x2) (
    gd (inL (lset (lset r1 x1 x2) x2 x1) (gat 0 x0 x2)) (
    gd (inL (lset (lset (lset r1 x1 x2) x2 x1) (gat 0 x0 x2) (gat 0 x0 x1)) (gat 0 x0 x1)) (
    some (lset (lset (lset (lset r1 x1 x2) x2 x1) (gat 0 x0 x2) (gat 0 x0 x1)) (gat 0 x0 x1) (gat 0 x0 x2))))))))
theorem F_spec_exAt_w {fu : Nat} {H : AH} {v0 : Value} {x0 : List Int} {x1 : Int} {x2 : Int} {r : (List Int)} (hx0 : Sl H v0 (ints x0)) (hF : F_spec_exAt fu x0 x1 x2 = some r) :
    ACallT Tryz.prog 59 [v0, (Value.int .i64 x1), (Value.int .i64 x2)] H (fun u G => AgB (Fr H) H G ∧ ∃ u0 : Value, u = u0 ∧ Sep G (Fr H) [flat u0 3 (ints r)]) := by
 refine ACallT.of_body (nt := 56) (rs := [.tmp 6]) Tryz.func59 rfl rfl rfl rfl ?_;have A0 : AgB (Fr H) H H := .refl _ _;have S0 : Sep H (Fr H) [] := .nil;have hB := Fr.up H;unfold F_spec_exAt at hF;refine .sr fun K hK => ?_;simp [];apply hK;obtain ⟨r1, hc1, hF⟩ := bd_some hF;refine .sr fun K hK => ?_;simp [((hx0.agree A0.agree).tup)];refine CallD.t (F_spec_l1Own_w (fu := fu) (hx0.agree A0.agree) hc1) ?_;rintro c2_u0 G3 ⟨a6, _, rfl, S7⟩;have A5 := A0.ext (hB.le A0.1) a6.agree;have S4 : Sep G3 (Fr H) [flat c2_u0 3 (ints r1)] := S0.app a6.agree S7 (fun _ h => h) (hB.le A0.1);simp [a6.pre];apply hK;obtain ⟨g8, hF⟩ := gd_some hF;have q9 := idxG (kk := .i64) (hx0.agree A5.agree) el_24 sz_3 g8;have q10 := loadG (hx0.agree A5.agree) sz_3 ag_3 g8 0;obtain ⟨g11, hF⟩ := gd_some hF;have q12 := idxG (kk := .i64) (hx0.agree A5.agree) el_24 sz_3 g11;have q13 := loadG (hx0.agree A5.agree) sz_3 ag_3 g11 0;refine .sd (B := [0, 0, 3, 7, 0, 0, 48, 112, 15, 511]) 10 mixed (by kernel_rfl) (by decide) fun K hK => ?_;simp [q9, q10, q12, q13];apply hK;refine .seq ?_;refine .sr fun K hK => ?_;simp [];apply hK;refine DWp.cond' (t := (ilt (gat 0 x0 x1) x2)) (by simp []) (fun hb14 => ?_) (fun hb14 => ?_)
 ·replace hF := cd_t hb14 hF;obtain ⟨g15, hF⟩ := gd_some hF;have q16 := idxG (kk := .i64) (S4.sl (k := 0) rfl) el_24 sz_3 g15;obtain ⟨G17, q18, S19, a21⟩ := S4.storeG (f := (Value.int .i64)) (k := 0) (x := (gat 0 x0 x2)) rfl (hB.le A5.1) sz_3 g15 rfl rfl;have A20 := A5.trans a21;replace S19 : Sep G17 (Fr H) [flat c2_u0 3 (ints (lset r1 x1 (gat 0 x0 x2)))] := S19;refine .sr fun K hK => ?_;simp [q16, q18];apply hK;obtain ⟨g22, hF⟩ := gd_some hF;have q23 := idxG (kk := .i64) (S19.sl (k := 0) rfl) el_24 sz_3 g22;obtain ⟨G24, q25, S26, a28⟩ := S19.storeG (f := (Value.int .i64)) (k := 0) (x := x1) rfl (hB.le A20.1) sz_3 g22 rfl rfl;have A27 := A20.trans a28;replace S26 : Sep G24 (Fr H) [flat c2_u0 3 (ints (lset (lset r1 x1 (gat 0 x0 x2)) (gat 0 x0 x2) x1))] := S26;refine .sr fun K hK => ?_;simp [q23, q25];apply hK;obtain ⟨g29, hF⟩ := gd_some hF;have q30 := idxG (kk := .i64) (S26.sl (k := 0) rfl) el_24 sz_3 g29;obtain ⟨G31, q32, S33, a35⟩ := S26.storeG (f := (Value.int .i64)) (k := 0) (x := x2) rfl (hB.le A27.1) sz_3 g29 rfl rfl;have A34 := A27.trans a35;replace S33 : Sep G31 (Fr H) [flat c2_u0 3 (ints (lset (lset (lset r1 x1 (gat 0 x0 x2)) (gat 0 x0 x2) x1) (gat 0 x0 x1) x2))] := S33;refine .sr fun K hK => ?_;simp [q30, q32];apply hK;obtain ⟨g36, hF⟩ := gd_some hF;have q37 := idxG (kk := .i64) (S33.sl (k := 0) rfl) el_24 sz_3 g36;obtain ⟨G38, q39, S40, a42⟩ := S33.storeG (f := (Value.int .i64)) (k := 0) (x := (gat 0 x0 x1)) rfl (hB.le A34.1) sz_3 g36 rfl rfl;have A41 := A34.trans a42
  replace S40 : Sep G38 (Fr H) [flat c2_u0 3 (ints (lset (lset (lset (lset r1 x1 (gat 0 x0 x2)) (gat 0 x0 x2) x1) (gat 0 x0 x1) x2) x2 (gat 0 x0 x1)))] := S40;refine .region fun K hK => ?_;simp [q37, q39];apply hK;simp only [andThen, leaves];refine .sr fun K hK => ?_;simp [];apply hK;refine DWp.ret ?_;obtain rfl := Option.some.inj hF;exact ⟨by simp, [c2_u0], by simp [((S40.sl (k := 0) rfl).tup)], A41, c2_u0, rfl, S40.pick [0] (by decide) rfl⟩
 ·replace hF := cd_f hb14 hF;obtain ⟨g43, hF⟩ := gd_some hF;have q44 := idxG (kk := .i64) (S4.sl (k := 0) rfl) el_24 sz_3 g43;obtain ⟨G45, q46, S47, a49⟩ := S4.storeG (f := (Value.int .i64)) (k := 0) (x := x2) rfl (hB.le A5.1) sz_3 g43 rfl rfl;have A48 := A5.trans a49;replace S47 : Sep G45 (Fr H) [flat c2_u0 3 (ints (lset r1 x1 x2))] := S47;refine .sr fun K hK => ?_;simp [q44, q46];apply hK;obtain ⟨g50, hF⟩ := gd_some hF;have q51 := idxG (kk := .i64) (S47.sl (k := 0) rfl) el_24 sz_3 g50;obtain ⟨G52, q53, S54, a56⟩ := S47.storeG (f := (Value.int .i64)) (k := 0) (x := x1) rfl (hB.le A48.1) sz_3 g50 rfl rfl;have A55 := A48.trans a56;replace S54 : Sep G52 (Fr H) [flat c2_u0 3 (ints (lset (lset r1 x1 x2) x2 x1))] := S54;refine .sr fun K hK => ?_;simp [q51, q53];apply hK;obtain ⟨g57, hF⟩ := gd_some hF;have q58 := idxG (kk := .i64) (S54.sl (k := 0) rfl) el_24 sz_3 g57;obtain ⟨G59, q60, S61, a63⟩ := S54.storeG (f := (Value.int .i64)) (k := 0) (x := (gat 0 x0 x1)) rfl (hB.le A55.1) sz_3 g57 rfl rfl;have A62 := A55.trans a63;replace S61 : Sep G59 (Fr H) [flat c2_u0 3 (ints (lset (lset (lset r1 x1 x2) x2 x1) (gat 0 x0 x2) (gat 0 x0 x1)))] := S61;refine .sr fun K hK => ?_;simp [q58, q60];apply hK;obtain ⟨g64, hF⟩ := gd_some hF;have q65 := idxG (kk := .i64) (S61.sl (k := 0) rfl) el_24 sz_3 g64;obtain ⟨G66, q67, S68, a70⟩ := S61.storeG (f := (Value.int .i64)) (k := 0) (x := (gat 0 x0 x2)) rfl (hB.le A62.1) sz_3 g64 rfl rfl;have A69 := A62.trans a70;replace S68 : Sep G66 (Fr H) [flat c2_u0 3 (ints (lset (lset (lset (lset r1 x1 x2) x2 x1) (gat 0 x0 x2) (gat 0 x0 x1)) (gat 0 x0 x1) (gat 0 x0 x2)))] := S68
  refine .region fun K hK => ?_;simp [q65, q67];apply hK;simp only [andThen, leaves];refine .sr fun K hK => ?_;simp [];apply hK;refine DWp.ret ?_;obtain rfl := Option.some.inj hF;exact ⟨by simp, [c2_u0], by simp [((S68.sl (k := 0) rfl).tup)], A69, c2_u0, rfl, S68.pick [0] (by decide) rfl⟩
def F_laws_sSame_L1 (fu : Nat) (k1_0 : List Int) (k1_1 : List Int) (k1_2 : Int) : Nat → Int → Option (LR (Bool) (Int))
  | 0, _ => none
  | n + 1, y1_13 =>
    bif (ilt y1_13 k1_2) then
      gd (inL k1_0 y1_13) (
      gd (inL k1_1 y1_13) (
      bif (ine (gat 0 k1_0 y1_13) (gat 0 k1_1 y1_13)) then
        some (.ret false)
      else
        F_laws_sSame_L1 fu k1_0 k1_1 k1_2 n (iadd .i64 y1_13 1)))
    else
      some (.brk y1_13)
def F_laws_sSame (fu : Nat) (x0 : List Int) (x1 : List Int) : Option (Bool) :=
  bif (ine (llen x0) (llen x1)) then
    some false
  else
    bd (F_laws_sSame_L1 fu x0 x1 (llen x0) fu 0) fun s1 =>
    lr s1 fun s1 =>
    some true
theorem F_laws_sSame_w {fu : Nat} {H : AH} {v0 : Value} {v1 : Value} {x0 : List Int} {x1 : List Int} {r : (Bool)} (hx0 : Sl H v0 (ints x0)) (hx1 : Sl H v1 (ints x1)) (hF : F_laws_sSame fu x0 x1 = some r) :
    ACallT Tryz.prog 10 [v0, v1] H (fun u G => AgB (Fr H) H G ∧ u = (Value.bool r) ∧ Sep G (Fr H) []) := by
 refine ACallT.of_body (nt := 26) (rs := [.tmp 4]) Tryz.func10 rfl rfl rfl rfl ?_;have A0 : AgB (Fr H) H H := .refl _ _;have S0 : Sep H (Fr H) [] := .nil;have hB := Fr.up H;unfold F_laws_sSame at hF;refine .sr fun K hK => ?_;simp [];apply hK;refine .seq ?_;have q1 := lenG (hx0.agree A0.agree) el_24;have q2 := lenG (hx1.agree A0.agree) el_24;refine .sr fun K hK => ?_;simp [q1, q2];apply hK;refine DWp.cond' (t := (ine (llen x0) (llen x1))) (by simp []) (fun hb3 => ?_) (fun hb3 => ?_)
 ·replace hF := cd_t hb3 hF;refine .sr fun K hK => ?_;simp [];apply hK;refine DWp.ret ?_;simp only [andThen, leaves];obtain rfl := Option.some.inj hF;exact ⟨by simp, [(Value.bool false)], by simp [], A0, rfl, S0.pick [] (by decide) rfl⟩
 ·replace hF := cd_f hb3 hF;refine DWp.skip ?_;simp only [andThen, leaves];refine .seq ?_;have q4 := lenG (hx0.agree A0.agree) el_24;refine .sr fun K hK => ?_;simp [q4];apply hK;refine .block ?_;obtain ⟨s5, hL6, hF⟩ := bd_some hF;have S7 := S0.pick [] (by decide) rfl;refine DWp.loop (fun n env G => ∃ y1_13 : Int, F_laws_sSame_L1 fu x0 x1 (llen x0) n y1_13 = some s5 ∧ Sep G (Fr H) [] ∧ AgB (Fr H) H G ∧ env 0 = some v0 ∧ env 1 = some v1 ∧ env 12 = some (Value.int .i64 (llen x0)) ∧ env 13 = some (Value.int .i64 y1_13)) fu ⟨0, hL6, S7, A0, by simp []⟩ ?_;rintro n1 env1 G1_ ⟨y1_13, hL6, S1_, A1_, e1_⟩;cases n1 with
  | zero => cases hL6
  | succ n1 =>
   simp only [F_laws_sSame_L1] at hL6;refine .sr fun K hK => ?_;simp [e1_];apply hK;refine .seq ?_;refine DWp.cond' (t := (ilt y1_13 (llen x0))) (by simp [e1_]) (fun hb8 => ?_) (fun hb8 => ?_)
   ·replace hL6 := cd_t hb8 hL6;refine DWp.skip ?_;simp only [andThen, leaves];refine .seq ?_;refine .block ?_;refine .sr fun K hK => ?_;simp [e1_];apply hK;obtain ⟨g9, hL6⟩ := gd_some hL6;have q10 := idxG (kk := .i64) (hx0.agree A1_.agree) el_24 sz_3 g9;have q11 := loadG (hx0.agree A1_.agree) sz_3 ag_3 g9 0;obtain ⟨g12, hL6⟩ := gd_some hL6;have q13 := idxG (kk := .i64) (hx1.agree A1_.agree) el_24 sz_3 g12;have q14 := loadG (hx1.agree A1_.agree) sz_3 ag_3 g12 0;refine .sd (B := [0, 0, 3, 7, 0, 0, 48, 112, 255]) 9 mixed (by kernel_rfl) (by decide) fun K hK => ?_;simp [e1_, q10, q11, q13, q14];apply hK;refine DWp.cond' (t := (ine (gat 0 x0 y1_13) (gat 0 x1 y1_13))) (by simp [e1_]) (fun hb15 => ?_) (fun hb15 => ?_)
    ·replace hL6 := cd_t hb15 hL6;refine .sr fun K hK => ?_;simp [e1_];apply hK;refine DWp.ret ?_;simp only [andThen, leaves];obtain rfl := Option.some.inj hL6;simp only [lr] at hF;obtain rfl := Option.some.inj hF;exact ⟨by simp, [(Value.bool false)], by simp [e1_], A1_, rfl, S1_.pick [] (by decide) rfl⟩
    ·replace hL6 := cd_f hb15 hL6;refine DWp.skip ?_;simp only [andThen, leaves];refine .region fun K hK => ?_;simp [e1_];apply hK;simp only [andThen, leaves];have S16 := S1_.pick [] (by decide) rfl;exact ⟨n1, Nat.lt_succ_self _, (iadd .i64 y1_13 1), hL6, S16, A1_, by simp [e1_]⟩
   ·replace hL6 := cd_f hb8 hL6;refine DWp.exit ?_;simp only [andThen, leaves, if_true, if_false, reduceIte, Nat.reduceEqDiff];obtain rfl := Option.some.inj hL6;simp only [lr] at hF;refine .sr fun K hK => ?_;simp [e1_];apply hK;refine DWp.ret ?_;obtain rfl := Option.some.inj hF;exact ⟨by simp, [(Value.bool true)], by simp [e1_], A1_, rfl, S1_.pick [] (by decide) rfl⟩
def F_slices_insertionSortCmpFunc_Sint_L2 (fu : Nat) (k2_0 : Int) (k2_1 : Int) (k2_2 : ((List Int) → (List Int) → Option (Int))) (k2_3 : Int) : Nat → List (List Int) → Int → Option (List (List Int) × Int)
  | 0, _, _ => none
  | n + 1, l2_0, y2_9 =>
    bd (
      bif (ilt k2_0 y2_9) then
        gd (inL l2_0 y2_9) (
        gd (inL l2_0 (isub .i64 y2_9 1)) (
        bd (k2_2 (gat [] l2_0 y2_9) (gat [] l2_0 (isub .i64 y2_9 1))) fun r1 =>
        some (ilt r1 0)))
      else
        some false) fun s8 =>
    bif s8 then
      gd (inL l2_0 (isub .i64 y2_9 1)) (
      gd (inL l2_0 y2_9) (
      gd (inL l2_0 y2_9) (
      gd (inL l2_0 (isub .i64 y2_9 1)) (
      F_slices_insertionSortCmpFunc_Sint_L2 fu k2_0 k2_1 k2_2 k2_3 n (lset (lset l2_0 y2_9 (gat [] l2_0 (isub .i64 y2_9 1))) (isub .i64 y2_9 1) (gat [] l2_0 y2_9)) (isub .i64 y2_9 1)))))
    else
      some (l2_0, y2_9)
def F_slices_insertionSortCmpFunc_Sint_L1 (fu : Nat) (k1_0 : Int) (k1_1 : Int) (k1_2 : ((List Int) → (List Int) → Option (Int))) : Nat → List (List Int) → Int → Option (List (List Int) × Int)
  | 0, _, _ => none
  | n + 1, l1_0, y1_8 =>
    bif (ilt y1_8 k1_1) then
      bd (F_slices_insertionSortCmpFunc_Sint_L2 fu k1_0 k1_1 k1_2 y1_8 fu l1_0 y1_8) fun s2 =>
      F_slices_insertionSortCmpFunc_Sint_L1 fu k1_0 k1_1 k1_2 n s2.1 (iadd .i64 y1_8 1)
    else
      some (l1_0, y1_8)
def F_slices_insertionSortCmpFunc_Sint (fu : Nat) (x0 : List (List Int)) (x1 : Int) (x2 : Int) (x3 : (List Int) → (List Int) → Option (Int)) : Option (List (List Int)) :=
  bd (F_slices_insertionSortCmpFunc_Sint_L1 fu x1 x2 x3 fu x0 (iadd .i64 x1 1)) fun s1 =>
  some s1.1
theorem F_slices_insertionSortCmpFunc_Sint_w {fu : Nat} {H : AH} {B : Nat → Prop} {v0 : Value} {C0 : List Value} {f3 : FuncId} {c3 : List Value} {x0 : List (List Int)} {x1 : Int} {x2 : Int} {x3 : (List Int) → (List Int) → Option (Int)} {r : (List (List Int))} (hB : Up B H.length) (S0 : Sep H B [rowsC v0 24 3 C0 (List.map ints x0)]) (hx3 : ∀ (G : AH), AgB B H G → ∀ (v0 : Value) (v1 : Value) (y0 : List Int) (y1 : List Int) (q : (Int)), Sl G v0 (ints y0) → Sl G v1 (ints y1) → x3 y0 y1 = some q → ACallT Tryz.prog f3 ([v0, v1] ++ c3) G (fun u G' => AgB (Fr G) G G' ∧ u = (Value.int .i64 q) ∧ Sep G' (Fr G) [])) (hF : F_slices_insertionSortCmpFunc_Sint fu x0 x1 x2 x3 = some r) :
    ACallT Tryz.prog 146 [v0, (Value.int .i64 x1), (Value.int .i64 x2), (Value.func (.func f3) #[] c3.toArray)] H (fun u G => AgB B H G ∧ ∃ Cz0 : List Value, u = (Value.tuple #[]) ∧ Sep G B [rowsC v0 24 3 Cz0 (List.map ints r)]) := by
 refine ACallT.of_body (nt := 53) (rs := []) Tryz.func146 rfl rfl rfl rfl ?_;have A0 : AgB B H H := .refl _ _;unfold F_slices_insertionSortCmpFunc_Sint at hF;refine .sr fun K hK => ?_;simp [];apply hK;refine .block ?_;obtain ⟨s1, hL2, hF⟩ := bd_some hF;have S3 := S0.pick [0] (by decide) rfl;refine DWp.loop (fun n env G => ∃ l1_0 : List (List Int), ∃ y1_8 : Int, ∃ D1_0 : List Value, F_slices_insertionSortCmpFunc_Sint_L1 fu x1 x2 x3 n l1_0 y1_8 = some s1 ∧ Sep G B [rowsC v0 24 3 D1_0 (List.map ints l1_0)] ∧ AgB B H G ∧ env 0 = some v0 ∧ env 1 = some (Value.int .i64 x1) ∧ env 2 = some (Value.int .i64 x2) ∧ env 3 = some (Value.func (.func f3) #[] c3.toArray) ∧ env 8 = some (Value.int .i64 y1_8)) fu ⟨x0, (iadd .i64 x1 1), C0, hL2, S3, A0, by simp []⟩ ?_;rintro n1 env1 G1_ ⟨l1_0, y1_8, D1_0, hL2, S1_, A1_, e1_⟩;cases n1 with
 | zero => cases hL2
 | succ n1 =>
  simp only [F_slices_insertionSortCmpFunc_Sint_L1] at hL2;refine .seq ?_;refine .sr fun K hK => ?_;simp [e1_];apply hK;refine DWp.cond' (t := (ilt y1_8 x2)) (by simp [e1_]) (fun hb4 => ?_) (fun hb4 => ?_)
  ·replace hL2 := cd_t hb4 hL2;refine DWp.skip ?_;simp only [andThen, leaves];refine .seq ?_;refine .block ?_;refine .sr fun K hK => ?_;simp [e1_];apply hK;refine .block ?_;obtain ⟨s5, hL6, hL2⟩ := bd_some hL2;have S7 := S1_.pick [0] (by decide) rfl;refine DWp.loop (fun n env G => ∃ l2_0 : List (List Int), ∃ y2_9 : Int, ∃ D2_0 : List Value, F_slices_insertionSortCmpFunc_Sint_L2 fu x1 x2 x3 y1_8 n l2_0 y2_9 = some s5 ∧ Sep G B [rowsC v0 24 3 D2_0 (List.map ints l2_0)] ∧ AgB B H G ∧ env 0 = some v0 ∧ env 1 = some (Value.int .i64 x1) ∧ env 2 = some (Value.int .i64 x2) ∧ env 3 = some (Value.func (.func f3) #[] c3.toArray) ∧ env 8 = some (Value.int .i64 y1_8) ∧ env 9 = some (Value.int .i64 y2_9)) fu ⟨l1_0, y1_8, D1_0, hL6, S7, A1_, by simp [e1_]⟩ ?_;rintro n2 env2 G2_ ⟨l2_0, y2_9, D2_0, hL6, S2_, A2_, e2_⟩;cases n2 with
   | zero => cases hL6
   | succ n2 =>
    simp only [F_slices_insertionSortCmpFunc_Sint_L2] at hL6;refine .seq ?_;obtain ⟨s8, hL9, hL6⟩ := bd_some hL6;refine DWp.seq (DWp.join (fun env G => Sep G B [rowsC v0 24 3 D2_0 (List.map ints l2_0)] ∧ AgB B H G ∧ env 0 = some v0 ∧ env 1 = some (Value.int .i64 x1) ∧ env 2 = some (Value.int .i64 x2) ∧ env 3 = some (Value.func (.func f3) #[] c3.toArray) ∧ env 8 = some (Value.int .i64 y1_8) ∧ env 9 = some (Value.int .i64 y2_9) ∧ env 34 = some (Value.bool s8)) ?_ ?_)
    ·
     rcases Bool.eq_false_or_eq_true (ilt x1 y2_9) with hb11 | hb11
     ·replace hL9 := cd_t hb11 hL9;obtain ⟨g12, hL9⟩ := gd_some hL9;have q13 := (S2_.rd (k := 0) rfl).idxG (kk := .i64) el_31 sz_24 g12;have q14 := (S2_.rd (k := 0) rfl).loadG sz_24 ag_24 g12;obtain ⟨g15, hL9⟩ := gd_some hL9;have q16 := (S2_.rd (k := 0) rfl).idxG (kk := .i64) el_31 sz_24 g15;have q17 := (S2_.rd (k := 0) rfl).loadG sz_24 ag_24 g15;obtain ⟨r1, hc18, hL9⟩ := bd_some hL9;refine .drawn (B := [0, 0, 3, 7, 15, 15, 15, 111, 239, 15, 15, 1039, 3599, 7695, 16383, 32767, 65535]) 17 mixed (by kernel_rfl) (by decide) fun K hK => ?_;simp [e2_, hb11, q13, q14, q16, q17, (((S2_.rd (k := 0) rfl).rowAt [] g12).tup), (((S2_.rd (k := 0) rfl).rowAt [] g15).tup)];refine CallD.t (hx3 _ A2_ (gat nilV D2_0 y2_9) (gat nilV D2_0 (isub .i64 y2_9 1)) (gat [] l2_0 y2_9) (gat [] l2_0 (isub .i64 y2_9 1)) _ ((S2_.rd (k := 0) rfl).rowAt [] g12) ((S2_.rd (k := 0) rfl).rowAt [] g15) hc18) ?_;rintro _ G19 ⟨a22, rfl, S23⟩;have A21 := A2_.ext (hB.le A2_.1) a22.agree;have S20 : Sep G19 B [rowsC v0 24 3 D2_0 (List.map ints l2_0)] := S2_.agree a22.agree;simp [e2_, hb11, q13, q14, q16, q17, a22.pre];apply hK;simp only [andThen, leaves];have S24 := S20.pick [0] (by decide) rfl;obtain rfl := Option.some.inj hL9;exact ⟨S24, A21, by simp [e2_]⟩
     ·replace hL9 := cd_f hb11 hL9;refine .drawn (B := [0, 0, 3, 7, 15, 15, 15, 111, 239, 15, 15, 1039, 3599, 7695, 16383, 32767, 65535]) 17 mixed (by kernel_rfl) (by decide) fun K hK => ?_;simp [e2_, hb11];apply hK;simp only [andThen, leaves];have S25 := S2_.pick [0] (by decide) rfl;obtain rfl := Option.some.inj hL9;exact ⟨S25, A2_, by simp [e2_]⟩
    ·rintro env Gj26 ⟨Sj26, Aj26, ej26_⟩;refine DWp.cond' (t := s8) (by simp [ej26_]) (fun hb27 => ?_) (fun hb27 => ?_)
     ·replace hL6 := cd_t hb27 hL6;refine DWp.skip ?_;simp only [andThen, leaves];refine .seq ?_;refine .block ?_;obtain ⟨g28, hL6⟩ := gd_some hL6;have q29 := (Sj26.rd (k := 0) rfl).idxG (kk := .i64) el_31 sz_24 g28;have q30 := (Sj26.rd (k := 0) rfl).loadG sz_24 ag_24 g28;obtain ⟨g31, hL6⟩ := gd_some hL6;have q32 := (Sj26.rd (k := 0) rfl).idxG (kk := .i64) el_31 sz_24 g31;have q33 := (Sj26.rd (k := 0) rfl).loadG sz_24 ag_24 g31;obtain ⟨g34, hL6⟩ := gd_some hL6;have q35 := (Sj26.rd (k := 0) rfl).idxG (kk := .i64) el_31 sz_24 g34;obtain ⟨G41, q42, S43, a45⟩ := Sj26.swap1 (fr := ints) (k := 0) [] rfl (hB.le Aj26.1) sz_24 g34 g28;have A44 := Aj26.trans a45;replace S43 : Sep G41 B [rowsS v0 24 3 (lset D2_0 y2_9 (gat nilV D2_0 (isub .i64 y2_9 1))) D2_0 (List.map ints l2_0)] := S43;obtain ⟨g46, hL6⟩ := gd_some hL6;have q47 := S43.idxS (ki := .i64) (kk := 0) rfl el_31 sz_24 g46;obtain ⟨G53, q54, S55, a57⟩ := S43.swap2 (fr := ints) (k := 0) [] rfl (hB.le A44.1) sz_24 g34 g28;have A56 := A44.trans a57;replace S55 : Sep G53 B [rowsC v0 24 3 (lset (lset D2_0 y2_9 (gat nilV D2_0 (isub .i64 y2_9 1))) (isub .i64 y2_9 1) (gat nilV D2_0 y2_9)) (List.map ints (lset (lset l2_0 y2_9 (gat [] l2_0 (isub .i64 y2_9 1))) (isub .i64 y2_9 1) (gat [] l2_0 y2_9)))] := S55;refine .drawn (B := [0, 0, 0, 0, 8, 0, 0, 64, 224, 480, 0, 0, 3072, 7168, 16355, 32739, 65535, 131071]) 15 mixed (by kernel_rfl) (by decide) fun K hK => ?_;simp [ej26_, q29, q30, q32, q33, q35, (((Sj26.rd (k := 0) rfl).rowAt [] g28).tup), q42, q47, q54];apply hK;simp only [andThen, leaves];refine .region fun K hK => ?_;simp [ej26_];apply hK;simp only [andThen, leaves]
      have S58 := S55.pick [0] (by decide) rfl;exact ⟨n2, Nat.lt_succ_self _, (lset (lset l2_0 y2_9 (gat [] l2_0 (isub .i64 y2_9 1))) (isub .i64 y2_9 1) (gat [] l2_0 y2_9)), (isub .i64 y2_9 1), (lset (lset D2_0 y2_9 (gat nilV D2_0 (isub .i64 y2_9 1))) (isub .i64 y2_9 1) (gat nilV D2_0 y2_9)), hL6, S58, A56, by simp [ej26_]⟩
     ·replace hL6 := cd_f hb27 hL6;refine DWp.exit ?_;simp only [andThen, leaves, if_true, if_false, reduceIte, Nat.reduceEqDiff];obtain rfl := Option.some.inj hL6;try dsimp only at hL2
      refine .region fun K hK => ?_;simp [ej26_];apply hK;simp only [andThen, leaves];have S59 := Sj26.pick [0] (by decide) rfl;exact ⟨n1, Nat.lt_succ_self _, l2_0, (iadd .i64 y1_8 1), D2_0, hL2, S59, Aj26, by simp [ej26_]⟩
  ·replace hL2 := cd_f hb4 hL2;refine DWp.exit ?_;simp only [andThen, leaves, if_true, if_false, reduceIte, Nat.reduceEqDiff];obtain rfl := Option.some.inj hL2;try dsimp only at hF
   obtain rfl := Option.some.inj hF;exact ⟨by simp, [], by simp [e1_], A1_, D1_0, rfl, S1_.pick [0] (by decide) rfl⟩
end Go.Proofs.YtogghgecmjnieaaGreat.AL

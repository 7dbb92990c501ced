/- The walks of functions, each with its Lean function: spec.meWay, spec.meColours, spec.l1Most, spec.meCount, spec.exStep, spec.exPath, spec.exMeanders, spec.MergePath, impl.MergeDistance, spec.MergeDistance. No condition. -/
import Derived.Test.YtogghgecmjnieaaGreatG1
import Derived.Test.YtogghgecmjnieaaGreatG10
import Derived.Test.YtogghgecmjnieaaGreatG11
import Derived.Test.YtogghgecmjnieaaGreatG12
import Derived.Test.YtogghgecmjnieaaGreatG2
import Derived.Test.YtogghgecmjnieaaGreatG3
import Derived.Test.YtogghgecmjnieaaGreatG4
import Derived.Test.YtogghgecmjnieaaGreatG5
import Derived.Test.YtogghgecmjnieaaGreatG6
import Derived.Test.YtogghgecmjnieaaGreatG7
import Derived.Test.YtogghgecmjnieaaGreatG8
import Derived.Test.YtogghgecmjnieaaGreatG9
import Derived.Test.YtogghgecmjnieaaGreatALD
import Derived.Test.YtogghgecmjnieaaGreatProg
import Derived.KernelRfl
namespace Go.Proofs.YtogghgecmjnieaaGreat.AL
open Go Go.RowKit
set_option linter.unusedVariables false
set_option linter.unusedSimpArgs false
set_option maxRecDepth 4096
attribute [local simp] n_fn b_add b_sub b_mul b_lt b_le b_gt b_ge b_eq b_ne u_not

def F_spec_meWay_L1 (fu : Nat) (k1_0 : Int) (k1_1 : List Int) (k1_2 : List Int) : Nat → List Int → Int → Option (List Int × Int)
  | 0, _, _ => none
  | n + 1, l1_1, y1_6 =>
    bif (ine y1_6 k1_0) then
      gd (inL k1_1 y1_6) (
      gd (l1_1.length + [y1_6, (gat 0 k1_1 y1_6)].length ≤ 4294967296) (
      gd (inL k1_1 y1_6) (
      gd (inL k1_2 (gat 0 k1_1 y1_6)) (
      F_spec_meWay_L1 fu k1_0 k1_1 k1_2 n (lapp l1_1 [y1_6, (gat 0 k1_1 y1_6)]) (gat 0 k1_2 (gat 0 k1_1 y1_6))))))
    else
      some (l1_1, y1_6)
def F_spec_meWay (fu : Nat) (x0_0 : List Int) (x0_1 : List Int) (x1 : Int) : Option (List Int) :=
  gd (inL x0_0 x1) (
  gd (inL x0_0 x1) (
  gd (inL x0_1 (gat 0 x0_0 x1)) (
  bd (F_spec_meWay_L1 fu x1 x0_0 x0_1 fu [x1, (gat 0 x0_0 x1)] (gat 0 x0_1 (gat 0 x0_0 x1))) fun s1 =>
  some s1.1)))
theorem F_spec_meWay_w {fu : Nat} {H : AH} {v0_0 : Value} {v0_1 : Value} {x0_0 : List Int} {x0_1 : List Int} {x1 : Int} {r : (List Int)} (hx0_0 : Sl H v0_0 (ints x0_0)) (hx0_1 : Sl H v0_1 (ints x0_1)) (hF : F_spec_meWay fu x0_0 x0_1 x1 = some r) :
    ACallT Tryz.prog 133 [(Value.agg #[v0_0, v0_1]), (Value.int .i64 x1)] H (fun u G => AgB (Fr H) H G ∧ ∃ u0 : Value, u = u0 ∧ Sep G (Fr H) [flat u0 3 (ints r)]) := by
 refine ACallT.of_body (nt := 45) (rs := [.tmp 4]) Tryz.func133 rfl rfl rfl rfl ?_;have A0 : AgB (Fr H) H H := .refl _ _;have S0 : Sep H (Fr H) [] := .nil;have hB := Fr.up H;unfold F_spec_meWay at hF;obtain ⟨G2, p4, q5, q6, a7, S1⟩ := S0.boxT (hB.le A0.1) 43 [v0_0, v0_1];have A3 := A0.ext (hB.le A0.1) a7;replace S1 : Sep G2 (Fr H) [AL.box p4 [v0_0, v0_1]] := S1;refine .sr fun K hK => ?_;simp [q5, q6, a7.to_pre, cells_agg];apply hK;have q8 := S1.fieldT (k := 0) rfl fa_43_0;have q9 := S1.loadF (k := 0) rfl sz_24 ag_24 (off := 0) rfl;obtain ⟨g10, hF⟩ := gd_some hF;have q11 := idxG (kk := .i64) (hx0_0.agree A3.agree) el_24 sz_3 g10;have q12 := loadG (hx0_0.agree A3.agree) sz_3 ag_3 g10 0;obtain ⟨v13, G14, q15, S16, a18, _, _⟩ := S1.lit2 (t := 24) (hB.le A3.1) el_24 ei_3 rfl (Value.int .i64 x1) (Value.int .i64 (gat 0 x0_0 x1)) rfl rfl rfl rfl;have A17 := A3.ext (hB.le A3.1) a18;replace S16 : Sep G14 (Fr H) [AL.box p4 [v0_0, v0_1], flat1 v13 3 (ints [x1, (gat 0 x0_0 x1)])] := S16;refine .sr fun K hK => ?_;simp [q8, q9, q11, q12, q15, a18.to_pre];apply hK;refine .seq ?_;have q20 := S16.fieldT (k := 0) rfl fa_43_1;have q21 := S16.loadF (k := 0) rfl sz_24 ag_24 (off := 1) rfl;have q22 := S16.fieldT (k := 0) rfl fa_43_0;have q23 := S16.loadF (k := 0) rfl sz_24 ag_24 (off := 0) rfl;obtain ⟨g24, hF⟩ := gd_some hF;have q25 := idxG (kk := .i64) (hx0_0.agree A17.agree) el_24 sz_3 g24;have q26 := loadG (hx0_0.agree A17.agree) sz_3 ag_3 g24 0;obtain ⟨g27, hF⟩ := gd_some hF;have q28 := idxG (kk := .i64) (hx0_1.agree A17.agree) el_24 sz_3 g27
 have q29 := loadG (hx0_1.agree A17.agree) sz_3 ag_3 g27 0;refine .sd (B := [0, 1, 0, 4, 0, 28, 60, 127, 255, 511]) 10 mixed (by kernel_rfl) (by decide) fun K hK => ?_;simp [q20, q21, q22, q23, q25, q26, q28, q29];apply hK;refine .block ?_;obtain ⟨s30, hL31, hF⟩ := bd_some hF;have S32 := S16.pick [0, 1] (by decide) rfl;have S33 := S32.weak (k := 1) rfl;refine DWp.loop (fun n env G => ∃ l1_1 : List Int, ∃ y1_6 : Int, ∃ w1_1 : Value, F_spec_meWay_L1 fu x1 x0_0 x0_1 n l1_1 y1_6 = some s30 ∧ Sep G (Fr H) [AL.box p4 [v0_0, v0_1], flat w1_1 3 (ints l1_1)] ∧ AgB (Fr H) H G ∧ env 1 = some (Value.int .i64 x1) ∧ env 2 = some p4 ∧ env 5 = some w1_1 ∧ env 6 = some (Value.int .i64 y1_6)) fu ⟨[x1, (gat 0 x0_0 x1)], (gat 0 x0_1 (gat 0 x0_0 x1)), v13, hL31, S33, A17, by simp []⟩ ?_;rintro n1 env1 G1_ ⟨l1_1, y1_6, w1_1, hL31, S1_, A1_, e1_⟩;cases n1 with
 | zero => cases hL31
 | succ n1 =>
  simp only [F_spec_meWay_L1] at hL31;refine .seq ?_;refine .sr fun K hK => ?_;simp [e1_];apply hK;refine DWp.cond' (t := (ine y1_6 x1)) (by simp [e1_]) (fun hb34 => ?_) (fun hb34 => ?_)
  ·replace hL31 := cd_t hb34 hL31;refine DWp.skip ?_;simp only [andThen, leaves];refine .seq ?_;refine .block ?_;have q35 := S1_.fieldT (k := 0) rfl fa_43_0;have q36 := S1_.loadF (k := 0) rfl sz_24 ag_24 (off := 0) rfl;obtain ⟨g37, hL31⟩ := gd_some hL31;have q38 := idxG (kk := .i64) (hx0_0.agree A1_.agree) el_24 sz_3 g37;have q39 := loadG (hx0_0.agree A1_.agree) sz_3 ag_3 g37 0;obtain ⟨v40, G41, q42, S43, a45, _, _⟩ := S1_.lit2 (t := 24) (hB.le A1_.1) el_24 ei_3 rfl (Value.int .i64 y1_6) (Value.int .i64 (gat 0 x0_0 y1_6)) rfl rfl rfl rfl;have A44 := A1_.ext (hB.le A1_.1) a45;replace S43 : Sep G41 (Fr H) [AL.box p4 [v0_0, v0_1], flat w1_1 3 (ints l1_1), flat1 v40 3 (ints [y1_6, (gat 0 x0_0 y1_6)])] := S43;obtain ⟨g47, hL31⟩ := gd_some hL31;obtain ⟨v53, G48, q49, S50, a52, _, _⟩ := S43.appendG (f := (Value.int .i64)) (xs := l1_1) (ys := [y1_6, (gat 0 x0_0 y1_6)]) (t := 24) (t2 := 24) (k := 1) rfl (hB.le A44.1) el_24 el_24 ei_3 rfl (S43.sl1 (k := 2) rfl) g47;have A51 := A44.trans a52;replace S50 : Sep G48 (Fr H) [AL.box p4 [v0_0, v0_1], flat v53 3 (ints (lapp l1_1 [y1_6, (gat 0 x0_0 y1_6)])), flat1 v40 3 (ints [y1_6, (gat 0 x0_0 y1_6)])] := S50;refine .region fun K hK => ?_;simp [e1_, q35, q36, q38, q39, q42, a45.to_pre, q49];apply hK;simp only [andThen, leaves];have q54 := S50.fieldT (k := 0) rfl fa_43_1;have q55 := S50.loadF (k := 0) rfl sz_24 ag_24 (off := 1) rfl;have q56 := S50.fieldT (k := 0) rfl fa_43_0;have q57 := S50.loadF (k := 0) rfl sz_24 ag_24 (off := 0) rfl;obtain ⟨g58, hL31⟩ := gd_some hL31;have q59 := idxG (kk := .i64) (hx0_0.agree A51.agree) el_24 sz_3 g58
   have q60 := loadG (hx0_0.agree A51.agree) sz_3 ag_3 g58 0;obtain ⟨g61, hL31⟩ := gd_some hL31;have q62 := idxG (kk := .i64) (hx0_1.agree A51.agree) el_24 sz_3 g61;have q63 := loadG (hx0_1.agree A51.agree) sz_3 ag_3 g61 0;refine .drawn (B := [0, 1, 0, 4, 0, 28, 60, 127, 255, 511]) 10 mixed (by kernel_rfl) (by decide) fun K hK => ?_;simp [e1_, q54, q55, q56, q57, q59, q60, q62, q63];apply hK;simp only [andThen, leaves];have S64 := S50.pick [0, 1] (by decide) rfl;exact ⟨n1, Nat.lt_succ_self _, (lapp l1_1 [y1_6, (gat 0 x0_0 y1_6)]), (gat 0 x0_1 (gat 0 x0_0 y1_6)), v53, hL31, S64, A51, by simp [e1_]⟩
  ·replace hL31 := cd_f hb34 hL31;refine DWp.exit ?_;simp only [andThen, leaves, if_true, if_false, reduceIte, Nat.reduceEqDiff];obtain rfl := Option.some.inj hL31;try dsimp only at hF
   refine .sr fun K hK => ?_;simp [e1_];apply hK;refine DWp.ret ?_;obtain rfl := Option.some.inj hF;exact ⟨by simp, [w1_1], by simp [e1_, ((S1_.sl (k := 1) rfl).tup)], A1_, w1_1, rfl, S1_.pick [1] (by decide) rfl⟩
def F_spec_meColours_L3 (fu : Nat) (k3_0 : List Int) (k3_1 : List Int) (k3_2 : Int) (k3_3 : Int) (k3_4 : Int) (k3_5 : List Int) (k3_6 : Int) : Nat → List Int → Int → Option (List Int × Int)
  | 0, _, _ => none
  | n + 1, l3_1, y3_36 =>
    bif (ilt y3_36 k3_6) then
      gd (inL k3_5 y3_36) (
      gd (inL l3_1 (gat 0 k3_5 y3_36)) (
      F_spec_meColours_L3 fu k3_0 k3_1 k3_2 k3_3 k3_4 k3_5 k3_6 n (lset l3_1 (gat 0 k3_5 y3_36) k3_2) (iadd .i64 y3_36 1)))
    else
      some (l3_1, y3_36)
def F_spec_meColours_L2 (fu : Nat) (k2_0 : List Int) (k2_1 : List Int) (k2_2 : Int) : Nat → List Int → Int → Int → Option (List Int × Int × Int)
  | 0, _, _, _ => none
  | n + 1, l2_1, y2_5, y2_24 =>
    bif (ilt y2_24 k2_2) then
      gd (inL l2_1 y2_24) (
      bif (ile 0 (gat 0 l2_1 y2_24)) then
        F_spec_meColours_L2 fu k2_0 k2_1 k2_2 n l2_1 y2_5 (iadd .i64 y2_24 1)
      else
        bd (F_spec_meWay fu k2_0 k2_1 y2_24) fun r1 =>
        bd (F_spec_meColours_L3 fu k2_0 k2_1 y2_5 k2_2 y2_24 r1 (llen r1) fu l2_1 0) fun s3 =>
        F_spec_meColours_L2 fu k2_0 k2_1 k2_2 n s3.1 (iadd .i64 y2_5 1) (iadd .i64 y2_24 1))
    else
      some (l2_1, y2_5, y2_24)
def F_spec_meColours_L1 (fu : Nat) (k1_0 : List Int) (k1_1 : List Int) (k1_2 : Int) : Nat → List Int → Int → Option (List Int × Int)
  | 0, _, _ => none
  | n + 1, l1_1, y1_15 =>
    bif (ilt y1_15 k1_2) then
      gd (inL l1_1 y1_15) (
      F_spec_meColours_L1 fu k1_0 k1_1 k1_2 n (lset l1_1 y1_15 (-1)) (iadd .i64 y1_15 1))
    else
      some (l1_1, y1_15)
def F_spec_meColours (fu : Nat) (x0_0 : List Int) (x0_1 : List Int) : Option (List Int) :=
  gd (0 ≤ (llen x0_0) ∧ (llen x0_0) ≤ 4294967296) (
  bd (F_spec_meColours_L1 fu x0_0 x0_1 (llen (lrep (llen x0_0) (0 : Int))) fu (lrep (llen x0_0) (0 : Int)) 0) fun s1 =>
  bd (F_spec_meColours_L2 fu x0_0 x0_1 (llen s1.1) fu s1.1 0 0) fun s2 =>
  some s2.1)
theorem F_spec_meColours_w {fu : Nat} {H : AH} {v0_0 : Value} {v0_1 : Value} {x0_0 : List Int} {x0_1 : List Int} {r : (List Int)} (hx0_0 : Sl H v0_0 (ints x0_0)) (hx0_1 : Sl H v0_1 (ints x0_1)) (hF : F_spec_meColours fu x0_0 x0_1 = some r) :
    ACallT Tryz.prog 117 [(Value.agg #[v0_0, v0_1])] H (fun u G => AgB (Fr H) H G ∧ ∃ u0 : Value, u = u0 ∧ Sep G (Fr H) [flat u0 3 (ints r)]) := by
 refine ACallT.of_body (nt := 49) (rs := [.tmp 2]) Tryz.func117 rfl rfl rfl rfl ?_;have A0 : AgB (Fr H) H H := .refl _ _;have S0 : Sep H (Fr H) [] := .nil;have hB := Fr.up H;unfold F_spec_meColours at hF;obtain ⟨G2, p4, q5, q6, a7, S1⟩ := S0.boxT (hB.le A0.1) 43 [v0_0, v0_1];have A3 := A0.ext (hB.le A0.1) a7;replace S1 : Sep G2 (Fr H) [AL.box p4 [v0_0, v0_1]] := S1;refine .sr fun K hK => ?_;simp [q5, q6, a7.to_pre, cells_agg];apply hK;have q8 := S1.fieldT (k := 0) rfl fa_43_0;have q9 := S1.loadF (k := 0) rfl sz_24 ag_24 (off := 0) rfl;have q10 := lenG (hx0_0.agree A3.agree) el_24;obtain ⟨g11, hF⟩ := gd_some hF;obtain ⟨v12, G13, q14, S15, a17, _⟩ := S1.make (f := (Value.int .i64)) (t := 24) (hB.le A3.1) el_24 ei_3 rfl 0 rfl g11;have A16 := A3.ext (hB.le A3.1) a17;replace S15 : Sep G13 (Fr H) [AL.box p4 [v0_0, v0_1], flat v12 3 (ints (lrep (llen x0_0) (0 : Int)))] := S15;refine .sr fun K hK => ?_;simp [q8, q9, q10, q14, a17.to_pre];apply hK;refine .seq ?_;have q18 := lenG (S15.sl (k := 1) rfl) el_24;refine .sr fun K hK => ?_;simp [q18];apply hK;refine .block ?_;obtain ⟨s19, hL20, hF⟩ := bd_some hF;have S21 := S15.pick [0, 1] (by decide) rfl;refine DWp.loop (fun n env G => ∃ l1_1 : List Int, ∃ y1_15 : Int, F_spec_meColours_L1 fu x0_0 x0_1 (llen (lrep (llen x0_0) (0 : Int))) n l1_1 y1_15 = some s19 ∧ Sep G (Fr H) [AL.box p4 [v0_0, v0_1], flat v12 3 (ints l1_1)] ∧ AgB (Fr H) H G ∧ env 1 = some p4 ∧ env 3 = some v12 ∧ env 14 = some (Value.int .i64 (llen (lrep (llen x0_0) (0 : Int)))) ∧ env 15 = some (Value.int .i64 y1_15)) fu ⟨(lrep (llen x0_0) (0 : Int)), 0, hL20, S21, A16, by simp []⟩ ?_;rintro n1 env1 G1_ ⟨l1_1, y1_15, hL20, S1_, A1_, e1_⟩;cases n1 with
 | zero => cases hL20
 | succ n1 =>
  simp only [F_spec_meColours_L1] at hL20;refine .sr fun K hK => ?_;simp [e1_];apply hK;refine .seq ?_;refine DWp.cond' (t := (ilt y1_15 (llen (lrep (llen x0_0) (0 : Int))))) (by simp [e1_]) (fun hb22 => ?_) (fun hb22 => ?_)
  ·replace hL20 := cd_t hb22 hL20;refine DWp.skip ?_;simp only [andThen, leaves];refine .seq ?_;refine .block ?_;refine .sr fun K hK => ?_;simp [e1_];apply hK;obtain ⟨g23, hL20⟩ := gd_some hL20;have q24 := idxG (kk := .i64) (S1_.sl (k := 1) rfl) el_24 sz_3 g23;obtain ⟨G25, q26, S27, a29⟩ := S1_.storeG (f := (Value.int .i64)) (k := 1) (x := (-1)) rfl (hB.le A1_.1) sz_3 g23 rfl rfl;have A28 := A1_.trans a29;replace S27 : Sep G25 (Fr H) [AL.box p4 [v0_0, v0_1], flat v12 3 (ints (lset l1_1 y1_15 (-1)))] := S27;refine .region fun K hK => ?_;simp [e1_, q24, q26];apply hK;simp only [andThen, leaves];refine .region fun K hK => ?_;simp [e1_];apply hK;simp only [andThen, leaves];have S30 := S27.pick [0, 1] (by decide) rfl;exact ⟨n1, Nat.lt_succ_self _, (lset l1_1 y1_15 (-1)), (iadd .i64 y1_15 1), hL20, S30, A28, by simp [e1_]⟩
  ·replace hL20 := cd_f hb22 hL20;refine DWp.exit ?_;simp only [andThen, leaves, if_true, if_false, reduceIte, Nat.reduceEqDiff];obtain rfl := Option.some.inj hL20;try dsimp only at hF
   refine .sr fun K hK => ?_;simp [e1_];apply hK;refine .seq ?_;have q31 := lenG (S1_.sl (k := 1) rfl) el_24;refine .sr fun K hK => ?_;simp [e1_, q31];apply hK;refine .block ?_;obtain ⟨s32, hL33, hF⟩ := bd_some hF;have S34 := S1_.pick [0, 1] (by decide) rfl;refine DWp.loop (fun n env G => ∃ l2_1 : List Int, ∃ y2_5 : Int, ∃ y2_24 : Int, F_spec_meColours_L2 fu x0_0 x0_1 (llen l1_1) n l2_1 y2_5 y2_24 = some s32 ∧ Sep G (Fr H) [AL.box p4 [v0_0, v0_1], flat v12 3 (ints l2_1)] ∧ AgB (Fr H) H G ∧ env 1 = some p4 ∧ env 3 = some v12 ∧ env 5 = some (Value.int .i64 y2_5) ∧ env 23 = some (Value.int .i64 (llen l1_1)) ∧ env 24 = some (Value.int .i64 y2_24)) fu ⟨l1_1, 0, 0, hL33, S34, A1_, by simp [e1_]⟩ ?_;rintro n1 env1 G1_ ⟨l2_1, y2_5, y2_24, hL33, S1_, A1_, e1_⟩;cases n1 with
   | zero => cases hL33
   | succ n1 =>
    simp only [F_spec_meColours_L2] at hL33;refine .sr fun K hK => ?_;simp [e1_];apply hK;refine .seq ?_;refine DWp.cond' (t := (ilt y2_24 (llen l1_1))) (by simp [e1_]) (fun hb35 => ?_) (fun hb35 => ?_)
    ·replace hL33 := cd_t hb35 hL33;refine DWp.skip ?_;simp only [andThen, leaves];refine .seq ?_;refine .block ?_;refine .sr fun K hK => ?_;simp [e1_];apply hK;refine .seq ?_;obtain ⟨g36, hL33⟩ := gd_some hL33;have q37 := idxG (kk := .i64) (S1_.sl (k := 1) rfl) el_24 sz_3 g36;have q38 := loadG (S1_.sl (k := 1) rfl) sz_3 ag_3 g36 0;refine .sr fun K hK => ?_;simp [e1_, q37, q38];apply hK;refine DWp.cond' (t := (ile 0 (gat 0 l2_1 y2_24))) (by simp [e1_]) (fun hb39 => ?_) (fun hb39 => ?_)
     ·replace hL33 := cd_t hb39 hL33;refine DWp.exit ?_;simp only [andThen, leaves, if_true, if_false, reduceIte, Nat.reduceEqDiff];refine .region fun K hK => ?_;simp [e1_];apply hK;simp only [andThen, leaves];have S40 := S1_.pick [0, 1] (by decide) rfl;exact ⟨n1, Nat.lt_succ_self _, l2_1, y2_5, (iadd .i64 y2_24 1), hL33, S40, A1_, by simp [e1_]⟩
     ·replace hL33 := cd_f hb39 hL33;refine DWp.skip ?_;simp only [andThen, leaves];refine .seq ?_;have q41 := S1_.loadAgg (k := 0) rfl sz_43 ag_43 rfl;obtain ⟨r1, hc42, hL33⟩ := bd_some hL33;refine .sr fun K hK => ?_;simp [e1_, q41, ((hx0_0.agree A1_.agree).tup), ((hx0_1.agree A1_.agree).tup)];refine CallD.t (F_spec_meWay_w (fu := fu) (hx0_0.agree A1_.agree) (hx0_1.agree A1_.agree) hc42) ?_;rintro c43_u0 G44 ⟨a47, _, rfl, S48⟩;have A46 := A1_.ext (hB.le A1_.1) a47.agree;have S45 : Sep G44 (Fr H) [AL.box p4 [v0_0, v0_1], flat v12 3 (ints l2_1), flat c43_u0 3 (ints r1)] := S1_.app a47.agree S48 (fun _ h => h) (hB.le A1_.1);have q49 := lenG (S45.sl (k := 2) rfl) el_24;simp [e1_, q41, a47.pre, q49];apply hK;refine .block ?_;obtain ⟨s50, hL51, hL33⟩ := bd_some hL33;have S52 := S45.pick [0, 1, 2] (by decide) rfl;refine DWp.loop (fun n env G => ∃ l3_1 : List Int, ∃ y3_36 : Int, F_spec_meColours_L3 fu x0_0 x0_1 y2_5 (llen l1_1) y2_24 r1 (llen r1) n l3_1 y3_36 = some s50 ∧ Sep G (Fr H) [AL.box p4 [v0_0, v0_1], flat v12 3 (ints l3_1), flat c43_u0 3 (ints r1)] ∧ AgB (Fr H) H G ∧ env 1 = some p4 ∧ env 3 = some v12 ∧ env 5 = some (Value.int .i64 y2_5) ∧ env 23 = some (Value.int .i64 (llen l1_1)) ∧ env 24 = some (Value.int .i64 y2_24) ∧ env 34 = some c43_u0 ∧ env 35 = some (Value.int .i64 (llen r1)) ∧ env 36 = some (Value.int .i64 y3_36)) fu ⟨l2_1, 0, hL51, S52, A46, by simp [e1_]⟩ ?_;rintro n2 env2 G2_ ⟨l3_1, y3_36, hL51, S2_, A2_, e2_⟩;cases n2 with
      | zero => cases hL51
      | succ n2 =>
       simp only [F_spec_meColours_L3] at hL51;refine .sr fun K hK => ?_;simp [e2_];apply hK;refine .seq ?_;refine DWp.cond' (t := (ilt y3_36 (llen r1))) (by simp [e2_]) (fun hb53 => ?_) (fun hb53 => ?_)
       ·replace hL51 := cd_t hb53 hL51;refine DWp.skip ?_;simp only [andThen, leaves];refine .seq ?_;refine .block ?_;obtain ⟨g54, hL51⟩ := gd_some hL51;have q55 := idxG (kk := .i64) (S2_.sl (k := 2) rfl) el_24 sz_3 g54;have q56 := loadG (S2_.sl (k := 2) rfl) sz_3 ag_3 g54 0;refine .sr fun K hK => ?_;simp [e2_, q55, q56];apply hK;obtain ⟨g57, hL51⟩ := gd_some hL51;have q58 := idxG (kk := .i64) (S2_.sl (k := 1) rfl) el_24 sz_3 g57;obtain ⟨G59, q60, S61, a63⟩ := S2_.storeG (f := (Value.int .i64)) (k := 1) (x := y2_5) rfl (hB.le A2_.1) sz_3 g57 rfl rfl;have A62 := A2_.trans a63;replace S61 : Sep G59 (Fr H) [AL.box p4 [v0_0, v0_1], flat v12 3 (ints (lset l3_1 (gat 0 r1 y3_36) y2_5)), flat c43_u0 3 (ints r1)] := S61;refine .region fun K hK => ?_;simp [e2_, q58, q60];apply hK;simp only [andThen, leaves];refine .region fun K hK => ?_;simp [e2_];apply hK;simp only [andThen, leaves];have S64 := S61.pick [0, 1, 2] (by decide) rfl;exact ⟨n2, Nat.lt_succ_self _, (lset l3_1 (gat 0 r1 y3_36) y2_5), (iadd .i64 y3_36 1), hL51, S64, A62, by simp [e2_]⟩
       ·replace hL51 := cd_f hb53 hL51;refine DWp.exit ?_;simp only [andThen, leaves, if_true, if_false, reduceIte, Nat.reduceEqDiff];obtain rfl := Option.some.inj hL51;try dsimp only at hL33
        refine .region fun K hK => ?_;simp [e2_];apply hK;simp only [andThen, leaves];refine .region fun K hK => ?_;simp [e2_];apply hK;simp only [andThen, leaves];have S65 := S2_.pick [0, 1] (by decide) rfl;exact ⟨n1, Nat.lt_succ_self _, l3_1, (iadd .i64 y2_5 1), (iadd .i64 y2_24 1), hL33, S65, A2_, by simp [e2_]⟩
    ·replace hL33 := cd_f hb35 hL33;refine DWp.exit ?_;simp only [andThen, leaves, if_true, if_false, reduceIte, Nat.reduceEqDiff];obtain rfl := Option.some.inj hL33;try dsimp only at hF
     refine .sr fun K hK => ?_;simp [e1_];apply hK;refine DWp.ret ?_;obtain rfl := Option.some.inj hF;exact ⟨by simp, [v12], by simp [e1_, ((S1_.sl (k := 1) rfl).tup)], A1_, v12, rfl, S1_.pick [1] (by decide) rfl⟩
def F_spec_l1Most (fu : Nat) (x0 : Int) (x1 : Int) : Option (Int) :=
  bif (ilt x1 x0) then
    some x0
  else
    some x1
theorem F_spec_l1Most_w {fu : Nat} {H : AH}  {x0 : Int} {x1 : Int} {r : (Int)}  (hF : F_spec_l1Most fu x0 x1 = some r) :
    ACallT Tryz.prog 118 [(Value.int .i64 x0), (Value.int .i64 x1)] H (fun u G => AgB (Fr H) H G ∧ u = (Value.int .i64 r) ∧ Sep G (Fr H) []) := by
 refine ACallT.of_body (nt := 10) (rs := [.tmp 4]) Tryz.func118 rfl rfl rfl rfl ?_;have A0 : AgB (Fr H) H H := .refl _ _;have S0 : Sep H (Fr H) [] := .nil;have hB := Fr.up H;unfold F_spec_l1Most at hF;refine .sr fun K hK => ?_;simp [];apply hK;refine .seq ?_;refine .sr fun K hK => ?_;simp [];apply hK;refine DWp.cond' (t := (ilt x1 x0)) (by simp []) (fun hb1 => ?_) (fun hb1 => ?_)
 ·replace hF := cd_t hb1 hF;refine .sr fun K hK => ?_;simp [];apply hK;refine DWp.ret ?_;simp only [andThen, leaves];obtain rfl := Option.some.inj hF;exact ⟨by simp, [(Value.int .i64 x0)], by simp [], A0, rfl, S0.pick [] (by decide) rfl⟩
 ·replace hF := cd_f hb1 hF;refine DWp.skip ?_;simp only [andThen, leaves];refine .sr fun K hK => ?_;simp [];apply hK;refine DWp.ret ?_;obtain rfl := Option.some.inj hF;exact ⟨by simp, [(Value.int .i64 x1)], by simp [], A0, rfl, S0.pick [] (by decide) rfl⟩
def F_spec_meCount_L1 (fu : Nat) (k1_0 : List Int) (k1_1 : Int) : Nat → Int → Int → Option (Int × Int)
  | 0, _, _ => none
  | n + 1, y1_3, y1_9 =>
    bif (ilt y1_9 k1_1) then
      gd (inL k1_0 y1_9) (
      bd (F_spec_l1Most fu y1_3 (gat 0 k1_0 y1_9)) fun r2 =>
      F_spec_meCount_L1 fu k1_0 k1_1 n r2 (iadd .i64 y1_9 1))
    else
      some (y1_3, y1_9)
def F_spec_meCount (fu : Nat) (x0_0 : List Int) (x0_1 : List Int) : Option (Int) :=
  bd (F_spec_meColours fu x0_0 x0_1) fun r1 =>
  bd (F_spec_meCount_L1 fu r1 (llen r1) fu (-1) 0) fun s1 =>
  some (iadd .i64 s1.1 1)
theorem F_spec_meCount_w {fu : Nat} {H : AH} {v0_0 : Value} {v0_1 : Value} {x0_0 : List Int} {x0_1 : List Int} {r : (Int)} (hx0_0 : Sl H v0_0 (ints x0_0)) (hx0_1 : Sl H v0_1 (ints x0_1)) (hF : F_spec_meCount fu x0_0 x0_1 = some r) :
    ACallT Tryz.prog 77 [(Value.agg #[v0_0, v0_1])] H (fun u G => AgB (Fr H) H G ∧ u = (Value.int .i64 r) ∧ Sep G (Fr H) []) := by
 refine ACallT.of_body (nt := 19) (rs := [.tmp 2]) Tryz.func77 rfl rfl rfl rfl ?_;have A0 : AgB (Fr H) H H := .refl _ _;have S0 : Sep H (Fr H) [] := .nil;have hB := Fr.up H;unfold F_spec_meCount at hF;obtain ⟨G2, p4, q5, q6, a7, S1⟩ := S0.boxT (hB.le A0.1) 43 [v0_0, v0_1];have A3 := A0.ext (hB.le A0.1) a7;replace S1 : Sep G2 (Fr H) [AL.box p4 [v0_0, v0_1]] := S1;refine .sr fun K hK => ?_;simp [q5, q6, a7.to_pre, cells_agg];apply hK;refine .sr fun K hK => ?_;simp [];apply hK;refine .seq ?_;have q8 := S1.loadAgg (k := 0) rfl sz_43 ag_43 rfl;obtain ⟨r1, hc9, hF⟩ := bd_some hF;refine .sr fun K hK => ?_;simp [q8, ((hx0_0.agree A3.agree).tup), ((hx0_1.agree A3.agree).tup)];refine CallD.t (F_spec_meColours_w (fu := fu) (hx0_0.agree A3.agree) (hx0_1.agree A3.agree) hc9) ?_;rintro c10_u0 G11 ⟨a14, _, rfl, S15⟩;have A13 := A3.ext (hB.le A3.1) a14.agree;have S12 : Sep G11 (Fr H) [AL.box p4 [v0_0, v0_1], flat c10_u0 3 (ints r1)] := S1.app a14.agree S15 (fun _ h => h) (hB.le A3.1);have q16 := lenG (S12.sl (k := 1) rfl) el_24;simp [q8, a14.pre, q16];apply hK;refine .block ?_;obtain ⟨s17, hL18, hF⟩ := bd_some hF;have S19 := S12.pick [1] (by decide) rfl;refine DWp.loop (fun n env G => ∃ y1_3 : Int, ∃ y1_9 : Int, F_spec_meCount_L1 fu r1 (llen r1) n y1_3 y1_9 = some s17 ∧ Sep G (Fr H) [flat c10_u0 3 (ints r1)] ∧ AgB (Fr H) H G ∧ env 3 = some (Value.int .i64 y1_3) ∧ env 7 = some c10_u0 ∧ env 8 = some (Value.int .i64 (llen r1)) ∧ env 9 = some (Value.int .i64 y1_9)) fu ⟨(-1), 0, hL18, S19, A13, by simp []⟩ ?_;rintro n1 env1 G1_ ⟨y1_3, y1_9, hL18, S1_, A1_, e1_⟩;cases n1 with
 | zero => cases hL18
 | succ n1 =>
  simp only [F_spec_meCount_L1] at hL18;refine .sr fun K hK => ?_;simp [e1_];apply hK;refine .seq ?_;refine DWp.cond' (t := (ilt y1_9 (llen r1))) (by simp [e1_]) (fun hb20 => ?_) (fun hb20 => ?_)
  ·replace hL18 := cd_t hb20 hL18;refine DWp.skip ?_;simp only [andThen, leaves];refine .seq ?_;refine .block ?_;obtain ⟨g21, hL18⟩ := gd_some hL18;have q22 := idxG (kk := .i64) (S1_.sl (k := 0) rfl) el_24 sz_3 g21;have q23 := loadG (S1_.sl (k := 0) rfl) sz_3 ag_3 g21 0;refine .sr fun K hK => ?_;simp [e1_, q22, q23];apply hK;obtain ⟨r2, hc24, hL18⟩ := bd_some hL18;refine .region fun K hK => ?_;simp [e1_];refine CallD.t (F_spec_l1Most_w (fu := fu)  hc24) ?_;rintro _ G26 ⟨a29, rfl, S30⟩;have A28 := A1_.ext (hB.le A1_.1) a29.agree;have S27 : Sep G26 (Fr H) [flat c10_u0 3 (ints r1)] := S1_.app a29.agree S30 (fun _ h => h) (hB.le A1_.1);simp [e1_, a29.pre];apply hK;simp only [andThen, leaves];refine .region fun K hK => ?_;simp [e1_];apply hK;simp only [andThen, leaves];have S31 := S27.pick [0] (by decide) rfl;exact ⟨n1, Nat.lt_succ_self _, r2, (iadd .i64 y1_9 1), hL18, S31, A28, by simp [e1_]⟩
  ·replace hL18 := cd_f hb20 hL18;refine DWp.exit ?_;simp only [andThen, leaves, if_true, if_false, reduceIte, Nat.reduceEqDiff];obtain rfl := Option.some.inj hL18;try dsimp only at hF
   refine .sr fun K hK => ?_;simp [e1_];apply hK;refine DWp.ret ?_;obtain rfl := Option.some.inj hF;exact ⟨by simp, [(Value.int .i64 (iadd .i64 y1_3 1))], by simp [e1_], A1_, rfl, S1_.pick [] (by decide) rfl⟩
def F_spec_exStep_L1 (fu : Nat) (k1_0 : List Int) (k1_1 : List Int) (k1_2 : Int) (k1_3 : Int) (k1_4 : List (List Int)) (k1_5 : Int) : Nat → Int → Option (LR (List Int × Bool) (Int))
  | 0, _ => none
  | n + 1, y1_19 =>
    bif (ilt y1_19 k1_5) then
      gd (inL k1_4 y1_19) (
      gd (inL (gat [] k1_4 y1_19) 0) (
      gd (inL (gat [] k1_4 y1_19) 1) (
      bd (F_spec_exAt fu k1_0 (gat 0 (gat [] k1_4 y1_19) 0) (gat 0 (gat [] k1_4 y1_19) 1)) fun r3 =>
      bd (F_spec_meCount fu r3 k1_1) fun r4 =>
      bif (ieq r4 (iadd .i64 k1_3 k1_2)) then
        some (.ret (r3, true))
      else
        F_spec_exStep_L1 fu k1_0 k1_1 k1_2 k1_3 k1_4 k1_5 n (iadd .i64 y1_19 1))))
    else
      some (.brk y1_19)
def F_spec_exStep (fu : Nat) (x0 : List Int) (x1 : List Int) (x2 : Int) : Option (List Int × Bool) :=
  bd (F_spec_meCount fu x0 x1) fun r1 =>
  bd (F_spec_exPairs fu x0) fun r2 =>
  bd (F_spec_exStep_L1 fu x0 x1 x2 r1 r2 (llen r2) fu 0) fun s1 =>
  lr s1 fun s1 =>
  some ([], false)
theorem F_spec_exStep_w {fu : Nat} {H : AH} {v0 : Value} {v1 : Value} {x0 : List Int} {x1 : List Int} {x2 : Int} {r : (List Int × Bool)} (hx0 : Sl H v0 (ints x0)) (hx1 : Sl H v1 (ints x1)) (hF : F_spec_exStep fu x0 x1 x2 = some r) :
    ACallT Tryz.prog 115 [v0, v1, (Value.int .i64 x2)] H (fun u G => AgB (Fr H) H G ∧ ∃ u0 : Value, u = (Value.tuple #[u0, (Value.bool r.2)]) ∧ Sep G (Fr H) [flat u0 3 (ints r.1)]) := by
 refine ACallT.of_body (nt := 41) (rs := [.tmp 6, .tmp 7]) Tryz.func115 rfl rfl rfl rfl ?_;have A0 : AgB (Fr H) H H := .refl _ _;have S0 : Sep H (Fr H) [] := .nil;have hB := Fr.up H;unfold F_spec_exStep at hF;refine .sr fun K hK => ?_;simp [];apply hK;obtain ⟨r1, hc1, hF⟩ := bd_some hF;refine .sr fun K hK => ?_;simp [bu_43 ((hx0.agree A0.agree).tup) ((hx0.agree A0.agree).one) ((hx1.agree A0.agree).tup) ((hx1.agree A0.agree).one), ((hx0.agree A0.agree).tup), ((hx1.agree A0.agree).tup)];refine CallD.t (F_spec_meCount_w (fu := fu) (hx0.agree A0.agree) (hx1.agree A0.agree) hc1) ?_;rintro _ G3 ⟨a6, rfl, S7⟩;have A5 := A0.ext (hB.le A0.1) a6.agree;have S4 : Sep G3 (Fr H) [] := S0.app a6.agree S7 (fun _ h => h) (hB.le A0.1);simp [bu_43 ((hx0.agree A0.agree).tup) ((hx0.agree A0.agree).one) ((hx1.agree A0.agree).tup) ((hx1.agree A0.agree).one), a6.pre];apply hK;refine .seq ?_;obtain ⟨r2, hc8, hF⟩ := bd_some hF;refine .sr fun K hK => ?_;simp [((hx0.agree A5.agree).tup)];refine CallD.t (F_spec_exPairs_w (fu := fu) (hx0.agree A5.agree) hc8) ?_;rintro c9_u0 G10 ⟨a13, _, c9_C0, rfl, S14⟩;have A12 := A5.ext (hB.le A5.1) a13.agree;have S11 : Sep G10 (Fr H) [rowsC c9_u0 24 3 c9_C0 (List.map ints r2)] := S4.app a13.agree S14 (fun _ h => h) (hB.le A5.1);have q15 := (S11.rd (k := 0) rfl).lenG el_31;simp [a13.pre, q15];apply hK;refine .block ?_;obtain ⟨s16, hL17, hF⟩ := bd_some hF;have S18 := S11.pick [0] (by decide) rfl
 refine DWp.loop (fun n env G => ∃ y1_19 : Int, F_spec_exStep_L1 fu x0 x1 x2 r1 r2 (llen r2) n y1_19 = some s16 ∧ Sep G (Fr H) [rowsC c9_u0 24 3 c9_C0 (List.map ints r2)] ∧ AgB (Fr H) H G ∧ env 0 = some v0 ∧ env 1 = some v1 ∧ env 2 = some (Value.int .i64 x2) ∧ env 8 = some (Value.int .i64 r1) ∧ env 17 = some c9_u0 ∧ env 18 = some (Value.int .i64 (llen r2)) ∧ env 19 = some (Value.int .i64 y1_19)) fu ⟨0, hL17, S18, A12, by simp []⟩ ?_;rintro n1 env1 G1_ ⟨y1_19, hL17, S1_, A1_, e1_⟩;cases n1 with
 | zero => cases hL17
 | succ n1 =>
  simp only [F_spec_exStep_L1] at hL17;refine .sr fun K hK => ?_;simp [e1_];apply hK;refine .seq ?_;refine DWp.cond' (t := (ilt y1_19 (llen r2))) (by simp [e1_]) (fun hb19 => ?_) (fun hb19 => ?_)
  ·replace hL17 := cd_t hb19 hL17;refine DWp.skip ?_;simp only [andThen, leaves];refine .seq ?_;refine .block ?_;obtain ⟨g20, hL17⟩ := gd_some hL17;have q21 := (S1_.rd (k := 0) rfl).idxG (kk := .i64) el_31 sz_24 g20;have q22 := (S1_.rd (k := 0) rfl).loadG sz_24 ag_24 g20;refine .sr fun K hK => ?_;simp [e1_, q21, q22];apply hK;obtain ⟨g23, hL17⟩ := gd_some hL17;have q24 := idxG (kk := .i64) ((S1_.rd (k := 0) rfl).rowAt [] g20) el_24 sz_3 g23;replace q24 : aIndexAddr Tryz.prog G1_ 24 (gat nilV c9_C0 y1_19) (Value.int .i64 0) = some (elP (gat nilV c9_C0 y1_19) 0) := q24;have q25 := loadG ((S1_.rd (k := 0) rfl).rowAt [] g20) sz_3 ag_3 g23 0;replace q25 : aLoad Tryz.prog G1_ 3 (elP (gat nilV c9_C0 y1_19) 0) = some (Value.int .i64 (gat 0 (gat [] r2 y1_19) 0)) := q25;obtain ⟨g26, hL17⟩ := gd_some hL17;have q27 := idxG (kk := .i64) ((S1_.rd (k := 0) rfl).rowAt [] g20) el_24 sz_3 g26;replace q27 : aIndexAddr Tryz.prog G1_ 24 (gat nilV c9_C0 y1_19) (Value.int .i64 1) = some (elP (gat nilV c9_C0 y1_19) 1) := q27;have q28 := loadG ((S1_.rd (k := 0) rfl).rowAt [] g20) sz_3 ag_3 g26 0;replace q28 : aLoad Tryz.prog G1_ 3 (elP (gat nilV c9_C0 y1_19) 1) = some (Value.int .i64 (gat 0 (gat [] r2 y1_19) 1)) := q28;obtain ⟨r3, hc29, hL17⟩ := bd_some hL17;refine .sd (B := [0, 0, 2, 6, 0, 16, 48, 127, 255]) 9 mixed (by kernel_rfl) (by decide) fun K hK => ?_;simp [e1_, q24, q25, q27, q28, ((hx0.agree A1_.agree).tup)];refine CallD.t (F_spec_exAt_w (fu := fu) (hx0.agree A1_.agree) hc29) ?_;rintro c30_u0 G31 ⟨a34, _, rfl, S35⟩;have A33 := A1_.ext (hB.le A1_.1) a34.agree
   have S32 : Sep G31 (Fr H) [rowsC c9_u0 24 3 c9_C0 (List.map ints r2), flat c30_u0 3 (ints r3)] := S1_.app a34.agree S35 (fun _ h => h) (hB.le A1_.1);simp [e1_, q24, q25, q27, q28, a34.pre];apply hK;obtain ⟨r4, hc36, hL17⟩ := bd_some hL17;refine .sr fun K hK => ?_;simp [e1_, bu_43 ((S32.sl (k := 1) rfl).tup) ((S32.sl (k := 1) rfl).one) ((hx1.agree A33.agree).tup) ((hx1.agree A33.agree).one), ((S32.sl (k := 1) rfl).tup), ((hx1.agree A33.agree).tup)];refine CallD.t (F_spec_meCount_w (fu := fu) (S32.sl (k := 1) rfl) (hx1.agree A33.agree) hc36) ?_;rintro _ G38 ⟨a41, rfl, S42⟩;have A40 := A33.ext (hB.le A33.1) a41.agree;have S39 : Sep G38 (Fr H) [rowsC c9_u0 24 3 c9_C0 (List.map ints r2), flat c30_u0 3 (ints r3)] := S32.app a41.agree S42 (fun _ h => h) (hB.le A33.1);simp [e1_, bu_43 ((S32.sl (k := 1) rfl).tup) ((S32.sl (k := 1) rfl).one) ((hx1.agree A33.agree).tup) ((hx1.agree A33.agree).one), a41.pre];apply hK;refine DWp.cond' (t := (ieq r4 (iadd .i64 r1 x2))) (by simp [e1_]) (fun hb43 => ?_) (fun hb43 => ?_)
   ·replace hL17 := cd_t hb43 hL17;refine .sr fun K hK => ?_;simp [e1_];apply hK;refine DWp.ret ?_;simp only [andThen, leaves];obtain rfl := Option.some.inj hL17;simp only [lr] at hF;obtain rfl := Option.some.inj hF;exact ⟨by simp, [c30_u0, (Value.bool true)], by simp [e1_, ((S39.sl (k := 1) rfl).tup)], A40, c30_u0, rfl, S39.pick [1] (by decide) rfl⟩
   ·replace hL17 := cd_f hb43 hL17;refine DWp.skip ?_;simp only [andThen, leaves];refine .region fun K hK => ?_;simp [e1_];apply hK;simp only [andThen, leaves];have S44 := S39.pick [0] (by decide) rfl;exact ⟨n1, Nat.lt_succ_self _, (iadd .i64 y1_19 1), hL17, S44, A40, by simp [e1_]⟩
  ·replace hL17 := cd_f hb19 hL17;refine DWp.exit ?_;simp only [andThen, leaves, if_true, if_false, reduceIte, Nat.reduceEqDiff];obtain rfl := Option.some.inj hL17;simp only [lr] at hF;refine .sr fun K hK => ?_;simp [e1_];apply hK;refine DWp.ret ?_;have S45 := S1_.nilItem (hB.le A1_.1) 3;obtain rfl := Option.some.inj hF;exact ⟨by simp, [(Value.slice none 0 0), (Value.bool false)], by simp [e1_], A1_, (Value.slice none 0 0), rfl, S45.pick [1] (by decide) rfl⟩
def F_spec_exPath_L1 (fu : Nat) (k1_0 : List Int) (k1_1 : Int) : Nat → List (List Int) → Option (LR (List (List Int)) (List (List Int)))
  | 0, _ => none
  | n + 1, l1_0 =>
    gd (inL l1_0 (isub .i64 (llen l1_0) 1)) (
    bd (F_spec_exStep fu (gat [] l1_0 (isub .i64 (llen l1_0) 1)) k1_0 k1_1) fun r2 =>
    bif (bnot r2.2) then
      some (.ret l1_0)
    else
      gd (l1_0.length + 1 ≤ 4294967296) (
      F_spec_exPath_L1 fu k1_0 k1_1 n (lapp l1_0 [r2.1])))
def F_spec_exPath (fu : Nat) (x0 : List Int) (x1 : List Int) (x2 : Int) : Option (List (List Int)) :=
  bd (F_spec_l1Own fu x0) fun r1 =>
  bd (F_spec_exPath_L1 fu x1 x2 fu [r1]) fun s1 => lr s1 fun _ => none
theorem F_spec_exPath_w {fu : Nat} {H : AH} {v0 : Value} {v1 : Value} {x0 : List Int} {x1 : List Int} {x2 : Int} {r : (List (List Int))} (hx0 : Sl H v0 (ints x0)) (hx1 : Sl H v1 (ints x1)) (hF : F_spec_exPath fu x0 x1 x2 = some r) :
    ACallT Tryz.prog 75 [v0, v1, (Value.int .i64 x2)] H (fun u G => AgB (Fr H) H G ∧ ∃ u0 : Value, ∃ C0 : List Value, u = u0 ∧ Sep G (Fr H) [rowsC u0 24 3 C0 (List.map ints r)]) := by
 refine ACallT.of_body (nt := 32) (rs := [.tmp 6]) Tryz.func75 rfl rfl rfl rfl ?_;have A0 : AgB (Fr H) H H := .refl _ _;have S0 : Sep H (Fr H) [] := .nil;have hB := Fr.up H;unfold F_spec_exPath at hF;refine .sr fun K hK => ?_;simp [];apply hK;obtain ⟨r1, hc1, hF⟩ := bd_some hF;refine .sr fun K hK => ?_;simp [((hx0.agree A0.agree).tup)];refine CallD.t (F_spec_l1Own_w (fu := fu) (hx0.agree A0.agree) hc1) ?_;rintro c2_u0 G3 ⟨a6, _, rfl, S7⟩;have A5 := A0.ext (hB.le A0.1) a6.agree;have S4 : Sep G3 (Fr H) [flat c2_u0 3 (ints r1)] := S0.app a6.agree S7 (fun _ h => h) (hB.le A0.1);obtain ⟨v8, G9, q10, S11, a13, _, _⟩ := S4.lit1 (t := 31) (hB.le A5.1) el_31 ei_24 rfl c2_u0 ((S4.sl (k := 0) rfl).tup) ((S4.sl (k := 0) rfl).one);have A12 := A5.ext (hB.le A5.1) a13;replace S11 : Sep G9 (Fr H) [flat c2_u0 3 (ints r1), flat1 v8 24 [c2_u0]] := S11;simp [a6.pre, q10, a13.to_pre, ((S4.sl (k := 0) rfl).tup)];apply hK;refine .block ?_;have S14 : Sep G9 (Fr H) [emp, rowsC v8 24 3 [c2_u0] (List.map ints [r1])] := S11.rowsOf1 (j := 1) (k := 0) (by decide) rfl rfl;obtain ⟨s15, hL16, hF⟩ := bd_some hF;have S17 := S14.pick [1] (by decide) rfl;refine DWp.loop (fun n env G => ∃ l1_0 : List (List Int), ∃ w1_0 : Value, ∃ D1_0 : List Value, F_spec_exPath_L1 fu x1 x2 n l1_0 = some s15 ∧ Sep G (Fr H) [rowsC w1_0 24 3 D1_0 (List.map ints l1_0)] ∧ AgB (Fr H) H G ∧ env 1 = some v1 ∧ env 2 = some (Value.int .i64 x2) ∧ env 7 = some w1_0) fu ⟨[r1], v8, [c2_u0], hL16, S17, A12, by simp []⟩ ?_;rintro n1 env1 G1_ ⟨l1_0, w1_0, D1_0, hL16, S1_, A1_, e1_⟩;cases n1 with
 | zero => cases hL16
 | succ n1 =>
  simp only [F_spec_exPath_L1] at hL16;refine .block ?_;have q18 := (S1_.rd (k := 0) rfl).lenG el_31;obtain ⟨g19, hL16⟩ := gd_some hL16;have q20 := (S1_.rd (k := 0) rfl).idxG (kk := .i64) el_31 sz_24 g19;have q21 := (S1_.rd (k := 0) rfl).loadG sz_24 ag_24 g19;obtain ⟨r2, hc22, hL16⟩ := bd_some hL16;refine .sr fun K hK => ?_;simp [e1_, q18, q20, q21, (((S1_.rd (k := 0) rfl).rowAt [] g19).tup), ((hx1.agree A1_.agree).tup)];refine CallD.t (F_spec_exStep_w (fu := fu) ((S1_.rd (k := 0) rfl).rowAt [] g19) (hx1.agree A1_.agree) hc22) ?_;rintro _ G24 ⟨a27, c23_u0, rfl, S28⟩;have A26 := A1_.ext (hB.le A1_.1) a27.agree;have S25 : Sep G24 (Fr H) [rowsC w1_0 24 3 D1_0 (List.map ints l1_0), flat c23_u0 3 (ints r2.1)] := S1_.app a27.agree S28 (fun _ h => h) (hB.le A1_.1);simp [e1_, q18, q20, q21, a27.pre];apply hK;refine .seq ?_;refine .sr fun K hK => ?_;simp [e1_];apply hK;refine DWp.cond' (t := (bnot r2.2)) (by simp [e1_]) (fun hb29 => ?_) (fun hb29 => ?_)
  ·replace hL16 := cd_t hb29 hL16;refine .sr fun K hK => ?_;simp [e1_];apply hK;refine DWp.ret ?_;simp only [andThen, leaves];obtain rfl := Option.some.inj hL16;simp only [lr] at hF;obtain rfl := Option.some.inj hF;exact ⟨by simp, [w1_0], by simp [e1_, ((S25.rd (k := 0) rfl).tup)], A26, w1_0, D1_0, rfl, S25.pick [0] (by decide) rfl⟩
  ·replace hL16 := cd_f hb29 hL16;refine DWp.skip ?_;simp only [andThen, leaves];obtain ⟨v30, G31, q32, S33, a35, _, _⟩ := S25.lit1 (t := 31) (hB.le A26.1) el_31 ei_24 rfl c23_u0 ((S25.sl (k := 1) rfl).tup) ((S25.sl (k := 1) rfl).one);have A34 := A26.ext (hB.le A26.1) a35;replace S33 : Sep G31 (Fr H) [rowsC w1_0 24 3 D1_0 (List.map ints l1_0), flat c23_u0 3 (ints r2.1), flat1 v30 24 [c23_u0]] := S33;obtain ⟨g36, hL16⟩ := gd_some hL16;obtain ⟨v42, G37, q38, S39, a41, q38t, _⟩ := S33.pushRow (u := w1_0) (fr := ints) (X := l1_0) (y := r2.1) (t := 31) (t2 := 31) (j := 0) (k := 1) (by decide) rfl rfl (hB.le A34.1) el_31 el_31 ei_24 rfl (S33.sl1 (k := 2) rfl) g36;have A40 := A34.trans a41;replace S39 : Sep G37 (Fr H) [rowsC v42 24 3 (D1_0 ++ [c23_u0]) (List.map ints (lapp l1_0 [r2.1])), emp, flat1 v30 24 [c23_u0]] := S39;have q43 := S39.lastV (fr := ints) (k := 0) rfl;try simp only [List.cons_append, List.nil_append] at q43
   refine .region fun K hK => ?_;simp [e1_, q43, q32, a35.to_pre, ((S25.sl (k := 1) rfl).tup), q38, q38t];apply hK;simp only [andThen, leaves];have S44 := S39.pick [0] (by decide) rfl;exact ⟨n1, Nat.lt_succ_self _, (lapp l1_0 [r2.1]), v42, (D1_0 ++ [c23_u0]), hL16, S44, A40, by simp [e1_, q43]⟩
def F_spec_exMeanders_L1 (fu : Nat) (k1_0 : List Int) (k1_1 : List (List Int)) (k1_2 : Int) : Nat → List (List Int × List Int) → Int → Option (List (List Int × List Int) × Int)
  | 0, _, _ => none
  | n + 1, l1_0, y1_10 =>
    bif (ilt y1_10 k1_2) then
      gd (inL k1_1 y1_10) (
      gd (k1_1.length ≤ 4294967296) (
      bd (F_spec_l1Own fu k1_0) fun r1 =>
      gd (l1_0.length + 1 ≤ 4294967296) (
      F_spec_exMeanders_L1 fu k1_0 k1_1 k1_2 n (lapp l1_0 [((gat [] k1_1 y1_10), r1)]) (iadd .i64 y1_10 1))))
    else
      some (l1_0, y1_10)
def F_spec_exMeanders (fu : Nat) (x0 : List (List Int)) (x1 : List Int) : Option (List (List Int × List Int)) :=
  bd (F_spec_exMeanders_L1 fu x1 x0 (llen x0) fu (@List.nil (List Int × List Int)) 0) fun s1 =>
  some s1.1
theorem F_spec_exMeanders_w {fu : Nat} {H : AH} {B : Nat → Prop} {v0 : Value} {C0 : List Value} {v1 : Value} {x0 : List (List Int)} {x1 : List Int} {r : (List (List Int × List Int))} (hB : Up B H.length) (S0 : Sep H B [rowsC v0 24 3 C0 (List.map ints x0)]) (hx1 : Sl H v1 (ints x1)) (hdx1 : ∀ i, idOf v1 = some i → ¬ B i) (hF : F_spec_exMeanders fu x0 x1 = some r) :
    ACallT Tryz.prog 74 [v0, v1] H (fun u G => AgB B H G ∧ ∃ u0 : Value, ∃ C0 : List Value, u = u0 ∧ Sep G B [rowsP u0 43 3 C0 r]) := by
 refine ACallT.of_body (nt := 23) (rs := [.tmp 4]) Tryz.func74 rfl rfl rfl rfl ?_;have A0 : AgB B H H := .refl _ _;unfold F_spec_exMeanders at hF;refine .sr fun K hK => ?_;simp [];apply hK;refine .sr fun K hK => ?_;simp [];apply hK;refine .seq ?_;have q1 := (S0.rd (k := 0) rfl).lenG el_31;refine .sr fun K hK => ?_;simp [q1];apply hK;refine .block ?_;have S2 := S0.rpNil (hB.le A0.1) 43 3;have S3 : Sep H B [rowsT v0 24 3 C0 (List.map ints x0) 0, rowsP (Value.slice none 0 0) 43 3 [] (@List.nil (List Int × List Int))] := S2.toT (kk := 0) rfl;obtain ⟨s4, hL5, hF⟩ := bd_some hF;have S6 := S3.pick [1, 0] (by decide) rfl;refine DWp.loop (fun n env G => ∃ l1_0 : List (List Int × List Int), ∃ y1_10 : Int, ∃ w1_0 : Value, ∃ D1_0 : List Value, F_spec_exMeanders_L1 fu x1 x0 (llen x0) n l1_0 y1_10 = some s4 ∧ Sep G B [rowsP w1_0 43 3 D1_0 l1_0, rowsT v0 24 3 C0 (List.map ints x0) y1_10] ∧ AgB B H G ∧ env 1 = some v1 ∧ env 5 = some w1_0 ∧ env 8 = some v0 ∧ env 9 = some (Value.int .i64 (llen x0)) ∧ env 10 = some (Value.int .i64 y1_10)) fu ⟨(@List.nil (List Int × List Int)), 0, (Value.slice none 0 0), [], hL5, S6, A0, by simp []⟩ ?_;rintro n1 env1 G1_ ⟨l1_0, y1_10, w1_0, D1_0, hL5, S1_, A1_, e1_⟩;cases n1 with
 | zero => cases hL5
 | succ n1 =>
  simp only [F_spec_exMeanders_L1] at hL5;refine .sr fun K hK => ?_;simp [e1_];apply hK;refine .seq ?_;refine DWp.cond' (t := (ilt y1_10 (llen x0))) (by simp [e1_]) (fun hb7 => ?_) (fun hb7 => ?_)
  ·replace hL5 := cd_t hb7 hL5;refine DWp.skip ?_;simp only [andThen, leaves];refine .seq ?_;refine .block ?_;obtain ⟨g8, hL5⟩ := gd_some hL5;have q9 := S1_.idxT (ki := .i64) (kk := 1) rfl el_31 sz_24 g8;have q11 := S1_.loadT (kk := 1) rfl sz_24 ag_24 g8;obtain ⟨g12, hL5⟩ := gd_some hL5;have S13 : Sep G1_ B [rowsP w1_0 43 3 D1_0 l1_0, rowsT v0 24 3 C0 (List.map ints x0) (iadd .i64 y1_10 1), flat (gat nilV C0 y1_10) 3 (ints (gat [] x0 y1_10))] := S1_.takeT (fr := ints) (kk := 1) rfl [] g8 g12;refine .sr fun K hK => ?_;simp [e1_, q9, q11];apply hK;obtain ⟨r1, hc14, hL5⟩ := bd_some hL5;refine .region fun K hK => ?_;simp [e1_, ((hx1.agr A1_ hdx1).tup)];refine CallD.t (F_spec_l1Own_w (fu := fu) (hx1.agr A1_ hdx1) hc14) ?_;rintro c15_u0 G16 ⟨a19, _, rfl, S20⟩;have A18 := A1_.ext (hB.le A1_.1) a19.agree;have S17 : Sep G16 B [rowsP w1_0 43 3 D1_0 l1_0, rowsT v0 24 3 C0 (List.map ints x0) (iadd .i64 y1_10 1), flat (gat nilV C0 y1_10) 3 (ints (gat [] x0 y1_10)), flat c15_u0 3 (ints r1)] := S13.app a19.agree S20 (fun _ h => h) (hB.le A1_.1);obtain ⟨v21, G22, q23, S24, a26, _, _⟩ := S17.litP1 (t := 45) (hB.le A18.1) el_45 ei_43 rfl (gat nilV C0 y1_10) c15_u0;have A25 := A18.ext (hB.le A18.1) a26;replace S24 : Sep G22 B [rowsP w1_0 43 3 D1_0 l1_0, rowsT v0 24 3 C0 (List.map ints x0) (iadd .i64 y1_10 1), flat (gat nilV C0 y1_10) 3 (ints (gat [] x0 y1_10)), flat c15_u0 3 (ints r1), flatK 2 v21 43 1 [(gat nilV C0 y1_10), c15_u0]] := S24;obtain ⟨g27, hL5⟩ := gd_some hL5
   obtain ⟨v33, G28, q29, S30, a32, q29t, _⟩ := S24.pushP (u := w1_0) (X := l1_0) (a := (gat [] x0 y1_10)) (b := r1) (t := 45) (t2 := 45) (j := 0) (k1 := 2) (k2 := 3) (by decide) (by decide) (by decide) rfl rfl rfl (hB.le A25.1) el_45 el_45 ei_43 rfl (S24.flatKSl (k := 4) rfl) g27;have A31 := A25.trans a32;replace S30 : Sep G28 B [rowsP v33 43 3 (D1_0 ++ [(gat nilV C0 y1_10), c15_u0]) (lapp l1_0 [((gat [] x0 y1_10), r1)]), rowsT v0 24 3 C0 (List.map ints x0) (iadd .i64 y1_10 1), emp, emp, flatK 2 v21 43 1 [(gat nilV C0 y1_10), c15_u0]] := S30;simp [e1_, a19.pre, bu_43 ((S17.sl (k := 2) rfl).tup) ((S17.sl (k := 2) rfl).one) ((S17.sl (k := 3) rfl).tup) ((S17.sl (k := 3) rfl).one), q23, a26.to_pre, ((S17.sl (k := 2) rfl).tup), ((S17.sl (k := 3) rfl).tup), q29, q29t];apply hK;simp only [andThen, leaves];refine .region fun K hK => ?_;simp [e1_];apply hK;simp only [andThen, leaves];have S34 := S30.pick [0, 1] (by decide) rfl;exact ⟨n1, Nat.lt_succ_self _, (lapp l1_0 [((gat [] x0 y1_10), r1)]), (iadd .i64 y1_10 1), v33, (D1_0 ++ [(gat nilV C0 y1_10), c15_u0]), hL5, S34, A31, by simp [e1_]⟩
  ·replace hL5 := cd_f hb7 hL5;refine DWp.exit ?_;simp only [andThen, leaves, if_true, if_false, reduceIte, Nat.reduceEqDiff];obtain rfl := Option.some.inj hL5;try dsimp only at hF
   refine .sr fun K hK => ?_;simp [e1_];apply hK;refine DWp.ret ?_;obtain rfl := Option.some.inj hF;exact ⟨by simp, [w1_0], by simp [e1_, ((S1_.rdP (k := 0) rfl).tup)], A1_, w1_0, D1_0, rfl, S1_.pick [0] (by decide) rfl⟩
def F_spec_MergePath (fu : Nat) (x0_0 : List Int) (x0_1 : List Int) : Option (List (List Int × List Int) × Bool) :=
  bd (F_spec_exSome fu x0_0 x0_1) fun r1 =>
  bif (bnot r1) then
    some ([], false)
  else
    bd (F_spec_exPath fu x0_0 x0_1 (-1)) fun r2 =>
    bd (F_spec_exMeanders fu r2 x0_1) fun r3 =>
    some (r3, true)
theorem F_spec_MergePath_w {fu : Nat} {H : AH} {v0_0 : Value} {v0_1 : Value} {x0_0 : List Int} {x0_1 : List Int} {r : (List (List Int × List Int) × Bool)} (hx0_0 : Sl H v0_0 (ints x0_0)) (hx0_1 : Sl H v0_1 (ints x0_1)) (hF : F_spec_MergePath fu x0_0 x0_1 = some r) :
    ACallT Tryz.prog 27 [(Value.agg #[v0_0, v0_1])] H (fun u G => AgB (Fr H) H G ∧ ∃ u0 : Value, ∃ C0 : List Value, u = (Value.tuple #[u0, (Value.bool r.2)]) ∧ Sep G (Fr H) [rowsP u0 43 3 C0 r.1]) := by
 refine ACallT.of_body (nt := 15) (rs := [.tmp 2, .tmp 3]) Tryz.func27 rfl rfl rfl rfl ?_;have A0 : AgB (Fr H) H H := .refl _ _;have S0 : Sep H (Fr H) [] := .nil;have hB := Fr.up H;unfold F_spec_MergePath at hF;obtain ⟨G2, p4, q5, q6, a7, S1⟩ := S0.boxT (hB.le A0.1) 43 [v0_0, v0_1];have A3 := A0.ext (hB.le A0.1) a7;replace S1 : Sep G2 (Fr H) [AL.box p4 [v0_0, v0_1]] := S1;refine .sr fun K hK => ?_;simp [q5, q6, a7.to_pre, cells_agg];apply hK;refine .seq ?_;have q8 := S1.loadAgg (k := 0) rfl sz_43 ag_43 rfl;obtain ⟨r1, hc9, hF⟩ := bd_some hF;refine .sr fun K hK => ?_;simp [q8, ((hx0_0.agree A3.agree).tup), ((hx0_1.agree A3.agree).tup)];refine CallD.t (F_spec_exSome_w (fu := fu) (hx0_0.agree A3.agree) (hx0_1.agree A3.agree) hc9) ?_;rintro _ G11 ⟨a14, rfl, S15⟩;have A13 := A3.ext (hB.le A3.1) a14.agree;have S12 : Sep G11 (Fr H) [AL.box p4 [v0_0, v0_1]] := S1.app a14.agree S15 (fun _ h => h) (hB.le A3.1);simp [q8, a14.pre];apply hK;refine DWp.cond' (t := (bnot r1)) (by simp []) (fun hb16 => ?_) (fun hb16 => ?_)
 ·replace hF := cd_t hb16 hF;refine .sr fun K hK => ?_;simp [];apply hK;refine DWp.ret ?_;simp only [andThen, leaves];have S17 := S12.rpNil (hB.le A13.1) 43 3;obtain rfl := Option.some.inj hF;exact ⟨by simp, [(Value.slice none 0 0), (Value.bool false)], by simp [], A13, nilV, [], rfl, S17.pick [1] (by decide) rfl⟩
 ·replace hF := cd_f hb16 hF;refine DWp.skip ?_;simp only [andThen, leaves];have q18 := S12.fieldT (k := 0) rfl fa_43_0;have q19 := S12.loadF (k := 0) rfl sz_24 ag_24 (off := 0) rfl;have q20 := S12.fieldT (k := 0) rfl fa_43_1;have q21 := S12.loadF (k := 0) rfl sz_24 ag_24 (off := 1) rfl;obtain ⟨r2, hc22, hF⟩ := bd_some hF;refine .sd (B := [0, 1, 0, 4, 15, 0, 32, 127, 255, 511]) 7 mixed (by kernel_rfl) (by decide) fun K hK => ?_;simp [q18, q19, q20, q21, ((hx0_0.agree A13.agree).tup), ((hx0_1.agree A13.agree).tup)];refine CallD.t (F_spec_exPath_w (fu := fu) (hx0_0.agree A13.agree) (hx0_1.agree A13.agree) hc22) ?_;rintro c23_u0 G24 ⟨a27, _, c23_C0, rfl, S28⟩;have A26 := A13.ext (hB.le A13.1) a27.agree;have S25 : Sep G24 (Fr H) [AL.box p4 [v0_0, v0_1], rowsC c23_u0 24 3 c23_C0 (List.map ints r2)] := S12.app a27.agree S28 (fun _ h => h) (hB.le A13.1);have q29 := S25.fieldT (k := 0) rfl fa_43_1;have q30 := S25.loadF (k := 0) rfl sz_24 ag_24 (off := 1) rfl;obtain ⟨r3, hc31, hF⟩ := bd_some hF;simp [q18, q19, q20, q21, a27.pre, q29, q30, ((S25.rd (k := 1) rfl).tup), ((hx0_1.agree A26.agree).tup)];have S32 : Sep G24 (Fr H) ([rowsC c23_u0 24 3 c23_C0 (List.map ints r2)] ++ [AL.box p4 [v0_0, v0_1]]) := S25.pick [1, 0] (by decide) rfl;obtain ⟨B38, S33, U34, M35, R36, C37⟩ := S32.frame (hB.le A26.1);refine CallD.t (F_spec_exMeanders_w (fu := fu) U34 S33 (hx0_1.agree A26.agree) (fun i_ hi_ hb_ => Nat.not_le.2 (hx0_1.id_lt hi_) (M35 i_ hb_)) hc31) ?_;rintro c39_u0 G40 ⟨a43, _, c39_C0, rfl, S44⟩;have A42 := A26.trans (a43.mono M35);have S41 : Sep G40 (Fr H) [rowsP c39_u0 43 3 c39_C0 r3, AL.box p4 [v0_0, v0_1]] := C37 _ _ a43 S44;simp [q18, q19, q20, q21, a27.pre, q29, q30];apply hK
  clear hK K;refine DWp.ret ?_;obtain rfl := Option.some.inj hF;exact ⟨by simp, [c39_u0, (Value.bool true)], by simp [((S41.rdP (k := 0) rfl).tup)], A42, c39_u0, c39_C0, rfl, S41.pick [0] (by decide) rfl⟩
def F_impl_MergeDistance (fu : Nat) (x0_0 : List Int) (x0_1 : List Int) : Option (Int × Bool) :=
  bd (F_impl_isCut fu x0_0 x0_1) fun r1 =>
  bif (bnot r1) then
    some (0, false)
  else
    bd (F_impl_Meander_components fu x0_0 x0_1) fun r2 =>
    some ((isub .i64 r2 1), true)
theorem F_impl_MergeDistance_w {fu : Nat} {H : AH} {v0_0 : Value} {v0_1 : Value} {x0_0 : List Int} {x0_1 : List Int} {r : (Int × Bool)} (hx0_0 : Sl H v0_0 (ints x0_0)) (hx0_1 : Sl H v0_1 (ints x0_1)) (hF : F_impl_MergeDistance fu x0_0 x0_1 = some r) :
    ACallT Tryz.prog 28 [(Value.agg #[v0_0, v0_1])] H (fun u G => AgB (Fr H) H G ∧ u = (Value.tuple #[(Value.int .i64 r.1), (Value.bool r.2)]) ∧ Sep G (Fr H) []) := by
 refine ACallT.of_body (nt := 10) (rs := [.tmp 2, .tmp 3]) Tryz.func28 rfl rfl rfl rfl ?_;have A0 : AgB (Fr H) H H := .refl _ _;have S0 : Sep H (Fr H) [] := .nil;have hB := Fr.up H;unfold F_impl_MergeDistance at hF;obtain ⟨G2, p4, q5, q6, a7, S1⟩ := S0.boxT (hB.le A0.1) 43 [v0_0, v0_1];have A3 := A0.ext (hB.le A0.1) a7;replace S1 : Sep G2 (Fr H) [AL.box p4 [v0_0, v0_1]] := S1;refine .sr fun K hK => ?_;simp [q5, q6, a7.to_pre, cells_agg];apply hK;refine .seq ?_;have q8 := S1.loadAgg (k := 0) rfl sz_43 ag_43 rfl;obtain ⟨r1, hc9, hF⟩ := bd_some hF;refine .sr fun K hK => ?_;simp [q8, ((hx0_0.agree A3.agree).tup), ((hx0_1.agree A3.agree).tup)];refine CallD.t (F_impl_isCut_w (fu := fu) (hx0_0.agree A3.agree) (hx0_1.agree A3.agree) hc9) ?_;rintro _ G11 ⟨a14, rfl, S15⟩;have A13 := A3.ext (hB.le A3.1) a14.agree;have S12 : Sep G11 (Fr H) [AL.box p4 [v0_0, v0_1]] := S1.app a14.agree S15 (fun _ h => h) (hB.le A3.1);simp [q8, a14.pre];apply hK;refine DWp.cond' (t := (bnot r1)) (by simp []) (fun hb16 => ?_) (fun hb16 => ?_)
 ·replace hF := cd_t hb16 hF;refine .sr fun K hK => ?_;simp [];apply hK;refine DWp.ret ?_;simp only [andThen, leaves];obtain rfl := Option.some.inj hF;exact ⟨by simp, [(Value.int .i64 0), (Value.bool false)], by simp [], A13, rfl, S12.pick [] (by decide) rfl⟩
 ·replace hF := cd_f hb16 hF;refine DWp.skip ?_;simp only [andThen, leaves];have q17 := S12.loadAgg (k := 0) rfl sz_43 ag_43 rfl;obtain ⟨r2, hc18, hF⟩ := bd_some hF;refine .sr fun K hK => ?_;simp [q17, ((hx0_0.agree A13.agree).tup), ((hx0_1.agree A13.agree).tup)];refine CallD.t (F_impl_Meander_components_w (fu := fu) (hx0_0.agree A13.agree) (hx0_1.agree A13.agree) hc18) ?_;rintro _ G20 ⟨a23, rfl, S24⟩;have A22 := A13.ext (hB.le A13.1) a23.agree;have S21 : Sep G20 (Fr H) [AL.box p4 [v0_0, v0_1]] := S12.app a23.agree S24 (fun _ h => h) (hB.le A13.1);simp [q17, a23.pre];apply hK;refine DWp.ret ?_;obtain rfl := Option.some.inj hF;exact ⟨by simp, [(Value.int .i64 (isub .i64 r2 1)), (Value.bool true)], by simp [], A22, rfl, S21.pick [] (by decide) rfl⟩
def F_spec_MergeDistance (fu : Nat) (x0_0 : List Int) (x0_1 : List Int) : Option (Int × Bool) :=
  bd (F_spec_exSome fu x0_0 x0_1) fun r1 =>
  bif (bnot r1) then
    some (0, false)
  else
    bd (F_spec_meCount fu x0_0 x0_1) fun r2 =>
    some ((isub .i64 r2 1), true)
theorem F_spec_MergeDistance_w {fu : Nat} {H : AH} {v0_0 : Value} {v0_1 : Value} {x0_0 : List Int} {x0_1 : List Int} {r : (Int × Bool)} (hx0_0 : Sl H v0_0 (ints x0_0)) (hx0_1 : Sl H v0_1 (ints x0_1)) (hF : F_spec_MergeDistance fu x0_0 x0_1 = some r) :
    ACallT Tryz.prog 29 [(Value.agg #[v0_0, v0_1])] H (fun u G => AgB (Fr H) H G ∧ u = (Value.tuple #[(Value.int .i64 r.1), (Value.bool r.2)]) ∧ Sep G (Fr H) []) := by
 refine ACallT.of_body (nt := 10) (rs := [.tmp 2, .tmp 3]) Tryz.func29 rfl rfl rfl rfl ?_;have A0 : AgB (Fr H) H H := .refl _ _;have S0 : Sep H (Fr H) [] := .nil;have hB := Fr.up H;unfold F_spec_MergeDistance at hF;obtain ⟨G2, p4, q5, q6, a7, S1⟩ := S0.boxT (hB.le A0.1) 43 [v0_0, v0_1];have A3 := A0.ext (hB.le A0.1) a7;replace S1 : Sep G2 (Fr H) [AL.box p4 [v0_0, v0_1]] := S1;refine .sr fun K hK => ?_;simp [q5, q6, a7.to_pre, cells_agg];apply hK;refine .seq ?_;have q8 := S1.loadAgg (k := 0) rfl sz_43 ag_43 rfl;obtain ⟨r1, hc9, hF⟩ := bd_some hF;refine .sr fun K hK => ?_;simp [q8, ((hx0_0.agree A3.agree).tup), ((hx0_1.agree A3.agree).tup)];refine CallD.t (F_spec_exSome_w (fu := fu) (hx0_0.agree A3.agree) (hx0_1.agree A3.agree) hc9) ?_;rintro _ G11 ⟨a14, rfl, S15⟩;have A13 := A3.ext (hB.le A3.1) a14.agree;have S12 : Sep G11 (Fr H) [AL.box p4 [v0_0, v0_1]] := S1.app a14.agree S15 (fun _ h => h) (hB.le A3.1);simp [q8, a14.pre];apply hK;refine DWp.cond' (t := (bnot r1)) (by simp []) (fun hb16 => ?_) (fun hb16 => ?_)
 ·replace hF := cd_t hb16 hF;refine .sr fun K hK => ?_;simp [];apply hK;refine DWp.ret ?_;simp only [andThen, leaves];obtain rfl := Option.some.inj hF;exact ⟨by simp, [(Value.int .i64 0), (Value.bool false)], by simp [], A13, rfl, S12.pick [] (by decide) rfl⟩
 ·replace hF := cd_f hb16 hF;refine DWp.skip ?_;simp only [andThen, leaves];have q17 := S12.loadAgg (k := 0) rfl sz_43 ag_43 rfl;obtain ⟨r2, hc18, hF⟩ := bd_some hF;refine .sr fun K hK => ?_;simp [q17, ((hx0_0.agree A13.agree).tup), ((hx0_1.agree A13.agree).tup)];refine CallD.t (F_spec_meCount_w (fu := fu) (hx0_0.agree A13.agree) (hx0_1.agree A13.agree) hc18) ?_;rintro _ G20 ⟨a23, rfl, S24⟩;have A22 := A13.ext (hB.le A13.1) a23.agree;have S21 : Sep G20 (Fr H) [AL.box p4 [v0_0, v0_1]] := S12.app a23.agree S24 (fun _ h => h) (hB.le A13.1);simp [q17, a23.pre];apply hK;refine DWp.ret ?_;obtain rfl := Option.some.inj hF;exact ⟨by simp, [(Value.int .i64 (isub .i64 r2 1)), (Value.bool true)], by simp [], A22, rfl, S21.pick [] (by decide) rfl⟩
end Go.Proofs.YtogghgecmjnieaaGreat.AL

/- The walks of functions, each with its Lean function: laws.sLess, impl.isArches, impl.covered, impl.joined, impl.systems, impl.AllSystems, impl.SignOf, laws.sHas, impl.ComponentsOf, laws.sCount. No condition. -/
import Derived.Test.YtogghgecmjnieaaGreatG1
import Derived.Test.YtogghgecmjnieaaGreatG2
import Derived.Test.YtogghgecmjnieaaGreatG3
import Derived.Test.YtogghgecmjnieaaGreatG4
import Derived.Test.YtogghgecmjnieaaGreatG5
import Derived.Test.YtogghgecmjnieaaGreatG6
import Derived.Test.YtogghgecmjnieaaGreatG7
import Derived.Test.YtogghgecmjnieaaGreatG8
import Derived.Test.YtogghgecmjnieaaGreatG9
import Derived.Test.YtogghgecmjnieaaGreatALD
import Derived.Test.YtogghgecmjnieaaGreatProg
import Derived.KernelRfl
namespace Go.Proofs.YtogghgecmjnieaaGreat.AL
open Go Go.RowKit
set_option linter.unusedVariables false
set_option linter.unusedSimpArgs false
set_option maxRecDepth 4096
attribute [local simp] n_fn b_add b_sub b_mul b_lt b_le b_gt b_ge b_eq b_ne u_not

def F_impl_covered_L1 (fu : Nat) (k1_0 : List Int) (k1_1 : Int) : Nat → List Int → Int → Option (List Int × Int)
  | 0, _, _ => none
  | n + 1, l1_0, y1_12 =>
    bif (ilt y1_12 k1_1) then
      gd (inL k1_0 y1_12) (
      gd (l1_0.length + [(iadd .i64 (gat 0 k1_0 y1_12) 1)].length ≤ 4294967296) (
      F_impl_covered_L1 fu k1_0 k1_1 n (lapp l1_0 [(iadd .i64 (gat 0 k1_0 y1_12) 1)]) (iadd .i64 y1_12 1)))
    else
      some (l1_0, y1_12)
def F_impl_covered (fu : Nat) (x0 : List Int) : Option (List Int) :=
  bd (F_impl_covered_L1 fu x0 (llen x0) fu [(iadd .i64 (llen x0) 1)] 0) fun s1 =>
  gd (s1.1.length + [0].length ≤ 4294967296) (
  some (lapp s1.1 [0]))
theorem F_impl_covered_w {fu : Nat} {H : AH} {v0 : Value} {x0 : List Int} {r : (List Int)} (hx0 : Sl H v0 (ints x0)) (hF : F_impl_covered fu x0 = some r) :
    ACallT Tryz.prog 112 [v0] H (fun u G => AgB (Fr H) H G ∧ ∃ u0 : Value, u = u0 ∧ Sep G (Fr H) [flat u0 3 (ints r)]) := by
 refine ACallT.of_body (nt := 25) (rs := [.tmp 2]) Tryz.func112 rfl rfl rfl rfl ?_;have A0 : AgB (Fr H) H H := .refl _ _;have S0 : Sep H (Fr H) [] := .nil;have hB := Fr.up H;unfold F_impl_covered at hF;refine .sr fun K hK => ?_;simp [];apply hK;have q1 := lenG (hx0.agree A0.agree) el_24;obtain ⟨v2, G3, q4, S5, a7, _, _⟩ := S0.lit1 (t := 24) (hB.le A0.1) el_24 ei_3 rfl (Value.int .i64 (iadd .i64 (llen x0) 1)) rfl rfl;have A6 := A0.ext (hB.le A0.1) a7;replace S5 : Sep G3 (Fr H) [flat1 v2 3 (ints [(iadd .i64 (llen x0) 1)])] := S5;refine .sr fun K hK => ?_;simp [q1, q4, a7.to_pre];apply hK;refine .seq ?_;have q9 := lenG (hx0.agree A6.agree) el_24;refine .sr fun K hK => ?_;simp [q9];apply hK;refine .block ?_;obtain ⟨s10, hL11, hF⟩ := bd_some hF;have S12 := S5.pick [0] (by decide) rfl;have S13 := S12.weak (k := 0) rfl;refine DWp.loop (fun n env G => ∃ l1_0 : List Int, ∃ y1_12 : Int, ∃ w1_0 : Value, F_impl_covered_L1 fu x0 (llen x0) n l1_0 y1_12 = some s10 ∧ Sep G (Fr H) [flat w1_0 3 (ints l1_0)] ∧ AgB (Fr H) H G ∧ env 3 = some w1_0 ∧ env 10 = some v0 ∧ env 11 = some (Value.int .i64 (llen x0)) ∧ env 12 = some (Value.int .i64 y1_12)) fu ⟨[(iadd .i64 (llen x0) 1)], 0, v2, hL11, S13, A6, by simp []⟩ ?_;rintro n1 env1 G1_ ⟨l1_0, y1_12, w1_0, hL11, S1_, A1_, e1_⟩;cases n1 with
 | zero => cases hL11
 | succ n1 =>
  simp only [F_impl_covered_L1] at hL11;refine .sr fun K hK => ?_;simp [e1_];apply hK;refine .seq ?_;refine DWp.cond' (t := (ilt y1_12 (llen x0))) (by simp [e1_]) (fun hb14 => ?_) (fun hb14 => ?_)
  ·replace hL11 := cd_t hb14 hL11;refine DWp.skip ?_;simp only [andThen, leaves];refine .seq ?_;refine .block ?_;obtain ⟨g15, hL11⟩ := gd_some hL11;have q16 := idxG (kk := .i64) (hx0.agree A1_.agree) el_24 sz_3 g15;have q17 := loadG (hx0.agree A1_.agree) sz_3 ag_3 g15 0;refine .sr fun K hK => ?_;simp [e1_, q16, q17];apply hK;obtain ⟨v18, G19, q20, S21, a23, _, _⟩ := S1_.lit1 (t := 24) (hB.le A1_.1) el_24 ei_3 rfl (Value.int .i64 (iadd .i64 (gat 0 x0 y1_12) 1)) rfl rfl;have A22 := A1_.ext (hB.le A1_.1) a23;replace S21 : Sep G19 (Fr H) [flat w1_0 3 (ints l1_0), flat1 v18 3 (ints [(iadd .i64 (gat 0 x0 y1_12) 1)])] := S21;obtain ⟨g25, hL11⟩ := gd_some hL11;obtain ⟨v31, G26, q27, S28, a30, _, _⟩ := S21.appendG (f := (Value.int .i64)) (xs := l1_0) (ys := [(iadd .i64 (gat 0 x0 y1_12) 1)]) (t := 24) (t2 := 24) (k := 0) rfl (hB.le A22.1) el_24 el_24 ei_3 rfl (S21.sl1 (k := 1) rfl) g25;have A29 := A22.trans a30;replace S28 : Sep G26 (Fr H) [flat v31 3 (ints (lapp l1_0 [(iadd .i64 (gat 0 x0 y1_12) 1)])), flat1 v18 3 (ints [(iadd .i64 (gat 0 x0 y1_12) 1)])] := S28;refine .region fun K hK => ?_;simp [e1_, q20, a23.to_pre, q27];apply hK;simp only [andThen, leaves];refine .region fun K hK => ?_;simp [e1_];apply hK;simp only [andThen, leaves];have S32 := S28.pick [0] (by decide) rfl;exact ⟨n1, Nat.lt_succ_self _, (lapp l1_0 [(iadd .i64 (gat 0 x0 y1_12) 1)]), (iadd .i64 y1_12 1), v31, hL11, S32, A29, by simp [e1_]⟩
  ·replace hL11 := cd_f hb14 hL11;refine DWp.exit ?_;simp only [andThen, leaves, if_true, if_false, reduceIte, Nat.reduceEqDiff];obtain rfl := Option.some.inj hL11;try dsimp only at hF
   obtain ⟨v33, G34, q35, S36, a38, _, _⟩ := S1_.lit1 (t := 24) (hB.le A1_.1) el_24 ei_3 rfl (Value.int .i64 0) rfl rfl;have A37 := A1_.ext (hB.le A1_.1) a38;replace S36 : Sep G34 (Fr H) [flat w1_0 3 (ints l1_0), flat1 v33 3 (ints [0])] := S36;obtain ⟨g40, hF⟩ := gd_some hF;obtain ⟨v46, G41, q42, S43, a45, _, _⟩ := S36.appendG (f := (Value.int .i64)) (xs := l1_0) (ys := [0]) (t := 24) (t2 := 24) (k := 0) rfl (hB.le A37.1) el_24 el_24 ei_3 rfl (S36.sl1 (k := 1) rfl) g40;have A44 := A37.trans a45;replace S43 : Sep G41 (Fr H) [flat v46 3 (ints (lapp l1_0 [0])), flat1 v33 3 (ints [0])] := S43;refine .sr fun K hK => ?_;simp [e1_, q35, a38.to_pre, q42];apply hK;refine DWp.ret ?_;obtain rfl := Option.some.inj hF;exact ⟨by simp, [v46], by simp [e1_, ((S43.sl (k := 0) rfl).tup)], A44, v46, rfl, S43.pick [0] (by decide) rfl⟩
def F_impl_joined_L1 (fu : Nat) (k1_0 : List Int) (k1_1 : List Int) (k1_2 : Int) : Nat → List Int → Int → Option (List Int × Int)
  | 0, _, _ => none
  | n + 1, l1_0, y1_12 =>
    bif (ilt y1_12 k1_2) then
      gd (inL k1_1 y1_12) (
      gd (l1_0.length + [(iadd .i64 (gat 0 k1_1 y1_12) (llen k1_0))].length ≤ 4294967296) (
      F_impl_joined_L1 fu k1_0 k1_1 k1_2 n (lapp l1_0 [(iadd .i64 (gat 0 k1_1 y1_12) (llen k1_0))]) (iadd .i64 y1_12 1)))
    else
      some (l1_0, y1_12)
def F_impl_joined (fu : Nat) (x0 : List Int) (x1 : List Int) : Option (List Int) :=
  bd (F_slices_Clone_Sint fu x0) fun r1 =>
  bd (F_impl_joined_L1 fu x0 x1 (llen x1) fu r1 0) fun s1 =>
  some s1.1
theorem F_impl_joined_w {fu : Nat} {H : AH} {v0 : Value} {v1 : Value} {x0 : List Int} {x1 : List Int} {r : (List Int)} (hx0 : Sl H v0 (ints x0)) (hx1 : Sl H v1 (ints x1)) (hF : F_impl_joined fu x0 x1 = some r) :
    ACallT Tryz.prog 111 [v0, v1] H (fun u G => AgB (Fr H) H G ∧ ∃ u0 : Value, u = u0 ∧ Sep G (Fr H) [flat u0 3 (ints r)]) := by
 refine ACallT.of_body (nt := 25) (rs := [.tmp 4]) Tryz.func111 rfl rfl rfl rfl ?_;have A0 : AgB (Fr H) H H := .refl _ _;have S0 : Sep H (Fr H) [] := .nil;have hB := Fr.up H;unfold F_impl_joined at hF;refine .sr fun K hK => ?_;simp [];apply hK;obtain ⟨r1, hc1, hF⟩ := bd_some hF;refine .sr fun K hK => ?_;simp [((hx0.agree A0.agree).tup)];refine CallD.t (F_slices_Clone_Sint_w (fu := fu) (hx0.agree A0.agree) hc1) ?_;rintro c2_u0 G3 ⟨a6, _, rfl, S7⟩;have A5 := A0.ext (hB.le A0.1) a6.agree;have S4 : Sep G3 (Fr H) [flat c2_u0 3 (ints r1)] := S0.app a6.agree S7 (fun _ h => h) (hB.le A0.1);simp [a6.pre];apply hK;refine .seq ?_;have q8 := lenG (hx1.agree A5.agree) el_24;refine .sr fun K hK => ?_;simp [q8];apply hK;refine .block ?_;obtain ⟨s9, hL10, hF⟩ := bd_some hF;have S11 := S4.pick [0] (by decide) rfl;refine DWp.loop (fun n env G => ∃ l1_0 : List Int, ∃ y1_12 : Int, ∃ w1_0 : Value, F_impl_joined_L1 fu x0 x1 (llen x1) n l1_0 y1_12 = some s9 ∧ Sep G (Fr H) [flat w1_0 3 (ints l1_0)] ∧ AgB (Fr H) H G ∧ env 0 = some v0 ∧ env 5 = some w1_0 ∧ env 10 = some v1 ∧ env 11 = some (Value.int .i64 (llen x1)) ∧ env 12 = some (Value.int .i64 y1_12)) fu ⟨r1, 0, c2_u0, hL10, S11, A5, by simp []⟩ ?_;rintro n1 env1 G1_ ⟨l1_0, y1_12, w1_0, hL10, S1_, A1_, e1_⟩;cases n1 with
 | zero => cases hL10
 | succ n1 =>
  simp only [F_impl_joined_L1] at hL10;refine .sr fun K hK => ?_;simp [e1_];apply hK;refine .seq ?_;refine DWp.cond' (t := (ilt y1_12 (llen x1))) (by simp [e1_]) (fun hb12 => ?_) (fun hb12 => ?_)
  ·replace hL10 := cd_t hb12 hL10;refine DWp.skip ?_;simp only [andThen, leaves];refine .seq ?_;refine .block ?_;obtain ⟨g13, hL10⟩ := gd_some hL10;have q14 := idxG (kk := .i64) (hx1.agree A1_.agree) el_24 sz_3 g13;have q15 := loadG (hx1.agree A1_.agree) sz_3 ag_3 g13 0;refine .sr fun K hK => ?_;simp [e1_, q14, q15];apply hK;have q16 := lenG (hx0.agree A1_.agree) el_24;obtain ⟨v17, G18, q19, S20, a22, _, _⟩ := S1_.lit1 (t := 24) (hB.le A1_.1) el_24 ei_3 rfl (Value.int .i64 (iadd .i64 (gat 0 x1 y1_12) (llen x0))) rfl rfl;have A21 := A1_.ext (hB.le A1_.1) a22;replace S20 : Sep G18 (Fr H) [flat w1_0 3 (ints l1_0), flat1 v17 3 (ints [(iadd .i64 (gat 0 x1 y1_12) (llen x0))])] := S20;obtain ⟨g24, hL10⟩ := gd_some hL10;obtain ⟨v30, G25, q26, S27, a29, _, _⟩ := S20.appendG (f := (Value.int .i64)) (xs := l1_0) (ys := [(iadd .i64 (gat 0 x1 y1_12) (llen x0))]) (t := 24) (t2 := 24) (k := 0) rfl (hB.le A21.1) el_24 el_24 ei_3 rfl (S20.sl1 (k := 1) rfl) g24;have A28 := A21.trans a29;replace S27 : Sep G25 (Fr H) [flat v30 3 (ints (lapp l1_0 [(iadd .i64 (gat 0 x1 y1_12) (llen x0))])), flat1 v17 3 (ints [(iadd .i64 (gat 0 x1 y1_12) (llen x0))])] := S27;refine .region fun K hK => ?_;simp [e1_, q16, q19, a22.to_pre, q26];apply hK;simp only [andThen, leaves];refine .region fun K hK => ?_;simp [e1_];apply hK;simp only [andThen, leaves];have S31 := S27.pick [0] (by decide) rfl;exact ⟨n1, Nat.lt_succ_self _, (lapp l1_0 [(iadd .i64 (gat 0 x1 y1_12) (llen x0))]), (iadd .i64 y1_12 1), v30, hL10, S31, A28, by simp [e1_]⟩
  ·replace hL10 := cd_f hb12 hL10;refine DWp.exit ?_;simp only [andThen, leaves, if_true, if_false, reduceIte, Nat.reduceEqDiff];obtain rfl := Option.some.inj hL10;try dsimp only at hF
   refine .sr fun K hK => ?_;simp [e1_];apply hK;refine DWp.ret ?_;obtain rfl := Option.some.inj hF;exact ⟨by simp, [w1_0], by simp [e1_, ((S1_.sl (k := 0) rfl).tup)], A1_, w1_0, rfl, S1_.pick [0] (by decide) rfl⟩
def F_impl_systems_L3 (fu : Nat) (self_ : Int → Option (List (List Int))) (k3_0 : Int) (k3_1 : Int) (k3_2 : List Int) (k3_3 : List (List Int)) (k3_4 : Int) (k3_5 : Int) (k3_6 : List (List Int)) (k3_7 : Int) : Nat → List (List Int) → Int → Option (List (List Int) × Int)
  | 0, _, _ => none
  | n + 1, l3_0, y3_31 =>
    bif (ilt y3_31 k3_7) then
      gd (inL k3_6 y3_31) (
      bd (F_impl_covered fu k3_2) fun r3 =>
      bd (F_impl_joined fu r3 (gat [] k3_6 y3_31)) fun r4 =>
      gd (l3_0.length + 1 ≤ 4294967296) (
      F_impl_systems_L3 fu self_ k3_0 k3_1 k3_2 k3_3 k3_4 k3_5 k3_6 k3_7 n (lapp l3_0 [r4]) (iadd .i64 y3_31 1)))
    else
      some (l3_0, y3_31)
def F_impl_systems_L2 (fu : Nat) (self_ : Int → Option (List (List Int))) (k2_0 : Int) (k2_1 : Int) (k2_2 : List (List Int)) (k2_3 : Int) : Nat → List (List Int) → Int → Option (List (List Int) × Int)
  | 0, _, _ => none
  | n + 1, l2_0, y2_21 =>
    bif (ilt y2_21 k2_3) then
      gd (inL k2_2 y2_21) (
      bd (self_ (isub .i64 (isub .i64 k2_0 1) k2_1)) fun r2 =>
      bd (F_impl_systems_L3 fu self_ k2_0 k2_1 (gat [] k2_2 y2_21) k2_2 k2_3 y2_21 r2 (llen r2) fu l2_0 0) fun s3 =>
      F_impl_systems_L2 fu self_ k2_0 k2_1 k2_2 k2_3 n s3.1 (iadd .i64 y2_21 1))
    else
      some (l2_0, y2_21)
def F_impl_systems_L1 (fu : Nat) (self_ : Int → Option (List (List Int))) (k1_0 : Int) : Nat → List (List Int) → Int → Option (List (List Int) × Int)
  | 0, _, _ => none
  | n + 1, l1_0, y1_15 =>
    bif (ilt y1_15 k1_0) then
      bd (self_ y1_15) fun r1 =>
      bd (F_impl_systems_L2 fu self_ k1_0 y1_15 r1 (llen r1) fu l1_0 0) fun s2 =>
      F_impl_systems_L1 fu self_ k1_0 n s2.1 (iadd .i64 y1_15 1)
    else
      some (l1_0, y1_15)
def F_impl_systems : Nat → Int → Option (List (List Int))
  | 0, _ => none
  | fu + 1, x0 =>
    bif (ieq x0 0) then
      some [(@List.nil Int)]
    else
      bd (F_impl_systems_L1 fu (F_impl_systems fu) x0 fu [] 0) fun s1 =>
      bd (F_slices_SortFunc_SSint fu s1.1 (fun y0 y1 => F_slices_Compare_Sint fu y0 y1)) fun r5 =>
      some r5
theorem F_impl_systems_w : ∀ {fu : Nat} {H : AH}  {x0 : Int} {r : (List (List Int))}  (hF : F_impl_systems fu x0 = some r),
    ACallT Tryz.prog 68 [(Value.int .i64 x0)] H (fun u G => AgB (Fr H) H G ∧ ∃ u0 : Value, ∃ C0 : List Value, u = u0 ∧ Sep G (Fr H) [rowsC u0 24 3 C0 (List.map ints r)]) := by
 intro fu;induction fu with
 | zero => intros; rename_i hF; cases hF
 | succ fu ih =>
 intro H  x0 r  hF;simp only [F_impl_systems] at hF;refine ACallT.of_body (nt := 48) (rs := [.tmp 2]) Tryz.func68 rfl rfl rfl rfl ?_;have A0 : AgB (Fr H) H H := .refl _ _;have S0 : Sep H (Fr H) [] := .nil;have hB := Fr.up H;refine .sr fun K hK => ?_;simp [];apply hK;refine .seq ?_;refine .sr fun K hK => ?_;simp [];apply hK;refine DWp.cond' (t := (ieq x0 0)) (by simp []) (fun hb1 => ?_) (fun hb1 => ?_)
 ·replace hF := cd_t hb1 hF;obtain ⟨v2, G3, q4, S5, a7, _, _⟩ := S0.lit0 (t := 24) (hB.le A0.1) el_24 ei_3 rfl;have A6 := A0.ext (hB.le A0.1) a7;replace S5 : Sep G3 (Fr H) [flat1 v2 3 (ints (@List.nil Int))] := S5;obtain ⟨v9, G10, q11, S12, a14, _, _⟩ := S5.lit1 (t := 31) (hB.le A6.1) el_31 ei_24 rfl v2 ((S5.sl1 (k := 0) rfl).tup) ((S5.sl1 (k := 0) rfl).one);have A13 := A6.ext (hB.le A6.1) a14;replace S12 : Sep G10 (Fr H) [flat1 v2 3 (ints (@List.nil Int)), flat1 v9 24 [v2]] := S12;refine .sr fun K hK => ?_;simp [q4, a7.to_pre, q11, a14.to_pre, ((S5.sl1 (k := 0) rfl).tup)];apply hK;refine DWp.ret ?_;simp only [andThen, leaves];have S15 := S12.weak (k := 0) rfl;have S16 : Sep G10 (Fr H) [emp, rowsC v9 24 3 [v2] (List.map ints [(@List.nil Int)])] := S15.rowsOf1 (j := 1) (k := 0) (by decide) rfl rfl;obtain rfl := Option.some.inj hF;exact ⟨by simp, [v9], by simp [((S16.rd (k := 1) rfl).tup)], A13, v9, [v2], rfl, S16.pick [1] (by decide) rfl⟩
 ·replace hF := cd_f hb1 hF;refine DWp.skip ?_;simp only [andThen, leaves];obtain ⟨v17, G18, q19, S20, a22, _, _⟩ := S0.lit0 (t := 31) (hB.le A0.1) el_31 ei_24 rfl;have A21 := A0.ext (hB.le A0.1) a22;replace S20 : Sep G18 (Fr H) [flat1 v17 24 []] := S20;have S23 : Sep G18 (Fr H) [rowsC v17 24 3 [] (List.map ints [])] := S20.rowsOf0 (k := 0) rfl 3;refine .sr fun K hK => ?_;simp [q19, a22.to_pre];apply hK;refine .seq ?_;refine .sr fun K hK => ?_;simp [];apply hK;refine .block ?_;obtain ⟨s24, hL25, hF⟩ := bd_some hF;have S26 := S23.pick [0] (by decide) rfl;refine DWp.loop (fun n env G => ∃ l1_0 : List (List Int), ∃ y1_15 : Int, ∃ w1_0 : Value, ∃ D1_0 : List Value, F_impl_systems_L1 fu (F_impl_systems fu) x0 n l1_0 y1_15 = some s24 ∧ Sep G (Fr H) [rowsC w1_0 24 3 D1_0 (List.map ints l1_0)] ∧ AgB (Fr H) H G ∧ env 0 = some (Value.int .i64 x0) ∧ env 3 = some w1_0 ∧ env 14 = some (Value.int .i64 x0) ∧ env 15 = some (Value.int .i64 y1_15)) fu ⟨[], 0, v17, [], hL25, S26, A21, by simp []⟩ ?_;rintro n1 env1 G1_ ⟨l1_0, y1_15, w1_0, D1_0, hL25, S1_, A1_, e1_⟩;cases n1 with
  | zero => cases hL25
  | succ n1 =>
   simp only [F_impl_systems_L1] at hL25;refine .sr fun K hK => ?_;simp [e1_];apply hK;refine .seq ?_;refine DWp.cond' (t := (ilt y1_15 x0)) (by simp [e1_]) (fun hb27 => ?_) (fun hb27 => ?_)
   ·replace hL25 := cd_t hb27 hL25;refine DWp.skip ?_;simp only [andThen, leaves];refine .seq ?_;refine .block ?_;refine .sr fun K hK => ?_;simp [e1_];apply hK;obtain ⟨r1, hc28, hL25⟩ := bd_some hL25;refine .sr fun K hK => ?_;simp [e1_];refine CallD.t (ih  hc28) ?_;rintro c29_u0 G30 ⟨a33, _, c29_C0, rfl, S34⟩;have A32 := A1_.ext (hB.le A1_.1) a33.agree;have S31 : Sep G30 (Fr H) [rowsC w1_0 24 3 D1_0 (List.map ints l1_0), rowsC c29_u0 24 3 c29_C0 (List.map ints r1)] := S1_.app a33.agree S34 (fun _ h => h) (hB.le A1_.1);have q35 := (S31.rd (k := 1) rfl).lenG el_31;simp [e1_, a33.pre, q35];apply hK;refine .block ?_;obtain ⟨s36, hL37, hL25⟩ := bd_some hL25;have S38 := S31.pick [0, 1] (by decide) rfl;refine DWp.loop (fun n env G => ∃ l2_0 : List (List Int), ∃ y2_21 : Int, ∃ w2_0 : Value, ∃ D2_0 : List Value, F_impl_systems_L2 fu (F_impl_systems fu) x0 y1_15 r1 (llen r1) n l2_0 y2_21 = some s36 ∧ Sep G (Fr H) [rowsC w2_0 24 3 D2_0 (List.map ints l2_0), rowsC c29_u0 24 3 c29_C0 (List.map ints r1)] ∧ AgB (Fr H) H G ∧ env 0 = some (Value.int .i64 x0) ∧ env 3 = some w2_0 ∧ env 4 = some (Value.int .i64 y1_15) ∧ env 14 = some (Value.int .i64 x0) ∧ env 15 = some (Value.int .i64 y1_15) ∧ env 19 = some c29_u0 ∧ env 20 = some (Value.int .i64 (llen r1)) ∧ env 21 = some (Value.int .i64 y2_21)) fu ⟨l1_0, 0, w1_0, D1_0, hL37, S38, A32, by simp [e1_]⟩ ?_;rintro n2 env2 G2_ ⟨l2_0, y2_21, w2_0, D2_0, hL37, S2_, A2_, e2_⟩;cases n2 with
    | zero => cases hL37
    | succ n2 =>
     simp only [F_impl_systems_L2] at hL37;refine .sr fun K hK => ?_;simp [e2_];apply hK;refine .seq ?_;refine DWp.cond' (t := (ilt y2_21 (llen r1))) (by simp [e2_]) (fun hb39 => ?_) (fun hb39 => ?_)
     ·replace hL37 := cd_t hb39 hL37;refine DWp.skip ?_;simp only [andThen, leaves];refine .seq ?_;refine .block ?_;obtain ⟨g40, hL37⟩ := gd_some hL37;have q41 := (S2_.rd (k := 1) rfl).idxG (kk := .i64) el_31 sz_24 g40;have q42 := (S2_.rd (k := 1) rfl).loadG sz_24 ag_24 g40;refine .sr fun K hK => ?_;simp [e2_, q41, q42];apply hK;obtain ⟨r2, hc43, hL37⟩ := bd_some hL37;refine .sr fun K hK => ?_;simp [e2_];refine CallD.t (ih  hc43) ?_;rintro c44_u0 G45 ⟨a48, _, c44_C0, rfl, S49⟩;have A47 := A2_.ext (hB.le A2_.1) a48.agree;have S46 : Sep G45 (Fr H) [rowsC w2_0 24 3 D2_0 (List.map ints l2_0), rowsC c29_u0 24 3 c29_C0 (List.map ints r1), rowsC c44_u0 24 3 c44_C0 (List.map ints r2)] := S2_.app a48.agree S49 (fun _ h => h) (hB.le A2_.1);have q50 := (S46.rd (k := 2) rfl).lenG el_31;simp [e2_, a48.pre, q50];apply hK;refine .block ?_;obtain ⟨s51, hL52, hL37⟩ := bd_some hL37;have S53 := S46.pick [0, 1, 2] (by decide) rfl
      refine DWp.loop (fun n env G => ∃ l3_0 : List (List Int), ∃ y3_31 : Int, ∃ w3_0 : Value, ∃ D3_0 : List Value, F_impl_systems_L3 fu (F_impl_systems fu) x0 y1_15 (gat [] r1 y2_21) r1 (llen r1) y2_21 r2 (llen r2) n l3_0 y3_31 = some s51 ∧ Sep G (Fr H) [rowsC w3_0 24 3 D3_0 (List.map ints l3_0), rowsC c29_u0 24 3 c29_C0 (List.map ints r1), rowsC c44_u0 24 3 c44_C0 (List.map ints r2)] ∧ AgB (Fr H) H G ∧ env 0 = some (Value.int .i64 x0) ∧ env 3 = some w3_0 ∧ env 4 = some (Value.int .i64 y1_15) ∧ env 6 = some (gat nilV c29_C0 y2_21) ∧ env 14 = some (Value.int .i64 x0) ∧ env 15 = some (Value.int .i64 y1_15) ∧ env 19 = some c29_u0 ∧ env 20 = some (Value.int .i64 (llen r1)) ∧ env 21 = some (Value.int .i64 y2_21) ∧ env 29 = some c44_u0 ∧ env 30 = some (Value.int .i64 (llen r2)) ∧ env 31 = some (Value.int .i64 y3_31)) fu ⟨l2_0, 0, w2_0, D2_0, hL52, S53, A47, by simp [e2_]⟩ ?_;rintro n3 env3 G3_ ⟨l3_0, y3_31, w3_0, D3_0, hL52, S3_, A3_, e3_⟩;cases n3 with
      | zero => cases hL52
      | succ n3 =>
       simp only [F_impl_systems_L3] at hL52;refine .sr fun K hK => ?_;simp [e3_];apply hK;refine .seq ?_;refine DWp.cond' (t := (ilt y3_31 (llen r2))) (by simp [e3_]) (fun hb54 => ?_) (fun hb54 => ?_)
       ·replace hL52 := cd_t hb54 hL52;refine DWp.skip ?_;simp only [andThen, leaves];refine .seq ?_;refine .block ?_;obtain ⟨g55, hL52⟩ := gd_some hL52;have q56 := (S3_.rd (k := 2) rfl).idxG (kk := .i64) el_31 sz_24 g55;have q57 := (S3_.rd (k := 2) rfl).loadG sz_24 ag_24 g55;refine .sr fun K hK => ?_;simp [e3_, q56, q57];apply hK;obtain ⟨r3, hc58, hL52⟩ := bd_some hL52;refine .region fun K hK => ?_;simp [e3_, (((S3_.rd (k := 1) rfl).rowAt [] g40).tup)];refine CallD.t (F_impl_covered_w (fu := fu) ((S3_.rd (k := 1) rfl).rowAt [] g40) hc58) ?_;rintro c59_u0 G60 ⟨a63, _, rfl, S64⟩;have A62 := A3_.ext (hB.le A3_.1) a63.agree;have S61 : Sep G60 (Fr H) [rowsC w3_0 24 3 D3_0 (List.map ints l3_0), rowsC c29_u0 24 3 c29_C0 (List.map ints r1), rowsC c44_u0 24 3 c44_C0 (List.map ints r2), flat c59_u0 3 (ints r3)] := S3_.app a63.agree S64 (fun _ h => h) (hB.le A3_.1);obtain ⟨r4, hc65, hL52⟩ := bd_some hL52;simp [e3_, a63.pre, ((S61.sl (k := 3) rfl).tup), (((S61.rd (k := 2) rfl).rowAt [] g55).tup)];refine CallD.t (F_impl_joined_w (fu := fu) (S61.sl (k := 3) rfl) ((S61.rd (k := 2) rfl).rowAt [] g55) hc65) ?_;rintro c66_u0 G67 ⟨a70, _, rfl, S71⟩;have A69 := A62.ext (hB.le A62.1) a70.agree;have S68 : Sep G67 (Fr H) [rowsC w3_0 24 3 D3_0 (List.map ints l3_0), rowsC c29_u0 24 3 c29_C0 (List.map ints r1), rowsC c44_u0 24 3 c44_C0 (List.map ints r2), flat c59_u0 3 (ints r3), flat c66_u0 3 (ints r4)] := S61.app a70.agree S71 (fun _ h => h) (hB.le A62.1);obtain ⟨v72, G73, q74, S75, a77, _, _⟩ := S68.lit1 (t := 31) (hB.le A69.1) el_31 ei_24 rfl c66_u0 ((S68.sl (k := 4) rfl).tup) ((S68.sl (k := 4) rfl).one);have A76 := A69.ext (hB.le A69.1) a77
        replace S75 : Sep G73 (Fr H) [rowsC w3_0 24 3 D3_0 (List.map ints l3_0), rowsC c29_u0 24 3 c29_C0 (List.map ints r1), rowsC c44_u0 24 3 c44_C0 (List.map ints r2), flat c59_u0 3 (ints r3), flat c66_u0 3 (ints r4), flat1 v72 24 [c66_u0]] := S75;obtain ⟨g78, hL52⟩ := gd_some hL52;obtain ⟨v84, G79, q80, S81, a83, q80t, _⟩ := S75.pushRow (u := w3_0) (fr := ints) (X := l3_0) (y := r4) (t := 31) (t2 := 31) (j := 0) (k := 4) (by decide) rfl rfl (hB.le A76.1) el_31 el_31 ei_24 rfl (S75.sl1 (k := 5) rfl) g78;have A82 := A76.trans a83;replace S81 : Sep G79 (Fr H) [rowsC v84 24 3 (D3_0 ++ [c66_u0]) (List.map ints (lapp l3_0 [r4])), rowsC c29_u0 24 3 c29_C0 (List.map ints r1), rowsC c44_u0 24 3 c44_C0 (List.map ints r2), flat c59_u0 3 (ints r3), emp, flat1 v72 24 [c66_u0]] := S81;have q85 := S81.lastV (fr := ints) (k := 0) rfl;try simp only [List.cons_append, List.nil_append] at q85
        simp [e3_, q85, a63.pre, a70.pre, q74, a77.to_pre, ((S68.sl (k := 4) rfl).tup), q80, q80t];apply hK;simp only [andThen, leaves];refine .region fun K hK => ?_;simp [e3_, q85];apply hK;simp only [andThen, leaves];have S86 := S81.pick [0, 1, 2] (by decide) rfl;exact ⟨n3, Nat.lt_succ_self _, (lapp l3_0 [r4]), (iadd .i64 y3_31 1), v84, (D3_0 ++ [c66_u0]), hL52, S86, A82, by simp [e3_, q85]⟩
       ·replace hL52 := cd_f hb54 hL52;refine DWp.exit ?_;simp only [andThen, leaves, if_true, if_false, reduceIte, Nat.reduceEqDiff];obtain rfl := Option.some.inj hL52;try dsimp only at hL37
        refine .region fun K hK => ?_;simp [e3_];apply hK;simp only [andThen, leaves];have S87 := S3_.pick [0, 1] (by decide) rfl;exact ⟨n2, Nat.lt_succ_self _, l3_0, (iadd .i64 y2_21 1), w3_0, D3_0, hL37, S87, A3_, by simp [e3_]⟩
     ·replace hL37 := cd_f hb39 hL37;refine DWp.exit ?_;simp only [andThen, leaves, if_true, if_false, reduceIte, Nat.reduceEqDiff];obtain rfl := Option.some.inj hL37;try dsimp only at hL25
      refine .region fun K hK => ?_;simp [e2_];apply hK;simp only [andThen, leaves];have S88 := S2_.pick [0] (by decide) rfl;exact ⟨n1, Nat.lt_succ_self _, l2_0, (iadd .i64 y1_15 1), w2_0, D2_0, hL25, S88, A2_, by simp [e2_]⟩
   ·replace hL25 := cd_f hb27 hL25;refine DWp.exit ?_;simp only [andThen, leaves, if_true, if_false, reduceIte, Nat.reduceEqDiff];obtain rfl := Option.some.inj hL25;try dsimp only at hF
    obtain ⟨r5, hc90, hF⟩ := bd_some hF;refine .sr fun K hK => ?_;simp [e1_, ((S1_.rd (k := 0) rfl).tup)];have S91 : Sep G1_ (Fr H) ([rowsC w1_0 24 3 D1_0 (List.map ints l1_0)] ++ []) := S1_.pick [0] (by decide) rfl;obtain ⟨B97, S92, U93, M94, R95, C96⟩ := S91.frame (hB.le A1_.1);refine CallD.t (F_slices_SortFunc_SSint_w (fu := fu) U93 S92 (fun G_ a_ v0 v1 y0 y1 q_ hy0 hy1 hq_ => F_slices_Compare_Sint_w (fu := fu) hy0 hy1 hq_) hc90) ?_;rintro _ G99 ⟨a102, c98_Cz0, rfl, S103⟩;have A101 := A1_.trans (a102.mono M94);have S100 : Sep G99 (Fr H) [rowsC w1_0 24 3 c98_Cz0 (List.map ints r5)] := C96 _ _ a102 S103;simp [e1_];apply hK;refine .sr fun K hK => ?_;simp [e1_];apply hK;refine DWp.ret ?_;obtain rfl := Option.some.inj hF;exact ⟨by simp, [w1_0], by simp [e1_, ((S100.rd (k := 0) rfl).tup)], A101, w1_0, c98_Cz0, rfl, S100.pick [0] (by decide) rfl⟩
def F_impl_ComponentsOf (fu : Nat) (x0_0 : List Int) (x0_1 : List Int) : Option (Int × Bool) :=
  bd (F_impl_IsPair fu x0_0 x0_1) fun r1 =>
  bif (bnot r1) then
    some (0, false)
  else
    bd (F_impl_Meander_components fu x0_0 x0_1) fun r2 =>
    some (r2, true)
theorem F_impl_ComponentsOf_w {fu : Nat} {H : AH} {v0_0 : Value} {v0_1 : Value} {x0_0 : List Int} {x0_1 : List Int} {r : (Int × Bool)} (hx0_0 : Sl H v0_0 (ints x0_0)) (hx0_1 : Sl H v0_1 (ints x0_1)) (hF : F_impl_ComponentsOf fu x0_0 x0_1 = some r) :
    ACallT Tryz.prog 36 [(Value.agg #[v0_0, v0_1])] H (fun u G => AgB (Fr H) H G ∧ u = (Value.tuple #[(Value.int .i64 r.1), (Value.bool r.2)]) ∧ Sep G (Fr H) []) := by
 refine ACallT.of_body (nt := 9) (rs := [.tmp 2, .tmp 3]) Tryz.func36 rfl rfl rfl rfl ?_;have A0 : AgB (Fr H) H H := .refl _ _;have S0 : Sep H (Fr H) [] := .nil;have hB := Fr.up H;unfold F_impl_ComponentsOf at hF;obtain ⟨G2, p4, q5, q6, a7, S1⟩ := S0.boxT (hB.le A0.1) 43 [v0_0, v0_1];have A3 := A0.ext (hB.le A0.1) a7;replace S1 : Sep G2 (Fr H) [AL.box p4 [v0_0, v0_1]] := S1;refine .sr fun K hK => ?_;simp [q5, q6, a7.to_pre, cells_agg];apply hK;refine .seq ?_;have q8 := S1.loadAgg (k := 0) rfl sz_43 ag_43 rfl;obtain ⟨r1, hc9, hF⟩ := bd_some hF;refine .sr fun K hK => ?_;simp [q8, ((hx0_0.agree A3.agree).tup), ((hx0_1.agree A3.agree).tup)];refine CallD.t (F_impl_IsPair_w (fu := fu) (hx0_0.agree A3.agree) (hx0_1.agree A3.agree) hc9) ?_;rintro _ G11 ⟨a14, rfl, S15⟩;have A13 := A3.ext (hB.le A3.1) a14.agree;have S12 : Sep G11 (Fr H) [AL.box p4 [v0_0, v0_1]] := S1.app a14.agree S15 (fun _ h => h) (hB.le A3.1);simp [q8, a14.pre];apply hK;refine DWp.cond' (t := (bnot r1)) (by simp []) (fun hb16 => ?_) (fun hb16 => ?_)
 ·replace hF := cd_t hb16 hF;refine .sr fun K hK => ?_;simp [];apply hK;refine DWp.ret ?_;simp only [andThen, leaves];obtain rfl := Option.some.inj hF;exact ⟨by simp, [(Value.int .i64 0), (Value.bool false)], by simp [], A13, rfl, S12.pick [] (by decide) rfl⟩
 ·replace hF := cd_f hb16 hF;refine DWp.skip ?_;simp only [andThen, leaves];have q17 := S12.loadAgg (k := 0) rfl sz_43 ag_43 rfl;obtain ⟨r2, hc18, hF⟩ := bd_some hF;refine .sr fun K hK => ?_;simp [q17, ((hx0_0.agree A13.agree).tup), ((hx0_1.agree A13.agree).tup)];refine CallD.t (F_impl_Meander_components_w (fu := fu) (hx0_0.agree A13.agree) (hx0_1.agree A13.agree) hc18) ?_;rintro _ G20 ⟨a23, rfl, S24⟩;have A22 := A13.ext (hB.le A13.1) a23.agree;have S21 : Sep G20 (Fr H) [AL.box p4 [v0_0, v0_1]] := S12.app a23.agree S24 (fun _ h => h) (hB.le A13.1);simp [q17, a23.pre];apply hK;refine DWp.ret ?_;obtain rfl := Option.some.inj hF;exact ⟨by simp, [(Value.int .i64 r2), (Value.bool true)], by simp [], A22, rfl, S21.pick [] (by decide) rfl⟩
end Go.Proofs.YtogghgecmjnieaaGreat.AL

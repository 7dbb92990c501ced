/- The walks of functions, each with its Lean function: spec.l1Own, spec.l1Has, spec.stNames, spec.stRename, spec.l1In, spec.l1All, spec.l1Same, spec.stAround, spec.stGood, spec.stStep. No condition. -/
import Derived.Test.YtdbflchpbhkanaaG1
import Derived.Test.YtdbflchpbhkanaaALD
import Derived.Test.YtdbflchpbhkanaaProg
import Derived.KernelRfl
namespace Go.Proofs.Ytdbflchpbhkanaa.AL
open Go Go.RowKit
set_option linter.unusedVariables false
set_option linter.unusedSimpArgs false
set_option maxRecDepth 4096
attribute [local simp] n_fn b_add b_sub b_mul b_lt b_le b_gt b_ge b_eq b_ne u_not
theorem ag_34 : aggT Try.prog 34 = some true := by kernel_rfl
theorem pl_34 : placeT Try.prog 34 = some (.agg #[.slice none 0 0, .slice none 0 0, .int .i64 0], fun i => [(0, 1), (1, 1), (2, 1)].toArray[i]?) := by kernel_rfl
theorem sz_34 : sizeT Try.prog 34 = some 3 := by kernel_rfl
theorem ze_34 : zeroT Try.prog 34 = some (.agg #[.slice none 0 0, .slice none 0 0, .int .i64 0]) := by kernel_rfl
theorem bu_34 {a0 a1 a2 : Value} (t0 : isTup a0 = false) (c0 : a0.cells = #[a0]) (t1 : isTup a1 = false) (c1 : a1.cells = #[a1]) (t2 : isTup a2 = false) (c2 : a2.cells = #[a2]) : aBuild Try.prog 34 [(0, a0), (1, a1), (2, a2)] = some (.agg #[a0, a1, a2]) := buildT3 pl_34 rfl rfl t0 c0 t1 c1 t2 c2
def F_spec_l1Own (fu : Nat) (x0 : List Int) : Option (List Int) :=
  gd ((@List.nil Int).length + x0.length ≤ 4294967296) (
  some (lapp (@List.nil Int) x0))
theorem F_spec_l1Own_w {fu : Nat} {H : AH} {v0 : Value} {x0 : List Int} {r : (List Int)} (hx0 : Sl H v0 (ints x0)) (hF : F_spec_l1Own fu x0 = some r) :
    ACallT Try.prog 31 [v0] H (fun u G => AgB (Fr H) H G ∧ ∃ u0 : Value, u = u0 ∧ Sep G (Fr H) [flat u0 3 (ints r)]) := by
 refine ACallT.of_body (nt := 6) (rs := [.tmp 2]) Try.func31 rfl rfl rfl rfl ?_;have A0 : AgB (Fr H) H H := .refl _ _;have S0 : Sep H (Fr H) [] := .nil;have hB := Fr.up H;unfold F_spec_l1Own at hF;refine .sr fun K hK => ?_;simp [];apply hK;clear hK K;obtain ⟨v1, G2, q3, S4, a6, _, _⟩ := S0.lit0 (P := Try.prog) (t := 25) (hB.le A0.1) el_25 ei_3 rfl;have A5 := A0.ext (hB.le A0.1) a6;replace S4 : Sep G2 (Fr H) [flat1 v1 3 (ints (@List.nil Int))] := S4;obtain ⟨g8, hF⟩ := gd_some hF;obtain ⟨v14, G9, q10, S11, a13, _, _⟩ := S4.append1 (f := (Value.int .i64)) (xs := (@List.nil Int)) (ys := x0) (P := Try.prog) (t := 25) (t2 := 25) (k := 0) rfl (hB.le A5.1) el_25 el_25 ei_3 rfl (hx0.agree A5.agree) g8;have A12 := A5.trans a13;replace S11 : Sep G9 (Fr H) [flat v14 3 (ints (lapp (@List.nil Int) x0))] := S11;refine .sr fun K hK => ?_;simp [q3, a6.to_pre, q10];apply hK;clear hK K;refine DWp.ret ?_;obtain rfl := Option.some.inj hF;exact ⟨by simp, [v14], by simp [((S11.sl (k := 0) rfl).tup)], A12, v14, rfl, S11.pick [0] (by decide) rfl⟩
def F_spec_l1Has_L1 (fu : Nat) (k1_0 : Int) (k1_1 : List Int) (k1_2 : Int) : Nat → Int → Option (LR (Bool) (Int))
  | 0, _ => none
  | n + 1, y1_9 =>
    bif (ilt y1_9 k1_2) then
      gd (inL k1_1 y1_9) (
      bif (ieq (gat 0 k1_1 y1_9) k1_0) then
        some (.ret true)
      else
        F_spec_l1Has_L1 fu k1_0 k1_1 k1_2 n (iadd .i64 y1_9 1))
    else
      some (.brk y1_9)
def F_spec_l1Has (fu : Nat) (x0 : List Int) (x1 : Int) : Option (Bool) :=
  bd (F_spec_l1Has_L1 fu x1 x0 (llen x0) fu 0) fun s1 =>
  lr s1 fun s1 =>
  some false
theorem F_spec_l1Has_w {fu : Nat} {H : AH} {v0 : Value} {x0 : List Int} {x1 : Int} {r : (Bool)} (hx0 : Sl H v0 (ints x0)) (hF : F_spec_l1Has fu x0 x1 = some r) :
    ACallT Try.prog 38 [v0, (Value.int .i64 x1)] H (fun u G => AgB (Fr H) H G ∧ u = (Value.bool r) ∧ Sep G (Fr H) []) := by
 refine ACallT.of_body (nt := 17) (rs := [.tmp 4]) Try.func38 rfl rfl rfl rfl ?_;have A0 : AgB (Fr H) H H := .refl _ _;have S0 : Sep H (Fr H) [] := .nil;have hB := Fr.up H;unfold F_spec_l1Has at hF;refine .sr fun K hK => ?_;simp [];apply hK;clear hK K;refine .seq ?_;have q1 := lenG (P := Try.prog) (hx0.agree A0.agree) el_25;refine .sr fun K hK => ?_;simp [q1];apply hK;clear hK K;refine .block ?_;obtain ⟨s2, hL3, hF⟩ := bd_some hF;have S4 := S0.pick [] (by decide) rfl;refine DWp.loop (fun n env G => ∃ y1_9 : Int, F_spec_l1Has_L1 fu x1 x0 (llen x0) n y1_9 = some s2 ∧ Sep G (Fr H) [] ∧ AgB (Fr H) H G ∧ env 1 = some (Value.int .i64 x1) ∧ env 7 = some v0 ∧ env 8 = some (Value.int .i64 (llen x0)) ∧ env 9 = some (Value.int .i64 y1_9)) fu ⟨0, hL3, S4, A0, by simp []⟩ ?_;rintro n1 env1 G1_ ⟨y1_9, hL3, S1_, A1_, e1_⟩;cases n1 with
 | zero => cases hL3
 | succ n1 =>
  simp only [F_spec_l1Has_L1] at hL3;refine .sr fun K hK => ?_;simp [e1_];apply hK;clear hK K;refine .seq ?_;refine DWp.cond' (t := (ilt y1_9 (llen x0))) (by simp [e1_]) (fun hb5 => ?_) (fun hb5 => ?_)
  ·replace hL3 := cd_t hb5 hL3;refine DWp.skip ?_;simp only [andThen, leaves];refine .seq ?_;refine .block ?_;obtain ⟨g6, hL3⟩ := gd_some hL3;have q7 := idxG (P := Try.prog) (kk := .i64) (hx0.agree A1_.agree) el_25 sz_3 g6;have q8 := loadG (P := Try.prog) (hx0.agree A1_.agree) sz_3 ag_3 g6 0;refine .sr fun K hK => ?_;simp [e1_, q7, q8];apply hK;clear hK K;refine .sr fun K hK => ?_;simp [e1_];apply hK;clear hK K;refine DWp.cond' (t := (ieq (gat 0 x0 y1_9) x1)) (by simp [e1_]) (fun hb9 => ?_) (fun hb9 => ?_)
   ·replace hL3 := cd_t hb9 hL3;refine .sr fun K hK => ?_;simp [e1_];apply hK;clear hK K;refine DWp.ret ?_;simp only [andThen, leaves];obtain rfl := Option.some.inj hL3;simp only [lr] at hF;obtain rfl := Option.some.inj hF;exact ⟨by simp, [(Value.bool true)], by simp [e1_], A1_, rfl, S1_.pick [] (by decide) rfl⟩
   ·replace hL3 := cd_f hb9 hL3;refine DWp.skip ?_;simp only [andThen, leaves];refine .region fun K hK => ?_;simp [e1_];apply hK;clear hK K;simp only [andThen, leaves];have S10 := S1_.pick [] (by decide) rfl;exact ⟨n1, Nat.lt_succ_self _, (iadd .i64 y1_9 1), hL3, S10, A1_, by simp [e1_]⟩
  ·replace hL3 := cd_f hb5 hL3;refine DWp.exit ?_;simp only [andThen, leaves, if_true, if_false, reduceIte, Nat.reduceEqDiff];obtain rfl := Option.some.inj hL3;simp only [lr] at hF;refine .sr fun K hK => ?_;simp [e1_];apply hK;clear hK K;refine DWp.ret ?_;obtain rfl := Option.some.inj hF;exact ⟨by simp, [(Value.bool false)], by simp [e1_], A1_, rfl, S1_.pick [] (by decide) rfl⟩
def F_spec_stNames_L2 (fu : Nat) (k2_0 : List Int) (k2_1 : List Int) (k2_2 : Int) (k2_3 : List Int) (k2_4 : Int) (k2_5 : Int) : Nat → Int → Option (Int)
  | 0, _ => none
  | n + 1, y2_8 =>
    gd (inL k2_0 y2_8) (
    bif (ine (gat 0 k2_0 y2_8) k2_2) then
      F_spec_stNames_L2 fu k2_0 k2_1 k2_2 k2_3 k2_4 k2_5 n (iadd .i64 y2_8 1)
    else
      some y2_8)
def F_spec_stNames_L1 (fu : Nat) (k1_0 : List Int) (k1_1 : List Int) (k1_2 : Int) : Nat → List Int → Int → Option (List Int × Int)
  | 0, _, _ => none
  | n + 1, l1_0, y1_11 =>
    bif (ilt y1_11 k1_2) then
      gd (inL k1_1 y1_11) (
      bd (F_spec_stNames_L2 fu k1_0 l1_0 (gat 0 k1_1 y1_11) k1_1 k1_2 y1_11 fu 0) fun s2 =>
      gd (l1_0.length + [s2].length ≤ 4294967296) (
      F_spec_stNames_L1 fu k1_0 k1_1 k1_2 n (lapp l1_0 [s2]) (iadd .i64 y1_11 1)))
    else
      some (l1_0, y1_11)
def F_spec_stNames (fu : Nat) (x0 : List Int) (x1 : List Int) : Option (List Int) :=
  bd (F_spec_stNames_L1 fu x1 x0 (llen x0) fu (@List.nil Int) 0) fun s1 =>
  some s1.1
theorem F_spec_stNames_w {fu : Nat} {H : AH} {v0 : Value} {v1 : Value} {x0 : List Int} {x1 : List Int} {r : (List Int)} (hx0 : Sl H v0 (ints x0)) (hx1 : Sl H v1 (ints x1)) (hF : F_spec_stNames fu x0 x1 = some r) :
    ACallT Try.prog 45 [v0, v1] H (fun u G => AgB (Fr H) H G ∧ ∃ u0 : Value, u = u0 ∧ Sep G (Fr H) [flat u0 3 (ints r)]) := by
 refine ACallT.of_body (nt := 29) (rs := [.tmp 4]) Try.func45 rfl rfl rfl rfl ?_;have A0 : AgB (Fr H) H H := .refl _ _;have S0 : Sep H (Fr H) [] := .nil;have hB := Fr.up H;unfold F_spec_stNames at hF;refine .sr fun K hK => ?_;simp [];apply hK;clear hK K;refine .sr fun K hK => ?_;simp [];apply hK;clear hK K;refine .seq ?_;have q1 := lenG (P := Try.prog) (hx0.agree A0.agree) el_25;refine .sr fun K hK => ?_;simp [q1];apply hK;clear hK K;refine .block ?_;have S2 := S0.nilItem (hB.le A0.1) 3;obtain ⟨s3, hL4, hF⟩ := bd_some hF;have S5 := S2.pick [0] (by decide) rfl;refine DWp.loop (fun n env G => ∃ l1_0 : List Int, ∃ y1_11 : Int, ∃ w1_0 : Value, F_spec_stNames_L1 fu x1 x0 (llen x0) n l1_0 y1_11 = some s3 ∧ Sep G (Fr H) [flat w1_0 3 (ints l1_0)] ∧ AgB (Fr H) H G ∧ env 1 = some v1 ∧ env 5 = some w1_0 ∧ env 9 = some v0 ∧ env 10 = some (Value.int .i64 (llen x0)) ∧ env 11 = some (Value.int .i64 y1_11)) fu ⟨(@List.nil Int), 0, (Value.slice none 0 0), hL4, S5, A0, by simp []⟩ ?_;rintro n1 env1 G1_ ⟨l1_0, y1_11, w1_0, hL4, S1_, A1_, e1_⟩;cases n1 with
 | zero => cases hL4
 | succ n1 =>
  simp only [F_spec_stNames_L1] at hL4;refine .sr fun K hK => ?_;simp [e1_];apply hK;clear hK K;refine .seq ?_;refine DWp.cond' (t := (ilt y1_11 (llen x0))) (by simp [e1_]) (fun hb6 => ?_) (fun hb6 => ?_)
  ·replace hL4 := cd_t hb6 hL4;refine DWp.skip ?_;simp only [andThen, leaves];refine .seq ?_;refine .block ?_;obtain ⟨g7, hL4⟩ := gd_some hL4;have q8 := idxG (P := Try.prog) (kk := .i64) (hx0.agree A1_.agree) el_25 sz_3 g7;have q9 := loadG (P := Try.prog) (hx0.agree A1_.agree) sz_3 ag_3 g7 0;refine .sr fun K hK => ?_;simp [e1_, q8, q9];apply hK;clear hK K;refine .sr fun K hK => ?_;simp [e1_];apply hK;clear hK K;refine .seq ?_;refine .block ?_;obtain ⟨s10, hL11, hL4⟩ := bd_some hL4;have S12 := S1_.pick [0] (by decide) rfl;refine DWp.loop (fun n env G => ∃ y2_8 : Int, F_spec_stNames_L2 fu x1 l1_0 (gat 0 x0 y1_11) x0 (llen x0) y1_11 n y2_8 = some s10 ∧ Sep G (Fr H) [flat w1_0 3 (ints l1_0)] ∧ AgB (Fr H) H G ∧ env 1 = some v1 ∧ env 5 = some w1_0 ∧ env 7 = some (Value.int .i64 (gat 0 x0 y1_11)) ∧ env 8 = some (Value.int .i64 y2_8) ∧ env 9 = some v0 ∧ env 10 = some (Value.int .i64 (llen x0)) ∧ env 11 = some (Value.int .i64 y1_11)) fu ⟨0, hL11, S12, A1_, by simp [e1_]⟩ ?_;rintro n2 env2 G2_ ⟨y2_8, hL11, S2_, A2_, e2_⟩;cases n2 with
   | zero => cases hL11
   | succ n2 =>
    simp only [F_spec_stNames_L2] at hL11;refine .seq ?_;obtain ⟨g13, hL11⟩ := gd_some hL11;have q14 := idxG (P := Try.prog) (kk := .i64) (hx1.agree A2_.agree) el_25 sz_3 g13;have q15 := loadG (P := Try.prog) (hx1.agree A2_.agree) sz_3 ag_3 g13 0;refine .sr fun K hK => ?_;simp [e2_, q14, q15];apply hK;clear hK K;refine DWp.cond' (t := (ine (gat 0 x1 y2_8) (gat 0 x0 y1_11))) (by simp [e2_]) (fun hb16 => ?_) (fun hb16 => ?_)
    ·replace hL11 := cd_t hb16 hL11;refine DWp.skip ?_;simp only [andThen, leaves];refine .block ?_;refine .region fun K hK => ?_;simp [e2_];apply hK;clear hK K;simp only [andThen, leaves];have S17 := S2_.pick [0] (by decide) rfl;exact ⟨n2, Nat.lt_succ_self _, (iadd .i64 y2_8 1), hL11, S17, A2_, by simp [e2_]⟩
    ·replace hL11 := cd_f hb16 hL11;refine DWp.exit ?_;simp only [andThen, leaves, if_true, if_false, reduceIte, Nat.reduceEqDiff];obtain rfl := Option.some.inj hL11;obtain ⟨v18, G19, q20, S21, a23, _, _⟩ := S2_.lit1 (P := Try.prog) (t := 25) (hB.le A2_.1) el_25 ei_3 rfl (Value.int .i64 y2_8) rfl rfl;have A22 := A2_.ext (hB.le A2_.1) a23;replace S21 : Sep G19 (Fr H) [flat w1_0 3 (ints l1_0), flat1 v18 3 (ints [y2_8])] := S21;obtain ⟨g25, hL4⟩ := gd_some hL4;obtain ⟨v31, G26, q27, S28, a30, _, _⟩ := S21.appendG (f := (Value.int .i64)) (xs := l1_0) (ys := [y2_8]) (P := Try.prog) (t := 25) (t2 := 25) (k := 0) rfl (hB.le A22.1) el_25 el_25 ei_3 rfl (S21.sl1 (k := 1) rfl) g25;have A29 := A22.trans a30;replace S28 : Sep G26 (Fr H) [flat v31 3 (ints (lapp l1_0 [y2_8])), flat1 v18 3 (ints [y2_8])] := S28;refine .region fun K hK => ?_;simp [e2_, q20, a23.to_pre, q27];apply hK;clear hK K;simp only [andThen, leaves];refine .region fun K hK => ?_;simp [e2_];apply hK;clear hK K;simp only [andThen, leaves];have S32 := S28.pick [0] (by decide) rfl;exact ⟨n1, Nat.lt_succ_self _, (lapp l1_0 [y2_8]), (iadd .i64 y1_11 1), v31, hL4, S32, A29, by simp [e2_]⟩
  ·replace hL4 := cd_f hb6 hL4;refine DWp.exit ?_;simp only [andThen, leaves, if_true, if_false, reduceIte, Nat.reduceEqDiff];obtain rfl := Option.some.inj hL4;try dsimp only at hF
   refine .sr fun K hK => ?_;simp [e1_];apply hK;clear hK K;refine DWp.ret ?_;obtain rfl := Option.some.inj hF;exact ⟨by simp, [w1_0], by simp [e1_, ((S1_.sl (k := 0) rfl).tup)], A1_, w1_0, rfl, S1_.pick [0] (by decide) rfl⟩
def F_spec_stRename_L1 (fu : Nat) (k1_0 : List Int) (k1_1 : List Int) (k1_2 : List Int) (k1_3 : Int) : Nat → List Int → Int → Option (List Int × Int)
  | 0, _, _ => none
  | n + 1, l1_0, y1_14 =>
    bif (ilt y1_14 k1_3) then
      gd (inL k1_2 y1_14) (
      bd (F_spec_l1Has fu l1_0 (gat 0 k1_2 y1_14)) fun r2 =>
      bif (bnot r2) then
        gd (l1_0.length + [(gat 0 k1_2 y1_14)].length ≤ 4294967296) (
        F_spec_stRename_L1 fu k1_0 k1_1 k1_2 k1_3 n (lapp l1_0 [(gat 0 k1_2 y1_14)]) (iadd .i64 y1_14 1))
      else
        F_spec_stRename_L1 fu k1_0 k1_1 k1_2 k1_3 n l1_0 (iadd .i64 y1_14 1))
    else
      some (l1_0, y1_14)
def F_spec_stRename (fu : Nat) (x0 : List Int) (x1 : List Int) : Option (List Int × List Int) :=
  bd (F_spec_l1Own fu x0) fun r1 =>
  gd (r1.length + x1.length ≤ 4294967296) (
  bd (F_spec_stRename_L1 fu x0 x1 (lapp r1 x1) (llen (lapp r1 x1)) fu (@List.nil Int) 0) fun s1 =>
  bd (F_spec_stNames fu x0 s1.1) fun r3 =>
  bd (F_spec_stNames fu x1 s1.1) fun r4 =>
  some (r3, r4))
theorem F_spec_stRename_w {fu : Nat} {H : AH} {v0 : Value} {v1 : Value} {x0 : List Int} {x1 : List Int} {r : (List Int × List Int)} (hx0 : Sl H v0 (ints x0)) (hx1 : Sl H v1 (ints x1)) (hF : F_spec_stRename fu x0 x1 = some r) :
    ACallT Try.prog 32 [v0, v1] H (fun u G => AgB (Fr H) H G ∧ ∃ u0 : Value, ∃ u1 : Value, u = (Value.tuple #[u0, u1]) ∧ Sep G (Fr H) [flat u0 3 (ints r.1), flat u1 3 (ints r.2)]) := by
 refine ACallT.of_body (nt := 33) (rs := [.tmp 4, .tmp 5]) Try.func32 rfl rfl rfl rfl ?_;have A0 : AgB (Fr H) H H := .refl _ _;have S0 : Sep H (Fr H) [] := .nil;have hB := Fr.up H;unfold F_spec_stRename at hF;refine .sr fun K hK => ?_;simp [];apply hK;clear hK K;refine .sr fun K hK => ?_;simp [];apply hK;clear hK K;refine .seq ?_;obtain ⟨r1, hc1, hF⟩ := bd_some hF;refine .sr fun K hK => ?_;simp [((hx0.agree A0.agree).tup)];refine CallD.t (F_spec_l1Own_w (fu := fu) (hx0.agree A0.agree) hc1) ?_;rintro c2_u0 G3 ⟨a6, _, rfl, S7⟩;have A5 := A0.ext (hB.le A0.1) a6.agree;have S4 : Sep G3 (Fr H) [flat c2_u0 3 (ints r1)] := S0.app a6.agree S7 (fun _ h => h) (hB.le A0.1);obtain ⟨g8, hF⟩ := gd_some hF;obtain ⟨v14, G9, q10, S11, a13, _, _⟩ := S4.appendG (f := (Value.int .i64)) (xs := r1) (ys := x1) (P := Try.prog) (t := 25) (t2 := 25) (k := 0) rfl (hB.le A5.1) el_25 el_25 ei_3 rfl (hx1.agree A5.agree) g8;have A12 := A5.trans a13;replace S11 : Sep G9 (Fr H) [flat v14 3 (ints (lapp r1 x1))] := S11;have q15 := lenG (P := Try.prog) (S11.sl (k := 0) rfl) el_25;simp [a6.pre, q10, q15];apply hK;clear hK K;refine .block ?_;have S16 := S11.nilItem (hB.le A12.1) 3;obtain ⟨s17, hL18, hF⟩ := bd_some hF;have S19 := S16.pick [1, 0] (by decide) rfl;refine DWp.loop (fun n env G => ∃ l1_0 : List Int, ∃ y1_14 : Int, ∃ w1_0 : Value, F_spec_stRename_L1 fu x0 x1 (lapp r1 x1) (llen (lapp r1 x1)) n l1_0 y1_14 = some s17 ∧ Sep G (Fr H) [flat w1_0 3 (ints l1_0), flat v14 3 (ints (lapp r1 x1))] ∧ AgB (Fr H) H G ∧ env 0 = some v0 ∧ env 1 = some v1 ∧ env 6 = some w1_0 ∧ env 12 = some v14 ∧ env 13 = some (Value.int .i64 (llen (lapp r1 x1))) ∧ env 14 = some (Value.int .i64 y1_14)) fu ⟨(@List.nil Int), 0, (Value.slice none 0 0), hL18, S19, A12, by simp []⟩ ?_
 rintro n1 env1 G1_ ⟨l1_0, y1_14, w1_0, hL18, S1_, A1_, e1_⟩;cases n1 with
 | zero => cases hL18
 | succ n1 =>
  simp only [F_spec_stRename_L1] at hL18;refine .sr fun K hK => ?_;simp [e1_];apply hK;clear hK K;refine .seq ?_;refine DWp.cond' (t := (ilt y1_14 (llen (lapp r1 x1)))) (by simp [e1_]) (fun hb20 => ?_) (fun hb20 => ?_)
  ·replace hL18 := cd_t hb20 hL18;refine DWp.skip ?_;simp only [andThen, leaves];refine .seq ?_;refine .block ?_;obtain ⟨g21, hL18⟩ := gd_some hL18;have q22 := idxG (P := Try.prog) (kk := .i64) (S1_.sl (k := 1) rfl) el_25 sz_3 g21;have q23 := loadG (P := Try.prog) (S1_.sl (k := 1) rfl) sz_3 ag_3 g21 0;refine .sr fun K hK => ?_;simp [e1_, q22, q23];apply hK;clear hK K;obtain ⟨r2, hc24, hL18⟩ := bd_some hL18;refine .sr fun K hK => ?_;simp [e1_, ((S1_.sl (k := 0) rfl).tup)];refine CallD.t (F_spec_l1Has_w (fu := fu) (S1_.sl (k := 0) rfl) hc24) ?_;rintro _ G26 ⟨a29, rfl, S30⟩;have A28 := A1_.ext (hB.le A1_.1) a29.agree;have S27 : Sep G26 (Fr H) [flat w1_0 3 (ints l1_0), flat v14 3 (ints (lapp r1 x1))] := S1_.app a29.agree S30 (fun _ h => h) (hB.le A1_.1);simp [e1_, a29.pre];apply hK;clear hK K;refine DWp.cond' (t := (bnot r2)) (by simp [e1_]) (fun hb31 => ?_) (fun hb31 => ?_)
   ·replace hL18 := cd_t hb31 hL18;obtain ⟨v32, G33, q34, S35, a37, _, _⟩ := S27.lit1 (P := Try.prog) (t := 25) (hB.le A28.1) el_25 ei_3 rfl (Value.int .i64 (gat 0 (lapp r1 x1) y1_14)) rfl rfl;have A36 := A28.ext (hB.le A28.1) a37;replace S35 : Sep G33 (Fr H) [flat w1_0 3 (ints l1_0), flat v14 3 (ints (lapp r1 x1)), flat1 v32 3 (ints [(gat 0 (lapp r1 x1) y1_14)])] := S35;obtain ⟨g39, hL18⟩ := gd_some hL18;obtain ⟨v45, G40, q41, S42, a44, _, _⟩ := S35.appendG (f := (Value.int .i64)) (xs := l1_0) (ys := [(gat 0 (lapp r1 x1) y1_14)]) (P := Try.prog) (t := 25) (t2 := 25) (k := 0) rfl (hB.le A36.1) el_25 el_25 ei_3 rfl (S35.sl1 (k := 2) rfl) g39;have A43 := A36.trans a44;replace S42 : Sep G40 (Fr H) [flat v45 3 (ints (lapp l1_0 [(gat 0 (lapp r1 x1) y1_14)])), flat v14 3 (ints (lapp r1 x1)), flat1 v32 3 (ints [(gat 0 (lapp r1 x1) y1_14)])] := S42;refine .region fun K hK => ?_;simp [e1_, q34, a37.to_pre, q41];apply hK;clear hK K;simp only [andThen, leaves];refine .region fun K hK => ?_;simp [e1_];apply hK;clear hK K;simp only [andThen, leaves];have S46 := S42.pick [0, 1] (by decide) rfl;exact ⟨n1, Nat.lt_succ_self _, (lapp l1_0 [(gat 0 (lapp r1 x1) y1_14)]), (iadd .i64 y1_14 1), v45, hL18, S46, A43, by simp [e1_]⟩
   ·replace hL18 := cd_f hb31 hL18;refine DWp.skip ?_;simp only [andThen, leaves];refine .region fun K hK => ?_;simp [e1_];apply hK;clear hK K;simp only [andThen, leaves];have S47 := S27.pick [0, 1] (by decide) rfl;exact ⟨n1, Nat.lt_succ_self _, l1_0, (iadd .i64 y1_14 1), w1_0, hL18, S47, A28, by simp [e1_]⟩
  ·replace hL18 := cd_f hb20 hL18;refine DWp.exit ?_;simp only [andThen, leaves, if_true, if_false, reduceIte, Nat.reduceEqDiff];obtain rfl := Option.some.inj hL18;try dsimp only at hF
   obtain ⟨r3, hc48, hF⟩ := bd_some hF;refine .sr fun K hK => ?_;simp [e1_, ((hx0.agree A1_.agree).tup), ((S1_.sl (k := 0) rfl).tup)];refine CallD.t (F_spec_stNames_w (fu := fu) (hx0.agree A1_.agree) (S1_.sl (k := 0) rfl) hc48) ?_;rintro c49_u0 G50 ⟨a53, _, rfl, S54⟩;have A52 := A1_.ext (hB.le A1_.1) a53.agree;have S51 : Sep G50 (Fr H) [flat w1_0 3 (ints l1_0), flat v14 3 (ints (lapp r1 x1)), flat c49_u0 3 (ints r3)] := S1_.app a53.agree S54 (fun _ h => h) (hB.le A1_.1);obtain ⟨r4, hc55, hF⟩ := bd_some hF;simp [e1_, a53.pre, ((hx1.agree A52.agree).tup), ((S51.sl (k := 0) rfl).tup)];refine CallD.t (F_spec_stNames_w (fu := fu) (hx1.agree A52.agree) (S51.sl (k := 0) rfl) hc55) ?_;rintro c56_u0 G57 ⟨a60, _, rfl, S61⟩;have A59 := A52.ext (hB.le A52.1) a60.agree;have S58 : Sep G57 (Fr H) [flat w1_0 3 (ints l1_0), flat v14 3 (ints (lapp r1 x1)), flat c49_u0 3 (ints r3), flat c56_u0 3 (ints r4)] := S51.app a60.agree S61 (fun _ h => h) (hB.le A52.1);simp [e1_, a53.pre, a60.pre];apply hK;clear hK K;refine DWp.ret ?_;obtain rfl := Option.some.inj hF;exact ⟨by simp, [c49_u0, c56_u0], by simp [e1_, ((S58.sl (k := 2) rfl).tup), ((S58.sl (k := 3) rfl).tup)], A59, c49_u0, c56_u0, rfl, S58.pick [2, 3] (by decide) rfl⟩
def F_spec_l1In (fu : Nat) (x0 : Int) (x1 : Int) (x2 : Int) : Option (Bool) :=
  bif (ile x1 x0) then
    some (ile x0 x2)
  else
    some false
theorem F_spec_l1In_w {fu : Nat} {H : AH}  {x0 : Int} {x1 : Int} {x2 : Int} {r : (Bool)}  (hF : F_spec_l1In fu x0 x1 x2 = some r) :
    ACallT Try.prog 18 [(Value.int .i64 x0), (Value.int .i64 x1), (Value.int .i64 x2)] H (fun u G => AgB (Fr H) H G ∧ u = (Value.bool r) ∧ Sep G (Fr H) []) := by
 refine ACallT.of_body (nt := 15) (rs := [.tmp 6]) Try.func18 rfl rfl rfl rfl ?_;have A0 : AgB (Fr H) H H := .refl _ _;have S0 : Sep H (Fr H) [] := .nil;have hB := Fr.up H;unfold F_spec_l1In at hF;refine .sr fun K hK => ?_;simp [];apply hK;clear hK K;rcases Bool.eq_false_or_eq_true (ile x1 x0) with hb1 | hb1
 ·replace hF := cd_t hb1 hF;refine .sr fun K hK => ?_;simp [hb1];apply hK;clear hK K;refine DWp.ret ?_;obtain rfl := Option.some.inj hF;exact ⟨by simp, [(Value.bool (ile x0 x2))], by simp [], A0, rfl, S0.pick [] (by decide) rfl⟩
 ·replace hF := cd_f hb1 hF;refine .sr fun K hK => ?_;simp [hb1];apply hK;clear hK K;refine DWp.ret ?_;obtain rfl := Option.some.inj hF;exact ⟨by simp, [(Value.bool false)], by simp [], A0, rfl, S0.pick [] (by decide) rfl⟩
def F_spec_l1All_L1 (fu : Nat) (k1_0 : Int) (k1_1 : Int) (k1_2 : List Int) (k1_3 : Int) : Nat → Int → Option (LR (Bool) (Int))
  | 0, _ => none
  | n + 1, y1_11 =>
    bif (ilt y1_11 k1_3) then
      gd (inL k1_2 y1_11) (
      bd (F_spec_l1In fu (gat 0 k1_2 y1_11) k1_0 k1_1) fun r1 =>
      bif (bnot r1) then
        some (.ret false)
      else
        F_spec_l1All_L1 fu k1_0 k1_1 k1_2 k1_3 n (iadd .i64 y1_11 1))
    else
      some (.brk y1_11)
def F_spec_l1All (fu : Nat) (x0 : List Int) (x1 : Int) (x2 : Int) : Option (Bool) :=
  bd (F_spec_l1All_L1 fu x1 x2 x0 (llen x0) fu 0) fun s1 =>
  lr s1 fun s1 =>
  some true
theorem F_spec_l1All_w {fu : Nat} {H : AH} {v0 : Value} {x0 : List Int} {x1 : Int} {x2 : Int} {r : (Bool)} (hx0 : Sl H v0 (ints x0)) (hF : F_spec_l1All fu x0 x1 x2 = some r) :
    ACallT Try.prog 35 [v0, (Value.int .i64 x1), (Value.int .i64 x2)] H (fun u G => AgB (Fr H) H G ∧ u = (Value.bool r) ∧ Sep G (Fr H) []) := by
 refine ACallT.of_body (nt := 21) (rs := [.tmp 6]) Try.func35 rfl rfl rfl rfl ?_;have A0 : AgB (Fr H) H H := .refl _ _;have S0 : Sep H (Fr H) [] := .nil;have hB := Fr.up H;unfold F_spec_l1All at hF;refine .sr fun K hK => ?_;simp [];apply hK;clear hK K;refine .seq ?_;have q1 := lenG (P := Try.prog) (hx0.agree A0.agree) el_25;refine .sr fun K hK => ?_;simp [q1];apply hK;clear hK K;refine .block ?_;obtain ⟨s2, hL3, hF⟩ := bd_some hF;have S4 := S0.pick [] (by decide) rfl;refine DWp.loop (fun n env G => ∃ y1_11 : Int, F_spec_l1All_L1 fu x1 x2 x0 (llen x0) n y1_11 = some s2 ∧ Sep G (Fr H) [] ∧ AgB (Fr H) H G ∧ env 1 = some (Value.int .i64 x1) ∧ env 2 = some (Value.int .i64 x2) ∧ env 9 = some v0 ∧ env 10 = some (Value.int .i64 (llen x0)) ∧ env 11 = some (Value.int .i64 y1_11)) fu ⟨0, hL3, S4, A0, by simp []⟩ ?_;rintro n1 env1 G1_ ⟨y1_11, hL3, S1_, A1_, e1_⟩;cases n1 with
 | zero => cases hL3
 | succ n1 =>
  simp only [F_spec_l1All_L1] at hL3;refine .sr fun K hK => ?_;simp [e1_];apply hK;clear hK K;refine .seq ?_;refine DWp.cond' (t := (ilt y1_11 (llen x0))) (by simp [e1_]) (fun hb5 => ?_) (fun hb5 => ?_)
  ·replace hL3 := cd_t hb5 hL3;refine DWp.skip ?_;simp only [andThen, leaves];refine .seq ?_;refine .block ?_;obtain ⟨g6, hL3⟩ := gd_some hL3;have q7 := idxG (P := Try.prog) (kk := .i64) (hx0.agree A1_.agree) el_25 sz_3 g6;have q8 := loadG (P := Try.prog) (hx0.agree A1_.agree) sz_3 ag_3 g6 0;refine .sr fun K hK => ?_;simp [e1_, q7, q8];apply hK;clear hK K;obtain ⟨r1, hc9, hL3⟩ := bd_some hL3;refine .sr fun K hK => ?_;simp [e1_];refine CallD.t (F_spec_l1In_w (fu := fu)  hc9) ?_;rintro _ G11 ⟨a14, rfl, S15⟩;have A13 := A1_.ext (hB.le A1_.1) a14.agree;have S12 : Sep G11 (Fr H) [] := S1_.app a14.agree S15 (fun _ h => h) (hB.le A1_.1);simp [e1_, a14.pre];apply hK;clear hK K;refine DWp.cond' (t := (bnot r1)) (by simp [e1_]) (fun hb16 => ?_) (fun hb16 => ?_)
   ·replace hL3 := cd_t hb16 hL3;refine .sr fun K hK => ?_;simp [e1_];apply hK;clear hK K;refine DWp.ret ?_;simp only [andThen, leaves];obtain rfl := Option.some.inj hL3;simp only [lr] at hF;obtain rfl := Option.some.inj hF;exact ⟨by simp, [(Value.bool false)], by simp [e1_], A13, rfl, S12.pick [] (by decide) rfl⟩
   ·replace hL3 := cd_f hb16 hL3;refine DWp.skip ?_;simp only [andThen, leaves];refine .region fun K hK => ?_;simp [e1_];apply hK;clear hK K;simp only [andThen, leaves];have S17 := S12.pick [] (by decide) rfl;exact ⟨n1, Nat.lt_succ_self _, (iadd .i64 y1_11 1), hL3, S17, A13, by simp [e1_]⟩
  ·replace hL3 := cd_f hb5 hL3;refine DWp.exit ?_;simp only [andThen, leaves, if_true, if_false, reduceIte, Nat.reduceEqDiff];obtain rfl := Option.some.inj hL3;simp only [lr] at hF;refine .sr fun K hK => ?_;simp [e1_];apply hK;clear hK K;refine DWp.ret ?_;obtain rfl := Option.some.inj hF;exact ⟨by simp, [(Value.bool true)], by simp [e1_], A1_, rfl, S1_.pick [] (by decide) rfl⟩
def F_spec_l1Same_L1 (fu : Nat) (k1_0 : List Int) (k1_1 : List Int) (k1_2 : Int) : Nat → Int → Option (LR (Bool) (Int))
  | 0, _ => none
  | n + 1, y1_13 =>
    bif (ilt y1_13 k1_2) then
      gd (inL k1_0 y1_13) (
      gd (inL k1_1 y1_13) (
      bif (ine (gat 0 k1_0 y1_13) (gat 0 k1_1 y1_13)) then
        some (.ret false)
      else
        F_spec_l1Same_L1 fu k1_0 k1_1 k1_2 n (iadd .i64 y1_13 1)))
    else
      some (.brk y1_13)
def F_spec_l1Same (fu : Nat) (x0 : List Int) (x1 : List Int) : Option (Bool) :=
  bif (ine (llen x0) (llen x1)) then
    some false
  else
    bd (F_spec_l1Same_L1 fu x0 x1 (llen x0) fu 0) fun s1 =>
    lr s1 fun s1 =>
    some true
theorem F_spec_l1Same_w {fu : Nat} {H : AH} {v0 : Value} {v1 : Value} {x0 : List Int} {x1 : List Int} {r : (Bool)} (hx0 : Sl H v0 (ints x0)) (hx1 : Sl H v1 (ints x1)) (hF : F_spec_l1Same fu x0 x1 = some r) :
    ACallT Try.prog 36 [v0, v1] H (fun u G => AgB (Fr H) H G ∧ u = (Value.bool r) ∧ Sep G (Fr H) []) := by
 refine ACallT.of_body (nt := 26) (rs := [.tmp 4]) Try.func36 rfl rfl rfl rfl ?_;have A0 : AgB (Fr H) H H := .refl _ _;have S0 : Sep H (Fr H) [] := .nil;have hB := Fr.up H;unfold F_spec_l1Same at hF;refine .sr fun K hK => ?_;simp [];apply hK;clear hK K;refine .seq ?_;have q1 := lenG (P := Try.prog) (hx0.agree A0.agree) el_25;have q2 := lenG (P := Try.prog) (hx1.agree A0.agree) el_25;refine .sr fun K hK => ?_;simp [q1, q2];apply hK;clear hK K;refine DWp.cond' (t := (ine (llen x0) (llen x1))) (by simp []) (fun hb3 => ?_) (fun hb3 => ?_)
 ·replace hF := cd_t hb3 hF;refine .sr fun K hK => ?_;simp [];apply hK;clear hK K;refine DWp.ret ?_;simp only [andThen, leaves];obtain rfl := Option.some.inj hF;exact ⟨by simp, [(Value.bool false)], by simp [], A0, rfl, S0.pick [] (by decide) rfl⟩
 ·replace hF := cd_f hb3 hF;refine DWp.skip ?_;simp only [andThen, leaves];refine .seq ?_;have q4 := lenG (P := Try.prog) (hx0.agree A0.agree) el_25;refine .sr fun K hK => ?_;simp [q4];apply hK;clear hK K;refine .block ?_;obtain ⟨s5, hL6, hF⟩ := bd_some hF;have S7 := S0.pick [] (by decide) rfl;refine DWp.loop (fun n env G => ∃ y1_13 : Int, F_spec_l1Same_L1 fu x0 x1 (llen x0) n y1_13 = some s5 ∧ Sep G (Fr H) [] ∧ AgB (Fr H) H G ∧ env 0 = some v0 ∧ env 1 = some v1 ∧ env 12 = some (Value.int .i64 (llen x0)) ∧ env 13 = some (Value.int .i64 y1_13)) fu ⟨0, hL6, S7, A0, by simp []⟩ ?_;rintro n1 env1 G1_ ⟨y1_13, hL6, S1_, A1_, e1_⟩;cases n1 with
  | zero => cases hL6
  | succ n1 =>
   simp only [F_spec_l1Same_L1] at hL6;refine .sr fun K hK => ?_;simp [e1_];apply hK;clear hK K;refine .seq ?_;refine DWp.cond' (t := (ilt y1_13 (llen x0))) (by simp [e1_]) (fun hb8 => ?_) (fun hb8 => ?_)
   ·replace hL6 := cd_t hb8 hL6;refine DWp.skip ?_;simp only [andThen, leaves];refine .seq ?_;refine .block ?_;refine .sr fun K hK => ?_;simp [e1_];apply hK;clear hK K;obtain ⟨g9, hL6⟩ := gd_some hL6;have q10 := idxG (P := Try.prog) (kk := .i64) (hx0.agree A1_.agree) el_25 sz_3 g9;have q11 := loadG (P := Try.prog) (hx0.agree A1_.agree) sz_3 ag_3 g9 0;obtain ⟨g12, hL6⟩ := gd_some hL6;have q13 := idxG (P := Try.prog) (kk := .i64) (hx1.agree A1_.agree) el_25 sz_3 g12;have q14 := loadG (P := Try.prog) (hx1.agree A1_.agree) sz_3 ag_3 g12 0;refine .sd (B := [0, 0, 3, 7, 0, 0, 48, 112, 255]) 9 mixed (by kernel_rfl) (by decide) fun K hK => ?_;simp [e1_, q10, q11, q13, q14];apply hK;clear hK K;refine DWp.cond' (t := (ine (gat 0 x0 y1_13) (gat 0 x1 y1_13))) (by simp [e1_]) (fun hb15 => ?_) (fun hb15 => ?_)
    ·replace hL6 := cd_t hb15 hL6;refine .sr fun K hK => ?_;simp [e1_];apply hK;clear hK K;refine DWp.ret ?_;simp only [andThen, leaves];obtain rfl := Option.some.inj hL6;simp only [lr] at hF;obtain rfl := Option.some.inj hF;exact ⟨by simp, [(Value.bool false)], by simp [e1_], A1_, rfl, S1_.pick [] (by decide) rfl⟩
    ·replace hL6 := cd_f hb15 hL6;refine DWp.skip ?_;simp only [andThen, leaves];refine .region fun K hK => ?_;simp [e1_];apply hK;clear hK K;simp only [andThen, leaves];have S16 := S1_.pick [] (by decide) rfl;exact ⟨n1, Nat.lt_succ_self _, (iadd .i64 y1_13 1), hL6, S16, A1_, by simp [e1_]⟩
   ·replace hL6 := cd_f hb8 hL6;refine DWp.exit ?_;simp only [andThen, leaves, if_true, if_false, reduceIte, Nat.reduceEqDiff];obtain rfl := Option.some.inj hL6;simp only [lr] at hF;refine .sr fun K hK => ?_;simp [e1_];apply hK;clear hK K;refine DWp.ret ?_;obtain rfl := Option.some.inj hF;exact ⟨by simp, [(Value.bool true)], by simp [e1_], A1_, rfl, S1_.pick [] (by decide) rfl⟩
def F_spec_stAround_L1 (fu : Nat) (k1_0 : List Int) (k1_1 : List Int) (k1_2 : Int) : Nat → List Int → Int → Option (List Int × Int)
  | 0, _, _ => none
  | n + 1, l1_1, y1_4 =>
    bif (ile 0 y1_4) then
      gd (inL k1_1 y1_4) (
      gd (l1_1.length + [(gat 0 k1_1 y1_4)].length ≤ 4294967296) (
      F_spec_stAround_L1 fu k1_0 k1_1 k1_2 n (lapp l1_1 [(gat 0 k1_1 y1_4)]) (isub .i64 y1_4 1)))
    else
      some (l1_1, y1_4)
def F_spec_stAround (fu : Nat) (x0_0 : List Int) (x0_1 : List Int) (x0_2 : Int) : Option (List Int) :=
  bd (F_spec_l1Own fu x0_0) fun r1 =>
  bd (F_spec_stAround_L1 fu x0_0 x0_1 x0_2 fu r1 (isub .i64 (llen x0_1) 1)) fun s1 =>
  some s1.1
theorem F_spec_stAround_w {fu : Nat} {H : AH} {v0_0 : Value} {v0_1 : Value} {x0_0 : List Int} {x0_1 : List Int} {x0_2 : Int} {r : (List Int)} (hx0_0 : Sl H v0_0 (ints x0_0)) (hx0_1 : Sl H v0_1 (ints x0_1)) (hF : F_spec_stAround fu x0_0 x0_1 x0_2 = some r) :
    ACallT Try.prog 37 [(Value.agg #[v0_0, v0_1, (Value.int .i64 x0_2)])] H (fun u G => AgB (Fr H) H G ∧ ∃ u0 : Value, u = u0 ∧ Sep G (Fr H) [flat u0 3 (ints r)]) := by
 refine ACallT.of_body (nt := 25) (rs := [.tmp 2]) Try.func37 rfl rfl rfl rfl ?_;have A0 : AgB (Fr H) H H := .refl _ _;have S0 : Sep H (Fr H) [] := .nil;have hB := Fr.up H;unfold F_spec_stAround at hF;obtain ⟨G2, p4, q5, q6, a7, S1⟩ := S0.boxT (hB.le A0.1) 34 [v0_0, v0_1, (Value.int .i64 x0_2)];have A3 := A0.ext (hB.le A0.1) a7;replace S1 : Sep G2 (Fr H) [AL.box p4 [v0_0, v0_1, (Value.int .i64 x0_2)]] := S1;refine .sr fun K hK => ?_;simp [q5, q6, a7.to_pre, cells_agg];apply hK;clear hK K;have q8 := S1.fieldT (P := Try.prog) (k := 0) rfl fa_34_0;have q9 := S1.loadF (P := Try.prog) (k := 0) rfl sz_25 ag_25 (off := 0) rfl;obtain ⟨r1, hc10, hF⟩ := bd_some hF;refine .sr fun K hK => ?_;simp [q8, q9, ((hx0_0.agree A3.agree).tup)];refine CallD.t (F_spec_l1Own_w (fu := fu) (hx0_0.agree A3.agree) hc10) ?_;rintro c11_u0 G12 ⟨a15, _, rfl, S16⟩;have A14 := A3.ext (hB.le A3.1) a15.agree;have S13 : Sep G12 (Fr H) [AL.box p4 [v0_0, v0_1, (Value.int .i64 x0_2)], flat c11_u0 3 (ints r1)] := S1.app a15.agree S16 (fun _ h => h) (hB.le A3.1);simp [q8, q9, a15.pre];apply hK;clear hK K;refine .seq ?_;have q17 := S13.fieldT (P := Try.prog) (k := 0) rfl fa_34_1;have q18 := S13.loadF (P := Try.prog) (k := 0) rfl sz_25 ag_25 (off := 1) rfl;have q19 := lenG (P := Try.prog) (hx0_1.agree A14.agree) el_25;refine .sr fun K hK => ?_;simp [q17, q18, q19];apply hK;clear hK K;refine .block ?_;obtain ⟨s20, hL21, hF⟩ := bd_some hF;have S22 := S13.pick [0, 1] (by decide) rfl
 refine DWp.loop (fun n env G => ∃ l1_1 : List Int, ∃ y1_4 : Int, ∃ w1_1 : Value, F_spec_stAround_L1 fu x0_0 x0_1 x0_2 n l1_1 y1_4 = some s20 ∧ Sep G (Fr H) [AL.box p4 [v0_0, v0_1, (Value.int .i64 x0_2)], flat w1_1 3 (ints l1_1)] ∧ AgB (Fr H) H G ∧ env 1 = some p4 ∧ env 3 = some w1_1 ∧ env 4 = some (Value.int .i64 y1_4)) fu ⟨r1, (isub .i64 (llen x0_1) 1), c11_u0, hL21, S22, A14, by simp []⟩ ?_;rintro n1 env1 G1_ ⟨l1_1, y1_4, w1_1, hL21, S1_, A1_, e1_⟩;cases n1 with
 | zero => cases hL21
 | succ n1 =>
  simp only [F_spec_stAround_L1] at hL21;refine .seq ?_;refine .sr fun K hK => ?_;simp [e1_];apply hK;clear hK K;refine DWp.cond' (t := (ile 0 y1_4)) (by simp [e1_]) (fun hb23 => ?_) (fun hb23 => ?_)
  ·replace hL21 := cd_t hb23 hL21;refine DWp.skip ?_;simp only [andThen, leaves];refine .seq ?_;refine .block ?_;have q24 := S1_.fieldT (P := Try.prog) (k := 0) rfl fa_34_1;have q25 := S1_.loadF (P := Try.prog) (k := 0) rfl sz_25 ag_25 (off := 1) rfl;obtain ⟨g26, hL21⟩ := gd_some hL21;have q27 := idxG (P := Try.prog) (kk := .i64) (hx0_1.agree A1_.agree) el_25 sz_3 g26;have q28 := loadG (P := Try.prog) (hx0_1.agree A1_.agree) sz_3 ag_3 g26 0;obtain ⟨v29, G30, q31, S32, a34, _, _⟩ := S1_.lit1 (P := Try.prog) (t := 25) (hB.le A1_.1) el_25 ei_3 rfl (Value.int .i64 (gat 0 x0_1 y1_4)) rfl rfl;have A33 := A1_.ext (hB.le A1_.1) a34;replace S32 : Sep G30 (Fr H) [AL.box p4 [v0_0, v0_1, (Value.int .i64 x0_2)], flat w1_1 3 (ints l1_1), flat1 v29 3 (ints [(gat 0 x0_1 y1_4)])] := S32;obtain ⟨g36, hL21⟩ := gd_some hL21;obtain ⟨v42, G37, q38, S39, a41, _, _⟩ := S32.appendG (f := (Value.int .i64)) (xs := l1_1) (ys := [(gat 0 x0_1 y1_4)]) (P := Try.prog) (t := 25) (t2 := 25) (k := 1) rfl (hB.le A33.1) el_25 el_25 ei_3 rfl (S32.sl1 (k := 2) rfl) g36;have A40 := A33.trans a41;replace S39 : Sep G37 (Fr H) [AL.box p4 [v0_0, v0_1, (Value.int .i64 x0_2)], flat v42 3 (ints (lapp l1_1 [(gat 0 x0_1 y1_4)])), flat1 v29 3 (ints [(gat 0 x0_1 y1_4)])] := S39;refine .region fun K hK => ?_;simp [e1_, q24, q25, q27, q28, q31, a34.to_pre, q38];apply hK;clear hK K;simp only [andThen, leaves];refine .region fun K hK => ?_;simp [e1_];apply hK;clear hK K;simp only [andThen, leaves];have S43 := S39.pick [0, 1] (by decide) rfl;exact ⟨n1, Nat.lt_succ_self _, (lapp l1_1 [(gat 0 x0_1 y1_4)]), (isub .i64 y1_4 1), v42, hL21, S43, A40, by simp [e1_]⟩
  ·replace hL21 := cd_f hb23 hL21;refine DWp.exit ?_;simp only [andThen, leaves, if_true, if_false, reduceIte, Nat.reduceEqDiff];obtain rfl := Option.some.inj hL21;try dsimp only at hF
   refine .sr fun K hK => ?_;simp [e1_];apply hK;clear hK K;refine DWp.ret ?_;obtain rfl := Option.some.inj hF;exact ⟨by simp, [w1_1], by simp [e1_, ((S1_.sl (k := 1) rfl).tup)], A1_, w1_1, rfl, S1_.pick [1] (by decide) rfl⟩
def F_spec_stGood_L1 (fu : Nat) (k1_0 : List Int) (k1_1 : Int) : Nat → List Int → List Int → Int → Option (LR (Bool) (List Int × List Int × Int))
  | 0, _, _, _ => none
  | n + 1, l1_0, l1_1, y1_58 =>
    bif (ilt y1_58 k1_1) then
      gd (inL k1_0 y1_58) (
      bd (F_spec_l1Has fu l1_1 (gat 0 k1_0 y1_58)) fun r8 =>
      bif r8 then
        some (.ret false)
      else
        bd (F_spec_l1Has fu l1_0 (gat 0 k1_0 y1_58)) fun r9 =>
        bif (bnot r9) then
          gd (l1_0.length + [(gat 0 k1_0 y1_58)].length ≤ 4294967296) (
          F_spec_stGood_L1 fu k1_0 k1_1 n (lapp l1_0 [(gat 0 k1_0 y1_58)]) l1_1 (iadd .i64 y1_58 1))
        else
          gd (inL l1_0 (isub .i64 (llen l1_0) 1)) (
          bif (ine (gat 0 l1_0 (isub .i64 (llen l1_0) 1)) (gat 0 k1_0 y1_58)) then
            some (.ret false)
          else
            gd (subL l1_0 0 (isub .i64 (llen l1_0) 1)) (
            gd (l1_1.length + [(gat 0 k1_0 y1_58)].length ≤ 4294967296) (
            F_spec_stGood_L1 fu k1_0 k1_1 n (lsub l1_0 0 (isub .i64 (llen l1_0) 1)) (lapp l1_1 [(gat 0 k1_0 y1_58)]) (iadd .i64 y1_58 1)))))
    else
      some (.brk (l1_0, l1_1, y1_58))
def F_spec_stGood (fu : Nat) (x0_0 : List Int) (x0_1 : List Int) (x0_2 : Int) : Option (Bool) :=
  bd (
    bif (ilt 6 (llen x0_0)) then
      some true
    else
      bif (ilt 6 (llen x0_1)) then
        some true
      else
        bd (F_spec_l1In fu x0_2 0 6) fun r1 =>
        some (bnot r1)) fun s8 =>
  bif s8 then
    some false
  else
    bd (
      bd (F_spec_l1All fu x0_0 0 6) fun r2 =>
      bif (bnot r2) then
        some true
      else
        bd (F_spec_l1All fu x0_1 0 6) fun r3 =>
        some (bnot r3)) fun s33 =>
    bif s33 then
      some false
    else
      bd (F_spec_stRename fu x0_0 x0_1) fun r4 =>
      bd (
        bd (F_spec_l1Same fu r4.1 x0_0) fun r5 =>
        bif (bnot r5) then
          some true
        else
          bd (F_spec_l1Same fu r4.2 x0_1) fun r6 =>
          some (bnot r6)) fun s70 =>
      bif s70 then
        some false
      else
        bd (F_spec_stAround fu x0_0 x0_1 x0_2) fun r7 =>
        bd (F_spec_stGood_L1 fu r7 (llen r7) fu (@List.nil Int) (@List.nil Int) 0) fun s1 =>
        lr s1 fun s1 =>
        some (ieq (llen s1.1) 0)
theorem F_spec_stGood_w {fu : Nat} {H : AH} {v0_0 : Value} {v0_1 : Value} {x0_0 : List Int} {x0_1 : List Int} {x0_2 : Int} {r : (Bool)} (hx0_0 : Sl H v0_0 (ints x0_0)) (hx0_1 : Sl H v0_1 (ints x0_1)) (hF : F_spec_stGood fu x0_0 x0_1 x0_2 = some r) :
    ACallT Try.prog 27 [(Value.agg #[v0_0, v0_1, (Value.int .i64 x0_2)])] H (fun u G => AgB (Fr H) H G ∧ u = (Value.bool r) ∧ Sep G (Fr H) []) := by
 refine ACallT.of_body (nt := 97) (rs := [.tmp 2]) Try.func27 rfl rfl rfl rfl ?_;have A0 : AgB (Fr H) H H := .refl _ _;have S0 : Sep H (Fr H) [] := .nil;have hB := Fr.up H;unfold F_spec_stGood at hF;obtain ⟨G2, p4, q5, q6, a7, S1⟩ := S0.boxT (hB.le A0.1) 34 [v0_0, v0_1, (Value.int .i64 x0_2)];have A3 := A0.ext (hB.le A0.1) a7;replace S1 : Sep G2 (Fr H) [AL.box p4 [v0_0, v0_1, (Value.int .i64 x0_2)]] := S1;refine .sr fun K hK => ?_;simp [q5, q6, a7.to_pre, cells_agg];apply hK;clear hK K;refine .seq ?_;obtain ⟨s8, hL9, hF⟩ := bd_some hF;refine DWp.seq (DWp.join (fun env G => Sep G (Fr H) [AL.box p4 [v0_0, v0_1, (Value.int .i64 x0_2)]] ∧ AgB (Fr H) H G ∧ env 1 = some p4 ∧ env 24 = some (Value.bool s8)) ?_ ?_)
 ·
  have q11 := S1.fieldT (P := Try.prog) (k := 0) rfl fa_34_0;have q12 := S1.loadF (P := Try.prog) (k := 0) rfl sz_25 ag_25 (off := 0) rfl;have q13 := lenG (P := Try.prog) (hx0_0.agree A3.agree) el_25;rcases Bool.eq_false_or_eq_true (ilt 6 (llen x0_0)) with hb14 | hb14
  ·replace hL9 := cd_t hb14 hL9;refine .region fun K hK => ?_;simp [hb14, q11, q12, q13];apply hK;clear hK K;simp only [andThen, leaves];have S15 := S1.pick [0] (by decide) rfl;obtain rfl := Option.some.inj hL9;exact ⟨S15, A3, by simp []⟩
  ·replace hL9 := cd_f hb14 hL9;have q16 := S1.fieldT (P := Try.prog) (k := 0) rfl fa_34_1;have q17 := S1.loadF (P := Try.prog) (k := 0) rfl sz_25 ag_25 (off := 1) rfl;have q18 := lenG (P := Try.prog) (hx0_1.agree A3.agree) el_25;rcases Bool.eq_false_or_eq_true (ilt 6 (llen x0_1)) with hb19 | hb19
   ·replace hL9 := cd_t hb19 hL9;refine .region fun K hK => ?_;simp [hb14, hb19, q11, q12, q13, q16, q17, q18];apply hK;clear hK K;simp only [andThen, leaves];have S20 := S1.pick [0] (by decide) rfl;obtain rfl := Option.some.inj hL9;exact ⟨S20, A3, by simp []⟩
   ·replace hL9 := cd_f hb19 hL9;have q21 := S1.fieldT (P := Try.prog) (k := 0) rfl fa_34_2;have q22 := S1.loadF (P := Try.prog) (k := 0) rfl sz_3 ag_3 (off := 2) rfl;obtain ⟨r1, hc23, hL9⟩ := bd_some hL9;refine .region fun K hK => ?_;simp [hb14, hb19, q11, q12, q13, q16, q17, q18, q21, q22];refine CallD.t (F_spec_l1In_w (fu := fu)  hc23) ?_;rintro _ G25 ⟨a28, rfl, S29⟩;have A27 := A3.ext (hB.le A3.1) a28.agree;have S26 : Sep G25 (Fr H) [AL.box p4 [v0_0, v0_1, (Value.int .i64 x0_2)]] := S1.app a28.agree S29 (fun _ h => h) (hB.le A3.1);simp [hb14, hb19, q11, q12, q13, q16, q17, q18, q21, q22, a28.pre];apply hK;clear hK K;simp only [andThen, leaves];have S30 := S26.pick [0] (by decide) rfl;obtain rfl := Option.some.inj hL9;exact ⟨S30, A27, by simp []⟩
 ·rintro env Gj31 ⟨Sj31, Aj31, ej31_⟩;refine DWp.cond' (t := s8) (by simp [ej31_]) (fun hb32 => ?_) (fun hb32 => ?_)
  ·replace hF := cd_t hb32 hF;refine .sr fun K hK => ?_;simp [ej31_];apply hK;clear hK K;refine DWp.ret ?_;simp only [andThen, leaves];obtain rfl := Option.some.inj hF;exact ⟨by simp, [(Value.bool false)], by simp [ej31_], Aj31, rfl, Sj31.pick [] (by decide) rfl⟩
  ·replace hF := cd_f hb32 hF;refine DWp.skip ?_;simp only [andThen, leaves];refine .seq ?_;obtain ⟨s33, hL34, hF⟩ := bd_some hF;refine DWp.seq (DWp.join (fun env G => Sep G (Fr H) [AL.box p4 [v0_0, v0_1, (Value.int .i64 x0_2)]] ∧ AgB (Fr H) H G ∧ env 1 = some p4 ∧ env 34 = some (Value.bool s33)) ?_ ?_)
   ·
    have q36 := Sj31.fieldT (P := Try.prog) (k := 0) rfl fa_34_0;have q37 := Sj31.loadF (P := Try.prog) (k := 0) rfl sz_25 ag_25 (off := 0) rfl;obtain ⟨r2, hc38, hL34⟩ := bd_some hL34;refine .region fun K hK => ?_;simp [ej31_, q36, q37, ((hx0_0.agree Aj31.agree).tup)];refine CallD.t (F_spec_l1All_w (fu := fu) (hx0_0.agree Aj31.agree) hc38) ?_;rintro _ G40 ⟨a43, rfl, S44⟩;have A42 := Aj31.ext (hB.le Aj31.1) a43.agree;have S41 : Sep G40 (Fr H) [AL.box p4 [v0_0, v0_1, (Value.int .i64 x0_2)]] := Sj31.app a43.agree S44 (fun _ h => h) (hB.le Aj31.1);rcases Bool.eq_false_or_eq_true (bnot r2) with hb45 | hb45
    ·replace hL34 := cd_t hb45 hL34;simp [ej31_, hb45, q36, q37, a43.pre];apply hK;clear hK K;simp only [andThen, leaves];have S46 := S41.pick [0] (by decide) rfl;obtain rfl := Option.some.inj hL34;exact ⟨S46, A42, by simp [ej31_]⟩
    ·replace hL34 := cd_f hb45 hL34;have q47 := S41.fieldT (P := Try.prog) (k := 0) rfl fa_34_1;have q48 := S41.loadF (P := Try.prog) (k := 0) rfl sz_25 ag_25 (off := 1) rfl;obtain ⟨r3, hc49, hL34⟩ := bd_some hL34;simp [ej31_, hb45, q36, q37, a43.pre, q47, q48, ((hx0_1.agree A42.agree).tup)];refine CallD.t (F_spec_l1All_w (fu := fu) (hx0_1.agree A42.agree) hc49) ?_;rintro _ G51 ⟨a54, rfl, S55⟩;have A53 := A42.ext (hB.le A42.1) a54.agree;have S52 : Sep G51 (Fr H) [AL.box p4 [v0_0, v0_1, (Value.int .i64 x0_2)]] := S41.app a54.agree S55 (fun _ h => h) (hB.le A42.1);simp [ej31_, hb45, q36, q37, a43.pre, q47, q48, a54.pre];apply hK;clear hK K;simp only [andThen, leaves];have S56 := S52.pick [0] (by decide) rfl;obtain rfl := Option.some.inj hL34;exact ⟨S56, A53, by simp [ej31_]⟩
   ·rintro env Gj57 ⟨Sj57, Aj57, ej57_⟩;refine DWp.cond' (t := s33) (by simp [ej57_]) (fun hb58 => ?_) (fun hb58 => ?_)
    ·replace hF := cd_t hb58 hF;refine .sr fun K hK => ?_;simp [ej57_];apply hK;clear hK K;refine DWp.ret ?_;simp only [andThen, leaves];obtain rfl := Option.some.inj hF;exact ⟨by simp, [(Value.bool false)], by simp [ej57_], Aj57, rfl, Sj57.pick [] (by decide) rfl⟩
    ·replace hF := cd_f hb58 hF;refine DWp.skip ?_;simp only [andThen, leaves];have q59 := Sj57.fieldT (P := Try.prog) (k := 0) rfl fa_34_0;have q60 := Sj57.loadF (P := Try.prog) (k := 0) rfl sz_25 ag_25 (off := 0) rfl;have q61 := Sj57.fieldT (P := Try.prog) (k := 0) rfl fa_34_1;have q62 := Sj57.loadF (P := Try.prog) (k := 0) rfl sz_25 ag_25 (off := 1) rfl;obtain ⟨r4, hc63, hF⟩ := bd_some hF;refine .sr fun K hK => ?_;simp [ej57_, q59, q60, q61, q62, ((hx0_0.agree Aj57.agree).tup), ((hx0_1.agree Aj57.agree).tup)];refine CallD.t (F_spec_stRename_w (fu := fu) (hx0_0.agree Aj57.agree) (hx0_1.agree Aj57.agree) hc63) ?_;rintro _ G65 ⟨a68, c64_u0, c64_u1, rfl, S69⟩;have A67 := Aj57.ext (hB.le Aj57.1) a68.agree;have S66 : Sep G65 (Fr H) [AL.box p4 [v0_0, v0_1, (Value.int .i64 x0_2)], flat c64_u0 3 (ints r4.1), flat c64_u1 3 (ints r4.2)] := Sj57.app a68.agree S69 (fun _ h => h) (hB.le Aj57.1);simp [ej57_, q59, q60, q61, q62, a68.pre];apply hK;clear hK K;refine .seq ?_;obtain ⟨s70, hL71, hF⟩ := bd_some hF;refine DWp.seq (DWp.join (fun env G => Sep G (Fr H) [AL.box p4 [v0_0, v0_1, (Value.int .i64 x0_2)]] ∧ AgB (Fr H) H G ∧ env 1 = some p4 ∧ env 54 = some (Value.bool s70)) ?_ ?_)
     ·
      have q73 := S66.fieldT (P := Try.prog) (k := 0) rfl fa_34_0;have q74 := S66.loadF (P := Try.prog) (k := 0) rfl sz_25 ag_25 (off := 0) rfl;obtain ⟨r5, hc75, hL71⟩ := bd_some hL71;refine .region fun K hK => ?_;simp [ej57_, q73, q74, ((S66.sl (k := 1) rfl).tup), ((hx0_0.agree A67.agree).tup)];refine CallD.t (F_spec_l1Same_w (fu := fu) (S66.sl (k := 1) rfl) (hx0_0.agree A67.agree) hc75) ?_;rintro _ G77 ⟨a80, rfl, S81⟩;have A79 := A67.ext (hB.le A67.1) a80.agree;have S78 : Sep G77 (Fr H) [AL.box p4 [v0_0, v0_1, (Value.int .i64 x0_2)], flat c64_u0 3 (ints r4.1), flat c64_u1 3 (ints r4.2)] := S66.app a80.agree S81 (fun _ h => h) (hB.le A67.1);rcases Bool.eq_false_or_eq_true (bnot r5) with hb82 | hb82
      ·replace hL71 := cd_t hb82 hL71;simp [ej57_, hb82, q73, q74, a80.pre];apply hK;clear hK K;simp only [andThen, leaves];have S83 := S78.pick [0] (by decide) rfl;obtain rfl := Option.some.inj hL71;exact ⟨S83, A79, by simp [ej57_]⟩
      ·replace hL71 := cd_f hb82 hL71;have q84 := S78.fieldT (P := Try.prog) (k := 0) rfl fa_34_1;have q85 := S78.loadF (P := Try.prog) (k := 0) rfl sz_25 ag_25 (off := 1) rfl;obtain ⟨r6, hc86, hL71⟩ := bd_some hL71;simp [ej57_, hb82, q73, q74, a80.pre, q84, q85, ((S78.sl (k := 2) rfl).tup), ((hx0_1.agree A79.agree).tup)];refine CallD.t (F_spec_l1Same_w (fu := fu) (S78.sl (k := 2) rfl) (hx0_1.agree A79.agree) hc86) ?_;rintro _ G88 ⟨a91, rfl, S92⟩;have A90 := A79.ext (hB.le A79.1) a91.agree;have S89 : Sep G88 (Fr H) [AL.box p4 [v0_0, v0_1, (Value.int .i64 x0_2)], flat c64_u0 3 (ints r4.1), flat c64_u1 3 (ints r4.2)] := S78.app a91.agree S92 (fun _ h => h) (hB.le A79.1);simp [ej57_, hb82, q73, q74, a80.pre, q84, q85, a91.pre];apply hK;clear hK K;simp only [andThen, leaves];have S93 := S89.pick [0] (by decide) rfl;obtain rfl := Option.some.inj hL71;exact ⟨S93, A90, by simp [ej57_]⟩
     ·rintro env Gj94 ⟨Sj94, Aj94, ej94_⟩;refine DWp.cond' (t := s70) (by simp [ej94_]) (fun hb95 => ?_) (fun hb95 => ?_)
      ·replace hF := cd_t hb95 hF;refine .sr fun K hK => ?_;simp [ej94_];apply hK;clear hK K;refine DWp.ret ?_;simp only [andThen, leaves];obtain rfl := Option.some.inj hF;exact ⟨by simp, [(Value.bool false)], by simp [ej94_], Aj94, rfl, Sj94.pick [] (by decide) rfl⟩
      ·replace hF := cd_f hb95 hF;refine DWp.skip ?_;simp only [andThen, leaves];refine .sr fun K hK => ?_;simp [ej94_];apply hK;clear hK K;refine .seq ?_;have q96 := Sj94.loadAgg (P := Try.prog) (k := 0) rfl sz_34 ag_34 rfl;obtain ⟨r7, hc97, hF⟩ := bd_some hF;refine .sr fun K hK => ?_;simp [ej94_, q96, ((hx0_0.agree Aj94.agree).tup), ((hx0_1.agree Aj94.agree).tup)];refine CallD.t (F_spec_stAround_w (fu := fu) (hx0_0.agree Aj94.agree) (hx0_1.agree Aj94.agree) hc97) ?_;rintro c98_u0 G99 ⟨a102, _, rfl, S103⟩;have A101 := Aj94.ext (hB.le Aj94.1) a102.agree;have S100 : Sep G99 (Fr H) [AL.box p4 [v0_0, v0_1, (Value.int .i64 x0_2)], flat c98_u0 3 (ints r7)] := Sj94.app a102.agree S103 (fun _ h => h) (hB.le Aj94.1);have q104 := lenG (P := Try.prog) (S100.sl (k := 1) rfl) el_25;simp [ej94_, q96, a102.pre, q104];apply hK;clear hK K;refine .block ?_;have S105 := S100.nilItem (hB.le A101.1) 3;have S106 := S105.nilItem (hB.le A101.1) 3;obtain ⟨s107, hL108, hF⟩ := bd_some hF;have S109 := S106.pick [2, 3, 1] (by decide) rfl;refine DWp.loop (fun n env G => ∃ l1_0 : List Int, ∃ l1_1 : List Int, ∃ y1_58 : Int, ∃ w1_0 : Value, ∃ w1_1 : Value, F_spec_stGood_L1 fu r7 (llen r7) n l1_0 l1_1 y1_58 = some s107 ∧ Sep G (Fr H) [flat w1_0 3 (ints l1_0), flat w1_1 3 (ints l1_1), flat c98_u0 3 (ints r7)] ∧ AgB (Fr H) H G ∧ env 5 = some w1_0 ∧ env 6 = some w1_1 ∧ env 56 = some c98_u0 ∧ env 57 = some (Value.int .i64 (llen r7)) ∧ env 58 = some (Value.int .i64 y1_58)) fu ⟨(@List.nil Int), (@List.nil Int), 0, (Value.slice none 0 0), (Value.slice none 0 0), hL108, S109, A101, by simp [ej94_]⟩ ?_;rintro n1 env1 G1_ ⟨l1_0, l1_1, y1_58, w1_0, w1_1, hL108, S1_, A1_, e1_⟩;cases n1 with
       | zero => cases hL108
       | succ n1 =>
        simp only [F_spec_stGood_L1] at hL108;refine .sr fun K hK => ?_;simp [e1_];apply hK;clear hK K;refine .seq ?_;refine DWp.cond' (t := (ilt y1_58 (llen r7))) (by simp [e1_]) (fun hb110 => ?_) (fun hb110 => ?_)
        ·replace hL108 := cd_t hb110 hL108;refine DWp.skip ?_;simp only [andThen, leaves];refine .seq ?_;refine .block ?_;obtain ⟨g111, hL108⟩ := gd_some hL108;have q112 := idxG (P := Try.prog) (kk := .i64) (S1_.sl (k := 2) rfl) el_25 sz_3 g111;have q113 := loadG (P := Try.prog) (S1_.sl (k := 2) rfl) sz_3 ag_3 g111 0;refine .sr fun K hK => ?_;simp [e1_, q112, q113];apply hK;clear hK K;refine .block ?_;obtain ⟨r8, hc114, hL108⟩ := bd_some hL108;refine .sr fun K hK => ?_;simp [e1_, ((S1_.sl (k := 1) rfl).tup)];refine CallD.t (F_spec_l1Has_w (fu := fu) (S1_.sl (k := 1) rfl) hc114) ?_;rintro _ G116 ⟨a119, rfl, S120⟩;have A118 := A1_.ext (hB.le A1_.1) a119.agree;have S117 : Sep G116 (Fr H) [flat w1_0 3 (ints l1_0), flat w1_1 3 (ints l1_1), flat c98_u0 3 (ints r7)] := S1_.app a119.agree S120 (fun _ h => h) (hB.le A1_.1);simp [e1_, a119.pre];apply hK;clear hK K;refine DWp.cond' (t := r8) (by simp [e1_]) (fun hb121 => ?_) (fun hb121 => ?_)
         ·replace hL108 := cd_t hb121 hL108;refine .sr fun K hK => ?_;simp [e1_];apply hK;clear hK K;refine DWp.ret ?_;simp only [andThen, leaves];obtain rfl := Option.some.inj hL108;simp only [lr] at hF;obtain rfl := Option.some.inj hF;exact ⟨by simp, [(Value.bool false)], by simp [e1_], A118, rfl, S117.pick [] (by decide) rfl⟩
         ·replace hL108 := cd_f hb121 hL108;obtain ⟨r9, hc122, hL108⟩ := bd_some hL108;refine .sr fun K hK => ?_;simp [e1_, ((S117.sl (k := 0) rfl).tup)];refine CallD.t (F_spec_l1Has_w (fu := fu) (S117.sl (k := 0) rfl) hc122) ?_;rintro _ G124 ⟨a127, rfl, S128⟩;have A126 := A118.ext (hB.le A118.1) a127.agree;have S125 : Sep G124 (Fr H) [flat w1_0 3 (ints l1_0), flat w1_1 3 (ints l1_1), flat c98_u0 3 (ints r7)] := S117.app a127.agree S128 (fun _ h => h) (hB.le A118.1);simp [e1_, a127.pre];apply hK;clear hK K;refine DWp.cond' (t := (bnot r9)) (by simp [e1_]) (fun hb129 => ?_) (fun hb129 => ?_)
          ·replace hL108 := cd_t hb129 hL108;obtain ⟨v130, G131, q132, S133, a135, _, _⟩ := S125.lit1 (P := Try.prog) (t := 25) (hB.le A126.1) el_25 ei_3 rfl (Value.int .i64 (gat 0 r7 y1_58)) rfl rfl;have A134 := A126.ext (hB.le A126.1) a135;replace S133 : Sep G131 (Fr H) [flat w1_0 3 (ints l1_0), flat w1_1 3 (ints l1_1), flat c98_u0 3 (ints r7), flat1 v130 3 (ints [(gat 0 r7 y1_58)])] := S133;obtain ⟨g137, hL108⟩ := gd_some hL108;obtain ⟨v143, G138, q139, S140, a142, _, _⟩ := S133.appendG (f := (Value.int .i64)) (xs := l1_0) (ys := [(gat 0 r7 y1_58)]) (P := Try.prog) (t := 25) (t2 := 25) (k := 0) rfl (hB.le A134.1) el_25 el_25 ei_3 rfl (S133.sl1 (k := 3) rfl) g137;have A141 := A134.trans a142;replace S140 : Sep G138 (Fr H) [flat v143 3 (ints (lapp l1_0 [(gat 0 r7 y1_58)])), flat w1_1 3 (ints l1_1), flat c98_u0 3 (ints r7), flat1 v130 3 (ints [(gat 0 r7 y1_58)])] := S140;refine .region fun K hK => ?_;simp [e1_, q132, a135.to_pre, q139];apply hK;clear hK K;simp only [andThen, leaves];refine .region fun K hK => ?_;simp [e1_];apply hK;clear hK K;simp only [andThen, leaves];have S144 := S140.pick [0, 1, 2] (by decide) rfl;exact ⟨n1, Nat.lt_succ_self _, (lapp l1_0 [(gat 0 r7 y1_58)]), l1_1, (iadd .i64 y1_58 1), v143, w1_1, hL108, S144, A141, by simp [e1_]⟩
          ·replace hL108 := cd_f hb129 hL108;have q145 := lenG (P := Try.prog) (S125.sl (k := 0) rfl) el_25;obtain ⟨g146, hL108⟩ := gd_some hL108;have q147 := idxG (P := Try.prog) (kk := .i64) (S125.sl (k := 0) rfl) el_25 sz_3 g146;have q148 := loadG (P := Try.prog) (S125.sl (k := 0) rfl) sz_3 ag_3 g146 0;refine .sr fun K hK => ?_;simp [e1_, q145, q147, q148];apply hK;clear hK K;refine DWp.cond' (t := (ine (gat 0 l1_0 (isub .i64 (llen l1_0) 1)) (gat 0 r7 y1_58))) (by simp [e1_]) (fun hb149 => ?_) (fun hb149 => ?_)
           ·replace hL108 := cd_t hb149 hL108;refine .sr fun K hK => ?_;simp [e1_];apply hK;clear hK K;refine DWp.ret ?_;simp only [andThen, leaves];obtain rfl := Option.some.inj hL108;simp only [lr] at hF;obtain rfl := Option.some.inj hF;exact ⟨by simp, [(Value.bool false)], by simp [e1_], A126, rfl, S125.pick [] (by decide) rfl⟩
           ·replace hL108 := cd_f hb149 hL108;have q150 := lenG (P := Try.prog) (S125.sl (k := 0) rfl) el_25;obtain ⟨g151, hL108⟩ := gd_some hL108;have q152 := aSub01 (P := Try.prog) (t := 25) (S125.sl (k := 0) rfl) el_25 sz_3 g151;refine .sr fun K hK => ?_;simp [e1_, q150, q152, ((subSl (S125.sl (k := 0) rfl) g151).tup)];apply hK;clear hK K;obtain ⟨v153, G154, q155, S156, a158, _, _⟩ := S125.lit1 (P := Try.prog) (t := 25) (hB.le A126.1) el_25 ei_3 rfl (Value.int .i64 (gat 0 r7 y1_58)) rfl rfl;have A157 := A126.ext (hB.le A126.1) a158;replace S156 : Sep G154 (Fr H) [flat w1_0 3 (ints l1_0), flat w1_1 3 (ints l1_1), flat c98_u0 3 (ints r7), flat1 v153 3 (ints [(gat 0 r7 y1_58)])] := S156;obtain ⟨g160, hL108⟩ := gd_some hL108;obtain ⟨v166, G161, q162, S163, a165, _, _⟩ := S156.appendG (f := (Value.int .i64)) (xs := l1_1) (ys := [(gat 0 r7 y1_58)]) (P := Try.prog) (t := 25) (t2 := 25) (k := 1) rfl (hB.le A157.1) el_25 el_25 ei_3 rfl (S156.sl1 (k := 3) rfl) g160;have A164 := A157.trans a165;replace S163 : Sep G161 (Fr H) [flat w1_0 3 (ints l1_0), flat v166 3 (ints (lapp l1_1 [(gat 0 r7 y1_58)])), flat c98_u0 3 (ints r7), flat1 v153 3 (ints [(gat 0 r7 y1_58)])] := S163;refine .region fun K hK => ?_;simp [e1_, q155, a158.to_pre, q162];apply hK;clear hK K;simp only [andThen, leaves];refine .region fun K hK => ?_;simp [e1_];apply hK;clear hK K;simp only [andThen, leaves];have S167 : Sep G161 (Fr H) [flat (subV w1_0 0 (isub .i64 (llen l1_0) 1)) 3 (ints (lsub l1_0 0 (isub .i64 (llen l1_0) 1))), flat v166 3 (ints (lapp l1_1 [(gat 0 r7 y1_58)])), flat c98_u0 3 (ints r7), flat1 v153 3 (ints [(gat 0 r7 y1_58)])] := S163.resub (k := 0) rfl g151;have S168 := S167.pick [0, 1, 2] (by decide) rfl
            exact ⟨n1, Nat.lt_succ_self _, (lsub l1_0 0 (isub .i64 (llen l1_0) 1)), (lapp l1_1 [(gat 0 r7 y1_58)]), (iadd .i64 y1_58 1), (subV w1_0 0 (isub .i64 (llen l1_0) 1)), v166, hL108, S168, A164, by simp [e1_]⟩
        ·replace hL108 := cd_f hb110 hL108;refine DWp.exit ?_;simp only [andThen, leaves, if_true, if_false, reduceIte, Nat.reduceEqDiff];obtain rfl := Option.some.inj hL108;simp only [lr] at hF;have q169 := lenG (P := Try.prog) (S1_.sl (k := 0) rfl) el_25;refine .sr fun K hK => ?_;simp [e1_, q169];apply hK;clear hK K;refine DWp.ret ?_;obtain rfl := Option.some.inj hF;exact ⟨by simp, [(Value.bool (ieq (llen l1_0) 0))], by simp [e1_], A1_, rfl, S1_.pick [] (by decide) rfl⟩
def F_spec_stStep_L2 (fu : Nat) (k2_0 : List Int) (k2_1 : Int) (k2_2 : Int) (k2_3 : Int) (k2_4 : Int) : Nat → List Int → Int → Option (List Int × Int)
  | 0, _, _ => none
  | n + 1, l2_2, y2_86 =>
    bif (ilt y2_86 k2_4) then
      gd (inL l2_2 y2_86) (
      bif (ieq (gat 0 l2_2 y2_86) k2_3) then
        gd (inL l2_2 y2_86) (
        F_spec_stStep_L2 fu k2_0 k2_1 k2_2 k2_3 k2_4 n (lset l2_2 y2_86 k2_2) (iadd .i64 y2_86 1))
      else
        F_spec_stStep_L2 fu k2_0 k2_1 k2_2 k2_3 k2_4 n l2_2 (iadd .i64 y2_86 1))
    else
      some (l2_2, y2_86)
def F_spec_stStep_L1 (fu : Nat) (k1_0 : List Int) (k1_1 : Int) (k1_2 : Int) (k1_3 : Int) (k1_4 : Int) : Nat → List Int → Int → Option (List Int × Int)
  | 0, _, _ => none
  | n + 1, l1_1, y1_70 =>
    bif (ilt y1_70 k1_4) then
      gd (inL l1_1 y1_70) (
      bif (ieq (gat 0 l1_1 y1_70) k1_3) then
        gd (inL l1_1 y1_70) (
        F_spec_stStep_L1 fu k1_0 k1_1 k1_2 k1_3 k1_4 n (lset l1_1 y1_70 k1_2) (iadd .i64 y1_70 1))
      else
        F_spec_stStep_L1 fu k1_0 k1_1 k1_2 k1_3 k1_4 n l1_1 (iadd .i64 y1_70 1))
    else
      some (l1_1, y1_70)
def F_spec_stStep (fu : Nat) (x0_0 : List Int) (x0_1 : List Int) (x0_2 : Int) (x1 : Int) : Option ((List Int × List Int × Int) × Bool) :=
  bd (F_spec_l1Own fu x0_0) fun r1 =>
  bd (F_spec_l1Own fu x0_1) fun r2 =>
  bd (
    bif (ile 2 x1) then
      bif (ilt (isub .i64 (llen r1) 1) 0) then
        some true
      else
        bif (ieq (irem x1 2) 1) then
          some (ilt (isub .i64 (llen r2) 1) 0)
        else
          some false
    else
      bif (ieq (irem x1 2) 1) then
        some (ilt (isub .i64 (llen r2) 1) 0)
      else
        some false) fun s37 =>
  bif s37 then
    some (([], [], 0), false)
  else
    bd (
      bif (ieq x1 0) then
        gd (r1.length + [(-1)].length ≤ 4294967296) (
        gd (r2.length + [(-1)].length ≤ 4294967296) (
        some ((lapp r1 [(-1)]), (lapp r2 [(-1)]), x0_2)))
      else
        bif (ieq x1 1) then
          gd (inL r2 (isub .i64 (llen r2) 1)) (
          gd (r1.length + [(gat 0 r2 (isub .i64 (llen r2) 1))].length ≤ 4294967296) (
          gd (subL r2 0 (isub .i64 (llen r2) 1)) (
          some ((lapp r1 [(gat 0 r2 (isub .i64 (llen r2) 1))]), (lsub r2 0 (isub .i64 (llen r2) 1)), x0_2))))
        else
          bif (ieq x1 2) then
            gd (inL r1 (isub .i64 (llen r1) 1)) (
            gd (r2.length + [(gat 0 r1 (isub .i64 (llen r1) 1))].length ≤ 4294967296) (
            gd (subL r1 0 (isub .i64 (llen r1) 1)) (
            some ((lsub r1 0 (isub .i64 (llen r1) 1)), (lapp r2 [(gat 0 r1 (isub .i64 (llen r1) 1))]), x0_2))))
          else
            gd (inL r1 (isub .i64 (llen r1) 1)) (
            gd (inL r2 (isub .i64 (llen r2) 1)) (
            gd (subL r1 0 (isub .i64 (llen r1) 1)) (
            gd (subL r2 0 (isub .i64 (llen r2) 1)) (
            bd (
              bif (ieq (gat 0 r1 (isub .i64 (llen r1) 1)) (gat 0 r2 (isub .i64 (llen r2) 1))) then
                some (iadd .i64 x0_2 1)
              else
                some x0_2) fun s150 =>
            bd (F_spec_stStep_L1 fu (lsub r2 0 (isub .i64 (llen r2) 1)) s150 (gat 0 r1 (isub .i64 (llen r1) 1)) (gat 0 r2 (isub .i64 (llen r2) 1)) (llen (lsub r1 0 (isub .i64 (llen r1) 1))) fu (lsub r1 0 (isub .i64 (llen r1) 1)) 0) fun s1 =>
            bd (F_spec_stStep_L2 fu s1.1 s150 (gat 0 r1 (isub .i64 (llen r1) 1)) (gat 0 r2 (isub .i64 (llen r2) 1)) (llen (lsub r2 0 (isub .i64 (llen r2) 1))) fu (lsub r2 0 (isub .i64 (llen r2) 1)) 0) fun s2 =>
            some (s1.1, s2.1, s150)))))) fun s61 =>
    bd (F_spec_stRename fu s61.1 s61.2.1) fun r3 =>
    bd (F_spec_stGood fu r3.1 r3.2 s61.2.2) fun r4 =>
    some ((r3.1, r3.2, s61.2.2), r4)
theorem F_spec_stStep_w {fu : Nat} {H : AH} {v0_0 : Value} {v0_1 : Value} {x0_0 : List Int} {x0_1 : List Int} {x0_2 : Int} {x1 : Int} {r : ((List Int × List Int × Int) × Bool)} (hx0_0 : Sl H v0_0 (ints x0_0)) (hx0_1 : Sl H v0_1 (ints x0_1)) (hF : F_spec_stStep fu x0_0 x0_1 x0_2 x1 = some r) :
    ACallT Try.prog 19 [(Value.agg #[v0_0, v0_1, (Value.int .i64 x0_2)]), (Value.int .i64 x1)] H (fun u G => AgB (Fr H) H G ∧ ∃ u0 : Value, ∃ u1 : Value, u = (Value.tuple #[(Value.agg #[u0, u1, (Value.int .i64 r.1.2.2)]), (Value.bool r.2)]) ∧ Sep G (Fr H) [flat u0 3 (ints r.1.1), flat u1 3 (ints r.1.2.1)]) := by
 refine ACallT.of_body (nt := 145) (rs := [.cell 4 34, .tmp 5]) Try.func19 rfl rfl rfl rfl ?_;have A0 : AgB (Fr H) H H := .refl _ _;have S0 : Sep H (Fr H) [] := .nil;have hB := Fr.up H;unfold F_spec_stStep at hF;obtain ⟨G2, p4, q5, q6, a7, S1⟩ := S0.boxT (hB.le A0.1) 34 [v0_0, v0_1, (Value.int .i64 x0_2)];have A3 := A0.ext (hB.le A0.1) a7;replace S1 : Sep G2 (Fr H) [AL.box p4 [v0_0, v0_1, (Value.int .i64 x0_2)]] := S1;obtain ⟨G9, p11, q12, q14, a13, S8⟩ := S1.allocT (P := Try.prog) (hB.le A3.1) ze_34 rfl;have A10 := A3.ext (hB.le A3.1) a13;replace S8 : Sep G9 (Fr H) [AL.box p4 [v0_0, v0_1, (Value.int .i64 x0_2)], AL.box p11 [(Value.slice none 0 0), (Value.slice none 0 0), (Value.int .i64 0)]] := S8;refine .sr fun K hK => ?_;simp [q5, q6, a7.to_pre, cells_agg, q12, q14, a13.to_pre];apply hK;clear hK K;have q15 := S8.fieldT (P := Try.prog) (k := 0) rfl fa_34_0;have q16 := S8.loadF (P := Try.prog) (k := 0) rfl sz_25 ag_25 (off := 0) rfl;obtain ⟨r1, hc17, hF⟩ := bd_some hF;refine .sd (B := [0, 1, 3, 0, 8, 31, 63, 127]) 8 mixed (by kernel_rfl) (by decide) fun K hK => ?_;simp [q15, q16, ((hx0_0.agree A10.agree).tup)];refine CallD.t (F_spec_l1Own_w (fu := fu) (hx0_0.agree A10.agree) hc17) ?_;rintro c18_u0 G19 ⟨a22, _, rfl, S23⟩;have A21 := A10.ext (hB.le A10.1) a22.agree;have S20 : Sep G19 (Fr H) [AL.box p4 [v0_0, v0_1, (Value.int .i64 x0_2)], AL.box p11 [(Value.slice none 0 0), (Value.slice none 0 0), (Value.int .i64 0)], flat c18_u0 3 (ints r1)] := S8.app a22.agree S23 (fun _ h => h) (hB.le A10.1);have q24 := S20.fieldT (P := Try.prog) (k := 0) rfl fa_34_1;have q25 := S20.loadF (P := Try.prog) (k := 0) rfl sz_25 ag_25 (off := 1) rfl;obtain ⟨r2, hc26, hF⟩ := bd_some hF;simp [q15, q16, a22.pre, q24, q25, ((hx0_1.agree A21.agree).tup)]
 refine CallD.t (F_spec_l1Own_w (fu := fu) (hx0_1.agree A21.agree) hc26) ?_;rintro c27_u0 G28 ⟨a31, _, rfl, S32⟩;have A30 := A21.ext (hB.le A21.1) a31.agree;have S29 : Sep G28 (Fr H) [AL.box p4 [v0_0, v0_1, (Value.int .i64 x0_2)], AL.box p11 [(Value.slice none 0 0), (Value.slice none 0 0), (Value.int .i64 0)], flat c18_u0 3 (ints r1), flat c27_u0 3 (ints r2)] := S20.app a31.agree S32 (fun _ h => h) (hB.le A21.1);simp [q15, q16, a22.pre, q24, q25, a31.pre];apply hK;clear hK K;have q33 := S29.fieldT (P := Try.prog) (k := 0) rfl fa_34_2;have q34 := S29.loadF (P := Try.prog) (k := 0) rfl sz_3 ag_3 (off := 2) rfl;refine .sr fun K hK => ?_;simp [q33, q34];apply hK;clear hK K;have q35 := lenG (P := Try.prog) (S29.sl (k := 2) rfl) el_25;have q36 := lenG (P := Try.prog) (S29.sl (k := 3) rfl) el_25;refine .sr fun K hK => ?_;simp [q35, q36];apply hK;clear hK K;refine .seq ?_;obtain ⟨s37, hL38, hF⟩ := bd_some hF;refine DWp.seq (DWp.join (fun env G => Sep G (Fr H) [AL.box p11 [(Value.slice none 0 0), (Value.slice none 0 0), (Value.int .i64 0)], flat c18_u0 3 (ints r1), flat c27_u0 3 (ints r2)] ∧ AgB (Fr H) H G ∧ env 1 = some (Value.int .i64 x1) ∧ env 4 = some p11 ∧ env 6 = some c18_u0 ∧ env 7 = some c27_u0 ∧ env 8 = some (Value.int .i64 x0_2) ∧ env 9 = some (Value.int .i64 (isub .i64 (llen r1) 1)) ∧ env 10 = some (Value.int .i64 (isub .i64 (llen r2) 1)) ∧ env 46 = some (Value.bool s37)) ?_ ?_)
 ·
  rcases Bool.eq_false_or_eq_true (ile 2 x1) with hb40 | hb40
  ·replace hL38 := cd_t hb40 hL38;rcases Bool.eq_false_or_eq_true (ilt (isub .i64 (llen r1) 1) 0) with hb41 | hb41
   ·replace hL38 := cd_t hb41 hL38;refine .region fun K hK => ?_;simp [hb40, hb41, undef];apply hK;clear hK K;simp only [andThen, leaves];have S42 := S29.pick [1, 2, 3] (by decide) rfl;obtain rfl := Option.some.inj hL38;exact ⟨S42, A30, by simp []⟩
   ·replace hL38 := cd_f hb41 hL38;have g43 : (2 : Int) ≠ 0 := by decide
    rcases Bool.eq_false_or_eq_true (ieq (irem x1 2) 1) with hb44 | hb44
    ·replace hL38 := cd_t hb44 hL38;refine .region fun K hK => ?_;simp [hb40, hb41, hb44, b_rem g43];apply hK;clear hK K;simp only [andThen, leaves];have S45 := S29.pick [1, 2, 3] (by decide) rfl;obtain rfl := Option.some.inj hL38;exact ⟨S45, A30, by simp []⟩
    ·replace hL38 := cd_f hb44 hL38;refine .region fun K hK => ?_;simp [hb40, hb41, hb44, b_rem g43];apply hK;clear hK K;simp only [andThen, leaves];have S46 := S29.pick [1, 2, 3] (by decide) rfl;obtain rfl := Option.some.inj hL38;exact ⟨S46, A30, by simp []⟩
  ·replace hL38 := cd_f hb40 hL38;have g47 : (2 : Int) ≠ 0 := by decide
   rcases Bool.eq_false_or_eq_true (ieq (irem x1 2) 1) with hb48 | hb48
   ·replace hL38 := cd_t hb48 hL38;refine .region fun K hK => ?_;simp [hb40, hb48, b_rem g47];apply hK;clear hK K;simp only [andThen, leaves];have S49 := S29.pick [1, 2, 3] (by decide) rfl;obtain rfl := Option.some.inj hL38;exact ⟨S49, A30, by simp []⟩
   ·replace hL38 := cd_f hb48 hL38;refine .region fun K hK => ?_;simp [hb40, hb48, b_rem g47];apply hK;clear hK K;simp only [andThen, leaves];have S50 := S29.pick [1, 2, 3] (by decide) rfl;obtain rfl := Option.some.inj hL38;exact ⟨S50, A30, by simp []⟩
 ·rintro env Gj51 ⟨Sj51, Aj51, ej51_⟩;refine DWp.cond' (t := s37) (by simp [ej51_]) (fun hb52 => ?_) (fun hb52 => ?_)
  ·replace hF := cd_t hb52 hF;obtain ⟨G53, q54, S55, a57⟩ := Sj51.putAgg (P := Try.prog) (k := 0) (xs := [(Value.slice none 0 0), (Value.slice none 0 0), (Value.int .i64 0)]) rfl (hB.le Aj51.1) sz_34 rfl rfl;have A56 := Aj51.trans a57;replace S55 : Sep G53 (Fr H) [AL.box p11 [(Value.slice none 0 0), (Value.slice none 0 0), (Value.int .i64 0)], flat c18_u0 3 (ints r1), flat c27_u0 3 (ints r2)] := S55;refine .sr fun K hK => ?_;simp [ej51_, build0 (cs := [(Value.slice none 0 0), (Value.slice none 0 0), (Value.int .i64 0)]) pl_34 rfl rfl, q54];apply hK;clear hK K;refine DWp.ret ?_;simp only [andThen, leaves];have q58 := S55.loadAgg (P := Try.prog) (k := 0) rfl sz_34 ag_34 rfl;have S59 := S55.nilItem (hB.le A56.1) 3;have S60 := S59.nilItem (hB.le A56.1) 3;obtain rfl := Option.some.inj hF;exact ⟨by simp, [(Value.agg #[(Value.slice none 0 0), (Value.slice none 0 0), (Value.int .i64 0)]), (Value.bool false)], by simp [ej51_, q58], A56, (Value.slice none 0 0), (Value.slice none 0 0), rfl, S60.pick [3, 4] (by decide) rfl⟩
  ·replace hF := cd_f hb52 hF;refine DWp.skip ?_;simp only [andThen, leaves];obtain ⟨s61, hL62, hF⟩ := bd_some hF;refine DWp.seq (DWp.join (fun env G => ∃ wj2_1 : Value, ∃ wj2_2 : Value, Sep G (Fr H) [AL.box p11 [(Value.slice none 0 0), (Value.slice none 0 0), (Value.int .i64 0)], flat wj2_1 3 (ints s61.1), flat wj2_2 3 (ints s61.2.1)] ∧ AgB (Fr H) H G ∧ env 4 = some p11 ∧ env 6 = some wj2_1 ∧ env 7 = some wj2_2 ∧ env 8 = some (Value.int .i64 s61.2.2)) ?_ ?_)
   ·
    refine .sr fun K hK => ?_;simp [ej51_];apply hK;clear hK K;refine .block ?_;refine .sr fun K hK => ?_;simp [ej51_];apply hK;clear hK K;refine DWp.cond' (t := (ieq x1 0)) (by simp [ej51_]) (fun hb64 => ?_) (fun hb64 => ?_)
    ·replace hL62 := cd_t hb64 hL62;obtain ⟨v65, G66, q67, S68, a70, _, _⟩ := Sj51.lit1 (P := Try.prog) (t := 25) (hB.le Aj51.1) el_25 ei_3 rfl (Value.int .i64 (-1)) rfl rfl;have A69 := Aj51.ext (hB.le Aj51.1) a70;replace S68 : Sep G66 (Fr H) [AL.box p11 [(Value.slice none 0 0), (Value.slice none 0 0), (Value.int .i64 0)], flat c18_u0 3 (ints r1), flat c27_u0 3 (ints r2), flat1 v65 3 (ints [(-1)])] := S68;obtain ⟨g72, hL62⟩ := gd_some hL62;obtain ⟨v78, G73, q74, S75, a77, _, _⟩ := S68.appendG (f := (Value.int .i64)) (xs := r1) (ys := [(-1)]) (P := Try.prog) (t := 25) (t2 := 25) (k := 1) rfl (hB.le A69.1) el_25 el_25 ei_3 rfl (S68.sl1 (k := 3) rfl) g72;have A76 := A69.trans a77;replace S75 : Sep G73 (Fr H) [AL.box p11 [(Value.slice none 0 0), (Value.slice none 0 0), (Value.int .i64 0)], flat v78 3 (ints (lapp r1 [(-1)])), flat c27_u0 3 (ints r2), flat1 v65 3 (ints [(-1)])] := S75;refine .sr fun K hK => ?_;simp [ej51_, q67, a70.to_pre, q74];apply hK;clear hK K;obtain ⟨v79, G80, q81, S82, a84, _, _⟩ := S75.lit1 (P := Try.prog) (t := 25) (hB.le A76.1) el_25 ei_3 rfl (Value.int .i64 (-1)) rfl rfl;have A83 := A76.ext (hB.le A76.1) a84;replace S82 : Sep G80 (Fr H) [AL.box p11 [(Value.slice none 0 0), (Value.slice none 0 0), (Value.int .i64 0)], flat v78 3 (ints (lapp r1 [(-1)])), flat c27_u0 3 (ints r2), flat1 v65 3 (ints [(-1)]), flat1 v79 3 (ints [(-1)])] := S82;obtain ⟨g86, hL62⟩ := gd_some hL62;obtain ⟨v92, G87, q88, S89, a91, _, _⟩ := S82.appendG (f := (Value.int .i64)) (xs := r2) (ys := [(-1)]) (P := Try.prog) (t := 25) (t2 := 25) (k := 2) rfl (hB.le A83.1) el_25 el_25 ei_3 rfl (S82.sl1 (k := 4) rfl) g86;have A90 := A83.trans a91
     replace S89 : Sep G87 (Fr H) [AL.box p11 [(Value.slice none 0 0), (Value.slice none 0 0), (Value.int .i64 0)], flat v78 3 (ints (lapp r1 [(-1)])), flat v92 3 (ints (lapp r2 [(-1)])), flat1 v65 3 (ints [(-1)]), flat1 v79 3 (ints [(-1)])] := S89;refine .region fun K hK => ?_;simp [ej51_, q81, a84.to_pre, q88];apply hK;clear hK K;simp only [andThen, leaves];have S93 := S89.pick [0, 1, 2] (by decide) rfl;obtain rfl := Option.some.inj hL62;exact ⟨v78, v92, S93, A90, by simp [ej51_]⟩
    ·replace hL62 := cd_f hb64 hL62;refine .sr fun K hK => ?_;simp [ej51_];apply hK;clear hK K;refine DWp.cond' (t := (ieq x1 1)) (by simp [ej51_]) (fun hb94 => ?_) (fun hb94 => ?_)
     ·replace hL62 := cd_t hb94 hL62;obtain ⟨g95, hL62⟩ := gd_some hL62;have q96 := idxG (P := Try.prog) (kk := .i64) (Sj51.sl (k := 2) rfl) el_25 sz_3 g95;have q97 := loadG (P := Try.prog) (Sj51.sl (k := 2) rfl) sz_3 ag_3 g95 0;obtain ⟨v98, G99, q100, S101, a103, _, _⟩ := Sj51.lit1 (P := Try.prog) (t := 25) (hB.le Aj51.1) el_25 ei_3 rfl (Value.int .i64 (gat 0 r2 (isub .i64 (llen r2) 1))) rfl rfl;have A102 := Aj51.ext (hB.le Aj51.1) a103;replace S101 : Sep G99 (Fr H) [AL.box p11 [(Value.slice none 0 0), (Value.slice none 0 0), (Value.int .i64 0)], flat c18_u0 3 (ints r1), flat c27_u0 3 (ints r2), flat1 v98 3 (ints [(gat 0 r2 (isub .i64 (llen r2) 1))])] := S101;obtain ⟨g105, hL62⟩ := gd_some hL62;obtain ⟨v111, G106, q107, S108, a110, _, _⟩ := S101.appendG (f := (Value.int .i64)) (xs := r1) (ys := [(gat 0 r2 (isub .i64 (llen r2) 1))]) (P := Try.prog) (t := 25) (t2 := 25) (k := 1) rfl (hB.le A102.1) el_25 el_25 ei_3 rfl (S101.sl1 (k := 3) rfl) g105;have A109 := A102.trans a110;replace S108 : Sep G106 (Fr H) [AL.box p11 [(Value.slice none 0 0), (Value.slice none 0 0), (Value.int .i64 0)], flat v111 3 (ints (lapp r1 [(gat 0 r2 (isub .i64 (llen r2) 1))])), flat c27_u0 3 (ints r2), flat1 v98 3 (ints [(gat 0 r2 (isub .i64 (llen r2) 1))])] := S108;refine .sr fun K hK => ?_;simp [ej51_, q96, q97, q100, a103.to_pre, q107];apply hK;clear hK K;obtain ⟨g112, hL62⟩ := gd_some hL62;have q113 := aSub01 (P := Try.prog) (t := 25) (S108.sl (k := 2) rfl) el_25 sz_3 g112;refine .region fun K hK => ?_;simp [ej51_, q113, ((subSl (S108.sl (k := 2) rfl) g112).tup)];apply hK;clear hK K;simp only [andThen, leaves]
      have S114 : Sep G106 (Fr H) [AL.box p11 [(Value.slice none 0 0), (Value.slice none 0 0), (Value.int .i64 0)], flat v111 3 (ints (lapp r1 [(gat 0 r2 (isub .i64 (llen r2) 1))])), flat (subV c27_u0 0 (isub .i64 (llen r2) 1)) 3 (ints (lsub r2 0 (isub .i64 (llen r2) 1))), flat1 v98 3 (ints [(gat 0 r2 (isub .i64 (llen r2) 1))])] := S108.resub (k := 2) rfl g112;have S115 := S114.pick [0, 1, 2] (by decide) rfl;obtain rfl := Option.some.inj hL62;exact ⟨v111, (subV c27_u0 0 (isub .i64 (llen r2) 1)), S115, A109, by simp [ej51_]⟩
     ·replace hL62 := cd_f hb94 hL62;refine .sr fun K hK => ?_;simp [ej51_];apply hK;clear hK K;refine DWp.cond' (t := (ieq x1 2)) (by simp [ej51_]) (fun hb116 => ?_) (fun hb116 => ?_)
      ·replace hL62 := cd_t hb116 hL62;obtain ⟨g117, hL62⟩ := gd_some hL62;have q118 := idxG (P := Try.prog) (kk := .i64) (Sj51.sl (k := 1) rfl) el_25 sz_3 g117;have q119 := loadG (P := Try.prog) (Sj51.sl (k := 1) rfl) sz_3 ag_3 g117 0;obtain ⟨v120, G121, q122, S123, a125, _, _⟩ := Sj51.lit1 (P := Try.prog) (t := 25) (hB.le Aj51.1) el_25 ei_3 rfl (Value.int .i64 (gat 0 r1 (isub .i64 (llen r1) 1))) rfl rfl;have A124 := Aj51.ext (hB.le Aj51.1) a125;replace S123 : Sep G121 (Fr H) [AL.box p11 [(Value.slice none 0 0), (Value.slice none 0 0), (Value.int .i64 0)], flat c18_u0 3 (ints r1), flat c27_u0 3 (ints r2), flat1 v120 3 (ints [(gat 0 r1 (isub .i64 (llen r1) 1))])] := S123;obtain ⟨g127, hL62⟩ := gd_some hL62;obtain ⟨v133, G128, q129, S130, a132, _, _⟩ := S123.appendG (f := (Value.int .i64)) (xs := r2) (ys := [(gat 0 r1 (isub .i64 (llen r1) 1))]) (P := Try.prog) (t := 25) (t2 := 25) (k := 2) rfl (hB.le A124.1) el_25 el_25 ei_3 rfl (S123.sl1 (k := 3) rfl) g127;have A131 := A124.trans a132;replace S130 : Sep G128 (Fr H) [AL.box p11 [(Value.slice none 0 0), (Value.slice none 0 0), (Value.int .i64 0)], flat c18_u0 3 (ints r1), flat v133 3 (ints (lapp r2 [(gat 0 r1 (isub .i64 (llen r1) 1))])), flat1 v120 3 (ints [(gat 0 r1 (isub .i64 (llen r1) 1))])] := S130;refine .sr fun K hK => ?_;simp [ej51_, q118, q119, q122, a125.to_pre, q129];apply hK;clear hK K;obtain ⟨g134, hL62⟩ := gd_some hL62;have q135 := aSub01 (P := Try.prog) (t := 25) (S130.sl (k := 1) rfl) el_25 sz_3 g134;refine .region fun K hK => ?_;simp [ej51_, q135, ((subSl (S130.sl (k := 1) rfl) g134).tup)];apply hK;clear hK K;simp only [andThen, leaves]
       have S136 : Sep G128 (Fr H) [AL.box p11 [(Value.slice none 0 0), (Value.slice none 0 0), (Value.int .i64 0)], flat (subV c18_u0 0 (isub .i64 (llen r1) 1)) 3 (ints (lsub r1 0 (isub .i64 (llen r1) 1))), flat v133 3 (ints (lapp r2 [(gat 0 r1 (isub .i64 (llen r1) 1))])), flat1 v120 3 (ints [(gat 0 r1 (isub .i64 (llen r1) 1))])] := S130.resub (k := 1) rfl g134;have S137 := S136.pick [0, 1, 2] (by decide) rfl;obtain rfl := Option.some.inj hL62;exact ⟨(subV c18_u0 0 (isub .i64 (llen r1) 1)), v133, S137, A131, by simp [ej51_]⟩
      ·replace hL62 := cd_f hb116 hL62;obtain ⟨g138, hL62⟩ := gd_some hL62;have q139 := idxG (P := Try.prog) (kk := .i64) (Sj51.sl (k := 1) rfl) el_25 sz_3 g138;have q140 := loadG (P := Try.prog) (Sj51.sl (k := 1) rfl) sz_3 ag_3 g138 0;obtain ⟨g141, hL62⟩ := gd_some hL62;have q142 := idxG (P := Try.prog) (kk := .i64) (Sj51.sl (k := 2) rfl) el_25 sz_3 g141;have q143 := loadG (P := Try.prog) (Sj51.sl (k := 2) rfl) sz_3 ag_3 g141 0;refine .sd (B := [0, 0, 3, 7, 0, 0, 48, 112, 15, 511]) 10 mixed (by kernel_rfl) (by decide) fun K hK => ?_;simp [ej51_, q139, q140, q142, q143];apply hK;clear hK K;obtain ⟨g144, hL62⟩ := gd_some hL62;have q145 := aSub01 (P := Try.prog) (t := 25) (Sj51.sl (k := 1) rfl) el_25 sz_3 g144;refine .sr fun K hK => ?_;simp [ej51_, q145, ((subSl (Sj51.sl (k := 1) rfl) g144).tup)];apply hK;clear hK K;obtain ⟨g146, hL62⟩ := gd_some hL62;have q147 := aSub01 (P := Try.prog) (t := 25) (Sj51.sl (k := 2) rfl) el_25 sz_3 g146;refine .sr fun K hK => ?_;simp [ej51_, q147, ((subSl (Sj51.sl (k := 2) rfl) g146).tup)];apply hK;clear hK K;have S148 : Sep Gj51 (Fr H) [AL.box p11 [(Value.slice none 0 0), (Value.slice none 0 0), (Value.int .i64 0)], flat (subV c18_u0 0 (isub .i64 (llen r1) 1)) 3 (ints (lsub r1 0 (isub .i64 (llen r1) 1))), flat c27_u0 3 (ints r2)] := Sj51.resub (k := 1) rfl g144;have S149 : Sep Gj51 (Fr H) [AL.box p11 [(Value.slice none 0 0), (Value.slice none 0 0), (Value.int .i64 0)], flat (subV c18_u0 0 (isub .i64 (llen r1) 1)) 3 (ints (lsub r1 0 (isub .i64 (llen r1) 1))), flat (subV c27_u0 0 (isub .i64 (llen r2) 1)) 3 (ints (lsub r2 0 (isub .i64 (llen r2) 1)))] := S148.resub (k := 2) rfl g146;obtain ⟨s150, hL151, hL62⟩ := bd_some hL62
       refine DWp.seq (DWp.join (fun env G => Sep G (Fr H) [AL.box p11 [(Value.slice none 0 0), (Value.slice none 0 0), (Value.int .i64 0)], flat (subV c18_u0 0 (isub .i64 (llen r1) 1)) 3 (ints (lsub r1 0 (isub .i64 (llen r1) 1))), flat (subV c27_u0 0 (isub .i64 (llen r2) 1)) 3 (ints (lsub r2 0 (isub .i64 (llen r2) 1)))] ∧ AgB (Fr H) H G ∧ env 4 = some p11 ∧ env 6 = some (subV c18_u0 0 (isub .i64 (llen r1) 1)) ∧ env 7 = some (subV c27_u0 0 (isub .i64 (llen r2) 1)) ∧ env 8 = some (Value.int .i64 s150) ∧ env 11 = some (Value.int .i64 (gat 0 r1 (isub .i64 (llen r1) 1))) ∧ env 12 = some (Value.int .i64 (gat 0 r2 (isub .i64 (llen r2) 1)))) ?_ ?_)
       ·
        refine .sr fun K hK => ?_;simp [ej51_];apply hK;clear hK K;refine DWp.cond' (t := (ieq (gat 0 r1 (isub .i64 (llen r1) 1)) (gat 0 r2 (isub .i64 (llen r2) 1)))) (by simp [ej51_]) (fun hb153 => ?_) (fun hb153 => ?_)
        ·replace hL151 := cd_t hb153 hL151;refine .region fun K hK => ?_;simp [ej51_];apply hK;clear hK K;simp only [andThen, leaves];have S154 := S149.pick [0, 1, 2] (by decide) rfl;obtain rfl := Option.some.inj hL151;exact ⟨S154, Aj51, by simp [ej51_]⟩
        ·replace hL151 := cd_f hb153 hL151;refine DWp.skip ?_;simp only [andThen, leaves];have S155 := S149.pick [0, 1, 2] (by decide) rfl;obtain rfl := Option.some.inj hL151;exact ⟨S155, Aj51, by simp [ej51_]⟩
       ·rintro env Gj156 ⟨Sj156, Aj156, ej156_⟩;refine .seq ?_;have q157 := lenG (P := Try.prog) (Sj156.sl (k := 1) rfl) el_25;refine .sr fun K hK => ?_;simp [ej156_, q157];apply hK;clear hK K;refine .block ?_;obtain ⟨s158, hL159, hL62⟩ := bd_some hL62;have S160 := Sj156.pick [0, 1, 2] (by decide) rfl;refine DWp.loop (fun n env G => ∃ l1_1 : List Int, ∃ y1_70 : Int, F_spec_stStep_L1 fu (lsub r2 0 (isub .i64 (llen r2) 1)) s150 (gat 0 r1 (isub .i64 (llen r1) 1)) (gat 0 r2 (isub .i64 (llen r2) 1)) (llen (lsub r1 0 (isub .i64 (llen r1) 1))) n l1_1 y1_70 = some s158 ∧ Sep G (Fr H) [AL.box p11 [(Value.slice none 0 0), (Value.slice none 0 0), (Value.int .i64 0)], flat (subV c18_u0 0 (isub .i64 (llen r1) 1)) 3 (ints l1_1), flat (subV c27_u0 0 (isub .i64 (llen r2) 1)) 3 (ints (lsub r2 0 (isub .i64 (llen r2) 1)))] ∧ AgB (Fr H) H G ∧ env 4 = some p11 ∧ env 6 = some (subV c18_u0 0 (isub .i64 (llen r1) 1)) ∧ env 7 = some (subV c27_u0 0 (isub .i64 (llen r2) 1)) ∧ env 8 = some (Value.int .i64 s150) ∧ env 11 = some (Value.int .i64 (gat 0 r1 (isub .i64 (llen r1) 1))) ∧ env 12 = some (Value.int .i64 (gat 0 r2 (isub .i64 (llen r2) 1))) ∧ env 69 = some (Value.int .i64 (llen (lsub r1 0 (isub .i64 (llen r1) 1)))) ∧ env 70 = some (Value.int .i64 y1_70)) fu ⟨(lsub r1 0 (isub .i64 (llen r1) 1)), 0, hL159, S160, Aj156, by simp [ej156_]⟩ ?_;rintro n2 env2 G2_ ⟨l1_1, y1_70, hL159, S2_, A2_, e2_⟩;cases n2 with
        | zero => cases hL159
        | succ n2 =>
         simp only [F_spec_stStep_L1] at hL159;refine .sr fun K hK => ?_;simp [e2_];apply hK;clear hK K;refine .seq ?_;refine DWp.cond' (t := (ilt y1_70 (llen (lsub r1 0 (isub .i64 (llen r1) 1))))) (by simp [e2_]) (fun hb161 => ?_) (fun hb161 => ?_)
         ·replace hL159 := cd_t hb161 hL159;refine DWp.skip ?_;simp only [andThen, leaves];refine .seq ?_;refine .block ?_;refine .sr fun K hK => ?_;simp [e2_];apply hK;clear hK K;obtain ⟨g162, hL159⟩ := gd_some hL159;have q163 := idxG (P := Try.prog) (kk := .i64) (S2_.sl (k := 1) rfl) el_25 sz_3 g162;have q164 := loadG (P := Try.prog) (S2_.sl (k := 1) rfl) sz_3 ag_3 g162 0;refine .sr fun K hK => ?_;simp [e2_, q163, q164];apply hK;clear hK K;refine DWp.cond' (t := (ieq (gat 0 l1_1 y1_70) (gat 0 r2 (isub .i64 (llen r2) 1)))) (by simp [e2_]) (fun hb165 => ?_) (fun hb165 => ?_)
          ·replace hL159 := cd_t hb165 hL159;obtain ⟨g166, hL159⟩ := gd_some hL159;have q167 := idxG (P := Try.prog) (kk := .i64) (S2_.sl (k := 1) rfl) el_25 sz_3 g166;obtain ⟨G168, q169, S170, a172⟩ := S2_.storeG (f := (Value.int .i64)) (P := Try.prog) (k := 1) (x := (gat 0 r1 (isub .i64 (llen r1) 1))) rfl (hB.le A2_.1) sz_3 g166 rfl rfl;have A171 := A2_.trans a172;replace S170 : Sep G168 (Fr H) [AL.box p11 [(Value.slice none 0 0), (Value.slice none 0 0), (Value.int .i64 0)], flat (subV c18_u0 0 (isub .i64 (llen r1) 1)) 3 (ints (lset l1_1 y1_70 (gat 0 r1 (isub .i64 (llen r1) 1)))), flat (subV c27_u0 0 (isub .i64 (llen r2) 1)) 3 (ints (lsub r2 0 (isub .i64 (llen r2) 1)))] := S170;refine .region fun K hK => ?_;simp [e2_, q167, q169];apply hK;clear hK K;simp only [andThen, leaves];refine .region fun K hK => ?_;simp [e2_];apply hK;clear hK K;simp only [andThen, leaves];have S173 := S170.pick [0, 1, 2] (by decide) rfl;exact ⟨n2, Nat.lt_succ_self _, (lset l1_1 y1_70 (gat 0 r1 (isub .i64 (llen r1) 1))), (iadd .i64 y1_70 1), hL159, S173, A171, by simp [e2_]⟩
          ·replace hL159 := cd_f hb165 hL159;refine DWp.skip ?_;simp only [andThen, leaves];refine .region fun K hK => ?_;simp [e2_];apply hK;clear hK K;simp only [andThen, leaves];have S174 := S2_.pick [0, 1, 2] (by decide) rfl;exact ⟨n2, Nat.lt_succ_self _, l1_1, (iadd .i64 y1_70 1), hL159, S174, A2_, by simp [e2_]⟩
         ·replace hL159 := cd_f hb161 hL159;refine DWp.exit ?_;simp only [andThen, leaves, if_true, if_false, reduceIte, Nat.reduceEqDiff];obtain rfl := Option.some.inj hL159;try dsimp only at hL62
          have q175 := lenG (P := Try.prog) (S2_.sl (k := 2) rfl) el_25;refine .sr fun K hK => ?_;simp [e2_, q175];apply hK;clear hK K;refine .block ?_;obtain ⟨s176, hL177, hL62⟩ := bd_some hL62;have S178 := S2_.pick [0, 1, 2] (by decide) rfl;refine DWp.loop (fun n env G => ∃ l2_2 : List Int, ∃ y2_86 : Int, F_spec_stStep_L2 fu l1_1 s150 (gat 0 r1 (isub .i64 (llen r1) 1)) (gat 0 r2 (isub .i64 (llen r2) 1)) (llen (lsub r2 0 (isub .i64 (llen r2) 1))) n l2_2 y2_86 = some s176 ∧ Sep G (Fr H) [AL.box p11 [(Value.slice none 0 0), (Value.slice none 0 0), (Value.int .i64 0)], flat (subV c18_u0 0 (isub .i64 (llen r1) 1)) 3 (ints l1_1), flat (subV c27_u0 0 (isub .i64 (llen r2) 1)) 3 (ints l2_2)] ∧ AgB (Fr H) H G ∧ env 4 = some p11 ∧ env 6 = some (subV c18_u0 0 (isub .i64 (llen r1) 1)) ∧ env 7 = some (subV c27_u0 0 (isub .i64 (llen r2) 1)) ∧ env 8 = some (Value.int .i64 s150) ∧ env 11 = some (Value.int .i64 (gat 0 r1 (isub .i64 (llen r1) 1))) ∧ env 12 = some (Value.int .i64 (gat 0 r2 (isub .i64 (llen r2) 1))) ∧ env 85 = some (Value.int .i64 (llen (lsub r2 0 (isub .i64 (llen r2) 1)))) ∧ env 86 = some (Value.int .i64 y2_86)) fu ⟨(lsub r2 0 (isub .i64 (llen r2) 1)), 0, hL177, S178, A2_, by simp [e2_]⟩ ?_;rintro n2 env2 G2_ ⟨l2_2, y2_86, hL177, S2_, A2_, e2_⟩;cases n2 with
          | zero => cases hL177
          | succ n2 =>
           simp only [F_spec_stStep_L2] at hL177;refine .sr fun K hK => ?_;simp [e2_];apply hK;clear hK K;refine .seq ?_;refine DWp.cond' (t := (ilt y2_86 (llen (lsub r2 0 (isub .i64 (llen r2) 1))))) (by simp [e2_]) (fun hb179 => ?_) (fun hb179 => ?_)
           ·replace hL177 := cd_t hb179 hL177;refine DWp.skip ?_;simp only [andThen, leaves];refine .seq ?_;refine .block ?_;refine .sr fun K hK => ?_;simp [e2_];apply hK;clear hK K;obtain ⟨g180, hL177⟩ := gd_some hL177;have q181 := idxG (P := Try.prog) (kk := .i64) (S2_.sl (k := 2) rfl) el_25 sz_3 g180;have q182 := loadG (P := Try.prog) (S2_.sl (k := 2) rfl) sz_3 ag_3 g180 0;refine .sr fun K hK => ?_;simp [e2_, q181, q182];apply hK;clear hK K;refine DWp.cond' (t := (ieq (gat 0 l2_2 y2_86) (gat 0 r2 (isub .i64 (llen r2) 1)))) (by simp [e2_]) (fun hb183 => ?_) (fun hb183 => ?_)
            ·replace hL177 := cd_t hb183 hL177;obtain ⟨g184, hL177⟩ := gd_some hL177;have q185 := idxG (P := Try.prog) (kk := .i64) (S2_.sl (k := 2) rfl) el_25 sz_3 g184;obtain ⟨G186, q187, S188, a190⟩ := S2_.storeG (f := (Value.int .i64)) (P := Try.prog) (k := 2) (x := (gat 0 r1 (isub .i64 (llen r1) 1))) rfl (hB.le A2_.1) sz_3 g184 rfl rfl;have A189 := A2_.trans a190;replace S188 : Sep G186 (Fr H) [AL.box p11 [(Value.slice none 0 0), (Value.slice none 0 0), (Value.int .i64 0)], flat (subV c18_u0 0 (isub .i64 (llen r1) 1)) 3 (ints l1_1), flat (subV c27_u0 0 (isub .i64 (llen r2) 1)) 3 (ints (lset l2_2 y2_86 (gat 0 r1 (isub .i64 (llen r1) 1))))] := S188;refine .region fun K hK => ?_;simp [e2_, q185, q187];apply hK;clear hK K;simp only [andThen, leaves];refine .region fun K hK => ?_;simp [e2_];apply hK;clear hK K;simp only [andThen, leaves];have S191 := S188.pick [0, 1, 2] (by decide) rfl;exact ⟨n2, Nat.lt_succ_self _, (lset l2_2 y2_86 (gat 0 r1 (isub .i64 (llen r1) 1))), (iadd .i64 y2_86 1), hL177, S191, A189, by simp [e2_]⟩
            ·replace hL177 := cd_f hb183 hL177;refine DWp.skip ?_;simp only [andThen, leaves];refine .region fun K hK => ?_;simp [e2_];apply hK;clear hK K;simp only [andThen, leaves];have S192 := S2_.pick [0, 1, 2] (by decide) rfl;exact ⟨n2, Nat.lt_succ_self _, l2_2, (iadd .i64 y2_86 1), hL177, S192, A2_, by simp [e2_]⟩
           ·replace hL177 := cd_f hb179 hL177;refine DWp.exit ?_;simp only [andThen, leaves, if_true, if_false, reduceIte, Nat.reduceEqDiff];obtain rfl := Option.some.inj hL177;try dsimp only at hL62
            have S193 := S2_.pick [0, 1, 2] (by decide) rfl;obtain rfl := Option.some.inj hL62;exact ⟨(subV c18_u0 0 (isub .i64 (llen r1) 1)), (subV c27_u0 0 (isub .i64 (llen r2) 1)), S193, A2_, by simp [e2_]⟩
   ·rintro env Gj194 ⟨wj2_1, wj2_2, Sj194, Aj194, ej194_⟩;obtain ⟨r3, hc195, hF⟩ := bd_some hF;refine .sr fun K hK => ?_;simp [ej194_, ((Sj194.sl (k := 1) rfl).tup), ((Sj194.sl (k := 2) rfl).tup)];refine CallD.t (F_spec_stRename_w (fu := fu) (Sj194.sl (k := 1) rfl) (Sj194.sl (k := 2) rfl) hc195) ?_;rintro _ G197 ⟨a200, c196_u0, c196_u1, rfl, S201⟩;have A199 := Aj194.ext (hB.le Aj194.1) a200.agree;have S198 : Sep G197 (Fr H) [AL.box p11 [(Value.slice none 0 0), (Value.slice none 0 0), (Value.int .i64 0)], flat wj2_1 3 (ints s61.1), flat wj2_2 3 (ints s61.2.1), flat c196_u0 3 (ints r3.1), flat c196_u1 3 (ints r3.2)] := Sj194.app a200.agree S201 (fun _ h => h) (hB.le Aj194.1);simp [ej194_, a200.pre];apply hK;clear hK K;obtain ⟨G203, p205, q206, q208, a207, S202⟩ := S198.allocT (P := Try.prog) (hB.le A199.1) ze_34 rfl;have A204 := A199.ext (hB.le A199.1) a207;replace S202 : Sep G203 (Fr H) [AL.box p11 [(Value.slice none 0 0), (Value.slice none 0 0), (Value.int .i64 0)], flat wj2_1 3 (ints s61.1), flat wj2_2 3 (ints s61.2.1), flat c196_u0 3 (ints r3.1), flat c196_u1 3 (ints r3.2), AL.box p205 [(Value.slice none 0 0), (Value.slice none 0 0), (Value.int .i64 0)]] := S202;obtain ⟨G209, q210, S211, a213⟩ := S202.putAgg (P := Try.prog) (k := 5) (xs := [c196_u0, c196_u1, (Value.int .i64 s61.2.2)]) rfl (hB.le A204.1) sz_34 rfl rfl;have A212 := A204.trans a213;replace S211 : Sep G209 (Fr H) [AL.box p11 [(Value.slice none 0 0), (Value.slice none 0 0), (Value.int .i64 0)], flat wj2_1 3 (ints s61.1), flat wj2_2 3 (ints s61.2.1), flat c196_u0 3 (ints r3.1), flat c196_u1 3 (ints r3.2), AL.box p205 [c196_u0, c196_u1, (Value.int .i64 s61.2.2)]] := S211;refine .sr fun K hK => ?_
    simp [ej194_, bu_34 ((S198.sl (k := 3) rfl).tup) ((S198.sl (k := 3) rfl).one) ((S198.sl (k := 4) rfl).tup) ((S198.sl (k := 4) rfl).one) (rfl : isTup (Value.int .i64 s61.2.2) = false) (rfl : (Value.int .i64 s61.2.2).cells = #[(Value.int .i64 s61.2.2)]), q206, q208, a207.to_pre, q210];apply hK;clear hK K;have q214 := S211.loadAgg (P := Try.prog) (k := 5) rfl sz_34 ag_34 rfl;have q215 := S211.loadAgg (P := Try.prog) (k := 5) rfl sz_34 ag_34 rfl;obtain ⟨r4, hc216, hF⟩ := bd_some hF;refine .sd (B := [0, 0, 2, 7, 15]) 3 mixed (by kernel_rfl) (by decide) fun K hK => ?_;simp [ej194_, q214, q215, ((S211.sl (k := 3) rfl).tup), ((S211.sl (k := 4) rfl).tup)];refine CallD.t (F_spec_stGood_w (fu := fu) (S211.sl (k := 3) rfl) (S211.sl (k := 4) rfl) hc216) ?_;rintro _ G218 ⟨a221, rfl, S222⟩;have A220 := A212.ext (hB.le A212.1) a221.agree;have S219 : Sep G218 (Fr H) [AL.box p11 [(Value.slice none 0 0), (Value.slice none 0 0), (Value.int .i64 0)], flat wj2_1 3 (ints s61.1), flat wj2_2 3 (ints s61.2.1), flat c196_u0 3 (ints r3.1), flat c196_u1 3 (ints r3.2), AL.box p205 [c196_u0, c196_u1, (Value.int .i64 s61.2.2)]] := S211.app a221.agree S222 (fun _ h => h) (hB.le A212.1);obtain ⟨G223, q224, S225, a227⟩ := S219.putAgg (P := Try.prog) (k := 0) (xs := [c196_u0, c196_u1, (Value.int .i64 s61.2.2)]) rfl (hB.le A220.1) sz_34 rfl rfl;have A226 := A220.trans a227;replace S225 : Sep G223 (Fr H) [AL.box p11 [c196_u0, c196_u1, (Value.int .i64 s61.2.2)], flat wj2_1 3 (ints s61.1), flat wj2_2 3 (ints s61.2.1), flat c196_u0 3 (ints r3.1), flat c196_u1 3 (ints r3.2), AL.box p205 [c196_u0, c196_u1, (Value.int .i64 s61.2.2)]] := S225;simp [ej194_, q214, q215, a221.pre, q224];apply hK;clear hK K;refine DWp.ret ?_;have q228 := S225.loadAgg (P := Try.prog) (k := 0) rfl sz_34 ag_34 rfl
    obtain rfl := Option.some.inj hF;exact ⟨by simp, [(Value.agg #[c196_u0, c196_u1, (Value.int .i64 s61.2.2)]), (Value.bool r4)], by simp [ej194_, q228, ((S225.sl (k := 3) rfl).tup), ((S225.sl (k := 4) rfl).tup)], A226, c196_u0, c196_u1, rfl, S225.pick [3, 4] (by decide) rfl⟩
end Go.Proofs.Ytdbflchpbhkanaa.AL

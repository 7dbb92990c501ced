/- The walks of functions, each with its Lean function: slices.Grow[[]int,int], slices.Concat[[]int,int], impl.State).key, slices.Clone[[]int,int], impl.last, slices.Equal[[]int,int], impl.State).same, slices.Index[[]int,int], slices.Contains[[]int,int], impl.crosses. No condition. -/
import Derived.Test.YtdbflchpbhkanaaALD
import Derived.Test.YtdbflchpbhkanaaProg
import Derived.KernelRfl
namespace Go.Proofs.Ytdbflchpbhkanaa.AL
open Go Go.RowKit
set_option linter.unusedVariables false
set_option linter.unusedSimpArgs false
set_option maxRecDepth 4096
attribute [local simp] n_fn b_add b_sub b_mul b_lt b_le b_gt b_ge b_eq b_ne u_not
theorem mixed : Try.prog.follows .mixedOrders = true := by kernel_rfl
theorem ag_25 : aggT Try.prog 25 = some false := by kernel_rfl
theorem ag_3 : aggT Try.prog 3 = some false := by kernel_rfl
theorem ei_25 : einfo Try.prog 25 = some ⟨1, 24, .slice none 0 0⟩ := by kernel_rfl
theorem ei_3 : einfo Try.prog 3 = some ⟨1, 8, .int .i64 0⟩ := by kernel_rfl
theorem ei_5 : einfo Try.prog 5 = some ⟨1, 1, .int .u8 0⟩ := by kernel_rfl
theorem el_25 : elemT Try.prog 25 = some 3 := by kernel_rfl
theorem el_69 : elemT Try.prog 69 = some 25 := by kernel_rfl
theorem el_71 : elemT Try.prog 71 = some 5 := by kernel_rfl
theorem fa_34_0 : fldT Try.prog 34 0 = some 0 := by kernel_rfl
theorem fa_34_1 : fldT Try.prog 34 1 = some 1 := by kernel_rfl
theorem fa_34_2 : fldT Try.prog 34 2 = some 2 := by kernel_rfl
theorem it_3 : intT Try.prog 3 = true := by kernel_rfl
theorem sd_3 : srcD Try.prog 3 = false := by kernel_rfl
theorem sz_25 : sizeT Try.prog 25 = some 1 := by kernel_rfl
theorem sz_3 : sizeT Try.prog 3 = some 1 := by kernel_rfl
theorem un_3 : Try.prog.underlying 3 = some (.int .i64) := by kernel_rfl
theorem un_5 : Try.prog.underlying 5 = some (.int .u8) := by kernel_rfl
theorem un_9 : Try.prog.underlying 9 = some .string := by kernel_rfl
theorem us_25 : Try.prog.underlying 25 = some (.slice 3) := by kernel_rfl
theorem us_71 : Try.prog.underlying 71 = some (.slice 5) := by kernel_rfl
def F_slices_Grow_Sint (fu : Nat) (x1 : Int) : Option (List Int) :=
  bd (
    bif (ilt x1 0) then
      none
    else
      some ()) fun s1 =>
  bif (ilt 0 (isub .i64 x1 (isub .i64 0 0))) then
    gd (0 < (isub .i64 x1 (isub .i64 0 0)) ∧ (isub .i64 x1 (isub .i64 0 0)) ≤ 4294967296) (
    gd (subL (lrep (isub .i64 x1 (isub .i64 0 0)) (0 : Int)) 0 0) (
    some (lsub (lrep (isub .i64 x1 (isub .i64 0 0)) (0 : Int)) 0 0)))
  else
    some []
theorem F_slices_Grow_Sint_w {fu : Nat} {H : AH}  {x1 : Int} {r : (List Int)}  (hF : F_slices_Grow_Sint fu x1 = some r) :
    ACallT Try.prog 49 [(Value.slice none 0 0), (Value.int .i64 x1)] H (fun u G => AgB (Fr H) H G ∧ ∃ u0 : Value, u = u0 ∧ Sep G (Fr H) [flat u0 3 (ints r)]) := by
 refine ACallT.of_body (nt := 27) (rs := [.tmp 4]) Try.func49 rfl rfl rfl rfl ?_;have A0 : AgB (Fr H) H H := .refl _ _;have S0 : Sep H (Fr H) [] := .nil;have hB := Fr.up H;unfold F_slices_Grow_Sint at hF;refine .sr fun K hK => ?_;simp [];apply hK;clear hK K;obtain ⟨s1, hL2, hF⟩ := bd_some hF;refine DWp.seq (DWp.join (fun env G => Sep G (Fr H) [] ∧ AgB (Fr H) H G ∧ env 0 = some (Value.slice none 0 0) ∧ env 1 = some (Value.int .i64 x1)) ?_ ?_)
 ·
  refine .sr fun K hK => ?_;simp [];apply hK;clear hK K;refine DWp.cond' (t := (ilt x1 0)) (by simp []) (fun hb4 => ?_) (fun hb4 => ?_)
  ·replace hL2 := cd_t hb4 hL2;cases hL2
  ·replace hL2 := cd_f hb4 hL2;refine DWp.skip ?_;simp only [andThen, leaves];have S5 := S0.pick [] (by decide) rfl;obtain rfl := Option.some.inj hL2;exact ⟨S5, A0, by simp []⟩
 ·rintro env Gj6 ⟨Sj6, Aj6, ej6_⟩;refine .seq ?_;refine .sr fun K hK => ?_;simp [ej6_, cap_nil us_25, len_nil el_25];apply hK;clear hK K;refine .sr fun K hK => ?_;simp [ej6_];apply hK;clear hK K;refine DWp.cond' (t := (ilt 0 (isub .i64 x1 (isub .i64 0 0)))) (by simp [ej6_]) (fun hb7 => ?_) (fun hb7 => ?_)
  ·replace hF := cd_t hb7 hF;have q9 := slice_nil (P := Try.prog) (H := Gj6) el_25 sz_3;obtain ⟨g10, hF⟩ := gd_some hF;obtain ⟨v11, G12, q13, S15, a17, _⟩ := Sj6.apM (f := (Value.int .i64)) (P := Try.prog) (t := 25) (t2 := 3) (hB.le Aj6.1) el_25 ei_3 rfl it_3 0 rfl g10;have q14 := @apN_none Try.prog Gj6 25 3 (.slice none 0 0) (Value.int .i64 (isub .i64 x1 (isub .i64 0 0))) sd_3;have A16 := Aj6.ext (hB.le Aj6.1) a17;replace S15 : Sep G12 (Fr H) [flat v11 3 (ints (lrep (isub .i64 x1 (isub .i64 0 0)) (0 : Int)))] := S15;obtain ⟨g18, hF⟩ := gd_some hF;have q19 := aSub01 (P := Try.prog) (t := 25) (S15.sl (k := 0) rfl) el_25 sz_3 g18;refine .region fun K hK => ?_;simp [ej6_, cap_nil us_25, q9, q13, q14, a17.to_pre, len_nil el_25, q19, ((subSl (S15.sl (k := 0) rfl) g18).tup)];apply hK;clear hK K;simp only [andThen, leaves];refine .sr fun K hK => ?_;simp [ej6_];apply hK;clear hK K;refine DWp.ret ?_;have S20 : Sep G12 (Fr H) [flat (subV v11 0 0) 3 (ints (lsub (lrep (isub .i64 x1 (isub .i64 0 0)) (0 : Int)) 0 0))] := S15.resub (k := 0) rfl g18;obtain rfl := Option.some.inj hF;exact ⟨by simp, [(subV v11 0 0)], by simp [ej6_, ((S20.sl (k := 0) rfl).tup)], A16, (subV v11 0 0), rfl, S20.pick [0] (by decide) rfl⟩
  ·replace hF := cd_f hb7 hF;refine DWp.skip ?_;simp only [andThen, leaves];refine .sr fun K hK => ?_;simp [ej6_];apply hK;clear hK K;refine DWp.ret ?_;have S21 := Sj6.nilItem (hB.le Aj6.1) 3;obtain rfl := Option.some.inj hF;exact ⟨by simp, [(Value.slice none 0 0)], by simp [ej6_], Aj6, (Value.slice none 0 0), rfl, S21.pick [0] (by decide) rfl⟩
def F_slices_Concat_Sint_L2 (fu : Nat) (k2_0 : List (List Int)) (k2_1 : Int) : Nat → List Int → Int → Option (List Int × Int)
  | 0, _, _ => none
  | n + 1, l2_0, y2_27 =>
    bif (ilt y2_27 k2_1) then
      gd (inL k2_0 y2_27) (
      gd (l2_0.length + (gat [] k2_0 y2_27).length ≤ 4294967296) (
      F_slices_Concat_Sint_L2 fu k2_0 k2_1 n (lapp l2_0 (gat [] k2_0 y2_27)) (iadd .i64 y2_27 1)))
    else
      some (l2_0, y2_27)
def F_slices_Concat_Sint_L1 (fu : Nat) (k1_0 : List (List Int)) (k1_1 : Int) : Nat → Int → Int → Option (Int × Int)
  | 0, _, _ => none
  | n + 1, y1_3, y1_11 =>
    bif (ilt y1_11 k1_1) then
      gd (inL k1_0 y1_11) (
      bif (ilt (iadd .i64 y1_3 (llen (gat [] k1_0 y1_11))) 0) then
        none
      else
        F_slices_Concat_Sint_L1 fu k1_0 k1_1 n (iadd .i64 y1_3 (llen (gat [] k1_0 y1_11))) (iadd .i64 y1_11 1))
    else
      some (y1_3, y1_11)
def F_slices_Concat_Sint (fu : Nat) (x0 : List (List Int)) : Option (List Int) :=
  bd (F_slices_Concat_Sint_L1 fu x0 (llen x0) fu 0 0) fun s1 =>
  bd (F_slices_Grow_Sint fu s1.1) fun r1 =>
  bd (F_slices_Concat_Sint_L2 fu x0 (llen x0) fu r1 0) fun s2 =>
  some s2.1
theorem F_slices_Concat_Sint_w {fu : Nat} {H : AH} {v0 : Value} {x0 : List (List Int)} {r : (List Int)} (hx0 : SlSl H v0 (List.map ints x0)) (hF : F_slices_Concat_Sint fu x0 = some r) :
    ACallT Try.prog 41 [v0] H (fun u G => AgB (Fr H) H G ∧ ∃ u0 : Value, u = u0 ∧ Sep G (Fr H) [flat u0 3 (ints r)]) := by
 refine ACallT.of_body (nt := 36) (rs := [.tmp 2]) Try.func41 rfl rfl rfl rfl ?_;have A0 : AgB (Fr H) H H := .refl _ _;have S0 : Sep H (Fr H) [] := .nil;have hB := Fr.up H;unfold F_slices_Concat_Sint at hF;obtain ⟨C0, hC0⟩ := hx0.rd;refine .sr fun K hK => ?_;simp [];apply hK;clear hK K;refine .sr fun K hK => ?_;simp [];apply hK;clear hK K;refine .seq ?_;have q1 := (hC0.agree A0.agree).lenG (P := Try.prog) el_69;refine .sr fun K hK => ?_;simp [q1];apply hK;clear hK K;refine .block ?_;obtain ⟨s2, hL3, hF⟩ := bd_some hF;have S4 := S0.pick [] (by decide) rfl;refine DWp.loop (fun n env G => ∃ y1_3 : Int, ∃ y1_11 : Int, F_slices_Concat_Sint_L1 fu x0 (llen x0) n y1_3 y1_11 = some s2 ∧ Sep G (Fr H) [] ∧ AgB (Fr H) H G ∧ env 0 = some v0 ∧ env 3 = some (Value.int .i64 y1_3) ∧ env 9 = some v0 ∧ env 10 = some (Value.int .i64 (llen x0)) ∧ env 11 = some (Value.int .i64 y1_11)) fu ⟨0, 0, hL3, S4, A0, by simp []⟩ ?_;rintro n1 env1 G1_ ⟨y1_3, y1_11, hL3, S1_, A1_, e1_⟩;cases n1 with
 | zero => cases hL3
 | succ n1 =>
  simp only [F_slices_Concat_Sint_L1] at hL3;refine .sr fun K hK => ?_;simp [e1_];apply hK;clear hK K;refine .seq ?_;refine DWp.cond' (t := (ilt y1_11 (llen x0))) (by simp [e1_]) (fun hb5 => ?_) (fun hb5 => ?_)
  ·replace hL3 := cd_t hb5 hL3;refine DWp.skip ?_;simp only [andThen, leaves];refine .seq ?_;refine .block ?_;obtain ⟨g6, hL3⟩ := gd_some hL3;have q7 := (hC0.agree A1_.agree).idxG (P := Try.prog) (kk := .i64) el_69 sz_25 g6;have q8 := (hC0.agree A1_.agree).loadG (P := Try.prog) sz_25 ag_25 g6;refine .sr fun K hK => ?_;simp [e1_, q7, q8];apply hK;clear hK K;have q9 := lenG (P := Try.prog) ((hC0.agree A1_.agree).rowAt [] g6) el_25;refine .sr fun K hK => ?_;simp [e1_, q9];apply hK;clear hK K;refine .sr fun K hK => ?_;simp [e1_];apply hK;clear hK K;refine DWp.cond' (t := (ilt (iadd .i64 y1_3 (llen (gat [] x0 y1_11))) 0)) (by simp [e1_]) (fun hb10 => ?_) (fun hb10 => ?_)
   ·replace hL3 := cd_t hb10 hL3;cases hL3
   ·replace hL3 := cd_f hb10 hL3;refine DWp.skip ?_;simp only [andThen, leaves];refine .region fun K hK => ?_;simp [e1_];apply hK;clear hK K;simp only [andThen, leaves];have S11 := S1_.pick [] (by decide) rfl;exact ⟨n1, Nat.lt_succ_self _, (iadd .i64 y1_3 (llen (gat [] x0 y1_11))), (iadd .i64 y1_11 1), hL3, S11, A1_, by simp [e1_]⟩
  ·replace hL3 := cd_f hb5 hL3;refine DWp.exit ?_;simp only [andThen, leaves, if_true, if_false, reduceIte, Nat.reduceEqDiff];obtain rfl := Option.some.inj hL3;try dsimp only at hF
   obtain ⟨r1, hc12, hF⟩ := bd_some hF;refine .sr fun K hK => ?_;simp [e1_];refine CallD.t (F_slices_Grow_Sint_w (fu := fu)  hc12) ?_;rintro c13_u0 G14 ⟨a17, _, rfl, S18⟩;have A16 := A1_.ext (hB.le A1_.1) a17.agree;have S15 : Sep G14 (Fr H) [flat c13_u0 3 (ints r1)] := S1_.app a17.agree S18 (fun _ h => h) (hB.le A1_.1);simp [e1_, a17.pre];apply hK;clear hK K;refine .seq ?_;have q19 := (hC0.agree A16.agree).lenG (P := Try.prog) el_69;refine .sr fun K hK => ?_;simp [e1_, q19];apply hK;clear hK K;refine .block ?_;obtain ⟨s20, hL21, hF⟩ := bd_some hF;have S22 := S15.pick [0] (by decide) rfl;refine DWp.loop (fun n env G => ∃ l2_0 : List Int, ∃ y2_27 : Int, ∃ w2_0 : Value, F_slices_Concat_Sint_L2 fu x0 (llen x0) n l2_0 y2_27 = some s20 ∧ Sep G (Fr H) [flat w2_0 3 (ints l2_0)] ∧ AgB (Fr H) H G ∧ env 6 = some w2_0 ∧ env 25 = some v0 ∧ env 26 = some (Value.int .i64 (llen x0)) ∧ env 27 = some (Value.int .i64 y2_27)) fu ⟨r1, 0, c13_u0, hL21, S22, A16, by simp [e1_]⟩ ?_;rintro n1 env1 G1_ ⟨l2_0, y2_27, w2_0, hL21, S1_, A1_, e1_⟩;cases n1 with
   | zero => cases hL21
   | succ n1 =>
    simp only [F_slices_Concat_Sint_L2] at hL21;refine .sr fun K hK => ?_;simp [e1_];apply hK;clear hK K;refine .seq ?_;refine DWp.cond' (t := (ilt y2_27 (llen x0))) (by simp [e1_]) (fun hb23 => ?_) (fun hb23 => ?_)
    ·replace hL21 := cd_t hb23 hL21;refine DWp.skip ?_;simp only [andThen, leaves];refine .seq ?_;refine .block ?_;obtain ⟨g24, hL21⟩ := gd_some hL21;have q25 := (hC0.agree A1_.agree).idxG (P := Try.prog) (kk := .i64) el_69 sz_25 g24;have q26 := (hC0.agree A1_.agree).loadG (P := Try.prog) sz_25 ag_25 g24;refine .sr fun K hK => ?_;simp [e1_, q25, q26];apply hK;clear hK K;obtain ⟨g27, hL21⟩ := gd_some hL21;obtain ⟨v33, G28, q29, S30, a32, _, _⟩ := S1_.appendG (f := (Value.int .i64)) (xs := l2_0) (ys := (gat [] x0 y2_27)) (P := Try.prog) (t := 25) (t2 := 25) (k := 0) rfl (hB.le A1_.1) el_25 el_25 ei_3 rfl ((hC0.agree A1_.agree).rowAt [] g24) g27;have A31 := A1_.trans a32;replace S30 : Sep G28 (Fr H) [flat v33 3 (ints (lapp l2_0 (gat [] x0 y2_27)))] := S30;refine .region fun K hK => ?_;simp [e1_, q29];apply hK;clear hK K;simp only [andThen, leaves];refine .region fun K hK => ?_;simp [e1_];apply hK;clear hK K;simp only [andThen, leaves];have S34 := S30.pick [0] (by decide) rfl;exact ⟨n1, Nat.lt_succ_self _, (lapp l2_0 (gat [] x0 y2_27)), (iadd .i64 y2_27 1), v33, hL21, S34, A31, by simp [e1_]⟩
    ·replace hL21 := cd_f hb23 hL21;refine DWp.exit ?_;simp only [andThen, leaves, if_true, if_false, reduceIte, Nat.reduceEqDiff];obtain rfl := Option.some.inj hL21;try dsimp only at hF
     refine .sr fun K hK => ?_;simp [e1_];apply hK;clear hK K;refine DWp.ret ?_;obtain rfl := Option.some.inj hF;exact ⟨by simp, [w2_0], by simp [e1_, ((S1_.sl (k := 0) rfl).tup)], A1_, w2_0, rfl, S1_.pick [0] (by decide) rfl⟩
def F_impl_State_key_L1 (fu : Nat) (k1_0 : List Int) (k1_1 : Int) : Nat → List Int → Int → Option (List Int × Int)
  | 0, _, _ => none
  | n + 1, l1_0, y1_23 =>
    bif (ilt y1_23 k1_1) then
      gd (inL k1_0 y1_23) (
      gd (l1_0.length + [(iwr .u8 (iadd .i64 48 (gat 0 k1_0 y1_23)))].length ≤ 4294967296) (
      F_impl_State_key_L1 fu k1_0 k1_1 n (lapp l1_0 [(iwr .u8 (iadd .i64 48 (gat 0 k1_0 y1_23)))]) (iadd .i64 y1_23 1)))
    else
      some (l1_0, y1_23)
def F_impl_State_key (fu : Nat) (x0_0 : List Int) (x0_1 : List Int) (x0_2 : Int) : Option (ByteArray) :=
  bd (F_slices_Concat_Sint fu [x0_0, x0_1]) fun r1 =>
  bd (F_impl_State_key_L1 fu r1 (llen r1) fu [(iwr .u8 (iadd .i64 48 x0_2)), (iwr .u8 (iadd .i64 48 (llen x0_0)))] 0) fun s1 =>
  some (bstr s1.1)
theorem F_impl_State_key_w {fu : Nat} {H : AH} {v0_0 : Value} {v0_1 : Value} {x0_0 : List Int} {x0_1 : List Int} {x0_2 : Int} {r : (ByteArray)} (hx0_0 : Sl H v0_0 (ints x0_0)) (hx0_1 : Sl H v0_1 (ints x0_1)) (hF : F_impl_State_key fu x0_0 x0_1 x0_2 = some r) :
    ACallT Try.prog 47 [(Value.agg #[v0_0, v0_1, (Value.int .i64 x0_2)])] H (fun u G => AgB (Fr H) H G ∧ u = (Value.string r) ∧ Sep G (Fr H) []) := by
 refine ACallT.of_body (nt := 36) (rs := [.tmp 2]) Try.func47 rfl rfl rfl rfl ?_;have A0 : AgB (Fr H) H H := .refl _ _;have S0 : Sep H (Fr H) [] := .nil;have hB := Fr.up H;unfold F_impl_State_key at hF;obtain ⟨G2, p4, q5, q6, a7, S1⟩ := S0.boxT (hB.le A0.1) 34 [v0_0, v0_1, (Value.int .i64 x0_2)];have A3 := A0.ext (hB.le A0.1) a7;replace S1 : Sep G2 (Fr H) [AL.box p4 [v0_0, v0_1, (Value.int .i64 x0_2)]] := S1;refine .sr fun K hK => ?_;simp [q5, q6, a7.to_pre, cells_agg];apply hK;clear hK K;have q8 := S1.fieldT (P := Try.prog) (k := 0) rfl fa_34_2;have q9 := S1.loadF (P := Try.prog) (k := 0) rfl sz_3 ag_3 (off := 2) rfl;have q10 := S1.fieldT (P := Try.prog) (k := 0) rfl fa_34_0;have q11 := S1.loadF (P := Try.prog) (k := 0) rfl sz_25 ag_25 (off := 0) rfl;have q12 := lenG (P := Try.prog) (hx0_0.agree A3.agree) el_25;obtain ⟨v13, G14, q15, S16, a18, _, _⟩ := S1.lit2 (P := Try.prog) (t := 71) (hB.le A3.1) el_71 ei_5 rfl (Value.int .u8 (iwr .u8 (iadd .i64 48 x0_2))) (Value.int .u8 (iwr .u8 (iadd .i64 48 (llen x0_0)))) rfl rfl rfl rfl;have A17 := A3.ext (hB.le A3.1) a18;replace S16 : Sep G14 (Fr H) [AL.box p4 [v0_0, v0_1, (Value.int .i64 x0_2)], flat1 v13 5 (u8s [(iwr .u8 (iadd .i64 48 x0_2)), (iwr .u8 (iadd .i64 48 (llen x0_0)))])] := S16;refine .sr fun K hK => ?_;simp [q8, q9, c_int un_3 un_5, q10, q11, q12, q15, a18.to_pre];apply hK;clear hK K;refine .seq ?_;have q20 := S16.fieldT (P := Try.prog) (k := 0) rfl fa_34_0;have q21 := S16.loadF (P := Try.prog) (k := 0) rfl sz_25 ag_25 (off := 0) rfl;have q22 := S16.fieldT (P := Try.prog) (k := 0) rfl fa_34_1;have q23 := S16.loadF (P := Try.prog) (k := 0) rfl sz_25 ag_25 (off := 1) rfl
 obtain ⟨v24, G25, q26, S27, a29, _, _⟩ := S16.lit2 (P := Try.prog) (t := 69) (hB.le A17.1) el_69 ei_25 rfl v0_0 v0_1 ((hx0_0.agree A17.agree).tup) ((hx0_0.agree A17.agree).one) ((hx0_1.agree A17.agree).tup) ((hx0_1.agree A17.agree).one);have A28 := A17.ext (hB.le A17.1) a29;replace S27 : Sep G25 (Fr H) [AL.box p4 [v0_0, v0_1, (Value.int .i64 x0_2)], flat1 v13 5 (u8s [(iwr .u8 (iadd .i64 48 x0_2)), (iwr .u8 (iadd .i64 48 (llen x0_0)))]), flat1 v24 25 [v0_0, v0_1]] := S27;obtain ⟨r1, hc30, hF⟩ := bd_some hF;refine .sr fun K hK => ?_;simp [q20, q21, q22, q23, q26, a29.to_pre, ((hx0_0.agree A17.agree).tup), ((hx0_1.agree A17.agree).tup), ((S27.sl1 (k := 2) rfl).tup)];refine CallD.t (F_slices_Concat_Sint_w (fu := fu) (SlSl.two (S27.sl1 (k := 2) rfl) (hx0_0.agree A28.agree) (hx0_1.agree A28.agree)) hc30) ?_;rintro c31_u0 G32 ⟨a35, _, rfl, S36⟩;have A34 := A28.ext (hB.le A28.1) a35.agree;have S33 : Sep G32 (Fr H) [AL.box p4 [v0_0, v0_1, (Value.int .i64 x0_2)], flat1 v13 5 (u8s [(iwr .u8 (iadd .i64 48 x0_2)), (iwr .u8 (iadd .i64 48 (llen x0_0)))]), flat1 v24 25 [v0_0, v0_1], flat c31_u0 3 (ints r1)] := S27.app a35.agree S36 (fun _ h => h) (hB.le A28.1);have q37 := lenG (P := Try.prog) (S33.sl (k := 3) rfl) el_25;simp [q20, q21, q22, q23, q26, a29.to_pre, ((hx0_0.agree A17.agree).tup), ((hx0_1.agree A17.agree).tup), a35.pre, q37];apply hK;clear hK K;refine .block ?_;obtain ⟨s38, hL39, hF⟩ := bd_some hF;have S40 := S33.pick [1, 3] (by decide) rfl;have S41 := S40.weak (k := 0) rfl
 refine DWp.loop (fun n env G => ∃ l1_0 : List Int, ∃ y1_23 : Int, ∃ w1_0 : Value, F_impl_State_key_L1 fu r1 (llen r1) n l1_0 y1_23 = some s38 ∧ Sep G (Fr H) [flat w1_0 5 (u8s l1_0), flat c31_u0 3 (ints r1)] ∧ AgB (Fr H) H G ∧ env 3 = some w1_0 ∧ env 21 = some c31_u0 ∧ env 22 = some (Value.int .i64 (llen r1)) ∧ env 23 = some (Value.int .i64 y1_23)) fu ⟨[(iwr .u8 (iadd .i64 48 x0_2)), (iwr .u8 (iadd .i64 48 (llen x0_0)))], 0, v13, hL39, S41, A34, by simp []⟩ ?_;rintro n1 env1 G1_ ⟨l1_0, y1_23, w1_0, hL39, S1_, A1_, e1_⟩;cases n1 with
 | zero => cases hL39
 | succ n1 =>
  simp only [F_impl_State_key_L1] at hL39;refine .sr fun K hK => ?_;simp [e1_];apply hK;clear hK K;refine .seq ?_;refine DWp.cond' (t := (ilt y1_23 (llen r1))) (by simp [e1_]) (fun hb42 => ?_) (fun hb42 => ?_)
  ·replace hL39 := cd_t hb42 hL39;refine DWp.skip ?_;simp only [andThen, leaves];refine .seq ?_;refine .block ?_;obtain ⟨g43, hL39⟩ := gd_some hL39;have q44 := idxG (P := Try.prog) (kk := .i64) (S1_.sl (k := 1) rfl) el_25 sz_3 g43;have q45 := loadG (P := Try.prog) (S1_.sl (k := 1) rfl) sz_3 ag_3 g43 0;refine .sr fun K hK => ?_;simp [e1_, q44, q45];apply hK;clear hK K;obtain ⟨v46, G47, q48, S49, a51, _, _⟩ := S1_.lit1 (P := Try.prog) (t := 71) (hB.le A1_.1) el_71 ei_5 rfl (Value.int .u8 (iwr .u8 (iadd .i64 48 (gat 0 r1 y1_23)))) rfl rfl;have A50 := A1_.ext (hB.le A1_.1) a51;replace S49 : Sep G47 (Fr H) [flat w1_0 5 (u8s l1_0), flat c31_u0 3 (ints r1), flat1 v46 5 (u8s [(iwr .u8 (iadd .i64 48 (gat 0 r1 y1_23)))])] := S49;obtain ⟨g53, hL39⟩ := gd_some hL39;obtain ⟨v59, G54, q55, S56, a58, _, _⟩ := S49.appendG (f := (Value.int .u8)) (xs := l1_0) (ys := [(iwr .u8 (iadd .i64 48 (gat 0 r1 y1_23)))]) (P := Try.prog) (t := 71) (t2 := 71) (k := 0) rfl (hB.le A50.1) el_71 el_71 ei_5 rfl (S49.sl1 (k := 2) rfl) g53;have A57 := A50.trans a58;replace S56 : Sep G54 (Fr H) [flat v59 5 (u8s (lapp l1_0 [(iwr .u8 (iadd .i64 48 (gat 0 r1 y1_23)))])), flat c31_u0 3 (ints r1), flat1 v46 5 (u8s [(iwr .u8 (iadd .i64 48 (gat 0 r1 y1_23)))])] := S56;refine .region fun K hK => ?_;simp [e1_, c_int un_3 un_5, q48, a51.to_pre, q55];apply hK;clear hK K;simp only [andThen, leaves];refine .region fun K hK => ?_;simp [e1_];apply hK;clear hK K;simp only [andThen, leaves];have S60 := S56.pick [0, 1] (by decide) rfl;exact ⟨n1, Nat.lt_succ_self _, (lapp l1_0 [(iwr .u8 (iadd .i64 48 (gat 0 r1 y1_23)))]), (iadd .i64 y1_23 1), v59, hL39, S60, A57, by simp [e1_]⟩
  ·replace hL39 := cd_f hb42 hL39;refine DWp.exit ?_;simp only [andThen, leaves, if_true, if_false, reduceIte, Nat.reduceEqDiff];obtain rfl := Option.some.inj hL39;try dsimp only at hF
   have q61 := c_bytes (P := Try.prog) us_71 un_5 un_9 (S1_.sl (k := 0) rfl);refine .sr fun K hK => ?_;simp [e1_, q61];apply hK;clear hK K;refine DWp.ret ?_;obtain rfl := Option.some.inj hF;exact ⟨by simp, [(Value.string (bstr l1_0))], by simp [e1_], A1_, rfl, S1_.pick [] (by decide) rfl⟩
def F_slices_Clone_Sint (fu : Nat) (x0 : List Int) : Option (List Int) :=
  gd ((@List.nil Int).length + x0.length ≤ 4294967296) (
  some (lapp (@List.nil Int) x0))
theorem F_slices_Clone_Sint_w {fu : Nat} {H : AH} {v0 : Value} {x0 : List Int} {r : (List Int)} (hx0 : Sl H v0 (ints x0)) (hF : F_slices_Clone_Sint fu x0 = some r) :
    ACallT Try.prog 39 [v0] H (fun u G => AgB (Fr H) H G ∧ ∃ u0 : Value, u = u0 ∧ Sep G (Fr H) [flat u0 3 (ints r)]) := by
 refine ACallT.of_body (nt := 8) (rs := [.tmp 2]) Try.func39 rfl rfl rfl rfl ?_;have A0 : AgB (Fr H) H H := .refl _ _;have S0 : Sep H (Fr H) [] := .nil;have hB := Fr.up H;by_cases hn0 : v0 = .slice none 0 0
 ·
  subst hn0;have hx1 : x0 = [] := by
   rcases hx0 with ⟨_, h_⟩ | ⟨_, _, _, _, _, h_, _⟩
   ·cases x0 with
    | nil => rfl
    | cons a_ b_ => cases h_
   ·cases h_
  subst hx1;have hF2 : (some [] : Option (List Int)) = some r := by
   rw [← hF];unfold F_slices_Clone_Sint;rw [gd_true (by simp)];rfl
  refine .sr fun K hK => ?_;simp [];apply hK;clear hK K;refine .seq ?_;refine .sr fun K hK => ?_;simp [nil_tt us_25];apply hK;clear hK K;refine DWp.ct (by simp [bnot]) ?_;refine .sr fun K hK => ?_;simp [];apply hK;clear hK K;refine DWp.ret ?_;simp only [andThen, leaves];have S1 := S0.nilItem (hB.le A0.1) 3;obtain rfl := Option.some.inj hF2;exact ⟨by simp, [(Value.slice none 0 0)], by simp [], A0, (Value.slice none 0 0), rfl, S1.pick [0] (by decide) rfl⟩
 ·unfold F_slices_Clone_Sint at hF;refine .sr fun K hK => ?_;simp [];apply hK;clear hK K;refine .seq ?_;refine .sr fun K hK => ?_;simp [nil_ff us_25 (hx0.agree A0.agree) hn0];apply hK;clear hK K;refine DWp.cf (by simp [bnot]) ?_;refine DWp.skip ?_;simp only [andThen, leaves];obtain ⟨v1, G2, q3, S4, a6, _, _⟩ := S0.lit0 (P := Try.prog) (t := 25) (hB.le A0.1) el_25 ei_3 rfl;have A5 := A0.ext (hB.le A0.1) a6;replace S4 : Sep G2 (Fr H) [flat1 v1 3 (ints (@List.nil Int))] := S4;obtain ⟨g8, hF⟩ := gd_some hF;obtain ⟨v14, G9, q10, S11, a13, _, _⟩ := S4.append1 (f := (Value.int .i64)) (xs := (@List.nil Int)) (ys := x0) (P := Try.prog) (t := 25) (t2 := 25) (k := 0) rfl (hB.le A5.1) el_25 el_25 ei_3 rfl (hx0.agree A5.agree) g8;have A12 := A5.trans a13;replace S11 : Sep G9 (Fr H) [flat v14 3 (ints (lapp (@List.nil Int) x0))] := S11;refine .sr fun K hK => ?_;simp [q3, a6.to_pre, q10];apply hK;clear hK K;refine DWp.ret ?_;obtain rfl := Option.some.inj hF;exact ⟨by simp, [v14], by simp [((S11.sl (k := 0) rfl).tup)], A12, v14, rfl, S11.pick [0] (by decide) rfl⟩
def F_impl_last (fu : Nat) (x0 : List Int) : Option (List Int × Int) :=
  gd (subL x0 0 (isub .i64 (llen x0) 1)) (
  bd (F_slices_Clone_Sint fu (lsub x0 0 (isub .i64 (llen x0) 1))) fun r1 =>
  gd (inL x0 (isub .i64 (llen x0) 1)) (
  some (r1, (gat 0 x0 (isub .i64 (llen x0) 1)))))
theorem F_impl_last_w {fu : Nat} {H : AH} {v0 : Value} {x0 : List Int} {r : (List Int × Int)} (hx0 : Sl H v0 (ints x0)) (hF : F_impl_last fu x0 = some r) :
    ACallT Try.prog 54 [v0] H (fun u G => AgB (Fr H) H G ∧ ∃ u0 : Value, u = (Value.tuple #[u0, (Value.int .i64 r.2)]) ∧ Sep G (Fr H) [flat u0 3 (ints r.1)]) := by
 refine ACallT.of_body (nt := 16) (rs := [.tmp 2, .tmp 3]) Try.func54 rfl rfl rfl rfl ?_;have A0 : AgB (Fr H) H H := .refl _ _;have S0 : Sep H (Fr H) [] := .nil;have hB := Fr.up H;unfold F_impl_last at hF;refine .sr fun K hK => ?_;simp [];apply hK;clear hK K;have q1 := lenG (P := Try.prog) (hx0.agree A0.agree) el_25;refine .sr fun K hK => ?_;simp [q1];apply hK;clear hK K;obtain ⟨g2, hF⟩ := gd_some hF;have q3 := aSub01 (P := Try.prog) (t := 25) (hx0.agree A0.agree) el_25 sz_3 g2;obtain ⟨r1, hc4, hF⟩ := bd_some hF;refine .sd (B := [0, 0, 3, 7, 0, 0, 48, 112, 15, 511]) 10 mixed (by kernel_rfl) (by decide) fun K hK => ?_;simp [q3, ((subSl (hx0.agree A0.agree) g2).tup)];refine CallD.t (F_slices_Clone_Sint_w (fu := fu) (subSl (hx0.agree A0.agree) g2) hc4) ?_;rintro c5_u0 G6 ⟨a9, _, rfl, S10⟩;have A8 := A0.ext (hB.le A0.1) a9.agree;have S7 : Sep G6 (Fr H) [flat c5_u0 3 (ints r1)] := S0.app a9.agree S10 (fun _ h => h) (hB.le A0.1);obtain ⟨g11, hF⟩ := gd_some hF;have q12 := idxG (P := Try.prog) (kk := .i64) (hx0.agree A8.agree) el_25 sz_3 g11;have q13 := loadG (P := Try.prog) (hx0.agree A8.agree) sz_3 ag_3 g11 0;simp [q3, ((subSl (hx0.agree A0.agree) g2).tup), a9.pre, q12, q13];apply hK;clear hK K;refine DWp.ret ?_;obtain rfl := Option.some.inj hF;exact ⟨by simp, [c5_u0, (Value.int .i64 (gat 0 x0 (isub .i64 (llen x0) 1)))], by simp [((S7.sl (k := 0) rfl).tup)], A8, c5_u0, rfl, S7.pick [0] (by decide) rfl⟩
def F_slices_Equal_Sint_L1 (fu : Nat) (k1_0 : List Int) (k1_1 : List Int) (k1_2 : Int) : Nat → Int → Option (LR (Bool) (Int))
  | 0, _ => none
  | n + 1, y1_13 =>
    bif (ilt y1_13 k1_2) then
      gd (inL k1_0 y1_13) (
      gd (inL k1_1 y1_13) (
      bif (ine (gat 0 k1_0 y1_13) (gat 0 k1_1 y1_13)) then
        some (.ret false)
      else
        F_slices_Equal_Sint_L1 fu k1_0 k1_1 k1_2 n (iadd .i64 y1_13 1)))
    else
      some (.brk y1_13)
def F_slices_Equal_Sint (fu : Nat) (x0 : List Int) (x1 : List Int) : Option (Bool) :=
  bif (ine (llen x0) (llen x1)) then
    some false
  else
    bd (F_slices_Equal_Sint_L1 fu x0 x1 (llen x0) fu 0) fun s1 =>
    lr s1 fun s1 =>
    some true
theorem F_slices_Equal_Sint_w {fu : Nat} {H : AH} {v0 : Value} {v1 : Value} {x0 : List Int} {x1 : List Int} {r : (Bool)} (hx0 : Sl H v0 (ints x0)) (hx1 : Sl H v1 (ints x1)) (hF : F_slices_Equal_Sint fu x0 x1 = some r) :
    ACallT Try.prog 51 [v0, v1] H (fun u G => AgB (Fr H) H G ∧ u = (Value.bool r) ∧ Sep G (Fr H) []) := by
 refine ACallT.of_body (nt := 26) (rs := [.tmp 4]) Try.func51 rfl rfl rfl rfl ?_;have A0 : AgB (Fr H) H H := .refl _ _;have S0 : Sep H (Fr H) [] := .nil;have hB := Fr.up H;unfold F_slices_Equal_Sint at hF;refine .sr fun K hK => ?_;simp [];apply hK;clear hK K;refine .seq ?_;have q1 := lenG (P := Try.prog) (hx0.agree A0.agree) el_25;have q2 := lenG (P := Try.prog) (hx1.agree A0.agree) el_25;refine .sr fun K hK => ?_;simp [q1, q2];apply hK;clear hK K;refine DWp.cond' (t := (ine (llen x0) (llen x1))) (by simp []) (fun hb3 => ?_) (fun hb3 => ?_)
 ·replace hF := cd_t hb3 hF;refine .sr fun K hK => ?_;simp [];apply hK;clear hK K;refine DWp.ret ?_;simp only [andThen, leaves];obtain rfl := Option.some.inj hF;exact ⟨by simp, [(Value.bool false)], by simp [], A0, rfl, S0.pick [] (by decide) rfl⟩
 ·replace hF := cd_f hb3 hF;refine DWp.skip ?_;simp only [andThen, leaves];refine .seq ?_;have q4 := lenG (P := Try.prog) (hx0.agree A0.agree) el_25;refine .sr fun K hK => ?_;simp [q4];apply hK;clear hK K;refine .block ?_;obtain ⟨s5, hL6, hF⟩ := bd_some hF;have S7 := S0.pick [] (by decide) rfl;refine DWp.loop (fun n env G => ∃ y1_13 : Int, F_slices_Equal_Sint_L1 fu x0 x1 (llen x0) n y1_13 = some s5 ∧ Sep G (Fr H) [] ∧ AgB (Fr H) H G ∧ env 0 = some v0 ∧ env 1 = some v1 ∧ env 12 = some (Value.int .i64 (llen x0)) ∧ env 13 = some (Value.int .i64 y1_13)) fu ⟨0, hL6, S7, A0, by simp []⟩ ?_;rintro n1 env1 G1_ ⟨y1_13, hL6, S1_, A1_, e1_⟩;cases n1 with
  | zero => cases hL6
  | succ n1 =>
   simp only [F_slices_Equal_Sint_L1] at hL6;refine .sr fun K hK => ?_;simp [e1_];apply hK;clear hK K;refine .seq ?_;refine DWp.cond' (t := (ilt y1_13 (llen x0))) (by simp [e1_]) (fun hb8 => ?_) (fun hb8 => ?_)
   ·replace hL6 := cd_t hb8 hL6;refine DWp.skip ?_;simp only [andThen, leaves];refine .seq ?_;refine .block ?_;refine .sr fun K hK => ?_;simp [e1_];apply hK;clear hK K;obtain ⟨g9, hL6⟩ := gd_some hL6;have q10 := idxG (P := Try.prog) (kk := .i64) (hx0.agree A1_.agree) el_25 sz_3 g9;have q11 := loadG (P := Try.prog) (hx0.agree A1_.agree) sz_3 ag_3 g9 0;obtain ⟨g12, hL6⟩ := gd_some hL6;have q13 := idxG (P := Try.prog) (kk := .i64) (hx1.agree A1_.agree) el_25 sz_3 g12;have q14 := loadG (P := Try.prog) (hx1.agree A1_.agree) sz_3 ag_3 g12 0;refine .sd (B := [0, 0, 3, 7, 0, 0, 48, 112, 255]) 9 mixed (by kernel_rfl) (by decide) fun K hK => ?_;simp [e1_, q10, q11, q13, q14];apply hK;clear hK K;refine DWp.cond' (t := (ine (gat 0 x0 y1_13) (gat 0 x1 y1_13))) (by simp [e1_]) (fun hb15 => ?_) (fun hb15 => ?_)
    ·replace hL6 := cd_t hb15 hL6;refine .sr fun K hK => ?_;simp [e1_];apply hK;clear hK K;refine DWp.ret ?_;simp only [andThen, leaves];obtain rfl := Option.some.inj hL6;simp only [lr] at hF;obtain rfl := Option.some.inj hF;exact ⟨by simp, [(Value.bool false)], by simp [e1_], A1_, rfl, S1_.pick [] (by decide) rfl⟩
    ·replace hL6 := cd_f hb15 hL6;refine DWp.skip ?_;simp only [andThen, leaves];refine .region fun K hK => ?_;simp [e1_];apply hK;clear hK K;simp only [andThen, leaves];have S16 := S1_.pick [] (by decide) rfl;exact ⟨n1, Nat.lt_succ_self _, (iadd .i64 y1_13 1), hL6, S16, A1_, by simp [e1_]⟩
   ·replace hL6 := cd_f hb8 hL6;refine DWp.exit ?_;simp only [andThen, leaves, if_true, if_false, reduceIte, Nat.reduceEqDiff];obtain rfl := Option.some.inj hL6;simp only [lr] at hF;refine .sr fun K hK => ?_;simp [e1_];apply hK;clear hK K;refine DWp.ret ?_;obtain rfl := Option.some.inj hF;exact ⟨by simp, [(Value.bool true)], by simp [e1_], A1_, rfl, S1_.pick [] (by decide) rfl⟩
def F_impl_State_same (fu : Nat) (x0_0 : List Int) (x0_1 : List Int) (x0_2 : Int) (x1_0 : List Int) (x1_1 : List Int) (x1_2 : Int) : Option (Bool) :=
  bd (F_slices_Equal_Sint fu x0_0 x1_0) fun r1 =>
  bif r1 then
    bd (F_slices_Equal_Sint fu x0_1 x1_1) fun r2 =>
    bif r2 then
      some (ieq x0_2 x1_2)
    else
      some false
  else
    some false
theorem F_impl_State_same_w {fu : Nat} {H : AH} {v0_0 : Value} {v0_1 : Value} {v1_0 : Value} {v1_1 : Value} {x0_0 : List Int} {x0_1 : List Int} {x0_2 : Int} {x1_0 : List Int} {x1_1 : List Int} {x1_2 : Int} {r : (Bool)} (hx0_0 : Sl H v0_0 (ints x0_0)) (hx0_1 : Sl H v0_1 (ints x0_1)) (hx1_0 : Sl H v1_0 (ints x1_0)) (hx1_1 : Sl H v1_1 (ints x1_1)) (hF : F_impl_State_same fu x0_0 x0_1 x0_2 x1_0 x1_1 x1_2 = some r) :
    ACallT Try.prog 43 [(Value.agg #[v0_0, v0_1, (Value.int .i64 x0_2)]), (Value.agg #[v1_0, v1_1, (Value.int .i64 x1_2)])] H (fun u G => AgB (Fr H) H G ∧ u = (Value.bool r) ∧ Sep G (Fr H) []) := by
 refine ACallT.of_body (nt := 24) (rs := [.tmp 4]) Try.func43 rfl rfl rfl rfl ?_;have A0 : AgB (Fr H) H H := .refl _ _;have S0 : Sep H (Fr H) [] := .nil;have hB := Fr.up H;unfold F_impl_State_same at hF;obtain ⟨G2, p4, q5, q6, a7, S1⟩ := S0.boxT (hB.le A0.1) 34 [v0_0, v0_1, (Value.int .i64 x0_2)];have A3 := A0.ext (hB.le A0.1) a7;replace S1 : Sep G2 (Fr H) [AL.box p4 [v0_0, v0_1, (Value.int .i64 x0_2)]] := S1;obtain ⟨G9, p11, q12, q13, a14, S8⟩ := S1.boxT (hB.le A3.1) 34 [v1_0, v1_1, (Value.int .i64 x1_2)];have A10 := A3.ext (hB.le A3.1) a14;replace S8 : Sep G9 (Fr H) [AL.box p4 [v0_0, v0_1, (Value.int .i64 x0_2)], AL.box p11 [v1_0, v1_1, (Value.int .i64 x1_2)]] := S8;refine .sr fun K hK => ?_;simp [q5, q6, a7.to_pre, cells_agg, q12, q13, a14.to_pre];apply hK;clear hK K;have q15 := S8.fieldT (P := Try.prog) (k := 0) rfl fa_34_0;have q16 := S8.loadF (P := Try.prog) (k := 0) rfl sz_25 ag_25 (off := 0) rfl;have q17 := S8.fieldT (P := Try.prog) (k := 1) rfl fa_34_0;have q18 := S8.loadF (P := Try.prog) (k := 1) rfl sz_25 ag_25 (off := 0) rfl;obtain ⟨r1, hc19, hF⟩ := bd_some hF;refine .sr fun K hK => ?_;simp [q15, q16, q17, q18, ((hx0_0.agree A10.agree).tup), ((hx1_0.agree A10.agree).tup)];refine CallD.t (F_slices_Equal_Sint_w (fu := fu) (hx0_0.agree A10.agree) (hx1_0.agree A10.agree) hc19) ?_;rintro _ G21 ⟨a24, rfl, S25⟩;have A23 := A10.ext (hB.le A10.1) a24.agree;have S22 : Sep G21 (Fr H) [AL.box p4 [v0_0, v0_1, (Value.int .i64 x0_2)], AL.box p11 [v1_0, v1_1, (Value.int .i64 x1_2)]] := S8.app a24.agree S25 (fun _ h => h) (hB.le A10.1);rcases Bool.eq_false_or_eq_true r1 with hb26 | hb26
 ·replace hF := cd_t hb26 hF;have q27 := S22.fieldT (P := Try.prog) (k := 0) rfl fa_34_1;have q28 := S22.loadF (P := Try.prog) (k := 0) rfl sz_25 ag_25 (off := 1) rfl;have q29 := S22.fieldT (P := Try.prog) (k := 1) rfl fa_34_1;have q30 := S22.loadF (P := Try.prog) (k := 1) rfl sz_25 ag_25 (off := 1) rfl;obtain ⟨r2, hc31, hF⟩ := bd_some hF;simp [hb26, q15, q16, q17, q18, a24.pre, q27, q28, q29, q30, ((hx0_1.agree A23.agree).tup), ((hx1_1.agree A23.agree).tup)];refine CallD.t (F_slices_Equal_Sint_w (fu := fu) (hx0_1.agree A23.agree) (hx1_1.agree A23.agree) hc31) ?_;rintro _ G33 ⟨a36, rfl, S37⟩;have A35 := A23.ext (hB.le A23.1) a36.agree;have S34 : Sep G33 (Fr H) [AL.box p4 [v0_0, v0_1, (Value.int .i64 x0_2)], AL.box p11 [v1_0, v1_1, (Value.int .i64 x1_2)]] := S22.app a36.agree S37 (fun _ h => h) (hB.le A23.1);rcases Bool.eq_false_or_eq_true r2 with hb38 | hb38
  ·replace hF := cd_t hb38 hF;have q39 := S34.fieldT (P := Try.prog) (k := 0) rfl fa_34_2;have q40 := S34.loadF (P := Try.prog) (k := 0) rfl sz_3 ag_3 (off := 2) rfl;have q41 := S34.fieldT (P := Try.prog) (k := 1) rfl fa_34_2;have q42 := S34.loadF (P := Try.prog) (k := 1) rfl sz_3 ag_3 (off := 2) rfl;simp [hb26, hb38, q15, q16, q17, q18, a24.pre, q27, q28, q29, q30, a36.pre, q39, q40, q41, q42];apply hK;clear hK K;refine DWp.ret ?_;obtain rfl := Option.some.inj hF;exact ⟨by simp, [(Value.bool (ieq x0_2 x1_2))], by simp [], A35, rfl, S34.pick [] (by decide) rfl⟩
  ·replace hF := cd_f hb38 hF;simp [hb26, hb38, q15, q16, q17, q18, a24.pre, q27, q28, q29, q30, a36.pre];apply hK;clear hK K;refine DWp.ret ?_;obtain rfl := Option.some.inj hF;exact ⟨by simp, [(Value.bool false)], by simp [], A35, rfl, S34.pick [] (by decide) rfl⟩
 ·replace hF := cd_f hb26 hF;simp [hb26, q15, q16, q17, q18, a24.pre];apply hK;clear hK K;refine DWp.ret ?_;obtain rfl := Option.some.inj hF;exact ⟨by simp, [(Value.bool false)], by simp [], A23, rfl, S22.pick [] (by decide) rfl⟩
def F_slices_Index_Sint_L1 (fu : Nat) (k1_0 : List Int) (k1_1 : Int) (k1_2 : Int) : Nat → Int → Option (LR (Int) (Int))
  | 0, _ => none
  | n + 1, y1_8 =>
    bif (ilt y1_8 k1_2) then
      gd (inL k1_0 y1_8) (
      bif (ieq k1_1 (gat 0 k1_0 y1_8)) then
        some (.ret y1_8)
      else
        F_slices_Index_Sint_L1 fu k1_0 k1_1 k1_2 n (iadd .i64 y1_8 1))
    else
      some (.brk y1_8)
def F_slices_Index_Sint (fu : Nat) (x0 : List Int) (x1 : Int) : Option (Int) :=
  bd (F_slices_Index_Sint_L1 fu x0 x1 (llen x0) fu 0) fun s1 =>
  lr s1 fun s1 =>
  some (-1)
theorem F_slices_Index_Sint_w {fu : Nat} {H : AH} {v0 : Value} {x0 : List Int} {x1 : Int} {r : (Int)} (hx0 : Sl H v0 (ints x0)) (hF : F_slices_Index_Sint fu x0 x1 = some r) :
    ACallT Try.prog 52 [v0, (Value.int .i64 x1)] H (fun u G => AgB (Fr H) H G ∧ u = (Value.int .i64 r) ∧ Sep G (Fr H) []) := by
 refine ACallT.of_body (nt := 19) (rs := [.tmp 4]) Try.func52 rfl rfl rfl rfl ?_;have A0 : AgB (Fr H) H H := .refl _ _;have S0 : Sep H (Fr H) [] := .nil;have hB := Fr.up H;unfold F_slices_Index_Sint at hF;refine .sr fun K hK => ?_;simp [];apply hK;clear hK K;refine .seq ?_;have q1 := lenG (P := Try.prog) (hx0.agree A0.agree) el_25;refine .sr fun K hK => ?_;simp [q1];apply hK;clear hK K;refine .block ?_;obtain ⟨s2, hL3, hF⟩ := bd_some hF;have S4 := S0.pick [] (by decide) rfl;refine DWp.loop (fun n env G => ∃ y1_8 : Int, F_slices_Index_Sint_L1 fu x0 x1 (llen x0) n y1_8 = some s2 ∧ Sep G (Fr H) [] ∧ AgB (Fr H) H G ∧ env 0 = some v0 ∧ env 1 = some (Value.int .i64 x1) ∧ env 7 = some (Value.int .i64 (llen x0)) ∧ env 8 = some (Value.int .i64 y1_8)) fu ⟨0, hL3, S4, A0, by simp []⟩ ?_;rintro n1 env1 G1_ ⟨y1_8, hL3, S1_, A1_, e1_⟩;cases n1 with
 | zero => cases hL3
 | succ n1 =>
  simp only [F_slices_Index_Sint_L1] at hL3;refine .sr fun K hK => ?_;simp [e1_];apply hK;clear hK K;refine .seq ?_;refine DWp.cond' (t := (ilt y1_8 (llen x0))) (by simp [e1_]) (fun hb5 => ?_) (fun hb5 => ?_)
  ·replace hL3 := cd_t hb5 hL3;refine DWp.skip ?_;simp only [andThen, leaves];refine .seq ?_;refine .block ?_;refine .sr fun K hK => ?_;simp [e1_];apply hK;clear hK K;obtain ⟨g6, hL3⟩ := gd_some hL3;have q7 := idxG (P := Try.prog) (kk := .i64) (hx0.agree A1_.agree) el_25 sz_3 g6;have q8 := loadG (P := Try.prog) (hx0.agree A1_.agree) sz_3 ag_3 g6 0;refine .sr fun K hK => ?_;simp [e1_, q7, q8];apply hK;clear hK K;refine DWp.cond' (t := (ieq x1 (gat 0 x0 y1_8))) (by simp [e1_]) (fun hb9 => ?_) (fun hb9 => ?_)
   ·replace hL3 := cd_t hb9 hL3;refine .sr fun K hK => ?_;simp [e1_];apply hK;clear hK K;refine DWp.ret ?_;simp only [andThen, leaves];obtain rfl := Option.some.inj hL3;simp only [lr] at hF;obtain rfl := Option.some.inj hF;exact ⟨by simp, [(Value.int .i64 y1_8)], by simp [e1_], A1_, rfl, S1_.pick [] (by decide) rfl⟩
   ·replace hL3 := cd_f hb9 hL3;refine DWp.skip ?_;simp only [andThen, leaves];refine .region fun K hK => ?_;simp [e1_];apply hK;clear hK K;simp only [andThen, leaves];have S10 := S1_.pick [] (by decide) rfl;exact ⟨n1, Nat.lt_succ_self _, (iadd .i64 y1_8 1), hL3, S10, A1_, by simp [e1_]⟩
  ·replace hL3 := cd_f hb5 hL3;refine DWp.exit ?_;simp only [andThen, leaves, if_true, if_false, reduceIte, Nat.reduceEqDiff];obtain rfl := Option.some.inj hL3;simp only [lr] at hF;refine .sr fun K hK => ?_;simp [e1_];apply hK;clear hK K;refine DWp.ret ?_;obtain rfl := Option.some.inj hF;exact ⟨by simp, [(Value.int .i64 (-1))], by simp [e1_], A1_, rfl, S1_.pick [] (by decide) rfl⟩
def F_slices_Contains_Sint (fu : Nat) (x0 : List Int) (x1 : Int) : Option (Bool) :=
  bd (F_slices_Index_Sint fu x0 x1) fun r1 =>
  some (ile 0 r1)
theorem F_slices_Contains_Sint_w {fu : Nat} {H : AH} {v0 : Value} {x0 : List Int} {x1 : Int} {r : (Bool)} (hx0 : Sl H v0 (ints x0)) (hF : F_slices_Contains_Sint fu x0 x1 = some r) :
    ACallT Try.prog 53 [v0, (Value.int .i64 x1)] H (fun u G => AgB (Fr H) H G ∧ u = (Value.bool r) ∧ Sep G (Fr H) []) := by
 refine ACallT.of_body (nt := 9) (rs := [.tmp 4]) Try.func53 rfl rfl rfl rfl ?_;have A0 : AgB (Fr H) H H := .refl _ _;have S0 : Sep H (Fr H) [] := .nil;have hB := Fr.up H;unfold F_slices_Contains_Sint at hF;refine .sr fun K hK => ?_;simp [];apply hK;clear hK K;obtain ⟨r1, hc1, hF⟩ := bd_some hF;refine .sr fun K hK => ?_;simp [((hx0.agree A0.agree).tup)];refine CallD.t (F_slices_Index_Sint_w (fu := fu) (hx0.agree A0.agree) hc1) ?_;rintro _ G3 ⟨a6, rfl, S7⟩;have A5 := A0.ext (hB.le A0.1) a6.agree;have S4 : Sep G3 (Fr H) [] := S0.app a6.agree S7 (fun _ h => h) (hB.le A0.1);simp [a6.pre];apply hK;clear hK K;refine DWp.ret ?_;obtain rfl := Option.some.inj hF;exact ⟨by simp, [(Value.bool (ile 0 r1))], by simp [], A5, rfl, S4.pick [] (by decide) rfl⟩
def F_impl_crosses_L2 (fu : Nat) (k2_0 : List Int) (k2_1 : Int) (k2_2 : Int) (k2_3 : Int) (k2_4 : List Int) (k2_5 : Int) : Nat → Int → Option (LR (LR (Bool) (Int)) (Int))
  | 0, _ => none
  | n + 1, y2_33 =>
    bif (ilt y2_33 k2_5) then
      gd (inL k2_4 y2_33) (
      bd (
        gd (subL k2_0 0 k2_1) (
        bd (F_slices_Contains_Sint fu (lsub k2_0 0 k2_1) (gat 0 k2_4 y2_33)) fun r2 =>
        bif r2 then
          some true
        else
          gd (subL k2_0 (iadd .i64 k2_2 1) (llen k2_0)) (
          bd (F_slices_Contains_Sint fu (lsub k2_0 (iadd .i64 k2_2 1) (llen k2_0)) (gat 0 k2_4 y2_33)) fun r3 =>
          some r3))) fun s30 =>
      bif s30 then
        some (.ret (.ret true))
      else
        F_impl_crosses_L2 fu k2_0 k2_1 k2_2 k2_3 k2_4 k2_5 n (iadd .i64 y2_33 1))
    else
      some (.brk y2_33)
def F_impl_crosses_L1 (fu : Nat) (k1_0 : List Int) (k1_1 : Int) : Nat → Int → Option (LR (Bool) (Int))
  | 0, _ => none
  | n + 1, y1_10 =>
    bif (ilt y1_10 k1_1) then
      gd (inL k1_0 y1_10) (
      gd (subL k1_0 (iadd .i64 y1_10 1) (llen k1_0)) (
      bd (F_slices_Index_Sint fu (lsub k1_0 (iadd .i64 y1_10 1) (llen k1_0)) (gat 0 k1_0 y1_10)) fun r1 =>
      bif (ile (iadd .i64 (iadd .i64 y1_10 1) r1) y1_10) then
        F_impl_crosses_L1 fu k1_0 k1_1 n (iadd .i64 y1_10 1)
      else
        gd (subL k1_0 (iadd .i64 y1_10 1) (iadd .i64 (iadd .i64 y1_10 1) r1)) (
        bd (F_impl_crosses_L2 fu k1_0 y1_10 (iadd .i64 (iadd .i64 y1_10 1) r1) k1_1 (lsub k1_0 (iadd .i64 y1_10 1) (iadd .i64 (iadd .i64 y1_10 1) r1)) (llen (lsub k1_0 (iadd .i64 y1_10 1) (iadd .i64 (iadd .i64 y1_10 1) r1))) fu 0) fun s2 =>
        lr s2 fun s2 =>
        F_impl_crosses_L1 fu k1_0 k1_1 n (iadd .i64 y1_10 1))))
    else
      some (.brk y1_10)
def F_impl_crosses (fu : Nat) (x0 : List Int) : Option (Bool) :=
  bd (F_impl_crosses_L1 fu x0 (llen x0) fu 0) fun s1 =>
  lr s1 fun s1 =>
  some false
theorem F_impl_crosses_w {fu : Nat} {H : AH} {v0 : Value} {x0 : List Int} {r : (Bool)} (hx0 : Sl H v0 (ints x0)) (hF : F_impl_crosses fu x0 = some r) :
    ACallT Try.prog 44 [v0] H (fun u G => AgB (Fr H) H G ∧ u = (Value.bool r) ∧ Sep G (Fr H) []) := by
 refine ACallT.of_body (nt := 52) (rs := [.tmp 2]) Try.func44 rfl rfl rfl rfl ?_;have A0 : AgB (Fr H) H H := .refl _ _;have S0 : Sep H (Fr H) [] := .nil;have hB := Fr.up H;unfold F_impl_crosses at hF;refine .sr fun K hK => ?_;simp [];apply hK;clear hK K;refine .seq ?_;have q1 := lenG (P := Try.prog) (hx0.agree A0.agree) el_25;refine .sr fun K hK => ?_;simp [q1];apply hK;clear hK K;refine .block ?_;obtain ⟨s2, hL3, hF⟩ := bd_some hF;have S4 := S0.pick [] (by decide) rfl;refine DWp.loop (fun n env G => ∃ y1_10 : Int, F_impl_crosses_L1 fu x0 (llen x0) n y1_10 = some s2 ∧ Sep G (Fr H) [] ∧ AgB (Fr H) H G ∧ env 0 = some v0 ∧ env 8 = some v0 ∧ env 9 = some (Value.int .i64 (llen x0)) ∧ env 10 = some (Value.int .i64 y1_10)) fu ⟨0, hL3, S4, A0, by simp []⟩ ?_;rintro n1 env1 G1_ ⟨y1_10, hL3, S1_, A1_, e1_⟩;cases n1 with
 | zero => cases hL3
 | succ n1 =>
  simp only [F_impl_crosses_L1] at hL3;refine .sr fun K hK => ?_;simp [e1_];apply hK;clear hK K;refine .seq ?_;refine DWp.cond' (t := (ilt y1_10 (llen x0))) (by simp [e1_]) (fun hb5 => ?_) (fun hb5 => ?_)
  ·replace hL3 := cd_t hb5 hL3;refine DWp.skip ?_;simp only [andThen, leaves];refine .seq ?_;refine .block ?_;obtain ⟨g6, hL3⟩ := gd_some hL3;have q7 := idxG (P := Try.prog) (kk := .i64) (hx0.agree A1_.agree) el_25 sz_3 g6;have q8 := loadG (P := Try.prog) (hx0.agree A1_.agree) sz_3 ag_3 g6 0;refine .sr fun K hK => ?_;simp [e1_, q7, q8];apply hK;clear hK K;obtain ⟨g9, hL3⟩ := gd_some hL3;have q10 := aSub10 (P := Try.prog) (t := 25) (hx0.agree A1_.agree) el_25 sz_3 g9;obtain ⟨r1, hc11, hL3⟩ := bd_some hL3;refine .sr fun K hK => ?_;simp [e1_, q10, ((subSl (hx0.agree A1_.agree) g9).tup)];refine CallD.t (F_slices_Index_Sint_w (fu := fu) (subSl (hx0.agree A1_.agree) g9) hc11) ?_;rintro _ G13 ⟨a16, rfl, S17⟩;have A15 := A1_.ext (hB.le A1_.1) a16.agree;have S14 : Sep G13 (Fr H) [] := S1_.app a16.agree S17 (fun _ h => h) (hB.le A1_.1);simp [e1_, q10, ((subSl (hx0.agree A1_.agree) g9).tup), a16.pre];apply hK;clear hK K;refine .seq ?_;refine .sr fun K hK => ?_;simp [e1_];apply hK;clear hK K;refine DWp.cond' (t := (ile (iadd .i64 (iadd .i64 y1_10 1) r1) y1_10)) (by simp [e1_]) (fun hb18 => ?_) (fun hb18 => ?_)
   ·replace hL3 := cd_t hb18 hL3;refine DWp.exit ?_;simp only [andThen, leaves, if_true, if_false, reduceIte, Nat.reduceEqDiff];refine .region fun K hK => ?_;simp [e1_];apply hK;clear hK K;simp only [andThen, leaves];have S19 := S14.pick [] (by decide) rfl;exact ⟨n1, Nat.lt_succ_self _, (iadd .i64 y1_10 1), hL3, S19, A15, by simp [e1_]⟩
   ·replace hL3 := cd_f hb18 hL3;refine DWp.skip ?_;simp only [andThen, leaves];obtain ⟨g20, hL3⟩ := gd_some hL3;have q21 := aSub11 (P := Try.prog) (t := 25) (hx0.agree A15.agree) el_25 sz_3 g20;have q22 := lenG (P := Try.prog) (subSl (hx0.agree A15.agree) g20) el_25;refine .sr fun K hK => ?_;simp [e1_, q21, ((subSl (hx0.agree A15.agree) g20).tup), q22];apply hK;clear hK K;refine .block ?_;obtain ⟨s23, hL24, hL3⟩ := bd_some hL3;have S25 := S14.pick [] (by decide) rfl;refine DWp.loop (fun n env G => ∃ y2_33 : Int, F_impl_crosses_L2 fu x0 y1_10 (iadd .i64 (iadd .i64 y1_10 1) r1) (llen x0) (lsub x0 (iadd .i64 y1_10 1) (iadd .i64 (iadd .i64 y1_10 1) r1)) (llen (lsub x0 (iadd .i64 y1_10 1) (iadd .i64 (iadd .i64 y1_10 1) r1))) n y2_33 = some s23 ∧ Sep G (Fr H) [] ∧ AgB (Fr H) H G ∧ env 0 = some v0 ∧ env 3 = some (Value.int .i64 y1_10) ∧ env 5 = some (Value.int .i64 (iadd .i64 (iadd .i64 y1_10 1) r1)) ∧ env 8 = some v0 ∧ env 9 = some (Value.int .i64 (llen x0)) ∧ env 10 = some (Value.int .i64 y1_10) ∧ env 31 = some (subV v0 (iadd .i64 y1_10 1) (iadd .i64 (iadd .i64 y1_10 1) r1)) ∧ env 32 = some (Value.int .i64 (llen (lsub x0 (iadd .i64 y1_10 1) (iadd .i64 (iadd .i64 y1_10 1) r1)))) ∧ env 33 = some (Value.int .i64 y2_33)) fu ⟨0, hL24, S25, A15, by simp [e1_]⟩ ?_;rintro n2 env2 G2_ ⟨y2_33, hL24, S2_, A2_, e2_⟩;cases n2 with
    | zero => cases hL24
    | succ n2 =>
     simp only [F_impl_crosses_L2] at hL24;refine .sr fun K hK => ?_;simp [e2_];apply hK;clear hK K;refine .seq ?_;refine DWp.cond' (t := (ilt y2_33 (llen (lsub x0 (iadd .i64 y1_10 1) (iadd .i64 (iadd .i64 y1_10 1) r1))))) (by simp [e2_]) (fun hb26 => ?_) (fun hb26 => ?_)
     ·replace hL24 := cd_t hb26 hL24;refine DWp.skip ?_;simp only [andThen, leaves];refine .seq ?_;refine .block ?_;obtain ⟨g27, hL24⟩ := gd_some hL24;have q28 := idxG (P := Try.prog) (kk := .i64) (subSl (hx0.agree A2_.agree) g20) el_25 sz_3 g27;have q29 := loadG (P := Try.prog) (subSl (hx0.agree A2_.agree) g20) sz_3 ag_3 g27 0;refine .sr fun K hK => ?_;simp [e2_, q28, q29];apply hK;clear hK K;obtain ⟨s30, hL31, hL24⟩ := bd_some hL24;refine DWp.seq (DWp.join (fun env G => Sep G (Fr H) [] ∧ AgB (Fr H) H G ∧ env 0 = some v0 ∧ env 3 = some (Value.int .i64 y1_10) ∧ env 5 = some (Value.int .i64 (iadd .i64 (iadd .i64 y1_10 1) r1)) ∧ env 8 = some v0 ∧ env 9 = some (Value.int .i64 (llen x0)) ∧ env 10 = some (Value.int .i64 y1_10) ∧ env 31 = some (subV v0 (iadd .i64 y1_10 1) (iadd .i64 (iadd .i64 y1_10 1) r1)) ∧ env 32 = some (Value.int .i64 (llen (lsub x0 (iadd .i64 y1_10 1) (iadd .i64 (iadd .i64 y1_10 1) r1)))) ∧ env 33 = some (Value.int .i64 y2_33) ∧ env 49 = some (Value.bool s30)) ?_ ?_)
      ·
       obtain ⟨g33, hL31⟩ := gd_some hL31;have q34 := aSub01 (P := Try.prog) (t := 25) (hx0.agree A2_.agree) el_25 sz_3 g33;obtain ⟨r2, hc35, hL31⟩ := bd_some hL31;refine .region fun K hK => ?_;simp [e2_, q34, ((subSl (hx0.agree A2_.agree) g33).tup)];refine CallD.t (F_slices_Contains_Sint_w (fu := fu) (subSl (hx0.agree A2_.agree) g33) hc35) ?_;rintro _ G37 ⟨a40, rfl, S41⟩;have A39 := A2_.ext (hB.le A2_.1) a40.agree;have S38 : Sep G37 (Fr H) [] := S2_.app a40.agree S41 (fun _ h => h) (hB.le A2_.1);rcases Bool.eq_false_or_eq_true r2 with hb42 | hb42
       ·replace hL31 := cd_t hb42 hL31;simp [e2_, hb42, q34, ((subSl (hx0.agree A2_.agree) g33).tup), a40.pre];apply hK;clear hK K;simp only [andThen, leaves];have S43 := S38.pick [] (by decide) rfl;obtain rfl := Option.some.inj hL31;exact ⟨S43, A39, by simp [e2_]⟩
       ·replace hL31 := cd_f hb42 hL31;obtain ⟨g44, hL31⟩ := gd_some hL31;have q45 := aSub10 (P := Try.prog) (t := 25) (hx0.agree A39.agree) el_25 sz_3 g44;obtain ⟨r3, hc46, hL31⟩ := bd_some hL31;simp [e2_, hb42, q34, ((subSl (hx0.agree A2_.agree) g33).tup), a40.pre, q45, ((subSl (hx0.agree A39.agree) g44).tup)];refine CallD.t (F_slices_Contains_Sint_w (fu := fu) (subSl (hx0.agree A39.agree) g44) hc46) ?_;rintro _ G48 ⟨a51, rfl, S52⟩;have A50 := A39.ext (hB.le A39.1) a51.agree;have S49 : Sep G48 (Fr H) [] := S38.app a51.agree S52 (fun _ h => h) (hB.le A39.1);simp [e2_, hb42, q34, ((subSl (hx0.agree A2_.agree) g33).tup), a40.pre, q45, ((subSl (hx0.agree A39.agree) g44).tup), a51.pre];apply hK;clear hK K;simp only [andThen, leaves];have S53 := S49.pick [] (by decide) rfl;obtain rfl := Option.some.inj hL31;exact ⟨S53, A50, by simp [e2_]⟩
      ·rintro env Gj54 ⟨Sj54, Aj54, ej54_⟩;refine DWp.cond' (t := s30) (by simp [ej54_]) (fun hb55 => ?_) (fun hb55 => ?_)
       ·replace hL24 := cd_t hb55 hL24;refine .sr fun K hK => ?_;simp [ej54_];apply hK;clear hK K;refine DWp.ret ?_;simp only [andThen, leaves];obtain rfl := Option.some.inj hL24;simp only [lr] at hL3;obtain rfl := Option.some.inj hL3;simp only [lr] at hF;obtain rfl := Option.some.inj hF;exact ⟨by simp, [(Value.bool true)], by simp [ej54_], Aj54, rfl, Sj54.pick [] (by decide) rfl⟩
       ·replace hL24 := cd_f hb55 hL24;refine DWp.skip ?_;simp only [andThen, leaves];refine .region fun K hK => ?_;simp [ej54_];apply hK;clear hK K;simp only [andThen, leaves];have S56 := Sj54.pick [] (by decide) rfl;exact ⟨n2, Nat.lt_succ_self _, (iadd .i64 y2_33 1), hL24, S56, Aj54, by simp [ej54_]⟩
     ·replace hL24 := cd_f hb26 hL24;refine DWp.exit ?_;simp only [andThen, leaves, if_true, if_false, reduceIte, Nat.reduceEqDiff];obtain rfl := Option.some.inj hL24;simp only [lr] at hL3;refine .region fun K hK => ?_;simp [e2_];apply hK;clear hK K;simp only [andThen, leaves];have S57 := S2_.pick [] (by decide) rfl;exact ⟨n1, Nat.lt_succ_self _, (iadd .i64 y1_10 1), hL3, S57, A2_, by simp [e2_]⟩
  ·replace hL3 := cd_f hb5 hL3;refine DWp.exit ?_;simp only [andThen, leaves, if_true, if_false, reduceIte, Nat.reduceEqDiff];obtain rfl := Option.some.inj hL3;simp only [lr] at hF;refine .sr fun K hK => ?_;simp [e1_];apply hK;clear hK K;refine DWp.ret ?_;obtain rfl := Option.some.inj hF;exact ⟨by simp, [(Value.bool false)], by simp [e1_], A1_, rfl, S1_.pick [] (by decide) rfl⟩
end Go.Proofs.Ytdbflchpbhkanaa.AL

/- The walks of functions, each with its Lean function: spec.DrawPiecesOf, impl.systemText, impl.meanderText, cmp.isNaN[string], cmp.Less[string], slices.insertionSortOrdered[string], slices.siftDownOrdered[string], slices.heapSortOrdered[string], slices.breakPatternsOrdered[string], slices.order2Ordered[string]. No condition. -/
import Derived.Test.YtbckijeffiofdaaG1
import Derived.Test.YtbckijeffiofdaaG10
import Derived.Test.YtbckijeffiofdaaG11
import Derived.Test.YtbckijeffiofdaaG12
import Derived.Test.YtbckijeffiofdaaG13
import Derived.Test.YtbckijeffiofdaaG14
import Derived.Test.YtbckijeffiofdaaG15
import Derived.Test.YtbckijeffiofdaaG16
import Derived.Test.YtbckijeffiofdaaG2
import Derived.Test.YtbckijeffiofdaaG3
import Derived.Test.YtbckijeffiofdaaG4
import Derived.Test.YtbckijeffiofdaaG5
import Derived.Test.YtbckijeffiofdaaG6
import Derived.Test.YtbckijeffiofdaaG7
import Derived.Test.YtbckijeffiofdaaG8
import Derived.Test.YtbckijeffiofdaaG9
import Derived.Test.YtbckijeffiofdaaALD
import Derived.Test.YtbckijeffiofdaaProg
import Derived.KernelRfl
namespace Go.Proofs.Ytbckijeffiofdaa.AL
open Go Go.RowKit
set_option linter.unusedVariables false
set_option linter.unusedSimpArgs false
set_option maxRecDepth 4096
attribute [local simp] n_fn b_add b_sub b_mul b_lt b_le b_gt b_ge b_eq b_ne u_not
theorem ag_9 : aggT Try.prog 9 = some false := by kernel_rfl
theorem ei_5 : einfo Try.prog 5 = some ⟨1, 1, .int .u8 0⟩ := by kernel_rfl
theorem el_59 : elemT Try.prog 59 = some 9 := by kernel_rfl
theorem sz_9 : sizeT Try.prog 9 = some 1 := by kernel_rfl
theorem us_64 : Try.prog.underlying 64 = some (.slice 5) := by kernel_rfl
def F_spec_DrawPiecesOf (fu : Nat) (x0 : List Int) : Option ((List Int × List Int)) :=
  bd (F_spec_DrawClosedStretches fu x0) fun r1 =>
  some (r1.1, r1.2)
theorem F_spec_DrawPiecesOf_w {fu : Nat} {H : AH} {v0 : Value} {x0 : List Int} {r : ((List Int × List Int))} (hx0 : Sl H v0 (u8s x0)) (hF : F_spec_DrawPiecesOf fu x0 = some r) :
    ACallT Try.prog 84 [v0] H (fun u G => AgB (Fr H) H G ∧ ∃ u0 : Value, ∃ u1 : Value, u = (Value.agg #[u0, u1]) ∧ Sep G (Fr H) [flat u0 3 (ints r.1), flat u1 3 (ints r.2)]) := by
 refine ACallT.of_body (nt := 5) (rs := [.cell 2 28]) Try.func84 rfl rfl rfl rfl ?_;have A0 : AgB (Fr H) H H := .refl _ _;have S0 : Sep H (Fr H) [] := .nil;have hB := Fr.up H;unfold F_spec_DrawPiecesOf at hF;obtain ⟨G2, p4, q5, q7, a6, S1⟩ := S0.allocT (P := Try.prog) (hB.le A0.1) ze_28 rfl;have A3 := A0.ext (hB.le A0.1) a6;replace S1 : Sep G2 (Fr H) [AL.box p4 [(Value.slice none 0 0), (Value.slice none 0 0)]] := S1;refine .sr fun K hK => ?_;simp [q5, q7, a6.to_pre];apply hK;clear hK K;obtain ⟨r1, hc8, hF⟩ := bd_some hF;refine .sr fun K hK => ?_;simp [((hx0.agree A3.agree).tup)];refine CallD.t (F_spec_DrawClosedStretches_w (fu := fu) (hx0.agree A3.agree) hc8) ?_;rintro _ G10 ⟨a13, c9_u0, c9_u1, rfl, S14⟩;have A12 := A3.ext (hB.le A3.1) a13.agree;have S11 : Sep G10 (Fr H) [AL.box p4 [(Value.slice none 0 0), (Value.slice none 0 0)], flat c9_u0 3 (ints r1.1), flat c9_u1 3 (ints r1.2)] := S1.app a13.agree S14 (fun _ h => h) (hB.le A3.1);obtain ⟨G15, q16, S17, a19⟩ := S11.putAgg (P := Try.prog) (k := 0) (xs := [c9_u0, c9_u1]) rfl (hB.le A12.1) sz_28 rfl rfl;have A18 := A12.trans a19;replace S17 : Sep G15 (Fr H) [AL.box p4 [c9_u0, c9_u1], flat c9_u0 3 (ints r1.1), flat c9_u1 3 (ints r1.2)] := S17;simp [a13.pre, q16];apply hK;clear hK K;refine DWp.ret ?_;have q20 := S17.loadAgg (P := Try.prog) (k := 0) rfl sz_28 ag_28 rfl;obtain rfl := Option.some.inj hF;exact ⟨by simp, [(Value.agg #[c9_u0, c9_u1])], by simp [q20, ((S17.sl (k := 1) rfl).tup), ((S17.sl (k := 2) rfl).tup)], A18, c9_u0, c9_u1, rfl, S17.pick [1, 2] (by decide) rfl⟩
def F_impl_systemText_L1 (fu : Nat) (k1_0 : List Int) (k1_1 : Int) : Nat → List Int → Int → Option (List Int × Int)
  | 0, _, _ => none
  | n + 1, l1_0, y1_9 =>
    bif (ilt y1_9 k1_1) then
      gd (inL k1_0 y1_9) (
      bif (ilt y1_9 (gat 0 k1_0 y1_9)) then
        gd (l1_0.length + [40].length ≤ 4294967296) (
        F_impl_systemText_L1 fu k1_0 k1_1 n (lapp l1_0 [40]) (iadd .i64 y1_9 1))
      else
        gd (l1_0.length + [41].length ≤ 4294967296) (
        F_impl_systemText_L1 fu k1_0 k1_1 n (lapp l1_0 [41]) (iadd .i64 y1_9 1)))
    else
      some (l1_0, y1_9)
def F_impl_systemText (fu : Nat) (x0 : List Int) : Option (ByteArray) :=
  bd (F_impl_systemText_L1 fu x0 (llen x0) fu (@List.nil Int) 0) fun s1 =>
  some (bstr s1.1)
theorem F_impl_systemText_w {fu : Nat} {H : AH} {v0 : Value} {x0 : List Int} {r : (ByteArray)} (hx0 : Sl H v0 (ints x0)) (hF : F_impl_systemText fu x0 = some r) :
    ACallT Try.prog 147 [v0] H (fun u G => AgB (Fr H) H G ∧ u = (Value.string r) ∧ Sep G (Fr H) []) := by
 refine ACallT.of_body (nt := 26) (rs := [.tmp 2]) Try.func147 rfl rfl rfl rfl ?_;have A0 : AgB (Fr H) H H := .refl _ _;have S0 : Sep H (Fr H) [] := .nil;have hB := Fr.up H;unfold F_impl_systemText at hF;refine .sr fun K hK => ?_;simp [];apply hK;clear hK K;obtain ⟨v1, G2, q3, S4, a6, _, _⟩ := S0.lit0 (P := Try.prog) (t := 64) (hB.le A0.1) el_64 ei_5 rfl;have A5 := A0.ext (hB.le A0.1) a6;replace S4 : Sep G2 (Fr H) [flat1 v1 5 (u8s (@List.nil Int))] := S4;refine .sr fun K hK => ?_;simp [q3, a6.to_pre];apply hK;clear hK K;refine .seq ?_;have q8 := lenG (P := Try.prog) (hx0.agree A5.agree) el_22;refine .sr fun K hK => ?_;simp [q8];apply hK;clear hK K;refine .block ?_;obtain ⟨s9, hL10, hF⟩ := bd_some hF;have S11 := S4.pick [0] (by decide) rfl;have S12 := S11.weak (k := 0) rfl;refine DWp.loop (fun n env G => ∃ l1_0 : List Int, ∃ y1_9 : Int, ∃ w1_0 : Value, F_impl_systemText_L1 fu x0 (llen x0) n l1_0 y1_9 = some s9 ∧ Sep G (Fr H) [flat w1_0 5 (u8s l1_0)] ∧ AgB (Fr H) H G ∧ env 3 = some w1_0 ∧ env 7 = some v0 ∧ env 8 = some (Value.int .i64 (llen x0)) ∧ env 9 = some (Value.int .i64 y1_9)) fu ⟨(@List.nil Int), 0, v1, hL10, S12, A5, by simp []⟩ ?_;rintro n1 env1 G1_ ⟨l1_0, y1_9, w1_0, hL10, S1_, A1_, e1_3, e1_7, e1_8, e1_9⟩;cases n1 with
 | zero => cases hL10
 | succ n1 =>
  simp only [F_impl_systemText_L1] at hL10;refine .sr fun K hK => ?_;simp [e1_3, e1_7, e1_8, e1_9];apply hK;clear hK K;refine .seq ?_;refine DWp.cond' (t := (ilt y1_9 (llen x0))) (by simp [e1_3, e1_7, e1_8, e1_9]) (fun hb13 => ?_) (fun hb13 => ?_)
  ·replace hL10 := cd_t hb13 hL10;refine DWp.skip ?_;simp only [andThen, leaves];refine .seq ?_;refine .block ?_;obtain ⟨g14, hL10⟩ := gd_some hL10;have q15 := idxG (P := Try.prog) (kk := .i64) (hx0.agree A1_.agree) el_22 sz_3 g14;have q16 := loadG (P := Try.prog) (hx0.agree A1_.agree) sz_3 ag_3 g14 0;refine .sr fun K hK => ?_;simp [e1_3, e1_7, e1_8, e1_9, q15, q16];apply hK;clear hK K;refine .sr fun K hK => ?_;simp [e1_3, e1_7, e1_8, e1_9];apply hK;clear hK K;refine DWp.cond' (t := (ilt y1_9 (gat 0 x0 y1_9))) (by simp [e1_3, e1_7, e1_8, e1_9]) (fun hb17 => ?_) (fun hb17 => ?_)
   ·replace hL10 := cd_t hb17 hL10;obtain ⟨v18, G19, q20, S21, a23, _, _⟩ := S1_.lit1 (P := Try.prog) (t := 64) (hB.le A1_.1) el_64 ei_5 rfl (Value.int .u8 40) rfl rfl;have A22 := A1_.ext (hB.le A1_.1) a23;replace S21 : Sep G19 (Fr H) [flat w1_0 5 (u8s l1_0), flat1 v18 5 (u8s [40])] := S21;obtain ⟨g25, hL10⟩ := gd_some hL10;obtain ⟨v31, G26, q27, S28, a30, _, _⟩ := S21.appendG (f := (Value.int .u8)) (xs := l1_0) (ys := [40]) (P := Try.prog) (t := 64) (t2 := 64) (k := 0) rfl (hB.le A22.1) el_64 el_64 ei_5 rfl (S21.sl1 (k := 1) rfl) g25;have A29 := A22.trans a30;replace S28 : Sep G26 (Fr H) [flat v31 5 (u8s (lapp l1_0 [40])), flat1 v18 5 (u8s [40])] := S28;refine .region fun K hK => ?_;simp [e1_3, e1_7, e1_8, e1_9, q20, a23.to_pre, q27];apply hK;clear hK K;simp only [andThen, leaves];refine .region fun K hK => ?_;simp [e1_3, e1_7, e1_8, e1_9];apply hK;clear hK K;simp only [andThen, leaves];have S32 := S28.pick [0] (by decide) rfl;exact ⟨n1, Nat.lt_succ_self _, (lapp l1_0 [40]), (iadd .i64 y1_9 1), v31, hL10, S32, A29, by simp [e1_3, e1_7, e1_8, e1_9]⟩
   ·replace hL10 := cd_f hb17 hL10;obtain ⟨v33, G34, q35, S36, a38, _, _⟩ := S1_.lit1 (P := Try.prog) (t := 64) (hB.le A1_.1) el_64 ei_5 rfl (Value.int .u8 41) rfl rfl;have A37 := A1_.ext (hB.le A1_.1) a38;replace S36 : Sep G34 (Fr H) [flat w1_0 5 (u8s l1_0), flat1 v33 5 (u8s [41])] := S36;obtain ⟨g40, hL10⟩ := gd_some hL10;obtain ⟨v46, G41, q42, S43, a45, _, _⟩ := S36.appendG (f := (Value.int .u8)) (xs := l1_0) (ys := [41]) (P := Try.prog) (t := 64) (t2 := 64) (k := 0) rfl (hB.le A37.1) el_64 el_64 ei_5 rfl (S36.sl1 (k := 1) rfl) g40;have A44 := A37.trans a45;replace S43 : Sep G41 (Fr H) [flat v46 5 (u8s (lapp l1_0 [41])), flat1 v33 5 (u8s [41])] := S43;refine .region fun K hK => ?_;simp [e1_3, e1_7, e1_8, e1_9, q35, a38.to_pre, q42];apply hK;clear hK K;simp only [andThen, leaves];refine .region fun K hK => ?_;simp [e1_3, e1_7, e1_8, e1_9];apply hK;clear hK K;simp only [andThen, leaves];have S47 := S43.pick [0] (by decide) rfl;exact ⟨n1, Nat.lt_succ_self _, (lapp l1_0 [41]), (iadd .i64 y1_9 1), v46, hL10, S47, A44, by simp [e1_3, e1_7, e1_8, e1_9]⟩
  ·replace hL10 := cd_f hb13 hL10;refine DWp.exit ?_;simp only [andThen, leaves, if_true, if_false, reduceIte, Nat.reduceEqDiff];obtain rfl := Option.some.inj hL10;try dsimp only at hF
   have q48 := c_bytes (P := Try.prog) us_64 un_5 un_9 (S1_.sl (k := 0) rfl);refine .sr fun K hK => ?_;simp [e1_3, e1_7, e1_8, e1_9, q48];apply hK;clear hK K;refine DWp.ret ?_;obtain rfl := Option.some.inj hF;exact ⟨by simp, [(Value.string (bstr l1_0))], by simp [e1_3, e1_7, e1_8, e1_9], A1_, rfl, S1_.pick [] (by decide) rfl⟩
def F_impl_meanderText (fu : Nat) (x0_0 : List Int) (x0_1 : List Int) : Option (ByteArray) :=
  bd (F_impl_systemText fu x0_0) fun r1 =>
  gd (r1.size + (ByteArray.mk #[124]).size ≤ 9223372036854775807) (
  bd (F_impl_systemText fu x0_1) fun r2 =>
  gd ((sapp r1 (ByteArray.mk #[124])).size + r2.size ≤ 9223372036854775807) (
  some (sapp (sapp r1 (ByteArray.mk #[124])) r2)))
theorem F_impl_meanderText_w {fu : Nat} {H : AH} {v0_0 : Value} {v0_1 : Value} {x0_0 : List Int} {x0_1 : List Int} {r : (ByteArray)} (hx0_0 : Sl H v0_0 (ints x0_0)) (hx0_1 : Sl H v0_1 (ints x0_1)) (hF : F_impl_meanderText fu x0_0 x0_1 = some r) :
    ACallT Try.prog 121 [(Value.agg #[v0_0, v0_1])] H (fun u G => AgB (Fr H) H G ∧ u = (Value.string r) ∧ Sep G (Fr H) []) := by
 refine ACallT.of_body (nt := 11) (rs := [.tmp 2]) Try.func121 rfl rfl rfl rfl ?_;have A0 : AgB (Fr H) H H := .refl _ _;have S0 : Sep H (Fr H) [] := .nil;have hB := Fr.up H;unfold F_impl_meanderText at hF;obtain ⟨G2, p4, q5, q6, a7, S1⟩ := S0.boxT (hB.le A0.1) 28 [v0_0, v0_1];have A3 := A0.ext (hB.le A0.1) a7;replace S1 : Sep G2 (Fr H) [AL.box p4 [v0_0, v0_1]] := S1;refine .sr fun K hK => ?_;simp [q5, q6, a7.to_pre, cells_agg];apply hK;clear hK K;have q8 := S1.fieldT (P := Try.prog) (k := 0) rfl fa_28_0;have q9 := S1.loadF (P := Try.prog) (k := 0) rfl sz_22 ag_22 (off := 0) rfl;obtain ⟨r1, hc10, hF⟩ := bd_some hF;refine .sd (B := [0, 1, 3, 7, 0, 16, 55, 127, 255]) 9 mixed (by kernel_rfl) (by decide) fun K hK => ?_;simp [q8, q9, ((hx0_0.agree A3.agree).tup)];refine CallD.t (F_impl_systemText_w (fu := fu) (hx0_0.agree A3.agree) hc10) ?_;rintro _ G12 ⟨a15, rfl, S16⟩;have A14 := A3.ext (hB.le A3.1) a15.agree;have S13 : Sep G12 (Fr H) [AL.box p4 [v0_0, v0_1]] := S1.app a15.agree S16 (fun _ h => h) (hB.le A3.1);obtain ⟨g17, hF⟩ := gd_some hF;have q18 := S13.fieldT (P := Try.prog) (k := 0) rfl fa_28_1;have q19 := S13.loadF (P := Try.prog) (k := 0) rfl sz_22 ag_22 (off := 1) rfl;obtain ⟨r2, hc20, hF⟩ := bd_some hF;simp [q8, q9, a15.pre, s_add g17, q18, q19, ((hx0_1.agree A14.agree).tup)];refine CallD.t (F_impl_systemText_w (fu := fu) (hx0_1.agree A14.agree) hc20) ?_;rintro _ G22 ⟨a25, rfl, S26⟩;have A24 := A14.ext (hB.le A14.1) a25.agree;have S23 : Sep G22 (Fr H) [AL.box p4 [v0_0, v0_1]] := S13.app a25.agree S26 (fun _ h => h) (hB.le A14.1);obtain ⟨g27, hF⟩ := gd_some hF;simp [q8, q9, a15.pre, s_add g17, q18, q19, a25.pre, s_add g27];apply hK;clear hK K;refine DWp.ret ?_;obtain rfl := Option.some.inj hF
 exact ⟨by simp, [(Value.string (sapp (sapp r1 (ByteArray.mk #[124])) r2))], by simp [], A24, rfl, S23.pick [] (by decide) rfl⟩
def F_cmp_isNaN_string (fu : Nat) (x0 : ByteArray) : Option (Bool) :=
  some (sne' x0 x0)
theorem F_cmp_isNaN_string_w {fu : Nat} {H : AH}  {x0 : ByteArray} {r : (Bool)}  (hF : F_cmp_isNaN_string fu x0 = some r) :
    ACallT Try.prog 186 [(Value.string x0)] H (fun u G => AgB (Fr H) H G ∧ u = (Value.bool r) ∧ Sep G (Fr H) []) := by
 refine ACallT.of_body (nt := 6) (rs := [.tmp 2]) Try.func186 rfl rfl rfl rfl ?_;have A0 : AgB (Fr H) H H := .refl _ _;have S0 : Sep H (Fr H) [] := .nil;have hB := Fr.up H;unfold F_cmp_isNaN_string at hF;refine .sr fun K hK => ?_;simp [];apply hK;clear hK K;refine .sr fun K hK => ?_;simp [s_ne];apply hK;clear hK K;refine DWp.ret ?_;obtain rfl := Option.some.inj hF;exact ⟨by simp, [(Value.bool (sne' x0 x0))], by simp [], A0, rfl, S0.pick [] (by decide) rfl⟩
def F_cmp_Less_string (fu : Nat) (x0 : ByteArray) (x1 : ByteArray) : Option (Bool) :=
  bd (F_cmp_isNaN_string fu x0) fun r1 =>
  bif r1 then
    bd (F_cmp_isNaN_string fu x1) fun r2 =>
    bif (bnot r2) then
      some true
    else
      some (slt' x0 x1)
  else
    some (slt' x0 x1)
theorem F_cmp_Less_string_w {fu : Nat} {H : AH}  {x0 : ByteArray} {x1 : ByteArray} {r : (Bool)}  (hF : F_cmp_Less_string fu x0 x1 = some r) :
    ACallT Try.prog 171 [(Value.string x0), (Value.string x1)] H (fun u G => AgB (Fr H) H G ∧ u = (Value.bool r) ∧ Sep G (Fr H) []) := by
 refine ACallT.of_body (nt := 17) (rs := [.tmp 4]) Try.func171 rfl rfl rfl rfl ?_;have A0 : AgB (Fr H) H H := .refl _ _;have S0 : Sep H (Fr H) [] := .nil;have hB := Fr.up H;unfold F_cmp_Less_string at hF;refine .sr fun K hK => ?_;simp [];apply hK;clear hK K;obtain ⟨r1, hc1, hF⟩ := bd_some hF;refine .sr fun K hK => ?_;simp [];refine CallD.t (F_cmp_isNaN_string_w (fu := fu)  hc1) ?_;rintro _ G3 ⟨a6, rfl, S7⟩;have A5 := A0.ext (hB.le A0.1) a6.agree;have S4 : Sep G3 (Fr H) [] := S0.app a6.agree S7 (fun _ h => h) (hB.le A0.1);rcases Bool.eq_false_or_eq_true r1 with hb8 | hb8
 ·replace hF := cd_t hb8 hF;obtain ⟨r2, hc9, hF⟩ := bd_some hF;simp [hb8, a6.pre];refine CallD.t (F_cmp_isNaN_string_w (fu := fu)  hc9) ?_;rintro _ G11 ⟨a14, rfl, S15⟩;have A13 := A5.ext (hB.le A5.1) a14.agree;have S12 : Sep G11 (Fr H) [] := S4.app a14.agree S15 (fun _ h => h) (hB.le A5.1);rcases Bool.eq_false_or_eq_true (bnot r2) with hb16 | hb16
  ·replace hF := cd_t hb16 hF;simp [hb8, hb16, a6.pre, a14.pre];apply hK;clear hK K;refine DWp.ret ?_;obtain rfl := Option.some.inj hF;exact ⟨by simp, [(Value.bool true)], by simp [], A13, rfl, S12.pick [] (by decide) rfl⟩
  ·replace hF := cd_f hb16 hF;simp [hb8, hb16, a6.pre, a14.pre, s_lt];apply hK;clear hK K;refine DWp.ret ?_;obtain rfl := Option.some.inj hF;exact ⟨by simp, [(Value.bool (slt' x0 x1))], by simp [], A13, rfl, S12.pick [] (by decide) rfl⟩
 ·replace hF := cd_f hb8 hF;simp [hb8, a6.pre, s_lt];apply hK;clear hK K;refine DWp.ret ?_;obtain rfl := Option.some.inj hF;exact ⟨by simp, [(Value.bool (slt' x0 x1))], by simp [], A5, rfl, S4.pick [] (by decide) rfl⟩
def F_slices_insertionSortOrdered_string_L2 (fu : Nat) (k2_0 : Int) (k2_1 : Int) (k2_2 : Int) : Nat → List ByteArray → Int → Option (List ByteArray × Int)
  | 0, _, _ => none
  | n + 1, l2_0, y2_7 =>
    bd (
      bif (ilt k2_0 y2_7) then
        gd (inL l2_0 y2_7) (
        gd (inL l2_0 (isub .i64 y2_7 1)) (
        bd (F_cmp_Less_string fu (gat (ByteArray.mk #[]) l2_0 y2_7) (gat (ByteArray.mk #[]) l2_0 (isub .i64 y2_7 1))) fun r1 =>
        some r1))
      else
        some false) fun s8 =>
    bif s8 then
      gd (inL l2_0 (isub .i64 y2_7 1)) (
      gd (inL l2_0 y2_7) (
      gd (inL l2_0 y2_7) (
      gd (inL (lset l2_0 y2_7 (gat (ByteArray.mk #[]) l2_0 (isub .i64 y2_7 1))) (isub .i64 y2_7 1)) (
      F_slices_insertionSortOrdered_string_L2 fu k2_0 k2_1 k2_2 n (lset (lset l2_0 y2_7 (gat (ByteArray.mk #[]) l2_0 (isub .i64 y2_7 1))) (isub .i64 y2_7 1) (gat (ByteArray.mk #[]) l2_0 y2_7)) (isub .i64 y2_7 1)))))
    else
      some (l2_0, y2_7)
def F_slices_insertionSortOrdered_string_L1 (fu : Nat) (k1_0 : Int) (k1_1 : Int) : Nat → List ByteArray → Int → Option (List ByteArray × Int)
  | 0, _, _ => none
  | n + 1, l1_0, y1_6 =>
    bif (ilt y1_6 k1_1) then
      bd (F_slices_insertionSortOrdered_string_L2 fu k1_0 k1_1 y1_6 fu l1_0 y1_6) fun s2 =>
      F_slices_insertionSortOrdered_string_L1 fu k1_0 k1_1 n s2.1 (iadd .i64 y1_6 1)
    else
      some (l1_0, y1_6)
def F_slices_insertionSortOrdered_string (fu : Nat) (x0 : List ByteArray) (x1 : Int) (x2 : Int) : Option (List ByteArray) :=
  bd (F_slices_insertionSortOrdered_string_L1 fu x1 x2 fu x0 (iadd .i64 x1 1)) fun s1 =>
  some s1.1
theorem F_slices_insertionSortOrdered_string_w {fu : Nat} {H : AH} {B : Nat → Prop} {v0 : Value} {x0 : List ByteArray} {x1 : Int} {x2 : Int} {r : (List ByteArray)} (hB : Up B H.length) (S0 : Sep H B [flat v0 9 (strs x0)]) (hF : F_slices_insertionSortOrdered_string fu x0 x1 x2 = some r) :
    ACallT Try.prog 165 [v0, (Value.int .i64 x1), (Value.int .i64 x2)] H (fun u G => AgB B H G ∧ u = (Value.tuple #[]) ∧ Sep G B [flat v0 9 (strs r)]) := by
 refine ACallT.of_body (nt := 49) (rs := []) Try.func165 rfl rfl rfl rfl ?_;have A0 : AgB B H H := .refl _ _;unfold F_slices_insertionSortOrdered_string at hF;refine .sr fun K hK => ?_;simp [];apply hK;clear hK K;refine .block ?_;obtain ⟨s1, hL2, hF⟩ := bd_some hF;have S3 := S0.pick [0] (by decide) rfl;refine DWp.loop (fun n env G => ∃ l1_0 : List ByteArray, ∃ y1_6 : Int, F_slices_insertionSortOrdered_string_L1 fu x1 x2 n l1_0 y1_6 = some s1 ∧ Sep G B [flat v0 9 (strs l1_0)] ∧ AgB B H G ∧ env 0 = some v0 ∧ env 1 = some (Value.int .i64 x1) ∧ env 2 = some (Value.int .i64 x2) ∧ env 6 = some (Value.int .i64 y1_6)) fu ⟨x0, (iadd .i64 x1 1), hL2, S3, A0, by simp []⟩ ?_;rintro n1 env1 G1_ ⟨l1_0, y1_6, hL2, S1_, A1_, e1_0, e1_1, e1_2, e1_6⟩;cases n1 with
 | zero => cases hL2
 | succ n1 =>
  simp only [F_slices_insertionSortOrdered_string_L1] at hL2;refine .seq ?_;refine .sr fun K hK => ?_;simp [e1_0, e1_1, e1_2, e1_6];apply hK;clear hK K;refine DWp.cond' (t := (ilt y1_6 x2)) (by simp [e1_0, e1_1, e1_2, e1_6]) (fun hb4 => ?_) (fun hb4 => ?_)
  ·replace hL2 := cd_t hb4 hL2;refine DWp.skip ?_;simp only [andThen, leaves];refine .seq ?_;refine .block ?_;refine .sr fun K hK => ?_;simp [e1_0, e1_1, e1_2, e1_6];apply hK;clear hK K;refine .block ?_;obtain ⟨s5, hL6, hL2⟩ := bd_some hL2;have S7 := S1_.pick [0] (by decide) rfl;refine DWp.loop (fun n env G => ∃ l2_0 : List ByteArray, ∃ y2_7 : Int, F_slices_insertionSortOrdered_string_L2 fu x1 x2 y1_6 n l2_0 y2_7 = some s5 ∧ Sep G B [flat v0 9 (strs l2_0)] ∧ AgB B H G ∧ env 0 = some v0 ∧ env 1 = some (Value.int .i64 x1) ∧ env 2 = some (Value.int .i64 x2) ∧ env 6 = some (Value.int .i64 y1_6) ∧ env 7 = some (Value.int .i64 y2_7)) fu ⟨l1_0, y1_6, hL6, S7, A1_, by simp [e1_0, e1_1, e1_2, e1_6]⟩ ?_;rintro n2 env2 G2_ ⟨l2_0, y2_7, hL6, S2_, A2_, e2_0, e2_1, e2_2, e2_6, e2_7⟩;cases n2 with
   | zero => cases hL6
   | succ n2 =>
    simp only [F_slices_insertionSortOrdered_string_L2] at hL6;refine .seq ?_;obtain ⟨s8, hL9, hL6⟩ := bd_some hL6;refine DWp.seq (DWp.join (fun env G => Sep G B [flat v0 9 (strs l2_0)] ∧ AgB B H G ∧ env 0 = some v0 ∧ env 1 = some (Value.int .i64 x1) ∧ env 2 = some (Value.int .i64 x2) ∧ env 6 = some (Value.int .i64 y1_6) ∧ env 7 = some (Value.int .i64 y2_7) ∧ env 30 = some (Value.bool s8)) ?_ ?_)
    ·
     rcases Bool.eq_false_or_eq_true (ilt x1 y2_7) with hb11 | hb11
     ·replace hL9 := cd_t hb11 hL9;obtain ⟨g12, hL9⟩ := gd_some hL9;have q13 := idxG (P := Try.prog) (kk := .i64) (S2_.sl (k := 0) rfl) el_59 sz_9 g12;have q14 := loadG (P := Try.prog) (S2_.sl (k := 0) rfl) sz_9 ag_9 g12 (ByteArray.mk #[]);obtain ⟨g15, hL9⟩ := gd_some hL9;have q16 := idxG (P := Try.prog) (kk := .i64) (S2_.sl (k := 0) rfl) el_59 sz_9 g15;have q17 := loadG (P := Try.prog) (S2_.sl (k := 0) rfl) sz_9 ag_9 g15 (ByteArray.mk #[]);obtain ⟨r1, hc18, hL9⟩ := bd_some hL9;refine .drawn (B := [0, 0, 3, 7, 15, 15, 63, 127, 15, 15, 527, 1807, 3855, 8191, 16383]) 15 mixed (by kernel_rfl) (by decide) fun K hK => ?_;simp [e2_0, e2_1, e2_2, e2_6, e2_7, hb11, q13, q14, q16, q17];refine CallD.t (F_cmp_Less_string_w (fu := fu)  hc18) ?_;rintro _ G20 ⟨a23, rfl, S24⟩;have A22 := A2_.ext (hB.le A2_.1) a23.agree;have S21 : Sep G20 B [flat v0 9 (strs l2_0)] := S2_.app a23.agree S24 (fun _ h => h) (hB.le A2_.1);simp [e2_0, e2_1, e2_2, e2_6, e2_7, hb11, q13, q14, q16, q17, a23.pre];apply hK;clear hK K;simp only [andThen, leaves];have S25 := S21.pick [0] (by decide) rfl;obtain rfl := Option.some.inj hL9;exact ⟨S25, A22, by simp [e2_0, e2_1, e2_2, e2_6, e2_7]⟩
     ·replace hL9 := cd_f hb11 hL9;refine .drawn (B := [0, 0, 3, 7, 15, 15, 63, 127, 15, 15, 527, 1807, 3855, 8191, 16383]) 15 mixed (by kernel_rfl) (by decide) fun K hK => ?_;simp [e2_0, e2_1, e2_2, e2_6, e2_7, hb11];apply hK;clear hK K;simp only [andThen, leaves];have S26 := S2_.pick [0] (by decide) rfl;obtain rfl := Option.some.inj hL9;exact ⟨S26, A2_, by simp [e2_0, e2_1, e2_2, e2_6, e2_7]⟩
    ·rintro env Gj27 ⟨Sj27, Aj27, ej27_0, ej27_1, ej27_2, ej27_6, ej27_7, ej27_30⟩;refine DWp.cond' (t := s8) (by simp [ej27_0, ej27_1, ej27_2, ej27_6, ej27_7, ej27_30]) (fun hb28 => ?_) (fun hb28 => ?_)
     ·replace hL6 := cd_t hb28 hL6;refine DWp.skip ?_;simp only [andThen, leaves];refine .seq ?_;refine .block ?_;obtain ⟨g29, hL6⟩ := gd_some hL6;have q30 := idxG (P := Try.prog) (kk := .i64) (Sj27.sl (k := 0) rfl) el_59 sz_9 g29;have q31 := loadG (P := Try.prog) (Sj27.sl (k := 0) rfl) sz_9 ag_9 g29 (ByteArray.mk #[]);obtain ⟨g32, hL6⟩ := gd_some hL6;have q33 := idxG (P := Try.prog) (kk := .i64) (Sj27.sl (k := 0) rfl) el_59 sz_9 g32;have q34 := loadG (P := Try.prog) (Sj27.sl (k := 0) rfl) sz_9 ag_9 g32 (ByteArray.mk #[]);obtain ⟨g35, hL6⟩ := gd_some hL6;have q36 := idxG (P := Try.prog) (kk := .i64) (Sj27.sl (k := 0) rfl) el_59 sz_9 g35;obtain ⟨G37, q38, S39, a41⟩ := Sj27.storeG (f := Value.string) (P := Try.prog) (k := 0) (x := (gat (ByteArray.mk #[]) l2_0 (isub .i64 y2_7 1))) rfl (hB.le Aj27.1) sz_9 g35 rfl rfl;have A40 := Aj27.trans a41;replace S39 : Sep G37 B [flat v0 9 (strs (lset l2_0 y2_7 (gat (ByteArray.mk #[]) l2_0 (isub .i64 y2_7 1))))] := S39;obtain ⟨g42, hL6⟩ := gd_some hL6;have q43 := idxG (P := Try.prog) (kk := .i64) (S39.sl (k := 0) rfl) el_59 sz_9 g42;obtain ⟨G44, q45, S46, a48⟩ := S39.storeG (f := Value.string) (P := Try.prog) (k := 0) (x := (gat (ByteArray.mk #[]) l2_0 y2_7)) rfl (hB.le A40.1) sz_9 g42 rfl rfl;have A47 := A40.trans a48;replace S46 : Sep G44 B [flat v0 9 (strs (lset (lset l2_0 y2_7 (gat (ByteArray.mk #[]) l2_0 (isub .i64 y2_7 1))) (isub .i64 y2_7 1) (gat (ByteArray.mk #[]) l2_0 y2_7)))] := S46;refine .drawn (B := [0, 0, 0, 0, 8, 0, 0, 64, 224, 480, 0, 0, 3072, 7168, 16355, 32739, 65535, 131071]) 15 mixed (by kernel_rfl) (by decide) fun K hK => ?_;simp [ej27_0, ej27_1, ej27_2, ej27_6, ej27_7, ej27_30, q30, q31, q33, q34, q36, q38, q43, q45];apply hK;clear hK K;simp only [andThen, leaves];refine .region fun K hK => ?_
      simp [ej27_0, ej27_1, ej27_2, ej27_6, ej27_7, ej27_30];apply hK;clear hK K;simp only [andThen, leaves];have S49 := S46.pick [0] (by decide) rfl;exact ⟨n2, Nat.lt_succ_self _, (lset (lset l2_0 y2_7 (gat (ByteArray.mk #[]) l2_0 (isub .i64 y2_7 1))) (isub .i64 y2_7 1) (gat (ByteArray.mk #[]) l2_0 y2_7)), (isub .i64 y2_7 1), hL6, S49, A47, by simp [ej27_0, ej27_1, ej27_2, ej27_6, ej27_7, ej27_30]⟩
     ·replace hL6 := cd_f hb28 hL6;refine DWp.exit ?_;simp only [andThen, leaves, if_true, if_false, reduceIte, Nat.reduceEqDiff];obtain rfl := Option.some.inj hL6;try dsimp only at hL2
      refine .region fun K hK => ?_;simp [ej27_0, ej27_1, ej27_2, ej27_6, ej27_7, ej27_30];apply hK;clear hK K;simp only [andThen, leaves];have S50 := Sj27.pick [0] (by decide) rfl;exact ⟨n1, Nat.lt_succ_self _, l2_0, (iadd .i64 y1_6 1), hL2, S50, Aj27, by simp [ej27_0, ej27_1, ej27_2, ej27_6, ej27_7, ej27_30]⟩
  ·replace hL2 := cd_f hb4 hL2;refine DWp.exit ?_;simp only [andThen, leaves, if_true, if_false, reduceIte, Nat.reduceEqDiff];obtain rfl := Option.some.inj hL2;try dsimp only at hF
   obtain rfl := Option.some.inj hF;exact ⟨by simp, [], by simp [e1_0, e1_1, e1_2, e1_6], A1_, rfl, S1_.pick [0] (by decide) rfl⟩
end Go.Proofs.Ytbckijeffiofdaa.AL

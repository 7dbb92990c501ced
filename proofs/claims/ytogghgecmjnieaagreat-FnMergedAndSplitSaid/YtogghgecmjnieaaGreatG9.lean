/- The walks of functions, each with its Lean function: impl.IsPair, bits.Mul32, bits.Mul64, bits.Mul, slices.Repeat[[]int,int], impl.Meander).way, impl.Meander).curves, impl.Meander).components, impl.distance, impl.ExchangeDistance. No condition. -/
import Derived.Test.YtogghgecmjnieaaGreatG1
import Derived.Test.YtogghgecmjnieaaGreatG2
import Derived.Test.YtogghgecmjnieaaGreatG3
import Derived.Test.YtogghgecmjnieaaGreatG4
import Derived.Test.YtogghgecmjnieaaGreatG5
import Derived.Test.YtogghgecmjnieaaGreatG6
import Derived.Test.YtogghgecmjnieaaGreatG7
import Derived.Test.YtogghgecmjnieaaGreatG8
import Derived.Test.YtogghgecmjnieaaGreatALD
import Derived.Test.YtogghgecmjnieaaGreatProg
import Derived.KernelRfl
namespace Go.Proofs.YtogghgecmjnieaaGreat.AL
open Go Go.RowKit
set_option linter.unusedVariables false
set_option linter.unusedSimpArgs false
set_option maxRecDepth 4096
attribute [local simp] n_fn b_add b_sub b_mul b_lt b_le b_gt b_ge b_eq b_ne u_not
theorem ag_43 : aggT Tryz.prog 43 = some true := by kernel_rfl
theorem fa_43_0 : fldT Tryz.prog 43 0 = some 0 := by kernel_rfl
theorem fa_43_1 : fldT Tryz.prog 43 1 = some 1 := by kernel_rfl
theorem pl_43 : placeT Tryz.prog 43 = some (.agg #[.slice none 0 0, .slice none 0 0], fun i => [(0, 1), (1, 1)].toArray[i]?) := by kernel_rfl
theorem sz_43 : sizeT Tryz.prog 43 = some 2 := by kernel_rfl
theorem bu_43 {a0 a1 : Value} (t0 : isTup a0 = false) (c0 : a0.cells = #[a0]) (t1 : isTup a1 = false) (c1 : a1.cells = #[a1]) : aBuild Tryz.prog 43 [(0, a0), (1, a1)] = some (.agg #[a0, a1]) := buildT2 pl_43 rfl rfl t0 c0 t1 c1
def F_impl_IsPair (fu : Nat) (x0_0 : List Int) (x0_1 : List Int) : Option (Bool) :=
  bd (F_impl_IsSystem fu x0_0) fun r1 =>
  bif r1 then
    bd (F_impl_IsSystem fu x0_1) fun r2 =>
    bif r2 then
      some (ieq (llen x0_0) (llen x0_1))
    else
      some false
  else
    some false
theorem F_impl_IsPair_w {fu : Nat} {H : AH} {v0_0 : Value} {v0_1 : Value} {x0_0 : List Int} {x0_1 : List Int} {r : (Bool)} (hx0_0 : Sl H v0_0 (ints x0_0)) (hx0_1 : Sl H v0_1 (ints x0_1)) (hF : F_impl_IsPair fu x0_0 x0_1 = some r) :
    ACallT Tryz.prog 65 [(Value.agg #[v0_0, v0_1])] H (fun u G => AgB (Fr H) H G ∧ u = (Value.bool r) ∧ Sep G (Fr H) []) := by
 refine ACallT.of_body (nt := 20) (rs := [.tmp 2]) Tryz.func65 rfl rfl rfl rfl ?_;have A0 : AgB (Fr H) H H := .refl _ _;have S0 : Sep H (Fr H) [] := .nil;have hB := Fr.up H;unfold F_impl_IsPair at hF;obtain ⟨G2, p4, q5, q6, a7, S1⟩ := S0.boxT (hB.le A0.1) 43 [v0_0, v0_1];have A3 := A0.ext (hB.le A0.1) a7;replace S1 : Sep G2 (Fr H) [AL.box p4 [v0_0, v0_1]] := S1;refine .sr fun K hK => ?_;simp [q5, q6, a7.to_pre, cells_agg];apply hK;have q8 := S1.fieldT (k := 0) rfl fa_43_0;have q9 := S1.loadF (k := 0) rfl sz_24 ag_24 (off := 0) rfl;obtain ⟨r1, hc10, hF⟩ := bd_some hF;refine .sr fun K hK => ?_;simp [q8, q9, ((hx0_0.agree A3.agree).tup)];refine CallD.t (F_impl_IsSystem_w (fu := fu) (hx0_0.agree A3.agree) hc10) ?_;rintro _ G12 ⟨a15, rfl, S16⟩;have A14 := A3.ext (hB.le A3.1) a15.agree;have S13 : Sep G12 (Fr H) [AL.box p4 [v0_0, v0_1]] := S1.app a15.agree S16 (fun _ h => h) (hB.le A3.1);rcases Bool.eq_false_or_eq_true r1 with hb17 | hb17
 ·replace hF := cd_t hb17 hF;have q18 := S13.fieldT (k := 0) rfl fa_43_1;have q19 := S13.loadF (k := 0) rfl sz_24 ag_24 (off := 1) rfl;obtain ⟨r2, hc20, hF⟩ := bd_some hF;simp [hb17, q8, q9, a15.pre, q18, q19, ((hx0_1.agree A14.agree).tup)];refine CallD.t (F_impl_IsSystem_w (fu := fu) (hx0_1.agree A14.agree) hc20) ?_;rintro _ G22 ⟨a25, rfl, S26⟩;have A24 := A14.ext (hB.le A14.1) a25.agree;have S23 : Sep G22 (Fr H) [AL.box p4 [v0_0, v0_1]] := S13.app a25.agree S26 (fun _ h => h) (hB.le A14.1);rcases Bool.eq_false_or_eq_true r2 with hb27 | hb27
  ·replace hF := cd_t hb27 hF;have q28 := S23.fieldT (k := 0) rfl fa_43_0;have q29 := S23.loadF (k := 0) rfl sz_24 ag_24 (off := 0) rfl;have q30 := lenG (hx0_0.agree A24.agree) el_24;have q31 := S23.fieldT (k := 0) rfl fa_43_1;have q32 := S23.loadF (k := 0) rfl sz_24 ag_24 (off := 1) rfl;have q33 := lenG (hx0_1.agree A24.agree) el_24;simp [hb17, hb27, q8, q9, a15.pre, q18, q19, a25.pre, q28, q29, q30, q31, q32, q33];apply hK;refine DWp.ret ?_;obtain rfl := Option.some.inj hF;exact ⟨by simp, [(Value.bool (ieq (llen x0_0) (llen x0_1)))], by simp [], A24, rfl, S23.pick [] (by decide) rfl⟩
  ·replace hF := cd_f hb27 hF;simp [hb17, hb27, q8, q9, a15.pre, q18, q19, a25.pre];apply hK;refine DWp.ret ?_;obtain rfl := Option.some.inj hF;exact ⟨by simp, [(Value.bool false)], by simp [], A24, rfl, S23.pick [] (by decide) rfl⟩
 ·replace hF := cd_f hb17 hF;simp [hb17, q8, q9, a15.pre];apply hK;refine DWp.ret ?_;obtain rfl := Option.some.inj hF;exact ⟨by simp, [(Value.bool false)], by simp [], A14, rfl, S13.pick [] (by decide) rfl⟩
def F_math_bits_Mul64 (fu : Nat) (x0 : Int) (x1 : Int) : Option (Int × Int) :=
  some ((iadd .u64 (iadd .u64 (imul .u64 (ishr .u64 x0 32) (ishr .u64 x1 32)) (ishr .u64 (iadd .u64 (imul .u64 (ishr .u64 x0 32) (iand .u64 x1 4294967295)) (ishr .u64 (imul .u64 (iand .u64 x0 4294967295) (iand .u64 x1 4294967295)) 32)) 32)) (ishr .u64 (iadd .u64 (iand .u64 (iadd .u64 (imul .u64 (ishr .u64 x0 32) (iand .u64 x1 4294967295)) (ishr .u64 (imul .u64 (iand .u64 x0 4294967295) (iand .u64 x1 4294967295)) 32)) 4294967295) (imul .u64 (iand .u64 x0 4294967295) (ishr .u64 x1 32))) 32)), (imul .u64 x0 x1))
theorem F_math_bits_Mul64_w {fu : Nat} {H : AH}  {x0 : Int} {x1 : Int} {r : (Int × Int)}  (hF : F_math_bits_Mul64 fu x0 x1 = some r) :
    ACallT Tryz.prog 164 [(Value.int .u64 x0), (Value.int .u64 x1)] H (fun u G => AgB (Fr H) H G ∧ u = (Value.tuple #[(Value.int .u64 r.1), (Value.int .u64 r.2)]) ∧ Sep G (Fr H) []) := by
 refine ACallT.of_body (nt := 51) (rs := [.tmp 4, .tmp 5]) Tryz.func164 rfl rfl rfl rfl ?_;have A0 : AgB (Fr H) H H := .refl _ _;have S0 : Sep H (Fr H) [] := .nil;have hB := Fr.up H;unfold F_math_bits_Mul64 at hF;refine .sr fun K hK => ?_;simp [];apply hK;refine .sr fun K hK => ?_;simp [b_and];apply hK;have g1 : ¬ ((32 : Int) < 0) := by decide
 refine .sr fun K hK => ?_;simp [b_shr g1];apply hK;refine .sr fun K hK => ?_;simp [b_and];apply hK;have g2 : ¬ ((32 : Int) < 0) := by decide
 refine .sr fun K hK => ?_;simp [b_shr g2];apply hK;refine .sr fun K hK => ?_;simp [];apply hK;have g3 : ¬ ((32 : Int) < 0) := by decide
 refine .sr fun K hK => ?_;simp [b_shr g3];apply hK;refine .sr fun K hK => ?_;simp [b_and];apply hK;have g4 : ¬ ((32 : Int) < 0) := by decide
 refine .sr fun K hK => ?_;simp [b_shr g4];apply hK;refine .sr fun K hK => ?_;simp [];apply hK;have g5 : ¬ ((32 : Int) < 0) := by decide
 refine .sr fun K hK => ?_;simp [b_shr g5];apply hK;refine .sr fun K hK => ?_;simp [];apply hK;refine DWp.ret ?_;obtain rfl := Option.some.inj hF;exact ⟨by simp, [(Value.int .u64 (iadd .u64 (iadd .u64 (imul .u64 (ishr .u64 x0 32) (ishr .u64 x1 32)) (ishr .u64 (iadd .u64 (imul .u64 (ishr .u64 x0 32) (iand .u64 x1 4294967295)) (ishr .u64 (imul .u64 (iand .u64 x0 4294967295) (iand .u64 x1 4294967295)) 32)) 32)) (ishr .u64 (iadd .u64 (iand .u64 (iadd .u64 (imul .u64 (ishr .u64 x0 32) (iand .u64 x1 4294967295)) (ishr .u64 (imul .u64 (iand .u64 x0 4294967295) (iand .u64 x1 4294967295)) 32)) 4294967295) (imul .u64 (iand .u64 x0 4294967295) (ishr .u64 x1 32))) 32))), (Value.int .u64 (imul .u64 x0 x1))], by simp [], A0, rfl, S0.pick [] (by decide) rfl⟩
def F_math_bits_Mul (fu : Nat) (x0 : Int) (x1 : Int) : Option (Int × Int) :=
  bd (F_math_bits_Mul64 fu x0 x1) fun r1 =>
  some (r1.1, r1.2)
theorem F_math_bits_Mul_w {fu : Nat} {H : AH}  {x0 : Int} {x1 : Int} {r : (Int × Int)}  (hF : F_math_bits_Mul fu x0 x1 = some r) :
    ACallT Tryz.prog 154 [(Value.int .u64 x0), (Value.int .u64 x1)] H (fun u G => AgB (Fr H) H G ∧ u = (Value.tuple #[(Value.int .u64 r.1), (Value.int .u64 r.2)]) ∧ Sep G (Fr H) []) := by
 refine ACallT.of_body (nt := 30) (rs := [.tmp 4, .tmp 5]) Tryz.func154 rfl rfl rfl rfl ?_;have A0 : AgB (Fr H) H H := .refl _ _;have S0 : Sep H (Fr H) [] := .nil;have hB := Fr.up H;unfold F_math_bits_Mul at hF;refine .sr fun K hK => ?_;simp [];apply hK;refine .seq ?_;refine DWp.cf (by simp [bnot]) ?_;refine DWp.skip ?_;simp only [andThen, leaves];obtain ⟨r1, hc1, hF⟩ := bd_some hF;refine .sr fun K hK => ?_;simp [];refine CallD.t (F_math_bits_Mul64_w (fu := fu)  hc1) ?_;rintro _ G3 ⟨a6, rfl, S7⟩;have A5 := A0.ext (hB.le A0.1) a6.agree;have S4 : Sep G3 (Fr H) [] := S0.app a6.agree S7 (fun _ h => h) (hB.le A0.1);simp [a6.pre];apply hK;refine .sr fun K hK => ?_;simp [];apply hK;refine DWp.ret ?_;obtain rfl := Option.some.inj hF;exact ⟨by simp, [(Value.int .u64 r1.1), (Value.int .u64 r1.2)], by simp [], A5, rfl, S4.pick [] (by decide) rfl⟩
def F_slices_Repeat_Sint_L1 (fu : Nat)  : Nat → List Int → Int → Option (List Int × Int)
  | 0, _, _ => none
  | n + 1, l1_0, y1_8 =>
    bif (ilt y1_8 (llen l1_0)) then
      gd (subL l1_0 y1_8 (llen l1_0)) (
      gd (subL l1_0 0 y1_8) (
      gd (0 < l1_0.length) (
      F_slices_Repeat_Sint_L1 fu n (lfil l1_0 y1_8) (iadd .i64 y1_8 (nfil l1_0 y1_8)))))
    else
      some (l1_0, y1_8)
def F_slices_Repeat_Sint (fu : Nat) (x0 : List Int) (x1 : Int) : Option (List Int) :=
  bd (
    bif (ilt x1 0) then
      none
    else
      some ()) fun s1 =>
  bd (F_math_bits_Mul fu (iwr .u64 (llen x0)) (iwr .u64 x1)) fun r1 =>
  bd (
    bif (ilt 0 r1.1) then
      none
    else
      bif (ilt 9223372036854775807 r1.2) then
        none
      else
        some ()) fun s15 =>
  gd (0 ≤ (iwr .i64 r1.2) ∧ (iwr .i64 r1.2) ≤ 4294967296) (
  gd (0 < x0.length) (
  bd (F_slices_Repeat_Sint_L1 fu fu (lcpy (lrep (iwr .i64 r1.2) (0 : Int)) x0) (ncpy (lrep (iwr .i64 r1.2) (0 : Int)) x0)) fun s1 =>
  some s1.1))
theorem F_slices_Repeat_Sint_w {fu : Nat} {H : AH} {v0 : Value} {x0 : List Int} {x1 : Int} {r : (List Int)} (hx0 : Sl H v0 (ints x0)) (hF : F_slices_Repeat_Sint fu x0 x1 = some r) :
    ACallT Tryz.prog 131 [v0, (Value.int .i64 x1)] H (fun u G => AgB (Fr H) H G ∧ ∃ u0 : Value, u = u0 ∧ Sep G (Fr H) [flat u0 3 (ints r)]) := by
 refine ACallT.of_body (nt := 48) (rs := [.tmp 4]) Tryz.func131 rfl rfl rfl rfl ?_;have A0 : AgB (Fr H) H H := .refl _ _;have S0 : Sep H (Fr H) [] := .nil;have hB := Fr.up H;unfold F_slices_Repeat_Sint at hF;refine .sr fun K hK => ?_;simp [];apply hK;obtain ⟨s1, hL2, hF⟩ := bd_some hF;refine DWp.seq (DWp.join (fun env G => Sep G (Fr H) [] ∧ AgB (Fr H) H G ∧ env 0 = some v0 ∧ env 1 = some (Value.int .i64 x1)) ?_ ?_)
 ·
  refine .sr fun K hK => ?_;simp [];apply hK;refine DWp.cond' (t := (ilt x1 0)) (by simp []) (fun hb4 => ?_) (fun hb4 => ?_)
  ·replace hL2 := cd_t hb4 hL2;cases hL2
  ·replace hL2 := cd_f hb4 hL2;refine DWp.skip ?_;simp only [andThen, leaves];have S5 := S0.pick [] (by decide) rfl;obtain rfl := Option.some.inj hL2;exact ⟨S5, A0, by simp []⟩
 ·rintro env Gj6 ⟨Sj6, Aj6, ej6_⟩;have q7 := lenG (hx0.agree Aj6.agree) el_24;obtain ⟨r1, hc8, hF⟩ := bd_some hF;refine .sr fun K hK => ?_;simp [ej6_, q7, c_int un_3 un_103];refine CallD.t (F_math_bits_Mul_w (fu := fu)  hc8) ?_;rintro _ G10 ⟨a13, rfl, S14⟩;have A12 := Aj6.ext (hB.le Aj6.1) a13.agree;have S11 : Sep G10 (Fr H) [] := Sj6.app a13.agree S14 (fun _ h => h) (hB.le Aj6.1);simp [ej6_, q7, c_int un_3 un_103, a13.pre];apply hK;obtain ⟨s15, hL16, hF⟩ := bd_some hF;refine DWp.seq (DWp.join (fun env G => Sep G (Fr H) [] ∧ AgB (Fr H) H G ∧ env 0 = some v0 ∧ env 6 = some (Value.int .u64 r1.2)) ?_ ?_)
  ·
   rcases Bool.eq_false_or_eq_true (ilt 0 r1.1) with hb18 | hb18
   ·replace hL16 := cd_t hb18 hL16;refine .sr fun K hK => ?_;simp [ej6_, hb18];apply hK;refine DWp.ct (by simp [ej6_, bnot]) ?_;cases hL16
   ·replace hL16 := cd_f hb18 hL16;refine .sr fun K hK => ?_;simp [ej6_, hb18];apply hK;refine DWp.cond' (t := (ilt 9223372036854775807 r1.2)) (by simp [ej6_]) (fun hb19 => ?_) (fun hb19 => ?_)
    ·replace hL16 := cd_t hb19 hL16;cases hL16
    ·replace hL16 := cd_f hb19 hL16;refine DWp.skip ?_;simp only [andThen, leaves];have S20 := S11.pick [] (by decide) rfl;obtain rfl := Option.some.inj hL16;exact ⟨S20, A12, by simp [ej6_]⟩
  ·rintro env Gj21 ⟨Sj21, Aj21, ej21_⟩;obtain ⟨g22, hF⟩ := gd_some hF;obtain ⟨v23, G24, q25, S26, a28, _⟩ := Sj21.make1 (f := (Value.int .i64)) (t := 24) (hB.le Aj21.1) el_24 ei_3 rfl 0 rfl g22;have A27 := Aj21.ext (hB.le Aj21.1) a28;replace S26 : Sep G24 (Fr H) [flat1 v23 3 (ints (lrep (iwr .i64 r1.2) (0 : Int)))] := S26;refine .sr fun K hK => ?_;simp [ej21_, c_int un_103 un_3, q25, a28.to_pre];apply hK;obtain ⟨g34, hF⟩ := gd_some hF;obtain ⟨G29, q30, S31, a33⟩ := S26.copy1 (f := (Value.int .i64)) (t := 24) (k := 0) rfl (hB.le A27.1) el_24 sz_3 (hx0.agree A27.agree) g34;have A32 := A27.trans a33;replace S31 : Sep G29 (Fr H) [flat1 v23 3 (ints (lcpy (lrep (iwr .i64 r1.2) (0 : Int)) x0))] := S31;refine .sr fun K hK => ?_;simp [ej21_, q30];apply hK;refine .seq ?_;refine .block ?_;obtain ⟨s35, hL36, hF⟩ := bd_some hF;have S37 := S31.pick [0] (by decide) rfl;have S38 := S37.weak (k := 0) rfl;refine DWp.loop (fun n env G => ∃ l1_0 : List Int, ∃ y1_8 : Int, F_slices_Repeat_Sint_L1 fu n l1_0 y1_8 = some s35 ∧ Sep G (Fr H) [flat v23 3 (ints l1_0)] ∧ AgB (Fr H) H G ∧ env 7 = some v23 ∧ env 8 = some (Value.int .i64 y1_8)) fu ⟨(lcpy (lrep (iwr .i64 r1.2) (0 : Int)) x0), (ncpy (lrep (iwr .i64 r1.2) (0 : Int)) x0), hL36, S38, A32, by simp [ej21_]⟩ ?_;rintro n1 env1 G1_ ⟨l1_0, y1_8, hL36, S1_, A1_, e1_⟩;cases n1 with
   | zero => cases hL36
   | succ n1 =>
    simp only [F_slices_Repeat_Sint_L1] at hL36;refine .seq ?_;have q39 := lenG (S1_.sl (k := 0) rfl) el_24;refine .sr fun K hK => ?_;simp [e1_, q39];apply hK;refine DWp.cond' (t := (ilt y1_8 (llen l1_0))) (by simp [e1_]) (fun hb40 => ?_) (fun hb40 => ?_)
    ·replace hL36 := cd_t hb40 hL36;refine DWp.skip ?_;simp only [andThen, leaves];refine .block ?_;obtain ⟨g41, hL36⟩ := gd_some hL36;have q42 := aSub10 (t := 24) (S1_.sl (k := 0) rfl) el_24 sz_3 g41;obtain ⟨g43, hL36⟩ := gd_some hL36;have q44 := aSub01 (t := 24) (S1_.sl (k := 0) rfl) el_24 sz_3 g43;obtain ⟨g50, hL36⟩ := gd_some hL36;have S51 := S1_.firm (f := (Value.int .i64)) (k := 0) rfl g50;obtain ⟨G45, q46, S47, a49⟩ := S51.fill1 (f := (Value.int .i64)) (t := 24) (k := 0) rfl (hB.le A1_.1) el_24 sz_3 g41;have A48 := A1_.trans a49;replace S47 : Sep G45 (Fr H) [flat1 v23 3 (ints (lfil l1_0 y1_8))] := S47;refine .drawn (B := [0, 0, 0, 6, 0, 0, 48, 126, 255, 511]) 7 mixed (by kernel_rfl) (by decide) fun K hK => ?_;simp [e1_, q42, ((subSl (S1_.sl (k := 0) rfl) g41).tup), q44, ((subSl (S1_.sl (k := 0) rfl) g43).tup), q46];apply hK;simp only [andThen, leaves];have S52 := S47.pick [0] (by decide) rfl;have S53 := S52.weak (k := 0) rfl;exact ⟨n1, Nat.lt_succ_self _, (lfil l1_0 y1_8), (iadd .i64 y1_8 (nfil l1_0 y1_8)), hL36, S53, A48, by simp [e1_]⟩
    ·replace hL36 := cd_f hb40 hL36;refine DWp.exit ?_;simp only [andThen, leaves, if_true, if_false, reduceIte, Nat.reduceEqDiff];obtain rfl := Option.some.inj hL36;try dsimp only at hF
     refine .sr fun K hK => ?_;simp [e1_];apply hK;refine DWp.ret ?_;obtain rfl := Option.some.inj hF;exact ⟨by simp, [v23], by simp [e1_, ((S1_.sl (k := 0) rfl).tup)], A1_, v23, rfl, S1_.pick [0] (by decide) rfl⟩
def F_impl_Meander_way_L1 (fu : Nat) (k1_0 : Int) (k1_1 : List Int) (k1_2 : List Int) : Nat → List Int → Int → Option (LR (List Int) (List Int × Int))
  | 0, _, _ => none
  | n + 1, l1_1, y1_6 =>
    gd (inL k1_1 y1_6) (
    gd (l1_1.length + [y1_6, (gat 0 k1_1 y1_6)].length ≤ 4294967296) (
    gd (inL k1_2 (gat 0 k1_1 y1_6)) (
    bif (ieq (gat 0 k1_2 (gat 0 k1_1 y1_6)) k1_0) then
      some (.ret (lapp l1_1 [y1_6, (gat 0 k1_1 y1_6)]))
    else
      F_impl_Meander_way_L1 fu k1_0 k1_1 k1_2 n (lapp l1_1 [y1_6, (gat 0 k1_1 y1_6)]) (gat 0 k1_2 (gat 0 k1_1 y1_6)))))
def F_impl_Meander_way (fu : Nat) (x0_0 : List Int) (x0_1 : List Int) (x1 : Int) : Option (List Int) :=
  bd (F_impl_Meander_way_L1 fu x1 x0_0 x0_1 fu (@List.nil Int) x1) fun s1 => lr s1 fun _ => none
theorem F_impl_Meander_way_w {fu : Nat} {H : AH} {v0_0 : Value} {v0_1 : Value} {x0_0 : List Int} {x0_1 : List Int} {x1 : Int} {r : (List Int)} (hx0_0 : Sl H v0_0 (ints x0_0)) (hx0_1 : Sl H v0_1 (ints x0_1)) (hF : F_impl_Meander_way fu x0_0 x0_1 x1 = some r) :
    ACallT Tryz.prog 132 [(Value.agg #[v0_0, v0_1]), (Value.int .i64 x1)] H (fun u G => AgB (Fr H) H G ∧ ∃ u0 : Value, u = u0 ∧ Sep G (Fr H) [flat u0 3 (ints r)]) := by
 refine ACallT.of_body (nt := 29) (rs := [.tmp 4]) Tryz.func132 rfl rfl rfl rfl ?_;have A0 : AgB (Fr H) H H := .refl _ _;have S0 : Sep H (Fr H) [] := .nil;have hB := Fr.up H;unfold F_impl_Meander_way at hF;obtain ⟨G2, p4, q5, q6, a7, S1⟩ := S0.boxT (hB.le A0.1) 43 [v0_0, v0_1];have A3 := A0.ext (hB.le A0.1) a7;replace S1 : Sep G2 (Fr H) [AL.box p4 [v0_0, v0_1]] := S1;refine .sr fun K hK => ?_;simp [q5, q6, a7.to_pre, cells_agg];apply hK;obtain ⟨v8, G9, q10, S11, a13, _, _⟩ := S1.lit0 (t := 24) (hB.le A3.1) el_24 ei_3 rfl;have A12 := A3.ext (hB.le A3.1) a13;replace S11 : Sep G9 (Fr H) [AL.box p4 [v0_0, v0_1], flat1 v8 3 (ints (@List.nil Int))] := S11;refine .sr fun K hK => ?_;simp [q10, a13.to_pre];apply hK;refine .sr fun K hK => ?_;simp [];apply hK;refine .block ?_;obtain ⟨s15, hL16, hF⟩ := bd_some hF;have S17 := S11.pick [0, 1] (by decide) rfl;have S18 := S17.weak (k := 1) rfl;refine DWp.loop (fun n env G => ∃ l1_1 : List Int, ∃ y1_6 : Int, ∃ w1_1 : Value, F_impl_Meander_way_L1 fu x1 x0_0 x0_1 n l1_1 y1_6 = some s15 ∧ Sep G (Fr H) [AL.box p4 [v0_0, v0_1], flat w1_1 3 (ints l1_1)] ∧ AgB (Fr H) H G ∧ env 1 = some (Value.int .i64 x1) ∧ env 2 = some p4 ∧ env 5 = some w1_1 ∧ env 6 = some (Value.int .i64 y1_6)) fu ⟨(@List.nil Int), x1, v8, hL16, S18, A12, by simp []⟩ ?_;rintro n1 env1 G1_ ⟨l1_1, y1_6, w1_1, hL16, S1_, A1_, e1_⟩;cases n1 with
 | zero => cases hL16
 | succ n1 =>
  simp only [F_impl_Meander_way_L1] at hL16;refine .block ?_;have q19 := S1_.fieldT (k := 0) rfl fa_43_0;have q20 := S1_.loadF (k := 0) rfl sz_24 ag_24 (off := 0) rfl;obtain ⟨g21, hL16⟩ := gd_some hL16;have q22 := idxG (kk := .i64) (hx0_0.agree A1_.agree) el_24 sz_3 g21;have q23 := loadG (hx0_0.agree A1_.agree) sz_3 ag_3 g21 0;refine .sr fun K hK => ?_;simp [e1_, q19, q20, q22, q23];apply hK;obtain ⟨v24, G25, q26, S27, a29, _, _⟩ := S1_.lit2 (t := 24) (hB.le A1_.1) el_24 ei_3 rfl (Value.int .i64 y1_6) (Value.int .i64 (gat 0 x0_0 y1_6)) rfl rfl rfl rfl;have A28 := A1_.ext (hB.le A1_.1) a29;replace S27 : Sep G25 (Fr H) [AL.box p4 [v0_0, v0_1], flat w1_1 3 (ints l1_1), flat1 v24 3 (ints [y1_6, (gat 0 x0_0 y1_6)])] := S27;obtain ⟨g31, hL16⟩ := gd_some hL16;obtain ⟨v37, G32, q33, S34, a36, _, _⟩ := S27.appendG (f := (Value.int .i64)) (xs := l1_1) (ys := [y1_6, (gat 0 x0_0 y1_6)]) (t := 24) (t2 := 24) (k := 1) rfl (hB.le A28.1) el_24 el_24 ei_3 rfl (S27.sl1 (k := 2) rfl) g31;have A35 := A28.trans a36;replace S34 : Sep G32 (Fr H) [AL.box p4 [v0_0, v0_1], flat v37 3 (ints (lapp l1_1 [y1_6, (gat 0 x0_0 y1_6)])), flat1 v24 3 (ints [y1_6, (gat 0 x0_0 y1_6)])] := S34;refine .sr fun K hK => ?_;simp [e1_, q26, a29.to_pre, q33];apply hK;have q38 := S34.fieldT (k := 0) rfl fa_43_1;have q39 := S34.loadF (k := 0) rfl sz_24 ag_24 (off := 1) rfl;obtain ⟨g40, hL16⟩ := gd_some hL16;have q41 := idxG (kk := .i64) (hx0_1.agree A35.agree) el_24 sz_3 g40;have q42 := loadG (hx0_1.agree A35.agree) sz_3 ag_3 g40 0;refine .sr fun K hK => ?_;simp [e1_, q38, q39, q41, q42];apply hK;refine .sr fun K hK => ?_
  simp [e1_];apply hK;refine DWp.cond' (t := (ieq (gat 0 x0_1 (gat 0 x0_0 y1_6)) x1)) (by simp [e1_]) (fun hb43 => ?_) (fun hb43 => ?_)
  ·replace hL16 := cd_t hb43 hL16;refine .sr fun K hK => ?_;simp [e1_];apply hK;refine DWp.ret ?_;simp only [andThen, leaves];obtain rfl := Option.some.inj hL16;simp only [lr] at hF;obtain rfl := Option.some.inj hF;exact ⟨by simp, [v37], by simp [e1_, ((S34.sl (k := 1) rfl).tup)], A35, v37, rfl, S34.pick [1] (by decide) rfl⟩
  ·replace hL16 := cd_f hb43 hL16;refine DWp.skip ?_;simp only [andThen, leaves];have S44 := S34.pick [0, 1] (by decide) rfl;exact ⟨n1, Nat.lt_succ_self _, (lapp l1_1 [y1_6, (gat 0 x0_0 y1_6)]), (gat 0 x0_1 (gat 0 x0_0 y1_6)), v37, hL16, S44, A35, by simp [e1_]⟩
def F_impl_Meander_curves_L2 (fu : Nat) (k2_0 : List Int) (k2_1 : List Int) (k2_2 : Int) (k2_3 : Int) (k2_4 : Int) (k2_5 : List Int) (k2_6 : Int) : Nat → List Int → Int → Option (List Int × Int)
  | 0, _, _ => none
  | n + 1, l2_1, y2_28 =>
    bif (ilt y2_28 k2_6) then
      gd (inL k2_5 y2_28) (
      gd (inL l2_1 (gat 0 k2_5 y2_28)) (
      F_impl_Meander_curves_L2 fu k2_0 k2_1 k2_2 k2_3 k2_4 k2_5 k2_6 n (lset l2_1 (gat 0 k2_5 y2_28) k2_2) (iadd .i64 y2_28 1)))
    else
      some (l2_1, y2_28)
def F_impl_Meander_curves_L1 (fu : Nat) (k1_0 : List Int) (k1_1 : List Int) (k1_2 : Int) : Nat → List Int → Int → Int → Option (List Int × Int × Int)
  | 0, _, _, _ => none
  | n + 1, l1_1, y1_5, y1_16 =>
    bif (ilt y1_16 k1_2) then
      gd (inL l1_1 y1_16) (
      bif (ile 0 (gat 0 l1_1 y1_16)) then
        F_impl_Meander_curves_L1 fu k1_0 k1_1 k1_2 n l1_1 y1_5 (iadd .i64 y1_16 1)
      else
        bd (F_impl_Meander_way fu k1_0 k1_1 y1_16) fun r2 =>
        bd (F_impl_Meander_curves_L2 fu k1_0 k1_1 y1_5 k1_2 y1_16 r2 (llen r2) fu l1_1 0) fun s2 =>
        F_impl_Meander_curves_L1 fu k1_0 k1_1 k1_2 n s2.1 (iadd .i64 y1_5 1) (iadd .i64 y1_16 1))
    else
      some (l1_1, y1_5, y1_16)
def F_impl_Meander_curves (fu : Nat) (x0_0 : List Int) (x0_1 : List Int) : Option (List Int × Int) :=
  bd (F_slices_Repeat_Sint fu [(-1)] (llen x0_0)) fun r1 =>
  bd (F_impl_Meander_curves_L1 fu x0_0 x0_1 (llen r1) fu r1 0 0) fun s1 =>
  some (s1.1, s1.2.1)
theorem F_impl_Meander_curves_w {fu : Nat} {H : AH} {v0_0 : Value} {v0_1 : Value} {x0_0 : List Int} {x0_1 : List Int} {r : (List Int × Int)} (hx0_0 : Sl H v0_0 (ints x0_0)) (hx0_1 : Sl H v0_1 (ints x0_1)) (hF : F_impl_Meander_curves fu x0_0 x0_1 = some r) :
    ACallT Tryz.prog 116 [(Value.agg #[v0_0, v0_1])] H (fun u G => AgB (Fr H) H G ∧ ∃ u0 : Value, u = (Value.tuple #[u0, (Value.int .i64 r.2)]) ∧ Sep G (Fr H) [flat u0 3 (ints r.1)]) := by
 refine ACallT.of_body (nt := 42) (rs := [.tmp 2, .tmp 3]) Tryz.func116 rfl rfl rfl rfl ?_;have A0 : AgB (Fr H) H H := .refl _ _;have S0 : Sep H (Fr H) [] := .nil;have hB := Fr.up H;unfold F_impl_Meander_curves at hF;obtain ⟨G2, p4, q5, q6, a7, S1⟩ := S0.boxT (hB.le A0.1) 43 [v0_0, v0_1];have A3 := A0.ext (hB.le A0.1) a7;replace S1 : Sep G2 (Fr H) [AL.box p4 [v0_0, v0_1]] := S1;refine .sr fun K hK => ?_;simp [q5, q6, a7.to_pre, cells_agg];apply hK;obtain ⟨v8, G9, q10, S11, a13, _, _⟩ := S1.lit1 (t := 24) (hB.le A3.1) el_24 ei_3 rfl (Value.int .i64 (-1)) rfl rfl;have A12 := A3.ext (hB.le A3.1) a13;replace S11 : Sep G9 (Fr H) [AL.box p4 [v0_0, v0_1], flat1 v8 3 (ints [(-1)])] := S11;have q15 := S11.fieldT (k := 0) rfl fa_43_0;have q16 := S11.loadF (k := 0) rfl sz_24 ag_24 (off := 0) rfl;have q17 := lenG (hx0_0.agree A12.agree) el_24;obtain ⟨r1, hc18, hF⟩ := bd_some hF;refine .sr fun K hK => ?_;simp [q10, a13.to_pre, q15, q16, q17, ((S11.sl1 (k := 1) rfl).tup)];refine CallD.t (F_slices_Repeat_Sint_w (fu := fu) (S11.sl1 (k := 1) rfl) hc18) ?_;rintro c19_u0 G20 ⟨a23, _, rfl, S24⟩;have A22 := A12.ext (hB.le A12.1) a23.agree;have S21 : Sep G20 (Fr H) [AL.box p4 [v0_0, v0_1], flat1 v8 3 (ints [(-1)]), flat c19_u0 3 (ints r1)] := S11.app a23.agree S24 (fun _ h => h) (hB.le A12.1);simp [q10, a13.to_pre, q15, q16, q17, a23.pre];apply hK;refine .seq ?_;have q25 := lenG (S21.sl (k := 2) rfl) el_24;refine .sr fun K hK => ?_;simp [q25];apply hK;refine .block ?_;obtain ⟨s26, hL27, hF⟩ := bd_some hF;have S28 := S21.pick [0, 2] (by decide) rfl
 refine DWp.loop (fun n env G => ∃ l1_1 : List Int, ∃ y1_5 : Int, ∃ y1_16 : Int, F_impl_Meander_curves_L1 fu x0_0 x0_1 (llen r1) n l1_1 y1_5 y1_16 = some s26 ∧ Sep G (Fr H) [AL.box p4 [v0_0, v0_1], flat c19_u0 3 (ints l1_1)] ∧ AgB (Fr H) H G ∧ env 1 = some p4 ∧ env 4 = some c19_u0 ∧ env 5 = some (Value.int .i64 y1_5) ∧ env 15 = some (Value.int .i64 (llen r1)) ∧ env 16 = some (Value.int .i64 y1_16)) fu ⟨r1, 0, 0, hL27, S28, A22, by simp []⟩ ?_;rintro n1 env1 G1_ ⟨l1_1, y1_5, y1_16, hL27, S1_, A1_, e1_⟩;cases n1 with
 | zero => cases hL27
 | succ n1 =>
  simp only [F_impl_Meander_curves_L1] at hL27;refine .sr fun K hK => ?_;simp [e1_];apply hK;refine .seq ?_;refine DWp.cond' (t := (ilt y1_16 (llen r1))) (by simp [e1_]) (fun hb29 => ?_) (fun hb29 => ?_)
  ·replace hL27 := cd_t hb29 hL27;refine DWp.skip ?_;simp only [andThen, leaves];refine .seq ?_;refine .block ?_;refine .sr fun K hK => ?_;simp [e1_];apply hK;refine .seq ?_;obtain ⟨g30, hL27⟩ := gd_some hL27;have q31 := idxG (kk := .i64) (S1_.sl (k := 1) rfl) el_24 sz_3 g30;have q32 := loadG (S1_.sl (k := 1) rfl) sz_3 ag_3 g30 0;refine .sr fun K hK => ?_;simp [e1_, q31, q32];apply hK;refine DWp.cond' (t := (ile 0 (gat 0 l1_1 y1_16))) (by simp [e1_]) (fun hb33 => ?_) (fun hb33 => ?_)
   ·replace hL27 := cd_t hb33 hL27;refine DWp.exit ?_;simp only [andThen, leaves, if_true, if_false, reduceIte, Nat.reduceEqDiff];refine .region fun K hK => ?_;simp [e1_];apply hK;simp only [andThen, leaves];have S34 := S1_.pick [0, 1] (by decide) rfl;exact ⟨n1, Nat.lt_succ_self _, l1_1, y1_5, (iadd .i64 y1_16 1), hL27, S34, A1_, by simp [e1_]⟩
   ·replace hL27 := cd_f hb33 hL27;refine DWp.skip ?_;simp only [andThen, leaves];refine .seq ?_;have q35 := S1_.loadAgg (k := 0) rfl sz_43 ag_43 rfl;obtain ⟨r2, hc36, hL27⟩ := bd_some hL27;refine .sr fun K hK => ?_;simp [e1_, q35, ((hx0_0.agree A1_.agree).tup), ((hx0_1.agree A1_.agree).tup)];refine CallD.t (F_impl_Meander_way_w (fu := fu) (hx0_0.agree A1_.agree) (hx0_1.agree A1_.agree) hc36) ?_;rintro c37_u0 G38 ⟨a41, _, rfl, S42⟩;have A40 := A1_.ext (hB.le A1_.1) a41.agree;have S39 : Sep G38 (Fr H) [AL.box p4 [v0_0, v0_1], flat c19_u0 3 (ints l1_1), flat c37_u0 3 (ints r2)] := S1_.app a41.agree S42 (fun _ h => h) (hB.le A1_.1);have q43 := lenG (S39.sl (k := 2) rfl) el_24;simp [e1_, q35, a41.pre, q43];apply hK;refine .block ?_;obtain ⟨s44, hL45, hL27⟩ := bd_some hL27;have S46 := S39.pick [0, 1, 2] (by decide) rfl;refine DWp.loop (fun n env G => ∃ l2_1 : List Int, ∃ y2_28 : Int, F_impl_Meander_curves_L2 fu x0_0 x0_1 y1_5 (llen r1) y1_16 r2 (llen r2) n l2_1 y2_28 = some s44 ∧ Sep G (Fr H) [AL.box p4 [v0_0, v0_1], flat c19_u0 3 (ints l2_1), flat c37_u0 3 (ints r2)] ∧ AgB (Fr H) H G ∧ env 1 = some p4 ∧ env 4 = some c19_u0 ∧ env 5 = some (Value.int .i64 y1_5) ∧ env 15 = some (Value.int .i64 (llen r1)) ∧ env 16 = some (Value.int .i64 y1_16) ∧ env 26 = some c37_u0 ∧ env 27 = some (Value.int .i64 (llen r2)) ∧ env 28 = some (Value.int .i64 y2_28)) fu ⟨l1_1, 0, hL45, S46, A40, by simp [e1_]⟩ ?_;rintro n2 env2 G2_ ⟨l2_1, y2_28, hL45, S2_, A2_, e2_⟩;cases n2 with
    | zero => cases hL45
    | succ n2 =>
     simp only [F_impl_Meander_curves_L2] at hL45;refine .sr fun K hK => ?_;simp [e2_];apply hK;refine .seq ?_;refine DWp.cond' (t := (ilt y2_28 (llen r2))) (by simp [e2_]) (fun hb47 => ?_) (fun hb47 => ?_)
     ·replace hL45 := cd_t hb47 hL45;refine DWp.skip ?_;simp only [andThen, leaves];refine .seq ?_;refine .block ?_;obtain ⟨g48, hL45⟩ := gd_some hL45;have q49 := idxG (kk := .i64) (S2_.sl (k := 2) rfl) el_24 sz_3 g48;have q50 := loadG (S2_.sl (k := 2) rfl) sz_3 ag_3 g48 0;refine .sr fun K hK => ?_;simp [e2_, q49, q50];apply hK;obtain ⟨g51, hL45⟩ := gd_some hL45;have q52 := idxG (kk := .i64) (S2_.sl (k := 1) rfl) el_24 sz_3 g51;obtain ⟨G53, q54, S55, a57⟩ := S2_.storeG (f := (Value.int .i64)) (k := 1) (x := y1_5) rfl (hB.le A2_.1) sz_3 g51 rfl rfl;have A56 := A2_.trans a57;replace S55 : Sep G53 (Fr H) [AL.box p4 [v0_0, v0_1], flat c19_u0 3 (ints (lset l2_1 (gat 0 r2 y2_28) y1_5)), flat c37_u0 3 (ints r2)] := S55;refine .region fun K hK => ?_;simp [e2_, q52, q54];apply hK;simp only [andThen, leaves];refine .region fun K hK => ?_;simp [e2_];apply hK;simp only [andThen, leaves];have S58 := S55.pick [0, 1, 2] (by decide) rfl;exact ⟨n2, Nat.lt_succ_self _, (lset l2_1 (gat 0 r2 y2_28) y1_5), (iadd .i64 y2_28 1), hL45, S58, A56, by simp [e2_]⟩
     ·replace hL45 := cd_f hb47 hL45;refine DWp.exit ?_;simp only [andThen, leaves, if_true, if_false, reduceIte, Nat.reduceEqDiff];obtain rfl := Option.some.inj hL45;try dsimp only at hL27
      refine .region fun K hK => ?_;simp [e2_];apply hK;simp only [andThen, leaves];refine .region fun K hK => ?_;simp [e2_];apply hK;simp only [andThen, leaves];have S59 := S2_.pick [0, 1] (by decide) rfl;exact ⟨n1, Nat.lt_succ_self _, l2_1, (iadd .i64 y1_5 1), (iadd .i64 y1_16 1), hL27, S59, A2_, by simp [e2_]⟩
  ·replace hL27 := cd_f hb29 hL27;refine DWp.exit ?_;simp only [andThen, leaves, if_true, if_false, reduceIte, Nat.reduceEqDiff];obtain rfl := Option.some.inj hL27;try dsimp only at hF
   refine .sr fun K hK => ?_;simp [e1_];apply hK;refine DWp.ret ?_;obtain rfl := Option.some.inj hF;exact ⟨by simp, [c19_u0, (Value.int .i64 y1_5)], by simp [e1_, ((S1_.sl (k := 1) rfl).tup)], A1_, c19_u0, rfl, S1_.pick [1] (by decide) rfl⟩
def F_impl_Meander_components (fu : Nat) (x0_0 : List Int) (x0_1 : List Int) : Option (Int) :=
  bd (F_impl_Meander_curves fu x0_0 x0_1) fun r1 =>
  some r1.2
theorem F_impl_Meander_components_w {fu : Nat} {H : AH} {v0_0 : Value} {v0_1 : Value} {x0_0 : List Int} {x0_1 : List Int} {r : (Int)} (hx0_0 : Sl H v0_0 (ints x0_0)) (hx0_1 : Sl H v0_1 (ints x0_1)) (hF : F_impl_Meander_components fu x0_0 x0_1 = some r) :
    ACallT Tryz.prog 76 [(Value.agg #[v0_0, v0_1])] H (fun u G => AgB (Fr H) H G ∧ u = (Value.int .i64 r) ∧ Sep G (Fr H) []) := by
 refine ACallT.of_body (nt := 11) (rs := [.tmp 2]) Tryz.func76 rfl rfl rfl rfl ?_;have A0 : AgB (Fr H) H H := .refl _ _;have S0 : Sep H (Fr H) [] := .nil;have hB := Fr.up H;unfold F_impl_Meander_components at hF;obtain ⟨G2, p4, q5, q6, a7, S1⟩ := S0.boxT (hB.le A0.1) 43 [v0_0, v0_1];have A3 := A0.ext (hB.le A0.1) a7;replace S1 : Sep G2 (Fr H) [AL.box p4 [v0_0, v0_1]] := S1;refine .sr fun K hK => ?_;simp [q5, q6, a7.to_pre, cells_agg];apply hK;have q8 := S1.loadAgg (k := 0) rfl sz_43 ag_43 rfl;obtain ⟨r1, hc9, hF⟩ := bd_some hF;refine .sr fun K hK => ?_;simp [q8, ((hx0_0.agree A3.agree).tup), ((hx0_1.agree A3.agree).tup)];refine CallD.t (F_impl_Meander_curves_w (fu := fu) (hx0_0.agree A3.agree) (hx0_1.agree A3.agree) hc9) ?_;rintro _ G11 ⟨a14, c10_u0, rfl, S15⟩;have A13 := A3.ext (hB.le A3.1) a14.agree;have S12 : Sep G11 (Fr H) [AL.box p4 [v0_0, v0_1], flat c10_u0 3 (ints r1.1)] := S1.app a14.agree S15 (fun _ h => h) (hB.le A3.1);simp [q8, a14.pre];apply hK;refine .sr fun K hK => ?_;simp [];apply hK;refine DWp.ret ?_;obtain rfl := Option.some.inj hF;exact ⟨by simp, [(Value.int .i64 r1.2)], by simp [], A13, rfl, S12.pick [] (by decide) rfl⟩
end Go.Proofs.YtogghgecmjnieaaGreat.AL

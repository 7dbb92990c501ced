/- The walks of functions, each with its Lean function: spec.swSide, spec.swText, spec.SeaweedText, slices.IndexFunc[[]int,int], slices.ContainsFunc[[]int,int], impl.in, impl.areParts$1, impl.sum, impl.areParts, impl.IsSeaweed. No condition. -/
import Derived.Test.YtcbdgkgdopkofaaDoorG1
import Derived.Test.YtcbdgkgdopkofaaDoorALD
import Derived.Test.YtcbdgkgdopkofaaDoorProg
import Derived.KernelRfl
namespace Go.Proofs.YtcbdgkgdopkofaaDoor.AL
open Go Go.RowKit
set_option linter.unusedVariables false
set_option linter.unusedSimpArgs false
set_option maxRecDepth 4096
attribute [local simp] n_fn b_add b_sub b_mul b_lt b_le b_gt b_ge b_eq b_ne u_not

def F_spec_swSide_L1 (fu : Nat) (k1_0 : List Int) (k1_1 : Int) : Nat → ByteArray → Int → Option (ByteArray × Int)
  | 0, _, _ => none
  | n + 1, y1_3, y1_8 =>
    bif (ilt y1_8 k1_1) then
      gd (inL k1_0 y1_8) (
      bd (
        bif (ilt 0 y1_8) then
          gd (y1_3.size + (ByteArray.mk #[43]).size ≤ 9223372036854775807) (
          some (sapp y1_3 (ByteArray.mk #[43])))
        else
          some y1_3) fun s9 =>
      bd (F_spec_l1Num fu (gat 0 k1_0 y1_8)) fun r1 =>
      gd (s9.size + r1.size ≤ 9223372036854775807) (
      F_spec_swSide_L1 fu k1_0 k1_1 n (sapp s9 r1) (iadd .i64 y1_8 1)))
    else
      some (y1_3, y1_8)
def F_spec_swSide (fu : Nat) (x0 : List Int) : Option (ByteArray) :=
  bd (F_spec_swSide_L1 fu x0 (llen x0) fu (ByteArray.mk #[]) 0) fun s1 =>
  bif (seq' s1.1 (ByteArray.mk #[])) then
    some (ByteArray.mk #[45])
  else
    some s1.1
theorem F_spec_swSide_w {fu : Nat} {H : AH} {v0 : Value} {x0 : List Int} {r : (ByteArray)} (hx0 : Sl H v0 (ints x0)) (hF : F_spec_swSide fu x0 = some r) :
    ACallT Tryd.prog 37 [v0] H (fun u G => AgB (Fr H) H G ∧ u = (Value.string r) ∧ Sep G (Fr H) []) := by
 refine ACallT.of_body (nt := 25) (rs := [.tmp 2]) Tryd.func37 rfl rfl rfl rfl ?_;have A0 : AgB (Fr H) H H := .refl _ _;have S0 : Sep H (Fr H) [] := .nil;have hB := Fr.up H;unfold F_spec_swSide at hF;refine .sr fun K hK => ?_;simp [];apply hK;clear hK K;refine .sr fun K hK => ?_;simp [];apply hK;clear hK K;refine .seq ?_;have q1 := lenG (P := Tryd.prog) (hx0.agree A0.agree) el_22;refine .sr fun K hK => ?_;simp [q1];apply hK;clear hK K;refine .block ?_;obtain ⟨s2, hL3, hF⟩ := bd_some hF;have S4 := S0.pick [] (by decide) rfl;refine DWp.loop (fun n env G => ∃ y1_3 : ByteArray, ∃ y1_8 : Int, F_spec_swSide_L1 fu x0 (llen x0) n y1_3 y1_8 = some s2 ∧ Sep G (Fr H) [] ∧ AgB (Fr H) H G ∧ env 3 = some (Value.string y1_3) ∧ env 6 = some v0 ∧ env 7 = some (Value.int .i64 (llen x0)) ∧ env 8 = some (Value.int .i64 y1_8)) fu ⟨(ByteArray.mk #[]), 0, hL3, S4, A0, by simp []⟩ ?_;rintro n1 env1 G1_ ⟨y1_3, y1_8, hL3, S1_, A1_, e1_⟩;cases n1 with
 | zero => cases hL3
 | succ n1 =>
  simp only [F_spec_swSide_L1] at hL3;refine .sr fun K hK => ?_;simp [e1_];apply hK;clear hK K;refine .seq ?_;refine DWp.cond' (t := (ilt y1_8 (llen x0))) (by simp [e1_]) (fun hb5 => ?_) (fun hb5 => ?_)
  ·replace hL3 := cd_t hb5 hL3;refine DWp.skip ?_;simp only [andThen, leaves];refine .seq ?_;refine .block ?_;obtain ⟨g6, hL3⟩ := gd_some hL3;have q7 := idxG (P := Tryd.prog) (kk := .i64) (hx0.agree A1_.agree) el_22 sz_3 g6;have q8 := loadG (P := Tryd.prog) (hx0.agree A1_.agree) sz_3 ag_3 g6 0;refine .sr fun K hK => ?_;simp [e1_, q7, q8];apply hK;clear hK K;obtain ⟨s9, hL10, hL3⟩ := bd_some hL3;refine DWp.seq (DWp.join (fun env G => Sep G (Fr H) [] ∧ AgB (Fr H) H G ∧ env 3 = some (Value.string s9) ∧ env 5 = some (Value.int .i64 (gat 0 x0 y1_8)) ∧ env 6 = some v0 ∧ env 7 = some (Value.int .i64 (llen x0)) ∧ env 8 = some (Value.int .i64 y1_8)) ?_ ?_)
   ·
    refine .sr fun K hK => ?_;simp [e1_];apply hK;clear hK K;refine DWp.cond' (t := (ilt 0 y1_8)) (by simp [e1_]) (fun hb12 => ?_) (fun hb12 => ?_)
    ·replace hL10 := cd_t hb12 hL10;obtain ⟨g13, hL10⟩ := gd_some hL10;refine .region fun K hK => ?_;simp [e1_, s_add g13];apply hK;clear hK K;simp only [andThen, leaves];have S14 := S1_.pick [] (by decide) rfl;obtain rfl := Option.some.inj hL10;exact ⟨S14, A1_, by simp [e1_]⟩
    ·replace hL10 := cd_f hb12 hL10;refine DWp.skip ?_;simp only [andThen, leaves];have S15 := S1_.pick [] (by decide) rfl;obtain rfl := Option.some.inj hL10;exact ⟨S15, A1_, by simp [e1_]⟩
   ·rintro env Gj16 ⟨Sj16, Aj16, ej16_⟩;obtain ⟨r1, hc17, hL3⟩ := bd_some hL3;refine .region fun K hK => ?_;simp [ej16_];refine CallD.t (F_spec_l1Num_w (fu := fu)  hc17) ?_;rintro _ G19 ⟨a22, rfl, S23⟩;have A21 := Aj16.ext (hB.le Aj16.1) a22.agree;have S20 : Sep G19 (Fr H) [] := Sj16.app a22.agree S23 (fun _ h => h) (hB.le Aj16.1);obtain ⟨g24, hL3⟩ := gd_some hL3;simp [ej16_, a22.pre, s_add g24];apply hK;clear hK K;simp only [andThen, leaves];refine .region fun K hK => ?_;simp [ej16_];apply hK;clear hK K;simp only [andThen, leaves];have S25 := S20.pick [] (by decide) rfl;exact ⟨n1, Nat.lt_succ_self _, (sapp s9 r1), (iadd .i64 y1_8 1), hL3, S25, A21, by simp [ej16_]⟩
  ·replace hL3 := cd_f hb5 hL3;refine DWp.exit ?_;simp only [andThen, leaves, if_true, if_false, reduceIte, Nat.reduceEqDiff];obtain rfl := Option.some.inj hL3;try dsimp only at hF
   refine .seq ?_;refine .sr fun K hK => ?_;simp [e1_, s_eq];apply hK;clear hK K;refine DWp.cond' (t := (seq' y1_3 (ByteArray.mk #[]))) (by simp [e1_]) (fun hb26 => ?_) (fun hb26 => ?_)
   ·replace hF := cd_t hb26 hF;refine .sr fun K hK => ?_;simp [e1_];apply hK;clear hK K;refine DWp.ret ?_;simp only [andThen, leaves];obtain rfl := Option.some.inj hF;exact ⟨by simp, [(Value.string (ByteArray.mk #[45]))], by simp [e1_], A1_, rfl, S1_.pick [] (by decide) rfl⟩
   ·replace hF := cd_f hb26 hF;refine DWp.skip ?_;simp only [andThen, leaves];refine .sr fun K hK => ?_;simp [e1_];apply hK;clear hK K;refine DWp.ret ?_;obtain rfl := Option.some.inj hF;exact ⟨by simp, [(Value.string y1_3)], by simp [e1_], A1_, rfl, S1_.pick [] (by decide) rfl⟩
def F_spec_swText (fu : Nat) (x0_0 : List Int) (x0_1 : List Int) : Option (ByteArray) :=
  bd (F_spec_swSide fu x0_0) fun r1 =>
  gd (r1.size + (ByteArray.mk #[124]).size ≤ 9223372036854775807) (
  bd (F_spec_swSide fu x0_1) fun r2 =>
  gd ((sapp r1 (ByteArray.mk #[124])).size + r2.size ≤ 9223372036854775807) (
  some (sapp (sapp r1 (ByteArray.mk #[124])) r2)))
theorem F_spec_swText_w {fu : Nat} {H : AH} {v0_0 : Value} {v0_1 : Value} {x0_0 : List Int} {x0_1 : List Int} {r : (ByteArray)} (hx0_0 : Sl H v0_0 (ints x0_0)) (hx0_1 : Sl H v0_1 (ints x0_1)) (hF : F_spec_swText fu x0_0 x0_1 = some r) :
    ACallT Tryd.prog 22 [(Value.agg #[v0_0, v0_1])] H (fun u G => AgB (Fr H) H G ∧ u = (Value.string r) ∧ Sep G (Fr H) []) := by
 refine ACallT.of_body (nt := 11) (rs := [.tmp 2]) Tryd.func22 rfl rfl rfl rfl ?_;have A0 : AgB (Fr H) H H := .refl _ _;have S0 : Sep H (Fr H) [] := .nil;have hB := Fr.up H;unfold F_spec_swText at hF;obtain ⟨G2, p4, q5, q6, a7, S1⟩ := S0.boxT (hB.le A0.1) 28 [v0_0, v0_1];have A3 := A0.ext (hB.le A0.1) a7;replace S1 : Sep G2 (Fr H) [AL.box p4 [v0_0, v0_1]] := S1;refine .sr fun K hK => ?_;simp [q5, q6, a7.to_pre, cells_agg];apply hK;clear hK K;have q8 := S1.fieldT (P := Tryd.prog) (k := 0) rfl fa_28_0;have q9 := S1.loadF (P := Tryd.prog) (k := 0) rfl sz_22 ag_22 (off := 0) rfl;obtain ⟨r1, hc10, hF⟩ := bd_some hF;refine .sd (B := [0, 1, 3, 7, 0, 16, 55, 127, 255]) 9 mixed (by kernel_rfl) (by decide) fun K hK => ?_;simp [q8, q9, ((hx0_0.agree A3.agree).tup)];refine CallD.t (F_spec_swSide_w (fu := fu) (hx0_0.agree A3.agree) hc10) ?_;rintro _ G12 ⟨a15, rfl, S16⟩;have A14 := A3.ext (hB.le A3.1) a15.agree;have S13 : Sep G12 (Fr H) [AL.box p4 [v0_0, v0_1]] := S1.app a15.agree S16 (fun _ h => h) (hB.le A3.1);obtain ⟨g17, hF⟩ := gd_some hF;have q18 := S13.fieldT (P := Tryd.prog) (k := 0) rfl fa_28_1;have q19 := S13.loadF (P := Tryd.prog) (k := 0) rfl sz_22 ag_22 (off := 1) rfl;obtain ⟨r2, hc20, hF⟩ := bd_some hF;simp [q8, q9, a15.pre, s_add g17, q18, q19, ((hx0_1.agree A14.agree).tup)];refine CallD.t (F_spec_swSide_w (fu := fu) (hx0_1.agree A14.agree) hc20) ?_;rintro _ G22 ⟨a25, rfl, S26⟩;have A24 := A14.ext (hB.le A14.1) a25.agree;have S23 : Sep G22 (Fr H) [AL.box p4 [v0_0, v0_1]] := S13.app a25.agree S26 (fun _ h => h) (hB.le A14.1);obtain ⟨g27, hF⟩ := gd_some hF;simp [q8, q9, a15.pre, s_add g17, q18, q19, a25.pre, s_add g27];apply hK;clear hK K;refine DWp.ret ?_;obtain rfl := Option.some.inj hF
 exact ⟨by simp, [(Value.string (sapp (sapp r1 (ByteArray.mk #[124])) r2))], by simp [], A24, rfl, S23.pick [] (by decide) rfl⟩
def F_slices_IndexFunc_Sint_L1 (fu : Nat) (k1_0 : List Int) (k1_1 : (Int → Option (Bool))) (k1_2 : Int) : Nat → Int → Option (LR (Int) (Int))
  | 0, _ => none
  | n + 1, y1_8 =>
    bif (ilt y1_8 k1_2) then
      gd (inL k1_0 y1_8) (
      bd (k1_1 (gat 0 k1_0 y1_8)) fun r1 =>
      bif r1 then
        some (.ret y1_8)
      else
        F_slices_IndexFunc_Sint_L1 fu k1_0 k1_1 k1_2 n (iadd .i64 y1_8 1))
    else
      some (.brk y1_8)
def F_slices_IndexFunc_Sint (fu : Nat) (x0 : List Int) (x1 : Int → Option (Bool)) : Option (Int) :=
  bd (F_slices_IndexFunc_Sint_L1 fu x0 x1 (llen x0) fu 0) fun s1 =>
  lr s1 fun s1 =>
  some (-1)
theorem F_slices_IndexFunc_Sint_w {fu : Nat} {H : AH} {v0 : Value} {f1 : FuncId} {c1 : List Value} {x0 : List Int} {x1 : Int → Option (Bool)} {r : (Int)} (hx0 : Sl H v0 (ints x0)) (hx1 : ∀ (G : AH), AgB (Fr H) H G → ∀ (y0 : Int) (q : (Bool)), x1 y0 = some q → ACallT Tryd.prog f1 ([(Value.int .i64 y0)] ++ c1) G (fun u G' => AgB (Fr G) G G' ∧ u = (Value.bool q) ∧ Sep G' (Fr G) [])) (hF : F_slices_IndexFunc_Sint fu x0 x1 = some r) :
    ACallT Tryd.prog 64 [v0, (Value.func (.func f1) #[] c1.toArray)] H (fun u G => AgB (Fr H) H G ∧ u = (Value.int .i64 r) ∧ Sep G (Fr H) []) := by
 refine ACallT.of_body (nt := 19) (rs := [.tmp 4]) Tryd.func64 rfl rfl rfl rfl ?_;have A0 : AgB (Fr H) H H := .refl _ _;have S0 : Sep H (Fr H) [] := .nil;have hB := Fr.up H;unfold F_slices_IndexFunc_Sint at hF;refine .sr fun K hK => ?_;simp [];apply hK;clear hK K;refine .seq ?_;have q1 := lenG (P := Tryd.prog) (hx0.agree A0.agree) el_22;refine .sr fun K hK => ?_;simp [q1];apply hK;clear hK K;refine .block ?_;obtain ⟨s2, hL3, hF⟩ := bd_some hF;have S4 := S0.pick [] (by decide) rfl;refine DWp.loop (fun n env G => ∃ y1_8 : Int, F_slices_IndexFunc_Sint_L1 fu x0 x1 (llen x0) n y1_8 = some s2 ∧ Sep G (Fr H) [] ∧ AgB (Fr H) H G ∧ env 0 = some v0 ∧ env 1 = some (Value.func (.func f1) #[] c1.toArray) ∧ env 7 = some (Value.int .i64 (llen x0)) ∧ env 8 = some (Value.int .i64 y1_8)) fu ⟨0, hL3, S4, A0, by simp []⟩ ?_;rintro n1 env1 G1_ ⟨y1_8, hL3, S1_, A1_, e1_⟩;cases n1 with
 | zero => cases hL3
 | succ n1 =>
  simp only [F_slices_IndexFunc_Sint_L1] at hL3;refine .sr fun K hK => ?_;simp [e1_];apply hK;clear hK K;refine .seq ?_;refine DWp.cond' (t := (ilt y1_8 (llen x0))) (by simp [e1_]) (fun hb5 => ?_) (fun hb5 => ?_)
  ·replace hL3 := cd_t hb5 hL3;refine DWp.skip ?_;simp only [andThen, leaves];refine .seq ?_;refine .block ?_;refine .sr fun K hK => ?_;simp [e1_];apply hK;clear hK K;obtain ⟨g6, hL3⟩ := gd_some hL3;have q7 := idxG (P := Tryd.prog) (kk := .i64) (hx0.agree A1_.agree) el_22 sz_3 g6;have q8 := loadG (P := Tryd.prog) (hx0.agree A1_.agree) sz_3 ag_3 g6 0;obtain ⟨r1, hc9, hL3⟩ := bd_some hL3;refine .sr fun K hK => ?_;simp [e1_, q7, q8];refine CallD.t (hx1 _ A1_ (gat 0 x0 y1_8) _  hc9) ?_;rintro _ G10 ⟨a13, rfl, S14⟩;have A12 := A1_.ext (hB.le A1_.1) a13.agree;have S11 : Sep G10 (Fr H) [] := S1_.agree a13.agree;simp [e1_, q7, q8, a13.pre];apply hK;clear hK K;refine DWp.cond' (t := r1) (by simp [e1_]) (fun hb15 => ?_) (fun hb15 => ?_)
   ·replace hL3 := cd_t hb15 hL3;refine .sr fun K hK => ?_;simp [e1_];apply hK;clear hK K;refine DWp.ret ?_;simp only [andThen, leaves];obtain rfl := Option.some.inj hL3;simp only [lr] at hF;obtain rfl := Option.some.inj hF;exact ⟨by simp, [(Value.int .i64 y1_8)], by simp [e1_], A12, rfl, S11.pick [] (by decide) rfl⟩
   ·replace hL3 := cd_f hb15 hL3;refine DWp.skip ?_;simp only [andThen, leaves];refine .region fun K hK => ?_;simp [e1_];apply hK;clear hK K;simp only [andThen, leaves];have S16 := S11.pick [] (by decide) rfl;exact ⟨n1, Nat.lt_succ_self _, (iadd .i64 y1_8 1), hL3, S16, A12, by simp [e1_]⟩
  ·replace hL3 := cd_f hb5 hL3;refine DWp.exit ?_;simp only [andThen, leaves, if_true, if_false, reduceIte, Nat.reduceEqDiff];obtain rfl := Option.some.inj hL3;simp only [lr] at hF;refine .sr fun K hK => ?_;simp [e1_];apply hK;clear hK K;refine DWp.ret ?_;obtain rfl := Option.some.inj hF;exact ⟨by simp, [(Value.int .i64 (-1))], by simp [e1_], A1_, rfl, S1_.pick [] (by decide) rfl⟩
def F_slices_ContainsFunc_Sint (fu : Nat) (x0 : List Int) (x1 : Int → Option (Bool)) : Option (Bool) :=
  bd (F_slices_IndexFunc_Sint fu x0 x1) fun r1 =>
  some (ile 0 r1)
theorem F_slices_ContainsFunc_Sint_w {fu : Nat} {H : AH} {v0 : Value} {f1 : FuncId} {c1 : List Value} {x0 : List Int} {x1 : Int → Option (Bool)} {r : (Bool)} (hx0 : Sl H v0 (ints x0)) (hx1 : ∀ (G : AH), AgB (Fr H) H G → ∀ (y0 : Int) (q : (Bool)), x1 y0 = some q → ACallT Tryd.prog f1 ([(Value.int .i64 y0)] ++ c1) G (fun u G' => AgB (Fr G) G G' ∧ u = (Value.bool q) ∧ Sep G' (Fr G) [])) (hF : F_slices_ContainsFunc_Sint fu x0 x1 = some r) :
    ACallT Tryd.prog 51 [v0, (Value.func (.func f1) #[] c1.toArray)] H (fun u G => AgB (Fr H) H G ∧ u = (Value.bool r) ∧ Sep G (Fr H) []) := by
 refine ACallT.of_body (nt := 9) (rs := [.tmp 4]) Tryd.func51 rfl rfl rfl rfl ?_;have A0 : AgB (Fr H) H H := .refl _ _;have S0 : Sep H (Fr H) [] := .nil;have hB := Fr.up H;unfold F_slices_ContainsFunc_Sint at hF;refine .sr fun K hK => ?_;simp [];apply hK;clear hK K;obtain ⟨r1, hc1, hF⟩ := bd_some hF;refine .sr fun K hK => ?_;simp [((hx0.agree A0.agree).tup)];refine CallD.t (F_slices_IndexFunc_Sint_w (fu := fu) (hx0.agree A0.agree) (fun (G_ : AH) (a_ : AgB (Fr H) H G_) => hx1 G_ (A0.ext (hB.le A0.1) a_.agree)) hc1) ?_;rintro _ G3 ⟨a6, rfl, S7⟩;have A5 := A0.ext (hB.le A0.1) a6.agree;have S4 : Sep G3 (Fr H) [] := S0.app a6.agree S7 (fun _ h => h) (hB.le A0.1);simp [a6.pre];apply hK;clear hK K;refine DWp.ret ?_;obtain rfl := Option.some.inj hF;exact ⟨by simp, [(Value.bool (ile 0 r1))], by simp [], A5, rfl, S4.pick [] (by decide) rfl⟩
def F_impl_in (fu : Nat) (x0 : Int) (x1 : Int) (x2 : Int) : Option (Bool) :=
  bif (ile x1 x0) then
    some (ile x0 x2)
  else
    some false
theorem F_impl_in_w {fu : Nat} {H : AH}  {x0 : Int} {x1 : Int} {x2 : Int} {r : (Bool)}  (hF : F_impl_in fu x0 x1 x2 = some r) :
    ACallT Tryd.prog 53 [(Value.int .i64 x0), (Value.int .i64 x1), (Value.int .i64 x2)] H (fun u G => AgB (Fr H) H G ∧ u = (Value.bool r) ∧ Sep G (Fr H) []) := by
 refine ACallT.of_body (nt := 15) (rs := [.tmp 6]) Tryd.func53 rfl rfl rfl rfl ?_;have A0 : AgB (Fr H) H H := .refl _ _;have S0 : Sep H (Fr H) [] := .nil;have hB := Fr.up H;unfold F_impl_in at hF;refine .sr fun K hK => ?_;simp [];apply hK;clear hK K;rcases Bool.eq_false_or_eq_true (ile x1 x0) with hb1 | hb1
 ·replace hF := cd_t hb1 hF;refine .sr fun K hK => ?_;simp [hb1];apply hK;clear hK K;refine DWp.ret ?_;obtain rfl := Option.some.inj hF;exact ⟨by simp, [(Value.bool (ile x0 x2))], by simp [], A0, rfl, S0.pick [] (by decide) rfl⟩
 ·replace hF := cd_f hb1 hF;refine .sr fun K hK => ?_;simp [hb1];apply hK;clear hK K;refine DWp.ret ?_;obtain rfl := Option.some.inj hF;exact ⟨by simp, [(Value.bool false)], by simp [], A0, rfl, S0.pick [] (by decide) rfl⟩
def F_impl_areParts_1 (fu : Nat) (x0 : Int) : Option (Bool) :=
  bd (F_impl_in fu x0 1 20) fun r1 =>
  some (bnot r1)
theorem F_impl_areParts_1_w {fu : Nat} {H : AH}  {x0 : Int} {r : (Bool)}  (hF : F_impl_areParts_1 fu x0 = some r) :
    ACallT Tryd.prog 52 [(Value.int .i64 x0)] H (fun u G => AgB (Fr H) H G ∧ u = (Value.bool r) ∧ Sep G (Fr H) []) := by
 refine ACallT.of_body (nt := 6) (rs := [.tmp 2]) Tryd.func52 rfl rfl rfl rfl ?_;have A0 : AgB (Fr H) H H := .refl _ _;have S0 : Sep H (Fr H) [] := .nil;have hB := Fr.up H;unfold F_impl_areParts_1 at hF;refine .sr fun K hK => ?_;simp [];apply hK;clear hK K;obtain ⟨r1, hc1, hF⟩ := bd_some hF;refine .sr fun K hK => ?_;simp [];refine CallD.t (F_impl_in_w (fu := fu)  hc1) ?_;rintro _ G3 ⟨a6, rfl, S7⟩;have A5 := A0.ext (hB.le A0.1) a6.agree;have S4 : Sep G3 (Fr H) [] := S0.app a6.agree S7 (fun _ h => h) (hB.le A0.1);simp [a6.pre];apply hK;clear hK K;refine DWp.ret ?_;obtain rfl := Option.some.inj hF;exact ⟨by simp, [(Value.bool (bnot r1))], by simp [], A5, rfl, S4.pick [] (by decide) rfl⟩
def F_impl_sum_L1 (fu : Nat) (k1_0 : List Int) (k1_1 : Int) : Nat → Int → Int → Option (Int × Int)
  | 0, _, _ => none
  | n + 1, y1_3, y1_8 =>
    bif (ilt y1_8 k1_1) then
      gd (inL k1_0 y1_8) (
      F_impl_sum_L1 fu k1_0 k1_1 n (iadd .i64 y1_3 (gat 0 k1_0 y1_8)) (iadd .i64 y1_8 1))
    else
      some (y1_3, y1_8)
def F_impl_sum (fu : Nat) (x0 : List Int) : Option (Int) :=
  bd (F_impl_sum_L1 fu x0 (llen x0) fu 0 0) fun s1 =>
  some s1.1
theorem F_impl_sum_w {fu : Nat} {H : AH} {v0 : Value} {x0 : List Int} {r : (Int)} (hx0 : Sl H v0 (ints x0)) (hF : F_impl_sum fu x0 = some r) :
    ACallT Tryd.prog 39 [v0] H (fun u G => AgB (Fr H) H G ∧ u = (Value.int .i64 r) ∧ Sep G (Fr H) []) := by
 refine ACallT.of_body (nt := 17) (rs := [.tmp 2]) Tryd.func39 rfl rfl rfl rfl ?_;have A0 : AgB (Fr H) H H := .refl _ _;have S0 : Sep H (Fr H) [] := .nil;have hB := Fr.up H;unfold F_impl_sum at hF;refine .sr fun K hK => ?_;simp [];apply hK;clear hK K;refine .sr fun K hK => ?_;simp [];apply hK;clear hK K;refine .seq ?_;have q1 := lenG (P := Tryd.prog) (hx0.agree A0.agree) el_22;refine .sr fun K hK => ?_;simp [q1];apply hK;clear hK K;refine .block ?_;obtain ⟨s2, hL3, hF⟩ := bd_some hF;have S4 := S0.pick [] (by decide) rfl;refine DWp.loop (fun n env G => ∃ y1_3 : Int, ∃ y1_8 : Int, F_impl_sum_L1 fu x0 (llen x0) n y1_3 y1_8 = some s2 ∧ Sep G (Fr H) [] ∧ AgB (Fr H) H G ∧ env 3 = some (Value.int .i64 y1_3) ∧ env 6 = some v0 ∧ env 7 = some (Value.int .i64 (llen x0)) ∧ env 8 = some (Value.int .i64 y1_8)) fu ⟨0, 0, hL3, S4, A0, by simp []⟩ ?_;rintro n1 env1 G1_ ⟨y1_3, y1_8, hL3, S1_, A1_, e1_⟩;cases n1 with
 | zero => cases hL3
 | succ n1 =>
  simp only [F_impl_sum_L1] at hL3;refine .sr fun K hK => ?_;simp [e1_];apply hK;clear hK K;refine .seq ?_;refine DWp.cond' (t := (ilt y1_8 (llen x0))) (by simp [e1_]) (fun hb5 => ?_) (fun hb5 => ?_)
  ·replace hL3 := cd_t hb5 hL3;refine DWp.skip ?_;simp only [andThen, leaves];refine .seq ?_;refine .block ?_;obtain ⟨g6, hL3⟩ := gd_some hL3;have q7 := idxG (P := Tryd.prog) (kk := .i64) (hx0.agree A1_.agree) el_22 sz_3 g6;have q8 := loadG (P := Tryd.prog) (hx0.agree A1_.agree) sz_3 ag_3 g6 0;refine .sr fun K hK => ?_;simp [e1_, q7, q8];apply hK;clear hK K;refine .region fun K hK => ?_;simp [e1_];apply hK;clear hK K;simp only [andThen, leaves];refine .region fun K hK => ?_;simp [e1_];apply hK;clear hK K;simp only [andThen, leaves];have S9 := S1_.pick [] (by decide) rfl;exact ⟨n1, Nat.lt_succ_self _, (iadd .i64 y1_3 (gat 0 x0 y1_8)), (iadd .i64 y1_8 1), hL3, S9, A1_, by simp [e1_]⟩
  ·replace hL3 := cd_f hb5 hL3;refine DWp.exit ?_;simp only [andThen, leaves, if_true, if_false, reduceIte, Nat.reduceEqDiff];obtain rfl := Option.some.inj hL3;try dsimp only at hF
   refine .sr fun K hK => ?_;simp [e1_];apply hK;clear hK K;refine DWp.ret ?_;obtain rfl := Option.some.inj hF;exact ⟨by simp, [(Value.int .i64 y1_3)], by simp [e1_], A1_, rfl, S1_.pick [] (by decide) rfl⟩
def F_impl_areParts (fu : Nat) (x0 : List Int) : Option (Bool) :=
  bif (ile (llen x0) 20) then
    bd (F_slices_ContainsFunc_Sint fu x0 (fun y0 => F_impl_areParts_1 fu y0)) fun r1 =>
    bif (bnot r1) then
      bd (F_impl_sum fu x0) fun r2 =>
      some (ile r2 20)
    else
      some false
  else
    some false
theorem F_impl_areParts_w {fu : Nat} {H : AH} {v0 : Value} {x0 : List Int} {r : (Bool)} (hx0 : Sl H v0 (ints x0)) (hF : F_impl_areParts fu x0 = some r) :
    ACallT Tryd.prog 38 [v0] H (fun u G => AgB (Fr H) H G ∧ u = (Value.bool r) ∧ Sep G (Fr H) []) := by
 refine ACallT.of_body (nt := 16) (rs := [.tmp 2]) Tryd.func38 rfl rfl rfl rfl ?_;have A0 : AgB (Fr H) H H := .refl _ _;have S0 : Sep H (Fr H) [] := .nil;have hB := Fr.up H;unfold F_impl_areParts at hF;refine .sr fun K hK => ?_;simp [];apply hK;clear hK K;have q1 := lenG (P := Tryd.prog) (hx0.agree A0.agree) el_22;rcases Bool.eq_false_or_eq_true (ile (llen x0) 20) with hb2 | hb2
 ·replace hF := cd_t hb2 hF;obtain ⟨r1, hc4, hF⟩ := bd_some hF;refine .sr fun K hK => ?_;simp [hb2, q1, ((hx0.agree A0.agree).tup)];refine CallD.t (F_slices_ContainsFunc_Sint_w (fu := fu) (hx0.agree A0.agree) (fun G_ a_ y0 q_ hq_ => F_impl_areParts_1_w (fu := fu)  hq_) hc4) ?_;rintro _ G6 ⟨a9, rfl, S10⟩;have A8 := A0.ext (hB.le A0.1) a9.agree;have S7 : Sep G6 (Fr H) [] := S0.app a9.agree S10 (fun _ h => h) (hB.le A0.1);rcases Bool.eq_false_or_eq_true (bnot r1) with hb11 | hb11
  ·replace hF := cd_t hb11 hF;obtain ⟨r2, hc12, hF⟩ := bd_some hF;simp [hb2, hb11, q1, a9.pre, ((hx0.agree A8.agree).tup)];refine CallD.t (F_impl_sum_w (fu := fu) (hx0.agree A8.agree) hc12) ?_;rintro _ G14 ⟨a17, rfl, S18⟩;have A16 := A8.ext (hB.le A8.1) a17.agree;have S15 : Sep G14 (Fr H) [] := S7.app a17.agree S18 (fun _ h => h) (hB.le A8.1);simp [hb2, hb11, q1, a9.pre, a17.pre];apply hK;clear hK K;refine DWp.ret ?_;obtain rfl := Option.some.inj hF;exact ⟨by simp, [(Value.bool (ile r2 20))], by simp [], A16, rfl, S15.pick [] (by decide) rfl⟩
  ·replace hF := cd_f hb11 hF;simp [hb2, hb11, q1, a9.pre];apply hK;clear hK K;refine DWp.ret ?_;obtain rfl := Option.some.inj hF;exact ⟨by simp, [(Value.bool false)], by simp [], A8, rfl, S7.pick [] (by decide) rfl⟩
 ·replace hF := cd_f hb2 hF;refine .sr fun K hK => ?_;simp [hb2, q1];apply hK;clear hK K;refine DWp.ret ?_;obtain rfl := Option.some.inj hF;exact ⟨by simp, [(Value.bool false)], by simp [], A0, rfl, S0.pick [] (by decide) rfl⟩
def F_impl_IsSeaweed (fu : Nat) (x0_0 : List Int) (x0_1 : List Int) : Option (Bool) :=
  bd (F_impl_areParts fu x0_0) fun r1 =>
  bif r1 then
    bd (F_impl_areParts fu x0_1) fun r2 =>
    bif r2 then
      bd (F_impl_sum fu x0_0) fun r3 =>
      bd (F_impl_sum fu x0_1) fun r4 =>
      some (ieq r3 r4)
    else
      some false
  else
    some false
theorem F_impl_IsSeaweed_w {fu : Nat} {H : AH} {v0_0 : Value} {v0_1 : Value} {x0_0 : List Int} {x0_1 : List Int} {r : (Bool)} (hx0_0 : Sl H v0_0 (ints x0_0)) (hx0_1 : Sl H v0_1 (ints x0_1)) (hF : F_impl_IsSeaweed fu x0_0 x0_1 = some r) :
    ACallT Tryd.prog 24 [(Value.agg #[v0_0, v0_1])] H (fun u G => AgB (Fr H) H G ∧ u = (Value.bool r) ∧ Sep G (Fr H) []) := by
 refine ACallT.of_body (nt := 20) (rs := [.tmp 2]) Tryd.func24 rfl rfl rfl rfl ?_;have A0 : AgB (Fr H) H H := .refl _ _;have S0 : Sep H (Fr H) [] := .nil;have hB := Fr.up H;unfold F_impl_IsSeaweed at hF;obtain ⟨G2, p4, q5, q6, a7, S1⟩ := S0.boxT (hB.le A0.1) 28 [v0_0, v0_1];have A3 := A0.ext (hB.le A0.1) a7;replace S1 : Sep G2 (Fr H) [AL.box p4 [v0_0, v0_1]] := S1;refine .sr fun K hK => ?_;simp [q5, q6, a7.to_pre, cells_agg];apply hK;clear hK K;have q8 := S1.fieldT (P := Tryd.prog) (k := 0) rfl fa_28_0;have q9 := S1.loadF (P := Tryd.prog) (k := 0) rfl sz_22 ag_22 (off := 0) rfl;obtain ⟨r1, hc10, hF⟩ := bd_some hF;refine .sd (B := [0, 1, 3, 7, 15, 31, 63, 127, 255, 511, 1023, 2047, 511, 4607, 16383, 32767, 65535, 131071]) 18 mixed (by kernel_rfl) (by decide) fun K hK => ?_;simp [q8, q9, ((hx0_0.agree A3.agree).tup)];refine CallD.t (F_impl_areParts_w (fu := fu) (hx0_0.agree A3.agree) hc10) ?_;rintro _ G12 ⟨a15, rfl, S16⟩;have A14 := A3.ext (hB.le A3.1) a15.agree;have S13 : Sep G12 (Fr H) [AL.box p4 [v0_0, v0_1]] := S1.app a15.agree S16 (fun _ h => h) (hB.le A3.1);rcases Bool.eq_false_or_eq_true r1 with hb17 | hb17
 ·replace hF := cd_t hb17 hF;have q18 := S13.fieldT (P := Tryd.prog) (k := 0) rfl fa_28_1;have q19 := S13.loadF (P := Tryd.prog) (k := 0) rfl sz_22 ag_22 (off := 1) rfl;obtain ⟨r2, hc20, hF⟩ := bd_some hF;simp [hb17, q8, q9, a15.pre, q18, q19, ((hx0_1.agree A14.agree).tup)];refine CallD.t (F_impl_areParts_w (fu := fu) (hx0_1.agree A14.agree) hc20) ?_;rintro _ G22 ⟨a25, rfl, S26⟩;have A24 := A14.ext (hB.le A14.1) a25.agree;have S23 : Sep G22 (Fr H) [AL.box p4 [v0_0, v0_1]] := S13.app a25.agree S26 (fun _ h => h) (hB.le A14.1);rcases Bool.eq_false_or_eq_true r2 with hb27 | hb27
  ·replace hF := cd_t hb27 hF;have q28 := S23.fieldT (P := Tryd.prog) (k := 0) rfl fa_28_0;have q29 := S23.loadF (P := Tryd.prog) (k := 0) rfl sz_22 ag_22 (off := 0) rfl;obtain ⟨r3, hc30, hF⟩ := bd_some hF;simp [hb17, hb27, q8, q9, a15.pre, q18, q19, a25.pre, q28, q29, ((hx0_0.agree A24.agree).tup)];refine CallD.t (F_impl_sum_w (fu := fu) (hx0_0.agree A24.agree) hc30) ?_;rintro _ G32 ⟨a35, rfl, S36⟩;have A34 := A24.ext (hB.le A24.1) a35.agree;have S33 : Sep G32 (Fr H) [AL.box p4 [v0_0, v0_1]] := S23.app a35.agree S36 (fun _ h => h) (hB.le A24.1);have q37 := S33.fieldT (P := Tryd.prog) (k := 0) rfl fa_28_1;have q38 := S33.loadF (P := Tryd.prog) (k := 0) rfl sz_22 ag_22 (off := 1) rfl;obtain ⟨r4, hc39, hF⟩ := bd_some hF;simp [hb17, hb27, q8, q9, a15.pre, q18, q19, a25.pre, q28, q29, a35.pre, q37, q38, ((hx0_1.agree A34.agree).tup)];refine CallD.t (F_impl_sum_w (fu := fu) (hx0_1.agree A34.agree) hc39) ?_;rintro _ G41 ⟨a44, rfl, S45⟩;have A43 := A34.ext (hB.le A34.1) a44.agree;have S42 : Sep G41 (Fr H) [AL.box p4 [v0_0, v0_1]] := S33.app a44.agree S45 (fun _ h => h) (hB.le A34.1);simp [hb17, hb27, q8, q9, a15.pre, q18, q19, a25.pre, q28, q29, a35.pre, q37, q38, a44.pre];apply hK;clear hK K;refine DWp.ret ?_;obtain rfl := Option.some.inj hF;exact ⟨by simp, [(Value.bool (ieq r3 r4))], by simp [], A43, rfl, S42.pick [] (by decide) rfl⟩
  ·replace hF := cd_f hb27 hF;simp [hb17, hb27, q8, q9, a15.pre, q18, q19, a25.pre];apply hK;clear hK K;refine DWp.ret ?_;obtain rfl := Option.some.inj hF;exact ⟨by simp, [(Value.bool false)], by simp [], A24, rfl, S23.pick [] (by decide) rfl⟩
 ·replace hF := cd_f hb17 hF;simp [hb17, q8, q9, a15.pre];apply hK;clear hK K;refine DWp.ret ?_;obtain rfl := Option.some.inj hF;exact ⟨by simp, [(Value.bool false)], by simp [], A14, rfl, S13.pick [] (by decide) rfl⟩
end Go.Proofs.YtcbdgkgdopkofaaDoor.AL

/- The walks of functions, each with its Lean function: laws.szIntS, laws.szSeaweed, laws.toIntS, laws.toSeaweed, spec.l1In, spec.l1All, spec.swSum, spec.swParts, spec.swGood, spec.l1Num. No condition. -/
import Derived.Test.YtcbdgkgdopkofaaDoorALD
import Derived.Test.YtcbdgkgdopkofaaDoorProg
import Derived.KernelRfl
namespace Go.Proofs.YtcbdgkgdopkofaaDoor.AL
open Go Go.RowKit
set_option linter.unusedVariables false
set_option linter.unusedSimpArgs false
set_option maxRecDepth 4096
attribute [local simp] n_fn b_add b_sub b_mul b_lt b_le b_gt b_ge b_eq b_ne u_not
theorem mixed : Tryd.prog.follows .mixedOrders = true := by kernel_rfl
theorem ag_22 : aggT Tryd.prog 22 = some false := by kernel_rfl
theorem ag_28 : aggT Tryd.prog 28 = some true := by kernel_rfl
theorem ag_3 : aggT Tryd.prog 3 = some false := by kernel_rfl
theorem ei_3 : einfo Tryd.prog 3 = some ⟨1, 8, .int .i64 0⟩ := by kernel_rfl
theorem ei_5 : einfo Tryd.prog 5 = some ⟨1, 1, .int .u8 0⟩ := by kernel_rfl
theorem el_22 : elemT Tryd.prog 22 = some 3 := by kernel_rfl
theorem el_60 : elemT Tryd.prog 60 = some 5 := by kernel_rfl
theorem fa_24_0 : fldT Tryd.prog 24 0 = some 0 := by kernel_rfl
theorem fa_24_1 : fldT Tryd.prog 24 1 = some 1 := by kernel_rfl
theorem fa_28_0 : fldT Tryd.prog 28 0 = some 0 := by kernel_rfl
theorem fa_28_1 : fldT Tryd.prog 28 1 = some 1 := by kernel_rfl
theorem sz_22 : sizeT Tryd.prog 22 = some 1 := by kernel_rfl
theorem sz_28 : sizeT Tryd.prog 28 = some 2 := by kernel_rfl
theorem sz_3 : sizeT Tryd.prog 3 = some 1 := by kernel_rfl
theorem un_3 : Tryd.prog.underlying 3 = some (.int .i64) := by kernel_rfl
theorem un_5 : Tryd.prog.underlying 5 = some (.int .u8) := by kernel_rfl
theorem un_9 : Tryd.prog.underlying 9 = some .string := by kernel_rfl
theorem us_60 : Tryd.prog.underlying 60 = some (.slice 5) := by kernel_rfl
theorem ze_28 : zeroT Tryd.prog 28 = some (.agg #[.slice none 0 0, .slice none 0 0]) := by kernel_rfl
def F_laws_szIntS (fu : Nat) (x0 : List Int) (x1 : Int) : Option (Int) :=
  bif (ilt (isub .i64 x1 (llen x0)) 0) then
    some (-1)
  else
    some (isub .i64 x1 (llen x0))
theorem F_laws_szIntS_w {fu : Nat} {H : AH} {v0 : Value} {x0 : List Int} {x1 : Int} {r : (Int)} (hx0 : Sl H v0 (ints x0)) (hF : F_laws_szIntS fu x0 x1 = some r) :
    ACallT Tryd.prog 20 [v0, (Value.int .i64 x1)] H (fun u G => AgB (Fr H) H G ∧ u = (Value.int .i64 r) ∧ Sep G (Fr H) []) := by
 refine ACallT.of_body (nt := 12) (rs := [.tmp 4]) Tryd.func20 rfl rfl rfl rfl ?_;have A0 : AgB (Fr H) H H := .refl _ _;have S0 : Sep H (Fr H) [] := .nil;have hB := Fr.up H;unfold F_laws_szIntS at hF;refine .sr fun K hK => ?_;simp [];apply hK;clear hK K;have q1 := lenG (P := Tryd.prog) (hx0.agree A0.agree) el_22;refine .sr fun K hK => ?_;simp [q1];apply hK;clear hK K;refine .seq ?_;refine .sr fun K hK => ?_;simp [];apply hK;clear hK K;refine DWp.cond' (t := (ilt (isub .i64 x1 (llen x0)) 0)) (by simp []) (fun hb2 => ?_) (fun hb2 => ?_)
 ·replace hF := cd_t hb2 hF;refine .sr fun K hK => ?_;simp [];apply hK;clear hK K;refine DWp.ret ?_;simp only [andThen, leaves];obtain rfl := Option.some.inj hF;exact ⟨by simp, [(Value.int .i64 (-1))], by simp [], A0, rfl, S0.pick [] (by decide) rfl⟩
 ·replace hF := cd_f hb2 hF;refine DWp.skip ?_;simp only [andThen, leaves];refine .sr fun K hK => ?_;simp [];apply hK;clear hK K;refine DWp.ret ?_;obtain rfl := Option.some.inj hF;exact ⟨by simp, [(Value.int .i64 (isub .i64 x1 (llen x0)))], by simp [], A0, rfl, S0.pick [] (by decide) rfl⟩
def F_laws_szSeaweed (fu : Nat) (x0_0 : List Int) (x0_1 : List Int) (x1 : Int) : Option (Int) :=
  bd (F_laws_szIntS fu x0_0 x1) fun r1 =>
  bif (ilt r1 0) then
    some (-1)
  else
    bd (F_laws_szIntS fu x0_1 r1) fun r2 =>
    bif (ilt r2 0) then
      some (-1)
    else
      some r2
theorem F_laws_szSeaweed_w {fu : Nat} {H : AH} {v0_0 : Value} {v0_1 : Value} {x0_0 : List Int} {x0_1 : List Int} {x1 : Int} {r : (Int)} (hx0_0 : Sl H v0_0 (ints x0_0)) (hx0_1 : Sl H v0_1 (ints x0_1)) (hF : F_laws_szSeaweed fu x0_0 x0_1 x1 = some r) :
    ACallT Tryd.prog 6 [(Value.agg #[v0_0, v0_1]), (Value.int .i64 x1)] H (fun u G => AgB (Fr H) H G ∧ u = (Value.int .i64 r) ∧ Sep G (Fr H) []) := by
 refine ACallT.of_body (nt := 18) (rs := [.tmp 4]) Tryd.func6 rfl rfl rfl rfl ?_;have A0 : AgB (Fr H) H H := .refl _ _;have S0 : Sep H (Fr H) [] := .nil;have hB := Fr.up H;unfold F_laws_szSeaweed at hF;obtain ⟨G2, p4, q5, q6, a7, S1⟩ := S0.boxT (hB.le A0.1) 24 [v0_0, v0_1];have A3 := A0.ext (hB.le A0.1) a7;replace S1 : Sep G2 (Fr H) [AL.box p4 [v0_0, v0_1]] := S1;refine .sr fun K hK => ?_;simp [q5, q6, a7.to_pre, cells_agg];apply hK;clear hK K;have q8 := S1.fieldT (P := Tryd.prog) (k := 0) rfl fa_24_0;have q9 := S1.loadF (P := Tryd.prog) (k := 0) rfl sz_22 ag_22 (off := 0) rfl;obtain ⟨r1, hc10, hF⟩ := bd_some hF;refine .sr fun K hK => ?_;simp [q8, q9, ((hx0_0.agree A3.agree).tup)];refine CallD.t (F_laws_szIntS_w (fu := fu) (hx0_0.agree A3.agree) hc10) ?_;rintro _ G12 ⟨a15, rfl, S16⟩;have A14 := A3.ext (hB.le A3.1) a15.agree;have S13 : Sep G12 (Fr H) [AL.box p4 [v0_0, v0_1]] := S1.app a15.agree S16 (fun _ h => h) (hB.le A3.1);simp [q8, q9, a15.pre];apply hK;clear hK K;refine .seq ?_;refine .sr fun K hK => ?_;simp [];apply hK;clear hK K;refine DWp.cond' (t := (ilt r1 0)) (by simp []) (fun hb17 => ?_) (fun hb17 => ?_)
 ·replace hF := cd_t hb17 hF;refine .sr fun K hK => ?_;simp [];apply hK;clear hK K;refine DWp.ret ?_;simp only [andThen, leaves];obtain rfl := Option.some.inj hF;exact ⟨by simp, [(Value.int .i64 (-1))], by simp [], A14, rfl, S13.pick [] (by decide) rfl⟩
 ·replace hF := cd_f hb17 hF;refine DWp.skip ?_;simp only [andThen, leaves];have q18 := S13.fieldT (P := Tryd.prog) (k := 0) rfl fa_24_1;have q19 := S13.loadF (P := Tryd.prog) (k := 0) rfl sz_22 ag_22 (off := 1) rfl;obtain ⟨r2, hc20, hF⟩ := bd_some hF;refine .sr fun K hK => ?_;simp [q18, q19, ((hx0_1.agree A14.agree).tup)];refine CallD.t (F_laws_szIntS_w (fu := fu) (hx0_1.agree A14.agree) hc20) ?_;rintro _ G22 ⟨a25, rfl, S26⟩;have A24 := A14.ext (hB.le A14.1) a25.agree;have S23 : Sep G22 (Fr H) [AL.box p4 [v0_0, v0_1]] := S13.app a25.agree S26 (fun _ h => h) (hB.le A14.1);simp [q18, q19, a25.pre];apply hK;clear hK K;refine .seq ?_;refine .sr fun K hK => ?_;simp [];apply hK;clear hK K;refine DWp.cond' (t := (ilt r2 0)) (by simp []) (fun hb27 => ?_) (fun hb27 => ?_)
  ·replace hF := cd_t hb27 hF;refine .sr fun K hK => ?_;simp [];apply hK;clear hK K;refine DWp.ret ?_;simp only [andThen, leaves];obtain rfl := Option.some.inj hF;exact ⟨by simp, [(Value.int .i64 (-1))], by simp [], A24, rfl, S23.pick [] (by decide) rfl⟩
  ·replace hF := cd_f hb27 hF;refine DWp.skip ?_;simp only [andThen, leaves];refine .sr fun K hK => ?_;simp [];apply hK;clear hK K;refine DWp.ret ?_;obtain rfl := Option.some.inj hF;exact ⟨by simp, [(Value.int .i64 r2)], by simp [], A24, rfl, S23.pick [] (by decide) rfl⟩
def F_laws_toIntS_L1 (fu : Nat) (k1_0 : List Int) : Nat → List Int → Int → Option (List Int × Int)
  | 0, _, _ => none
  | n + 1, l1_0, y1_4 =>
    bif (ilt y1_4 (llen k1_0)) then
      gd (inL k1_0 y1_4) (
      gd (inL l1_0 y1_4) (
      F_laws_toIntS_L1 fu k1_0 n (lset l1_0 y1_4 (gat 0 k1_0 y1_4)) (iadd .i64 y1_4 1)))
    else
      some (l1_0, y1_4)
def F_laws_toIntS (fu : Nat) (x0 : List Int) : Option (List Int) :=
  gd (0 ≤ (llen x0) ∧ (llen x0) ≤ 4294967296) (
  bd (F_laws_toIntS_L1 fu x0 fu (lrep (llen x0) (0 : Int)) 0) fun s1 =>
  some s1.1)
theorem F_laws_toIntS_w {fu : Nat} {H : AH} {v0 : Value} {x0 : List Int} {r : (List Int)} (hx0 : Sl H v0 (ints x0)) (hF : F_laws_toIntS fu x0 = some r) :
    ACallT Tryd.prog 23 [v0] H (fun u G => AgB (Fr H) H G ∧ ∃ u0 : Value, u = u0 ∧ Sep G (Fr H) [flat u0 3 (ints r)]) := by
 refine ACallT.of_body (nt := 22) (rs := [.tmp 2]) Tryd.func23 rfl rfl rfl rfl ?_;have A0 : AgB (Fr H) H H := .refl _ _;have S0 : Sep H (Fr H) [] := .nil;have hB := Fr.up H;unfold F_laws_toIntS at hF;refine .sr fun K hK => ?_;simp [];apply hK;clear hK K;have q1 := lenG (P := Tryd.prog) (hx0.agree A0.agree) el_22;obtain ⟨g2, hF⟩ := gd_some hF;obtain ⟨v3, G4, q5, S6, a8, _⟩ := S0.make (f := (Value.int .i64)) (P := Tryd.prog) (t := 22) (hB.le A0.1) el_22 ei_3 rfl 0 rfl g2;have A7 := A0.ext (hB.le A0.1) a8;replace S6 : Sep G4 (Fr H) [flat v3 3 (ints (lrep (llen x0) (0 : Int)))] := S6;refine .sr fun K hK => ?_;simp [q1, q5, a8.to_pre];apply hK;clear hK K;refine .seq ?_;refine .sr fun K hK => ?_;simp [];apply hK;clear hK K;refine .block ?_;obtain ⟨s9, hL10, hF⟩ := bd_some hF;have S11 := S6.pick [0] (by decide) rfl;refine DWp.loop (fun n env G => ∃ l1_0 : List Int, ∃ y1_4 : Int, F_laws_toIntS_L1 fu x0 n l1_0 y1_4 = some s9 ∧ Sep G (Fr H) [flat v3 3 (ints l1_0)] ∧ AgB (Fr H) H G ∧ env 0 = some v0 ∧ env 3 = some v3 ∧ env 4 = some (Value.int .i64 y1_4)) fu ⟨(lrep (llen x0) (0 : Int)), 0, hL10, S11, A7, by simp []⟩ ?_;rintro n1 env1 G1_ ⟨l1_0, y1_4, hL10, S1_, A1_, e1_⟩;cases n1 with
 | zero => cases hL10
 | succ n1 =>
  simp only [F_laws_toIntS_L1] at hL10;refine .seq ?_;have q12 := lenG (P := Tryd.prog) (hx0.agree A1_.agree) el_22;refine .sr fun K hK => ?_;simp [e1_, q12];apply hK;clear hK K;refine DWp.cond' (t := (ilt y1_4 (llen x0))) (by simp [e1_]) (fun hb13 => ?_) (fun hb13 => ?_)
  ·replace hL10 := cd_t hb13 hL10;refine DWp.skip ?_;simp only [andThen, leaves];refine .seq ?_;refine .block ?_;obtain ⟨g14, hL10⟩ := gd_some hL10;have q15 := idxG (P := Tryd.prog) (kk := .i64) (hx0.agree A1_.agree) el_22 sz_3 g14;have q16 := loadG (P := Tryd.prog) (hx0.agree A1_.agree) sz_3 ag_3 g14 0;obtain ⟨g17, hL10⟩ := gd_some hL10;have q18 := idxG (P := Tryd.prog) (kk := .i64) (S1_.sl (k := 0) rfl) el_22 sz_3 g17;obtain ⟨G19, q20, S21, a23⟩ := S1_.storeG (f := (Value.int .i64)) (P := Tryd.prog) (k := 0) (x := (gat 0 x0 y1_4)) rfl (hB.le A1_.1) sz_3 g17 rfl rfl;have A22 := A1_.trans a23;replace S21 : Sep G19 (Fr H) [flat v3 3 (ints (lset l1_0 y1_4 (gat 0 x0 y1_4)))] := S21;refine .region fun K hK => ?_;simp [e1_, q15, q16, q18, q20];apply hK;clear hK K;simp only [andThen, leaves];refine .region fun K hK => ?_;simp [e1_];apply hK;clear hK K;simp only [andThen, leaves];have S24 := S21.pick [0] (by decide) rfl;exact ⟨n1, Nat.lt_succ_self _, (lset l1_0 y1_4 (gat 0 x0 y1_4)), (iadd .i64 y1_4 1), hL10, S24, A22, by simp [e1_]⟩
  ·replace hL10 := cd_f hb13 hL10;refine DWp.exit ?_;simp only [andThen, leaves, if_true, if_false, reduceIte, Nat.reduceEqDiff];obtain rfl := Option.some.inj hL10;try dsimp only at hF
   refine .sr fun K hK => ?_;simp [e1_];apply hK;clear hK K;refine DWp.ret ?_;obtain rfl := Option.some.inj hF;exact ⟨by simp, [v3], by simp [e1_, ((S1_.sl (k := 0) rfl).tup)], A1_, v3, rfl, S1_.pick [0] (by decide) rfl⟩
def F_laws_toSeaweed (fu : Nat) (x0_0 : List Int) (x0_1 : List Int) : Option ((List Int × List Int)) :=
  bd (F_laws_toIntS fu x0_0) fun r1 =>
  bd (F_laws_toIntS fu x0_1) fun r2 =>
  some (r1, r2)
theorem F_laws_toSeaweed_w {fu : Nat} {H : AH} {v0_0 : Value} {v0_1 : Value} {x0_0 : List Int} {x0_1 : List Int} {r : ((List Int × List Int))} (hx0_0 : Sl H v0_0 (ints x0_0)) (hx0_1 : Sl H v0_1 (ints x0_1)) (hF : F_laws_toSeaweed fu x0_0 x0_1 = some r) :
    ACallT Tryd.prog 8 [(Value.agg #[v0_0, v0_1])] H (fun u G => AgB (Fr H) H G ∧ ∃ u0 : Value, ∃ u1 : Value, u = (Value.agg #[u0, u1]) ∧ Sep G (Fr H) [flat u0 3 (ints r.1), flat u1 3 (ints r.2)]) := by
 refine ACallT.of_body (nt := 13) (rs := [.cell 2 28]) Tryd.func8 rfl rfl rfl rfl ?_;have A0 : AgB (Fr H) H H := .refl _ _;have S0 : Sep H (Fr H) [] := .nil;have hB := Fr.up H;unfold F_laws_toSeaweed at hF;obtain ⟨G2, p4, q5, q6, a7, S1⟩ := S0.boxT (hB.le A0.1) 24 [v0_0, v0_1];have A3 := A0.ext (hB.le A0.1) a7;replace S1 : Sep G2 (Fr H) [AL.box p4 [v0_0, v0_1]] := S1;obtain ⟨G9, p11, q12, q14, a13, S8⟩ := S1.allocT (P := Tryd.prog) (hB.le A3.1) ze_28 rfl;have A10 := A3.ext (hB.le A3.1) a13;replace S8 : Sep G9 (Fr H) [AL.box p4 [v0_0, v0_1], AL.box p11 [(Value.slice none 0 0), (Value.slice none 0 0)]] := S8;refine .sr fun K hK => ?_;simp [q5, q6, a7.to_pre, cells_agg, q12, q14, a13.to_pre];apply hK;clear hK K;obtain ⟨G16, p18, q19, q21, a20, S15⟩ := S8.allocT (P := Tryd.prog) (hB.le A10.1) ze_28 rfl;have A17 := A10.ext (hB.le A10.1) a20;replace S15 : Sep G16 (Fr H) [AL.box p4 [v0_0, v0_1], AL.box p11 [(Value.slice none 0 0), (Value.slice none 0 0)], AL.box p18 [(Value.slice none 0 0), (Value.slice none 0 0)]] := S15;refine .sr fun K hK => ?_;simp [q19, q21, a20.to_pre];apply hK;clear hK K;have q22 := S15.fieldT (P := Tryd.prog) (k := 0) rfl fa_24_0;have q23 := S15.loadF (P := Tryd.prog) (k := 0) rfl sz_22 ag_22 (off := 0) rfl;obtain ⟨r1, hc24, hF⟩ := bd_some hF;refine .sr fun K hK => ?_;simp [q22, q23, ((hx0_0.agree A17.agree).tup)];refine CallD.t (F_laws_toIntS_w (fu := fu) (hx0_0.agree A17.agree) hc24) ?_;rintro c25_u0 G26 ⟨a29, _, rfl, S30⟩;have A28 := A17.ext (hB.le A17.1) a29.agree;have S27 : Sep G26 (Fr H) [AL.box p4 [v0_0, v0_1], AL.box p11 [(Value.slice none 0 0), (Value.slice none 0 0)], AL.box p18 [(Value.slice none 0 0), (Value.slice none 0 0)], flat c25_u0 3 (ints r1)] := S15.app a29.agree S30 (fun _ h => h) (hB.le A17.1)
 have q31 := S27.fieldT (P := Tryd.prog) (k := 2) rfl fa_28_0;obtain ⟨G32, q33, S34, a36⟩ := S27.putF (P := Tryd.prog) (k := 2) (off := 0) rfl (hB.le A28.1) sz_22 (by simp) ((S27.sl (k := 3) rfl).tup) ((S27.sl (k := 3) rfl).one);have A35 := A28.trans a36;replace S34 : Sep G32 (Fr H) [AL.box p4 [v0_0, v0_1], AL.box p11 [(Value.slice none 0 0), (Value.slice none 0 0)], AL.box p18 [c25_u0, (Value.slice none 0 0)], flat c25_u0 3 (ints r1)] := S34;simp [q22, q23, a29.pre, q31, q33];apply hK;clear hK K;have q37 := S34.fieldT (P := Tryd.prog) (k := 0) rfl fa_24_1;have q38 := S34.loadF (P := Tryd.prog) (k := 0) rfl sz_22 ag_22 (off := 1) rfl;obtain ⟨r2, hc39, hF⟩ := bd_some hF;refine .sr fun K hK => ?_;simp [q37, q38, ((hx0_1.agree A35.agree).tup)];refine CallD.t (F_laws_toIntS_w (fu := fu) (hx0_1.agree A35.agree) hc39) ?_;rintro c40_u0 G41 ⟨a44, _, rfl, S45⟩;have A43 := A35.ext (hB.le A35.1) a44.agree;have S42 : Sep G41 (Fr H) [AL.box p4 [v0_0, v0_1], AL.box p11 [(Value.slice none 0 0), (Value.slice none 0 0)], AL.box p18 [c25_u0, (Value.slice none 0 0)], flat c25_u0 3 (ints r1), flat c40_u0 3 (ints r2)] := S34.app a44.agree S45 (fun _ h => h) (hB.le A35.1);have q46 := S42.fieldT (P := Tryd.prog) (k := 2) rfl fa_28_1;obtain ⟨G47, q48, S49, a51⟩ := S42.putF (P := Tryd.prog) (k := 2) (off := 1) rfl (hB.le A43.1) sz_22 (by simp) ((S42.sl (k := 4) rfl).tup) ((S42.sl (k := 4) rfl).one);have A50 := A43.trans a51;replace S49 : Sep G47 (Fr H) [AL.box p4 [v0_0, v0_1], AL.box p11 [(Value.slice none 0 0), (Value.slice none 0 0)], AL.box p18 [c25_u0, c40_u0], flat c25_u0 3 (ints r1), flat c40_u0 3 (ints r2)] := S49;simp [q37, q38, a44.pre, q46, q48];apply hK;clear hK K;have q52 := S49.loadAgg (P := Tryd.prog) (k := 2) rfl sz_28 ag_28 rfl
 obtain ⟨G53, q54, S55, a57⟩ := S49.putAgg (P := Tryd.prog) (k := 1) (xs := [c25_u0, c40_u0]) rfl (hB.le A50.1) sz_28 rfl rfl;have A56 := A50.trans a57;replace S55 : Sep G53 (Fr H) [AL.box p4 [v0_0, v0_1], AL.box p11 [c25_u0, c40_u0], AL.box p18 [c25_u0, c40_u0], flat c25_u0 3 (ints r1), flat c40_u0 3 (ints r2)] := S55;refine .sr fun K hK => ?_;simp [q52, q54];apply hK;clear hK K;refine DWp.ret ?_;have q58 := S55.loadAgg (P := Tryd.prog) (k := 1) rfl sz_28 ag_28 rfl;obtain rfl := Option.some.inj hF;exact ⟨by simp, [(Value.agg #[c25_u0, c40_u0])], by simp [q58, ((S55.sl (k := 3) rfl).tup), ((S55.sl (k := 4) rfl).tup)], A56, c25_u0, c40_u0, rfl, S55.pick [3, 4] (by decide) rfl⟩
def F_spec_l1In (fu : Nat) (x0 : Int) (x1 : Int) (x2 : Int) : Option (Bool) :=
  bif (ile x1 x0) then
    some (ile x0 x2)
  else
    some false
theorem F_spec_l1In_w {fu : Nat} {H : AH}  {x0 : Int} {x1 : Int} {x2 : Int} {r : (Bool)}  (hF : F_spec_l1In fu x0 x1 x2 = some r) :
    ACallT Tryd.prog 63 [(Value.int .i64 x0), (Value.int .i64 x1), (Value.int .i64 x2)] H (fun u G => AgB (Fr H) H G ∧ u = (Value.bool r) ∧ Sep G (Fr H) []) := by
 refine ACallT.of_body (nt := 15) (rs := [.tmp 6]) Tryd.func63 rfl rfl rfl rfl ?_;have A0 : AgB (Fr H) H H := .refl _ _;have S0 : Sep H (Fr H) [] := .nil;have hB := Fr.up H;unfold F_spec_l1In at hF;refine .sr fun K hK => ?_;simp [];apply hK;clear hK K;rcases Bool.eq_false_or_eq_true (ile x1 x0) with hb1 | hb1
 ·replace hF := cd_t hb1 hF;refine .sr fun K hK => ?_;simp [hb1];apply hK;clear hK K;refine DWp.ret ?_;obtain rfl := Option.some.inj hF;exact ⟨by simp, [(Value.bool (ile x0 x2))], by simp [], A0, rfl, S0.pick [] (by decide) rfl⟩
 ·replace hF := cd_f hb1 hF;refine .sr fun K hK => ?_;simp [hb1];apply hK;clear hK K;refine DWp.ret ?_;obtain rfl := Option.some.inj hF;exact ⟨by simp, [(Value.bool false)], by simp [], A0, rfl, S0.pick [] (by decide) rfl⟩
def F_spec_l1All_L1 (fu : Nat) (k1_0 : Int) (k1_1 : Int) (k1_2 : List Int) (k1_3 : Int) : Nat → Int → Option (LR (Bool) (Int))
  | 0, _ => none
  | n + 1, y1_11 =>
    bif (ilt y1_11 k1_3) then
      gd (inL k1_2 y1_11) (
      bd (F_spec_l1In fu (gat 0 k1_2 y1_11) k1_0 k1_1) fun r1 =>
      bif (bnot r1) then
        some (.ret false)
      else
        F_spec_l1All_L1 fu k1_0 k1_1 k1_2 k1_3 n (iadd .i64 y1_11 1))
    else
      some (.brk y1_11)
def F_spec_l1All (fu : Nat) (x0 : List Int) (x1 : Int) (x2 : Int) : Option (Bool) :=
  bd (F_spec_l1All_L1 fu x1 x2 x0 (llen x0) fu 0) fun s1 =>
  lr s1 fun s1 =>
  some true
theorem F_spec_l1All_w {fu : Nat} {H : AH} {v0 : Value} {x0 : List Int} {x1 : Int} {x2 : Int} {r : (Bool)} (hx0 : Sl H v0 (ints x0)) (hF : F_spec_l1All fu x0 x1 x2 = some r) :
    ACallT Tryd.prog 49 [v0, (Value.int .i64 x1), (Value.int .i64 x2)] H (fun u G => AgB (Fr H) H G ∧ u = (Value.bool r) ∧ Sep G (Fr H) []) := by
 refine ACallT.of_body (nt := 21) (rs := [.tmp 6]) Tryd.func49 rfl rfl rfl rfl ?_;have A0 : AgB (Fr H) H H := .refl _ _;have S0 : Sep H (Fr H) [] := .nil;have hB := Fr.up H;unfold F_spec_l1All at hF;refine .sr fun K hK => ?_;simp [];apply hK;clear hK K;refine .seq ?_;have q1 := lenG (P := Tryd.prog) (hx0.agree A0.agree) el_22;refine .sr fun K hK => ?_;simp [q1];apply hK;clear hK K;refine .block ?_;obtain ⟨s2, hL3, hF⟩ := bd_some hF;have S4 := S0.pick [] (by decide) rfl;refine DWp.loop (fun n env G => ∃ y1_11 : Int, F_spec_l1All_L1 fu x1 x2 x0 (llen x0) n y1_11 = some s2 ∧ Sep G (Fr H) [] ∧ AgB (Fr H) H G ∧ env 1 = some (Value.int .i64 x1) ∧ env 2 = some (Value.int .i64 x2) ∧ env 9 = some v0 ∧ env 10 = some (Value.int .i64 (llen x0)) ∧ env 11 = some (Value.int .i64 y1_11)) fu ⟨0, hL3, S4, A0, by simp []⟩ ?_;rintro n1 env1 G1_ ⟨y1_11, hL3, S1_, A1_, e1_⟩;cases n1 with
 | zero => cases hL3
 | succ n1 =>
  simp only [F_spec_l1All_L1] at hL3;refine .sr fun K hK => ?_;simp [e1_];apply hK;clear hK K;refine .seq ?_;refine DWp.cond' (t := (ilt y1_11 (llen x0))) (by simp [e1_]) (fun hb5 => ?_) (fun hb5 => ?_)
  ·replace hL3 := cd_t hb5 hL3;refine DWp.skip ?_;simp only [andThen, leaves];refine .seq ?_;refine .block ?_;obtain ⟨g6, hL3⟩ := gd_some hL3;have q7 := idxG (P := Tryd.prog) (kk := .i64) (hx0.agree A1_.agree) el_22 sz_3 g6;have q8 := loadG (P := Tryd.prog) (hx0.agree A1_.agree) sz_3 ag_3 g6 0;refine .sr fun K hK => ?_;simp [e1_, q7, q8];apply hK;clear hK K;obtain ⟨r1, hc9, hL3⟩ := bd_some hL3;refine .sr fun K hK => ?_;simp [e1_];refine CallD.t (F_spec_l1In_w (fu := fu)  hc9) ?_;rintro _ G11 ⟨a14, rfl, S15⟩;have A13 := A1_.ext (hB.le A1_.1) a14.agree;have S12 : Sep G11 (Fr H) [] := S1_.app a14.agree S15 (fun _ h => h) (hB.le A1_.1);simp [e1_, a14.pre];apply hK;clear hK K;refine DWp.cond' (t := (bnot r1)) (by simp [e1_]) (fun hb16 => ?_) (fun hb16 => ?_)
   ·replace hL3 := cd_t hb16 hL3;refine .sr fun K hK => ?_;simp [e1_];apply hK;clear hK K;refine DWp.ret ?_;simp only [andThen, leaves];obtain rfl := Option.some.inj hL3;simp only [lr] at hF;obtain rfl := Option.some.inj hF;exact ⟨by simp, [(Value.bool false)], by simp [e1_], A13, rfl, S12.pick [] (by decide) rfl⟩
   ·replace hL3 := cd_f hb16 hL3;refine DWp.skip ?_;simp only [andThen, leaves];refine .region fun K hK => ?_;simp [e1_];apply hK;clear hK K;simp only [andThen, leaves];have S17 := S12.pick [] (by decide) rfl;exact ⟨n1, Nat.lt_succ_self _, (iadd .i64 y1_11 1), hL3, S17, A13, by simp [e1_]⟩
  ·replace hL3 := cd_f hb5 hL3;refine DWp.exit ?_;simp only [andThen, leaves, if_true, if_false, reduceIte, Nat.reduceEqDiff];obtain rfl := Option.some.inj hL3;simp only [lr] at hF;refine .sr fun K hK => ?_;simp [e1_];apply hK;clear hK K;refine DWp.ret ?_;obtain rfl := Option.some.inj hF;exact ⟨by simp, [(Value.bool true)], by simp [e1_], A1_, rfl, S1_.pick [] (by decide) rfl⟩
def F_spec_swSum_L1 (fu : Nat) (k1_0 : List Int) (k1_1 : Int) : Nat → Int → Int → Option (Int × Int)
  | 0, _, _ => none
  | n + 1, y1_3, y1_8 =>
    bif (ilt y1_8 k1_1) then
      gd (inL k1_0 y1_8) (
      F_spec_swSum_L1 fu k1_0 k1_1 n (iadd .i64 y1_3 (gat 0 k1_0 y1_8)) (iadd .i64 y1_8 1))
    else
      some (y1_3, y1_8)
def F_spec_swSum (fu : Nat) (x0 : List Int) : Option (Int) :=
  bd (F_spec_swSum_L1 fu x0 (llen x0) fu 0 0) fun s1 =>
  some s1.1
theorem F_spec_swSum_w {fu : Nat} {H : AH} {v0 : Value} {x0 : List Int} {r : (Int)} (hx0 : Sl H v0 (ints x0)) (hF : F_spec_swSum fu x0 = some r) :
    ACallT Tryd.prog 36 [v0] H (fun u G => AgB (Fr H) H G ∧ u = (Value.int .i64 r) ∧ Sep G (Fr H) []) := by
 refine ACallT.of_body (nt := 17) (rs := [.tmp 2]) Tryd.func36 rfl rfl rfl rfl ?_;have A0 : AgB (Fr H) H H := .refl _ _;have S0 : Sep H (Fr H) [] := .nil;have hB := Fr.up H;unfold F_spec_swSum at hF;refine .sr fun K hK => ?_;simp [];apply hK;clear hK K;refine .sr fun K hK => ?_;simp [];apply hK;clear hK K;refine .seq ?_;have q1 := lenG (P := Tryd.prog) (hx0.agree A0.agree) el_22;refine .sr fun K hK => ?_;simp [q1];apply hK;clear hK K;refine .block ?_;obtain ⟨s2, hL3, hF⟩ := bd_some hF;have S4 := S0.pick [] (by decide) rfl;refine DWp.loop (fun n env G => ∃ y1_3 : Int, ∃ y1_8 : Int, F_spec_swSum_L1 fu x0 (llen x0) n y1_3 y1_8 = some s2 ∧ Sep G (Fr H) [] ∧ AgB (Fr H) H G ∧ env 3 = some (Value.int .i64 y1_3) ∧ env 6 = some v0 ∧ env 7 = some (Value.int .i64 (llen x0)) ∧ env 8 = some (Value.int .i64 y1_8)) fu ⟨0, 0, hL3, S4, A0, by simp []⟩ ?_;rintro n1 env1 G1_ ⟨y1_3, y1_8, hL3, S1_, A1_, e1_⟩;cases n1 with
 | zero => cases hL3
 | succ n1 =>
  simp only [F_spec_swSum_L1] at hL3;refine .sr fun K hK => ?_;simp [e1_];apply hK;clear hK K;refine .seq ?_;refine DWp.cond' (t := (ilt y1_8 (llen x0))) (by simp [e1_]) (fun hb5 => ?_) (fun hb5 => ?_)
  ·replace hL3 := cd_t hb5 hL3;refine DWp.skip ?_;simp only [andThen, leaves];refine .seq ?_;refine .block ?_;obtain ⟨g6, hL3⟩ := gd_some hL3;have q7 := idxG (P := Tryd.prog) (kk := .i64) (hx0.agree A1_.agree) el_22 sz_3 g6;have q8 := loadG (P := Tryd.prog) (hx0.agree A1_.agree) sz_3 ag_3 g6 0;refine .sr fun K hK => ?_;simp [e1_, q7, q8];apply hK;clear hK K;refine .region fun K hK => ?_;simp [e1_];apply hK;clear hK K;simp only [andThen, leaves];refine .region fun K hK => ?_;simp [e1_];apply hK;clear hK K;simp only [andThen, leaves];have S9 := S1_.pick [] (by decide) rfl;exact ⟨n1, Nat.lt_succ_self _, (iadd .i64 y1_3 (gat 0 x0 y1_8)), (iadd .i64 y1_8 1), hL3, S9, A1_, by simp [e1_]⟩
  ·replace hL3 := cd_f hb5 hL3;refine DWp.exit ?_;simp only [andThen, leaves, if_true, if_false, reduceIte, Nat.reduceEqDiff];obtain rfl := Option.some.inj hL3;try dsimp only at hF
   refine .sr fun K hK => ?_;simp [e1_];apply hK;clear hK K;refine DWp.ret ?_;obtain rfl := Option.some.inj hF;exact ⟨by simp, [(Value.int .i64 y1_3)], by simp [e1_], A1_, rfl, S1_.pick [] (by decide) rfl⟩
def F_spec_swParts (fu : Nat) (x0 : List Int) : Option (Bool) :=
  bd (
    bif (ilt 20 (llen x0)) then
      some true
    else
      bd (F_spec_l1All fu x0 1 20) fun r1 =>
      some (bnot r1)) fun s1 =>
  bif s1 then
    some false
  else
    bd (F_spec_swSum fu x0) fun r2 =>
    some (ile r2 20)
theorem F_spec_swParts_w {fu : Nat} {H : AH} {v0 : Value} {x0 : List Int} {r : (Bool)} (hx0 : Sl H v0 (ints x0)) (hF : F_spec_swParts fu x0 = some r) :
    ACallT Tryd.prog 35 [v0] H (fun u G => AgB (Fr H) H G ∧ u = (Value.bool r) ∧ Sep G (Fr H) []) := by
 refine ACallT.of_body (nt := 14) (rs := [.tmp 2]) Tryd.func35 rfl rfl rfl rfl ?_;have A0 : AgB (Fr H) H H := .refl _ _;have S0 : Sep H (Fr H) [] := .nil;have hB := Fr.up H;unfold F_spec_swParts at hF;refine .sr fun K hK => ?_;simp [];apply hK;clear hK K;refine .seq ?_;obtain ⟨s1, hL2, hF⟩ := bd_some hF;refine DWp.seq (DWp.join (fun env G => Sep G (Fr H) [] ∧ AgB (Fr H) H G ∧ env 0 = some v0 ∧ env 10 = some (Value.bool s1)) ?_ ?_)
 ·
  have q4 := lenG (P := Tryd.prog) (hx0.agree A0.agree) el_22;rcases Bool.eq_false_or_eq_true (ilt 20 (llen x0)) with hb5 | hb5
  ·replace hL2 := cd_t hb5 hL2;refine .region fun K hK => ?_;simp [hb5, q4];apply hK;clear hK K;simp only [andThen, leaves];have S6 := S0.pick [] (by decide) rfl;obtain rfl := Option.some.inj hL2;exact ⟨S6, A0, by simp []⟩
  ·replace hL2 := cd_f hb5 hL2;obtain ⟨r1, hc7, hL2⟩ := bd_some hL2;refine .region fun K hK => ?_;simp [hb5, q4, ((hx0.agree A0.agree).tup)];refine CallD.t (F_spec_l1All_w (fu := fu) (hx0.agree A0.agree) hc7) ?_;rintro _ G9 ⟨a12, rfl, S13⟩;have A11 := A0.ext (hB.le A0.1) a12.agree;have S10 : Sep G9 (Fr H) [] := S0.app a12.agree S13 (fun _ h => h) (hB.le A0.1);simp [hb5, q4, a12.pre];apply hK;clear hK K;simp only [andThen, leaves];have S14 := S10.pick [] (by decide) rfl;obtain rfl := Option.some.inj hL2;exact ⟨S14, A11, by simp []⟩
 ·rintro env Gj15 ⟨Sj15, Aj15, ej15_⟩;refine DWp.cond' (t := s1) (by simp [ej15_]) (fun hb16 => ?_) (fun hb16 => ?_)
  ·replace hF := cd_t hb16 hF;refine .sr fun K hK => ?_;simp [ej15_];apply hK;clear hK K;refine DWp.ret ?_;simp only [andThen, leaves];obtain rfl := Option.some.inj hF;exact ⟨by simp, [(Value.bool false)], by simp [ej15_], Aj15, rfl, Sj15.pick [] (by decide) rfl⟩
  ·replace hF := cd_f hb16 hF;refine DWp.skip ?_;simp only [andThen, leaves];obtain ⟨r2, hc17, hF⟩ := bd_some hF;refine .sr fun K hK => ?_;simp [ej15_, ((hx0.agree Aj15.agree).tup)];refine CallD.t (F_spec_swSum_w (fu := fu) (hx0.agree Aj15.agree) hc17) ?_;rintro _ G19 ⟨a22, rfl, S23⟩;have A21 := Aj15.ext (hB.le Aj15.1) a22.agree;have S20 : Sep G19 (Fr H) [] := Sj15.app a22.agree S23 (fun _ h => h) (hB.le Aj15.1);simp [ej15_, a22.pre];apply hK;clear hK K;refine DWp.ret ?_;obtain rfl := Option.some.inj hF;exact ⟨by simp, [(Value.bool (ile r2 20))], by simp [ej15_], A21, rfl, S20.pick [] (by decide) rfl⟩
def F_spec_swGood (fu : Nat) (x0_0 : List Int) (x0_1 : List Int) : Option (Bool) :=
  bd (F_spec_swParts fu x0_0) fun r1 =>
  bif r1 then
    bd (F_spec_swParts fu x0_1) fun r2 =>
    bif r2 then
      bd (F_spec_swSum fu x0_0) fun r3 =>
      bd (F_spec_swSum fu x0_1) fun r4 =>
      some (ieq r3 r4)
    else
      some false
  else
    some false
theorem F_spec_swGood_w {fu : Nat} {H : AH} {v0_0 : Value} {v0_1 : Value} {x0_0 : List Int} {x0_1 : List Int} {r : (Bool)} (hx0_0 : Sl H v0_0 (ints x0_0)) (hx0_1 : Sl H v0_1 (ints x0_1)) (hF : F_spec_swGood fu x0_0 x0_1 = some r) :
    ACallT Tryd.prog 21 [(Value.agg #[v0_0, v0_1])] H (fun u G => AgB (Fr H) H G ∧ u = (Value.bool r) ∧ Sep G (Fr H) []) := by
 refine ACallT.of_body (nt := 20) (rs := [.tmp 2]) Tryd.func21 rfl rfl rfl rfl ?_;have A0 : AgB (Fr H) H H := .refl _ _;have S0 : Sep H (Fr H) [] := .nil;have hB := Fr.up H;unfold F_spec_swGood at hF;obtain ⟨G2, p4, q5, q6, a7, S1⟩ := S0.boxT (hB.le A0.1) 28 [v0_0, v0_1];have A3 := A0.ext (hB.le A0.1) a7;replace S1 : Sep G2 (Fr H) [AL.box p4 [v0_0, v0_1]] := S1;refine .sr fun K hK => ?_;simp [q5, q6, a7.to_pre, cells_agg];apply hK;clear hK K;have q8 := S1.fieldT (P := Tryd.prog) (k := 0) rfl fa_28_0;have q9 := S1.loadF (P := Tryd.prog) (k := 0) rfl sz_22 ag_22 (off := 0) rfl;obtain ⟨r1, hc10, hF⟩ := bd_some hF;refine .sd (B := [0, 1, 3, 7, 15, 31, 63, 127, 255, 511, 1023, 2047, 511, 4607, 16383, 32767, 65535, 131071]) 18 mixed (by kernel_rfl) (by decide) fun K hK => ?_;simp [q8, q9, ((hx0_0.agree A3.agree).tup)];refine CallD.t (F_spec_swParts_w (fu := fu) (hx0_0.agree A3.agree) hc10) ?_;rintro _ G12 ⟨a15, rfl, S16⟩;have A14 := A3.ext (hB.le A3.1) a15.agree;have S13 : Sep G12 (Fr H) [AL.box p4 [v0_0, v0_1]] := S1.app a15.agree S16 (fun _ h => h) (hB.le A3.1);rcases Bool.eq_false_or_eq_true r1 with hb17 | hb17
 ·replace hF := cd_t hb17 hF;have q18 := S13.fieldT (P := Tryd.prog) (k := 0) rfl fa_28_1;have q19 := S13.loadF (P := Tryd.prog) (k := 0) rfl sz_22 ag_22 (off := 1) rfl;obtain ⟨r2, hc20, hF⟩ := bd_some hF;simp [hb17, q8, q9, a15.pre, q18, q19, ((hx0_1.agree A14.agree).tup)];refine CallD.t (F_spec_swParts_w (fu := fu) (hx0_1.agree A14.agree) hc20) ?_;rintro _ G22 ⟨a25, rfl, S26⟩;have A24 := A14.ext (hB.le A14.1) a25.agree;have S23 : Sep G22 (Fr H) [AL.box p4 [v0_0, v0_1]] := S13.app a25.agree S26 (fun _ h => h) (hB.le A14.1);rcases Bool.eq_false_or_eq_true r2 with hb27 | hb27
  ·replace hF := cd_t hb27 hF;have q28 := S23.fieldT (P := Tryd.prog) (k := 0) rfl fa_28_0;have q29 := S23.loadF (P := Tryd.prog) (k := 0) rfl sz_22 ag_22 (off := 0) rfl;obtain ⟨r3, hc30, hF⟩ := bd_some hF;simp [hb17, hb27, q8, q9, a15.pre, q18, q19, a25.pre, q28, q29, ((hx0_0.agree A24.agree).tup)];refine CallD.t (F_spec_swSum_w (fu := fu) (hx0_0.agree A24.agree) hc30) ?_;rintro _ G32 ⟨a35, rfl, S36⟩;have A34 := A24.ext (hB.le A24.1) a35.agree;have S33 : Sep G32 (Fr H) [AL.box p4 [v0_0, v0_1]] := S23.app a35.agree S36 (fun _ h => h) (hB.le A24.1);have q37 := S33.fieldT (P := Tryd.prog) (k := 0) rfl fa_28_1;have q38 := S33.loadF (P := Tryd.prog) (k := 0) rfl sz_22 ag_22 (off := 1) rfl;obtain ⟨r4, hc39, hF⟩ := bd_some hF;simp [hb17, hb27, q8, q9, a15.pre, q18, q19, a25.pre, q28, q29, a35.pre, q37, q38, ((hx0_1.agree A34.agree).tup)];refine CallD.t (F_spec_swSum_w (fu := fu) (hx0_1.agree A34.agree) hc39) ?_;rintro _ G41 ⟨a44, rfl, S45⟩;have A43 := A34.ext (hB.le A34.1) a44.agree;have S42 : Sep G41 (Fr H) [AL.box p4 [v0_0, v0_1]] := S33.app a44.agree S45 (fun _ h => h) (hB.le A34.1);simp [hb17, hb27, q8, q9, a15.pre, q18, q19, a25.pre, q28, q29, a35.pre, q37, q38, a44.pre];apply hK;clear hK K;refine DWp.ret ?_;obtain rfl := Option.some.inj hF;exact ⟨by simp, [(Value.bool (ieq r3 r4))], by simp [], A43, rfl, S42.pick [] (by decide) rfl⟩
  ·replace hF := cd_f hb27 hF;simp [hb17, hb27, q8, q9, a15.pre, q18, q19, a25.pre];apply hK;clear hK K;refine DWp.ret ?_;obtain rfl := Option.some.inj hF;exact ⟨by simp, [(Value.bool false)], by simp [], A24, rfl, S23.pick [] (by decide) rfl⟩
 ·replace hF := cd_f hb17 hF;simp [hb17, q8, q9, a15.pre];apply hK;clear hK K;refine DWp.ret ?_;obtain rfl := Option.some.inj hF;exact ⟨by simp, [(Value.bool false)], by simp [], A14, rfl, S13.pick [] (by decide) rfl⟩
def F_spec_l1Num : Nat → Int → Option (ByteArray)
  | 0, _ => none
  | fu + 1, x0 =>
    bif (ilt x0 10) then
      some (bstr [(iwr .u8 (iadd .i64 48 x0))])
    else
      bd (F_spec_l1Num fu (iquo .i64 x0 10)) fun r1 =>
      gd (r1.size + (bstr [(iwr .u8 (iadd .i64 48 (irem x0 10)))]).size ≤ 9223372036854775807) (
      some (sapp r1 (bstr [(iwr .u8 (iadd .i64 48 (irem x0 10)))])))
theorem F_spec_l1Num_w : ∀ {fu : Nat} {H : AH}  {x0 : Int} {r : (ByteArray)}  (hF : F_spec_l1Num fu x0 = some r),
    ACallT Tryd.prog 50 [(Value.int .i64 x0)] H (fun u G => AgB (Fr H) H G ∧ u = (Value.string r) ∧ Sep G (Fr H) []) := by
 intro fu;induction fu with
 | zero => intros; rename_i hF; cases hF
 | succ fu ih =>
 intro H  x0 r  hF;simp only [F_spec_l1Num] at hF;refine ACallT.of_body (nt := 20) (rs := [.tmp 2]) Tryd.func50 rfl rfl rfl rfl ?_;have A0 : AgB (Fr H) H H := .refl _ _;have S0 : Sep H (Fr H) [] := .nil;have hB := Fr.up H;refine .sr fun K hK => ?_;simp [];apply hK;clear hK K;refine .seq ?_;refine .sr fun K hK => ?_;simp [];apply hK;clear hK K;refine DWp.cond' (t := (ilt x0 10)) (by simp []) (fun hb1 => ?_) (fun hb1 => ?_)
 ·replace hF := cd_t hb1 hF;obtain ⟨v2, G3, q4, S5, a7, _, _⟩ := S0.lit1 (P := Tryd.prog) (t := 60) (hB.le A0.1) el_60 ei_5 rfl (Value.int .u8 (iwr .u8 (iadd .i64 48 x0))) rfl rfl;have A6 := A0.ext (hB.le A0.1) a7;replace S5 : Sep G3 (Fr H) [flat1 v2 5 (u8s [(iwr .u8 (iadd .i64 48 x0))])] := S5;have q9 := c_bytes (P := Tryd.prog) us_60 un_5 un_9 (S5.sl1 (k := 0) rfl);refine .sr fun K hK => ?_;simp [c_int un_3 un_5, q4, a7.to_pre, q9];apply hK;clear hK K;refine DWp.ret ?_;simp only [andThen, leaves];obtain rfl := Option.some.inj hF;exact ⟨by simp, [(Value.string (bstr [(iwr .u8 (iadd .i64 48 x0))]))], by simp [], A6, rfl, S5.pick [] (by decide) rfl⟩
 ·replace hF := cd_f hb1 hF;refine DWp.skip ?_;simp only [andThen, leaves];have g10 : (10 : Int) ≠ 0 := by decide
  obtain ⟨r1, hc11, hF⟩ := bd_some hF;refine .sd (B := [0, 1, 3, 0, 8, 24, 56, 120, 248, 511, 1023]) 11 mixed (by kernel_rfl) (by decide) fun K hK => ?_;simp [b_quo g10];refine CallD.t (ih  hc11) ?_;rintro _ G13 ⟨a16, rfl, S17⟩;have A15 := A0.ext (hB.le A0.1) a16.agree;have S14 : Sep G13 (Fr H) [] := S0.app a16.agree S17 (fun _ h => h) (hB.le A0.1);have g18 : (10 : Int) ≠ 0 := by decide
  obtain ⟨v19, G20, q21, S22, a24, fl25⟩ := S14.lit1E (P := Tryd.prog) (t := 60) (hB.le A15.1) el_60 ei_5 rfl (Value.int .u8 (iwr .u8 (iadd .i64 48 (irem x0 10)))) rfl rfl;have A23 := A15.ext (hB.le A15.1) a24;replace S22 : Sep G20 (Fr H) [flat1 v19 5 (u8s [(iwr .u8 (iadd .i64 48 (irem x0 10)))])] := S22;have q26 := c_bytes (P := Tryd.prog) us_60 un_5 un_9 (S22.sl1 (k := 0) rfl);obtain ⟨g27, hF⟩ := gd_some hF;simp [b_quo g10, a16.pre, b_rem g18, c_int un_3 un_5, q21, a24.to_pre, q26, s_add g27];apply hK;clear hK K;refine DWp.ret ?_;obtain rfl := Option.some.inj hF;exact ⟨by simp, [(Value.string (sapp r1 (bstr [(iwr .u8 (iadd .i64 48 (irem x0 10)))])))], by simp [], A23, rfl, S22.pick [] (by decide) rfl⟩
end Go.Proofs.YtcbdgkgdopkofaaDoor.AL

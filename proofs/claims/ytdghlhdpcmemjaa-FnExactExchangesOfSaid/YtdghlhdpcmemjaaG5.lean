/- The walks of functions, each with its Lean function: impl.exchanged, impl.ExchangeAt, laws.markIntS, laws.heldIntS, laws.FnExactExchangeAt, spec.exBefore, spec.l1Same, spec.exPut, spec.ExchangesOf, slices.insertionSortCmpFunc[[]int]. No condition. -/
import Derived.Test.YtdghlhdpcmemjaaFBD
import Derived.Test.YtdghlhdpcmemjaaFBE
import Derived.Test.YtdghlhdpcmemjaaG1
import Derived.Test.YtdghlhdpcmemjaaG2
import Derived.Test.YtdghlhdpcmemjaaG3
import Derived.Test.YtdghlhdpcmemjaaG4
import Derived.Test.YtdghlhdpcmemjaaALD
import Derived.Test.YtdghlhdpcmemjaaProg
import Derived.KernelRfl
namespace Go.Proofs.Ytdghlhdpcmemjaa.AL
open Go Go.RowKit
set_option linter.unusedVariables false
set_option linter.unusedSimpArgs false
set_option maxRecDepth 4096
attribute [local simp] n_fn b_add b_sub b_mul b_lt b_le b_gt b_ge b_eq b_ne u_not
theorem ze_22 : zeroT Try.prog 22 = some (.slice none 0 0) := by kernel_rfl
def F_impl_exchanged (fu : Nat) (x0 : List Int) (x1 : Int) (x2 : Int) : Option (List Int) :=
  bd (F_slices_Clone_Sint fu x0) fun r1 =>
  gd (inL x0 x2) (
  gd (inL x0 x1) (
  bif (ilt (gat 0 x0 x2) (gat 0 x0 x1)) then
    bd (F_impl_exchanged_1 fu x1 x2 r1) fun r2 =>
    gd (inL x0 x2) (
    gd (inL x0 x1) (
    bd (F_impl_exchanged_1 fu (gat 0 x0 x2) (gat 0 x0 x1) r2) fun r3 =>
    some r3))
  else
    gd (inL x0 x2) (
    bd (F_impl_exchanged_1 fu x1 (gat 0 x0 x2) r1) fun r4 =>
    gd (inL x0 x1) (
    bd (F_impl_exchanged_1 fu (gat 0 x0 x1) x2 r4) fun r5 =>
    some r5))))
theorem F_impl_exchanged_w {fu : Nat} {H : AH} {v0 : Value} {x0 : List Int} {x1 : Int} {x2 : Int} {r : (List Int)} (hx0 : Sl H v0 (ints x0)) (hF : F_impl_exchanged fu x0 x1 x2 = some r) :
    ACallT Try.prog 70 [v0, (Value.int .i64 x1), (Value.int .i64 x2)] H (fun u G => AgB (Fr H) H G ∧ ∃ u0 : Value, u = u0 ∧ Sep G (Fr H) [flat u0 3 (ints r)]) := by
 refine ACallT.of_body (nt := 50) (rs := [.tmp 6]) Try.func70 rfl rfl rfl rfl ?_;have A0 : AgB (Fr H) H H := .refl _ _;have S0 : Sep H (Fr H) [] := .nil;have hB := Fr.up H;unfold F_impl_exchanged at hF;refine .sr fun K hK => ?_;simp [];apply hK;clear hK K;obtain ⟨r1, hc1, hF⟩ := bd_some hF;refine .sr fun K hK => ?_;simp [((hx0.agree A0.agree).tup)];refine CallD.t (F_slices_Clone_Sint_w (fu := fu) (hx0.agree A0.agree) hc1) ?_;rintro c2_u0 G3 ⟨a6, _, rfl, S7⟩;have A5 := A0.ext (hB.le A0.1) a6.agree;have S4 : Sep G3 (Fr H) [flat c2_u0 3 (ints r1)] := S0.app a6.agree S7 (fun _ h => h) (hB.le A0.1);obtain ⟨G9, p11, q12, q14, a13, S8⟩ := S4.allocT (P := Try.prog) (hB.le A5.1) ze_22 rfl;have A10 := A5.ext (hB.le A5.1) a13;replace S8 : Sep G9 (Fr H) [flat c2_u0 3 (ints r1), AL.box p11 [(Value.slice none 0 0)]] := S8;obtain ⟨G15, q16, S17, a19⟩ := S8.put0 (P := Try.prog) (k := 1) rfl (hB.le A10.1) sz_22 ((S8.sl (k := 0) rfl).tup) ((S8.sl (k := 0) rfl).one);have A18 := A10.trans a19;replace S17 : Sep G15 (Fr H) [flat c2_u0 3 (ints r1), AL.box p11 [c2_u0]] := S17;simp [a6.pre, q12, q14, a13.to_pre, q16];apply hK;clear hK K;refine .sr fun K hK => ?_;simp [(S17.flatT (k := 1) rfl)];apply hK;clear hK K;refine .seq ?_;obtain ⟨g20, hF⟩ := gd_some hF;have q21 := idxG (P := Try.prog) (kk := .i64) (hx0.agree A18.agree) el_22 sz_3 g20;have q22 := loadG (P := Try.prog) (hx0.agree A18.agree) sz_3 ag_3 g20 0;obtain ⟨g23, hF⟩ := gd_some hF;have q24 := idxG (P := Try.prog) (kk := .i64) (hx0.agree A18.agree) el_22 sz_3 g23;have q25 := loadG (P := Try.prog) (hx0.agree A18.agree) sz_3 ag_3 g23 0;refine .sd (B := [0, 0, 3, 7, 0, 0, 48, 112, 255]) 9 mixed (by kernel_rfl) (by decide) fun K hK => ?_;simp [q21, q22, q24, q25];apply hK;clear hK K
 refine DWp.cond' (t := (ilt (gat 0 x0 x2) (gat 0 x0 x1))) (by simp []) (fun hb26 => ?_) (fun hb26 => ?_)
 ·replace hF := cd_t hb26 hF;obtain ⟨r2, hc27, hF⟩ := bd_some hF;refine .sr fun K hK => ?_;simp [(S17.ptup (k := 1) rfl)];have S28 : Sep G15 (Fr H) ([flat c2_u0 3 (ints r1), AL.box p11 [c2_u0]] ++ []) := S17.pick [0, 1] (by decide) rfl;obtain ⟨B34, S29, U30, M31, R32, C33⟩ := S28.frame (hB.le A18.1);refine CallD.t (F_impl_exchanged_1_w (fu := fu) U30 S29 hc27) ?_;rintro _ G36 ⟨a39, rfl, S40⟩;have A38 := A18.trans (a39.mono M31);have S37 : Sep G36 (Fr H) [flat c2_u0 3 (ints r2), AL.box p11 [c2_u0]] := C33 _ _ a39 S40;simp [];apply hK;clear hK K;obtain ⟨g41, hF⟩ := gd_some hF;have q42 := idxG (P := Try.prog) (kk := .i64) (hx0.agree A38.agree) el_22 sz_3 g41;have q43 := loadG (P := Try.prog) (hx0.agree A38.agree) sz_3 ag_3 g41 0;obtain ⟨g44, hF⟩ := gd_some hF;have q45 := idxG (P := Try.prog) (kk := .i64) (hx0.agree A38.agree) el_22 sz_3 g44;have q46 := loadG (P := Try.prog) (hx0.agree A38.agree) sz_3 ag_3 g44 0;obtain ⟨r3, hc47, hF⟩ := bd_some hF;refine .drawn (B := [0, 0, 0, 6, 14, 0, 0, 96, 224, 511]) 9 mixed (by kernel_rfl) (by decide) fun K hK => ?_;simp [q42, q43, q45, q46, (S37.ptup (k := 1) rfl)];have S48 : Sep G36 (Fr H) ([flat c2_u0 3 (ints r2), AL.box p11 [c2_u0]] ++ []) := S37.pick [0, 1] (by decide) rfl;obtain ⟨B54, S49, U50, M51, R52, C53⟩ := S48.frame (hB.le A38.1);refine CallD.t (F_impl_exchanged_1_w (fu := fu) U50 S49 hc47) ?_;rintro _ G56 ⟨a59, rfl, S60⟩;have A58 := A38.trans (a59.mono M51);have S57 : Sep G56 (Fr H) [flat c2_u0 3 (ints r3), AL.box p11 [c2_u0]] := C53 _ _ a59 S60;simp [q42, q43, q45, q46];apply hK;clear hK K;simp only [andThen, leaves];have q61 := S57.load0 (P := Try.prog) (k := 1) rfl sz_22 ag_22;refine .sr fun K hK => ?_;simp [q61];apply hK;clear hK K;refine DWp.ret ?_;obtain rfl := Option.some.inj hF
  exact ⟨by simp, [c2_u0], by simp [((S57.sl (k := 0) rfl).tup)], A58, c2_u0, rfl, S57.pick [0] (by decide) rfl⟩
 ·replace hF := cd_f hb26 hF;obtain ⟨g62, hF⟩ := gd_some hF;have q63 := idxG (P := Try.prog) (kk := .i64) (hx0.agree A18.agree) el_22 sz_3 g62;have q64 := loadG (P := Try.prog) (hx0.agree A18.agree) sz_3 ag_3 g62 0;obtain ⟨r4, hc65, hF⟩ := bd_some hF;refine .sr fun K hK => ?_;simp [q63, q64, (S17.ptup (k := 1) rfl)];have S66 : Sep G15 (Fr H) ([flat c2_u0 3 (ints r1), AL.box p11 [c2_u0]] ++ []) := S17.pick [0, 1] (by decide) rfl;obtain ⟨B72, S67, U68, M69, R70, C71⟩ := S66.frame (hB.le A18.1);refine CallD.t (F_impl_exchanged_1_w (fu := fu) U68 S67 hc65) ?_;rintro _ G74 ⟨a77, rfl, S78⟩;have A76 := A18.trans (a77.mono M69);have S75 : Sep G74 (Fr H) [flat c2_u0 3 (ints r4), AL.box p11 [c2_u0]] := C71 _ _ a77 S78;simp [q63, q64];apply hK;clear hK K;obtain ⟨g79, hF⟩ := gd_some hF;have q80 := idxG (P := Try.prog) (kk := .i64) (hx0.agree A76.agree) el_22 sz_3 g79;have q81 := loadG (P := Try.prog) (hx0.agree A76.agree) sz_3 ag_3 g79 0;obtain ⟨r5, hc82, hF⟩ := bd_some hF;refine .region fun K hK => ?_;simp [q80, q81, (S75.ptup (k := 1) rfl)];have S83 : Sep G74 (Fr H) ([flat c2_u0 3 (ints r4), AL.box p11 [c2_u0]] ++ []) := S75.pick [0, 1] (by decide) rfl;obtain ⟨B89, S84, U85, M86, R87, C88⟩ := S83.frame (hB.le A76.1);refine CallD.t (F_impl_exchanged_1_w (fu := fu) U85 S84 hc82) ?_;rintro _ G91 ⟨a94, rfl, S95⟩;have A93 := A76.trans (a94.mono M86);have S92 : Sep G91 (Fr H) [flat c2_u0 3 (ints r5), AL.box p11 [c2_u0]] := C88 _ _ a94 S95;simp [q80, q81];apply hK;clear hK K;simp only [andThen, leaves];have q96 := S92.load0 (P := Try.prog) (k := 1) rfl sz_22 ag_22;refine .sr fun K hK => ?_;simp [q96];apply hK;clear hK K;refine DWp.ret ?_;obtain rfl := Option.some.inj hF;exact ⟨by simp, [c2_u0], by simp [((S92.sl (k := 0) rfl).tup)], A93, c2_u0, rfl, S92.pick [0] (by decide) rfl⟩
def F_laws_markIntS_L1 (fu : Nat)  : Nat → List Int → Int → Int → Option (List Int × Int × Int)
  | 0, _, _, _ => none
  | n + 1, l1_0, y1_1, y1_5 =>
    bif (ilt y1_5 (llen l1_0)) then
      gd (inL l1_0 y1_5) (
      F_laws_markIntS_L1 fu n (lset l1_0 y1_5 y1_1) (iadd .i64 y1_1 1) (iadd .i64 y1_5 1))
    else
      some (l1_0, y1_1, y1_5)
def F_laws_markIntS (fu : Nat) (x0 : List Int) (x1 : Int) : Option (Int × List Int) :=
  bd (F_laws_markIntS_L1 fu fu x0 x1 0) fun s1 =>
  some (s1.2.1, s1.1)
theorem F_laws_markIntS_w {fu : Nat} {H : AH} {B : Nat → Prop} {v0 : Value} {x0 : List Int} {x1 : Int} {r : (Int × List Int)} (hB : Up B H.length) (S0 : Sep H B [flat v0 3 (ints x0)]) (hF : F_laws_markIntS fu x0 x1 = some r) :
    ACallT Try.prog 20 [v0, (Value.int .i64 x1)] H (fun u G => AgB B H G ∧ u = (Value.int .i64 r.1) ∧ Sep G B [flat v0 3 (ints r.2)]) := by
 refine ACallT.of_body (nt := 19) (rs := [.tmp 4]) Try.func20 rfl rfl rfl rfl ?_;have A0 : AgB B H H := .refl _ _;unfold F_laws_markIntS at hF;refine .sr fun K hK => ?_;simp [];apply hK;clear hK K;refine .seq ?_;refine .sr fun K hK => ?_;simp [];apply hK;clear hK K;refine .block ?_;obtain ⟨s1, hL2, hF⟩ := bd_some hF;have S3 := S0.pick [0] (by decide) rfl;refine DWp.loop (fun n env G => ∃ l1_0 : List Int, ∃ y1_1 : Int, ∃ y1_5 : Int, F_laws_markIntS_L1 fu n l1_0 y1_1 y1_5 = some s1 ∧ Sep G B [flat v0 3 (ints l1_0)] ∧ AgB B H G ∧ env 0 = some v0 ∧ env 1 = some (Value.int .i64 y1_1) ∧ env 5 = some (Value.int .i64 y1_5)) fu ⟨x0, x1, 0, hL2, S3, A0, by simp []⟩ ?_;rintro n1 env1 G1_ ⟨l1_0, y1_1, y1_5, hL2, S1_, A1_, e1_0, e1_1, e1_5⟩;cases n1 with
 | zero => cases hL2
 | succ n1 =>
  simp only [F_laws_markIntS_L1] at hL2;refine .seq ?_;have q4 := lenG (P := Try.prog) (S1_.sl (k := 0) rfl) el_22;refine .sr fun K hK => ?_;simp [e1_0, e1_1, e1_5, q4];apply hK;clear hK K;refine DWp.cond' (t := (ilt y1_5 (llen l1_0))) (by simp [e1_0, e1_1, e1_5]) (fun hb5 => ?_) (fun hb5 => ?_)
  ·replace hL2 := cd_t hb5 hL2;refine DWp.skip ?_;simp only [andThen, leaves];refine .seq ?_;refine .block ?_;obtain ⟨g6, hL2⟩ := gd_some hL2;have q7 := idxG (P := Try.prog) (kk := .i64) (S1_.sl (k := 0) rfl) el_22 sz_3 g6;obtain ⟨G8, q9, S10, a12⟩ := S1_.storeG (f := (Value.int .i64)) (P := Try.prog) (k := 0) (x := y1_1) rfl (hB.le A1_.1) sz_3 g6 rfl rfl;have A11 := A1_.trans a12;replace S10 : Sep G8 B [flat v0 3 (ints (lset l1_0 y1_5 y1_1))] := S10;refine .sr fun K hK => ?_;simp [e1_0, e1_1, e1_5, q7, q9];apply hK;clear hK K;refine .region fun K hK => ?_;simp [e1_0, e1_1, e1_5];apply hK;clear hK K;simp only [andThen, leaves];refine .region fun K hK => ?_;simp [e1_0, e1_1, e1_5];apply hK;clear hK K;simp only [andThen, leaves];have S13 := S10.pick [0] (by decide) rfl;exact ⟨n1, Nat.lt_succ_self _, (lset l1_0 y1_5 y1_1), (iadd .i64 y1_1 1), (iadd .i64 y1_5 1), hL2, S13, A11, by simp [e1_0, e1_1, e1_5]⟩
  ·replace hL2 := cd_f hb5 hL2;refine DWp.exit ?_;simp only [andThen, leaves, if_true, if_false, reduceIte, Nat.reduceEqDiff];obtain rfl := Option.some.inj hL2;try dsimp only at hF
   refine .sr fun K hK => ?_;simp [e1_0, e1_1, e1_5];apply hK;clear hK K;refine DWp.ret ?_;obtain rfl := Option.some.inj hF;exact ⟨by simp, [(Value.int .i64 y1_1)], by simp [e1_0, e1_1, e1_5], A1_, rfl, S1_.pick [0] (by decide) rfl⟩
def F_laws_heldIntS_L1 (fu : Nat) (k1_0 : List Int) : Nat → Int → Int → Option (LR (Int) (Int × Int))
  | 0, _, _ => none
  | n + 1, y1_1, y1_5 =>
    bif (ilt y1_5 (llen k1_0)) then
      gd (inL k1_0 y1_5) (
      bif (ine (gat 0 k1_0 y1_5) y1_1) then
        some (.ret (-1))
      else
        F_laws_heldIntS_L1 fu k1_0 n (iadd .i64 y1_1 1) (iadd .i64 y1_5 1))
    else
      some (.brk (y1_1, y1_5))
def F_laws_heldIntS (fu : Nat) (x0 : List Int) (x1 : Int) : Option (Int) :=
  bd (F_laws_heldIntS_L1 fu x0 fu x1 0) fun s1 =>
  lr s1 fun s1 =>
  some s1.1
theorem F_laws_heldIntS_w {fu : Nat} {H : AH} {v0 : Value} {x0 : List Int} {x1 : Int} {r : (Int)} (hx0 : Sl H v0 (ints x0)) (hF : F_laws_heldIntS fu x0 x1 = some r) :
    ACallT Try.prog 34 [v0, (Value.int .i64 x1)] H (fun u G => AgB (Fr H) H G ∧ u = (Value.int .i64 r) ∧ Sep G (Fr H) []) := by
 refine ACallT.of_body (nt := 21) (rs := [.tmp 4]) Try.func34 rfl rfl rfl rfl ?_;have A0 : AgB (Fr H) H H := .refl _ _;have S0 : Sep H (Fr H) [] := .nil;have hB := Fr.up H;unfold F_laws_heldIntS at hF;refine .sr fun K hK => ?_;simp [];apply hK;clear hK K;refine .seq ?_;refine .sr fun K hK => ?_;simp [];apply hK;clear hK K;refine .block ?_;obtain ⟨s1, hL2, hF⟩ := bd_some hF;have S3 := S0.pick [] (by decide) rfl;refine DWp.loop (fun n env G => ∃ y1_1 : Int, ∃ y1_5 : Int, F_laws_heldIntS_L1 fu x0 n y1_1 y1_5 = some s1 ∧ Sep G (Fr H) [] ∧ AgB (Fr H) H G ∧ env 0 = some v0 ∧ env 1 = some (Value.int .i64 y1_1) ∧ env 5 = some (Value.int .i64 y1_5)) fu ⟨x1, 0, hL2, S3, A0, by simp []⟩ ?_;rintro n1 env1 G1_ ⟨y1_1, y1_5, hL2, S1_, A1_, e1_0, e1_1, e1_5⟩;cases n1 with
 | zero => cases hL2
 | succ n1 =>
  simp only [F_laws_heldIntS_L1] at hL2;refine .seq ?_;have q4 := lenG (P := Try.prog) (hx0.agree A1_.agree) el_22;refine .sr fun K hK => ?_;simp [e1_0, e1_1, e1_5, q4];apply hK;clear hK K;refine DWp.cond' (t := (ilt y1_5 (llen x0))) (by simp [e1_0, e1_1, e1_5]) (fun hb5 => ?_) (fun hb5 => ?_)
  ·replace hL2 := cd_t hb5 hL2;refine DWp.skip ?_;simp only [andThen, leaves];refine .seq ?_;refine .block ?_;refine .seq ?_;obtain ⟨g6, hL2⟩ := gd_some hL2;have q7 := idxG (P := Try.prog) (kk := .i64) (hx0.agree A1_.agree) el_22 sz_3 g6;have q8 := loadG (P := Try.prog) (hx0.agree A1_.agree) sz_3 ag_3 g6 0;refine .sr fun K hK => ?_;simp [e1_0, e1_1, e1_5, q7, q8];apply hK;clear hK K;refine DWp.cond' (t := (ine (gat 0 x0 y1_5) y1_1)) (by simp [e1_0, e1_1, e1_5]) (fun hb9 => ?_) (fun hb9 => ?_)
   ·replace hL2 := cd_t hb9 hL2;refine .sr fun K hK => ?_;simp [e1_0, e1_1, e1_5];apply hK;clear hK K;refine DWp.ret ?_;simp only [andThen, leaves];obtain rfl := Option.some.inj hL2;simp only [lr] at hF;obtain rfl := Option.some.inj hF;exact ⟨by simp, [(Value.int .i64 (-1))], by simp [e1_0, e1_1, e1_5], A1_, rfl, S1_.pick [] (by decide) rfl⟩
   ·replace hL2 := cd_f hb9 hL2;refine DWp.skip ?_;simp only [andThen, leaves];refine .region fun K hK => ?_;simp [e1_0, e1_1, e1_5];apply hK;clear hK K;simp only [andThen, leaves];refine .region fun K hK => ?_;simp [e1_0, e1_1, e1_5];apply hK;clear hK K;simp only [andThen, leaves];have S10 := S1_.pick [] (by decide) rfl;exact ⟨n1, Nat.lt_succ_self _, (iadd .i64 y1_1 1), (iadd .i64 y1_5 1), hL2, S10, A1_, by simp [e1_0, e1_1, e1_5]⟩
  ·replace hL2 := cd_f hb5 hL2;refine DWp.exit ?_;simp only [andThen, leaves, if_true, if_false, reduceIte, Nat.reduceEqDiff];obtain rfl := Option.some.inj hL2;simp only [lr] at hF;refine .sr fun K hK => ?_;simp [e1_0, e1_1, e1_5];apply hK;clear hK K;refine DWp.ret ?_;obtain rfl := Option.some.inj hF;exact ⟨by simp, [(Value.int .i64 y1_1)], by simp [e1_0, e1_1, e1_5], A1_, rfl, S1_.pick [] (by decide) rfl⟩
def F_spec_exBefore_L1 (fu : Nat) (k1_0 : List Int) (k1_1 : List Int) (k1_2 : Int) : Nat → Int → Option (LR (Bool) (Int))
  | 0, _ => none
  | n + 1, y1_8 =>
    bif (ilt y1_8 k1_2) then
      gd (inL k1_0 y1_8) (
      gd (inL k1_1 y1_8) (
      bif (ine (gat 0 k1_0 y1_8) (gat 0 k1_1 y1_8)) then
        gd (inL k1_0 y1_8) (
        gd (inL k1_1 y1_8) (
        some (.ret (ilt (gat 0 k1_0 y1_8) (gat 0 k1_1 y1_8)))))
      else
        F_spec_exBefore_L1 fu k1_0 k1_1 k1_2 n (iadd .i64 y1_8 1)))
    else
      some (.brk y1_8)
def F_spec_exBefore (fu : Nat) (x0 : List Int) (x1 : List Int) : Option (Bool) :=
  bd (F_spec_exBefore_L1 fu x0 x1 (llen x0) fu 0) fun s1 =>
  lr s1 fun s1 =>
  some false
theorem F_spec_exBefore_w {fu : Nat} {H : AH} {v0 : Value} {v1 : Value} {x0 : List Int} {x1 : List Int} {r : (Bool)} (hx0 : Sl H v0 (ints x0)) (hx1 : Sl H v1 (ints x1)) (hF : F_spec_exBefore fu x0 x1 = some r) :
    ACallT Try.prog 100 [v0, v1] H (fun u G => AgB (Fr H) H G ∧ u = (Value.bool r) ∧ Sep G (Fr H) []) := by
 refine ACallT.of_body (nt := 30) (rs := [.tmp 4]) Try.func100 rfl rfl rfl rfl ?_;have A0 : AgB (Fr H) H H := .refl _ _;have S0 : Sep H (Fr H) [] := .nil;have hB := Fr.up H;unfold F_spec_exBefore at hF;refine .sr fun K hK => ?_;simp [];apply hK;clear hK K;refine .seq ?_;have q1 := lenG (P := Try.prog) (hx0.agree A0.agree) el_22;refine .sr fun K hK => ?_;simp [q1];apply hK;clear hK K;refine .block ?_;obtain ⟨s2, hL3, hF⟩ := bd_some hF;have S4 := S0.pick [] (by decide) rfl;refine DWp.loop (fun n env G => ∃ y1_8 : Int, F_spec_exBefore_L1 fu x0 x1 (llen x0) n y1_8 = some s2 ∧ Sep G (Fr H) [] ∧ AgB (Fr H) H G ∧ env 0 = some v0 ∧ env 1 = some v1 ∧ env 7 = some (Value.int .i64 (llen x0)) ∧ env 8 = some (Value.int .i64 y1_8)) fu ⟨0, hL3, S4, A0, by simp []⟩ ?_;rintro n1 env1 G1_ ⟨y1_8, hL3, S1_, A1_, e1_0, e1_1, e1_7, e1_8⟩;cases n1 with
 | zero => cases hL3
 | succ n1 =>
  simp only [F_spec_exBefore_L1] at hL3;refine .sr fun K hK => ?_;simp [e1_0, e1_1, e1_7, e1_8];apply hK;clear hK K;refine .seq ?_;refine DWp.cond' (t := (ilt y1_8 (llen x0))) (by simp [e1_0, e1_1, e1_7, e1_8]) (fun hb5 => ?_) (fun hb5 => ?_)
  ·replace hL3 := cd_t hb5 hL3;refine DWp.skip ?_;simp only [andThen, leaves];refine .seq ?_;refine .block ?_;refine .sr fun K hK => ?_;simp [e1_0, e1_1, e1_7, e1_8];apply hK;clear hK K;obtain ⟨g6, hL3⟩ := gd_some hL3;have q7 := idxG (P := Try.prog) (kk := .i64) (hx0.agree A1_.agree) el_22 sz_3 g6;have q8 := loadG (P := Try.prog) (hx0.agree A1_.agree) sz_3 ag_3 g6 0;obtain ⟨g9, hL3⟩ := gd_some hL3;have q10 := idxG (P := Try.prog) (kk := .i64) (hx1.agree A1_.agree) el_22 sz_3 g9;have q11 := loadG (P := Try.prog) (hx1.agree A1_.agree) sz_3 ag_3 g9 0;refine .sd (B := [0, 0, 3, 7, 0, 0, 48, 112, 255]) 9 mixed (by kernel_rfl) (by decide) fun K hK => ?_;simp [e1_0, e1_1, e1_7, e1_8, q7, q8, q10, q11];apply hK;clear hK K;refine DWp.cond' (t := (ine (gat 0 x0 y1_8) (gat 0 x1 y1_8))) (by simp [e1_0, e1_1, e1_7, e1_8]) (fun hb12 => ?_) (fun hb12 => ?_)
   ·replace hL3 := cd_t hb12 hL3;obtain ⟨g13, hL3⟩ := gd_some hL3;have q14 := idxG (P := Try.prog) (kk := .i64) (hx0.agree A1_.agree) el_22 sz_3 g13;have q15 := loadG (P := Try.prog) (hx0.agree A1_.agree) sz_3 ag_3 g13 0;obtain ⟨g16, hL3⟩ := gd_some hL3;have q17 := idxG (P := Try.prog) (kk := .i64) (hx1.agree A1_.agree) el_22 sz_3 g16;have q18 := loadG (P := Try.prog) (hx1.agree A1_.agree) sz_3 ag_3 g16 0;refine .sd (B := [0, 0, 3, 7, 0, 0, 48, 112, 255, 511]) 10 mixed (by kernel_rfl) (by decide) fun K hK => ?_;simp [e1_0, e1_1, e1_7, e1_8, q14, q15, q17, q18];apply hK;clear hK K;refine DWp.ret ?_;simp only [andThen, leaves];obtain rfl := Option.some.inj hL3;simp only [lr] at hF;obtain rfl := Option.some.inj hF;exact ⟨by simp, [(Value.bool (ilt (gat 0 x0 y1_8) (gat 0 x1 y1_8)))], by simp [e1_0, e1_1, e1_7, e1_8], A1_, rfl, S1_.pick [] (by decide) rfl⟩
   ·replace hL3 := cd_f hb12 hL3;refine DWp.skip ?_;simp only [andThen, leaves];refine .region fun K hK => ?_;simp [e1_0, e1_1, e1_7, e1_8];apply hK;clear hK K;simp only [andThen, leaves];have S19 := S1_.pick [] (by decide) rfl;exact ⟨n1, Nat.lt_succ_self _, (iadd .i64 y1_8 1), hL3, S19, A1_, by simp [e1_0, e1_1, e1_7, e1_8]⟩
  ·replace hL3 := cd_f hb5 hL3;refine DWp.exit ?_;simp only [andThen, leaves, if_true, if_false, reduceIte, Nat.reduceEqDiff];obtain rfl := Option.some.inj hL3;simp only [lr] at hF;refine .sr fun K hK => ?_;simp [e1_0, e1_1, e1_7, e1_8];apply hK;clear hK K;refine DWp.ret ?_;obtain rfl := Option.some.inj hF;exact ⟨by simp, [(Value.bool false)], by simp [e1_0, e1_1, e1_7, e1_8], A1_, rfl, S1_.pick [] (by decide) rfl⟩
def F_spec_l1Same_L1 (fu : Nat) (k1_0 : List Int) (k1_1 : List Int) (k1_2 : Int) : Nat → Int → Option (LR (Bool) (Int))
  | 0, _ => none
  | n + 1, y1_13 =>
    bif (ilt y1_13 k1_2) then
      gd (inL k1_0 y1_13) (
      gd (inL k1_1 y1_13) (
      bif (ine (gat 0 k1_0 y1_13) (gat 0 k1_1 y1_13)) then
        some (.ret false)
      else
        F_spec_l1Same_L1 fu k1_0 k1_1 k1_2 n (iadd .i64 y1_13 1)))
    else
      some (.brk y1_13)
def F_spec_l1Same (fu : Nat) (x0 : List Int) (x1 : List Int) : Option (Bool) :=
  bif (ine (llen x0) (llen x1)) then
    some false
  else
    bd (F_spec_l1Same_L1 fu x0 x1 (llen x0) fu 0) fun s1 =>
    lr s1 fun s1 =>
    some true
theorem F_spec_l1Same_w {fu : Nat} {H : AH} {v0 : Value} {v1 : Value} {x0 : List Int} {x1 : List Int} {r : (Bool)} (hx0 : Sl H v0 (ints x0)) (hx1 : Sl H v1 (ints x1)) (hF : F_spec_l1Same fu x0 x1 = some r) :
    ACallT Try.prog 101 [v0, v1] H (fun u G => AgB (Fr H) H G ∧ u = (Value.bool r) ∧ Sep G (Fr H) []) := by
 refine ACallT.of_body (nt := 26) (rs := [.tmp 4]) Try.func101 rfl rfl rfl rfl ?_;have A0 : AgB (Fr H) H H := .refl _ _;have S0 : Sep H (Fr H) [] := .nil;have hB := Fr.up H;unfold F_spec_l1Same at hF;refine .sr fun K hK => ?_;simp [];apply hK;clear hK K;refine .seq ?_;have q1 := lenG (P := Try.prog) (hx0.agree A0.agree) el_22;have q2 := lenG (P := Try.prog) (hx1.agree A0.agree) el_22;refine .sr fun K hK => ?_;simp [q1, q2];apply hK;clear hK K;refine DWp.cond' (t := (ine (llen x0) (llen x1))) (by simp []) (fun hb3 => ?_) (fun hb3 => ?_)
 ·replace hF := cd_t hb3 hF;refine .sr fun K hK => ?_;simp [];apply hK;clear hK K;refine DWp.ret ?_;simp only [andThen, leaves];obtain rfl := Option.some.inj hF;exact ⟨by simp, [(Value.bool false)], by simp [], A0, rfl, S0.pick [] (by decide) rfl⟩
 ·replace hF := cd_f hb3 hF;refine DWp.skip ?_;simp only [andThen, leaves];refine .seq ?_;have q4 := lenG (P := Try.prog) (hx0.agree A0.agree) el_22;refine .sr fun K hK => ?_;simp [q4];apply hK;clear hK K;refine .block ?_;obtain ⟨s5, hL6, hF⟩ := bd_some hF;have S7 := S0.pick [] (by decide) rfl;refine DWp.loop (fun n env G => ∃ y1_13 : Int, F_spec_l1Same_L1 fu x0 x1 (llen x0) n y1_13 = some s5 ∧ Sep G (Fr H) [] ∧ AgB (Fr H) H G ∧ env 0 = some v0 ∧ env 1 = some v1 ∧ env 12 = some (Value.int .i64 (llen x0)) ∧ env 13 = some (Value.int .i64 y1_13)) fu ⟨0, hL6, S7, A0, by simp []⟩ ?_;rintro n1 env1 G1_ ⟨y1_13, hL6, S1_, A1_, e1_0, e1_1, e1_12, e1_13⟩;cases n1 with
  | zero => cases hL6
  | succ n1 =>
   simp only [F_spec_l1Same_L1] at hL6;refine .sr fun K hK => ?_;simp [e1_0, e1_1, e1_12, e1_13];apply hK;clear hK K;refine .seq ?_;refine DWp.cond' (t := (ilt y1_13 (llen x0))) (by simp [e1_0, e1_1, e1_12, e1_13]) (fun hb8 => ?_) (fun hb8 => ?_)
   ·replace hL6 := cd_t hb8 hL6;refine DWp.skip ?_;simp only [andThen, leaves];refine .seq ?_;refine .block ?_;refine .sr fun K hK => ?_;simp [e1_0, e1_1, e1_12, e1_13];apply hK;clear hK K;obtain ⟨g9, hL6⟩ := gd_some hL6;have q10 := idxG (P := Try.prog) (kk := .i64) (hx0.agree A1_.agree) el_22 sz_3 g9;have q11 := loadG (P := Try.prog) (hx0.agree A1_.agree) sz_3 ag_3 g9 0;obtain ⟨g12, hL6⟩ := gd_some hL6;have q13 := idxG (P := Try.prog) (kk := .i64) (hx1.agree A1_.agree) el_22 sz_3 g12;have q14 := loadG (P := Try.prog) (hx1.agree A1_.agree) sz_3 ag_3 g12 0;refine .sd (B := [0, 0, 3, 7, 0, 0, 48, 112, 255]) 9 mixed (by kernel_rfl) (by decide) fun K hK => ?_;simp [e1_0, e1_1, e1_12, e1_13, q10, q11, q13, q14];apply hK;clear hK K;refine DWp.cond' (t := (ine (gat 0 x0 y1_13) (gat 0 x1 y1_13))) (by simp [e1_0, e1_1, e1_12, e1_13]) (fun hb15 => ?_) (fun hb15 => ?_)
    ·replace hL6 := cd_t hb15 hL6;refine .sr fun K hK => ?_;simp [e1_0, e1_1, e1_12, e1_13];apply hK;clear hK K;refine DWp.ret ?_;simp only [andThen, leaves];obtain rfl := Option.some.inj hL6;simp only [lr] at hF;obtain rfl := Option.some.inj hF;exact ⟨by simp, [(Value.bool false)], by simp [e1_0, e1_1, e1_12, e1_13], A1_, rfl, S1_.pick [] (by decide) rfl⟩
    ·replace hL6 := cd_f hb15 hL6;refine DWp.skip ?_;simp only [andThen, leaves];refine .region fun K hK => ?_;simp [e1_0, e1_1, e1_12, e1_13];apply hK;clear hK K;simp only [andThen, leaves];have S16 := S1_.pick [] (by decide) rfl;exact ⟨n1, Nat.lt_succ_self _, (iadd .i64 y1_13 1), hL6, S16, A1_, by simp [e1_0, e1_1, e1_12, e1_13]⟩
   ·replace hL6 := cd_f hb8 hL6;refine DWp.exit ?_;simp only [andThen, leaves, if_true, if_false, reduceIte, Nat.reduceEqDiff];obtain rfl := Option.some.inj hL6;simp only [lr] at hF;refine .sr fun K hK => ?_;simp [e1_0, e1_1, e1_12, e1_13];apply hK;clear hK K;refine DWp.ret ?_;obtain rfl := Option.some.inj hF;exact ⟨by simp, [(Value.bool true)], by simp [e1_0, e1_1, e1_12, e1_13], A1_, rfl, S1_.pick [] (by decide) rfl⟩
def F_spec_exPut_L1 (fu : Nat) (k1_0 : List (List Int)) (k1_1 : List Int) : Nat → Int → Option (Int)
  | 0, _ => none
  | n + 1, y1_5 =>
    bif (ilt y1_5 (llen k1_0)) then
      gd (inL k1_0 y1_5) (
      bd (F_spec_exBefore fu (gat [] k1_0 y1_5) k1_1) fun r1 =>
      bif r1 then
        F_spec_exPut_L1 fu k1_0 k1_1 n (iadd .i64 y1_5 1)
      else
        some y1_5)
    else
      some y1_5
def F_spec_exPut (fu : Nat) (x0 : List (List Int)) (x1 : List Int) : Option (List (List Int)) :=
  bd (
    bd (F_spec_exPut_L1 fu x0 x1 fu 0) fun s1 =>
    some s1) fun s1 =>
  bd (
    bif (ilt s1 (llen x0)) then
      gd (inL x0 s1) (
      bd (F_spec_l1Same fu (gat [] x0 s1) x1) fun r2 =>
      some r2)
    else
      some false) fun s23 =>
  bif s23 then
    some x0
  else
    gd (subL x0 0 s1) (
    gd (x0.length + 1 ≤ 4294967296) (
    gd (subL x0 s1 (llen x0)) (
    some (lins x0 s1 x1))))
theorem F_spec_exPut_w {fu : Nat} {H : AH} {B : Nat → Prop} {v0 : Value} {C0 : List Value} {v1 : Value} {x0 : List (List Int)} {x1 : List Int} {r : (List (List Int))} (hB : Up B H.length) (S0 : Sep H B [rowsC v0 22 3 C0 (List.map ints x0), flat v1 3 (ints x1)]) (hF : F_spec_exPut fu x0 x1 = some r) :
    ACallT Try.prog 71 [v0, v1] H (fun u G => AgB B H G ∧ ∃ u0 : Value, ∃ C0 : List Value, u = u0 ∧ Sep G B [rowsC u0 22 3 C0 (List.map ints r)]) := by
 refine ACallT.of_body (nt := 47) (rs := [.tmp 4]) Try.func71 rfl rfl rfl rfl ?_;have A0 : AgB B H H := .refl _ _;unfold F_spec_exPut at hF;refine .sr fun K hK => ?_;simp [];apply hK;clear hK K;refine .sr fun K hK => ?_;simp [];apply hK;clear hK K;obtain ⟨s1, hL2, hF⟩ := bd_some hF;refine DWp.seq (DWp.join (fun env G => Sep G B [rowsC v0 22 3 C0 (List.map ints x0), flat v1 3 (ints x1)] ∧ AgB B H G ∧ env 0 = some v0 ∧ env 1 = some v1 ∧ env 5 = some (Value.int .i64 s1)) ?_ ?_)
 ·
  refine .block ?_;obtain ⟨s4, hL5, hL2⟩ := bd_some hL2;have S6 := S0.pick [0, 1] (by decide) rfl;refine DWp.loop (fun n env G => ∃ y1_5 : Int, F_spec_exPut_L1 fu x0 x1 n y1_5 = some s4 ∧ Sep G B [rowsC v0 22 3 C0 (List.map ints x0), flat v1 3 (ints x1)] ∧ AgB B H G ∧ env 0 = some v0 ∧ env 1 = some v1 ∧ env 5 = some (Value.int .i64 y1_5)) fu ⟨0, hL5, S6, A0, by simp []⟩ ?_;rintro n2 env2 G2_ ⟨y1_5, hL5, S2_, A2_, e2_0, e2_1, e2_5⟩;cases n2 with
  | zero => cases hL5
  | succ n2 =>
   simp only [F_spec_exPut_L1] at hL5;refine .seq ?_;have q7 := (S2_.rd (k := 0) rfl).lenG (P := Try.prog) el_23;rcases Bool.eq_false_or_eq_true (ilt y1_5 (llen x0)) with hb8 | hb8
   ·replace hL5 := cd_t hb8 hL5;obtain ⟨g9, hL5⟩ := gd_some hL5;have q10 := (S2_.rd (k := 0) rfl).idxG (P := Try.prog) (kk := .i64) el_23 sz_22 g9;have q11 := (S2_.rd (k := 0) rfl).loadG (P := Try.prog) sz_22 ag_22 g9;obtain ⟨r1, hc12, hL5⟩ := bd_some hL5;refine .sr fun K hK => ?_;simp [e2_0, e2_1, e2_5, hb8, q7, q10, q11, (((S2_.rd (k := 0) rfl).rowAt [] g9).tup), ((S2_.sl (k := 1) rfl).tup)];refine CallD.t (F_spec_exBefore_w (fu := fu) ((S2_.rd (k := 0) rfl).rowAt [] g9) (S2_.sl (k := 1) rfl) hc12) ?_;rintro _ G14 ⟨a17, rfl, S18⟩;have A16 := A2_.ext (hB.le A2_.1) a17.agree;have S15 : Sep G14 B [rowsC v0 22 3 C0 (List.map ints x0), flat v1 3 (ints x1)] := S2_.app a17.agree S18 (fun _ h => h) (hB.le A2_.1);simp [e2_0, e2_1, e2_5, hb8, q7, q10, q11, a17.pre];apply hK;clear hK K;refine DWp.cond' (t := r1) (by simp [e2_0, e2_1, e2_5]) (fun hb19 => ?_) (fun hb19 => ?_)
    ·replace hL5 := cd_t hb19 hL5;refine DWp.skip ?_;simp only [andThen, leaves];refine .block ?_;refine .region fun K hK => ?_;simp [e2_0, e2_1, e2_5];apply hK;clear hK K;simp only [andThen, leaves];have S20 := S15.pick [0, 1] (by decide) rfl;exact ⟨n2, Nat.lt_succ_self _, (iadd .i64 y1_5 1), hL5, S20, A16, by simp [e2_0, e2_1, e2_5]⟩
    ·replace hL5 := cd_f hb19 hL5;refine DWp.exit ?_;simp only [andThen, leaves, if_true, if_false, reduceIte, Nat.reduceEqDiff];obtain rfl := Option.some.inj hL5;have S21 := S15.pick [0, 1] (by decide) rfl;obtain rfl := Option.some.inj hL2;exact ⟨S21, A16, by simp [e2_0, e2_1, e2_5]⟩
   ·replace hL5 := cd_f hb8 hL5;refine .sr fun K hK => ?_;simp [e2_0, e2_1, e2_5, hb8, q7];apply hK;clear hK K;refine DWp.cf (by simp [e2_0, e2_1, e2_5, bnot]) ?_;refine DWp.exit ?_;simp only [andThen, leaves, if_true, if_false, reduceIte, Nat.reduceEqDiff];obtain rfl := Option.some.inj hL5;have S22 := S2_.pick [0, 1] (by decide) rfl;obtain rfl := Option.some.inj hL2;exact ⟨S22, A2_, by simp [e2_0, e2_1, e2_5]⟩
 ·rintro env Gj23 ⟨Sj23, Aj23, ej23_0, ej23_1, ej23_5⟩;refine .seq ?_;obtain ⟨s24, hL25, hF⟩ := bd_some hF;refine DWp.seq (DWp.join (fun env G => Sep G B [rowsC v0 22 3 C0 (List.map ints x0), flat v1 3 (ints x1)] ∧ AgB B H G ∧ env 0 = some v0 ∧ env 1 = some v1 ∧ env 5 = some (Value.int .i64 s1) ∧ env 32 = some (Value.bool s24)) ?_ ?_)
  ·
   have q27 := (Sj23.rd (k := 0) rfl).lenG (P := Try.prog) el_23;rcases Bool.eq_false_or_eq_true (ilt s1 (llen x0)) with hb28 | hb28
   ·replace hL25 := cd_t hb28 hL25;obtain ⟨g29, hL25⟩ := gd_some hL25;have q30 := (Sj23.rd (k := 0) rfl).idxG (P := Try.prog) (kk := .i64) el_23 sz_22 g29;have q31 := (Sj23.rd (k := 0) rfl).loadG (P := Try.prog) sz_22 ag_22 g29;obtain ⟨r2, hc32, hL25⟩ := bd_some hL25;refine .region fun K hK => ?_;simp [ej23_0, ej23_1, ej23_5, hb28, q27, q30, q31, (((Sj23.rd (k := 0) rfl).rowAt [] g29).tup), ((Sj23.sl (k := 1) rfl).tup)];refine CallD.t (F_spec_l1Same_w (fu := fu) ((Sj23.rd (k := 0) rfl).rowAt [] g29) (Sj23.sl (k := 1) rfl) hc32) ?_;rintro _ G34 ⟨a37, rfl, S38⟩;have A36 := Aj23.ext (hB.le Aj23.1) a37.agree;have S35 : Sep G34 B [rowsC v0 22 3 C0 (List.map ints x0), flat v1 3 (ints x1)] := Sj23.app a37.agree S38 (fun _ h => h) (hB.le Aj23.1);simp [ej23_0, ej23_1, ej23_5, hb28, q27, q30, q31, a37.pre];apply hK;clear hK K;simp only [andThen, leaves];have S39 := S35.pick [0, 1] (by decide) rfl;obtain rfl := Option.some.inj hL25;exact ⟨S39, A36, by simp [ej23_0, ej23_1, ej23_5]⟩
   ·replace hL25 := cd_f hb28 hL25;refine .region fun K hK => ?_;simp [ej23_0, ej23_1, ej23_5, hb28, q27];apply hK;clear hK K;simp only [andThen, leaves];have S40 := Sj23.pick [0, 1] (by decide) rfl;obtain rfl := Option.some.inj hL25;exact ⟨S40, Aj23, by simp [ej23_0, ej23_1, ej23_5]⟩
  ·rintro env Gj41 ⟨Sj41, Aj41, ej41_0, ej41_1, ej41_5, ej41_32⟩;refine DWp.cond' (t := s24) (by simp [ej41_0, ej41_1, ej41_5, ej41_32]) (fun hb42 => ?_) (fun hb42 => ?_)
   ·replace hF := cd_t hb42 hF;refine .sr fun K hK => ?_;simp [ej41_0, ej41_1, ej41_5, ej41_32];apply hK;clear hK K;refine DWp.ret ?_;simp only [andThen, leaves];obtain rfl := Option.some.inj hF;exact ⟨by simp, [v0], by simp [ej41_0, ej41_1, ej41_5, ej41_32, ((Sj41.rd (k := 0) rfl).tup)], Aj41, v0, C0, rfl, Sj41.pick [0] (by decide) rfl⟩
   ·replace hF := cd_f hb42 hF;refine DWp.skip ?_;simp only [andThen, leaves];obtain ⟨v43, G44, q45, S46, a48, _, _⟩ := Sj41.lit0 (P := Try.prog) (t := 23) (hB.le Aj41.1) el_23 ei_22 rfl;have A47 := Aj41.ext (hB.le Aj41.1) a48;replace S46 : Sep G44 B [rowsC v0 22 3 C0 (List.map ints x0), flat v1 3 (ints x1), flat1 v43 22 []] := S46;have S49 : Sep G44 B [rowsC v0 22 3 C0 (List.map ints x0), flat v1 3 (ints x1), rowsC v43 22 3 [] (List.map ints [])] := S46.rowsOf0 (k := 2) rfl 3;obtain ⟨g50, hF⟩ := gd_some hF;have q51 := ((S49.rd (k := 0) rfl).raw01 (P := Try.prog) el_23 sz_22 g50).1;have S58 := S49.rawOf0 (k := 2) rfl;obtain ⟨g59, hF⟩ := gd_some hF;obtain ⟨v57, G52, q53, S54, a56, q53t, _⟩ := S58.ins1 (P := Try.prog) (t := 23) (t2 := 23) (k := 2) (j := 0) (fr := ints) (X := x0) (C := C0) (b := s1) rfl rfl (hB.le A47.1) el_23 el_23 ei_22 rfl ((S58.rd (k := 0) rfl).raw01 (P := Try.prog) el_23 sz_22 g50).2 g59;have A55 := A47.trans a56;replace S54 : Sep G52 B [rowsC v0 22 3 C0 (List.map ints x0), flat v1 3 (ints x1), flat v57 22 (C0.take (s1).toNat)] := S54;refine .sr fun K hK => ?_;simp [ej41_0, ej41_1, ej41_5, ej41_32, q45, a48.to_pre, q51, (((S49.rd (k := 0) rfl).raw01 (P := Try.prog) el_23 sz_22 g50).2.tup), q53, q53t];apply hK;clear hK K;obtain ⟨v60, G61, q62, S63, a65, _, _⟩ := S54.lit1 (P := Try.prog) (t := 23) (hB.le A55.1) el_23 ei_22 rfl v1 ((S54.sl (k := 1) rfl).tup) ((S54.sl (k := 1) rfl).one);have A64 := A55.ext (hB.le A55.1) a65;replace S63 : Sep G61 B [rowsC v0 22 3 C0 (List.map ints x0), flat v1 3 (ints x1), flat v57 22 (C0.take (s1).toNat), flat1 v60 22 [v1]] := S63;have q66 : RefK (kpl [v0]) G61.length v0 := refK_sl (S63.rd (k := 0) rfl).out (by simp);obtain ⟨g67, hF⟩ := gd_some hF;have q68 := ((S63.rd (k := 0) rfl).raw10 (P := Try.prog) el_23 sz_22 g67).1
    obtain ⟨v74, G69, q70, S71, a73, q70t, _⟩ := S63.ins2 (P := Try.prog) (t := 23) (t2 := 23) (k := 2) (j := 0) (fr := ints) (X := x0) (C := C0) (b := s1) rfl rfl (hB.le A64.1) el_23 el_23 ei_22 rfl (S63.sl1 (k := 3) rfl) g59;have t75 : Stand (kpl [v0]) G61 G69 := stand_kpl (append_same q70) (by
     simp only [List.mem_cons, List.not_mem_nil, or_false, forall_eq_or_imp, forall_eq, false_imp_iff, implies_true];exact S63.ids_apartR (k := 2) (j := 0) rfl rfl (by decide))
    have A72 := A64.trans a73;replace S71 : Sep G69 B [rowsC v0 22 3 C0 (List.map ints x0), flat v1 3 (ints x1), flat v74 22 (C0.take (s1).toNat ++ [v1]), flat1 v60 22 [v1]] := S71;obtain ⟨v81, G76, q77, S78, a80, q77t, _⟩ := S71.ins3 (P := Try.prog) (t := 23) (t2 := 23) (k := 2) (j := 0) (fr := ints) (X := x0) (C := C0) (b := s1) (c := v1) rfl rfl (hB.le A72.1) el_23 el_23 ei_22 rfl ((S71.rd (k := 0) rfl).raw10 (P := Try.prog) el_23 sz_22 g67).2 g59;have t82 : Stand (kpl [v0]) G69 G76 := stand_kpl (append_same q77) (by
     simp only [List.mem_cons, List.not_mem_nil, or_false, forall_eq_or_imp, forall_eq, false_imp_iff, implies_true];exact S71.ids_apartR (k := 2) (j := 0) rfl rfl (by decide))
    have A79 := A72.trans a80;replace S78 : Sep G76 B [rowsC v0 22 3 C0 (List.map ints x0), flat v1 3 (ints x1), flat v81 22 (cins C0 s1 v1), flat1 v60 22 [v1]] := S78;have S83 : Sep G76 B [emp, emp, rowsC v81 22 3 (cins C0 s1 v1) (List.map ints (lins x0 s1 x1)), flat1 v60 22 [v1]] := S78.rowsIns (fr := ints) (w := 2) (j := 0) (k := 1) (by decide) (by decide) (by decide) rfl rfl rfl g50;have t84 : Stand (kN G69.length) G61 G69 := stand_top a73.1;have t85 : Stand (kN G69.length) G69 G76 := stand_top (Nat.le_refl _);refine .sl (B := [0, 0, 2, 0, 0, 24, 7, 127, 255]) (X0 := [5]) (π := [0, 1, 2, 4, 5, 6, 3, 7, 8]) (σ := [0, 1, 2, 6, 3, 4, 5, 7, 8]) 6 (kpl [v0]) G69.length mixed (by kernel_rfl) (by kernel_rfl) (by decide) fun K hK => ?_;simp only [rl0, rlb0, List.filterMap_cons, List.filterMap_nil, List.getElem?_cons_zero, List.getElem?_cons_succ, Option.map_some, Option.map_none];simp (config := { maxSteps := 4000000 }) [ej41_0, ej41_1, ej41_5, ej41_32, q62, a65.to_pre, ((S54.sl (k := 1) rfl).tup), q66, q68, (((S63.rd (k := 0) rfl).raw10 (P := Try.prog) el_23 sz_22 g67).2.tup), t75, q70, q70t, t82, q77, q77t, t84, t85];apply hK;clear hK K;refine DWp.ret ?_;obtain rfl := Option.some.inj hF;exact ⟨by simp, [v81], by simp [ej41_0, ej41_1, ej41_5, ej41_32, ((S83.rd (k := 2) rfl).tup)], A79, v81, (cins C0 s1 v1), rfl, S83.pick [2] (by decide) rfl⟩
def F_spec_ExchangesOf_L1 (fu : Nat) (k1_0 : List Int) (k1_1 : List (List Int)) (k1_2 : Int) : Nat → List (List Int) → Int → Option (List (List Int) × Int)
  | 0, _, _ => none
  | n + 1, l1_0, y1_13 =>
    bif (ilt y1_13 k1_2) then
      gd (inL k1_1 y1_13) (
      gd (inL (gat [] k1_1 y1_13) 0) (
      gd (inL (gat [] k1_1 y1_13) 1) (
      bd (F_spec_exAt fu k1_0 (gat 0 (gat [] k1_1 y1_13) 0) (gat 0 (gat [] k1_1 y1_13) 1)) fun r3 =>
      bd (F_spec_exPut fu l1_0 r3) fun r4 =>
      F_spec_ExchangesOf_L1 fu k1_0 k1_1 k1_2 n r4 (iadd .i64 y1_13 1))))
    else
      some (l1_0, y1_13)
def F_spec_ExchangesOf (fu : Nat) (x0 : List Int) : Option (List (List Int) × Bool) :=
  bd (F_spec_ahGood fu x0) fun r1 =>
  bif (bnot r1) then
    some ([], false)
  else
    bd (F_spec_exPairs fu x0) fun r2 =>
    bd (F_spec_ExchangesOf_L1 fu x0 r2 (llen r2) fu (@List.nil (List Int)) 0) fun s1 =>
    some (s1.1, true)
theorem F_spec_ExchangesOf_w {fu : Nat} {H : AH} {v0 : Value} {x0 : List Int} {r : (List (List Int) × Bool)} (hx0 : Sl H v0 (ints x0)) (hF : F_spec_ExchangesOf fu x0 = some r) :
    ACallT Try.prog 35 [v0] H (fun u G => AgB (Fr H) H G ∧ ∃ u0 : Value, ∃ C0 : List Value, u = (Value.tuple #[u0, (Value.bool r.2)]) ∧ Sep G (Fr H) [rowsC u0 22 3 C0 (List.map ints r.1)]) := by
 refine ACallT.of_body (nt := 29) (rs := [.tmp 2, .tmp 3]) Try.func35 rfl rfl rfl rfl ?_;have A0 : AgB (Fr H) H H := .refl _ _;have S0 : Sep H (Fr H) [] := .nil;have hB := Fr.up H;unfold F_spec_ExchangesOf at hF;refine .sr fun K hK => ?_;simp [];apply hK;clear hK K;refine .seq ?_;obtain ⟨r1, hc1, hF⟩ := bd_some hF;refine .sr fun K hK => ?_;simp [((hx0.agree A0.agree).tup)];refine CallD.t (F_spec_ahGood_w (fu := fu) (hx0.agree A0.agree) hc1) ?_;rintro _ G3 ⟨a6, rfl, S7⟩;have A5 := A0.ext (hB.le A0.1) a6.agree;have S4 : Sep G3 (Fr H) [] := S0.app a6.agree S7 (fun _ h => h) (hB.le A0.1);simp [a6.pre];apply hK;clear hK K;refine DWp.cond' (t := (bnot r1)) (by simp []) (fun hb8 => ?_) (fun hb8 => ?_)
 ·replace hF := cd_t hb8 hF;refine .sr fun K hK => ?_;simp [];apply hK;clear hK K;refine DWp.ret ?_;simp only [andThen, leaves];have S9 := S4.rowsNil (hB.le A5.1) 22 3;obtain rfl := Option.some.inj hF;exact ⟨by simp, [(Value.slice none 0 0), (Value.bool false)], by simp [], A5, nilV, [], rfl, S9.pick [0] (by decide) rfl⟩
 ·replace hF := cd_f hb8 hF;refine DWp.skip ?_;simp only [andThen, leaves];refine .sr fun K hK => ?_;simp [];apply hK;clear hK K;refine .seq ?_;obtain ⟨r2, hc10, hF⟩ := bd_some hF;refine .sr fun K hK => ?_;simp [((hx0.agree A5.agree).tup)];refine CallD.t (F_spec_exPairs_w (fu := fu) (hx0.agree A5.agree) hc10) ?_;rintro c11_u0 G12 ⟨a15, _, c11_C0, rfl, S16⟩;have A14 := A5.ext (hB.le A5.1) a15.agree;have S13 : Sep G12 (Fr H) [rowsC c11_u0 22 3 c11_C0 (List.map ints r2)] := S4.app a15.agree S16 (fun _ h => h) (hB.le A5.1);have q17 := (S13.rd (k := 0) rfl).lenG (P := Try.prog) el_23;simp [a15.pre, q17];apply hK;clear hK K;refine .block ?_;have S18 := S13.rowsNil (hB.le A14.1) 22 3;obtain ⟨s19, hL20, hF⟩ := bd_some hF;have S21 := S18.pick [1, 0] (by decide) rfl;refine DWp.loop (fun n env G => ∃ l1_0 : List (List Int), ∃ y1_13 : Int, ∃ w1_0 : Value, ∃ D1_0 : List Value, F_spec_ExchangesOf_L1 fu x0 r2 (llen r2) n l1_0 y1_13 = some s19 ∧ Sep G (Fr H) [rowsC w1_0 22 3 D1_0 (List.map ints l1_0), rowsC c11_u0 22 3 c11_C0 (List.map ints r2)] ∧ AgB (Fr H) H G ∧ env 0 = some v0 ∧ env 4 = some w1_0 ∧ env 11 = some c11_u0 ∧ env 12 = some (Value.int .i64 (llen r2)) ∧ env 13 = some (Value.int .i64 y1_13)) fu ⟨(@List.nil (List Int)), 0, (Value.slice none 0 0), [], hL20, S21, A14, by simp []⟩ ?_;rintro n1 env1 G1_ ⟨l1_0, y1_13, w1_0, D1_0, hL20, S1_, A1_, e1_0, e1_4, e1_11, e1_12, e1_13⟩;cases n1 with
  | zero => cases hL20
  | succ n1 =>
   simp only [F_spec_ExchangesOf_L1] at hL20;refine .sr fun K hK => ?_;simp [e1_0, e1_4, e1_11, e1_12, e1_13];apply hK;clear hK K;refine .seq ?_;refine DWp.cond' (t := (ilt y1_13 (llen r2))) (by simp [e1_0, e1_4, e1_11, e1_12, e1_13]) (fun hb22 => ?_) (fun hb22 => ?_)
   ·replace hL20 := cd_t hb22 hL20;refine DWp.skip ?_;simp only [andThen, leaves];refine .seq ?_;refine .block ?_;obtain ⟨g23, hL20⟩ := gd_some hL20;have q24 := (S1_.rd (k := 1) rfl).idxG (P := Try.prog) (kk := .i64) el_23 sz_22 g23;have q25 := (S1_.rd (k := 1) rfl).loadG (P := Try.prog) sz_22 ag_22 g23;refine .sr fun K hK => ?_;simp [e1_0, e1_4, e1_11, e1_12, e1_13, q24, q25];apply hK;clear hK K;obtain ⟨g26, hL20⟩ := gd_some hL20;have q27 := idxG (P := Try.prog) (kk := .i64) ((S1_.rd (k := 1) rfl).rowAt [] g23) el_22 sz_3 g26;replace q27 : aIndexAddr Try.prog G1_ 22 (gat nilV c11_C0 y1_13) (Value.int .i64 0) = some (elP (gat nilV c11_C0 y1_13) 0) := q27;have q28 := loadG (P := Try.prog) ((S1_.rd (k := 1) rfl).rowAt [] g23) sz_3 ag_3 g26 0;replace q28 : aLoad Try.prog G1_ 3 (elP (gat nilV c11_C0 y1_13) 0) = some (Value.int .i64 (gat 0 (gat [] r2 y1_13) 0)) := q28;obtain ⟨g29, hL20⟩ := gd_some hL20;have q30 := idxG (P := Try.prog) (kk := .i64) ((S1_.rd (k := 1) rfl).rowAt [] g23) el_22 sz_3 g29;replace q30 : aIndexAddr Try.prog G1_ 22 (gat nilV c11_C0 y1_13) (Value.int .i64 1) = some (elP (gat nilV c11_C0 y1_13) 1) := q30;have q31 := loadG (P := Try.prog) ((S1_.rd (k := 1) rfl).rowAt [] g23) sz_3 ag_3 g29 0;replace q31 : aLoad Try.prog G1_ 3 (elP (gat nilV c11_C0 y1_13) 1) = some (Value.int .i64 (gat 0 (gat [] r2 y1_13) 1)) := q31;obtain ⟨r3, hc32, hL20⟩ := bd_some hL20;refine .drawn (B := [0, 0, 0, 4, 12, 0, 32, 96, 254, 511, 1023]) 9 mixed (by kernel_rfl) (by decide) fun K hK => ?_;simp [e1_0, e1_4, e1_11, e1_12, e1_13, q27, q28, q30, q31, ((hx0.agree A1_.agree).tup)];refine CallD.t (F_spec_exAt_w (fu := fu) (hx0.agree A1_.agree) hc32) ?_;rintro c33_u0 G34 ⟨a37, _, rfl, S38⟩;have A36 := A1_.ext (hB.le A1_.1) a37.agree
    have S35 : Sep G34 (Fr H) [rowsC w1_0 22 3 D1_0 (List.map ints l1_0), rowsC c11_u0 22 3 c11_C0 (List.map ints r2), flat c33_u0 3 (ints r3)] := S1_.app a37.agree S38 (fun _ h => h) (hB.le A1_.1);obtain ⟨r4, hc39, hL20⟩ := bd_some hL20;simp [e1_0, e1_4, e1_11, e1_12, e1_13, q27, q28, q30, q31, a37.pre, ((S35.rd (k := 0) rfl).tup), ((S35.sl (k := 2) rfl).tup)];have S40 : Sep G34 (Fr H) ([rowsC w1_0 22 3 D1_0 (List.map ints l1_0), flat c33_u0 3 (ints r3)] ++ [rowsC c11_u0 22 3 c11_C0 (List.map ints r2)]) := S35.pick [0, 2, 1] (by decide) rfl;obtain ⟨B46, S41, U42, M43, R44, C45⟩ := S40.frame (hB.le A36.1);refine CallD.t (F_spec_exPut_w (fu := fu) U42 S41 hc39) ?_;rintro c47_u0 G48 ⟨a51, _, c47_C0, rfl, S52⟩;have A50 := A36.trans (a51.mono M43);have S49 : Sep G48 (Fr H) [rowsC c47_u0 22 3 c47_C0 (List.map ints r4), rowsC c11_u0 22 3 c11_C0 (List.map ints r2)] := C45 _ _ a51 S52;simp [e1_0, e1_4, e1_11, e1_12, e1_13, q27, q28, q30, q31, a37.pre];apply hK;clear hK K;simp only [andThen, leaves];refine .region fun K hK => ?_;simp [e1_0, e1_4, e1_11, e1_12, e1_13];apply hK;clear hK K;simp only [andThen, leaves];have S53 := S49.pick [0, 1] (by decide) rfl;exact ⟨n1, Nat.lt_succ_self _, r4, (iadd .i64 y1_13 1), c47_u0, c47_C0, hL20, S53, A50, by simp [e1_0, e1_4, e1_11, e1_12, e1_13]⟩
   ·replace hL20 := cd_f hb22 hL20;refine DWp.exit ?_;simp only [andThen, leaves, if_true, if_false, reduceIte, Nat.reduceEqDiff];obtain rfl := Option.some.inj hL20;try dsimp only at hF
    refine .sr fun K hK => ?_;simp [e1_0, e1_4, e1_11, e1_12, e1_13];apply hK;clear hK K;refine DWp.ret ?_;obtain rfl := Option.some.inj hF;exact ⟨by simp, [w1_0, (Value.bool true)], by simp [e1_0, e1_4, e1_11, e1_12, e1_13, ((S1_.rd (k := 0) rfl).tup)], A1_, w1_0, D1_0, rfl, S1_.pick [0] (by decide) rfl⟩
def F_slices_insertionSortCmpFunc_Sint_L2 (fu : Nat) (k2_0 : Int) (k2_1 : Int) (k2_2 : ((List Int) → (List Int) → Option (Int))) (k2_3 : Int) : Nat → List (List Int) → Int → Option (List (List Int) × Int)
  | 0, _, _ => none
  | n + 1, l2_0, y2_9 =>
    bd (
      bif (ilt k2_0 y2_9) then
        gd (inL l2_0 y2_9) (
        gd (inL l2_0 (isub .i64 y2_9 1)) (
        bd (k2_2 (gat [] l2_0 y2_9) (gat [] l2_0 (isub .i64 y2_9 1))) fun r1 =>
        some (ilt r1 0)))
      else
        some false) fun s8 =>
    bif s8 then
      gd (inL l2_0 (isub .i64 y2_9 1)) (
      gd (inL l2_0 y2_9) (
      gd (inL l2_0 y2_9) (
      gd (inL l2_0 (isub .i64 y2_9 1)) (
      F_slices_insertionSortCmpFunc_Sint_L2 fu k2_0 k2_1 k2_2 k2_3 n (lset (lset l2_0 y2_9 (gat [] l2_0 (isub .i64 y2_9 1))) (isub .i64 y2_9 1) (gat [] l2_0 y2_9)) (isub .i64 y2_9 1)))))
    else
      some (l2_0, y2_9)
def F_slices_insertionSortCmpFunc_Sint_L1 (fu : Nat) (k1_0 : Int) (k1_1 : Int) (k1_2 : ((List Int) → (List Int) → Option (Int))) : Nat → List (List Int) → Int → Option (List (List Int) × Int)
  | 0, _, _ => none
  | n + 1, l1_0, y1_8 =>
    bif (ilt y1_8 k1_1) then
      bd (F_slices_insertionSortCmpFunc_Sint_L2 fu k1_0 k1_1 k1_2 y1_8 fu l1_0 y1_8) fun s2 =>
      F_slices_insertionSortCmpFunc_Sint_L1 fu k1_0 k1_1 k1_2 n s2.1 (iadd .i64 y1_8 1)
    else
      some (l1_0, y1_8)
def F_slices_insertionSortCmpFunc_Sint (fu : Nat) (x0 : List (List Int)) (x1 : Int) (x2 : Int) (x3 : (List Int) → (List Int) → Option (Int)) : Option (List (List Int)) :=
  bd (F_slices_insertionSortCmpFunc_Sint_L1 fu x1 x2 x3 fu x0 (iadd .i64 x1 1)) fun s1 =>
  some s1.1
theorem F_slices_insertionSortCmpFunc_Sint_w {fu : Nat} {H : AH} {B : Nat → Prop} {v0 : Value} {C0 : List Value} {f3 : FuncId} {c3 : List Value} {x0 : List (List Int)} {x1 : Int} {x2 : Int} {x3 : (List Int) → (List Int) → Option (Int)} {r : (List (List Int))} (hB : Up B H.length) (S0 : Sep H B [rowsC v0 22 3 C0 (List.map ints x0)]) (hx3 : ∀ (G : AH), AgB B H G → ∀ (v0 : Value) (v1 : Value) (y0 : List Int) (y1 : List Int) (q : (Int)), Sl G v0 (ints y0) → Sl G v1 (ints y1) → x3 y0 y1 = some q → ACallT Try.prog f3 ([v0, v1] ++ c3) G (fun u G' => AgB (Fr G) G G' ∧ u = (Value.int .i64 q) ∧ Sep G' (Fr G) [])) (hF : F_slices_insertionSortCmpFunc_Sint fu x0 x1 x2 x3 = some r) :
    ACallT Try.prog 133 [v0, (Value.int .i64 x1), (Value.int .i64 x2), (Value.func (.func f3) #[] c3.toArray)] H (fun u G => AgB B H G ∧ ∃ Cz0 : List Value, u = (Value.tuple #[]) ∧ Sep G B [rowsC v0 22 3 Cz0 (List.map ints r)]) := by
 refine ACallT.of_body (nt := 53) (rs := []) Try.func133 rfl rfl rfl rfl ?_;have A0 : AgB B H H := .refl _ _;unfold F_slices_insertionSortCmpFunc_Sint at hF;refine .sr fun K hK => ?_;simp [];apply hK;clear hK K;refine .block ?_;obtain ⟨s1, hL2, hF⟩ := bd_some hF;have S3 := S0.pick [0] (by decide) rfl;refine DWp.loop (fun n env G => ∃ l1_0 : List (List Int), ∃ y1_8 : Int, ∃ D1_0 : List Value, F_slices_insertionSortCmpFunc_Sint_L1 fu x1 x2 x3 n l1_0 y1_8 = some s1 ∧ Sep G B [rowsC v0 22 3 D1_0 (List.map ints l1_0)] ∧ AgB B H G ∧ env 0 = some v0 ∧ env 1 = some (Value.int .i64 x1) ∧ env 2 = some (Value.int .i64 x2) ∧ env 3 = some (Value.func (.func f3) #[] c3.toArray) ∧ env 8 = some (Value.int .i64 y1_8)) fu ⟨x0, (iadd .i64 x1 1), C0, hL2, S3, A0, by simp []⟩ ?_;rintro n1 env1 G1_ ⟨l1_0, y1_8, D1_0, hL2, S1_, A1_, e1_0, e1_1, e1_2, e1_3, e1_8⟩;cases n1 with
 | zero => cases hL2
 | succ n1 =>
  simp only [F_slices_insertionSortCmpFunc_Sint_L1] at hL2;refine .seq ?_;refine .sr fun K hK => ?_;simp [e1_0, e1_1, e1_2, e1_3, e1_8];apply hK;clear hK K;refine DWp.cond' (t := (ilt y1_8 x2)) (by simp [e1_0, e1_1, e1_2, e1_3, e1_8]) (fun hb4 => ?_) (fun hb4 => ?_)
  ·replace hL2 := cd_t hb4 hL2;refine DWp.skip ?_;simp only [andThen, leaves];refine .seq ?_;refine .block ?_;refine .sr fun K hK => ?_;simp [e1_0, e1_1, e1_2, e1_3, e1_8];apply hK;clear hK K;refine .block ?_;obtain ⟨s5, hL6, hL2⟩ := bd_some hL2;have S7 := S1_.pick [0] (by decide) rfl;refine DWp.loop (fun n env G => ∃ l2_0 : List (List Int), ∃ y2_9 : Int, ∃ D2_0 : List Value, F_slices_insertionSortCmpFunc_Sint_L2 fu x1 x2 x3 y1_8 n l2_0 y2_9 = some s5 ∧ Sep G B [rowsC v0 22 3 D2_0 (List.map ints l2_0)] ∧ AgB B H G ∧ env 0 = some v0 ∧ env 1 = some (Value.int .i64 x1) ∧ env 2 = some (Value.int .i64 x2) ∧ env 3 = some (Value.func (.func f3) #[] c3.toArray) ∧ env 8 = some (Value.int .i64 y1_8) ∧ env 9 = some (Value.int .i64 y2_9)) fu ⟨l1_0, y1_8, D1_0, hL6, S7, A1_, by simp [e1_0, e1_1, e1_2, e1_3, e1_8]⟩ ?_;rintro n2 env2 G2_ ⟨l2_0, y2_9, D2_0, hL6, S2_, A2_, e2_0, e2_1, e2_2, e2_3, e2_8, e2_9⟩;cases n2 with
   | zero => cases hL6
   | succ n2 =>
    simp only [F_slices_insertionSortCmpFunc_Sint_L2] at hL6;refine .seq ?_;obtain ⟨s8, hL9, hL6⟩ := bd_some hL6;refine DWp.seq (DWp.join (fun env G => Sep G B [rowsC v0 22 3 D2_0 (List.map ints l2_0)] ∧ AgB B H G ∧ env 0 = some v0 ∧ env 1 = some (Value.int .i64 x1) ∧ env 2 = some (Value.int .i64 x2) ∧ env 3 = some (Value.func (.func f3) #[] c3.toArray) ∧ env 8 = some (Value.int .i64 y1_8) ∧ env 9 = some (Value.int .i64 y2_9) ∧ env 34 = some (Value.bool s8)) ?_ ?_)
    ·
     rcases Bool.eq_false_or_eq_true (ilt x1 y2_9) with hb11 | hb11
     ·replace hL9 := cd_t hb11 hL9;obtain ⟨g12, hL9⟩ := gd_some hL9;have q13 := (S2_.rd (k := 0) rfl).idxG (P := Try.prog) (kk := .i64) el_23 sz_22 g12;have q14 := (S2_.rd (k := 0) rfl).loadG (P := Try.prog) sz_22 ag_22 g12;obtain ⟨g15, hL9⟩ := gd_some hL9;have q16 := (S2_.rd (k := 0) rfl).idxG (P := Try.prog) (kk := .i64) el_23 sz_22 g15;have q17 := (S2_.rd (k := 0) rfl).loadG (P := Try.prog) sz_22 ag_22 g15;obtain ⟨r1, hc18, hL9⟩ := bd_some hL9;refine .drawn (B := [0, 0, 3, 7, 15, 15, 15, 111, 239, 15, 15, 1039, 3599, 7695, 16383, 32767, 65535]) 17 mixed (by kernel_rfl) (by decide) fun K hK => ?_;simp [e2_0, e2_1, e2_2, e2_3, e2_8, e2_9, hb11, q13, q14, q16, q17, (((S2_.rd (k := 0) rfl).rowAt [] g12).tup), (((S2_.rd (k := 0) rfl).rowAt [] g15).tup)];refine CallD.t (hx3 _ A2_ (gat nilV D2_0 y2_9) (gat nilV D2_0 (isub .i64 y2_9 1)) (gat [] l2_0 y2_9) (gat [] l2_0 (isub .i64 y2_9 1)) _ ((S2_.rd (k := 0) rfl).rowAt [] g12) ((S2_.rd (k := 0) rfl).rowAt [] g15) hc18) ?_;rintro _ G19 ⟨a22, rfl, S23⟩;have A21 := A2_.ext (hB.le A2_.1) a22.agree;have S20 : Sep G19 B [rowsC v0 22 3 D2_0 (List.map ints l2_0)] := S2_.agree a22.agree;simp [e2_0, e2_1, e2_2, e2_3, e2_8, e2_9, hb11, q13, q14, q16, q17, a22.pre];apply hK;clear hK K;simp only [andThen, leaves];have S24 := S20.pick [0] (by decide) rfl;obtain rfl := Option.some.inj hL9;exact ⟨S24, A21, by simp [e2_0, e2_1, e2_2, e2_3, e2_8, e2_9]⟩
     ·replace hL9 := cd_f hb11 hL9;refine .drawn (B := [0, 0, 3, 7, 15, 15, 15, 111, 239, 15, 15, 1039, 3599, 7695, 16383, 32767, 65535]) 17 mixed (by kernel_rfl) (by decide) fun K hK => ?_;simp [e2_0, e2_1, e2_2, e2_3, e2_8, e2_9, hb11];apply hK;clear hK K;simp only [andThen, leaves];have S25 := S2_.pick [0] (by decide) rfl;obtain rfl := Option.some.inj hL9;exact ⟨S25, A2_, by simp [e2_0, e2_1, e2_2, e2_3, e2_8, e2_9]⟩
    ·rintro env Gj26 ⟨Sj26, Aj26, ej26_0, ej26_1, ej26_2, ej26_3, ej26_8, ej26_9, ej26_34⟩;refine DWp.cond' (t := s8) (by simp [ej26_0, ej26_1, ej26_2, ej26_3, ej26_8, ej26_9, ej26_34]) (fun hb27 => ?_) (fun hb27 => ?_)
     ·replace hL6 := cd_t hb27 hL6;refine DWp.skip ?_;simp only [andThen, leaves];refine .seq ?_;refine .block ?_;obtain ⟨g28, hL6⟩ := gd_some hL6;have q29 := (Sj26.rd (k := 0) rfl).idxG (P := Try.prog) (kk := .i64) el_23 sz_22 g28;have q30 := (Sj26.rd (k := 0) rfl).loadG (P := Try.prog) sz_22 ag_22 g28;obtain ⟨g31, hL6⟩ := gd_some hL6;have q32 := (Sj26.rd (k := 0) rfl).idxG (P := Try.prog) (kk := .i64) el_23 sz_22 g31;have q33 := (Sj26.rd (k := 0) rfl).loadG (P := Try.prog) sz_22 ag_22 g31;obtain ⟨g34, hL6⟩ := gd_some hL6;have q35 := (Sj26.rd (k := 0) rfl).idxG (P := Try.prog) (kk := .i64) el_23 sz_22 g34;obtain ⟨G41, q42, S43, a45⟩ := Sj26.swap1 (fr := ints) (P := Try.prog) (k := 0) [] rfl (hB.le Aj26.1) sz_22 g34 g28;have A44 := Aj26.trans a45;replace S43 : Sep G41 B [rowsS v0 22 3 (lset D2_0 y2_9 (gat nilV D2_0 (isub .i64 y2_9 1))) D2_0 (List.map ints l2_0)] := S43;obtain ⟨g46, hL6⟩ := gd_some hL6;have q47 := S43.idxS (P := Try.prog) (ki := .i64) (kk := 0) rfl el_23 sz_22 g46;obtain ⟨G53, q54, S55, a57⟩ := S43.swap2 (fr := ints) (P := Try.prog) (k := 0) [] rfl (hB.le A44.1) sz_22 g34 g28;have A56 := A44.trans a57;replace S55 : Sep G53 B [rowsC v0 22 3 (lset (lset D2_0 y2_9 (gat nilV D2_0 (isub .i64 y2_9 1))) (isub .i64 y2_9 1) (gat nilV D2_0 y2_9)) (List.map ints (lset (lset l2_0 y2_9 (gat [] l2_0 (isub .i64 y2_9 1))) (isub .i64 y2_9 1) (gat [] l2_0 y2_9)))] := S55;refine .drawn (B := [0, 0, 0, 0, 8, 0, 0, 64, 224, 480, 0, 0, 3072, 7168, 16355, 32739, 65535, 131071]) 15 mixed (by kernel_rfl) (by decide) fun K hK => ?_;simp [ej26_0, ej26_1, ej26_2, ej26_3, ej26_8, ej26_9, ej26_34, q29, q30, q32, q33, q35, (((Sj26.rd (k := 0) rfl).rowAt [] g28).tup), q42, q47, q54];apply hK;clear hK K;simp only [andThen, leaves];refine .region fun K hK => ?_
      simp [ej26_0, ej26_1, ej26_2, ej26_3, ej26_8, ej26_9, ej26_34];apply hK;clear hK K;simp only [andThen, leaves];have S58 := S55.pick [0] (by decide) rfl;exact ⟨n2, Nat.lt_succ_self _, (lset (lset l2_0 y2_9 (gat [] l2_0 (isub .i64 y2_9 1))) (isub .i64 y2_9 1) (gat [] l2_0 y2_9)), (isub .i64 y2_9 1), (lset (lset D2_0 y2_9 (gat nilV D2_0 (isub .i64 y2_9 1))) (isub .i64 y2_9 1) (gat nilV D2_0 y2_9)), hL6, S58, A56, by simp [ej26_0, ej26_1, ej26_2, ej26_3, ej26_8, ej26_9, ej26_34]⟩
     ·replace hL6 := cd_f hb27 hL6;refine DWp.exit ?_;simp only [andThen, leaves, if_true, if_false, reduceIte, Nat.reduceEqDiff];obtain rfl := Option.some.inj hL6;try dsimp only at hL2
      refine .region fun K hK => ?_;simp [ej26_0, ej26_1, ej26_2, ej26_3, ej26_8, ej26_9, ej26_34];apply hK;clear hK K;simp only [andThen, leaves];have S59 := Sj26.pick [0] (by decide) rfl;exact ⟨n1, Nat.lt_succ_self _, l2_0, (iadd .i64 y1_8 1), D2_0, hL2, S59, Aj26, by simp [ej26_0, ej26_1, ej26_2, ej26_3, ej26_8, ej26_9, ej26_34]⟩
  ·replace hL2 := cd_f hb4 hL2;refine DWp.exit ?_;simp only [andThen, leaves, if_true, if_false, reduceIte, Nat.reduceEqDiff];obtain rfl := Option.some.inj hL2;try dsimp only at hF
   obtain rfl := Option.some.inj hF;exact ⟨by simp, [], by simp [e1_0, e1_1, e1_2, e1_3, e1_8], A1_, D1_0, rfl, S1_.pick [0] (by decide) rfl⟩
end Go.Proofs.Ytdghlhdpcmemjaa.AL

/- The walks of functions, each with its Lean function: impl.exchanged, impl.ExchangeAt, laws.markIntS, laws.heldIntS, laws.FnExactExchangeAt, spec.exBefore, spec.l1Same, spec.exPut, spec.ExchangesOf, slices.insertionSortCmpFunc[[]int]. No condition. -/
import Derived.Test.YtdghlhdpcmemjaaFBD
import Derived.Test.YtdghlhdpcmemjaaFBE
import Derived.Test.YtdghlhdpcmemjaaG1
import Derived.Test.YtdghlhdpcmemjaaG2
import Derived.Test.YtdghlhdpcmemjaaG3
import Derived.Test.YtdghlhdpcmemjaaG4
import Derived.Test.YtdghlhdpcmemjaaALD
import Derived.Test.YtdghlhdpcmemjaaProg
import Derived.KernelRfl
namespace Go.Proofs.Ytdghlhdpcmemjaa.AL
open Go Go.RowKit
set_option linter.unusedVariables false
set_option linter.unusedSimpArgs false
set_option maxRecDepth 4096
theorem ze_22 : zeroT Try.prog 22 = some (.slice none 0 0) := by kernel_rfl
def F_impl_exchanged (fu : Nat) (x0 : List Int) (x1 : Int) (x2 : Int) : Option (List Int) :=
  bd (F_slices_Clone_Sint fu x0) fun r1 =>
  gd (inL x0 x2) (
  gd (inL x0 x1) (
  bif (ilt (gat 0 x0 x2) (gat 0 x0 x1)) then
    bd (F_impl_exchanged_1 fu x1 x2 r1) fun r2 =>
    gd (inL x0 x2) (
    gd (inL x0 x1) (
    bd (F_impl_exchanged_1 fu (gat 0 x0 x2) (gat 0 x0 x1) r2) fun r3 =>
    some r3))
  else
    gd (inL x0 x2) (
    bd (F_impl_exchanged_1 fu x1 (gat 0 x0 x2) r1) fun r4 =>
    gd (inL x0 x1) (
    bd (F_impl_exchanged_1 fu (gat 0 x0 x1) x2 r4) fun r5 =>
    some r5))))
theorem F_impl_exchanged_w {fu : Nat} {H : AH} {v0 : Value} {x0 : List Int} {x1 : Int} {x2 : Int} {r : (List Int)} (hx0 : Sl H v0 (ints x0)) (hF : F_impl_exchanged fu x0 x1 x2 = some r) :
    ACallT Try.prog 70 [v0, (Value.int .i64 x1), (Value.int .i64 x2)] H (fun u G => AgB (Fr H) H G ∧ ∃ u0 : Value, u = u0 ∧ Sep G (Fr H) [flat u0 3 (ints r)]) := by
  refine ACallT.of_body (nt := 50) (rs := [.tmp 6]) Try.func70 rfl rfl rfl rfl ?_
  have A0 : AgB (Fr H) H H := .refl _ _
  have S0 : Sep H (Fr H) [] := .nil
  have hB := Fr.up H
  unfold F_impl_exchanged at hF
  refine DWp.seq ?_
  refine DWp.region fun K hK => ?_
  simp [-aBin', -aBin, -aBinI, -aUn, -aNil, -flatV, n_fn, b_add, b_sub, b_mul, b_lt, b_le, b_gt, b_ge, b_eq, b_ne, u_not]
  apply hK
  clear hK K
  simp only [andThen, leaves]
  refine DWp.seq ?_
  obtain ⟨r1, hc1, hF⟩ := bd_some hF
  refine DWp.region fun K hK => ?_
  simp [-aBin', -aBin, -aBinI, -aUn, -aNil, -flatV, n_fn, b_add, b_sub, b_mul, b_lt, b_le, b_gt, b_ge, b_eq, b_ne, u_not, ((hx0.agree A0.agree).tup)]
  refine CallD.t (F_slices_Clone_Sint_w (fu := fu) (hx0.agree A0.agree) hc1) ?_
  rintro c2_u0 G3 ⟨a6, _, rfl, S7⟩
  have A5 := A0.ext (hB.le A0.1) a6.agree
  have S4 : Sep G3 (Fr H) [flat c2_u0 3 (ints r1)] := S0.app a6.agree S7 (fun _ h => h) (hB.le A0.1)
  obtain ⟨G9, p11, q12, q14, a13, S8⟩ := S4.allocT (P := Try.prog) (hB.le A5.1) ze_22 rfl
  have A10 := A5.ext (hB.le A5.1) a13
  replace S8 : Sep G9 (Fr H) [flat c2_u0 3 (ints r1), AL.box p11 [(Value.slice none 0 0)]] := S8
  obtain ⟨G15, q16, S17, a19⟩ := S8.put0 (P := Try.prog) (k := 1) rfl (hB.le A10.1) sz_22 ((S8.sl (k := 0) rfl).tup) ((S8.sl (k := 0) rfl).one)
  have A18 := A10.trans a19
  replace S17 : Sep G15 (Fr H) [flat c2_u0 3 (ints r1), AL.box p11 [c2_u0]] := S17
  simp [-aBin', -aBin, -aBinI, -aUn, -aNil, -flatV, n_fn, b_add, b_sub, b_mul, b_lt, b_le, b_gt, b_ge, b_eq, b_ne, u_not, a6.pre, q12, q14, a13.to_pre, q16]
  apply hK
  clear hK K
  simp only [andThen, leaves]
  refine DWp.seq ?_
  refine DWp.region fun K hK => ?_
  simp [-aBin', -aBin, -aBinI, -aUn, -aNil, -flatV, n_fn, b_add, b_sub, b_mul, b_lt, b_le, b_gt, b_ge, b_eq, b_ne, u_not, (S17.flatT (k := 1) rfl)]
  apply hK
  clear hK K
  simp only [andThen, leaves]
  refine DWp.seq ?_
  refine DWp.seq ?_
  obtain ⟨g20, hF⟩ := gd_some hF
  have q21 := idxG (P := Try.prog) (kk := .i64) (hx0.agree A18.agree) el_22 sz_3 g20
  have q22 := loadG (P := Try.prog) (hx0.agree A18.agree) sz_3 ag_3 g20 0
  obtain ⟨g23, hF⟩ := gd_some hF
  have q24 := idxG (P := Try.prog) (kk := .i64) (hx0.agree A18.agree) el_22 sz_3 g23
  have q25 := loadG (P := Try.prog) (hx0.agree A18.agree) sz_3 ag_3 g23 0
  refine DWp.drawn (B := [0, 0, 3, 7, 0, 0, 48, 112, 255]) 9 mixed (by kernel_rfl) (by decide) fun K hK => ?_
  simp [-aBin', -aBin, -aBinI, -aUn, -aNil, -flatV, n_fn, b_add, b_sub, b_mul, b_lt, b_le, b_gt, b_ge, b_eq, b_ne, u_not, q21, q22, q24, q25]
  apply hK
  clear hK K
  simp only [andThen, leaves]
  refine DWp.cond' (t := (ilt (gat 0 x0 x2) (gat 0 x0 x1))) (by simp []) (fun hb26 => ?_) (fun hb26 => ?_)
  · replace hF := cd_t hb26 hF
    refine DWp.seq ?_
    obtain ⟨r2, hc27, hF⟩ := bd_some hF
    refine DWp.region fun K hK => ?_
    simp [-aBin', -aBin, -aBinI, -aUn, -aNil, -flatV, n_fn, b_add, b_sub, b_mul, b_lt, b_le, b_gt, b_ge, b_eq, b_ne, u_not, (S17.ptup (k := 1) rfl)]
    have S28 : Sep G15 (Fr H) ([flat c2_u0 3 (ints r1), AL.box p11 [c2_u0]] ++ []) := S17.pick [0, 1] (by decide) rfl
    obtain ⟨B34, S29, U30, M31, R32, C33⟩ := S28.frame (hB.le A18.1)
    refine CallD.t (F_impl_exchanged_1_w (fu := fu) U30 S29 hc27) ?_
    rintro _ G36 ⟨a39, rfl, S40⟩
    have A38 := A18.trans (a39.mono M31)
    have S37 : Sep G36 (Fr H) [flat c2_u0 3 (ints r2), AL.box p11 [c2_u0]] := C33 _ _ a39 S40
    simp [-aBin', -aBin, -aBinI, -aUn, -aNil, -flatV, n_fn, b_add, b_sub, b_mul, b_lt, b_le, b_gt, b_ge, b_eq, b_ne, u_not]
    apply hK
    clear hK K
    simp only [andThen, leaves]
    obtain ⟨g41, hF⟩ := gd_some hF
    have q42 := idxG (P := Try.prog) (kk := .i64) (hx0.agree A38.agree) el_22 sz_3 g41
    have q43 := loadG (P := Try.prog) (hx0.agree A38.agree) sz_3 ag_3 g41 0
    obtain ⟨g44, hF⟩ := gd_some hF
    have q45 := idxG (P := Try.prog) (kk := .i64) (hx0.agree A38.agree) el_22 sz_3 g44
    have q46 := loadG (P := Try.prog) (hx0.agree A38.agree) sz_3 ag_3 g44 0
    obtain ⟨r3, hc47, hF⟩ := bd_some hF
    refine DWp.drawn (B := [0, 0, 0, 6, 14, 0, 0, 96, 224, 511]) 9 mixed (by kernel_rfl) (by decide) fun K hK => ?_
    simp [-aBin', -aBin, -aBinI, -aUn, -aNil, -flatV, n_fn, b_add, b_sub, b_mul, b_lt, b_le, b_gt, b_ge, b_eq, b_ne, u_not, q42, q43, q45, q46, (S37.ptup (k := 1) rfl)]
    have S48 : Sep G36 (Fr H) ([flat c2_u0 3 (ints r2), AL.box p11 [c2_u0]] ++ []) := S37.pick [0, 1] (by decide) rfl
    obtain ⟨B54, S49, U50, M51, R52, C53⟩ := S48.frame (hB.le A38.1)
    refine CallD.t (F_impl_exchanged_1_w (fu := fu) U50 S49 hc47) ?_
    rintro _ G56 ⟨a59, rfl, S60⟩
    have A58 := A38.trans (a59.mono M51)
    have S57 : Sep G56 (Fr H) [flat c2_u0 3 (ints r3), AL.box p11 [c2_u0]] := C53 _ _ a59 S60
    simp [-aBin', -aBin, -aBinI, -aUn, -aNil, -flatV, n_fn, b_add, b_sub, b_mul, b_lt, b_le, b_gt, b_ge, b_eq, b_ne, u_not, q42, q43, q45, q46]
    apply hK
    clear hK K
    simp only [andThen, leaves]
    refine DWp.seq ?_
    have q61 := S57.load0 (P := Try.prog) (k := 1) rfl sz_22 ag_22
    refine DWp.region fun K hK => ?_
    simp [-aBin', -aBin, -aBinI, -aUn, -aNil, -flatV, n_fn, b_add, b_sub, b_mul, b_lt, b_le, b_gt, b_ge, b_eq, b_ne, u_not, q61]
    apply hK
    clear hK K
    simp only [andThen, leaves]
    refine DWp.ret ?_
    obtain rfl := Option.some.inj hF
    exact ⟨by simp, [c2_u0], by simp [((S57.sl (k := 0) rfl).tup)], A58, c2_u0, rfl, S57.pick [0] (by decide) rfl⟩
  · replace hF := cd_f hb26 hF
    refine DWp.seq ?_
    obtain ⟨g62, hF⟩ := gd_some hF
    have q63 := idxG (P := Try.prog) (kk := .i64) (hx0.agree A18.agree) el_22 sz_3 g62
    have q64 := loadG (P := Try.prog) (hx0.agree A18.agree) sz_3 ag_3 g62 0
    obtain ⟨r4, hc65, hF⟩ := bd_some hF
    refine DWp.region fun K hK => ?_
    simp [-aBin', -aBin, -aBinI, -aUn, -aNil, -flatV, n_fn, b_add, b_sub, b_mul, b_lt, b_le, b_gt, b_ge, b_eq, b_ne, u_not, q63, q64, (S17.ptup (k := 1) rfl)]
    have S66 : Sep G15 (Fr H) ([flat c2_u0 3 (ints r1), AL.box p11 [c2_u0]] ++ []) := S17.pick [0, 1] (by decide) rfl
    obtain ⟨B72, S67, U68, M69, R70, C71⟩ := S66.frame (hB.le A18.1)
    refine CallD.t (F_impl_exchanged_1_w (fu := fu) U68 S67 hc65) ?_
    rintro _ G74 ⟨a77, rfl, S78⟩
    have A76 := A18.trans (a77.mono M69)
    have S75 : Sep G74 (Fr H) [flat c2_u0 3 (ints r4), AL.box p11 [c2_u0]] := C71 _ _ a77 S78
    simp [-aBin', -aBin, -aBinI, -aUn, -aNil, -flatV, n_fn, b_add, b_sub, b_mul, b_lt, b_le, b_gt, b_ge, b_eq, b_ne, u_not, q63, q64]
    apply hK
    clear hK K
    simp only [andThen, leaves]
    obtain ⟨g79, hF⟩ := gd_some hF
    have q80 := idxG (P := Try.prog) (kk := .i64) (hx0.agree A76.agree) el_22 sz_3 g79
    have q81 := loadG (P := Try.prog) (hx0.agree A76.agree) sz_3 ag_3 g79 0
    obtain ⟨r5, hc82, hF⟩ := bd_some hF
    refine DWp.region fun K hK => ?_
    simp [-aBin', -aBin, -aBinI, -aUn, -aNil, -flatV, n_fn, b_add, b_sub, b_mul, b_lt, b_le, b_gt, b_ge, b_eq, b_ne, u_not, q80, q81, (S75.ptup (k := 1) rfl)]
    have S83 : Sep G74 (Fr H) ([flat c2_u0 3 (ints r4), AL.box p11 [c2_u0]] ++ []) := S75.pick [0, 1] (by decide) rfl
    obtain ⟨B89, S84, U85, M86, R87, C88⟩ := S83.frame (hB.le A76.1)
    refine CallD.t (F_impl_exchanged_1_w (fu := fu) U85 S84 hc82) ?_
    rintro _ G91 ⟨a94, rfl, S95⟩
    have A93 := A76.trans (a94.mono M86)
    have S92 : Sep G91 (Fr H) [flat c2_u0 3 (ints r5), AL.box p11 [c2_u0]] := C88 _ _ a94 S95
    simp [-aBin', -aBin, -aBinI, -aUn, -aNil, -flatV, n_fn, b_add, b_sub, b_mul, b_lt, b_le, b_gt, b_ge, b_eq, b_ne, u_not, q80, q81]
    apply hK
    clear hK K
    simp only [andThen, leaves]
    refine DWp.seq ?_
    have q96 := S92.load0 (P := Try.prog) (k := 1) rfl sz_22 ag_22
    refine DWp.region fun K hK => ?_
    simp [-aBin', -aBin, -aBinI, -aUn, -aNil, -flatV, n_fn, b_add, b_sub, b_mul, b_lt, b_le, b_gt, b_ge, b_eq, b_ne, u_not, q96]
    apply hK
    clear hK K
    simp only [andThen, leaves]
    refine DWp.ret ?_
    obtain rfl := Option.some.inj hF
    exact ⟨by simp, [c2_u0], by simp [((S92.sl (k := 0) rfl).tup)], A93, c2_u0, rfl, S92.pick [0] (by decide) rfl⟩
def F_laws_markIntS_L1 (fu : Nat)  : Nat → List Int → Int → Int → Option (List Int × Int × Int)
  | 0, _, _, _ => none
  | n + 1, l1_0, y1_1, y1_5 =>
    bif (ilt y1_5 (llen l1_0)) then
      gd (inL l1_0 y1_5) (
      F_laws_markIntS_L1 fu n (lset l1_0 y1_5 y1_1) (iadd .i64 y1_1 1) (iadd .i64 y1_5 1))
    else
      some (l1_0, y1_1, y1_5)
def F_laws_markIntS (fu : Nat) (x0 : List Int) (x1 : Int) : Option (Int × List Int) :=
  bd (F_laws_markIntS_L1 fu fu x0 x1 0) fun s1 =>
  some (s1.2.1, s1.1)
theorem F_laws_markIntS_w {fu : Nat} {H : AH} {B : Nat → Prop} {v0 : Value} {x0 : List Int} {x1 : Int} {r : (Int × List Int)} (hB : Up B H.length) (S0 : Sep H B [flat v0 3 (ints x0)]) (hF : F_laws_markIntS fu x0 x1 = some r) :
    ACallT Try.prog 20 [v0, (Value.int .i64 x1)] H (fun u G => AgB B H G ∧ u = (Value.int .i64 r.1) ∧ Sep G B [flat v0 3 (ints r.2)]) := by
  refine ACallT.of_body (nt := 19) (rs := [.tmp 4]) Try.func20 rfl rfl rfl rfl ?_
  have A0 : AgB B H H := .refl _ _
  unfold F_laws_markIntS at hF
  refine DWp.seq ?_
  refine DWp.region fun K hK => ?_
  simp [-aBin', -aBin, -aBinI, -aUn, -aNil, -flatV, n_fn, b_add, b_sub, b_mul, b_lt, b_le, b_gt, b_ge, b_eq, b_ne, u_not]
  apply hK
  clear hK K
  simp only [andThen, leaves]
  refine DWp.seq ?_
  refine DWp.seq ?_
  refine DWp.region fun K hK => ?_
  simp [-aBin', -aBin, -aBinI, -aUn, -aNil, -flatV, n_fn, b_add, b_sub, b_mul, b_lt, b_le, b_gt, b_ge, b_eq, b_ne, u_not]
  apply hK
  clear hK K
  simp only [andThen, leaves]
  refine DWp.block ?_
  obtain ⟨s1, hL2, hF⟩ := bd_some hF
  have S3 := S0.pick [0] (by decide) rfl
  refine DWp.loop (fun n env G => ∃ l1_0 : List Int, ∃ y1_1 : Int, ∃ y1_5 : Int, F_laws_markIntS_L1 fu n l1_0 y1_1 y1_5 = some s1 ∧ Sep G B [flat v0 3 (ints l1_0)] ∧ AgB B H G ∧ env 0 = some v0 ∧ env 1 = some (Value.int .i64 y1_1) ∧ env 5 = some (Value.int .i64 y1_5)) fu ⟨x0, x1, 0, hL2, S3, A0, by simp [], by simp [], by simp []⟩ ?_
  rintro n1 env1 G1_ ⟨l1_0, y1_1, y1_5, hL2, S1_, A1_, e1_0, e1_1, e1_5⟩
  cases n1 with
  | zero => cases hL2
  | succ n1 =>
    simp only [F_laws_markIntS_L1] at hL2
    refine DWp.seq ?_
    refine DWp.seq ?_
    have q4 := lenG (P := Try.prog) (S1_.sl (k := 0) rfl) el_22
    refine DWp.region fun K hK => ?_
    simp [-aBin', -aBin, -aBinI, -aUn, -aNil, -flatV, n_fn, b_add, b_sub, b_mul, b_lt, b_le, b_gt, b_ge, b_eq, b_ne, u_not, e1_0, e1_1, e1_5, q4]
    apply hK
    clear hK K
    simp only [andThen, leaves]
    refine DWp.cond' (t := (ilt y1_5 (llen l1_0))) (by simp [e1_0, e1_1, e1_5]) (fun hb5 => ?_) (fun hb5 => ?_)
    · replace hL2 := cd_t hb5 hL2
      refine DWp.skip ?_
      simp only [andThen, leaves]
      refine DWp.seq ?_
      refine DWp.block ?_
      refine DWp.seq ?_
      obtain ⟨g6, hL2⟩ := gd_some hL2
      have q7 := idxG (P := Try.prog) (kk := .i64) (S1_.sl (k := 0) rfl) el_22 sz_3 g6
      obtain ⟨G8, q9, S10, a12⟩ := S1_.storeG (f := (Value.int .i64)) (P := Try.prog) (k := 0) (x := y1_1) rfl (hB.le A1_.1) sz_3 g6 rfl rfl
      have A11 := A1_.trans a12
      replace S10 : Sep G8 B [flat v0 3 (ints (lset l1_0 y1_5 y1_1))] := S10
      refine DWp.region fun K hK => ?_
      simp [-aBin', -aBin, -aBinI, -aUn, -aNil, -flatV, n_fn, b_add, b_sub, b_mul, b_lt, b_le, b_gt, b_ge, b_eq, b_ne, u_not, e1_0, e1_1, e1_5, q7, q9]
      apply hK
      clear hK K
      simp only [andThen, leaves]
      refine DWp.region fun K hK => ?_
      simp [-aBin', -aBin, -aBinI, -aUn, -aNil, -flatV, n_fn, b_add, b_sub, b_mul, b_lt, b_le, b_gt, b_ge, b_eq, b_ne, u_not, e1_0, e1_1, e1_5]
      apply hK
      clear hK K
      simp only [andThen, leaves]
      refine DWp.region fun K hK => ?_
      simp [-aBin', -aBin, -aBinI, -aUn, -aNil, -flatV, n_fn, b_add, b_sub, b_mul, b_lt, b_le, b_gt, b_ge, b_eq, b_ne, u_not, e1_0, e1_1, e1_5]
      apply hK
      clear hK K
      simp only [andThen, leaves]
      have S13 := S10.pick [0] (by decide) rfl
      exact ⟨n1, Nat.lt_succ_self _, (lset l1_0 y1_5 y1_1), (iadd .i64 y1_1 1), (iadd .i64 y1_5 1), hL2, S13, A11, by simp [e1_0, e1_1, e1_5], by simp [e1_0, e1_1, e1_5], by simp [e1_0, e1_1, e1_5]⟩
    · replace hL2 := cd_f hb5 hL2
      refine DWp.exit ?_
      simp only [andThen, leaves, if_true, if_false, reduceIte, Nat.reduceEqDiff]
      obtain rfl := Option.some.inj hL2
      try dsimp only at hF
      refine DWp.seq ?_
      refine DWp.region fun K hK => ?_
      simp [-aBin', -aBin, -aBinI, -aUn, -aNil, -flatV, n_fn, b_add, b_sub, b_mul, b_lt, b_le, b_gt, b_ge, b_eq, b_ne, u_not, e1_0, e1_1, e1_5]
      apply hK
      clear hK K
      simp only [andThen, leaves]
      refine DWp.ret ?_
      obtain rfl := Option.some.inj hF
      exact ⟨by simp, [(Value.int .i64 y1_1)], by simp [e1_0, e1_1, e1_5], A1_, rfl, S1_.pick [0] (by decide) rfl⟩
def F_laws_heldIntS_L1 (fu : Nat) (k1_0 : List Int) : Nat → Int → Int → Option (LR (Int) (Int × Int))
  | 0, _, _ => none
  | n + 1, y1_1, y1_5 =>
    bif (ilt y1_5 (llen k1_0)) then
      gd (inL k1_0 y1_5) (
      bif (ine (gat 0 k1_0 y1_5) y1_1) then
        some (.ret (-1))
      else
        F_laws_heldIntS_L1 fu k1_0 n (iadd .i64 y1_1 1) (iadd .i64 y1_5 1))
    else
      some (.brk (y1_1, y1_5))
def F_laws_heldIntS (fu : Nat) (x0 : List Int) (x1 : Int) : Option (Int) :=
  bd (F_laws_heldIntS_L1 fu x0 fu x1 0) fun s1 =>
  lr s1 fun s1 =>
  some s1.1
theorem F_laws_heldIntS_w {fu : Nat} {H : AH} {v0 : Value} {x0 : List Int} {x1 : Int} {r : (Int)} (hx0 : Sl H v0 (ints x0)) (hF : F_laws_heldIntS fu x0 x1 = some r) :
    ACallT Try.prog 34 [v0, (Value.int .i64 x1)] H (fun u G => AgB (Fr H) H G ∧ u = (Value.int .i64 r) ∧ Sep G (Fr H) []) := by
  refine ACallT.of_body (nt := 21) (rs := [.tmp 4]) Try.func34 rfl rfl rfl rfl ?_
  have A0 : AgB (Fr H) H H := .refl _ _
  have S0 : Sep H (Fr H) [] := .nil
  have hB := Fr.up H
  unfold F_laws_heldIntS at hF
  refine DWp.seq ?_
  refine DWp.region fun K hK => ?_
  simp [-aBin', -aBin, -aBinI, -aUn, -aNil, -flatV, n_fn, b_add, b_sub, b_mul, b_lt, b_le, b_gt, b_ge, b_eq, b_ne, u_not]
  apply hK
  clear hK K
  simp only [andThen, leaves]
  refine DWp.seq ?_
  refine DWp.seq ?_
  refine DWp.region fun K hK => ?_
  simp [-aBin', -aBin, -aBinI, -aUn, -aNil, -flatV, n_fn, b_add, b_sub, b_mul, b_lt, b_le, b_gt, b_ge, b_eq, b_ne, u_not]
  apply hK
  clear hK K
  simp only [andThen, leaves]
  refine DWp.block ?_
  obtain ⟨s1, hL2, hF⟩ := bd_some hF
  have S3 := S0.pick [] (by decide) rfl
  refine DWp.loop (fun n env G => ∃ y1_1 : Int, ∃ y1_5 : Int, F_laws_heldIntS_L1 fu x0 n y1_1 y1_5 = some s1 ∧ Sep G (Fr H) [] ∧ AgB (Fr H) H G ∧ env 0 = some v0 ∧ env 1 = some (Value.int .i64 y1_1) ∧ env 5 = some (Value.int .i64 y1_5)) fu ⟨x1, 0, hL2, S3, A0, by simp [], by simp [], by simp []⟩ ?_
  rintro n1 env1 G1_ ⟨y1_1, y1_5, hL2, S1_, A1_, e1_0, e1_1, e1_5⟩
  cases n1 with
  | zero => cases hL2
  | succ n1 =>
    simp only [F_laws_heldIntS_L1] at hL2
    refine DWp.seq ?_
    refine DWp.seq ?_
    have q4 := lenG (P := Try.prog) (hx0.agree A1_.agree) el_22
    refine DWp.region fun K hK => ?_
    simp [-aBin', -aBin, -aBinI, -aUn, -aNil, -flatV, n_fn, b_add, b_sub, b_mul, b_lt, b_le, b_gt, b_ge, b_eq, b_ne, u_not, e1_0, e1_1, e1_5, q4]
    apply hK
    clear hK K
    simp only [andThen, leaves]
    refine DWp.cond' (t := (ilt y1_5 (llen x0))) (by simp [e1_0, e1_1, e1_5]) (fun hb5 => ?_) (fun hb5 => ?_)
    · replace hL2 := cd_t hb5 hL2
      refine DWp.skip ?_
      simp only [andThen, leaves]
      refine DWp.seq ?_
      refine DWp.block ?_
      refine DWp.seq ?_
      refine DWp.seq ?_
      obtain ⟨g6, hL2⟩ := gd_some hL2
      have q7 := idxG (P := Try.prog) (kk := .i64) (hx0.agree A1_.agree) el_22 sz_3 g6
      have q8 := loadG (P := Try.prog) (hx0.agree A1_.agree) sz_3 ag_3 g6 0
      refine DWp.region fun K hK => ?_
      simp [-aBin', -aBin, -aBinI, -aUn, -aNil, -flatV, n_fn, b_add, b_sub, b_mul, b_lt, b_le, b_gt, b_ge, b_eq, b_ne, u_not, e1_0, e1_1, e1_5, q7, q8]
      apply hK
      clear hK K
      simp only [andThen, leaves]
      refine DWp.cond' (t := (ine (gat 0 x0 y1_5) y1_1)) (by simp [e1_0, e1_1, e1_5]) (fun hb9 => ?_) (fun hb9 => ?_)
      · replace hL2 := cd_t hb9 hL2
        refine DWp.seq ?_
        refine DWp.region fun K hK => ?_
        simp [-aBin', -aBin, -aBinI, -aUn, -aNil, -flatV, n_fn, b_add, b_sub, b_mul, b_lt, b_le, b_gt, b_ge, b_eq, b_ne, u_not, e1_0, e1_1, e1_5]
        apply hK
        clear hK K
        simp only [andThen, leaves]
        refine DWp.ret ?_
        simp only [andThen, leaves]
        obtain rfl := Option.some.inj hL2
        simp only [lr] at hF
        obtain rfl := Option.some.inj hF
        exact ⟨by simp, [(Value.int .i64 (-1))], by simp [e1_0, e1_1, e1_5], A1_, rfl, S1_.pick [] (by decide) rfl⟩
      · replace hL2 := cd_f hb9 hL2
        refine DWp.skip ?_
        simp only [andThen, leaves]
        refine DWp.region fun K hK => ?_
        simp [-aBin', -aBin, -aBinI, -aUn, -aNil, -flatV, n_fn, b_add, b_sub, b_mul, b_lt, b_le, b_gt, b_ge, b_eq, b_ne, u_not, e1_0, e1_1, e1_5]
        apply hK
        clear hK K
        simp only [andThen, leaves]
        refine DWp.region fun K hK => ?_
        simp [-aBin', -aBin, -aBinI, -aUn, -aNil, -flatV, n_fn, b_add, b_sub, b_mul, b_lt, b_le, b_gt, b_ge, b_eq, b_ne, u_not, e1_0, e1_1, e1_5]
        apply hK
        clear hK K
        simp only [andThen, leaves]
        have S10 := S1_.pick [] (by decide) rfl
        exact ⟨n1, Nat.lt_succ_self _, (iadd .i64 y1_1 1), (iadd .i64 y1_5 1), hL2, S10, A1_, by simp [e1_0, e1_1, e1_5], by simp [e1_0, e1_1, e1_5], by simp [e1_0, e1_1, e1_5]⟩
    · replace hL2 := cd_f hb5 hL2
      refine DWp.exit ?_
      simp only [andThen, leaves, if_true, if_false, reduceIte, Nat.reduceEqDiff]
      obtain rfl := Option.some.inj hL2
      simp only [lr] at hF
      refine DWp.seq ?_
      refine DWp.region fun K hK => ?_
      simp [-aBin', -aBin, -aBinI, -aUn, -aNil, -flatV, n_fn, b_add, b_sub, b_mul, b_lt, b_le, b_gt, b_ge, b_eq, b_ne, u_not, e1_0, e1_1, e1_5]
      apply hK
      clear hK K
      simp only [andThen, leaves]
      refine DWp.ret ?_
      obtain rfl := Option.some.inj hF
      exact ⟨by simp, [(Value.int .i64 y1_1)], by simp [e1_0, e1_1, e1_5], A1_, rfl, S1_.pick [] (by decide) rfl⟩
end Go.Proofs.Ytdghlhdpcmemjaa.AL

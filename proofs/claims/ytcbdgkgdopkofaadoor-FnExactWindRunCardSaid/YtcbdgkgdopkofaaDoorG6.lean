/- The walks of functions, each with its Lean function: laws.markSeaweed, laws.markText, laws.markStringS, laws.heldStringS. No condition. -/
import Derived.Test.YtcbdgkgdopkofaaDoorG1
import Derived.Test.YtcbdgkgdopkofaaDoorG2
import Derived.Test.YtcbdgkgdopkofaaDoorG3
import Derived.Test.YtcbdgkgdopkofaaDoorG4
import Derived.Test.YtcbdgkgdopkofaaDoorG5
import Derived.Test.YtcbdgkgdopkofaaDoorGJoin
import Derived.Test.YtcbdgkgdopkofaaDoorALD
import Derived.Test.YtcbdgkgdopkofaaDoorProg
import Derived.KernelRfl
namespace Go.Proofs.YtcbdgkgdopkofaaDoor.AL
open Go Go.RowKit
set_option linter.unusedVariables false
set_option linter.unusedSimpArgs false
set_option maxRecDepth 4096
attribute [local simp] n_fn b_add b_sub b_mul b_lt b_le b_gt b_ge b_eq b_ne u_not

def F_laws_markSeaweed (fu : Nat) (x0_0 : List Int) (x0_1 : List Int) (x1 : Int) : Option (Int × List Int × List Int) :=
  bd (F_laws_markIntS fu x0_0 x1) fun r1 =>
  bd (F_laws_markIntS fu x0_1 r1.1) fun r2 =>
  some (r2.1, r1.2, r2.2)
theorem F_laws_markSeaweed_w {fu : Nat} {H : AH} {B : Nat → Prop} {v0_0 : Value} {v0_1 : Value} {x0_0 : List Int} {x0_1 : List Int} {x1 : Int} {r : (Int × List Int × List Int)} (hB : Up B H.length) (S0 : Sep H B [flat v0_0 3 (ints x0_0), flat v0_1 3 (ints x0_1)]) (hF : F_laws_markSeaweed fu x0_0 x0_1 x1 = some r) :
    ACallT Tryd.prog 14 [(Value.agg #[v0_0, v0_1]), (Value.int .i64 x1)] H (fun u G => AgB B H G ∧ u = (Value.int .i64 r.1) ∧ Sep G B [flat v0_0 3 (ints r.2.1), flat v0_1 3 (ints r.2.2)]) := by
 refine ACallT.of_body (nt := 14) (rs := [.tmp 4]) Tryd.func14 rfl rfl rfl rfl ?_;have A0 : AgB B H H := .refl _ _;unfold F_laws_markSeaweed at hF;obtain ⟨G2, p4, q5, q6, a7, S1⟩ := S0.boxT (hB.le A0.1) 28 [v0_0, v0_1];have A3 := A0.ext (hB.le A0.1) a7;replace S1 : Sep G2 B [flat v0_0 3 (ints x0_0), flat v0_1 3 (ints x0_1), AL.box p4 [v0_0, v0_1]] := S1;refine .sr fun K hK => ?_;simp [q5, q6, a7.to_pre, cells_agg];apply hK;clear hK K;have q8 := S1.fieldT (P := Tryd.prog) (k := 2) rfl fa_28_0;have q9 := S1.loadF (P := Tryd.prog) (k := 2) rfl sz_22 ag_22 (off := 0) rfl;obtain ⟨r1, hc10, hF⟩ := bd_some hF;refine .sr fun K hK => ?_;simp [q8, q9, ((S1.sl (k := 0) rfl).tup)];have S11 : Sep G2 B ([flat v0_0 3 (ints x0_0)] ++ [flat v0_1 3 (ints x0_1), AL.box p4 [v0_0, v0_1]]) := S1.pick [0, 1, 2] (by decide) rfl;obtain ⟨B17, S12, U13, M14, R15, C16⟩ := S11.frame (hB.le A3.1);refine CallD.t (F_laws_markIntS_w (fu := fu) U13 S12 hc10) ?_;rintro _ G19 ⟨a22, rfl, S23⟩;have A21 := A3.trans (a22.mono M14);have S20 : Sep G19 B [flat v0_0 3 (ints r1.2), flat v0_1 3 (ints x0_1), AL.box p4 [v0_0, v0_1]] := C16 _ _ a22 S23;simp [q8, q9];apply hK;clear hK K;have q24 := S20.fieldT (P := Tryd.prog) (k := 2) rfl fa_28_1;have q25 := S20.loadF (P := Tryd.prog) (k := 2) rfl sz_22 ag_22 (off := 1) rfl;obtain ⟨r2, hc26, hF⟩ := bd_some hF;refine .sr fun K hK => ?_;simp [q24, q25, ((S20.sl (k := 1) rfl).tup)];have S27 : Sep G19 B ([flat v0_1 3 (ints x0_1)] ++ [flat v0_0 3 (ints r1.2), AL.box p4 [v0_0, v0_1]]) := S20.pick [1, 0, 2] (by decide) rfl;obtain ⟨B33, S28, U29, M30, R31, C32⟩ := S27.frame (hB.le A21.1);refine CallD.t (F_laws_markIntS_w (fu := fu) U29 S28 hc26) ?_;rintro _ G35 ⟨a38, rfl, S39⟩;have A37 := A21.trans (a38.mono M30)
 have S36 : Sep G35 B [flat v0_1 3 (ints r2.2), flat v0_0 3 (ints r1.2), AL.box p4 [v0_0, v0_1]] := C32 _ _ a38 S39;simp [q24, q25];apply hK;clear hK K;refine .sr fun K hK => ?_;simp [];apply hK;clear hK K;refine DWp.ret ?_;obtain rfl := Option.some.inj hF;exact ⟨by simp, [(Value.int .i64 r2.1)], by simp [], A37, rfl, S36.pick [1, 0] (by decide) rfl⟩
def F_laws_markText_L1 (fu : Nat)  : Nat → Int → ByteArray → Option (Int × ByteArray)
  | 0, _, _ => none
  | n + 1, y1_0, y1_3 =>
    bif (ilt 0 y1_0) then
      gd ((bstr [(iwr .u8 (iadd .i64 48 (irem y1_0 10)))]).size + y1_3.size ≤ 9223372036854775807) (
      F_laws_markText_L1 fu n (iquo .i64 y1_0 10) (sapp (bstr [(iwr .u8 (iadd .i64 48 (irem y1_0 10)))]) y1_3))
    else
      some (y1_0, y1_3)
def F_laws_markText (fu : Nat) (x0 : Int) : Option (ByteArray) :=
  bif (ile x0 0) then
    some (ByteArray.mk #[109, 48])
  else
    bd (F_laws_markText_L1 fu fu x0 (ByteArray.mk #[])) fun s1 =>
    gd ((ByteArray.mk #[109]).size + s1.2.size ≤ 9223372036854775807) (
    some (sapp (ByteArray.mk #[109]) s1.2))
theorem F_laws_markText_w {fu : Nat} {H : AH}  {x0 : Int} {r : (ByteArray)}  (hF : F_laws_markText fu x0 = some r) :
    ACallT Tryd.prog 30 [(Value.int .i64 x0)] H (fun u G => AgB (Fr H) H G ∧ u = (Value.string r) ∧ Sep G (Fr H) []) := by
 refine ACallT.of_body (nt := 20) (rs := [.tmp 2]) Tryd.func30 rfl rfl rfl rfl ?_;have A0 : AgB (Fr H) H H := .refl _ _;have S0 : Sep H (Fr H) [] := .nil;have hB := Fr.up H;unfold F_laws_markText at hF;refine .sr fun K hK => ?_;simp [];apply hK;clear hK K;refine .seq ?_;refine .sr fun K hK => ?_;simp [];apply hK;clear hK K;refine DWp.cond' (t := (ile x0 0)) (by simp []) (fun hb1 => ?_) (fun hb1 => ?_)
 ·replace hF := cd_t hb1 hF;refine .sr fun K hK => ?_;simp [];apply hK;clear hK K;refine DWp.ret ?_;simp only [andThen, leaves];obtain rfl := Option.some.inj hF;exact ⟨by simp, [(Value.string (ByteArray.mk #[109, 48]))], by simp [], A0, rfl, S0.pick [] (by decide) rfl⟩
 ·replace hF := cd_f hb1 hF;refine DWp.skip ?_;simp only [andThen, leaves];refine .sr fun K hK => ?_;simp [];apply hK;clear hK K;refine .seq ?_;refine .block ?_;obtain ⟨s2, hL3, hF⟩ := bd_some hF;have S4 := S0.pick [] (by decide) rfl;refine DWp.loop (fun n env G => ∃ y1_0 : Int, ∃ y1_3 : ByteArray, F_laws_markText_L1 fu n y1_0 y1_3 = some s2 ∧ Sep G (Fr H) [] ∧ AgB (Fr H) H G ∧ env 0 = some (Value.int .i64 y1_0) ∧ env 3 = some (Value.string y1_3)) fu ⟨x0, (ByteArray.mk #[]), hL3, S4, A0, by simp []⟩ ?_;rintro n1 env1 G1_ ⟨y1_0, y1_3, hL3, S1_, A1_, e1_⟩;cases n1 with
  | zero => cases hL3
  | succ n1 =>
   simp only [F_laws_markText_L1] at hL3;refine .seq ?_;refine .sr fun K hK => ?_;simp [e1_];apply hK;clear hK K;refine DWp.cond' (t := (ilt 0 y1_0)) (by simp [e1_]) (fun hb5 => ?_) (fun hb5 => ?_)
   ·replace hL3 := cd_t hb5 hL3;refine DWp.skip ?_;simp only [andThen, leaves];refine .block ?_;have g6 : (10 : Int) ≠ 0 := by decide
    obtain ⟨v7, G8, q9, S10, a12, _, _⟩ := S1_.lit1 (P := Tryd.prog) (t := 60) (hB.le A1_.1) el_60 ei_5 rfl (Value.int .u8 (iwr .u8 (iadd .i64 48 (irem y1_0 10)))) rfl rfl;have A11 := A1_.ext (hB.le A1_.1) a12;replace S10 : Sep G8 (Fr H) [flat1 v7 5 (u8s [(iwr .u8 (iadd .i64 48 (irem y1_0 10)))])] := S10;have q14 := c_bytes (P := Tryd.prog) us_60 un_5 un_9 (S10.sl1 (k := 0) rfl);obtain ⟨g15, hL3⟩ := gd_some hL3;refine .sr fun K hK => ?_;simp [e1_, b_rem g6, c_int un_3 un_5, q9, a12.to_pre, q14, s_add g15];apply hK;clear hK K;have g16 : (10 : Int) ≠ 0 := by decide
    refine .region fun K hK => ?_;simp [e1_, b_quo g16];apply hK;clear hK K;simp only [andThen, leaves];have S17 := S10.pick [] (by decide) rfl;exact ⟨n1, Nat.lt_succ_self _, (iquo .i64 y1_0 10), (sapp (bstr [(iwr .u8 (iadd .i64 48 (irem y1_0 10)))]) y1_3), hL3, S17, A11, by simp [e1_]⟩
   ·replace hL3 := cd_f hb5 hL3;refine DWp.exit ?_;simp only [andThen, leaves, if_true, if_false, reduceIte, Nat.reduceEqDiff];obtain rfl := Option.some.inj hL3;try dsimp only at hF
    obtain ⟨g18, hF⟩ := gd_some hF;refine .sr fun K hK => ?_;simp [e1_, s_add g18];apply hK;clear hK K;refine DWp.ret ?_;obtain rfl := Option.some.inj hF;exact ⟨by simp, [(Value.string (sapp (ByteArray.mk #[109]) y1_3))], by simp [e1_], A1_, rfl, S1_.pick [] (by decide) rfl⟩
def F_laws_markStringS_L1 (fu : Nat)  : Nat → List ByteArray → Int → Int → Option (List ByteArray × Int × Int)
  | 0, _, _, _ => none
  | n + 1, l1_0, y1_1, y1_5 =>
    bif (ilt y1_5 (llen l1_0)) then
      bd (F_laws_markText fu y1_1) fun r1 =>
      gd (inL l1_0 y1_5) (
      F_laws_markStringS_L1 fu n (lset l1_0 y1_5 r1) (iadd .i64 y1_1 1) (iadd .i64 y1_5 1))
    else
      some (l1_0, y1_1, y1_5)
def F_laws_markStringS (fu : Nat) (x0 : List ByteArray) (x1 : Int) : Option (Int × List ByteArray) :=
  bd (F_laws_markStringS_L1 fu fu x0 x1 0) fun s1 =>
  some (s1.2.1, s1.1)
theorem F_laws_markStringS_w {fu : Nat} {H : AH} {B : Nat → Prop} {v0 : Value} {x0 : List ByteArray} {x1 : Int} {r : (Int × List ByteArray)} (hB : Up B H.length) (S0 : Sep H B [flat v0 9 (strs x0)]) (hF : F_laws_markStringS fu x0 x1 = some r) :
    ACallT Tryd.prog 15 [v0, (Value.int .i64 x1)] H (fun u G => AgB B H G ∧ u = (Value.int .i64 r.1) ∧ Sep G B [flat v0 9 (strs r.2)]) := by
 refine ACallT.of_body (nt := 20) (rs := [.tmp 4]) Tryd.func15 rfl rfl rfl rfl ?_;have A0 : AgB B H H := .refl _ _;unfold F_laws_markStringS at hF;refine .sr fun K hK => ?_;simp [];apply hK;clear hK K;refine .seq ?_;refine .sr fun K hK => ?_;simp [];apply hK;clear hK K;refine .block ?_;obtain ⟨s1, hL2, hF⟩ := bd_some hF;have S3 := S0.pick [0] (by decide) rfl;refine DWp.loop (fun n env G => ∃ l1_0 : List ByteArray, ∃ y1_1 : Int, ∃ y1_5 : Int, F_laws_markStringS_L1 fu n l1_0 y1_1 y1_5 = some s1 ∧ Sep G B [flat v0 9 (strs l1_0)] ∧ AgB B H G ∧ env 0 = some v0 ∧ env 1 = some (Value.int .i64 y1_1) ∧ env 5 = some (Value.int .i64 y1_5)) fu ⟨x0, x1, 0, hL2, S3, A0, by simp []⟩ ?_;rintro n1 env1 G1_ ⟨l1_0, y1_1, y1_5, hL2, S1_, A1_, e1_⟩;cases n1 with
 | zero => cases hL2
 | succ n1 =>
  simp only [F_laws_markStringS_L1] at hL2;refine .seq ?_;have q4 := lenG (P := Tryd.prog) (S1_.sl (k := 0) rfl) el_32;refine .sr fun K hK => ?_;simp [e1_, q4];apply hK;clear hK K;refine DWp.cond' (t := (ilt y1_5 (llen l1_0))) (by simp [e1_]) (fun hb5 => ?_) (fun hb5 => ?_)
  ·replace hL2 := cd_t hb5 hL2;refine DWp.skip ?_;simp only [andThen, leaves];refine .seq ?_;refine .block ?_;obtain ⟨r1, hc6, hL2⟩ := bd_some hL2;refine .sr fun K hK => ?_;simp [e1_];refine CallD.t (F_laws_markText_w (fu := fu)  hc6) ?_;rintro _ G8 ⟨a11, rfl, S12⟩;have A10 := A1_.ext (hB.le A1_.1) a11.agree;have S9 : Sep G8 B [flat v0 9 (strs l1_0)] := S1_.app a11.agree S12 (fun _ h => h) (hB.le A1_.1);obtain ⟨g13, hL2⟩ := gd_some hL2;have q14 := idxG (P := Tryd.prog) (kk := .i64) (S9.sl (k := 0) rfl) el_32 sz_9 g13;obtain ⟨G15, q16, S17, a19⟩ := S9.storeG (f := Value.string) (P := Tryd.prog) (k := 0) (x := r1) rfl (hB.le A10.1) sz_9 g13 rfl rfl;have A18 := A10.trans a19;replace S17 : Sep G15 B [flat v0 9 (strs (lset l1_0 y1_5 r1))] := S17;simp [e1_, a11.pre, q14, q16];apply hK;clear hK K;refine .region fun K hK => ?_;simp [e1_];apply hK;clear hK K;simp only [andThen, leaves];refine .region fun K hK => ?_;simp [e1_];apply hK;clear hK K;simp only [andThen, leaves];have S20 := S17.pick [0] (by decide) rfl;exact ⟨n1, Nat.lt_succ_self _, (lset l1_0 y1_5 r1), (iadd .i64 y1_1 1), (iadd .i64 y1_5 1), hL2, S20, A18, by simp [e1_]⟩
  ·replace hL2 := cd_f hb5 hL2;refine DWp.exit ?_;simp only [andThen, leaves, if_true, if_false, reduceIte, Nat.reduceEqDiff];obtain rfl := Option.some.inj hL2;try dsimp only at hF
   refine .sr fun K hK => ?_;simp [e1_];apply hK;clear hK K;refine DWp.ret ?_;obtain rfl := Option.some.inj hF;exact ⟨by simp, [(Value.int .i64 y1_1)], by simp [e1_], A1_, rfl, S1_.pick [0] (by decide) rfl⟩
def F_laws_heldStringS_L1 (fu : Nat) (k1_0 : List ByteArray) : Nat → Int → Int → Option (LR (Int) (Int × Int))
  | 0, _, _ => none
  | n + 1, y1_1, y1_5 =>
    bif (ilt y1_5 (llen k1_0)) then
      gd (inL k1_0 y1_5) (
      bd (F_laws_markText fu y1_1) fun r1 =>
      bif (sne' (gat (ByteArray.mk #[]) k1_0 y1_5) r1) then
        some (.ret (-1))
      else
        F_laws_heldStringS_L1 fu k1_0 n (iadd .i64 y1_1 1) (iadd .i64 y1_5 1))
    else
      some (.brk (y1_1, y1_5))
def F_laws_heldStringS (fu : Nat) (x0 : List ByteArray) (x1 : Int) : Option (Int) :=
  bd (F_laws_heldStringS_L1 fu x0 fu x1 0) fun s1 =>
  lr s1 fun s1 =>
  some s1.1
theorem F_laws_heldStringS_w {fu : Nat} {H : AH} {v0 : Value} {x0 : List ByteArray} {x1 : Int} {r : (Int)} (hx0 : Sl H v0 (strs x0)) (hF : F_laws_heldStringS fu x0 x1 = some r) :
    ACallT Tryd.prog 16 [v0, (Value.int .i64 x1)] H (fun u G => AgB (Fr H) H G ∧ u = (Value.int .i64 r) ∧ Sep G (Fr H) []) := by
 refine ACallT.of_body (nt := 22) (rs := [.tmp 4]) Tryd.func16 rfl rfl rfl rfl ?_;have A0 : AgB (Fr H) H H := .refl _ _;have S0 : Sep H (Fr H) [] := .nil;have hB := Fr.up H;unfold F_laws_heldStringS at hF;refine .sr fun K hK => ?_;simp [];apply hK;clear hK K;refine .seq ?_;refine .sr fun K hK => ?_;simp [];apply hK;clear hK K;refine .block ?_;obtain ⟨s1, hL2, hF⟩ := bd_some hF;have S3 := S0.pick [] (by decide) rfl;refine DWp.loop (fun n env G => ∃ y1_1 : Int, ∃ y1_5 : Int, F_laws_heldStringS_L1 fu x0 n y1_1 y1_5 = some s1 ∧ Sep G (Fr H) [] ∧ AgB (Fr H) H G ∧ env 0 = some v0 ∧ env 1 = some (Value.int .i64 y1_1) ∧ env 5 = some (Value.int .i64 y1_5)) fu ⟨x1, 0, hL2, S3, A0, by simp []⟩ ?_;rintro n1 env1 G1_ ⟨y1_1, y1_5, hL2, S1_, A1_, e1_⟩;cases n1 with
 | zero => cases hL2
 | succ n1 =>
  simp only [F_laws_heldStringS_L1] at hL2;refine .seq ?_;have q4 := lenG (P := Tryd.prog) (hx0.agree A1_.agree) el_32;refine .sr fun K hK => ?_;simp [e1_, q4];apply hK;clear hK K;refine DWp.cond' (t := (ilt y1_5 (llen x0))) (by simp [e1_]) (fun hb5 => ?_) (fun hb5 => ?_)
  ·replace hL2 := cd_t hb5 hL2;refine DWp.skip ?_;simp only [andThen, leaves];refine .seq ?_;refine .block ?_;refine .seq ?_;obtain ⟨g6, hL2⟩ := gd_some hL2;have q7 := idxG (P := Tryd.prog) (kk := .i64) (hx0.agree A1_.agree) el_32 sz_9 g6;have q8 := loadG (P := Tryd.prog) (hx0.agree A1_.agree) sz_9 ag_9 g6 (ByteArray.mk #[]);obtain ⟨r1, hc9, hL2⟩ := bd_some hL2;refine .sd (B := [0, 0, 3, 7, 0, 16, 63]) 7 mixed (by kernel_rfl) (by decide) fun K hK => ?_;simp [e1_, q7, q8];refine CallD.t (F_laws_markText_w (fu := fu)  hc9) ?_;rintro _ G11 ⟨a14, rfl, S15⟩;have A13 := A1_.ext (hB.le A1_.1) a14.agree;have S12 : Sep G11 (Fr H) [] := S1_.app a14.agree S15 (fun _ h => h) (hB.le A1_.1);simp [e1_, q7, q8, a14.pre, s_ne];apply hK;clear hK K;refine DWp.cond' (t := (sne' (gat (ByteArray.mk #[]) x0 y1_5) r1)) (by simp [e1_]) (fun hb16 => ?_) (fun hb16 => ?_)
   ·replace hL2 := cd_t hb16 hL2;refine .sr fun K hK => ?_;simp [e1_];apply hK;clear hK K;refine DWp.ret ?_;simp only [andThen, leaves];obtain rfl := Option.some.inj hL2;simp only [lr] at hF;obtain rfl := Option.some.inj hF;exact ⟨by simp, [(Value.int .i64 (-1))], by simp [e1_], A13, rfl, S12.pick [] (by decide) rfl⟩
   ·replace hL2 := cd_f hb16 hL2;refine DWp.skip ?_;simp only [andThen, leaves];refine .region fun K hK => ?_;simp [e1_];apply hK;clear hK K;simp only [andThen, leaves];refine .region fun K hK => ?_;simp [e1_];apply hK;clear hK K;simp only [andThen, leaves];have S17 := S12.pick [] (by decide) rfl;exact ⟨n1, Nat.lt_succ_self _, (iadd .i64 y1_1 1), (iadd .i64 y1_5 1), hL2, S17, A13, by simp [e1_]⟩
  ·replace hL2 := cd_f hb5 hL2;refine DWp.exit ?_;simp only [andThen, leaves, if_true, if_false, reduceIte, Nat.reduceEqDiff];obtain rfl := Option.some.inj hL2;simp only [lr] at hF;refine .sr fun K hK => ?_;simp [e1_];apply hK;clear hK K;refine DWp.ret ?_;obtain rfl := Option.some.inj hF;exact ⟨by simp, [(Value.int .i64 y1_1)], by simp [e1_], A1_, rfl, S1_.pick [] (by decide) rfl⟩
end Go.Proofs.YtcbdgkgdopkofaaDoor.AL

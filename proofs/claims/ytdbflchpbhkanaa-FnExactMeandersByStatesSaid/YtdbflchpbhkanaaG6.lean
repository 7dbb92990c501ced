/- The walks of functions, each with its Lean function: slices.Reverse[[]int,int]. No condition. -/
import Derived.Test.YtdbflchpbhkanaaG1
import Derived.Test.YtdbflchpbhkanaaG2
import Derived.Test.YtdbflchpbhkanaaG3
import Derived.Test.YtdbflchpbhkanaaG4
import Derived.Test.YtdbflchpbhkanaaG5
import Derived.Test.YtdbflchpbhkanaaGK1
import Derived.Test.YtdbflchpbhkanaaALD
import Derived.Test.YtdbflchpbhkanaaProg
import Derived.KernelRfl
namespace Go.Proofs.Ytdbflchpbhkanaa.AL
open Go Go.RowKit
set_option linter.unusedVariables false
set_option linter.unusedSimpArgs false
set_option maxRecDepth 4096
attribute [local simp] n_fn b_add b_sub b_mul b_lt b_le b_gt b_ge b_eq b_ne u_not

def F_slices_Reverse_Sint_L1 (fu : Nat)  : Nat → List Int → Int → Int → Option (List Int × Int × Int)
  | 0, _, _, _ => none
  | n + 1, l1_0, y1_2, y1_3 =>
    bif (ilt y1_2 y1_3) then
      gd (inL l1_0 y1_3) (
      gd (inL l1_0 y1_2) (
      gd (inL l1_0 y1_2) (
      gd (inL (lset l1_0 y1_2 (gat 0 l1_0 y1_3)) y1_3) (
      F_slices_Reverse_Sint_L1 fu n (lset (lset l1_0 y1_2 (gat 0 l1_0 y1_3)) y1_3 (gat 0 l1_0 y1_2)) (iadd .i64 y1_2 1) (isub .i64 y1_3 1)))))
    else
      some (l1_0, y1_2, y1_3)
def F_slices_Reverse_Sint (fu : Nat) (x0 : List Int) : Option (List Int) :=
  bd (F_slices_Reverse_Sint_L1 fu fu x0 0 (isub .i64 (llen x0) 1)) fun s1 =>
  some s1.1
theorem F_slices_Reverse_Sint_w {fu : Nat} {H : AH} {B : Nat → Prop} {v0 : Value} {x0 : List Int} {r : (List Int)} (hB : Up B H.length) (S0 : Sep H B [flat v0 3 (ints x0)]) (hF : F_slices_Reverse_Sint fu x0 = some r) :
    ACallT Try.prog 40 [v0] H (fun u G => AgB B H G ∧ u = (Value.tuple #[]) ∧ Sep G B [flat v0 3 (ints r)]) := by
 refine ACallT.of_body (nt := 28) (rs := []) Try.func40 rfl rfl rfl rfl ?_;have A0 : AgB B H H := .refl _ _;unfold F_slices_Reverse_Sint at hF;have q1 := lenG (P := Try.prog) (S0.sl (k := 0) rfl) el_25;refine .sr fun K hK => ?_;simp [q1];apply hK;clear hK K;refine .block ?_;obtain ⟨s2, hL3, hF⟩ := bd_some hF;have S4 := S0.pick [0] (by decide) rfl;refine DWp.loop (fun n env G => ∃ l1_0 : List Int, ∃ y1_2 : Int, ∃ y1_3 : Int, F_slices_Reverse_Sint_L1 fu n l1_0 y1_2 y1_3 = some s2 ∧ Sep G B [flat v0 3 (ints l1_0)] ∧ AgB B H G ∧ env 0 = some v0 ∧ env 2 = some (Value.int .i64 y1_2) ∧ env 3 = some (Value.int .i64 y1_3)) fu ⟨x0, 0, (isub .i64 (llen x0) 1), hL3, S4, A0, by simp []⟩ ?_;rintro n1 env1 G1_ ⟨l1_0, y1_2, y1_3, hL3, S1_, A1_, e1_⟩;cases n1 with
 | zero => cases hL3
 | succ n1 =>
  simp only [F_slices_Reverse_Sint_L1] at hL3;refine .seq ?_;refine .sr fun K hK => ?_;simp [e1_];apply hK;clear hK K;refine DWp.cond' (t := (ilt y1_2 y1_3)) (by simp [e1_]) (fun hb5 => ?_) (fun hb5 => ?_)
  ·replace hL3 := cd_t hb5 hL3;refine DWp.skip ?_;simp only [andThen, leaves];refine .seq ?_;refine .block ?_;obtain ⟨g6, hL3⟩ := gd_some hL3;have q7 := idxG (P := Try.prog) (kk := .i64) (S1_.sl (k := 0) rfl) el_25 sz_3 g6;have q8 := loadG (P := Try.prog) (S1_.sl (k := 0) rfl) sz_3 ag_3 g6 0;obtain ⟨g9, hL3⟩ := gd_some hL3;have q10 := idxG (P := Try.prog) (kk := .i64) (S1_.sl (k := 0) rfl) el_25 sz_3 g9;have q11 := loadG (P := Try.prog) (S1_.sl (k := 0) rfl) sz_3 ag_3 g9 0;obtain ⟨g12, hL3⟩ := gd_some hL3;have q13 := idxG (P := Try.prog) (kk := .i64) (S1_.sl (k := 0) rfl) el_25 sz_3 g12;obtain ⟨G14, q15, S16, a18⟩ := S1_.storeG (f := (Value.int .i64)) (P := Try.prog) (k := 0) (x := (gat 0 l1_0 y1_3)) rfl (hB.le A1_.1) sz_3 g12 rfl rfl;have A17 := A1_.trans a18;replace S16 : Sep G14 B [flat v0 3 (ints (lset l1_0 y1_2 (gat 0 l1_0 y1_3)))] := S16;obtain ⟨g19, hL3⟩ := gd_some hL3;have q20 := idxG (P := Try.prog) (kk := .i64) (S16.sl (k := 0) rfl) el_25 sz_3 g19;obtain ⟨G21, q22, S23, a25⟩ := S16.storeG (f := (Value.int .i64)) (P := Try.prog) (k := 0) (x := (gat 0 l1_0 y1_2)) rfl (hB.le A17.1) sz_3 g19 rfl rfl;have A24 := A17.trans a25;replace S23 : Sep G21 B [flat v0 3 (ints (lset (lset l1_0 y1_2 (gat 0 l1_0 y1_3)) y1_3 (gat 0 l1_0 y1_2)))] := S23;refine .drawn (B := [0, 0, 0, 0, 0, 0, 48, 112, 0, 0, 768, 1792, 4083, 8179, 16383, 32767]) 13 mixed (by kernel_rfl) (by decide) fun K hK => ?_;simp [e1_, q7, q8, q10, q11, q13, q15, q20, q22];apply hK;clear hK K;simp only [andThen, leaves];refine .region fun K hK => ?_;simp [e1_];apply hK;clear hK K;simp only [andThen, leaves];have S26 := S23.pick [0] (by decide) rfl
   exact ⟨n1, Nat.lt_succ_self _, (lset (lset l1_0 y1_2 (gat 0 l1_0 y1_3)) y1_3 (gat 0 l1_0 y1_2)), (iadd .i64 y1_2 1), (isub .i64 y1_3 1), hL3, S26, A24, by simp [e1_]⟩
  ·replace hL3 := cd_f hb5 hL3;refine DWp.exit ?_;simp only [andThen, leaves, if_true, if_false, reduceIte, Nat.reduceEqDiff];obtain rfl := Option.some.inj hL3;try dsimp only at hF
   obtain rfl := Option.some.inj hF;exact ⟨by simp, [], by simp [e1_], A1_, rfl, S1_.pick [0] (by decide) rfl⟩
end Go.Proofs.Ytdbflchpbhkanaa.AL

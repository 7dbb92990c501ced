/- The walks of functions, each with its Lean function: impl.exchanged, impl.ExchangeAt, laws.markIntS, laws.heldIntS, laws.FnExactExchangeAt, spec.exBefore, spec.l1Same, spec.exPut, spec.ExchangesOf, slices.insertionSortCmpFunc[[]int]. No condition. -/
import Derived.Test.YtdghlhdpcmemjaaFBD
import Derived.Test.YtdghlhdpcmemjaaFBE
import Derived.Test.YtdghlhdpcmemjaaG1
import Derived.Test.YtdghlhdpcmemjaaG2
import Derived.Test.YtdghlhdpcmemjaaG3
import Derived.Test.YtdghlhdpcmemjaaG4
import Derived.Test.YtdghlhdpcmemjaaALD
import Derived.Test.YtdghlhdpcmemjaaProg
import Derived.KernelRfl
namespace Go.Proofs.Ytdghlhdpcmemjaa.AL
open Go Go.RowKit
set_option linter.unusedVariables false
set_option linter.unusedSimpArgs false
set_option maxRecDepth 4096
def F_laws_markIntS_L1 (fu : Nat)  : Nat → List Int → Int → Int → Option (List Int × Int × Int)
  | 0, _, _, _ => none
  | n + 1, l1_0, y1_1, y1_5 =>
    bif (ilt y1_5 (llen l1_0)) then
      gd (inL l1_0 y1_5) (
      F_laws_markIntS_L1 fu n (lset l1_0 y1_5 y1_1) (iadd .i64 y1_1 1) (iadd .i64 y1_5 1))
    else
      some (l1_0, y1_1, y1_5)
def F_laws_markIntS (fu : Nat) (x0 : List Int) (x1 : Int) : Option (Int × List Int) :=
  bd (F_laws_markIntS_L1 fu fu x0 x1 0) fun s1 =>
  some (s1.2.1, s1.1)
theorem F_laws_markIntS_w {fu : Nat} {H : AH} {B : Nat → Prop} {v0 : Value} {x0 : List Int} {x1 : Int} {r : (Int × List Int)} (hB : Up B H.length) (S0 : Sep H B [flat v0 3 (ints x0)]) (hF : F_laws_markIntS fu x0 x1 = some r) :
    ACallT Try.prog 20 [v0, (Value.int .i64 x1)] H (fun u G => AgB B H G ∧ u = (Value.int .i64 r.1) ∧ Sep G B [flat v0 3 (ints r.2)]) := by
  refine ACallT.of_body (nt := 19) (rs := [.tmp 4]) Try.func20 rfl rfl rfl rfl ?_
  have A0 : AgB B H H := .refl _ _
  unfold F_laws_markIntS at hF
  refine DWp.seq ?_
  refine DWp.region fun K hK => ?_
  simp [-aBin', -aBin, -aBinI, -aUn, -aNil, -flatV, n_fn, b_add, b_sub, b_mul, b_lt, b_le, b_gt, b_ge, b_eq, b_ne, u_not]
  apply hK
  clear hK K
  simp only [andThen, leaves]
  refine DWp.seq ?_
  refine DWp.seq ?_
  refine DWp.region fun K hK => ?_
  simp [-aBin', -aBin, -aBinI, -aUn, -aNil, -flatV, n_fn, b_add, b_sub, b_mul, b_lt, b_le, b_gt, b_ge, b_eq, b_ne, u_not]
  apply hK
  clear hK K
  simp only [andThen, leaves]
  refine DWp.block ?_
  obtain ⟨s1, hL2, hF⟩ := bd_some hF
  have S3 := S0.pick [0] (by decide) rfl
  refine DWp.loop (fun n env G => ∃ l1_0 : List Int, ∃ y1_1 : Int, ∃ y1_5 : Int, F_laws_markIntS_L1 fu n l1_0 y1_1 y1_5 = some s1 ∧ Sep G B [flat v0 3 (ints l1_0)] ∧ AgB B H G ∧ env 0 = some v0 ∧ env 1 = some (Value.int .i64 y1_1) ∧ env 5 = some (Value.int .i64 y1_5)) fu ⟨x0, x1, 0, hL2, S3, A0, by simp [], by simp [], by simp []⟩ ?_
  rintro n1 env1 G1_ ⟨l1_0, y1_1, y1_5, hL2, S1_, A1_, e1_0, e1_1, e1_5⟩
  cases n1 with
  | zero => cases hL2
  | succ n1 =>
    simp only [F_laws_markIntS_L1] at hL2
    refine DWp.seq ?_
    refine DWp.seq ?_
    have q4 := lenG (P := Try.prog) (S1_.sl (k := 0) rfl) el_22
    refine DWp.region fun K hK => ?_
    simp [-aBin', -aBin, -aBinI, -aUn, -aNil, -flatV, n_fn, b_add, b_sub, b_mul, b_lt, b_le, b_gt, b_ge, b_eq, b_ne, u_not, e1_0, e1_1, e1_5, q4]
    apply hK
    clear hK K
    simp only [andThen, leaves]
    refine DWp.cond' (t := (ilt y1_5 (llen l1_0))) (by simp [e1_0, e1_1, e1_5]) (fun hb5 => ?_) (fun hb5 => ?_)
    · replace hL2 := cd_t hb5 hL2
      refine DWp.skip ?_
      simp only [andThen, leaves]
      refine DWp.seq ?_
      refine DWp.block ?_
      refine DWp.seq ?_
      obtain ⟨g6, hL2⟩ := gd_some hL2
      have q7 := idxG (P := Try.prog) (kk := .i64) (S1_.sl (k := 0) rfl) el_22 sz_3 g6
      obtain ⟨G8, q9, S10, a12⟩ := S1_.storeG (f := (Value.int .i64)) (P := Try.prog) (k := 0) (x := y1_1) rfl (hB.le A1_.1) sz_3 g6 rfl rfl
      have A11 := A1_.trans a12
      replace S10 : Sep G8 B [flat v0 3 (ints (lset l1_0 y1_5 y1_1))] := S10
      refine DWp.region fun K hK => ?_
      simp [-aBin', -aBin, -aBinI, -aUn, -aNil, -flatV, n_fn, b_add, b_sub, b_mul, b_lt, b_le, b_gt, b_ge, b_eq, b_ne, u_not, e1_0, e1_1, e1_5, q7, q9]
      apply hK
      clear hK K
      simp only [andThen, leaves]
      refine DWp.region fun K hK => ?_
      simp [-aBin', -aBin, -aBinI, -aUn, -aNil, -flatV, n_fn, b_add, b_sub, b_mul, b_lt, b_le, b_gt, b_ge, b_eq, b_ne, u_not, e1_0, e1_1, e1_5]
      apply hK
      clear hK K
      simp only [andThen, leaves]
      refine DWp.region fun K hK => ?_
      simp [-aBin', -aBin, -aBinI, -aUn, -aNil, -flatV, n_fn, b_add, b_sub, b_mul, b_lt, b_le, b_gt, b_ge, b_eq, b_ne, u_not, e1_0, e1_1, e1_5]
      apply hK
      clear hK K
      simp only [andThen, leaves]
      have S13 := S10.pick [0] (by decide) rfl
      exact ⟨n1, Nat.lt_succ_self _, (lset l1_0 y1_5 y1_1), (iadd .i64 y1_1 1), (iadd .i64 y1_5 1), hL2, S13, A11, by simp [e1_0, e1_1, e1_5], by simp [e1_0, e1_1, e1_5], by simp [e1_0, e1_1, e1_5]⟩
    · replace hL2 := cd_f hb5 hL2
      refine DWp.exit ?_
      simp only [andThen, leaves, if_true, if_false, reduceIte, Nat.reduceEqDiff]
      obtain rfl := Option.some.inj hL2
      try dsimp only at hF
      refine DWp.seq ?_
      refine DWp.region fun K hK => ?_
      simp [-aBin', -aBin, -aBinI, -aUn, -aNil, -flatV, n_fn, b_add, b_sub, b_mul, b_lt, b_le, b_gt, b_ge, b_eq, b_ne, u_not, e1_0, e1_1, e1_5]
      apply hK
      clear hK K
      simp only [andThen, leaves]
      refine DWp.ret ?_
      obtain rfl := Option.some.inj hF
      exact ⟨by simp, [(Value.int .i64 y1_1)], by simp [e1_0, e1_1, e1_5], A1_, rfl, S1_.pick [0] (by decide) rfl⟩
def F_laws_heldIntS_L1 (fu : Nat) (k1_0 : List Int) : Nat → Int → Int → Option (LR (Int) (Int × Int))
  | 0, _, _ => none
  | n + 1, y1_1, y1_5 =>
    bif (ilt y1_5 (llen k1_0)) then
      gd (inL k1_0 y1_5) (
      bif (ine (gat 0 k1_0 y1_5) y1_1) then
        some (.ret (-1))
      else
        F_laws_heldIntS_L1 fu k1_0 n (iadd .i64 y1_1 1) (iadd .i64 y1_5 1))
    else
      some (.brk (y1_1, y1_5))
def F_laws_heldIntS (fu : Nat) (x0 : List Int) (x1 : Int) : Option (Int) :=
  bd (F_laws_heldIntS_L1 fu x0 fu x1 0) fun s1 =>
  lr s1 fun s1 =>
  some s1.1
theorem F_laws_heldIntS_w {fu : Nat} {H : AH} {v0 : Value} {x0 : List Int} {x1 : Int} {r : (Int)} (hx0 : Sl H v0 (ints x0)) (hF : F_laws_heldIntS fu x0 x1 = some r) :
    ACallT Try.prog 34 [v0, (Value.int .i64 x1)] H (fun u G => AgB (Fr H) H G ∧ u = (Value.int .i64 r) ∧ Sep G (Fr H) []) := by
  refine ACallT.of_body (nt := 21) (rs := [.tmp 4]) Try.func34 rfl rfl rfl rfl ?_
  have A0 : AgB (Fr H) H H := .refl _ _
  have S0 : Sep H (Fr H) [] := .nil
  have hB := Fr.up H
  unfold F_laws_heldIntS at hF
  refine DWp.seq ?_
  refine DWp.region fun K hK => ?_
  simp [-aBin', -aBin, -aBinI, -aUn, -aNil, -flatV, n_fn, b_add, b_sub, b_mul, b_lt, b_le, b_gt, b_ge, b_eq, b_ne, u_not]
  apply hK
  clear hK K
  simp only [andThen, leaves]
  refine DWp.seq ?_
  refine DWp.seq ?_
  refine DWp.region fun K hK => ?_
  simp [-aBin', -aBin, -aBinI, -aUn, -aNil, -flatV, n_fn, b_add, b_sub, b_mul, b_lt, b_le, b_gt, b_ge, b_eq, b_ne, u_not]
  apply hK
  clear hK K
  simp only [andThen, leaves]
  refine DWp.block ?_
  obtain ⟨s1, hL2, hF⟩ := bd_some hF
  have S3 := S0.pick [] (by decide) rfl
  refine DWp.loop (fun n env G => ∃ y1_1 : Int, ∃ y1_5 : Int, F_laws_heldIntS_L1 fu x0 n y1_1 y1_5 = some s1 ∧ Sep G (Fr H) [] ∧ AgB (Fr H) H G ∧ env 0 = some v0 ∧ env 1 = some (Value.int .i64 y1_1) ∧ env 5 = some (Value.int .i64 y1_5)) fu ⟨x1, 0, hL2, S3, A0, by simp [], by simp [], by simp []⟩ ?_
  rintro n1 env1 G1_ ⟨y1_1, y1_5, hL2, S1_, A1_, e1_0, e1_1, e1_5⟩
  cases n1 with
  | zero => cases hL2
  | succ n1 =>
    simp only [F_laws_heldIntS_L1] at hL2
    refine DWp.seq ?_
    refine DWp.seq ?_
    have q4 := lenG (P := Try.prog) (hx0.agree A1_.agree) el_22
    refine DWp.region fun K hK => ?_
    simp [-aBin', -aBin, -aBinI, -aUn, -aNil, -flatV, n_fn, b_add, b_sub, b_mul, b_lt, b_le, b_gt, b_ge, b_eq, b_ne, u_not, e1_0, e1_1, e1_5, q4]
    apply hK
    clear hK K
    simp only [andThen, leaves]
    refine DWp.cond' (t := (ilt y1_5 (llen x0))) (by simp [e1_0, e1_1, e1_5]) (fun hb5 => ?_) (fun hb5 => ?_)
    · replace hL2 := cd_t hb5 hL2
      refine DWp.skip ?_
      simp only [andThen, leaves]
      refine DWp.seq ?_
      refine DWp.block ?_
      refine DWp.seq ?_
      refine DWp.seq ?_
      obtain ⟨g6, hL2⟩ := gd_some hL2
      have q7 := idxG (P := Try.prog) (kk := .i64) (hx0.agree A1_.agree) el_22 sz_3 g6
      have q8 := loadG (P := Try.prog) (hx0.agree A1_.agree) sz_3 ag_3 g6 0
      refine DWp.region fun K hK => ?_
      simp [-aBin', -aBin, -aBinI, -aUn, -aNil, -flatV, n_fn, b_add, b_sub, b_mul, b_lt, b_le, b_gt, b_ge, b_eq, b_ne, u_not, e1_0, e1_1, e1_5, q7, q8]
      apply hK
      clear hK K
      simp only [andThen, leaves]
      refine DWp.cond' (t := (ine (gat 0 x0 y1_5) y1_1)) (by simp [e1_0, e1_1, e1_5]) (fun hb9 => ?_) (fun hb9 => ?_)
      · replace hL2 := cd_t hb9 hL2
        refine DWp.seq ?_
        refine DWp.region fun K hK => ?_
        simp [-aBin', -aBin, -aBinI, -aUn, -aNil, -flatV, n_fn, b_add, b_sub, b_mul, b_lt, b_le, b_gt, b_ge, b_eq, b_ne, u_not, e1_0, e1_1, e1_5]
        apply hK
        clear hK K
        simp only [andThen, leaves]
        refine DWp.ret ?_
        simp only [andThen, leaves]
        obtain rfl := Option.some.inj hL2
        simp only [lr] at hF
        obtain rfl := Option.some.inj hF
        exact ⟨by simp, [(Value.int .i64 (-1))], by simp [e1_0, e1_1, e1_5], A1_, rfl, S1_.pick [] (by decide) rfl⟩
      · replace hL2 := cd_f hb9 hL2
        refine DWp.skip ?_
        simp only [andThen, leaves]
        refine DWp.region fun K hK => ?_
        simp [-aBin', -aBin, -aBinI, -aUn, -aNil, -flatV, n_fn, b_add, b_sub, b_mul, b_lt, b_le, b_gt, b_ge, b_eq, b_ne, u_not, e1_0, e1_1, e1_5]
        apply hK
        clear hK K
        simp only [andThen, leaves]
        refine DWp.region fun K hK => ?_
        simp [-aBin', -aBin, -aBinI, -aUn, -aNil, -flatV, n_fn, b_add, b_sub, b_mul, b_lt, b_le, b_gt, b_ge, b_eq, b_ne, u_not, e1_0, e1_1, e1_5]
        apply hK
        clear hK K
        simp only [andThen, leaves]
        have S10 := S1_.pick [] (by decide) rfl
        exact ⟨n1, Nat.lt_succ_self _, (iadd .i64 y1_1 1), (iadd .i64 y1_5 1), hL2, S10, A1_, by simp [e1_0, e1_1, e1_5], by simp [e1_0, e1_1, e1_5], by simp [e1_0, e1_1, e1_5]⟩
    · replace hL2 := cd_f hb5 hL2
      refine DWp.exit ?_
      simp only [andThen, leaves, if_true, if_false, reduceIte, Nat.reduceEqDiff]
      obtain rfl := Option.some.inj hL2
      simp only [lr] at hF
      refine DWp.seq ?_
      refine DWp.region fun K hK => ?_
      simp [-aBin', -aBin, -aBinI, -aUn, -aNil, -flatV, n_fn, b_add, b_sub, b_mul, b_lt, b_le, b_gt, b_ge, b_eq, b_ne, u_not, e1_0, e1_1, e1_5]
      apply hK
      clear hK K
      simp only [andThen, leaves]
      refine DWp.ret ?_
      obtain rfl := Option.some.inj hF
      exact ⟨by simp, [(Value.int .i64 y1_1)], by simp [e1_0, e1_1, e1_5], A1_, rfl, S1_.pick [] (by decide) rfl⟩
def F_slices_insertionSortCmpFunc_Sint_L2 (fu : Nat) (k2_0 : Int) (k2_1 : Int) (k2_2 : ((List Int) → (List Int) → Option (Int))) (k2_3 : Int) : Nat → List (List Int) → Int → Option (List (List Int) × Int)
  | 0, _, _ => none
  | n + 1, l2_0, y2_9 =>
    bd (
      bif (ilt k2_0 y2_9) then
        gd (inL l2_0 y2_9) (
        gd (inL l2_0 (isub .i64 y2_9 1)) (
        bd (k2_2 (gat [] l2_0 y2_9) (gat [] l2_0 (isub .i64 y2_9 1))) fun r1 =>
        some (ilt r1 0)))
      else
        some false) fun s8 =>
    bif s8 then
      gd (inL l2_0 (isub .i64 y2_9 1)) (
      gd (inL l2_0 y2_9) (
      gd (inL l2_0 y2_9) (
      gd (inL l2_0 (isub .i64 y2_9 1)) (
      F_slices_insertionSortCmpFunc_Sint_L2 fu k2_0 k2_1 k2_2 k2_3 n (lset (lset l2_0 y2_9 (gat [] l2_0 (isub .i64 y2_9 1))) (isub .i64 y2_9 1) (gat [] l2_0 y2_9)) (isub .i64 y2_9 1)))))
    else
      some (l2_0, y2_9)
def F_slices_insertionSortCmpFunc_Sint_L1 (fu : Nat) (k1_0 : Int) (k1_1 : Int) (k1_2 : ((List Int) → (List Int) → Option (Int))) : Nat → List (List Int) → Int → Option (List (List Int) × Int)
  | 0, _, _ => none
  | n + 1, l1_0, y1_8 =>
    bif (ilt y1_8 k1_1) then
      bd (F_slices_insertionSortCmpFunc_Sint_L2 fu k1_0 k1_1 k1_2 y1_8 fu l1_0 y1_8) fun s2 =>
      F_slices_insertionSortCmpFunc_Sint_L1 fu k1_0 k1_1 k1_2 n s2.1 (iadd .i64 y1_8 1)
    else
      some (l1_0, y1_8)
def F_slices_insertionSortCmpFunc_Sint (fu : Nat) (x0 : List (List Int)) (x1 : Int) (x2 : Int) (x3 : (List Int) → (List Int) → Option (Int)) : Option (List (List Int)) :=
  bd (F_slices_insertionSortCmpFunc_Sint_L1 fu x1 x2 x3 fu x0 (iadd .i64 x1 1)) fun s1 =>
  some s1.1
theorem F_slices_insertionSortCmpFunc_Sint_w {fu : Nat} {H : AH} {B : Nat → Prop} {v0 : Value} {C0 : List Value} {f3 : FuncId} {c3 : List Value} {x0 : List (List Int)} {x1 : Int} {x2 : Int} {x3 : (List Int) → (List Int) → Option (Int)} {r : (List (List Int))} (hB : Up B H.length) (S0 : Sep H B [rowsC v0 22 3 C0 (List.map ints x0)]) (hx3 : ∀ (G : AH), AgB B H G → ∀ (v0 : Value) (v1 : Value) (y0 : List Int) (y1 : List Int) (q : (Int)), Sl G v0 (ints y0) → Sl G v1 (ints y1) → x3 y0 y1 = some q → ACallT Try.prog f3 ([v0, v1] ++ c3) G (fun u G' => AgB (Fr G) G G' ∧ u = (Value.int .i64 q) ∧ Sep G' (Fr G) [])) (hF : F_slices_insertionSortCmpFunc_Sint fu x0 x1 x2 x3 = some r) :
    ACallT Try.prog 133 [v0, (Value.int .i64 x1), (Value.int .i64 x2), (Value.func (.func f3) #[] c3.toArray)] H (fun u G => AgB B H G ∧ ∃ Cz0 : List Value, u = (Value.tuple #[]) ∧ Sep G B [rowsC v0 22 3 Cz0 (List.map ints r)]) := by
  refine ACallT.of_body (nt := 53) (rs := []) Try.func133 rfl rfl rfl rfl ?_
  have A0 : AgB B H H := .refl _ _
  unfold F_slices_insertionSortCmpFunc_Sint at hF
  refine DWp.seq ?_
  refine DWp.region fun K hK => ?_
  simp [-aBin', -aBin, -aBinI, -aUn, -aNil, -flatV, n_fn, b_add, b_sub, b_mul, b_lt, b_le, b_gt, b_ge, b_eq, b_ne, u_not]
  apply hK
  clear hK K
  simp only [andThen, leaves]
  refine DWp.block ?_
  obtain ⟨s1, hL2, hF⟩ := bd_some hF
  have S3 := S0.pick [0] (by decide) rfl
  refine DWp.loop (fun n env G => ∃ l1_0 : List (List Int), ∃ y1_8 : Int, ∃ D1_0 : List Value, F_slices_insertionSortCmpFunc_Sint_L1 fu x1 x2 x3 n l1_0 y1_8 = some s1 ∧ Sep G B [rowsC v0 22 3 D1_0 (List.map ints l1_0)] ∧ AgB B H G ∧ env 0 = some v0 ∧ env 1 = some (Value.int .i64 x1) ∧ env 2 = some (Value.int .i64 x2) ∧ env 3 = some (Value.func (.func f3) #[] c3.toArray) ∧ env 8 = some (Value.int .i64 y1_8)) fu ⟨x0, (iadd .i64 x1 1), C0, hL2, S3, A0, by simp [], by simp [], by simp [], by simp [], by simp []⟩ ?_
  rintro n1 env1 G1_ ⟨l1_0, y1_8, D1_0, hL2, S1_, A1_, e1_0, e1_1, e1_2, e1_3, e1_8⟩
  cases n1 with
  | zero => cases hL2
  | succ n1 =>
    simp only [F_slices_insertionSortCmpFunc_Sint_L1] at hL2
    refine DWp.seq ?_
    refine DWp.seq ?_
    refine DWp.region fun K hK => ?_
    simp [-aBin', -aBin, -aBinI, -aUn, -aNil, -flatV, n_fn, b_add, b_sub, b_mul, b_lt, b_le, b_gt, b_ge, b_eq, b_ne, u_not, e1_0, e1_1, e1_2, e1_3, e1_8]
    apply hK
    clear hK K
    simp only [andThen, leaves]
    refine DWp.cond' (t := (ilt y1_8 x2)) (by simp [e1_0, e1_1, e1_2, e1_3, e1_8]) (fun hb4 => ?_) (fun hb4 => ?_)
    · replace hL2 := cd_t hb4 hL2
      refine DWp.skip ?_
      simp only [andThen, leaves]
      refine DWp.seq ?_
      refine DWp.block ?_
      refine DWp.seq ?_
      refine DWp.region fun K hK => ?_
      simp [-aBin', -aBin, -aBinI, -aUn, -aNil, -flatV, n_fn, b_add, b_sub, b_mul, b_lt, b_le, b_gt, b_ge, b_eq, b_ne, u_not, e1_0, e1_1, e1_2, e1_3, e1_8]
      apply hK
      clear hK K
      simp only [andThen, leaves]
      refine DWp.block ?_
      obtain ⟨s5, hL6, hL2⟩ := bd_some hL2
      have S7 := S1_.pick [0] (by decide) rfl
      refine DWp.loop (fun n env G => ∃ l2_0 : List (List Int), ∃ y2_9 : Int, ∃ D2_0 : List Value, F_slices_insertionSortCmpFunc_Sint_L2 fu x1 x2 x3 y1_8 n l2_0 y2_9 = some s5 ∧ Sep G B [rowsC v0 22 3 D2_0 (List.map ints l2_0)] ∧ AgB B H G ∧ env 0 = some v0 ∧ env 1 = some (Value.int .i64 x1) ∧ env 2 = some (Value.int .i64 x2) ∧ env 3 = some (Value.func (.func f3) #[] c3.toArray) ∧ env 8 = some (Value.int .i64 y1_8) ∧ env 9 = some (Value.int .i64 y2_9)) fu ⟨l1_0, y1_8, D1_0, hL6, S7, A1_, by simp [e1_0, e1_1, e1_2, e1_3, e1_8], by simp [e1_0, e1_1, e1_2, e1_3, e1_8], by simp [e1_0, e1_1, e1_2, e1_3, e1_8], by simp [e1_0, e1_1, e1_2, e1_3, e1_8], by simp [e1_0, e1_1, e1_2, e1_3, e1_8], by simp [e1_0, e1_1, e1_2, e1_3, e1_8]⟩ ?_
      rintro n2 env2 G2_ ⟨l2_0, y2_9, D2_0, hL6, S2_, A2_, e2_0, e2_1, e2_2, e2_3, e2_8, e2_9⟩
      cases n2 with
      | zero => cases hL6
      | succ n2 =>
        simp only [F_slices_insertionSortCmpFunc_Sint_L2] at hL6
        refine DWp.seq ?_
        obtain ⟨s8, hL9, hL6⟩ := bd_some hL6
        refine DWp.seq (DWp.join (fun env G => Sep G B [rowsC v0 22 3 D2_0 (List.map ints l2_0)] ∧ AgB B H G ∧ env 0 = some v0 ∧ env 1 = some (Value.int .i64 x1) ∧ env 2 = some (Value.int .i64 x2) ∧ env 3 = some (Value.func (.func f3) #[] c3.toArray) ∧ env 8 = some (Value.int .i64 y1_8) ∧ env 9 = some (Value.int .i64 y2_9) ∧ env 34 = some (Value.bool s8)) ?_ ?_)
        ·
          rcases Bool.eq_false_or_eq_true (ilt x1 y2_9) with hb11 | hb11
          · replace hL9 := cd_t hb11 hL9
            obtain ⟨g12, hL9⟩ := gd_some hL9
            have q13 := (S2_.rd (k := 0) rfl).idxG (P := Try.prog) (kk := .i64) el_23 sz_22 g12
            have q14 := (S2_.rd (k := 0) rfl).loadG (P := Try.prog) sz_22 ag_22 g12
            obtain ⟨g15, hL9⟩ := gd_some hL9
            have q16 := (S2_.rd (k := 0) rfl).idxG (P := Try.prog) (kk := .i64) el_23 sz_22 g15
            have q17 := (S2_.rd (k := 0) rfl).loadG (P := Try.prog) sz_22 ag_22 g15
            obtain ⟨r1, hc18, hL9⟩ := bd_some hL9
            refine DWp.drawn (B := [0, 0, 3, 7, 15, 15, 15, 111, 239, 15, 15, 1039, 3599, 7695, 16383, 32767, 65535]) 17 mixed (by kernel_rfl) (by decide) fun K hK => ?_
            simp [-aBin', -aBin, -aBinI, -aUn, -aNil, -flatV, n_fn, b_add, b_sub, b_mul, b_lt, b_le, b_gt, b_ge, b_eq, b_ne, u_not, e2_0, e2_1, e2_2, e2_3, e2_8, e2_9, hb11, q13, q14, q16, q17, (((S2_.rd (k := 0) rfl).rowAt [] g12).tup), (((S2_.rd (k := 0) rfl).rowAt [] g15).tup)]
            refine CallD.t (hx3 _ A2_ (gat nilV D2_0 y2_9) (gat nilV D2_0 (isub .i64 y2_9 1)) (gat [] l2_0 y2_9) (gat [] l2_0 (isub .i64 y2_9 1)) _ ((S2_.rd (k := 0) rfl).rowAt [] g12) ((S2_.rd (k := 0) rfl).rowAt [] g15) hc18) ?_
            rintro _ G19 ⟨a22, rfl, S23⟩
            have A21 := A2_.ext (hB.le A2_.1) a22.agree
            have S20 : Sep G19 B [rowsC v0 22 3 D2_0 (List.map ints l2_0)] := S2_.agree a22.agree
            simp [-aBin', -aBin, -aBinI, -aUn, -aNil, -flatV, n_fn, b_add, b_sub, b_mul, b_lt, b_le, b_gt, b_ge, b_eq, b_ne, u_not, e2_0, e2_1, e2_2, e2_3, e2_8, e2_9, hb11, q13, q14, q16, q17, a22.pre]
            apply hK
            clear hK K
            simp only [andThen, leaves]
            have S24 := S20.pick [0] (by decide) rfl
            obtain rfl := Option.some.inj hL9
            exact ⟨S24, A21, by simp [e2_0, e2_1, e2_2, e2_3, e2_8, e2_9], by simp [e2_0, e2_1, e2_2, e2_3, e2_8, e2_9], by simp [e2_0, e2_1, e2_2, e2_3, e2_8, e2_9], by simp [e2_0, e2_1, e2_2, e2_3, e2_8, e2_9], by simp [e2_0, e2_1, e2_2, e2_3, e2_8, e2_9], by simp [e2_0, e2_1, e2_2, e2_3, e2_8, e2_9], by simp [e2_0, e2_1, e2_2, e2_3, e2_8, e2_9]⟩
          · replace hL9 := cd_f hb11 hL9
            refine DWp.drawn (B := [0, 0, 3, 7, 15, 15, 15, 111, 239, 15, 15, 1039, 3599, 7695, 16383, 32767, 65535]) 17 mixed (by kernel_rfl) (by decide) fun K hK => ?_
            simp [-aBin', -aBin, -aBinI, -aUn, -aNil, -flatV, n_fn, b_add, b_sub, b_mul, b_lt, b_le, b_gt, b_ge, b_eq, b_ne, u_not, e2_0, e2_1, e2_2, e2_3, e2_8, e2_9, hb11]
            apply hK
            clear hK K
            simp only [andThen, leaves]
            have S25 := S2_.pick [0] (by decide) rfl
            obtain rfl := Option.some.inj hL9
            exact ⟨S25, A2_, by simp [e2_0, e2_1, e2_2, e2_3, e2_8, e2_9], by simp [e2_0, e2_1, e2_2, e2_3, e2_8, e2_9], by simp [e2_0, e2_1, e2_2, e2_3, e2_8, e2_9], by simp [e2_0, e2_1, e2_2, e2_3, e2_8, e2_9], by simp [e2_0, e2_1, e2_2, e2_3, e2_8, e2_9], by simp [e2_0, e2_1, e2_2, e2_3, e2_8, e2_9], by simp [e2_0, e2_1, e2_2, e2_3, e2_8, e2_9]⟩
        · rintro env Gj26 ⟨Sj26, Aj26, ej26_0, ej26_1, ej26_2, ej26_3, ej26_8, ej26_9, ej26_34⟩
          refine DWp.cond' (t := s8) (by simp [ej26_0, ej26_1, ej26_2, ej26_3, ej26_8, ej26_9, ej26_34]) (fun hb27 => ?_) (fun hb27 => ?_)
          · replace hL6 := cd_t hb27 hL6
            refine DWp.skip ?_
            simp only [andThen, leaves]
            refine DWp.seq ?_
            refine DWp.block ?_
            obtain ⟨g28, hL6⟩ := gd_some hL6
            have q29 := (Sj26.rd (k := 0) rfl).idxG (P := Try.prog) (kk := .i64) el_23 sz_22 g28
            have q30 := (Sj26.rd (k := 0) rfl).loadG (P := Try.prog) sz_22 ag_22 g28
            obtain ⟨g31, hL6⟩ := gd_some hL6
            have q32 := (Sj26.rd (k := 0) rfl).idxG (P := Try.prog) (kk := .i64) el_23 sz_22 g31
            have q33 := (Sj26.rd (k := 0) rfl).loadG (P := Try.prog) sz_22 ag_22 g31
            obtain ⟨g34, hL6⟩ := gd_some hL6
            have q35 := (Sj26.rd (k := 0) rfl).idxG (P := Try.prog) (kk := .i64) el_23 sz_22 g34
            obtain ⟨G41, q42, S43, a45⟩ := Sj26.swap1 (fr := ints) (P := Try.prog) (k := 0) [] rfl (hB.le Aj26.1) sz_22 g34 g28
            have A44 := Aj26.trans a45
            replace S43 : Sep G41 B [rowsS v0 22 3 (lset D2_0 y2_9 (gat nilV D2_0 (isub .i64 y2_9 1))) D2_0 (List.map ints l2_0)] := S43
            obtain ⟨g46, hL6⟩ := gd_some hL6
            have q47 := S43.idxS (P := Try.prog) (ki := .i64) (kk := 0) rfl el_23 sz_22 g46
            obtain ⟨G53, q54, S55, a57⟩ := S43.swap2 (fr := ints) (P := Try.prog) (k := 0) [] rfl (hB.le A44.1) sz_22 g34 g28
            have A56 := A44.trans a57
            replace S55 : Sep G53 B [rowsC v0 22 3 (lset (lset D2_0 y2_9 (gat nilV D2_0 (isub .i64 y2_9 1))) (isub .i64 y2_9 1) (gat nilV D2_0 y2_9)) (List.map ints (lset (lset l2_0 y2_9 (gat [] l2_0 (isub .i64 y2_9 1))) (isub .i64 y2_9 1) (gat [] l2_0 y2_9)))] := S55
            refine DWp.drawn (B := [0, 0, 0, 0, 8, 0, 0, 64, 224, 480, 0, 0, 3072, 7168, 16355, 32739, 65535, 131071]) 15 mixed (by kernel_rfl) (by decide) fun K hK => ?_
            simp [-aBin', -aBin, -aBinI, -aUn, -aNil, -flatV, n_fn, b_add, b_sub, b_mul, b_lt, b_le, b_gt, b_ge, b_eq, b_ne, u_not, ej26_0, ej26_1, ej26_2, ej26_3, ej26_8, ej26_9, ej26_34, q29, q30, q32, q33, q35, (((Sj26.rd (k := 0) rfl).rowAt [] g28).tup), q42, q47, q54]
            apply hK
            clear hK K
            simp only [andThen, leaves]
            refine DWp.region fun K hK => ?_
            simp [-aBin', -aBin, -aBinI, -aUn, -aNil, -flatV, n_fn, b_add, b_sub, b_mul, b_lt, b_le, b_gt, b_ge, b_eq, b_ne, u_not, ej26_0, ej26_1, ej26_2, ej26_3, ej26_8, ej26_9, ej26_34]
            apply hK
            clear hK K
            simp only [andThen, leaves]
            have S58 := S55.pick [0] (by decide) rfl
            exact ⟨n2, Nat.lt_succ_self _, (lset (lset l2_0 y2_9 (gat [] l2_0 (isub .i64 y2_9 1))) (isub .i64 y2_9 1) (gat [] l2_0 y2_9)), (isub .i64 y2_9 1), (lset (lset D2_0 y2_9 (gat nilV D2_0 (isub .i64 y2_9 1))) (isub .i64 y2_9 1) (gat nilV D2_0 y2_9)), hL6, S58, A56, by simp [ej26_0, ej26_1, ej26_2, ej26_3, ej26_8, ej26_9, ej26_34], by simp [ej26_0, ej26_1, ej26_2, ej26_3, ej26_8, ej26_9, ej26_34], by simp [ej26_0, ej26_1, ej26_2, ej26_3, ej26_8, ej26_9, ej26_34], by simp [ej26_0, ej26_1, ej26_2, ej26_3, ej26_8, ej26_9, ej26_34], by simp [ej26_0, ej26_1, ej26_2, ej26_3, ej26_8, ej26_9, ej26_34], by simp [ej26_0, ej26_1, ej26_2, ej26_3, ej26_8, ej26_9, ej26_34]⟩
          · replace hL6 := cd_f hb27 hL6
            refine DWp.exit ?_
            simp only [andThen, leaves, if_true, if_false, reduceIte, Nat.reduceEqDiff]
            obtain rfl := Option.some.inj hL6
            try dsimp only at hL2
            refine DWp.region fun K hK => ?_
            simp [-aBin', -aBin, -aBinI, -aUn, -aNil, -flatV, n_fn, b_add, b_sub, b_mul, b_lt, b_le, b_gt, b_ge, b_eq, b_ne, u_not, ej26_0, ej26_1, ej26_2, ej26_3, ej26_8, ej26_9, ej26_34]
            apply hK
            clear hK K
            simp only [andThen, leaves]
            have S59 := Sj26.pick [0] (by decide) rfl
            exact ⟨n1, Nat.lt_succ_self _, l2_0, (iadd .i64 y1_8 1), D2_0, hL2, S59, Aj26, by simp [ej26_0, ej26_1, ej26_2, ej26_3, ej26_8, ej26_9, ej26_34], by simp [ej26_0, ej26_1, ej26_2, ej26_3, ej26_8, ej26_9, ej26_34], by simp [ej26_0, ej26_1, ej26_2, ej26_3, ej26_8, ej26_9, ej26_34], by simp [ej26_0, ej26_1, ej26_2, ej26_3, ej26_8, ej26_9, ej26_34], by simp [ej26_0, ej26_1, ej26_2, ej26_3, ej26_8, ej26_9, ej26_34]⟩
    · replace hL2 := cd_f hb4 hL2
      refine DWp.exit ?_
      simp only [andThen, leaves, if_true, if_false, reduceIte, Nat.reduceEqDiff]
      obtain rfl := Option.some.inj hL2
      try dsimp only at hF
      obtain rfl := Option.some.inj hF
      exact ⟨by simp, [], by simp [e1_0, e1_1, e1_2, e1_3, e1_8], A1_, D1_0, rfl, S1_.pick [0] (by decide) rfl⟩
end Go.Proofs.Ytdghlhdpcmemjaa.AL

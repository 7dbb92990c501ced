/- The walks of functions, each with its Lean function: impl.ClosingWith$1, slices.IndexFunc[[][]int,[]int], slices.DeleteFunc[[][]int,[]int], impl.ClosingWith, impl.FarthestFrom, laws.FnExactFarthestFrom, spec.exFew, spec.BetweenSystems, impl.isExchanged, impl.BetweenSystems$1. No condition. -/
import Derived.Test.YtdghlhdpcmemjaaFBD
import Derived.Test.YtdghlhdpcmemjaaFBE
import Derived.Test.YtdghlhdpcmemjaaG1
import Derived.Test.YtdghlhdpcmemjaaG10
import Derived.Test.YtdghlhdpcmemjaaG2
import Derived.Test.YtdghlhdpcmemjaaG3
import Derived.Test.YtdghlhdpcmemjaaG4
import Derived.Test.YtdghlhdpcmemjaaG5
import Derived.Test.YtdghlhdpcmemjaaG6
import Derived.Test.YtdghlhdpcmemjaaG7
import Derived.Test.YtdghlhdpcmemjaaG8
import Derived.Test.YtdghlhdpcmemjaaG9
import Derived.Test.YtdghlhdpcmemjaaALD
import Derived.Test.YtdghlhdpcmemjaaProg
import Derived.KernelRfl
namespace Go.Proofs.Ytdghlhdpcmemjaa.AL
open Go Go.RowKit
set_option linter.unusedVariables false
set_option linter.unusedSimpArgs false
set_option maxRecDepth 4096

def F_impl_ClosingWith_1 (fu : Nat) (x0 : List Int) (x1 : List Int) : Option (Bool) :=
  bd (F_impl_Meander_isOne fu x1 x0) fun r1 =>
  some (bnot r1)
theorem F_impl_ClosingWith_1_w {fu : Nat} {H : AH} {v0 : Value} {p1 : Value} {v1 : Value} {x0 : List Int} {x1 : List Int} {r : (Bool)} (hx0 : Sl H v0 (ints x0)) (hx1 : Sl H v1 (ints x1)) (hp1 : Bx H p1 [v1]) (hF : F_impl_ClosingWith_1 fu x0 x1 = some r) :
    ACallT Try.prog 103 [v0, p1] H (fun u G => AgB (Fr H) H G ∧ u = (Value.bool r) ∧ Sep G (Fr H) []) := by
  refine ACallT.of_body (nt := 9) (rs := [.tmp 3]) Try.func103 rfl rfl rfl rfl ?_
  have A0 : AgB (Fr H) H H := .refl _ _
  have S0 : Sep H (Fr H) [] := .nil
  have hB := Fr.up H
  unfold F_impl_ClosingWith_1 at hF
  refine DWp.seq ?_
  refine DWp.region fun K hK => ?_
  simp [-aBin', -aBin, -aBinI, -aUn, -aNil, -flatV, n_fn, b_add, b_sub, b_mul, b_lt, b_le, b_gt, b_ge, b_eq, b_ne, u_not]
  apply hK
  clear hK K
  simp only [andThen, leaves]
  refine DWp.seq ?_
  have q1 := (hp1.agree A0.agree).load0 (P := Try.prog) sz_22 ag_22
  obtain ⟨r1, hc2, hF⟩ := bd_some hF
  refine DWp.region fun K hK => ?_
  simp [-aBin', -aBin, -aBinI, -aUn, -aNil, -flatV, n_fn, b_add, b_sub, b_mul, b_lt, b_le, b_gt, b_ge, b_eq, b_ne, u_not, q1, bu_38 ((hx1.agree A0.agree).tup) ((hx1.agree A0.agree).one) ((hx0.agree A0.agree).tup) ((hx0.agree A0.agree).one), ((hx1.agree A0.agree).tup), ((hx0.agree A0.agree).tup)]
  refine CallD.t (F_impl_Meander_isOne_w (fu := fu) (hx1.agree A0.agree) (hx0.agree A0.agree) hc2) ?_
  rintro _ G4 ⟨a7, rfl, S8⟩
  have A6 := A0.ext (hB.le A0.1) a7.agree
  have S5 : Sep G4 (Fr H) [] := S0.app a7.agree S8 (fun _ h => h) (hB.le A0.1)
  simp [-aBin', -aBin, -aBinI, -aUn, -aNil, -flatV, n_fn, b_add, b_sub, b_mul, b_lt, b_le, b_gt, b_ge, b_eq, b_ne, u_not, q1, bu_38 ((hx1.agree A0.agree).tup) ((hx1.agree A0.agree).one) ((hx0.agree A0.agree).tup) ((hx0.agree A0.agree).one), a7.pre]
  apply hK
  clear hK K
  simp only [andThen, leaves]
  refine DWp.ret ?_
  obtain rfl := Option.some.inj hF
  exact ⟨by simp, [(Value.bool (bnot r1))], by simp [], A6, rfl, S5.pick [] (by decide) rfl⟩
def F_slices_IndexFunc_SSint_L1 (fu : Nat) (k1_0 : List (List Int)) (k1_1 : ((List Int) → Option (Bool))) (k1_2 : Int) : Nat → Int → Option (LR (Int) (Int))
  | 0, _ => none
  | n + 1, y1_8 =>
    bif (ilt y1_8 k1_2) then
      gd (inL k1_0 y1_8) (
      bd (k1_1 (gat [] k1_0 y1_8)) fun r1 =>
      bif r1 then
        some (.ret y1_8)
      else
        F_slices_IndexFunc_SSint_L1 fu k1_0 k1_1 k1_2 n (iadd .i64 y1_8 1))
    else
      some (.brk y1_8)
def F_slices_IndexFunc_SSint (fu : Nat) (x0 : List (List Int)) (x1 : (List Int) → Option (Bool)) : Option (Int) :=
  bd (F_slices_IndexFunc_SSint_L1 fu x0 x1 (llen x0) fu 0) fun s1 =>
  lr s1 fun s1 =>
  some (-1)
theorem F_slices_IndexFunc_SSint_w {fu : Nat} {H : AH} {v0 : Value} {f1 : FuncId} {c1 : List Value} {x0 : List (List Int)} {x1 : (List Int) → Option (Bool)} {r : (Int)} (hx0 : SlSl H v0 (List.map ints x0)) (hx1 : ∀ (G : AH), AgB (Fr H) H G → ∀ (v0 : Value) (y0 : List Int) (q : (Bool)), Sl G v0 (ints y0) → x1 y0 = some q → ACallT Try.prog f1 ([v0] ++ c1) G (fun u G' => AgB (Fr G) G G' ∧ u = (Value.bool q) ∧ Sep G' (Fr G) [])) (hF : F_slices_IndexFunc_SSint fu x0 x1 = some r) :
    ACallT Try.prog 105 [v0, (Value.func (.func f1) #[] c1.toArray)] H (fun u G => AgB (Fr H) H G ∧ u = (Value.int .i64 r) ∧ Sep G (Fr H) []) := by
  refine ACallT.of_body (nt := 19) (rs := [.tmp 4]) Try.func105 rfl rfl rfl rfl ?_
  have A0 : AgB (Fr H) H H := .refl _ _
  have S0 : Sep H (Fr H) [] := .nil
  have hB := Fr.up H
  unfold F_slices_IndexFunc_SSint at hF
  obtain ⟨C0, hC0⟩ := hx0.rd
  refine DWp.seq ?_
  refine DWp.region fun K hK => ?_
  simp [-aBin', -aBin, -aBinI, -aUn, -aNil, -flatV, n_fn, b_add, b_sub, b_mul, b_lt, b_le, b_gt, b_ge, b_eq, b_ne, u_not]
  apply hK
  clear hK K
  simp only [andThen, leaves]
  refine DWp.seq ?_
  refine DWp.seq ?_
  have q1 := (hC0.agree A0.agree).lenG (P := Try.prog) el_23
  refine DWp.region fun K hK => ?_
  simp [-aBin', -aBin, -aBinI, -aUn, -aNil, -flatV, n_fn, b_add, b_sub, b_mul, b_lt, b_le, b_gt, b_ge, b_eq, b_ne, u_not, q1]
  apply hK
  clear hK K
  simp only [andThen, leaves]
  refine DWp.block ?_
  obtain ⟨s2, hL3, hF⟩ := bd_some hF
  have S4 := S0.pick [] (by decide) rfl
  refine DWp.loop (fun n env G => ∃ y1_8 : Int, F_slices_IndexFunc_SSint_L1 fu x0 x1 (llen x0) n y1_8 = some s2 ∧ Sep G (Fr H) [] ∧ AgB (Fr H) H G ∧ env 0 = some v0 ∧ env 1 = some (Value.func (.func f1) #[] c1.toArray) ∧ env 7 = some (Value.int .i64 (llen x0)) ∧ env 8 = some (Value.int .i64 y1_8)) fu ⟨0, hL3, S4, A0, by simp [], by simp [], by simp [], by simp []⟩ ?_
  rintro n1 env1 G1_ ⟨y1_8, hL3, S1_, A1_, e1_0, e1_1, e1_7, e1_8⟩
  cases n1 with
  | zero => cases hL3
  | succ n1 =>
    simp only [F_slices_IndexFunc_SSint_L1] at hL3
    refine DWp.seq ?_
    refine DWp.region fun K hK => ?_
    simp [-aBin', -aBin, -aBinI, -aUn, -aNil, -flatV, n_fn, b_add, b_sub, b_mul, b_lt, b_le, b_gt, b_ge, b_eq, b_ne, u_not, e1_0, e1_1, e1_7, e1_8]
    apply hK
    clear hK K
    simp only [andThen, leaves]
    refine DWp.seq ?_
    refine DWp.cond' (t := (ilt y1_8 (llen x0))) (by simp [e1_0, e1_1, e1_7, e1_8]) (fun hb5 => ?_) (fun hb5 => ?_)
    · replace hL3 := cd_t hb5 hL3
      refine DWp.skip ?_
      simp only [andThen, leaves]
      refine DWp.seq ?_
      refine DWp.block ?_
      refine DWp.seq ?_
      refine DWp.region fun K hK => ?_
      simp [-aBin', -aBin, -aBinI, -aUn, -aNil, -flatV, n_fn, b_add, b_sub, b_mul, b_lt, b_le, b_gt, b_ge, b_eq, b_ne, u_not, e1_0, e1_1, e1_7, e1_8]
      apply hK
      clear hK K
      simp only [andThen, leaves]
      refine DWp.seq ?_
      obtain ⟨g6, hL3⟩ := gd_some hL3
      have q7 := (hC0.agree A1_.agree).idxG (P := Try.prog) (kk := .i64) el_23 sz_22 g6
      have q8 := (hC0.agree A1_.agree).loadG (P := Try.prog) sz_22 ag_22 g6
      obtain ⟨r1, hc9, hL3⟩ := bd_some hL3
      refine DWp.region fun K hK => ?_
      simp [-aBin', -aBin, -aBinI, -aUn, -aNil, -flatV, n_fn, b_add, b_sub, b_mul, b_lt, b_le, b_gt, b_ge, b_eq, b_ne, u_not, e1_0, e1_1, e1_7, e1_8, q7, q8, (((hC0.agree A1_.agree).rowAt [] g6).tup)]
      refine CallD.t (hx1 _ A1_ (gat nilV C0 y1_8) (gat [] x0 y1_8) _ ((hC0.agree A1_.agree).rowAt [] g6) hc9) ?_
      rintro _ G10 ⟨a13, rfl, S14⟩
      have A12 := A1_.ext (hB.le A1_.1) a13.agree
      have S11 : Sep G10 (Fr H) [] := S1_.agree a13.agree
      simp [-aBin', -aBin, -aBinI, -aUn, -aNil, -flatV, n_fn, b_add, b_sub, b_mul, b_lt, b_le, b_gt, b_ge, b_eq, b_ne, u_not, e1_0, e1_1, e1_7, e1_8, q7, q8, a13.pre]
      apply hK
      clear hK K
      simp only [andThen, leaves]
      refine DWp.cond' (t := r1) (by simp [e1_0, e1_1, e1_7, e1_8]) (fun hb15 => ?_) (fun hb15 => ?_)
      · replace hL3 := cd_t hb15 hL3
        refine DWp.seq ?_
        refine DWp.region fun K hK => ?_
        simp [-aBin', -aBin, -aBinI, -aUn, -aNil, -flatV, n_fn, b_add, b_sub, b_mul, b_lt, b_le, b_gt, b_ge, b_eq, b_ne, u_not, e1_0, e1_1, e1_7, e1_8]
        apply hK
        clear hK K
        simp only [andThen, leaves]
        refine DWp.ret ?_
        simp only [andThen, leaves]
        obtain rfl := Option.some.inj hL3
        simp only [lr] at hF
        obtain rfl := Option.some.inj hF
        exact ⟨by simp, [(Value.int .i64 y1_8)], by simp [e1_0, e1_1, e1_7, e1_8], A12, rfl, S11.pick [] (by decide) rfl⟩
      · replace hL3 := cd_f hb15 hL3
        refine DWp.skip ?_
        simp only [andThen, leaves]
        refine DWp.region fun K hK => ?_
        simp [-aBin', -aBin, -aBinI, -aUn, -aNil, -flatV, n_fn, b_add, b_sub, b_mul, b_lt, b_le, b_gt, b_ge, b_eq, b_ne, u_not, e1_0, e1_1, e1_7, e1_8]
        apply hK
        clear hK K
        simp only [andThen, leaves]
        have S16 := S11.pick [] (by decide) rfl
        exact ⟨n1, Nat.lt_succ_self _, (iadd .i64 y1_8 1), hL3, S16, A12, by simp [e1_0, e1_1, e1_7, e1_8], by simp [e1_0, e1_1, e1_7, e1_8], by simp [e1_0, e1_1, e1_7, e1_8], by simp [e1_0, e1_1, e1_7, e1_8]⟩
    · replace hL3 := cd_f hb5 hL3
      refine DWp.exit ?_
      simp only [andThen, leaves, if_true, if_false, reduceIte, Nat.reduceEqDiff]
      obtain rfl := Option.some.inj hL3
      simp only [lr] at hF
      refine DWp.seq ?_
      refine DWp.region fun K hK => ?_
      simp [-aBin', -aBin, -aBinI, -aUn, -aNil, -flatV, n_fn, b_add, b_sub, b_mul, b_lt, b_le, b_gt, b_ge, b_eq, b_ne, u_not, e1_0, e1_1, e1_7, e1_8]
      apply hK
      clear hK K
      simp only [andThen, leaves]
      refine DWp.ret ?_
      obtain rfl := Option.some.inj hF
      exact ⟨by simp, [(Value.int .i64 (-1))], by simp [e1_0, e1_1, e1_7, e1_8], A1_, rfl, S1_.pick [] (by decide) rfl⟩
def F_slices_DeleteFunc_SSint_L1 (fu : Nat) (k1_0 : ((List Int) → Option (Bool))) : Nat → List (List Int) → Int → Int → Option (List (List Int) × Int × Int)
  | 0, _, _, _ => none
  | n + 1, l1_0, y1_5, y1_6 =>
    bif (ilt y1_6 (llen l1_0)) then
      gd (inL l1_0 y1_6) (
      gd ((y1_5).toNat ≤ (y1_6).toNat) (
      gd (l1_0.length ≤ 4294967296) (
      bd (k1_0 (gat [] l1_0 y1_6)) fun r2 =>
      bif (bnot r2) then
        gd (inL l1_0 y1_5) (
        gd ((y1_5).toNat < ((iadd .i64 y1_6 1)).toNat ∧ l1_0.length ≤ 4294967296) (
        F_slices_DeleteFunc_SSint_L1 fu k1_0 n (lset l1_0 y1_5 (gat [] l1_0 y1_6)) (iadd .i64 y1_5 1) (iadd .i64 y1_6 1)))
      else
        F_slices_DeleteFunc_SSint_L1 fu k1_0 n l1_0 y1_5 (iadd .i64 y1_6 1))))
    else
      some (l1_0, y1_5, y1_6)
def F_slices_DeleteFunc_SSint (fu : Nat) (x0 : List (List Int)) (x1 : (List Int) → Option (Bool)) : Option (List (List Int)) :=
  bd (F_slices_IndexFunc_SSint fu x0 x1) fun r1 =>
  bif (ieq r1 (-1)) then
    some x0
  else
    bd (F_slices_DeleteFunc_SSint_L1 fu x1 fu x0 r1 (iadd .i64 r1 1)) fun s1 =>
    gd (inL s1.1 s1.2.1) (
    gd (s1.2.2 = llen s1.1) (
    gd (inL s1.1 s1.2.1) (
    some (s1.1.take (s1.2.1).toNat))))
theorem F_slices_DeleteFunc_SSint_w {fu : Nat} {H : AH} {B : Nat → Prop} {v0 : Value} {C0 : List Value} {f1 : FuncId} {c1 : List Value} {x0 : List (List Int)} {x1 : (List Int) → Option (Bool)} {r : (List (List Int))} (hB : Up B H.length) (S0 : Sep H B [rowsC v0 22 3 C0 (List.map ints x0)]) (hx1 : ∀ (G : AH), AgB B H G → ∀ (v0 : Value) (y0 : List Int) (q : (Bool)), Sl G v0 (ints y0) → x1 y0 = some q → ACallT Try.prog f1 ([v0] ++ c1) G (fun u G' => AgB (Fr G) G G' ∧ u = (Value.bool q) ∧ Sep G' (Fr G) [])) (hF : F_slices_DeleteFunc_SSint fu x0 x1 = some r) :
    ACallT Try.prog 77 [v0, (Value.func (.func f1) #[] c1.toArray)] H (fun u G => AgB B H G ∧ ∃ u0 : Value, ∃ C0 : List Value, u = u0 ∧ Sep G B [rowsC u0 22 3 C0 (List.map ints r)]) := by
  refine ACallT.of_body (nt := 42) (rs := [.tmp 4]) Try.func77 rfl rfl rfl rfl ?_
  have A0 : AgB B H H := .refl _ _
  unfold F_slices_DeleteFunc_SSint at hF
  refine DWp.seq ?_
  refine DWp.region fun K hK => ?_
  simp [-aBin', -aBin, -aBinI, -aUn, -aNil, -flatV, n_fn, b_add, b_sub, b_mul, b_lt, b_le, b_gt, b_ge, b_eq, b_ne, u_not]
  apply hK
  clear hK K
  simp only [andThen, leaves]
  refine DWp.seq ?_
  obtain ⟨r1, hc1, hF⟩ := bd_some hF
  refine DWp.region fun K hK => ?_
  simp [-aBin', -aBin, -aBinI, -aUn, -aNil, -flatV, n_fn, b_add, b_sub, b_mul, b_lt, b_le, b_gt, b_ge, b_eq, b_ne, u_not, ((S0.rd (k := 0) rfl).tup)]
  refine CallD.t (F_slices_IndexFunc_SSint_w (fu := fu) ((S0.rd (k := 0) rfl).slsl) (fun (G_ : AH) (a_ : AgB (Fr H) H G_) => hx1 G_ (A0.ext (hB.le A0.1) a_.agree)) hc1) ?_
  rintro _ G3 ⟨a6, rfl, S7⟩
  have A5 := A0.ext (hB.le A0.1) a6.agree
  have S4 : Sep G3 B [rowsC v0 22 3 C0 (List.map ints x0)] := S0.app a6.agree S7 (fun _ h => h) (hB.le A0.1)
  simp [-aBin', -aBin, -aBinI, -aUn, -aNil, -flatV, n_fn, b_add, b_sub, b_mul, b_lt, b_le, b_gt, b_ge, b_eq, b_ne, u_not, a6.pre]
  apply hK
  clear hK K
  simp only [andThen, leaves]
  refine DWp.seq ?_
  refine DWp.seq ?_
  refine DWp.region fun K hK => ?_
  simp [-aBin', -aBin, -aBinI, -aUn, -aNil, -flatV, n_fn, b_add, b_sub, b_mul, b_lt, b_le, b_gt, b_ge, b_eq, b_ne, u_not]
  apply hK
  clear hK K
  simp only [andThen, leaves]
  refine DWp.cond' (t := (ieq r1 (-1))) (by simp []) (fun hb8 => ?_) (fun hb8 => ?_)
  · replace hF := cd_t hb8 hF
    refine DWp.seq ?_
    refine DWp.region fun K hK => ?_
    simp [-aBin', -aBin, -aBinI, -aUn, -aNil, -flatV, n_fn, b_add, b_sub, b_mul, b_lt, b_le, b_gt, b_ge, b_eq, b_ne, u_not]
    apply hK
    clear hK K
    simp only [andThen, leaves]
    refine DWp.ret ?_
    simp only [andThen, leaves]
    obtain rfl := Option.some.inj hF
    exact ⟨by simp, [v0], by simp [((S4.rd (k := 0) rfl).tup)], A5, v0, C0, rfl, S4.pick [0] (by decide) rfl⟩
  · replace hF := cd_f hb8 hF
    refine DWp.skip ?_
    simp only [andThen, leaves]
    refine DWp.seq ?_
    refine DWp.seq ?_
    refine DWp.region fun K hK => ?_
    simp [-aBin', -aBin, -aBinI, -aUn, -aNil, -flatV, n_fn, b_add, b_sub, b_mul, b_lt, b_le, b_gt, b_ge, b_eq, b_ne, u_not]
    apply hK
    clear hK K
    simp only [andThen, leaves]
    refine DWp.block ?_
    have S9 : Sep G3 B [rowsD v0 22 3 C0 (List.map ints x0) r1 (iadd .i64 r1 1)] := S4.toD (kk := 0) rfl r1 (iadd .i64 r1 1)
    obtain ⟨s10, hL11, hF⟩ := bd_some hF
    have S12 := S9.pick [0] (by decide) rfl
    refine DWp.loop (fun n env G => ∃ l1_0 : List (List Int), ∃ y1_5 : Int, ∃ y1_6 : Int, ∃ D1_0 : List Value, F_slices_DeleteFunc_SSint_L1 fu x1 n l1_0 y1_5 y1_6 = some s10 ∧ Sep G B [rowsD v0 22 3 D1_0 (List.map ints l1_0) y1_5 y1_6] ∧ AgB B H G ∧ env 0 = some v0 ∧ env 1 = some (Value.func (.func f1) #[] c1.toArray) ∧ env 5 = some (Value.int .i64 y1_5) ∧ env 6 = some (Value.int .i64 y1_6)) fu ⟨x0, r1, (iadd .i64 r1 1), C0, hL11, S12, A5, by simp [], by simp [], by simp [], by simp []⟩ ?_
    rintro n1 env1 G1_ ⟨l1_0, y1_5, y1_6, D1_0, hL11, S1_, A1_, e1_0, e1_1, e1_5, e1_6⟩
    cases n1 with
    | zero => cases hL11
    | succ n1 =>
      simp only [F_slices_DeleteFunc_SSint_L1] at hL11
      refine DWp.seq ?_
      refine DWp.seq ?_
      have q13 := S1_.lenD (P := Try.prog) (kk := 0) rfl el_23
      refine DWp.region fun K hK => ?_
      simp [-aBin', -aBin, -aBinI, -aUn, -aNil, -flatV, n_fn, b_add, b_sub, b_mul, b_lt, b_le, b_gt, b_ge, b_eq, b_ne, u_not, e1_0, e1_1, e1_5, e1_6, q13]
      apply hK
      clear hK K
      simp only [andThen, leaves]
      refine DWp.cond' (t := (ilt y1_6 (llen l1_0))) (by simp [e1_0, e1_1, e1_5, e1_6]) (fun hb14 => ?_) (fun hb14 => ?_)
      · replace hL11 := cd_t hb14 hL11
        refine DWp.skip ?_
        simp only [andThen, leaves]
        refine DWp.seq ?_
        refine DWp.block ?_
        refine DWp.seq ?_
        obtain ⟨g15, hL11⟩ := gd_some hL11
        have q16 := S1_.idxD (P := Try.prog) (ki := .i64) (kk := 0) rfl el_23 sz_22 g15
        obtain ⟨g19, hL11⟩ := gd_some hL11
        have q18 := S1_.loadD (P := Try.prog) (kk := 0) rfl sz_22 ag_22 g15
        obtain ⟨g20, hL11⟩ := gd_some hL11
        have S21 : Sep G1_ B [rowsD v0 22 3 D1_0 (List.map ints l1_0) y1_5 (iadd .i64 y1_6 1), flat (gat nilV D1_0 y1_6) 3 (ints (gat [] l1_0 y1_6))] := S1_.takeD (fr := ints) (kk := 0) rfl [] g15 g20 g19
        refine DWp.region fun K hK => ?_
        simp [-aBin', -aBin, -aBinI, -aUn, -aNil, -flatV, n_fn, b_add, b_sub, b_mul, b_lt, b_le, b_gt, b_ge, b_eq, b_ne, u_not, e1_0, e1_1, e1_5, e1_6, q16, q18]
        apply hK
        clear hK K
        simp only [andThen, leaves]
        refine DWp.seq ?_
        obtain ⟨r2, hc22, hL11⟩ := bd_some hL11
        refine DWp.region fun K hK => ?_
        simp [-aBin', -aBin, -aBinI, -aUn, -aNil, -flatV, n_fn, b_add, b_sub, b_mul, b_lt, b_le, b_gt, b_ge, b_eq, b_ne, u_not, e1_0, e1_1, e1_5, e1_6, ((S21.sl (k := 1) rfl).tup)]
        refine CallD.t (hx1 _ A1_ (gat nilV D1_0 y1_6) (gat [] l1_0 y1_6) _ (S21.sl (k := 1) rfl) hc22) ?_
        rintro _ G23 ⟨a26, rfl, S27⟩
        have A25 := A1_.ext (hB.le A1_.1) a26.agree
        have S24 : Sep G23 B [rowsD v0 22 3 D1_0 (List.map ints l1_0) y1_5 (iadd .i64 y1_6 1), flat (gat nilV D1_0 y1_6) 3 (ints (gat [] l1_0 y1_6))] := S21.agree a26.agree
        simp [-aBin', -aBin, -aBinI, -aUn, -aNil, -flatV, n_fn, b_add, b_sub, b_mul, b_lt, b_le, b_gt, b_ge, b_eq, b_ne, u_not, e1_0, e1_1, e1_5, e1_6, a26.pre]
        apply hK
        clear hK K
        simp only [andThen, leaves]
        refine DWp.cond' (t := (bnot r2)) (by simp [e1_0, e1_1, e1_5, e1_6]) (fun hb28 => ?_) (fun hb28 => ?_)
        · replace hL11 := cd_t hb28 hL11
          refine DWp.seq ?_
          obtain ⟨g29, hL11⟩ := gd_some hL11
          have q30 := S24.idxD (P := Try.prog) (ki := .i64) (kk := 0) rfl el_23 sz_22 g29
          obtain ⟨g36, hL11⟩ := gd_some hL11
          obtain ⟨G31, q32, S33, a35⟩ := S24.putD (fr := ints) (P := Try.prog) (kk := 0) (k1 := 1) (xs := (gat [] l1_0 y1_6)) (by decide) rfl rfl (hB.le A25.1) sz_22 g29 g36.1 g36.2 ((S24.sl (k := 1) rfl).tup) ((S24.sl (k := 1) rfl).one)
          have A34 := A25.trans a35
          replace S33 : Sep G31 B [rowsD v0 22 3 (lset D1_0 y1_5 (gat nilV D1_0 y1_6)) (List.map ints (lset l1_0 y1_5 (gat [] l1_0 y1_6))) (iadd .i64 y1_5 1) (iadd .i64 y1_6 1), emp] := S33
          refine DWp.region fun K hK => ?_
          simp [-aBin', -aBin, -aBinI, -aUn, -aNil, -flatV, n_fn, b_add, b_sub, b_mul, b_lt, b_le, b_gt, b_ge, b_eq, b_ne, u_not, e1_0, e1_1, e1_5, e1_6, q30, q32, ((S24.sl (k := 1) rfl).tup)]
          apply hK
          clear hK K
          simp only [andThen, leaves]
          refine DWp.region fun K hK => ?_
          simp [-aBin', -aBin, -aBinI, -aUn, -aNil, -flatV, n_fn, b_add, b_sub, b_mul, b_lt, b_le, b_gt, b_ge, b_eq, b_ne, u_not, e1_0, e1_1, e1_5, e1_6]
          apply hK
          clear hK K
          simp only [andThen, leaves]
          refine DWp.region fun K hK => ?_
          simp [-aBin', -aBin, -aBinI, -aUn, -aNil, -flatV, n_fn, b_add, b_sub, b_mul, b_lt, b_le, b_gt, b_ge, b_eq, b_ne, u_not, e1_0, e1_1, e1_5, e1_6]
          apply hK
          clear hK K
          simp only [andThen, leaves]
          have S37 := S33.pick [0] (by decide) rfl
          exact ⟨n1, Nat.lt_succ_self _, (lset l1_0 y1_5 (gat [] l1_0 y1_6)), (iadd .i64 y1_5 1), (iadd .i64 y1_6 1), (lset D1_0 y1_5 (gat nilV D1_0 y1_6)), hL11, S37, A34, by simp [e1_0, e1_1, e1_5, e1_6], by simp [e1_0, e1_1, e1_5, e1_6], by simp [e1_0, e1_1, e1_5, e1_6], by simp [e1_0, e1_1, e1_5, e1_6]⟩
        · replace hL11 := cd_f hb28 hL11
          refine DWp.skip ?_
          simp only [andThen, leaves]
          refine DWp.region fun K hK => ?_
          simp [-aBin', -aBin, -aBinI, -aUn, -aNil, -flatV, n_fn, b_add, b_sub, b_mul, b_lt, b_le, b_gt, b_ge, b_eq, b_ne, u_not, e1_0, e1_1, e1_5, e1_6]
          apply hK
          clear hK K
          simp only [andThen, leaves]
          have S38 := S24.pick [0] (by decide) rfl
          exact ⟨n1, Nat.lt_succ_self _, l1_0, y1_5, (iadd .i64 y1_6 1), D1_0, hL11, S38, A25, by simp [e1_0, e1_1, e1_5, e1_6], by simp [e1_0, e1_1, e1_5, e1_6], by simp [e1_0, e1_1, e1_5, e1_6], by simp [e1_0, e1_1, e1_5, e1_6]⟩
      · replace hL11 := cd_f hb14 hL11
        refine DWp.exit ?_
        simp only [andThen, leaves, if_true, if_false, reduceIte, Nat.reduceEqDiff]
        obtain rfl := Option.some.inj hL11
        try dsimp only at hF
        refine DWp.seq ?_
        obtain ⟨g39, hF⟩ := gd_some hF
        have q40 := S1_.tailVD (P := Try.prog) (kk := 0) rfl el_23 sz_22 g39
        obtain ⟨g41, hF⟩ := gd_some hF
        obtain ⟨G42, D47, q43, S44, a46⟩ := S1_.clearD (fr := ints) (P := Try.prog) (t := 23) (kk := 0) rfl (hB.le A1_.1) el_23 ei_22 rfl g39 g41
        have A45 := A1_.trans a46
        replace S44 : Sep G42 B [rowsD v0 22 3 D47 (List.map ints l1_0) y1_5 y1_6] := S44
        refine DWp.region fun K hK => ?_
        simp [-aBin', -aBin, -aBinI, -aUn, -aNil, -flatV, n_fn, b_add, b_sub, b_mul, b_lt, b_le, b_gt, b_ge, b_eq, b_ne, u_not, e1_0, e1_1, e1_5, e1_6, q40, q43]
        apply hK
        clear hK K
        simp only [andThen, leaves]
        refine DWp.seq ?_
        obtain ⟨g48, hF⟩ := gd_some hF
        have q49 := S44.headVD (P := Try.prog) (kk := 0) rfl el_23 sz_22 g48
        have S50 : Sep G42 B [rowsC (subV v0 0 y1_5) 22 3 (D47.take (y1_5).toNat) (List.map ints (l1_0.take (y1_5).toNat))] := S44.headD (fr := ints) (kk := 0) rfl g48
        refine DWp.region fun K hK => ?_
        simp [-aBin', -aBin, -aBinI, -aUn, -aNil, -flatV, n_fn, b_add, b_sub, b_mul, b_lt, b_le, b_gt, b_ge, b_eq, b_ne, u_not, e1_0, e1_1, e1_5, e1_6, q49, ((S50.rd (k := 0) rfl).tup)]
        apply hK
        clear hK K
        simp only [andThen, leaves]
        refine DWp.ret ?_
        obtain rfl := Option.some.inj hF
        exact ⟨by simp, [(subV v0 0 y1_5)], by simp [e1_0, e1_1, e1_5, e1_6, ((S50.rd (k := 0) rfl).tup)], A45, (subV v0 0 y1_5), (D47.take (y1_5).toNat), rfl, S50.pick [0] (by decide) rfl⟩
def F_impl_ClosingWith (fu : Nat) (x0 : List Int) : Option (List (List Int) × Bool) :=
  bd (
    bd (F_impl_IsSystem fu x0) fun r1 =>
    bif (bnot r1) then
      some true
    else
      some (ieq (llen x0) 0)) fun s8 =>
  bif s8 then
    some ([], false)
  else
    bd (F_impl_systems fu (iquo .i64 (llen x0) 2)) fun r2 =>
    bd (F_slices_DeleteFunc_SSint fu r2 (fun y0 => F_impl_ClosingWith_1 fu y0 x0)) fun r3 =>
    some (r3, true)
theorem F_impl_ClosingWith_w {fu : Nat} {H : AH} {v0 : Value} {x0 : List Int} {r : (List (List Int) × Bool)} (hx0 : Sl H v0 (ints x0)) (hF : F_impl_ClosingWith fu x0 = some r) :
    ACallT Try.prog 74 [v0] H (fun u G => AgB (Fr H) H G ∧ ∃ u0 : Value, ∃ C0 : List Value, u = (Value.tuple #[u0, (Value.bool r.2)]) ∧ Sep G (Fr H) [rowsC u0 22 3 C0 (List.map ints r.1)]) := by
  refine ACallT.of_body (nt := 18) (rs := [.tmp 2, .tmp 3]) Try.func74 rfl rfl rfl rfl ?_
  have A0 : AgB (Fr H) H H := .refl _ _
  have S0 : Sep H (Fr H) [] := .nil
  have hB := Fr.up H
  unfold F_impl_ClosingWith at hF
  refine DWp.seq ?_
  obtain ⟨G2, p4, q5, q6, a7, S1⟩ := S0.boxT (hB.le A0.1) 22 [v0]
  have A3 := A0.ext (hB.le A0.1) a7
  replace S1 : Sep G2 (Fr H) [AL.box p4 [v0]] := S1
  refine DWp.region fun K hK => ?_
  simp [-aBin', -aBin, -aBinI, -aUn, -aNil, -flatV, n_fn, b_add, b_sub, b_mul, b_lt, b_le, b_gt, b_ge, b_eq, b_ne, u_not, q5, q6, a7.to_pre, ((hx0.agree A0.agree).one), ((hx0.agree A0.agree).tup)]
  apply hK
  clear hK K
  simp only [andThen, leaves]
  refine DWp.seq ?_
  obtain ⟨s8, hL9, hF⟩ := bd_some hF
  refine DWp.seq (DWp.join (fun env G => Sep G (Fr H) [AL.box p4 [v0]] ∧ AgB (Fr H) H G ∧ env 1 = some p4 ∧ env 11 = some (Value.bool s8)) ?_ ?_)
  ·
    have q11 := S1.load0 (P := Try.prog) (k := 0) rfl sz_22 ag_22
    obtain ⟨r1, hc12, hL9⟩ := bd_some hL9
    refine DWp.region fun K hK => ?_
    simp [-aBin', -aBin, -aBinI, -aUn, -aNil, -flatV, n_fn, b_add, b_sub, b_mul, b_lt, b_le, b_gt, b_ge, b_eq, b_ne, u_not, q11, ((hx0.agree A3.agree).tup)]
    refine CallD.t (F_impl_IsSystem_w (fu := fu) (hx0.agree A3.agree) hc12) ?_
    rintro _ G14 ⟨a17, rfl, S18⟩
    have A16 := A3.ext (hB.le A3.1) a17.agree
    have S15 : Sep G14 (Fr H) [AL.box p4 [v0]] := S1.app a17.agree S18 (fun _ h => h) (hB.le A3.1)
    rcases Bool.eq_false_or_eq_true (bnot r1) with hb19 | hb19
    · replace hL9 := cd_t hb19 hL9
      simp [-aBin', -aBin, -aBinI, -aUn, -aNil, -flatV, n_fn, b_add, b_sub, b_mul, b_lt, b_le, b_gt, b_ge, b_eq, b_ne, u_not, hb19, q11, a17.pre]
      apply hK
      clear hK K
      simp only [andThen, leaves]
      have S20 := S15.pick [0] (by decide) rfl
      obtain rfl := Option.some.inj hL9
      exact ⟨S20, A16, by simp [], by simp []⟩
    · replace hL9 := cd_f hb19 hL9
      have q21 := S15.load0 (P := Try.prog) (k := 0) rfl sz_22 ag_22
      have q22 := lenG (P := Try.prog) (hx0.agree A16.agree) el_22
      simp [-aBin', -aBin, -aBinI, -aUn, -aNil, -flatV, n_fn, b_add, b_sub, b_mul, b_lt, b_le, b_gt, b_ge, b_eq, b_ne, u_not, hb19, q11, a17.pre, q21, q22]
      apply hK
      clear hK K
      simp only [andThen, leaves]
      have S23 := S15.pick [0] (by decide) rfl
      obtain rfl := Option.some.inj hL9
      exact ⟨S23, A16, by simp [], by simp []⟩
  · rintro env Gj24 ⟨Sj24, Aj24, ej24_1, ej24_11⟩
    refine DWp.cond' (t := s8) (by simp [ej24_1, ej24_11]) (fun hb25 => ?_) (fun hb25 => ?_)
    · replace hF := cd_t hb25 hF
      refine DWp.seq ?_
      refine DWp.region fun K hK => ?_
      simp [-aBin', -aBin, -aBinI, -aUn, -aNil, -flatV, n_fn, b_add, b_sub, b_mul, b_lt, b_le, b_gt, b_ge, b_eq, b_ne, u_not, ej24_1, ej24_11]
      apply hK
      clear hK K
      simp only [andThen, leaves]
      refine DWp.ret ?_
      simp only [andThen, leaves]
      have S26 := Sj24.rowsNil (hB.le Aj24.1) 22 3
      obtain rfl := Option.some.inj hF
      exact ⟨by simp, [(Value.slice none 0 0), (Value.bool false)], by simp [ej24_1, ej24_11], Aj24, nilV, [], rfl, S26.pick [1] (by decide) rfl⟩
    · replace hF := cd_f hb25 hF
      refine DWp.skip ?_
      simp only [andThen, leaves]
      refine DWp.seq ?_
      have q27 := Sj24.load0 (P := Try.prog) (k := 0) rfl sz_22 ag_22
      have q28 := lenG (P := Try.prog) (hx0.agree Aj24.agree) el_22
      have g29 : (2 : Int) ≠ 0 := by decide
      obtain ⟨r2, hc30, hF⟩ := bd_some hF
      refine DWp.region fun K hK => ?_
      simp [-aBin', -aBin, -aBinI, -aUn, -aNil, -flatV, n_fn, b_add, b_sub, b_mul, b_lt, b_le, b_gt, b_ge, b_eq, b_ne, u_not, ej24_1, ej24_11, q27, q28, b_quo g29]
      refine CallD.t (F_impl_systems_w (fu := fu)  hc30) ?_
      rintro c31_u0 G32 ⟨a35, _, c31_C0, rfl, S36⟩
      have A34 := Aj24.ext (hB.le Aj24.1) a35.agree
      have S33 : Sep G32 (Fr H) [AL.box p4 [v0], rowsC c31_u0 22 3 c31_C0 (List.map ints r2)] := Sj24.app a35.agree S36 (fun _ h => h) (hB.le Aj24.1)
      obtain ⟨r3, hc37, hF⟩ := bd_some hF
      simp [-aBin', -aBin, -aBinI, -aUn, -aNil, -flatV, n_fn, b_add, b_sub, b_mul, b_lt, b_le, b_gt, b_ge, b_eq, b_ne, u_not, ej24_1, ej24_11, q27, q28, b_quo g29, a35.pre, (S33.flatT (k := 0) rfl), ((S33.rd (k := 1) rfl).tup), (S33.ptup (k := 0) rfl)]
      have S38 : Sep G32 (Fr H) ([rowsC c31_u0 22 3 c31_C0 (List.map ints r2)] ++ [AL.box p4 [v0]]) := S33.pick [1, 0] (by decide) rfl
      obtain ⟨B44, S39, U40, M41, R42, C43⟩ := S38.frame (hB.le A34.1)
      refine CallD.t (F_slices_DeleteFunc_SSint_w (fu := fu) U40 S39 (fun G_ a_ v0 y0 q_ hy0 hq_ => F_impl_ClosingWith_1_w (fu := fu) hy0 ((hx0.agree A34.agree).agr a_ (fun i_ hi_ hb_ => Nat.not_le.2 (hx0.id_lt hi_) (M41 i_ hb_))) (Bx.later (R42 0 _ rfl) a_) hq_) hc37) ?_
      rintro c45_u0 G46 ⟨a49, _, c45_C0, rfl, S50⟩
      have A48 := A34.trans (a49.mono M41)
      have S47 : Sep G46 (Fr H) [rowsC c45_u0 22 3 c45_C0 (List.map ints r3), AL.box p4 [v0]] := C43 _ _ a49 S50
      simp [-aBin', -aBin, -aBinI, -aUn, -aNil, -flatV, n_fn, b_add, b_sub, b_mul, b_lt, b_le, b_gt, b_ge, b_eq, b_ne, u_not, ej24_1, ej24_11, q27, q28, b_quo g29, a35.pre, (S33.flatT (k := 0) rfl)]
      apply hK
      clear hK K
      simp only [andThen, leaves]
      refine DWp.ret ?_
      obtain rfl := Option.some.inj hF
      exact ⟨by simp, [c45_u0, (Value.bool true)], by simp [ej24_1, ej24_11, ((S47.rd (k := 0) rfl).tup)], A48, c45_u0, c45_C0, rfl, S47.pick [0] (by decide) rfl⟩
def F_impl_FarthestFrom (fu : Nat) (x0 : List Int) : Option (List (List Int) × Bool) :=
  bd (F_impl_ClosingWith fu x0) fun r1 =>
  some (r1.1, r1.2)
theorem F_impl_FarthestFrom_w {fu : Nat} {H : AH} {v0 : Value} {x0 : List Int} {r : (List (List Int) × Bool)} (hx0 : Sl H v0 (ints x0)) (hF : F_impl_FarthestFrom fu x0 = some r) :
    ACallT Try.prog 38 [v0] H (fun u G => AgB (Fr H) H G ∧ ∃ u0 : Value, ∃ C0 : List Value, u = (Value.tuple #[u0, (Value.bool r.2)]) ∧ Sep G (Fr H) [rowsC u0 22 3 C0 (List.map ints r.1)]) := by
  refine ACallT.of_body (nt := 8) (rs := [.tmp 2, .tmp 3]) Try.func38 rfl rfl rfl rfl ?_
  have A0 : AgB (Fr H) H H := .refl _ _
  have S0 : Sep H (Fr H) [] := .nil
  have hB := Fr.up H
  unfold F_impl_FarthestFrom at hF
  refine DWp.seq ?_
  refine DWp.region fun K hK => ?_
  simp [-aBin', -aBin, -aBinI, -aUn, -aNil, -flatV, n_fn, b_add, b_sub, b_mul, b_lt, b_le, b_gt, b_ge, b_eq, b_ne, u_not]
  apply hK
  clear hK K
  simp only [andThen, leaves]
  refine DWp.seq ?_
  obtain ⟨r1, hc1, hF⟩ := bd_some hF
  refine DWp.region fun K hK => ?_
  simp [-aBin', -aBin, -aBinI, -aUn, -aNil, -flatV, n_fn, b_add, b_sub, b_mul, b_lt, b_le, b_gt, b_ge, b_eq, b_ne, u_not, ((hx0.agree A0.agree).tup)]
  refine CallD.t (F_impl_ClosingWith_w (fu := fu) (hx0.agree A0.agree) hc1) ?_
  rintro _ G3 ⟨a6, c2_u0, c2_C0, rfl, S7⟩
  have A5 := A0.ext (hB.le A0.1) a6.agree
  have S4 : Sep G3 (Fr H) [rowsC c2_u0 22 3 c2_C0 (List.map ints r1.1)] := S0.app a6.agree S7 (fun _ h => h) (hB.le A0.1)
  simp [-aBin', -aBin, -aBinI, -aUn, -aNil, -flatV, n_fn, b_add, b_sub, b_mul, b_lt, b_le, b_gt, b_ge, b_eq, b_ne, u_not, a6.pre]
  apply hK
  clear hK K
  simp only [andThen, leaves]
  refine DWp.ret ?_
  obtain rfl := Option.some.inj hF
  exact ⟨by simp, [c2_u0, (Value.bool r1.2)], by simp [((S4.rd (k := 0) rfl).tup)], A5, c2_u0, c2_C0, rfl, S4.pick [0] (by decide) rfl⟩
def F_laws_FnExactFarthestFrom (fu : Nat) (x0 : List Int) : Option (Bool) :=
  bif (ilt 1048576 (llen x0)) then
    some true
  else
    bd (F_laws_toIntS fu x0) fun r1 =>
    bd (F_spec_FarthestFrom fu r1) fun r2 =>
    bd (F_laws_toIntS fu x0) fun r3 =>
    bd (F_impl_FarthestFrom fu r3) fun r4 =>
    bd (
      bd (F_laws_eqIntSS fu r4.1 r2.1) fun r5 =>
      bif (bnot r5) then
        some true
      else
        some (bne' r4.2 r2.2)) fun s31 =>
    bif s31 then
      some false
    else
      bd (F_laws_toIntS fu x0) fun r6 =>
      bd (F_laws_eqIntS fu r3 r6) fun r7 =>
      bif (bnot r7) then
        some false
      else
        bd (F_laws_markIntS fu r3 1) fun r8 =>
        bd (
          bif (ilt r8.1 0) then
            some true
          else
            bd (F_laws_eqIntSS fu r4.1 r2.1) fun r9 =>
            bif (bnot r9) then
              some true
            else
              some (bne' r4.2 r2.2)) fun s75 =>
        bif s75 then
          some false
        else
          bd (F_laws_markIntSS fu r4.1 1) fun r10 =>
          bd (F_laws_heldIntSS fu r10.2 1) fun r11 =>
          bif (ilt r11 0) then
            some false
          else
            bif (ine r11 r10.1) then
              some false
            else
              bd (F_laws_toIntS fu x0) fun r12 =>
              bd (F_impl_FarthestFrom fu r12) fun r13 =>
              bd (
                bd (F_laws_eqIntSS fu r13.1 r2.1) fun r14 =>
                bif (bnot r14) then
                  some true
                else
                  some (bne' r13.2 r2.2)) fun s129 =>
              bif s129 then
                some false
              else
                bd (F_laws_heldIntSS fu r10.2 1) fun r15 =>
                bif (ilt r15 0) then
                  some false
                else
                  bif (ine r15 r10.1) then
                    some false
                  else
                    some true
theorem F_laws_FnExactFarthestFrom_w {fu : Nat} {H : AH} {v0 : Value} {x0 : List Int} {r : (Bool)} (hx0 : Sl H v0 (ints x0)) (hF : F_laws_FnExactFarthestFrom fu x0 = some r) :
    ACallT Try.prog 9 [v0] H (fun u G => AgB (Fr H) H G ∧ u = (Value.bool r) ∧ Sep G (Fr H) []) := by
  refine ACallT.of_body (nt := 93) (rs := [.tmp 2]) Try.func9 rfl rfl rfl rfl ?_
  have A0 : AgB (Fr H) H H := .refl _ _
  have S0 : Sep H (Fr H) [] := .nil
  have hB := Fr.up H
  unfold F_laws_FnExactFarthestFrom at hF
  refine DWp.seq ?_
  refine DWp.region fun K hK => ?_
  simp [-aBin', -aBin, -aBinI, -aUn, -aNil, -flatV, n_fn, b_add, b_sub, b_mul, b_lt, b_le, b_gt, b_ge, b_eq, b_ne, u_not]
  apply hK
  clear hK K
  simp only [andThen, leaves]
  refine DWp.seq ?_
  refine DWp.seq ?_
  have q1 := lenG (P := Try.prog) (hx0.agree A0.agree) el_22
  refine DWp.region fun K hK => ?_
  simp [-aBin', -aBin, -aBinI, -aUn, -aNil, -flatV, n_fn, b_add, b_sub, b_mul, b_lt, b_le, b_gt, b_ge, b_eq, b_ne, u_not, q1]
  apply hK
  clear hK K
  simp only [andThen, leaves]
  refine DWp.cond' (t := (ilt 1048576 (llen x0))) (by simp []) (fun hb2 => ?_) (fun hb2 => ?_)
  · replace hF := cd_t hb2 hF
    refine DWp.seq ?_
    refine DWp.region fun K hK => ?_
    simp [-aBin', -aBin, -aBinI, -aUn, -aNil, -flatV, n_fn, b_add, b_sub, b_mul, b_lt, b_le, b_gt, b_ge, b_eq, b_ne, u_not]
    apply hK
    clear hK K
    simp only [andThen, leaves]
    refine DWp.ret ?_
    simp only [andThen, leaves]
    obtain rfl := Option.some.inj hF
    exact ⟨by simp, [(Value.bool true)], by simp [], A0, rfl, S0.pick [] (by decide) rfl⟩
  · replace hF := cd_f hb2 hF
    refine DWp.skip ?_
    simp only [andThen, leaves]
    refine DWp.seq ?_
    obtain ⟨r1, hc3, hF⟩ := bd_some hF
    refine DWp.region fun K hK => ?_
    simp [-aBin', -aBin, -aBinI, -aUn, -aNil, -flatV, n_fn, b_add, b_sub, b_mul, b_lt, b_le, b_gt, b_ge, b_eq, b_ne, u_not, ((hx0.agree A0.agree).tup)]
    refine CallD.t (F_laws_toIntS_w (fu := fu) (hx0.agree A0.agree) hc3) ?_
    rintro c4_u0 G5 ⟨a8, _, rfl, S9⟩
    have A7 := A0.ext (hB.le A0.1) a8.agree
    have S6 : Sep G5 (Fr H) [flat c4_u0 3 (ints r1)] := S0.app a8.agree S9 (fun _ h => h) (hB.le A0.1)
    obtain ⟨r2, hc10, hF⟩ := bd_some hF
    simp [-aBin', -aBin, -aBinI, -aUn, -aNil, -flatV, n_fn, b_add, b_sub, b_mul, b_lt, b_le, b_gt, b_ge, b_eq, b_ne, u_not, a8.pre, ((S6.sl (k := 0) rfl).tup)]
    refine CallD.t (F_spec_FarthestFrom_w (fu := fu) (S6.sl (k := 0) rfl) hc10) ?_
    rintro _ G12 ⟨a15, c11_u0, c11_C0, rfl, S16⟩
    have A14 := A7.ext (hB.le A7.1) a15.agree
    have S13 : Sep G12 (Fr H) [flat c4_u0 3 (ints r1), rowsC c11_u0 22 3 c11_C0 (List.map ints r2.1)] := S6.app a15.agree S16 (fun _ h => h) (hB.le A7.1)
    simp [-aBin', -aBin, -aBinI, -aUn, -aNil, -flatV, n_fn, b_add, b_sub, b_mul, b_lt, b_le, b_gt, b_ge, b_eq, b_ne, u_not, a8.pre, a15.pre]
    apply hK
    clear hK K
    simp only [andThen, leaves]
    refine DWp.seq ?_
    obtain ⟨r3, hc17, hF⟩ := bd_some hF
    refine DWp.region fun K hK => ?_
    simp [-aBin', -aBin, -aBinI, -aUn, -aNil, -flatV, n_fn, b_add, b_sub, b_mul, b_lt, b_le, b_gt, b_ge, b_eq, b_ne, u_not, ((hx0.agree A14.agree).tup)]
    refine CallD.t (F_laws_toIntS_w (fu := fu) (hx0.agree A14.agree) hc17) ?_
    rintro c18_u0 G19 ⟨a22, _, rfl, S23⟩
    have A21 := A14.ext (hB.le A14.1) a22.agree
    have S20 : Sep G19 (Fr H) [flat c4_u0 3 (ints r1), rowsC c11_u0 22 3 c11_C0 (List.map ints r2.1), flat c18_u0 3 (ints r3)] := S13.app a22.agree S23 (fun _ h => h) (hB.le A14.1)
    simp [-aBin', -aBin, -aBinI, -aUn, -aNil, -flatV, n_fn, b_add, b_sub, b_mul, b_lt, b_le, b_gt, b_ge, b_eq, b_ne, u_not, a22.pre]
    apply hK
    clear hK K
    simp only [andThen, leaves]
    refine DWp.seq ?_
    obtain ⟨r4, hc24, hF⟩ := bd_some hF
    refine DWp.region fun K hK => ?_
    simp [-aBin', -aBin, -aBinI, -aUn, -aNil, -flatV, n_fn, b_add, b_sub, b_mul, b_lt, b_le, b_gt, b_ge, b_eq, b_ne, u_not, ((S20.sl (k := 2) rfl).tup)]
    refine CallD.t (F_impl_FarthestFrom_w (fu := fu) (S20.sl (k := 2) rfl) hc24) ?_
    rintro _ G26 ⟨a29, c25_u0, c25_C0, rfl, S30⟩
    have A28 := A21.ext (hB.le A21.1) a29.agree
    have S27 : Sep G26 (Fr H) [flat c4_u0 3 (ints r1), rowsC c11_u0 22 3 c11_C0 (List.map ints r2.1), flat c18_u0 3 (ints r3), rowsC c25_u0 22 3 c25_C0 (List.map ints r4.1)] := S20.app a29.agree S30 (fun _ h => h) (hB.le A21.1)
    simp [-aBin', -aBin, -aBinI, -aUn, -aNil, -flatV, n_fn, b_add, b_sub, b_mul, b_lt, b_le, b_gt, b_ge, b_eq, b_ne, u_not, a29.pre]
    apply hK
    clear hK K
    simp only [andThen, leaves]
    refine DWp.seq ?_
    obtain ⟨s31, hL32, hF⟩ := bd_some hF
    refine DWp.seq (DWp.join (fun env G => Sep G (Fr H) [rowsC c11_u0 22 3 c11_C0 (List.map ints r2.1), flat c18_u0 3 (ints r3), rowsC c25_u0 22 3 c25_C0 (List.map ints r4.1)] ∧ AgB (Fr H) H G ∧ env 0 = some v0 ∧ env 3 = some c11_u0 ∧ env 4 = some (Value.bool r2.2) ∧ env 5 = some c18_u0 ∧ env 6 = some c25_u0 ∧ env 7 = some (Value.bool r4.2) ∧ env 37 = some (Value.bool s31)) ?_ ?_)
    ·
      obtain ⟨r5, hc34, hL32⟩ := bd_some hL32
      refine DWp.region fun K hK => ?_
      simp [-aBin', -aBin, -aBinI, -aUn, -aNil, -flatV, n_fn, b_add, b_sub, b_mul, b_lt, b_le, b_gt, b_ge, b_eq, b_ne, u_not, ((S27.rd (k := 3) rfl).tup), ((S27.rd (k := 1) rfl).tup)]
      refine CallD.t (F_laws_eqIntSS_w (fu := fu) ((S27.rd (k := 3) rfl).slsl) ((S27.rd (k := 1) rfl).slsl) hc34) ?_
      rintro _ G36 ⟨a39, rfl, S40⟩
      have A38 := A28.ext (hB.le A28.1) a39.agree
      have S37 : Sep G36 (Fr H) [flat c4_u0 3 (ints r1), rowsC c11_u0 22 3 c11_C0 (List.map ints r2.1), flat c18_u0 3 (ints r3), rowsC c25_u0 22 3 c25_C0 (List.map ints r4.1)] := S27.app a39.agree S40 (fun _ h => h) (hB.le A28.1)
      rcases Bool.eq_false_or_eq_true (bnot r5) with hb41 | hb41
      · replace hL32 := cd_t hb41 hL32
        simp [-aBin', -aBin, -aBinI, -aUn, -aNil, -flatV, n_fn, b_add, b_sub, b_mul, b_lt, b_le, b_gt, b_ge, b_eq, b_ne, u_not, hb41, a39.pre]
        apply hK
        clear hK K
        simp only [andThen, leaves]
        have S42 := S37.pick [1, 2, 3] (by decide) rfl
        obtain rfl := Option.some.inj hL32
        exact ⟨S42, A38, by simp [], by simp [], by simp [], by simp [], by simp [], by simp [], by simp []⟩
      · replace hL32 := cd_f hb41 hL32
        simp [-aBin', -aBin, -aBinI, -aUn, -aNil, -flatV, n_fn, b_add, b_sub, b_mul, b_lt, b_le, b_gt, b_ge, b_eq, b_ne, u_not, hb41, a39.pre, b_bne un_4]
        apply hK
        clear hK K
        simp only [andThen, leaves]
        have S43 := S37.pick [1, 2, 3] (by decide) rfl
        obtain rfl := Option.some.inj hL32
        exact ⟨S43, A38, by simp [], by simp [], by simp [], by simp [], by simp [], by simp [], by simp []⟩
    · rintro env Gj44 ⟨Sj44, Aj44, ej44_0, ej44_3, ej44_4, ej44_5, ej44_6, ej44_7, ej44_37⟩
      refine DWp.cond' (t := s31) (by simp [ej44_0, ej44_3, ej44_4, ej44_5, ej44_6, ej44_7, ej44_37]) (fun hb45 => ?_) (fun hb45 => ?_)
      · replace hF := cd_t hb45 hF
        refine DWp.seq ?_
        refine DWp.region fun K hK => ?_
        simp [-aBin', -aBin, -aBinI, -aUn, -aNil, -flatV, n_fn, b_add, b_sub, b_mul, b_lt, b_le, b_gt, b_ge, b_eq, b_ne, u_not, ej44_0, ej44_3, ej44_4, ej44_5, ej44_6, ej44_7, ej44_37]
        apply hK
        clear hK K
        simp only [andThen, leaves]
        refine DWp.ret ?_
        simp only [andThen, leaves]
        obtain rfl := Option.some.inj hF
        exact ⟨by simp, [(Value.bool false)], by simp [ej44_0, ej44_3, ej44_4, ej44_5, ej44_6, ej44_7, ej44_37], Aj44, rfl, Sj44.pick [] (by decide) rfl⟩
      · replace hF := cd_f hb45 hF
        refine DWp.skip ?_
        simp only [andThen, leaves]
        refine DWp.seq ?_
        refine DWp.seq ?_
        obtain ⟨r6, hc46, hF⟩ := bd_some hF
        refine DWp.region fun K hK => ?_
        simp [-aBin', -aBin, -aBinI, -aUn, -aNil, -flatV, n_fn, b_add, b_sub, b_mul, b_lt, b_le, b_gt, b_ge, b_eq, b_ne, u_not, ej44_0, ej44_3, ej44_4, ej44_5, ej44_6, ej44_7, ej44_37, ((hx0.agree Aj44.agree).tup)]
        refine CallD.t (F_laws_toIntS_w (fu := fu) (hx0.agree Aj44.agree) hc46) ?_
        rintro c47_u0 G48 ⟨a51, _, rfl, S52⟩
        have A50 := Aj44.ext (hB.le Aj44.1) a51.agree
        have S49 : Sep G48 (Fr H) [rowsC c11_u0 22 3 c11_C0 (List.map ints r2.1), flat c18_u0 3 (ints r3), rowsC c25_u0 22 3 c25_C0 (List.map ints r4.1), flat c47_u0 3 (ints r6)] := Sj44.app a51.agree S52 (fun _ h => h) (hB.le Aj44.1)
        obtain ⟨r7, hc53, hF⟩ := bd_some hF
        simp [-aBin', -aBin, -aBinI, -aUn, -aNil, -flatV, n_fn, b_add, b_sub, b_mul, b_lt, b_le, b_gt, b_ge, b_eq, b_ne, u_not, ej44_0, ej44_3, ej44_4, ej44_5, ej44_6, ej44_7, ej44_37, a51.pre, ((S49.sl (k := 1) rfl).tup), ((S49.sl (k := 3) rfl).tup)]
        refine CallD.t (F_laws_eqIntS_w (fu := fu) (S49.sl (k := 1) rfl) (S49.sl (k := 3) rfl) hc53) ?_
        rintro _ G55 ⟨a58, rfl, S59⟩
        have A57 := A50.ext (hB.le A50.1) a58.agree
        have S56 : Sep G55 (Fr H) [rowsC c11_u0 22 3 c11_C0 (List.map ints r2.1), flat c18_u0 3 (ints r3), rowsC c25_u0 22 3 c25_C0 (List.map ints r4.1), flat c47_u0 3 (ints r6)] := S49.app a58.agree S59 (fun _ h => h) (hB.le A50.1)
        simp [-aBin', -aBin, -aBinI, -aUn, -aNil, -flatV, n_fn, b_add, b_sub, b_mul, b_lt, b_le, b_gt, b_ge, b_eq, b_ne, u_not, ej44_0, ej44_3, ej44_4, ej44_5, ej44_6, ej44_7, ej44_37, a51.pre, a58.pre]
        apply hK
        clear hK K
        simp only [andThen, leaves]
        refine DWp.cond' (t := (bnot r7)) (by simp [ej44_0, ej44_3, ej44_4, ej44_5, ej44_6, ej44_7, ej44_37]) (fun hb60 => ?_) (fun hb60 => ?_)
        · replace hF := cd_t hb60 hF
          refine DWp.seq ?_
          refine DWp.region fun K hK => ?_
          simp [-aBin', -aBin, -aBinI, -aUn, -aNil, -flatV, n_fn, b_add, b_sub, b_mul, b_lt, b_le, b_gt, b_ge, b_eq, b_ne, u_not, ej44_0, ej44_3, ej44_4, ej44_5, ej44_6, ej44_7, ej44_37]
          apply hK
          clear hK K
          simp only [andThen, leaves]
          refine DWp.ret ?_
          simp only [andThen, leaves]
          obtain rfl := Option.some.inj hF
          exact ⟨by simp, [(Value.bool false)], by simp [ej44_0, ej44_3, ej44_4, ej44_5, ej44_6, ej44_7, ej44_37], A57, rfl, S56.pick [] (by decide) rfl⟩
        · replace hF := cd_f hb60 hF
          refine DWp.skip ?_
          simp only [andThen, leaves]
          refine DWp.seq ?_
          refine DWp.region fun K hK => ?_
          simp [-aBin', -aBin, -aBinI, -aUn, -aNil, -flatV, n_fn, b_add, b_sub, b_mul, b_lt, b_le, b_gt, b_ge, b_eq, b_ne, u_not, ej44_0, ej44_3, ej44_4, ej44_5, ej44_6, ej44_7, ej44_37]
          apply hK
          clear hK K
          simp only [andThen, leaves]
          refine DWp.seq ?_
          obtain ⟨r8, hc61, hF⟩ := bd_some hF
          refine DWp.region fun K hK => ?_
          simp [-aBin', -aBin, -aBinI, -aUn, -aNil, -flatV, n_fn, b_add, b_sub, b_mul, b_lt, b_le, b_gt, b_ge, b_eq, b_ne, u_not, ej44_0, ej44_3, ej44_4, ej44_5, ej44_6, ej44_7, ej44_37, ((S56.sl (k := 1) rfl).tup)]
          have S62 : Sep G55 (Fr H) ([flat c18_u0 3 (ints r3)] ++ [rowsC c11_u0 22 3 c11_C0 (List.map ints r2.1), rowsC c25_u0 22 3 c25_C0 (List.map ints r4.1), flat c47_u0 3 (ints r6)]) := S56.pick [1, 0, 2, 3] (by decide) rfl
          obtain ⟨B68, S63, U64, M65, R66, C67⟩ := S62.frame (hB.le A57.1)
          refine CallD.t (F_laws_markIntS_w (fu := fu) U64 S63 hc61) ?_
          rintro _ G70 ⟨a73, rfl, S74⟩
          have A72 := A57.trans (a73.mono M65)
          have S71 : Sep G70 (Fr H) [flat c18_u0 3 (ints r8.2), rowsC c11_u0 22 3 c11_C0 (List.map ints r2.1), rowsC c25_u0 22 3 c25_C0 (List.map ints r4.1), flat c47_u0 3 (ints r6)] := C67 _ _ a73 S74
          simp [-aBin', -aBin, -aBinI, -aUn, -aNil, -flatV, n_fn, b_add, b_sub, b_mul, b_lt, b_le, b_gt, b_ge, b_eq, b_ne, u_not, ej44_0, ej44_3, ej44_4, ej44_5, ej44_6, ej44_7, ej44_37]
          apply hK
          clear hK K
          simp only [andThen, leaves]
          refine DWp.seq ?_
          obtain ⟨s75, hL76, hF⟩ := bd_some hF
          refine DWp.seq (DWp.join (fun env G => Sep G (Fr H) [rowsC c11_u0 22 3 c11_C0 (List.map ints r2.1), rowsC c25_u0 22 3 c25_C0 (List.map ints r4.1)] ∧ AgB (Fr H) H G ∧ env 0 = some v0 ∧ env 3 = some c11_u0 ∧ env 4 = some (Value.bool r2.2) ∧ env 6 = some c25_u0 ∧ env 58 = some (Value.bool s75)) ?_ ?_)
          ·
            rcases Bool.eq_false_or_eq_true (ilt r8.1 0) with hb78 | hb78
            · replace hL76 := cd_t hb78 hL76
              refine DWp.region fun K hK => ?_
              simp [-aBin', -aBin, -aBinI, -aUn, -aNil, -flatV, n_fn, b_add, b_sub, b_mul, b_lt, b_le, b_gt, b_ge, b_eq, b_ne, u_not, ej44_0, ej44_3, ej44_4, ej44_5, ej44_6, ej44_7, ej44_37, hb78]
              apply hK
              clear hK K
              simp only [andThen, leaves]
              have S79 := S71.pick [1, 2] (by decide) rfl
              obtain rfl := Option.some.inj hL76
              exact ⟨S79, A72, by simp [ej44_0, ej44_3, ej44_4, ej44_5, ej44_6, ej44_7, ej44_37], by simp [ej44_0, ej44_3, ej44_4, ej44_5, ej44_6, ej44_7, ej44_37], by simp [ej44_0, ej44_3, ej44_4, ej44_5, ej44_6, ej44_7, ej44_37], by simp [ej44_0, ej44_3, ej44_4, ej44_5, ej44_6, ej44_7, ej44_37], by simp [ej44_0, ej44_3, ej44_4, ej44_5, ej44_6, ej44_7, ej44_37]⟩
            · replace hL76 := cd_f hb78 hL76
              obtain ⟨r9, hc80, hL76⟩ := bd_some hL76
              refine DWp.region fun K hK => ?_
              simp [-aBin', -aBin, -aBinI, -aUn, -aNil, -flatV, n_fn, b_add, b_sub, b_mul, b_lt, b_le, b_gt, b_ge, b_eq, b_ne, u_not, ej44_0, ej44_3, ej44_4, ej44_5, ej44_6, ej44_7, ej44_37, hb78, ((S71.rd (k := 2) rfl).tup), ((S71.rd (k := 1) rfl).tup)]
              refine CallD.t (F_laws_eqIntSS_w (fu := fu) ((S71.rd (k := 2) rfl).slsl) ((S71.rd (k := 1) rfl).slsl) hc80) ?_
              rintro _ G82 ⟨a85, rfl, S86⟩
              have A84 := A72.ext (hB.le A72.1) a85.agree
              have S83 : Sep G82 (Fr H) [flat c18_u0 3 (ints r8.2), rowsC c11_u0 22 3 c11_C0 (List.map ints r2.1), rowsC c25_u0 22 3 c25_C0 (List.map ints r4.1), flat c47_u0 3 (ints r6)] := S71.app a85.agree S86 (fun _ h => h) (hB.le A72.1)
              rcases Bool.eq_false_or_eq_true (bnot r9) with hb87 | hb87
              · replace hL76 := cd_t hb87 hL76
                simp [-aBin', -aBin, -aBinI, -aUn, -aNil, -flatV, n_fn, b_add, b_sub, b_mul, b_lt, b_le, b_gt, b_ge, b_eq, b_ne, u_not, ej44_0, ej44_3, ej44_4, ej44_5, ej44_6, ej44_7, ej44_37, hb78, hb87, a85.pre]
                apply hK
                clear hK K
                simp only [andThen, leaves]
                have S88 := S83.pick [1, 2] (by decide) rfl
                obtain rfl := Option.some.inj hL76
                exact ⟨S88, A84, by simp [ej44_0, ej44_3, ej44_4, ej44_5, ej44_6, ej44_7, ej44_37], by simp [ej44_0, ej44_3, ej44_4, ej44_5, ej44_6, ej44_7, ej44_37], by simp [ej44_0, ej44_3, ej44_4, ej44_5, ej44_6, ej44_7, ej44_37], by simp [ej44_0, ej44_3, ej44_4, ej44_5, ej44_6, ej44_7, ej44_37], by simp [ej44_0, ej44_3, ej44_4, ej44_5, ej44_6, ej44_7, ej44_37]⟩
              · replace hL76 := cd_f hb87 hL76
                simp [-aBin', -aBin, -aBinI, -aUn, -aNil, -flatV, n_fn, b_add, b_sub, b_mul, b_lt, b_le, b_gt, b_ge, b_eq, b_ne, u_not, ej44_0, ej44_3, ej44_4, ej44_5, ej44_6, ej44_7, ej44_37, hb78, hb87, a85.pre, b_bne un_4]
                apply hK
                clear hK K
                simp only [andThen, leaves]
                have S89 := S83.pick [1, 2] (by decide) rfl
                obtain rfl := Option.some.inj hL76
                exact ⟨S89, A84, by simp [ej44_0, ej44_3, ej44_4, ej44_5, ej44_6, ej44_7, ej44_37], by simp [ej44_0, ej44_3, ej44_4, ej44_5, ej44_6, ej44_7, ej44_37], by simp [ej44_0, ej44_3, ej44_4, ej44_5, ej44_6, ej44_7, ej44_37], by simp [ej44_0, ej44_3, ej44_4, ej44_5, ej44_6, ej44_7, ej44_37], by simp [ej44_0, ej44_3, ej44_4, ej44_5, ej44_6, ej44_7, ej44_37]⟩
          · rintro env Gj90 ⟨Sj90, Aj90, ej90_0, ej90_3, ej90_4, ej90_6, ej90_58⟩
            refine DWp.cond' (t := s75) (by simp [ej90_0, ej90_3, ej90_4, ej90_6, ej90_58]) (fun hb91 => ?_) (fun hb91 => ?_)
            · replace hF := cd_t hb91 hF
              refine DWp.seq ?_
              refine DWp.region fun K hK => ?_
              simp [-aBin', -aBin, -aBinI, -aUn, -aNil, -flatV, n_fn, b_add, b_sub, b_mul, b_lt, b_le, b_gt, b_ge, b_eq, b_ne, u_not, ej90_0, ej90_3, ej90_4, ej90_6, ej90_58]
              apply hK
              clear hK K
              simp only [andThen, leaves]
              refine DWp.ret ?_
              simp only [andThen, leaves]
              obtain rfl := Option.some.inj hF
              exact ⟨by simp, [(Value.bool false)], by simp [ej90_0, ej90_3, ej90_4, ej90_6, ej90_58], Aj90, rfl, Sj90.pick [] (by decide) rfl⟩
            · replace hF := cd_f hb91 hF
              refine DWp.skip ?_
              simp only [andThen, leaves]
              refine DWp.seq ?_
              refine DWp.region fun K hK => ?_
              simp [-aBin', -aBin, -aBinI, -aUn, -aNil, -flatV, n_fn, b_add, b_sub, b_mul, b_lt, b_le, b_gt, b_ge, b_eq, b_ne, u_not, ej90_0, ej90_3, ej90_4, ej90_6, ej90_58]
              apply hK
              clear hK K
              simp only [andThen, leaves]
              refine DWp.seq ?_
              obtain ⟨r10, hc92, hF⟩ := bd_some hF
              refine DWp.region fun K hK => ?_
              simp [-aBin', -aBin, -aBinI, -aUn, -aNil, -flatV, n_fn, b_add, b_sub, b_mul, b_lt, b_le, b_gt, b_ge, b_eq, b_ne, u_not, ej90_0, ej90_3, ej90_4, ej90_6, ej90_58, ((Sj90.rd (k := 1) rfl).tup)]
              have S93 : Sep Gj90 (Fr H) ([rowsC c25_u0 22 3 c25_C0 (List.map ints r4.1)] ++ [rowsC c11_u0 22 3 c11_C0 (List.map ints r2.1)]) := Sj90.pick [1, 0] (by decide) rfl
              obtain ⟨B99, S94, U95, M96, R97, C98⟩ := S93.frame (hB.le Aj90.1)
              refine CallD.t (F_laws_markIntSS_w (fu := fu) U95 S94 hc92) ?_
              rintro _ G101 ⟨a104, c100_Cz0, rfl, S105⟩
              have A103 := Aj90.trans (a104.mono M96)
              have S102 : Sep G101 (Fr H) [rowsC c25_u0 22 3 c100_Cz0 (List.map ints r10.2), rowsC c11_u0 22 3 c11_C0 (List.map ints r2.1)] := C98 _ _ a104 S105
              simp [-aBin', -aBin, -aBinI, -aUn, -aNil, -flatV, n_fn, b_add, b_sub, b_mul, b_lt, b_le, b_gt, b_ge, b_eq, b_ne, u_not, ej90_0, ej90_3, ej90_4, ej90_6, ej90_58]
              apply hK
              clear hK K
              simp only [andThen, leaves]
              refine DWp.seq ?_
              refine DWp.region fun K hK => ?_
              simp [-aBin', -aBin, -aBinI, -aUn, -aNil, -flatV, n_fn, b_add, b_sub, b_mul, b_lt, b_le, b_gt, b_ge, b_eq, b_ne, u_not, ej90_0, ej90_3, ej90_4, ej90_6, ej90_58]
              apply hK
              clear hK K
              simp only [andThen, leaves]
              refine DWp.seq ?_
              obtain ⟨r11, hc106, hF⟩ := bd_some hF
              refine DWp.region fun K hK => ?_
              simp [-aBin', -aBin, -aBinI, -aUn, -aNil, -flatV, n_fn, b_add, b_sub, b_mul, b_lt, b_le, b_gt, b_ge, b_eq, b_ne, u_not, ej90_0, ej90_3, ej90_4, ej90_6, ej90_58, ((S102.rd (k := 0) rfl).tup)]
              refine CallD.t (F_laws_heldIntSS_w (fu := fu) ((S102.rd (k := 0) rfl).slsl) hc106) ?_
              rintro _ G108 ⟨a111, rfl, S112⟩
              have A110 := A103.ext (hB.le A103.1) a111.agree
              have S109 : Sep G108 (Fr H) [rowsC c25_u0 22 3 c100_Cz0 (List.map ints r10.2), rowsC c11_u0 22 3 c11_C0 (List.map ints r2.1)] := S102.app a111.agree S112 (fun _ h => h) (hB.le A103.1)
              simp [-aBin', -aBin, -aBinI, -aUn, -aNil, -flatV, n_fn, b_add, b_sub, b_mul, b_lt, b_le, b_gt, b_ge, b_eq, b_ne, u_not, ej90_0, ej90_3, ej90_4, ej90_6, ej90_58, a111.pre]
              apply hK
              clear hK K
              simp only [andThen, leaves]
              refine DWp.seq ?_
              refine DWp.seq ?_
              refine DWp.region fun K hK => ?_
              simp [-aBin', -aBin, -aBinI, -aUn, -aNil, -flatV, n_fn, b_add, b_sub, b_mul, b_lt, b_le, b_gt, b_ge, b_eq, b_ne, u_not, ej90_0, ej90_3, ej90_4, ej90_6, ej90_58]
              apply hK
              clear hK K
              simp only [andThen, leaves]
              refine DWp.cond' (t := (ilt r11 0)) (by simp [ej90_0, ej90_3, ej90_4, ej90_6, ej90_58]) (fun hb113 => ?_) (fun hb113 => ?_)
              · replace hF := cd_t hb113 hF
                refine DWp.seq ?_
                refine DWp.region fun K hK => ?_
                simp [-aBin', -aBin, -aBinI, -aUn, -aNil, -flatV, n_fn, b_add, b_sub, b_mul, b_lt, b_le, b_gt, b_ge, b_eq, b_ne, u_not, ej90_0, ej90_3, ej90_4, ej90_6, ej90_58]
                apply hK
                clear hK K
                simp only [andThen, leaves]
                refine DWp.ret ?_
                simp only [andThen, leaves]
                obtain rfl := Option.some.inj hF
                exact ⟨by simp, [(Value.bool false)], by simp [ej90_0, ej90_3, ej90_4, ej90_6, ej90_58], A110, rfl, S109.pick [] (by decide) rfl⟩
              · replace hF := cd_f hb113 hF
                refine DWp.skip ?_
                simp only [andThen, leaves]
                refine DWp.seq ?_
                refine DWp.seq ?_
                refine DWp.region fun K hK => ?_
                simp [-aBin', -aBin, -aBinI, -aUn, -aNil, -flatV, n_fn, b_add, b_sub, b_mul, b_lt, b_le, b_gt, b_ge, b_eq, b_ne, u_not, ej90_0, ej90_3, ej90_4, ej90_6, ej90_58]
                apply hK
                clear hK K
                simp only [andThen, leaves]
                refine DWp.cond' (t := (ine r11 r10.1)) (by simp [ej90_0, ej90_3, ej90_4, ej90_6, ej90_58]) (fun hb114 => ?_) (fun hb114 => ?_)
                · replace hF := cd_t hb114 hF
                  refine DWp.seq ?_
                  refine DWp.region fun K hK => ?_
                  simp [-aBin', -aBin, -aBinI, -aUn, -aNil, -flatV, n_fn, b_add, b_sub, b_mul, b_lt, b_le, b_gt, b_ge, b_eq, b_ne, u_not, ej90_0, ej90_3, ej90_4, ej90_6, ej90_58]
                  apply hK
                  clear hK K
                  simp only [andThen, leaves]
                  refine DWp.ret ?_
                  simp only [andThen, leaves]
                  obtain rfl := Option.some.inj hF
                  exact ⟨by simp, [(Value.bool false)], by simp [ej90_0, ej90_3, ej90_4, ej90_6, ej90_58], A110, rfl, S109.pick [] (by decide) rfl⟩
                · replace hF := cd_f hb114 hF
                  refine DWp.skip ?_
                  simp only [andThen, leaves]
                  refine DWp.seq ?_
                  obtain ⟨r12, hc115, hF⟩ := bd_some hF
                  refine DWp.region fun K hK => ?_
                  simp [-aBin', -aBin, -aBinI, -aUn, -aNil, -flatV, n_fn, b_add, b_sub, b_mul, b_lt, b_le, b_gt, b_ge, b_eq, b_ne, u_not, ej90_0, ej90_3, ej90_4, ej90_6, ej90_58, ((hx0.agree A110.agree).tup)]
                  refine CallD.t (F_laws_toIntS_w (fu := fu) (hx0.agree A110.agree) hc115) ?_
                  rintro c116_u0 G117 ⟨a120, _, rfl, S121⟩
                  have A119 := A110.ext (hB.le A110.1) a120.agree
                  have S118 : Sep G117 (Fr H) [rowsC c25_u0 22 3 c100_Cz0 (List.map ints r10.2), rowsC c11_u0 22 3 c11_C0 (List.map ints r2.1), flat c116_u0 3 (ints r12)] := S109.app a120.agree S121 (fun _ h => h) (hB.le A110.1)
                  obtain ⟨r13, hc122, hF⟩ := bd_some hF
                  simp [-aBin', -aBin, -aBinI, -aUn, -aNil, -flatV, n_fn, b_add, b_sub, b_mul, b_lt, b_le, b_gt, b_ge, b_eq, b_ne, u_not, ej90_0, ej90_3, ej90_4, ej90_6, ej90_58, a120.pre, ((S118.sl (k := 2) rfl).tup)]
                  refine CallD.t (F_impl_FarthestFrom_w (fu := fu) (S118.sl (k := 2) rfl) hc122) ?_
                  rintro _ G124 ⟨a127, c123_u0, c123_C0, rfl, S128⟩
                  have A126 := A119.ext (hB.le A119.1) a127.agree
                  have S125 : Sep G124 (Fr H) [rowsC c25_u0 22 3 c100_Cz0 (List.map ints r10.2), rowsC c11_u0 22 3 c11_C0 (List.map ints r2.1), flat c116_u0 3 (ints r12), rowsC c123_u0 22 3 c123_C0 (List.map ints r13.1)] := S118.app a127.agree S128 (fun _ h => h) (hB.le A119.1)
                  simp [-aBin', -aBin, -aBinI, -aUn, -aNil, -flatV, n_fn, b_add, b_sub, b_mul, b_lt, b_le, b_gt, b_ge, b_eq, b_ne, u_not, ej90_0, ej90_3, ej90_4, ej90_6, ej90_58, a120.pre, a127.pre]
                  apply hK
                  clear hK K
                  simp only [andThen, leaves]
                  refine DWp.seq ?_
                  obtain ⟨s129, hL130, hF⟩ := bd_some hF
                  refine DWp.seq (DWp.join (fun env G => Sep G (Fr H) [rowsC c25_u0 22 3 c100_Cz0 (List.map ints r10.2)] ∧ AgB (Fr H) H G ∧ env 6 = some c25_u0 ∧ env 9 = some (Value.int .i64 r10.1) ∧ env 84 = some (Value.bool s129)) ?_ ?_)
                  ·
                    obtain ⟨r14, hc132, hL130⟩ := bd_some hL130
                    refine DWp.region fun K hK => ?_
                    simp [-aBin', -aBin, -aBinI, -aUn, -aNil, -flatV, n_fn, b_add, b_sub, b_mul, b_lt, b_le, b_gt, b_ge, b_eq, b_ne, u_not, ej90_0, ej90_3, ej90_4, ej90_6, ej90_58, ((S125.rd (k := 3) rfl).tup), ((S125.rd (k := 1) rfl).tup)]
                    refine CallD.t (F_laws_eqIntSS_w (fu := fu) ((S125.rd (k := 3) rfl).slsl) ((S125.rd (k := 1) rfl).slsl) hc132) ?_
                    rintro _ G134 ⟨a137, rfl, S138⟩
                    have A136 := A126.ext (hB.le A126.1) a137.agree
                    have S135 : Sep G134 (Fr H) [rowsC c25_u0 22 3 c100_Cz0 (List.map ints r10.2), rowsC c11_u0 22 3 c11_C0 (List.map ints r2.1), flat c116_u0 3 (ints r12), rowsC c123_u0 22 3 c123_C0 (List.map ints r13.1)] := S125.app a137.agree S138 (fun _ h => h) (hB.le A126.1)
                    rcases Bool.eq_false_or_eq_true (bnot r14) with hb139 | hb139
                    · replace hL130 := cd_t hb139 hL130
                      simp [-aBin', -aBin, -aBinI, -aUn, -aNil, -flatV, n_fn, b_add, b_sub, b_mul, b_lt, b_le, b_gt, b_ge, b_eq, b_ne, u_not, ej90_0, ej90_3, ej90_4, ej90_6, ej90_58, hb139, a137.pre]
                      apply hK
                      clear hK K
                      simp only [andThen, leaves]
                      have S140 := S135.pick [0] (by decide) rfl
                      obtain rfl := Option.some.inj hL130
                      exact ⟨S140, A136, by simp [ej90_0, ej90_3, ej90_4, ej90_6, ej90_58], by simp [ej90_0, ej90_3, ej90_4, ej90_6, ej90_58], by simp [ej90_0, ej90_3, ej90_4, ej90_6, ej90_58]⟩
                    · replace hL130 := cd_f hb139 hL130
                      simp [-aBin', -aBin, -aBinI, -aUn, -aNil, -flatV, n_fn, b_add, b_sub, b_mul, b_lt, b_le, b_gt, b_ge, b_eq, b_ne, u_not, ej90_0, ej90_3, ej90_4, ej90_6, ej90_58, hb139, a137.pre, b_bne un_4]
                      apply hK
                      clear hK K
                      simp only [andThen, leaves]
                      have S141 := S135.pick [0] (by decide) rfl
                      obtain rfl := Option.some.inj hL130
                      exact ⟨S141, A136, by simp [ej90_0, ej90_3, ej90_4, ej90_6, ej90_58], by simp [ej90_0, ej90_3, ej90_4, ej90_6, ej90_58], by simp [ej90_0, ej90_3, ej90_4, ej90_6, ej90_58]⟩
                  · rintro env Gj142 ⟨Sj142, Aj142, ej142_6, ej142_9, ej142_84⟩
                    refine DWp.cond' (t := s129) (by simp [ej142_6, ej142_9, ej142_84]) (fun hb143 => ?_) (fun hb143 => ?_)
                    · replace hF := cd_t hb143 hF
                      refine DWp.seq ?_
                      refine DWp.region fun K hK => ?_
                      simp [-aBin', -aBin, -aBinI, -aUn, -aNil, -flatV, n_fn, b_add, b_sub, b_mul, b_lt, b_le, b_gt, b_ge, b_eq, b_ne, u_not, ej142_6, ej142_9, ej142_84]
                      apply hK
                      clear hK K
                      simp only [andThen, leaves]
                      refine DWp.ret ?_
                      simp only [andThen, leaves]
                      obtain rfl := Option.some.inj hF
                      exact ⟨by simp, [(Value.bool false)], by simp [ej142_6, ej142_9, ej142_84], Aj142, rfl, Sj142.pick [] (by decide) rfl⟩
                    · replace hF := cd_f hb143 hF
                      refine DWp.skip ?_
                      simp only [andThen, leaves]
                      refine DWp.seq ?_
                      refine DWp.region fun K hK => ?_
                      simp [-aBin', -aBin, -aBinI, -aUn, -aNil, -flatV, n_fn, b_add, b_sub, b_mul, b_lt, b_le, b_gt, b_ge, b_eq, b_ne, u_not, ej142_6, ej142_9, ej142_84]
                      apply hK
                      clear hK K
                      simp only [andThen, leaves]
                      refine DWp.seq ?_
                      obtain ⟨r15, hc144, hF⟩ := bd_some hF
                      refine DWp.region fun K hK => ?_
                      simp [-aBin', -aBin, -aBinI, -aUn, -aNil, -flatV, n_fn, b_add, b_sub, b_mul, b_lt, b_le, b_gt, b_ge, b_eq, b_ne, u_not, ej142_6, ej142_9, ej142_84, ((Sj142.rd (k := 0) rfl).tup)]
                      refine CallD.t (F_laws_heldIntSS_w (fu := fu) ((Sj142.rd (k := 0) rfl).slsl) hc144) ?_
                      rintro _ G146 ⟨a149, rfl, S150⟩
                      have A148 := Aj142.ext (hB.le Aj142.1) a149.agree
                      have S147 : Sep G146 (Fr H) [rowsC c25_u0 22 3 c100_Cz0 (List.map ints r10.2)] := Sj142.app a149.agree S150 (fun _ h => h) (hB.le Aj142.1)
                      simp [-aBin', -aBin, -aBinI, -aUn, -aNil, -flatV, n_fn, b_add, b_sub, b_mul, b_lt, b_le, b_gt, b_ge, b_eq, b_ne, u_not, ej142_6, ej142_9, ej142_84, a149.pre]
                      apply hK
                      clear hK K
                      simp only [andThen, leaves]
                      refine DWp.seq ?_
                      refine DWp.seq ?_
                      refine DWp.region fun K hK => ?_
                      simp [-aBin', -aBin, -aBinI, -aUn, -aNil, -flatV, n_fn, b_add, b_sub, b_mul, b_lt, b_le, b_gt, b_ge, b_eq, b_ne, u_not, ej142_6, ej142_9, ej142_84]
                      apply hK
                      clear hK K
                      simp only [andThen, leaves]
                      refine DWp.cond' (t := (ilt r15 0)) (by simp [ej142_6, ej142_9, ej142_84]) (fun hb151 => ?_) (fun hb151 => ?_)
                      · replace hF := cd_t hb151 hF
                        refine DWp.seq ?_
                        refine DWp.region fun K hK => ?_
                        simp [-aBin', -aBin, -aBinI, -aUn, -aNil, -flatV, n_fn, b_add, b_sub, b_mul, b_lt, b_le, b_gt, b_ge, b_eq, b_ne, u_not, ej142_6, ej142_9, ej142_84]
                        apply hK
                        clear hK K
                        simp only [andThen, leaves]
                        refine DWp.ret ?_
                        simp only [andThen, leaves]
                        obtain rfl := Option.some.inj hF
                        exact ⟨by simp, [(Value.bool false)], by simp [ej142_6, ej142_9, ej142_84], A148, rfl, S147.pick [] (by decide) rfl⟩
                      · replace hF := cd_f hb151 hF
                        refine DWp.skip ?_
                        simp only [andThen, leaves]
                        refine DWp.seq ?_
                        refine DWp.seq ?_
                        refine DWp.region fun K hK => ?_
                        simp [-aBin', -aBin, -aBinI, -aUn, -aNil, -flatV, n_fn, b_add, b_sub, b_mul, b_lt, b_le, b_gt, b_ge, b_eq, b_ne, u_not, ej142_6, ej142_9, ej142_84]
                        apply hK
                        clear hK K
                        simp only [andThen, leaves]
                        refine DWp.cond' (t := (ine r15 r10.1)) (by simp [ej142_6, ej142_9, ej142_84]) (fun hb152 => ?_) (fun hb152 => ?_)
                        · replace hF := cd_t hb152 hF
                          refine DWp.seq ?_
                          refine DWp.region fun K hK => ?_
                          simp [-aBin', -aBin, -aBinI, -aUn, -aNil, -flatV, n_fn, b_add, b_sub, b_mul, b_lt, b_le, b_gt, b_ge, b_eq, b_ne, u_not, ej142_6, ej142_9, ej142_84]
                          apply hK
                          clear hK K
                          simp only [andThen, leaves]
                          refine DWp.ret ?_
                          simp only [andThen, leaves]
                          obtain rfl := Option.some.inj hF
                          exact ⟨by simp, [(Value.bool false)], by simp [ej142_6, ej142_9, ej142_84], A148, rfl, S147.pick [] (by decide) rfl⟩
                        · replace hF := cd_f hb152 hF
                          refine DWp.skip ?_
                          simp only [andThen, leaves]
                          refine DWp.seq ?_
                          refine DWp.region fun K hK => ?_
                          simp [-aBin', -aBin, -aBinI, -aUn, -aNil, -flatV, n_fn, b_add, b_sub, b_mul, b_lt, b_le, b_gt, b_ge, b_eq, b_ne, u_not, ej142_6, ej142_9, ej142_84]
                          apply hK
                          clear hK K
                          simp only [andThen, leaves]
                          refine DWp.ret ?_
                          obtain rfl := Option.some.inj hF
                          exact ⟨by simp, [(Value.bool true)], by simp [ej142_6, ej142_9, ej142_84], A148, rfl, S147.pick [] (by decide) rfl⟩
end Go.Proofs.Ytdghlhdpcmemjaa.AL

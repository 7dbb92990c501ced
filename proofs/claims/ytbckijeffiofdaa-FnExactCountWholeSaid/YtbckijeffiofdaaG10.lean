/- The walks of functions, each with its Lean function: impl.Meander], impl.Meander]. No condition. -/
import Derived.Test.YtbckijeffiofdaaG1
import Derived.Test.YtbckijeffiofdaaG2
import Derived.Test.YtbckijeffiofdaaG3
import Derived.Test.YtbckijeffiofdaaG4
import Derived.Test.YtbckijeffiofdaaG5
import Derived.Test.YtbckijeffiofdaaG6
import Derived.Test.YtbckijeffiofdaaG7
import Derived.Test.YtbckijeffiofdaaG8
import Derived.Test.YtbckijeffiofdaaG9
import Derived.Test.YtbckijeffiofdaaALD
import Derived.Test.YtbckijeffiofdaaProg
import Derived.KernelRfl
namespace Go.Proofs.Ytbckijeffiofdaa.AL
open Go Go.RowKit
set_option linter.unusedVariables false
set_option linter.unusedSimpArgs false
set_option maxRecDepth 4096

def F_slices_IndexFunc_Simpl_Meander_L1 (fu : Nat) (k1_0 : List (List Int × List Int)) (k1_1 : ((List Int) → (List Int) → Option (Bool))) (k1_2 : Int) : Nat → Int → Option (LR (Int) (Int))
  | 0, _ => none
  | n + 1, y1_8 =>
    bif (ilt y1_8 k1_2) then
      gd (inL k1_0 y1_8) (
      bd (k1_1 ((gat pnil k1_0 y1_8).1) ((gat pnil k1_0 y1_8).2)) fun r1 =>
      bif r1 then
        some (.ret y1_8)
      else
        F_slices_IndexFunc_Simpl_Meander_L1 fu k1_0 k1_1 k1_2 n (iadd .i64 y1_8 1))
    else
      some (.brk y1_8)
def F_slices_IndexFunc_Simpl_Meander (fu : Nat) (x0 : List (List Int × List Int)) (x1 : (List Int) → (List Int) → Option (Bool)) : Option (Int) :=
  bd (F_slices_IndexFunc_Simpl_Meander_L1 fu x0 x1 (llen x0) fu 0) fun s1 =>
  lr s1 fun s1 =>
  some (-1)
theorem F_slices_IndexFunc_Simpl_Meander_w {fu : Nat} {H : AH} {v0 : Value} {f1 : FuncId} {c1 : List Value} {x0 : List (List Int × List Int)} {x1 : (List Int) → (List Int) → Option (Bool)} {r : (Int)} (hx0 : ∃ C, RdP H v0 C x0) (hx1 : ∀ (G : AH), AgB (Fr H) H G → ∀ (v0_0 : Value) (v0_1 : Value) (y0_0 : List Int) (y0_1 : List Int) (q : (Bool)), Sl G v0_0 (ints y0_0) → Sl G v0_1 (ints y0_1) → x1 y0_0 y0_1 = some q → ACallT Try.prog f1 ([(Value.agg #[v0_0, v0_1])] ++ c1) G (fun u G' => AgB (Fr G) G G' ∧ u = (Value.bool q) ∧ Sep G' (Fr G) [])) (hF : F_slices_IndexFunc_Simpl_Meander fu x0 x1 = some r) :
    ACallT Try.prog 145 [v0, (Value.func (.func f1) #[] c1.toArray)] H (fun u G => AgB (Fr H) H G ∧ u = (Value.int .i64 r) ∧ Sep G (Fr H) []) := by
  refine ACallT.of_body (nt := 19) (rs := [.tmp 4]) Try.func145 rfl rfl rfl rfl ?_
  have A0 : AgB (Fr H) H H := .refl _ _
  have S0 : Sep H (Fr H) [] := .nil
  have hB := Fr.up H
  unfold F_slices_IndexFunc_Simpl_Meander at hF
  obtain ⟨C0, hC0⟩ := hx0
  refine DWp.seq ?_
  refine DWp.region fun K hK => ?_
  simp [-aBin', -aBin, -aBinI, -aUn, -aNil, -flatV, n_fn, b_add, b_sub, b_mul, b_lt, b_le, b_gt, b_ge, b_eq, b_ne, u_not]
  apply hK
  clear hK K
  simp only [andThen, leaves]
  refine DWp.seq ?_
  refine DWp.seq ?_
  have q1 := (hC0.agree A0.agree).lenG (P := Try.prog) el_46
  refine DWp.region fun K hK => ?_
  simp [-aBin', -aBin, -aBinI, -aUn, -aNil, -flatV, n_fn, b_add, b_sub, b_mul, b_lt, b_le, b_gt, b_ge, b_eq, b_ne, u_not, q1]
  apply hK
  clear hK K
  simp only [andThen, leaves]
  refine DWp.block ?_
  obtain ⟨s2, hL3, hF⟩ := bd_some hF
  have S4 := S0.pick [] (by decide) rfl
  refine DWp.loop (fun n env G => ∃ y1_8 : Int, F_slices_IndexFunc_Simpl_Meander_L1 fu x0 x1 (llen x0) n y1_8 = some s2 ∧ Sep G (Fr H) [] ∧ AgB (Fr H) H G ∧ env 0 = some v0 ∧ env 1 = some (Value.func (.func f1) #[] c1.toArray) ∧ env 7 = some (Value.int .i64 (llen x0)) ∧ env 8 = some (Value.int .i64 y1_8)) fu ⟨0, hL3, S4, A0, by simp [], by simp [], by simp [], by simp []⟩ ?_
  rintro n1 env1 G1_ ⟨y1_8, hL3, S1_, A1_, e1_0, e1_1, e1_7, e1_8⟩
  cases n1 with
  | zero => cases hL3
  | succ n1 =>
    simp only [F_slices_IndexFunc_Simpl_Meander_L1] at hL3
    refine DWp.seq ?_
    refine DWp.region fun K hK => ?_
    simp [-aBin', -aBin, -aBinI, -aUn, -aNil, -flatV, n_fn, b_add, b_sub, b_mul, b_lt, b_le, b_gt, b_ge, b_eq, b_ne, u_not, e1_0, e1_1, e1_7, e1_8]
    apply hK
    clear hK K
    simp only [andThen, leaves]
    refine DWp.seq ?_
    refine DWp.cond' (t := (ilt y1_8 (llen x0))) (by simp [e1_0, e1_1, e1_7, e1_8]) (fun hb5 => ?_) (fun hb5 => ?_)
    · replace hL3 := cd_t hb5 hL3
      refine DWp.skip ?_
      simp only [andThen, leaves]
      refine DWp.seq ?_
      refine DWp.block ?_
      refine DWp.seq ?_
      refine DWp.region fun K hK => ?_
      simp [-aBin', -aBin, -aBinI, -aUn, -aNil, -flatV, n_fn, b_add, b_sub, b_mul, b_lt, b_le, b_gt, b_ge, b_eq, b_ne, u_not, e1_0, e1_1, e1_7, e1_8]
      apply hK
      clear hK K
      simp only [andThen, leaves]
      refine DWp.seq ?_
      obtain ⟨g6, hL3⟩ := gd_some hL3
      have q7 := (hC0.agree A1_.agree).idxG (P := Try.prog) (kk := .i64) el_46 sz_28 g6
      have q8 := (hC0.agree A1_.agree).loadG (P := Try.prog) sz_28 ag_28 g6
      obtain ⟨r1, hc9, hL3⟩ := bd_some hL3
      refine DWp.region fun K hK => ?_
      simp [-aBin', -aBin, -aBinI, -aUn, -aNil, -flatV, n_fn, b_add, b_sub, b_mul, b_lt, b_le, b_gt, b_ge, b_eq, b_ne, u_not, e1_0, e1_1, e1_7, e1_8, q7, q8, (((hC0.agree A1_.agree).row0 g6).tup), (((hC0.agree A1_.agree).row1 g6).tup)]
      refine CallD.t (hx1 _ A1_ (pc C0 y1_8 0) (pc C0 y1_8 1) ((gat pnil x0 y1_8).1) ((gat pnil x0 y1_8).2) _ ((hC0.agree A1_.agree).row0 g6) ((hC0.agree A1_.agree).row1 g6) hc9) ?_
      rintro _ G10 ⟨a13, rfl, S14⟩
      have A12 := A1_.ext (hB.le A1_.1) a13.agree
      have S11 : Sep G10 (Fr H) [] := S1_.agree a13.agree
      simp [-aBin', -aBin, -aBinI, -aUn, -aNil, -flatV, n_fn, b_add, b_sub, b_mul, b_lt, b_le, b_gt, b_ge, b_eq, b_ne, u_not, e1_0, e1_1, e1_7, e1_8, q7, q8, a13.pre]
      apply hK
      clear hK K
      simp only [andThen, leaves]
      refine DWp.cond' (t := r1) (by simp [e1_0, e1_1, e1_7, e1_8]) (fun hb15 => ?_) (fun hb15 => ?_)
      · replace hL3 := cd_t hb15 hL3
        refine DWp.seq ?_
        refine DWp.region fun K hK => ?_
        simp [-aBin', -aBin, -aBinI, -aUn, -aNil, -flatV, n_fn, b_add, b_sub, b_mul, b_lt, b_le, b_gt, b_ge, b_eq, b_ne, u_not, e1_0, e1_1, e1_7, e1_8]
        apply hK
        clear hK K
        simp only [andThen, leaves]
        refine DWp.ret ?_
        simp only [andThen, leaves]
        obtain rfl := Option.some.inj hL3
        simp only [lr] at hF
        obtain rfl := Option.some.inj hF
        exact ⟨by simp, [(Value.int .i64 y1_8)], by simp [e1_0, e1_1, e1_7, e1_8], A12, rfl, S11.pick [] (by decide) rfl⟩
      · replace hL3 := cd_f hb15 hL3
        refine DWp.skip ?_
        simp only [andThen, leaves]
        refine DWp.region fun K hK => ?_
        simp [-aBin', -aBin, -aBinI, -aUn, -aNil, -flatV, n_fn, b_add, b_sub, b_mul, b_lt, b_le, b_gt, b_ge, b_eq, b_ne, u_not, e1_0, e1_1, e1_7, e1_8]
        apply hK
        clear hK K
        simp only [andThen, leaves]
        have S16 := S11.pick [] (by decide) rfl
        exact ⟨n1, Nat.lt_succ_self _, (iadd .i64 y1_8 1), hL3, S16, A12, by simp [e1_0, e1_1, e1_7, e1_8], by simp [e1_0, e1_1, e1_7, e1_8], by simp [e1_0, e1_1, e1_7, e1_8], by simp [e1_0, e1_1, e1_7, e1_8]⟩
    · replace hL3 := cd_f hb5 hL3
      refine DWp.exit ?_
      simp only [andThen, leaves, if_true, if_false, reduceIte, Nat.reduceEqDiff]
      obtain rfl := Option.some.inj hL3
      simp only [lr] at hF
      refine DWp.seq ?_
      refine DWp.region fun K hK => ?_
      simp [-aBin', -aBin, -aBinI, -aUn, -aNil, -flatV, n_fn, b_add, b_sub, b_mul, b_lt, b_le, b_gt, b_ge, b_eq, b_ne, u_not, e1_0, e1_1, e1_7, e1_8]
      apply hK
      clear hK K
      simp only [andThen, leaves]
      refine DWp.ret ?_
      obtain rfl := Option.some.inj hF
      exact ⟨by simp, [(Value.int .i64 (-1))], by simp [e1_0, e1_1, e1_7, e1_8], A1_, rfl, S1_.pick [] (by decide) rfl⟩
def F_slices_DeleteFunc_Simpl_Meander_L1 (fu : Nat) (k1_0 : ((List Int) → (List Int) → Option (Bool))) : Nat → List (List Int × List Int) → Int → Int → Option (List (List Int × List Int) × Int × Int)
  | 0, _, _, _ => none
  | n + 1, l1_0, y1_5, y1_6 =>
    bif (ilt y1_6 (llen l1_0)) then
      gd (inL l1_0 y1_6) (
      gd ((y1_5).toNat ≤ (y1_6).toNat) (
      gd (l1_0.length ≤ 4294967296) (
      bd (k1_0 ((gat pnil l1_0 y1_6).1) ((gat pnil l1_0 y1_6).2)) fun r2 =>
      bif (bnot r2) then
        gd (inL l1_0 y1_5) (
        gd ((y1_5).toNat < ((iadd .i64 y1_6 1)).toNat ∧ l1_0.length ≤ 4294967296) (
        F_slices_DeleteFunc_Simpl_Meander_L1 fu k1_0 n (lset l1_0 y1_5 ((gat pnil l1_0 y1_6).1, (gat pnil l1_0 y1_6).2)) (iadd .i64 y1_5 1) (iadd .i64 y1_6 1)))
      else
        F_slices_DeleteFunc_Simpl_Meander_L1 fu k1_0 n l1_0 y1_5 (iadd .i64 y1_6 1))))
    else
      some (l1_0, y1_5, y1_6)
def F_slices_DeleteFunc_Simpl_Meander (fu : Nat) (x0 : List (List Int × List Int)) (x1 : (List Int) → (List Int) → Option (Bool)) : Option (List (List Int × List Int)) :=
  bd (F_slices_IndexFunc_Simpl_Meander fu x0 x1) fun r1 =>
  bif (ieq r1 (-1)) then
    some x0
  else
    bd (F_slices_DeleteFunc_Simpl_Meander_L1 fu x1 fu x0 r1 (iadd .i64 r1 1)) fun s1 =>
    gd (inL s1.1 s1.2.1) (
    gd (s1.2.2 = llen s1.1) (
    gd (inL s1.1 s1.2.1) (
    some (s1.1.take (s1.2.1).toNat))))
theorem F_slices_DeleteFunc_Simpl_Meander_w {fu : Nat} {H : AH} {B : Nat → Prop} {v0 : Value} {C0 : List Value} {f1 : FuncId} {c1 : List Value} {x0 : List (List Int × List Int)} {x1 : (List Int) → (List Int) → Option (Bool)} {r : (List (List Int × List Int))} (hB : Up B H.length) (S0 : Sep H B [rowsP v0 28 3 C0 x0]) (hx1 : ∀ (G : AH), AgB B H G → ∀ (v0_0 : Value) (v0_1 : Value) (y0_0 : List Int) (y0_1 : List Int) (q : (Bool)), Sl G v0_0 (ints y0_0) → Sl G v0_1 (ints y0_1) → x1 y0_0 y0_1 = some q → ACallT Try.prog f1 ([(Value.agg #[v0_0, v0_1])] ++ c1) G (fun u G' => AgB (Fr G) G G' ∧ u = (Value.bool q) ∧ Sep G' (Fr G) [])) (hF : F_slices_DeleteFunc_Simpl_Meander fu x0 x1 = some r) :
    ACallT Try.prog 117 [v0, (Value.func (.func f1) #[] c1.toArray)] H (fun u G => AgB B H G ∧ ∃ u0 : Value, ∃ C0 : List Value, u = u0 ∧ Sep G B [rowsP u0 28 3 C0 r]) := by
  refine ACallT.of_body (nt := 42) (rs := [.tmp 4]) Try.func117 rfl rfl rfl rfl ?_
  have A0 : AgB B H H := .refl _ _
  unfold F_slices_DeleteFunc_Simpl_Meander at hF
  refine DWp.seq ?_
  refine DWp.region fun K hK => ?_
  simp [-aBin', -aBin, -aBinI, -aUn, -aNil, -flatV, n_fn, b_add, b_sub, b_mul, b_lt, b_le, b_gt, b_ge, b_eq, b_ne, u_not]
  apply hK
  clear hK K
  simp only [andThen, leaves]
  refine DWp.seq ?_
  obtain ⟨r1, hc1, hF⟩ := bd_some hF
  refine DWp.region fun K hK => ?_
  simp [-aBin', -aBin, -aBinI, -aUn, -aNil, -flatV, n_fn, b_add, b_sub, b_mul, b_lt, b_le, b_gt, b_ge, b_eq, b_ne, u_not, ((S0.rdP (k := 0) rfl).tup)]
  refine CallD.t (F_slices_IndexFunc_Simpl_Meander_w (fu := fu) ⟨_, (S0.rdP (k := 0) rfl)⟩ (fun (G_ : AH) (a_ : AgB (Fr H) H G_) => hx1 G_ (A0.ext (hB.le A0.1) a_.agree)) hc1) ?_
  rintro _ G3 ⟨a6, rfl, S7⟩
  have A5 := A0.ext (hB.le A0.1) a6.agree
  have S4 : Sep G3 B [rowsP v0 28 3 C0 x0] := S0.app a6.agree S7 (fun _ h => h) (hB.le A0.1)
  simp [-aBin', -aBin, -aBinI, -aUn, -aNil, -flatV, n_fn, b_add, b_sub, b_mul, b_lt, b_le, b_gt, b_ge, b_eq, b_ne, u_not, a6.pre]
  apply hK
  clear hK K
  simp only [andThen, leaves]
  refine DWp.seq ?_
  refine DWp.seq ?_
  refine DWp.region fun K hK => ?_
  simp [-aBin', -aBin, -aBinI, -aUn, -aNil, -flatV, n_fn, b_add, b_sub, b_mul, b_lt, b_le, b_gt, b_ge, b_eq, b_ne, u_not]
  apply hK
  clear hK K
  simp only [andThen, leaves]
  refine DWp.cond' (t := (ieq r1 (-1))) (by simp []) (fun hb8 => ?_) (fun hb8 => ?_)
  · replace hF := cd_t hb8 hF
    refine DWp.seq ?_
    refine DWp.region fun K hK => ?_
    simp [-aBin', -aBin, -aBinI, -aUn, -aNil, -flatV, n_fn, b_add, b_sub, b_mul, b_lt, b_le, b_gt, b_ge, b_eq, b_ne, u_not]
    apply hK
    clear hK K
    simp only [andThen, leaves]
    refine DWp.ret ?_
    simp only [andThen, leaves]
    obtain rfl := Option.some.inj hF
    exact ⟨by simp, [v0], by simp [((S4.rdP (k := 0) rfl).tup)], A5, v0, C0, rfl, S4.pick [0] (by decide) rfl⟩
  · replace hF := cd_f hb8 hF
    refine DWp.skip ?_
    simp only [andThen, leaves]
    refine DWp.seq ?_
    refine DWp.seq ?_
    refine DWp.region fun K hK => ?_
    simp [-aBin', -aBin, -aBinI, -aUn, -aNil, -flatV, n_fn, b_add, b_sub, b_mul, b_lt, b_le, b_gt, b_ge, b_eq, b_ne, u_not]
    apply hK
    clear hK K
    simp only [andThen, leaves]
    refine DWp.block ?_
    have S9 : Sep G3 B [rowsPD v0 28 3 C0 x0 r1 (iadd .i64 r1 1)] := S4.toPD (kk := 0) rfl r1 (iadd .i64 r1 1)
    obtain ⟨s10, hL11, hF⟩ := bd_some hF
    have S12 := S9.pick [0] (by decide) rfl
    refine DWp.loop (fun n env G => ∃ l1_0 : List (List Int × List Int), ∃ y1_5 : Int, ∃ y1_6 : Int, ∃ D1_0 : List Value, F_slices_DeleteFunc_Simpl_Meander_L1 fu x1 n l1_0 y1_5 y1_6 = some s10 ∧ Sep G B [rowsPD v0 28 3 D1_0 l1_0 y1_5 y1_6] ∧ AgB B H G ∧ env 0 = some v0 ∧ env 1 = some (Value.func (.func f1) #[] c1.toArray) ∧ env 5 = some (Value.int .i64 y1_5) ∧ env 6 = some (Value.int .i64 y1_6)) fu ⟨x0, r1, (iadd .i64 r1 1), C0, hL11, S12, A5, by simp [], by simp [], by simp [], by simp []⟩ ?_
    rintro n1 env1 G1_ ⟨l1_0, y1_5, y1_6, D1_0, hL11, S1_, A1_, e1_0, e1_1, e1_5, e1_6⟩
    cases n1 with
    | zero => cases hL11
    | succ n1 =>
      simp only [F_slices_DeleteFunc_Simpl_Meander_L1] at hL11
      refine DWp.seq ?_
      refine DWp.seq ?_
      have q13 := S1_.lenPD (P := Try.prog) (kk := 0) rfl el_46
      refine DWp.region fun K hK => ?_
      simp [-aBin', -aBin, -aBinI, -aUn, -aNil, -flatV, n_fn, b_add, b_sub, b_mul, b_lt, b_le, b_gt, b_ge, b_eq, b_ne, u_not, e1_0, e1_1, e1_5, e1_6, q13]
      apply hK
      clear hK K
      simp only [andThen, leaves]
      refine DWp.cond' (t := (ilt y1_6 (llen l1_0))) (by simp [e1_0, e1_1, e1_5, e1_6]) (fun hb14 => ?_) (fun hb14 => ?_)
      · replace hL11 := cd_t hb14 hL11
        refine DWp.skip ?_
        simp only [andThen, leaves]
        refine DWp.seq ?_
        refine DWp.block ?_
        refine DWp.seq ?_
        obtain ⟨g15, hL11⟩ := gd_some hL11
        have q16 := S1_.idxPD (P := Try.prog) (ki := .i64) (kk := 0) rfl el_46 sz_28 g15
        obtain ⟨g18, hL11⟩ := gd_some hL11
        have q17 := S1_.loadPD (P := Try.prog) (kk := 0) rfl sz_28 ag_28 g15
        obtain ⟨g19, hL11⟩ := gd_some hL11
        have S20 : Sep G1_ B [rowsPD v0 28 3 D1_0 l1_0 y1_5 (iadd .i64 y1_6 1), flat (pc D1_0 y1_6 0) 3 (ints (gat pnil l1_0 y1_6).1), flat (pc D1_0 y1_6 1) 3 (ints (gat pnil l1_0 y1_6).2)] := S1_.takePD (kk := 0) rfl g15 g19 g18
        obtain ⟨G22, p24, q25, q27, a26, S21⟩ := S20.allocT (P := Try.prog) (hB.le A1_.1) ze_28 rfl
        have A23 := A1_.ext (hB.le A1_.1) a26
        replace S21 : Sep G22 B [rowsPD v0 28 3 D1_0 l1_0 y1_5 (iadd .i64 y1_6 1), flat (pc D1_0 y1_6 0) 3 (ints (gat pnil l1_0 y1_6).1), flat (pc D1_0 y1_6 1) 3 (ints (gat pnil l1_0 y1_6).2), AL.box p24 [(Value.slice none 0 0), (Value.slice none 0 0)]] := S21
        obtain ⟨G28, q29, S30, a32⟩ := S21.putAgg (P := Try.prog) (k := 3) (xs := [(pc D1_0 y1_6 0), (pc D1_0 y1_6 1)]) rfl (hB.le A23.1) sz_28 rfl rfl
        have A31 := A23.trans a32
        replace S30 : Sep G28 B [rowsPD v0 28 3 D1_0 l1_0 y1_5 (iadd .i64 y1_6 1), flat (pc D1_0 y1_6 0) 3 (ints (gat pnil l1_0 y1_6).1), flat (pc D1_0 y1_6 1) 3 (ints (gat pnil l1_0 y1_6).2), AL.box p24 [(pc D1_0 y1_6 0), (pc D1_0 y1_6 1)]] := S30
        refine DWp.region fun K hK => ?_
        simp [-aBin', -aBin, -aBinI, -aUn, -aNil, -flatV, n_fn, b_add, b_sub, b_mul, b_lt, b_le, b_gt, b_ge, b_eq, b_ne, u_not, e1_0, e1_1, e1_5, e1_6, q16, q17, q25, q27, a26.to_pre, q29]
        apply hK
        clear hK K
        simp only [andThen, leaves]
        refine DWp.seq ?_
        have q33 := S30.loadAgg (P := Try.prog) (k := 3) rfl sz_28 ag_28 rfl
        obtain ⟨r2, hc34, hL11⟩ := bd_some hL11
        refine DWp.region fun K hK => ?_
        simp [-aBin', -aBin, -aBinI, -aUn, -aNil, -flatV, n_fn, b_add, b_sub, b_mul, b_lt, b_le, b_gt, b_ge, b_eq, b_ne, u_not, e1_0, e1_1, e1_5, e1_6, q33, ((S30.sl (k := 1) rfl).tup), ((S30.sl (k := 2) rfl).tup)]
        refine CallD.t (hx1 _ A31 (pc D1_0 y1_6 0) (pc D1_0 y1_6 1) ((gat pnil l1_0 y1_6).1) ((gat pnil l1_0 y1_6).2) _ (S30.sl (k := 1) rfl) (S30.sl (k := 2) rfl) hc34) ?_
        rintro _ G35 ⟨a38, rfl, S39⟩
        have A37 := A31.ext (hB.le A31.1) a38.agree
        have S36 : Sep G35 B [rowsPD v0 28 3 D1_0 l1_0 y1_5 (iadd .i64 y1_6 1), flat (pc D1_0 y1_6 0) 3 (ints (gat pnil l1_0 y1_6).1), flat (pc D1_0 y1_6 1) 3 (ints (gat pnil l1_0 y1_6).2), AL.box p24 [(pc D1_0 y1_6 0), (pc D1_0 y1_6 1)]] := S30.agree a38.agree
        simp [-aBin', -aBin, -aBinI, -aUn, -aNil, -flatV, n_fn, b_add, b_sub, b_mul, b_lt, b_le, b_gt, b_ge, b_eq, b_ne, u_not, e1_0, e1_1, e1_5, e1_6, q33, a38.pre]
        apply hK
        clear hK K
        simp only [andThen, leaves]
        refine DWp.cond' (t := (bnot r2)) (by simp [e1_0, e1_1, e1_5, e1_6]) (fun hb40 => ?_) (fun hb40 => ?_)
        · replace hL11 := cd_t hb40 hL11
          refine DWp.seq ?_
          have q41 := S36.loadAgg (P := Try.prog) (k := 3) rfl sz_28 ag_28 rfl
          obtain ⟨g42, hL11⟩ := gd_some hL11
          have q43 := S36.idxPD (P := Try.prog) (ki := .i64) (kk := 0) rfl el_46 sz_28 g42
          obtain ⟨g49, hL11⟩ := gd_some hL11
          obtain ⟨G44, q45, S46, a48⟩ := S36.putPD (P := Try.prog) (kk := 0) (k1 := 1) (k2 := 2) (by decide) (by decide) (by decide) rfl rfl rfl (hB.le A37.1) sz_28 g42 g49.1 g49.2
          have A47 := A37.trans a48
          replace S46 : Sep G44 B [rowsPD v0 28 3 (putP D1_0 y1_5 (pc D1_0 y1_6 0) (pc D1_0 y1_6 1)) (lset l1_0 y1_5 ((gat pnil l1_0 y1_6).1, (gat pnil l1_0 y1_6).2)) (iadd .i64 y1_5 1) (iadd .i64 y1_6 1), emp, emp, AL.box p24 [(pc D1_0 y1_6 0), (pc D1_0 y1_6 1)]] := S46
          refine DWp.region fun K hK => ?_
          simp [-aBin', -aBin, -aBinI, -aUn, -aNil, -flatV, n_fn, b_add, b_sub, b_mul, b_lt, b_le, b_gt, b_ge, b_eq, b_ne, u_not, e1_0, e1_1, e1_5, e1_6, q41, q43, q45, ((S36.sl (k := 1) rfl).tup), ((S36.sl (k := 2) rfl).tup)]
          apply hK
          clear hK K
          simp only [andThen, leaves]
          refine DWp.region fun K hK => ?_
          simp [-aBin', -aBin, -aBinI, -aUn, -aNil, -flatV, n_fn, b_add, b_sub, b_mul, b_lt, b_le, b_gt, b_ge, b_eq, b_ne, u_not, e1_0, e1_1, e1_5, e1_6]
          apply hK
          clear hK K
          simp only [andThen, leaves]
          refine DWp.region fun K hK => ?_
          simp [-aBin', -aBin, -aBinI, -aUn, -aNil, -flatV, n_fn, b_add, b_sub, b_mul, b_lt, b_le, b_gt, b_ge, b_eq, b_ne, u_not, e1_0, e1_1, e1_5, e1_6]
          apply hK
          clear hK K
          simp only [andThen, leaves]
          have S50 := S46.pick [0] (by decide) rfl
          exact ⟨n1, Nat.lt_succ_self _, (lset l1_0 y1_5 ((gat pnil l1_0 y1_6).1, (gat pnil l1_0 y1_6).2)), (iadd .i64 y1_5 1), (iadd .i64 y1_6 1), (putP D1_0 y1_5 (pc D1_0 y1_6 0) (pc D1_0 y1_6 1)), hL11, S50, A47, by simp [e1_0, e1_1, e1_5, e1_6], by simp [e1_0, e1_1, e1_5, e1_6], by simp [e1_0, e1_1, e1_5, e1_6], by simp [e1_0, e1_1, e1_5, e1_6]⟩
        · replace hL11 := cd_f hb40 hL11
          refine DWp.skip ?_
          simp only [andThen, leaves]
          refine DWp.region fun K hK => ?_
          simp [-aBin', -aBin, -aBinI, -aUn, -aNil, -flatV, n_fn, b_add, b_sub, b_mul, b_lt, b_le, b_gt, b_ge, b_eq, b_ne, u_not, e1_0, e1_1, e1_5, e1_6]
          apply hK
          clear hK K
          simp only [andThen, leaves]
          have S51 := S36.pick [0] (by decide) rfl
          exact ⟨n1, Nat.lt_succ_self _, l1_0, y1_5, (iadd .i64 y1_6 1), D1_0, hL11, S51, A37, by simp [e1_0, e1_1, e1_5, e1_6], by simp [e1_0, e1_1, e1_5, e1_6], by simp [e1_0, e1_1, e1_5, e1_6], by simp [e1_0, e1_1, e1_5, e1_6]⟩
      · replace hL11 := cd_f hb14 hL11
        refine DWp.exit ?_
        simp only [andThen, leaves, if_true, if_false, reduceIte, Nat.reduceEqDiff]
        obtain rfl := Option.some.inj hL11
        try dsimp only at hF
        refine DWp.seq ?_
        obtain ⟨g52, hF⟩ := gd_some hF
        have q53 := S1_.tailV (P := Try.prog) (kk := 0) rfl el_46 sz_28 g52
        obtain ⟨g54, hF⟩ := gd_some hF
        obtain ⟨G55, D60, q56, S57, a59⟩ := S1_.clearPD (P := Try.prog) (t := 46) (kk := 0) rfl (hB.le A1_.1) el_46 ei_28 rfl g52 g54
        have A58 := A1_.trans a59
        replace S57 : Sep G55 B [rowsPD v0 28 3 D60 l1_0 y1_5 y1_6] := S57
        refine DWp.region fun K hK => ?_
        simp [-aBin', -aBin, -aBinI, -aUn, -aNil, -flatV, n_fn, b_add, b_sub, b_mul, b_lt, b_le, b_gt, b_ge, b_eq, b_ne, u_not, e1_0, e1_1, e1_5, e1_6, q53, q56]
        apply hK
        clear hK K
        simp only [andThen, leaves]
        refine DWp.seq ?_
        obtain ⟨g61, hF⟩ := gd_some hF
        have q62 := S57.headV (P := Try.prog) (kk := 0) rfl el_46 sz_28 g61
        have S63 : Sep G55 B [rowsP (subP v0 0 (y1_5).toNat) 28 3 (D60.take ((y1_5).toNat * 2)) (l1_0.take (y1_5).toNat)] := S57.headPD (kk := 0) rfl g61
        refine DWp.region fun K hK => ?_
        simp [-aBin', -aBin, -aBinI, -aUn, -aNil, -flatV, n_fn, b_add, b_sub, b_mul, b_lt, b_le, b_gt, b_ge, b_eq, b_ne, u_not, e1_0, e1_1, e1_5, e1_6, q62, ((S63.rdP (k := 0) rfl).tup)]
        apply hK
        clear hK K
        simp only [andThen, leaves]
        refine DWp.ret ?_
        obtain rfl := Option.some.inj hF
        exact ⟨by simp, [(subP v0 0 (y1_5).toNat)], by simp [e1_0, e1_1, e1_5, e1_6, ((S63.rdP (k := 0) rfl).tup)], A58, (subP v0 0 (y1_5).toNat), (D60.take ((y1_5).toNat * 2)), rfl, S63.pick [0] (by decide) rfl⟩
end Go.Proofs.Ytbckijeffiofdaa.AL

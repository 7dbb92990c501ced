/- The walks of functions, each with its Lean function: impl.Meander).pieces$1, impl.Meander).inside$1, impl.Meander).inside, impl.Meander).outside$1, impl.Meander).outside, impl.Meander).pieces, impl.Meander).isSimple, impl.IsSimple, laws.eqIntS, laws.eqMeander. No condition. -/
import Derived.Test.YtbckijeffiofdaaG1
import Derived.Test.YtbckijeffiofdaaG2
import Derived.Test.YtbckijeffiofdaaG3
import Derived.Test.YtbckijeffiofdaaALC
import Derived.Test.YtbckijeffiofdaaProg
import Derived.KernelRfl
namespace Go.Proofs.Ytbckijeffiofdaa.AL
open Go Go.RowKit
set_option linter.unusedVariables false
set_option linter.unusedSimpArgs false
set_option maxRecDepth 4096

def F_impl_Meander_pieces_1 (fu : Nat) (x0 : Int) : Option (Bool) :=
  some true
theorem F_impl_Meander_pieces_1_w {fu : Nat} {H : AH}  {x0 : Int} {r : (Bool)}  (hF : F_impl_Meander_pieces_1 fu x0 = some r) :
    ACallT Try.prog 142 [(Value.int .i64 x0)] H (fun u G => AgB (Fr H) H G ∧ u = (Value.bool r) ∧ Sep G (Fr H) []) := by
  refine ACallT.of_body (nt := 3) (rs := [.tmp 2]) Try.func142 rfl rfl rfl rfl ?_
  have A0 : AgB (Fr H) H H := .refl _ _
  have S0 : Sep H (Fr H) [] := .nil
  have hB := Fr.up H
  unfold F_impl_Meander_pieces_1 at hF
  refine DWp.seq ?_
  refine DWp.region fun K hK => ?_
  simp [-aBin', -aBin, -aBinI, -aUn, -aNil, -flatV, n_fn, b_add, b_sub, b_mul, b_lt, b_le, b_gt, b_ge, b_eq, b_ne, u_not]
  apply hK
  clear hK K
  simp only [andThen, leaves]
  refine DWp.seq ?_
  refine DWp.region fun K hK => ?_
  simp [-aBin', -aBin, -aBinI, -aUn, -aNil, -flatV, n_fn, b_add, b_sub, b_mul, b_lt, b_le, b_gt, b_ge, b_eq, b_ne, u_not]
  apply hK
  clear hK K
  simp only [andThen, leaves]
  refine DWp.ret ?_
  obtain rfl := Option.some.inj hF
  exact ⟨by simp, [(Value.bool true)], by simp [], A0, rfl, S0.pick [] (by decide) rfl⟩
def F_impl_Meander_inside_1 (fu : Nat) (x0 : Int) (x1 : Int) (x2 : Int) : Option (Bool) :=
  bd (F_impl_in fu x0 x1 x2) fun r1 =>
  some r1
theorem F_impl_Meander_inside_1_w {fu : Nat} {H : AH} {p1 : Value} {p2 : Value} {x0 : Int} {x1 : Int} {x2 : Int} {r : (Bool)} (hp1 : Bx H p1 [(Value.int .i64 x1)]) (hp2 : Bx H p2 [(Value.int .i64 x2)]) (hF : F_impl_Meander_inside_1 fu x0 x1 x2 = some r) :
    ACallT Try.prog 137 [(Value.int .i64 x0), p1, p2] H (fun u G => AgB (Fr H) H G ∧ u = (Value.bool r) ∧ Sep G (Fr H) []) := by
  refine ACallT.of_body (nt := 9) (rs := [.tmp 4]) Try.func137 rfl rfl rfl rfl ?_
  have A0 : AgB (Fr H) H H := .refl _ _
  have S0 : Sep H (Fr H) [] := .nil
  have hB := Fr.up H
  unfold F_impl_Meander_inside_1 at hF
  refine DWp.seq ?_
  refine DWp.region fun K hK => ?_
  simp [-aBin', -aBin, -aBinI, -aUn, -aNil, -flatV, n_fn, b_add, b_sub, b_mul, b_lt, b_le, b_gt, b_ge, b_eq, b_ne, u_not]
  apply hK
  clear hK K
  simp only [andThen, leaves]
  refine DWp.seq ?_
  have q1 := (hp1.agree A0.agree).load0 (P := Try.prog) sz_3 ag_3
  have q2 := (hp2.agree A0.agree).load0 (P := Try.prog) sz_3 ag_3
  obtain ⟨r1, hc3, hF⟩ := bd_some hF
  refine DWp.region fun K hK => ?_
  simp [-aBin', -aBin, -aBinI, -aUn, -aNil, -flatV, n_fn, b_add, b_sub, b_mul, b_lt, b_le, b_gt, b_ge, b_eq, b_ne, u_not, q1, q2]
  refine CallD.t (F_impl_in_w (fu := fu)  hc3) ?_
  rintro _ G5 ⟨a8, rfl, S9⟩
  have A7 := A0.ext (hB.le A0.1) a8.agree
  have S6 : Sep G5 (Fr H) [] := S0.app a8.agree S9 (fun _ h => h) (hB.le A0.1)
  simp [-aBin', -aBin, -aBinI, -aUn, -aNil, -flatV, n_fn, b_add, b_sub, b_mul, b_lt, b_le, b_gt, b_ge, b_eq, b_ne, u_not, q1, q2, a8.pre]
  apply hK
  clear hK K
  simp only [andThen, leaves]
  refine DWp.ret ?_
  obtain rfl := Option.some.inj hF
  exact ⟨by simp, [(Value.bool r1)], by simp [], A7, rfl, S6.pick [] (by decide) rfl⟩
def F_impl_Meander_inside (fu : Nat) (x0_0 : List Int) (x0_1 : List Int) (x1 : Int) (x2 : Int) : Option ((List Int × List Int)) :=
  bd (F_impl_Meander_kept fu x0_0 x0_1 (fun y0 => F_impl_Meander_inside_1 fu y0 x1 x2)) fun r1 =>
  some (r1.1, r1.2)
theorem F_impl_Meander_inside_w {fu : Nat} {H : AH} {v0_0 : Value} {v0_1 : Value} {x0_0 : List Int} {x0_1 : List Int} {x1 : Int} {x2 : Int} {r : ((List Int × List Int))} (hx0_0 : Sl H v0_0 (ints x0_0)) (hx0_1 : Sl H v0_1 (ints x0_1)) (hF : F_impl_Meander_inside fu x0_0 x0_1 x1 x2 = some r) :
    ACallT Try.prog 103 [(Value.agg #[v0_0, v0_1]), (Value.int .i64 x1), (Value.int .i64 x2)] H (fun u G => AgB (Fr H) H G ∧ ∃ u0 : Value, ∃ u1 : Value, u = (Value.agg #[u0, u1]) ∧ Sep G (Fr H) [flat u0 3 (ints r.1), flat u1 3 (ints r.2)]) := by
  refine ACallT.of_body (nt := 10) (rs := [.cell 6 28]) Try.func103 rfl rfl rfl rfl ?_
  have A0 : AgB (Fr H) H H := .refl _ _
  have S0 : Sep H (Fr H) [] := .nil
  have hB := Fr.up H
  unfold F_impl_Meander_inside at hF
  refine DWp.seq ?_
  obtain ⟨G2, p4, q5, q6, a7, S1⟩ := S0.boxT (hB.le A0.1) 28 [v0_0, v0_1]
  have A3 := A0.ext (hB.le A0.1) a7
  replace S1 : Sep G2 (Fr H) [AL.box p4 [v0_0, v0_1]] := S1
  obtain ⟨G9, p11, q12, q13, a14, S8⟩ := S1.boxT (hB.le A3.1) 3 [(Value.int .i64 x1)]
  have A10 := A3.ext (hB.le A3.1) a14
  replace S8 : Sep G9 (Fr H) [AL.box p4 [v0_0, v0_1], AL.box p11 [(Value.int .i64 x1)]] := S8
  obtain ⟨G16, p18, q19, q20, a21, S15⟩ := S8.boxT (hB.le A10.1) 3 [(Value.int .i64 x2)]
  have A17 := A10.ext (hB.le A10.1) a21
  replace S15 : Sep G16 (Fr H) [AL.box p4 [v0_0, v0_1], AL.box p11 [(Value.int .i64 x1)], AL.box p18 [(Value.int .i64 x2)]] := S15
  obtain ⟨G23, p25, q26, q28, a27, S22⟩ := S15.allocT (P := Try.prog) (hB.le A17.1) ze_28 rfl
  have A24 := A17.ext (hB.le A17.1) a27
  replace S22 : Sep G23 (Fr H) [AL.box p4 [v0_0, v0_1], AL.box p11 [(Value.int .i64 x1)], AL.box p18 [(Value.int .i64 x2)], AL.box p25 [(Value.slice none 0 0), (Value.slice none 0 0)]] := S22
  refine DWp.region fun K hK => ?_
  simp [-aBin', -aBin, -aBinI, -aUn, -aNil, -flatV, n_fn, b_add, b_sub, b_mul, b_lt, b_le, b_gt, b_ge, b_eq, b_ne, u_not, q5, q6, a7.to_pre, cells_agg, q12, q13, a14.to_pre, cells_int, q19, q20, a21.to_pre, q26, q28, a27.to_pre]
  apply hK
  clear hK K
  simp only [andThen, leaves]
  refine DWp.seq ?_
  have q29 := S22.loadAgg (P := Try.prog) (k := 0) rfl sz_28 ag_28 rfl
  have hz29_0 := (S22.bxT (k := 1) rfl)
  have hz29_1 := (S22.bxT (k := 2) rfl)
  obtain ⟨r1, hc31, hF⟩ := bd_some hF
  refine DWp.region fun K hK => ?_
  simp [-aBin', -aBin, -aBinI, -aUn, -aNil, -flatV, n_fn, b_add, b_sub, b_mul, b_lt, b_le, b_gt, b_ge, b_eq, b_ne, u_not, q29, (S22.flatT (k := 1) rfl), (S22.flatT (k := 2) rfl), ((hx0_0.agree A24.agree).tup), ((hx0_1.agree A24.agree).tup), (S22.ptup (k := 1) rfl), (S22.ptup (k := 2) rfl)]
  refine CallD.t (F_impl_Meander_kept_w (fu := fu) (hx0_0.agree A24.agree) (hx0_1.agree A24.agree) (fun G_ a_ y0 q_ hq_ => F_impl_Meander_inside_1_w (fu := fu) (hz29_0.agree a_.agree) (hz29_1.agree a_.agree) hq_) hc31) ?_
  rintro _ G33 ⟨a36, c32_u0, c32_u1, rfl, S37⟩
  have A35 := A24.ext (hB.le A24.1) a36.agree
  have S34 : Sep G33 (Fr H) [AL.box p4 [v0_0, v0_1], AL.box p11 [(Value.int .i64 x1)], AL.box p18 [(Value.int .i64 x2)], AL.box p25 [(Value.slice none 0 0), (Value.slice none 0 0)], flat c32_u0 3 (ints r1.1), flat c32_u1 3 (ints r1.2)] := S22.app a36.agree S37 (fun _ h => h) (hB.le A24.1)
  obtain ⟨G38, q39, S40, a42⟩ := S34.putAgg (P := Try.prog) (k := 3) (xs := [c32_u0, c32_u1]) rfl (hB.le A35.1) sz_28 rfl rfl
  have A41 := A35.trans a42
  replace S40 : Sep G38 (Fr H) [AL.box p4 [v0_0, v0_1], AL.box p11 [(Value.int .i64 x1)], AL.box p18 [(Value.int .i64 x2)], AL.box p25 [c32_u0, c32_u1], flat c32_u0 3 (ints r1.1), flat c32_u1 3 (ints r1.2)] := S40
  simp [-aBin', -aBin, -aBinI, -aUn, -aNil, -flatV, n_fn, b_add, b_sub, b_mul, b_lt, b_le, b_gt, b_ge, b_eq, b_ne, u_not, q29, (S22.flatT (k := 1) rfl), (S22.flatT (k := 2) rfl), a36.pre, q39]
  apply hK
  clear hK K
  simp only [andThen, leaves]
  refine DWp.ret ?_
  have q43 := S40.loadAgg (P := Try.prog) (k := 3) rfl sz_28 ag_28 rfl
  obtain rfl := Option.some.inj hF
  exact ⟨by simp, [(Value.agg #[c32_u0, c32_u1])], by simp [q43, ((S40.sl (k := 4) rfl).tup), ((S40.sl (k := 5) rfl).tup)], A41, c32_u0, c32_u1, rfl, S40.pick [4, 5] (by decide) rfl⟩
def F_impl_Meander_outside_1 (fu : Nat) (x0 : Int) (x1 : Int) (x2 : Int) : Option (Bool) :=
  bd (F_impl_in fu x0 x1 x2) fun r1 =>
  some (bnot r1)
theorem F_impl_Meander_outside_1_w {fu : Nat} {H : AH} {p1 : Value} {p2 : Value} {x0 : Int} {x1 : Int} {x2 : Int} {r : (Bool)} (hp1 : Bx H p1 [(Value.int .i64 x1)]) (hp2 : Bx H p2 [(Value.int .i64 x2)]) (hF : F_impl_Meander_outside_1 fu x0 x1 x2 = some r) :
    ACallT Try.prog 139 [(Value.int .i64 x0), p1, p2] H (fun u G => AgB (Fr H) H G ∧ u = (Value.bool r) ∧ Sep G (Fr H) []) := by
  refine ACallT.of_body (nt := 10) (rs := [.tmp 4]) Try.func139 rfl rfl rfl rfl ?_
  have A0 : AgB (Fr H) H H := .refl _ _
  have S0 : Sep H (Fr H) [] := .nil
  have hB := Fr.up H
  unfold F_impl_Meander_outside_1 at hF
  refine DWp.seq ?_
  refine DWp.region fun K hK => ?_
  simp [-aBin', -aBin, -aBinI, -aUn, -aNil, -flatV, n_fn, b_add, b_sub, b_mul, b_lt, b_le, b_gt, b_ge, b_eq, b_ne, u_not]
  apply hK
  clear hK K
  simp only [andThen, leaves]
  refine DWp.seq ?_
  have q1 := (hp1.agree A0.agree).load0 (P := Try.prog) sz_3 ag_3
  have q2 := (hp2.agree A0.agree).load0 (P := Try.prog) sz_3 ag_3
  obtain ⟨r1, hc3, hF⟩ := bd_some hF
  refine DWp.region fun K hK => ?_
  simp [-aBin', -aBin, -aBinI, -aUn, -aNil, -flatV, n_fn, b_add, b_sub, b_mul, b_lt, b_le, b_gt, b_ge, b_eq, b_ne, u_not, q1, q2]
  refine CallD.t (F_impl_in_w (fu := fu)  hc3) ?_
  rintro _ G5 ⟨a8, rfl, S9⟩
  have A7 := A0.ext (hB.le A0.1) a8.agree
  have S6 : Sep G5 (Fr H) [] := S0.app a8.agree S9 (fun _ h => h) (hB.le A0.1)
  simp [-aBin', -aBin, -aBinI, -aUn, -aNil, -flatV, n_fn, b_add, b_sub, b_mul, b_lt, b_le, b_gt, b_ge, b_eq, b_ne, u_not, q1, q2, a8.pre]
  apply hK
  clear hK K
  simp only [andThen, leaves]
  refine DWp.ret ?_
  obtain rfl := Option.some.inj hF
  exact ⟨by simp, [(Value.bool (bnot r1))], by simp [], A7, rfl, S6.pick [] (by decide) rfl⟩
def F_impl_Meander_outside (fu : Nat) (x0_0 : List Int) (x0_1 : List Int) (x1 : Int) (x2 : Int) : Option ((List Int × List Int)) :=
  bd (F_impl_Meander_kept fu x0_0 x0_1 (fun y0 => F_impl_Meander_outside_1 fu y0 x1 x2)) fun r1 =>
  some (r1.1, r1.2)
theorem F_impl_Meander_outside_w {fu : Nat} {H : AH} {v0_0 : Value} {v0_1 : Value} {x0_0 : List Int} {x0_1 : List Int} {x1 : Int} {x2 : Int} {r : ((List Int × List Int))} (hx0_0 : Sl H v0_0 (ints x0_0)) (hx0_1 : Sl H v0_1 (ints x0_1)) (hF : F_impl_Meander_outside fu x0_0 x0_1 x1 x2 = some r) :
    ACallT Try.prog 105 [(Value.agg #[v0_0, v0_1]), (Value.int .i64 x1), (Value.int .i64 x2)] H (fun u G => AgB (Fr H) H G ∧ ∃ u0 : Value, ∃ u1 : Value, u = (Value.agg #[u0, u1]) ∧ Sep G (Fr H) [flat u0 3 (ints r.1), flat u1 3 (ints r.2)]) := by
  refine ACallT.of_body (nt := 10) (rs := [.cell 6 28]) Try.func105 rfl rfl rfl rfl ?_
  have A0 : AgB (Fr H) H H := .refl _ _
  have S0 : Sep H (Fr H) [] := .nil
  have hB := Fr.up H
  unfold F_impl_Meander_outside at hF
  refine DWp.seq ?_
  obtain ⟨G2, p4, q5, q6, a7, S1⟩ := S0.boxT (hB.le A0.1) 28 [v0_0, v0_1]
  have A3 := A0.ext (hB.le A0.1) a7
  replace S1 : Sep G2 (Fr H) [AL.box p4 [v0_0, v0_1]] := S1
  obtain ⟨G9, p11, q12, q13, a14, S8⟩ := S1.boxT (hB.le A3.1) 3 [(Value.int .i64 x1)]
  have A10 := A3.ext (hB.le A3.1) a14
  replace S8 : Sep G9 (Fr H) [AL.box p4 [v0_0, v0_1], AL.box p11 [(Value.int .i64 x1)]] := S8
  obtain ⟨G16, p18, q19, q20, a21, S15⟩ := S8.boxT (hB.le A10.1) 3 [(Value.int .i64 x2)]
  have A17 := A10.ext (hB.le A10.1) a21
  replace S15 : Sep G16 (Fr H) [AL.box p4 [v0_0, v0_1], AL.box p11 [(Value.int .i64 x1)], AL.box p18 [(Value.int .i64 x2)]] := S15
  obtain ⟨G23, p25, q26, q28, a27, S22⟩ := S15.allocT (P := Try.prog) (hB.le A17.1) ze_28 rfl
  have A24 := A17.ext (hB.le A17.1) a27
  replace S22 : Sep G23 (Fr H) [AL.box p4 [v0_0, v0_1], AL.box p11 [(Value.int .i64 x1)], AL.box p18 [(Value.int .i64 x2)], AL.box p25 [(Value.slice none 0 0), (Value.slice none 0 0)]] := S22
  refine DWp.region fun K hK => ?_
  simp [-aBin', -aBin, -aBinI, -aUn, -aNil, -flatV, n_fn, b_add, b_sub, b_mul, b_lt, b_le, b_gt, b_ge, b_eq, b_ne, u_not, q5, q6, a7.to_pre, cells_agg, q12, q13, a14.to_pre, cells_int, q19, q20, a21.to_pre, q26, q28, a27.to_pre]
  apply hK
  clear hK K
  simp only [andThen, leaves]
  refine DWp.seq ?_
  have q29 := S22.loadAgg (P := Try.prog) (k := 0) rfl sz_28 ag_28 rfl
  have hz29_0 := (S22.bxT (k := 1) rfl)
  have hz29_1 := (S22.bxT (k := 2) rfl)
  obtain ⟨r1, hc31, hF⟩ := bd_some hF
  refine DWp.region fun K hK => ?_
  simp [-aBin', -aBin, -aBinI, -aUn, -aNil, -flatV, n_fn, b_add, b_sub, b_mul, b_lt, b_le, b_gt, b_ge, b_eq, b_ne, u_not, q29, (S22.flatT (k := 1) rfl), (S22.flatT (k := 2) rfl), ((hx0_0.agree A24.agree).tup), ((hx0_1.agree A24.agree).tup), (S22.ptup (k := 1) rfl), (S22.ptup (k := 2) rfl)]
  refine CallD.t (F_impl_Meander_kept_w (fu := fu) (hx0_0.agree A24.agree) (hx0_1.agree A24.agree) (fun G_ a_ y0 q_ hq_ => F_impl_Meander_outside_1_w (fu := fu) (hz29_0.agree a_.agree) (hz29_1.agree a_.agree) hq_) hc31) ?_
  rintro _ G33 ⟨a36, c32_u0, c32_u1, rfl, S37⟩
  have A35 := A24.ext (hB.le A24.1) a36.agree
  have S34 : Sep G33 (Fr H) [AL.box p4 [v0_0, v0_1], AL.box p11 [(Value.int .i64 x1)], AL.box p18 [(Value.int .i64 x2)], AL.box p25 [(Value.slice none 0 0), (Value.slice none 0 0)], flat c32_u0 3 (ints r1.1), flat c32_u1 3 (ints r1.2)] := S22.app a36.agree S37 (fun _ h => h) (hB.le A24.1)
  obtain ⟨G38, q39, S40, a42⟩ := S34.putAgg (P := Try.prog) (k := 3) (xs := [c32_u0, c32_u1]) rfl (hB.le A35.1) sz_28 rfl rfl
  have A41 := A35.trans a42
  replace S40 : Sep G38 (Fr H) [AL.box p4 [v0_0, v0_1], AL.box p11 [(Value.int .i64 x1)], AL.box p18 [(Value.int .i64 x2)], AL.box p25 [c32_u0, c32_u1], flat c32_u0 3 (ints r1.1), flat c32_u1 3 (ints r1.2)] := S40
  simp [-aBin', -aBin, -aBinI, -aUn, -aNil, -flatV, n_fn, b_add, b_sub, b_mul, b_lt, b_le, b_gt, b_ge, b_eq, b_ne, u_not, q29, (S22.flatT (k := 1) rfl), (S22.flatT (k := 2) rfl), a36.pre, q39]
  apply hK
  clear hK K
  simp only [andThen, leaves]
  refine DWp.ret ?_
  have q43 := S40.loadAgg (P := Try.prog) (k := 3) rfl sz_28 ag_28 rfl
  obtain rfl := Option.some.inj hF
  exact ⟨by simp, [(Value.agg #[c32_u0, c32_u1])], by simp [q43, ((S40.sl (k := 4) rfl).tup), ((S40.sl (k := 5) rfl).tup)], A41, c32_u0, c32_u1, rfl, S40.pick [4, 5] (by decide) rfl⟩
def F_impl_Meander_pieces_L1 (fu : Nat) (k1_0 : Bool) : Nat → List Int → List Int → List (List Int × List Int) → Option (LR (List (List Int × List Int)) (List Int × List Int × List (List Int × List Int)))
  | 0, _, _, _ => none
  | n + 1, l1_1, l1_2, l1_3 =>
    bd (F_impl_Meander_shortest fu l1_1 l1_2 k1_0) fun r5 =>
    bif (lemp r5) then
      bd (F_impl_Meander_kept fu l1_1 l1_2 (fun y0 => F_impl_Meander_pieces_1 fu y0)) fun r6 =>
      gd (l1_3.length + 1 ≤ 4294967296) (
      some (.ret (lapp l1_3 [(r6.1, r6.2)])))
    else
      gd (inL r5 0) (
      gd (inL r5 1) (
      bd (F_impl_Meander_inside fu l1_1 l1_2 (gat 0 r5 0) (gat 0 r5 1)) fun r7 =>
      gd (l1_3.length + 1 ≤ 4294967296) (
      gd (inL r5 0) (
      gd (inL r5 1) (
      bd (F_impl_Meander_outside fu l1_1 l1_2 (gat 0 r5 0) (gat 0 r5 1)) fun r8 =>
      F_impl_Meander_pieces_L1 fu k1_0 n r8.1 r8.2 (lapp l1_3 [(r7.1, r7.2)]))))))
def F_impl_Meander_pieces (fu : Nat) (x0_0 : List Int) (x0_1 : List Int) (x1 : Bool) : Option (List (List Int × List Int)) :=
  bd (F_impl_Meander_shortest fu x0_0 x0_1 x1) fun r1 =>
  bif (lemp r1) then
    bd (F_impl_Meander_kept fu x0_0 x0_1 (fun y0 => F_impl_Meander_pieces_1 fu y0)) fun r2 =>
    gd ((@List.nil (List Int × List Int)).length + 1 ≤ 4294967296) (
    some (lapp (@List.nil (List Int × List Int)) [(r2.1, r2.2)]))
  else
    gd (inL r1 0) (
    gd (inL r1 1) (
    bd (F_impl_Meander_inside fu x0_0 x0_1 (gat 0 r1 0) (gat 0 r1 1)) fun r3 =>
    gd ((@List.nil (List Int × List Int)).length + 1 ≤ 4294967296) (
    gd (inL r1 0) (
    gd (inL r1 1) (
    bd (F_impl_Meander_outside fu x0_0 x0_1 (gat 0 r1 0) (gat 0 r1 1)) fun r4 =>
    bd (F_impl_Meander_pieces_L1 fu x1 fu r4.1 r4.2 (lapp (@List.nil (List Int × List Int)) [(r3.1, r3.2)])) fun s1 => lr s1 fun _ => none)))))
theorem F_impl_Meander_pieces_w {fu : Nat} {H : AH} {v0_0 : Value} {v0_1 : Value} {x0_0 : List Int} {x0_1 : List Int} {x1 : Bool} {r : (List (List Int × List Int))} (hx0_0 : Sl H v0_0 (ints x0_0)) (hx0_1 : Sl H v0_1 (ints x0_1)) (hF : F_impl_Meander_pieces fu x0_0 x0_1 x1 = some r) :
    ACallT Try.prog 114 [(Value.agg #[v0_0, v0_1]), (Value.bool x1)] H (fun u G => AgB (Fr H) H G ∧ ∃ u0 : Value, ∃ C0 : List Value, u = u0 ∧ Sep G (Fr H) [rowsP u0 28 3 C0 r]) := by
  refine ACallT.of_body (nt := 37) (rs := [.tmp 4]) Try.func114 rfl rfl rfl rfl ?_
  have A0 : AgB (Fr H) H H := .refl _ _
  have S0 : Sep H (Fr H) [] := .nil
  have hB := Fr.up H
  unfold F_impl_Meander_pieces at hF
  refine DWp.seq ?_
  obtain ⟨G2, p4, q5, q6, a7, S1⟩ := S0.boxT (hB.le A0.1) 28 [v0_0, v0_1]
  have A3 := A0.ext (hB.le A0.1) a7
  replace S1 : Sep G2 (Fr H) [AL.box p4 [v0_0, v0_1]] := S1
  refine DWp.region fun K hK => ?_
  simp [-aBin', -aBin, -aBinI, -aUn, -aNil, -flatV, n_fn, b_add, b_sub, b_mul, b_lt, b_le, b_gt, b_ge, b_eq, b_ne, u_not, q5, q6, a7.to_pre, cells_agg]
  apply hK
  clear hK K
  simp only [andThen, leaves]
  refine DWp.seq ?_
  obtain ⟨v8, G9, q10, S11, a13, _, _⟩ := S1.litP0 (P := Try.prog) (t := 46) (hB.le A3.1) 3 el_46 ei_28 rfl
  have A12 := A3.ext (hB.le A3.1) a13
  replace S11 : Sep G9 (Fr H) [AL.box p4 [v0_0, v0_1], rowsP v8 28 3 [] (@List.nil (List Int × List Int))] := S11
  refine DWp.region fun K hK => ?_
  simp [-aBin', -aBin, -aBinI, -aUn, -aNil, -flatV, n_fn, b_add, b_sub, b_mul, b_lt, b_le, b_gt, b_ge, b_eq, b_ne, u_not, q10, a13.to_pre]
  apply hK
  clear hK K
  simp only [andThen, leaves]
  refine DWp.block ?_
  refine DLoop.wp (DLoop.step ?_)
  refine DWp.block ?_
  refine DWp.seq ?_
  have q14 := S11.loadAgg (P := Try.prog) (k := 0) rfl sz_28 ag_28 rfl
  obtain ⟨r1, hc15, hF⟩ := bd_some hF
  refine DWp.region fun K hK => ?_
  simp [-aBin', -aBin, -aBinI, -aUn, -aNil, -flatV, n_fn, b_add, b_sub, b_mul, b_lt, b_le, b_gt, b_ge, b_eq, b_ne, u_not, q14, ((hx0_0.agree A12.agree).tup), ((hx0_1.agree A12.agree).tup)]
  refine CallD.t (F_impl_Meander_shortest_w (fu := fu) (hx0_0.agree A12.agree) (hx0_1.agree A12.agree) hc15) ?_
  rintro c16_u0 G17 ⟨a20, _, rfl, S21, hn22⟩
  have A19 := A12.ext (hB.le A12.1) a20.agree
  have S18 : Sep G17 (Fr H) [AL.box p4 [v0_0, v0_1], rowsP v8 28 3 [] (@List.nil (List Int × List Int)), flat c16_u0 3 (ints r1)] := S11.app a20.agree S21 (fun _ h => h) (hB.le A12.1)
  simp [-aBin', -aBin, -aBinI, -aUn, -aNil, -flatV, n_fn, b_add, b_sub, b_mul, b_lt, b_le, b_gt, b_ge, b_eq, b_ne, u_not, q14, a20.pre]
  apply hK
  clear hK K
  simp only [andThen, leaves]
  refine DWp.seq ?_
  refine DWp.seq ?_
  refine DWp.region fun K hK => ?_
  simp [-aBin', -aBin, -aBinI, -aUn, -aNil, -flatV, n_fn, b_add, b_sub, b_mul, b_lt, b_le, b_gt, b_ge, b_eq, b_ne, u_not, nil_q us_22 (S18.sl (k := 2) rfl) hn22]
  apply hK
  clear hK K
  simp only [andThen, leaves]
  refine DWp.cond' (t := (lemp r1)) (by simp []) (fun hb23 => ?_) (fun hb23 => ?_)
  · replace hF := cd_t hb23 hF
    refine DWp.seq ?_
    have q24 := S18.loadAgg (P := Try.prog) (k := 0) rfl sz_28 ag_28 rfl
    obtain ⟨r2, hc26, hF⟩ := bd_some hF
    refine DWp.region fun K hK => ?_
    simp [-aBin', -aBin, -aBinI, -aUn, -aNil, -flatV, n_fn, b_add, b_sub, b_mul, b_lt, b_le, b_gt, b_ge, b_eq, b_ne, u_not, q24, ((hx0_0.agree A19.agree).tup), ((hx0_1.agree A19.agree).tup)]
    refine CallD.t (F_impl_Meander_kept_w (fu := fu) (hx0_0.agree A19.agree) (hx0_1.agree A19.agree) (fun G_ a_ y0 q_ hq_ => F_impl_Meander_pieces_1_w (fu := fu)  hq_) hc26) ?_
    rintro _ G28 ⟨a31, c27_u0, c27_u1, rfl, S32⟩
    have A30 := A19.ext (hB.le A19.1) a31.agree
    have S29 : Sep G28 (Fr H) [AL.box p4 [v0_0, v0_1], rowsP v8 28 3 [] (@List.nil (List Int × List Int)), flat c16_u0 3 (ints r1), flat c27_u0 3 (ints r2.1), flat c27_u1 3 (ints r2.2)] := S18.app a31.agree S32 (fun _ h => h) (hB.le A19.1)
    obtain ⟨v33, G34, q35, S36, a38, _, _⟩ := S29.litP1 (P := Try.prog) (t := 46) (hB.le A30.1) el_46 ei_28 rfl c27_u0 c27_u1
    have A37 := A30.ext (hB.le A30.1) a38
    replace S36 : Sep G34 (Fr H) [AL.box p4 [v0_0, v0_1], rowsP v8 28 3 [] (@List.nil (List Int × List Int)), flat c16_u0 3 (ints r1), flat c27_u0 3 (ints r2.1), flat c27_u1 3 (ints r2.2), flatK 2 v33 28 1 [c27_u0, c27_u1]] := S36
    obtain ⟨g39, hF⟩ := gd_some hF
    obtain ⟨v45, G40, q41, S42, a44, q41t, _⟩ := S36.pushP (u := v8) (X := (@List.nil (List Int × List Int))) (a := r2.1) (b := r2.2) (P := Try.prog) (t := 46) (t2 := 46) (j := 1) (k1 := 3) (k2 := 4) (by decide) (by decide) (by decide) rfl rfl rfl (hB.le A37.1) el_46 el_46 ei_28 rfl (S36.flatKSl (k := 5) rfl) g39
    have A43 := A37.trans a44
    replace S42 : Sep G40 (Fr H) [AL.box p4 [v0_0, v0_1], rowsP v45 28 3 ([] ++ [c27_u0, c27_u1]) (lapp (@List.nil (List Int × List Int)) [(r2.1, r2.2)]), flat c16_u0 3 (ints r1), emp, emp, flatK 2 v33 28 1 [c27_u0, c27_u1]] := S42
    simp [-aBin', -aBin, -aBinI, -aUn, -aNil, -flatV, n_fn, b_add, b_sub, b_mul, b_lt, b_le, b_gt, b_ge, b_eq, b_ne, u_not, q24, a31.pre, q35, a38.to_pre, ((S29.sl (k := 3) rfl).tup), ((S29.sl (k := 4) rfl).tup), q41, q41t]
    apply hK
    clear hK K
    simp only [andThen, leaves]
    refine DWp.ret ?_
    simp only [andThen, leaves]
    obtain rfl := Option.some.inj hF
    exact ⟨by simp, [v45], by simp [((S42.rdP (k := 1) rfl).tup)], A43, v45, ([] ++ [c27_u0, c27_u1]), rfl, S42.pick [1] (by decide) rfl⟩
  · replace hF := cd_f hb23 hF
    refine DWp.skip ?_
    simp only [andThen, leaves]
    refine DWp.seq ?_
    have q46 := S18.loadAgg (P := Try.prog) (k := 0) rfl sz_28 ag_28 rfl
    obtain ⟨g47, hF⟩ := gd_some hF
    have q48 := idxG (P := Try.prog) (kk := .i64) (S18.sl (k := 2) rfl) el_22 sz_3 g47
    replace q48 : aIndexAddr Try.prog G17 22 c16_u0 (Value.int .i64 0) = some (elP c16_u0 0) := q48
    have q49 := loadG (P := Try.prog) (S18.sl (k := 2) rfl) sz_3 ag_3 g47 0
    replace q49 : aLoad Try.prog G17 3 (elP c16_u0 0) = some (Value.int .i64 (gat 0 r1 0)) := q49
    obtain ⟨g50, hF⟩ := gd_some hF
    have q51 := idxG (P := Try.prog) (kk := .i64) (S18.sl (k := 2) rfl) el_22 sz_3 g50
    replace q51 : aIndexAddr Try.prog G17 22 c16_u0 (Value.int .i64 1) = some (elP c16_u0 1) := q51
    have q52 := loadG (P := Try.prog) (S18.sl (k := 2) rfl) sz_3 ag_3 g50 0
    replace q52 : aLoad Try.prog G17 3 (elP c16_u0 1) = some (Value.int .i64 (gat 0 r1 1)) := q52
    obtain ⟨r3, hc53, hF⟩ := bd_some hF
    refine DWp.drawn (B := [0, 0, 0, 4, 12, 0, 32, 96, 254, 510, 1023, 2047]) 10 mixed (by kernel_rfl) (by decide) fun K hK => ?_
    simp [-aBin', -aBin, -aBinI, -aUn, -aNil, -flatV, n_fn, b_add, b_sub, b_mul, b_lt, b_le, b_gt, b_ge, b_eq, b_ne, u_not, q46, q48, q49, q51, q52, ((hx0_0.agree A19.agree).tup), ((hx0_1.agree A19.agree).tup)]
    refine CallD.t (F_impl_Meander_inside_w (fu := fu) (hx0_0.agree A19.agree) (hx0_1.agree A19.agree) hc53) ?_
    rintro _ G55 ⟨a58, c54_u0, c54_u1, rfl, S59⟩
    have A57 := A19.ext (hB.le A19.1) a58.agree
    have S56 : Sep G55 (Fr H) [AL.box p4 [v0_0, v0_1], rowsP v8 28 3 [] (@List.nil (List Int × List Int)), flat c16_u0 3 (ints r1), flat c54_u0 3 (ints r3.1), flat c54_u1 3 (ints r3.2)] := S18.app a58.agree S59 (fun _ h => h) (hB.le A19.1)
    obtain ⟨v60, G61, q62, S63, a65, _, _⟩ := S56.litP1 (P := Try.prog) (t := 46) (hB.le A57.1) el_46 ei_28 rfl c54_u0 c54_u1
    have A64 := A57.ext (hB.le A57.1) a65
    replace S63 : Sep G61 (Fr H) [AL.box p4 [v0_0, v0_1], rowsP v8 28 3 [] (@List.nil (List Int × List Int)), flat c16_u0 3 (ints r1), flat c54_u0 3 (ints r3.1), flat c54_u1 3 (ints r3.2), flatK 2 v60 28 1 [c54_u0, c54_u1]] := S63
    obtain ⟨g66, hF⟩ := gd_some hF
    obtain ⟨v72, G67, q68, S69, a71, q68t, _⟩ := S63.pushP (u := v8) (X := (@List.nil (List Int × List Int))) (a := r3.1) (b := r3.2) (P := Try.prog) (t := 46) (t2 := 46) (j := 1) (k1 := 3) (k2 := 4) (by decide) (by decide) (by decide) rfl rfl rfl (hB.le A64.1) el_46 el_46 ei_28 rfl (S63.flatKSl (k := 5) rfl) g66
    have A70 := A64.trans a71
    replace S69 : Sep G67 (Fr H) [AL.box p4 [v0_0, v0_1], rowsP v72 28 3 ([] ++ [c54_u0, c54_u1]) (lapp (@List.nil (List Int × List Int)) [(r3.1, r3.2)]), flat c16_u0 3 (ints r1), emp, emp, flatK 2 v60 28 1 [c54_u0, c54_u1]] := S69
    simp [-aBin', -aBin, -aBinI, -aUn, -aNil, -flatV, n_fn, b_add, b_sub, b_mul, b_lt, b_le, b_gt, b_ge, b_eq, b_ne, u_not, q46, q48, q49, q51, q52, a58.pre, q62, a65.to_pre, ((S56.sl (k := 3) rfl).tup), ((S56.sl (k := 4) rfl).tup), q68, q68t]
    apply hK
    clear hK K
    simp only [andThen, leaves]
    have q73 := S69.loadAgg (P := Try.prog) (k := 0) rfl sz_28 ag_28 rfl
    obtain ⟨g74, hF⟩ := gd_some hF
    have q75 := idxG (P := Try.prog) (kk := .i64) (S69.sl (k := 2) rfl) el_22 sz_3 g74
    replace q75 : aIndexAddr Try.prog G67 22 c16_u0 (Value.int .i64 0) = some (elP c16_u0 0) := q75
    have q76 := loadG (P := Try.prog) (S69.sl (k := 2) rfl) sz_3 ag_3 g74 0
    replace q76 : aLoad Try.prog G67 3 (elP c16_u0 0) = some (Value.int .i64 (gat 0 r1 0)) := q76
    obtain ⟨g77, hF⟩ := gd_some hF
    have q78 := idxG (P := Try.prog) (kk := .i64) (S69.sl (k := 2) rfl) el_22 sz_3 g77
    replace q78 : aIndexAddr Try.prog G67 22 c16_u0 (Value.int .i64 1) = some (elP c16_u0 1) := q78
    have q79 := loadG (P := Try.prog) (S69.sl (k := 2) rfl) sz_3 ag_3 g77 0
    replace q79 : aLoad Try.prog G67 3 (elP c16_u0 1) = some (Value.int .i64 (gat 0 r1 1)) := q79
    obtain ⟨r4, hc80, hF⟩ := bd_some hF
    refine DWp.drawn (B := [0, 0, 2, 6, 0, 16, 48, 127, 255]) 8 mixed (by kernel_rfl) (by decide) fun K hK => ?_
    simp [-aBin', -aBin, -aBinI, -aUn, -aNil, -flatV, n_fn, b_add, b_sub, b_mul, b_lt, b_le, b_gt, b_ge, b_eq, b_ne, u_not, q73, q75, q76, q78, q79, ((hx0_0.agree A70.agree).tup), ((hx0_1.agree A70.agree).tup)]
    refine CallD.t (F_impl_Meander_outside_w (fu := fu) (hx0_0.agree A70.agree) (hx0_1.agree A70.agree) hc80) ?_
    rintro _ G82 ⟨a85, c81_u0, c81_u1, rfl, S86⟩
    have A84 := A70.ext (hB.le A70.1) a85.agree
    have S83 : Sep G82 (Fr H) [AL.box p4 [v0_0, v0_1], rowsP v72 28 3 ([] ++ [c54_u0, c54_u1]) (lapp (@List.nil (List Int × List Int)) [(r3.1, r3.2)]), flat c16_u0 3 (ints r1), emp, emp, flatK 2 v60 28 1 [c54_u0, c54_u1], flat c81_u0 3 (ints r4.1), flat c81_u1 3 (ints r4.2)] := S69.app a85.agree S86 (fun _ h => h) (hB.le A70.1)
    obtain ⟨G87, q88, S89, a91⟩ := S83.putAgg (P := Try.prog) (k := 0) (xs := [c81_u0, c81_u1]) rfl (hB.le A84.1) sz_28 rfl rfl
    have A90 := A84.trans a91
    replace S89 : Sep G87 (Fr H) [AL.box p4 [c81_u0, c81_u1], rowsP v72 28 3 ([] ++ [c54_u0, c54_u1]) (lapp (@List.nil (List Int × List Int)) [(r3.1, r3.2)]), flat c16_u0 3 (ints r1), emp, emp, flatK 2 v60 28 1 [c54_u0, c54_u1], flat c81_u0 3 (ints r4.1), flat c81_u1 3 (ints r4.2)] := S89
    simp [-aBin', -aBin, -aBinI, -aUn, -aNil, -flatV, n_fn, b_add, b_sub, b_mul, b_lt, b_le, b_gt, b_ge, b_eq, b_ne, u_not, q73, q75, q76, q78, q79, a85.pre, q88]
    apply hK
    clear hK K
    simp only [andThen, leaves]
    obtain ⟨s92, hL93, hF⟩ := bd_some hF
    have S94 := S89.pick [0, 6, 7, 1] (by decide) rfl
    refine DLoop.of (fun n env G => ∃ l1_1 : List Int, ∃ l1_2 : List Int, ∃ l1_3 : List (List Int × List Int), ∃ w1_1 : Value, ∃ w1_2 : Value, ∃ w1_3 : Value, ∃ D1_3 : List Value, F_impl_Meander_pieces_L1 fu x1 n l1_1 l1_2 l1_3 = some s92 ∧ Sep G (Fr H) [AL.box p4 [w1_1, w1_2], flat w1_1 3 (ints l1_1), flat w1_2 3 (ints l1_2), rowsP w1_3 28 3 D1_3 l1_3] ∧ AgB (Fr H) H G ∧ env 1 = some (Value.bool x1) ∧ env 2 = some p4 ∧ env 5 = some w1_3) fu ⟨r4.1, r4.2, (lapp (@List.nil (List Int × List Int)) [(r3.1, r3.2)]), c81_u0, c81_u1, v72, ([] ++ [c54_u0, c54_u1]), hL93, S94, A90, by simp [], by simp [], by simp []⟩ ?_
    rintro n1 env1 G1_ ⟨l1_1, l1_2, l1_3, w1_1, w1_2, w1_3, D1_3, hL93, S1_, A1_, e1_1, e1_2, e1_5⟩
    cases n1 with
    | zero => cases hL93
    | succ n1 =>
      simp only [F_impl_Meander_pieces_L1] at hL93
      refine DWp.block ?_
      refine DWp.seq ?_
      have q95 := S1_.loadAgg (P := Try.prog) (k := 0) rfl sz_28 ag_28 rfl
      obtain ⟨r5, hc96, hL93⟩ := bd_some hL93
      refine DWp.region fun K hK => ?_
      simp [-aBin', -aBin, -aBinI, -aUn, -aNil, -flatV, n_fn, b_add, b_sub, b_mul, b_lt, b_le, b_gt, b_ge, b_eq, b_ne, u_not, e1_1, e1_2, e1_5, q95, ((S1_.sl (k := 1) rfl).tup), ((S1_.sl (k := 2) rfl).tup)]
      refine CallD.t (F_impl_Meander_shortest_w (fu := fu) (S1_.sl (k := 1) rfl) (S1_.sl (k := 2) rfl) hc96) ?_
      rintro c97_u0 G98 ⟨a101, _, rfl, S102, hn103⟩
      have A100 := A1_.ext (hB.le A1_.1) a101.agree
      have S99 : Sep G98 (Fr H) [AL.box p4 [w1_1, w1_2], flat w1_1 3 (ints l1_1), flat w1_2 3 (ints l1_2), rowsP w1_3 28 3 D1_3 l1_3, flat c97_u0 3 (ints r5)] := S1_.app a101.agree S102 (fun _ h => h) (hB.le A1_.1)
      simp [-aBin', -aBin, -aBinI, -aUn, -aNil, -flatV, n_fn, b_add, b_sub, b_mul, b_lt, b_le, b_gt, b_ge, b_eq, b_ne, u_not, e1_1, e1_2, e1_5, q95, a101.pre]
      apply hK
      clear hK K
      simp only [andThen, leaves]
      refine DWp.seq ?_
      refine DWp.seq ?_
      refine DWp.region fun K hK => ?_
      simp [-aBin', -aBin, -aBinI, -aUn, -aNil, -flatV, n_fn, b_add, b_sub, b_mul, b_lt, b_le, b_gt, b_ge, b_eq, b_ne, u_not, e1_1, e1_2, e1_5, nil_q us_22 (S99.sl (k := 4) rfl) hn103]
      apply hK
      clear hK K
      simp only [andThen, leaves]
      refine DWp.cond' (t := (lemp r5)) (by simp [e1_1, e1_2, e1_5]) (fun hb104 => ?_) (fun hb104 => ?_)
      · replace hL93 := cd_t hb104 hL93
        refine DWp.seq ?_
        have q105 := S99.loadAgg (P := Try.prog) (k := 0) rfl sz_28 ag_28 rfl
        obtain ⟨r6, hc107, hL93⟩ := bd_some hL93
        refine DWp.region fun K hK => ?_
        simp [-aBin', -aBin, -aBinI, -aUn, -aNil, -flatV, n_fn, b_add, b_sub, b_mul, b_lt, b_le, b_gt, b_ge, b_eq, b_ne, u_not, e1_1, e1_2, e1_5, q105, ((S99.sl (k := 1) rfl).tup), ((S99.sl (k := 2) rfl).tup)]
        refine CallD.t (F_impl_Meander_kept_w (fu := fu) (S99.sl (k := 1) rfl) (S99.sl (k := 2) rfl) (fun G_ a_ y0 q_ hq_ => F_impl_Meander_pieces_1_w (fu := fu)  hq_) hc107) ?_
        rintro _ G109 ⟨a112, c108_u0, c108_u1, rfl, S113⟩
        have A111 := A100.ext (hB.le A100.1) a112.agree
        have S110 : Sep G109 (Fr H) [AL.box p4 [w1_1, w1_2], flat w1_1 3 (ints l1_1), flat w1_2 3 (ints l1_2), rowsP w1_3 28 3 D1_3 l1_3, flat c97_u0 3 (ints r5), flat c108_u0 3 (ints r6.1), flat c108_u1 3 (ints r6.2)] := S99.app a112.agree S113 (fun _ h => h) (hB.le A100.1)
        obtain ⟨v114, G115, q116, S117, a119, _, _⟩ := S110.litP1 (P := Try.prog) (t := 46) (hB.le A111.1) el_46 ei_28 rfl c108_u0 c108_u1
        have A118 := A111.ext (hB.le A111.1) a119
        replace S117 : Sep G115 (Fr H) [AL.box p4 [w1_1, w1_2], flat w1_1 3 (ints l1_1), flat w1_2 3 (ints l1_2), rowsP w1_3 28 3 D1_3 l1_3, flat c97_u0 3 (ints r5), flat c108_u0 3 (ints r6.1), flat c108_u1 3 (ints r6.2), flatK 2 v114 28 1 [c108_u0, c108_u1]] := S117
        obtain ⟨g120, hL93⟩ := gd_some hL93
        obtain ⟨v126, G121, q122, S123, a125, q122t, _⟩ := S117.pushP (u := w1_3) (X := l1_3) (a := r6.1) (b := r6.2) (P := Try.prog) (t := 46) (t2 := 46) (j := 3) (k1 := 5) (k2 := 6) (by decide) (by decide) (by decide) rfl rfl rfl (hB.le A118.1) el_46 el_46 ei_28 rfl (S117.flatKSl (k := 7) rfl) g120
        have A124 := A118.trans a125
        replace S123 : Sep G121 (Fr H) [AL.box p4 [w1_1, w1_2], flat w1_1 3 (ints l1_1), flat w1_2 3 (ints l1_2), rowsP v126 28 3 (D1_3 ++ [c108_u0, c108_u1]) (lapp l1_3 [(r6.1, r6.2)]), flat c97_u0 3 (ints r5), emp, emp, flatK 2 v114 28 1 [c108_u0, c108_u1]] := S123
        simp [-aBin', -aBin, -aBinI, -aUn, -aNil, -flatV, n_fn, b_add, b_sub, b_mul, b_lt, b_le, b_gt, b_ge, b_eq, b_ne, u_not, e1_1, e1_2, e1_5, q105, a112.pre, q116, a119.to_pre, ((S110.sl (k := 5) rfl).tup), ((S110.sl (k := 6) rfl).tup), q122, q122t]
        apply hK
        clear hK K
        simp only [andThen, leaves]
        refine DWp.ret ?_
        simp only [andThen, leaves]
        obtain rfl := Option.some.inj hL93
        simp only [lr] at hF
        obtain rfl := Option.some.inj hF
        exact ⟨by simp, [v126], by simp [e1_1, e1_2, e1_5, ((S123.rdP (k := 3) rfl).tup)], A124, v126, (D1_3 ++ [c108_u0, c108_u1]), rfl, S123.pick [3] (by decide) rfl⟩
      · replace hL93 := cd_f hb104 hL93
        refine DWp.skip ?_
        simp only [andThen, leaves]
        refine DWp.seq ?_
        have q127 := S99.loadAgg (P := Try.prog) (k := 0) rfl sz_28 ag_28 rfl
        obtain ⟨g128, hL93⟩ := gd_some hL93
        have q129 := idxG (P := Try.prog) (kk := .i64) (S99.sl (k := 4) rfl) el_22 sz_3 g128
        replace q129 : aIndexAddr Try.prog G98 22 c97_u0 (Value.int .i64 0) = some (elP c97_u0 0) := q129
        have q130 := loadG (P := Try.prog) (S99.sl (k := 4) rfl) sz_3 ag_3 g128 0
        replace q130 : aLoad Try.prog G98 3 (elP c97_u0 0) = some (Value.int .i64 (gat 0 r5 0)) := q130
        obtain ⟨g131, hL93⟩ := gd_some hL93
        have q132 := idxG (P := Try.prog) (kk := .i64) (S99.sl (k := 4) rfl) el_22 sz_3 g131
        replace q132 : aIndexAddr Try.prog G98 22 c97_u0 (Value.int .i64 1) = some (elP c97_u0 1) := q132
        have q133 := loadG (P := Try.prog) (S99.sl (k := 4) rfl) sz_3 ag_3 g131 0
        replace q133 : aLoad Try.prog G98 3 (elP c97_u0 1) = some (Value.int .i64 (gat 0 r5 1)) := q133
        obtain ⟨r7, hc134, hL93⟩ := bd_some hL93
        refine DWp.drawn (B := [0, 0, 0, 4, 12, 0, 32, 96, 254, 510, 1023, 2047]) 10 mixed (by kernel_rfl) (by decide) fun K hK => ?_
        simp [-aBin', -aBin, -aBinI, -aUn, -aNil, -flatV, n_fn, b_add, b_sub, b_mul, b_lt, b_le, b_gt, b_ge, b_eq, b_ne, u_not, e1_1, e1_2, e1_5, q127, q129, q130, q132, q133, ((S99.sl (k := 1) rfl).tup), ((S99.sl (k := 2) rfl).tup)]
        refine CallD.t (F_impl_Meander_inside_w (fu := fu) (S99.sl (k := 1) rfl) (S99.sl (k := 2) rfl) hc134) ?_
        rintro _ G136 ⟨a139, c135_u0, c135_u1, rfl, S140⟩
        have A138 := A100.ext (hB.le A100.1) a139.agree
        have S137 : Sep G136 (Fr H) [AL.box p4 [w1_1, w1_2], flat w1_1 3 (ints l1_1), flat w1_2 3 (ints l1_2), rowsP w1_3 28 3 D1_3 l1_3, flat c97_u0 3 (ints r5), flat c135_u0 3 (ints r7.1), flat c135_u1 3 (ints r7.2)] := S99.app a139.agree S140 (fun _ h => h) (hB.le A100.1)
        obtain ⟨v141, G142, q143, S144, a146, _, _⟩ := S137.litP1 (P := Try.prog) (t := 46) (hB.le A138.1) el_46 ei_28 rfl c135_u0 c135_u1
        have A145 := A138.ext (hB.le A138.1) a146
        replace S144 : Sep G142 (Fr H) [AL.box p4 [w1_1, w1_2], flat w1_1 3 (ints l1_1), flat w1_2 3 (ints l1_2), rowsP w1_3 28 3 D1_3 l1_3, flat c97_u0 3 (ints r5), flat c135_u0 3 (ints r7.1), flat c135_u1 3 (ints r7.2), flatK 2 v141 28 1 [c135_u0, c135_u1]] := S144
        obtain ⟨g147, hL93⟩ := gd_some hL93
        obtain ⟨v153, G148, q149, S150, a152, q149t, _⟩ := S144.pushP (u := w1_3) (X := l1_3) (a := r7.1) (b := r7.2) (P := Try.prog) (t := 46) (t2 := 46) (j := 3) (k1 := 5) (k2 := 6) (by decide) (by decide) (by decide) rfl rfl rfl (hB.le A145.1) el_46 el_46 ei_28 rfl (S144.flatKSl (k := 7) rfl) g147
        have A151 := A145.trans a152
        replace S150 : Sep G148 (Fr H) [AL.box p4 [w1_1, w1_2], flat w1_1 3 (ints l1_1), flat w1_2 3 (ints l1_2), rowsP v153 28 3 (D1_3 ++ [c135_u0, c135_u1]) (lapp l1_3 [(r7.1, r7.2)]), flat c97_u0 3 (ints r5), emp, emp, flatK 2 v141 28 1 [c135_u0, c135_u1]] := S150
        simp [-aBin', -aBin, -aBinI, -aUn, -aNil, -flatV, n_fn, b_add, b_sub, b_mul, b_lt, b_le, b_gt, b_ge, b_eq, b_ne, u_not, e1_1, e1_2, e1_5, q127, q129, q130, q132, q133, a139.pre, q143, a146.to_pre, ((S137.sl (k := 5) rfl).tup), ((S137.sl (k := 6) rfl).tup), q149, q149t]
        apply hK
        clear hK K
        simp only [andThen, leaves]
        have q154 := S150.loadAgg (P := Try.prog) (k := 0) rfl sz_28 ag_28 rfl
        obtain ⟨g155, hL93⟩ := gd_some hL93
        have q156 := idxG (P := Try.prog) (kk := .i64) (S150.sl (k := 4) rfl) el_22 sz_3 g155
        replace q156 : aIndexAddr Try.prog G148 22 c97_u0 (Value.int .i64 0) = some (elP c97_u0 0) := q156
        have q157 := loadG (P := Try.prog) (S150.sl (k := 4) rfl) sz_3 ag_3 g155 0
        replace q157 : aLoad Try.prog G148 3 (elP c97_u0 0) = some (Value.int .i64 (gat 0 r5 0)) := q157
        obtain ⟨g158, hL93⟩ := gd_some hL93
        have q159 := idxG (P := Try.prog) (kk := .i64) (S150.sl (k := 4) rfl) el_22 sz_3 g158
        replace q159 : aIndexAddr Try.prog G148 22 c97_u0 (Value.int .i64 1) = some (elP c97_u0 1) := q159
        have q160 := loadG (P := Try.prog) (S150.sl (k := 4) rfl) sz_3 ag_3 g158 0
        replace q160 : aLoad Try.prog G148 3 (elP c97_u0 1) = some (Value.int .i64 (gat 0 r5 1)) := q160
        obtain ⟨r8, hc161, hL93⟩ := bd_some hL93
        refine DWp.drawn (B := [0, 0, 2, 6, 0, 16, 48, 127, 255]) 8 mixed (by kernel_rfl) (by decide) fun K hK => ?_
        simp [-aBin', -aBin, -aBinI, -aUn, -aNil, -flatV, n_fn, b_add, b_sub, b_mul, b_lt, b_le, b_gt, b_ge, b_eq, b_ne, u_not, e1_1, e1_2, e1_5, q154, q156, q157, q159, q160, ((S150.sl (k := 1) rfl).tup), ((S150.sl (k := 2) rfl).tup)]
        refine CallD.t (F_impl_Meander_outside_w (fu := fu) (S150.sl (k := 1) rfl) (S150.sl (k := 2) rfl) hc161) ?_
        rintro _ G163 ⟨a166, c162_u0, c162_u1, rfl, S167⟩
        have A165 := A151.ext (hB.le A151.1) a166.agree
        have S164 : Sep G163 (Fr H) [AL.box p4 [w1_1, w1_2], flat w1_1 3 (ints l1_1), flat w1_2 3 (ints l1_2), rowsP v153 28 3 (D1_3 ++ [c135_u0, c135_u1]) (lapp l1_3 [(r7.1, r7.2)]), flat c97_u0 3 (ints r5), emp, emp, flatK 2 v141 28 1 [c135_u0, c135_u1], flat c162_u0 3 (ints r8.1), flat c162_u1 3 (ints r8.2)] := S150.app a166.agree S167 (fun _ h => h) (hB.le A151.1)
        obtain ⟨G168, q169, S170, a172⟩ := S164.putAgg (P := Try.prog) (k := 0) (xs := [c162_u0, c162_u1]) rfl (hB.le A165.1) sz_28 rfl rfl
        have A171 := A165.trans a172
        replace S170 : Sep G168 (Fr H) [AL.box p4 [c162_u0, c162_u1], flat w1_1 3 (ints l1_1), flat w1_2 3 (ints l1_2), rowsP v153 28 3 (D1_3 ++ [c135_u0, c135_u1]) (lapp l1_3 [(r7.1, r7.2)]), flat c97_u0 3 (ints r5), emp, emp, flatK 2 v141 28 1 [c135_u0, c135_u1], flat c162_u0 3 (ints r8.1), flat c162_u1 3 (ints r8.2)] := S170
        simp [-aBin', -aBin, -aBinI, -aUn, -aNil, -flatV, n_fn, b_add, b_sub, b_mul, b_lt, b_le, b_gt, b_ge, b_eq, b_ne, u_not, e1_1, e1_2, e1_5, q154, q156, q157, q159, q160, a166.pre, q169]
        apply hK
        clear hK K
        simp only [andThen, leaves]
        have S173 := S170.pick [0, 8, 9, 3] (by decide) rfl
        exact ⟨n1, Nat.lt_succ_self _, r8.1, r8.2, (lapp l1_3 [(r7.1, r7.2)]), c162_u0, c162_u1, v153, (D1_3 ++ [c135_u0, c135_u1]), hL93, S173, A171, by simp [e1_1, e1_2, e1_5], by simp [e1_1, e1_2, e1_5], by simp [e1_1, e1_2, e1_5]⟩
def F_laws_eqIntS_L1 (fu : Nat) (k1_0 : List Int) (k1_1 : List Int) : Nat → Int → Option (LR (Bool) (Int))
  | 0, _ => none
  | n + 1, y1_5 =>
    bif (ilt y1_5 (llen k1_0)) then
      gd (inL k1_0 y1_5) (
      gd (inL k1_1 y1_5) (
      bif (ine (gat 0 k1_0 y1_5) (gat 0 k1_1 y1_5)) then
        some (.ret false)
      else
        F_laws_eqIntS_L1 fu k1_0 k1_1 n (iadd .i64 y1_5 1)))
    else
      some (.brk y1_5)
def F_laws_eqIntS (fu : Nat) (x0 : List Int) (x1 : List Int) : Option (Bool) :=
  bif (ine (llen x0) (llen x1)) then
    some false
  else
    bd (F_laws_eqIntS_L1 fu x0 x1 fu 0) fun s1 =>
    lr s1 fun s1 =>
    some true
theorem F_laws_eqIntS_w {fu : Nat} {H : AH} {v0 : Value} {v1 : Value} {x0 : List Int} {x1 : List Int} {r : (Bool)} (hx0 : Sl H v0 (ints x0)) (hx1 : Sl H v1 (ints x1)) (hF : F_laws_eqIntS fu x0 x1 = some r) :
    ACallT Try.prog 60 [v0, v1] H (fun u G => AgB (Fr H) H G ∧ u = (Value.bool r) ∧ Sep G (Fr H) []) := by
  refine ACallT.of_body (nt := 26) (rs := [.tmp 4]) Try.func60 rfl rfl rfl rfl ?_
  have A0 : AgB (Fr H) H H := .refl _ _
  have S0 : Sep H (Fr H) [] := .nil
  have hB := Fr.up H
  unfold F_laws_eqIntS at hF
  refine DWp.seq ?_
  refine DWp.region fun K hK => ?_
  simp [-aBin', -aBin, -aBinI, -aUn, -aNil, -flatV, n_fn, b_add, b_sub, b_mul, b_lt, b_le, b_gt, b_ge, b_eq, b_ne, u_not]
  apply hK
  clear hK K
  simp only [andThen, leaves]
  refine DWp.seq ?_
  refine DWp.seq ?_
  have q1 := lenG (P := Try.prog) (hx0.agree A0.agree) el_22
  have q2 := lenG (P := Try.prog) (hx1.agree A0.agree) el_22
  refine DWp.region fun K hK => ?_
  simp [-aBin', -aBin, -aBinI, -aUn, -aNil, -flatV, n_fn, b_add, b_sub, b_mul, b_lt, b_le, b_gt, b_ge, b_eq, b_ne, u_not, q1, q2]
  apply hK
  clear hK K
  simp only [andThen, leaves]
  refine DWp.cond' (t := (ine (llen x0) (llen x1))) (by simp []) (fun hb3 => ?_) (fun hb3 => ?_)
  · replace hF := cd_t hb3 hF
    refine DWp.seq ?_
    refine DWp.region fun K hK => ?_
    simp [-aBin', -aBin, -aBinI, -aUn, -aNil, -flatV, n_fn, b_add, b_sub, b_mul, b_lt, b_le, b_gt, b_ge, b_eq, b_ne, u_not]
    apply hK
    clear hK K
    simp only [andThen, leaves]
    refine DWp.ret ?_
    simp only [andThen, leaves]
    obtain rfl := Option.some.inj hF
    exact ⟨by simp, [(Value.bool false)], by simp [], A0, rfl, S0.pick [] (by decide) rfl⟩
  · replace hF := cd_f hb3 hF
    refine DWp.skip ?_
    simp only [andThen, leaves]
    refine DWp.seq ?_
    refine DWp.seq ?_
    refine DWp.region fun K hK => ?_
    simp [-aBin', -aBin, -aBinI, -aUn, -aNil, -flatV, n_fn, b_add, b_sub, b_mul, b_lt, b_le, b_gt, b_ge, b_eq, b_ne, u_not]
    apply hK
    clear hK K
    simp only [andThen, leaves]
    refine DWp.block ?_
    obtain ⟨s4, hL5, hF⟩ := bd_some hF
    have S6 := S0.pick [] (by decide) rfl
    refine DWp.loop (fun n env G => ∃ y1_5 : Int, F_laws_eqIntS_L1 fu x0 x1 n y1_5 = some s4 ∧ Sep G (Fr H) [] ∧ AgB (Fr H) H G ∧ env 0 = some v0 ∧ env 1 = some v1 ∧ env 5 = some (Value.int .i64 y1_5)) fu ⟨0, hL5, S6, A0, by simp [], by simp [], by simp []⟩ ?_
    rintro n1 env1 G1_ ⟨y1_5, hL5, S1_, A1_, e1_0, e1_1, e1_5⟩
    cases n1 with
    | zero => cases hL5
    | succ n1 =>
      simp only [F_laws_eqIntS_L1] at hL5
      refine DWp.seq ?_
      refine DWp.seq ?_
      have q7 := lenG (P := Try.prog) (hx0.agree A1_.agree) el_22
      refine DWp.region fun K hK => ?_
      simp [-aBin', -aBin, -aBinI, -aUn, -aNil, -flatV, n_fn, b_add, b_sub, b_mul, b_lt, b_le, b_gt, b_ge, b_eq, b_ne, u_not, e1_0, e1_1, e1_5, q7]
      apply hK
      clear hK K
      simp only [andThen, leaves]
      refine DWp.cond' (t := (ilt y1_5 (llen x0))) (by simp [e1_0, e1_1, e1_5]) (fun hb8 => ?_) (fun hb8 => ?_)
      · replace hL5 := cd_t hb8 hL5
        refine DWp.skip ?_
        simp only [andThen, leaves]
        refine DWp.seq ?_
        refine DWp.block ?_
        refine DWp.seq ?_
        obtain ⟨g9, hL5⟩ := gd_some hL5
        have q10 := idxG (P := Try.prog) (kk := .i64) (hx0.agree A1_.agree) el_22 sz_3 g9
        have q11 := loadG (P := Try.prog) (hx0.agree A1_.agree) sz_3 ag_3 g9 0
        obtain ⟨g12, hL5⟩ := gd_some hL5
        have q13 := idxG (P := Try.prog) (kk := .i64) (hx1.agree A1_.agree) el_22 sz_3 g12
        have q14 := loadG (P := Try.prog) (hx1.agree A1_.agree) sz_3 ag_3 g12 0
        refine DWp.drawn (B := [0, 0, 3, 7, 0, 0, 48, 112, 255]) 9 mixed (by kernel_rfl) (by decide) fun K hK => ?_
        simp [-aBin', -aBin, -aBinI, -aUn, -aNil, -flatV, n_fn, b_add, b_sub, b_mul, b_lt, b_le, b_gt, b_ge, b_eq, b_ne, u_not, e1_0, e1_1, e1_5, q10, q11, q13, q14]
        apply hK
        clear hK K
        simp only [andThen, leaves]
        refine DWp.cond' (t := (ine (gat 0 x0 y1_5) (gat 0 x1 y1_5))) (by simp [e1_0, e1_1, e1_5]) (fun hb15 => ?_) (fun hb15 => ?_)
        · replace hL5 := cd_t hb15 hL5
          refine DWp.seq ?_
          refine DWp.region fun K hK => ?_
          simp [-aBin', -aBin, -aBinI, -aUn, -aNil, -flatV, n_fn, b_add, b_sub, b_mul, b_lt, b_le, b_gt, b_ge, b_eq, b_ne, u_not, e1_0, e1_1, e1_5]
          apply hK
          clear hK K
          simp only [andThen, leaves]
          refine DWp.ret ?_
          simp only [andThen, leaves]
          obtain rfl := Option.some.inj hL5
          simp only [lr] at hF
          obtain rfl := Option.some.inj hF
          exact ⟨by simp, [(Value.bool false)], by simp [e1_0, e1_1, e1_5], A1_, rfl, S1_.pick [] (by decide) rfl⟩
        · replace hL5 := cd_f hb15 hL5
          refine DWp.skip ?_
          simp only [andThen, leaves]
          refine DWp.region fun K hK => ?_
          simp [-aBin', -aBin, -aBinI, -aUn, -aNil, -flatV, n_fn, b_add, b_sub, b_mul, b_lt, b_le, b_gt, b_ge, b_eq, b_ne, u_not, e1_0, e1_1, e1_5]
          apply hK
          clear hK K
          simp only [andThen, leaves]
          have S16 := S1_.pick [] (by decide) rfl
          exact ⟨n1, Nat.lt_succ_self _, (iadd .i64 y1_5 1), hL5, S16, A1_, by simp [e1_0, e1_1, e1_5], by simp [e1_0, e1_1, e1_5], by simp [e1_0, e1_1, e1_5]⟩
      · replace hL5 := cd_f hb8 hL5
        refine DWp.exit ?_
        simp only [andThen, leaves, if_true, if_false, reduceIte, Nat.reduceEqDiff]
        obtain rfl := Option.some.inj hL5
        simp only [lr] at hF
        refine DWp.seq ?_
        refine DWp.region fun K hK => ?_
        simp [-aBin', -aBin, -aBinI, -aUn, -aNil, -flatV, n_fn, b_add, b_sub, b_mul, b_lt, b_le, b_gt, b_ge, b_eq, b_ne, u_not, e1_0, e1_1, e1_5]
        apply hK
        clear hK K
        simp only [andThen, leaves]
        refine DWp.ret ?_
        obtain rfl := Option.some.inj hF
        exact ⟨by simp, [(Value.bool true)], by simp [e1_0, e1_1, e1_5], A1_, rfl, S1_.pick [] (by decide) rfl⟩
def F_laws_eqMeander (fu : Nat) (x0_0 : List Int) (x0_1 : List Int) (x1_0 : List Int) (x1_1 : List Int) : Option (Bool) :=
  bd (F_laws_eqIntS fu x0_0 x1_0) fun r1 =>
  bif (bnot r1) then
    some false
  else
    bd (F_laws_eqIntS fu x0_1 x1_1) fun r2 =>
    bif (bnot r2) then
      some false
    else
      some true
theorem F_laws_eqMeander_w {fu : Nat} {H : AH} {v0_0 : Value} {v0_1 : Value} {v1_0 : Value} {v1_1 : Value} {x0_0 : List Int} {x0_1 : List Int} {x1_0 : List Int} {x1_1 : List Int} {r : (Bool)} (hx0_0 : Sl H v0_0 (ints x0_0)) (hx0_1 : Sl H v0_1 (ints x0_1)) (hx1_0 : Sl H v1_0 (ints x1_0)) (hx1_1 : Sl H v1_1 (ints x1_1)) (hF : F_laws_eqMeander fu x0_0 x0_1 x1_0 x1_1 = some r) :
    ACallT Try.prog 25 [(Value.agg #[v0_0, v0_1]), (Value.agg #[v1_0, v1_1])] H (fun u G => AgB (Fr H) H G ∧ u = (Value.bool r) ∧ Sep G (Fr H) []) := by
  refine ACallT.of_body (nt := 17) (rs := [.tmp 4]) Try.func25 rfl rfl rfl rfl ?_
  have A0 : AgB (Fr H) H H := .refl _ _
  have S0 : Sep H (Fr H) [] := .nil
  have hB := Fr.up H
  unfold F_laws_eqMeander at hF
  refine DWp.seq ?_
  obtain ⟨G2, p4, q5, q6, a7, S1⟩ := S0.boxT (hB.le A0.1) 28 [v0_0, v0_1]
  have A3 := A0.ext (hB.le A0.1) a7
  replace S1 : Sep G2 (Fr H) [AL.box p4 [v0_0, v0_1]] := S1
  obtain ⟨G9, p11, q12, q13, a14, S8⟩ := S1.boxT (hB.le A3.1) 28 [v1_0, v1_1]
  have A10 := A3.ext (hB.le A3.1) a14
  replace S8 : Sep G9 (Fr H) [AL.box p4 [v0_0, v0_1], AL.box p11 [v1_0, v1_1]] := S8
  refine DWp.region fun K hK => ?_
  simp [-aBin', -aBin, -aBinI, -aUn, -aNil, -flatV, n_fn, b_add, b_sub, b_mul, b_lt, b_le, b_gt, b_ge, b_eq, b_ne, u_not, q5, q6, a7.to_pre, cells_agg, q12, q13, a14.to_pre]
  apply hK
  clear hK K
  simp only [andThen, leaves]
  refine DWp.seq ?_
  refine DWp.seq ?_
  have q15 := S8.fieldT (P := Try.prog) (k := 0) rfl fa_28_0
  have q16 := S8.loadF (P := Try.prog) (k := 0) rfl sz_22 ag_22 (off := 0) rfl
  have q17 := S8.fieldT (P := Try.prog) (k := 1) rfl fa_28_0
  have q18 := S8.loadF (P := Try.prog) (k := 1) rfl sz_22 ag_22 (off := 0) rfl
  obtain ⟨r1, hc19, hF⟩ := bd_some hF
  refine DWp.region fun K hK => ?_
  simp [-aBin', -aBin, -aBinI, -aUn, -aNil, -flatV, n_fn, b_add, b_sub, b_mul, b_lt, b_le, b_gt, b_ge, b_eq, b_ne, u_not, q15, q16, q17, q18, ((hx0_0.agree A10.agree).tup), ((hx1_0.agree A10.agree).tup)]
  refine CallD.t (F_laws_eqIntS_w (fu := fu) (hx0_0.agree A10.agree) (hx1_0.agree A10.agree) hc19) ?_
  rintro _ G21 ⟨a24, rfl, S25⟩
  have A23 := A10.ext (hB.le A10.1) a24.agree
  have S22 : Sep G21 (Fr H) [AL.box p4 [v0_0, v0_1], AL.box p11 [v1_0, v1_1]] := S8.app a24.agree S25 (fun _ h => h) (hB.le A10.1)
  simp [-aBin', -aBin, -aBinI, -aUn, -aNil, -flatV, n_fn, b_add, b_sub, b_mul, b_lt, b_le, b_gt, b_ge, b_eq, b_ne, u_not, q15, q16, q17, q18, a24.pre]
  apply hK
  clear hK K
  simp only [andThen, leaves]
  refine DWp.cond' (t := (bnot r1)) (by simp []) (fun hb26 => ?_) (fun hb26 => ?_)
  · replace hF := cd_t hb26 hF
    refine DWp.seq ?_
    refine DWp.region fun K hK => ?_
    simp [-aBin', -aBin, -aBinI, -aUn, -aNil, -flatV, n_fn, b_add, b_sub, b_mul, b_lt, b_le, b_gt, b_ge, b_eq, b_ne, u_not]
    apply hK
    clear hK K
    simp only [andThen, leaves]
    refine DWp.ret ?_
    simp only [andThen, leaves]
    obtain rfl := Option.some.inj hF
    exact ⟨by simp, [(Value.bool false)], by simp [], A23, rfl, S22.pick [] (by decide) rfl⟩
  · replace hF := cd_f hb26 hF
    refine DWp.skip ?_
    simp only [andThen, leaves]
    refine DWp.seq ?_
    refine DWp.seq ?_
    have q27 := S22.fieldT (P := Try.prog) (k := 0) rfl fa_28_1
    have q28 := S22.loadF (P := Try.prog) (k := 0) rfl sz_22 ag_22 (off := 1) rfl
    have q29 := S22.fieldT (P := Try.prog) (k := 1) rfl fa_28_1
    have q30 := S22.loadF (P := Try.prog) (k := 1) rfl sz_22 ag_22 (off := 1) rfl
    obtain ⟨r2, hc31, hF⟩ := bd_some hF
    refine DWp.region fun K hK => ?_
    simp [-aBin', -aBin, -aBinI, -aUn, -aNil, -flatV, n_fn, b_add, b_sub, b_mul, b_lt, b_le, b_gt, b_ge, b_eq, b_ne, u_not, q27, q28, q29, q30, ((hx0_1.agree A23.agree).tup), ((hx1_1.agree A23.agree).tup)]
    refine CallD.t (F_laws_eqIntS_w (fu := fu) (hx0_1.agree A23.agree) (hx1_1.agree A23.agree) hc31) ?_
    rintro _ G33 ⟨a36, rfl, S37⟩
    have A35 := A23.ext (hB.le A23.1) a36.agree
    have S34 : Sep G33 (Fr H) [AL.box p4 [v0_0, v0_1], AL.box p11 [v1_0, v1_1]] := S22.app a36.agree S37 (fun _ h => h) (hB.le A23.1)
    simp [-aBin', -aBin, -aBinI, -aUn, -aNil, -flatV, n_fn, b_add, b_sub, b_mul, b_lt, b_le, b_gt, b_ge, b_eq, b_ne, u_not, q27, q28, q29, q30, a36.pre]
    apply hK
    clear hK K
    simp only [andThen, leaves]
    refine DWp.cond' (t := (bnot r2)) (by simp []) (fun hb38 => ?_) (fun hb38 => ?_)
    · replace hF := cd_t hb38 hF
      refine DWp.seq ?_
      refine DWp.region fun K hK => ?_
      simp [-aBin', -aBin, -aBinI, -aUn, -aNil, -flatV, n_fn, b_add, b_sub, b_mul, b_lt, b_le, b_gt, b_ge, b_eq, b_ne, u_not]
      apply hK
      clear hK K
      simp only [andThen, leaves]
      refine DWp.ret ?_
      simp only [andThen, leaves]
      obtain rfl := Option.some.inj hF
      exact ⟨by simp, [(Value.bool false)], by simp [], A35, rfl, S34.pick [] (by decide) rfl⟩
    · replace hF := cd_f hb38 hF
      refine DWp.skip ?_
      simp only [andThen, leaves]
      refine DWp.seq ?_
      refine DWp.region fun K hK => ?_
      simp [-aBin', -aBin, -aBinI, -aUn, -aNil, -flatV, n_fn, b_add, b_sub, b_mul, b_lt, b_le, b_gt, b_ge, b_eq, b_ne, u_not]
      apply hK
      clear hK K
      simp only [andThen, leaves]
      refine DWp.ret ?_
      obtain rfl := Option.some.inj hF
      exact ⟨by simp, [(Value.bool true)], by simp [], A35, rfl, S34.pick [] (by decide) rfl⟩
end Go.Proofs.Ytbckijeffiofdaa.AL

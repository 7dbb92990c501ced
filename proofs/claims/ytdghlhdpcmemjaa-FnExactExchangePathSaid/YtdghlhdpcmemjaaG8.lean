/- The walks of functions, each with its Lean function: spec.exPath, spec.ExchangePath, impl.better, impl.path, impl.ExchangePath, laws.FnExactExchangePath, laws.szIntS, laws.szMeander, laws.toMeander, spec.exSome. No condition. -/
import Derived.Test.YtdghlhdpcmemjaaFBD
import Derived.Test.YtdghlhdpcmemjaaFBE
import Derived.Test.YtdghlhdpcmemjaaG1
import Derived.Test.YtdghlhdpcmemjaaG2
import Derived.Test.YtdghlhdpcmemjaaG3
import Derived.Test.YtdghlhdpcmemjaaG4
import Derived.Test.YtdghlhdpcmemjaaG5
import Derived.Test.YtdghlhdpcmemjaaG6
import Derived.Test.YtdghlhdpcmemjaaG7
import Derived.Test.YtdghlhdpcmemjaaALD
import Derived.Test.YtdghlhdpcmemjaaProg
import Derived.KernelRfl
namespace Go.Proofs.Ytdghlhdpcmemjaa.AL
open Go Go.RowKit
set_option linter.unusedVariables false
set_option linter.unusedSimpArgs false
set_option maxRecDepth 4096
def F_spec_exPath_L1 (fu : Nat) (k1_0 : List Int) (k1_1 : Int) : Nat → List (List Int) → Option (LR (List (List Int)) (List (List Int)))
  | 0, _ => none
  | n + 1, l1_0 =>
    gd (inL l1_0 (isub .i64 (llen l1_0) 1)) (
    bd (F_spec_exStep fu (gat [] l1_0 (isub .i64 (llen l1_0) 1)) k1_0 k1_1) fun r2 =>
    bif (bnot r2.2) then
      some (.ret l1_0)
    else
      gd (l1_0.length + 1 ≤ 4294967296) (
      F_spec_exPath_L1 fu k1_0 k1_1 n (lapp l1_0 [r2.1])))
def F_spec_exPath (fu : Nat) (x0 : List Int) (x1 : List Int) (x2 : Int) : Option (List (List Int)) :=
  bd (F_spec_l1Own fu x0) fun r1 =>
  bd (F_spec_exPath_L1 fu x1 x2 fu [r1]) fun s1 => lr s1 fun _ => none
theorem F_spec_exPath_w {fu : Nat} {H : AH} {v0 : Value} {v1 : Value} {x0 : List Int} {x1 : List Int} {x2 : Int} {r : (List (List Int))} (hx0 : Sl H v0 (ints x0)) (hx1 : Sl H v1 (ints x1)) (hF : F_spec_exPath fu x0 x1 x2 = some r) :
    ACallT Try.prog 80 [v0, v1, (Value.int .i64 x2)] H (fun u G => AgB (Fr H) H G ∧ ∃ u0 : Value, ∃ C0 : List Value, u = u0 ∧ Sep G (Fr H) [rowsC u0 22 3 C0 (List.map ints r)]) := by
  refine ACallT.of_body (nt := 32) (rs := [.tmp 6]) Try.func80 rfl rfl rfl rfl ?_
  have A0 : AgB (Fr H) H H := .refl _ _
  have S0 : Sep H (Fr H) [] := .nil
  have hB := Fr.up H
  unfold F_spec_exPath at hF
  refine DWp.seq ?_
  refine DWp.region fun K hK => ?_
  simp [-aBin', -aBin, -aBinI, -aUn, -aNil, -flatV, n_fn, b_add, b_sub, b_mul, b_lt, b_le, b_gt, b_ge, b_eq, b_ne, u_not]
  apply hK
  clear hK K
  simp only [andThen, leaves]
  refine DWp.seq ?_
  obtain ⟨r1, hc1, hF⟩ := bd_some hF
  refine DWp.region fun K hK => ?_
  simp [-aBin', -aBin, -aBinI, -aUn, -aNil, -flatV, n_fn, b_add, b_sub, b_mul, b_lt, b_le, b_gt, b_ge, b_eq, b_ne, u_not, ((hx0.agree A0.agree).tup)]
  refine CallD.t (F_spec_l1Own_w (fu := fu) (hx0.agree A0.agree) hc1) ?_
  rintro c2_u0 G3 ⟨a6, _, rfl, S7⟩
  have A5 := A0.ext (hB.le A0.1) a6.agree
  have S4 : Sep G3 (Fr H) [flat c2_u0 3 (ints r1)] := S0.app a6.agree S7 (fun _ h => h) (hB.le A0.1)
  obtain ⟨v8, G9, q10, S11, a13, _, _⟩ := S4.lit1 (P := Try.prog) (t := 23) (hB.le A5.1) el_23 ei_22 rfl c2_u0 ((S4.sl (k := 0) rfl).tup) ((S4.sl (k := 0) rfl).one)
  have A12 := A5.ext (hB.le A5.1) a13
  replace S11 : Sep G9 (Fr H) [flat c2_u0 3 (ints r1), flat1 v8 22 [c2_u0]] := S11
  simp [-aBin', -aBin, -aBinI, -aUn, -aNil, -flatV, n_fn, b_add, b_sub, b_mul, b_lt, b_le, b_gt, b_ge, b_eq, b_ne, u_not, a6.pre, q10, a13.to_pre, ((S4.sl (k := 0) rfl).tup)]
  apply hK
  clear hK K
  simp only [andThen, leaves]
  refine DWp.block ?_
  have S14 : Sep G9 (Fr H) [emp, rowsC v8 22 3 [c2_u0] (List.map ints [r1])] := S11.rowsOf1 (j := 1) (k := 0) (by decide) rfl rfl
  obtain ⟨s15, hL16, hF⟩ := bd_some hF
  have S17 := S14.pick [1] (by decide) rfl
  refine DWp.loop (fun n env G => ∃ l1_0 : List (List Int), ∃ w1_0 : Value, ∃ D1_0 : List Value, F_spec_exPath_L1 fu x1 x2 n l1_0 = some s15 ∧ Sep G (Fr H) [rowsC w1_0 22 3 D1_0 (List.map ints l1_0)] ∧ AgB (Fr H) H G ∧ env 1 = some v1 ∧ env 2 = some (Value.int .i64 x2) ∧ env 7 = some w1_0) fu ⟨[r1], v8, [c2_u0], hL16, S17, A12, by simp [], by simp [], by simp []⟩ ?_
  rintro n1 env1 G1_ ⟨l1_0, w1_0, D1_0, hL16, S1_, A1_, e1_1, e1_2, e1_7⟩
  cases n1 with
  | zero => cases hL16
  | succ n1 =>
    simp only [F_spec_exPath_L1] at hL16
    refine DWp.block ?_
    refine DWp.seq ?_
    have q18 := (S1_.rd (k := 0) rfl).lenG (P := Try.prog) el_23
    obtain ⟨g19, hL16⟩ := gd_some hL16
    have q20 := (S1_.rd (k := 0) rfl).idxG (P := Try.prog) (kk := .i64) el_23 sz_22 g19
    have q21 := (S1_.rd (k := 0) rfl).loadG (P := Try.prog) sz_22 ag_22 g19
    obtain ⟨r2, hc22, hL16⟩ := bd_some hL16
    refine DWp.region fun K hK => ?_
    simp [-aBin', -aBin, -aBinI, -aUn, -aNil, -flatV, n_fn, b_add, b_sub, b_mul, b_lt, b_le, b_gt, b_ge, b_eq, b_ne, u_not, e1_1, e1_2, e1_7, q18, q20, q21, (((S1_.rd (k := 0) rfl).rowAt [] g19).tup), ((hx1.agree A1_.agree).tup)]
    refine CallD.t (F_spec_exStep_w (fu := fu) ((S1_.rd (k := 0) rfl).rowAt [] g19) (hx1.agree A1_.agree) hc22) ?_
    rintro _ G24 ⟨a27, c23_u0, rfl, S28⟩
    have A26 := A1_.ext (hB.le A1_.1) a27.agree
    have S25 : Sep G24 (Fr H) [rowsC w1_0 22 3 D1_0 (List.map ints l1_0), flat c23_u0 3 (ints r2.1)] := S1_.app a27.agree S28 (fun _ h => h) (hB.le A1_.1)
    simp [-aBin', -aBin, -aBinI, -aUn, -aNil, -flatV, n_fn, b_add, b_sub, b_mul, b_lt, b_le, b_gt, b_ge, b_eq, b_ne, u_not, e1_1, e1_2, e1_7, q18, q20, q21, a27.pre]
    apply hK
    clear hK K
    simp only [andThen, leaves]
    refine DWp.seq ?_
    refine DWp.seq ?_
    refine DWp.region fun K hK => ?_
    simp [-aBin', -aBin, -aBinI, -aUn, -aNil, -flatV, n_fn, b_add, b_sub, b_mul, b_lt, b_le, b_gt, b_ge, b_eq, b_ne, u_not, e1_1, e1_2, e1_7]
    apply hK
    clear hK K
    simp only [andThen, leaves]
    refine DWp.cond' (t := (bnot r2.2)) (by simp [e1_1, e1_2, e1_7]) (fun hb29 => ?_) (fun hb29 => ?_)
    · replace hL16 := cd_t hb29 hL16
      refine DWp.seq ?_
      refine DWp.region fun K hK => ?_
      simp [-aBin', -aBin, -aBinI, -aUn, -aNil, -flatV, n_fn, b_add, b_sub, b_mul, b_lt, b_le, b_gt, b_ge, b_eq, b_ne, u_not, e1_1, e1_2, e1_7]
      apply hK
      clear hK K
      simp only [andThen, leaves]
      refine DWp.ret ?_
      simp only [andThen, leaves]
      obtain rfl := Option.some.inj hL16
      simp only [lr] at hF
      obtain rfl := Option.some.inj hF
      exact ⟨by simp, [w1_0], by simp [e1_1, e1_2, e1_7, ((S25.rd (k := 0) rfl).tup)], A26, w1_0, D1_0, rfl, S25.pick [0] (by decide) rfl⟩
    · replace hL16 := cd_f hb29 hL16
      refine DWp.skip ?_
      simp only [andThen, leaves]
      obtain ⟨v30, G31, q32, S33, a35, _, _⟩ := S25.lit1 (P := Try.prog) (t := 23) (hB.le A26.1) el_23 ei_22 rfl c23_u0 ((S25.sl (k := 1) rfl).tup) ((S25.sl (k := 1) rfl).one)
      have A34 := A26.ext (hB.le A26.1) a35
      replace S33 : Sep G31 (Fr H) [rowsC w1_0 22 3 D1_0 (List.map ints l1_0), flat c23_u0 3 (ints r2.1), flat1 v30 22 [c23_u0]] := S33
      obtain ⟨g36, hL16⟩ := gd_some hL16
      obtain ⟨v42, G37, q38, S39, a41, q38t, _⟩ := S33.pushRow (u := w1_0) (fr := ints) (X := l1_0) (y := r2.1) (P := Try.prog) (t := 23) (t2 := 23) (j := 0) (k := 1) (by decide) rfl rfl (hB.le A34.1) el_23 el_23 ei_22 rfl (S33.sl1 (k := 2) rfl) g36
      have A40 := A34.trans a41
      replace S39 : Sep G37 (Fr H) [rowsC v42 22 3 (D1_0 ++ [c23_u0]) (List.map ints (lapp l1_0 [r2.1])), emp, flat1 v30 22 [c23_u0]] := S39
      have q43 := S39.lastV (fr := ints) (k := 0) rfl
      try simp only [List.cons_append, List.nil_append] at q43
      refine DWp.region fun K hK => ?_
      simp [-aBin', -aBin, -aBinI, -aUn, -aNil, -flatV, n_fn, b_add, b_sub, b_mul, b_lt, b_le, b_gt, b_ge, b_eq, b_ne, u_not, e1_1, e1_2, e1_7, q43, q32, a35.to_pre, ((S25.sl (k := 1) rfl).tup), q38, q38t]
      apply hK
      clear hK K
      simp only [andThen, leaves]
      have S44 := S39.pick [0] (by decide) rfl
      exact ⟨n1, Nat.lt_succ_self _, (lapp l1_0 [r2.1]), v42, (D1_0 ++ [c23_u0]), hL16, S44, A40, by simp [e1_1, e1_2, e1_7, q43], by simp [e1_1, e1_2, e1_7, q43], by simp [e1_1, e1_2, e1_7, q43]⟩
def F_spec_ExchangePath (fu : Nat) (x0 : List Int) (x1 : List Int) : Option (List (List Int) × Bool) :=
  bd (F_spec_exPair fu x0 x1) fun r1 =>
  bif (bnot r1) then
    some ([], false)
  else
    bd (F_spec_exPath fu x0 x1 1) fun r2 =>
    some (r2, true)
theorem F_spec_ExchangePath_w {fu : Nat} {H : AH} {v0 : Value} {v1 : Value} {x0 : List Int} {x1 : List Int} {r : (List (List Int) × Bool)} (hx0 : Sl H v0 (ints x0)) (hx1 : Sl H v1 (ints x1)) (hF : F_spec_ExchangePath fu x0 x1 = some r) :
    ACallT Try.prog 41 [v0, v1] H (fun u G => AgB (Fr H) H G ∧ ∃ u0 : Value, ∃ C0 : List Value, u = (Value.tuple #[u0, (Value.bool r.2)]) ∧ Sep G (Fr H) [rowsC u0 22 3 C0 (List.map ints r.1)]) := by
  refine ACallT.of_body (nt := 13) (rs := [.tmp 4, .tmp 5]) Try.func41 rfl rfl rfl rfl ?_
  have A0 : AgB (Fr H) H H := .refl _ _
  have S0 : Sep H (Fr H) [] := .nil
  have hB := Fr.up H
  unfold F_spec_ExchangePath at hF
  refine DWp.seq ?_
  refine DWp.region fun K hK => ?_
  simp [-aBin', -aBin, -aBinI, -aUn, -aNil, -flatV, n_fn, b_add, b_sub, b_mul, b_lt, b_le, b_gt, b_ge, b_eq, b_ne, u_not]
  apply hK
  clear hK K
  simp only [andThen, leaves]
  refine DWp.seq ?_
  refine DWp.seq ?_
  obtain ⟨r1, hc1, hF⟩ := bd_some hF
  refine DWp.region fun K hK => ?_
  simp [-aBin', -aBin, -aBinI, -aUn, -aNil, -flatV, n_fn, b_add, b_sub, b_mul, b_lt, b_le, b_gt, b_ge, b_eq, b_ne, u_not, ((hx0.agree A0.agree).tup), ((hx1.agree A0.agree).tup)]
  refine CallD.t (F_spec_exPair_w (fu := fu) (hx0.agree A0.agree) (hx1.agree A0.agree) hc1) ?_
  rintro _ G3 ⟨a6, rfl, S7⟩
  have A5 := A0.ext (hB.le A0.1) a6.agree
  have S4 : Sep G3 (Fr H) [] := S0.app a6.agree S7 (fun _ h => h) (hB.le A0.1)
  simp [-aBin', -aBin, -aBinI, -aUn, -aNil, -flatV, n_fn, b_add, b_sub, b_mul, b_lt, b_le, b_gt, b_ge, b_eq, b_ne, u_not, a6.pre]
  apply hK
  clear hK K
  simp only [andThen, leaves]
  refine DWp.cond' (t := (bnot r1)) (by simp []) (fun hb8 => ?_) (fun hb8 => ?_)
  · replace hF := cd_t hb8 hF
    refine DWp.seq ?_
    refine DWp.region fun K hK => ?_
    simp [-aBin', -aBin, -aBinI, -aUn, -aNil, -flatV, n_fn, b_add, b_sub, b_mul, b_lt, b_le, b_gt, b_ge, b_eq, b_ne, u_not]
    apply hK
    clear hK K
    simp only [andThen, leaves]
    refine DWp.ret ?_
    simp only [andThen, leaves]
    have S9 := S4.rowsNil (hB.le A5.1) 22 3
    obtain rfl := Option.some.inj hF
    exact ⟨by simp, [(Value.slice none 0 0), (Value.bool false)], by simp [], A5, nilV, [], rfl, S9.pick [0] (by decide) rfl⟩
  · replace hF := cd_f hb8 hF
    refine DWp.skip ?_
    simp only [andThen, leaves]
    refine DWp.seq ?_
    obtain ⟨r2, hc10, hF⟩ := bd_some hF
    refine DWp.region fun K hK => ?_
    simp [-aBin', -aBin, -aBinI, -aUn, -aNil, -flatV, n_fn, b_add, b_sub, b_mul, b_lt, b_le, b_gt, b_ge, b_eq, b_ne, u_not, ((hx0.agree A5.agree).tup), ((hx1.agree A5.agree).tup)]
    refine CallD.t (F_spec_exPath_w (fu := fu) (hx0.agree A5.agree) (hx1.agree A5.agree) hc10) ?_
    rintro c11_u0 G12 ⟨a15, _, c11_C0, rfl, S16⟩
    have A14 := A5.ext (hB.le A5.1) a15.agree
    have S13 : Sep G12 (Fr H) [rowsC c11_u0 22 3 c11_C0 (List.map ints r2)] := S4.app a15.agree S16 (fun _ h => h) (hB.le A5.1)
    simp [-aBin', -aBin, -aBinI, -aUn, -aNil, -flatV, n_fn, b_add, b_sub, b_mul, b_lt, b_le, b_gt, b_ge, b_eq, b_ne, u_not, a15.pre]
    apply hK
    clear hK K
    simp only [andThen, leaves]
    refine DWp.ret ?_
    obtain rfl := Option.some.inj hF
    exact ⟨by simp, [c11_u0, (Value.bool true)], by simp [((S13.rd (k := 0) rfl).tup)], A14, c11_u0, c11_C0, rfl, S13.pick [0] (by decide) rfl⟩
def F_impl_better_L1 (fu : Nat) (k1_0 : List Int) (k1_1 : List Int) (k1_2 : Int) (k1_3 : List (Int × Int)) (k1_4 : Int) : Nat → Int → Option (LR (List Int) (Int))
  | 0, _ => none
  | n + 1, y1_13 =>
    bif (ilt y1_13 k1_4) then
      gd (inL k1_3 y1_13) (
      bd (F_impl_exchanged fu k1_0 ((gat i2 k1_3 y1_13).1) ((gat i2 k1_3 y1_13).2)) fun r2 =>
      bd (F_impl_Meander_components fu r2 k1_1) fun r3 =>
      bif (ieq r3 k1_2) then
        gd (r2 ≠ []) (
        some (.ret r2))
      else
        F_impl_better_L1 fu k1_0 k1_1 k1_2 k1_3 k1_4 n (iadd .i64 y1_13 1))
    else
      some (.brk y1_13)
def F_impl_better (fu : Nat) (x0 : List Int) (x1 : List Int) (x2 : Int) : Option (List Int) :=
  bd (F_impl_couples fu x0) fun r1 =>
  bd (F_impl_better_L1 fu x0 x1 x2 r1 (llen r1) fu 0) fun s1 =>
  lr s1 fun s1 =>
  some []
theorem F_impl_better_w {fu : Nat} {H : AH} {v0 : Value} {v1 : Value} {x0 : List Int} {x1 : List Int} {x2 : Int} {r : (List Int)} (hx0 : Sl H v0 (ints x0)) (hx1 : Sl H v1 (ints x1)) (hF : F_impl_better fu x0 x1 x2 = some r) :
    ACallT Try.prog 109 [v0, v1, (Value.int .i64 x2)] H (fun u G => AgB (Fr H) H G ∧ ∃ u0 : Value, u = u0 ∧ Sep G (Fr H) [flat u0 3 (ints r)] ∧ (r = [] → u0 = nilV)) := by
  refine ACallT.of_body (nt := 31) (rs := [.tmp 6]) Try.func109 rfl rfl rfl rfl ?_
  have A0 : AgB (Fr H) H H := .refl _ _
  have S0 : Sep H (Fr H) [] := .nil
  have hB := Fr.up H
  unfold F_impl_better at hF
  refine DWp.seq ?_
  refine DWp.region fun K hK => ?_
  simp [-aBin', -aBin, -aBinI, -aUn, -aNil, -flatV, n_fn, b_add, b_sub, b_mul, b_lt, b_le, b_gt, b_ge, b_eq, b_ne, u_not]
  apply hK
  clear hK K
  simp only [andThen, leaves]
  refine DWp.seq ?_
  refine DWp.seq ?_
  obtain ⟨r1, hc1, hF⟩ := bd_some hF
  refine DWp.region fun K hK => ?_
  simp [-aBin', -aBin, -aBinI, -aUn, -aNil, -flatV, n_fn, b_add, b_sub, b_mul, b_lt, b_le, b_gt, b_ge, b_eq, b_ne, u_not, ((hx0.agree A0.agree).tup)]
  refine CallD.t (F_impl_couples_w (fu := fu) (hx0.agree A0.agree) hc1) ?_
  rintro c2_u0 G3 ⟨a6, _, rfl, S7⟩
  have A5 := A0.ext (hB.le A0.1) a6.agree
  have S4 : Sep G3 (Fr H) [flatI c2_u0 62 r1] := S0.app a6.agree S7 (fun _ h => h) (hB.le A0.1)
  have q8 := (S4.slI (k := 0) rfl).lenG (P := Try.prog) el_58
  simp [-aBin', -aBin, -aBinI, -aUn, -aNil, -flatV, n_fn, b_add, b_sub, b_mul, b_lt, b_le, b_gt, b_ge, b_eq, b_ne, u_not, a6.pre, q8]
  apply hK
  clear hK K
  simp only [andThen, leaves]
  refine DWp.block ?_
  obtain ⟨s9, hL10, hF⟩ := bd_some hF
  have S11 := S4.pick [0] (by decide) rfl
  refine DWp.loop (fun n env G => ∃ y1_13 : Int, F_impl_better_L1 fu x0 x1 x2 r1 (llen r1) n y1_13 = some s9 ∧ Sep G (Fr H) [flatI c2_u0 62 r1] ∧ AgB (Fr H) H G ∧ env 0 = some v0 ∧ env 1 = some v1 ∧ env 2 = some (Value.int .i64 x2) ∧ env 11 = some c2_u0 ∧ env 12 = some (Value.int .i64 (llen r1)) ∧ env 13 = some (Value.int .i64 y1_13)) fu ⟨0, hL10, S11, A5, by simp [], by simp [], by simp [], by simp [], by simp [], by simp []⟩ ?_
  rintro n1 env1 G1_ ⟨y1_13, hL10, S1_, A1_, e1_0, e1_1, e1_2, e1_11, e1_12, e1_13⟩
  cases n1 with
  | zero => cases hL10
  | succ n1 =>
    simp only [F_impl_better_L1] at hL10
    refine DWp.seq ?_
    refine DWp.region fun K hK => ?_
    simp [-aBin', -aBin, -aBinI, -aUn, -aNil, -flatV, n_fn, b_add, b_sub, b_mul, b_lt, b_le, b_gt, b_ge, b_eq, b_ne, u_not, e1_0, e1_1, e1_2, e1_11, e1_12, e1_13]
    apply hK
    clear hK K
    simp only [andThen, leaves]
    refine DWp.seq ?_
    refine DWp.cond' (t := (ilt y1_13 (llen r1))) (by simp [e1_0, e1_1, e1_2, e1_11, e1_12, e1_13]) (fun hb12 => ?_) (fun hb12 => ?_)
    · replace hL10 := cd_t hb12 hL10
      refine DWp.skip ?_
      simp only [andThen, leaves]
      refine DWp.seq ?_
      refine DWp.block ?_
      refine DWp.seq ?_
      obtain ⟨g13, hL10⟩ := gd_some hL10
      have q14 := (S1_.slI (k := 0) rfl).idxG (P := Try.prog) (kk := .i64) el_58 sz_62 g13
      have q15 := (S1_.slI (k := 0) rfl).loadG (P := Try.prog) sz_62 ag_62 g13
      obtain ⟨G17, p19, q20, q22, a21, S16⟩ := S1_.allocT (P := Try.prog) (hB.le A1_.1) ze_62 rfl
      have A18 := A1_.ext (hB.le A1_.1) a21
      replace S16 : Sep G17 (Fr H) [flatI c2_u0 62 r1, AL.box p19 [(Value.int .i64 0), (Value.int .i64 0)]] := S16
      obtain ⟨G23, q24, S25, a27⟩ := S16.putAgg (P := Try.prog) (k := 1) (xs := [(Value.int .i64 (gat i2 r1 y1_13).1), (Value.int .i64 (gat i2 r1 y1_13).2)]) rfl (hB.le A18.1) sz_62 rfl rfl
      have A26 := A18.trans a27
      replace S25 : Sep G23 (Fr H) [flatI c2_u0 62 r1, AL.box p19 [(Value.int .i64 (gat i2 r1 y1_13).1), (Value.int .i64 (gat i2 r1 y1_13).2)]] := S25
      refine DWp.region fun K hK => ?_
      simp [-aBin', -aBin, -aBinI, -aUn, -aNil, -flatV, n_fn, b_add, b_sub, b_mul, b_lt, b_le, b_gt, b_ge, b_eq, b_ne, u_not, e1_0, e1_1, e1_2, e1_11, e1_12, e1_13, q14, q15, q20, q22, a21.to_pre, q24]
      apply hK
      clear hK K
      simp only [andThen, leaves]
      refine DWp.seq ?_
      have q28 : aIndexAddr Try.prog G23 62 p19 (Value.int .i64 0) = some (fldP p19 0) := S25.arrI (P := Try.prog) (kk := .i64) (k := 1) (n := 0) rfl ua_62 sz_3 (by decide)
      have q29 := S25.loadF (P := Try.prog) (k := 1) rfl sz_3 ag_3 (off := 0) rfl
      have q30 : aIndexAddr Try.prog G23 62 p19 (Value.int .i64 1) = some (fldP p19 1) := S25.arrI (P := Try.prog) (kk := .i64) (k := 1) (n := 1) rfl ua_62 sz_3 (by decide)
      have q31 := S25.loadF (P := Try.prog) (k := 1) rfl sz_3 ag_3 (off := 1) rfl
      obtain ⟨r2, hc32, hL10⟩ := bd_some hL10
      refine DWp.region fun K hK => ?_
      simp [-aBin', -aBin, -aBinI, -aUn, -aNil, -flatV, n_fn, b_add, b_sub, b_mul, b_lt, b_le, b_gt, b_ge, b_eq, b_ne, u_not, e1_0, e1_1, e1_2, e1_11, e1_12, e1_13, q28, q29, q30, q31, ((hx0.agree A26.agree).tup)]
      refine CallD.t (F_impl_exchanged_w (fu := fu) (hx0.agree A26.agree) hc32) ?_
      rintro c33_u0 G34 ⟨a37, _, rfl, S38⟩
      have A36 := A26.ext (hB.le A26.1) a37.agree
      have S35 : Sep G34 (Fr H) [flatI c2_u0 62 r1, AL.box p19 [(Value.int .i64 (gat i2 r1 y1_13).1), (Value.int .i64 (gat i2 r1 y1_13).2)], flat c33_u0 3 (ints r2)] := S25.app a37.agree S38 (fun _ h => h) (hB.le A26.1)
      simp [-aBin', -aBin, -aBinI, -aUn, -aNil, -flatV, n_fn, b_add, b_sub, b_mul, b_lt, b_le, b_gt, b_ge, b_eq, b_ne, u_not, e1_0, e1_1, e1_2, e1_11, e1_12, e1_13, q28, q29, q30, q31, a37.pre]
      apply hK
      clear hK K
      simp only [andThen, leaves]
      refine DWp.seq ?_
      obtain ⟨r3, hc39, hL10⟩ := bd_some hL10
      refine DWp.region fun K hK => ?_
      simp [-aBin', -aBin, -aBinI, -aUn, -aNil, -flatV, n_fn, b_add, b_sub, b_mul, b_lt, b_le, b_gt, b_ge, b_eq, b_ne, u_not, e1_0, e1_1, e1_2, e1_11, e1_12, e1_13, bu_38 ((S35.sl (k := 2) rfl).tup) ((S35.sl (k := 2) rfl).one) ((hx1.agree A36.agree).tup) ((hx1.agree A36.agree).one), ((S35.sl (k := 2) rfl).tup), ((hx1.agree A36.agree).tup)]
      refine CallD.t (F_impl_Meander_components_w (fu := fu) (S35.sl (k := 2) rfl) (hx1.agree A36.agree) hc39) ?_
      rintro _ G41 ⟨a44, rfl, S45⟩
      have A43 := A36.ext (hB.le A36.1) a44.agree
      have S42 : Sep G41 (Fr H) [flatI c2_u0 62 r1, AL.box p19 [(Value.int .i64 (gat i2 r1 y1_13).1), (Value.int .i64 (gat i2 r1 y1_13).2)], flat c33_u0 3 (ints r2)] := S35.app a44.agree S45 (fun _ h => h) (hB.le A36.1)
      simp [-aBin', -aBin, -aBinI, -aUn, -aNil, -flatV, n_fn, b_add, b_sub, b_mul, b_lt, b_le, b_gt, b_ge, b_eq, b_ne, u_not, e1_0, e1_1, e1_2, e1_11, e1_12, e1_13, bu_38 ((S35.sl (k := 2) rfl).tup) ((S35.sl (k := 2) rfl).one) ((hx1.agree A36.agree).tup) ((hx1.agree A36.agree).one), a44.pre]
      apply hK
      clear hK K
      simp only [andThen, leaves]
      refine DWp.cond' (t := (ieq r3 x2)) (by simp [e1_0, e1_1, e1_2, e1_11, e1_12, e1_13]) (fun hb46 => ?_) (fun hb46 => ?_)
      · replace hL10 := cd_t hb46 hL10
        refine DWp.seq ?_
        refine DWp.region fun K hK => ?_
        simp [-aBin', -aBin, -aBinI, -aUn, -aNil, -flatV, n_fn, b_add, b_sub, b_mul, b_lt, b_le, b_gt, b_ge, b_eq, b_ne, u_not, e1_0, e1_1, e1_2, e1_11, e1_12, e1_13]
        apply hK
        clear hK K
        simp only [andThen, leaves]
        refine DWp.ret ?_
        simp only [andThen, leaves]
        obtain ⟨g47, hL10⟩ := gd_some hL10
        obtain rfl := Option.some.inj hL10
        simp only [lr] at hF
        obtain rfl := Option.some.inj hF
        exact ⟨by simp, [c33_u0], by simp [e1_0, e1_1, e1_2, e1_11, e1_12, e1_13, ((S42.sl (k := 2) rfl).tup)], A43, c33_u0, rfl, S42.pick [2] (by decide) rfl, fun h_ => absurd h_ g47⟩
      · replace hL10 := cd_f hb46 hL10
        refine DWp.skip ?_
        simp only [andThen, leaves]
        refine DWp.region fun K hK => ?_
        simp [-aBin', -aBin, -aBinI, -aUn, -aNil, -flatV, n_fn, b_add, b_sub, b_mul, b_lt, b_le, b_gt, b_ge, b_eq, b_ne, u_not, e1_0, e1_1, e1_2, e1_11, e1_12, e1_13]
        apply hK
        clear hK K
        simp only [andThen, leaves]
        have S48 := S42.pick [0] (by decide) rfl
        exact ⟨n1, Nat.lt_succ_self _, (iadd .i64 y1_13 1), hL10, S48, A43, by simp [e1_0, e1_1, e1_2, e1_11, e1_12, e1_13], by simp [e1_0, e1_1, e1_2, e1_11, e1_12, e1_13], by simp [e1_0, e1_1, e1_2, e1_11, e1_12, e1_13], by simp [e1_0, e1_1, e1_2, e1_11, e1_12, e1_13], by simp [e1_0, e1_1, e1_2, e1_11, e1_12, e1_13], by simp [e1_0, e1_1, e1_2, e1_11, e1_12, e1_13]⟩
    · replace hL10 := cd_f hb12 hL10
      refine DWp.exit ?_
      simp only [andThen, leaves, if_true, if_false, reduceIte, Nat.reduceEqDiff]
      obtain rfl := Option.some.inj hL10
      simp only [lr] at hF
      refine DWp.seq ?_
      refine DWp.region fun K hK => ?_
      simp [-aBin', -aBin, -aBinI, -aUn, -aNil, -flatV, n_fn, b_add, b_sub, b_mul, b_lt, b_le, b_gt, b_ge, b_eq, b_ne, u_not, e1_0, e1_1, e1_2, e1_11, e1_12, e1_13]
      apply hK
      clear hK K
      simp only [andThen, leaves]
      refine DWp.ret ?_
      have S49 := S1_.nilItem (hB.le A1_.1) 3
      obtain rfl := Option.some.inj hF
      exact ⟨by simp, [(Value.slice none 0 0)], by simp [e1_0, e1_1, e1_2, e1_11, e1_12, e1_13], A1_, (Value.slice none 0 0), rfl, S49.pick [1] (by decide) rfl, fun _ => rfl⟩
def F_impl_path_L1 (fu : Nat) (k1_0 : List Int) (k1_1 : Int) : Nat → List (List Int) → Int → Int → Option (LR (List (List Int)) (List (List Int) × Int × Int))
  | 0, _, _, _ => none
  | n + 1, l1_0, y1_0, y1_8 =>
    bif (ine y1_8 k1_1) then
      bd (
        bif (ilt y1_8 k1_1) then
          some (iadd .i64 y1_8 1)
        else
          some (isub .i64 y1_8 1)) fun s57 =>
      bd (F_impl_better fu (gat [] l1_0 y1_0) k1_0 s57) fun r4 =>
      bif (lemp r4) then
        some (.ret l1_0)
      else
        gd (l1_0.length + 1 ≤ 4294967296) (
        F_impl_path_L1 fu k1_0 k1_1 n (lapp l1_0 [r4]) (llen l1_0) s57)
    else
      some (.brk (l1_0, y1_0, y1_8))
def F_impl_path (fu : Nat) (x0 : List Int) (x1 : List Int) (x2 : Int) : Option (List (List Int)) :=
  bd (F_slices_Clone_Sint fu x0) fun r1 =>
  bd (F_impl_Meander_components fu x0 x1) fun r2 =>
  bif (ine r2 x2) then
    bd (
      bif (ilt r2 x2) then
        some (iadd .i64 r2 1)
      else
        some (isub .i64 r2 1)) fun s23 =>
    bd (F_impl_better fu x0 x1 s23) fun r3 =>
    bif (lemp r3) then
      some [r1]
    else
      gd ([r1].length + 1 ≤ 4294967296) (
      bd (F_impl_path_L1 fu x1 x2 fu (lapp [r1] [r3]) (llen [r1]) s23) fun s1 =>
      lr s1 fun s1 =>
      some s1.1)
  else
    some [r1]
theorem F_impl_path_w {fu : Nat} {H : AH} {v0 : Value} {v1 : Value} {x0 : List Int} {x1 : List Int} {x2 : Int} {r : (List (List Int))} (hx0 : Sl H v0 (ints x0)) (hx1 : Sl H v1 (ints x1)) (hF : F_impl_path fu x0 x1 x2 = some r) :
    ACallT Try.prog 81 [v0, v1, (Value.int .i64 x2)] H (fun u G => AgB (Fr H) H G ∧ ∃ u0 : Value, ∃ C0 : List Value, u = u0 ∧ Sep G (Fr H) [rowsC u0 22 3 C0 (List.map ints r)]) := by
  refine ACallT.of_body (nt := 38) (rs := [.tmp 6]) Try.func81 rfl rfl rfl rfl ?_
  have A0 : AgB (Fr H) H H := .refl _ _
  have S0 : Sep H (Fr H) [] := .nil
  have hB := Fr.up H
  unfold F_impl_path at hF
  refine DWp.seq ?_
  refine DWp.region fun K hK => ?_
  simp [-aBin', -aBin, -aBinI, -aUn, -aNil, -flatV, n_fn, b_add, b_sub, b_mul, b_lt, b_le, b_gt, b_ge, b_eq, b_ne, u_not]
  apply hK
  clear hK K
  simp only [andThen, leaves]
  refine DWp.seq ?_
  obtain ⟨r1, hc1, hF⟩ := bd_some hF
  refine DWp.region fun K hK => ?_
  simp [-aBin', -aBin, -aBinI, -aUn, -aNil, -flatV, n_fn, b_add, b_sub, b_mul, b_lt, b_le, b_gt, b_ge, b_eq, b_ne, u_not, ((hx0.agree A0.agree).tup)]
  refine CallD.t (F_slices_Clone_Sint_w (fu := fu) (hx0.agree A0.agree) hc1) ?_
  rintro c2_u0 G3 ⟨a6, _, rfl, S7⟩
  have A5 := A0.ext (hB.le A0.1) a6.agree
  have S4 : Sep G3 (Fr H) [flat c2_u0 3 (ints r1)] := S0.app a6.agree S7 (fun _ h => h) (hB.le A0.1)
  obtain ⟨v8, G9, q10, S11, a13, _, _⟩ := S4.lit1 (P := Try.prog) (t := 23) (hB.le A5.1) el_23 ei_22 rfl c2_u0 ((S4.sl (k := 0) rfl).tup) ((S4.sl (k := 0) rfl).one)
  have A12 := A5.ext (hB.le A5.1) a13
  replace S11 : Sep G9 (Fr H) [flat c2_u0 3 (ints r1), flat1 v8 22 [c2_u0]] := S11
  simp [-aBin', -aBin, -aBinI, -aUn, -aNil, -flatV, n_fn, b_add, b_sub, b_mul, b_lt, b_le, b_gt, b_ge, b_eq, b_ne, u_not, a6.pre, q10, a13.to_pre, ((S4.sl (k := 0) rfl).tup)]
  apply hK
  clear hK K
  simp only [andThen, leaves]
  refine DWp.seq ?_
  refine DWp.seq ?_
  obtain ⟨r2, hc14, hF⟩ := bd_some hF
  refine DWp.region fun K hK => ?_
  simp [-aBin', -aBin, -aBinI, -aUn, -aNil, -flatV, n_fn, b_add, b_sub, b_mul, b_lt, b_le, b_gt, b_ge, b_eq, b_ne, u_not, bu_38 ((hx0.agree A12.agree).tup) ((hx0.agree A12.agree).one) ((hx1.agree A12.agree).tup) ((hx1.agree A12.agree).one), ((hx0.agree A12.agree).tup), ((hx1.agree A12.agree).tup)]
  refine CallD.t (F_impl_Meander_components_w (fu := fu) (hx0.agree A12.agree) (hx1.agree A12.agree) hc14) ?_
  rintro _ G16 ⟨a19, rfl, S20⟩
  have A18 := A12.ext (hB.le A12.1) a19.agree
  have S17 : Sep G16 (Fr H) [flat c2_u0 3 (ints r1), flat1 v8 22 [c2_u0]] := S11.app a19.agree S20 (fun _ h => h) (hB.le A12.1)
  simp [-aBin', -aBin, -aBinI, -aUn, -aNil, -flatV, n_fn, b_add, b_sub, b_mul, b_lt, b_le, b_gt, b_ge, b_eq, b_ne, u_not, bu_38 ((hx0.agree A12.agree).tup) ((hx0.agree A12.agree).one) ((hx1.agree A12.agree).tup) ((hx1.agree A12.agree).one), a19.pre]
  apply hK
  clear hK K
  simp only [andThen, leaves]
  refine DWp.block ?_
  refine DLoop.wp (DLoop.step ?_)
  refine DWp.seq ?_
  refine DWp.seq ?_
  refine DWp.region fun K hK => ?_
  simp [-aBin', -aBin, -aBinI, -aUn, -aNil, -flatV, n_fn, b_add, b_sub, b_mul, b_lt, b_le, b_gt, b_ge, b_eq, b_ne, u_not]
  apply hK
  clear hK K
  simp only [andThen, leaves]
  refine DWp.cond' (t := (ine r2 x2)) (by simp []) (fun hb21 => ?_) (fun hb21 => ?_)
  · replace hF := cd_t hb21 hF
    refine DWp.skip ?_
    simp only [andThen, leaves]
    refine DWp.block ?_
    have S22 : Sep G16 (Fr H) [emp, rowsC v8 22 3 [c2_u0] (List.map ints [r1])] := S17.rowsOf1 (j := 1) (k := 0) (by decide) rfl rfl
    obtain ⟨s23, hL24, hF⟩ := bd_some hF
    refine DWp.seq (DWp.join (fun env G => Sep G (Fr H) [rowsC v8 22 3 [c2_u0] (List.map ints [r1])] ∧ AgB (Fr H) H G ∧ env 0 = some v0 ∧ env 1 = some v1 ∧ env 2 = some (Value.int .i64 x2) ∧ env 7 = some v8 ∧ env 8 = some (Value.int .i64 s23)) ?_ ?_)
    ·
      refine DWp.seq ?_
      refine DWp.region fun K hK => ?_
      simp [-aBin', -aBin, -aBinI, -aUn, -aNil, -flatV, n_fn, b_add, b_sub, b_mul, b_lt, b_le, b_gt, b_ge, b_eq, b_ne, u_not]
      apply hK
      clear hK K
      simp only [andThen, leaves]
      refine DWp.cond' (t := (ilt r2 x2)) (by simp []) (fun hb26 => ?_) (fun hb26 => ?_)
      · replace hL24 := cd_t hb26 hL24
        refine DWp.region fun K hK => ?_
        simp [-aBin', -aBin, -aBinI, -aUn, -aNil, -flatV, n_fn, b_add, b_sub, b_mul, b_lt, b_le, b_gt, b_ge, b_eq, b_ne, u_not]
        apply hK
        clear hK K
        simp only [andThen, leaves]
        have S27 := S22.pick [1] (by decide) rfl
        obtain rfl := Option.some.inj hL24
        exact ⟨S27, A18, by simp [], by simp [], by simp [], by simp [], by simp []⟩
      · replace hL24 := cd_f hb26 hL24
        refine DWp.region fun K hK => ?_
        simp [-aBin', -aBin, -aBinI, -aUn, -aNil, -flatV, n_fn, b_add, b_sub, b_mul, b_lt, b_le, b_gt, b_ge, b_eq, b_ne, u_not]
        apply hK
        clear hK K
        simp only [andThen, leaves]
        have S28 := S22.pick [1] (by decide) rfl
        obtain rfl := Option.some.inj hL24
        exact ⟨S28, A18, by simp [], by simp [], by simp [], by simp [], by simp []⟩
    · rintro env Gj29 ⟨Sj29, Aj29, ej29_0, ej29_1, ej29_2, ej29_7, ej29_8⟩
      refine DWp.seq ?_
      obtain ⟨r3, hc30, hF⟩ := bd_some hF
      refine DWp.region fun K hK => ?_
      simp [-aBin', -aBin, -aBinI, -aUn, -aNil, -flatV, n_fn, b_add, b_sub, b_mul, b_lt, b_le, b_gt, b_ge, b_eq, b_ne, u_not, ej29_0, ej29_1, ej29_2, ej29_7, ej29_8, ((hx0.agree Aj29.agree).tup), ((hx1.agree Aj29.agree).tup)]
      refine CallD.t (F_impl_better_w (fu := fu) (hx0.agree Aj29.agree) (hx1.agree Aj29.agree) hc30) ?_
      rintro c31_u0 G32 ⟨a35, _, rfl, S36, hn37⟩
      have A34 := Aj29.ext (hB.le Aj29.1) a35.agree
      have S33 : Sep G32 (Fr H) [rowsC v8 22 3 [c2_u0] (List.map ints [r1]), flat c31_u0 3 (ints r3)] := Sj29.app a35.agree S36 (fun _ h => h) (hB.le Aj29.1)
      simp [-aBin', -aBin, -aBinI, -aUn, -aNil, -flatV, n_fn, b_add, b_sub, b_mul, b_lt, b_le, b_gt, b_ge, b_eq, b_ne, u_not, ej29_0, ej29_1, ej29_2, ej29_7, ej29_8, a35.pre]
      apply hK
      clear hK K
      simp only [andThen, leaves]
      refine DWp.seq ?_
      refine DWp.seq ?_
      refine DWp.region fun K hK => ?_
      simp [-aBin', -aBin, -aBinI, -aUn, -aNil, -flatV, n_fn, b_add, b_sub, b_mul, b_lt, b_le, b_gt, b_ge, b_eq, b_ne, u_not, ej29_0, ej29_1, ej29_2, ej29_7, ej29_8, nil_q us_22 (S33.sl (k := 1) rfl) hn37]
      apply hK
      clear hK K
      simp only [andThen, leaves]
      refine DWp.cond' (t := (lemp r3)) (by simp [ej29_0, ej29_1, ej29_2, ej29_7, ej29_8]) (fun hb38 => ?_) (fun hb38 => ?_)
      · replace hF := cd_t hb38 hF
        refine DWp.seq ?_
        refine DWp.region fun K hK => ?_
        simp [-aBin', -aBin, -aBinI, -aUn, -aNil, -flatV, n_fn, b_add, b_sub, b_mul, b_lt, b_le, b_gt, b_ge, b_eq, b_ne, u_not, ej29_0, ej29_1, ej29_2, ej29_7, ej29_8]
        apply hK
        clear hK K
        simp only [andThen, leaves]
        refine DWp.ret ?_
        simp only [andThen, leaves]
        obtain rfl := Option.some.inj hF
        exact ⟨by simp, [v8], by simp [ej29_0, ej29_1, ej29_2, ej29_7, ej29_8, ((S33.rd (k := 0) rfl).tup)], A34, v8, [c2_u0], rfl, S33.pick [0] (by decide) rfl⟩
      · replace hF := cd_f hb38 hF
        refine DWp.skip ?_
        simp only [andThen, leaves]
        obtain ⟨v39, G40, q41, S42, a44, _, _⟩ := S33.lit1 (P := Try.prog) (t := 23) (hB.le A34.1) el_23 ei_22 rfl c31_u0 ((S33.sl (k := 1) rfl).tup) ((S33.sl (k := 1) rfl).one)
        have A43 := A34.ext (hB.le A34.1) a44
        replace S42 : Sep G40 (Fr H) [rowsC v8 22 3 [c2_u0] (List.map ints [r1]), flat c31_u0 3 (ints r3), flat1 v39 22 [c31_u0]] := S42
        obtain ⟨g45, hF⟩ := gd_some hF
        obtain ⟨v51, G46, q47, S48, a50, q47t, _⟩ := S42.pushRow (u := v8) (fr := ints) (X := [r1]) (y := r3) (P := Try.prog) (t := 23) (t2 := 23) (j := 0) (k := 1) (by decide) rfl rfl (hB.le A43.1) el_23 el_23 ei_22 rfl (S42.sl1 (k := 2) rfl) g45
        have A49 := A43.trans a50
        replace S48 : Sep G46 (Fr H) [rowsC v51 22 3 ([c2_u0] ++ [c31_u0]) (List.map ints (lapp [r1] [r3])), emp, flat1 v39 22 [c31_u0]] := S48
        have q52 := S48.lastV (fr := ints) (k := 0) rfl
        try simp only [List.cons_append, List.nil_append] at q52
        refine DWp.region fun K hK => ?_
        simp [-aBin', -aBin, -aBinI, -aUn, -aNil, -flatV, n_fn, b_add, b_sub, b_mul, b_lt, b_le, b_gt, b_ge, b_eq, b_ne, u_not, ej29_0, ej29_1, ej29_2, ej29_7, ej29_8, q52, q41, a44.to_pre, ((S33.sl (k := 1) rfl).tup), q47, q47t]
        apply hK
        clear hK K
        simp only [andThen, leaves]
        obtain ⟨s53, hL54, hF⟩ := bd_some hF
        have S55 := S48.pick [0] (by decide) rfl
        refine DLoop.of (fun n env G => ∃ l1_0 : List (List Int), ∃ y1_0 : Int, ∃ y1_8 : Int, ∃ w1_0 : Value, ∃ D1_0 : List Value, F_impl_path_L1 fu x1 x2 n l1_0 y1_0 y1_8 = some s53 ∧ Sep G (Fr H) [rowsC w1_0 22 3 D1_0 (List.map ints l1_0)] ∧ AgB (Fr H) H G ∧ env 0 = some (gat nilV D1_0 y1_0) ∧ env 1 = some v1 ∧ env 2 = some (Value.int .i64 x2) ∧ env 7 = some w1_0 ∧ env 8 = some (Value.int .i64 y1_8) ∧ inL l1_0 y1_0) fu ⟨(lapp [r1] [r3]), (llen [r1]), s23, v51, ([c2_u0] ++ [c31_u0]), hL54, S55, A49, by simp [ej29_0, ej29_1, ej29_2, ej29_7, ej29_8, q52], by simp [ej29_0, ej29_1, ej29_2, ej29_7, ej29_8, q52], by simp [ej29_0, ej29_1, ej29_2, ej29_7, ej29_8, q52], by simp [ej29_0, ej29_1, ej29_2, ej29_7, ej29_8, q52], by simp [ej29_0, ej29_1, ej29_2, ej29_7, ej29_8, q52], (inL_last (X := [r1]) (x := r3))⟩ ?_
        rintro n1 env1 G1_ ⟨l1_0, y1_0, y1_8, w1_0, D1_0, hL54, S1_, A1_, e1_0, e1_1, e1_2, e1_7, e1_8, hrn_y1_0⟩
        cases n1 with
        | zero => cases hL54
        | succ n1 =>
          simp only [F_impl_path_L1] at hL54
          refine DWp.seq ?_
          refine DWp.seq ?_
          refine DWp.region fun K hK => ?_
          simp [-aBin', -aBin, -aBinI, -aUn, -aNil, -flatV, n_fn, b_add, b_sub, b_mul, b_lt, b_le, b_gt, b_ge, b_eq, b_ne, u_not, e1_0, e1_1, e1_2, e1_7, e1_8]
          apply hK
          clear hK K
          simp only [andThen, leaves]
          refine DWp.cond' (t := (ine y1_8 x2)) (by simp [e1_0, e1_1, e1_2, e1_7, e1_8]) (fun hb56 => ?_) (fun hb56 => ?_)
          · replace hL54 := cd_t hb56 hL54
            refine DWp.skip ?_
            simp only [andThen, leaves]
            refine DWp.block ?_
            obtain ⟨s57, hL58, hL54⟩ := bd_some hL54
            refine DWp.seq (DWp.join (fun env G => Sep G (Fr H) [rowsC w1_0 22 3 D1_0 (List.map ints l1_0)] ∧ AgB (Fr H) H G ∧ env 0 = some (gat nilV D1_0 y1_0) ∧ env 1 = some v1 ∧ env 2 = some (Value.int .i64 x2) ∧ env 7 = some w1_0 ∧ env 8 = some (Value.int .i64 s57)) ?_ ?_)
            ·
              refine DWp.seq ?_
              refine DWp.region fun K hK => ?_
              simp [-aBin', -aBin, -aBinI, -aUn, -aNil, -flatV, n_fn, b_add, b_sub, b_mul, b_lt, b_le, b_gt, b_ge, b_eq, b_ne, u_not, e1_0, e1_1, e1_2, e1_7, e1_8]
              apply hK
              clear hK K
              simp only [andThen, leaves]
              refine DWp.cond' (t := (ilt y1_8 x2)) (by simp [e1_0, e1_1, e1_2, e1_7, e1_8]) (fun hb60 => ?_) (fun hb60 => ?_)
              · replace hL58 := cd_t hb60 hL58
                refine DWp.region fun K hK => ?_
                simp [-aBin', -aBin, -aBinI, -aUn, -aNil, -flatV, n_fn, b_add, b_sub, b_mul, b_lt, b_le, b_gt, b_ge, b_eq, b_ne, u_not, e1_0, e1_1, e1_2, e1_7, e1_8]
                apply hK
                clear hK K
                simp only [andThen, leaves]
                have S61 := S1_.pick [0] (by decide) rfl
                obtain rfl := Option.some.inj hL58
                exact ⟨S61, A1_, by simp [e1_0, e1_1, e1_2, e1_7, e1_8], by simp [e1_0, e1_1, e1_2, e1_7, e1_8], by simp [e1_0, e1_1, e1_2, e1_7, e1_8], by simp [e1_0, e1_1, e1_2, e1_7, e1_8], by simp [e1_0, e1_1, e1_2, e1_7, e1_8]⟩
              · replace hL58 := cd_f hb60 hL58
                refine DWp.region fun K hK => ?_
                simp [-aBin', -aBin, -aBinI, -aUn, -aNil, -flatV, n_fn, b_add, b_sub, b_mul, b_lt, b_le, b_gt, b_ge, b_eq, b_ne, u_not, e1_0, e1_1, e1_2, e1_7, e1_8]
                apply hK
                clear hK K
                simp only [andThen, leaves]
                have S62 := S1_.pick [0] (by decide) rfl
                obtain rfl := Option.some.inj hL58
                exact ⟨S62, A1_, by simp [e1_0, e1_1, e1_2, e1_7, e1_8], by simp [e1_0, e1_1, e1_2, e1_7, e1_8], by simp [e1_0, e1_1, e1_2, e1_7, e1_8], by simp [e1_0, e1_1, e1_2, e1_7, e1_8], by simp [e1_0, e1_1, e1_2, e1_7, e1_8]⟩
            · rintro env Gj63 ⟨Sj63, Aj63, ej63_0, ej63_1, ej63_2, ej63_7, ej63_8⟩
              refine DWp.seq ?_
              obtain ⟨r4, hc64, hL54⟩ := bd_some hL54
              refine DWp.region fun K hK => ?_
              simp [-aBin', -aBin, -aBinI, -aUn, -aNil, -flatV, n_fn, b_add, b_sub, b_mul, b_lt, b_le, b_gt, b_ge, b_eq, b_ne, u_not, ej63_0, ej63_1, ej63_2, ej63_7, ej63_8, (((Sj63.rd (k := 0) rfl).rowAt [] hrn_y1_0).tup), ((hx1.agree Aj63.agree).tup)]
              refine CallD.t (F_impl_better_w (fu := fu) ((Sj63.rd (k := 0) rfl).rowAt [] hrn_y1_0) (hx1.agree Aj63.agree) hc64) ?_
              rintro c65_u0 G66 ⟨a69, _, rfl, S70, hn71⟩
              have A68 := Aj63.ext (hB.le Aj63.1) a69.agree
              have S67 : Sep G66 (Fr H) [rowsC w1_0 22 3 D1_0 (List.map ints l1_0), flat c65_u0 3 (ints r4)] := Sj63.app a69.agree S70 (fun _ h => h) (hB.le Aj63.1)
              simp [-aBin', -aBin, -aBinI, -aUn, -aNil, -flatV, n_fn, b_add, b_sub, b_mul, b_lt, b_le, b_gt, b_ge, b_eq, b_ne, u_not, ej63_0, ej63_1, ej63_2, ej63_7, ej63_8, a69.pre]
              apply hK
              clear hK K
              simp only [andThen, leaves]
              refine DWp.seq ?_
              refine DWp.seq ?_
              refine DWp.region fun K hK => ?_
              simp [-aBin', -aBin, -aBinI, -aUn, -aNil, -flatV, n_fn, b_add, b_sub, b_mul, b_lt, b_le, b_gt, b_ge, b_eq, b_ne, u_not, ej63_0, ej63_1, ej63_2, ej63_7, ej63_8, nil_q us_22 (S67.sl (k := 1) rfl) hn71]
              apply hK
              clear hK K
              simp only [andThen, leaves]
              refine DWp.cond' (t := (lemp r4)) (by simp [ej63_0, ej63_1, ej63_2, ej63_7, ej63_8]) (fun hb72 => ?_) (fun hb72 => ?_)
              · replace hL54 := cd_t hb72 hL54
                refine DWp.seq ?_
                refine DWp.region fun K hK => ?_
                simp [-aBin', -aBin, -aBinI, -aUn, -aNil, -flatV, n_fn, b_add, b_sub, b_mul, b_lt, b_le, b_gt, b_ge, b_eq, b_ne, u_not, ej63_0, ej63_1, ej63_2, ej63_7, ej63_8]
                apply hK
                clear hK K
                simp only [andThen, leaves]
                refine DWp.ret ?_
                simp only [andThen, leaves]
                obtain rfl := Option.some.inj hL54
                simp only [lr] at hF
                obtain rfl := Option.some.inj hF
                exact ⟨by simp, [w1_0], by simp [ej63_0, ej63_1, ej63_2, ej63_7, ej63_8, ((S67.rd (k := 0) rfl).tup)], A68, w1_0, D1_0, rfl, S67.pick [0] (by decide) rfl⟩
              · replace hL54 := cd_f hb72 hL54
                refine DWp.skip ?_
                simp only [andThen, leaves]
                obtain ⟨v73, G74, q75, S76, a78, _, _⟩ := S67.lit1 (P := Try.prog) (t := 23) (hB.le A68.1) el_23 ei_22 rfl c65_u0 ((S67.sl (k := 1) rfl).tup) ((S67.sl (k := 1) rfl).one)
                have A77 := A68.ext (hB.le A68.1) a78
                replace S76 : Sep G74 (Fr H) [rowsC w1_0 22 3 D1_0 (List.map ints l1_0), flat c65_u0 3 (ints r4), flat1 v73 22 [c65_u0]] := S76
                obtain ⟨g79, hL54⟩ := gd_some hL54
                obtain ⟨v85, G80, q81, S82, a84, q81t, _⟩ := S76.pushRow (u := w1_0) (fr := ints) (X := l1_0) (y := r4) (P := Try.prog) (t := 23) (t2 := 23) (j := 0) (k := 1) (by decide) rfl rfl (hB.le A77.1) el_23 el_23 ei_22 rfl (S76.sl1 (k := 2) rfl) g79
                have A83 := A77.trans a84
                replace S82 : Sep G80 (Fr H) [rowsC v85 22 3 (D1_0 ++ [c65_u0]) (List.map ints (lapp l1_0 [r4])), emp, flat1 v73 22 [c65_u0]] := S82
                have q86 := S82.lastV (fr := ints) (k := 0) rfl
                try simp only [List.cons_append, List.nil_append] at q86
                refine DWp.region fun K hK => ?_
                simp [-aBin', -aBin, -aBinI, -aUn, -aNil, -flatV, n_fn, b_add, b_sub, b_mul, b_lt, b_le, b_gt, b_ge, b_eq, b_ne, u_not, ej63_0, ej63_1, ej63_2, ej63_7, ej63_8, q86, q75, a78.to_pre, ((S67.sl (k := 1) rfl).tup), q81, q81t]
                apply hK
                clear hK K
                simp only [andThen, leaves]
                have S87 := S82.pick [0] (by decide) rfl
                exact ⟨n1, Nat.lt_succ_self _, (lapp l1_0 [r4]), (llen l1_0), s57, v85, (D1_0 ++ [c65_u0]), hL54, S87, A83, by simp [ej63_0, ej63_1, ej63_2, ej63_7, ej63_8, q86], by simp [ej63_0, ej63_1, ej63_2, ej63_7, ej63_8, q86], by simp [ej63_0, ej63_1, ej63_2, ej63_7, ej63_8, q86], by simp [ej63_0, ej63_1, ej63_2, ej63_7, ej63_8, q86], by simp [ej63_0, ej63_1, ej63_2, ej63_7, ej63_8, q86], (inL_last (X := l1_0) (x := r4))⟩
          · replace hL54 := cd_f hb56 hL54
            refine DWp.exit ?_
            simp only [andThen, leaves, if_true, if_false, reduceIte, Nat.reduceEqDiff]
            obtain rfl := Option.some.inj hL54
            simp only [lr] at hF
            refine DWp.seq ?_
            refine DWp.region fun K hK => ?_
            simp [-aBin', -aBin, -aBinI, -aUn, -aNil, -flatV, n_fn, b_add, b_sub, b_mul, b_lt, b_le, b_gt, b_ge, b_eq, b_ne, u_not, e1_0, e1_1, e1_2, e1_7, e1_8]
            apply hK
            clear hK K
            simp only [andThen, leaves]
            refine DWp.ret ?_
            obtain rfl := Option.some.inj hF
            exact ⟨by simp, [w1_0], by simp [e1_0, e1_1, e1_2, e1_7, e1_8, ((S1_.rd (k := 0) rfl).tup)], A1_, w1_0, D1_0, rfl, S1_.pick [0] (by decide) rfl⟩
  · replace hF := cd_f hb21 hF
    refine DWp.exit ?_
    simp only [andThen, leaves, if_true, if_false, reduceIte, Nat.reduceEqDiff]
    refine DWp.seq ?_
    refine DWp.region fun K hK => ?_
    simp [-aBin', -aBin, -aBinI, -aUn, -aNil, -flatV, n_fn, b_add, b_sub, b_mul, b_lt, b_le, b_gt, b_ge, b_eq, b_ne, u_not]
    apply hK
    clear hK K
    simp only [andThen, leaves]
    refine DWp.ret ?_
    have S88 : Sep G16 (Fr H) [emp, rowsC v8 22 3 [c2_u0] (List.map ints [r1])] := S17.rowsOf1 (j := 1) (k := 0) (by decide) rfl rfl
    obtain rfl := Option.some.inj hF
    exact ⟨by simp, [v8], by simp [((S88.rd (k := 1) rfl).tup)], A18, v8, [c2_u0], rfl, S88.pick [1] (by decide) rfl⟩
def F_impl_ExchangePath (fu : Nat) (x0 : List Int) (x1 : List Int) : Option (List (List Int) × Bool) :=
  bd (F_impl_IsPair fu x0 x1) fun r1 =>
  bif (bnot r1) then
    some ([], false)
  else
    bd (F_impl_path fu x0 x1 (iquo .i64 (llen x0) 2)) fun r2 =>
    some (r2, true)
theorem F_impl_ExchangePath_w {fu : Nat} {H : AH} {v0 : Value} {v1 : Value} {x0 : List Int} {x1 : List Int} {r : (List (List Int) × Bool)} (hx0 : Sl H v0 (ints x0)) (hx1 : Sl H v1 (ints x1)) (hF : F_impl_ExchangePath fu x0 x1 = some r) :
    ACallT Try.prog 42 [v0, v1] H (fun u G => AgB (Fr H) H G ∧ ∃ u0 : Value, ∃ C0 : List Value, u = (Value.tuple #[u0, (Value.bool r.2)]) ∧ Sep G (Fr H) [rowsC u0 22 3 C0 (List.map ints r.1)]) := by
  refine ACallT.of_body (nt := 17) (rs := [.tmp 4, .tmp 5]) Try.func42 rfl rfl rfl rfl ?_
  have A0 : AgB (Fr H) H H := .refl _ _
  have S0 : Sep H (Fr H) [] := .nil
  have hB := Fr.up H
  unfold F_impl_ExchangePath at hF
  refine DWp.seq ?_
  refine DWp.region fun K hK => ?_
  simp [-aBin', -aBin, -aBinI, -aUn, -aNil, -flatV, n_fn, b_add, b_sub, b_mul, b_lt, b_le, b_gt, b_ge, b_eq, b_ne, u_not]
  apply hK
  clear hK K
  simp only [andThen, leaves]
  refine DWp.seq ?_
  refine DWp.seq ?_
  obtain ⟨r1, hc1, hF⟩ := bd_some hF
  refine DWp.region fun K hK => ?_
  simp [-aBin', -aBin, -aBinI, -aUn, -aNil, -flatV, n_fn, b_add, b_sub, b_mul, b_lt, b_le, b_gt, b_ge, b_eq, b_ne, u_not, bu_38 ((hx0.agree A0.agree).tup) ((hx0.agree A0.agree).one) ((hx1.agree A0.agree).tup) ((hx1.agree A0.agree).one), ((hx0.agree A0.agree).tup), ((hx1.agree A0.agree).tup)]
  refine CallD.t (F_impl_IsPair_w (fu := fu) (hx0.agree A0.agree) (hx1.agree A0.agree) hc1) ?_
  rintro _ G3 ⟨a6, rfl, S7⟩
  have A5 := A0.ext (hB.le A0.1) a6.agree
  have S4 : Sep G3 (Fr H) [] := S0.app a6.agree S7 (fun _ h => h) (hB.le A0.1)
  simp [-aBin', -aBin, -aBinI, -aUn, -aNil, -flatV, n_fn, b_add, b_sub, b_mul, b_lt, b_le, b_gt, b_ge, b_eq, b_ne, u_not, bu_38 ((hx0.agree A0.agree).tup) ((hx0.agree A0.agree).one) ((hx1.agree A0.agree).tup) ((hx1.agree A0.agree).one), a6.pre]
  apply hK
  clear hK K
  simp only [andThen, leaves]
  refine DWp.cond' (t := (bnot r1)) (by simp []) (fun hb8 => ?_) (fun hb8 => ?_)
  · replace hF := cd_t hb8 hF
    refine DWp.seq ?_
    refine DWp.region fun K hK => ?_
    simp [-aBin', -aBin, -aBinI, -aUn, -aNil, -flatV, n_fn, b_add, b_sub, b_mul, b_lt, b_le, b_gt, b_ge, b_eq, b_ne, u_not]
    apply hK
    clear hK K
    simp only [andThen, leaves]
    refine DWp.ret ?_
    simp only [andThen, leaves]
    have S9 := S4.rowsNil (hB.le A5.1) 22 3
    obtain rfl := Option.some.inj hF
    exact ⟨by simp, [(Value.slice none 0 0), (Value.bool false)], by simp [], A5, nilV, [], rfl, S9.pick [0] (by decide) rfl⟩
  · replace hF := cd_f hb8 hF
    refine DWp.skip ?_
    simp only [andThen, leaves]
    refine DWp.seq ?_
    have q10 := lenG (P := Try.prog) (hx0.agree A5.agree) el_22
    have g11 : (2 : Int) ≠ 0 := by decide
    obtain ⟨r2, hc12, hF⟩ := bd_some hF
    refine DWp.region fun K hK => ?_
    simp [-aBin', -aBin, -aBinI, -aUn, -aNil, -flatV, n_fn, b_add, b_sub, b_mul, b_lt, b_le, b_gt, b_ge, b_eq, b_ne, u_not, q10, b_quo g11, ((hx0.agree A5.agree).tup), ((hx1.agree A5.agree).tup)]
    refine CallD.t (F_impl_path_w (fu := fu) (hx0.agree A5.agree) (hx1.agree A5.agree) hc12) ?_
    rintro c13_u0 G14 ⟨a17, _, c13_C0, rfl, S18⟩
    have A16 := A5.ext (hB.le A5.1) a17.agree
    have S15 : Sep G14 (Fr H) [rowsC c13_u0 22 3 c13_C0 (List.map ints r2)] := S4.app a17.agree S18 (fun _ h => h) (hB.le A5.1)
    simp [-aBin', -aBin, -aBinI, -aUn, -aNil, -flatV, n_fn, b_add, b_sub, b_mul, b_lt, b_le, b_gt, b_ge, b_eq, b_ne, u_not, q10, b_quo g11, a17.pre]
    apply hK
    clear hK K
    simp only [andThen, leaves]
    refine DWp.ret ?_
    obtain rfl := Option.some.inj hF
    exact ⟨by simp, [c13_u0, (Value.bool true)], by simp [((S15.rd (k := 0) rfl).tup)], A16, c13_u0, c13_C0, rfl, S15.pick [0] (by decide) rfl⟩
def F_laws_FnExactExchangePath (fu : Nat) (x0 : List Int) (x1 : List Int) : Option (Bool) :=
  bif (ilt 1048576 (llen x0)) then
    some true
  else
    bif (ilt 1048576 (llen x1)) then
      some true
    else
      bd (F_laws_toIntS fu x0) fun r1 =>
      bd (F_laws_toIntS fu x1) fun r2 =>
      bd (F_spec_ExchangePath fu r1 r2) fun r3 =>
      bd (F_laws_toIntS fu x0) fun r4 =>
      bd (F_laws_toIntS fu x1) fun r5 =>
      bd (F_impl_ExchangePath fu r4 r5) fun r6 =>
      bd (
        bd (F_laws_eqIntSS fu r6.1 r3.1) fun r7 =>
        bif (bnot r7) then
          some true
        else
          some (bne' r6.2 r3.2)) fun s47 =>
      bif s47 then
        some false
      else
        bd (F_laws_toIntS fu x0) fun r8 =>
        bd (F_laws_eqIntS fu r4 r8) fun r9 =>
        bif (bnot r9) then
          some false
        else
          bd (F_laws_toIntS fu x1) fun r10 =>
          bd (F_laws_eqIntS fu r5 r10) fun r11 =>
          bif (bnot r11) then
            some false
          else
            bd (F_laws_markIntS fu r4 1) fun r12 =>
            bd (F_laws_markIntS fu r5 r12.1) fun r13 =>
            bd (
              bif (ilt r13.1 0) then
                some true
              else
                bd (F_laws_eqIntSS fu r6.1 r3.1) fun r14 =>
                bif (bnot r14) then
                  some true
                else
                  some (bne' r6.2 r3.2)) fun s120 =>
            bif s120 then
              some false
            else
              bd (F_laws_markIntSS fu r6.1 1) fun r15 =>
              bd (F_laws_heldIntSS fu r15.2 1) fun r16 =>
              bif (ilt r16 0) then
                some false
              else
                bif (ine r16 r15.1) then
                  some false
                else
                  bd (F_laws_toIntS fu x0) fun r17 =>
                  bd (F_laws_toIntS fu x1) fun r18 =>
                  bd (F_impl_ExchangePath fu r17 r18) fun r19 =>
                  bd (
                    bd (F_laws_eqIntSS fu r19.1 r3.1) fun r20 =>
                    bif (bnot r20) then
                      some true
                    else
                      some (bne' r19.2 r3.2)) fun s181 =>
                  bif s181 then
                    some false
                  else
                    bd (F_laws_heldIntSS fu r15.2 1) fun r21 =>
                    bif (ilt r21 0) then
                      some false
                    else
                      bif (ine r21 r15.1) then
                        some false
                      else
                        some true
theorem F_laws_FnExactExchangePath_w {fu : Nat} {H : AH} {v0 : Value} {v1 : Value} {x0 : List Int} {x1 : List Int} {r : (Bool)} (hx0 : Sl H v0 (ints x0)) (hx1 : Sl H v1 (ints x1)) (hF : F_laws_FnExactExchangePath fu x0 x1 = some r) :
    ACallT Try.prog 11 [v0, v1] H (fun u G => AgB (Fr H) H G ∧ u = (Value.bool r) ∧ Sep G (Fr H) []) := by
  refine ACallT.of_body (nt := 114) (rs := [.tmp 4]) Try.func11 rfl rfl rfl rfl ?_
  have A0 : AgB (Fr H) H H := .refl _ _
  have S0 : Sep H (Fr H) [] := .nil
  have hB := Fr.up H
  unfold F_laws_FnExactExchangePath at hF
  refine DWp.seq ?_
  refine DWp.region fun K hK => ?_
  simp [-aBin', -aBin, -aBinI, -aUn, -aNil, -flatV, n_fn, b_add, b_sub, b_mul, b_lt, b_le, b_gt, b_ge, b_eq, b_ne, u_not]
  apply hK
  clear hK K
  simp only [andThen, leaves]
  refine DWp.seq ?_
  refine DWp.seq ?_
  have q1 := lenG (P := Try.prog) (hx0.agree A0.agree) el_22
  refine DWp.region fun K hK => ?_
  simp [-aBin', -aBin, -aBinI, -aUn, -aNil, -flatV, n_fn, b_add, b_sub, b_mul, b_lt, b_le, b_gt, b_ge, b_eq, b_ne, u_not, q1]
  apply hK
  clear hK K
  simp only [andThen, leaves]
  refine DWp.cond' (t := (ilt 1048576 (llen x0))) (by simp []) (fun hb2 => ?_) (fun hb2 => ?_)
  · replace hF := cd_t hb2 hF
    refine DWp.seq ?_
    refine DWp.region fun K hK => ?_
    simp [-aBin', -aBin, -aBinI, -aUn, -aNil, -flatV, n_fn, b_add, b_sub, b_mul, b_lt, b_le, b_gt, b_ge, b_eq, b_ne, u_not]
    apply hK
    clear hK K
    simp only [andThen, leaves]
    refine DWp.ret ?_
    simp only [andThen, leaves]
    obtain rfl := Option.some.inj hF
    exact ⟨by simp, [(Value.bool true)], by simp [], A0, rfl, S0.pick [] (by decide) rfl⟩
  · replace hF := cd_f hb2 hF
    refine DWp.skip ?_
    simp only [andThen, leaves]
    refine DWp.seq ?_
    refine DWp.seq ?_
    have q3 := lenG (P := Try.prog) (hx1.agree A0.agree) el_22
    refine DWp.region fun K hK => ?_
    simp [-aBin', -aBin, -aBinI, -aUn, -aNil, -flatV, n_fn, b_add, b_sub, b_mul, b_lt, b_le, b_gt, b_ge, b_eq, b_ne, u_not, q3]
    apply hK
    clear hK K
    simp only [andThen, leaves]
    refine DWp.cond' (t := (ilt 1048576 (llen x1))) (by simp []) (fun hb4 => ?_) (fun hb4 => ?_)
    · replace hF := cd_t hb4 hF
      refine DWp.seq ?_
      refine DWp.region fun K hK => ?_
      simp [-aBin', -aBin, -aBinI, -aUn, -aNil, -flatV, n_fn, b_add, b_sub, b_mul, b_lt, b_le, b_gt, b_ge, b_eq, b_ne, u_not]
      apply hK
      clear hK K
      simp only [andThen, leaves]
      refine DWp.ret ?_
      simp only [andThen, leaves]
      obtain rfl := Option.some.inj hF
      exact ⟨by simp, [(Value.bool true)], by simp [], A0, rfl, S0.pick [] (by decide) rfl⟩
    · replace hF := cd_f hb4 hF
      refine DWp.skip ?_
      simp only [andThen, leaves]
      refine DWp.seq ?_
      obtain ⟨r1, hc5, hF⟩ := bd_some hF
      refine DWp.region fun K hK => ?_
      simp [-aBin', -aBin, -aBinI, -aUn, -aNil, -flatV, n_fn, b_add, b_sub, b_mul, b_lt, b_le, b_gt, b_ge, b_eq, b_ne, u_not, ((hx0.agree A0.agree).tup)]
      refine CallD.t (F_laws_toIntS_w (fu := fu) (hx0.agree A0.agree) hc5) ?_
      rintro c6_u0 G7 ⟨a10, _, rfl, S11⟩
      have A9 := A0.ext (hB.le A0.1) a10.agree
      have S8 : Sep G7 (Fr H) [flat c6_u0 3 (ints r1)] := S0.app a10.agree S11 (fun _ h => h) (hB.le A0.1)
      obtain ⟨r2, hc12, hF⟩ := bd_some hF
      simp [-aBin', -aBin, -aBinI, -aUn, -aNil, -flatV, n_fn, b_add, b_sub, b_mul, b_lt, b_le, b_gt, b_ge, b_eq, b_ne, u_not, a10.pre, ((hx1.agree A9.agree).tup)]
      refine CallD.t (F_laws_toIntS_w (fu := fu) (hx1.agree A9.agree) hc12) ?_
      rintro c13_u0 G14 ⟨a17, _, rfl, S18⟩
      have A16 := A9.ext (hB.le A9.1) a17.agree
      have S15 : Sep G14 (Fr H) [flat c6_u0 3 (ints r1), flat c13_u0 3 (ints r2)] := S8.app a17.agree S18 (fun _ h => h) (hB.le A9.1)
      obtain ⟨r3, hc19, hF⟩ := bd_some hF
      simp [-aBin', -aBin, -aBinI, -aUn, -aNil, -flatV, n_fn, b_add, b_sub, b_mul, b_lt, b_le, b_gt, b_ge, b_eq, b_ne, u_not, a10.pre, a17.pre, ((S15.sl (k := 0) rfl).tup), ((S15.sl (k := 1) rfl).tup)]
      refine CallD.t (F_spec_ExchangePath_w (fu := fu) (S15.sl (k := 0) rfl) (S15.sl (k := 1) rfl) hc19) ?_
      rintro _ G21 ⟨a24, c20_u0, c20_C0, rfl, S25⟩
      have A23 := A16.ext (hB.le A16.1) a24.agree
      have S22 : Sep G21 (Fr H) [flat c6_u0 3 (ints r1), flat c13_u0 3 (ints r2), rowsC c20_u0 22 3 c20_C0 (List.map ints r3.1)] := S15.app a24.agree S25 (fun _ h => h) (hB.le A16.1)
      simp [-aBin', -aBin, -aBinI, -aUn, -aNil, -flatV, n_fn, b_add, b_sub, b_mul, b_lt, b_le, b_gt, b_ge, b_eq, b_ne, u_not, a10.pre, a17.pre, a24.pre]
      apply hK
      clear hK K
      simp only [andThen, leaves]
      refine DWp.seq ?_
      obtain ⟨r4, hc26, hF⟩ := bd_some hF
      refine DWp.region fun K hK => ?_
      simp [-aBin', -aBin, -aBinI, -aUn, -aNil, -flatV, n_fn, b_add, b_sub, b_mul, b_lt, b_le, b_gt, b_ge, b_eq, b_ne, u_not, ((hx0.agree A23.agree).tup)]
      refine CallD.t (F_laws_toIntS_w (fu := fu) (hx0.agree A23.agree) hc26) ?_
      rintro c27_u0 G28 ⟨a31, _, rfl, S32⟩
      have A30 := A23.ext (hB.le A23.1) a31.agree
      have S29 : Sep G28 (Fr H) [flat c6_u0 3 (ints r1), flat c13_u0 3 (ints r2), rowsC c20_u0 22 3 c20_C0 (List.map ints r3.1), flat c27_u0 3 (ints r4)] := S22.app a31.agree S32 (fun _ h => h) (hB.le A23.1)
      simp [-aBin', -aBin, -aBinI, -aUn, -aNil, -flatV, n_fn, b_add, b_sub, b_mul, b_lt, b_le, b_gt, b_ge, b_eq, b_ne, u_not, a31.pre]
      apply hK
      clear hK K
      simp only [andThen, leaves]
      refine DWp.seq ?_
      obtain ⟨r5, hc33, hF⟩ := bd_some hF
      refine DWp.region fun K hK => ?_
      simp [-aBin', -aBin, -aBinI, -aUn, -aNil, -flatV, n_fn, b_add, b_sub, b_mul, b_lt, b_le, b_gt, b_ge, b_eq, b_ne, u_not, ((hx1.agree A30.agree).tup)]
      refine CallD.t (F_laws_toIntS_w (fu := fu) (hx1.agree A30.agree) hc33) ?_
      rintro c34_u0 G35 ⟨a38, _, rfl, S39⟩
      have A37 := A30.ext (hB.le A30.1) a38.agree
      have S36 : Sep G35 (Fr H) [flat c6_u0 3 (ints r1), flat c13_u0 3 (ints r2), rowsC c20_u0 22 3 c20_C0 (List.map ints r3.1), flat c27_u0 3 (ints r4), flat c34_u0 3 (ints r5)] := S29.app a38.agree S39 (fun _ h => h) (hB.le A30.1)
      simp [-aBin', -aBin, -aBinI, -aUn, -aNil, -flatV, n_fn, b_add, b_sub, b_mul, b_lt, b_le, b_gt, b_ge, b_eq, b_ne, u_not, a38.pre]
      apply hK
      clear hK K
      simp only [andThen, leaves]
      refine DWp.seq ?_
      obtain ⟨r6, hc40, hF⟩ := bd_some hF
      refine DWp.region fun K hK => ?_
      simp [-aBin', -aBin, -aBinI, -aUn, -aNil, -flatV, n_fn, b_add, b_sub, b_mul, b_lt, b_le, b_gt, b_ge, b_eq, b_ne, u_not, ((S36.sl (k := 3) rfl).tup), ((S36.sl (k := 4) rfl).tup)]
      refine CallD.t (F_impl_ExchangePath_w (fu := fu) (S36.sl (k := 3) rfl) (S36.sl (k := 4) rfl) hc40) ?_
      rintro _ G42 ⟨a45, c41_u0, c41_C0, rfl, S46⟩
      have A44 := A37.ext (hB.le A37.1) a45.agree
      have S43 : Sep G42 (Fr H) [flat c6_u0 3 (ints r1), flat c13_u0 3 (ints r2), rowsC c20_u0 22 3 c20_C0 (List.map ints r3.1), flat c27_u0 3 (ints r4), flat c34_u0 3 (ints r5), rowsC c41_u0 22 3 c41_C0 (List.map ints r6.1)] := S36.app a45.agree S46 (fun _ h => h) (hB.le A37.1)
      simp [-aBin', -aBin, -aBinI, -aUn, -aNil, -flatV, n_fn, b_add, b_sub, b_mul, b_lt, b_le, b_gt, b_ge, b_eq, b_ne, u_not, a45.pre]
      apply hK
      clear hK K
      simp only [andThen, leaves]
      refine DWp.seq ?_
      obtain ⟨s47, hL48, hF⟩ := bd_some hF
      refine DWp.seq (DWp.join (fun env G => Sep G (Fr H) [rowsC c20_u0 22 3 c20_C0 (List.map ints r3.1), flat c27_u0 3 (ints r4), flat c34_u0 3 (ints r5), rowsC c41_u0 22 3 c41_C0 (List.map ints r6.1)] ∧ AgB (Fr H) H G ∧ env 0 = some v0 ∧ env 1 = some v1 ∧ env 5 = some c20_u0 ∧ env 6 = some (Value.bool r3.2) ∧ env 7 = some c27_u0 ∧ env 8 = some c34_u0 ∧ env 9 = some c41_u0 ∧ env 10 = some (Value.bool r6.2) ∧ env 48 = some (Value.bool s47)) ?_ ?_)
      ·
        obtain ⟨r7, hc50, hL48⟩ := bd_some hL48
        refine DWp.region fun K hK => ?_
        simp [-aBin', -aBin, -aBinI, -aUn, -aNil, -flatV, n_fn, b_add, b_sub, b_mul, b_lt, b_le, b_gt, b_ge, b_eq, b_ne, u_not, ((S43.rd (k := 5) rfl).tup), ((S43.rd (k := 2) rfl).tup)]
        refine CallD.t (F_laws_eqIntSS_w (fu := fu) ((S43.rd (k := 5) rfl).slsl) ((S43.rd (k := 2) rfl).slsl) hc50) ?_
        rintro _ G52 ⟨a55, rfl, S56⟩
        have A54 := A44.ext (hB.le A44.1) a55.agree
        have S53 : Sep G52 (Fr H) [flat c6_u0 3 (ints r1), flat c13_u0 3 (ints r2), rowsC c20_u0 22 3 c20_C0 (List.map ints r3.1), flat c27_u0 3 (ints r4), flat c34_u0 3 (ints r5), rowsC c41_u0 22 3 c41_C0 (List.map ints r6.1)] := S43.app a55.agree S56 (fun _ h => h) (hB.le A44.1)
        rcases Bool.eq_false_or_eq_true (bnot r7) with hb57 | hb57
        · replace hL48 := cd_t hb57 hL48
          simp [-aBin', -aBin, -aBinI, -aUn, -aNil, -flatV, n_fn, b_add, b_sub, b_mul, b_lt, b_le, b_gt, b_ge, b_eq, b_ne, u_not, hb57, a55.pre]
          apply hK
          clear hK K
          simp only [andThen, leaves]
          have S58 := S53.pick [2, 3, 4, 5] (by decide) rfl
          obtain rfl := Option.some.inj hL48
          exact ⟨S58, A54, by simp [], by simp [], by simp [], by simp [], by simp [], by simp [], by simp [], by simp [], by simp []⟩
        · replace hL48 := cd_f hb57 hL48
          simp [-aBin', -aBin, -aBinI, -aUn, -aNil, -flatV, n_fn, b_add, b_sub, b_mul, b_lt, b_le, b_gt, b_ge, b_eq, b_ne, u_not, hb57, a55.pre, b_bne un_4]
          apply hK
          clear hK K
          simp only [andThen, leaves]
          have S59 := S53.pick [2, 3, 4, 5] (by decide) rfl
          obtain rfl := Option.some.inj hL48
          exact ⟨S59, A54, by simp [], by simp [], by simp [], by simp [], by simp [], by simp [], by simp [], by simp [], by simp []⟩
      · rintro env Gj60 ⟨Sj60, Aj60, ej60_0, ej60_1, ej60_5, ej60_6, ej60_7, ej60_8, ej60_9, ej60_10, ej60_48⟩
        refine DWp.cond' (t := s47) (by simp [ej60_0, ej60_1, ej60_5, ej60_6, ej60_7, ej60_8, ej60_9, ej60_10, ej60_48]) (fun hb61 => ?_) (fun hb61 => ?_)
        · replace hF := cd_t hb61 hF
          refine DWp.seq ?_
          refine DWp.region fun K hK => ?_
          simp [-aBin', -aBin, -aBinI, -aUn, -aNil, -flatV, n_fn, b_add, b_sub, b_mul, b_lt, b_le, b_gt, b_ge, b_eq, b_ne, u_not, ej60_0, ej60_1, ej60_5, ej60_6, ej60_7, ej60_8, ej60_9, ej60_10, ej60_48]
          apply hK
          clear hK K
          simp only [andThen, leaves]
          refine DWp.ret ?_
          simp only [andThen, leaves]
          obtain rfl := Option.some.inj hF
          exact ⟨by simp, [(Value.bool false)], by simp [ej60_0, ej60_1, ej60_5, ej60_6, ej60_7, ej60_8, ej60_9, ej60_10, ej60_48], Aj60, rfl, Sj60.pick [] (by decide) rfl⟩
        · replace hF := cd_f hb61 hF
          refine DWp.skip ?_
          simp only [andThen, leaves]
          refine DWp.seq ?_
          refine DWp.seq ?_
          obtain ⟨r8, hc62, hF⟩ := bd_some hF
          refine DWp.region fun K hK => ?_
          simp [-aBin', -aBin, -aBinI, -aUn, -aNil, -flatV, n_fn, b_add, b_sub, b_mul, b_lt, b_le, b_gt, b_ge, b_eq, b_ne, u_not, ej60_0, ej60_1, ej60_5, ej60_6, ej60_7, ej60_8, ej60_9, ej60_10, ej60_48, ((hx0.agree Aj60.agree).tup)]
          refine CallD.t (F_laws_toIntS_w (fu := fu) (hx0.agree Aj60.agree) hc62) ?_
          rintro c63_u0 G64 ⟨a67, _, rfl, S68⟩
          have A66 := Aj60.ext (hB.le Aj60.1) a67.agree
          have S65 : Sep G64 (Fr H) [rowsC c20_u0 22 3 c20_C0 (List.map ints r3.1), flat c27_u0 3 (ints r4), flat c34_u0 3 (ints r5), rowsC c41_u0 22 3 c41_C0 (List.map ints r6.1), flat c63_u0 3 (ints r8)] := Sj60.app a67.agree S68 (fun _ h => h) (hB.le Aj60.1)
          obtain ⟨r9, hc69, hF⟩ := bd_some hF
          simp [-aBin', -aBin, -aBinI, -aUn, -aNil, -flatV, n_fn, b_add, b_sub, b_mul, b_lt, b_le, b_gt, b_ge, b_eq, b_ne, u_not, ej60_0, ej60_1, ej60_5, ej60_6, ej60_7, ej60_8, ej60_9, ej60_10, ej60_48, a67.pre, ((S65.sl (k := 1) rfl).tup), ((S65.sl (k := 4) rfl).tup)]
          refine CallD.t (F_laws_eqIntS_w (fu := fu) (S65.sl (k := 1) rfl) (S65.sl (k := 4) rfl) hc69) ?_
          rintro _ G71 ⟨a74, rfl, S75⟩
          have A73 := A66.ext (hB.le A66.1) a74.agree
          have S72 : Sep G71 (Fr H) [rowsC c20_u0 22 3 c20_C0 (List.map ints r3.1), flat c27_u0 3 (ints r4), flat c34_u0 3 (ints r5), rowsC c41_u0 22 3 c41_C0 (List.map ints r6.1), flat c63_u0 3 (ints r8)] := S65.app a74.agree S75 (fun _ h => h) (hB.le A66.1)
          simp [-aBin', -aBin, -aBinI, -aUn, -aNil, -flatV, n_fn, b_add, b_sub, b_mul, b_lt, b_le, b_gt, b_ge, b_eq, b_ne, u_not, ej60_0, ej60_1, ej60_5, ej60_6, ej60_7, ej60_8, ej60_9, ej60_10, ej60_48, a67.pre, a74.pre]
          apply hK
          clear hK K
          simp only [andThen, leaves]
          refine DWp.cond' (t := (bnot r9)) (by simp [ej60_0, ej60_1, ej60_5, ej60_6, ej60_7, ej60_8, ej60_9, ej60_10, ej60_48]) (fun hb76 => ?_) (fun hb76 => ?_)
          · replace hF := cd_t hb76 hF
            refine DWp.seq ?_
            refine DWp.region fun K hK => ?_
            simp [-aBin', -aBin, -aBinI, -aUn, -aNil, -flatV, n_fn, b_add, b_sub, b_mul, b_lt, b_le, b_gt, b_ge, b_eq, b_ne, u_not, ej60_0, ej60_1, ej60_5, ej60_6, ej60_7, ej60_8, ej60_9, ej60_10, ej60_48]
            apply hK
            clear hK K
            simp only [andThen, leaves]
            refine DWp.ret ?_
            simp only [andThen, leaves]
            obtain rfl := Option.some.inj hF
            exact ⟨by simp, [(Value.bool false)], by simp [ej60_0, ej60_1, ej60_5, ej60_6, ej60_7, ej60_8, ej60_9, ej60_10, ej60_48], A73, rfl, S72.pick [] (by decide) rfl⟩
          · replace hF := cd_f hb76 hF
            refine DWp.skip ?_
            simp only [andThen, leaves]
            refine DWp.seq ?_
            refine DWp.seq ?_
            obtain ⟨r10, hc77, hF⟩ := bd_some hF
            refine DWp.region fun K hK => ?_
            simp [-aBin', -aBin, -aBinI, -aUn, -aNil, -flatV, n_fn, b_add, b_sub, b_mul, b_lt, b_le, b_gt, b_ge, b_eq, b_ne, u_not, ej60_0, ej60_1, ej60_5, ej60_6, ej60_7, ej60_8, ej60_9, ej60_10, ej60_48, ((hx1.agree A73.agree).tup)]
            refine CallD.t (F_laws_toIntS_w (fu := fu) (hx1.agree A73.agree) hc77) ?_
            rintro c78_u0 G79 ⟨a82, _, rfl, S83⟩
            have A81 := A73.ext (hB.le A73.1) a82.agree
            have S80 : Sep G79 (Fr H) [rowsC c20_u0 22 3 c20_C0 (List.map ints r3.1), flat c27_u0 3 (ints r4), flat c34_u0 3 (ints r5), rowsC c41_u0 22 3 c41_C0 (List.map ints r6.1), flat c63_u0 3 (ints r8), flat c78_u0 3 (ints r10)] := S72.app a82.agree S83 (fun _ h => h) (hB.le A73.1)
            obtain ⟨r11, hc84, hF⟩ := bd_some hF
            simp [-aBin', -aBin, -aBinI, -aUn, -aNil, -flatV, n_fn, b_add, b_sub, b_mul, b_lt, b_le, b_gt, b_ge, b_eq, b_ne, u_not, ej60_0, ej60_1, ej60_5, ej60_6, ej60_7, ej60_8, ej60_9, ej60_10, ej60_48, a82.pre, ((S80.sl (k := 2) rfl).tup), ((S80.sl (k := 5) rfl).tup)]
            refine CallD.t (F_laws_eqIntS_w (fu := fu) (S80.sl (k := 2) rfl) (S80.sl (k := 5) rfl) hc84) ?_
            rintro _ G86 ⟨a89, rfl, S90⟩
            have A88 := A81.ext (hB.le A81.1) a89.agree
            have S87 : Sep G86 (Fr H) [rowsC c20_u0 22 3 c20_C0 (List.map ints r3.1), flat c27_u0 3 (ints r4), flat c34_u0 3 (ints r5), rowsC c41_u0 22 3 c41_C0 (List.map ints r6.1), flat c63_u0 3 (ints r8), flat c78_u0 3 (ints r10)] := S80.app a89.agree S90 (fun _ h => h) (hB.le A81.1)
            simp [-aBin', -aBin, -aBinI, -aUn, -aNil, -flatV, n_fn, b_add, b_sub, b_mul, b_lt, b_le, b_gt, b_ge, b_eq, b_ne, u_not, ej60_0, ej60_1, ej60_5, ej60_6, ej60_7, ej60_8, ej60_9, ej60_10, ej60_48, a82.pre, a89.pre]
            apply hK
            clear hK K
            simp only [andThen, leaves]
            refine DWp.cond' (t := (bnot r11)) (by simp [ej60_0, ej60_1, ej60_5, ej60_6, ej60_7, ej60_8, ej60_9, ej60_10, ej60_48]) (fun hb91 => ?_) (fun hb91 => ?_)
            · replace hF := cd_t hb91 hF
              refine DWp.seq ?_
              refine DWp.region fun K hK => ?_
              simp [-aBin', -aBin, -aBinI, -aUn, -aNil, -flatV, n_fn, b_add, b_sub, b_mul, b_lt, b_le, b_gt, b_ge, b_eq, b_ne, u_not, ej60_0, ej60_1, ej60_5, ej60_6, ej60_7, ej60_8, ej60_9, ej60_10, ej60_48]
              apply hK
              clear hK K
              simp only [andThen, leaves]
              refine DWp.ret ?_
              simp only [andThen, leaves]
              obtain rfl := Option.some.inj hF
              exact ⟨by simp, [(Value.bool false)], by simp [ej60_0, ej60_1, ej60_5, ej60_6, ej60_7, ej60_8, ej60_9, ej60_10, ej60_48], A88, rfl, S87.pick [] (by decide) rfl⟩
            · replace hF := cd_f hb91 hF
              refine DWp.skip ?_
              simp only [andThen, leaves]
              refine DWp.seq ?_
              refine DWp.region fun K hK => ?_
              simp [-aBin', -aBin, -aBinI, -aUn, -aNil, -flatV, n_fn, b_add, b_sub, b_mul, b_lt, b_le, b_gt, b_ge, b_eq, b_ne, u_not, ej60_0, ej60_1, ej60_5, ej60_6, ej60_7, ej60_8, ej60_9, ej60_10, ej60_48]
              apply hK
              clear hK K
              simp only [andThen, leaves]
              refine DWp.seq ?_
              obtain ⟨r12, hc92, hF⟩ := bd_some hF
              refine DWp.region fun K hK => ?_
              simp [-aBin', -aBin, -aBinI, -aUn, -aNil, -flatV, n_fn, b_add, b_sub, b_mul, b_lt, b_le, b_gt, b_ge, b_eq, b_ne, u_not, ej60_0, ej60_1, ej60_5, ej60_6, ej60_7, ej60_8, ej60_9, ej60_10, ej60_48, ((S87.sl (k := 1) rfl).tup)]
              have S93 : Sep G86 (Fr H) ([flat c27_u0 3 (ints r4)] ++ [rowsC c20_u0 22 3 c20_C0 (List.map ints r3.1), flat c34_u0 3 (ints r5), rowsC c41_u0 22 3 c41_C0 (List.map ints r6.1), flat c63_u0 3 (ints r8), flat c78_u0 3 (ints r10)]) := S87.pick [1, 0, 2, 3, 4, 5] (by decide) rfl
              obtain ⟨B99, S94, U95, M96, R97, C98⟩ := S93.frame (hB.le A88.1)
              refine CallD.t (F_laws_markIntS_w (fu := fu) U95 S94 hc92) ?_
              rintro _ G101 ⟨a104, rfl, S105⟩
              have A103 := A88.trans (a104.mono M96)
              have S102 : Sep G101 (Fr H) [flat c27_u0 3 (ints r12.2), rowsC c20_u0 22 3 c20_C0 (List.map ints r3.1), flat c34_u0 3 (ints r5), rowsC c41_u0 22 3 c41_C0 (List.map ints r6.1), flat c63_u0 3 (ints r8), flat c78_u0 3 (ints r10)] := C98 _ _ a104 S105
              simp [-aBin', -aBin, -aBinI, -aUn, -aNil, -flatV, n_fn, b_add, b_sub, b_mul, b_lt, b_le, b_gt, b_ge, b_eq, b_ne, u_not, ej60_0, ej60_1, ej60_5, ej60_6, ej60_7, ej60_8, ej60_9, ej60_10, ej60_48]
              apply hK
              clear hK K
              simp only [andThen, leaves]
              refine DWp.seq ?_
              obtain ⟨r13, hc106, hF⟩ := bd_some hF
              refine DWp.region fun K hK => ?_
              simp [-aBin', -aBin, -aBinI, -aUn, -aNil, -flatV, n_fn, b_add, b_sub, b_mul, b_lt, b_le, b_gt, b_ge, b_eq, b_ne, u_not, ej60_0, ej60_1, ej60_5, ej60_6, ej60_7, ej60_8, ej60_9, ej60_10, ej60_48, ((S102.sl (k := 2) rfl).tup)]
              have S107 : Sep G101 (Fr H) ([flat c34_u0 3 (ints r5)] ++ [flat c27_u0 3 (ints r12.2), rowsC c20_u0 22 3 c20_C0 (List.map ints r3.1), rowsC c41_u0 22 3 c41_C0 (List.map ints r6.1), flat c63_u0 3 (ints r8), flat c78_u0 3 (ints r10)]) := S102.pick [2, 0, 1, 3, 4, 5] (by decide) rfl
              obtain ⟨B113, S108, U109, M110, R111, C112⟩ := S107.frame (hB.le A103.1)
              refine CallD.t (F_laws_markIntS_w (fu := fu) U109 S108 hc106) ?_
              rintro _ G115 ⟨a118, rfl, S119⟩
              have A117 := A103.trans (a118.mono M110)
              have S116 : Sep G115 (Fr H) [flat c34_u0 3 (ints r13.2), flat c27_u0 3 (ints r12.2), rowsC c20_u0 22 3 c20_C0 (List.map ints r3.1), rowsC c41_u0 22 3 c41_C0 (List.map ints r6.1), flat c63_u0 3 (ints r8), flat c78_u0 3 (ints r10)] := C112 _ _ a118 S119
              simp [-aBin', -aBin, -aBinI, -aUn, -aNil, -flatV, n_fn, b_add, b_sub, b_mul, b_lt, b_le, b_gt, b_ge, b_eq, b_ne, u_not, ej60_0, ej60_1, ej60_5, ej60_6, ej60_7, ej60_8, ej60_9, ej60_10, ej60_48]
              apply hK
              clear hK K
              simp only [andThen, leaves]
              refine DWp.seq ?_
              obtain ⟨s120, hL121, hF⟩ := bd_some hF
              refine DWp.seq (DWp.join (fun env G => Sep G (Fr H) [rowsC c20_u0 22 3 c20_C0 (List.map ints r3.1), rowsC c41_u0 22 3 c41_C0 (List.map ints r6.1)] ∧ AgB (Fr H) H G ∧ env 0 = some v0 ∧ env 1 = some v1 ∧ env 5 = some c20_u0 ∧ env 6 = some (Value.bool r3.2) ∧ env 9 = some c41_u0 ∧ env 77 = some (Value.bool s120)) ?_ ?_)
              ·
                rcases Bool.eq_false_or_eq_true (ilt r13.1 0) with hb123 | hb123
                · replace hL121 := cd_t hb123 hL121
                  refine DWp.region fun K hK => ?_
                  simp [-aBin', -aBin, -aBinI, -aUn, -aNil, -flatV, n_fn, b_add, b_sub, b_mul, b_lt, b_le, b_gt, b_ge, b_eq, b_ne, u_not, ej60_0, ej60_1, ej60_5, ej60_6, ej60_7, ej60_8, ej60_9, ej60_10, ej60_48, hb123]
                  apply hK
                  clear hK K
                  simp only [andThen, leaves]
                  have S124 := S116.pick [2, 3] (by decide) rfl
                  obtain rfl := Option.some.inj hL121
                  exact ⟨S124, A117, by simp [ej60_0, ej60_1, ej60_5, ej60_6, ej60_7, ej60_8, ej60_9, ej60_10, ej60_48], by simp [ej60_0, ej60_1, ej60_5, ej60_6, ej60_7, ej60_8, ej60_9, ej60_10, ej60_48], by simp [ej60_0, ej60_1, ej60_5, ej60_6, ej60_7, ej60_8, ej60_9, ej60_10, ej60_48], by simp [ej60_0, ej60_1, ej60_5, ej60_6, ej60_7, ej60_8, ej60_9, ej60_10, ej60_48], by simp [ej60_0, ej60_1, ej60_5, ej60_6, ej60_7, ej60_8, ej60_9, ej60_10, ej60_48], by simp [ej60_0, ej60_1, ej60_5, ej60_6, ej60_7, ej60_8, ej60_9, ej60_10, ej60_48]⟩
                · replace hL121 := cd_f hb123 hL121
                  obtain ⟨r14, hc125, hL121⟩ := bd_some hL121
                  refine DWp.region fun K hK => ?_
                  simp [-aBin', -aBin, -aBinI, -aUn, -aNil, -flatV, n_fn, b_add, b_sub, b_mul, b_lt, b_le, b_gt, b_ge, b_eq, b_ne, u_not, ej60_0, ej60_1, ej60_5, ej60_6, ej60_7, ej60_8, ej60_9, ej60_10, ej60_48, hb123, ((S116.rd (k := 3) rfl).tup), ((S116.rd (k := 2) rfl).tup)]
                  refine CallD.t (F_laws_eqIntSS_w (fu := fu) ((S116.rd (k := 3) rfl).slsl) ((S116.rd (k := 2) rfl).slsl) hc125) ?_
                  rintro _ G127 ⟨a130, rfl, S131⟩
                  have A129 := A117.ext (hB.le A117.1) a130.agree
                  have S128 : Sep G127 (Fr H) [flat c34_u0 3 (ints r13.2), flat c27_u0 3 (ints r12.2), rowsC c20_u0 22 3 c20_C0 (List.map ints r3.1), rowsC c41_u0 22 3 c41_C0 (List.map ints r6.1), flat c63_u0 3 (ints r8), flat c78_u0 3 (ints r10)] := S116.app a130.agree S131 (fun _ h => h) (hB.le A117.1)
                  rcases Bool.eq_false_or_eq_true (bnot r14) with hb132 | hb132
                  · replace hL121 := cd_t hb132 hL121
                    simp [-aBin', -aBin, -aBinI, -aUn, -aNil, -flatV, n_fn, b_add, b_sub, b_mul, b_lt, b_le, b_gt, b_ge, b_eq, b_ne, u_not, ej60_0, ej60_1, ej60_5, ej60_6, ej60_7, ej60_8, ej60_9, ej60_10, ej60_48, hb123, hb132, a130.pre]
                    apply hK
                    clear hK K
                    simp only [andThen, leaves]
                    have S133 := S128.pick [2, 3] (by decide) rfl
                    obtain rfl := Option.some.inj hL121
                    exact ⟨S133, A129, by simp [ej60_0, ej60_1, ej60_5, ej60_6, ej60_7, ej60_8, ej60_9, ej60_10, ej60_48], by simp [ej60_0, ej60_1, ej60_5, ej60_6, ej60_7, ej60_8, ej60_9, ej60_10, ej60_48], by simp [ej60_0, ej60_1, ej60_5, ej60_6, ej60_7, ej60_8, ej60_9, ej60_10, ej60_48], by simp [ej60_0, ej60_1, ej60_5, ej60_6, ej60_7, ej60_8, ej60_9, ej60_10, ej60_48], by simp [ej60_0, ej60_1, ej60_5, ej60_6, ej60_7, ej60_8, ej60_9, ej60_10, ej60_48], by simp [ej60_0, ej60_1, ej60_5, ej60_6, ej60_7, ej60_8, ej60_9, ej60_10, ej60_48]⟩
                  · replace hL121 := cd_f hb132 hL121
                    simp [-aBin', -aBin, -aBinI, -aUn, -aNil, -flatV, n_fn, b_add, b_sub, b_mul, b_lt, b_le, b_gt, b_ge, b_eq, b_ne, u_not, ej60_0, ej60_1, ej60_5, ej60_6, ej60_7, ej60_8, ej60_9, ej60_10, ej60_48, hb123, hb132, a130.pre, b_bne un_4]
                    apply hK
                    clear hK K
                    simp only [andThen, leaves]
                    have S134 := S128.pick [2, 3] (by decide) rfl
                    obtain rfl := Option.some.inj hL121
                    exact ⟨S134, A129, by simp [ej60_0, ej60_1, ej60_5, ej60_6, ej60_7, ej60_8, ej60_9, ej60_10, ej60_48], by simp [ej60_0, ej60_1, ej60_5, ej60_6, ej60_7, ej60_8, ej60_9, ej60_10, ej60_48], by simp [ej60_0, ej60_1, ej60_5, ej60_6, ej60_7, ej60_8, ej60_9, ej60_10, ej60_48], by simp [ej60_0, ej60_1, ej60_5, ej60_6, ej60_7, ej60_8, ej60_9, ej60_10, ej60_48], by simp [ej60_0, ej60_1, ej60_5, ej60_6, ej60_7, ej60_8, ej60_9, ej60_10, ej60_48], by simp [ej60_0, ej60_1, ej60_5, ej60_6, ej60_7, ej60_8, ej60_9, ej60_10, ej60_48]⟩
              · rintro env Gj135 ⟨Sj135, Aj135, ej135_0, ej135_1, ej135_5, ej135_6, ej135_9, ej135_77⟩
                refine DWp.cond' (t := s120) (by simp [ej135_0, ej135_1, ej135_5, ej135_6, ej135_9, ej135_77]) (fun hb136 => ?_) (fun hb136 => ?_)
                · replace hF := cd_t hb136 hF
                  refine DWp.seq ?_
                  refine DWp.region fun K hK => ?_
                  simp [-aBin', -aBin, -aBinI, -aUn, -aNil, -flatV, n_fn, b_add, b_sub, b_mul, b_lt, b_le, b_gt, b_ge, b_eq, b_ne, u_not, ej135_0, ej135_1, ej135_5, ej135_6, ej135_9, ej135_77]
                  apply hK
                  clear hK K
                  simp only [andThen, leaves]
                  refine DWp.ret ?_
                  simp only [andThen, leaves]
                  obtain rfl := Option.some.inj hF
                  exact ⟨by simp, [(Value.bool false)], by simp [ej135_0, ej135_1, ej135_5, ej135_6, ej135_9, ej135_77], Aj135, rfl, Sj135.pick [] (by decide) rfl⟩
                · replace hF := cd_f hb136 hF
                  refine DWp.skip ?_
                  simp only [andThen, leaves]
                  refine DWp.seq ?_
                  refine DWp.region fun K hK => ?_
                  simp [-aBin', -aBin, -aBinI, -aUn, -aNil, -flatV, n_fn, b_add, b_sub, b_mul, b_lt, b_le, b_gt, b_ge, b_eq, b_ne, u_not, ej135_0, ej135_1, ej135_5, ej135_6, ej135_9, ej135_77]
                  apply hK
                  clear hK K
                  simp only [andThen, leaves]
                  refine DWp.seq ?_
                  obtain ⟨r15, hc137, hF⟩ := bd_some hF
                  refine DWp.region fun K hK => ?_
                  simp [-aBin', -aBin, -aBinI, -aUn, -aNil, -flatV, n_fn, b_add, b_sub, b_mul, b_lt, b_le, b_gt, b_ge, b_eq, b_ne, u_not, ej135_0, ej135_1, ej135_5, ej135_6, ej135_9, ej135_77, ((Sj135.rd (k := 1) rfl).tup)]
                  have S138 : Sep Gj135 (Fr H) ([rowsC c41_u0 22 3 c41_C0 (List.map ints r6.1)] ++ [rowsC c20_u0 22 3 c20_C0 (List.map ints r3.1)]) := Sj135.pick [1, 0] (by decide) rfl
                  obtain ⟨B144, S139, U140, M141, R142, C143⟩ := S138.frame (hB.le Aj135.1)
                  refine CallD.t (F_laws_markIntSS_w (fu := fu) U140 S139 hc137) ?_
                  rintro _ G146 ⟨a149, c145_Cz0, rfl, S150⟩
                  have A148 := Aj135.trans (a149.mono M141)
                  have S147 : Sep G146 (Fr H) [rowsC c41_u0 22 3 c145_Cz0 (List.map ints r15.2), rowsC c20_u0 22 3 c20_C0 (List.map ints r3.1)] := C143 _ _ a149 S150
                  simp [-aBin', -aBin, -aBinI, -aUn, -aNil, -flatV, n_fn, b_add, b_sub, b_mul, b_lt, b_le, b_gt, b_ge, b_eq, b_ne, u_not, ej135_0, ej135_1, ej135_5, ej135_6, ej135_9, ej135_77]
                  apply hK
                  clear hK K
                  simp only [andThen, leaves]
                  refine DWp.seq ?_
                  refine DWp.region fun K hK => ?_
                  simp [-aBin', -aBin, -aBinI, -aUn, -aNil, -flatV, n_fn, b_add, b_sub, b_mul, b_lt, b_le, b_gt, b_ge, b_eq, b_ne, u_not, ej135_0, ej135_1, ej135_5, ej135_6, ej135_9, ej135_77]
                  apply hK
                  clear hK K
                  simp only [andThen, leaves]
                  refine DWp.seq ?_
                  obtain ⟨r16, hc151, hF⟩ := bd_some hF
                  refine DWp.region fun K hK => ?_
                  simp [-aBin', -aBin, -aBinI, -aUn, -aNil, -flatV, n_fn, b_add, b_sub, b_mul, b_lt, b_le, b_gt, b_ge, b_eq, b_ne, u_not, ej135_0, ej135_1, ej135_5, ej135_6, ej135_9, ej135_77, ((S147.rd (k := 0) rfl).tup)]
                  refine CallD.t (F_laws_heldIntSS_w (fu := fu) ((S147.rd (k := 0) rfl).slsl) hc151) ?_
                  rintro _ G153 ⟨a156, rfl, S157⟩
                  have A155 := A148.ext (hB.le A148.1) a156.agree
                  have S154 : Sep G153 (Fr H) [rowsC c41_u0 22 3 c145_Cz0 (List.map ints r15.2), rowsC c20_u0 22 3 c20_C0 (List.map ints r3.1)] := S147.app a156.agree S157 (fun _ h => h) (hB.le A148.1)
                  simp [-aBin', -aBin, -aBinI, -aUn, -aNil, -flatV, n_fn, b_add, b_sub, b_mul, b_lt, b_le, b_gt, b_ge, b_eq, b_ne, u_not, ej135_0, ej135_1, ej135_5, ej135_6, ej135_9, ej135_77, a156.pre]
                  apply hK
                  clear hK K
                  simp only [andThen, leaves]
                  refine DWp.seq ?_
                  refine DWp.seq ?_
                  refine DWp.region fun K hK => ?_
                  simp [-aBin', -aBin, -aBinI, -aUn, -aNil, -flatV, n_fn, b_add, b_sub, b_mul, b_lt, b_le, b_gt, b_ge, b_eq, b_ne, u_not, ej135_0, ej135_1, ej135_5, ej135_6, ej135_9, ej135_77]
                  apply hK
                  clear hK K
                  simp only [andThen, leaves]
                  refine DWp.cond' (t := (ilt r16 0)) (by simp [ej135_0, ej135_1, ej135_5, ej135_6, ej135_9, ej135_77]) (fun hb158 => ?_) (fun hb158 => ?_)
                  · replace hF := cd_t hb158 hF
                    refine DWp.seq ?_
                    refine DWp.region fun K hK => ?_
                    simp [-aBin', -aBin, -aBinI, -aUn, -aNil, -flatV, n_fn, b_add, b_sub, b_mul, b_lt, b_le, b_gt, b_ge, b_eq, b_ne, u_not, ej135_0, ej135_1, ej135_5, ej135_6, ej135_9, ej135_77]
                    apply hK
                    clear hK K
                    simp only [andThen, leaves]
                    refine DWp.ret ?_
                    simp only [andThen, leaves]
                    obtain rfl := Option.some.inj hF
                    exact ⟨by simp, [(Value.bool false)], by simp [ej135_0, ej135_1, ej135_5, ej135_6, ej135_9, ej135_77], A155, rfl, S154.pick [] (by decide) rfl⟩
                  · replace hF := cd_f hb158 hF
                    refine DWp.skip ?_
                    simp only [andThen, leaves]
                    refine DWp.seq ?_
                    refine DWp.seq ?_
                    refine DWp.region fun K hK => ?_
                    simp [-aBin', -aBin, -aBinI, -aUn, -aNil, -flatV, n_fn, b_add, b_sub, b_mul, b_lt, b_le, b_gt, b_ge, b_eq, b_ne, u_not, ej135_0, ej135_1, ej135_5, ej135_6, ej135_9, ej135_77]
                    apply hK
                    clear hK K
                    simp only [andThen, leaves]
                    refine DWp.cond' (t := (ine r16 r15.1)) (by simp [ej135_0, ej135_1, ej135_5, ej135_6, ej135_9, ej135_77]) (fun hb159 => ?_) (fun hb159 => ?_)
                    · replace hF := cd_t hb159 hF
                      refine DWp.seq ?_
                      refine DWp.region fun K hK => ?_
                      simp [-aBin', -aBin, -aBinI, -aUn, -aNil, -flatV, n_fn, b_add, b_sub, b_mul, b_lt, b_le, b_gt, b_ge, b_eq, b_ne, u_not, ej135_0, ej135_1, ej135_5, ej135_6, ej135_9, ej135_77]
                      apply hK
                      clear hK K
                      simp only [andThen, leaves]
                      refine DWp.ret ?_
                      simp only [andThen, leaves]
                      obtain rfl := Option.some.inj hF
                      exact ⟨by simp, [(Value.bool false)], by simp [ej135_0, ej135_1, ej135_5, ej135_6, ej135_9, ej135_77], A155, rfl, S154.pick [] (by decide) rfl⟩
                    · replace hF := cd_f hb159 hF
                      refine DWp.skip ?_
                      simp only [andThen, leaves]
                      refine DWp.seq ?_
                      obtain ⟨r17, hc160, hF⟩ := bd_some hF
                      refine DWp.region fun K hK => ?_
                      simp [-aBin', -aBin, -aBinI, -aUn, -aNil, -flatV, n_fn, b_add, b_sub, b_mul, b_lt, b_le, b_gt, b_ge, b_eq, b_ne, u_not, ej135_0, ej135_1, ej135_5, ej135_6, ej135_9, ej135_77, ((hx0.agree A155.agree).tup)]
                      refine CallD.t (F_laws_toIntS_w (fu := fu) (hx0.agree A155.agree) hc160) ?_
                      rintro c161_u0 G162 ⟨a165, _, rfl, S166⟩
                      have A164 := A155.ext (hB.le A155.1) a165.agree
                      have S163 : Sep G162 (Fr H) [rowsC c41_u0 22 3 c145_Cz0 (List.map ints r15.2), rowsC c20_u0 22 3 c20_C0 (List.map ints r3.1), flat c161_u0 3 (ints r17)] := S154.app a165.agree S166 (fun _ h => h) (hB.le A155.1)
                      obtain ⟨r18, hc167, hF⟩ := bd_some hF
                      simp [-aBin', -aBin, -aBinI, -aUn, -aNil, -flatV, n_fn, b_add, b_sub, b_mul, b_lt, b_le, b_gt, b_ge, b_eq, b_ne, u_not, ej135_0, ej135_1, ej135_5, ej135_6, ej135_9, ej135_77, a165.pre, ((hx1.agree A164.agree).tup)]
                      refine CallD.t (F_laws_toIntS_w (fu := fu) (hx1.agree A164.agree) hc167) ?_
                      rintro c168_u0 G169 ⟨a172, _, rfl, S173⟩
                      have A171 := A164.ext (hB.le A164.1) a172.agree
                      have S170 : Sep G169 (Fr H) [rowsC c41_u0 22 3 c145_Cz0 (List.map ints r15.2), rowsC c20_u0 22 3 c20_C0 (List.map ints r3.1), flat c161_u0 3 (ints r17), flat c168_u0 3 (ints r18)] := S163.app a172.agree S173 (fun _ h => h) (hB.le A164.1)
                      obtain ⟨r19, hc174, hF⟩ := bd_some hF
                      simp [-aBin', -aBin, -aBinI, -aUn, -aNil, -flatV, n_fn, b_add, b_sub, b_mul, b_lt, b_le, b_gt, b_ge, b_eq, b_ne, u_not, ej135_0, ej135_1, ej135_5, ej135_6, ej135_9, ej135_77, a165.pre, a172.pre, ((S170.sl (k := 2) rfl).tup), ((S170.sl (k := 3) rfl).tup)]
                      refine CallD.t (F_impl_ExchangePath_w (fu := fu) (S170.sl (k := 2) rfl) (S170.sl (k := 3) rfl) hc174) ?_
                      rintro _ G176 ⟨a179, c175_u0, c175_C0, rfl, S180⟩
                      have A178 := A171.ext (hB.le A171.1) a179.agree
                      have S177 : Sep G176 (Fr H) [rowsC c41_u0 22 3 c145_Cz0 (List.map ints r15.2), rowsC c20_u0 22 3 c20_C0 (List.map ints r3.1), flat c161_u0 3 (ints r17), flat c168_u0 3 (ints r18), rowsC c175_u0 22 3 c175_C0 (List.map ints r19.1)] := S170.app a179.agree S180 (fun _ h => h) (hB.le A171.1)
                      simp [-aBin', -aBin, -aBinI, -aUn, -aNil, -flatV, n_fn, b_add, b_sub, b_mul, b_lt, b_le, b_gt, b_ge, b_eq, b_ne, u_not, ej135_0, ej135_1, ej135_5, ej135_6, ej135_9, ej135_77, a165.pre, a172.pre, a179.pre]
                      apply hK
                      clear hK K
                      simp only [andThen, leaves]
                      refine DWp.seq ?_
                      obtain ⟨s181, hL182, hF⟩ := bd_some hF
                      refine DWp.seq (DWp.join (fun env G => Sep G (Fr H) [rowsC c41_u0 22 3 c145_Cz0 (List.map ints r15.2)] ∧ AgB (Fr H) H G ∧ env 9 = some c41_u0 ∧ env 12 = some (Value.int .i64 r15.1) ∧ env 105 = some (Value.bool s181)) ?_ ?_)
                      ·
                        obtain ⟨r20, hc184, hL182⟩ := bd_some hL182
                        refine DWp.region fun K hK => ?_
                        simp [-aBin', -aBin, -aBinI, -aUn, -aNil, -flatV, n_fn, b_add, b_sub, b_mul, b_lt, b_le, b_gt, b_ge, b_eq, b_ne, u_not, ej135_0, ej135_1, ej135_5, ej135_6, ej135_9, ej135_77, ((S177.rd (k := 4) rfl).tup), ((S177.rd (k := 1) rfl).tup)]
                        refine CallD.t (F_laws_eqIntSS_w (fu := fu) ((S177.rd (k := 4) rfl).slsl) ((S177.rd (k := 1) rfl).slsl) hc184) ?_
                        rintro _ G186 ⟨a189, rfl, S190⟩
                        have A188 := A178.ext (hB.le A178.1) a189.agree
                        have S187 : Sep G186 (Fr H) [rowsC c41_u0 22 3 c145_Cz0 (List.map ints r15.2), rowsC c20_u0 22 3 c20_C0 (List.map ints r3.1), flat c161_u0 3 (ints r17), flat c168_u0 3 (ints r18), rowsC c175_u0 22 3 c175_C0 (List.map ints r19.1)] := S177.app a189.agree S190 (fun _ h => h) (hB.le A178.1)
                        rcases Bool.eq_false_or_eq_true (bnot r20) with hb191 | hb191
                        · replace hL182 := cd_t hb191 hL182
                          simp [-aBin', -aBin, -aBinI, -aUn, -aNil, -flatV, n_fn, b_add, b_sub, b_mul, b_lt, b_le, b_gt, b_ge, b_eq, b_ne, u_not, ej135_0, ej135_1, ej135_5, ej135_6, ej135_9, ej135_77, hb191, a189.pre]
                          apply hK
                          clear hK K
                          simp only [andThen, leaves]
                          have S192 := S187.pick [0] (by decide) rfl
                          obtain rfl := Option.some.inj hL182
                          exact ⟨S192, A188, by simp [ej135_0, ej135_1, ej135_5, ej135_6, ej135_9, ej135_77], by simp [ej135_0, ej135_1, ej135_5, ej135_6, ej135_9, ej135_77], by simp [ej135_0, ej135_1, ej135_5, ej135_6, ej135_9, ej135_77]⟩
                        · replace hL182 := cd_f hb191 hL182
                          simp [-aBin', -aBin, -aBinI, -aUn, -aNil, -flatV, n_fn, b_add, b_sub, b_mul, b_lt, b_le, b_gt, b_ge, b_eq, b_ne, u_not, ej135_0, ej135_1, ej135_5, ej135_6, ej135_9, ej135_77, hb191, a189.pre, b_bne un_4]
                          apply hK
                          clear hK K
                          simp only [andThen, leaves]
                          have S193 := S187.pick [0] (by decide) rfl
                          obtain rfl := Option.some.inj hL182
                          exact ⟨S193, A188, by simp [ej135_0, ej135_1, ej135_5, ej135_6, ej135_9, ej135_77], by simp [ej135_0, ej135_1, ej135_5, ej135_6, ej135_9, ej135_77], by simp [ej135_0, ej135_1, ej135_5, ej135_6, ej135_9, ej135_77]⟩
                      · rintro env Gj194 ⟨Sj194, Aj194, ej194_9, ej194_12, ej194_105⟩
                        refine DWp.cond' (t := s181) (by simp [ej194_9, ej194_12, ej194_105]) (fun hb195 => ?_) (fun hb195 => ?_)
                        · replace hF := cd_t hb195 hF
                          refine DWp.seq ?_
                          refine DWp.region fun K hK => ?_
                          simp [-aBin', -aBin, -aBinI, -aUn, -aNil, -flatV, n_fn, b_add, b_sub, b_mul, b_lt, b_le, b_gt, b_ge, b_eq, b_ne, u_not, ej194_9, ej194_12, ej194_105]
                          apply hK
                          clear hK K
                          simp only [andThen, leaves]
                          refine DWp.ret ?_
                          simp only [andThen, leaves]
                          obtain rfl := Option.some.inj hF
                          exact ⟨by simp, [(Value.bool false)], by simp [ej194_9, ej194_12, ej194_105], Aj194, rfl, Sj194.pick [] (by decide) rfl⟩
                        · replace hF := cd_f hb195 hF
                          refine DWp.skip ?_
                          simp only [andThen, leaves]
                          refine DWp.seq ?_
                          refine DWp.region fun K hK => ?_
                          simp [-aBin', -aBin, -aBinI, -aUn, -aNil, -flatV, n_fn, b_add, b_sub, b_mul, b_lt, b_le, b_gt, b_ge, b_eq, b_ne, u_not, ej194_9, ej194_12, ej194_105]
                          apply hK
                          clear hK K
                          simp only [andThen, leaves]
                          refine DWp.seq ?_
                          obtain ⟨r21, hc196, hF⟩ := bd_some hF
                          refine DWp.region fun K hK => ?_
                          simp [-aBin', -aBin, -aBinI, -aUn, -aNil, -flatV, n_fn, b_add, b_sub, b_mul, b_lt, b_le, b_gt, b_ge, b_eq, b_ne, u_not, ej194_9, ej194_12, ej194_105, ((Sj194.rd (k := 0) rfl).tup)]
                          refine CallD.t (F_laws_heldIntSS_w (fu := fu) ((Sj194.rd (k := 0) rfl).slsl) hc196) ?_
                          rintro _ G198 ⟨a201, rfl, S202⟩
                          have A200 := Aj194.ext (hB.le Aj194.1) a201.agree
                          have S199 : Sep G198 (Fr H) [rowsC c41_u0 22 3 c145_Cz0 (List.map ints r15.2)] := Sj194.app a201.agree S202 (fun _ h => h) (hB.le Aj194.1)
                          simp [-aBin', -aBin, -aBinI, -aUn, -aNil, -flatV, n_fn, b_add, b_sub, b_mul, b_lt, b_le, b_gt, b_ge, b_eq, b_ne, u_not, ej194_9, ej194_12, ej194_105, a201.pre]
                          apply hK
                          clear hK K
                          simp only [andThen, leaves]
                          refine DWp.seq ?_
                          refine DWp.seq ?_
                          refine DWp.region fun K hK => ?_
                          simp [-aBin', -aBin, -aBinI, -aUn, -aNil, -flatV, n_fn, b_add, b_sub, b_mul, b_lt, b_le, b_gt, b_ge, b_eq, b_ne, u_not, ej194_9, ej194_12, ej194_105]
                          apply hK
                          clear hK K
                          simp only [andThen, leaves]
                          refine DWp.cond' (t := (ilt r21 0)) (by simp [ej194_9, ej194_12, ej194_105]) (fun hb203 => ?_) (fun hb203 => ?_)
                          · replace hF := cd_t hb203 hF
                            refine DWp.seq ?_
                            refine DWp.region fun K hK => ?_
                            simp [-aBin', -aBin, -aBinI, -aUn, -aNil, -flatV, n_fn, b_add, b_sub, b_mul, b_lt, b_le, b_gt, b_ge, b_eq, b_ne, u_not, ej194_9, ej194_12, ej194_105]
                            apply hK
                            clear hK K
                            simp only [andThen, leaves]
                            refine DWp.ret ?_
                            simp only [andThen, leaves]
                            obtain rfl := Option.some.inj hF
                            exact ⟨by simp, [(Value.bool false)], by simp [ej194_9, ej194_12, ej194_105], A200, rfl, S199.pick [] (by decide) rfl⟩
                          · replace hF := cd_f hb203 hF
                            refine DWp.skip ?_
                            simp only [andThen, leaves]
                            refine DWp.seq ?_
                            refine DWp.seq ?_
                            refine DWp.region fun K hK => ?_
                            simp [-aBin', -aBin, -aBinI, -aUn, -aNil, -flatV, n_fn, b_add, b_sub, b_mul, b_lt, b_le, b_gt, b_ge, b_eq, b_ne, u_not, ej194_9, ej194_12, ej194_105]
                            apply hK
                            clear hK K
                            simp only [andThen, leaves]
                            refine DWp.cond' (t := (ine r21 r15.1)) (by simp [ej194_9, ej194_12, ej194_105]) (fun hb204 => ?_) (fun hb204 => ?_)
                            · replace hF := cd_t hb204 hF
                              refine DWp.seq ?_
                              refine DWp.region fun K hK => ?_
                              simp [-aBin', -aBin, -aBinI, -aUn, -aNil, -flatV, n_fn, b_add, b_sub, b_mul, b_lt, b_le, b_gt, b_ge, b_eq, b_ne, u_not, ej194_9, ej194_12, ej194_105]
                              apply hK
                              clear hK K
                              simp only [andThen, leaves]
                              refine DWp.ret ?_
                              simp only [andThen, leaves]
                              obtain rfl := Option.some.inj hF
                              exact ⟨by simp, [(Value.bool false)], by simp [ej194_9, ej194_12, ej194_105], A200, rfl, S199.pick [] (by decide) rfl⟩
                            · replace hF := cd_f hb204 hF
                              refine DWp.skip ?_
                              simp only [andThen, leaves]
                              refine DWp.seq ?_
                              refine DWp.region fun K hK => ?_
                              simp [-aBin', -aBin, -aBinI, -aUn, -aNil, -flatV, n_fn, b_add, b_sub, b_mul, b_lt, b_le, b_gt, b_ge, b_eq, b_ne, u_not, ej194_9, ej194_12, ej194_105]
                              apply hK
                              clear hK K
                              simp only [andThen, leaves]
                              refine DWp.ret ?_
                              obtain rfl := Option.some.inj hF
                              exact ⟨by simp, [(Value.bool true)], by simp [ej194_9, ej194_12, ej194_105], A200, rfl, S199.pick [] (by decide) rfl⟩
end Go.Proofs.Ytdghlhdpcmemjaa.AL

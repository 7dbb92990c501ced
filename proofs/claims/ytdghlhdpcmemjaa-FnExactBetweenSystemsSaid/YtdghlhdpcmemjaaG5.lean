/- The walks of functions, each with its Lean function: laws.heldIntSS, laws.FnExactBetweenSystems. No condition. -/
import Derived.Test.YtdghlhdpcmemjaaFBD
import Derived.Test.YtdghlhdpcmemjaaG1
import Derived.Test.YtdghlhdpcmemjaaG2
import Derived.Test.YtdghlhdpcmemjaaG3
import Derived.Test.YtdghlhdpcmemjaaG4
import Derived.Test.YtdghlhdpcmemjaaALD
import Derived.Test.YtdghlhdpcmemjaaProg
import Derived.KernelRfl
namespace Go.Proofs.Ytdghlhdpcmemjaa.AL
open Go Go.RowKit
set_option linter.unusedVariables false
set_option linter.unusedSimpArgs false
set_option maxRecDepth 4096
theorem un_4 : Try.prog.underlying 4 = some .bool := by kernel_rfl
def F_laws_heldIntSS_L1 (fu : Nat) (k1_0 : List (List Int)) : Nat → Int → Int → Option (LR (Int) (Int × Int))
  | 0, _, _ => none
  | n + 1, y1_1, y1_5 =>
    bif (ilt y1_5 (llen k1_0)) then
      gd (inL k1_0 y1_5) (
      bd (F_laws_heldIntS fu (gat [] k1_0 y1_5) y1_1) fun r1 =>
      bif (ilt r1 0) then
        some (.ret (-1))
      else
        F_laws_heldIntSS_L1 fu k1_0 n r1 (iadd .i64 y1_5 1))
    else
      some (.brk (y1_1, y1_5))
def F_laws_heldIntSS (fu : Nat) (x0 : List (List Int)) (x1 : Int) : Option (Int) :=
  bd (F_laws_heldIntSS_L1 fu x0 fu x1 0) fun s1 =>
  lr s1 fun s1 =>
  some s1.1
theorem F_laws_heldIntSS_w {fu : Nat} {H : AH} {v0 : Value} {x0 : List (List Int)} {x1 : Int} {r : (Int)} (hx0 : SlSl H v0 (List.map ints x0)) (hF : F_laws_heldIntSS fu x0 x1 = some r) :
    ACallT Try.prog 22 [v0, (Value.int .i64 x1)] H (fun u G => AgB (Fr H) H G ∧ u = (Value.int .i64 r) ∧ Sep G (Fr H) []) := by
  refine ACallT.of_body (nt := 21) (rs := [.tmp 4]) Try.func22 rfl rfl rfl rfl ?_
  have A0 : AgB (Fr H) H H := .refl _ _
  have S0 : Sep H (Fr H) [] := .nil
  have hB := Fr.up H
  unfold F_laws_heldIntSS at hF
  obtain ⟨C0, hC0⟩ := hx0.rd
  refine DWp.seq ?_
  refine DWp.region fun K hK => ?_
  simp [-aBin', -aBin, -aBinI, -aUn, -aNil, -flatV, n_fn, b_add, b_sub, b_mul, b_lt, b_le, b_gt, b_ge, b_eq, b_ne, u_not]
  apply hK
  clear hK K
  simp only [andThen, leaves]
  refine DWp.seq ?_
  refine DWp.seq ?_
  refine DWp.region fun K hK => ?_
  simp [-aBin', -aBin, -aBinI, -aUn, -aNil, -flatV, n_fn, b_add, b_sub, b_mul, b_lt, b_le, b_gt, b_ge, b_eq, b_ne, u_not]
  apply hK
  clear hK K
  simp only [andThen, leaves]
  refine DWp.block ?_
  obtain ⟨s1, hL2, hF⟩ := bd_some hF
  have S3 := S0.pick [] (by decide) rfl
  refine DWp.loop (fun n env G => ∃ y1_1 : Int, ∃ y1_5 : Int, F_laws_heldIntSS_L1 fu x0 n y1_1 y1_5 = some s1 ∧ Sep G (Fr H) [] ∧ AgB (Fr H) H G ∧ env 0 = some v0 ∧ env 1 = some (Value.int .i64 y1_1) ∧ env 5 = some (Value.int .i64 y1_5)) fu ⟨x1, 0, hL2, S3, A0, by simp [], by simp [], by simp []⟩ ?_
  rintro n1 env1 G1_ ⟨y1_1, y1_5, hL2, S1_, A1_, e1_0, e1_1, e1_5⟩
  cases n1 with
  | zero => cases hL2
  | succ n1 =>
    simp only [F_laws_heldIntSS_L1] at hL2
    refine DWp.seq ?_
    refine DWp.seq ?_
    have q4 := (hC0.agree A1_.agree).lenG (P := Try.prog) el_23
    refine DWp.region fun K hK => ?_
    simp [-aBin', -aBin, -aBinI, -aUn, -aNil, -flatV, n_fn, b_add, b_sub, b_mul, b_lt, b_le, b_gt, b_ge, b_eq, b_ne, u_not, e1_0, e1_1, e1_5, q4]
    apply hK
    clear hK K
    simp only [andThen, leaves]
    refine DWp.cond' (t := (ilt y1_5 (llen x0))) (by simp [e1_0, e1_1, e1_5]) (fun hb5 => ?_) (fun hb5 => ?_)
    · replace hL2 := cd_t hb5 hL2
      refine DWp.skip ?_
      simp only [andThen, leaves]
      refine DWp.seq ?_
      refine DWp.block ?_
      refine DWp.seq ?_
      obtain ⟨g6, hL2⟩ := gd_some hL2
      have q7 := (hC0.agree A1_.agree).idxG (P := Try.prog) (kk := .i64) el_23 sz_22 g6
      have q8 := (hC0.agree A1_.agree).loadG (P := Try.prog) sz_22 ag_22 g6
      obtain ⟨r1, hc9, hL2⟩ := bd_some hL2
      refine DWp.region fun K hK => ?_
      simp [-aBin', -aBin, -aBinI, -aUn, -aNil, -flatV, n_fn, b_add, b_sub, b_mul, b_lt, b_le, b_gt, b_ge, b_eq, b_ne, u_not, e1_0, e1_1, e1_5, q7, q8, (((hC0.agree A1_.agree).rowAt [] g6).tup)]
      refine CallD.t (F_laws_heldIntS_w (fu := fu) ((hC0.agree A1_.agree).rowAt [] g6) hc9) ?_
      rintro _ G11 ⟨a14, rfl, S15⟩
      have A13 := A1_.ext (hB.le A1_.1) a14.agree
      have S12 : Sep G11 (Fr H) [] := S1_.app a14.agree S15 (fun _ h => h) (hB.le A1_.1)
      simp [-aBin', -aBin, -aBinI, -aUn, -aNil, -flatV, n_fn, b_add, b_sub, b_mul, b_lt, b_le, b_gt, b_ge, b_eq, b_ne, u_not, e1_0, e1_1, e1_5, q7, q8, a14.pre]
      apply hK
      clear hK K
      simp only [andThen, leaves]
      refine DWp.seq ?_
      refine DWp.region fun K hK => ?_
      simp [-aBin', -aBin, -aBinI, -aUn, -aNil, -flatV, n_fn, b_add, b_sub, b_mul, b_lt, b_le, b_gt, b_ge, b_eq, b_ne, u_not, e1_0, e1_1, e1_5]
      apply hK
      clear hK K
      simp only [andThen, leaves]
      refine DWp.cond' (t := (ilt r1 0)) (by simp [e1_0, e1_1, e1_5]) (fun hb16 => ?_) (fun hb16 => ?_)
      · replace hL2 := cd_t hb16 hL2
        refine DWp.seq ?_
        refine DWp.region fun K hK => ?_
        simp [-aBin', -aBin, -aBinI, -aUn, -aNil, -flatV, n_fn, b_add, b_sub, b_mul, b_lt, b_le, b_gt, b_ge, b_eq, b_ne, u_not, e1_0, e1_1, e1_5]
        apply hK
        clear hK K
        simp only [andThen, leaves]
        refine DWp.ret ?_
        simp only [andThen, leaves]
        obtain rfl := Option.some.inj hL2
        simp only [lr] at hF
        obtain rfl := Option.some.inj hF
        exact ⟨by simp, [(Value.int .i64 (-1))], by simp [e1_0, e1_1, e1_5], A13, rfl, S12.pick [] (by decide) rfl⟩
      · replace hL2 := cd_f hb16 hL2
        refine DWp.skip ?_
        simp only [andThen, leaves]
        refine DWp.region fun K hK => ?_
        simp [-aBin', -aBin, -aBinI, -aUn, -aNil, -flatV, n_fn, b_add, b_sub, b_mul, b_lt, b_le, b_gt, b_ge, b_eq, b_ne, u_not, e1_0, e1_1, e1_5]
        apply hK
        clear hK K
        simp only [andThen, leaves]
        have S17 := S12.pick [] (by decide) rfl
        exact ⟨n1, Nat.lt_succ_self _, r1, (iadd .i64 y1_5 1), hL2, S17, A13, by simp [e1_0, e1_1, e1_5], by simp [e1_0, e1_1, e1_5], by simp [e1_0, e1_1, e1_5]⟩
    · replace hL2 := cd_f hb5 hL2
      refine DWp.exit ?_
      simp only [andThen, leaves, if_true, if_false, reduceIte, Nat.reduceEqDiff]
      obtain rfl := Option.some.inj hL2
      simp only [lr] at hF
      refine DWp.seq ?_
      refine DWp.region fun K hK => ?_
      simp [-aBin', -aBin, -aBinI, -aUn, -aNil, -flatV, n_fn, b_add, b_sub, b_mul, b_lt, b_le, b_gt, b_ge, b_eq, b_ne, u_not, e1_0, e1_1, e1_5]
      apply hK
      clear hK K
      simp only [andThen, leaves]
      refine DWp.ret ?_
      obtain rfl := Option.some.inj hF
      exact ⟨by simp, [(Value.int .i64 y1_1)], by simp [e1_0, e1_1, e1_5], A1_, rfl, S1_.pick [] (by decide) rfl⟩
def F_laws_FnExactBetweenSystems (fu : Nat) (x0 : List Int) (x1 : List Int) : Option (Bool) :=
  bif (ilt 1048576 (llen x0)) then
    some true
  else
    bif (ilt 1048576 (llen x1)) then
      some true
    else
      bd (F_laws_toIntS fu x0) fun r1 =>
      bd (F_laws_toIntS fu x1) fun r2 =>
      bd (F_spec_BetweenSystems fu r1 r2) fun r3 =>
      bd (F_laws_toIntS fu x0) fun r4 =>
      bd (F_laws_toIntS fu x1) fun r5 =>
      bd (F_impl_BetweenSystems fu r4 r5) fun r6 =>
      bd (
        bd (F_laws_eqIntSS fu r6.1 r3.1) fun r7 =>
        bif (bnot r7) then
          some true
        else
          some (bne' r6.2 r3.2)) fun s47 =>
      bif s47 then
        some false
      else
        bd (F_laws_toIntS fu x0) fun r8 =>
        bd (F_laws_eqIntS fu r4 r8) fun r9 =>
        bif (bnot r9) then
          some false
        else
          bd (F_laws_toIntS fu x1) fun r10 =>
          bd (F_laws_eqIntS fu r5 r10) fun r11 =>
          bif (bnot r11) then
            some false
          else
            bd (F_laws_markIntS fu r4 1) fun r12 =>
            bd (F_laws_markIntS fu r5 r12.1) fun r13 =>
            bd (
              bif (ilt r13.1 0) then
                some true
              else
                bd (F_laws_eqIntSS fu r6.1 r3.1) fun r14 =>
                bif (bnot r14) then
                  some true
                else
                  some (bne' r6.2 r3.2)) fun s120 =>
            bif s120 then
              some false
            else
              bd (F_laws_markIntSS fu r6.1 1) fun r15 =>
              bd (F_laws_heldIntSS fu r15.2 1) fun r16 =>
              bif (ilt r16 0) then
                some false
              else
                bif (ine r16 r15.1) then
                  some false
                else
                  bd (F_laws_toIntS fu x0) fun r17 =>
                  bd (F_laws_toIntS fu x1) fun r18 =>
                  bd (F_impl_BetweenSystems fu r17 r18) fun r19 =>
                  bd (
                    bd (F_laws_eqIntSS fu r19.1 r3.1) fun r20 =>
                    bif (bnot r20) then
                      some true
                    else
                      some (bne' r19.2 r3.2)) fun s181 =>
                  bif s181 then
                    some false
                  else
                    bd (F_laws_heldIntSS fu r15.2 1) fun r21 =>
                    bif (ilt r21 0) then
                      some false
                    else
                      bif (ine r21 r15.1) then
                        some false
                      else
                        some true
theorem F_laws_FnExactBetweenSystems_w {fu : Nat} {H : AH} {v0 : Value} {v1 : Value} {x0 : List Int} {x1 : List Int} {r : (Bool)} (hx0 : Sl H v0 (ints x0)) (hx1 : Sl H v1 (ints x1)) (hF : F_laws_FnExactBetweenSystems fu x0 x1 = some r) :
    ACallT Try.prog 10 [v0, v1] H (fun u G => AgB (Fr H) H G ∧ u = (Value.bool r) ∧ Sep G (Fr H) []) := by
  refine ACallT.of_body (nt := 114) (rs := [.tmp 4]) Try.func10 rfl rfl rfl rfl ?_
  have A0 : AgB (Fr H) H H := .refl _ _
  have S0 : Sep H (Fr H) [] := .nil
  have hB := Fr.up H
  unfold F_laws_FnExactBetweenSystems at hF
  refine DWp.seq ?_
  refine DWp.region fun K hK => ?_
  simp [-aBin', -aBin, -aBinI, -aUn, -aNil, -flatV, n_fn, b_add, b_sub, b_mul, b_lt, b_le, b_gt, b_ge, b_eq, b_ne, u_not]
  apply hK
  clear hK K
  simp only [andThen, leaves]
  refine DWp.seq ?_
  refine DWp.seq ?_
  have q1 := lenG (P := Try.prog) (hx0.agree A0.agree) el_22
  refine DWp.region fun K hK => ?_
  simp [-aBin', -aBin, -aBinI, -aUn, -aNil, -flatV, n_fn, b_add, b_sub, b_mul, b_lt, b_le, b_gt, b_ge, b_eq, b_ne, u_not, q1]
  apply hK
  clear hK K
  simp only [andThen, leaves]
  refine DWp.cond' (t := (ilt 1048576 (llen x0))) (by simp []) (fun hb2 => ?_) (fun hb2 => ?_)
  · replace hF := cd_t hb2 hF
    refine DWp.seq ?_
    refine DWp.region fun K hK => ?_
    simp [-aBin', -aBin, -aBinI, -aUn, -aNil, -flatV, n_fn, b_add, b_sub, b_mul, b_lt, b_le, b_gt, b_ge, b_eq, b_ne, u_not]
    apply hK
    clear hK K
    simp only [andThen, leaves]
    refine DWp.ret ?_
    simp only [andThen, leaves]
    obtain rfl := Option.some.inj hF
    exact ⟨by simp, [(Value.bool true)], by simp [], A0, rfl, S0.pick [] (by decide) rfl⟩
  · replace hF := cd_f hb2 hF
    refine DWp.skip ?_
    simp only [andThen, leaves]
    refine DWp.seq ?_
    refine DWp.seq ?_
    have q3 := lenG (P := Try.prog) (hx1.agree A0.agree) el_22
    refine DWp.region fun K hK => ?_
    simp [-aBin', -aBin, -aBinI, -aUn, -aNil, -flatV, n_fn, b_add, b_sub, b_mul, b_lt, b_le, b_gt, b_ge, b_eq, b_ne, u_not, q3]
    apply hK
    clear hK K
    simp only [andThen, leaves]
    refine DWp.cond' (t := (ilt 1048576 (llen x1))) (by simp []) (fun hb4 => ?_) (fun hb4 => ?_)
    · replace hF := cd_t hb4 hF
      refine DWp.seq ?_
      refine DWp.region fun K hK => ?_
      simp [-aBin', -aBin, -aBinI, -aUn, -aNil, -flatV, n_fn, b_add, b_sub, b_mul, b_lt, b_le, b_gt, b_ge, b_eq, b_ne, u_not]
      apply hK
      clear hK K
      simp only [andThen, leaves]
      refine DWp.ret ?_
      simp only [andThen, leaves]
      obtain rfl := Option.some.inj hF
      exact ⟨by simp, [(Value.bool true)], by simp [], A0, rfl, S0.pick [] (by decide) rfl⟩
    · replace hF := cd_f hb4 hF
      refine DWp.skip ?_
      simp only [andThen, leaves]
      refine DWp.seq ?_
      obtain ⟨r1, hc5, hF⟩ := bd_some hF
      refine DWp.region fun K hK => ?_
      simp [-aBin', -aBin, -aBinI, -aUn, -aNil, -flatV, n_fn, b_add, b_sub, b_mul, b_lt, b_le, b_gt, b_ge, b_eq, b_ne, u_not, ((hx0.agree A0.agree).tup)]
      refine CallD.t (F_laws_toIntS_w (fu := fu) (hx0.agree A0.agree) hc5) ?_
      rintro c6_u0 G7 ⟨a10, _, rfl, S11⟩
      have A9 := A0.ext (hB.le A0.1) a10.agree
      have S8 : Sep G7 (Fr H) [flat c6_u0 3 (ints r1)] := S0.app a10.agree S11 (fun _ h => h) (hB.le A0.1)
      obtain ⟨r2, hc12, hF⟩ := bd_some hF
      simp [-aBin', -aBin, -aBinI, -aUn, -aNil, -flatV, n_fn, b_add, b_sub, b_mul, b_lt, b_le, b_gt, b_ge, b_eq, b_ne, u_not, a10.pre, ((hx1.agree A9.agree).tup)]
      refine CallD.t (F_laws_toIntS_w (fu := fu) (hx1.agree A9.agree) hc12) ?_
      rintro c13_u0 G14 ⟨a17, _, rfl, S18⟩
      have A16 := A9.ext (hB.le A9.1) a17.agree
      have S15 : Sep G14 (Fr H) [flat c6_u0 3 (ints r1), flat c13_u0 3 (ints r2)] := S8.app a17.agree S18 (fun _ h => h) (hB.le A9.1)
      obtain ⟨r3, hc19, hF⟩ := bd_some hF
      simp [-aBin', -aBin, -aBinI, -aUn, -aNil, -flatV, n_fn, b_add, b_sub, b_mul, b_lt, b_le, b_gt, b_ge, b_eq, b_ne, u_not, a10.pre, a17.pre, ((S15.sl (k := 0) rfl).tup), ((S15.sl (k := 1) rfl).tup)]
      refine CallD.t (F_spec_BetweenSystems_w (fu := fu) (S15.sl (k := 0) rfl) (S15.sl (k := 1) rfl) hc19) ?_
      rintro _ G21 ⟨a24, c20_u0, c20_C0, rfl, S25⟩
      have A23 := A16.ext (hB.le A16.1) a24.agree
      have S22 : Sep G21 (Fr H) [flat c6_u0 3 (ints r1), flat c13_u0 3 (ints r2), rowsC c20_u0 22 3 c20_C0 (List.map ints r3.1)] := S15.app a24.agree S25 (fun _ h => h) (hB.le A16.1)
      simp [-aBin', -aBin, -aBinI, -aUn, -aNil, -flatV, n_fn, b_add, b_sub, b_mul, b_lt, b_le, b_gt, b_ge, b_eq, b_ne, u_not, a10.pre, a17.pre, a24.pre]
      apply hK
      clear hK K
      simp only [andThen, leaves]
      refine DWp.seq ?_
      obtain ⟨r4, hc26, hF⟩ := bd_some hF
      refine DWp.region fun K hK => ?_
      simp [-aBin', -aBin, -aBinI, -aUn, -aNil, -flatV, n_fn, b_add, b_sub, b_mul, b_lt, b_le, b_gt, b_ge, b_eq, b_ne, u_not, ((hx0.agree A23.agree).tup)]
      refine CallD.t (F_laws_toIntS_w (fu := fu) (hx0.agree A23.agree) hc26) ?_
      rintro c27_u0 G28 ⟨a31, _, rfl, S32⟩
      have A30 := A23.ext (hB.le A23.1) a31.agree
      have S29 : Sep G28 (Fr H) [flat c6_u0 3 (ints r1), flat c13_u0 3 (ints r2), rowsC c20_u0 22 3 c20_C0 (List.map ints r3.1), flat c27_u0 3 (ints r4)] := S22.app a31.agree S32 (fun _ h => h) (hB.le A23.1)
      simp [-aBin', -aBin, -aBinI, -aUn, -aNil, -flatV, n_fn, b_add, b_sub, b_mul, b_lt, b_le, b_gt, b_ge, b_eq, b_ne, u_not, a31.pre]
      apply hK
      clear hK K
      simp only [andThen, leaves]
      refine DWp.seq ?_
      obtain ⟨r5, hc33, hF⟩ := bd_some hF
      refine DWp.region fun K hK => ?_
      simp [-aBin', -aBin, -aBinI, -aUn, -aNil, -flatV, n_fn, b_add, b_sub, b_mul, b_lt, b_le, b_gt, b_ge, b_eq, b_ne, u_not, ((hx1.agree A30.agree).tup)]
      refine CallD.t (F_laws_toIntS_w (fu := fu) (hx1.agree A30.agree) hc33) ?_
      rintro c34_u0 G35 ⟨a38, _, rfl, S39⟩
      have A37 := A30.ext (hB.le A30.1) a38.agree
      have S36 : Sep G35 (Fr H) [flat c6_u0 3 (ints r1), flat c13_u0 3 (ints r2), rowsC c20_u0 22 3 c20_C0 (List.map ints r3.1), flat c27_u0 3 (ints r4), flat c34_u0 3 (ints r5)] := S29.app a38.agree S39 (fun _ h => h) (hB.le A30.1)
      simp [-aBin', -aBin, -aBinI, -aUn, -aNil, -flatV, n_fn, b_add, b_sub, b_mul, b_lt, b_le, b_gt, b_ge, b_eq, b_ne, u_not, a38.pre]
      apply hK
      clear hK K
      simp only [andThen, leaves]
      refine DWp.seq ?_
      obtain ⟨r6, hc40, hF⟩ := bd_some hF
      refine DWp.region fun K hK => ?_
      simp [-aBin', -aBin, -aBinI, -aUn, -aNil, -flatV, n_fn, b_add, b_sub, b_mul, b_lt, b_le, b_gt, b_ge, b_eq, b_ne, u_not, ((S36.sl (k := 3) rfl).tup), ((S36.sl (k := 4) rfl).tup)]
      refine CallD.t (F_impl_BetweenSystems_w (fu := fu) (S36.sl (k := 3) rfl) (S36.sl (k := 4) rfl) hc40) ?_
      rintro _ G42 ⟨a45, c41_u0, c41_C0, rfl, S46⟩
      have A44 := A37.ext (hB.le A37.1) a45.agree
      have S43 : Sep G42 (Fr H) [flat c6_u0 3 (ints r1), flat c13_u0 3 (ints r2), rowsC c20_u0 22 3 c20_C0 (List.map ints r3.1), flat c27_u0 3 (ints r4), flat c34_u0 3 (ints r5), rowsC c41_u0 22 3 c41_C0 (List.map ints r6.1)] := S36.app a45.agree S46 (fun _ h => h) (hB.le A37.1)
      simp [-aBin', -aBin, -aBinI, -aUn, -aNil, -flatV, n_fn, b_add, b_sub, b_mul, b_lt, b_le, b_gt, b_ge, b_eq, b_ne, u_not, a45.pre]
      apply hK
      clear hK K
      simp only [andThen, leaves]
      refine DWp.seq ?_
      obtain ⟨s47, hL48, hF⟩ := bd_some hF
      refine DWp.seq (DWp.join (fun env G => Sep G (Fr H) [rowsC c20_u0 22 3 c20_C0 (List.map ints r3.1), flat c27_u0 3 (ints r4), flat c34_u0 3 (ints r5), rowsC c41_u0 22 3 c41_C0 (List.map ints r6.1)] ∧ AgB (Fr H) H G ∧ env 0 = some v0 ∧ env 1 = some v1 ∧ env 5 = some c20_u0 ∧ env 6 = some (Value.bool r3.2) ∧ env 7 = some c27_u0 ∧ env 8 = some c34_u0 ∧ env 9 = some c41_u0 ∧ env 10 = some (Value.bool r6.2) ∧ env 48 = some (Value.bool s47)) ?_ ?_)
      ·
        obtain ⟨r7, hc50, hL48⟩ := bd_some hL48
        refine DWp.region fun K hK => ?_
        simp [-aBin', -aBin, -aBinI, -aUn, -aNil, -flatV, n_fn, b_add, b_sub, b_mul, b_lt, b_le, b_gt, b_ge, b_eq, b_ne, u_not, ((S43.rd (k := 5) rfl).tup), ((S43.rd (k := 2) rfl).tup)]
        refine CallD.t (F_laws_eqIntSS_w (fu := fu) ((S43.rd (k := 5) rfl).slsl) ((S43.rd (k := 2) rfl).slsl) hc50) ?_
        rintro _ G52 ⟨a55, rfl, S56⟩
        have A54 := A44.ext (hB.le A44.1) a55.agree
        have S53 : Sep G52 (Fr H) [flat c6_u0 3 (ints r1), flat c13_u0 3 (ints r2), rowsC c20_u0 22 3 c20_C0 (List.map ints r3.1), flat c27_u0 3 (ints r4), flat c34_u0 3 (ints r5), rowsC c41_u0 22 3 c41_C0 (List.map ints r6.1)] := S43.app a55.agree S56 (fun _ h => h) (hB.le A44.1)
        rcases Bool.eq_false_or_eq_true (bnot r7) with hb57 | hb57
        · replace hL48 := cd_t hb57 hL48
          simp [-aBin', -aBin, -aBinI, -aUn, -aNil, -flatV, n_fn, b_add, b_sub, b_mul, b_lt, b_le, b_gt, b_ge, b_eq, b_ne, u_not, hb57, a55.pre]
          apply hK
          clear hK K
          simp only [andThen, leaves]
          have S58 := S53.pick [2, 3, 4, 5] (by decide) rfl
          obtain rfl := Option.some.inj hL48
          exact ⟨S58, A54, by simp [], by simp [], by simp [], by simp [], by simp [], by simp [], by simp [], by simp [], by simp []⟩
        · replace hL48 := cd_f hb57 hL48
          simp [-aBin', -aBin, -aBinI, -aUn, -aNil, -flatV, n_fn, b_add, b_sub, b_mul, b_lt, b_le, b_gt, b_ge, b_eq, b_ne, u_not, hb57, a55.pre, b_bne un_4]
          apply hK
          clear hK K
          simp only [andThen, leaves]
          have S59 := S53.pick [2, 3, 4, 5] (by decide) rfl
          obtain rfl := Option.some.inj hL48
          exact ⟨S59, A54, by simp [], by simp [], by simp [], by simp [], by simp [], by simp [], by simp [], by simp [], by simp []⟩
      · rintro env Gj60 ⟨Sj60, Aj60, ej60_0, ej60_1, ej60_5, ej60_6, ej60_7, ej60_8, ej60_9, ej60_10, ej60_48⟩
        refine DWp.cond' (t := s47) (by simp [ej60_0, ej60_1, ej60_5, ej60_6, ej60_7, ej60_8, ej60_9, ej60_10, ej60_48]) (fun hb61 => ?_) (fun hb61 => ?_)
        · replace hF := cd_t hb61 hF
          refine DWp.seq ?_
          refine DWp.region fun K hK => ?_
          simp [-aBin', -aBin, -aBinI, -aUn, -aNil, -flatV, n_fn, b_add, b_sub, b_mul, b_lt, b_le, b_gt, b_ge, b_eq, b_ne, u_not, ej60_0, ej60_1, ej60_5, ej60_6, ej60_7, ej60_8, ej60_9, ej60_10, ej60_48]
          apply hK
          clear hK K
          simp only [andThen, leaves]
          refine DWp.ret ?_
          simp only [andThen, leaves]
          obtain rfl := Option.some.inj hF
          exact ⟨by simp, [(Value.bool false)], by simp [ej60_0, ej60_1, ej60_5, ej60_6, ej60_7, ej60_8, ej60_9, ej60_10, ej60_48], Aj60, rfl, Sj60.pick [] (by decide) rfl⟩
        · replace hF := cd_f hb61 hF
          refine DWp.skip ?_
          simp only [andThen, leaves]
          refine DWp.seq ?_
          refine DWp.seq ?_
          obtain ⟨r8, hc62, hF⟩ := bd_some hF
          refine DWp.region fun K hK => ?_
          simp [-aBin', -aBin, -aBinI, -aUn, -aNil, -flatV, n_fn, b_add, b_sub, b_mul, b_lt, b_le, b_gt, b_ge, b_eq, b_ne, u_not, ej60_0, ej60_1, ej60_5, ej60_6, ej60_7, ej60_8, ej60_9, ej60_10, ej60_48, ((hx0.agree Aj60.agree).tup)]
          refine CallD.t (F_laws_toIntS_w (fu := fu) (hx0.agree Aj60.agree) hc62) ?_
          rintro c63_u0 G64 ⟨a67, _, rfl, S68⟩
          have A66 := Aj60.ext (hB.le Aj60.1) a67.agree
          have S65 : Sep G64 (Fr H) [rowsC c20_u0 22 3 c20_C0 (List.map ints r3.1), flat c27_u0 3 (ints r4), flat c34_u0 3 (ints r5), rowsC c41_u0 22 3 c41_C0 (List.map ints r6.1), flat c63_u0 3 (ints r8)] := Sj60.app a67.agree S68 (fun _ h => h) (hB.le Aj60.1)
          obtain ⟨r9, hc69, hF⟩ := bd_some hF
          simp [-aBin', -aBin, -aBinI, -aUn, -aNil, -flatV, n_fn, b_add, b_sub, b_mul, b_lt, b_le, b_gt, b_ge, b_eq, b_ne, u_not, ej60_0, ej60_1, ej60_5, ej60_6, ej60_7, ej60_8, ej60_9, ej60_10, ej60_48, a67.pre, ((S65.sl (k := 1) rfl).tup), ((S65.sl (k := 4) rfl).tup)]
          refine CallD.t (F_laws_eqIntS_w (fu := fu) (S65.sl (k := 1) rfl) (S65.sl (k := 4) rfl) hc69) ?_
          rintro _ G71 ⟨a74, rfl, S75⟩
          have A73 := A66.ext (hB.le A66.1) a74.agree
          have S72 : Sep G71 (Fr H) [rowsC c20_u0 22 3 c20_C0 (List.map ints r3.1), flat c27_u0 3 (ints r4), flat c34_u0 3 (ints r5), rowsC c41_u0 22 3 c41_C0 (List.map ints r6.1), flat c63_u0 3 (ints r8)] := S65.app a74.agree S75 (fun _ h => h) (hB.le A66.1)
          simp [-aBin', -aBin, -aBinI, -aUn, -aNil, -flatV, n_fn, b_add, b_sub, b_mul, b_lt, b_le, b_gt, b_ge, b_eq, b_ne, u_not, ej60_0, ej60_1, ej60_5, ej60_6, ej60_7, ej60_8, ej60_9, ej60_10, ej60_48, a67.pre, a74.pre]
          apply hK
          clear hK K
          simp only [andThen, leaves]
          refine DWp.cond' (t := (bnot r9)) (by simp [ej60_0, ej60_1, ej60_5, ej60_6, ej60_7, ej60_8, ej60_9, ej60_10, ej60_48]) (fun hb76 => ?_) (fun hb76 => ?_)
          · replace hF := cd_t hb76 hF
            refine DWp.seq ?_
            refine DWp.region fun K hK => ?_
            simp [-aBin', -aBin, -aBinI, -aUn, -aNil, -flatV, n_fn, b_add, b_sub, b_mul, b_lt, b_le, b_gt, b_ge, b_eq, b_ne, u_not, ej60_0, ej60_1, ej60_5, ej60_6, ej60_7, ej60_8, ej60_9, ej60_10, ej60_48]
            apply hK
            clear hK K
            simp only [andThen, leaves]
            refine DWp.ret ?_
            simp only [andThen, leaves]
            obtain rfl := Option.some.inj hF
            exact ⟨by simp, [(Value.bool false)], by simp [ej60_0, ej60_1, ej60_5, ej60_6, ej60_7, ej60_8, ej60_9, ej60_10, ej60_48], A73, rfl, S72.pick [] (by decide) rfl⟩
          · replace hF := cd_f hb76 hF
            refine DWp.skip ?_
            simp only [andThen, leaves]
            refine DWp.seq ?_
            refine DWp.seq ?_
            obtain ⟨r10, hc77, hF⟩ := bd_some hF
            refine DWp.region fun K hK => ?_
            simp [-aBin', -aBin, -aBinI, -aUn, -aNil, -flatV, n_fn, b_add, b_sub, b_mul, b_lt, b_le, b_gt, b_ge, b_eq, b_ne, u_not, ej60_0, ej60_1, ej60_5, ej60_6, ej60_7, ej60_8, ej60_9, ej60_10, ej60_48, ((hx1.agree A73.agree).tup)]
            refine CallD.t (F_laws_toIntS_w (fu := fu) (hx1.agree A73.agree) hc77) ?_
            rintro c78_u0 G79 ⟨a82, _, rfl, S83⟩
            have A81 := A73.ext (hB.le A73.1) a82.agree
            have S80 : Sep G79 (Fr H) [rowsC c20_u0 22 3 c20_C0 (List.map ints r3.1), flat c27_u0 3 (ints r4), flat c34_u0 3 (ints r5), rowsC c41_u0 22 3 c41_C0 (List.map ints r6.1), flat c63_u0 3 (ints r8), flat c78_u0 3 (ints r10)] := S72.app a82.agree S83 (fun _ h => h) (hB.le A73.1)
            obtain ⟨r11, hc84, hF⟩ := bd_some hF
            simp [-aBin', -aBin, -aBinI, -aUn, -aNil, -flatV, n_fn, b_add, b_sub, b_mul, b_lt, b_le, b_gt, b_ge, b_eq, b_ne, u_not, ej60_0, ej60_1, ej60_5, ej60_6, ej60_7, ej60_8, ej60_9, ej60_10, ej60_48, a82.pre, ((S80.sl (k := 2) rfl).tup), ((S80.sl (k := 5) rfl).tup)]
            refine CallD.t (F_laws_eqIntS_w (fu := fu) (S80.sl (k := 2) rfl) (S80.sl (k := 5) rfl) hc84) ?_
            rintro _ G86 ⟨a89, rfl, S90⟩
            have A88 := A81.ext (hB.le A81.1) a89.agree
            have S87 : Sep G86 (Fr H) [rowsC c20_u0 22 3 c20_C0 (List.map ints r3.1), flat c27_u0 3 (ints r4), flat c34_u0 3 (ints r5), rowsC c41_u0 22 3 c41_C0 (List.map ints r6.1), flat c63_u0 3 (ints r8), flat c78_u0 3 (ints r10)] := S80.app a89.agree S90 (fun _ h => h) (hB.le A81.1)
            simp [-aBin', -aBin, -aBinI, -aUn, -aNil, -flatV, n_fn, b_add, b_sub, b_mul, b_lt, b_le, b_gt, b_ge, b_eq, b_ne, u_not, ej60_0, ej60_1, ej60_5, ej60_6, ej60_7, ej60_8, ej60_9, ej60_10, ej60_48, a82.pre, a89.pre]
            apply hK
            clear hK K
            simp only [andThen, leaves]
            refine DWp.cond' (t := (bnot r11)) (by simp [ej60_0, ej60_1, ej60_5, ej60_6, ej60_7, ej60_8, ej60_9, ej60_10, ej60_48]) (fun hb91 => ?_) (fun hb91 => ?_)
            · replace hF := cd_t hb91 hF
              refine DWp.seq ?_
              refine DWp.region fun K hK => ?_
              simp [-aBin', -aBin, -aBinI, -aUn, -aNil, -flatV, n_fn, b_add, b_sub, b_mul, b_lt, b_le, b_gt, b_ge, b_eq, b_ne, u_not, ej60_0, ej60_1, ej60_5, ej60_6, ej60_7, ej60_8, ej60_9, ej60_10, ej60_48]
              apply hK
              clear hK K
              simp only [andThen, leaves]
              refine DWp.ret ?_
              simp only [andThen, leaves]
              obtain rfl := Option.some.inj hF
              exact ⟨by simp, [(Value.bool false)], by simp [ej60_0, ej60_1, ej60_5, ej60_6, ej60_7, ej60_8, ej60_9, ej60_10, ej60_48], A88, rfl, S87.pick [] (by decide) rfl⟩
            · replace hF := cd_f hb91 hF
              refine DWp.skip ?_
              simp only [andThen, leaves]
              refine DWp.seq ?_
              refine DWp.region fun K hK => ?_
              simp [-aBin', -aBin, -aBinI, -aUn, -aNil, -flatV, n_fn, b_add, b_sub, b_mul, b_lt, b_le, b_gt, b_ge, b_eq, b_ne, u_not, ej60_0, ej60_1, ej60_5, ej60_6, ej60_7, ej60_8, ej60_9, ej60_10, ej60_48]
              apply hK
              clear hK K
              simp only [andThen, leaves]
              refine DWp.seq ?_
              obtain ⟨r12, hc92, hF⟩ := bd_some hF
              refine DWp.region fun K hK => ?_
              simp [-aBin', -aBin, -aBinI, -aUn, -aNil, -flatV, n_fn, b_add, b_sub, b_mul, b_lt, b_le, b_gt, b_ge, b_eq, b_ne, u_not, ej60_0, ej60_1, ej60_5, ej60_6, ej60_7, ej60_8, ej60_9, ej60_10, ej60_48, ((S87.sl (k := 1) rfl).tup)]
              have S93 : Sep G86 (Fr H) ([flat c27_u0 3 (ints r4)] ++ [rowsC c20_u0 22 3 c20_C0 (List.map ints r3.1), flat c34_u0 3 (ints r5), rowsC c41_u0 22 3 c41_C0 (List.map ints r6.1), flat c63_u0 3 (ints r8), flat c78_u0 3 (ints r10)]) := S87.pick [1, 0, 2, 3, 4, 5] (by decide) rfl
              obtain ⟨B99, S94, U95, M96, R97, C98⟩ := S93.frame (hB.le A88.1)
              refine CallD.t (F_laws_markIntS_w (fu := fu) U95 S94 hc92) ?_
              rintro _ G101 ⟨a104, rfl, S105⟩
              have A103 := A88.trans (a104.mono M96)
              have S102 : Sep G101 (Fr H) [flat c27_u0 3 (ints r12.2), rowsC c20_u0 22 3 c20_C0 (List.map ints r3.1), flat c34_u0 3 (ints r5), rowsC c41_u0 22 3 c41_C0 (List.map ints r6.1), flat c63_u0 3 (ints r8), flat c78_u0 3 (ints r10)] := C98 _ _ a104 S105
              simp [-aBin', -aBin, -aBinI, -aUn, -aNil, -flatV, n_fn, b_add, b_sub, b_mul, b_lt, b_le, b_gt, b_ge, b_eq, b_ne, u_not, ej60_0, ej60_1, ej60_5, ej60_6, ej60_7, ej60_8, ej60_9, ej60_10, ej60_48]
              apply hK
              clear hK K
              simp only [andThen, leaves]
              refine DWp.seq ?_
              obtain ⟨r13, hc106, hF⟩ := bd_some hF
              refine DWp.region fun K hK => ?_
              simp [-aBin', -aBin, -aBinI, -aUn, -aNil, -flatV, n_fn, b_add, b_sub, b_mul, b_lt, b_le, b_gt, b_ge, b_eq, b_ne, u_not, ej60_0, ej60_1, ej60_5, ej60_6, ej60_7, ej60_8, ej60_9, ej60_10, ej60_48, ((S102.sl (k := 2) rfl).tup)]
              have S107 : Sep G101 (Fr H) ([flat c34_u0 3 (ints r5)] ++ [flat c27_u0 3 (ints r12.2), rowsC c20_u0 22 3 c20_C0 (List.map ints r3.1), rowsC c41_u0 22 3 c41_C0 (List.map ints r6.1), flat c63_u0 3 (ints r8), flat c78_u0 3 (ints r10)]) := S102.pick [2, 0, 1, 3, 4, 5] (by decide) rfl
              obtain ⟨B113, S108, U109, M110, R111, C112⟩ := S107.frame (hB.le A103.1)
              refine CallD.t (F_laws_markIntS_w (fu := fu) U109 S108 hc106) ?_
              rintro _ G115 ⟨a118, rfl, S119⟩
              have A117 := A103.trans (a118.mono M110)
              have S116 : Sep G115 (Fr H) [flat c34_u0 3 (ints r13.2), flat c27_u0 3 (ints r12.2), rowsC c20_u0 22 3 c20_C0 (List.map ints r3.1), rowsC c41_u0 22 3 c41_C0 (List.map ints r6.1), flat c63_u0 3 (ints r8), flat c78_u0 3 (ints r10)] := C112 _ _ a118 S119
              simp [-aBin', -aBin, -aBinI, -aUn, -aNil, -flatV, n_fn, b_add, b_sub, b_mul, b_lt, b_le, b_gt, b_ge, b_eq, b_ne, u_not, ej60_0, ej60_1, ej60_5, ej60_6, ej60_7, ej60_8, ej60_9, ej60_10, ej60_48]
              apply hK
              clear hK K
              simp only [andThen, leaves]
              refine DWp.seq ?_
              obtain ⟨s120, hL121, hF⟩ := bd_some hF
              refine DWp.seq (DWp.join (fun env G => Sep G (Fr H) [rowsC c20_u0 22 3 c20_C0 (List.map ints r3.1), rowsC c41_u0 22 3 c41_C0 (List.map ints r6.1)] ∧ AgB (Fr H) H G ∧ env 0 = some v0 ∧ env 1 = some v1 ∧ env 5 = some c20_u0 ∧ env 6 = some (Value.bool r3.2) ∧ env 9 = some c41_u0 ∧ env 77 = some (Value.bool s120)) ?_ ?_)
              ·
                rcases Bool.eq_false_or_eq_true (ilt r13.1 0) with hb123 | hb123
                · replace hL121 := cd_t hb123 hL121
                  refine DWp.region fun K hK => ?_
                  simp [-aBin', -aBin, -aBinI, -aUn, -aNil, -flatV, n_fn, b_add, b_sub, b_mul, b_lt, b_le, b_gt, b_ge, b_eq, b_ne, u_not, ej60_0, ej60_1, ej60_5, ej60_6, ej60_7, ej60_8, ej60_9, ej60_10, ej60_48, hb123]
                  apply hK
                  clear hK K
                  simp only [andThen, leaves]
                  have S124 := S116.pick [2, 3] (by decide) rfl
                  obtain rfl := Option.some.inj hL121
                  exact ⟨S124, A117, by simp [ej60_0, ej60_1, ej60_5, ej60_6, ej60_7, ej60_8, ej60_9, ej60_10, ej60_48], by simp [ej60_0, ej60_1, ej60_5, ej60_6, ej60_7, ej60_8, ej60_9, ej60_10, ej60_48], by simp [ej60_0, ej60_1, ej60_5, ej60_6, ej60_7, ej60_8, ej60_9, ej60_10, ej60_48], by simp [ej60_0, ej60_1, ej60_5, ej60_6, ej60_7, ej60_8, ej60_9, ej60_10, ej60_48], by simp [ej60_0, ej60_1, ej60_5, ej60_6, ej60_7, ej60_8, ej60_9, ej60_10, ej60_48], by simp [ej60_0, ej60_1, ej60_5, ej60_6, ej60_7, ej60_8, ej60_9, ej60_10, ej60_48]⟩
                · replace hL121 := cd_f hb123 hL121
                  obtain ⟨r14, hc125, hL121⟩ := bd_some hL121
                  refine DWp.region fun K hK => ?_
                  simp [-aBin', -aBin, -aBinI, -aUn, -aNil, -flatV, n_fn, b_add, b_sub, b_mul, b_lt, b_le, b_gt, b_ge, b_eq, b_ne, u_not, ej60_0, ej60_1, ej60_5, ej60_6, ej60_7, ej60_8, ej60_9, ej60_10, ej60_48, hb123, ((S116.rd (k := 3) rfl).tup), ((S116.rd (k := 2) rfl).tup)]
                  refine CallD.t (F_laws_eqIntSS_w (fu := fu) ((S116.rd (k := 3) rfl).slsl) ((S116.rd (k := 2) rfl).slsl) hc125) ?_
                  rintro _ G127 ⟨a130, rfl, S131⟩
                  have A129 := A117.ext (hB.le A117.1) a130.agree
                  have S128 : Sep G127 (Fr H) [flat c34_u0 3 (ints r13.2), flat c27_u0 3 (ints r12.2), rowsC c20_u0 22 3 c20_C0 (List.map ints r3.1), rowsC c41_u0 22 3 c41_C0 (List.map ints r6.1), flat c63_u0 3 (ints r8), flat c78_u0 3 (ints r10)] := S116.app a130.agree S131 (fun _ h => h) (hB.le A117.1)
                  rcases Bool.eq_false_or_eq_true (bnot r14) with hb132 | hb132
                  · replace hL121 := cd_t hb132 hL121
                    simp [-aBin', -aBin, -aBinI, -aUn, -aNil, -flatV, n_fn, b_add, b_sub, b_mul, b_lt, b_le, b_gt, b_ge, b_eq, b_ne, u_not, ej60_0, ej60_1, ej60_5, ej60_6, ej60_7, ej60_8, ej60_9, ej60_10, ej60_48, hb123, hb132, a130.pre]
                    apply hK
                    clear hK K
                    simp only [andThen, leaves]
                    have S133 := S128.pick [2, 3] (by decide) rfl
                    obtain rfl := Option.some.inj hL121
                    exact ⟨S133, A129, by simp [ej60_0, ej60_1, ej60_5, ej60_6, ej60_7, ej60_8, ej60_9, ej60_10, ej60_48], by simp [ej60_0, ej60_1, ej60_5, ej60_6, ej60_7, ej60_8, ej60_9, ej60_10, ej60_48], by simp [ej60_0, ej60_1, ej60_5, ej60_6, ej60_7, ej60_8, ej60_9, ej60_10, ej60_48], by simp [ej60_0, ej60_1, ej60_5, ej60_6, ej60_7, ej60_8, ej60_9, ej60_10, ej60_48], by simp [ej60_0, ej60_1, ej60_5, ej60_6, ej60_7, ej60_8, ej60_9, ej60_10, ej60_48], by simp [ej60_0, ej60_1, ej60_5, ej60_6, ej60_7, ej60_8, ej60_9, ej60_10, ej60_48]⟩
                  · replace hL121 := cd_f hb132 hL121
                    simp [-aBin', -aBin, -aBinI, -aUn, -aNil, -flatV, n_fn, b_add, b_sub, b_mul, b_lt, b_le, b_gt, b_ge, b_eq, b_ne, u_not, ej60_0, ej60_1, ej60_5, ej60_6, ej60_7, ej60_8, ej60_9, ej60_10, ej60_48, hb123, hb132, a130.pre, b_bne un_4]
                    apply hK
                    clear hK K
                    simp only [andThen, leaves]
                    have S134 := S128.pick [2, 3] (by decide) rfl
                    obtain rfl := Option.some.inj hL121
                    exact ⟨S134, A129, by simp [ej60_0, ej60_1, ej60_5, ej60_6, ej60_7, ej60_8, ej60_9, ej60_10, ej60_48], by simp [ej60_0, ej60_1, ej60_5, ej60_6, ej60_7, ej60_8, ej60_9, ej60_10, ej60_48], by simp [ej60_0, ej60_1, ej60_5, ej60_6, ej60_7, ej60_8, ej60_9, ej60_10, ej60_48], by simp [ej60_0, ej60_1, ej60_5, ej60_6, ej60_7, ej60_8, ej60_9, ej60_10, ej60_48], by simp [ej60_0, ej60_1, ej60_5, ej60_6, ej60_7, ej60_8, ej60_9, ej60_10, ej60_48], by simp [ej60_0, ej60_1, ej60_5, ej60_6, ej60_7, ej60_8, ej60_9, ej60_10, ej60_48]⟩
              · rintro env Gj135 ⟨Sj135, Aj135, ej135_0, ej135_1, ej135_5, ej135_6, ej135_9, ej135_77⟩
                refine DWp.cond' (t := s120) (by simp [ej135_0, ej135_1, ej135_5, ej135_6, ej135_9, ej135_77]) (fun hb136 => ?_) (fun hb136 => ?_)
                · replace hF := cd_t hb136 hF
                  refine DWp.seq ?_
                  refine DWp.region fun K hK => ?_
                  simp [-aBin', -aBin, -aBinI, -aUn, -aNil, -flatV, n_fn, b_add, b_sub, b_mul, b_lt, b_le, b_gt, b_ge, b_eq, b_ne, u_not, ej135_0, ej135_1, ej135_5, ej135_6, ej135_9, ej135_77]
                  apply hK
                  clear hK K
                  simp only [andThen, leaves]
                  refine DWp.ret ?_
                  simp only [andThen, leaves]
                  obtain rfl := Option.some.inj hF
                  exact ⟨by simp, [(Value.bool false)], by simp [ej135_0, ej135_1, ej135_5, ej135_6, ej135_9, ej135_77], Aj135, rfl, Sj135.pick [] (by decide) rfl⟩
                · replace hF := cd_f hb136 hF
                  refine DWp.skip ?_
                  simp only [andThen, leaves]
                  refine DWp.seq ?_
                  refine DWp.region fun K hK => ?_
                  simp [-aBin', -aBin, -aBinI, -aUn, -aNil, -flatV, n_fn, b_add, b_sub, b_mul, b_lt, b_le, b_gt, b_ge, b_eq, b_ne, u_not, ej135_0, ej135_1, ej135_5, ej135_6, ej135_9, ej135_77]
                  apply hK
                  clear hK K
                  simp only [andThen, leaves]
                  refine DWp.seq ?_
                  obtain ⟨r15, hc137, hF⟩ := bd_some hF
                  refine DWp.region fun K hK => ?_
                  simp [-aBin', -aBin, -aBinI, -aUn, -aNil, -flatV, n_fn, b_add, b_sub, b_mul, b_lt, b_le, b_gt, b_ge, b_eq, b_ne, u_not, ej135_0, ej135_1, ej135_5, ej135_6, ej135_9, ej135_77, ((Sj135.rd (k := 1) rfl).tup)]
                  have S138 : Sep Gj135 (Fr H) ([rowsC c41_u0 22 3 c41_C0 (List.map ints r6.1)] ++ [rowsC c20_u0 22 3 c20_C0 (List.map ints r3.1)]) := Sj135.pick [1, 0] (by decide) rfl
                  obtain ⟨B144, S139, U140, M141, R142, C143⟩ := S138.frame (hB.le Aj135.1)
                  refine CallD.t (F_laws_markIntSS_w (fu := fu) U140 S139 hc137) ?_
                  rintro _ G146 ⟨a149, c145_Cz0, rfl, S150⟩
                  have A148 := Aj135.trans (a149.mono M141)
                  have S147 : Sep G146 (Fr H) [rowsC c41_u0 22 3 c145_Cz0 (List.map ints r15.2), rowsC c20_u0 22 3 c20_C0 (List.map ints r3.1)] := C143 _ _ a149 S150
                  simp [-aBin', -aBin, -aBinI, -aUn, -aNil, -flatV, n_fn, b_add, b_sub, b_mul, b_lt, b_le, b_gt, b_ge, b_eq, b_ne, u_not, ej135_0, ej135_1, ej135_5, ej135_6, ej135_9, ej135_77]
                  apply hK
                  clear hK K
                  simp only [andThen, leaves]
                  refine DWp.seq ?_
                  refine DWp.region fun K hK => ?_
                  simp [-aBin', -aBin, -aBinI, -aUn, -aNil, -flatV, n_fn, b_add, b_sub, b_mul, b_lt, b_le, b_gt, b_ge, b_eq, b_ne, u_not, ej135_0, ej135_1, ej135_5, ej135_6, ej135_9, ej135_77]
                  apply hK
                  clear hK K
                  simp only [andThen, leaves]
                  refine DWp.seq ?_
                  obtain ⟨r16, hc151, hF⟩ := bd_some hF
                  refine DWp.region fun K hK => ?_
                  simp [-aBin', -aBin, -aBinI, -aUn, -aNil, -flatV, n_fn, b_add, b_sub, b_mul, b_lt, b_le, b_gt, b_ge, b_eq, b_ne, u_not, ej135_0, ej135_1, ej135_5, ej135_6, ej135_9, ej135_77, ((S147.rd (k := 0) rfl).tup)]
                  refine CallD.t (F_laws_heldIntSS_w (fu := fu) ((S147.rd (k := 0) rfl).slsl) hc151) ?_
                  rintro _ G153 ⟨a156, rfl, S157⟩
                  have A155 := A148.ext (hB.le A148.1) a156.agree
                  have S154 : Sep G153 (Fr H) [rowsC c41_u0 22 3 c145_Cz0 (List.map ints r15.2), rowsC c20_u0 22 3 c20_C0 (List.map ints r3.1)] := S147.app a156.agree S157 (fun _ h => h) (hB.le A148.1)
                  simp [-aBin', -aBin, -aBinI, -aUn, -aNil, -flatV, n_fn, b_add, b_sub, b_mul, b_lt, b_le, b_gt, b_ge, b_eq, b_ne, u_not, ej135_0, ej135_1, ej135_5, ej135_6, ej135_9, ej135_77, a156.pre]
                  apply hK
                  clear hK K
                  simp only [andThen, leaves]
                  refine DWp.seq ?_
                  refine DWp.seq ?_
                  refine DWp.region fun K hK => ?_
                  simp [-aBin', -aBin, -aBinI, -aUn, -aNil, -flatV, n_fn, b_add, b_sub, b_mul, b_lt, b_le, b_gt, b_ge, b_eq, b_ne, u_not, ej135_0, ej135_1, ej135_5, ej135_6, ej135_9, ej135_77]
                  apply hK
                  clear hK K
                  simp only [andThen, leaves]
                  refine DWp.cond' (t := (ilt r16 0)) (by simp [ej135_0, ej135_1, ej135_5, ej135_6, ej135_9, ej135_77]) (fun hb158 => ?_) (fun hb158 => ?_)
                  · replace hF := cd_t hb158 hF
                    refine DWp.seq ?_
                    refine DWp.region fun K hK => ?_
                    simp [-aBin', -aBin, -aBinI, -aUn, -aNil, -flatV, n_fn, b_add, b_sub, b_mul, b_lt, b_le, b_gt, b_ge, b_eq, b_ne, u_not, ej135_0, ej135_1, ej135_5, ej135_6, ej135_9, ej135_77]
                    apply hK
                    clear hK K
                    simp only [andThen, leaves]
                    refine DWp.ret ?_
                    simp only [andThen, leaves]
                    obtain rfl := Option.some.inj hF
                    exact ⟨by simp, [(Value.bool false)], by simp [ej135_0, ej135_1, ej135_5, ej135_6, ej135_9, ej135_77], A155, rfl, S154.pick [] (by decide) rfl⟩
                  · replace hF := cd_f hb158 hF
                    refine DWp.skip ?_
                    simp only [andThen, leaves]
                    refine DWp.seq ?_
                    refine DWp.seq ?_
                    refine DWp.region fun K hK => ?_
                    simp [-aBin', -aBin, -aBinI, -aUn, -aNil, -flatV, n_fn, b_add, b_sub, b_mul, b_lt, b_le, b_gt, b_ge, b_eq, b_ne, u_not, ej135_0, ej135_1, ej135_5, ej135_6, ej135_9, ej135_77]
                    apply hK
                    clear hK K
                    simp only [andThen, leaves]
                    refine DWp.cond' (t := (ine r16 r15.1)) (by simp [ej135_0, ej135_1, ej135_5, ej135_6, ej135_9, ej135_77]) (fun hb159 => ?_) (fun hb159 => ?_)
                    · replace hF := cd_t hb159 hF
                      refine DWp.seq ?_
                      refine DWp.region fun K hK => ?_
                      simp [-aBin', -aBin, -aBinI, -aUn, -aNil, -flatV, n_fn, b_add, b_sub, b_mul, b_lt, b_le, b_gt, b_ge, b_eq, b_ne, u_not, ej135_0, ej135_1, ej135_5, ej135_6, ej135_9, ej135_77]
                      apply hK
                      clear hK K
                      simp only [andThen, leaves]
                      refine DWp.ret ?_
                      simp only [andThen, leaves]
                      obtain rfl := Option.some.inj hF
                      exact ⟨by simp, [(Value.bool false)], by simp [ej135_0, ej135_1, ej135_5, ej135_6, ej135_9, ej135_77], A155, rfl, S154.pick [] (by decide) rfl⟩
                    · replace hF := cd_f hb159 hF
                      refine DWp.skip ?_
                      simp only [andThen, leaves]
                      refine DWp.seq ?_
                      obtain ⟨r17, hc160, hF⟩ := bd_some hF
                      refine DWp.region fun K hK => ?_
                      simp [-aBin', -aBin, -aBinI, -aUn, -aNil, -flatV, n_fn, b_add, b_sub, b_mul, b_lt, b_le, b_gt, b_ge, b_eq, b_ne, u_not, ej135_0, ej135_1, ej135_5, ej135_6, ej135_9, ej135_77, ((hx0.agree A155.agree).tup)]
                      refine CallD.t (F_laws_toIntS_w (fu := fu) (hx0.agree A155.agree) hc160) ?_
                      rintro c161_u0 G162 ⟨a165, _, rfl, S166⟩
                      have A164 := A155.ext (hB.le A155.1) a165.agree
                      have S163 : Sep G162 (Fr H) [rowsC c41_u0 22 3 c145_Cz0 (List.map ints r15.2), rowsC c20_u0 22 3 c20_C0 (List.map ints r3.1), flat c161_u0 3 (ints r17)] := S154.app a165.agree S166 (fun _ h => h) (hB.le A155.1)
                      obtain ⟨r18, hc167, hF⟩ := bd_some hF
                      simp [-aBin', -aBin, -aBinI, -aUn, -aNil, -flatV, n_fn, b_add, b_sub, b_mul, b_lt, b_le, b_gt, b_ge, b_eq, b_ne, u_not, ej135_0, ej135_1, ej135_5, ej135_6, ej135_9, ej135_77, a165.pre, ((hx1.agree A164.agree).tup)]
                      refine CallD.t (F_laws_toIntS_w (fu := fu) (hx1.agree A164.agree) hc167) ?_
                      rintro c168_u0 G169 ⟨a172, _, rfl, S173⟩
                      have A171 := A164.ext (hB.le A164.1) a172.agree
                      have S170 : Sep G169 (Fr H) [rowsC c41_u0 22 3 c145_Cz0 (List.map ints r15.2), rowsC c20_u0 22 3 c20_C0 (List.map ints r3.1), flat c161_u0 3 (ints r17), flat c168_u0 3 (ints r18)] := S163.app a172.agree S173 (fun _ h => h) (hB.le A164.1)
                      obtain ⟨r19, hc174, hF⟩ := bd_some hF
                      simp [-aBin', -aBin, -aBinI, -aUn, -aNil, -flatV, n_fn, b_add, b_sub, b_mul, b_lt, b_le, b_gt, b_ge, b_eq, b_ne, u_not, ej135_0, ej135_1, ej135_5, ej135_6, ej135_9, ej135_77, a165.pre, a172.pre, ((S170.sl (k := 2) rfl).tup), ((S170.sl (k := 3) rfl).tup)]
                      refine CallD.t (F_impl_BetweenSystems_w (fu := fu) (S170.sl (k := 2) rfl) (S170.sl (k := 3) rfl) hc174) ?_
                      rintro _ G176 ⟨a179, c175_u0, c175_C0, rfl, S180⟩
                      have A178 := A171.ext (hB.le A171.1) a179.agree
                      have S177 : Sep G176 (Fr H) [rowsC c41_u0 22 3 c145_Cz0 (List.map ints r15.2), rowsC c20_u0 22 3 c20_C0 (List.map ints r3.1), flat c161_u0 3 (ints r17), flat c168_u0 3 (ints r18), rowsC c175_u0 22 3 c175_C0 (List.map ints r19.1)] := S170.app a179.agree S180 (fun _ h => h) (hB.le A171.1)
                      simp [-aBin', -aBin, -aBinI, -aUn, -aNil, -flatV, n_fn, b_add, b_sub, b_mul, b_lt, b_le, b_gt, b_ge, b_eq, b_ne, u_not, ej135_0, ej135_1, ej135_5, ej135_6, ej135_9, ej135_77, a165.pre, a172.pre, a179.pre]
                      apply hK
                      clear hK K
                      simp only [andThen, leaves]
                      refine DWp.seq ?_
                      obtain ⟨s181, hL182, hF⟩ := bd_some hF
                      refine DWp.seq (DWp.join (fun env G => Sep G (Fr H) [rowsC c41_u0 22 3 c145_Cz0 (List.map ints r15.2)] ∧ AgB (Fr H) H G ∧ env 9 = some c41_u0 ∧ env 12 = some (Value.int .i64 r15.1) ∧ env 105 = some (Value.bool s181)) ?_ ?_)
                      ·
                        obtain ⟨r20, hc184, hL182⟩ := bd_some hL182
                        refine DWp.region fun K hK => ?_
                        simp [-aBin', -aBin, -aBinI, -aUn, -aNil, -flatV, n_fn, b_add, b_sub, b_mul, b_lt, b_le, b_gt, b_ge, b_eq, b_ne, u_not, ej135_0, ej135_1, ej135_5, ej135_6, ej135_9, ej135_77, ((S177.rd (k := 4) rfl).tup), ((S177.rd (k := 1) rfl).tup)]
                        refine CallD.t (F_laws_eqIntSS_w (fu := fu) ((S177.rd (k := 4) rfl).slsl) ((S177.rd (k := 1) rfl).slsl) hc184) ?_
                        rintro _ G186 ⟨a189, rfl, S190⟩
                        have A188 := A178.ext (hB.le A178.1) a189.agree
                        have S187 : Sep G186 (Fr H) [rowsC c41_u0 22 3 c145_Cz0 (List.map ints r15.2), rowsC c20_u0 22 3 c20_C0 (List.map ints r3.1), flat c161_u0 3 (ints r17), flat c168_u0 3 (ints r18), rowsC c175_u0 22 3 c175_C0 (List.map ints r19.1)] := S177.app a189.agree S190 (fun _ h => h) (hB.le A178.1)
                        rcases Bool.eq_false_or_eq_true (bnot r20) with hb191 | hb191
                        · replace hL182 := cd_t hb191 hL182
                          simp [-aBin', -aBin, -aBinI, -aUn, -aNil, -flatV, n_fn, b_add, b_sub, b_mul, b_lt, b_le, b_gt, b_ge, b_eq, b_ne, u_not, ej135_0, ej135_1, ej135_5, ej135_6, ej135_9, ej135_77, hb191, a189.pre]
                          apply hK
                          clear hK K
                          simp only [andThen, leaves]
                          have S192 := S187.pick [0] (by decide) rfl
                          obtain rfl := Option.some.inj hL182
                          exact ⟨S192, A188, by simp [ej135_0, ej135_1, ej135_5, ej135_6, ej135_9, ej135_77], by simp [ej135_0, ej135_1, ej135_5, ej135_6, ej135_9, ej135_77], by simp [ej135_0, ej135_1, ej135_5, ej135_6, ej135_9, ej135_77]⟩
                        · replace hL182 := cd_f hb191 hL182
                          simp [-aBin', -aBin, -aBinI, -aUn, -aNil, -flatV, n_fn, b_add, b_sub, b_mul, b_lt, b_le, b_gt, b_ge, b_eq, b_ne, u_not, ej135_0, ej135_1, ej135_5, ej135_6, ej135_9, ej135_77, hb191, a189.pre, b_bne un_4]
                          apply hK
                          clear hK K
                          simp only [andThen, leaves]
                          have S193 := S187.pick [0] (by decide) rfl
                          obtain rfl := Option.some.inj hL182
                          exact ⟨S193, A188, by simp [ej135_0, ej135_1, ej135_5, ej135_6, ej135_9, ej135_77], by simp [ej135_0, ej135_1, ej135_5, ej135_6, ej135_9, ej135_77], by simp [ej135_0, ej135_1, ej135_5, ej135_6, ej135_9, ej135_77]⟩
                      · rintro env Gj194 ⟨Sj194, Aj194, ej194_9, ej194_12, ej194_105⟩
                        refine DWp.cond' (t := s181) (by simp [ej194_9, ej194_12, ej194_105]) (fun hb195 => ?_) (fun hb195 => ?_)
                        · replace hF := cd_t hb195 hF
                          refine DWp.seq ?_
                          refine DWp.region fun K hK => ?_
                          simp [-aBin', -aBin, -aBinI, -aUn, -aNil, -flatV, n_fn, b_add, b_sub, b_mul, b_lt, b_le, b_gt, b_ge, b_eq, b_ne, u_not, ej194_9, ej194_12, ej194_105]
                          apply hK
                          clear hK K
                          simp only [andThen, leaves]
                          refine DWp.ret ?_
                          simp only [andThen, leaves]
                          obtain rfl := Option.some.inj hF
                          exact ⟨by simp, [(Value.bool false)], by simp [ej194_9, ej194_12, ej194_105], Aj194, rfl, Sj194.pick [] (by decide) rfl⟩
                        · replace hF := cd_f hb195 hF
                          refine DWp.skip ?_
                          simp only [andThen, leaves]
                          refine DWp.seq ?_
                          refine DWp.region fun K hK => ?_
                          simp [-aBin', -aBin, -aBinI, -aUn, -aNil, -flatV, n_fn, b_add, b_sub, b_mul, b_lt, b_le, b_gt, b_ge, b_eq, b_ne, u_not, ej194_9, ej194_12, ej194_105]
                          apply hK
                          clear hK K
                          simp only [andThen, leaves]
                          refine DWp.seq ?_
                          obtain ⟨r21, hc196, hF⟩ := bd_some hF
                          refine DWp.region fun K hK => ?_
                          simp [-aBin', -aBin, -aBinI, -aUn, -aNil, -flatV, n_fn, b_add, b_sub, b_mul, b_lt, b_le, b_gt, b_ge, b_eq, b_ne, u_not, ej194_9, ej194_12, ej194_105, ((Sj194.rd (k := 0) rfl).tup)]
                          refine CallD.t (F_laws_heldIntSS_w (fu := fu) ((Sj194.rd (k := 0) rfl).slsl) hc196) ?_
                          rintro _ G198 ⟨a201, rfl, S202⟩
                          have A200 := Aj194.ext (hB.le Aj194.1) a201.agree
                          have S199 : Sep G198 (Fr H) [rowsC c41_u0 22 3 c145_Cz0 (List.map ints r15.2)] := Sj194.app a201.agree S202 (fun _ h => h) (hB.le Aj194.1)
                          simp [-aBin', -aBin, -aBinI, -aUn, -aNil, -flatV, n_fn, b_add, b_sub, b_mul, b_lt, b_le, b_gt, b_ge, b_eq, b_ne, u_not, ej194_9, ej194_12, ej194_105, a201.pre]
                          apply hK
                          clear hK K
                          simp only [andThen, leaves]
                          refine DWp.seq ?_
                          refine DWp.seq ?_
                          refine DWp.region fun K hK => ?_
                          simp [-aBin', -aBin, -aBinI, -aUn, -aNil, -flatV, n_fn, b_add, b_sub, b_mul, b_lt, b_le, b_gt, b_ge, b_eq, b_ne, u_not, ej194_9, ej194_12, ej194_105]
                          apply hK
                          clear hK K
                          simp only [andThen, leaves]
                          refine DWp.cond' (t := (ilt r21 0)) (by simp [ej194_9, ej194_12, ej194_105]) (fun hb203 => ?_) (fun hb203 => ?_)
                          · replace hF := cd_t hb203 hF
                            refine DWp.seq ?_
                            refine DWp.region fun K hK => ?_
                            simp [-aBin', -aBin, -aBinI, -aUn, -aNil, -flatV, n_fn, b_add, b_sub, b_mul, b_lt, b_le, b_gt, b_ge, b_eq, b_ne, u_not, ej194_9, ej194_12, ej194_105]
                            apply hK
                            clear hK K
                            simp only [andThen, leaves]
                            refine DWp.ret ?_
                            simp only [andThen, leaves]
                            obtain rfl := Option.some.inj hF
                            exact ⟨by simp, [(Value.bool false)], by simp [ej194_9, ej194_12, ej194_105], A200, rfl, S199.pick [] (by decide) rfl⟩
                          · replace hF := cd_f hb203 hF
                            refine DWp.skip ?_
                            simp only [andThen, leaves]
                            refine DWp.seq ?_
                            refine DWp.seq ?_
                            refine DWp.region fun K hK => ?_
                            simp [-aBin', -aBin, -aBinI, -aUn, -aNil, -flatV, n_fn, b_add, b_sub, b_mul, b_lt, b_le, b_gt, b_ge, b_eq, b_ne, u_not, ej194_9, ej194_12, ej194_105]
                            apply hK
                            clear hK K
                            simp only [andThen, leaves]
                            refine DWp.cond' (t := (ine r21 r15.1)) (by simp [ej194_9, ej194_12, ej194_105]) (fun hb204 => ?_) (fun hb204 => ?_)
                            · replace hF := cd_t hb204 hF
                              refine DWp.seq ?_
                              refine DWp.region fun K hK => ?_
                              simp [-aBin', -aBin, -aBinI, -aUn, -aNil, -flatV, n_fn, b_add, b_sub, b_mul, b_lt, b_le, b_gt, b_ge, b_eq, b_ne, u_not, ej194_9, ej194_12, ej194_105]
                              apply hK
                              clear hK K
                              simp only [andThen, leaves]
                              refine DWp.ret ?_
                              simp only [andThen, leaves]
                              obtain rfl := Option.some.inj hF
                              exact ⟨by simp, [(Value.bool false)], by simp [ej194_9, ej194_12, ej194_105], A200, rfl, S199.pick [] (by decide) rfl⟩
                            · replace hF := cd_f hb204 hF
                              refine DWp.skip ?_
                              simp only [andThen, leaves]
                              refine DWp.seq ?_
                              refine DWp.region fun K hK => ?_
                              simp [-aBin', -aBin, -aBinI, -aUn, -aNil, -flatV, n_fn, b_add, b_sub, b_mul, b_lt, b_le, b_gt, b_ge, b_eq, b_ne, u_not, ej194_9, ej194_12, ej194_105]
                              apply hK
                              clear hK K
                              simp only [andThen, leaves]
                              refine DWp.ret ?_
                              obtain rfl := Option.some.inj hF
                              exact ⟨by simp, [(Value.bool true)], by simp [ej194_9, ej194_12, ej194_105], A200, rfl, S199.pick [] (by decide) rfl⟩
end Go.Proofs.Ytdghlhdpcmemjaa.AL

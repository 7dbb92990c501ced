/- The walks of functions, each with its Lean function: laws.toIntS, spec.exFew, spec.ahAll, spec.BetweenSystems, impl.isExchanged, impl.covered, slices.Clone[[]int,int], impl.joined, bits.Len32, bits.Len64. No condition. -/
import Derived.Test.YtdghlhdpcmemjaaFBD
import Derived.Test.YtdghlhdpcmemjaaALD
import Derived.Test.YtdghlhdpcmemjaaProg
import Derived.KernelRfl
namespace Go.Proofs.Ytdghlhdpcmemjaa.AL
open Go Go.RowKit
set_option linter.unusedVariables false
set_option linter.unusedSimpArgs false
set_option maxRecDepth 4096
theorem ag_22 : aggT Try.prog 22 = some false := by kernel_rfl
theorem ag_3 : aggT Try.prog 3 = some false := by kernel_rfl
theorem ei_22 : einfo Try.prog 22 = some ⟨1, 24, .slice none 0 0⟩ := by kernel_rfl
theorem ei_3 : einfo Try.prog 3 = some ⟨1, 8, .int .i64 0⟩ := by kernel_rfl
theorem el_22 : elemT Try.prog 22 = some 3 := by kernel_rfl
theorem el_23 : elemT Try.prog 23 = some 22 := by kernel_rfl
theorem pl_38 : placeT Try.prog 38 = some (.agg #[.slice none 0 0, .slice none 0 0], fun i => [(0, 1), (1, 1)].toArray[i]?) := by kernel_rfl
theorem sz_22 : sizeT Try.prog 22 = some 1 := by kernel_rfl
theorem sz_3 : sizeT Try.prog 3 = some 1 := by kernel_rfl
theorem un_108 : Try.prog.underlying 108 = some (.int .u64) := by kernel_rfl
theorem un_3 : Try.prog.underlying 3 = some (.int .i64) := by kernel_rfl
theorem un_5 : Try.prog.underlying 5 = some (.int .u8) := by kernel_rfl
theorem un_9 : Try.prog.underlying 9 = some .string := by kernel_rfl
theorem us_22 : Try.prog.underlying 22 = some (.slice 3) := by kernel_rfl
theorem bu_38 {a0 a1 : Value} (t0 : isTup a0 = false) (c0 : a0.cells = #[a0]) (t1 : isTup a1 = false) (c1 : a1.cells = #[a1]) : aBuild Try.prog 38 [(0, a0), (1, a1)] = some (.agg #[a0, a1]) := buildT2 pl_38 rfl rfl t0 c0 t1 c1
def F_laws_toIntS_L1 (fu : Nat) (k1_0 : List Int) : Nat → List Int → Int → Option (List Int × Int)
  | 0, _, _ => none
  | n + 1, l1_0, y1_4 =>
    bif (ilt y1_4 (llen k1_0)) then
      gd (inL k1_0 y1_4) (
      gd (inL l1_0 y1_4) (
      F_laws_toIntS_L1 fu k1_0 n (lset l1_0 y1_4 (gat 0 k1_0 y1_4)) (iadd .i64 y1_4 1)))
    else
      some (l1_0, y1_4)
def F_laws_toIntS (fu : Nat) (x0 : List Int) : Option (List Int) :=
  gd (0 ≤ (llen x0) ∧ (llen x0) ≤ 4294967296) (
  bd (F_laws_toIntS_L1 fu x0 fu (lrep (llen x0) (0 : Int)) 0) fun s1 =>
  some s1.1)
theorem F_laws_toIntS_w {fu : Nat} {H : AH} {v0 : Value} {x0 : List Int} {r : (List Int)} (hx0 : Sl H v0 (ints x0)) (hF : F_laws_toIntS fu x0 = some r) :
    ACallT Try.prog 16 [v0] H (fun u G => AgB (Fr H) H G ∧ ∃ u0 : Value, u = u0 ∧ Sep G (Fr H) [flat u0 3 (ints r)]) := by
  refine ACallT.of_body (nt := 22) (rs := [.tmp 2]) Try.func16 rfl rfl rfl rfl ?_
  have A0 : AgB (Fr H) H H := .refl _ _
  have S0 : Sep H (Fr H) [] := .nil
  have hB := Fr.up H
  unfold F_laws_toIntS at hF
  refine DWp.seq ?_
  refine DWp.region fun K hK => ?_
  simp [-aBin', -aBin, -aBinI, -aUn, -aNil, -flatV, n_fn, b_add, b_sub, b_mul, b_lt, b_le, b_gt, b_ge, b_eq, b_ne, u_not]
  apply hK
  clear hK K
  simp only [andThen, leaves]
  refine DWp.seq ?_
  have q1 := lenG (P := Try.prog) (hx0.agree A0.agree) el_22
  obtain ⟨g2, hF⟩ := gd_some hF
  obtain ⟨v3, G4, q5, S6, a8, _⟩ := S0.make (f := (Value.int .i64)) (P := Try.prog) (t := 22) (hB.le A0.1) el_22 ei_3 rfl 0 rfl g2
  have A7 := A0.ext (hB.le A0.1) a8
  replace S6 : Sep G4 (Fr H) [flat v3 3 (ints (lrep (llen x0) (0 : Int)))] := S6
  refine DWp.region fun K hK => ?_
  simp [-aBin', -aBin, -aBinI, -aUn, -aNil, -flatV, n_fn, b_add, b_sub, b_mul, b_lt, b_le, b_gt, b_ge, b_eq, b_ne, u_not, q1, q5, a8.to_pre]
  apply hK
  clear hK K
  simp only [andThen, leaves]
  refine DWp.seq ?_
  refine DWp.seq ?_
  refine DWp.region fun K hK => ?_
  simp [-aBin', -aBin, -aBinI, -aUn, -aNil, -flatV, n_fn, b_add, b_sub, b_mul, b_lt, b_le, b_gt, b_ge, b_eq, b_ne, u_not]
  apply hK
  clear hK K
  simp only [andThen, leaves]
  refine DWp.block ?_
  obtain ⟨s9, hL10, hF⟩ := bd_some hF
  have S11 := S6.pick [0] (by decide) rfl
  refine DWp.loop (fun n env G => ∃ l1_0 : List Int, ∃ y1_4 : Int, F_laws_toIntS_L1 fu x0 n l1_0 y1_4 = some s9 ∧ Sep G (Fr H) [flat v3 3 (ints l1_0)] ∧ AgB (Fr H) H G ∧ env 0 = some v0 ∧ env 3 = some v3 ∧ env 4 = some (Value.int .i64 y1_4)) fu ⟨(lrep (llen x0) (0 : Int)), 0, hL10, S11, A7, by simp [], by simp [], by simp []⟩ ?_
  rintro n1 env1 G1_ ⟨l1_0, y1_4, hL10, S1_, A1_, e1_0, e1_3, e1_4⟩
  cases n1 with
  | zero => cases hL10
  | succ n1 =>
    simp only [F_laws_toIntS_L1] at hL10
    refine DWp.seq ?_
    refine DWp.seq ?_
    have q12 := lenG (P := Try.prog) (hx0.agree A1_.agree) el_22
    refine DWp.region fun K hK => ?_
    simp [-aBin', -aBin, -aBinI, -aUn, -aNil, -flatV, n_fn, b_add, b_sub, b_mul, b_lt, b_le, b_gt, b_ge, b_eq, b_ne, u_not, e1_0, e1_3, e1_4, q12]
    apply hK
    clear hK K
    simp only [andThen, leaves]
    refine DWp.cond' (t := (ilt y1_4 (llen x0))) (by simp [e1_0, e1_3, e1_4]) (fun hb13 => ?_) (fun hb13 => ?_)
    · replace hL10 := cd_t hb13 hL10
      refine DWp.skip ?_
      simp only [andThen, leaves]
      refine DWp.seq ?_
      refine DWp.block ?_
      obtain ⟨g14, hL10⟩ := gd_some hL10
      have q15 := idxG (P := Try.prog) (kk := .i64) (hx0.agree A1_.agree) el_22 sz_3 g14
      have q16 := loadG (P := Try.prog) (hx0.agree A1_.agree) sz_3 ag_3 g14 0
      obtain ⟨g17, hL10⟩ := gd_some hL10
      have q18 := idxG (P := Try.prog) (kk := .i64) (S1_.sl (k := 0) rfl) el_22 sz_3 g17
      obtain ⟨G19, q20, S21, a23⟩ := S1_.storeG (f := (Value.int .i64)) (P := Try.prog) (k := 0) (x := (gat 0 x0 y1_4)) rfl (hB.le A1_.1) sz_3 g17 rfl rfl
      have A22 := A1_.trans a23
      replace S21 : Sep G19 (Fr H) [flat v3 3 (ints (lset l1_0 y1_4 (gat 0 x0 y1_4)))] := S21
      refine DWp.region fun K hK => ?_
      simp [-aBin', -aBin, -aBinI, -aUn, -aNil, -flatV, n_fn, b_add, b_sub, b_mul, b_lt, b_le, b_gt, b_ge, b_eq, b_ne, u_not, e1_0, e1_3, e1_4, q15, q16, q18, q20]
      apply hK
      clear hK K
      simp only [andThen, leaves]
      refine DWp.region fun K hK => ?_
      simp [-aBin', -aBin, -aBinI, -aUn, -aNil, -flatV, n_fn, b_add, b_sub, b_mul, b_lt, b_le, b_gt, b_ge, b_eq, b_ne, u_not, e1_0, e1_3, e1_4]
      apply hK
      clear hK K
      simp only [andThen, leaves]
      have S24 := S21.pick [0] (by decide) rfl
      exact ⟨n1, Nat.lt_succ_self _, (lset l1_0 y1_4 (gat 0 x0 y1_4)), (iadd .i64 y1_4 1), hL10, S24, A22, by simp [e1_0, e1_3, e1_4], by simp [e1_0, e1_3, e1_4], by simp [e1_0, e1_3, e1_4]⟩
    · replace hL10 := cd_f hb13 hL10
      refine DWp.exit ?_
      simp only [andThen, leaves, if_true, if_false, reduceIte, Nat.reduceEqDiff]
      obtain rfl := Option.some.inj hL10
      try dsimp only at hF
      refine DWp.seq ?_
      refine DWp.region fun K hK => ?_
      simp [-aBin', -aBin, -aBinI, -aUn, -aNil, -flatV, n_fn, b_add, b_sub, b_mul, b_lt, b_le, b_gt, b_ge, b_eq, b_ne, u_not, e1_0, e1_3, e1_4]
      apply hK
      clear hK K
      simp only [andThen, leaves]
      refine DWp.ret ?_
      obtain rfl := Option.some.inj hF
      exact ⟨by simp, [v3], by simp [e1_0, e1_3, e1_4, ((S1_.sl (k := 0) rfl).tup)], A1_, v3, rfl, S1_.pick [0] (by decide) rfl⟩
def F_spec_exFew (fu : Nat) (x0 : List Int) (x1 : List Int) : Option (Bool) :=
  bd (F_spec_exPair fu x0 x1) fun r1 =>
  bif r1 then
    some (ile (llen x0) 10)
  else
    some false
theorem F_spec_exFew_w {fu : Nat} {H : AH} {v0 : Value} {v1 : Value} {x0 : List Int} {x1 : List Int} {r : (Bool)} (hx0 : Sl H v0 (ints x0)) (hx1 : Sl H v1 (ints x1)) (hF : F_spec_exFew fu x0 x1 = some r) :
    ACallT Try.prog 75 [v0, v1] H (fun u G => AgB (Fr H) H G ∧ u = (Value.bool r) ∧ Sep G (Fr H) []) := by
  refine ACallT.of_body (nt := 13) (rs := [.tmp 4]) Try.func75 rfl rfl rfl rfl ?_
  have A0 : AgB (Fr H) H H := .refl _ _
  have S0 : Sep H (Fr H) [] := .nil
  have hB := Fr.up H
  unfold F_spec_exFew at hF
  refine DWp.seq ?_
  refine DWp.region fun K hK => ?_
  simp [-aBin', -aBin, -aBinI, -aUn, -aNil, -flatV, n_fn, b_add, b_sub, b_mul, b_lt, b_le, b_gt, b_ge, b_eq, b_ne, u_not]
  apply hK
  clear hK K
  simp only [andThen, leaves]
  refine DWp.seq ?_
  obtain ⟨r1, hc1, hF⟩ := bd_some hF
  refine DWp.region fun K hK => ?_
  simp [-aBin', -aBin, -aBinI, -aUn, -aNil, -flatV, n_fn, b_add, b_sub, b_mul, b_lt, b_le, b_gt, b_ge, b_eq, b_ne, u_not, ((hx0.agree A0.agree).tup), ((hx1.agree A0.agree).tup)]
  refine CallD.t (F_spec_exPair_w (fu := fu) (hx0.agree A0.agree) (hx1.agree A0.agree) hc1) ?_
  rintro _ G3 ⟨a6, rfl, S7⟩
  have A5 := A0.ext (hB.le A0.1) a6.agree
  have S4 : Sep G3 (Fr H) [] := S0.app a6.agree S7 (fun _ h => h) (hB.le A0.1)
  rcases Bool.eq_false_or_eq_true r1 with hb8 | hb8
  · replace hF := cd_t hb8 hF
    have q9 := lenG (P := Try.prog) (hx0.agree A5.agree) el_22
    simp [-aBin', -aBin, -aBinI, -aUn, -aNil, -flatV, n_fn, b_add, b_sub, b_mul, b_lt, b_le, b_gt, b_ge, b_eq, b_ne, u_not, hb8, a6.pre, q9]
    apply hK
    clear hK K
    simp only [andThen, leaves]
    refine DWp.ret ?_
    obtain rfl := Option.some.inj hF
    exact ⟨by simp, [(Value.bool (ile (llen x0) 10))], by simp [], A5, rfl, S4.pick [] (by decide) rfl⟩
  · replace hF := cd_f hb8 hF
    simp [-aBin', -aBin, -aBinI, -aUn, -aNil, -flatV, n_fn, b_add, b_sub, b_mul, b_lt, b_le, b_gt, b_ge, b_eq, b_ne, u_not, hb8, a6.pre]
    apply hK
    clear hK K
    simp only [andThen, leaves]
    refine DWp.ret ?_
    obtain rfl := Option.some.inj hF
    exact ⟨by simp, [(Value.bool false)], by simp [], A5, rfl, S4.pick [] (by decide) rfl⟩
def F_spec_ahAll_L3 (fu : Nat) (self_ : Int → Int → Option (List (List Int))) (k3_0 : Int) (k3_1 : Int) (k3_2 : Int) (k3_3 : List Int) (k3_4 : List (List Int)) (k3_5 : Int) (k3_6 : Int) (k3_7 : List (List Int)) (k3_8 : Int) : Nat → List (List Int) → Int → Option (List (List Int) × Int)
  | 0, _, _ => none
  | n + 1, l3_0, y3_40 =>
    bif (ilt y3_40 k3_8) then
      gd (inL k3_7 y3_40) (
      gd ([(iadd .i64 (iadd .i64 k3_1 (imul .i64 2 k3_2)) 1)].length + k3_3.length ≤ 4294967296) (
      gd ((lapp [(iadd .i64 (iadd .i64 k3_1 (imul .i64 2 k3_2)) 1)] k3_3).length + [k3_1].length ≤ 4294967296) (
      gd ((lapp (lapp [(iadd .i64 (iadd .i64 k3_1 (imul .i64 2 k3_2)) 1)] k3_3) [k3_1]).length + (gat [] k3_7 y3_40).length ≤ 4294967296) (
      gd (l3_0.length + 1 ≤ 4294967296) (
      F_spec_ahAll_L3 fu self_ k3_0 k3_1 k3_2 k3_3 k3_4 k3_5 k3_6 k3_7 k3_8 n (lapp l3_0 [(lapp (lapp (lapp [(iadd .i64 (iadd .i64 k3_1 (imul .i64 2 k3_2)) 1)] k3_3) [k3_1]) (gat [] k3_7 y3_40))]) (iadd .i64 y3_40 1))))))
    else
      some (l3_0, y3_40)
def F_spec_ahAll_L2 (fu : Nat) (self_ : Int → Int → Option (List (List Int))) (k2_0 : Int) (k2_1 : Int) (k2_2 : Int) (k2_3 : List (List Int)) (k2_4 : Int) : Nat → List (List Int) → Int → Option (List (List Int) × Int)
  | 0, _, _ => none
  | n + 1, l2_0, y2_25 =>
    bif (ilt y2_25 k2_4) then
      gd (inL k2_3 y2_25) (
      bd (self_ (isub .i64 (isub .i64 k2_0 1) k2_2) (iadd .i64 (iadd .i64 k2_1 (imul .i64 2 k2_2)) 2)) fun r2 =>
      bd (F_spec_ahAll_L3 fu self_ k2_0 k2_1 k2_2 (gat [] k2_3 y2_25) k2_3 k2_4 y2_25 r2 (llen r2) fu l2_0 0) fun s3 =>
      F_spec_ahAll_L2 fu self_ k2_0 k2_1 k2_2 k2_3 k2_4 n s3.1 (iadd .i64 y2_25 1))
    else
      some (l2_0, y2_25)
def F_spec_ahAll_L1 (fu : Nat) (self_ : Int → Int → Option (List (List Int))) (k1_0 : Int) (k1_1 : Int) : Nat → List (List Int) → Int → Option (List (List Int) × Int)
  | 0, _, _ => none
  | n + 1, l1_0, y1_6 =>
    bif (ilt y1_6 k1_0) then
      bd (self_ y1_6 (iadd .i64 k1_1 1)) fun r1 =>
      bd (F_spec_ahAll_L2 fu self_ k1_0 k1_1 y1_6 r1 (llen r1) fu l1_0 0) fun s2 =>
      F_spec_ahAll_L1 fu self_ k1_0 k1_1 n s2.1 (iadd .i64 y1_6 1)
    else
      some (l1_0, y1_6)
def F_spec_ahAll : Nat → Int → Int → Option (List (List Int))
  | 0, _, _ => none
  | fu + 1, x0, x1 =>
    bif (ieq x0 0) then
      some [[]]
    else
      bd (F_spec_ahAll_L1 fu (F_spec_ahAll fu) x0 x1 fu (@List.nil (List Int)) 0) fun s1 =>
      some s1.1
theorem F_spec_ahAll_w : ∀ {fu : Nat} {H : AH}  {x0 : Int} {x1 : Int} {r : (List (List Int))}  (hF : F_spec_ahAll fu x0 x1 = some r),
    ACallT Try.prog 73 [(Value.int .i64 x0), (Value.int .i64 x1)] H (fun u G => AgB (Fr H) H G ∧ ∃ u0 : Value, ∃ C0 : List Value, u = u0 ∧ Sep G (Fr H) [rowsC u0 22 3 C0 (List.map ints r)]) := by
  intro fu
  induction fu with
  | zero => intros; rename_i hF; cases hF
  | succ fu ih =>
  intro H  x0 x1 r  hF
  simp only [F_spec_ahAll] at hF
  refine ACallT.of_body (nt := 65) (rs := [.tmp 4]) Try.func73 rfl rfl rfl rfl ?_
  have A0 : AgB (Fr H) H H := .refl _ _
  have S0 : Sep H (Fr H) [] := .nil
  have hB := Fr.up H
  refine DWp.seq ?_
  refine DWp.region fun K hK => ?_
  simp [-aBin', -aBin, -aBinI, -aUn, -aNil, -flatV, n_fn, b_add, b_sub, b_mul, b_lt, b_le, b_gt, b_ge, b_eq, b_ne, u_not]
  apply hK
  clear hK K
  simp only [andThen, leaves]
  refine DWp.seq ?_
  refine DWp.seq ?_
  refine DWp.region fun K hK => ?_
  simp [-aBin', -aBin, -aBinI, -aUn, -aNil, -flatV, n_fn, b_add, b_sub, b_mul, b_lt, b_le, b_gt, b_ge, b_eq, b_ne, u_not]
  apply hK
  clear hK K
  simp only [andThen, leaves]
  refine DWp.cond' (t := (ieq x0 0)) (by simp []) (fun hb1 => ?_) (fun hb1 => ?_)
  · replace hF := cd_t hb1 hF
    refine DWp.seq ?_
    obtain ⟨v2, G3, q4, S5, a7, _, _⟩ := S0.lit1 (P := Try.prog) (t := 23) (hB.le A0.1) el_23 ei_22 rfl (Value.slice none 0 0) (rfl : isTup (Value.slice none 0 0) = false) (rfl : (Value.slice none 0 0).cells = #[(Value.slice none 0 0)])
    have A6 := A0.ext (hB.le A0.1) a7
    replace S5 : Sep G3 (Fr H) [flat1 v2 22 [(Value.slice none 0 0)]] := S5
    refine DWp.region fun K hK => ?_
    simp [-aBin', -aBin, -aBinI, -aUn, -aNil, -flatV, n_fn, b_add, b_sub, b_mul, b_lt, b_le, b_gt, b_ge, b_eq, b_ne, u_not, q4, a7.to_pre, (rfl : isTup (Value.slice none 0 0) = false)]
    apply hK
    clear hK K
    simp only [andThen, leaves]
    refine DWp.ret ?_
    simp only [andThen, leaves]
    have S8 := S5.nilItem (hB.le A6.1) 3
    have S9 : Sep G3 (Fr H) [rowsC v2 22 3 [(Value.slice none 0 0)] (List.map ints [[]]), emp] := S8.rowsOf1 (j := 0) (k := 1) (by decide) rfl rfl
    obtain rfl := Option.some.inj hF
    exact ⟨by simp, [v2], by simp [((S9.rd (k := 0) rfl).tup)], A6, v2, [(Value.slice none 0 0)], rfl, S9.pick [0] (by decide) rfl⟩
  · replace hF := cd_f hb1 hF
    refine DWp.skip ?_
    simp only [andThen, leaves]
    refine DWp.seq ?_
    refine DWp.region fun K hK => ?_
    simp [-aBin', -aBin, -aBinI, -aUn, -aNil, -flatV, n_fn, b_add, b_sub, b_mul, b_lt, b_le, b_gt, b_ge, b_eq, b_ne, u_not]
    apply hK
    clear hK K
    simp only [andThen, leaves]
    refine DWp.seq ?_
    refine DWp.seq ?_
    refine DWp.region fun K hK => ?_
    simp [-aBin', -aBin, -aBinI, -aUn, -aNil, -flatV, n_fn, b_add, b_sub, b_mul, b_lt, b_le, b_gt, b_ge, b_eq, b_ne, u_not]
    apply hK
    clear hK K
    simp only [andThen, leaves]
    refine DWp.block ?_
    have S10 := S0.rowsNil (hB.le A0.1) 22 3
    obtain ⟨s11, hL12, hF⟩ := bd_some hF
    have S13 := S10.pick [0] (by decide) rfl
    refine DWp.loop (fun n env G => ∃ l1_0 : List (List Int), ∃ y1_6 : Int, ∃ w1_0 : Value, ∃ D1_0 : List Value, F_spec_ahAll_L1 fu (F_spec_ahAll fu) x0 x1 n l1_0 y1_6 = some s11 ∧ Sep G (Fr H) [rowsC w1_0 22 3 D1_0 (List.map ints l1_0)] ∧ AgB (Fr H) H G ∧ env 0 = some (Value.int .i64 x0) ∧ env 1 = some (Value.int .i64 x1) ∧ env 5 = some w1_0 ∧ env 6 = some (Value.int .i64 y1_6)) fu ⟨(@List.nil (List Int)), 0, (Value.slice none 0 0), [], hL12, S13, A0, by simp [], by simp [], by simp [], by simp []⟩ ?_
    rintro n1 env1 G1_ ⟨l1_0, y1_6, w1_0, D1_0, hL12, S1_, A1_, e1_0, e1_1, e1_5, e1_6⟩
    cases n1 with
    | zero => cases hL12
    | succ n1 =>
      simp only [F_spec_ahAll_L1] at hL12
      refine DWp.seq ?_
      refine DWp.seq ?_
      refine DWp.region fun K hK => ?_
      simp [-aBin', -aBin, -aBinI, -aUn, -aNil, -flatV, n_fn, b_add, b_sub, b_mul, b_lt, b_le, b_gt, b_ge, b_eq, b_ne, u_not, e1_0, e1_1, e1_5, e1_6]
      apply hK
      clear hK K
      simp only [andThen, leaves]
      refine DWp.cond' (t := (ilt y1_6 x0)) (by simp [e1_0, e1_1, e1_5, e1_6]) (fun hb14 => ?_) (fun hb14 => ?_)
      · replace hL12 := cd_t hb14 hL12
        refine DWp.skip ?_
        simp only [andThen, leaves]
        refine DWp.seq ?_
        refine DWp.block ?_
        refine DWp.seq ?_
        obtain ⟨r1, hc15, hL12⟩ := bd_some hL12
        refine DWp.region fun K hK => ?_
        simp [-aBin', -aBin, -aBinI, -aUn, -aNil, -flatV, n_fn, b_add, b_sub, b_mul, b_lt, b_le, b_gt, b_ge, b_eq, b_ne, u_not, e1_0, e1_1, e1_5, e1_6]
        refine CallD.t (ih  hc15) ?_
        rintro c16_u0 G17 ⟨a20, _, c16_C0, rfl, S21⟩
        have A19 := A1_.ext (hB.le A1_.1) a20.agree
        have S18 : Sep G17 (Fr H) [rowsC w1_0 22 3 D1_0 (List.map ints l1_0), rowsC c16_u0 22 3 c16_C0 (List.map ints r1)] := S1_.app a20.agree S21 (fun _ h => h) (hB.le A1_.1)
        have q22 := (S18.rd (k := 1) rfl).lenG (P := Try.prog) el_23
        simp [-aBin', -aBin, -aBinI, -aUn, -aNil, -flatV, n_fn, b_add, b_sub, b_mul, b_lt, b_le, b_gt, b_ge, b_eq, b_ne, u_not, e1_0, e1_1, e1_5, e1_6, a20.pre, q22]
        apply hK
        clear hK K
        simp only [andThen, leaves]
        refine DWp.block ?_
        obtain ⟨s23, hL24, hL12⟩ := bd_some hL12
        have S25 := S18.pick [0, 1] (by decide) rfl
        refine DWp.loop (fun n env G => ∃ l2_0 : List (List Int), ∃ y2_25 : Int, ∃ w2_0 : Value, ∃ D2_0 : List Value, F_spec_ahAll_L2 fu (F_spec_ahAll fu) x0 x1 y1_6 r1 (llen r1) n l2_0 y2_25 = some s23 ∧ Sep G (Fr H) [rowsC w2_0 22 3 D2_0 (List.map ints l2_0), rowsC c16_u0 22 3 c16_C0 (List.map ints r1)] ∧ AgB (Fr H) H G ∧ env 0 = some (Value.int .i64 x0) ∧ env 1 = some (Value.int .i64 x1) ∧ env 5 = some w2_0 ∧ env 6 = some (Value.int .i64 y1_6) ∧ env 23 = some c16_u0 ∧ env 24 = some (Value.int .i64 (llen r1)) ∧ env 25 = some (Value.int .i64 y2_25)) fu ⟨l1_0, 0, w1_0, D1_0, hL24, S25, A19, by simp [e1_0, e1_1, e1_5, e1_6], by simp [e1_0, e1_1, e1_5, e1_6], by simp [e1_0, e1_1, e1_5, e1_6], by simp [e1_0, e1_1, e1_5, e1_6], by simp [e1_0, e1_1, e1_5, e1_6], by simp [e1_0, e1_1, e1_5, e1_6], by simp [e1_0, e1_1, e1_5, e1_6]⟩ ?_
        rintro n2 env2 G2_ ⟨l2_0, y2_25, w2_0, D2_0, hL24, S2_, A2_, e2_0, e2_1, e2_5, e2_6, e2_23, e2_24, e2_25⟩
        cases n2 with
        | zero => cases hL24
        | succ n2 =>
          simp only [F_spec_ahAll_L2] at hL24
          refine DWp.seq ?_
          refine DWp.region fun K hK => ?_
          simp [-aBin', -aBin, -aBinI, -aUn, -aNil, -flatV, n_fn, b_add, b_sub, b_mul, b_lt, b_le, b_gt, b_ge, b_eq, b_ne, u_not, e2_0, e2_1, e2_5, e2_6, e2_23, e2_24, e2_25]
          apply hK
          clear hK K
          simp only [andThen, leaves]
          refine DWp.seq ?_
          refine DWp.cond' (t := (ilt y2_25 (llen r1))) (by simp [e2_0, e2_1, e2_5, e2_6, e2_23, e2_24, e2_25]) (fun hb26 => ?_) (fun hb26 => ?_)
          · replace hL24 := cd_t hb26 hL24
            refine DWp.skip ?_
            simp only [andThen, leaves]
            refine DWp.seq ?_
            refine DWp.block ?_
            refine DWp.seq ?_
            obtain ⟨g27, hL24⟩ := gd_some hL24
            have q28 := (S2_.rd (k := 1) rfl).idxG (P := Try.prog) (kk := .i64) el_23 sz_22 g27
            have q29 := (S2_.rd (k := 1) rfl).loadG (P := Try.prog) sz_22 ag_22 g27
            refine DWp.region fun K hK => ?_
            simp [-aBin', -aBin, -aBinI, -aUn, -aNil, -flatV, n_fn, b_add, b_sub, b_mul, b_lt, b_le, b_gt, b_ge, b_eq, b_ne, u_not, e2_0, e2_1, e2_5, e2_6, e2_23, e2_24, e2_25, q28, q29]
            apply hK
            clear hK K
            simp only [andThen, leaves]
            refine DWp.seq ?_
            obtain ⟨r2, hc30, hL24⟩ := bd_some hL24
            refine DWp.region fun K hK => ?_
            simp [-aBin', -aBin, -aBinI, -aUn, -aNil, -flatV, n_fn, b_add, b_sub, b_mul, b_lt, b_le, b_gt, b_ge, b_eq, b_ne, u_not, e2_0, e2_1, e2_5, e2_6, e2_23, e2_24, e2_25]
            refine CallD.t (ih  hc30) ?_
            rintro c31_u0 G32 ⟨a35, _, c31_C0, rfl, S36⟩
            have A34 := A2_.ext (hB.le A2_.1) a35.agree
            have S33 : Sep G32 (Fr H) [rowsC w2_0 22 3 D2_0 (List.map ints l2_0), rowsC c16_u0 22 3 c16_C0 (List.map ints r1), rowsC c31_u0 22 3 c31_C0 (List.map ints r2)] := S2_.app a35.agree S36 (fun _ h => h) (hB.le A2_.1)
            have q37 := (S33.rd (k := 2) rfl).lenG (P := Try.prog) el_23
            simp [-aBin', -aBin, -aBinI, -aUn, -aNil, -flatV, n_fn, b_add, b_sub, b_mul, b_lt, b_le, b_gt, b_ge, b_eq, b_ne, u_not, e2_0, e2_1, e2_5, e2_6, e2_23, e2_24, e2_25, a35.pre, q37]
            apply hK
            clear hK K
            simp only [andThen, leaves]
            refine DWp.block ?_
            obtain ⟨s38, hL39, hL24⟩ := bd_some hL24
            have S40 := S33.pick [0, 1, 2] (by decide) rfl
            refine DWp.loop (fun n env G => ∃ l3_0 : List (List Int), ∃ y3_40 : Int, ∃ w3_0 : Value, ∃ D3_0 : List Value, F_spec_ahAll_L3 fu (F_spec_ahAll fu) x0 x1 y1_6 (gat [] r1 y2_25) r1 (llen r1) y2_25 r2 (llen r2) n l3_0 y3_40 = some s38 ∧ Sep G (Fr H) [rowsC w3_0 22 3 D3_0 (List.map ints l3_0), rowsC c16_u0 22 3 c16_C0 (List.map ints r1), rowsC c31_u0 22 3 c31_C0 (List.map ints r2)] ∧ AgB (Fr H) H G ∧ env 0 = some (Value.int .i64 x0) ∧ env 1 = some (Value.int .i64 x1) ∧ env 5 = some w3_0 ∧ env 6 = some (Value.int .i64 y1_6) ∧ env 8 = some (gat nilV c16_C0 y2_25) ∧ env 23 = some c16_u0 ∧ env 24 = some (Value.int .i64 (llen r1)) ∧ env 25 = some (Value.int .i64 y2_25) ∧ env 38 = some c31_u0 ∧ env 39 = some (Value.int .i64 (llen r2)) ∧ env 40 = some (Value.int .i64 y3_40)) fu ⟨l2_0, 0, w2_0, D2_0, hL39, S40, A34, by simp [e2_0, e2_1, e2_5, e2_6, e2_23, e2_24, e2_25], by simp [e2_0, e2_1, e2_5, e2_6, e2_23, e2_24, e2_25], by simp [e2_0, e2_1, e2_5, e2_6, e2_23, e2_24, e2_25], by simp [e2_0, e2_1, e2_5, e2_6, e2_23, e2_24, e2_25], by simp [e2_0, e2_1, e2_5, e2_6, e2_23, e2_24, e2_25], by simp [e2_0, e2_1, e2_5, e2_6, e2_23, e2_24, e2_25], by simp [e2_0, e2_1, e2_5, e2_6, e2_23, e2_24, e2_25], by simp [e2_0, e2_1, e2_5, e2_6, e2_23, e2_24, e2_25], by simp [e2_0, e2_1, e2_5, e2_6, e2_23, e2_24, e2_25], by simp [e2_0, e2_1, e2_5, e2_6, e2_23, e2_24, e2_25], by simp [e2_0, e2_1, e2_5, e2_6, e2_23, e2_24, e2_25]⟩ ?_
            rintro n3 env3 G3_ ⟨l3_0, y3_40, w3_0, D3_0, hL39, S3_, A3_, e3_0, e3_1, e3_5, e3_6, e3_8, e3_23, e3_24, e3_25, e3_38, e3_39, e3_40⟩
            cases n3 with
            | zero => cases hL39
            | succ n3 =>
              simp only [F_spec_ahAll_L3] at hL39
              refine DWp.seq ?_
              refine DWp.region fun K hK => ?_
              simp [-aBin', -aBin, -aBinI, -aUn, -aNil, -flatV, n_fn, b_add, b_sub, b_mul, b_lt, b_le, b_gt, b_ge, b_eq, b_ne, u_not, e3_0, e3_1, e3_5, e3_6, e3_8, e3_23, e3_24, e3_25, e3_38, e3_39, e3_40]
              apply hK
              clear hK K
              simp only [andThen, leaves]
              refine DWp.seq ?_
              refine DWp.cond' (t := (ilt y3_40 (llen r2))) (by simp [e3_0, e3_1, e3_5, e3_6, e3_8, e3_23, e3_24, e3_25, e3_38, e3_39, e3_40]) (fun hb41 => ?_) (fun hb41 => ?_)
              · replace hL39 := cd_t hb41 hL39
                refine DWp.skip ?_
                simp only [andThen, leaves]
                refine DWp.seq ?_
                refine DWp.block ?_
                refine DWp.seq ?_
                obtain ⟨g42, hL39⟩ := gd_some hL39
                have q43 := (S3_.rd (k := 2) rfl).idxG (P := Try.prog) (kk := .i64) el_23 sz_22 g42
                have q44 := (S3_.rd (k := 2) rfl).loadG (P := Try.prog) sz_22 ag_22 g42
                refine DWp.region fun K hK => ?_
                simp [-aBin', -aBin, -aBinI, -aUn, -aNil, -flatV, n_fn, b_add, b_sub, b_mul, b_lt, b_le, b_gt, b_ge, b_eq, b_ne, u_not, e3_0, e3_1, e3_5, e3_6, e3_8, e3_23, e3_24, e3_25, e3_38, e3_39, e3_40, q43, q44]
                apply hK
                clear hK K
                simp only [andThen, leaves]
                refine DWp.seq ?_
                obtain ⟨v45, G46, q47, S48, a50, _, _⟩ := S3_.lit1 (P := Try.prog) (t := 22) (hB.le A3_.1) el_22 ei_3 rfl (Value.int .i64 (iadd .i64 (iadd .i64 x1 (imul .i64 2 y1_6)) 1)) rfl rfl
                have A49 := A3_.ext (hB.le A3_.1) a50
                replace S48 : Sep G46 (Fr H) [rowsC w3_0 22 3 D3_0 (List.map ints l3_0), rowsC c16_u0 22 3 c16_C0 (List.map ints r1), rowsC c31_u0 22 3 c31_C0 (List.map ints r2), flat1 v45 3 (ints [(iadd .i64 (iadd .i64 x1 (imul .i64 2 y1_6)) 1)])] := S48
                obtain ⟨g52, hL39⟩ := gd_some hL39
                obtain ⟨v58, G53, q54, S55, a57, _, _⟩ := S48.append1 (f := (Value.int .i64)) (xs := [(iadd .i64 (iadd .i64 x1 (imul .i64 2 y1_6)) 1)]) (ys := (gat [] r1 y2_25)) (P := Try.prog) (t := 22) (t2 := 22) (k := 3) rfl (hB.le A49.1) el_22 el_22 ei_3 rfl ((S48.rd (k := 1) rfl).rowAt [] g27) g52
                have A56 := A49.trans a57
                replace S55 : Sep G53 (Fr H) [rowsC w3_0 22 3 D3_0 (List.map ints l3_0), rowsC c16_u0 22 3 c16_C0 (List.map ints r1), rowsC c31_u0 22 3 c31_C0 (List.map ints r2), flat v58 3 (ints (lapp [(iadd .i64 (iadd .i64 x1 (imul .i64 2 y1_6)) 1)] (gat [] r1 y2_25)))] := S55
                refine DWp.region fun K hK => ?_
                simp [-aBin', -aBin, -aBinI, -aUn, -aNil, -flatV, n_fn, b_add, b_sub, b_mul, b_lt, b_le, b_gt, b_ge, b_eq, b_ne, u_not, e3_0, e3_1, e3_5, e3_6, e3_8, e3_23, e3_24, e3_25, e3_38, e3_39, e3_40, q47, a50.to_pre, q54]
                apply hK
                clear hK K
                simp only [andThen, leaves]
                refine DWp.seq ?_
                obtain ⟨v59, G60, q61, S62, a64, _, _⟩ := S55.lit1 (P := Try.prog) (t := 22) (hB.le A56.1) el_22 ei_3 rfl (Value.int .i64 x1) rfl rfl
                have A63 := A56.ext (hB.le A56.1) a64
                replace S62 : Sep G60 (Fr H) [rowsC w3_0 22 3 D3_0 (List.map ints l3_0), rowsC c16_u0 22 3 c16_C0 (List.map ints r1), rowsC c31_u0 22 3 c31_C0 (List.map ints r2), flat v58 3 (ints (lapp [(iadd .i64 (iadd .i64 x1 (imul .i64 2 y1_6)) 1)] (gat [] r1 y2_25))), flat1 v59 3 (ints [x1])] := S62
                obtain ⟨g66, hL39⟩ := gd_some hL39
                obtain ⟨v72, G67, q68, S69, a71, _, _⟩ := S62.appendG (f := (Value.int .i64)) (xs := (lapp [(iadd .i64 (iadd .i64 x1 (imul .i64 2 y1_6)) 1)] (gat [] r1 y2_25))) (ys := [x1]) (P := Try.prog) (t := 22) (t2 := 22) (k := 3) rfl (hB.le A63.1) el_22 el_22 ei_3 rfl (S62.sl1 (k := 4) rfl) g66
                have A70 := A63.trans a71
                replace S69 : Sep G67 (Fr H) [rowsC w3_0 22 3 D3_0 (List.map ints l3_0), rowsC c16_u0 22 3 c16_C0 (List.map ints r1), rowsC c31_u0 22 3 c31_C0 (List.map ints r2), flat v72 3 (ints (lapp (lapp [(iadd .i64 (iadd .i64 x1 (imul .i64 2 y1_6)) 1)] (gat [] r1 y2_25)) [x1])), flat1 v59 3 (ints [x1])] := S69
                obtain ⟨g73, hL39⟩ := gd_some hL39
                obtain ⟨v79, G74, q75, S76, a78, _, _⟩ := S69.appendG (f := (Value.int .i64)) (xs := (lapp (lapp [(iadd .i64 (iadd .i64 x1 (imul .i64 2 y1_6)) 1)] (gat [] r1 y2_25)) [x1])) (ys := (gat [] r2 y3_40)) (P := Try.prog) (t := 22) (t2 := 22) (k := 3) rfl (hB.le A70.1) el_22 el_22 ei_3 rfl ((S69.rd (k := 2) rfl).rowAt [] g42) g73
                have A77 := A70.trans a78
                replace S76 : Sep G74 (Fr H) [rowsC w3_0 22 3 D3_0 (List.map ints l3_0), rowsC c16_u0 22 3 c16_C0 (List.map ints r1), rowsC c31_u0 22 3 c31_C0 (List.map ints r2), flat v79 3 (ints (lapp (lapp (lapp [(iadd .i64 (iadd .i64 x1 (imul .i64 2 y1_6)) 1)] (gat [] r1 y2_25)) [x1]) (gat [] r2 y3_40))), flat1 v59 3 (ints [x1])] := S76
                refine DWp.region fun K hK => ?_
                simp [-aBin', -aBin, -aBinI, -aUn, -aNil, -flatV, n_fn, b_add, b_sub, b_mul, b_lt, b_le, b_gt, b_ge, b_eq, b_ne, u_not, e3_0, e3_1, e3_5, e3_6, e3_8, e3_23, e3_24, e3_25, e3_38, e3_39, e3_40, q61, a64.to_pre, q68, q75]
                apply hK
                clear hK K
                simp only [andThen, leaves]
                obtain ⟨v80, G81, q82, S83, a85, _, _⟩ := S76.lit1 (P := Try.prog) (t := 23) (hB.le A77.1) el_23 ei_22 rfl v79 ((S76.sl (k := 3) rfl).tup) ((S76.sl (k := 3) rfl).one)
                have A84 := A77.ext (hB.le A77.1) a85
                replace S83 : Sep G81 (Fr H) [rowsC w3_0 22 3 D3_0 (List.map ints l3_0), rowsC c16_u0 22 3 c16_C0 (List.map ints r1), rowsC c31_u0 22 3 c31_C0 (List.map ints r2), flat v79 3 (ints (lapp (lapp (lapp [(iadd .i64 (iadd .i64 x1 (imul .i64 2 y1_6)) 1)] (gat [] r1 y2_25)) [x1]) (gat [] r2 y3_40))), flat1 v59 3 (ints [x1]), flat1 v80 22 [v79]] := S83
                obtain ⟨g86, hL39⟩ := gd_some hL39
                obtain ⟨v92, G87, q88, S89, a91, q88t, _⟩ := S83.pushRow (u := w3_0) (fr := ints) (X := l3_0) (y := (lapp (lapp (lapp [(iadd .i64 (iadd .i64 x1 (imul .i64 2 y1_6)) 1)] (gat [] r1 y2_25)) [x1]) (gat [] r2 y3_40))) (P := Try.prog) (t := 23) (t2 := 23) (j := 0) (k := 3) (by decide) rfl rfl (hB.le A84.1) el_23 el_23 ei_22 rfl (S83.sl1 (k := 5) rfl) g86
                have A90 := A84.trans a91
                replace S89 : Sep G87 (Fr H) [rowsC v92 22 3 (D3_0 ++ [v79]) (List.map ints (lapp l3_0 [(lapp (lapp (lapp [(iadd .i64 (iadd .i64 x1 (imul .i64 2 y1_6)) 1)] (gat [] r1 y2_25)) [x1]) (gat [] r2 y3_40))])), rowsC c16_u0 22 3 c16_C0 (List.map ints r1), rowsC c31_u0 22 3 c31_C0 (List.map ints r2), emp, flat1 v59 3 (ints [x1]), flat1 v80 22 [v79]] := S89
                refine DWp.region fun K hK => ?_
                simp [-aBin', -aBin, -aBinI, -aUn, -aNil, -flatV, n_fn, b_add, b_sub, b_mul, b_lt, b_le, b_gt, b_ge, b_eq, b_ne, u_not, e3_0, e3_1, e3_5, e3_6, e3_8, e3_23, e3_24, e3_25, e3_38, e3_39, e3_40, q82, a85.to_pre, ((S76.sl (k := 3) rfl).tup), q88, q88t]
                apply hK
                clear hK K
                simp only [andThen, leaves]
                refine DWp.region fun K hK => ?_
                simp [-aBin', -aBin, -aBinI, -aUn, -aNil, -flatV, n_fn, b_add, b_sub, b_mul, b_lt, b_le, b_gt, b_ge, b_eq, b_ne, u_not, e3_0, e3_1, e3_5, e3_6, e3_8, e3_23, e3_24, e3_25, e3_38, e3_39, e3_40]
                apply hK
                clear hK K
                simp only [andThen, leaves]
                have S93 := S89.pick [0, 1, 2] (by decide) rfl
                exact ⟨n3, Nat.lt_succ_self _, (lapp l3_0 [(lapp (lapp (lapp [(iadd .i64 (iadd .i64 x1 (imul .i64 2 y1_6)) 1)] (gat [] r1 y2_25)) [x1]) (gat [] r2 y3_40))]), (iadd .i64 y3_40 1), v92, (D3_0 ++ [v79]), hL39, S93, A90, by simp [e3_0, e3_1, e3_5, e3_6, e3_8, e3_23, e3_24, e3_25, e3_38, e3_39, e3_40], by simp [e3_0, e3_1, e3_5, e3_6, e3_8, e3_23, e3_24, e3_25, e3_38, e3_39, e3_40], by simp [e3_0, e3_1, e3_5, e3_6, e3_8, e3_23, e3_24, e3_25, e3_38, e3_39, e3_40], by simp [e3_0, e3_1, e3_5, e3_6, e3_8, e3_23, e3_24, e3_25, e3_38, e3_39, e3_40], by simp [e3_0, e3_1, e3_5, e3_6, e3_8, e3_23, e3_24, e3_25, e3_38, e3_39, e3_40], by simp [e3_0, e3_1, e3_5, e3_6, e3_8, e3_23, e3_24, e3_25, e3_38, e3_39, e3_40], by simp [e3_0, e3_1, e3_5, e3_6, e3_8, e3_23, e3_24, e3_25, e3_38, e3_39, e3_40], by simp [e3_0, e3_1, e3_5, e3_6, e3_8, e3_23, e3_24, e3_25, e3_38, e3_39, e3_40], by simp [e3_0, e3_1, e3_5, e3_6, e3_8, e3_23, e3_24, e3_25, e3_38, e3_39, e3_40], by simp [e3_0, e3_1, e3_5, e3_6, e3_8, e3_23, e3_24, e3_25, e3_38, e3_39, e3_40], by simp [e3_0, e3_1, e3_5, e3_6, e3_8, e3_23, e3_24, e3_25, e3_38, e3_39, e3_40]⟩
              · replace hL39 := cd_f hb41 hL39
                refine DWp.exit ?_
                simp only [andThen, leaves, if_true, if_false, reduceIte, Nat.reduceEqDiff]
                obtain rfl := Option.some.inj hL39
                try dsimp only at hL24
                refine DWp.region fun K hK => ?_
                simp [-aBin', -aBin, -aBinI, -aUn, -aNil, -flatV, n_fn, b_add, b_sub, b_mul, b_lt, b_le, b_gt, b_ge, b_eq, b_ne, u_not, e3_0, e3_1, e3_5, e3_6, e3_8, e3_23, e3_24, e3_25, e3_38, e3_39, e3_40]
                apply hK
                clear hK K
                simp only [andThen, leaves]
                have S94 := S3_.pick [0, 1] (by decide) rfl
                exact ⟨n2, Nat.lt_succ_self _, l3_0, (iadd .i64 y2_25 1), w3_0, D3_0, hL24, S94, A3_, by simp [e3_0, e3_1, e3_5, e3_6, e3_8, e3_23, e3_24, e3_25, e3_38, e3_39, e3_40], by simp [e3_0, e3_1, e3_5, e3_6, e3_8, e3_23, e3_24, e3_25, e3_38, e3_39, e3_40], by simp [e3_0, e3_1, e3_5, e3_6, e3_8, e3_23, e3_24, e3_25, e3_38, e3_39, e3_40], by simp [e3_0, e3_1, e3_5, e3_6, e3_8, e3_23, e3_24, e3_25, e3_38, e3_39, e3_40], by simp [e3_0, e3_1, e3_5, e3_6, e3_8, e3_23, e3_24, e3_25, e3_38, e3_39, e3_40], by simp [e3_0, e3_1, e3_5, e3_6, e3_8, e3_23, e3_24, e3_25, e3_38, e3_39, e3_40], by simp [e3_0, e3_1, e3_5, e3_6, e3_8, e3_23, e3_24, e3_25, e3_38, e3_39, e3_40]⟩
          · replace hL24 := cd_f hb26 hL24
            refine DWp.exit ?_
            simp only [andThen, leaves, if_true, if_false, reduceIte, Nat.reduceEqDiff]
            obtain rfl := Option.some.inj hL24
            try dsimp only at hL12
            refine DWp.region fun K hK => ?_
            simp [-aBin', -aBin, -aBinI, -aUn, -aNil, -flatV, n_fn, b_add, b_sub, b_mul, b_lt, b_le, b_gt, b_ge, b_eq, b_ne, u_not, e2_0, e2_1, e2_5, e2_6, e2_23, e2_24, e2_25]
            apply hK
            clear hK K
            simp only [andThen, leaves]
            have S95 := S2_.pick [0] (by decide) rfl
            exact ⟨n1, Nat.lt_succ_self _, l2_0, (iadd .i64 y1_6 1), w2_0, D2_0, hL12, S95, A2_, by simp [e2_0, e2_1, e2_5, e2_6, e2_23, e2_24, e2_25], by simp [e2_0, e2_1, e2_5, e2_6, e2_23, e2_24, e2_25], by simp [e2_0, e2_1, e2_5, e2_6, e2_23, e2_24, e2_25], by simp [e2_0, e2_1, e2_5, e2_6, e2_23, e2_24, e2_25]⟩
      · replace hL12 := cd_f hb14 hL12
        refine DWp.exit ?_
        simp only [andThen, leaves, if_true, if_false, reduceIte, Nat.reduceEqDiff]
        obtain rfl := Option.some.inj hL12
        try dsimp only at hF
        refine DWp.seq ?_
        refine DWp.region fun K hK => ?_
        simp [-aBin', -aBin, -aBinI, -aUn, -aNil, -flatV, n_fn, b_add, b_sub, b_mul, b_lt, b_le, b_gt, b_ge, b_eq, b_ne, u_not, e1_0, e1_1, e1_5, e1_6]
        apply hK
        clear hK K
        simp only [andThen, leaves]
        refine DWp.ret ?_
        obtain rfl := Option.some.inj hF
        exact ⟨by simp, [w1_0], by simp [e1_0, e1_1, e1_5, e1_6, ((S1_.rd (k := 0) rfl).tup)], A1_, w1_0, D1_0, rfl, S1_.pick [0] (by decide) rfl⟩
def F_spec_BetweenSystems_L1 (fu : Nat) (k1_0 : List Int) (k1_1 : List Int) (k1_2 : List (List Int)) (k1_3 : Int) : Nat → List (List Int) → Int → Option (List (List Int) × Int)
  | 0, _, _ => none
  | n + 1, l1_0, y1_18 =>
    bif (ilt y1_18 k1_3) then
      gd (inL k1_2 y1_18) (
      gd (k1_2.length ≤ 4294967296) (
      bd (F_spec_exDistance fu k1_0 (gat [] k1_2 y1_18)) fun r3 =>
      bd (F_spec_exDistance fu (gat [] k1_2 y1_18) k1_1) fun r4 =>
      bd (F_spec_exDistance fu k1_0 k1_1) fun r5 =>
      bif (ieq (iadd .i64 r3 r4) r5) then
        gd (l1_0.length + 1 ≤ 4294967296) (
        F_spec_BetweenSystems_L1 fu k1_0 k1_1 k1_2 k1_3 n (lapp l1_0 [(gat [] k1_2 y1_18)]) (iadd .i64 y1_18 1))
      else
        F_spec_BetweenSystems_L1 fu k1_0 k1_1 k1_2 k1_3 n l1_0 (iadd .i64 y1_18 1)))
    else
      some (l1_0, y1_18)
def F_spec_BetweenSystems (fu : Nat) (x0 : List Int) (x1 : List Int) : Option (List (List Int) × Bool) :=
  bd (F_spec_exFew fu x0 x1) fun r1 =>
  bif (bnot r1) then
    some ([], false)
  else
    bd (F_spec_ahAll fu (iquo .i64 (llen x0) 2) 0) fun r2 =>
    bd (F_spec_BetweenSystems_L1 fu x0 x1 r2 (llen r2) fu (@List.nil (List Int)) 0) fun s1 =>
    some (s1.1, true)
theorem F_spec_BetweenSystems_w {fu : Nat} {H : AH} {v0 : Value} {v1 : Value} {x0 : List Int} {x1 : List Int} {r : (List (List Int) × Bool)} (hx0 : Sl H v0 (ints x0)) (hx1 : Sl H v1 (ints x1)) (hF : F_spec_BetweenSystems fu x0 x1 = some r) :
    ACallT Try.prog 39 [v0, v1] H (fun u G => AgB (Fr H) H G ∧ ∃ u0 : Value, ∃ C0 : List Value, u = (Value.tuple #[u0, (Value.bool r.2)]) ∧ Sep G (Fr H) [rowsC u0 22 3 C0 (List.map ints r.1)]) := by
  refine ACallT.of_body (nt := 39) (rs := [.tmp 4, .tmp 5]) Try.func39 rfl rfl rfl rfl ?_
  have A0 : AgB (Fr H) H H := .refl _ _
  have S0 : Sep H (Fr H) [] := .nil
  have hB := Fr.up H
  unfold F_spec_BetweenSystems at hF
  refine DWp.seq ?_
  refine DWp.region fun K hK => ?_
  simp [-aBin', -aBin, -aBinI, -aUn, -aNil, -flatV, n_fn, b_add, b_sub, b_mul, b_lt, b_le, b_gt, b_ge, b_eq, b_ne, u_not]
  apply hK
  clear hK K
  simp only [andThen, leaves]
  refine DWp.seq ?_
  refine DWp.seq ?_
  obtain ⟨r1, hc1, hF⟩ := bd_some hF
  refine DWp.region fun K hK => ?_
  simp [-aBin', -aBin, -aBinI, -aUn, -aNil, -flatV, n_fn, b_add, b_sub, b_mul, b_lt, b_le, b_gt, b_ge, b_eq, b_ne, u_not, ((hx0.agree A0.agree).tup), ((hx1.agree A0.agree).tup)]
  refine CallD.t (F_spec_exFew_w (fu := fu) (hx0.agree A0.agree) (hx1.agree A0.agree) hc1) ?_
  rintro _ G3 ⟨a6, rfl, S7⟩
  have A5 := A0.ext (hB.le A0.1) a6.agree
  have S4 : Sep G3 (Fr H) [] := S0.app a6.agree S7 (fun _ h => h) (hB.le A0.1)
  simp [-aBin', -aBin, -aBinI, -aUn, -aNil, -flatV, n_fn, b_add, b_sub, b_mul, b_lt, b_le, b_gt, b_ge, b_eq, b_ne, u_not, a6.pre]
  apply hK
  clear hK K
  simp only [andThen, leaves]
  refine DWp.cond' (t := (bnot r1)) (by simp []) (fun hb8 => ?_) (fun hb8 => ?_)
  · replace hF := cd_t hb8 hF
    refine DWp.seq ?_
    refine DWp.region fun K hK => ?_
    simp [-aBin', -aBin, -aBinI, -aUn, -aNil, -flatV, n_fn, b_add, b_sub, b_mul, b_lt, b_le, b_gt, b_ge, b_eq, b_ne, u_not]
    apply hK
    clear hK K
    simp only [andThen, leaves]
    refine DWp.ret ?_
    simp only [andThen, leaves]
    have S9 := S4.rowsNil (hB.le A5.1) 22 3
    obtain rfl := Option.some.inj hF
    exact ⟨by simp, [(Value.slice none 0 0), (Value.bool false)], by simp [], A5, nilV, [], rfl, S9.pick [0] (by decide) rfl⟩
  · replace hF := cd_f hb8 hF
    refine DWp.skip ?_
    simp only [andThen, leaves]
    refine DWp.seq ?_
    refine DWp.region fun K hK => ?_
    simp [-aBin', -aBin, -aBinI, -aUn, -aNil, -flatV, n_fn, b_add, b_sub, b_mul, b_lt, b_le, b_gt, b_ge, b_eq, b_ne, u_not]
    apply hK
    clear hK K
    simp only [andThen, leaves]
    refine DWp.seq ?_
    refine DWp.seq ?_
    have q10 := lenG (P := Try.prog) (hx0.agree A5.agree) el_22
    have g11 : (2 : Int) ≠ 0 := by decide
    obtain ⟨r2, hc12, hF⟩ := bd_some hF
    refine DWp.region fun K hK => ?_
    simp [-aBin', -aBin, -aBinI, -aUn, -aNil, -flatV, n_fn, b_add, b_sub, b_mul, b_lt, b_le, b_gt, b_ge, b_eq, b_ne, u_not, q10, b_quo g11]
    refine CallD.t (F_spec_ahAll_w (fu := fu)  hc12) ?_
    rintro c13_u0 G14 ⟨a17, _, c13_C0, rfl, S18⟩
    have A16 := A5.ext (hB.le A5.1) a17.agree
    have S15 : Sep G14 (Fr H) [rowsC c13_u0 22 3 c13_C0 (List.map ints r2)] := S4.app a17.agree S18 (fun _ h => h) (hB.le A5.1)
    have q19 := (S15.rd (k := 0) rfl).lenG (P := Try.prog) el_23
    simp [-aBin', -aBin, -aBinI, -aUn, -aNil, -flatV, n_fn, b_add, b_sub, b_mul, b_lt, b_le, b_gt, b_ge, b_eq, b_ne, u_not, q10, b_quo g11, a17.pre, q19]
    apply hK
    clear hK K
    simp only [andThen, leaves]
    refine DWp.block ?_
    have S20 := S15.rowsNil (hB.le A16.1) 22 3
    have S21 : Sep G14 (Fr H) [rowsT c13_u0 22 3 c13_C0 (List.map ints r2) 0, rowsC (Value.slice none 0 0) 22 3 [] (List.map ints (@List.nil (List Int)))] := S20.toT (kk := 0) rfl
    obtain ⟨s22, hL23, hF⟩ := bd_some hF
    have S24 := S21.pick [1, 0] (by decide) rfl
    refine DWp.loop (fun n env G => ∃ l1_0 : List (List Int), ∃ y1_18 : Int, ∃ w1_0 : Value, ∃ D1_0 : List Value, F_spec_BetweenSystems_L1 fu x0 x1 r2 (llen r2) n l1_0 y1_18 = some s22 ∧ Sep G (Fr H) [rowsC w1_0 22 3 D1_0 (List.map ints l1_0), rowsT c13_u0 22 3 c13_C0 (List.map ints r2) y1_18] ∧ AgB (Fr H) H G ∧ env 0 = some v0 ∧ env 1 = some v1 ∧ env 6 = some w1_0 ∧ env 16 = some c13_u0 ∧ env 17 = some (Value.int .i64 (llen r2)) ∧ env 18 = some (Value.int .i64 y1_18)) fu ⟨(@List.nil (List Int)), 0, (Value.slice none 0 0), [], hL23, S24, A16, by simp [], by simp [], by simp [], by simp [], by simp [], by simp []⟩ ?_
    rintro n1 env1 G1_ ⟨l1_0, y1_18, w1_0, D1_0, hL23, S1_, A1_, e1_0, e1_1, e1_6, e1_16, e1_17, e1_18⟩
    cases n1 with
    | zero => cases hL23
    | succ n1 =>
      simp only [F_spec_BetweenSystems_L1] at hL23
      refine DWp.seq ?_
      refine DWp.region fun K hK => ?_
      simp [-aBin', -aBin, -aBinI, -aUn, -aNil, -flatV, n_fn, b_add, b_sub, b_mul, b_lt, b_le, b_gt, b_ge, b_eq, b_ne, u_not, e1_0, e1_1, e1_6, e1_16, e1_17, e1_18]
      apply hK
      clear hK K
      simp only [andThen, leaves]
      refine DWp.seq ?_
      refine DWp.cond' (t := (ilt y1_18 (llen r2))) (by simp [e1_0, e1_1, e1_6, e1_16, e1_17, e1_18]) (fun hb25 => ?_) (fun hb25 => ?_)
      · replace hL23 := cd_t hb25 hL23
        refine DWp.skip ?_
        simp only [andThen, leaves]
        refine DWp.seq ?_
        refine DWp.block ?_
        refine DWp.seq ?_
        obtain ⟨g26, hL23⟩ := gd_some hL23
        have q27 := S1_.idxT (P := Try.prog) (ki := .i64) (kk := 1) rfl el_23 sz_22 g26
        have q29 := S1_.loadT (P := Try.prog) (kk := 1) rfl sz_22 ag_22 g26
        obtain ⟨g30, hL23⟩ := gd_some hL23
        have S31 : Sep G1_ (Fr H) [rowsC w1_0 22 3 D1_0 (List.map ints l1_0), rowsT c13_u0 22 3 c13_C0 (List.map ints r2) (iadd .i64 y1_18 1), flat (gat nilV c13_C0 y1_18) 3 (ints (gat [] r2 y1_18))] := S1_.takeT (fr := ints) (kk := 1) rfl [] g26 g30
        refine DWp.region fun K hK => ?_
        simp [-aBin', -aBin, -aBinI, -aUn, -aNil, -flatV, n_fn, b_add, b_sub, b_mul, b_lt, b_le, b_gt, b_ge, b_eq, b_ne, u_not, e1_0, e1_1, e1_6, e1_16, e1_17, e1_18, q27, q29]
        apply hK
        clear hK K
        simp only [andThen, leaves]
        refine DWp.seq ?_
        obtain ⟨r3, hc32, hL23⟩ := bd_some hL23
        refine DWp.region fun K hK => ?_
        simp [-aBin', -aBin, -aBinI, -aUn, -aNil, -flatV, n_fn, b_add, b_sub, b_mul, b_lt, b_le, b_gt, b_ge, b_eq, b_ne, u_not, e1_0, e1_1, e1_6, e1_16, e1_17, e1_18, ((hx0.agree A1_.agree).tup), ((S31.sl (k := 2) rfl).tup)]
        refine CallD.t (F_spec_exDistance_w (fu := fu) (hx0.agree A1_.agree) (S31.sl (k := 2) rfl) hc32) ?_
        rintro _ G34 ⟨a37, rfl, S38⟩
        have A36 := A1_.ext (hB.le A1_.1) a37.agree
        have S35 : Sep G34 (Fr H) [rowsC w1_0 22 3 D1_0 (List.map ints l1_0), rowsT c13_u0 22 3 c13_C0 (List.map ints r2) (iadd .i64 y1_18 1), flat (gat nilV c13_C0 y1_18) 3 (ints (gat [] r2 y1_18))] := S31.app a37.agree S38 (fun _ h => h) (hB.le A1_.1)
        obtain ⟨r4, hc39, hL23⟩ := bd_some hL23
        simp [-aBin', -aBin, -aBinI, -aUn, -aNil, -flatV, n_fn, b_add, b_sub, b_mul, b_lt, b_le, b_gt, b_ge, b_eq, b_ne, u_not, e1_0, e1_1, e1_6, e1_16, e1_17, e1_18, a37.pre, ((S35.sl (k := 2) rfl).tup), ((hx1.agree A36.agree).tup)]
        refine CallD.t (F_spec_exDistance_w (fu := fu) (S35.sl (k := 2) rfl) (hx1.agree A36.agree) hc39) ?_
        rintro _ G41 ⟨a44, rfl, S45⟩
        have A43 := A36.ext (hB.le A36.1) a44.agree
        have S42 : Sep G41 (Fr H) [rowsC w1_0 22 3 D1_0 (List.map ints l1_0), rowsT c13_u0 22 3 c13_C0 (List.map ints r2) (iadd .i64 y1_18 1), flat (gat nilV c13_C0 y1_18) 3 (ints (gat [] r2 y1_18))] := S35.app a44.agree S45 (fun _ h => h) (hB.le A36.1)
        obtain ⟨r5, hc46, hL23⟩ := bd_some hL23
        simp [-aBin', -aBin, -aBinI, -aUn, -aNil, -flatV, n_fn, b_add, b_sub, b_mul, b_lt, b_le, b_gt, b_ge, b_eq, b_ne, u_not, e1_0, e1_1, e1_6, e1_16, e1_17, e1_18, a37.pre, a44.pre, ((hx0.agree A43.agree).tup), ((hx1.agree A43.agree).tup)]
        refine CallD.t (F_spec_exDistance_w (fu := fu) (hx0.agree A43.agree) (hx1.agree A43.agree) hc46) ?_
        rintro _ G48 ⟨a51, rfl, S52⟩
        have A50 := A43.ext (hB.le A43.1) a51.agree
        have S49 : Sep G48 (Fr H) [rowsC w1_0 22 3 D1_0 (List.map ints l1_0), rowsT c13_u0 22 3 c13_C0 (List.map ints r2) (iadd .i64 y1_18 1), flat (gat nilV c13_C0 y1_18) 3 (ints (gat [] r2 y1_18))] := S42.app a51.agree S52 (fun _ h => h) (hB.le A43.1)
        simp [-aBin', -aBin, -aBinI, -aUn, -aNil, -flatV, n_fn, b_add, b_sub, b_mul, b_lt, b_le, b_gt, b_ge, b_eq, b_ne, u_not, e1_0, e1_1, e1_6, e1_16, e1_17, e1_18, a37.pre, a44.pre, a51.pre]
        apply hK
        clear hK K
        simp only [andThen, leaves]
        refine DWp.cond' (t := (ieq (iadd .i64 r3 r4) r5)) (by simp [e1_0, e1_1, e1_6, e1_16, e1_17, e1_18]) (fun hb53 => ?_) (fun hb53 => ?_)
        · replace hL23 := cd_t hb53 hL23
          obtain ⟨v54, G55, q56, S57, a59, _, _⟩ := S49.lit1 (P := Try.prog) (t := 23) (hB.le A50.1) el_23 ei_22 rfl (gat nilV c13_C0 y1_18) ((S49.sl (k := 2) rfl).tup) ((S49.sl (k := 2) rfl).one)
          have A58 := A50.ext (hB.le A50.1) a59
          replace S57 : Sep G55 (Fr H) [rowsC w1_0 22 3 D1_0 (List.map ints l1_0), rowsT c13_u0 22 3 c13_C0 (List.map ints r2) (iadd .i64 y1_18 1), flat (gat nilV c13_C0 y1_18) 3 (ints (gat [] r2 y1_18)), flat1 v54 22 [(gat nilV c13_C0 y1_18)]] := S57
          obtain ⟨g60, hL23⟩ := gd_some hL23
          obtain ⟨v66, G61, q62, S63, a65, q62t, _⟩ := S57.pushRow (u := w1_0) (fr := ints) (X := l1_0) (y := (gat [] r2 y1_18)) (P := Try.prog) (t := 23) (t2 := 23) (j := 0) (k := 2) (by decide) rfl rfl (hB.le A58.1) el_23 el_23 ei_22 rfl (S57.sl1 (k := 3) rfl) g60
          have A64 := A58.trans a65
          replace S63 : Sep G61 (Fr H) [rowsC v66 22 3 (D1_0 ++ [(gat nilV c13_C0 y1_18)]) (List.map ints (lapp l1_0 [(gat [] r2 y1_18)])), rowsT c13_u0 22 3 c13_C0 (List.map ints r2) (iadd .i64 y1_18 1), emp, flat1 v54 22 [(gat nilV c13_C0 y1_18)]] := S63
          refine DWp.region fun K hK => ?_
          simp [-aBin', -aBin, -aBinI, -aUn, -aNil, -flatV, n_fn, b_add, b_sub, b_mul, b_lt, b_le, b_gt, b_ge, b_eq, b_ne, u_not, e1_0, e1_1, e1_6, e1_16, e1_17, e1_18, q56, a59.to_pre, ((S49.sl (k := 2) rfl).tup), q62, q62t]
          apply hK
          clear hK K
          simp only [andThen, leaves]
          refine DWp.region fun K hK => ?_
          simp [-aBin', -aBin, -aBinI, -aUn, -aNil, -flatV, n_fn, b_add, b_sub, b_mul, b_lt, b_le, b_gt, b_ge, b_eq, b_ne, u_not, e1_0, e1_1, e1_6, e1_16, e1_17, e1_18]
          apply hK
          clear hK K
          simp only [andThen, leaves]
          have S67 := S63.pick [0, 1] (by decide) rfl
          exact ⟨n1, Nat.lt_succ_self _, (lapp l1_0 [(gat [] r2 y1_18)]), (iadd .i64 y1_18 1), v66, (D1_0 ++ [(gat nilV c13_C0 y1_18)]), hL23, S67, A64, by simp [e1_0, e1_1, e1_6, e1_16, e1_17, e1_18], by simp [e1_0, e1_1, e1_6, e1_16, e1_17, e1_18], by simp [e1_0, e1_1, e1_6, e1_16, e1_17, e1_18], by simp [e1_0, e1_1, e1_6, e1_16, e1_17, e1_18], by simp [e1_0, e1_1, e1_6, e1_16, e1_17, e1_18], by simp [e1_0, e1_1, e1_6, e1_16, e1_17, e1_18]⟩
        · replace hL23 := cd_f hb53 hL23
          refine DWp.skip ?_
          simp only [andThen, leaves]
          refine DWp.region fun K hK => ?_
          simp [-aBin', -aBin, -aBinI, -aUn, -aNil, -flatV, n_fn, b_add, b_sub, b_mul, b_lt, b_le, b_gt, b_ge, b_eq, b_ne, u_not, e1_0, e1_1, e1_6, e1_16, e1_17, e1_18]
          apply hK
          clear hK K
          simp only [andThen, leaves]
          have S68 := S49.pick [0, 1] (by decide) rfl
          exact ⟨n1, Nat.lt_succ_self _, l1_0, (iadd .i64 y1_18 1), w1_0, D1_0, hL23, S68, A50, by simp [e1_0, e1_1, e1_6, e1_16, e1_17, e1_18], by simp [e1_0, e1_1, e1_6, e1_16, e1_17, e1_18], by simp [e1_0, e1_1, e1_6, e1_16, e1_17, e1_18], by simp [e1_0, e1_1, e1_6, e1_16, e1_17, e1_18], by simp [e1_0, e1_1, e1_6, e1_16, e1_17, e1_18], by simp [e1_0, e1_1, e1_6, e1_16, e1_17, e1_18]⟩
      · replace hL23 := cd_f hb25 hL23
        refine DWp.exit ?_
        simp only [andThen, leaves, if_true, if_false, reduceIte, Nat.reduceEqDiff]
        obtain rfl := Option.some.inj hL23
        try dsimp only at hF
        refine DWp.seq ?_
        refine DWp.region fun K hK => ?_
        simp [-aBin', -aBin, -aBinI, -aUn, -aNil, -flatV, n_fn, b_add, b_sub, b_mul, b_lt, b_le, b_gt, b_ge, b_eq, b_ne, u_not, e1_0, e1_1, e1_6, e1_16, e1_17, e1_18]
        apply hK
        clear hK K
        simp only [andThen, leaves]
        refine DWp.ret ?_
        obtain rfl := Option.some.inj hF
        exact ⟨by simp, [w1_0, (Value.bool true)], by simp [e1_0, e1_1, e1_6, e1_16, e1_17, e1_18, ((S1_.rd (k := 0) rfl).tup)], A1_, w1_0, D1_0, rfl, S1_.pick [0] (by decide) rfl⟩
def F_impl_isExchanged (fu : Nat) (x0 : List Int) (x1 : List Int) : Option (Bool) :=
  bd (F_impl_IsPair fu x0 x1) fun r1 =>
  bif r1 then
    some (ile (llen x0) 10)
  else
    some false
theorem F_impl_isExchanged_w {fu : Nat} {H : AH} {v0 : Value} {v1 : Value} {x0 : List Int} {x1 : List Int} {r : (Bool)} (hx0 : Sl H v0 (ints x0)) (hx1 : Sl H v1 (ints x1)) (hF : F_impl_isExchanged fu x0 x1 = some r) :
    ACallT Try.prog 76 [v0, v1] H (fun u G => AgB (Fr H) H G ∧ u = (Value.bool r) ∧ Sep G (Fr H) []) := by
  refine ACallT.of_body (nt := 14) (rs := [.tmp 4]) Try.func76 rfl rfl rfl rfl ?_
  have A0 : AgB (Fr H) H H := .refl _ _
  have S0 : Sep H (Fr H) [] := .nil
  have hB := Fr.up H
  unfold F_impl_isExchanged at hF
  refine DWp.seq ?_
  refine DWp.region fun K hK => ?_
  simp [-aBin', -aBin, -aBinI, -aUn, -aNil, -flatV, n_fn, b_add, b_sub, b_mul, b_lt, b_le, b_gt, b_ge, b_eq, b_ne, u_not]
  apply hK
  clear hK K
  simp only [andThen, leaves]
  refine DWp.seq ?_
  obtain ⟨r1, hc1, hF⟩ := bd_some hF
  refine DWp.region fun K hK => ?_
  simp [-aBin', -aBin, -aBinI, -aUn, -aNil, -flatV, n_fn, b_add, b_sub, b_mul, b_lt, b_le, b_gt, b_ge, b_eq, b_ne, u_not, bu_38 ((hx0.agree A0.agree).tup) ((hx0.agree A0.agree).one) ((hx1.agree A0.agree).tup) ((hx1.agree A0.agree).one), ((hx0.agree A0.agree).tup), ((hx1.agree A0.agree).tup)]
  refine CallD.t (F_impl_IsPair_w (fu := fu) (hx0.agree A0.agree) (hx1.agree A0.agree) hc1) ?_
  rintro _ G3 ⟨a6, rfl, S7⟩
  have A5 := A0.ext (hB.le A0.1) a6.agree
  have S4 : Sep G3 (Fr H) [] := S0.app a6.agree S7 (fun _ h => h) (hB.le A0.1)
  rcases Bool.eq_false_or_eq_true r1 with hb8 | hb8
  · replace hF := cd_t hb8 hF
    have q9 := lenG (P := Try.prog) (hx0.agree A5.agree) el_22
    simp [-aBin', -aBin, -aBinI, -aUn, -aNil, -flatV, n_fn, b_add, b_sub, b_mul, b_lt, b_le, b_gt, b_ge, b_eq, b_ne, u_not, hb8, bu_38 ((hx0.agree A0.agree).tup) ((hx0.agree A0.agree).one) ((hx1.agree A0.agree).tup) ((hx1.agree A0.agree).one), a6.pre, q9]
    apply hK
    clear hK K
    simp only [andThen, leaves]
    refine DWp.ret ?_
    obtain rfl := Option.some.inj hF
    exact ⟨by simp, [(Value.bool (ile (llen x0) 10))], by simp [], A5, rfl, S4.pick [] (by decide) rfl⟩
  · replace hF := cd_f hb8 hF
    simp [-aBin', -aBin, -aBinI, -aUn, -aNil, -flatV, n_fn, b_add, b_sub, b_mul, b_lt, b_le, b_gt, b_ge, b_eq, b_ne, u_not, hb8, bu_38 ((hx0.agree A0.agree).tup) ((hx0.agree A0.agree).one) ((hx1.agree A0.agree).tup) ((hx1.agree A0.agree).one), a6.pre]
    apply hK
    clear hK K
    simp only [andThen, leaves]
    refine DWp.ret ?_
    obtain rfl := Option.some.inj hF
    exact ⟨by simp, [(Value.bool false)], by simp [], A5, rfl, S4.pick [] (by decide) rfl⟩
def F_impl_covered_L1 (fu : Nat) (k1_0 : List Int) (k1_1 : Int) : Nat → List Int → Int → Option (List Int × Int)
  | 0, _, _ => none
  | n + 1, l1_0, y1_12 =>
    bif (ilt y1_12 k1_1) then
      gd (inL k1_0 y1_12) (
      gd (l1_0.length + [(iadd .i64 (gat 0 k1_0 y1_12) 1)].length ≤ 4294967296) (
      F_impl_covered_L1 fu k1_0 k1_1 n (lapp l1_0 [(iadd .i64 (gat 0 k1_0 y1_12) 1)]) (iadd .i64 y1_12 1)))
    else
      some (l1_0, y1_12)
def F_impl_covered (fu : Nat) (x0 : List Int) : Option (List Int) :=
  bd (F_impl_covered_L1 fu x0 (llen x0) fu [(iadd .i64 (llen x0) 1)] 0) fun s1 =>
  gd (s1.1.length + [0].length ≤ 4294967296) (
  some (lapp s1.1 [0]))
theorem F_impl_covered_w {fu : Nat} {H : AH} {v0 : Value} {x0 : List Int} {r : (List Int)} (hx0 : Sl H v0 (ints x0)) (hF : F_impl_covered fu x0 = some r) :
    ACallT Try.prog 107 [v0] H (fun u G => AgB (Fr H) H G ∧ ∃ u0 : Value, u = u0 ∧ Sep G (Fr H) [flat u0 3 (ints r)]) := by
  refine ACallT.of_body (nt := 25) (rs := [.tmp 2]) Try.func107 rfl rfl rfl rfl ?_
  have A0 : AgB (Fr H) H H := .refl _ _
  have S0 : Sep H (Fr H) [] := .nil
  have hB := Fr.up H
  unfold F_impl_covered at hF
  refine DWp.seq ?_
  refine DWp.region fun K hK => ?_
  simp [-aBin', -aBin, -aBinI, -aUn, -aNil, -flatV, n_fn, b_add, b_sub, b_mul, b_lt, b_le, b_gt, b_ge, b_eq, b_ne, u_not]
  apply hK
  clear hK K
  simp only [andThen, leaves]
  refine DWp.seq ?_
  have q1 := lenG (P := Try.prog) (hx0.agree A0.agree) el_22
  obtain ⟨v2, G3, q4, S5, a7, _, _⟩ := S0.lit1 (P := Try.prog) (t := 22) (hB.le A0.1) el_22 ei_3 rfl (Value.int .i64 (iadd .i64 (llen x0) 1)) rfl rfl
  have A6 := A0.ext (hB.le A0.1) a7
  replace S5 : Sep G3 (Fr H) [flat1 v2 3 (ints [(iadd .i64 (llen x0) 1)])] := S5
  refine DWp.region fun K hK => ?_
  simp [-aBin', -aBin, -aBinI, -aUn, -aNil, -flatV, n_fn, b_add, b_sub, b_mul, b_lt, b_le, b_gt, b_ge, b_eq, b_ne, u_not, q1, q4, a7.to_pre]
  apply hK
  clear hK K
  simp only [andThen, leaves]
  refine DWp.seq ?_
  refine DWp.seq ?_
  have q9 := lenG (P := Try.prog) (hx0.agree A6.agree) el_22
  refine DWp.region fun K hK => ?_
  simp [-aBin', -aBin, -aBinI, -aUn, -aNil, -flatV, n_fn, b_add, b_sub, b_mul, b_lt, b_le, b_gt, b_ge, b_eq, b_ne, u_not, q9]
  apply hK
  clear hK K
  simp only [andThen, leaves]
  refine DWp.block ?_
  obtain ⟨s10, hL11, hF⟩ := bd_some hF
  have S12 := S5.pick [0] (by decide) rfl
  have S13 := S12.weak (k := 0) rfl
  refine DWp.loop (fun n env G => ∃ l1_0 : List Int, ∃ y1_12 : Int, ∃ w1_0 : Value, F_impl_covered_L1 fu x0 (llen x0) n l1_0 y1_12 = some s10 ∧ Sep G (Fr H) [flat w1_0 3 (ints l1_0)] ∧ AgB (Fr H) H G ∧ env 3 = some w1_0 ∧ env 10 = some v0 ∧ env 11 = some (Value.int .i64 (llen x0)) ∧ env 12 = some (Value.int .i64 y1_12)) fu ⟨[(iadd .i64 (llen x0) 1)], 0, v2, hL11, S13, A6, by simp [], by simp [], by simp [], by simp []⟩ ?_
  rintro n1 env1 G1_ ⟨l1_0, y1_12, w1_0, hL11, S1_, A1_, e1_3, e1_10, e1_11, e1_12⟩
  cases n1 with
  | zero => cases hL11
  | succ n1 =>
    simp only [F_impl_covered_L1] at hL11
    refine DWp.seq ?_
    refine DWp.region fun K hK => ?_
    simp [-aBin', -aBin, -aBinI, -aUn, -aNil, -flatV, n_fn, b_add, b_sub, b_mul, b_lt, b_le, b_gt, b_ge, b_eq, b_ne, u_not, e1_3, e1_10, e1_11, e1_12]
    apply hK
    clear hK K
    simp only [andThen, leaves]
    refine DWp.seq ?_
    refine DWp.cond' (t := (ilt y1_12 (llen x0))) (by simp [e1_3, e1_10, e1_11, e1_12]) (fun hb14 => ?_) (fun hb14 => ?_)
    · replace hL11 := cd_t hb14 hL11
      refine DWp.skip ?_
      simp only [andThen, leaves]
      refine DWp.seq ?_
      refine DWp.block ?_
      refine DWp.seq ?_
      obtain ⟨g15, hL11⟩ := gd_some hL11
      have q16 := idxG (P := Try.prog) (kk := .i64) (hx0.agree A1_.agree) el_22 sz_3 g15
      have q17 := loadG (P := Try.prog) (hx0.agree A1_.agree) sz_3 ag_3 g15 0
      refine DWp.region fun K hK => ?_
      simp [-aBin', -aBin, -aBinI, -aUn, -aNil, -flatV, n_fn, b_add, b_sub, b_mul, b_lt, b_le, b_gt, b_ge, b_eq, b_ne, u_not, e1_3, e1_10, e1_11, e1_12, q16, q17]
      apply hK
      clear hK K
      simp only [andThen, leaves]
      obtain ⟨v18, G19, q20, S21, a23, _, _⟩ := S1_.lit1 (P := Try.prog) (t := 22) (hB.le A1_.1) el_22 ei_3 rfl (Value.int .i64 (iadd .i64 (gat 0 x0 y1_12) 1)) rfl rfl
      have A22 := A1_.ext (hB.le A1_.1) a23
      replace S21 : Sep G19 (Fr H) [flat w1_0 3 (ints l1_0), flat1 v18 3 (ints [(iadd .i64 (gat 0 x0 y1_12) 1)])] := S21
      obtain ⟨g25, hL11⟩ := gd_some hL11
      obtain ⟨v31, G26, q27, S28, a30, _, _⟩ := S21.appendG (f := (Value.int .i64)) (xs := l1_0) (ys := [(iadd .i64 (gat 0 x0 y1_12) 1)]) (P := Try.prog) (t := 22) (t2 := 22) (k := 0) rfl (hB.le A22.1) el_22 el_22 ei_3 rfl (S21.sl1 (k := 1) rfl) g25
      have A29 := A22.trans a30
      replace S28 : Sep G26 (Fr H) [flat v31 3 (ints (lapp l1_0 [(iadd .i64 (gat 0 x0 y1_12) 1)])), flat1 v18 3 (ints [(iadd .i64 (gat 0 x0 y1_12) 1)])] := S28
      refine DWp.region fun K hK => ?_
      simp [-aBin', -aBin, -aBinI, -aUn, -aNil, -flatV, n_fn, b_add, b_sub, b_mul, b_lt, b_le, b_gt, b_ge, b_eq, b_ne, u_not, e1_3, e1_10, e1_11, e1_12, q20, a23.to_pre, q27]
      apply hK
      clear hK K
      simp only [andThen, leaves]
      refine DWp.region fun K hK => ?_
      simp [-aBin', -aBin, -aBinI, -aUn, -aNil, -flatV, n_fn, b_add, b_sub, b_mul, b_lt, b_le, b_gt, b_ge, b_eq, b_ne, u_not, e1_3, e1_10, e1_11, e1_12]
      apply hK
      clear hK K
      simp only [andThen, leaves]
      have S32 := S28.pick [0] (by decide) rfl
      exact ⟨n1, Nat.lt_succ_self _, (lapp l1_0 [(iadd .i64 (gat 0 x0 y1_12) 1)]), (iadd .i64 y1_12 1), v31, hL11, S32, A29, by simp [e1_3, e1_10, e1_11, e1_12], by simp [e1_3, e1_10, e1_11, e1_12], by simp [e1_3, e1_10, e1_11, e1_12], by simp [e1_3, e1_10, e1_11, e1_12]⟩
    · replace hL11 := cd_f hb14 hL11
      refine DWp.exit ?_
      simp only [andThen, leaves, if_true, if_false, reduceIte, Nat.reduceEqDiff]
      obtain rfl := Option.some.inj hL11
      try dsimp only at hF
      refine DWp.seq ?_
      obtain ⟨v33, G34, q35, S36, a38, _, _⟩ := S1_.lit1 (P := Try.prog) (t := 22) (hB.le A1_.1) el_22 ei_3 rfl (Value.int .i64 0) rfl rfl
      have A37 := A1_.ext (hB.le A1_.1) a38
      replace S36 : Sep G34 (Fr H) [flat w1_0 3 (ints l1_0), flat1 v33 3 (ints [0])] := S36
      obtain ⟨g40, hF⟩ := gd_some hF
      obtain ⟨v46, G41, q42, S43, a45, _, _⟩ := S36.appendG (f := (Value.int .i64)) (xs := l1_0) (ys := [0]) (P := Try.prog) (t := 22) (t2 := 22) (k := 0) rfl (hB.le A37.1) el_22 el_22 ei_3 rfl (S36.sl1 (k := 1) rfl) g40
      have A44 := A37.trans a45
      replace S43 : Sep G41 (Fr H) [flat v46 3 (ints (lapp l1_0 [0])), flat1 v33 3 (ints [0])] := S43
      refine DWp.region fun K hK => ?_
      simp [-aBin', -aBin, -aBinI, -aUn, -aNil, -flatV, n_fn, b_add, b_sub, b_mul, b_lt, b_le, b_gt, b_ge, b_eq, b_ne, u_not, e1_3, e1_10, e1_11, e1_12, q35, a38.to_pre, q42]
      apply hK
      clear hK K
      simp only [andThen, leaves]
      refine DWp.ret ?_
      obtain rfl := Option.some.inj hF
      exact ⟨by simp, [v46], by simp [e1_3, e1_10, e1_11, e1_12, ((S43.sl (k := 0) rfl).tup)], A44, v46, rfl, S43.pick [0] (by decide) rfl⟩
def F_slices_Clone_Sint (fu : Nat) (x0 : List Int) : Option (List Int) :=
  gd ((@List.nil Int).length + x0.length ≤ 4294967296) (
  some (lapp (@List.nil Int) x0))
theorem F_slices_Clone_Sint_w {fu : Nat} {H : AH} {v0 : Value} {x0 : List Int} {r : (List Int)} (hx0 : Sl H v0 (ints x0)) (hF : F_slices_Clone_Sint fu x0 = some r) :
    ACallT Try.prog 98 [v0] H (fun u G => AgB (Fr H) H G ∧ ∃ u0 : Value, u = u0 ∧ Sep G (Fr H) [flat u0 3 (ints r)]) := by
  refine ACallT.of_body (nt := 8) (rs := [.tmp 2]) Try.func98 rfl rfl rfl rfl ?_
  have A0 : AgB (Fr H) H H := .refl _ _
  have S0 : Sep H (Fr H) [] := .nil
  have hB := Fr.up H
  by_cases hn0 : v0 = .slice none 0 0
  ·
    subst hn0
    have hx1 : x0 = [] := by
      rcases hx0 with ⟨_, h_⟩ | ⟨_, _, _, _, _, h_, _⟩
      · cases x0 with
        | nil => rfl
        | cons a_ b_ => cases h_
      · cases h_
    subst hx1
    have hF2 : (some [] : Option (List Int)) = some r := by
      rw [← hF]
      unfold F_slices_Clone_Sint
      rw [gd_true (by simp)]
      rfl
    refine DWp.seq ?_
    refine DWp.region fun K hK => ?_
    simp [-aBin', -aBin, -aBinI, -aUn, -aNil, -flatV, n_fn, b_add, b_sub, b_mul, b_lt, b_le, b_gt, b_ge, b_eq, b_ne, u_not]
    apply hK
    clear hK K
    simp only [andThen, leaves]
    refine DWp.seq ?_
    refine DWp.seq ?_
    refine DWp.region fun K hK => ?_
    simp [-aBin', -aBin, -aBinI, -aUn, -aNil, -flatV, n_fn, b_add, b_sub, b_mul, b_lt, b_le, b_gt, b_ge, b_eq, b_ne, u_not, nil_tt us_22]
    apply hK
    clear hK K
    simp only [andThen, leaves]
    refine DWp.ct (by simp [bnot]) ?_
    refine DWp.seq ?_
    refine DWp.region fun K hK => ?_
    simp [-aBin', -aBin, -aBinI, -aUn, -aNil, -flatV, n_fn, b_add, b_sub, b_mul, b_lt, b_le, b_gt, b_ge, b_eq, b_ne, u_not]
    apply hK
    clear hK K
    simp only [andThen, leaves]
    refine DWp.ret ?_
    simp only [andThen, leaves]
    have S1 := S0.nilItem (hB.le A0.1) 3
    obtain rfl := Option.some.inj hF2
    exact ⟨by simp, [(Value.slice none 0 0)], by simp [], A0, (Value.slice none 0 0), rfl, S1.pick [0] (by decide) rfl⟩
  · unfold F_slices_Clone_Sint at hF
    refine DWp.seq ?_
    refine DWp.region fun K hK => ?_
    simp [-aBin', -aBin, -aBinI, -aUn, -aNil, -flatV, n_fn, b_add, b_sub, b_mul, b_lt, b_le, b_gt, b_ge, b_eq, b_ne, u_not]
    apply hK
    clear hK K
    simp only [andThen, leaves]
    refine DWp.seq ?_
    refine DWp.seq ?_
    refine DWp.region fun K hK => ?_
    simp [-aBin', -aBin, -aBinI, -aUn, -aNil, -flatV, n_fn, b_add, b_sub, b_mul, b_lt, b_le, b_gt, b_ge, b_eq, b_ne, u_not, nil_ff us_22 (hx0.agree A0.agree) hn0]
    apply hK
    clear hK K
    simp only [andThen, leaves]
    refine DWp.cf (by simp [bnot]) ?_
    refine DWp.skip ?_
    simp only [andThen, leaves]
    refine DWp.seq ?_
    obtain ⟨v1, G2, q3, S4, a6, _, _⟩ := S0.lit0 (P := Try.prog) (t := 22) (hB.le A0.1) el_22 ei_3 rfl
    have A5 := A0.ext (hB.le A0.1) a6
    replace S4 : Sep G2 (Fr H) [flat1 v1 3 (ints (@List.nil Int))] := S4
    obtain ⟨g8, hF⟩ := gd_some hF
    obtain ⟨v14, G9, q10, S11, a13, _, _⟩ := S4.append1 (f := (Value.int .i64)) (xs := (@List.nil Int)) (ys := x0) (P := Try.prog) (t := 22) (t2 := 22) (k := 0) rfl (hB.le A5.1) el_22 el_22 ei_3 rfl (hx0.agree A5.agree) g8
    have A12 := A5.trans a13
    replace S11 : Sep G9 (Fr H) [flat v14 3 (ints (lapp (@List.nil Int) x0))] := S11
    refine DWp.region fun K hK => ?_
    simp [-aBin', -aBin, -aBinI, -aUn, -aNil, -flatV, n_fn, b_add, b_sub, b_mul, b_lt, b_le, b_gt, b_ge, b_eq, b_ne, u_not, q3, a6.to_pre, q10]
    apply hK
    clear hK K
    simp only [andThen, leaves]
    refine DWp.ret ?_
    obtain rfl := Option.some.inj hF
    exact ⟨by simp, [v14], by simp [((S11.sl (k := 0) rfl).tup)], A12, v14, rfl, S11.pick [0] (by decide) rfl⟩
def F_impl_joined_L1 (fu : Nat) (k1_0 : List Int) (k1_1 : List Int) (k1_2 : Int) : Nat → List Int → Int → Option (List Int × Int)
  | 0, _, _ => none
  | n + 1, l1_0, y1_12 =>
    bif (ilt y1_12 k1_2) then
      gd (inL k1_1 y1_12) (
      gd (l1_0.length + [(iadd .i64 (gat 0 k1_1 y1_12) (llen k1_0))].length ≤ 4294967296) (
      F_impl_joined_L1 fu k1_0 k1_1 k1_2 n (lapp l1_0 [(iadd .i64 (gat 0 k1_1 y1_12) (llen k1_0))]) (iadd .i64 y1_12 1)))
    else
      some (l1_0, y1_12)
def F_impl_joined (fu : Nat) (x0 : List Int) (x1 : List Int) : Option (List Int) :=
  bd (F_slices_Clone_Sint fu x0) fun r1 =>
  bd (F_impl_joined_L1 fu x0 x1 (llen x1) fu r1 0) fun s1 =>
  some s1.1
theorem F_impl_joined_w {fu : Nat} {H : AH} {v0 : Value} {v1 : Value} {x0 : List Int} {x1 : List Int} {r : (List Int)} (hx0 : Sl H v0 (ints x0)) (hx1 : Sl H v1 (ints x1)) (hF : F_impl_joined fu x0 x1 = some r) :
    ACallT Try.prog 106 [v0, v1] H (fun u G => AgB (Fr H) H G ∧ ∃ u0 : Value, u = u0 ∧ Sep G (Fr H) [flat u0 3 (ints r)]) := by
  refine ACallT.of_body (nt := 25) (rs := [.tmp 4]) Try.func106 rfl rfl rfl rfl ?_
  have A0 : AgB (Fr H) H H := .refl _ _
  have S0 : Sep H (Fr H) [] := .nil
  have hB := Fr.up H
  unfold F_impl_joined at hF
  refine DWp.seq ?_
  refine DWp.region fun K hK => ?_
  simp [-aBin', -aBin, -aBinI, -aUn, -aNil, -flatV, n_fn, b_add, b_sub, b_mul, b_lt, b_le, b_gt, b_ge, b_eq, b_ne, u_not]
  apply hK
  clear hK K
  simp only [andThen, leaves]
  refine DWp.seq ?_
  obtain ⟨r1, hc1, hF⟩ := bd_some hF
  refine DWp.region fun K hK => ?_
  simp [-aBin', -aBin, -aBinI, -aUn, -aNil, -flatV, n_fn, b_add, b_sub, b_mul, b_lt, b_le, b_gt, b_ge, b_eq, b_ne, u_not, ((hx0.agree A0.agree).tup)]
  refine CallD.t (F_slices_Clone_Sint_w (fu := fu) (hx0.agree A0.agree) hc1) ?_
  rintro c2_u0 G3 ⟨a6, _, rfl, S7⟩
  have A5 := A0.ext (hB.le A0.1) a6.agree
  have S4 : Sep G3 (Fr H) [flat c2_u0 3 (ints r1)] := S0.app a6.agree S7 (fun _ h => h) (hB.le A0.1)
  simp [-aBin', -aBin, -aBinI, -aUn, -aNil, -flatV, n_fn, b_add, b_sub, b_mul, b_lt, b_le, b_gt, b_ge, b_eq, b_ne, u_not, a6.pre]
  apply hK
  clear hK K
  simp only [andThen, leaves]
  refine DWp.seq ?_
  refine DWp.seq ?_
  have q8 := lenG (P := Try.prog) (hx1.agree A5.agree) el_22
  refine DWp.region fun K hK => ?_
  simp [-aBin', -aBin, -aBinI, -aUn, -aNil, -flatV, n_fn, b_add, b_sub, b_mul, b_lt, b_le, b_gt, b_ge, b_eq, b_ne, u_not, q8]
  apply hK
  clear hK K
  simp only [andThen, leaves]
  refine DWp.block ?_
  obtain ⟨s9, hL10, hF⟩ := bd_some hF
  have S11 := S4.pick [0] (by decide) rfl
  refine DWp.loop (fun n env G => ∃ l1_0 : List Int, ∃ y1_12 : Int, ∃ w1_0 : Value, F_impl_joined_L1 fu x0 x1 (llen x1) n l1_0 y1_12 = some s9 ∧ Sep G (Fr H) [flat w1_0 3 (ints l1_0)] ∧ AgB (Fr H) H G ∧ env 0 = some v0 ∧ env 5 = some w1_0 ∧ env 10 = some v1 ∧ env 11 = some (Value.int .i64 (llen x1)) ∧ env 12 = some (Value.int .i64 y1_12)) fu ⟨r1, 0, c2_u0, hL10, S11, A5, by simp [], by simp [], by simp [], by simp [], by simp []⟩ ?_
  rintro n1 env1 G1_ ⟨l1_0, y1_12, w1_0, hL10, S1_, A1_, e1_0, e1_5, e1_10, e1_11, e1_12⟩
  cases n1 with
  | zero => cases hL10
  | succ n1 =>
    simp only [F_impl_joined_L1] at hL10
    refine DWp.seq ?_
    refine DWp.region fun K hK => ?_
    simp [-aBin', -aBin, -aBinI, -aUn, -aNil, -flatV, n_fn, b_add, b_sub, b_mul, b_lt, b_le, b_gt, b_ge, b_eq, b_ne, u_not, e1_0, e1_5, e1_10, e1_11, e1_12]
    apply hK
    clear hK K
    simp only [andThen, leaves]
    refine DWp.seq ?_
    refine DWp.cond' (t := (ilt y1_12 (llen x1))) (by simp [e1_0, e1_5, e1_10, e1_11, e1_12]) (fun hb12 => ?_) (fun hb12 => ?_)
    · replace hL10 := cd_t hb12 hL10
      refine DWp.skip ?_
      simp only [andThen, leaves]
      refine DWp.seq ?_
      refine DWp.block ?_
      refine DWp.seq ?_
      obtain ⟨g13, hL10⟩ := gd_some hL10
      have q14 := idxG (P := Try.prog) (kk := .i64) (hx1.agree A1_.agree) el_22 sz_3 g13
      have q15 := loadG (P := Try.prog) (hx1.agree A1_.agree) sz_3 ag_3 g13 0
      refine DWp.region fun K hK => ?_
      simp [-aBin', -aBin, -aBinI, -aUn, -aNil, -flatV, n_fn, b_add, b_sub, b_mul, b_lt, b_le, b_gt, b_ge, b_eq, b_ne, u_not, e1_0, e1_5, e1_10, e1_11, e1_12, q14, q15]
      apply hK
      clear hK K
      simp only [andThen, leaves]
      have q16 := lenG (P := Try.prog) (hx0.agree A1_.agree) el_22
      obtain ⟨v17, G18, q19, S20, a22, _, _⟩ := S1_.lit1 (P := Try.prog) (t := 22) (hB.le A1_.1) el_22 ei_3 rfl (Value.int .i64 (iadd .i64 (gat 0 x1 y1_12) (llen x0))) rfl rfl
      have A21 := A1_.ext (hB.le A1_.1) a22
      replace S20 : Sep G18 (Fr H) [flat w1_0 3 (ints l1_0), flat1 v17 3 (ints [(iadd .i64 (gat 0 x1 y1_12) (llen x0))])] := S20
      obtain ⟨g24, hL10⟩ := gd_some hL10
      obtain ⟨v30, G25, q26, S27, a29, _, _⟩ := S20.appendG (f := (Value.int .i64)) (xs := l1_0) (ys := [(iadd .i64 (gat 0 x1 y1_12) (llen x0))]) (P := Try.prog) (t := 22) (t2 := 22) (k := 0) rfl (hB.le A21.1) el_22 el_22 ei_3 rfl (S20.sl1 (k := 1) rfl) g24
      have A28 := A21.trans a29
      replace S27 : Sep G25 (Fr H) [flat v30 3 (ints (lapp l1_0 [(iadd .i64 (gat 0 x1 y1_12) (llen x0))])), flat1 v17 3 (ints [(iadd .i64 (gat 0 x1 y1_12) (llen x0))])] := S27
      refine DWp.region fun K hK => ?_
      simp [-aBin', -aBin, -aBinI, -aUn, -aNil, -flatV, n_fn, b_add, b_sub, b_mul, b_lt, b_le, b_gt, b_ge, b_eq, b_ne, u_not, e1_0, e1_5, e1_10, e1_11, e1_12, q16, q19, a22.to_pre, q26]
      apply hK
      clear hK K
      simp only [andThen, leaves]
      refine DWp.region fun K hK => ?_
      simp [-aBin', -aBin, -aBinI, -aUn, -aNil, -flatV, n_fn, b_add, b_sub, b_mul, b_lt, b_le, b_gt, b_ge, b_eq, b_ne, u_not, e1_0, e1_5, e1_10, e1_11, e1_12]
      apply hK
      clear hK K
      simp only [andThen, leaves]
      have S31 := S27.pick [0] (by decide) rfl
      exact ⟨n1, Nat.lt_succ_self _, (lapp l1_0 [(iadd .i64 (gat 0 x1 y1_12) (llen x0))]), (iadd .i64 y1_12 1), v30, hL10, S31, A28, by simp [e1_0, e1_5, e1_10, e1_11, e1_12], by simp [e1_0, e1_5, e1_10, e1_11, e1_12], by simp [e1_0, e1_5, e1_10, e1_11, e1_12], by simp [e1_0, e1_5, e1_10, e1_11, e1_12], by simp [e1_0, e1_5, e1_10, e1_11, e1_12]⟩
    · replace hL10 := cd_f hb12 hL10
      refine DWp.exit ?_
      simp only [andThen, leaves, if_true, if_false, reduceIte, Nat.reduceEqDiff]
      obtain rfl := Option.some.inj hL10
      try dsimp only at hF
      refine DWp.seq ?_
      refine DWp.region fun K hK => ?_
      simp [-aBin', -aBin, -aBinI, -aUn, -aNil, -flatV, n_fn, b_add, b_sub, b_mul, b_lt, b_le, b_gt, b_ge, b_eq, b_ne, u_not, e1_0, e1_5, e1_10, e1_11, e1_12]
      apply hK
      clear hK K
      simp only [andThen, leaves]
      refine DWp.ret ?_
      obtain rfl := Option.some.inj hF
      exact ⟨by simp, [w1_0], by simp [e1_0, e1_5, e1_10, e1_11, e1_12, ((S1_.sl (k := 0) rfl).tup)], A1_, w1_0, rfl, S1_.pick [0] (by decide) rfl⟩
def F_math_bits_Len64 (fu : Nat) (x0 : Int) : Option (Int) :=
  bd (
    bif (ile 4294967296 x0) then
      some ((ishr .u64 x0 32), 32)
    else
      some (x0, 0)) fun s1 =>
  bd (
    bif (ile 65536 s1.1) then
      some ((ishr .u64 s1.1 16), (iadd .i64 s1.2 16))
    else
      some (s1.1, s1.2)) fun s9 =>
  bif (ile 256 s9.1) then
    gd (inS (ByteArray.mk #[0, 1, 2, 2, 3, 3, 3, 3, 4, 4, 4, 4, 4, 4, 4, 4, 5, 5, 5, 5, 5, 5, 5, 5, 5, 5, 5, 5, 5, 5, 5, 5, 6, 6, 6, 6, 6, 6, 6, 6, 6, 6, 6, 6, 6, 6, 6, 6, 6, 6, 6, 6, 6, 6, 6, 6, 6, 6, 6, 6, 6, 6, 6, 6, 7, 7, 7, 7, 7, 7, 7, 7, 7, 7, 7, 7, 7, 7, 7, 7, 7, 7, 7, 7, 7, 7, 7, 7, 7, 7, 7, 7, 7, 7, 7, 7, 7, 7, 7, 7, 7, 7, 7, 7, 7, 7, 7, 7, 7, 7, 7, 7, 7, 7, 7, 7, 7, 7, 7, 7, 7, 7, 7, 7, 7, 7, 7, 7, 8, 8, 8, 8, 8, 8, 8, 8, 8, 8, 8, 8, 8, 8, 8, 8, 8, 8, 8, 8, 8, 8, 8, 8, 8, 8, 8, 8, 8, 8, 8, 8, 8, 8, 8, 8, 8, 8, 8, 8, 8, 8, 8, 8, 8, 8, 8, 8, 8, 8, 8, 8, 8, 8, 8, 8, 8, 8, 8, 8, 8, 8, 8, 8, 8, 8, 8, 8, 8, 8, 8, 8, 8, 8, 8, 8, 8, 8, 8, 8, 8, 8, 8, 8, 8, 8, 8, 8, 8, 8, 8, 8, 8, 8, 8, 8, 8, 8, 8, 8, 8, 8, 8, 8, 8, 8, 8, 8, 8, 8, 8, 8, 8, 8, 8, 8, 8, 8, 8, 8, 8, 8, 8, 8, 8, 8, 8, 8]) (iwr .u8 (ishr .u64 s9.1 8))) (
    some (iadd .i64 (iadd .i64 s9.2 8) (iwr .i64 (sat (ByteArray.mk #[0, 1, 2, 2, 3, 3, 3, 3, 4, 4, 4, 4, 4, 4, 4, 4, 5, 5, 5, 5, 5, 5, 5, 5, 5, 5, 5, 5, 5, 5, 5, 5, 6, 6, 6, 6, 6, 6, 6, 6, 6, 6, 6, 6, 6, 6, 6, 6, 6, 6, 6, 6, 6, 6, 6, 6, 6, 6, 6, 6, 6, 6, 6, 6, 7, 7, 7, 7, 7, 7, 7, 7, 7, 7, 7, 7, 7, 7, 7, 7, 7, 7, 7, 7, 7, 7, 7, 7, 7, 7, 7, 7, 7, 7, 7, 7, 7, 7, 7, 7, 7, 7, 7, 7, 7, 7, 7, 7, 7, 7, 7, 7, 7, 7, 7, 7, 7, 7, 7, 7, 7, 7, 7, 7, 7, 7, 7, 7, 8, 8, 8, 8, 8, 8, 8, 8, 8, 8, 8, 8, 8, 8, 8, 8, 8, 8, 8, 8, 8, 8, 8, 8, 8, 8, 8, 8, 8, 8, 8, 8, 8, 8, 8, 8, 8, 8, 8, 8, 8, 8, 8, 8, 8, 8, 8, 8, 8, 8, 8, 8, 8, 8, 8, 8, 8, 8, 8, 8, 8, 8, 8, 8, 8, 8, 8, 8, 8, 8, 8, 8, 8, 8, 8, 8, 8, 8, 8, 8, 8, 8, 8, 8, 8, 8, 8, 8, 8, 8, 8, 8, 8, 8, 8, 8, 8, 8, 8, 8, 8, 8, 8, 8, 8, 8, 8, 8, 8, 8, 8, 8, 8, 8, 8, 8, 8, 8, 8, 8, 8, 8, 8, 8, 8, 8, 8, 8]) (iwr .u8 (ishr .u64 s9.1 8))))))
  else
    gd (inS (ByteArray.mk #[0, 1, 2, 2, 3, 3, 3, 3, 4, 4, 4, 4, 4, 4, 4, 4, 5, 5, 5, 5, 5, 5, 5, 5, 5, 5, 5, 5, 5, 5, 5, 5, 6, 6, 6, 6, 6, 6, 6, 6, 6, 6, 6, 6, 6, 6, 6, 6, 6, 6, 6, 6, 6, 6, 6, 6, 6, 6, 6, 6, 6, 6, 6, 6, 7, 7, 7, 7, 7, 7, 7, 7, 7, 7, 7, 7, 7, 7, 7, 7, 7, 7, 7, 7, 7, 7, 7, 7, 7, 7, 7, 7, 7, 7, 7, 7, 7, 7, 7, 7, 7, 7, 7, 7, 7, 7, 7, 7, 7, 7, 7, 7, 7, 7, 7, 7, 7, 7, 7, 7, 7, 7, 7, 7, 7, 7, 7, 7, 8, 8, 8, 8, 8, 8, 8, 8, 8, 8, 8, 8, 8, 8, 8, 8, 8, 8, 8, 8, 8, 8, 8, 8, 8, 8, 8, 8, 8, 8, 8, 8, 8, 8, 8, 8, 8, 8, 8, 8, 8, 8, 8, 8, 8, 8, 8, 8, 8, 8, 8, 8, 8, 8, 8, 8, 8, 8, 8, 8, 8, 8, 8, 8, 8, 8, 8, 8, 8, 8, 8, 8, 8, 8, 8, 8, 8, 8, 8, 8, 8, 8, 8, 8, 8, 8, 8, 8, 8, 8, 8, 8, 8, 8, 8, 8, 8, 8, 8, 8, 8, 8, 8, 8, 8, 8, 8, 8, 8, 8, 8, 8, 8, 8, 8, 8, 8, 8, 8, 8, 8, 8, 8, 8, 8, 8, 8, 8]) (iwr .u8 s9.1)) (
    some (iadd .i64 s9.2 (iwr .i64 (sat (ByteArray.mk #[0, 1, 2, 2, 3, 3, 3, 3, 4, 4, 4, 4, 4, 4, 4, 4, 5, 5, 5, 5, 5, 5, 5, 5, 5, 5, 5, 5, 5, 5, 5, 5, 6, 6, 6, 6, 6, 6, 6, 6, 6, 6, 6, 6, 6, 6, 6, 6, 6, 6, 6, 6, 6, 6, 6, 6, 6, 6, 6, 6, 6, 6, 6, 6, 7, 7, 7, 7, 7, 7, 7, 7, 7, 7, 7, 7, 7, 7, 7, 7, 7, 7, 7, 7, 7, 7, 7, 7, 7, 7, 7, 7, 7, 7, 7, 7, 7, 7, 7, 7, 7, 7, 7, 7, 7, 7, 7, 7, 7, 7, 7, 7, 7, 7, 7, 7, 7, 7, 7, 7, 7, 7, 7, 7, 7, 7, 7, 7, 8, 8, 8, 8, 8, 8, 8, 8, 8, 8, 8, 8, 8, 8, 8, 8, 8, 8, 8, 8, 8, 8, 8, 8, 8, 8, 8, 8, 8, 8, 8, 8, 8, 8, 8, 8, 8, 8, 8, 8, 8, 8, 8, 8, 8, 8, 8, 8, 8, 8, 8, 8, 8, 8, 8, 8, 8, 8, 8, 8, 8, 8, 8, 8, 8, 8, 8, 8, 8, 8, 8, 8, 8, 8, 8, 8, 8, 8, 8, 8, 8, 8, 8, 8, 8, 8, 8, 8, 8, 8, 8, 8, 8, 8, 8, 8, 8, 8, 8, 8, 8, 8, 8, 8, 8, 8, 8, 8, 8, 8, 8, 8, 8, 8, 8, 8, 8, 8, 8, 8, 8, 8, 8, 8, 8, 8, 8, 8]) (iwr .u8 s9.1)))))
theorem F_math_bits_Len64_w {fu : Nat} {H : AH}  {x0 : Int} {r : (Int)}  (hF : F_math_bits_Len64 fu x0 = some r) :
    ACallT Try.prog 131 [(Value.int .u64 x0)] H (fun u G => AgB (Fr H) H G ∧ u = (Value.int .i64 r) ∧ Sep G (Fr H) []) := by
  refine ACallT.of_body (nt := 25) (rs := [.tmp 2]) Try.func131 rfl rfl rfl rfl ?_
  have A0 : AgB (Fr H) H H := .refl _ _
  have S0 : Sep H (Fr H) [] := .nil
  have hB := Fr.up H
  unfold F_math_bits_Len64 at hF
  refine DWp.seq ?_
  refine DWp.region fun K hK => ?_
  simp [-aBin', -aBin, -aBinI, -aUn, -aNil, -flatV, n_fn, b_add, b_sub, b_mul, b_lt, b_le, b_gt, b_ge, b_eq, b_ne, u_not]
  apply hK
  clear hK K
  simp only [andThen, leaves]
  obtain ⟨s1, hL2, hF⟩ := bd_some hF
  refine DWp.seq (DWp.join (fun env G => Sep G (Fr H) [] ∧ AgB (Fr H) H G ∧ env 0 = some (Value.int .u64 s1.1) ∧ env 2 = some (Value.int .i64 s1.2)) ?_ ?_)
  ·
    refine DWp.seq ?_
    refine DWp.region fun K hK => ?_
    simp [-aBin', -aBin, -aBinI, -aUn, -aNil, -flatV, n_fn, b_add, b_sub, b_mul, b_lt, b_le, b_gt, b_ge, b_eq, b_ne, u_not]
    apply hK
    clear hK K
    simp only [andThen, leaves]
    refine DWp.cond' (t := (ile 4294967296 x0)) (by simp []) (fun hb4 => ?_) (fun hb4 => ?_)
    · replace hL2 := cd_t hb4 hL2
      refine DWp.seq ?_
      have g5 : ¬ ((32 : Int) < 0) := by decide
      refine DWp.region fun K hK => ?_
      simp [-aBin', -aBin, -aBinI, -aUn, -aNil, -flatV, n_fn, b_add, b_sub, b_mul, b_lt, b_le, b_gt, b_ge, b_eq, b_ne, u_not, b_shr g5]
      apply hK
      clear hK K
      simp only [andThen, leaves]
      refine DWp.region fun K hK => ?_
      simp [-aBin', -aBin, -aBinI, -aUn, -aNil, -flatV, n_fn, b_add, b_sub, b_mul, b_lt, b_le, b_gt, b_ge, b_eq, b_ne, u_not]
      apply hK
      clear hK K
      simp only [andThen, leaves]
      have S6 := S0.pick [] (by decide) rfl
      obtain rfl := Option.some.inj hL2
      exact ⟨S6, A0, by simp [], by simp []⟩
    · replace hL2 := cd_f hb4 hL2
      refine DWp.skip ?_
      simp only [andThen, leaves]
      have S7 := S0.pick [] (by decide) rfl
      obtain rfl := Option.some.inj hL2
      exact ⟨S7, A0, by simp [], by simp []⟩
  · rintro env Gj8 ⟨Sj8, Aj8, ej8_0, ej8_2⟩
    obtain ⟨s9, hL10, hF⟩ := bd_some hF
    refine DWp.seq (DWp.join (fun env G => Sep G (Fr H) [] ∧ AgB (Fr H) H G ∧ env 0 = some (Value.int .u64 s9.1) ∧ env 2 = some (Value.int .i64 s9.2)) ?_ ?_)
    ·
      refine DWp.seq ?_
      refine DWp.region fun K hK => ?_
      simp [-aBin', -aBin, -aBinI, -aUn, -aNil, -flatV, n_fn, b_add, b_sub, b_mul, b_lt, b_le, b_gt, b_ge, b_eq, b_ne, u_not, ej8_0, ej8_2]
      apply hK
      clear hK K
      simp only [andThen, leaves]
      refine DWp.cond' (t := (ile 65536 s1.1)) (by simp [ej8_0, ej8_2]) (fun hb12 => ?_) (fun hb12 => ?_)
      · replace hL10 := cd_t hb12 hL10
        refine DWp.seq ?_
        have g13 : ¬ ((16 : Int) < 0) := by decide
        refine DWp.region fun K hK => ?_
        simp [-aBin', -aBin, -aBinI, -aUn, -aNil, -flatV, n_fn, b_add, b_sub, b_mul, b_lt, b_le, b_gt, b_ge, b_eq, b_ne, u_not, ej8_0, ej8_2, b_shr g13]
        apply hK
        clear hK K
        simp only [andThen, leaves]
        refine DWp.region fun K hK => ?_
        simp [-aBin', -aBin, -aBinI, -aUn, -aNil, -flatV, n_fn, b_add, b_sub, b_mul, b_lt, b_le, b_gt, b_ge, b_eq, b_ne, u_not, ej8_0, ej8_2]
        apply hK
        clear hK K
        simp only [andThen, leaves]
        have S14 := Sj8.pick [] (by decide) rfl
        obtain rfl := Option.some.inj hL10
        exact ⟨S14, Aj8, by simp [ej8_0, ej8_2], by simp [ej8_0, ej8_2]⟩
      · replace hL10 := cd_f hb12 hL10
        refine DWp.skip ?_
        simp only [andThen, leaves]
        have S15 := Sj8.pick [] (by decide) rfl
        obtain rfl := Option.some.inj hL10
        exact ⟨S15, Aj8, by simp [ej8_0, ej8_2], by simp [ej8_0, ej8_2]⟩
    · rintro env Gj16 ⟨Sj16, Aj16, ej16_0, ej16_2⟩
      refine DWp.seq ?_
      refine DWp.seq ?_
      refine DWp.region fun K hK => ?_
      simp [-aBin', -aBin, -aBinI, -aUn, -aNil, -flatV, n_fn, b_add, b_sub, b_mul, b_lt, b_le, b_gt, b_ge, b_eq, b_ne, u_not, ej16_0, ej16_2]
      apply hK
      clear hK K
      simp only [andThen, leaves]
      refine DWp.cond' (t := (ile 256 s9.1)) (by simp [ej16_0, ej16_2]) (fun hb17 => ?_) (fun hb17 => ?_)
      · replace hF := cd_t hb17 hF
        refine DWp.seq ?_
        have g18 : ¬ ((8 : Int) < 0) := by decide
        refine DWp.region fun K hK => ?_
        simp [-aBin', -aBin, -aBinI, -aUn, -aNil, -flatV, n_fn, b_add, b_sub, b_mul, b_lt, b_le, b_gt, b_ge, b_eq, b_ne, u_not, ej16_0, ej16_2, b_shr g18]
        apply hK
        clear hK K
        simp only [andThen, leaves]
        refine DWp.region fun K hK => ?_
        simp [-aBin', -aBin, -aBinI, -aUn, -aNil, -flatV, n_fn, b_add, b_sub, b_mul, b_lt, b_le, b_gt, b_ge, b_eq, b_ne, u_not, ej16_0, ej16_2]
        apply hK
        clear hK K
        simp only [andThen, leaves]
        refine DWp.seq ?_
        obtain ⟨g19, hF⟩ := gd_some hF
        have q20 := strIdx (P := Try.prog) (kk := .u8) un_9 g19
        refine DWp.region fun K hK => ?_
        simp [-aBin', -aBin, -aBinI, -aUn, -aNil, -flatV, n_fn, b_add, b_sub, b_mul, b_lt, b_le, b_gt, b_ge, b_eq, b_ne, u_not, ej16_0, ej16_2, c_int un_108 un_5, q20, c_int un_5 un_3]
        apply hK
        clear hK K
        simp only [andThen, leaves]
        refine DWp.ret ?_
        obtain rfl := Option.some.inj hF
        exact ⟨by simp, [(Value.int .i64 (iadd .i64 (iadd .i64 s9.2 8) (iwr .i64 (sat (ByteArray.mk #[0, 1, 2, 2, 3, 3, 3, 3, 4, 4, 4, 4, 4, 4, 4, 4, 5, 5, 5, 5, 5, 5, 5, 5, 5, 5, 5, 5, 5, 5, 5, 5, 6, 6, 6, 6, 6, 6, 6, 6, 6, 6, 6, 6, 6, 6, 6, 6, 6, 6, 6, 6, 6, 6, 6, 6, 6, 6, 6, 6, 6, 6, 6, 6, 7, 7, 7, 7, 7, 7, 7, 7, 7, 7, 7, 7, 7, 7, 7, 7, 7, 7, 7, 7, 7, 7, 7, 7, 7, 7, 7, 7, 7, 7, 7, 7, 7, 7, 7, 7, 7, 7, 7, 7, 7, 7, 7, 7, 7, 7, 7, 7, 7, 7, 7, 7, 7, 7, 7, 7, 7, 7, 7, 7, 7, 7, 7, 7, 8, 8, 8, 8, 8, 8, 8, 8, 8, 8, 8, 8, 8, 8, 8, 8, 8, 8, 8, 8, 8, 8, 8, 8, 8, 8, 8, 8, 8, 8, 8, 8, 8, 8, 8, 8, 8, 8, 8, 8, 8, 8, 8, 8, 8, 8, 8, 8, 8, 8, 8, 8, 8, 8, 8, 8, 8, 8, 8, 8, 8, 8, 8, 8, 8, 8, 8, 8, 8, 8, 8, 8, 8, 8, 8, 8, 8, 8, 8, 8, 8, 8, 8, 8, 8, 8, 8, 8, 8, 8, 8, 8, 8, 8, 8, 8, 8, 8, 8, 8, 8, 8, 8, 8, 8, 8, 8, 8, 8, 8, 8, 8, 8, 8, 8, 8, 8, 8, 8, 8, 8, 8, 8, 8, 8, 8, 8, 8]) (iwr .u8 (ishr .u64 s9.1 8))))))], by simp [ej16_0, ej16_2], Aj16, rfl, Sj16.pick [] (by decide) rfl⟩
      · replace hF := cd_f hb17 hF
        refine DWp.skip ?_
        simp only [andThen, leaves]
        refine DWp.seq ?_
        obtain ⟨g21, hF⟩ := gd_some hF
        have q22 := strIdx (P := Try.prog) (kk := .u8) un_9 g21
        refine DWp.region fun K hK => ?_
        simp [-aBin', -aBin, -aBinI, -aUn, -aNil, -flatV, n_fn, b_add, b_sub, b_mul, b_lt, b_le, b_gt, b_ge, b_eq, b_ne, u_not, ej16_0, ej16_2, c_int un_108 un_5, q22, c_int un_5 un_3]
        apply hK
        clear hK K
        simp only [andThen, leaves]
        refine DWp.ret ?_
        obtain rfl := Option.some.inj hF
        exact ⟨by simp, [(Value.int .i64 (iadd .i64 s9.2 (iwr .i64 (sat (ByteArray.mk #[0, 1, 2, 2, 3, 3, 3, 3, 4, 4, 4, 4, 4, 4, 4, 4, 5, 5, 5, 5, 5, 5, 5, 5, 5, 5, 5, 5, 5, 5, 5, 5, 6, 6, 6, 6, 6, 6, 6, 6, 6, 6, 6, 6, 6, 6, 6, 6, 6, 6, 6, 6, 6, 6, 6, 6, 6, 6, 6, 6, 6, 6, 6, 6, 7, 7, 7, 7, 7, 7, 7, 7, 7, 7, 7, 7, 7, 7, 7, 7, 7, 7, 7, 7, 7, 7, 7, 7, 7, 7, 7, 7, 7, 7, 7, 7, 7, 7, 7, 7, 7, 7, 7, 7, 7, 7, 7, 7, 7, 7, 7, 7, 7, 7, 7, 7, 7, 7, 7, 7, 7, 7, 7, 7, 7, 7, 7, 7, 8, 8, 8, 8, 8, 8, 8, 8, 8, 8, 8, 8, 8, 8, 8, 8, 8, 8, 8, 8, 8, 8, 8, 8, 8, 8, 8, 8, 8, 8, 8, 8, 8, 8, 8, 8, 8, 8, 8, 8, 8, 8, 8, 8, 8, 8, 8, 8, 8, 8, 8, 8, 8, 8, 8, 8, 8, 8, 8, 8, 8, 8, 8, 8, 8, 8, 8, 8, 8, 8, 8, 8, 8, 8, 8, 8, 8, 8, 8, 8, 8, 8, 8, 8, 8, 8, 8, 8, 8, 8, 8, 8, 8, 8, 8, 8, 8, 8, 8, 8, 8, 8, 8, 8, 8, 8, 8, 8, 8, 8, 8, 8, 8, 8, 8, 8, 8, 8, 8, 8, 8, 8, 8, 8, 8, 8, 8, 8]) (iwr .u8 s9.1)))))], by simp [ej16_0, ej16_2], Aj16, rfl, Sj16.pick [] (by decide) rfl⟩
end Go.Proofs.Ytdghlhdpcmemjaa.AL

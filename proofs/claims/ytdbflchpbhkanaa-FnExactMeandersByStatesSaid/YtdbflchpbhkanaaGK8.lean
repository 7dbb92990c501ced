/- spec.stBy: ways by closed curves. No condition. -/
import Derived.Test.YtdbflchpbhkanaaGK7
namespace Go.Proofs.Ytdbflchpbhkanaa.AL
open Go Go.RowKit
set_option linter.unusedVariables false
set_option linter.unusedSimpArgs false
set_option maxRecDepth 4096
attribute [local simp] n_fn b_add b_sub b_mul b_lt b_le b_gt b_ge b_eq b_ne u_not
def by_L (L : List SW) : Nat → List Int → Int → Option (List Int)
  | 0, _, _ => none
  | n + 1, o, j =>
    bif ilt j (llen L) then
      gd (inL L j) (gd (inL o (gat sw0 L j).1.2.2) (by_L L n (lset o (gat sw0 L j).1.2.2 (iadd .i64 (gat 0 o (gat sw0 L j).1.2.2) (gat sw0 L j).2)) (iadd .i64 j 1)))
    else
      some o
def F_spec_stBy (fu : Nat) (x0 : Int) : Option (List Int) :=
  gd (0 ≤ (iadd .i64 x0 1) ∧ (iadd .i64 x0 1) ≤ 4294967296) (
  bd (F_spec_stAfter fu [] [] 0 (imul .i64 2 x0) (imul .i64 2 x0)) fun L =>
  by_L L fu (lrep (iadd .i64 x0 1) (0 : Int)) 0)
theorem kbuS0 : aBuild Try.prog 34 [] = some (.agg #[.slice none 0 0, .slice none 0 0, .int .i64 0]) := build0 (cs := [.slice none 0 0, .slice none 0 0, .int .i64 0]) kplS rfl rfl
set_option maxHeartbeats 4000000 in
theorem F_spec_stBy_w {fu : Nat} {H : AH} {x0 : Int} {r : List Int} (hF : F_spec_stBy fu x0 = some r) :
    ACallT Try.prog 24 [(Value.int .i64 x0)] H (fun u G => AgB (Fr H) H G ∧ ∃ u0 : Value, u = u0 ∧ Sep G (Fr H) [flat u0 3 (ints r)]) := by
  refine ACallT.of_body (nt := 32) (rs := [.tmp 2]) Try.func24 rfl rfl rfl rfl ?_
  have A0 : AgB (Fr H) H H := .refl _ _
  have S0 : Sep H (Fr H) [] := .nil
  have hB := Fr.up H
  unfold F_spec_stBy at hF
  obtain ⟨g0, hF⟩ := gd_some hF
  obtain ⟨L, hL0, hF⟩ := bd_some hF
  refine .sr fun K hK => ?_
  simp []
  apply hK
  clear hK K
  obtain ⟨w, G1, q1, S1, a1, _⟩ := S0.make (f := (Value.int .i64)) (P := Try.prog) (t := 25) (hB.le A0.1) kelL keiI rfl 0 rfl g0
  have A1 := A0.ext (hB.le A0.1) a1
  replace S1 : Sep G1 (Fr H) [flat w 3 (ints (lrep (iadd .i64 x0 1) (0 : Int)))] := S1
  refine .sr fun K hK => ?_
  simp [q1, a1.to_pre]
  apply hK
  clear hK K
  refine .seq ?_
  have b0 := kbuS0
  refine .sr fun K hK => ?_
  simp [b0]
  refine CallD.t (F_spec_stAfter_w (fu := fu) Sl.nil Sl.nil hL0) ?_
  rintro u G2 ⟨a2, R, D, hR, T2⟩
  have A2 := A1.ext (hB.le A1.1) a2.agree
  have S2 : Sep G2 (Fr H) [flat w 3 (ints (lrep (iadd .i64 x0 1) (0 : Int))), recs 4 u 40 R, pool D] := S1.app a2.agree T2 (fun _ h => h) (hB.le A1.1)
  have hl : R.length = L.length := All2.length hR
  have hll : llen R = llen L := by unfold llen; rw [hl]
  have n1 := S2.recLen (P := Try.prog) (k := 1) rfl kelT
  rw [hll] at n1
  simp [n1, a2.pre]
  apply hK
  clear hK K
  refine .block ?_
  refine DWp.loop (fun n env G => ∃ (o : List Int) (j : Int), by_L L n o j = some r ∧ Sep G (Fr H) [flat w 3 (ints o), recs 4 u 40 R, pool D] ∧ AgB (Fr H) H G ∧
    env 3 = some w ∧ env 14 = some u ∧ env 15 = some (Value.int .i64 (llen L)) ∧ env 16 = some (Value.int .i64 j)) fu ⟨_, 0, hF, S2, A2, by simp⟩ ?_
  clear S2 S1 A2 A1 a2 a1 q1 n1 hF T2
  rintro n env G ⟨o, j, hj, S, A, ev⟩
  cases n with
  | zero => cases hj
  | succ n =>
    simp only [by_L] at hj
    refine .sr fun K hK => ?_
    simp [ev]
    apply hK
    clear hK K
    refine .seq ?_
    refine DWp.cond' (t := (ilt j (llen L))) (by simp [ev]) (fun hb2 => ?_) (fun hb2 => ?_)
    · replace hj := cd_t hb2 hj
      obtain ⟨g1, hj⟩ := gd_some hj
      obtain ⟨g2, hj⟩ := gd_some hj
      refine DWp.skip ?_
      simp only [andThen, leaves]
      obtain ⟨gR, u0, u1, hg, m0, m1⟩ := hR.at g1
      generalize gat sw0 L j = c at *
      obtain ⟨⟨eu, ed, ec⟩, ew⟩ := c
      simp only at hg m0 m1
      have i1 := S.recIdx (P := Try.prog) (t := 41) (k := 1) (kk := .i64) rfl kelT kszT gR
      have l1 := S.recAgg (P := Try.prog) (k := 1) rfl kszT kagT gR
      rw [hg] at l1
      refine .seq ?_
      refine .block ?_
      obtain ⟨G2, p11, q1, q2, a2, S2⟩ := S.allocT (P := Try.prog) (hB.le A.1) kzeT rfl
      have A2 := A.ext (hB.le A.1) a2
      replace S2 : Sep G2 (Fr H) [flat w 3 (ints o), recs 4 u 40 R, pool D, AL.box p11 [.slice none 0 0, .slice none 0 0, .int .i64 0, .int .i64 0]] := S2
      obtain ⟨G3, q3, S3, a3⟩ := S2.putAgg (P := Try.prog) (k := 3) (xs := [u0, u1, .int .i64 ec, .int .i64 ew]) rfl (hB.le A2.1) kszT rfl rfl
      have A3 := A2.trans a3
      replace S3 : Sep G3 (Fr H) [flat w 3 (ints o), recs 4 u 40 R, pool D, AL.box p11 [u0, u1, .int .i64 ec, .int .i64 ew]] := S3
      refine .sr fun K hK => ?_
      simp [ev, i1, l1, q1, q2, a2.to_pre, q3]
      apply hK
      clear hK K
      have f0 := S3.fieldT (P := Try.prog) (k := 3) rfl kfT0
      have s0 := S3.fieldSub (P := Try.prog) (k := 3) (o := 0) rfl kfS0
      have s1 := S3.fieldSub (P := Try.prog) (k := 3) (o := 0) rfl kfS1
      have s2 := S3.fieldSub (P := Try.prog) (k := 3) (o := 0) rfl kfS2
      simp only [Nat.zero_add] at s0 s1 s2
      have f1 := S3.fieldT (P := Try.prog) (k := 3) rfl kfT1
      have w2 := S3.loadF (P := Try.prog) (k := 3) rfl kszI kagI (off := 2) rfl
      have w3 := S3.loadF (P := Try.prog) (k := 3) rfl kszI kagI (off := 3) rfl
      have q5 := idxG (P := Try.prog) (kk := .i64) (S3.sl (k := 0) rfl) kelL kszI g2
      have q6 := loadG (P := Try.prog) (S3.sl (k := 0) rfl) kszI kagI g2 0
      obtain ⟨G5, q7, S5, a5⟩ := S3.storeG (P := Try.prog) (k := 0) (f := Value.int .i64) (xs := o) (x := iadd .i64 (gat 0 o ec) ew) rfl (hB.le A3.1) kszI g2 rfl rfl
      have A5 := A3.trans a5
      replace S5 : Sep G5 (Fr H) [flat w 3 (ints (lset o ec (iadd .i64 (gat 0 o ec) ew))), recs 4 u 40 R, pool D, AL.box p11 [u0, u1, .int .i64 ec, .int .i64 ew]] := S5
      refine DWp.drawn (B := [0, 0, 2, 6, 15, 31, 0, 64, 255, 511, 1023]) 10 mixed (by kernel_rfl) (by decide) fun K hK => ?_
      simp [ev, f0, s2, w2, q5, q6, f1, w3, q7]
      apply hK
      clear hK K
      simp only [andThen, leaves]
      refine .region fun K hK => ?_
      simp [ev]
      apply hK
      clear hK K
      simp only [andThen, leaves]
      exact ⟨n, Nat.lt_succ_self _, _, _, hj, S5.pick [0, 1, 2] (by decide) rfl, A5, by simp [ev]⟩
    · replace hj := cd_f hb2 hj
      refine DWp.exit ?_
      simp only [andThen, leaves, if_true, if_false, reduceIte, Nat.reduceEqDiff]
      obtain rfl := Option.some.inj hj
      refine .sr fun K hK => ?_
      simp [ev]
      apply hK
      clear hK K
      refine DWp.ret ?_
      exact ⟨by simp, [w], by simp [ev, (S.sl (k := 0) rfl).tup], A, w, rfl, S.pick [0] (by decide) rfl⟩
end Go.Proofs.Ytdbflchpbhkanaa.AL

/- spec.WaysToClose. No condition. -/
import Derived.Test.YtdbflchpbhkanaaGK8
namespace Go.Proofs.Ytdbflchpbhkanaa.AL
open Go Go.RowKit
set_option linter.unusedVariables false
set_option linter.unusedSimpArgs false
set_option maxRecDepth 4096
attribute [local simp] n_fn b_add b_sub b_mul b_lt b_le b_gt b_ge b_eq b_ne u_not
def shutP (x2 : Int) (e : SW) : Bool := ieq (iadd .i64 (llen e.1.1) (llen e.1.2.1)) 0 && ieq e.1.2.2 x2
def F_spec_WaysToClose (fu : Nat) (x0_0 x0_1 : List Int) (x0_2 x1 x2 : Int) : Option (Int × Bool) :=
  bd (bd (F_spec_stGood fu x0_0 x0_1 x0_2) fun g => bif bnot g then some true else bd (F_spec_l1In fu x1 0 8) fun a => bif bnot a then some true else bd (F_spec_l1In fu x2 0 6) fun b => some (bnot b)) fun s =>
  bif s then
    some (0, false)
  else
    bd (F_spec_stAfter fu x0_0 x0_1 x0_2 x1 x1) fun L =>
    bd (sum_L (shutP x2) L fu 0 0) fun s =>
    some (s, true)
set_option maxHeartbeats 4000000 in
theorem F_spec_WaysToClose_w {fu : Nat} {H : AH} {v0_0 v0_1 : Value} {x0_0 x0_1 : List Int} {x0_2 x1 x2 : Int} {r : (Int × Bool)} (hx0_0 : Sl H v0_0 (ints x0_0)) (hx0_1 : Sl H v0_1 (ints x0_1)) (hF : F_spec_WaysToClose fu x0_0 x0_1 x0_2 x1 x2 = some r) :
    ACallT Try.prog 14 [(Value.agg #[v0_0, v0_1, (Value.int .i64 x0_2)]), (Value.int .i64 x1), (Value.int .i64 x2)] H (fun u G => AgB (Fr H) H G ∧ u = (Value.tuple #[(Value.int .i64 r.1), (Value.bool r.2)]) ∧ Sep G (Fr H) []) := by
  refine ACallT.of_body (nt := 56) (rs := [.tmp 6, .tmp 7]) Try.func14 rfl rfl rfl rfl ?_
  have A0 : AgB (Fr H) H H := .refl _ _
  have S0 : Sep H (Fr H) [] := .nil
  have hB := Fr.up H
  unfold F_spec_WaysToClose at hF
  obtain ⟨s, hs, hF⟩ := bd_some hF
  obtain ⟨G1, p3, q1, q2, a1, S1⟩ := S0.boxT (hB.le A0.1) 34 [v0_0, v0_1, (Value.int .i64 x0_2)]
  have A1 := A0.ext (hB.le A0.1) a1
  replace S1 : Sep G1 (Fr H) [AL.box p3 [v0_0, v0_1, (Value.int .i64 x0_2)]] := S1
  refine .sr fun K hK => ?_
  simp [q1, q2, a1.to_pre, cells_agg]
  apply hK
  clear hK K
  have l1 := S1.loadAgg (P := Try.prog) (k := 0) rfl kszS kagS rfl
  refine .seq ?_
  refine DWp.seq (DWp.mono (Q := fun x env' G' => x = .normal ∧ Sep G' (Fr H) [AL.box p3 [v0_0, v0_1, (Value.int .i64 x0_2)]] ∧ AgB (Fr H) H G' ∧
    env' 1 = some (Value.int .i64 x1) ∧ env' 2 = some (Value.int .i64 x2) ∧ env' 3 = some p3 ∧ env' 23 = some (Value.bool s)) ?_ ?_)
  · obtain ⟨g, hg, hs⟩ := bd_some hs
    rcases Bool.eq_false_or_eq_true (bnot g) with h1 | h1
    · replace hs := cd_t h1 hs
      obtain rfl := Option.some.inj hs
      refine .region fun K hK => ?_
      simp [l1]
      refine CallD.t (F_spec_stGood_w (fu := fu) (hx0_0.agree A1.agree) (hx0_1.agree A1.agree) hg) ?_
      rintro _ G2 ⟨a2, rfl, _⟩
      simp [h1, undef, a2.pre]
      apply hK
      exact ⟨rfl, S1.agree a2.agree, A1.ext (hB.le A1.1) a2.agree, by simp⟩
    · replace hs := cd_f h1 hs
      obtain ⟨a, ha, hs⟩ := bd_some hs
      rcases Bool.eq_false_or_eq_true (bnot a) with h2 | h2
      · replace hs := cd_t h2 hs
        obtain rfl := Option.some.inj hs
        refine .region fun K hK => ?_
        simp [l1]
        refine CallD.t (F_spec_stGood_w (fu := fu) (hx0_0.agree A1.agree) (hx0_1.agree A1.agree) hg) ?_
        rintro _ G2 ⟨a2, rfl, _⟩
        have A2 := A1.ext (hB.le A1.1) a2.agree
        have S2 := S1.agree a2.agree
        simp [h1, undef, a2.pre]
        refine CallD.t (F_spec_l1In_w (fu := fu) ha) ?_
        rintro _ G3 ⟨a3, rfl, _⟩
        simp [h1, h2, undef, a3.pre]
        apply hK
        exact ⟨rfl, S2.agree a3.agree, A2.ext (hB.le A2.1) a3.agree, by simp⟩
      · replace hs := cd_f h2 hs
        obtain ⟨b, hb, hs⟩ := bd_some hs
        obtain rfl := Option.some.inj hs
        refine .region fun K hK => ?_
        simp [l1]
        refine CallD.t (F_spec_stGood_w (fu := fu) (hx0_0.agree A1.agree) (hx0_1.agree A1.agree) hg) ?_
        rintro _ G2 ⟨a2, rfl, _⟩
        have A2 := A1.ext (hB.le A1.1) a2.agree
        have S2 := S1.agree a2.agree
        simp [h1, undef, a2.pre]
        refine CallD.t (F_spec_l1In_w (fu := fu) ha) ?_
        rintro _ G3 ⟨a3, rfl, _⟩
        have A3 := A2.ext (hB.le A2.1) a3.agree
        have S3 := S2.agree a3.agree
        simp [h1, h2, undef, a3.pre]
        refine CallD.t (F_spec_l1In_w (fu := fu) hb) ?_
        rintro _ G4 ⟨a4, rfl, _⟩
        simp [h1, h2, undef, a4.pre]
        apply hK
        exact ⟨rfl, S3.agree a4.agree, A3.ext (hB.le A3.1) a4.agree, by simp⟩
  clear A1 S1 a1 q1 q2 l1 hs
  rintro x env G1 ⟨rfl, S1, A1, ev⟩
  simp only [andThen]
  refine DWp.cond' (t := s) (by simp [ev]) (fun hb => ?_) (fun hb => ?_)
  · replace hF := cd_t hb hF
    obtain rfl := Option.some.inj hF
    refine .sr fun K hK => ?_
    simp []
    apply hK
    clear hK K
    refine DWp.ret ?_
    simp only [andThen]
    exact ⟨by simp, [.int .i64 0, .bool false], by simp, A1, rfl, .nil⟩
  replace hF := cd_f hb hF
  refine DWp.skip ?_
  simp only [andThen, leaves]
  obtain ⟨L, hL0, hF⟩ := bd_some hF
  obtain ⟨r0, hr0, hF⟩ := bd_some hF
  obtain rfl := Option.some.inj hF
  refine .sr fun K hK => ?_
  simp []
  apply hK
  clear hK K
  refine .seq ?_
  have l1 := S1.loadAgg (P := Try.prog) (k := 0) rfl kszS kagS rfl
  refine .sr fun K hK => ?_
  simp [ev, l1]
  refine CallD.t (F_spec_stAfter_w (fu := fu) (hx0_0.agree A1.agree) (hx0_1.agree A1.agree) hL0) ?_
  rintro u G2 ⟨a2, R, D, hR, T2⟩
  have A2 := A1.ext (hB.le A1.1) a2.agree
  have S2 : Sep G2 (Fr H) [AL.box p3 [v0_0, v0_1, (Value.int .i64 x0_2)], recs 4 u 40 R, pool D] := S1.app a2.agree T2 (fun _ h => h) (hB.le A1.1)
  have hl : R.length = L.length := All2.length hR
  have hll : llen R = llen L := by unfold llen; rw [hl]
  have n1 := S2.recLen (P := Try.prog) (k := 1) rfl kelT
  rw [hll] at n1
  simp [n1, a2.pre]
  apply hK
  clear hK K
  refine .block ?_
  refine DWp.loop (fun n env G => ∃ (a j : Int), sum_L (shutP x2) L n a j = some r0 ∧ Sep G (Fr H) [recs 4 u 40 R, pool D] ∧ AgB (Fr H) H G ∧ env 2 = some (Value.int .i64 x2) ∧
    env 8 = some (Value.int .i64 a) ∧ env 27 = some u ∧ env 28 = some (Value.int .i64 (llen L)) ∧ env 29 = some (Value.int .i64 j)) fu ⟨0, 0, hr0, S2.pick [1, 2] (by decide) rfl, A2, by simp [ev]⟩ ?_
  have hd : ∀ {G : AH}, AgB (Fr H) H G → Sep G (Fr H) [recs 4 u 40 R, pool D] → ∀ e ∈ [(v0_0, x0_0), (v0_1, x0_1)] ++ D, Sl G e.1 (ints e.2) := fun A S e he => by
    refine poolR_sl (D0 := [(v0_0, x0_0), (v0_1, x0_1)]) S (k := 1) rfl (fun e he => ?_) he
    simp at he
    rcases he with rfl | rfl
    · exact hx0_0.agree A.agree
    · exact hx0_1.agree A.agree
  clear S2 S1 A2 A1 a2 n1 hr0 T2 ev
  rintro n env G ⟨a, j, hj, S, A, ev⟩
  cases n with
  | zero => cases hj
  | succ n =>
    simp only [sum_L] at hj
    refine .sr fun K hK => ?_
    simp [ev]
    apply hK
    clear hK K
    refine .seq ?_
    refine DWp.cond' (t := (ilt j (llen L))) (by simp [ev]) (fun hb2 => ?_) (fun hb2 => ?_)
    · replace hj := cd_t hb2 hj
      obtain ⟨g1, hj⟩ := gd_some hj
      refine DWp.skip ?_
      simp only [andThen, leaves]
      obtain ⟨gR, u0, u1, hg, m0, m1⟩ := hR.at g1
      generalize gat sw0 L j = c at *
      obtain ⟨⟨eu, ed, ec⟩, ew⟩ := c
      simp only at hg m0 m1
      have i1 := S.recIdx (P := Try.prog) (t := 41) (k := 0) (kk := .i64) rfl kelT kszT gR
      have l1 := S.recAgg (P := Try.prog) (k := 0) rfl kszT kagT gR
      rw [hg] at l1
      refine .seq ?_
      refine .block ?_
      obtain ⟨G2, p11, q1, q2, a2, S2⟩ := S.allocT (P := Try.prog) (hB.le A.1) kzeT rfl
      have A2 := A.ext (hB.le A.1) a2
      replace S2 : Sep G2 (Fr H) [recs 4 u 40 R, pool D, AL.box p11 [.slice none 0 0, .slice none 0 0, .int .i64 0, .int .i64 0]] := S2
      obtain ⟨G3, q3, S3, a3⟩ := S2.putAgg (P := Try.prog) (k := 2) (xs := [u0, u1, .int .i64 ec, .int .i64 ew]) rfl (hB.le A2.1) kszT rfl rfl
      have A3 := A2.trans a3
      replace S3 : Sep G3 (Fr H) [recs 4 u 40 R, pool D, AL.box p11 [u0, u1, .int .i64 ec, .int .i64 ew]] := S3
      refine .sr fun K hK => ?_
      simp [ev, i1, l1, q1, q2, a2.to_pre, q3]
      apply hK
      clear hK K
      have f0 := S3.fieldT (P := Try.prog) (k := 2) rfl kfT0
      have s0 := S3.fieldSub (P := Try.prog) (k := 2) (o := 0) rfl kfS0
      have s1 := S3.fieldSub (P := Try.prog) (k := 2) (o := 0) rfl kfS1
      have s2 := S3.fieldSub (P := Try.prog) (k := 2) (o := 0) rfl kfS2
      simp only [Nat.zero_add] at s0 s1 s2
      have f1 := S3.fieldT (P := Try.prog) (k := 2) rfl kfT1
      have w2 := S3.loadF (P := Try.prog) (k := 2) rfl kszI kagI (off := 2) rfl
      have w3 := S3.loadF (P := Try.prog) (k := 2) rfl kszI kagI (off := 3) rfl
      have i0 := S3.loadF (P := Try.prog) (k := 2) rfl kszL kagL (off := 0) rfl
      have i1' := S3.loadF (P := Try.prog) (k := 2) rfl kszL kagL (off := 1) rfl
      have y0 := lenG (P := Try.prog) (hd A3 (S3.pick [0, 1] (by decide) rfl) _ m0) kelL
      have y1 := lenG (P := Try.prog) (hd A3 (S3.pick [0, 1] (by decide) rfl) _ m1) kelL
      refine DWp.seq (DWp.mono (Q := fun x env' G' => x = .normal ∧ G' = G3 ∧ env' 2 = some (Value.int .i64 x2) ∧ env' 8 = some (Value.int .i64 a) ∧ env' 10 = some p11 ∧ env' 27 = some u ∧ env' 28 = some (Value.int .i64 (llen L)) ∧ env' 29 = some (Value.int .i64 j) ∧
        env' 49 = some (Value.bool (shutP x2 ((eu, ed, ec), ew)))) ?_ ?_)
      · rcases Bool.eq_false_or_eq_true (ieq (iadd .i64 (llen eu) (llen ed)) 0) with hc | hc
        · refine .region fun K hK => ?_
          simp [ev, f0, s0, s1, s2, i0, i1', y0, y1, w2, hc]
          apply hK
          simp [ev, shutP, hc]
        · refine .region fun K hK => ?_
          simp [ev, f0, s0, s1, i0, i1', y0, y1, hc, undef]
          apply hK
          simp [ev, shutP, hc]
      · rintro x env G' ⟨rfl, rfl, ev⟩
        simp only [andThen]
        refine DWp.cond' (t := shutP x2 ((eu, ed, ec), ew)) (by simp [ev]) (fun hb3 => ?_) (fun hb3 => ?_)
        · refine .region fun K hK => ?_
          simp [ev, f1, w3]
          apply hK
          clear hK K
          simp only [andThen, leaves]
          refine .region fun K hK => ?_
          simp [ev]
          apply hK
          clear hK K
          simp only [andThen, leaves]
          simp only [hb3, cond_true] at hj
          exact ⟨n, Nat.lt_succ_self _, _, _, hj, S3.pick [0, 1] (by decide) rfl, A3, by simp [ev]⟩
        · refine DWp.skip ?_
          simp only [andThen, leaves]
          refine .region fun K hK => ?_
          simp [ev]
          apply hK
          clear hK K
          simp only [andThen, leaves]
          simp only [hb3, cond_false] at hj
          exact ⟨n, Nat.lt_succ_self _, _, _, hj, S3.pick [0, 1] (by decide) rfl, A3, by simp [ev]⟩
    · replace hj := cd_f hb2 hj
      refine DWp.exit ?_
      simp only [andThen, leaves, if_true, if_false, reduceIte, Nat.reduceEqDiff]
      obtain rfl := Option.some.inj hj
      refine .sr fun K hK => ?_
      simp [ev]
      apply hK
      clear hK K
      refine DWp.ret ?_
      exact ⟨by simp, [.int .i64 _, .bool true], by simp [ev], A, rfl, .nil⟩
end Go.Proofs.Ytdbflchpbhkanaa.AL

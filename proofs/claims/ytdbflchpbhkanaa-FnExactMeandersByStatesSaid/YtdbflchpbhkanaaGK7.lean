/- spec.MeandersByStates: rounds over states, and the ways of those with one curve. No condition. -/
import Derived.Test.YtdbflchpbhkanaaGK6
namespace Go.Proofs.Ytdbflchpbhkanaa.AL
open Go Go.RowKit
set_option linter.unusedVariables false
set_option linter.unusedSimpArgs false
set_option maxRecDepth 4096
attribute [local simp] n_fn b_add b_sub b_mul b_lt b_le b_gt b_ge b_eq b_ne u_not
def cndM (x0 i : Int) (s : St3) : Bool := ile (llen s.1) (isub .i64 (isub .i64 (imul .i64 2 x0) i) 1) && ile (llen s.2.1) (isub .i64 (isub .i64 (imul .i64 2 x0) i) 1) && (ieq s.2.2 0 || ieq (isub .i64 (isub .i64 (imul .i64 2 x0) i) 1) 0)
/-- The ways of those of which p holds. -/
def sum_L (p : SW → Bool) (L : List SW) : Nat → Int → Int → Option Int
  | 0, _, _ => none
  | n + 1, a, j =>
    bif ilt j (llen L) then
      gd (inL L j) (sum_L p L n (bif p (gat sw0 L j) then iadd .i64 a (gat sw0 L j).2 else a) (iadd .i64 j 1))
    else
      some a
def oneE (e : SW) : Bool := ieq e.1.2.2 1
def F_spec_MeandersByStates (fu : Nat) (x0 : Int) : Option (Int × Bool) :=
  bd (F_spec_l1In fu x0 1 6) fun b =>
  bif bnot b then
    some (0, false)
  else
    bd (aft_L fu (cndM x0) (imul .i64 2 x0) fu 0 [(([], [], 0), 1)]) fun L =>
    bd (sum_L oneE L fu 0 0) fun s =>
    some (s, true)
set_option maxHeartbeats 4000000 in
theorem F_spec_MeandersByStates_w {fu : Nat} {H : AH} {x0 : Int} {r : (Int × Bool)} (hF : F_spec_MeandersByStates fu x0 = some r) :
    ACallT Try.prog 6 [(Value.int .i64 x0)] H (fun u G => AgB (Fr H) H G ∧ u = (Value.tuple #[(Value.int .i64 r.1), (Value.bool r.2)]) ∧ Sep G (Fr H) []) := by
  refine ACallT.of_body (nt := 96) (rs := [.tmp 2, .tmp 3]) Try.func6 rfl rfl rfl rfl ?_
  have h00 : ∀ {G : AH}, AgB (Fr H) H G → ∀ e ∈ [(nilV, ([] : List Int))], Sl G e.1 (ints e.2) := fun a e he => by
    simp at he
    subst he
    exact Sl.nil
  have hid : ∀ e ∈ [(nilV, ([] : List Int))], ∀ i, idOf e.1 = some i → ¬ Fr H i := fun e he i hi hb => by
    simp at he
    subst he
    cases hi
  have A0 : AgB (Fr H) H H := .refl _ _
  have S0 : Sep H (Fr H) [] := .nil
  have hB := Fr.up H
  unfold F_spec_MeandersByStates at hF
  obtain ⟨b, hb0, hF⟩ := bd_some hF
  refine .sr fun K hK => ?_
  simp []
  apply hK
  clear hK K
  refine .seq ?_
  refine .sr fun K hK => ?_
  simp []
  refine CallD.t (F_spec_l1In_w (fu := fu) hb0) ?_
  rintro _ G1 ⟨a1, rfl, S1⟩
  have A1 := A0.ext (hB.le A0.1) a1.agree
  simp []
  apply hK
  clear hK K
  refine DWp.cond' (t := bnot b) (by simp) (fun hb => ?_) (fun hb => ?_)
  · replace hF := cd_t hb hF
    obtain rfl := Option.some.inj hF
    refine .sr fun K hK => ?_
    simp []
    apply hK
    clear hK K
    refine DWp.ret ?_
    simp only [andThen]
    exact ⟨by simp, [.int .i64 0, .bool false], by simp, A1, rfl, S1⟩
  replace hF := cd_f hb hF
  refine DWp.skip ?_
  simp only [andThen, leaves]
  obtain ⟨L0, hL0, hF⟩ := bd_some hF
  obtain ⟨r0, hr0, hF⟩ := bd_some hF
  obtain rfl := Option.some.inj hF
  have b1 := kbuT1 (n := 1)
  obtain ⟨u, G2, q3, S2, a2, t2, _⟩ := S1.recLit (P := Try.prog) (t := 41) (r := [.slice none 0 0, .slice none 0 0, .int .i64 0, .int .i64 1]) (hB.le A1.1) kelT keiT rfl (by simp)
  have A2 := A1.ext (hB.le A1.1) a2
  have S3 := S2.poolNil (hB.le A2.1)
  replace S3 : Sep G2 (Fr H) [recs 4 u 40 [[.slice none 0 0, .slice none 0 0, .int .i64 0, .int .i64 1]], pool []] := S3
  refine .sr fun K hK => ?_
  simp [b1, q3, a2.to_pre, t2]
  apply hK
  clear hK K
  refine .seq ?_
  refine .sr fun K hK => ?_
  simp []
  apply hK
  clear hK K
  refine .block ?_
  refine DWp.loop (fun n env G => ∃ (i : Int) (L : List SW) (R : List (List Value)) (D : List (Value × List Int)) (u : Value), aft_L fu (cndM x0) (imul .i64 2 x0) n i L = some L0 ∧ RecR ([(nilV, [])] ++ D) R L ∧ Sep G (Fr H) [recs 4 u 40 R, pool D] ∧ AgB (Fr H) H G ∧
    env 0 = some (Value.int .i64 x0) ∧ env 4 = some u ∧ env 5 = some (Value.int .i64 i)) fu ⟨0, _, _, [], u, hL0, .cons ⟨nilV, nilV, rfl, by simp, by simp⟩ .nil, S3, A2, by simp⟩ ?_
  clear S3 S2 S1 A2 A1 a2 a1 b1 q3 t2 hL0 hb hb0
  rintro n env G ⟨i, L, R, D, u, hL, hR, S, A, ev⟩
  cases n with
  | zero => cases hL
  | succ n =>
    simp only [aft_L] at hL
    refine .seq ?_
    refine .sr fun K hK => ?_
    simp [ev]
    apply hK
    clear hK K
    refine DWp.cond' (t := (ilt i (imul .i64 2 x0))) (by simp [ev]) (fun hb => ?_) (fun hb => ?_)
    · replace hL := cd_t hb hL
      refine DWp.skip ?_
      simp only [andThen, leaves]
      obtain ⟨N, hN, hL⟩ := bd_some hL
      have hl : R.length = L.length := All2.length hR
      have hll : llen R = llen L := by unfold llen; rw [hl]
      refine .seq ?_
      refine .block ?_
      have S2 := S.recNil (hB.le A.1) 4 40
      replace S2 : Sep G (Fr H) [recs 4 u 40 R, pool D, recs 4 nilV 40 []] := S2
      refine .sr fun K hK => ?_
      simp [ev]
      apply hK
      clear hK K
      have n1 := S.recLen (P := Try.prog) (k := 0) rfl kelT
      rw [hll] at n1
      refine .seq ?_
      refine .sr fun K hK => ?_
      simp [ev, n1]
      apply hK
      clear hK K
      refine .block ?_
      refine DWp.loop (fun n env G => ∃ (j : Int) (N' : List SW) (RN : List (List Value)) (D : List (Value × List Int)) (w : Value), aft2 fu (cndM x0 i) L n j N' = some N ∧ RecR ([(nilV, [])] ++ D) R L ∧ RecR ([(nilV, [])] ++ D) RN N' ∧
        Sep G (Fr H) [recs 4 u 40 R, pool D, recs 4 w 40 RN] ∧ AgB (Fr H) H G ∧ env 0 = some (Value.int .i64 x0) ∧ env 5 = some (Value.int .i64 i) ∧ env 6 = some w ∧
        env 27 = some u ∧ env 28 = some (Value.int .i64 (llen L)) ∧ env 29 = some (Value.int .i64 j)) fu ⟨0, [], [], D, nilV, hN, hR, .nil, S2, A, by simp [ev, nilV]⟩ ?_
      clear S2 S A ev hR hN n1
      rintro n2 env G ⟨j, N', RN, D, w, hj, hR, hRN, S, A, ev⟩
      cases n2 with
      | zero => cases hj
      | succ n2 =>
        simp only [aft2] at hj
        refine .sr fun K hK => ?_
        simp [ev]
        apply hK
        clear hK K
        refine .seq ?_
        refine DWp.cond' (t := (ilt j (llen L))) (by simp [ev]) (fun hb2 => ?_) (fun hb2 => ?_)
        · replace hj := cd_t hb2 hj
          obtain ⟨g1, hj⟩ := gd_some hj
          obtain ⟨N2, hN2, hj⟩ := bd_some hj
          refine DWp.skip ?_
          simp only [andThen, leaves]
          obtain ⟨gR, u0, u1, hg, m0, m1⟩ := hR.at g1
          generalize gat sw0 L j = c at *
          obtain ⟨⟨eu, ed, ec⟩, ew⟩ := c
          simp only at hg m0 m1
          have i1 := S.recIdx (P := Try.prog) (t := 41) (k := 0) (kk := .i64) rfl kelT kszT gR
          have l1 := S.recAgg (P := Try.prog) (k := 0) rfl kszT kagT gR
          rw [hg] at l1
          refine .seq ?_
          refine .block ?_
          obtain ⟨G2, p11, q1, q2, a2, S2⟩ := S.allocT (P := Try.prog) (hB.le A.1) kzeT rfl
          have A2 := A.ext (hB.le A.1) a2
          replace S2 : Sep G2 (Fr H) [recs 4 u 40 R, pool D, recs 4 w 40 RN, AL.box p11 [.slice none 0 0, .slice none 0 0, .int .i64 0, .int .i64 0]] := S2
          obtain ⟨G3, q3, S3, a3⟩ := S2.putAgg (P := Try.prog) (k := 3) (xs := [u0, u1, .int .i64 ec, .int .i64 ew]) rfl (hB.le A2.1) kszT rfl rfl
          have A3 := A2.trans a3
          replace S3 : Sep G3 (Fr H) [recs 4 u 40 R, pool D, recs 4 w 40 RN, AL.box p11 [u0, u1, .int .i64 ec, .int .i64 ew]] := S3
          refine .sr fun K hK => ?_
          simp [ev, i1, l1, q1, q2, a2.to_pre, q3]
          apply hK
          clear hK K
          refine .sr fun K hK => ?_
          simp []
          apply hK
          clear hK K
          refine .block ?_
          refine DWp.loop (fun n env G => ∃ (k : Int) (N' : List SW) (RN : List (List Value)) (D : List (Value × List Int)) (w : Value), aft4 fu (cndM x0 i) ((eu, ed, ec), ew) n k N' = some N2 ∧ RecR ([(nilV, [])] ++ D) R L ∧ RecR ([(nilV, [])] ++ D) RN N' ∧
            (u0, eu) ∈ [(nilV, [])] ++ D ∧ (u1, ed) ∈ [(nilV, [])] ++ D ∧
            Sep G (Fr H) [recs 4 u 40 R, pool D, recs 4 w 40 RN, AL.box p11 [u0, u1, .int .i64 ec, .int .i64 ew]] ∧ AgB (Fr H) H G ∧ env 0 = some (Value.int .i64 x0) ∧ env 5 = some (Value.int .i64 i) ∧ env 6 = some w ∧
            env 27 = some u ∧ env 28 = some (Value.int .i64 (llen L)) ∧ env 29 = some (Value.int .i64 j) ∧ env 8 = some p11 ∧ env 9 = some (Value.int .i64 k)) fu ⟨0, N', RN, D, w, hN2, hR, hRN, m0, m1, S3, A3, by simp [ev]⟩ ?_
          clear S3 S2 S A3 A2 A a3 a2 q1 q2 q3 i1 l1 ev hR hRN m0 m1 hN2
          rintro n4 env G ⟨k, N', RN, D, w, hk, hR, hRN, m0, m1, S, A, ev⟩
          cases n4 with
          | zero => cases hk
          | succ n4 =>
            simp only [aft4] at hk
            refine .seq ?_
            refine .sr fun K hK => ?_
            simp [ev]
            apply hK
            clear hK K
            refine DWp.cond' (t := (ilt k 4)) (by simp [ev]) (fun hb4 => ?_) (fun hb4 => ?_)
            · replace hk := cd_t hb4 hk
              refine DWp.skip ?_
              simp only [andThen, leaves]
              obtain ⟨o, ho, hk⟩ := bd_some hk
              refine .seq ?_
              refine .block ?_
              have f0 := S.fieldT (P := Try.prog) (k := 3) rfl kfT0
              have g0 := S.loadSub (P := Try.prog) (k := 3) (off := 0) rfl kszS kagS (by simp)
              replace g0 : aLoad Try.prog G 34 (fldP p11 0) = some (.agg #[u0, u1, .int .i64 ec]) := g0
              have w0 := poolR_sl (D0 := [(nilV, [])]) S (k := 1) rfl (h00 A) m0
              have w1 := poolR_sl (D0 := [(nilV, [])]) S (k := 1) rfl (h00 A) m1
              refine .sr fun K hK => ?_
              simp [ev, f0, g0]
              refine CallD.t (F_spec_stStep_w (fu := fu) w0 w1 ho) ?_
              rintro _ G2 ⟨a2, c0, c1, rfl, T2⟩
              have A2 := A.ext (hB.le A.1) a2.agree
              have S2 : Sep G2 (Fr H) [recs 4 u 40 R, pool D, recs 4 w 40 RN, AL.box p11 [u0, u1, .int .i64 ec, .int .i64 ew], flat c0 3 (ints o.1.1), flat c1 3 (ints o.1.2.1)] := S.app a2.agree T2 (fun _ h => h) (hB.le A.1)
              obtain ⟨G3, p13, q1, q2, a3, S3⟩ := S2.allocT (P := Try.prog) (hB.le A2.1) kzeS rfl
              have A3 := A2.ext (hB.le A2.1) a3
              replace S3 : Sep G3 (Fr H) [recs 4 u 40 R, pool D, recs 4 w 40 RN, AL.box p11 [u0, u1, .int .i64 ec, .int .i64 ew], flat c0 3 (ints o.1.1), flat c1 3 (ints o.1.2.1), AL.box p13 [.slice none 0 0, .slice none 0 0, .int .i64 0]] := S3
              obtain ⟨G4, q3, S4, a4⟩ := S3.putAgg (P := Try.prog) (k := 6) (xs := [c0, c1, .int .i64 o.1.2.2]) rfl (hB.le A3.1) kszS rfl rfl
              have A4 := A3.trans a4
              have S5 := ((S4.poolPut (j := 1) (k := 4) (by decide) rfl rfl).poolPut (j := 1) (k := 5) (by decide) rfl rfl).pick [0, 1, 2, 3, 6] (by decide) rfl
              replace S5 : Sep G4 (Fr H) [recs 4 u 40 R, pool (D ++ [(c0, o.1.1)] ++ [(c1, o.1.2.1)]), recs 4 w 40 RN, AL.box p11 [u0, u1, .int .i64 ec, .int .i64 ew], AL.box p13 [c0, c1, .int .i64 o.1.2.2]] := S5
              have hmD : ∀ e ∈ [(nilV, [])] ++ D, e ∈ [(nilV, [])] ++ (D ++ [(c0, o.1.1)] ++ [(c1, o.1.2.1)]) := fun e he => by
                simp only [List.mem_append] at he ⊢
                rcases he with he | he
                · exact .inl he
                · exact .inr (.inl (.inl he))
              replace hR := RecR.more hR hmD
              replace hRN := RecR.more hRN hmD
              replace m0 := hmD _ m0
              replace m1 := hmD _ m1
              have z0 : (c0, o.1.1) ∈ [(nilV, [])] ++ (D ++ [(c0, o.1.1)] ++ [(c1, o.1.2.1)]) := by simp
              have z1 : (c1, o.1.2.1) ∈ [(nilV, [])] ++ (D ++ [(c0, o.1.1)] ++ [(c1, o.1.2.1)]) := by simp
              have y0 := S4.sl (k := 4) rfl
              have y1 := S4.sl (k := 5) rfl
              simp [ev, f0, g0, a2.pre, q1, q2, a3.to_pre, q3]
              apply hK
              clear hK K
              generalize D ++ [(c0, o.1.1)] ++ [(c1, o.1.2.1)] = D' at *
              clear hmD S S2 S3 S4 A A2 A3 w0 w1 a2 a3 a4 q1 q2 q3 f0 g0 T2
              have j0 := S5.fieldT (P := Try.prog) (k := 4) rfl kfS0
              have j1 := S5.fieldT (P := Try.prog) (k := 4) rfl kfS1
              have i0 := S5.loadF (P := Try.prog) (k := 4) rfl kszL kagL (off := 0) rfl
              have i1 := S5.loadF (P := Try.prog) (k := 4) rfl kszL kagL (off := 1) rfl
              have n0 := lenG (P := Try.prog) y0 kelL
              have n1 := lenG (P := Try.prog) y1 kelL
              refine .sr fun K hK => ?_
              simp [ev]
              apply hK
              clear hK K
              have i2 := S5.loadF (P := Try.prog) (k := 4) rfl kszI kagI (off := 2) rfl
              have j2 := S5.fieldT (P := Try.prog) (k := 4) rfl kfS2
              generalize hrs : isub .i64 (isub .i64 (imul .i64 2 x0) i) 1 = rs
              refine DWp.seq (DWp.mono (Q := fun x env' G' => x = .normal ∧ G' = G4 ∧ env' 72 = some (Value.bool (o.2 && cndM x0 i o.1)) ∧ env' 0 = some (Value.int .i64 x0) ∧ env' 5 = some (Value.int .i64 i) ∧ env' 6 = some w ∧
                env' 27 = some u ∧ env' 28 = some (Value.int .i64 (llen L)) ∧ env' 29 = some (Value.int .i64 j) ∧ env' 8 = some p11 ∧ env' 9 = some (Value.int .i64 k) ∧ env' 10 = some p13) ?_ ?_)
              · cases ho2 : o.2 with
                | false =>
                  refine .region fun K hK => ?_
                  simp [ev, undef, ho2]
                  apply hK
                  simp [ev]
                | true =>
                  rcases Bool.eq_false_or_eq_true (ile (llen o.1.1) rs) with hc | hc
                  · rcases Bool.eq_false_or_eq_true (ile (llen o.1.2.1) rs) with hd | hd
                    · rcases Bool.eq_false_or_eq_true (ieq o.1.2.2 0) with he | he
                      · refine .region fun K hK => ?_
                        simp [ev, j0, i0, n0, j1, i1, n1, j2, i2, hc, hd, he, ho2, undef]
                        apply hK
                        simp [ev, cndM, hrs, hc, hd, he]
                      · refine .region fun K hK => ?_
                        simp [ev, j0, i0, n0, j1, i1, n1, j2, i2, hc, hd, he, ho2, undef]
                        apply hK
                        simp [ev, cndM, hrs, hc, hd, he]
                    · refine .region fun K hK => ?_
                      simp [ev, j0, i0, n0, j1, i1, n1, j2, i2, hc, hd, ho2, undef]
                      apply hK
                      simp [ev, cndM, hrs, hc, hd]
                  · refine .region fun K hK => ?_
                    simp [ev, j0, i0, n0, hc, undef, ho2]
                    apply hK
                    simp [ev, cndM, hrs, hc]
              · rintro x env G' ⟨rfl, rfl, ev⟩
                simp only [andThen]
                refine DWp.cond' (t := (o.2 && cndM x0 i o.1)) (by simp [ev]) (fun hb5 => ?_) (fun hb5 => ?_)
                · replace hk := cd_t hb5 hk
                  obtain ⟨N3, hN3, hk⟩ := bd_some hk
                  have l3 := S5.loadAgg (P := Try.prog) (k := 4) rfl kszS kagS rfl
                  have f1 := S5.fieldT (P := Try.prog) (k := 3) rfl kfT1
                  have w3 := S5.loadF (P := Try.prog) (k := 3) rfl kszI kagI (off := 3) rfl
                  have S6 : Sep G' (Fr H) ([recs 4 w 40 RN] ++ [recs 4 u 40 R, pool D', AL.box p11 [u0, u1, .int .i64 ec, .int .i64 ew], AL.box p13 [c0, c1, .int .i64 o.1.2.2]]) := S5.pick [2, 0, 1, 3, 4] (by decide) rfl
                  obtain ⟨B1, T1, U1, M1, R1, C1⟩ := S6.frame (hB.le A4.1)
                  have hout := poolR_out (B' := B1) (D0 := [(nilV, [])]) S5 (k := 1) rfl (fun e he => ⟨h00 A4 e he, fun i hi hb => hid e he i hi (M1 i hb)⟩) (R1 1 _ rfl)
                  refine .region fun K hK => ?_
                  simp [ev, l3, f1, w3, S5.recTup (k := 2) rfl]
                  refine CallD.t (F_spec_stPut_w (fu := fu) (s := o.1) (w := ew) U1 T1 hRN hout z0 z1 hN3) ?_
                  rintro w' G6 ⟨a6, RN', T6, hRN'⟩
                  have A6 := A4.trans (a6.mono M1)
                  have S7 : Sep G6 (Fr H) [recs 4 w' 40 RN', recs 4 u 40 R, pool D', AL.box p11 [u0, u1, .int .i64 ec, .int .i64 ew], AL.box p13 [c0, c1, .int .i64 o.1.2.2]] := C1 _ _ a6 T6
                  simp [ev, l3, f1, w3]
                  apply hK
                  clear hK K
                  simp only [andThen, leaves]
                  refine .region fun K hK => ?_
                  simp [ev]
                  apply hK
                  clear hK K
                  simp only [andThen, leaves]
                  exact ⟨n4, Nat.lt_succ_self _, _, N3, RN', D', w', hk, hR, hRN', m0, m1, S7.pick [1, 2, 0, 3] (by decide) rfl, A6, by simp [ev]⟩
                · replace hk := cd_f hb5 hk
                  refine DWp.skip ?_
                  simp only [andThen, leaves]
                  refine .region fun K hK => ?_
                  simp [ev]
                  apply hK
                  clear hK K
                  simp only [andThen, leaves]
                  exact ⟨n4, Nat.lt_succ_self _, _, N', RN, D', w, hk, hR, hRN, m0, m1, S5.pick [0, 1, 2, 3] (by decide) rfl, A4, by simp [ev]⟩
            · replace hk := cd_f hb4 hk
              refine DWp.exit ?_
              simp only [andThen, leaves, if_true, if_false, reduceIte, Nat.reduceEqDiff]
              obtain rfl := Option.some.inj hk
              refine .region fun K hK => ?_
              simp [ev]
              apply hK
              clear hK K
              simp only [andThen, leaves]
              exact ⟨n2, Nat.lt_succ_self _, _, N', RN, D, w, hj, hR, hRN, S.pick [0, 1, 2] (by decide) rfl, A, by simp [ev]⟩
        · replace hj := cd_f hb2 hj
          refine DWp.exit ?_
          simp only [andThen, leaves, if_true, if_false, reduceIte, Nat.reduceEqDiff]
          obtain rfl := Option.some.inj hj
          refine .region fun K hK => ?_
          simp [ev]
          apply hK
          clear hK K
          simp only [andThen, leaves]
          refine .region fun K hK => ?_
          simp [ev]
          apply hK
          clear hK K
          simp only [andThen, leaves]
          exact ⟨n, Nat.lt_succ_self _, _, N', RN, D, w, hL, hRN, S.pick [2, 1] (by decide) rfl, A, by simp [ev]⟩
    · replace hL := cd_f hb hL
      refine DWp.exit ?_
      simp only [andThen, leaves, if_true, if_false, reduceIte, Nat.reduceEqDiff]
      obtain rfl := Option.some.inj hL
      refine .sr fun K hK => ?_
      simp [ev]
      apply hK
      clear hK K
      have hl : R.length = L.length := All2.length hR
      have hll : llen R = llen L := by unfold llen; rw [hl]
      have n1 := S.recLen (P := Try.prog) (k := 0) rfl kelT
      rw [hll] at n1
      refine .seq ?_
      refine .sr fun K hK => ?_
      simp [ev, n1]
      apply hK
      clear hK K
      refine .block ?_
      refine DWp.loop (fun n env G => ∃ (a j : Int), sum_L oneE L n a j = some r0 ∧ Sep G (Fr H) [recs 4 u 40 R, pool D] ∧ AgB (Fr H) H G ∧
        env 13 = some (Value.int .i64 a) ∧ env 80 = some u ∧ env 81 = some (Value.int .i64 (llen L)) ∧ env 82 = some (Value.int .i64 j)) fu ⟨0, 0, hr0, S, A, by simp [ev]⟩ ?_
      clear S A ev n1 hr0
      rintro n env G ⟨a, j, hj, S, A, ev⟩
      cases n with
      | zero => cases hj
      | succ n =>
        simp only [sum_L] at hj
        refine .sr fun K hK => ?_
        simp [ev]
        apply hK
        clear hK K
        refine .seq ?_
        refine DWp.cond' (t := (ilt j (llen L))) (by simp [ev]) (fun hb2 => ?_) (fun hb2 => ?_)
        · replace hj := cd_t hb2 hj
          obtain ⟨g1, hj⟩ := gd_some hj
          refine DWp.skip ?_
          simp only [andThen, leaves]
          obtain ⟨gR, u0, u1, hg, m0, m1⟩ := hR.at g1
          generalize gat sw0 L j = c at *
          obtain ⟨⟨eu, ed, ec⟩, ew⟩ := c
          simp only at hg m0 m1
          have i1 := S.recIdx (P := Try.prog) (t := 41) (k := 0) (kk := .i64) rfl kelT kszT gR
          have l1 := S.recAgg (P := Try.prog) (k := 0) rfl kszT kagT gR
          rw [hg] at l1
          refine .seq ?_
          refine .block ?_
          obtain ⟨G2, p11, q1, q2, a2, S2⟩ := S.allocT (P := Try.prog) (hB.le A.1) kzeT rfl
          have A2 := A.ext (hB.le A.1) a2
          replace S2 : Sep G2 (Fr H) [recs 4 u 40 R, pool D, AL.box p11 [.slice none 0 0, .slice none 0 0, .int .i64 0, .int .i64 0]] := S2
          obtain ⟨G3, q3, S3, a3⟩ := S2.putAgg (P := Try.prog) (k := 2) (xs := [u0, u1, .int .i64 ec, .int .i64 ew]) rfl (hB.le A2.1) kszT rfl rfl
          have A3 := A2.trans a3
          replace S3 : Sep G3 (Fr H) [recs 4 u 40 R, pool D, AL.box p11 [u0, u1, .int .i64 ec, .int .i64 ew]] := S3
          refine .sr fun K hK => ?_
          simp [ev, i1, l1, q1, q2, a2.to_pre, q3]
          apply hK
          clear hK K
          have f0 := S3.fieldT (P := Try.prog) (k := 2) rfl kfT0
          have f2 := S3.fieldSub (P := Try.prog) (k := 2) (o := 0) rfl kfS2
          have f1 := S3.fieldT (P := Try.prog) (k := 2) rfl kfT1
          have w2 := S3.loadF (P := Try.prog) (k := 2) rfl kszI kagI (off := 2) rfl
          have w3 := S3.loadF (P := Try.prog) (k := 2) rfl kszI kagI (off := 3) rfl
          refine .sr fun K hK => ?_
          simp [ev, f0, f2, w2]
          apply hK
          clear hK K
          refine DWp.cond' (t := ieq ec 1) (by simp) (fun hb3 => ?_) (fun hb3 => ?_)
          · refine .region fun K hK => ?_
            simp [ev, f1, w3]
            apply hK
            clear hK K
            simp only [andThen, leaves]
            refine .region fun K hK => ?_
            simp [ev]
            apply hK
            clear hK K
            simp only [andThen, leaves]
            simp only [oneE, hb3, cond_true] at hj
            exact ⟨n, Nat.lt_succ_self _, _, _, hj, S3.pick [0, 1] (by decide) rfl, A3, by simp [ev]⟩
          · refine DWp.skip ?_
            simp only [andThen, leaves]
            refine .region fun K hK => ?_
            simp [ev]
            apply hK
            clear hK K
            simp only [andThen, leaves]
            simp only [oneE, hb3, cond_false] at hj
            exact ⟨n, Nat.lt_succ_self _, _, _, hj, S3.pick [0, 1] (by decide) rfl, A3, by simp [ev]⟩
        · replace hj := cd_f hb2 hj
          refine DWp.exit ?_
          simp only [andThen, leaves, if_true, if_false, reduceIte, Nat.reduceEqDiff]
          obtain rfl := Option.some.inj hj
          refine .sr fun K hK => ?_
          simp [ev]
          apply hK
          clear hK K
          refine DWp.ret ?_
          exact ⟨by simp, [.int .i64 _, .bool true], by simp [ev], A, rfl, .nil⟩
end Go.Proofs.Ytdbflchpbhkanaa.AL

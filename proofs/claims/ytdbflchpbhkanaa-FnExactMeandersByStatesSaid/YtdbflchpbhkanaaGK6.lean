/- spec.stAfter: all states behind some points, with the ways to them. No condition. -/
import Derived.Test.YtdbflchpbhkanaaGK5
import Derived.Test.YtdbflchpbhkanaaAL56
namespace Go.Proofs.Ytdbflchpbhkanaa.AL
open Go Go.RowKit
set_option linter.unusedVariables false
set_option linter.unusedSimpArgs false
set_option maxRecDepth 4096
attribute [local simp] n_fn b_add b_sub b_mul b_lt b_le b_gt b_ge b_eq b_ne u_not
def aft4 (fu : Nat) (cnd : St3 → Bool) (c : SW) : Nat → Int → List SW → Option (List SW)
  | 0, _, _ => none
  | n + 1, k, N =>
    bif ilt k 4 then
      bd (F_spec_stStep fu c.1.1 c.1.2.1 c.1.2.2 k) fun o =>
      bif o.2 && cnd o.1 then
        bd (F_spec_stPut fu N o.1 c.2) fun N' => aft4 fu cnd c n (iadd .i64 k 1) N'
      else
        aft4 fu cnd c n (iadd .i64 k 1) N
    else
      some N
def aft2 (fu : Nat) (cnd : St3 → Bool) (L : List SW) : Nat → Int → List SW → Option (List SW)
  | 0, _, _ => none
  | n + 1, j, N =>
    bif ilt j (llen L) then
      gd (inL L j) (bd (aft4 fu cnd (gat sw0 L j) fu 0 N) fun N' => aft2 fu cnd L n (iadd .i64 j 1) N')
    else
      some N
def aft_L (fu : Nat) (cnd : Int → St3 → Bool) (pts : Int) : Nat → Int → List SW → Option (List SW)
  | 0, _, _ => none
  | n + 1, i, L =>
    bif ilt i pts then
      bd (aft2 fu (cnd i) L fu 0 []) fun N => aft_L fu cnd pts n (iadd .i64 i 1) N
    else
      some L
def cndA (left i : Int) (s : St3) : Bool := ile (llen s.1) (isub .i64 (isub .i64 left i) 1) && ile (llen s.2.1) (isub .i64 (isub .i64 left i) 1)
def F_spec_stAfter (fu : Nat) (x0 x1 : List Int) (x2 pts left : Int) : Option (List SW) := aft_L fu (cndA left) pts fu 0 [((x0, x1, x2), 1)]
theorem poolR_sl {G : AH} {B : Nat → Prop} {l : List Item} {k : Nat} {D0 D : List (Value × List Int)} (S : Sep G B l) (hk : l[k]? = some (pool D)) (h0 : ∀ e ∈ D0, Sl G e.1 (ints e.2)) {v : Value} {xs : List Int} (he : (v, xs) ∈ D0 ++ D) : Sl G v (ints xs) := by
  rcases List.mem_append.1 he with he | he
  · exact h0 _ he
  · exact S.poolSl hk he
/-- The rows of a pool lie outside of what a call may turn. -/
theorem poolR_out {G : AH} {B B' : Nat → Prop} {l : List Item} {k : Nat} {D0 D : List (Value × List Int)} (S : Sep G B l) (hk : l[k]? = some (pool D)) (h0 : ∀ e ∈ D0, Sl G e.1 (ints e.2) ∧ ∀ i, idOf e.1 = some i → ¬ B' i) (hF : ∃ F, (pool D).P G F ∧ ∀ i ∈ F, ¬ B' i) : ∀ e ∈ D0 ++ D, Sl G e.1 (ints e.2) ∧ ∀ i, idOf e.1 = some i → ¬ B' i := fun e he => by
  rcases List.mem_append.1 he with he | he
  · exact h0 _ he
  · refine ⟨S.poolSl hk he, fun i hi => ?_⟩
    obtain ⟨F, ⟨_, rfl⟩, hn⟩ := hF
    exact hn i (List.mem_flatMap.2 ⟨e, he, mem_ids.2 hi⟩)
set_option maxHeartbeats 4000000 in
theorem F_spec_stAfter_w {fu : Nat} {H : AH} {v0_0 v0_1 : Value} {x0_0 x0_1 : List Int} {x0_2 x1 x2 : Int} {r : List SW} (hx0_0 : Sl H v0_0 (ints x0_0)) (hx0_1 : Sl H v0_1 (ints x0_1)) (hF : F_spec_stAfter fu x0_0 x0_1 x0_2 x1 x2 = some r) :
    ACallT Try.prog 28 [(Value.agg #[v0_0, v0_1, (Value.int .i64 x0_2)]), (Value.int .i64 x1), (Value.int .i64 x2)] H (fun u G => AgB (Fr H) H G ∧ ∃ (R : List (List Value)) (D : List (Value × List Int)), RecR ([(v0_0, x0_0), (v0_1, x0_1)] ++ D) R r ∧ Sep G (Fr H) [recs 4 u 40 R, pool D]) := by
  refine ACallT.of_body (nt := 69) (rs := [.tmp 6]) Try.func28 rfl rfl rfl rfl ?_
  have h00 : ∀ {G : AH}, AgB (Fr H) H G → ∀ e ∈ [(v0_0, x0_0), (v0_1, x0_1)], Sl G e.1 (ints e.2) := fun a e he => by
    simp at he
    rcases he with rfl | rfl
    · exact hx0_0.agree a.agree
    · exact hx0_1.agree a.agree
  have hid : ∀ e ∈ [(v0_0, x0_0), (v0_1, x0_1)], ∀ i, idOf e.1 = some i → ¬ Fr H i := fun e he i hi hb => by
    simp at he
    rcases he with rfl | rfl
    · exact Nat.not_le.2 (hx0_0.id_lt hi) hb
    · exact Nat.not_le.2 (hx0_1.id_lt hi) hb
  have A0 : AgB (Fr H) H H := .refl _ _
  have S0 : Sep H (Fr H) [] := .nil
  have hB := Fr.up H
  unfold F_spec_stAfter at hF
  obtain ⟨G1, p3, q1, q2, a1, S1⟩ := S0.boxT (hB.le A0.1) 34 [v0_0, v0_1, (Value.int .i64 x0_2)]
  have A1 := A0.ext (hB.le A0.1) a1
  replace S1 : Sep G1 (Fr H) [AL.box p3 [v0_0, v0_1, (Value.int .i64 x0_2)]] := S1
  refine .sr fun K hK => ?_
  simp [q1, q2, a1.to_pre, cells_agg]
  apply hK
  clear hK K
  have l1 := S1.loadAgg (P := Try.prog) (k := 0) rfl kszS kagS rfl
  have b1 := kbuT (x := v0_0) (y := v0_1) (w := .int .i64 x0_2) (n := 1)
  obtain ⟨u, G2, q3, S2, a2, t2, _⟩ := S1.recLit (P := Try.prog) (t := 41) (r := [v0_0, v0_1, .int .i64 x0_2, .int .i64 1]) (hB.le A1.1) kelT keiT rfl (by simp)
  have A2 := A1.ext (hB.le A1.1) a2
  have S3 := S2.poolNil (hB.le A2.1)
  replace S3 : Sep G2 (Fr H) [recs 4 u 40 [[v0_0, v0_1, .int .i64 x0_2, .int .i64 1]], pool []] := S3.pick [1, 2] (by decide) rfl
  refine .sr fun K hK => ?_
  simp [l1, b1, q3, a2.to_pre, t2]
  apply hK
  clear hK K
  refine .seq ?_
  refine .sr fun K hK => ?_
  simp []
  apply hK
  clear hK K
  refine .block ?_
  refine DWp.loop (fun n env G => ∃ (i : Int) (L : List SW) (R : List (List Value)) (D : List (Value × List Int)) (u : Value), aft_L fu (cndA x2) x1 n i L = some r ∧ RecR ([(v0_0, x0_0), (v0_1, x0_1)] ++ D) R L ∧ Sep G (Fr H) [recs 4 u 40 R, pool D] ∧ AgB (Fr H) H G ∧
    env 1 = some (Value.int .i64 x1) ∧ env 2 = some (Value.int .i64 x2) ∧ env 7 = some u ∧ env 8 = some (Value.int .i64 i)) fu ⟨0, _, _, [], u, hF, .cons ⟨v0_0, v0_1, rfl, by simp, by simp⟩ .nil, S3, A2, by simp⟩ ?_
  clear S3 S2 S1 A2 A1 a2 a1 l1 b1 q1 q2 q3 t2 hF
  rintro n env G ⟨i, L, R, D, u, hL, hR, S, A, ev⟩
  cases n with
  | zero => cases hL
  | succ n =>
    simp only [aft_L] at hL
    refine .seq ?_
    refine .sr fun K hK => ?_
    simp [ev]
    apply hK
    clear hK K
    refine DWp.cond' (t := (ilt i x1)) (by simp [ev]) (fun hb => ?_) (fun hb => ?_)
    · replace hL := cd_t hb hL
      refine DWp.skip ?_
      simp only [andThen, leaves]
      obtain ⟨N, hN, hL⟩ := bd_some hL
      have hl : R.length = L.length := All2.length hR
      have hll : llen R = llen L := by unfold llen; rw [hl]
      refine .seq ?_
      refine .block ?_
      have S2 := S.recNil (hB.le A.1) 4 40
      replace S2 : Sep G (Fr H) [recs 4 u 40 R, pool D, recs 4 nilV 40 []] := S2
      refine .sr fun K hK => ?_
      simp [ev]
      apply hK
      clear hK K
      have n1 := S.recLen (P := Try.prog) (k := 0) rfl kelT
      rw [hll] at n1
      refine .seq ?_
      refine .sr fun K hK => ?_
      simp [ev, n1]
      apply hK
      clear hK K
      refine .block ?_
      refine DWp.loop (fun n env G => ∃ (j : Int) (N' : List SW) (RN : List (List Value)) (D : List (Value × List Int)) (w : Value), aft2 fu (cndA x2 i) L n j N' = some N ∧ RecR ([(v0_0, x0_0), (v0_1, x0_1)] ++ D) R L ∧ RecR ([(v0_0, x0_0), (v0_1, x0_1)] ++ D) RN N' ∧
        Sep G (Fr H) [recs 4 u 40 R, pool D, recs 4 w 40 RN] ∧ AgB (Fr H) H G ∧ env 1 = some (Value.int .i64 x1) ∧ env 2 = some (Value.int .i64 x2) ∧ env 8 = some (Value.int .i64 i) ∧ env 9 = some w ∧
        env 23 = some u ∧ env 24 = some (Value.int .i64 (llen L)) ∧ env 25 = some (Value.int .i64 j)) fu ⟨0, [], [], D, nilV, hN, hR, .nil, S2, A, by simp [ev, nilV]⟩ ?_
      clear S2 S A ev hR hN n1
      rintro n2 env G ⟨j, N', RN, D, w, hj, hR, hRN, S, A, ev⟩
      cases n2 with
      | zero => cases hj
      | succ n2 =>
        simp only [aft2] at hj
        refine .sr fun K hK => ?_
        simp [ev]
        apply hK
        clear hK K
        refine .seq ?_
        refine DWp.cond' (t := (ilt j (llen L))) (by simp [ev]) (fun hb2 => ?_) (fun hb2 => ?_)
        · replace hj := cd_t hb2 hj
          obtain ⟨g1, hj⟩ := gd_some hj
          obtain ⟨N2, hN2, hj⟩ := bd_some hj
          refine DWp.skip ?_
          simp only [andThen, leaves]
          obtain ⟨gR, u0, u1, hg, m0, m1⟩ := hR.at g1
          generalize gat sw0 L j = c at *
          obtain ⟨⟨eu, ed, ec⟩, ew⟩ := c
          simp only at hg m0 m1
          have i1 := S.recIdx (P := Try.prog) (t := 41) (k := 0) (kk := .i64) rfl kelT kszT gR
          have l1 := S.recAgg (P := Try.prog) (k := 0) rfl kszT kagT gR
          rw [hg] at l1
          refine .seq ?_
          refine .block ?_
          obtain ⟨G2, p11, q1, q2, a2, S2⟩ := S.allocT (P := Try.prog) (hB.le A.1) kzeT rfl
          have A2 := A.ext (hB.le A.1) a2
          replace S2 : Sep G2 (Fr H) [recs 4 u 40 R, pool D, recs 4 w 40 RN, AL.box p11 [.slice none 0 0, .slice none 0 0, .int .i64 0, .int .i64 0]] := S2
          obtain ⟨G3, q3, S3, a3⟩ := S2.putAgg (P := Try.prog) (k := 3) (xs := [u0, u1, .int .i64 ec, .int .i64 ew]) rfl (hB.le A2.1) kszT rfl rfl
          have A3 := A2.trans a3
          replace S3 : Sep G3 (Fr H) [recs 4 u 40 R, pool D, recs 4 w 40 RN, AL.box p11 [u0, u1, .int .i64 ec, .int .i64 ew]] := S3
          refine .sr fun K hK => ?_
          simp [ev, i1, l1, q1, q2, a2.to_pre, q3]
          apply hK
          clear hK K
          refine .sr fun K hK => ?_
          simp []
          apply hK
          clear hK K
          refine .block ?_
          refine DWp.loop (fun n env G => ∃ (k : Int) (N' : List SW) (RN : List (List Value)) (D : List (Value × List Int)) (w : Value), aft4 fu (cndA x2 i) ((eu, ed, ec), ew) n k N' = some N2 ∧ RecR ([(v0_0, x0_0), (v0_1, x0_1)] ++ D) R L ∧ RecR ([(v0_0, x0_0), (v0_1, x0_1)] ++ D) RN N' ∧
            (u0, eu) ∈ [(v0_0, x0_0), (v0_1, x0_1)] ++ D ∧ (u1, ed) ∈ [(v0_0, x0_0), (v0_1, x0_1)] ++ D ∧
            Sep G (Fr H) [recs 4 u 40 R, pool D, recs 4 w 40 RN, AL.box p11 [u0, u1, .int .i64 ec, .int .i64 ew]] ∧ AgB (Fr H) H G ∧ env 1 = some (Value.int .i64 x1) ∧ env 2 = some (Value.int .i64 x2) ∧ env 8 = some (Value.int .i64 i) ∧ env 9 = some w ∧
            env 23 = some u ∧ env 24 = some (Value.int .i64 (llen L)) ∧ env 25 = some (Value.int .i64 j) ∧ env 11 = some p11 ∧ env 12 = some (Value.int .i64 k)) fu ⟨0, N', RN, D, w, hN2, hR, hRN, m0, m1, S3, A3, by simp [ev]⟩ ?_
          clear S3 S2 S A3 A2 A a3 a2 q1 q2 q3 i1 l1 ev hR hRN m0 m1 hN2
          rintro n4 env G ⟨k, N', RN, D, w, hk, hR, hRN, m0, m1, S, A, ev⟩
          cases n4 with
          | zero => cases hk
          | succ n4 =>
            simp only [aft4] at hk
            refine .seq ?_
            refine .sr fun K hK => ?_
            simp [ev]
            apply hK
            clear hK K
            refine DWp.cond' (t := (ilt k 4)) (by simp [ev]) (fun hb4 => ?_) (fun hb4 => ?_)
            · replace hk := cd_t hb4 hk
              refine DWp.skip ?_
              simp only [andThen, leaves]
              obtain ⟨o, ho, hk⟩ := bd_some hk
              refine .seq ?_
              refine .block ?_
              have f0 := S.fieldT (P := Try.prog) (k := 3) rfl kfT0
              have g0 := S.loadSub (P := Try.prog) (k := 3) (off := 0) rfl kszS kagS (by simp)
              replace g0 : aLoad Try.prog G 34 (fldP p11 0) = some (.agg #[u0, u1, .int .i64 ec]) := g0
              have w0 := poolR_sl (D0 := [(v0_0, x0_0), (v0_1, x0_1)]) S (k := 1) rfl (h00 A) m0
              have w1 := poolR_sl (D0 := [(v0_0, x0_0), (v0_1, x0_1)]) S (k := 1) rfl (h00 A) m1
              refine .sr fun K hK => ?_
              simp [ev, f0, g0]
              refine CallD.t (F_spec_stStep_w (fu := fu) w0 w1 ho) ?_
              rintro _ G2 ⟨a2, c0, c1, rfl, T2⟩
              have A2 := A.ext (hB.le A.1) a2.agree
              have S2 : Sep G2 (Fr H) [recs 4 u 40 R, pool D, recs 4 w 40 RN, AL.box p11 [u0, u1, .int .i64 ec, .int .i64 ew], flat c0 3 (ints o.1.1), flat c1 3 (ints o.1.2.1)] := S.app a2.agree T2 (fun _ h => h) (hB.le A.1)
              obtain ⟨G3, p13, q1, q2, a3, S3⟩ := S2.allocT (P := Try.prog) (hB.le A2.1) kzeS rfl
              have A3 := A2.ext (hB.le A2.1) a3
              replace S3 : Sep G3 (Fr H) [recs 4 u 40 R, pool D, recs 4 w 40 RN, AL.box p11 [u0, u1, .int .i64 ec, .int .i64 ew], flat c0 3 (ints o.1.1), flat c1 3 (ints o.1.2.1), AL.box p13 [.slice none 0 0, .slice none 0 0, .int .i64 0]] := S3
              obtain ⟨G4, q3, S4, a4⟩ := S3.putAgg (P := Try.prog) (k := 6) (xs := [c0, c1, .int .i64 o.1.2.2]) rfl (hB.le A3.1) kszS rfl rfl
              have A4 := A3.trans a4
              have S5 := ((S4.poolPut (j := 1) (k := 4) (by decide) rfl rfl).poolPut (j := 1) (k := 5) (by decide) rfl rfl).pick [0, 1, 2, 3, 6] (by decide) rfl
              replace S5 : Sep G4 (Fr H) [recs 4 u 40 R, pool (D ++ [(c0, o.1.1)] ++ [(c1, o.1.2.1)]), recs 4 w 40 RN, AL.box p11 [u0, u1, .int .i64 ec, .int .i64 ew], AL.box p13 [c0, c1, .int .i64 o.1.2.2]] := S5
              have hmD : ∀ e ∈ [(v0_0, x0_0), (v0_1, x0_1)] ++ D, e ∈ [(v0_0, x0_0), (v0_1, x0_1)] ++ (D ++ [(c0, o.1.1)] ++ [(c1, o.1.2.1)]) := fun e he => by
                simp only [List.mem_append] at he ⊢
                rcases he with he | he
                · exact .inl he
                · exact .inr (.inl (.inl he))
              replace hR := RecR.more hR hmD
              replace hRN := RecR.more hRN hmD
              replace m0 := hmD _ m0
              replace m1 := hmD _ m1
              have z0 : (c0, o.1.1) ∈ [(v0_0, x0_0), (v0_1, x0_1)] ++ (D ++ [(c0, o.1.1)] ++ [(c1, o.1.2.1)]) := by simp
              have z1 : (c1, o.1.2.1) ∈ [(v0_0, x0_0), (v0_1, x0_1)] ++ (D ++ [(c0, o.1.1)] ++ [(c1, o.1.2.1)]) := by simp
              have y0 := S4.sl (k := 4) rfl
              have y1 := S4.sl (k := 5) rfl
              simp [ev, f0, g0, a2.pre, q1, q2, a3.to_pre, q3]
              apply hK
              clear hK K
              generalize D ++ [(c0, o.1.1)] ++ [(c1, o.1.2.1)] = D' at *
              clear hmD S S2 S3 S4 A A2 A3 w0 w1 a2 a3 a4 q1 q2 q3 f0 g0 T2
              have j0 := S5.fieldT (P := Try.prog) (k := 4) rfl kfS0
              have j1 := S5.fieldT (P := Try.prog) (k := 4) rfl kfS1
              have i0 := S5.loadF (P := Try.prog) (k := 4) rfl kszL kagL (off := 0) rfl
              have i1 := S5.loadF (P := Try.prog) (k := 4) rfl kszL kagL (off := 1) rfl
              have n0 := lenG (P := Try.prog) y0 kelL
              have n1 := lenG (P := Try.prog) y1 kelL
              refine DWp.seq (DWp.mono (Q := fun x env' G' => x = .normal ∧ G' = G4 ∧ env' 60 = some (Value.bool (o.2 && cndA x2 i o.1)) ∧ env' 1 = some (Value.int .i64 x1) ∧ env' 2 = some (Value.int .i64 x2) ∧ env' 8 = some (Value.int .i64 i) ∧ env' 9 = some w ∧
                env' 23 = some u ∧ env' 24 = some (Value.int .i64 (llen L)) ∧ env' 25 = some (Value.int .i64 j) ∧ env' 11 = some p11 ∧ env' 12 = some (Value.int .i64 k) ∧ env' 13 = some p13) ?_ ?_)
              · cases ho2 : o.2 with
                | false =>
                  refine .region fun K hK => ?_
                  simp [ev, undef, ho2]
                  apply hK
                  simp [ev]
                | true =>
                  rcases Bool.eq_false_or_eq_true (ile (llen o.1.1) (isub .i64 (isub .i64 x2 i) 1)) with hc | hc
                  · refine .region fun K hK => ?_
                    simp [ev, j0, i0, n0, j1, i1, n1, hc, ho2]
                    apply hK
                    simp [ev, cndA, hc]
                  · refine .region fun K hK => ?_
                    simp [ev, j0, i0, n0, hc, undef, ho2]
                    apply hK
                    simp [ev, cndA, hc]
              · rintro x env G' ⟨rfl, rfl, ev⟩
                simp only [andThen]
                refine DWp.cond' (t := (o.2 && cndA x2 i o.1)) (by simp [ev]) (fun hb5 => ?_) (fun hb5 => ?_)
                · replace hk := cd_t hb5 hk
                  obtain ⟨N3, hN3, hk⟩ := bd_some hk
                  have l3 := S5.loadAgg (P := Try.prog) (k := 4) rfl kszS kagS rfl
                  have f1 := S5.fieldT (P := Try.prog) (k := 3) rfl kfT1
                  have w3 := S5.loadF (P := Try.prog) (k := 3) rfl kszI kagI (off := 3) rfl
                  have S6 : Sep G' (Fr H) ([recs 4 w 40 RN] ++ [recs 4 u 40 R, pool D', AL.box p11 [u0, u1, .int .i64 ec, .int .i64 ew], AL.box p13 [c0, c1, .int .i64 o.1.2.2]]) := S5.pick [2, 0, 1, 3, 4] (by decide) rfl
                  obtain ⟨B1, T1, U1, M1, R1, C1⟩ := S6.frame (hB.le A4.1)
                  have hout := poolR_out (B' := B1) (D0 := [(v0_0, x0_0), (v0_1, x0_1)]) S5 (k := 1) rfl (fun e he => ⟨h00 A4 e he, fun i hi hb => hid e he i hi (M1 i hb)⟩) (R1 1 _ rfl)
                  refine .region fun K hK => ?_
                  simp [ev, l3, f1, w3, S5.recTup (k := 2) rfl]
                  refine CallD.t (F_spec_stPut_w (fu := fu) (s := o.1) (w := ew) U1 T1 hRN hout z0 z1 hN3) ?_
                  rintro w' G6 ⟨a6, RN', T6, hRN'⟩
                  have A6 := A4.trans (a6.mono M1)
                  have S7 : Sep G6 (Fr H) [recs 4 w' 40 RN', recs 4 u 40 R, pool D', AL.box p11 [u0, u1, .int .i64 ec, .int .i64 ew], AL.box p13 [c0, c1, .int .i64 o.1.2.2]] := C1 _ _ a6 T6
                  simp [ev, l3, f1, w3]
                  apply hK
                  clear hK K
                  simp only [andThen, leaves]
                  refine .region fun K hK => ?_
                  simp [ev]
                  apply hK
                  clear hK K
                  simp only [andThen, leaves]
                  exact ⟨n4, Nat.lt_succ_self _, _, N3, RN', D', w', hk, hR, hRN', m0, m1, S7.pick [1, 2, 0, 3] (by decide) rfl, A6, by simp [ev]⟩
                · replace hk := cd_f hb5 hk
                  refine DWp.skip ?_
                  simp only [andThen, leaves]
                  refine .region fun K hK => ?_
                  simp [ev]
                  apply hK
                  clear hK K
                  simp only [andThen, leaves]
                  exact ⟨n4, Nat.lt_succ_self _, _, N', RN, D', w, hk, hR, hRN, m0, m1, S5.pick [0, 1, 2, 3] (by decide) rfl, A4, by simp [ev]⟩
            · replace hk := cd_f hb4 hk
              refine DWp.exit ?_
              simp only [andThen, leaves, if_true, if_false, reduceIte, Nat.reduceEqDiff]
              obtain rfl := Option.some.inj hk
              refine .region fun K hK => ?_
              simp [ev]
              apply hK
              clear hK K
              simp only [andThen, leaves]
              exact ⟨n2, Nat.lt_succ_self _, _, N', RN, D, w, hj, hR, hRN, S.pick [0, 1, 2] (by decide) rfl, A, by simp [ev]⟩
        · replace hj := cd_f hb2 hj
          refine DWp.exit ?_
          simp only [andThen, leaves, if_true, if_false, reduceIte, Nat.reduceEqDiff]
          obtain rfl := Option.some.inj hj
          refine .region fun K hK => ?_
          simp [ev]
          apply hK
          clear hK K
          simp only [andThen, leaves]
          refine .region fun K hK => ?_
          simp [ev]
          apply hK
          clear hK K
          simp only [andThen, leaves]
          exact ⟨n, Nat.lt_succ_self _, _, N', RN, D, w, hL, hRN, S.pick [2, 1] (by decide) rfl, A, by simp [ev]⟩
    · replace hL := cd_f hb hL
      refine DWp.exit ?_
      simp only [andThen, leaves, if_true, if_false, reduceIte, Nat.reduceEqDiff]
      obtain rfl := Option.some.inj hL
      refine .sr fun K hK => ?_
      simp [ev]
      apply hK
      clear hK K
      refine DWp.ret ?_
      exact ⟨by simp, [u], by simp [ev, S.recTup (k := 0) rfl], A, R, D, hR, S⟩
end Go.Proofs.Ytdbflchpbhkanaa.AL

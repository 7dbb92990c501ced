/- spec.stPut: a state's ways put into an ordered list. No condition. -/
import Derived.Test.YtdbflchpbhkanaaG1
import Derived.Test.YtdbflchpbhkanaaG2
import Derived.Test.YtdbflchpbhkanaaG3
import Derived.Test.YtdbflchpbhkanaaG4
import Derived.Test.YtdbflchpbhkanaaG5
import Derived.Test.YtdbflchpbhkanaaG6
import Derived.Test.YtdbflchpbhkanaaGK1
import Derived.Test.YtdbflchpbhkanaaPD1
import Derived.Test.YtdbflchpbhkanaaAL52
namespace Go.Proofs.Ytdbflchpbhkanaa.AL
open Go Go.RowKit
set_option linter.unusedVariables false
set_option linter.unusedSimpArgs false
set_option maxRecDepth 4096
attribute [local simp] n_fn b_add b_sub b_mul b_lt b_le b_gt b_ge b_eq b_ne u_not
theorem kelT : elemT Try.prog 41 = some 40 := by kernel_rfl
theorem keiT : einfo Try.prog 40 = some ⟨4, 64, .agg #[.slice none 0 0, .slice none 0 0, .int .i64 0, .int .i64 0]⟩ := by kernel_rfl
theorem kszT : sizeT Try.prog 40 = some 4 := by kernel_rfl
theorem kagT : aggT Try.prog 40 = some true := by kernel_rfl
theorem kzeT : zeroT Try.prog 40 = some (.agg #[.slice none 0 0, .slice none 0 0, .int .i64 0, .int .i64 0]) := by kernel_rfl
theorem kfT0 : fldT Try.prog 40 0 = some 0 := by kernel_rfl
theorem kfT1 : fldT Try.prog 40 1 = some 3 := by kernel_rfl
theorem kplT : placeT Try.prog 40 = some (.agg #[.slice none 0 0, .slice none 0 0, .int .i64 0, .int .i64 0], fun i => [(0, 3), (3, 1)].toArray[i]?) := by kernel_rfl
theorem kbuT {x y w : Value} {n : Int} : aBuild Try.prog 40 [(0, .agg #[x, y, w]), (1, .int .i64 n)] = some (.agg #[x, y, w, .int .i64 n]) := buildS31 kplT rfl rfl rfl rfl
theorem kbuT1 {n : Int} : aBuild Try.prog 40 [(1, .int .i64 n)] = some (.agg #[.slice none 0 0, .slice none 0 0, .int .i64 0, .int .i64 n]) := buildS01 kplT rfl rfl rfl rfl
theorem kbuT0 : aBuild Try.prog 40 [] = some (.agg #[.slice none 0 0, .slice none 0 0, .int .i64 0, .int .i64 0]) := build0 (cs := [.slice none 0 0, .slice none 0 0, .int .i64 0, .int .i64 0]) kplT rfl rfl
abbrev SW := St3 × Int
def sw0 : SW := (([], [], 0), 0)
/-- What the list's records are. -/
def RecR (D : List (Value × List Int)) : List (List Value) → List SW → Prop := All2 fun r x => ∃ u0 u1, r = [u0, u1, .int .i64 x.1.2.2, .int .i64 x.2] ∧ (u0, x.1.1) ∈ D ∧ (u1, x.1.2.1) ∈ D
theorem RecR.more {D D' : List (Value × List Int)} {R : List (List Value)} {L : List SW} (h : RecR D R L) (hs : ∀ e ∈ D, e ∈ D') : RecR D' R L := h.imp fun _ _ ⟨u0, u1, a, b, c⟩ => ⟨u0, u1, a, hs _ b, hs _ c⟩
theorem RecR.at {D : List (Value × List Int)} {R : List (List Value)} {L : List SW} (h : RecR D R L) {i : Int} (hi : inL L i) : inL R i ∧ ∃ u0 u1, gat [] R i = [u0, u1, .int .i64 (gat sw0 L i).1.2.2, .int .i64 (gat sw0 L i).2] ∧ (u0, (gat sw0 L i).1.1) ∈ D ∧ (u1, (gat sw0 L i).1.2.1) ∈ D := by
  have hl : R.length = L.length := All2.length h
  have hR : inL R i := by unfold inL at hi ⊢; omega
  obtain ⟨x, hx, u0, u1, e, a, b⟩ := All2.get h i.toNat _ (gat_get (d := []) hR)
  have := gat_get (d := sw0) hi
  rw [hx] at this
  cases this
  exact ⟨hR, u0, u1, e, a, b⟩
theorem All2.setAt {α β : Type} {S : α → β → Prop} {l : List α} {m : List β} (h : All2 S l m) {j : Nat} {a : α} {b : β} (hab : S a b) : All2 S (l.set j a) (m.set j b) := by
  refine All2.of_get (by simp [h.length]) fun i x y hx hy => ?_
  rw [List.getElem?_set] at hx hy
  by_cases e : j = i
  · rw [if_pos e] at hx hy
    split at hx
    · split at hy
      · cases hx; cases hy; exact hab
      · cases hy
    · cases hx
  · rw [if_neg e] at hx hy
    obtain ⟨y', hy', q⟩ := h.get i x hx
    rw [hy] at hy'
    cases hy'
    exact q
theorem ins_list {α : Type} {R : List α} {z x : α} {n : Nat} (hn : n ≤ R.length) : (((R ++ [z]).take (n + 1) ++ ((R ++ [z]).drop n).take ((R ++ [z]).length - n - 1)).set n x) = R.take n ++ x :: R.drop n := by
  have e1 : ((R ++ [z]).drop n).take ((R ++ [z]).length - n - 1) = R.drop n := by
    rw [List.length_append, List.length_singleton, List.drop_append_of_le_length hn, List.take_append_of_le_length (by rw [List.length_drop]; omega), List.take_of_length_le (by rw [List.length_drop]; omega)]
  have e2 : ∃ y, (R ++ [z]).take (n + 1) = R.take n ++ [y] := by
    have hlt : n < (R ++ [z]).length := by simp; omega
    refine ⟨(R ++ [z])[n], ?_⟩
    rw [← List.take_append_getElem hlt, List.take_append_of_le_length hn]
  obtain ⟨y, e2⟩ := e2
  rw [e1, e2, List.append_assoc, List.set_append]
  have hl : (R.take n).length = n := by rw [List.length_take]; omega
  rw [hl, if_neg (by omega), Nat.sub_self]
  rfl
theorem iadd_one {n : Int} (h0 : 0 ≤ n) (h1 : n ≤ 4294967296) : iadd .i64 n 1 = n + 1 := by
  unfold iadd
  rw [wrF_eq, wrap_id (by omega) (by omega)]
def put_L (fu : Nat) (L : List SW) (s : St3) : Nat → Int → Int → Option (Int × Int)
  | 0, _, _ => none
  | n + 1, low, high =>
    bif ilt low high then
      gd (inL L (iquo .i64 (iadd .i64 low high) 2)) (
      bd (F_spec_stLess fu (gat sw0 L (iquo .i64 (iadd .i64 low high) 2)).1.1 (gat sw0 L (iquo .i64 (iadd .i64 low high) 2)).1.2.1 (gat sw0 L (iquo .i64 (iadd .i64 low high) 2)).1.2.2 s.1 s.2.1 s.2.2) fun b =>
      bif b then
        put_L fu L s n (iadd .i64 (iquo .i64 (iadd .i64 low high) 2) 1) high
      else
        put_L fu L s n low (iquo .i64 (iadd .i64 low high) 2))
    else
      some (low, high)
def F_spec_stPut (fu : Nat) (L : List SW) (s : St3) (w : Int) : Option (List SW) :=
  bd (put_L fu L s fu 0 (llen L)) fun lh =>
  bd (bif ilt lh.1 (llen L) then gd (inL L lh.1) (bd (F_spec_stLess fu s.1 s.2.1 s.2.2 (gat sw0 L lh.1).1.1 (gat sw0 L lh.1).1.2.1 (gat sw0 L lh.1).1.2.2) fun b => some (bnot b)) else some false) fun c =>
  bif c then
    gd (inL L lh.1) (some (lset L lh.1 ((gat sw0 L lh.1).1, iadd .i64 (gat sw0 L lh.1).2 w)))
  else
    gd (L.length + 1 ≤ 4294967296) (
    gd (0 ≤ lh.1 ∧ lh.1 ≤ L.length) (some (L.take lh.1.toNat ++ (s, w) :: L.drop lh.1.toNat)))
set_option maxHeartbeats 4000000 in
theorem F_spec_stPut_w {fu : Nat} {H : AH} {B : Nat → Prop} {u v0 v1 : Value} {R : List (List Value)} {L : List SW} {s : St3} {w : Int} {D : List (Value × List Int)} {r : List SW} (hB : Up B H.length) (S0 : Sep H B [recs 4 u 40 R]) (hR : RecR D R L)
    (hD : ∀ e ∈ D, Sl H e.1 (ints e.2) ∧ ∀ i, idOf e.1 = some i → ¬ B i) (h0 : (v0, s.1) ∈ D) (h1 : (v1, s.2.1) ∈ D) (hF : F_spec_stPut fu L s w = some r) :
    ACallT Try.prog 20 [u, (Value.agg #[v0, v1, (Value.int .i64 s.2.2)]), (Value.int .i64 w)] H (fun x G => AgB B H G ∧ ∃ R', Sep G B [recs 4 x 40 R'] ∧ RecR D R' r) := by
  refine ACallT.of_body (nt := 72) (rs := [.tmp 6]) Try.func20 rfl rfl rfl rfl ?_
  have A0 : AgB B H H := .refl _ _
  have sl : ∀ {G : AH} {v : Value} {xs : List Int}, AgB B H G → (v, xs) ∈ D → Sl G v (ints xs) := fun a he => (hD _ he).1.agr a (hD _ he).2
  have hl : R.length = L.length := All2.length hR
  have hll : llen R = llen L := by unfold llen; rw [hl]
  unfold F_spec_stPut at hF
  obtain ⟨G1, p4, q1, q2, a1, S1⟩ := S0.boxT hB 34 [v0, v1, (Value.int .i64 s.2.2)]
  have A1 := A0.ext hB a1
  replace S1 : Sep G1 B [recs 4 u 40 R, AL.box p4 [v0, v1, (Value.int .i64 s.2.2)]] := S1
  refine .sr fun K hK => ?_
  simp [q1, q2, a1.to_pre, cells_agg]
  apply hK
  clear hK K
  obtain ⟨lh, hL, hF⟩ := bd_some hF
  have n1 := S1.recLen (P := Try.prog) (k := 0) rfl kelT
  rw [hll] at n1
  refine .sr fun K hK => ?_
  simp [n1]
  apply hK
  clear hK K
  refine .seq ?_
  refine .block ?_
  refine DWp.loop (fun n env G => ∃ low high : Int, put_L fu L s n low high = some lh ∧ Sep G B [recs 4 u 40 R, AL.box p4 [v0, v1, (Value.int .i64 s.2.2)]] ∧ AgB B H G ∧
    env 0 = some u ∧ env 2 = some (Value.int .i64 w) ∧ env 4 = some p4 ∧ env 7 = some (Value.int .i64 low) ∧ env 8 = some (Value.int .i64 high)) fu ⟨0, llen L, hL, S1, A1, by simp⟩ ?_
  clear hL S1 A1 a1 q1 q2 n1
  rintro n env G ⟨low, high, hL, S, A, ev⟩
  cases n with
  | zero => cases hL
  | succ n =>
    simp only [put_L] at hL
    refine .seq ?_
    refine .sr fun K hK => ?_
    simp [ev]
    apply hK
    clear hK K
    refine DWp.cond' (t := (ilt low high)) (by simp [ev]) (fun hb => ?_) (fun hb => ?_)
    · replace hL := cd_t hb hL
      refine DWp.skip ?_
      simp only [andThen, leaves]
      obtain ⟨g1, hL⟩ := gd_some hL
      obtain ⟨b, hb1, hL⟩ := bd_some hL
      have h2 : (2 : Int) ≠ 0 := by decide
      refine .block ?_
      refine .sr fun K hK => ?_
      simp [ev, b_quo h2]
      apply hK
      clear hK K
      generalize iquo .i64 (iadd .i64 low high) 2 = mid at *
      obtain ⟨gR, u0, u1, hg, m0, m1⟩ := hR.at g1
      have i1 := S.recIdx (P := Try.prog) (t := 41) (k := 0) (kk := .i64) rfl kelT kszT gR
      have f1 := S.recFld (P := Try.prog) (t := 40) (k := 0) (i := mid) (p := mid.toNat * 4) rfl kfT0 gR
      have l1 := S.recSub (P := Try.prog) (f := 34) (k := 0) (m := 3) rfl kszS (by decide) kagS gR
      rw [hg] at l1
      replace l1 : aLoad Try.prog G 34 (elP u (mid.toNat * 4)) = some (.agg #[u0, u1, .int .i64 (gat sw0 L mid).1.2.2]) := l1
      have l2 := S.loadAgg (P := Try.prog) (k := 1) rfl kszS kagS rfl
      refine .sd (B := [0, 0, 3, 7, 15, 0, 63]) 7 mixed (by kernel_rfl) (by decide) fun K hK => ?_
      simp [ev, i1, f1, l1, l2]
      refine CallD.t (F_spec_stLess_w (fu := fu) (sl A m0) (sl A m1) (sl A h0) (sl A h1) hb1) ?_
      rintro _ G2 ⟨a2, rfl, _⟩
      have A2 := A.ext (hB.le A.1) a2.agree
      have S2 := S.agree a2.agree
      simp [ev, i1, f1, l1, l2, a2.pre]
      apply hK
      clear hK K
      refine DWp.cond' (t := b) (by simp [ev]) (fun hb2 => ?_) (fun hb2 => ?_)
      · replace hL := cd_t hb2 hL
        refine .region fun K hK => ?_
        simp [ev]
        apply hK
        clear hK K
        simp only [andThen, leaves]
        exact ⟨n, Nat.lt_succ_self _, _, _, hL, S2, A2, by simp [ev]⟩
      · replace hL := cd_f hb2 hL
        refine .region fun K hK => ?_
        simp [ev]
        apply hK
        clear hK K
        simp only [andThen, leaves]
        exact ⟨n, Nat.lt_succ_self _, _, _, hL, S2, A2, by simp [ev]⟩
    · replace hL := cd_f hb hL
      refine DWp.exit ?_
      simp only [andThen, leaves, if_true, if_false, reduceIte, Nat.reduceEqDiff]
      obtain rfl := Option.some.inj hL
      simp only at hF
      obtain ⟨c, hc, hF⟩ := bd_some hF
      have n1 := S.recLen (P := Try.prog) (k := 0) rfl kelT
      rw [hll] at n1
      refine .seq ?_
      refine DWp.seq (DWp.mono (Q := fun x env' G' => x = .normal ∧ Sep G' B [recs 4 u 40 R, AL.box p4 [v0, v1, (Value.int .i64 s.2.2)]] ∧ AgB B H G' ∧
        env' 0 = some u ∧ env' 2 = some (Value.int .i64 w) ∧ env' 4 = some p4 ∧ env' 7 = some (Value.int .i64 low) ∧ env' 42 = some (Value.bool c)) ?_ ?_)
      · rcases Bool.eq_false_or_eq_true (ilt low (llen L)) with hb1 | hb1
        · replace hc := cd_t hb1 hc
          obtain ⟨g1, hc⟩ := gd_some hc
          obtain ⟨b, hb2, hc⟩ := bd_some hc
          obtain rfl := Option.some.inj hc
          obtain ⟨gR, u0, u1, hg, m0, m1⟩ := hR.at g1
          have i1 := S.recIdx (P := Try.prog) (t := 41) (k := 0) (kk := .i64) rfl kelT kszT gR
          have f1 := S.recFld (P := Try.prog) (t := 40) (k := 0) (i := low) (p := low.toNat * 4) rfl kfT0 gR
          have l1 := S.recSub (P := Try.prog) (f := 34) (k := 0) (m := 3) rfl kszS (by decide) kagS gR
          rw [hg] at l1
          replace l1 : aLoad Try.prog G 34 (elP u (low.toNat * 4)) = some (.agg #[u0, u1, .int .i64 (gat sw0 L low).1.2.2]) := l1
          have l2 := S.loadAgg (P := Try.prog) (k := 1) rfl kszS kagS rfl
          refine DWp.drawn (B := [0, 0, 2, 7, 15, 31, 31, 31, 223, 479, 991, 2047, 4095, 8191]) 14 mixed (by kernel_rfl) (by decide) fun K hK => ?_
          simp [ev, n1, hb1, i1, f1, l1, l2]
          refine CallD.t (F_spec_stLess_w (fu := fu) (sl A h0) (sl A h1) (sl A m0) (sl A m1) hb2) ?_
          rintro _ G2 ⟨a2, rfl, _⟩
          simp [ev, n1, hb1, i1, f1, l1, l2, a2.pre]
          apply hK
          exact ⟨rfl, S.agree a2.agree, A.ext (hB.le A.1) a2.agree, by simp [ev]⟩
        · replace hc := cd_f hb1 hc
          obtain rfl := Option.some.inj hc
          refine DWp.drawn (B := [0, 0, 2, 7, 15, 31, 31, 31, 223, 479, 991, 2047, 4095, 8191]) 14 mixed (by kernel_rfl) (by decide) fun K hK => ?_
          simp [ev, n1, hb1, undef]
          apply hK
          exact ⟨rfl, S, A, by simp [ev]⟩
      · clear S A ev n1 hc
        rintro x env G ⟨rfl, S, A, ev⟩
        simp only [andThen]
        refine DWp.cond' (t := c) (by simp [ev]) (fun hb2 => ?_) (fun hb2 => ?_)
        · replace hF := cd_t hb2 hF
          obtain ⟨g1, hF⟩ := gd_some hF
          obtain rfl := Option.some.inj hF
          obtain ⟨gR, u0, u1, hg, m0, m1⟩ := hR.at g1
          have i1 := S.recIdx (P := Try.prog) (t := 41) (k := 0) (kk := .i64) rfl kelT kszT gR
          have f1 := S.recFld (P := Try.prog) (t := 40) (k := 0) (i := low) (p := low.toNat * 4) rfl kfT1 gR
          have l1 := S.recCell (P := Try.prog) (f := 3) (k := 0) (m := 3) (x := .int .i64 (gat sw0 L low).2) rfl kszI kagI gR (by rw [hg]; rfl)
          obtain ⟨G2, q2, S2, a2⟩ := S.recPutC (P := Try.prog) (f := 3) (k := 0) (m := 3) (x := .int .i64 (iadd .i64 (gat sw0 L low).2 w)) rfl (hB.le A.1) kszI gR (by decide) rfl rfl
          have A2 := A.trans a2
          rw [hg] at S2
          replace S2 : Sep G2 B [recs 4 u 40 (lset R low [u0, u1, .int .i64 (gat sw0 L low).1.2.2, .int .i64 (iadd .i64 (gat sw0 L low).2 w)]), AL.box p4 [v0, v1, (Value.int .i64 s.2.2)]] := S2
          refine .sr fun K hK => ?_
          simp [ev, i1, f1, l1, q2]
          apply hK
          clear hK K
          refine .sr fun K hK => ?_
          simp [ev]
          apply hK
          clear hK K
          refine DWp.ret ?_
          simp only [andThen]
          refine ⟨by simp, [u], by simp [ev, S.recTup (k := 0) rfl], A2, _, S2.pick [0] (by decide) rfl, ?_⟩
          exact All2.setAt hR ⟨u0, u1, rfl, m0, m1⟩
        · replace hF := cd_f hb2 hF
          obtain ⟨g1, hF⟩ := gd_some hF
          obtain ⟨g2, hF⟩ := gd_some hF
          obtain rfl := Option.some.inj hF
          refine DWp.skip ?_
          simp only [andThen]
          have bu0 := kbuT0
          obtain ⟨vz, G2, q2, S2, a2, t2, _⟩ := S.recLit (P := Try.prog) (t := 41) (r := [.slice none 0 0, .slice none 0 0, .int .i64 0, .int .i64 0]) (hB.le A.1) kelT keiT rfl (by decide)
          have A2 := A.ext (hB.le A.1) a2
          replace S2 : Sep G2 B [recs 4 u 40 R, AL.box p4 [v0, v1, (Value.int .i64 s.2.2)], recs 4 vz 40 [[.slice none 0 0, .slice none 0 0, .int .i64 0, .int .i64 0]]] := S2
          obtain ⟨v, G3, q3, S3, a3, t3, _⟩ := S2.recPush (P := Try.prog) (t := 41) (t2 := 41) (k := 0) (j := 2) (by decide) rfl rfl (hB.le A2.1) kelT kelT keiT rfl (by omega)
          have A3 := A2.trans a3
          replace S3 : Sep G3 B [recs 4 v 40 (R ++ [[.slice none 0 0, .slice none 0 0, .int .i64 0, .int .i64 0]]), AL.box p4 [v0, v1, (Value.int .i64 s.2.2)]] := S3.pick [0, 1] (by decide) rfl
          refine .sr fun K hK => ?_
          simp [ev, bu0, q2, a2.to_pre, t2, q3, t3, S.recTup (k := 0) rfl]
          apply hK
          clear hK K
          have hin : inL (R ++ [[Value.slice none 0 0, .slice none 0 0, .int .i64 0, .int .i64 0]]) low := by
            unfold inL
            simp
            omega
          have e1 := iadd_one g2.1 (by omega)
          obtain ⟨sa, sb, G4, q4, q5, ta, tb, q6, S4, a4⟩ := S3.recShift (P := Try.prog) (t := 41) (k := 0) rfl (hB.le A3.1) kelT kszT hin
          have A4 := A3.trans a4
          rw [← e1] at q4
          have hin2 : inL ((R ++ [[Value.slice none 0 0, .slice none 0 0, .int .i64 0, .int .i64 0]]).take (low.toNat + 1) ++ ((R ++ [[Value.slice none 0 0, .slice none 0 0, .int .i64 0, .int .i64 0]]).drop low.toNat).take ((R ++ [[Value.slice none 0 0, .slice none 0 0, .int .i64 0, .int .i64 0]]).length - low.toNat - 1)) low := by
            unfold inL
            simp
            omega
          refine .sd (B := [0, 0, 2, 7, 0, 0, 48, 127]) 7 mixed (by kernel_rfl) (by decide) fun K hK => ?_
          simp [ev, q4, q5, ta, tb, q6]
          apply hK
          clear hK K
          have l2 := S4.loadAgg (P := Try.prog) (k := 1) rfl kszS kagS rfl
          have bu := kbuT (x := v0) (y := v1) (w := .int .i64 s.2.2) (n := w)
          have i1 := S4.recIdx (P := Try.prog) (t := 41) (k := 0) (kk := .i64) rfl kelT kszT hin2
          obtain ⟨G5, q7, S5, a5⟩ := S4.recPut (P := Try.prog) (k := 0) (r := [v0, v1, .int .i64 s.2.2, .int .i64 w]) rfl (hB.le A4.1) kszT hin2 rfl
          have A5 := A4.trans a5
          refine .sr fun K hK => ?_
          simp [ev, l2, bu, i1, q7]
          apply hK
          clear hK K
          refine .sr fun K hK => ?_
          simp [ev]
          apply hK
          clear hK K
          refine DWp.ret ?_
          have hlow : low.toNat ≤ R.length := by omega
          have hst : lset ((R ++ [[Value.slice none 0 0, .slice none 0 0, .int .i64 0, .int .i64 0]]).take (low.toNat + 1) ++ ((R ++ [[Value.slice none 0 0, .slice none 0 0, .int .i64 0, .int .i64 0]]).drop low.toNat).take ((R ++ [[Value.slice none 0 0, .slice none 0 0, .int .i64 0, .int .i64 0]]).length - low.toNat - 1)) low [v0, v1, .int .i64 s.2.2, .int .i64 w] = R.take low.toNat ++ [v0, v1, .int .i64 s.2.2, .int .i64 w] :: R.drop low.toNat := ins_list hlow
          have S6 := S5.pick [0] (by decide) rfl
          refine ⟨by simp, [v], by simp [ev, t3], A5, R.take low.toNat ++ [v0, v1, .int .i64 s.2.2, .int .i64 w] :: R.drop low.toNat, ?_, ?_⟩
          · rw [← hst]
            exact S6
          · exact All2.append (All2.take hR _) (.cons ⟨v0, v1, rfl, h0, h1⟩ (All2.drop hR _))
end Go.Proofs.Ytdbflchpbhkanaa.AL

/- impl.renumbered and the function in it: parts are numbered anew by a map. No condition. -/
import Derived.Test.YtdbflchpbhkanaaG1
import Derived.Test.YtdbflchpbhkanaaAL51
import Derived.Test.YtdbflchpbhkanaaProg
import Derived.KernelRfl
namespace Go.Proofs.Ytdbflchpbhkanaa.AL
open Go Go.RowKit
set_option linter.unusedVariables false
set_option linter.unusedSimpArgs false
set_option maxRecDepth 4096
attribute [local simp] n_fn b_add b_sub b_mul b_lt b_le b_gt b_ge b_eq b_ne u_not
theorem kelL : elemT Try.prog 25 = some 3 := by kernel_rfl
theorem keiI : einfo Try.prog 3 = some ⟨1, 8, .int .i64 0⟩ := by kernel_rfl
theorem kszI : sizeT Try.prog 3 = some 1 := by kernel_rfl
theorem kagI : aggT Try.prog 3 = some false := by kernel_rfl
theorem kszL : sizeT Try.prog 25 = some 1 := by kernel_rfl
theorem kagL : aggT Try.prog 25 = some false := by kernel_rfl
theorem kszM : sizeT Try.prog 62 = some 1 := by kernel_rfl
theorem kagM : aggT Try.prog 62 = some false := by kernel_rfl
theorem kmtM : mapT Try.prog 62 = some (.int .i64, 1, .int .i64 0) := by kernel_rfl
theorem kunM : Try.prog.underlying 62 = some (.map 3 3) := by kernel_rfl
theorem kzeM : zeroT Try.prog 62 = some (.map none) := by kernel_rfl
theorem kszS : sizeT Try.prog 34 = some 3 := by kernel_rfl
theorem kagS : aggT Try.prog 34 = some true := by kernel_rfl
theorem kzeS : zeroT Try.prog 34 = some (.agg #[.slice none 0 0, .slice none 0 0, .int .i64 0]) := by kernel_rfl
theorem kfS0 : fldT Try.prog 34 0 = some 0 := by kernel_rfl
theorem kfS1 : fldT Try.prog 34 1 = some 1 := by kernel_rfl
theorem kfS2 : fldT Try.prog 34 2 = some 2 := by kernel_rfl
theorem kplS : placeT Try.prog 34 = some (.agg #[.slice none 0 0, .slice none 0 0, .int .i64 0], fun i => [(0, 1), (1, 1), (2, 1)].toArray[i]?) := by kernel_rfl
theorem kbuS {a0 a1 a2 : Value} (t0 : isTup a0 = false) (c0 : a0.cells = #[a0]) (t1 : isTup a1 = false) (c1 : a1.cells = #[a1]) (t2 : isTup a2 = false) (c2 : a2.cells = #[a2]) : aBuild Try.prog 34 [(0, a0), (1, a1), (2, a2)] = some (.agg #[a0, a1, a2]) := buildT3 kplS rfl rfl t0 c0 t1 c1 t2 c2
/-- A list's numbers by the order in which they came first. -/
def ren_L : Nat → List Int → Int → List Int → List (Int × Int) → Option (List Int × List (Int × Int))
  | 0, _, _, _, _ => none
  | n + 1, xs, i, out, m =>
    bif ilt i (llen xs) then
      gd (inL xs i) (
      gd (out.length + 1 ≤ 4294967296) (
      ren_L n xs (iadd .i64 i 1) (lapp out [(mgetI (gat 0 xs i) (bif bnot (mgetI (gat 0 xs i) m).isSome then mputI (gat 0 xs i) (llen m) m else m)).getD 0]) (bif bnot (mgetI (gat 0 xs i) m).isSome then mputI (gat 0 xs i) (llen m) m else m)))
    else
      some (out, m)
theorem Sep.loadM {G : AH} {B : Nat → Prop} {l : List Item} {k : Nat} {p v : Value} (S : Sep G B l) (hk : l[k]? = some (AL.box p [v])) : aLoad Try.prog G 62 p = some v := S.load0 hk kszM kagM
theorem F_impl_renumbered_1_w {fu : Nat} {H : AH} {B : Nat → Prop} {v0 p mv : Value} {xs : List Int} {m : List (Int × Int)} {r : List Int × List (Int × Int)} (hB : Up B H.length) (S0 : Sep H B [AL.box p [mv], mapI mv m]) (hx : Sl H v0 (ints xs)) (hd : ∀ i, idOf v0 = some i → ¬ B i) (hF : ren_L fu xs 0 [] m = some r) :
    ACallT Try.prog 50 [v0, p] H (fun u G => AgB B H G ∧ ∃ u0 : Value, u = u0 ∧ Sep G B [AL.box p [mv], mapI mv r.2, flat u0 3 (ints r.1)]) := by
  refine ACallT.of_body (nt := 36) (rs := [.tmp 3]) Try.func50 rfl rfl rfl rfl ?_
  have A0 : AgB B H H := .refl _ _
  refine .sr fun K hK => ?_
  simp []
  apply hK
  clear hK K
  obtain ⟨v9, G1, q1, S1, a1, t1, _⟩ := S0.lit0 (t := 25) hB kelL keiI rfl
  have A1 := A0.ext hB a1
  refine .sr fun K hK => ?_
  simp [q1, a1.to_pre, t1]
  apply hK
  clear hK K
  have q2 := lenG (P := Try.prog) (hx.agr A1 hd) kelL
  refine .seq ?_
  refine .sr fun K hK => ?_
  simp [q2]
  apply hK
  clear hK K
  refine .block ?_
  have S1' := S1.weak (k := 2) rfl
  replace S1' : Sep G1 B [AL.box p [mv], mapI mv m, flat v9 3 (ints [])] := S1'
  refine DWp.loop (fun n env G => ∃ (i : Int) (out : List Int) (m' : List (Int × Int)) (w : Value), ren_L n xs i out m' = some r ∧ Sep G B [AL.box p [mv], mapI mv m', flat w 3 (ints out)] ∧ AgB B H G ∧
    env 0 = some v0 ∧ env 1 = some p ∧ env 4 = some w ∧ env 10 = some v0 ∧ env 11 = some (Value.int .i64 (llen xs)) ∧ env 12 = some (Value.int .i64 i)) fu ⟨0, [], m, v9, hF, S1', A1, by simp⟩ ?_
  clear hF
  rintro n env G ⟨i, out, m', w, hL, S, A, E⟩
  cases n with
  | zero => cases hL
  | succ n =>
    simp only [ren_L] at hL
    refine .sr fun K hK => ?_
    simp [E]
    apply hK
    clear hK K
    refine .seq ?_
    refine DWp.cond' (t := (ilt i (llen xs))) (by simp [E]) (fun hb => ?_) (fun hb => ?_)
    · replace hL := cd_t hb hL
      refine DWp.skip ?_
      simp only [andThen, leaves]
      refine .seq ?_
      refine .block ?_
      obtain ⟨g1, hL⟩ := gd_some hL
      obtain ⟨g2, hL⟩ := gd_some hL
      have q3 := idxG (P := Try.prog) (kk := .i64) (hx.agr A hd) kelL kszI g1
      have q4 := loadG (P := Try.prog) (hx.agr A hd) kszI kagI g1 0
      refine .sr fun K hK => ?_
      simp [E, q3, q4]
      apply hK
      clear hK K
      generalize gat 0 xs i = x at *
      have q5 := S.loadM (k := 0) rfl
      have q6 := S.miLookOk (P := Try.prog) (k := 1) (q := x) rfl kmtM
      refine .seq ?_
      refine .sr fun K hK => ?_
      simp [E, q5, q6, (S.mapTup (k := 1) rfl)]
      apply hK
      clear hK K
      refine .sr fun K hK => ?_
      simp [E]
      apply hK
      clear hK K
      refine DWp.join (fun env2 G2 => ∃ m2, m2 = (bif bnot (mgetI x m').isSome then mputI x (llen m') m' else m') ∧ Sep G2 B [AL.box p [mv], mapI mv m2, flat w 3 (ints out)] ∧ AgB B H G2 ∧ env2 0 = some v0 ∧ env2 1 = some p ∧ env2 4 = some w ∧ env2 10 = some v0 ∧ env2 11 = some (Value.int .i64 (llen xs)) ∧ env2 12 = some (Value.int .i64 i) ∧ env2 6 = some (Value.int .i64 x)) ?_ ?_
      · refine DWp.cond' (t := bnot (mgetI x m').isSome) (by simp [E]) (fun hb2 => ?_) (fun hb2 => ?_)
        · have q7 := S.miLen (P := Try.prog) (k := 1) rfl kunM
          obtain ⟨G2, q8, S2, a2⟩ := S.miPut (P := Try.prog) (k := 1) (q := x) (x := llen m') rfl (hB.le A.1) kmtM
          replace S2 : Sep G2 B [AL.box p [mv], mapI mv (mputI x (llen m') m'), flat w 3 (ints out)] := S2
          refine .region fun K hK => ?_
          simp [E, q5, q7, q8, (S.mapTup (k := 1) rfl)]
          apply hK
          clear hK K
          simp only [andThen]
          exact ⟨_, by rw [hb2]; rfl, S2, A.trans a2, by simp [E]⟩
        · refine DWp.skip ?_
          simp only [andThen]
          exact ⟨_, by rw [hb2]; rfl, S, A, by simp [E]⟩
      · clear S q5 q6
        rintro env2 G2 ⟨m2, hm2, S, A2, E2⟩
        rw [← hm2] at hL
        have q5 := S.loadM (k := 0) rfl
        have q6 := S.miLook (P := Try.prog) (k := 1) (q := x) rfl kmtM
        obtain ⟨v3, G3, q7, S3, a3, t3, _⟩ := S.lit1 (P := Try.prog) (t := 25) (hB.le A2.1) kelL keiI rfl (.int .i64 ((mgetI x m2).getD 0)) rfl rfl
        have A3 := A2.ext (hB.le A2.1) a3
        replace S3 : Sep G3 B [AL.box p [mv], mapI mv m2, flat w 3 (ints out), flat1 v3 3 (ints [(mgetI x m2).getD 0])] := S3
        obtain ⟨v4, G4, q8, S4, a4, t4, _⟩ := S3.appendG (P := Try.prog) (f := Value.int .i64) (k := 2) (xs := out) (ys := [(mgetI x m2).getD 0]) (t := 25) (t2 := 25) rfl (hB.le A3.1) kelL kelL keiI rfl (S3.sl1 (k := 3) rfl) g2
        have A4 := A3.trans a4
        replace S4 : Sep G4 B [AL.box p [mv], mapI mv m2, flat v4 3 (ints (lapp out [(mgetI x m2).getD 0])), flat1 v3 3 (ints [(mgetI x m2).getD 0])] := S4
        refine .region fun K hK => ?_
        simp [E2, q5, q6, q7, a3.to_pre, q8, t3, t4, (S.mapTup (k := 1) rfl), ((S.sl (k := 2) rfl).tup)]
        apply hK
        clear hK K
        simp only [andThen, leaves]
        refine .region fun K hK => ?_
        simp [E2]
        apply hK
        clear hK K
        simp only [andThen, leaves]
        exact ⟨n, Nat.lt_succ_self _, _, _, _, v4, hL, S4.pick [0, 1, 2] (by decide) rfl, A4, by simp [E2]⟩
    · replace hL := cd_f hb hL
      refine DWp.exit ?_
      simp only [andThen, leaves, if_true, if_false, reduceIte, Nat.reduceEqDiff]
      obtain rfl := Option.some.inj hL
      refine .sr fun K hK => ?_
      simp [E]
      apply hK
      clear hK K
      refine DWp.ret ?_
      exact ⟨by simp, [w], by simp [E, ((S.sl (k := 2) rfl).tup)], A, w, rfl, S⟩
def F_impl_renumbered (fu : Nat) (x0 x1 : List Int) (x2 : Int) : Option (List Int × List Int × Int) :=
  bd (ren_L fu x0 0 [] []) fun a =>
  bd (ren_L fu x1 0 [] a.2) fun b =>
  some (a.1, b.1, x2)
theorem F_impl_renumbered_w {fu : Nat} {H : AH} {v0_0 v0_1 : Value} {x0_0 x0_1 : List Int} {x0_2 : Int} {r : List Int × List Int × Int} (hx0_0 : Sl H v0_0 (ints x0_0)) (hx0_1 : Sl H v0_1 (ints x0_1)) (hF : F_impl_renumbered fu x0_0 x0_1 x0_2 = some r) :
    ACallT Try.prog 42 [(Value.agg #[v0_0, v0_1, (Value.int .i64 x0_2)])] H (fun u G => AgB (Fr H) H G ∧ ∃ u0 u1 : Value, u = (Value.agg #[u0, u1, (Value.int .i64 r.2.2)]) ∧ Sep G (Fr H) [flat u0 3 (ints r.1), flat u1 3 (ints r.2.1)]) := by
  refine ACallT.of_body (nt := 18) (rs := [.cell 2 34]) Try.func42 rfl rfl rfl rfl ?_
  have A0 : AgB (Fr H) H H := .refl _ _
  have S0 : Sep H (Fr H) [] := .nil
  have hB := Fr.up H
  unfold F_impl_renumbered at hF
  obtain ⟨G1, p1, q1, q2, a1, S1⟩ := S0.boxT (hB.le A0.1) 34 [v0_0, v0_1, (Value.int .i64 x0_2)]
  have A1 := A0.ext (hB.le A0.1) a1
  replace S1 : Sep G1 (Fr H) [AL.box p1 [v0_0, v0_1, (Value.int .i64 x0_2)]] := S1
  obtain ⟨G2, p2, q3, q4, a2, S2⟩ := S1.allocT (P := Try.prog) (hB.le A1.1) kzeS rfl
  have A2 := A1.ext (hB.le A1.1) a2
  replace S2 : Sep G2 (Fr H) [AL.box p1 [v0_0, v0_1, (Value.int .i64 x0_2)], AL.box p2 [.slice none 0 0, .slice none 0 0, .int .i64 0]] := S2
  refine .sr fun K hK => ?_
  simp [q1, q2, a1.to_pre, cells_agg, q3, q4, a2.to_pre]
  apply hK
  clear hK K
  obtain ⟨mv, G3, q5, S3, a3, t3, c3⟩ := S2.miNew (P := Try.prog) (t := 62) (hB.le A2.1) kmtM
  have A3 := A2.ext (hB.le A2.1) a3
  obtain ⟨G4, p3, q6, q7, a4, S4⟩ := S3.allocT (P := Try.prog) (hB.le A3.1) kzeM rfl
  have A4 := A3.ext (hB.le A3.1) a4
  replace S4 : Sep G4 (Fr H) [AL.box p1 [v0_0, v0_1, (Value.int .i64 x0_2)], AL.box p2 [.slice none 0 0, .slice none 0 0, .int .i64 0], mapI mv [], AL.box p3 [.map none]] := S4
  obtain ⟨G5, q8, S5, a5⟩ := S4.put0 (P := Try.prog) (k := 3) (e := 62) (x := mv) rfl (hB.le A4.1) kszM t3 c3
  have A5 := A4.trans a5
  replace S5 : Sep G5 (Fr H) [AL.box p1 [v0_0, v0_1, (Value.int .i64 x0_2)], AL.box p2 [.slice none 0 0, .slice none 0 0, .int .i64 0], mapI mv [], AL.box p3 [mv]] := S5
  refine .sr fun K hK => ?_
  simp [q5, a3.to_pre, q6, q7, a4.to_pre, q8]
  apply hK
  clear hK K
  refine .sr fun K hK => ?_
  simp [S5.flatT (k := 3) rfl]
  apply hK
  clear hK K
  obtain ⟨r1, hc1, hF⟩ := bd_some hF
  obtain ⟨r2, hc2, hF⟩ := bd_some hF
  obtain rfl := Option.some.inj hF
  have f0 := S5.fieldT (P := Try.prog) (k := 0) rfl kfS0
  have f1 := S5.fieldT (P := Try.prog) (k := 0) rfl kfS1
  have f2 := S5.fieldT (P := Try.prog) (k := 0) rfl kfS2
  have l0 := S5.loadF (P := Try.prog) (k := 0) rfl kszL kagL (off := 0) rfl
  have l1 := S5.loadF (P := Try.prog) (k := 0) rfl kszL kagL (off := 1) rfl
  have l2 := S5.loadF (P := Try.prog) (k := 0) rfl kszI kagI (off := 2) rfl
  have k0 : RefK (kpl [p1]) G5.length p1 := refK_box S5 (k := 0) rfl (by simp)
  have k1 : RefK (kpl [p1]) G5.length (fldP p1 1) := refK_fld k0
  have k2 : RefK (kpl [p1]) G5.length (fldP p1 2) := refK_fld k0
  have h0 := hx0_0.agree A5.agree
  have h1 := hx0_1.agree A5.agree
  refine .sl (B := [0, 0, 2, 0, 0, 16, 0, 64, 7, 319, 1023, 2047]) (X0 := [4, 5, 6, 7]) (π := [0, 1, 2, 4, 5, 6, 8, 9, 3, 7, 10, 11]) (σ := [0, 1, 2, 8, 3, 4, 5, 9, 6, 7, 10, 11]) 8 (kpl [p1]) none mixed (by kernel_rfl) (by kernel_rfl) (by decide) fun K hK => ?_
  simp only [rl0, rlb0, List.filterMap_cons, List.filterMap_nil, List.getElem?_cons_zero, List.getElem?_cons_succ, Option.map_some, Option.map_none]
  simp (config := { maxSteps := 4000000 }) [f0, f1, f2, l0, l1, l2, k0, k1, k2, h0.tup, h1.tup, S5.ptup (k := 3) rfl]
  have S6 : Sep G5 (Fr H) ([AL.box p3 [mv], mapI mv []] ++ [AL.box p1 [v0_0, v0_1, (Value.int .i64 x0_2)], AL.box p2 [.slice none 0 0, .slice none 0 0, .int .i64 0]]) := S5.pick [3, 2, 0, 1] (by decide) rfl
  obtain ⟨B1, T1, U1, M1, R1, C1, N1⟩ := S6.frameB (hB.le A5.1)
  refine CallD.t (F_impl_renumbered_1_w (fu := fu) U1 T1 h0 (fun i hi hb => Nat.not_le.2 (hx0_0.id_lt hi) (M1 i hb)) hc1) ?_
  rintro u0 G6 ⟨a6, _, rfl, T6⟩
  have A6 := A5.trans (a6.mono M1)
  have S7 : Sep G6 (Fr H) [AL.box p3 [mv], mapI mv r1.2, flat u0 3 (ints r1.1), AL.box p1 [v0_0, v0_1, (Value.int .i64 x0_2)], AL.box p2 [.slice none 0 0, .slice none 0 0, .int .i64 0]] := C1 _ _ a6 T6
  have st1 : Stand (kpl [p1]) G5 G6 := stand_call a6 (by
    simp only [List.mem_cons, List.not_mem_nil, or_false, forall_eq_or_imp, forall_eq, false_imp_iff, implies_true]
    exact nb_box (R1 0 _ rfl))
  have S8 : Sep G6 (Fr H) ([AL.box p3 [mv], mapI mv r1.2] ++ [flat u0 3 (ints r1.1), AL.box p1 [v0_0, v0_1, (Value.int .i64 x0_2)], AL.box p2 [.slice none 0 0, .slice none 0 0, .int .i64 0]]) := S7.pick [0, 1, 2, 3, 4] (by decide) rfl
  obtain ⟨B2, T2, U2, M2, R2, C2, N2⟩ := S8.frameB (hB.le A6.1)
  simp (config := { maxSteps := 4000000 }) [f0, f1, f2, l0, l1, l2, k0, k1, k2, st1, h0.tup, h1.tup, S5.ptup (k := 3) rfl]
  refine CallD.t (F_impl_renumbered_1_w (fu := fu) U2 T2 (hx0_1.agree A6.agree) (fun i hi hb => Nat.not_le.2 (hx0_1.id_lt hi) (M2 i hb)) hc2) ?_
  rintro u1 G7 ⟨a7, _, rfl, T7⟩
  have A7 := A6.trans (a7.mono M2)
  have S9 : Sep G7 (Fr H) [AL.box p3 [mv], mapI mv r2.2, flat u1 3 (ints r2.1), flat u0 3 (ints r1.1), AL.box p1 [v0_0, v0_1, (Value.int .i64 x0_2)], AL.box p2 [.slice none 0 0, .slice none 0 0, .int .i64 0]] := C2 _ _ a7 T7
  have st2 : Stand (kpl [p1]) G6 G7 := stand_call a7 (by
    simp only [List.mem_cons, List.not_mem_nil, or_false, forall_eq_or_imp, forall_eq, false_imp_iff, implies_true]
    exact nb_box (R2 1 _ rfl))
  obtain ⟨G8, q9, S10, a8⟩ := S9.putAgg (P := Try.prog) (k := 5) (xs := [u0, u1, .int .i64 x0_2]) rfl (hB.le A7.1) kszS rfl rfl
  have A8 := A7.trans a8
  replace S10 : Sep G8 (Fr H) [AL.box p3 [mv], mapI mv r2.2, flat u1 3 (ints r2.1), flat u0 3 (ints r1.1), AL.box p1 [v0_0, v0_1, (Value.int .i64 x0_2)], AL.box p2 [u0, u1, .int .i64 x0_2]] := S10
  have st3 : Stand (kpl [p1]) G7 G8 := stand_kplB (storeB_same q9) (by
    simp only [List.mem_cons, List.not_mem_nil, or_false, forall_eq_or_imp, forall_eq, false_imp_iff, implies_true]
    exact S9.bb (k := 5) (j := 4) rfl rfl (by decide))
  have q10 := kbuS (a2 := .int .i64 x0_2) (S9.sl (k := 3) rfl).tup (S9.sl (k := 3) rfl).one (S9.sl (k := 2) rfl).tup (S9.sl (k := 2) rfl).one rfl rfl
  simp (config := { maxSteps := 4000000 }) [f0, f1, f2, l0, l1, l2, k0, k1, k2, st1, st2, st3, q9, q10]
  apply hK
  clear hK K
  refine DWp.ret ?_
  have q11 := S10.loadAgg (P := Try.prog) (k := 5) rfl kszS kagS rfl
  exact ⟨by simp, [(Value.agg #[u0, u1, .int .i64 x0_2])], by simp [q11], A8, u0, u1, rfl, S10.pick [3, 2] (by decide) rfl⟩
end Go.Proofs.Ytdbflchpbhkanaa.AL

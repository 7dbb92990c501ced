/- countWays and CountShortest: how many shortest ways there are, with a map of what is known. No condition. -/
import Derived.Test.YtjgnpkedkjbmcaaG1
import Derived.Test.YtjgnpkedkjbmcaaG2
import Derived.Test.YtjgnpkedkjbmcaaG3
import Derived.Test.YtjgnpkedkjbmcaaG4
import Derived.Test.YtjgnpkedkjbmcaaG5
import Derived.Test.YtjgnpkedkjbmcaaG6
import Derived.Test.YtjgnpkedkjbmcaaG7
import Derived.Test.YtjgnpkedkjbmcaaG8
import Derived.Test.YtjgnpkedkjbmcaaPWV
import Derived.Test.YtjgnpkedkjbmcaaAL47
namespace Go.Proofs.Ytjgnpkedkjbmcaa.AL
open Go Go.RowKit
attribute [local simp] n_fn b_add b_sub b_mul b_lt b_le b_gt b_ge b_eq b_ne u_not
set_option linter.unusedVariables false
set_option linter.unusedSimpArgs false
theorem look_t : LookT Try.prog 29 := ⟨3, 3, by kernel_rfl, by kernel_rfl, fun w => by kernel_rfl⟩
theorem isTup_map {r : Option Nat} : isTup (Value.map r) = false := rfl
/-- The sum over the next systems that lie nearer. -/
def waysL (fu : Nat) (rec : List Int → Option Int) (b : List Int) (d : Int) : List (List Int) → Int → Option Int
  | [], c => some c
  | x :: r, c => bd (F_impl_distance fu x b) fun e => bif ieq e (isub .i64 d 1) then bd (rec x) fun n => waysL fu rec b d r (iadd .i64 c n) else waysL fu rec b d r c
def F_impl_countWays (V : Int → Int) : Nat → List Int → List Int → Option Int
  | 0, _, _ => none
  | fu + 1, a, b =>
    bd (F_impl_distance fu a b) fun d =>
    bif ieq d 0 then some 1 else
    bd (F_impl_rankOf fu a) fun k =>
    bd (F_impl_neighbours fu a) fun X =>
    bd (waysL fu (fun x => F_impl_countWays V fu x b) b d X 0) fun c => gd (X.length ≤ 4294967296 ∧ c = V k) (some c)
set_option maxHeartbeats 4000000 in
theorem F_impl_countWays_w {m : Nat} {V : Int → Int} : ∀ {fu : Nat} {H : AH} {v0 v1 : Value} {x0 x1 : List Int} {r : Int} (hx0 : Sl H v0 (ints x0)) (hx1 : Sl H v1 (ints x1)) (hF : F_impl_countWays V fu x0 x1 = some r),
    MCall Try.prog m V 11 [v0, v1, .map (some m)] H (fun u G => AgB (Fr H) H G ∧ u = (Value.int .i64 r) ∧ Sep G (Fr H) [])
  | 0, _, _, _, _, _, _, _, _, hF => by cases hF
  | fu + 1, H, v0, v1, x0, x1, r, hx0, hx1, hF => by
    refine MCall.of_body (nt := 53) (rs := [.tmp 6]) Try.func11 rfl rfl rfl rfl fun _ _ => ?_
    have A0 : AgB (Fr H) H H := .refl _ _
    have S0 : Sep H (Fr H) [] := .nil
    have hB := Fr.up H
    unfold F_impl_countWays at hF
    refine .sr fun K hK => ?_
    simp
    apply hK
    clear hK K
    obtain ⟨r1, hc1, hF⟩ := bd_some hF
    refine .sr fun K hK => ?_
    simp [hx0.tup, hx1.tup]
    refine CallD.t (F_impl_distance_w (fu := fu) hx0 hx1 hc1) ?_
    rintro u1 G1 ⟨a1, rfl, S1'⟩
    have A1 := A0.ext (hB.le A0.1) a1.agree
    have S1 := S0.app a1.agree S1' (fun _ h => h) (hB.le A0.1)
    simp [a1.pre]
    apply hK
    clear hK K
    refine .seq ?_
    refine .sr fun K hK => ?_
    simp
    apply hK
    clear hK K
    refine MWp.cond' (t := ieq r1 0) (by simp) (fun hb => ?_) (fun hb => ?_)
    · rw [hb, cond_true] at hF
      obtain rfl := Option.some.inj hF
      refine .sr fun K hK => ?_
      simp
      apply hK
      clear hK K
      refine .ret ?_
      exact ⟨by simp, [.int .i64 1], by simp [aresults], A1, rfl, S1⟩
    rw [hb, cond_false] at hF
    refine .skip ?_
    simp only [andThen]
    obtain ⟨key, hc2, hF⟩ := bd_some hF
    refine .sr fun K hK => ?_
    simp [hx0.tup]
    refine CallD.t (F_impl_rankOf_w (fu := fu) (hx0.agree A1.agree) hc2) ?_
    rintro u2 G2 ⟨a2, rfl, S2'⟩
    have A2 := A1.ext (hB.le A1.1) a2.agree
    have S2 := S1.app a2.agree S2' (fun _ h => h) (hB.le A1.1)
    simp [a2.pre]
    apply hK
    clear hK K
    obtain ⟨X, hc3, hF⟩ := bd_some hF
    obtain ⟨cnt', hL, hF⟩ := bd_some hF
    obtain ⟨⟨hXl, hV⟩, hF⟩ := gd_some hF
    obtain rfl := Option.some.inj hF
    refine .seq ?_
    refine .sm ?_
    simp [MStep, look_t]
    refine ⟨?_, ?_⟩
    · refine .sr fun K hK => ?_
      simp
      apply hK
      clear hK K
      refine .ct (by simp) ?_
      refine .sr fun K hK => ?_
      simp
      apply hK
      clear hK K
      refine .ret ?_
      exact ⟨by simp, [.int .i64 (V key)], by simp [aresults], A2, by rw [hV]; rfl, S2⟩
    refine .sr fun K hK => ?_
    simp
    apply hK
    clear hK K
    refine .cf (by simp) ?_
    refine .skip ?_
    simp only [andThen]
    refine .sr fun K hK => ?_
    simp
    apply hK
    clear hK K
    refine .seq ?_
    refine .sr fun K hK => ?_
    simp [hx0.tup]
    refine CallD.t (F_impl_neighbours_w (fu := fu) (hx0.agree A2.agree) hc3) ?_
    rintro u3 G3 ⟨a3, _, C3, rfl, S3'⟩
    have A3 := A2.ext (hB.le A2.1) a3.agree
    have S3 : Sep G3 (Fr H) [rowsC u3 22 3 C3 (List.map ints X)] := S2.app a3.agree S3' (fun _ h => h) (hB.le A2.1)
    have q3 := (S3.rd (k := 0) rfl).lenG (P := Try.prog) el_30
    simp [a3.pre, q3]
    apply hK
    clear hK K
    refine .block ?_
    refine MWp.loop (fun n env G => ∃ (y : Nat) (c : Int), y + n = X.length ∧ waysL fu (fun x => F_impl_countWays V fu x x1) x1 r1 (X.drop y) c = some cnt' ∧ Sep G (Fr H) [rowsC u3 22 3 C3 (List.map ints X)] ∧ AgB (Fr H) H G ∧
      env 0 = some v0 ∧ env 1 = some v1 ∧ env 2 = some (.map (some m)) ∧ env 7 = some (.int .i64 r1) ∧ env 8 = some (.int .i64 key) ∧ env 11 = some (.int .i64 c) ∧ env 30 = some u3 ∧ env 31 = some (.int .i64 (llen X)) ∧ env 32 = some (.int .i64 (y : Int)))
      X.length ⟨0, 0, by simp, by simpa using hL, S3, A3, by simp⟩ ?_
    clear hL
    rintro n env G ⟨y, c, hy, hL, S, A, E⟩
    refine .sr fun K hK => ?_
    simp [E]
    apply hK
    clear hK K
    refine .seq ?_
    refine MWp.cond' (t := ilt (y : Int) (llen X)) (by simp [E]) (fun hb => ?_) (fun hb => ?_)
    · have hyl : y < X.length := by
        rw [ilt_eq, decide_eq_true_eq] at hb
        simp only [llen] at hb
        omega
      have g : inL X (y : Int) := ⟨by omega, by omega⟩
      have ei : iadd .i64 (y : Int) 1 = ((y + 1 : Nat) : Int) := (wrF_eq _ _).trans (wrap_id (by omega) (by omega))
      rw [List.drop_eq_getElem_cons hyl] at hL
      have hx : X[y] = gat [] X (y : Int) := by simp [gat_eq, List.getD_eq_getElem?_getD, hyl]
      rw [hx] at hL
      unfold waysL at hL
      obtain ⟨e, hce, hL⟩ := bd_some hL
      refine .skip ?_
      simp only [andThen, leaves]
      refine .seq ?_
      refine .block ?_
      have q4 := (S.rd (k := 0) rfl).idxG (P := Try.prog) (kk := .i64) el_30 sz_22 g
      have q5 := (S.rd (k := 0) rfl).loadG (P := Try.prog) sz_22 ag_22 g
      have hrow := (S.rd (k := 0) rfl).rowAt [] g
      simp only [Int.toNat_natCast] at q4 q5
      refine .sr fun K hK => ?_
      simp [E, q4, q5]
      apply hK
      clear hK K
      refine .sr fun K hK => ?_
      simp [E, hrow.tup, hx1.tup]
      refine CallD.t (F_impl_distance_w (fu := fu) hrow (hx1.agree A.agree) hce) ?_
      rintro u4 G4 ⟨a4, rfl, S4'⟩
      have A4 := A.ext (hB.le A.1) a4.agree
      have S4 : Sep G4 (Fr H) [rowsC u3 22 3 C3 (List.map ints X)] := S.app a4.agree S4' (fun _ h => h) (hB.le A.1)
      have hrow4 := (S4.rd (k := 0) rfl).rowAt [] g
      simp [E, a4.pre]
      apply hK
      clear hK K
      refine MWp.cond' (t := ieq e (isub .i64 r1 1)) (by simp [E]) (fun hb2 => ?_) (fun hb2 => ?_)
      · rw [hb2, cond_true] at hL
        obtain ⟨n1, hcn, hL⟩ := bd_some hL
        refine .region ?_
        simp [MStep, E, hrow4.tup, hx1.tup, isTup_map]
        refine MCallK.of (F_impl_countWays_w hrow4 (hx1.agree A4.agree) hcn) ?_
        rintro u5 G5 ⟨a5, rfl, S5'⟩
        have A5 := A4.ext (hB.le A4.1) a5.agree
        have S5 : Sep G5 (Fr H) [rowsC u3 22 3 C3 (List.map ints X)] := S4.app a5.agree S5' (fun _ h => h) (hB.le A4.1)
        simp [MStep, E]
        simp only [andThen, leaves]
        refine .reg fun K hK => ?_
        simp [E]
        apply hK
        clear hK K
        simp only [andThen]
        exact ⟨n - 1, by omega, y + 1, by omega, _, hL, S5, A5, by simp [E, ei]⟩
      · rw [hb2, cond_false] at hL
        refine .skip ?_
        simp only [andThen, leaves]
        refine .reg fun K hK => ?_
        simp [E]
        apply hK
        clear hK K
        simp only [andThen]
        exact ⟨n - 1, by omega, y + 1, _, by omega, hL, S4, A4, by simp [E, ei]⟩
    · have hyl : ¬ y < X.length := by
        rw [ilt_eq, decide_eq_false_iff_not] at hb
        simp only [llen] at hb
        omega
      rw [List.drop_of_length_le (by omega)] at hL
      unfold waysL at hL
      obtain rfl := Option.some.inj hL
      refine .exit ?_
      simp only [andThen, leaves, if_true, if_false, reduceIte]
      refine .sm ?_
      simp [MStep, E, look_t]
      refine ⟨hV, ?_⟩
      refine .sr fun K hK => ?_
      simp [E]
      apply hK
      clear hK K
      refine .ret ?_
      exact ⟨by simp, [.int .i64 c], by simp [E, aresults], A, rfl, S.pick [] (by decide) rfl⟩
/-- How many shortest ways there are. -/
def F_impl_CountShortest (fu : Nat) (x0 : List Int) (x1 : List Int) : Option (Int × Bool) :=
  bd (F_impl_isExchanged fu x0 x1) fun r1 =>
  bif bnot r1 then some (0, false) else bd (F_impl_countWays (valOf x1) fu x0 x1) fun r2 => some (r2, true)
theorem NRun_nil {P : Program} {nt : Nat} {ops : Array Oper} {V : Int → Int} {K : Env → AH → Prop} {env : Env} {H : AH} : NRun P nt ops V K [] env H = K env H := rfl
theorem NRun_cons {P : Program} {nt : Nat} {ops : Array Oper} {V : Int → Int} {K : Env → AH → Prop} {o : Oper} {r : List Oper} {env : Env} {H : AH} : NRun P nt ops V K (o :: r) env H = if okDst nt o.dst = true ∧ okGuard ops env o = true then (if Region.wanted o (ayield ops env) then (match o.op with
      | .makeMap t none => ∀ b, MRun P nt ops b V K r (aput env o.dst (.map (some b))) H
      | _ => AStep P o env H (fun v H' => NRun P nt ops V K r (aput env o.dst v) H')) else NRun P nt ops V K r (aput env o.dst undef) H) else False := rfl
theorem F_impl_CountShortest_p {fu : Nat} {H : AH} {v0 v1 : Value} {x0 x1 : List Int} {r : Int × Bool} (hx0 : Sl H v0 (ints x0)) (hx1 : Sl H v1 (ints x1)) (hF : F_impl_CountShortest fu x0 x1 = some r) :
    ACallP Try.prog 6 [v0, v1] H (fun u G => u = (Value.tuple #[.int .i64 r.1, .bool r.2]) ∧ H <+: G) := by
  refine ACallP.of_body (nt := 14) (rs := [.tmp 4, .tmp 5]) Try.func6 rfl rfl rfl rfl fun _ _ => ?_
  have A0 : AgB (Fr H) H H := .refl _ _
  have S0 : Sep H (Fr H) [] := .nil
  have hB := Fr.up H
  unfold F_impl_CountShortest at hF
  obtain ⟨r1, hc1, hF⟩ := bd_some hF
  have ofD : ∀ {c : Code} {Q : Exit → Env → AH → Prop} {env : Env} {G : AH}, DWp Try.prog 14 c Q env G → AWp Try.prog 14 c Q env G := fun h => by
    obtain ⟨x, env', H', a, g, q⟩ := h
    exact a.mono (by rintro y e G ⟨rfl, rfl, rfl⟩; exact q)
  refine AWp.seq (ofD (DWp.region fun K hK => ?_))
  simp
  apply hK
  clear hK K
  simp only [andThen]
  refine AWp.seq (AWp.seq (ofD (DWp.region fun K hK => ?_)))
  simp [hx0.tup, hx1.tup]
  refine CallD.t (F_impl_isExchanged_w (fu := fu) hx0 hx1 hc1) ?_
  rintro u1 G1 ⟨a1, rfl, S1'⟩
  have A1 := A0.ext (hB.le A0.1) a1.agree
  simp [a1.pre]
  apply hK
  clear hK K
  simp only [andThen]
  cases hr : r1
  · rw [hr] at hF
    obtain rfl := Option.some.inj hF
    refine AWp.cond (t := true) (by simp [hr, bnot]) ?_
    simp only [if_true]
    refine AWp.seq (ofD (DWp.region fun K hK => ?_))
    simp
    apply hK
    clear hK K
    simp only [andThen]
    refine AWp.ret ?_
    exact ⟨by simp, [.int .i64 0, .bool false], by simp [aresults], rfl, a1.pre⟩
  · rw [hr] at hF
    simp only [bnot, Bool.not_true, cond_false] at hF
    obtain ⟨r2, hc2, hF⟩ := bd_some hF
    obtain rfl := Option.some.inj hF
    refine AWp.cond (t := false) (by simp [hr, bnot]) ?_
    simp only [Bool.false_eq_true, if_false]
    refine AWp.skip ?_
    simp only [andThen]
    refine AWp.seq (AWp.regionN (valOf x1) ?_)
    simp [NRun_cons, NRun_nil, AStep, MStep, hx0.tup, hx1.tup, isTup_map]
    intro b
    refine MCallK.of (F_impl_countWays_w (hx0.agree A1.agree) (hx1.agree A1.agree) hc2) ?_
    rintro u2 G2 ⟨a2, rfl, S2'⟩
    refine AWp.ret ?_
    exact ⟨by simp, [.int .i64 r2, .bool true], by simp [aresults], rfl, a1.pre.trans a2.pre⟩
theorem F_impl_CountShortest_w {fu : Nat} {H : AH} {v0 v1 : Value} {x0 x1 : List Int} {r : (Int × Bool)} (hx0 : Sl H v0 (ints x0)) (hx1 : Sl H v1 (ints x1)) (hF : F_impl_CountShortest fu x0 x1 = some r) :
    ACallT Try.prog 6 [v0, v1] H (fun u G => AgB (Fr H) H G ∧ u = (Value.tuple #[(Value.int .i64 r.1), (Value.bool r.2)]) ∧ Sep G (Fr H) []) := by
  have key := ACallP.told (H1 := H) (news := []) (v := .tuple #[.int .i64 r.1, .bool r.2]) (F_impl_CountShortest_p hx0 hx1 hF) (fun hw => by
    rw [List.append_nil]
    exact ⟨hw, by simp [R3, R2, R0], Nat.le_refl _⟩) rfl (fun hw u G ⟨h1, h2⟩ => by
    obtain ⟨L, rfl⟩ := h2
    rw [h1]
    exact ⟨L, [], rfl, Canon.none H L hw, vr3_plains (vs := [.int .i64 r.1, .bool r.2]) (fun v hv => by
      simp only [List.mem_cons, List.not_mem_nil, or_false] at hv
      rcases hv with rfl | rfl <;> rfl)⟩)
  rw [List.append_nil] at key
  exact ⟨_, _, key, .refl _ _, rfl, .nil⟩
end Go.Proofs.Ytjgnpkedkjbmcaa.AL

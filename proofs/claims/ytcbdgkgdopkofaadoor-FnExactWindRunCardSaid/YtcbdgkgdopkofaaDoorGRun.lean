/- Seaweed.run and WindRun: a list whose first pair is another's. No condition. -/
import Derived.Test.YtcbdgkgdopkofaaDoorG2
import Derived.Test.YtcbdgkgdopkofaaDoorG3
import Derived.Test.YtcbdgkgdopkofaaDoorG5
import Derived.Test.YtcbdgkgdopkofaaDoorAL49
import Derived.KernelRfl
namespace Go.Proofs.YtcbdgkgdopkofaaDoor.AL
open Go Go.RowKit
attribute [local simp] n_fn b_add b_sub b_mul b_lt b_le b_gt b_ge b_eq b_ne u_not
set_option linter.unusedVariables false
set_option linter.unusedSimpArgs false
set_option maxRecDepth 4096
theorem el_48 : elemT Tryd.prog 48 = some 28 := by kernel_rfl
theorem ei_28 : einfo Tryd.prog 28 = some ⟨2, 48, .agg #[.slice none 0 0, .slice none 0 0]⟩ := by kernel_rfl
/-- The seaweeds behind each step, and the letters. -/
def run_L (fu : Nat) : Nat → List Int → List Int → List PL → ByteArray → Option (List PL × ByteArray)
  | 0, _, _, _, _ => none
  | n + 1, p, q, Y, w =>
    bif (ilt 0 (llen p)) then
      bd (F_impl_Seaweed_wound fu p q) fun r =>
      gd (w.size + r.2.size ≤ 9223372036854775807) (
      gd (Y.length + 1 + 1 ≤ 4294967296) (
      run_L fu n r.1.1 r.1.2 (Y ++ [r.1]) (sapp w r.2)))
    else
      some (Y, w)
def F_impl_Seaweed_run (fu : Nat) (p q : List Int) : Option (List PL × ByteArray) := run_L fu fu p q [] (ByteArray.mk #[])
/-- What is looked at: the first pair, or the last one behind it. -/
def Now (v0 v1 : Value) (x0 x1 : List Int) (c1 c2 : Value) (p q : List Int) (D : List Value) (Y : List PL) : Prop :=
  (c1 = v0 ∧ c2 = v1 ∧ p = x0 ∧ q = x1) ∨ ∃ D' Y', D = D' ++ [c1, c2] ∧ Y = Y' ++ [(p, q)] ∧ D'.length = Y'.length * 2
theorem Now.sl {G : AH} {B : Nat → Prop} {l : List Item} {k : Nat} {v0 v1 : Value} {x0 x1 : List Int} {c1 c2 : Value} {p q : List Int} {D : List Value} {Y : List PL} (h : Now v0 v1 x0 x1 c1 c2 p q D Y) (S : Sep G B l) (hk : l[k]? = some (bag D Y))
    (h0 : Sl G v0 (ints x0)) (h1 : Sl G v1 (ints x1)) : Sl G c1 (ints p) ∧ Sl G c2 (ints q) := by
  rcases h with ⟨rfl, rfl, rfl, rfl⟩ | ⟨D', Y', rfl, rfl, hl⟩
  · exact ⟨h0, h1⟩
  · have hy : (Y' ++ [(p, q)])[Y'.length]? = some (p, q) := by simp
    exact ⟨S.bag0 (y := (p, q)) hk (by rw [← hl]; simp) hy, S.bag1 (y := (p, q)) hk (by rw [← hl]; simp) hy⟩
theorem F_impl_Seaweed_run_w {fu : Nat} {H : AH} {v0 v1 : Value} {x0 x1 : List Int} {r : List PL × ByteArray} (hx0 : Sl H v0 (ints x0)) (hx1 : Sl H v1 (ints x1)) (hF : F_impl_Seaweed_run fu x0 x1 = some r) :
    ACallT Tryd.prog 28 [(Value.agg #[v0, v1])] H (fun u G => AgB (Fr H) H G ∧ ∃ (u0 : Value) (D : List Value), u = (Value.tuple #[u0, (Value.string r.2)]) ∧ Sep G (Fr H) [flatK 2 u0 28 (r.1.length + 1) (v0 :: v1 :: D), bag D r.1]) := by
  refine ACallT.of_body (nt := 29) (rs := [.tmp 2, .tmp 3]) Tryd.func28 rfl rfl rfl rfl ?_
  have A0 : AgB (Fr H) H H := .refl _ _
  have S0 : Sep H (Fr H) [] := .nil
  have hB := Fr.up H
  unfold F_impl_Seaweed_run at hF
  obtain ⟨G2, p4, q5, q6, a7, S1⟩ := S0.boxT (hB.le A0.1) 28 [v0, v1]
  have A3 := A0.ext (hB.le A0.1) a7
  replace S1 : Sep G2 (Fr H) [AL.box p4 [v0, v1]] := S1
  refine .sr fun K hK => ?_
  simp [q5, q6, a7.to_pre, cells_agg]
  apply hK
  clear hK K
  have q8 := S1.loadAgg (P := Tryd.prog) (k := 0) rfl sz_28 ag_28 rfl
  obtain ⟨v9, G3, q9, S2, a9, _, _⟩ := S1.litP1 (P := Tryd.prog) (t := 48) (hB.le A3.1) el_48 ei_28 rfl v0 v1
  have A4 := A3.ext (hB.le A3.1) a9
  have S3 := S2.bagNil (hB.le A4.1)
  replace S3 : Sep G3 (Fr H) [AL.box p4 [v0, v1], flatK 2 v9 28 1 [v0, v1], bag [] []] := S3
  refine .sr fun K hK => ?_
  simp [q8, q9, a9.to_pre]
  apply hK
  clear hK K
  refine .seq ?_
  refine .block ?_
  refine DWp.loop (fun n env G => ∃ (p q : List Int) (Y : List PL) (w : ByteArray) (c1 c2 v4 : Value) (D : List Value), run_L fu n p q Y w = some r ∧ Now v0 v1 x0 x1 c1 c2 p q D Y ∧ Sep G (Fr H) [AL.box p4 [c1, c2], flatK 2 v4 28 (Y.length + 1) (v0 :: v1 :: D), bag D Y] ∧ AgB (Fr H) H G ∧
    env 1 = some p4 ∧ env 4 = some v4 ∧ env 5 = some (Value.string w)) fu ⟨x0, x1, [], ByteArray.mk #[], v0, v1, v9, [], hF, .inl ⟨rfl, rfl, rfl, rfl⟩, S3, A4, by simp⟩ ?_
  clear hF
  rintro n env G ⟨p, q, Y, w, c1, c2, v4, D, hL, hN, S, A, E⟩
  cases n with
  | zero => cases hL
  | succ n =>
    obtain ⟨hc1, hc2⟩ := hN.sl S (k := 2) rfl (hx0.agree A.agree) (hx1.agree A.agree)
    simp only [run_L] at hL
    have q1 := S.fieldT (P := Tryd.prog) (k := 0) rfl fa_28_0
    have q2 := S.loadF (P := Tryd.prog) (k := 0) rfl sz_22 ag_22 (off := 0) rfl
    have q3 := lenG (P := Tryd.prog) hc1 el_22
    refine .seq ?_
    refine .sr fun K hK => ?_
    simp [E, q1, q2, q3]
    apply hK
    clear hK K
    refine DWp.cond' (t := (ilt 0 (llen p))) (by simp [E]) (fun hb => ?_) (fun hb => ?_)
    · replace hL := cd_t hb hL
      refine DWp.skip ?_
      simp only [andThen, leaves]
      refine .block ?_
      obtain ⟨r1, hc, hL⟩ := bd_some hL
      obtain ⟨g1, hL⟩ := gd_some hL
      obtain ⟨g2, hL⟩ := gd_some hL
      have q4 := S.loadAgg (P := Tryd.prog) (k := 0) rfl sz_28 ag_28 rfl
      refine .sr fun K hK => ?_
      simp [E, q4, hc1.tup, hc2.tup]
      refine CallD.t (F_impl_Seaweed_wound_w (fu := fu) hc1 hc2 hc) ?_
      rintro _ G5 ⟨a5, d1, d2, rfl, S5'⟩
      have A5 := A.ext (hB.le A.1) a5.agree
      have S5 : Sep G5 (Fr H) [AL.box p4 [c1, c2], flatK 2 v4 28 (Y.length + 1) (v0 :: v1 :: D), bag D Y, flat d1 3 (ints r1.1.1), flat d2 3 (ints r1.1.2)] := S.app a5.agree S5' (fun _ h => h) (hB.le A.1)
      obtain ⟨G6, p6, q6, q7, a6, S6⟩ := S5.allocT (P := Tryd.prog) (hB.le A5.1) ze_28 rfl
      have A6 := A5.ext (hB.le A5.1) a6
      replace S6 : Sep G6 (Fr H) [AL.box p4 [c1, c2], flatK 2 v4 28 (Y.length + 1) (v0 :: v1 :: D), bag D Y, flat d1 3 (ints r1.1.1), flat d2 3 (ints r1.1.2), AL.box p6 [(Value.slice none 0 0), (Value.slice none 0 0)]] := S6
      obtain ⟨G7, q8, S7, a7⟩ := S6.putAgg (P := Tryd.prog) (k := 5) (xs := [d1, d2]) rfl (hB.le A6.1) sz_28 rfl rfl
      have A7 := A6.trans a7
      replace S7 : Sep G7 (Fr H) [AL.box p4 [c1, c2], flatK 2 v4 28 (Y.length + 1) (v0 :: v1 :: D), bag D Y, flat d1 3 (ints r1.1.1), flat d2 3 (ints r1.1.2), AL.box p6 [d1, d2]] := S7
      simp [E, q4, a5.pre, q6, q7, a6.to_pre, q8]
      apply hK
      clear hK K
      have q9 := S7.loadAgg (P := Tryd.prog) (k := 5) rfl sz_28 ag_28 rfl
      obtain ⟨G8, q10, S8, a8⟩ := S7.putAgg (P := Tryd.prog) (k := 0) (xs := [d1, d2]) rfl (hB.le A7.1) sz_28 rfl rfl
      have A8 := A7.trans a8
      replace S8 : Sep G8 (Fr H) [AL.box p4 [d1, d2], flatK 2 v4 28 (Y.length + 1) (v0 :: v1 :: D), bag D Y, flat d1 3 (ints r1.1.1), flat d2 3 (ints r1.1.2), AL.box p6 [d1, d2]] := S8
      refine .sr fun K hK => ?_
      simp [E, q9, q10, s_add g1]
      apply hK
      clear hK K
      have q11 := S8.loadAgg (P := Tryd.prog) (k := 0) rfl sz_28 ag_28 rfl
      obtain ⟨v9', G9, q12, S9, a9', _, _⟩ := S8.litP1 (P := Tryd.prog) (t := 48) (hB.le A8.1) el_48 ei_28 rfl d1 d2
      have A9 := A8.ext (hB.le A8.1) a9'
      replace S9 : Sep G9 (Fr H) [AL.box p4 [d1, d2], flatK 2 v4 28 (Y.length + 1) (v0 :: v1 :: D), bag D Y, flat d1 3 (ints r1.1.1), flat d2 3 (ints r1.1.2), AL.box p6 [d1, d2], flatK 2 v9' 28 1 [d1, d2]] := S9
      obtain ⟨v10, G10, q13, S10, a10, _, _⟩ := S9.pushK (P := Tryd.prog) (t := 48) (t2 := 48) (k := 1) rfl (hB.le A9.1) el_48 el_48 ei_28 rfl (S9.flatKSl (k := 6) rfl) g2
      have A10 := A9.trans a10
      replace S10 : Sep G10 (Fr H) [AL.box p4 [d1, d2], flatK 2 v10 28 (Y.length + 1 + 1) (v0 :: v1 :: (D ++ [d1, d2])), bag D Y, flat d1 3 (ints r1.1.1), flat d2 3 (ints r1.1.2), AL.box p6 [d1, d2], flatK 2 v9' 28 1 [d1, d2]] := S10
      refine .region fun K hK => ?_
      simp [E, q11, q12, a9'.to_pre, q13]
      apply hK
      clear hK K
      simp only [andThen, leaves]
      have hl := S10.bagLen (k := 2) rfl
      have S11 := (S10.bagPut (j := 2) (k1 := 3) (k2 := 4) (by decide) (by decide) (by decide) rfl rfl rfl).pick [0, 1, 2] (by decide) rfl
      exact ⟨n, Nat.lt_succ_self _, r1.1.1, r1.1.2, Y ++ [r1.1], sapp w r1.2, d1, d2, v10, D ++ [d1, d2], hL, .inr ⟨D, Y, rfl, rfl, hl⟩, by simpa using S11, A10, by simp [E]⟩
    · replace hL := cd_f hb hL
      refine DWp.exit ?_
      simp only [andThen, leaves, if_true, if_false, reduceIte, Nat.reduceEqDiff]
      obtain rfl := Option.some.inj hL
      refine .sr fun K hK => ?_
      simp [E]
      apply hK
      clear hK K
      refine DWp.ret ?_
      exact ⟨by simp, [v4, (Value.string w)], by simp [E, ((S.flatKSl (k := 1) rfl).tup)], A, v4, D, rfl, S.pick [1, 2] (by decide) rfl⟩
theorem rowAt {G : AH} {B : Nat → Prop} {l : List Item} {k : Nat} {v0 v1 : Value} {x0 x1 : List Int} {D : List Value} {Y : List PL} (S : Sep G B l) (hk : l[k]? = some (bag D Y)) (h0 : Sl G v0 (ints x0)) (h1 : Sl G v1 (ints x1))
    {y : Nat} {X : PL} (hy : ((x0, x1) :: Y)[y]? = some X) : Sl G (pc (v0 :: v1 :: D) (y : Int) 0) (ints X.1) ∧ Sl G (pc (v0 :: v1 :: D) (y : Int) 1) (ints X.2) := by
  cases y with
  | zero =>
    simp at hy
    subst hy
    exact ⟨h0, h1⟩
  | succ m =>
    simp at hy
    have hl := S.bagLen hk
    have hm := (List.getElem?_eq_some_iff.1 hy).1
    have e : ∀ f, f < 2 → D[m * 2 + f]? = some (pc (v0 :: v1 :: D) ((m + 1 : Nat) : Int) f) := fun f hf => by
      unfold pc
      rw [Int.toNat_natCast, show (m + 1) * 2 + f = (m * 2 + f) + 1 + 1 by omega, List.getD_cons_succ, List.getD_cons_succ, List.getD_eq_getElem?_getD, List.getElem?_eq_getElem (by omega)]
      rfl
    exact ⟨S.bag0 hk (e 0 (by omega)) hy, S.bag1 hk (e 1 (by omega)) hy⟩
/-- The texts of seaweeds, one behind the other. -/
def textsL (fu : Nat) : List PL → List ByteArray → Option (List ByteArray)
  | [], o => some o
  | y :: r, o => bd (F_impl_seaweedText fu y.1 y.2) fun t => gd (o.length + [t].length ≤ 4294967296) (textsL fu r (lapp o [t]))
def F_impl_WindRun (fu : Nat) (p q : List Int) : Option (List ByteArray × Bool) :=
  bd (F_impl_IsSeaweed fu p q) fun r1 =>
  bif (bnot r1) then
    some ([], false)
  else
    bd (F_impl_Seaweed_run fu p q) fun r2 =>
    gd (r2.1.length + 1 ≤ 4294967296) (
    bd (textsL fu ((p, q) :: r2.1) []) fun t => some (t, true))
theorem F_impl_WindRun_w {fu : Nat} {H : AH} {v0 v1 : Value} {x0 x1 : List Int} {r : List ByteArray × Bool} (hx0 : Sl H v0 (ints x0)) (hx1 : Sl H v1 (ints x1)) (hF : F_impl_WindRun fu x0 x1 = some r) :
    ACallT Tryd.prog 12 [(Value.agg #[v0, v1])] H (fun u G => AgB (Fr H) H G ∧ ∃ u0 : Value, u = (Value.tuple #[u0, (Value.bool r.2)]) ∧ Sep G (Fr H) [flat u0 9 (strs r.1)]) := by
  refine ACallT.of_body (nt := 30) (rs := [.tmp 2, .tmp 3]) Tryd.func12 rfl rfl rfl rfl ?_
  have A0 : AgB (Fr H) H H := .refl _ _
  have S0 : Sep H (Fr H) [] := .nil
  have hB := Fr.up H
  unfold F_impl_WindRun at hF
  obtain ⟨G2, p4, q5, q6, a7, S1⟩ := S0.boxT (hB.le A0.1) 28 [v0, v1]
  have A1 := A0.ext (hB.le A0.1) a7
  replace S1 : Sep G2 (Fr H) [AL.box p4 [v0, v1]] := S1
  refine .sr fun K hK => ?_
  simp [q5, q6, a7.to_pre, cells_agg]
  apply hK
  clear hK K
  have q8 := S1.loadAgg (P := Tryd.prog) (k := 0) rfl sz_28 ag_28 rfl
  obtain ⟨r1, hc, hF⟩ := bd_some hF
  refine .seq ?_
  refine .sr fun K hK => ?_
  simp [q8, ((hx0.agree A1.agree).tup), ((hx1.agree A1.agree).tup)]
  refine CallD.t (F_impl_IsSeaweed_w (fu := fu) (hx0.agree A1.agree) (hx1.agree A1.agree) hc) ?_
  rintro _ G3 ⟨a2, rfl, S2'⟩
  have A2 := A1.ext (hB.le A1.1) a2.agree
  have S2 : Sep G3 (Fr H) [AL.box p4 [v0, v1]] := S1.app a2.agree S2' (fun _ h => h) (hB.le A1.1)
  simp [q8, a2.pre]
  apply hK
  clear hK K
  refine DWp.cond' (t := (bnot r1)) (by simp []) (fun hb => ?_) (fun hb => ?_)
  · replace hF := cd_t hb hF
    refine .sr fun K hK => ?_
    simp []
    apply hK
    clear hK K
    refine DWp.ret ?_
    simp only [andThen, leaves]
    have S3 := S2.nilItem (hB.le A2.1) 9
    obtain rfl := Option.some.inj hF
    exact ⟨by simp, [(Value.slice none 0 0), (Value.bool false)], by simp [], A2, (Value.slice none 0 0), rfl, S3.pick [1] (by decide) rfl⟩
  · replace hF := cd_f hb hF
    refine DWp.skip ?_
    simp only [andThen, leaves]
    obtain ⟨r2, hc2, hF⟩ := bd_some hF
    obtain ⟨g2, hF⟩ := gd_some hF
    obtain ⟨T, hT, hF⟩ := bd_some hF
    obtain rfl := Option.some.inj hF
    obtain ⟨v3, G4, q9, S3, a3, _, _⟩ := S2.lit0 (P := Tryd.prog) (t := 32) (hB.le A2.1) el_32 ei_9 rfl
    have A3 := A2.ext (hB.le A2.1) a3
    replace S3 := S3.weak (k := 1) rfl
    replace S3 : Sep G4 (Fr H) [AL.box p4 [v0, v1], flat v3 9 (strs [])] := S3
    refine .sr fun K hK => ?_
    simp [q9, a3.to_pre]
    apply hK
    clear hK K
    have q10 := S3.loadAgg (P := Tryd.prog) (k := 0) rfl sz_28 ag_28 rfl
    refine .sr fun K hK => ?_
    simp [q10, ((hx0.agree A3.agree).tup), ((hx1.agree A3.agree).tup)]
    refine CallD.t (F_impl_Seaweed_run_w (fu := fu) (hx0.agree A3.agree) (hx1.agree A3.agree) hc2) ?_
    rintro _ G5 ⟨a4, u0, D, rfl, S4'⟩
    have A4 := A3.ext (hB.le A3.1) a4.agree
    have S4 : Sep G5 (Fr H) [AL.box p4 [v0, v1], flat v3 9 (strs []), flatK 2 u0 28 (r2.1.length + 1) (v0 :: v1 :: D), bag D r2.1] := S3.app a4.agree S4' (fun _ h => h) (hB.le A3.1)
    simp [q10, a4.pre]
    apply hK
    clear hK K
    refine .seq ?_
    have q11 := (S4.flatKSl (k := 2) rfl).len (P := Tryd.prog) el_48
    refine .sr fun K hK => ?_
    simp [q11]
    apply hK
    clear hK K
    refine .block ?_
    refine DWp.loop (fun n env G => ∃ (y : Nat) (o : List ByteArray) (v4 : Value), y + n = r2.1.length + 1 ∧ textsL fu (((x0, x1) :: r2.1).drop y) o = some T ∧
      Sep G (Fr H) [AL.box p4 [v0, v1], flat v4 9 (strs o), flatK 2 u0 28 (r2.1.length + 1) (v0 :: v1 :: D), bag D r2.1] ∧ AgB (Fr H) H G ∧
      env 4 = some v4 ∧ env 17 = some u0 ∧ env 18 = some (Value.int .i64 ((r2.1.length + 1 : Nat) : Int)) ∧ env 19 = some (Value.int .i64 (y : Int))) (r2.1.length + 1) ⟨0, [], v3, by simp, hT, S4, A4, by simp⟩ ?_
    clear hT
    rintro n env G ⟨y, o, v4, hy, hL, S, A, E⟩
    refine .sr fun K hK => ?_
    simp [E]
    apply hK
    clear hK K
    refine .seq ?_
    refine DWp.cond' (t := (ilt (y : Int) ((r2.1.length + 1 : Nat) : Int))) (by simp [E]) (fun hb => ?_) (fun hb => ?_)
    · have hyl : y < r2.1.length + 1 := by
        rw [ilt_eq, decide_eq_true_eq] at hb
        omega
      have hX : ((x0, x1) :: r2.1)[y]? = some (((x0, x1) :: r2.1)[y]'(by simpa using hyl)) := List.getElem?_eq_getElem _
      rw [List.drop_eq_getElem_cons (by simpa using hyl)] at hL
      generalize ((x0, x1) :: r2.1)[y]'(by simpa using hyl) = X at hX hL
      simp only [textsL] at hL
      obtain ⟨t, hc3, hL⟩ := bd_some hL
      obtain ⟨g3, hL⟩ := gd_some hL
      have ei : iadd .i64 (y : Int) 1 = ((y + 1 : Nat) : Int) := (wrF_eq _ _).trans (wrap_id (by omega) (by omega))
      obtain ⟨hd1, hd2⟩ := rowAt S (k := 3) rfl (hx0.agree A.agree) (hx1.agree A.agree) hX
      refine DWp.skip ?_
      simp only [andThen, leaves]
      refine .seq ?_
      refine .block ?_
      have q12 := (S.flatKSl (k := 2) rfl).idx (P := Tryd.prog) el_48 sz_28 (j := y) hyl (kk := .i64)
      have q13 := agg_pc (P := Tryd.prog) (S.flatKSl (k := 2) rfl) sz_28 ag_28 (z := (y : Int)) (by omega) (by omega)
      rw [Int.toNat_natCast] at q13
      obtain ⟨d1, e1⟩ : ∃ d, d = pc (v0 :: v1 :: D) (y : Int) 0 := ⟨_, rfl⟩
      obtain ⟨d2, e2⟩ : ∃ d, d = pc (v0 :: v1 :: D) (y : Int) 1 := ⟨_, rfl⟩
      rw [← e1, ← e2] at q13
      obtain ⟨G6, p6, q14, q15, a6, S6⟩ := S.allocT (P := Tryd.prog) (hB.le A.1) ze_28 rfl
      have A6 := A.ext (hB.le A.1) a6
      replace S6 : Sep G6 (Fr H) [AL.box p4 [v0, v1], flat v4 9 (strs o), flatK 2 u0 28 (r2.1.length + 1) (v0 :: v1 :: D), bag D r2.1, AL.box p6 [(Value.slice none 0 0), (Value.slice none 0 0)]] := S6
      obtain ⟨G7, q16, S7, a7⟩ := S6.putAgg (P := Tryd.prog) (k := 4) (xs := [d1, d2]) rfl (hB.le A6.1) sz_28 rfl rfl
      have A7 := A6.trans a7
      replace S7 : Sep G7 (Fr H) [AL.box p4 [v0, v1], flat v4 9 (strs o), flatK 2 u0 28 (r2.1.length + 1) (v0 :: v1 :: D), bag D r2.1, AL.box p6 [d1, d2]] := S7
      refine .sr fun K hK => ?_
      simp [E, q12, q13, q14, q15, a6.to_pre, q16]
      apply hK
      clear hK K
      have q17 := S7.loadAgg (P := Tryd.prog) (k := 4) rfl sz_28 ag_28 rfl
      have hd := rowAt S7 (k := 3) rfl (hx0.agree A7.agree) (hx1.agree A7.agree) hX
      rw [← e1, ← e2] at hd
      refine .region fun K hK => ?_
      simp [E, q17, hd.1.tup, hd.2.tup]
      refine CallD.t (F_impl_seaweedText_w (fu := fu) hd.1 hd.2 hc3) ?_
      rintro _ G8 ⟨a8, rfl, S8'⟩
      have A8 := A7.ext (hB.le A7.1) a8.agree
      have S8 : Sep G8 (Fr H) [AL.box p4 [v0, v1], flat v4 9 (strs o), flatK 2 u0 28 (r2.1.length + 1) (v0 :: v1 :: D), bag D r2.1, AL.box p6 [d1, d2]] := S7.app a8.agree S8' (fun _ h => h) (hB.le A7.1)
      obtain ⟨v9, G9, q18, S9, a9, _, _⟩ := S8.lit1 (P := Tryd.prog) (t := 32) (hB.le A8.1) el_32 ei_9 rfl (Value.string t) rfl rfl
      have A9 := A8.ext (hB.le A8.1) a9
      replace S9 : Sep G9 (Fr H) [AL.box p4 [v0, v1], flat v4 9 (strs o), flatK 2 u0 28 (r2.1.length + 1) (v0 :: v1 :: D), bag D r2.1, AL.box p6 [d1, d2], flat1 v9 9 (strs [t])] := S9
      obtain ⟨v10, G10, q19, S10, a10, _, _⟩ := S9.appendG (f := Value.string) (xs := o) (ys := [t]) (P := Tryd.prog) (t := 32) (t2 := 32) (k := 1) rfl (hB.le A9.1) el_32 el_32 ei_9 rfl (S9.sl1 (k := 5) rfl) g3
      have A10 := A9.trans a10
      replace S10 : Sep G10 (Fr H) [AL.box p4 [v0, v1], flat v10 9 (strs (lapp o [t])), flatK 2 u0 28 (r2.1.length + 1) (v0 :: v1 :: D), bag D r2.1, AL.box p6 [d1, d2], flat1 v9 9 (strs [t])] := S10
      simp [E, q17, a8.pre, q18, a9.to_pre, q19]
      apply hK
      clear hK K
      simp only [andThen, leaves]
      refine .region fun K hK => ?_
      simp [E]
      apply hK
      clear hK K
      simp only [andThen, leaves]
      rw [ei]
      exact ⟨n - 1, by omega, y + 1, lapp o [t], v10, by omega, hL, S10.pick [0, 1, 2, 3] (by decide) rfl, A10, by simp [E]⟩
    · have hyl : ¬ y < r2.1.length + 1 := by
        intro h
        rw [ilt_eq, decide_eq_true (by omega)] at hb
        cases hb
      rw [List.drop_of_length_le (by simp; omega)] at hL
      simp only [textsL] at hL
      obtain rfl := Option.some.inj hL
      refine DWp.exit ?_
      simp only [andThen, leaves, if_true, if_false, reduceIte, Nat.reduceEqDiff]
      refine .sr fun K hK => ?_
      simp [E]
      apply hK
      clear hK K
      refine DWp.ret ?_
      exact ⟨by simp, [v4, (Value.bool true)], by simp [E, ((S.sl (k := 1) rfl).tup)], A, v4, rfl, S.pick [1] (by decide) rfl⟩
end Go.Proofs.YtcbdgkgdopkofaaDoor.AL

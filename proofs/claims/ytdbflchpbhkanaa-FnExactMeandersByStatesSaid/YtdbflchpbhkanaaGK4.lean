/- impl.closings: ways by closed curves, out of a map in whatever order. No condition. -/
import Derived.Test.YtdbflchpbhkanaaGK3
namespace Go.Proofs.Ytdbflchpbhkanaa.AL
open Go Go.RowKit
set_option linter.unusedVariables false
set_option linter.unusedSimpArgs false
set_option maxRecDepth 4096
attribute [local simp] n_fn b_add b_sub b_mul b_lt b_le b_gt b_ge b_eq b_ne u_not
/-- No open part. -/
def shutE (e : Tr) : Bool := ieq (iadd .i64 (llen e.2.1.1) (llen e.2.1.2.1)) 0
def cloT (o : List Int) (e : Tr) : List Int := bif shutE e then lset o e.2.1.2.2 (iadd .i64 (gat 0 o e.2.1.2.2) e.2.2) else o
def F_impl_closings (fu : Nat) (x0 x1 : List Int) (x2 steps : Int) : Option (List Int) :=
  bd (F_impl_run fu x0 x1 x2 steps) fun C =>
  gd (∀ e ∈ C, shutE e = true → 0 ≤ e.2.1.2.2 ∧ e.2.1.2.2 < 7) (some (C.foldl cloT (lrep 7 (0 : Int))))
theorem lset_comm {o : List Int} {i j : Int} {a b : Int} : lset (lset o i (iadd .i64 (gat 0 o i) a)) j (iadd .i64 (gat 0 (lset o i (iadd .i64 (gat 0 o i) a)) j) b) = lset (lset o j (iadd .i64 (gat 0 o j) b)) i (iadd .i64 (gat 0 (lset o j (iadd .i64 (gat 0 o j) b)) i) a) := by
  simp only [lset, gat_eq]
  by_cases h : i.toNat = j.toNat
  · rw [h]
    by_cases hj : j.toNat < o.length
    · simp [List.getD_eq_getElem?_getD, hj, List.set_set, iadd_iadd, Int.add_comm]
    · have hs : ∀ x, o.set j.toNat x = o := fun x => List.set_eq_of_length_le (by omega)
      simp only [hs]
  · simp only [List.getD_eq_getElem?_getD, List.getElem?_set_ne h, List.getElem?_set_ne (fun e => h e.symm)]
    rw [List.set_comm _ _ h]
theorem cloT_comm (o : List Int) (a b : Tr) : cloT (cloT o a) b = cloT (cloT o b) a := by
  unfold cloT
  cases shutE a <;> cases shutE b <;> simp only [cond_true, cond_false]
  exact lset_comm
theorem clo_perm {L L' : List Tr} (p : L.Perm L') : ∀ o, L.foldl cloT o = L'.foldl cloT o := by
  induction p with
  | nil => intro o; rfl
  | cons x p ih => intro o; exact ih _
  | swap x y l => intro o; simp only [List.foldl_cons]; rw [cloT_comm]
  | trans p q ih1 ih2 => intro o; exact (ih1 o).trans (ih2 o)
theorem clo_len : ∀ (L : List Tr) (o : List Int), (L.foldl cloT o).length = o.length
  | [], _ => rfl
  | e :: L, o => by
    rw [List.foldl_cons, clo_len L]
    unfold cloT
    cases shutE e <;> simp [lset]
set_option maxHeartbeats 4000000 in
theorem F_impl_closings_w {fu : Nat} {H : AH} {v0_0 v0_1 : Value} {x0_0 x0_1 : List Int} {x0_2 x1 : Int} {r : List Int} (hx0_0 : Sl H v0_0 (ints x0_0)) (hx0_1 : Sl H v0_1 (ints x0_1)) (hF : F_impl_closings fu x0_0 x0_1 x0_2 x1 = some r) :
    ACallT Try.prog 22 [(Value.agg #[v0_0, v0_1, (Value.int .i64 x0_2)]), (Value.int .i64 x1)] H (fun u G => AgB (Fr H) H G ∧ ∃ u0 : Value, u = u0 ∧ Sep G (Fr H) [flat u0 3 (ints r)]) := by
  obtain ⟨C, hC, hF⟩ := bd_some hF
  obtain ⟨hin, hF⟩ := gd_some hF
  obtain rfl := Option.some.inj hF
  have hlr : (C.foldl cloT (lrep 7 (0 : Int))).length = 7 := by rw [clo_len]; rfl
  have hne : ints (C.foldl cloT (lrep 7 (0 : Int))) ≠ [] := fun e => by
    have := congrArg List.length e
    simp [ints, hlr] at this
  refine told_list (fun v hv => ?_) hne ?_
  · obtain ⟨z, _, rfl⟩ := List.mem_map.1 hv
    rfl
  refine ACallP.mono (Post := fun u G => AgB (Fr H) H G ∧ Sep G (Fr H) [flat u 3 (ints (C.foldl cloT (lrep 7 (0 : Int))))]) ?_ (fun u G h => ⟨h.2.ownN (k := 0) rfl hne, h.1.agree⟩)
  refine ACallP.of_body (nt := 38) (rs := [.tmp 4]) Try.func22 rfl rfl rfl rfl fun _ _ => ?_
  have A0 : AgB (Fr H) H H := .refl _ _
  have S0 : Sep H (Fr H) [] := .nil
  have hB := Fr.up H
  obtain ⟨G1, p1, q1, q2, a1, S1⟩ := S0.boxT (hB.le A0.1) 34 [v0_0, v0_1, (Value.int .i64 x0_2)]
  have A1 := A0.ext (hB.le A0.1) a1
  replace S1 : Sep G1 (Fr H) [AL.box p1 [v0_0, v0_1, (Value.int .i64 x0_2)]] := S1
  refine AWp.sr fun K hK => ?_
  simp [q1, q2, a1.to_pre, cells_agg]
  apply hK
  clear hK K
  obtain ⟨w, G2, q3, S2, a2, t2⟩ := S1.make (P := Try.prog) (f := Value.int .i64) (t := 25) (i := 7) (hB.le A1.1) kelL keiI rfl (0 : Int) rfl (by decide)
  have A2 := A1.ext (hB.le A1.1) a2
  replace S2 : Sep G2 (Fr H) [AL.box p1 [v0_0, v0_1, (Value.int .i64 x0_2)], flat w 3 (ints (lrep 7 (0 : Int)))] := S2
  refine AWp.sr fun K hK => ?_
  simp [q3, a2.to_pre, t2]
  apply hK
  clear hK K
  have l2 := S2.loadAgg (P := Try.prog) (k := 0) rfl kszS kagS rfl
  refine .seq ?_
  refine .seq (AWp.region' fun K hK => ?_)
  simp [l2]
  refine CallK.of (F_impl_run_w (fu := fu) (hx0_0.agree A2.agree) (hx0_1.agree A2.agree) hC) ?_
  rintro mv G3 ⟨a3, E, M, D, hp, hE, S3⟩
  have A3 := A2.ext (hB.le A2.1) a3.agree
  have S3' : Sep G3 (Fr H) [AL.box p1 [v0_0, v0_1, (Value.int .i64 x0_2)], flat w 3 (ints (lrep 7 (0 : Int))), mapC mv .string 4 E, pool D] := S2.app a3.agree S3 (fun _ h => h) (hB.le A2.1)
  obtain ⟨it, G4, q4, S4, a4, a4p, t4⟩ := S3'.range (P := Try.prog) (k := 2) (t := 53) rfl (hB.le A3.1) kunC
  have A4 := A3.trans a4
  replace S4 : Sep G4 (Fr H) [AL.box p1 [v0_0, v0_1, (Value.int .i64 x0_2)], flat w 3 (ints (lrep 7 (0 : Int))), rngC it .string 4 E [], pool D] := S4
  simp [q4, t4]
  apply hK
  clear hK K
  simp only [andThen]
  have h00 : ∀ {G : AH}, AgB (Fr H) H G → ∀ e ∈ [(v0_0, x0_0), (v0_1, x0_1)], Sl G e.1 (ints e.2) := fun a e he => by
    simp at he
    rcases he with rfl | rfl
    · exact hx0_0.agree a.agree
    · exact hx0_1.agree a.agree
  have hlen : E.length = M.length := hE.length
  refine AWp.blk (AWp.loop (fun n env G => ∃ (seen : List Nat), n = unseen E.length seen ∧ seen.Nodup ∧ (∀ s ∈ seen, s < E.length) ∧
    Sep G (Fr H) [flat w 3 (ints ((seen.flatMap (atM (fun e => [e]) M)).foldl cloT (lrep 7 (0 : Int)))), rngC it .string 4 E seen, pool D] ∧ AgB (Fr H) H G ∧ env 5 = some w ∧ env 12 = some it) _ ⟨[], rfl, List.nodup_nil, by simp, S4.pick [1, 2, 3] (by decide) rfl, A4, by simp⟩ ?_)
  clear S4 S3' S3 S2 S1 A4 A3 A2 A1 a4 a3 a2 a1 a4p q1 q2 q3 q4 t2 t4 l2
  rintro _ env G ⟨seen, rfl, hnd, hlt, S, A, ev⟩
  refine .seq (AWp.nextS (k := 1) S rfl (hB.le A.1) rfl rfl rfl rfl (by simp [ev]) (fun hall K hK => ?_) (fun s kv G' hns hkv S' a' K hK => ?_))
  · simp [ARun, AStep]
    apply hK
    clear hK K
    simp only [andThen]
    refine .seq (AWp.cf (by simp) ?_)
    refine .exit ?_
    simp only [andThen, leaves, if_true, if_false, reduceIte, Nat.reduceEqDiff]
    refine AWp.sr fun K hK => ?_
    simp [ev]
    apply hK
    clear hK K
    refine .ret ?_
    have p1 := seen_perm (n := M.length) hnd (fun s hs => hlen ▸ hlt s hs) (fun s hs => hall s (hlen ▸ hs))
    have p2 : (seen.flatMap (atM (fun e => [e]) M)).Perm C := by
      refine (flatMap_perm _ p1).trans ?_
      rw [range_flatMap]
      simpa using hp
    rw [clo_perm p2] at S
    exact ⟨by simp, [w], by simp [ev, (S.sl (k := 0) rfl).tup], A, S.pick [0] (by decide) rfl⟩
  · generalize ho : (seen.flatMap (atM (fun e => [e]) M)).foldl cloT (lrep 7 (0 : Int)) = o at S S'
    replace S' : Sep G' (Fr H) [flat w 3 (ints o), rngC it .string 4 E (seen ++ [s]), pool D] := S'
    have A' := A.trans a'
    have hen := S'.entryG (k := 1) rfl hkv
    have hsl : s < E.length := (List.getElem?_eq_some_iff.1 hkv).1
    obtain ⟨e, he, u0, u1, rfl, hm0, hm1⟩ := All2.get hE s kv hkv
    have hce := hin e (hp.mem_iff.1 (List.mem_of_getElem? he))
    have hoL : o.length = 7 := by rw [← ho, clo_len]; rfl
    have hnx : (((seen ++ [s]).flatMap (atM (fun e => [e]) M)).foldl cloT (lrep 7 (0 : Int))) = cloT o e := by
      rw [List.flatMap_append, List.foldl_append, ho]
      simp [atM, he]
    have hnd' : (seen ++ [s]).Nodup := by
      rw [List.nodup_append]
      exact ⟨hnd, by simp, fun a ha b hb => by simp at hb; subst hb; exact fun e => hns (e ▸ ha)⟩
    have hlt' : ∀ a ∈ seen ++ [s], a < E.length := fun a ha => by
      rcases List.mem_append.1 ha with ha | ha
      · exact hlt a ha
      · simp at ha; subst ha; exact hsl
    obtain ⟨ek, ⟨eu, ed, ec⟩, ew⟩ := e
    simp only at hm0 hm1 hen hkv
    simp only [packV] at hen
    clear S A a'
    simp [ARun, AStep, packV]
    apply hK
    clear hK K
    simp only [andThen]
    refine .seq (AWp.ct (by simp) ?_)
    refine .skip ?_
    simp only [andThen]
    refine AWp.blk ?_
    obtain ⟨G2, p9, q1, q2, a2, S2⟩ := S'.allocT (P := Try.prog) (hB.le A'.1) kzeC rfl
    have A2 := A'.ext (hB.le A'.1) a2
    replace S2 : Sep G2 (Fr H) [flat w 3 (ints o), rngC it .string 4 E (seen ++ [s]), pool D, AL.box p9 [.slice none 0 0, .slice none 0 0, .int .i64 0, .int .i64 0]] := S2
    obtain ⟨G3, q3, S3, a3⟩ := S2.putAgg (P := Try.prog) (k := 3) (xs := [u0, u1, .int .i64 ec, .int .i64 ew]) rfl (hB.le A2.1) kszC rfl rfl
    have A3 := A2.trans a3
    replace S3 : Sep G3 (Fr H) [flat w 3 (ints o), rngC it .string 4 E (seen ++ [s]), pool D, AL.box p9 [u0, u1, .int .i64 ec, .int .i64 ew]] := S3
    refine AWp.sr fun K hK => ?_
    simp [ev, hen, q1, q2, a2.to_pre, q3]
    apply hK
    clear hK K
    have w0 := pool_sl (D0 := [(v0_0, x0_0), (v0_1, x0_1)]) S3 (k := 2) rfl (h00 A3) hm0
    have w1 := pool_sl (D0 := [(v0_0, x0_0), (v0_1, x0_1)]) S3 (k := 2) rfl (h00 A3) hm1
    have f0 := S3.fieldT (P := Try.prog) (k := 3) rfl kfC0
    have f1 := S3.fieldT (P := Try.prog) (k := 3) rfl kfC1
    have s0 := S3.fieldSub (P := Try.prog) (k := 3) (o := 0) rfl kfS0
    have s1 := S3.fieldSub (P := Try.prog) (k := 3) (o := 0) rfl kfS1
    have s2 := S3.fieldSub (P := Try.prog) (k := 3) (o := 0) rfl kfS2
    simp only [Nat.zero_add] at s0 s1 s2
    have i0 := S3.loadF (P := Try.prog) (k := 3) rfl kszL kagL (off := 0) rfl
    have i1 := S3.loadF (P := Try.prog) (k := 3) rfl kszL kagL (off := 1) rfl
    have i2 := S3.loadF (P := Try.prog) (k := 3) rfl kszI kagI (off := 2) rfl
    have i3 := S3.loadF (P := Try.prog) (k := 3) rfl kszI kagI (off := 3) rfl
    have m0 := lenG (P := Try.prog) w0 kelL
    have m1 := lenG (P := Try.prog) w1 kelL
    refine AWp.sr fun K hK => ?_
    simp [ev, f0, s0, s1, i0, i1, m0, m1]
    apply hK
    clear hK K
    refine AWp.cond' (t := shutE (ek, (eu, ed, ec), ew)) (by simp [shutE]) (fun hb => ?_) (fun hb => ?_)
    · have g1 : inL o ec := by
        have := hce hb
        unfold inL
        simp only at this
        omega
      have q5 := idxG (P := Try.prog) (kk := .i64) (S3.sl (k := 0) rfl) kelL kszI g1
      have q6 := loadG (P := Try.prog) (S3.sl (k := 0) rfl) kszI kagI g1 0
      obtain ⟨G5, q7, S5, a5⟩ := S3.storeG (P := Try.prog) (k := 0) (f := Value.int .i64) (xs := o) (x := iadd .i64 (gat 0 o ec) ew) rfl (hB.le A3.1) kszI g1 rfl rfl
      have A5 := A3.trans a5
      replace S5 : Sep G5 (Fr H) [flat w 3 (ints (lset o ec (iadd .i64 (gat 0 o ec) ew))), rngC it .string 4 E (seen ++ [s]), pool D, AL.box p9 [u0, u1, .int .i64 ec, .int .i64 ew]] := S5
      refine (DWp.drawn (B := [0, 0, 2, 6, 15, 31, 0, 64, 255, 511, 1023]) 10 mixed (by kernel_rfl) (by decide) fun K hK => ?_).aw
      simp [ev, f0, s2, i2, q5, q6, f1, i3, q7]
      apply hK
      clear hK K
      simp only [andThen, leaves]
      refine ⟨_, unseen_lt hsl hns, seen ++ [s], rfl, hnd', hlt', ?_, A5, by simp [ev]⟩
      rw [hnx]
      unfold cloT
      rw [hb]
      exact S5.pick [0, 1, 2] (by decide) rfl
    · refine .skip ?_
      simp only [andThen, leaves]
      refine ⟨_, unseen_lt hsl hns, seen ++ [s], rfl, hnd', hlt', ?_, A3, by simp [ev]⟩
      rw [hnx]
      unfold cloT
      rw [hb]
      exact S3.pick [0, 1, 2] (by decide) rfl
end Go.Proofs.Ytdbflchpbhkanaa.AL

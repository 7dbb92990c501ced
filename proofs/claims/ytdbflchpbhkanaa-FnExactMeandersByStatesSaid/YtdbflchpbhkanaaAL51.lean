/- AL, part 51: rounds over a map of our own, in whatever order. No condition. -/
import Derived.Test.YtdbflchpbhkanaaAL50
namespace Go.Proofs.Ytdbflchpbhkanaa.AL
open Go Go.RowKit
set_option linter.unusedVariables false
set_option linter.unusedSimpArgs false
theorem Nx.mark_wf {H : AH} {i : Nat} {x : Nx} (h : aNx H i = some x) (hw : WF H) (s : Nat) : WF (x.mark H s) ∧ (x.mark H s).length = H.length := by
  obtain ⟨m, jm, om, h1, _⟩ := aNx_some h
  obtain ⟨_, o, _, _, _, _, o4, _⟩ := itO_some h1
  refine ⟨(WF.set hw fun c hc => ?_).1, by simp [Nx.mark]⟩
  rcases List.mem_append.1 hc with hc | hc
  · exact hw.cell o4 hc
  · simp at hc
    subst hc
    rfl
theorem aNx_R3 {H : AH} {i : Nat} {x : Nx} (h : aNx H i = some x) (hw : WF H) {s : Nat} {kv : Value × List Value} (he : x.E[s]? = some kv) : R3 H.length (.tuple #[.bool true, kv.1, packV kv.2]) = true := by
  obtain ⟨m, jm, om, _, _, hm, hE, _⟩ := aNx_some h
  obtain ⟨_, o, _, _, _, o4, _⟩ := mapO_some hm
  have hem := List.mem_of_getElem? he
  have h1 : R2 H.length kv.1 = true := R2_of0 (hw.cell o4 (decN_mem hE kv hem).1)
  have h2 := decN_R hE (fun c hm => hw.cell o4 hm) kv hem
  have h3 : R2 H.length (.bool true) = true := rfl
  simp [R3, h1, h2, h3]
theorem AWp.next {P : Program} {nt id : Nat} {ops : Array Oper} {o : Oper} {rest : List Oper} {it : Operand} {i : Nat} {x : Nx} {env : Env} {H : AH} {Q : Exit → Env → AH → Prop} (ho : ops.toList = o :: rest) (hop : o.op = .next it false) (hg : o.guard = none) (hd : okDst nt o.dst = true)
    (hit : aev env it = some (ptrAt i 0 0)) (hx : aNx H i = some x)
    (h0 : (∀ s, s < x.E.length → s ∈ x.seen) → ARun P nt ops (fun e G => Q .normal e G) rest (aput env o.dst (.tuple #[.bool false])) H)
    (h1 : ∀ s kv, s ∉ x.seen → x.E[s]? = some kv → ARun P nt ops (fun e G => Q .normal e G) rest (aput env o.dst (.tuple #[.bool true, kv.1, packV kv.2])) (x.mark H s)) : AWp P nt (.region id ops false) Q env H := by
  intro β w a K S hK
  refine wp_region ?_
  have e : List.range ops.size = 0 :: List.range' 1 rest.length := by
    rw [List.range_eq_range', show ops.size = rest.length + 1 by rw [← Array.length_toList, ho]; rfl]
    rfl
  rw [e]
  have hk : ops[0]? = some o := by rw [← Array.getElem?_toList, ho]; rfl
  have hd' : ops.toList.drop 1 = rest := by rw [ho]; rfl
  have hok : okGuard ops env o = true := by simp [okGuard, hg]
  have hw : Region.wanted o (yielded ops a.tmps) = true := by simp [Region.wanted, hg]
  simp only [wpOps, hk]
  rw [if_pos hw]
  refine .inl ?_
  have hp := S.envT.at_ hit
  rcases next_sound (P := P) S.rel o.type hx hp with ⟨hall, hr⟩ | ⟨s, kv, v', w', hs, he, hr, t, R', E⟩
  · unfold Oper.wp
    have hx' : (execOp a.eval o).run P w = .ok (.value (.tuple #[.bool false])) w := by simp [execOp, hop, hr]
    rw [hx']
    refine ops_sound rest 1 _ H β _ w hd' ⟨S.rel, S.wf, S.envT.put S.size (.tup (vs := [.bool false]) (vs' := [.bool false]) (.cons (.one (.one (.plain rfl))) .nil)) _ hd, S.er.put (by simp [R3, R2, R0]) _, by rw [Act.put_size]; exact S.size, by rw [Act.put_defers]; exact S.defers⟩ (h0 hall) ?_
    intro env2 H2 β2 a2 w2 q S2 E2 hl2
    exact hK _ _ _ _ _ _ q S2 E2 hl2
  · unfold Oper.wp
    have hx' : (execOp a.eval o).run P w = .ok (.value v') w' := by simp [execOp, hop, hr]
    rw [hx']
    obtain ⟨wf, hl⟩ := Nx.mark_wf hx S.wf s
    refine ops_sound rest 1 _ (x.mark H s) β _ w' hd' ⟨R', wf, (S.envT.ext E).put S.size (t.ext E) _ hd, (S.er.mono (Nat.le_of_eq hl.symm)).put (by rw [hl]; exact aNx_R3 hx S.wf he) _, by rw [Act.put_size]; exact S.size, by rw [Act.put_defers]; exact S.defers⟩ (h1 s kv hs he) ?_
    intro env2 H2 β2 a2 w2 q S2 E2 hl2
    exact hK _ _ _ _ _ _ q S2 (E.trans E2 (Nat.le_of_eq hl.symm)) (by omega)
def rngC (p : Value) (d : TypeDesc) (n : Nat) (E : Ents) (seen : List Nat) : Item := ⟨fun G F => ∃ i x jm cm, p = ptrAt i 0 0 ∧ aNx G i = some x ∧ x.E = E ∧ x.seen = seen ∧ mapO G (jm + 1) = some (jm, cm) ∧ x.c.cells = .map (some (jm + 1)) :: seen.map (fun (s : Nat) => Value.int .i64 (s : Int)) ∧ i = x.j + 1 ∧ x.j ≠ jm ∧ x.j ≠ jm + 1 ∧ (∀ e ∈ E, e.2.length = n ∧ keyOk d e.1 = true) ∧ F = [jm, jm + 1, x.j, x.j + 1],
  fun G G' F h ⟨i, x, jm, cm, h1, h2, h3, h4, h5, h6, h7, h8, h8', h9, h10⟩ => by
    subst h10
    have hm : mapO G' (jm + 1) = mapO G (jm + 1) := mapO_at (h jm (by simp)) (h (jm + 1) (by simp))
    have hi : itO G' (x.j + 1) = itO G (x.j + 1) := by simp only [itO, h x.j (by simp), h (x.j + 1) (by simp)]
    refine ⟨i, x, jm, cm, h1, ?_, h3, h4, by rw [hm]; exact h5, h6, h7, h8, h8', h9, rfl⟩
    subst h7
    obtain ⟨m, jm', om, k1, k2, k3, k4, k5⟩ := aNx_some h2
    rw [h6] at k2
    simp only [List.cons.injEq, Value.map.injEq, Option.some.injEq] at k2
    obtain ⟨rfl, _⟩ := k2
    rw [← h2]
    unfold aNx
    rw [hi, k1]
    simp only [h6, hm]⟩
section
variable {P : Program} {G G1 H : AH} {B : Nat → Prop} {l : List Item} {v p : Value} {E : Ents} {t : TypeId} {k n : Nat} {d : TypeDesc} {seen : List Nat}
theorem Sep.range (h : Sep G B l) (hk : l[k]? = some (mapC v d n E)) (hN : Up B G.length) {kt et : TypeId} (hu : P.underlying t = some (.map kt et)) :
    ∃ p G', aRange P G t v = some (p, G') ∧ Sep G' B (l.set k (rngC p d n E [])) ∧ AgB B G G' ∧ G <+: G' ∧ isTup p = false := by
  have h0 := h
  obtain ⟨F, ⟨j, c, rfl, h2, h3, h4, h5, h6⟩, hF⟩ := h.get hk
  have hd : decE c.elem c.cells = some E := by rw [h3, h4]; exact decE_enc fun e he => (h5 e he).1
  have hj := (hF (j + 1) (by rw [h6]; simp)).2
  have hr : aRange P G t (.map (some (j + 1))) = some (ptrAt (G.length + 1) 0 0, G ++ [⟨[.map (some (j + 1))], E.length, 0, 2, true⟩, ⟨[], 0, 0, 0, true⟩]) := by simp [aRange, hu, h2, hd]
  obtain ⟨G', r, s1, s2, s3⟩ := h0.step (it' := rngC (ptrAt (G.length + 1) 0 0) d n E []) hk hN (fun G' => G' = G ++ [⟨[.map (some (j + 1))], E.length, 0, 2, true⟩, ⟨[], 0, 0, 0, true⟩]) fun F' ⟨j', c', p1, p2, p3, p4, p5, p6⟩ hF' => by
    have e : j' = j := by cases p1; rfl
    subst e
    have hm : mapO (G ++ [⟨[.map (some (j' + 1))], E.length, 0, 2, true⟩, ⟨[], 0, 0, 0, true⟩]) (j' + 1) = some (j', c) := by
      rw [mapO_at (G := G) (by rw [List.getElem?_append_left (by omega)]) (by rw [List.getElem?_append_left (by omega)])]
      exact h2
    have hit : itO (G ++ [⟨[.map (some (j' + 1))], E.length, 0, 2, true⟩, ⟨[], 0, 0, 0, true⟩]) (G.length + 1) = some (G.length, ⟨[.map (some (j' + 1))], E.length, 0, 2, true⟩) := by simp [itO]
    refine ⟨_, [j', j' + 1, G.length, G.length + 1], rfl, ⟨G.length + 1, ⟨G.length, ⟨[.map (some (j' + 1))], E.length, 0, 2, true⟩, E, []⟩, j', c, rfl, ?_, rfl, rfl, hm, rfl, rfl, by simp; omega, by simp; omega, h5, rfl⟩, fun i hi => ?_, by simp, fun i hi _ => by rw [List.getElem?_append_left hi]⟩
    · unfold aNx
      simp [hit, hm, decS, hd]
    · simp at hi
      rw [p6]
      simp
      omega
  subst r
  exact ⟨_, _, hr, s1, s2, ⟨_, rfl⟩, rfl⟩
theorem Sep.nx (h : Sep G B l) (hk : l[k]? = some (rngC p d n E seen)) (hN : Up B G.length) :
    ∃ i x, p = ptrAt i 0 0 ∧ aNx G i = some x ∧ x.E = E ∧ x.seen = seen ∧ ∀ s, Sep (x.mark G s) B (l.set k (rngC p d n E (seen ++ [s]))) ∧ AgB B G (x.mark G s) := by
  have h0 := h
  obtain ⟨F, ⟨i, x, jm, cm, rfl, h2, h3, h4, h5, h6, rfl, h8, h8', h9, h10⟩, hF⟩ := h.get hk
  refine ⟨x.j + 1, x, rfl, h2, h3, h4, fun s => ?_⟩
  obtain ⟨m, jm', om, k1, k2, k3, k4, k5⟩ := aNx_some h2
  obtain ⟨_, o, o1, o2, o3, o3', o4, o5, o6, o7⟩ := itO_some k1
  have hj := (List.getElem?_eq_some_iff.1 o4).1
  rw [h6] at k2
  simp only [List.cons.injEq, Value.map.injEq, Option.some.injEq] at k2
  obtain ⟨rfl, _⟩ := k2
  rw [h5] at k3
  cases k3
  obtain ⟨G', r, s1, s2, s3⟩ := h0.step (it' := rngC (ptrAt (x.j + 1) 0 0) d n E (seen ++ [s])) hk hN (fun G' => G' = x.mark G s) fun F' ⟨i', x', jm', cm', p1, p2, p3, p4, p5, p6, p7, p8, p8', p9, p10⟩ hF' => by
    have e : i' = x.j + 1 := by simp [ptrAt] at p1; omega
    subst e
    rw [h2] at p2
    cases p2
    rw [h6] at p6
    simp only [List.cons.injEq, Value.map.injEq, Option.some.injEq, Nat.add_right_cancel_iff] at p6
    obtain ⟨rfl, _⟩ := p6
    have hm : mapO (x.mark G s) (jm + 1) = some (jm, cm) := by
      rw [mapO_at (G := G) (by unfold Nx.mark; rw [List.getElem?_set_ne h8]) (by unfold Nx.mark; rw [List.getElem?_set_ne h8'])]
      exact h5
    have hit : itO (x.mark G s) (x.j + 1) = some (x.j, { x.c with cells := x.c.cells ++ [.int .i64 (s : Int)] }) := by
      unfold Nx.mark
      simp only [itO]
      rw [List.getElem?_set_ne (by omega), List.getElem?_set_self hj, o1]
      simp [o2, o3, o3', o5, o6, o7]
    refine ⟨_, [jm, jm + 1, x.j, x.j + 1], rfl, ⟨x.j + 1, ⟨x.j, { x.c with cells := x.c.cells ++ [.int .i64 (s : Int)] }, E, seen ++ [s]⟩, jm, cm, rfl, ?_, rfl, rfl, hm, by simp [h6], rfl, h8, h8', h9, rfl⟩, fun i hi => .inl (by rw [p10]; exact hi), by simp [Nx.mark], fun i hi hm => ?_⟩
    · unfold aNx
      have hse : seen.map (fun (s : Nat) => Value.int .i64 (s : Int)) ++ [.int .i64 (s : Int)] = (seen ++ [s]).map fun (s : Nat) => Value.int .i64 (s : Int) := by simp
      simp only [hit, h6, List.cons_append, hm, hse, decS_enc, k4]
      rw [if_pos k5, h3]
    · unfold Nx.mark
      rw [List.getElem?_set_ne]
      rintro rfl
      rw [p10] at hm
      simp at hm
  rw [← r]
  exact ⟨s1, s2⟩
theorem Sep.entryG (h : Sep G B l) {s : Nat} (hk : l[k]? = some (rngC p d n E (seen ++ [s]))) {kv : Value × List Value} (he : E[s]? = some kv) : aEntry G p = some (.tuple #[kv.1, packV kv.2]) := by
  obtain ⟨F, ⟨i, x, jm, cm, rfl, h2, h3, h4, _⟩, _⟩ := h.get hk
  subst h3
  have hl : x.seen.getLast? = some s := by rw [h4]; simp
  simp [aEntry, ptrAt, h2, hl, he]
theorem AWp.nextS {nt id : Nat} {ops : Array Oper} {o : Oper} {rest : List Oper} {it : Operand} {env : Env} {Q : Exit → Env → AH → Prop} (S : Sep G B l) (hk : l[k]? = some (rngC p d n E seen)) (hN : Up B G.length) (ho : ops.toList = o :: rest) (hop : o.op = .next it false) (hg : o.guard = none) (hd : okDst nt o.dst = true)
    (hit : aev env it = some p)
    (h0 : (∀ s, s < E.length → s ∈ seen) → ∀ K : Env → AH → Prop, (∀ e G, Q .normal e G → K e G) → ARun P nt ops K rest (aput env o.dst (.tuple #[.bool false])) G)
    (h1 : ∀ s kv G', s ∉ seen → E[s]? = some kv → Sep G' B (l.set k (rngC p d n E (seen ++ [s]))) → AgB B G G' → ∀ K : Env → AH → Prop, (∀ e G, Q .normal e G → K e G) → ARun P nt ops K rest (aput env o.dst (.tuple #[.bool true, kv.1, packV kv.2])) G') : AWp P nt (.region id ops false) Q env G := by
  obtain ⟨i, x, rfl, h2, h3, h4, h5⟩ := S.nx hk hN
  subst h3 h4
  exact AWp.next ho hop hg hd hit h2 (fun ha => h0 ha _ fun _ _ h => h) fun s kv hs he => h1 s kv _ hs he (h5 s).1 (h5 s).2 _ fun _ _ h => h
end
end Go.Proofs.Ytdbflchpbhkanaa.AL

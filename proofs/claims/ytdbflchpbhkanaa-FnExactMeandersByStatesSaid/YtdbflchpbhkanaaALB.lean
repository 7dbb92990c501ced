/- AL, the parts 11, 12, 13, 14, 15, 16, 17, 18, 19, 20, 21: code told on an abstract heap. No condition. -/
import Derived.Test.YtdbflchpbhkanaaALA
import Derived.WideShapes
import Derived.Below
namespace Go.Proofs.Ytdbflchpbhkanaa.AL
open Go Go.RowKit
set_option linter.unusedVariables false
set_option linter.unusedSimpArgs false

structure Src where
  i : Nat
  d : Nat
  g : Nat
def vr0 (N : Nat) (ρ : List Src) : Value → Value → Prop
  | .slice (some ⟨i, off, some gc⟩) n cc, .slice (some ⟨r, off', some g⟩) n' cr => n = n' ∧ (cc = n → cr = n') ∧ ((i < N ∧ r = i ∧ off' = off ∧ g = gc) ∨ (N ≤ i ∧ gc = 0 ∧ ∃ s, ρ[i - N]? = some s ∧ r = s.i ∧ g = s.g ∧ off' = s.d + off))
  | .pointer (some ⟨i, off, some gc⟩), .pointer (some ⟨r, off', some g⟩) => (i < N ∧ r = i ∧ off' = off ∧ g = gc) ∨ (N ≤ i ∧ gc = 0 ∧ ∃ s, ρ[i - N]? = some s ∧ r = s.i ∧ g = s.g ∧ off' = s.d + off)
  | c, r => c = r ∧ plainV c = true
def vr2 (N : Nat) (ρ : List Src) : Value → Value → Prop
  | .agg cs, .agg rs => All2 (vr0 N ρ) cs.toList rs.toList
  | c, r => vr0 N ρ c r
def vr3 (N : Nat) (ρ : List Src) : Value → Value → Prop
  | .tuple cs, .tuple rs => All2 (vr2 N ρ) cs.toList rs.toList
  | c, r => vr2 N ρ c r
def rename (N : Nat) (ρ : List Src) (β : BM) : BM := fun i => if i < N then β i else match ρ[i - N]? with
  | some s => (β s.i).map fun l => { l with base := l.base + s.d, gen := 0 }
  | none => none
structure Canon (H1 ext news : AH) (ρ : List Src) : Prop where
  len : ρ.length = news.length
  old : ∀ o ∈ H1, ∀ c ∈ o.cells, R0 H1.length c = true
  dist : ∀ (j k : Nat) (s t : Src), ρ[j]? = some s → ρ[k]? = some t → j ≠ k → s.i ≠ t.i
  obj : ∀ (k : Nat) (s : Src) (n : AO), ρ[k]? = some s → news[k]? = some n → H1.length ≤ s.i ∧ ∃ o : AO, (H1 ++ ext)[s.i]? = some o ∧ o.gen = s.g ∧ n.gen = 0 ∧ n.elem = o.elem ∧ n.sz = o.sz ∧ n.ro = false ∧ o.ro = false ∧ s.d + n.cells.length ≤ o.cells.length ∧
    ∀ (j : Nat) (c : Value), n.cells[j]? = some c → ∃ r, o.cells[s.d + j]? = some r ∧ vr0 H1.length ρ c r
section
variable {β β' : BM} {H H1 ext news : AH} {w w' : World} {ρ : List Src}
theorem rename_old {N i : Nat} (h : i < N) : rename N ρ β i = β i := by simp [rename, h]
theorem rename_new {N i : Nat} (h : N ≤ i) {s : Src} {l : Loc} (hs : ρ[i - N]? = some s) (hl : β s.i = some l) : rename N ρ β i = some { l with base := l.base + s.d, gen := 0 } := by
  simp [rename, Nat.not_lt.2 h, hs, hl]
theorem T0.renamed {N : Nat} {c r v : Value} (R : Rel β (H1 ++ ext) w) (C : Canon H1 ext news ρ) (hN : H1.length = N) (h : vr0 N ρ c r) (t : T0 β r v) (hk : ∀ (k : Nat) (s : Src), ρ[k]? = some s → ∃ o : AO, (H1 ++ ext)[s.i]? = some o ∧ o.gen = s.g) : T0 (rename N ρ β) c v := by
  unfold vr0 at h
  split at h
  · rename_i i off gc n cc r off' g n' cr
    obtain ⟨rfl, hc, h⟩ := h
    rcases h with ⟨hi, rfl, rfl, rfl⟩ | ⟨hi, rfl, s, hs, rfl, rfl, rfl⟩
    · cases t with
      | plain hp => simp [plainV] at hp
      | sl hl hg hn hcc ha => exact .sl ((rename_old hi).trans hl) hg hn (fun e => hcc (hc e)) ha
      | slOld hl hg => exact .slOld ((rename_old hi).trans hl) hg
    · obtain ⟨o, ho, hog⟩ := hk _ s hs
      cases t with
      | plain hp => simp [plainV] at hp
      | sl hl hg hn hcc ha =>
        refine .sl (rename_new hi hs hl) rfl hn (fun e => hcc (hc e)) ?_
        rcases ha with h0 | ⟨rfl, hf⟩
        · exact .inl h0
        · exact .inr ⟨by simp [Nat.add_assoc], by simp only; omega⟩
      | slOld hl hg =>
        have := (R.obj _ _ _ ho hl).1
        omega
  · rename_i i off gc r off' g
    rcases h with ⟨hi, rfl, rfl, rfl⟩ | ⟨hi, rfl, s, hs, rfl, rfl, rfl⟩
    · cases t with
      | plain hp => simp [plainV] at hp
      | ptr hl hg => exact .ptr ((rename_old hi).trans hl) hg
      | ptrOld hl hg => exact .ptrOld ((rename_old hi).trans hl) hg
    · obtain ⟨o, ho, hog⟩ := hk _ s hs
      cases t with
      | plain hp => simp [plainV] at hp
      | ptr hl hg =>
        have := T0.ptr (off := off) (rename_new hi hs hl) rfl
        simpa [Nat.add_assoc] using this
      | ptrOld hl hg =>
        have := (R.obj _ _ _ ho hl).1
        omega
  · obtain ⟨rfl, hp⟩ := h
    have := t.of_plain hp
    subst this
    exact .plain hp
theorem vr0_flat {N : Nat} {c r : Value} (h : vr0 N ρ c r) : isRow r = false ∧ isTup r = false ∧ flatV r = true := by
  unfold vr0 at h
  split at h
  · exact ⟨rfl, rfl, rfl⟩
  · exact ⟨rfl, rfl, rfl⟩
  · obtain ⟨rfl, hp⟩ := h
    cases c with
    | agg _ => simp [plainV] at hp
    | tuple _ => simp [plainV] at hp
    | pointer a => cases a <;> exact ⟨rfl, rfl, by simp [flatV, plainV]⟩
    | slice a _ _ => cases a <;> exact ⟨rfl, rfl, by simp_all [flatV, plainV]⟩
    | map a => cases a <;> exact ⟨rfl, rfl, by simp_all [flatV, plainV]⟩
    | _ => exact ⟨rfl, rfl, by simpa [flatV] using hp⟩
theorem T1.renamed {N : Nat} {c r v : Value} (R : Rel β (H1 ++ ext) w) (C : Canon H1 ext news ρ) (hN : H1.length = N) (h : vr0 N ρ c r) (t : T1 β r v) (hk : ∀ (k : Nat) (s : Src), ρ[k]? = some s → ∃ o : AO, (H1 ++ ext)[s.i]? = some o ∧ o.gen = s.g) : T1 (rename N ρ β) c v :=
  .one (T0.renamed R C hN h ((T3.one (.one t)).flat (vr0_flat h).2.2) hk)
theorem Canon.src (C : Canon H1 ext news ρ) : ∀ (k : Nat) (s : Src), ρ[k]? = some s → ∃ o : AO, (H1 ++ ext)[s.i]? = some o ∧ o.gen = s.g := fun k s hs => by
  have hk := (List.getElem?_eq_some_iff.1 hs).1
  obtain ⟨_, o, ho, hg, _⟩ := C.obj k s _ hs (List.getElem?_eq_getElem (by rw [← C.len]; exact hk))
  exact ⟨o, ho, hg⟩
theorem T2.renamed {c r v : Value} (R : Rel β (H1 ++ ext) w) (C : Canon H1 ext news ρ) (h : vr2 H1.length ρ c r) (t : T2 β r v) : T2 (rename H1.length ρ β) c v := by
  unfold vr2 at h
  split at h
  · rename_i cs rs
    obtain ⟨vs, rfl, hv⟩ := (T3.one t).agg
    have : All2 (T1 (rename H1.length ρ β)) cs.toList vs.toList := by
      refine All2.of_get (h.length.trans hv.length) fun i x y hx hy => ?_
      obtain ⟨r, hr, hq⟩ := h.get i x hx
      obtain ⟨y', hy', ht⟩ := hv.get i r hr
      rw [hy] at hy'
      cases hy'
      exact T1.renamed R C rfl hq ht C.src
    have := T2.agg this
    simpa using this
  · have := (vr0_flat h)
    exact .one (T1.renamed R C rfl h (t.one' this.1) C.src)
theorem T3.renamed {c r v : Value} (R : Rel β (H1 ++ ext) w) (C : Canon H1 ext news ρ) (h : vr3 H1.length ρ c r) (t : T3 β r v) : T3 (rename H1.length ρ β) c v := by
  unfold vr3 at h
  split at h
  · rename_i cs rs
    obtain ⟨vs, rfl, hv⟩ := t.tuple
    have : All2 (T2 (rename H1.length ρ β)) cs.toList vs.toList := by
      refine All2.of_get (h.length.trans hv.length) fun i x y hx hy => ?_
      obtain ⟨r, hr, hq⟩ := h.get i x hx
      obtain ⟨y', hy', ht⟩ := hv.get i r hr
      rw [hy] at hy'
      cases hy'
      exact T2.renamed R C hq ht
    have := T3.tup this
    simpa using this
  · refine .one (T2.renamed R C h (t.two ?_))
    unfold vr2 at h
    split at h
    · rfl
    · exact (vr0_flat h).2.1
theorem T0.oldR {N : Nat} {c v : Value} (t : T0 β c v) (hr : R0' N c) : T0 (rename N ρ β) c v := by
  cases t with
  | plain hp => exact .plain hp
  | ptr h hg => exact .ptr ((rename_old hr).trans h) hg
  | ptrOld h hg => exact .ptrOld ((rename_old hr).trans h) hg
  | sl h hg hn hcc ha => exact .sl ((rename_old hr).trans h) hg hn hcc ha
  | slOld h hg => exact .slOld ((rename_old hr).trans h) hg
  | mp h hs hro => exact .mp ((rename_old hr).trans h) hs hro
theorem T1.oldR {N : Nat} {c v : Value} (t : T1 β c v) (hr : R0 N c = true) : T1 (rename N ρ β) c v := by
  cases t with
  | one t => exact .one (t.oldR (R0'_of hr))
  | fn t =>
    refine .fn ?_
    refine All2.of_get t.length fun k x y hx hy => ?_
    obtain ⟨y', hy', t1⟩ := t.get k x hx
    rw [hy] at hy'
    cases hy'
    refine t1.oldR ?_
    simp only [AL.R0, List.all_toArray] at hr
    have := List.all_eq_true.1 hr x (List.mem_of_getElem? hx)
    cases t1 with
    | plain hp => exact R0'_plain hp
    | ptr => simpa [R0', R00] using this
    | ptrOld => simpa [R0', R00] using this
    | sl => simpa [R0', R00] using this
    | slOld => simpa [R0', R00] using this
    | mp => simpa [R0', R00] using this
theorem T2.oldR {N : Nat} {c v : Value} (t : T2 β c v) (hr : R2 N c = true) : T2 (rename N ρ β) c v := by
  cases t with
  | one t =>
    refine .one (t.oldR ?_)
    unfold R2 at hr
    split at hr
    · cases t with
      | one t => rcases t with t | t | t | t | t | t; simp [plainV] at t
    · exact hr
  | agg t =>
    simp only [R2, List.all_toArray] at hr
    refine .agg (All2.of_get t.length fun k x y hx hy => ?_)
    obtain ⟨y', hy', t1⟩ := t.get k x hx
    rw [hy] at hy'
    cases hy'
    exact t1.oldR (List.all_eq_true.1 hr x (List.mem_of_getElem? hx))
theorem MapIn.oldR {N n b : Nat} {cs : List Value} (m : MapIn β n cs b w) (h : ∀ c ∈ cs, R0 N c = true) : MapIn (rename N ρ β) n cs b w := by
  obtain ⟨es, l, h1, h2, h3, h4⟩ := m
  refine ⟨es, l, h1, h2, h3, All2.of_get h4.length fun k x y hx hy => ?_⟩
  obtain ⟨y', hy', a1, a2, a3⟩ := h4.get k x hx
  rw [hy] at hy'
  cases hy'
  exact ⟨a1, a2, a3.oldR (decN_R h3 h x (List.mem_of_getElem? hx))⟩
theorem HidIn.oldR {N : Nat} {c : AO} {l : Loc} (m : HidIn β c l w) (h : ∀ x ∈ c.cells, R0 N x = true) : HidIn (rename N ρ β) c l w :=
  ⟨m.1, fun e => (m.2.1 e).oldR h, fun e => by
    obtain ⟨i, b', seen, h1, h2, h3⟩ := m.2.2 e
    exact ⟨i, b', seen, h1, h2.oldR (R0'_of (h _ (by rw [h1]; exact .head _))), h3⟩⟩
theorem Canon.rel (R : Rel β' (H1 ++ ext) w') (R0 : Rel β H w) (hl : H.length = H1.length) (C : Canon H1 ext news ρ) (E : Ext H.length β w β' w') :
    Rel (rename H1.length ρ β') (H1 ++ news) w' ∧ Ext H.length β w (rename H1.length ρ β') w' := by
  have hsrc := C.src
  refine ⟨⟨fun i hi => ?_, fun i l h => ?_, fun i j l m hi hj hne he => ?_, fun i o l ho hlc => ?_, fun i o ho hs0 hr0 hg0 => ?_, fun i o l ho hlc hs0 hr0 => ?_⟩, ⟨E.os, E.tape, E.output, E.size, E.keep, fun i l h => ?_, fun i hi hn => ?_, fun i l' h => ?_, fun i l h hlr => ?_⟩⟩
  · rw [List.length_append] at hi
    have : ρ[i - H1.length]? = none := List.getElem?_eq_none (by rw [C.len]; omega)
    simp [rename, Nat.not_lt.2 (show H1.length ≤ i by omega), this]
  · unfold rename at h
    split at h
    · exact R.loc i l h
    · split at h
      · obtain ⟨m, hm, rfl⟩ := Option.map_eq_some_iff.1 h
        exact R.loc _ m hm
      · cases h
  · have get : ∀ {i : Nat} {l : Loc}, rename H1.length ρ β' i = some l → ∃ q m, β' q = some m ∧ m.b = l.b ∧ (m.ro = l.ro ∧ m.sz = l.sz) ∧ ((i < H1.length ∧ q = i) ∨ (H1.length ≤ i ∧ H1.length ≤ q ∧ ∃ s, ρ[i - H1.length]? = some s ∧ s.i = q)) := by
      intro i l h
      unfold rename at h
      split at h
      · exact ⟨i, l, h, rfl, ⟨rfl, rfl⟩, .inl ⟨by assumption, rfl⟩⟩
      · split at h
        · rename_i s hs
          obtain ⟨m, hm, rfl⟩ := Option.map_eq_some_iff.1 h
          have hk := (List.getElem?_eq_some_iff.1 hs).1
          have hge := (C.obj _ s _ hs (List.getElem?_eq_getElem (by rw [← C.len]; exact hk))).1
          exact ⟨s.i, m, hm, rfl, ⟨rfl, rfl⟩, .inr ⟨by omega, hge, s, hs, rfl⟩⟩
        · cases h
    obtain ⟨qi, mi, h1, h2, h3, h4⟩ := get hi
    obtain ⟨qj, mj, k1, k2, k3, k4⟩ := get hj
    have hq : qi ≠ qj := by
      rcases h4 with ⟨a, rfl⟩ | ⟨a, b, s, hs, rfl⟩ <;> rcases k4 with ⟨c, rfl⟩ | ⟨c, d, t, ht, rfl⟩
      · exact hne
      · omega
      · omega
      · exact C.dist _ _ s t hs ht (by omega)
    rw [← h3.1, ← k3.1, ← h3.2, ← k3.2]
    exact R.inj qi qj mi mj h1 k1 hq (by rw [h2, k2]; exact he)
  · by_cases hi : i < H1.length
    · rw [rename_old hi] at hlc
      rw [List.getElem?_append_left hi] at ho
      obtain ⟨g1, g2, g3, g4, g5, g6⟩ := R.obj i o l (by rw [List.getElem?_append_left hi]; exact ho) hlc
      refine ⟨g1, g2, g3, g4, fun j c hc => ?_, g6⟩
      obtain ⟨v, hv, t⟩ := g5 j c hc
      exact ⟨v, hv, t.oldR (C.old o (List.mem_of_getElem? ho) c (List.mem_of_getElem? hc))⟩
    · have hge : H1.length ≤ i := by omega
      rw [List.getElem?_append_right hge] at ho
      unfold rename at hlc
      rw [if_neg hi] at hlc
      split at hlc
      · rename_i s hs
        obtain ⟨m, hm, rfl⟩ := Option.map_eq_some_iff.1 hlc
        obtain ⟨k1, q, hq, k2, k3, k4, k5, k6, k7, k8, k9⟩ := C.obj _ s o hs ho
        obtain ⟨g1, g2, g3, g4, g5, g6⟩ := R.obj s.i q m hq hm
        refine ⟨k3.symm, g2.trans k5.symm, g3.trans (k7.trans k6.symm), by simp only; omega, fun j c hc => ?_, fun _ => ?_⟩
        · obtain ⟨r, hr, hv⟩ := k9 j c hc
          obtain ⟨v, hv', t⟩ := g5 _ r hr
          exact ⟨v, by simpa [Nat.add_assoc] using hv', T1.renamed R C rfl hv t hsrc⟩
        · obtain ⟨arr, ha1, ha2⟩ := g6 k7
          exact ⟨arr, by rw [k4]; exact ha1, ha2⟩
      · cases hlc
  · by_cases hi : i < H1.length
    · rw [rename_old hi]
      exact R.hid i o (by rw [List.getElem?_append_left hi] at ho ⊢; exact ho) hs0 hr0 hg0
    · rw [List.getElem?_append_right (by omega)] at ho
      unfold rename
      rw [if_neg hi]
      split
      · rename_i s hs
        obtain ⟨k1, q, hq, k2, k3, k4, k5, k6, k7, k8, k9⟩ := C.obj _ s o hs ho
        rw [hr0] at k6
        cases k6
      · rfl
  · by_cases hi : i < H1.length
    · rw [rename_old hi] at hlc
      obtain ⟨j, c, rfl, m1, m2, m3, m4, m5⟩ := R.mp i o l (by rw [List.getElem?_append_left hi] at ho ⊢; exact ho) hlc hs0 hr0
      rw [List.getElem?_append_left (by omega)] at m1
      exact ⟨j, c, rfl, by rw [List.getElem?_append_left (by omega)]; exact m1, m2, m3, m4, m5.oldR (C.old c (List.mem_of_getElem? m1))⟩
    · have hge : H1.length ≤ i := by omega
      rw [List.getElem?_append_right hge] at ho
      unfold rename at hlc
      rw [if_neg hi] at hlc
      split at hlc
      · rename_i s hs
        obtain ⟨k1, q, hq, k2, k3, k4, k5, k6, k7, k8, k9⟩ := C.obj _ s o hs ho
        rw [hr0] at k6
        cases k6
      · cases hlc
  · have hi : i < H1.length := by
      rcases Nat.lt_or_ge i H1.length with h1 | h1
      · exact h1
      · rw [R0.dom i (by omega)] at h; cases h
    rw [rename_old hi]
    exact E.mono i l h
  · rw [rename_old (by omega)]
    exact E.hole i hi hn
  · unfold rename at h
    split at h
    · exact E.fresh i l' h
    · split at h
      · rename_i s hs
        obtain ⟨m, hm, rfl⟩ := Option.map_eq_some_iff.1 h
        have hk := (List.getElem?_eq_some_iff.1 hs).1
        have hge := (C.obj _ s _ hs (List.getElem?_eq_getElem (by rw [← C.len]; exact hk))).1
        rcases E.fresh s.i m hm with ⟨l, hl', _, _⟩ | hf
        · rw [R0.dom s.i (by omega)] at hl'
          cases hl'
        · exact .inr hf
      · cases h
  · have hi : i < H1.length := by
      rcases Nat.lt_or_ge i H1.length with h1 | h1
      · exact h1
      · rw [R0.dom i (by omega)] at h; cases h
    rw [rename_old hi]
    exact E.still i l h hlr
end

theorem aLoad_R {P : Program} {H : AH} (hw : WF H) {t : TypeId} {p v : Value} (hq : aLoad P H t p = some v) : R3 H.length v = true := by
  unfold aLoad at hq
  split at hq
  · split at hq
    · split at hq
      · cases hq
        rename_i ha _ _ _
        exact agg_R fun c hm => hw.cell (alive_some ha).1 (List.mem_of_mem_drop (List.mem_of_mem_take hm))
      · cases hq
    · rename_i ha _ _
      exact R3_of2 (R2_of0 (hw.cell (alive_some ha).1 (List.mem_of_getElem? hq)))
    · cases hq
  · cases hq
theorem results_R' {P : Program} {H : AH} {env : Env} (hw : WF H) (he : ER H.length env) : ∀ {rs : List ResultVar} {vs : List Value}, aresults P H env rs = some vs → ∀ v ∈ vs, R2 H.length v = true
  | [], vs, h => by cases h; simp
  | r :: rs, vs, h => by
    simp only [aresults] at h
    split at h
    · rename_i v us hv hus
      split at h
      · cases h
      · rename_i ht
        cases h
        intro x hx
        rcases List.mem_cons.1 hx with rfl | hx
        · refine R3_two ?_ (by simpa using ht)
          cases r with
          | tmp t => exact he t _ hv
          | cell p t =>
            obtain ⟨pv, hp, hl⟩ := Option.bind_eq_some_iff.1 hv
            exact aLoad_R hw hl
        · exact results_R' hw he hus x hx
    · cases h
theorem results_R {P : Program} {H : AH} {env : Env} (hw : WF H) (he : ER H.length env) {rs : List ResultVar} {vs : List Value} (h : aresults P H env rs = some vs) : R3 H.length (packed vs) = true := by
  have h1 := results_R' hw he h
  unfold packed
  split
  · exact R3_of2 (h1 _ (by simp))
  · unfold R3
    simp only [List.all_toArray]
    exact List.all_eq_true.2 h1
theorem ACall.of_body {P : Program} {f : FuncId} {fn : Func} {c : Code} {args : List Value} {H H1 news : AH} {v : Value} (hf : P.funcs[f]? = some fn) (hb : fn.body = some c) (hn : (fn.name == "runtime.NumGoroutine") = false)
    (hgood : WF H → (∀ x ∈ args, R2 H.length x = true) → Good H v (H1 ++ news)) (hl : H.length = H1.length)
    (h : WF H → AWp P (args.length + (fn.ntmps - args.length)) c (fun e env' H' => (e = .normal ∨ e = .ret) ∧ ∃ vs ext ρ, aresults P H' env' fn.results.toList = some vs ∧ H' = H1 ++ ext ∧ Canon H1 ext news ρ ∧ vr3 H1.length ρ v (packed vs)) (fun t => args[t]?) H) :
    ACall P f args H v (H1 ++ news) := by
  refine ⟨⟨fn, hf, hn, by simp [hb]⟩, hgood, fun β w args' R wf hR ha => ?_⟩
  refine calls_of_wp hf hb ?_
  have hlen := ha.length
  refine h wf β w _ _ ⟨R, wf, ?_, ?_, ?_, rfl⟩ ?_
  · intro t v hv
    obtain ⟨v', h1, h2⟩ := ha.get t v hv
    rw [Array.getElem?_toList] at h1
    exact ⟨v', by simp only [Array.getElem?_append, (Array.getElem?_eq_some_iff.1 h1).1, if_true, h1], .one h2⟩
  · intro t v hv
    exact R3_of2 (hR v (List.mem_of_getElem? hv))
  · have : args'.size = args.length := by rw [← Array.length_toList, ← hlen]
    simp [this]
  · rintro e env' H' β' a' w' ⟨he, vs, ext, ρ, hvs, rfl, C, hv⟩ S E hle
    obtain ⟨v', hr, t⟩ := results_run S hvs
    obtain ⟨R', E'⟩ := C.rel S.rel R hl E
    have hfin : a'.defers = [] ∧ ∃ u, (results fn a'.tmps).run P w' = .ok u w' ∧ ∃ v' β', Ending.returned u = .returned v' ∧ Rel β' (H1 ++ news) w' ∧ Ext H.length β w β' w' ∧ T3 β' v v' :=
      ⟨S.defers, v', hr, v', _, rfl, R', E', t.renamed S.rel C hv⟩
    rcases he with rfl | rfl
    · exact hfin
    · exact hfin

theorem ACallP.of_body {P : Program} {f : FuncId} {fn : Func} {c : Code} {args : List Value} {H : AH} {rs : List ResultVar} {nt : Nat} {Post : Value → AH → Prop} (hf : P.funcs[f]? = some fn) (hb : fn.body = some c) (hn : (fn.name == "runtime.NumGoroutine") = false)
    (hr : fn.results.toList = rs) (ht : args.length + (fn.ntmps - args.length) = nt)
    (h : WF H → (∀ x ∈ args, R2 H.length x = true) → AWp P nt c (fun e env' H' => (e = .normal ∨ e = .ret) ∧ ∃ vs, aresults P H' env' rs = some vs ∧ Post (packed vs) H') (fun t => args[t]?) H) : ACallP P f args H Post := by
  refine ⟨⟨fn, hf, hn, by simp [hb]⟩, fun β w args' R wf hR ha => ?_⟩
  refine calls_of_wp hf hb ?_
  have hlen := ha.length
  refine h wf hR β w _ _ ⟨R, wf, ?_, ?_, ?_, rfl⟩ ?_
  · intro t v hv
    obtain ⟨v', h1, h2⟩ := ha.get t v hv
    rw [Array.getElem?_toList] at h1
    exact ⟨v', by simp only [Array.getElem?_append, (Array.getElem?_eq_some_iff.1 h1).1, if_true, h1], .one h2⟩
  · intro t v hv
    exact R3_of2 (hR v (List.mem_of_getElem? hv))
  · have : args'.size = args.length := by rw [← Array.length_toList, ← hlen]
    simp [this, ← ht]
  · rintro e env' H' β' a' w' ⟨he, vs, hvs, hp⟩ S E hle
    obtain ⟨v', hrun, t⟩ := results_run S (by rw [hr]; exact hvs)
    have hR3 : R3 H'.length (packed vs) = true := results_R S.wf S.er hvs
    have hfin : a'.defers = [] ∧ ∃ u, (results fn a'.tmps).run P w' = .ok u w' ∧ ∃ v v' β' H', Ending.returned u = .returned v' ∧ Post v H' ∧ Good H v H' ∧ Rel β' H' w' ∧ Ext H.length β w β' w' ∧ T3 β' v v' :=
      ⟨S.defers, v', hrun, packed vs, v', β', H', rfl, hp, ⟨S.wf, hR3, hle⟩, S.rel, E, t⟩
    rcases he with rfl | rfl
    · exact hfin
    · exact hfin
theorem Canon.none (H ext : AH) (hw : WF H) : Canon H ext [] [] := ⟨rfl, fun o ho c hc => hw o ho c hc, fun j k s t h => by simp at h, fun k s n h => by simp at h⟩
theorem vr3_plain {N : Nat} {v : Value} (h : plainV v = true) : vr3 N [] v v := by
  unfold vr3
  split
  · simp [plainV] at h
  · unfold vr2
    split
    · simp [plainV] at h
    · rename_i v _ _
      unfold vr0
      split
      · simp [plainV] at h
      · simp [plainV] at h
      · exact ⟨rfl, h⟩
def PlainL (vs : List Value) : Prop := ∀ v ∈ vs, plainV v = true
theorem vr3_plains {N : Nat} {vs : List Value} (h : PlainL vs) : vr3 N [] (packed vs) (packed vs) := by
  unfold packed
  split
  · exact vr3_plain (h _ (by simp))
  · unfold vr3
    refine All2.same fun v hv => ?_
    have := h v (by simpa using hv)
    unfold vr2
    split
    · simp [plainV] at this
    · unfold vr0
      split
      · simp [plainV] at this
      · simp [plainV] at this
      · exact ⟨rfl, this⟩
theorem R3_plains {n : Nat} {vs : List Value} (h : PlainL vs) : R3 n (packed vs) = true := by
  unfold packed
  split
  · exact R3_plain (h _ (by simp))
  · unfold R3
    simp only [List.all_toArray]
    exact List.all_eq_true.2 fun v hv => R2_of0 (R0_plain (h v hv))
theorem ACall.plain {P : Program} {f : FuncId} {fn : Func} {c : Code} {args : List Value} {H : AH} {rs : List ResultVar} {nt : Nat} {vs : List Value} (hf : P.funcs[f]? = some fn) (hb : fn.body = some c) (hn : (fn.name == "runtime.NumGoroutine") = false)
    (hr : fn.results.toList = rs) (ht : args.length + (fn.ntmps - args.length) = nt) (hp : PlainL vs)
    (h : WF H → AWp P nt c (fun e env' H' => (e = .normal ∨ e = .ret) ∧ (∃ ext, H' = H ++ ext) ∧ aresults P H' env' rs = some vs) (fun t => args[t]?) H) : ACall P f args H (packed vs) H := by
  have key := ACall.of_body (P := P) (f := f) (fn := fn) (c := c) (args := args) (H := H) (H1 := H) (news := []) (v := packed vs) hf hb hn (fun hw _ => by rw [List.append_nil]; exact ⟨hw, R3_plains hp, Nat.le_refl _⟩) rfl (fun hw => by
    rw [ht]
    refine (h hw).mono ?_
    rintro e env' H' ⟨he, ⟨ext, rfl⟩, hv⟩
    exact ⟨he, vs, ext, [], by rw [hr]; exact hv, rfl, Canon.none H ext hw, vr3_plains hp⟩)
  rwa [List.append_nil] at key

end Go.Proofs.Ytdbflchpbhkanaa.AL
namespace Go.Proofs.Ytdbflchpbhkanaa.AL
open Go Go.RowKit
set_option linter.unusedVariables false
set_option linter.unusedSimpArgs false

def arithK : BinOp → Bool
  | .eql | .neq => false
  | _ => true
def pureK : Op → Bool
  | .move _ | .assign _ | .pick .. | .unOp .. | .extract .. | .field .. | .makeFunc .. => true
  | .convert _ d _ => d != 9
  | .binOp op .. => arithK op
  | _ => false
def shapeK : Op → Bool
  | .indexAddr .. | .fieldAddr .. | .slice .. | .binOp .. => true
  | _ => false
def storeK : Op → Bool
  | .store .. => true
  | _ => false
def storesOnly (ops : Array Oper) (k : Nat) : Bool := (List.range ops.size).all fun j => decide (j < k) || match ops[j]? with
  | some o => pureK o.op || shapeK o.op || storeK o.op
  | none => true
def quiet (ops : Array Oper) (k : Nat) (op : Op) : Bool := pureK op || (storesOnly ops k && shapeK op)
def needs (o : Oper) : List Nat := (o.after.toList.filter fun e => Region.binds .any e).map (·.on)
def upTo (B : List Nat) : List Nat → Nat
  | [] => 0
  | k :: r => (2 ^ k ||| B.getD k 0) ||| upTo B r
def okBits (ops : Array Oper) (B : List Nat) : Bool := (List.range ops.size).all fun j => match ops[j]? with
  | some o => (needs o).all (fun k => decide (k < j)) && ((B.getD j 0 ||| upTo B (needs o)) == upTo B (needs o))
  | none => false
def chk (ops : Array Oper) (B : List Nat) (k : Nat) : Bool := okBits ops B && (List.range ops.size).all fun j => (List.range j).all fun i => (B.getD j 0).testBit i ||
  match ops[i]?, ops[j]? with
  | some x, some y => x.apart ops y && (quiet ops k x.op || quiet ops k y.op || decide (j < k))
  | _, _ => false
theorem upTo_bit {B : List Nat} {i : Nat} : ∀ {ns : List Nat}, (upTo B ns).testBit i = true → ∃ k ∈ ns, k = i ∨ (B.getD k 0).testBit i = true
  | [], h => by simp [upTo] at h
  | k :: r, h => by
    unfold upTo at h
    rw [Nat.testBit_or, Nat.testBit_or, Bool.or_eq_true, Bool.or_eq_true] at h
    rcases h with (h | h) | h
    · rw [Nat.testBit_two_pow] at h
      exact ⟨k, .head _, .inl (by simpa using h)⟩
    · exact ⟨k, .head _, .inr h⟩
    · obtain ⟨m, hm, h⟩ := upTo_bit h
      exact ⟨m, .tail _ hm, h⟩

section
variable {P : Program} {nt : Nat} {ops : Array Oper} {B : List Nat} {k : Nat}
theorem okBits_at (h : okBits ops B = true) {j : Nat} {o : Oper} (ho : ops[j]? = some o) : (∀ d ∈ needs o, d < j) ∧ ∀ i, (B.getD j 0).testBit i = true → ∃ d ∈ needs o, d = i ∨ (B.getD d 0).testBit i = true := by
  have hj := (Array.getElem?_eq_some_iff.1 ho).1
  have h1 := List.all_eq_true.1 h j (List.mem_range.2 hj)
  simp only [ho, Bool.and_eq_true, beq_iff_eq] at h1
  refine ⟨fun d hd => by simpa using List.all_eq_true.1 h1.1 d hd, fun i hi => upTo_bit (B := B) ?_⟩
  rw [← h1.2, Nat.testBit_or, hi, Bool.true_or]
theorem closed_bits (h : okBits ops B = true) {X : Nat → Prop} (hX : ∀ j o, X j → ops[j]? = some o → ∀ d ∈ needs o, X d) : ∀ (j : Nat), X j → j < ops.size → ∀ i, (B.getD j 0).testBit i = true → X i := by
  intro j
  induction j using Nat.strongRecOn with
  | _ j ih =>
    intro hj hlt i hi
    have ho : ops[j]? = some ops[j] := Array.getElem?_eq_getElem hlt
    obtain ⟨h1, h2⟩ := okBits_at h ho
    obtain ⟨d, hd, h3⟩ := h2 i hi
    have hXd := hX j _ hj ho d hd
    rcases h3 with rfl | h3
    · exact hXd
    · exact ih d (h1 d hd) hXd (Nat.lt_trans (h1 d hd) hlt) i h3
theorem chk_pair (h : chk ops B k = true) {i j : Nat} {x y : Oper} (hij : i < j) (hx : ops[i]? = some x) (hy : ops[j]? = some y) (hb : (B.getD j 0).testBit i = false) : x.apart ops y = true ∧ (quiet ops k x.op = true ∨ quiet ops k y.op = true ∨ j < k) := by
  have hj := (Array.getElem?_eq_some_iff.1 hy).1
  unfold chk at h
  rw [Bool.and_eq_true] at h
  have h1 := List.all_eq_true.1 (List.all_eq_true.1 h.2 j (List.mem_range.2 hj)) i (List.mem_range.2 hij)
  simp only [hb, Bool.false_or, hx, hy, Bool.and_eq_true, Bool.or_eq_true, decide_eq_true_eq] at h1
  exact ⟨h1.1, by rcases h1.2 with (h | h) | h <;> simp [h]⟩

def ARunD (P : Program) (nt : Nat) (ops : Array Oper) (k : Nat) (K : Env → AH → Prop) : Nat → List Oper → Env → AH → Prop
  | _, [], env, H => K env H
  | i, o :: r, env, H => if okDst nt o.dst = true ∧ okGuard ops env o = true then (if Region.wanted o (ayield ops env) then AStepD P o env H (fun v H' => (i < k → H <+: H') ∧ ARunD P nt ops k K (i + 1) r (aput env o.dst v) H') else ARunD P nt ops k K (i + 1) r (aput env o.dst undef) H) else False
def Step1 (P : Program) (nt : Nat) (ops : Array Oper) (k i : Nat) (env : Env) (H : AH) (v : Value) (H' : AH) : Prop :=
  ∃ o, ops[i]? = some o ∧ okDst nt o.dst = true ∧ okGuard ops env o = true ∧ ((Region.wanted o (ayield ops env) = true ∧ OpRes P env H o v H' ∧ (i < k → H <+: H')) ∨ (Region.wanted o (ayield ops env) = false ∧ v = undef ∧ H' = H))
def dstOf (ops : Array Oper) (i : Nat) : Option Tmp := (ops[i]?).bind (·.dst)
theorem trace_of {K : Env → AH → Prop} : ∀ (l : List Oper) (i0 : Nat) (env : Env) (H : AH), ops.toList.drop i0 = l → i0 + l.length = ops.size → ARunD P nt ops k K i0 l env H →
    ∃ (V : Nat → Value) (E : Nat → Env) (G : Nat → AH), E i0 = env ∧ G i0 = H ∧ K (E ops.size) (G ops.size) ∧ ∀ i, i0 ≤ i → i < ops.size → E (i + 1) = aput (E i) (dstOf ops i) (V i) ∧ Step1 P nt ops k i (E i) (G i) (V i) (G (i + 1))
  | [], i0, env, H, _, hl, h => ⟨fun _ => undef, fun _ => env, fun _ => H, rfl, rfl, h, fun i hi hlt => by simp at hl; omega⟩
  | o :: r, i0, env, H, hd, hl, h => by
    have ho : ops[i0]? = some o := by
      have : (ops.toList.drop i0)[0]? = some o := by rw [hd]; rfl
      rw [List.getElem?_drop, Nat.add_zero, Array.getElem?_toList] at this
      exact this
    have hd' : ops.toList.drop (i0 + 1) = r := by
      have := congrArg List.tail hd
      simpa [List.tail_drop] using this
    simp only [ARunD] at h
    split at h
    case isFalse => exact h.elim
    rename_i hok
    obtain ⟨v, H', hs, hrest⟩ : ∃ v H', Step1 P nt ops k i0 env H v H' ∧ ARunD P nt ops k K (i0 + 1) r (aput env o.dst v) H' := by
      split at h
      · rename_i hw
        unfold AStepD at h
        split at h
        · exact ⟨_, _, ⟨o, ho, hok.1, hok.2, .inl ⟨hw, .inl (by assumption), h.1⟩⟩, h.2⟩
        · obtain ⟨v, H', hc, h1, h2⟩ := h
          exact ⟨v, H', ⟨o, ho, hok.1, hok.2, .inl ⟨hw, .inr ⟨_, _, by assumption, hc⟩, h1⟩⟩, h2⟩
        · exact h.elim
      · rename_i hw
        exact ⟨undef, H, ⟨o, ho, hok.1, hok.2, .inr ⟨by simpa using hw, rfl, rfl⟩⟩, h⟩
    obtain ⟨V, E, G, h1, h2, h3, h4⟩ := trace_of r (i0 + 1) _ _ hd' (by simp at hl; omega) hrest
    have hsz : i0 < ops.size := by simp at hl; omega
    refine ⟨fun i => if i = i0 then v else V i, fun i => if i ≤ i0 then env else E i, fun i => if i ≤ i0 then H else G i, by simp, by simp, ?_, fun i hi hlt => ?_⟩
    · simp only [show ¬ (ops.size ≤ i0) by omega, if_false]; exact h3
    · by_cases e : i = i0
      · subst e
        simp only [Nat.le_refl, if_true, show ¬ (i + 1 ≤ i) by omega, if_false]
        rw [h1, h2]
        refine ⟨?_, hs⟩
        simp [dstOf, ho]
      · have := h4 i (by omega) hlt
        simp only [e, show ¬ (i + 1 ≤ i0) by omega, show ¬ (i ≤ i0) by omega, if_false]
        exact this

def fold (ops : Array Oper) (V : Nat → Value) (X : Nat → Bool) (base : Env) : Nat → Env
  | 0 => base
  | m + 1 => if X m then aput (fold ops V X base m) (dstOf ops m) (V m) else fold ops V X base m
theorem aput_other {env : Env} {d : Option Tmp} {v : Value} {t : Tmp} (h : d ≠ some t) : aput env d v t = env t := by
  cases d with
  | none => rfl
  | some d =>
    simp only [aput]
    rw [if_neg (fun e => h (by rw [e]))]
theorem fold_congr {V : Nat → Value} {X Y : Nat → Bool} {base : Env} {t : Tmp} : ∀ m, (∀ j, j < m → dstOf ops j = some t → X j = Y j) → fold ops V X base m t = fold ops V Y base m t
  | 0, _ => rfl
  | m + 1, h => by
    have ih := fold_congr (V := V) (base := base) m (fun j hj => h j (by omega))
    simp only [fold]
    by_cases e : dstOf ops m = some t
    · rw [h m (by omega) e]
      split
      · rw [e]; simp [aput]
      · exact ih
    · split <;> split <;> simp [aput_other e, ih]
theorem fold_all {V : Nat → Value} {E : Nat → Env} {base : Env} (h0 : E 0 = base) (h : ∀ i, i < ops.size → E (i + 1) = aput (E i) (dstOf ops i) (V i)) : ∀ m, m ≤ ops.size → fold ops V (fun _ => true) base m = E m
  | 0, _ => h0.symm
  | m + 1, hm => by
    simp only [fold, if_true]
    rw [fold_all h0 h m (by omega), h m (by omega)]
theorem fold_stop {V : Nat → Value} {i : Nat} {base : Env} : ∀ m, i ≤ m → fold ops V (fun j => decide (j < i)) base m = fold ops V (fun _ => true) base i
  | 0, h => by
    have : i = 0 := by omega
    subst this
    rfl
  | m + 1, h => by
    by_cases e : i = m + 1
    · subst e
      have : ∀ q, q ≤ m + 1 → fold ops V (fun j => decide (j < m + 1)) base q = fold ops V (fun _ => true) base q := by
        intro q
        induction q with
        | zero => intro _; rfl
        | succ q ih =>
          intro hq
          simp only [fold, ih (by omega), decide_eq_true (show q < m + 1 by omega), if_true]
      exact this (m + 1) (Nat.le_refl _)
    · simp only [fold, decide_eq_false (show ¬ m < i by omega)]
      exact fold_stop m (by omega)

theorem aBin_any {H G : AH} {op : BinOp} {t : TypeId} {x y : Value} : aBin P H op t x y = aBin P G op t x y := by
  unfold aBin
  rfl
theorem bin_pure {H G : AH} {op : BinOp} {t : TypeId} {x y v : Value} (hp : arithK op = true) (h : aBin' P H op t x y = some v) : aBin' P G op t x y = some v := by
  unfold aBin' at h ⊢
  split at h
  · exfalso
    split at h
    · unfold aBin at h
      cases op <;> first
        | (simp [arithK] at hp; done)
        | ((repeat' (split at h)) <;> first | contradiction | (simp [eqB] at h; done))
    · cases h
  · rw [← aBin_any (H := H)]
    exact h
theorem map_not_pureK {op : Op} (hp : pureK op = true) (h : mapK op = true) : False := by
  cases op <;> first | (simp [pureK] at hp; done) | simp [mapK] at h
theorem pure_any {env : Env} {H H' : AH} {op : Op} {v : Value} (hp : pureK op = true) (h : aop P env H op = .val v H') : H' = H ∧ ∀ G, aop P env G op = .val v G := by
  unfold aop at h
  split at h
  all_goals first
    | (simp [pureK] at hp; done)
    | exact (map_not_pureK hp (aMapOp_k h)).elim
    | skip
  all_goals simp only [aop]
  · obtain ⟨hq, rfl⟩ := arOf_val h; exact ⟨rfl, fun G => by rw [hq]; rfl⟩
  · obtain ⟨hq, rfl⟩ := arOf_val h; exact ⟨rfl, fun G => by rw [hq]; rfl⟩
  · split at h
    · cases h
      exact ⟨rfl, fun G => rfl⟩
    · cases h
  · split at h
    · obtain ⟨hq, rfl⟩ := arOf_val h; exact ⟨rfl, fun G => by rw [bin_pure (by simpa [pureK] using hp) hq]; rfl⟩
    · cases h
  · split at h
    · obtain ⟨hq, rfl⟩ := arOf_val h; exact ⟨rfl, fun G => by rw [hq]; rfl⟩
    · cases h
  · split at h
    · obtain ⟨hq, rfl⟩ := arOf_val h
      exact ⟨rfl, fun G => by
        simp only [pureK, bne_iff_ne, ne_eq] at hp
        unfold aConvert at hq ⊢
        simp only [if_neg hp] at hq ⊢
        rw [hq]; rfl⟩
    · cases h
  · split at h
    · split at h
      · cases h; rename_i hc; exact ⟨rfl, fun G => by rw [if_pos hc]⟩
      · cases h
    · cases h
  · split at h
    · obtain ⟨hq, rfl⟩ := arOf_val h; exact ⟨rfl, fun G => by rw [hq]; rfl⟩
    · cases h
  · split at h
    · obtain ⟨hq, rfl⟩ := arOf_val h; exact ⟨rfl, fun G => by rw [hq]; rfl⟩
    · cases h
theorem pure_not_call {env : Env} {H : AH} {op : Op} {f : FuncId} {args : List Value} (hp : pureK op = true) (h : aop P env H op = .call f args) : False := by
  unfold aop at h
  split at h
  all_goals first
    | (simp [pureK] at hp; done)
    | exact (aMapOp_call h).elim
    | ((try simp only [arOf, arOf2] at h); (repeat' (split at h)) <;> cases h)

def SS (H G : AH) : Prop := ∀ (i : Nat) (o : AO), H[i]? = some o → ∃ o' : AO, G[i]? = some o' ∧ o'.gen = o.gen ∧ o'.sz = o.sz ∧ o'.cells.length = o.cells.length
theorem SS.refl (H : AH) : SS H H := fun i o h => ⟨o, h, rfl, rfl, rfl⟩
theorem SS.trans {H G K : AH} (a : SS H G) (b : SS G K) : SS H K := fun i o h => by
  obtain ⟨o1, h1, e1, e2, e5⟩ := a i o h
  obtain ⟨o2, h2, e3, e4, e6⟩ := b i o1 h1
  exact ⟨o2, h2, e3.trans e1, e4.trans e2, e6.trans e5⟩
theorem SS.alive {H G : AH} (a : SS H G) {i g : Nat} {o : AO} (h : alive H i g = some o) : ∃ o', AL.alive G i g = some o' ∧ o'.sz = o.sz := by
  obtain ⟨h1, h2⟩ := alive_some h
  obtain ⟨o', h3, h4, h5, _⟩ := a i o h1
  exact ⟨o', by simp [AL.alive, h3, h4, h2], h5⟩
theorem SS.aliveL {H G : AH} (a : SS H G) {i g : Nat} {o : AO} (h : AL.alive H i g = some o) : ∃ o', AL.alive G i g = some o' ∧ o'.sz = o.sz ∧ o'.cells.length = o.cells.length := by
  obtain ⟨h1, h2⟩ := alive_some h
  obtain ⟨o', h3, h4, h5, h6⟩ := a i o h1
  exact ⟨o', by simp [AL.alive, h3, h4, h2], h5, h6⟩
theorem SS.index {H G : AH} (a : SS H G) {t : TypeId} {x ix v : Value} (h : aIndexAddr P H t x ix = some v) : aIndexAddr P G t x ix = some v := by
  unfold aIndexAddr at h ⊢
  split at h
  · rename_i i off g n c kk k
    cases ha : AL.alive H i g with
    | none => simp [ha] at h
    | some o =>
      obtain ⟨o', h1, h2⟩ := a.alive ha
      simp only [ha] at h
      simp only [h1]
      cases he : elemT P t with
      | none => simp only [he] at h; cases h
      | some e => simp only [he] at h ⊢; exact h
  · rename_i i off g kk k
    cases ha : AL.alive H i g with
    | none => simp [ha] at h
    | some o =>
      obtain ⟨o', h1, h2⟩ := a.alive ha
      simp only [ha] at h
      simp only [h1]
      cases he : P.underlying t with
      | none => simp only [he] at h; cases h
      | some e => cases e <;> simp only [he] at h ⊢ <;> first | exact h | cases h
  · cases h
theorem SS.field {H G : AH} (a : SS H G) {s : TypeId} {x v : Value} {f : Nat} (h : aFieldAddr P H s x f = some v) : aFieldAddr P G s x f = some v := by
  unfold aFieldAddr at h ⊢
  split at h
  · rename_i i off g
    cases ha : AL.alive H i g with
    | none => simp [ha] at h
    | some o =>
      obtain ⟨o', h1, h2⟩ := a.alive ha
      simp only [ha] at h
      simp only [h1]
      cases he : P.underlying s with
      | none => simp only [he] at h; cases h
      | some e => cases e <;> simp only [he] at h ⊢ <;> first | exact h | cases h
  · cases h
theorem SS.slice {H G : AH} (a : SS H G) {t : TypeId} {x v : Value} {lo hi mx : Option Value} (h : aSlice P H t x lo hi mx = some v) : aSlice P G t x lo hi mx = some v := by
  unfold aSlice at h ⊢
  split at h
  · exact h
  · exact h
  · rename_i i off g n c
    cases ha : AL.alive H i g with
    | none => simp [ha] at h
    | some o =>
      obtain ⟨o', h1, h2⟩ := a.alive ha
      simp only [ha] at h
      simp only [h1]
      cases he : elemT P t with
      | none => simp only [he] at h; cases h
      | some e =>
        cases hl : idxV lo 0 with
        | none => simp only [he, hl] at h; cases h
        | some l =>
          cases hh : idxV hi n with
          | none => simp only [he, hl, hh] at h; cases h
          | some r => simp only [he, hl, hh, h2] at h ⊢; exact h
  · rename_i i off g
    cases ha : AL.alive H i g with
    | none => simp [ha] at h
    | some o =>
      obtain ⟨o', h1, h2, h3⟩ := a.aliveL ha
      simp only [ha] at h
      simp only [h1]
      split at h
      case h_2 => cases h
      rename_i o2 n e ho hu hno
      cases ho
      rw [hu, hno]
      simp only [h2, h3]
      exact h
  · cases h
theorem SS.aliveS {H G : AH} (a : SS H G) {v : Value} (h : AL.aliveS H v = true) : AL.aliveS G v = true := by
  unfold AL.aliveS at h ⊢
  split at h
  · rename_i i off g n c
    cases ha : AL.alive H i g with
    | none => rw [ha] at h; cases h
    | some o =>
      obtain ⟨o', h1, _⟩ := a.alive ha
      rw [h1]
      rfl
  · rfl
  · cases h
theorem SS.bin {H G : AH} (a : SS H G) {op : BinOp} {t : TypeId} {x y v : Value} (h : aBin' P H op t x y = some v) : aBin' P G op t x y = some v := by
  unfold aBin' at h ⊢
  split at h
  · split at h
    · rename_i hc
      rw [if_pos ⟨a.aliveS hc.1, a.aliveS hc.2⟩, ← aBin_any (H := H)]
      exact h
    · cases h
  · rw [← aBin_any (H := H)]
    exact h
theorem map_not_shapeK {op : Op} (hp : shapeK op = true) (h : mapK op = true) : False := by
  cases op <;> first | (simp [shapeK] at hp; done) | simp [mapK] at h
theorem shape_any {env : Env} {H H' : AH} {op : Op} {v : Value} (hp : shapeK op = true) (h : aop P env H op = .val v H') : H' = H ∧ ∀ G, SS H G → aop P env G op = .val v G := by
  unfold aop at h
  split at h
  all_goals first
    | (simp [shapeK] at hp; done)
    | exact (map_not_shapeK hp (aMapOp_k h)).elim
    | skip
  all_goals simp only [aop]
  · split at h
    · obtain ⟨hq, rfl⟩ := arOf_val h; exact ⟨rfl, fun G a => by rw [a.bin hq]; rfl⟩
    · cases h
  · split at h
    · obtain ⟨hq, rfl⟩ := arOf_val h; exact ⟨rfl, fun G a => by rw [a.slice hq]; rfl⟩
    · cases h
  · split at h
    · obtain ⟨hq, rfl⟩ := arOf_val h; exact ⟨rfl, fun G a => by rw [a.field hq]; rfl⟩
    · cases h
  · split at h
    · obtain ⟨hq, rfl⟩ := arOf_val h; exact ⟨rfl, fun G a => by rw [a.index hq]; rfl⟩
    · cases h
theorem shape_not_call {env : Env} {H : AH} {op : Op} {f : FuncId} {args : List Value} (hp : shapeK op = true) (h : aop P env H op = .call f args) : False := by
  unfold aop at h
  split at h
  all_goals first
    | (simp [shapeK] at hp; done)
    | exact (aMapOp_call h).elim
    | ((try simp only [arOf, arOf2] at h); (repeat' (split at h)) <;> cases h)
theorem map_not_storeK {op : Op} (hp : storeK op = true) (h : mapK op = true) : False := by
  cases op <;> first | (simp [storeK] at hp; done) | simp [mapK] at h
theorem store_shape {env : Env} {H H' : AH} {op : Op} {v : Value} (hp : storeK op = true) (h : aop P env H op = .val v H') : SS H H' ∧ SS H' H := by
  unfold aop at h
  split at h
  all_goals first
    | (simp [storeK] at hp; done)
    | exact (map_not_storeK hp (aMapOp_k h)).elim
    | skip
  split at h
  · split at h
    · rename_i H1 hst
      cases h
      unfold aStore at hst
      split at hst
      · split at hst
        · rename_i i off g vv _ _ o n ha hs
          split at hst
          · rename_i hcc
            cases hst
            obtain ⟨ho, hg⟩ := alive_some ha
            have hll : ∀ vs : List Value, vs.length = n → (o.cells.take off ++ vs ++ o.cells.drop (off + n)).length = o.cells.length := fun vs h3 => by
              have := hcc.2.2.2
              simp only [List.length_append, List.length_take, List.length_drop, h3]
              omega
            have hlt := (List.getElem?_eq_some_iff.1 ho).1
            refine ⟨fun j p hj => ?_, fun j p hj => ?_⟩
            · by_cases e : i = j
              · subst e
                rw [ho] at hj
                cases hj
                exact ⟨_, List.getElem?_set_self hlt, rfl, rfl, hll _ (by rw [Array.length_toList]; exact hcc.2.2.1)⟩
              · exact ⟨p, by rw [List.getElem?_set_ne e]; exact hj, rfl, rfl, rfl⟩
            · by_cases e : i = j
              · subst e
                rw [List.getElem?_set_self hlt] at hj
                cases hj
                exact ⟨o, ho, rfl, rfl, (hll _ (by rw [Array.length_toList]; exact hcc.2.2.1)).symm⟩
              · rw [List.getElem?_set_ne e] at hj
                exact ⟨p, hj, rfl, rfl, rfl⟩
          · cases hst
        · cases hst
      · cases hst
    · cases h
  · cases h
theorem store_not_call {env : Env} {H : AH} {op : Op} {f : FuncId} {args : List Value} (hp : storeK op = true) (h : aop P env H op = .call f args) : False := by
  unfold aop at h
  split at h
  all_goals first
    | (simp [storeK] at hp; done)
    | exact (aMapOp_call h).elim
    | ((try simp only [arOf, arOf2] at h); (repeat' (split at h)) <;> cases h)
theorem quiet_same {env : Env} {H H' : AH} {op : Op} {v : Value} (hp : quiet ops k op = true) (h : aop P env H op = .val v H') : H' = H := by
  unfold quiet at hp
  rw [Bool.or_eq_true, Bool.and_eq_true] at hp
  rcases hp with hp | ⟨_, hp⟩
  · exact (pure_any hp h).1
  · exact (shape_any hp h).1
theorem quiet_not_call {env : Env} {H : AH} {op : Op} {f : FuncId} {args : List Value} (hp : quiet ops k op = true) (h : aop P env H op = .call f args) : False := by
  unfold quiet at hp
  rw [Bool.or_eq_true, Bool.and_eq_true] at hp
  rcases hp with hp | ⟨_, hp⟩
  · exact pure_not_call hp h
  · exact shape_not_call hp h

theorem pre_get {H H' : AH} (h : H <+: H') {i : Nat} {o : AO} (ho : H[i]? = some o) : H'[i]? = some o := by
  obtain ⟨t, rfl⟩ := h
  rw [List.getElem?_append_left (List.getElem?_eq_some_iff.1 ho).1]
  exact ho
theorem pre_back {H H' : AH} (h : H <+: H') {i : Nat} (hi : i < H.length) : H[i]? = H'[i]? := by
  obtain ⟨t, rfl⟩ := h
  rw [List.getElem?_append_left hi]
theorem Rel.more {β : BM} {H H' : AH} {w : World} (R : Rel β H w) (h : H <+: H') : Rel β H' w where
  dom := fun i hi => R.dom i (Nat.le_trans h.length_le hi)
  loc := R.loc
  inj := R.inj
  obj := fun i o l ho hl => by
    have hi : i < H.length := by
      rcases Nat.lt_or_ge i H.length with h1 | h1
      · exact h1
      · rw [R.dom i h1] at hl; cases hl
    rw [← pre_back h hi] at ho
    exact R.obj i o l ho hl
  hid := fun i o ho hs hr hg => by
    rcases Nat.lt_or_ge i H.length with h1 | h1
    · exact R.hid i o (by rw [pre_back h h1]; exact ho) hs hr hg
    · exact R.dom i h1
  mp := fun i o l ho hl hs hr => by
    have hi : i < H.length := by
      rcases Nat.lt_or_ge i H.length with h1 | h1
      · exact h1
      · rw [R.dom i h1] at hl; cases hl
    rw [← pre_back h hi] at ho
    obtain ⟨j, c, m0, m1, m2⟩ := R.mp i o l ho hl hs hr
    exact ⟨j, c, m0, pre_get h m1, m2⟩
theorem cut_some {n : Nat} {β : BM} {i : Nat} {l : Loc} (h : cut n β i = some l) : i < n ∧ β i = some l := by
  unfold cut at h
  split at h
  · exact ⟨by assumption, h⟩
  · cases h
theorem cut_lt {n : Nat} {β : BM} {i : Nat} (h : i < n) : cut n β i = β i := by simp [cut, h]
theorem T0.cut' {β : BM} {n : Nat} {v v' : Value} (t : T0 β v v') (h : R0' n v) : T0 (AL.cut n β) v v' := by
  cases t with
  | plain hp => exact .plain hp
  | ptr hl hg => exact .ptr ((cut_lt h).trans hl) hg
  | ptrOld hl hg => exact .ptrOld ((cut_lt h).trans hl) hg
  | sl hl hg hn hc ha => exact .sl ((cut_lt h).trans hl) hg hn hc ha
  | slOld hl hg => exact .slOld ((cut_lt h).trans hl) hg
  | mp hl hs hr => exact .mp ((cut_lt h).trans hl) hs hr
theorem T1.cut {β : BM} {n : Nat} {v v' : Value} (t : T1 β v v') (h : R0 n v = true) : T1 (AL.cut n β) v v' := by
  cases t with
  | one t => exact .one (t.cut' (R0'_of h))
  | fn t =>
    refine .fn (All2.of_get t.length fun i x y hx hy => ?_)
    obtain ⟨y', hy', t1⟩ := t.get i x hx
    rw [hy] at hy'
    cases hy'
    simp only [AL.R0, List.all_toArray] at h
    exact t1.cut' (R0'_of (R00_to (List.all_eq_true.1 h x (List.mem_of_getElem? hx))))
theorem T2.cut {β : BM} {n : Nat} {v v' : Value} (t : T2 β v v') (h : R2 n v = true) : T2 (AL.cut n β) v v' := by
  cases t with
  | one t =>
    refine .one (t.cut ?_)
    unfold R2 at h
    split at h
    · cases t with
      | one t => cases t with
        | plain hp => simp [plainV] at hp
    · exact h
  | agg t =>
    refine .agg (All2.of_get t.length fun i x y hx hy => ?_)
    obtain ⟨y', hy', t1⟩ := t.get i x hx
    rw [hy] at hy'
    cases hy'
    simp only [R2, List.all_toArray] at h
    exact t1.cut (List.all_eq_true.1 h x (List.mem_of_getElem? hx))
theorem T3.cut {β : BM} {n : Nat} {v v' : Value} (t : T3 β v v') (h : R3 n v = true) : T3 (AL.cut n β) v v' := by
  cases t with
  | one t =>
    refine .one (t.cut ?_)
    unfold R3 at h
    split at h
    · cases t with
      | one t => cases t with
        | one t => cases t with
          | plain hp => simp [plainV] at hp
    · exact h
  | tup t =>
    refine .tup (All2.of_get t.length fun i x y hx hy => ?_)
    obtain ⟨y', hy', t1⟩ := t.get i x hx
    rw [hy] at hy'
    cases hy'
    simp only [R3, List.all_toArray] at h
    exact t1.cut (List.all_eq_true.1 h x (List.mem_of_getElem? hx))
theorem T0.sub {β β' : BM} (h : ∀ i l, β i = some l → β' i = some l) {v v' : Value} (t : T0 β v v') : T0 β' v v' := by
  cases t with
  | plain hp => exact .plain hp
  | ptr hl hg => exact .ptr (h _ _ hl) hg
  | ptrOld hl hg => exact .ptrOld (h _ _ hl) hg
  | sl hl hg hn hc ha => exact .sl (h _ _ hl) hg hn hc ha
  | slOld hl hg => exact .slOld (h _ _ hl) hg
  | mp hl hs hr => exact .mp (h _ _ hl) hs hr
theorem T1.sub {β β' : BM} (h : ∀ i l, β i = some l → β' i = some l) {v v' : Value} (t : T1 β v v') : T1 β' v v' := by
  cases t with
  | one t => exact .one (t.sub h)
  | fn t => exact .fn (t.imp fun _ _ t => t.sub h)
theorem T2.sub {β β' : BM} (h : ∀ i l, β i = some l → β' i = some l) {v v' : Value} (t : T2 β v v') : T2 β' v v' := by
  cases t with
  | one t => exact .one (t.sub h)
  | agg t => exact .agg (t.imp fun _ _ t => t.sub h)
theorem T3.sub {β β' : BM} (h : ∀ i l, β i = some l → β' i = some l) {v v' : Value} (t : T3 β v v') : T3 β' v v' := by
  cases t with
  | one t => exact .one (t.sub h)
  | tup t => exact .tup (t.imp fun _ _ t => t.sub h)
theorem MapIn.cut {β : BM} {N n b : Nat} {cs : List Value} {w : World} (m : MapIn β n cs b w) (h : ∀ c ∈ cs, R0 N c = true) : MapIn (AL.cut N β) n cs b w := by
  obtain ⟨es, l, h1, h2, h3, h4⟩ := m
  refine ⟨es, l, h1, h2, h3, All2.of_get h4.length fun k x y hx hy => ?_⟩
  obtain ⟨y', hy', a1, a2, a3⟩ := h4.get k x hx
  rw [hy] at hy'
  cases hy'
  exact ⟨a1, a2, a3.cut (decN_R h3 h x (List.mem_of_getElem? hx))⟩
theorem MapIn.sub {β β' : BM} (h : ∀ i l, β i = some l → β' i = some l) {n b : Nat} {cs : List Value} {w : World} (m : MapIn β n cs b w) : MapIn β' n cs b w := by
  obtain ⟨es, l, h1, h2, h3, h4⟩ := m
  exact ⟨es, l, h1, h2, h3, h4.imp fun _ _ ⟨a1, a2, a3⟩ => ⟨a1, a2, a3.sub h⟩⟩
theorem HidIn.cut {β : BM} {N : Nat} {c : AO} {l : Loc} {w : World} (m : HidIn β c l w) (h : ∀ x ∈ c.cells, R0 N x = true) : HidIn (AL.cut N β) c l w :=
  ⟨m.1, fun e => (m.2.1 e).cut h, fun e => by
    obtain ⟨i, b', seen, h1, h2, h3⟩ := m.2.2 e
    exact ⟨i, b', seen, h1, h2.cut' (R0'_of (h _ (by rw [h1]; exact .head _))), h3⟩⟩
theorem HidIn.sub {β β' : BM} (h : ∀ i l, β i = some l → β' i = some l) {c : AO} {l : Loc} {w : World} (m : HidIn β c l w) : HidIn β' c l w :=
  ⟨m.1, fun e => (m.2.1 e).sub h, fun e => by
    obtain ⟨i, b', seen, h1, h2, h3⟩ := m.2.2 e
    exact ⟨i, b', seen, h1, h2.sub h, h3⟩⟩
theorem Rel.less {β : BM} {H H' : AH} {w : World} (R : Rel β H' w) (h : H <+: H') (hw : WF H) : Rel (cut H.length β) H w where
  dom := fun i hi => by simp [cut, Nat.not_lt.2 hi]
  loc := fun i l hl => R.loc i l (cut_some hl).2
  inj := fun i j l m hl hm => R.inj i j l m (cut_some hl).2 (cut_some hm).2
  obj := fun i o l ho hl => by
    obtain ⟨g1, g2, g3, g4, g5, g6⟩ := R.obj i o l (pre_get h ho) (cut_some hl).2
    refine ⟨g1, g2, g3, g4, fun j c hc => ?_, g6⟩
    obtain ⟨v, hv, t⟩ := g5 j c hc
    exact ⟨v, hv, t.cut (hw.cell ho (List.mem_of_getElem? hc))⟩
  hid := fun i o ho hs hr hg => by
    have := R.hid i o (pre_get h ho) hs hr hg
    simp [cut, this]
  mp := fun i o l ho hl hs hr => by
    obtain ⟨j, c, rfl, m1, m2, m3, m4, m5⟩ := R.mp i o l (pre_get h ho) (cut_some hl).2 hs hr
    rw [← pre_back h (by have := (cut_some hl).1; omega)] at m1
    exact ⟨j, c, rfl, m1, m2, m3, m4, m5.cut fun _ hc => hw.cell m1 hc⟩
theorem Rel.beside {β γ : BM} {H H1 H' : AH} {w w' : World} (R : Rel β H' w) (h1 : H <+: H1) (h2 : H1 <+: H') (R1 : Rel γ H1 w') (E : Ext H.length (cut H.length β) w γ w') (hole : ∀ i, H.length ≤ i → i < H1.length → β i = none) :
    Rel (fun i => if i < H1.length then γ i else β i) H' w' ∧ (∀ N, N ≤ H.length → Ext N β w (fun i => if i < H1.length then γ i else β i) w') := by
  have EE : ∀ N, N ≤ H.length → Ext N β w (fun i => if i < H1.length then γ i else β i) w' := fun N hN => by
    refine ⟨E.os, E.tape, E.output, E.size, fun b hb hr => E.keep b hb fun i l hl he => hr i l (cut_some hl).2 he, fun i l hl => ?_, fun i hi hn => ?_, fun i l hl => ?_, fun i l hl hr => ?_⟩
    · by_cases hi : i < H1.length
      · simp only [if_pos hi]
        by_cases hi' : i < H.length
        · exact E.mono i l ((cut_lt hi').trans hl)
        · rw [hole i (by omega) hi] at hl; cases hl
      · simp only [if_neg hi]
        exact ⟨l, hl, rfl, rfl, .inl rfl⟩
    · have hi' : i < H.length := by omega
      have := h1.length_le
      simp only [if_pos (show i < H1.length by omega)]
      exact E.hole i hi' ((cut_lt hi').trans hn)
    · by_cases hi : i < H1.length
      · simp only [if_pos hi] at hl
        rcases E.fresh i l hl with ⟨m, hm, e1, e2⟩ | hf
        · exact .inl ⟨m, (cut_some hm).2, e1, e2⟩
        · exact .inr hf
      · simp only [if_neg hi] at hl
        exact .inl ⟨l, hl, rfl, rfl, rfl⟩
    · by_cases hi : i < H1.length
      · simp only [if_pos hi]
        by_cases hi' : i < H.length
        · exact E.still i l ((cut_lt hi').trans hl) hr
        · rw [hole i (by omega) hi] at hl; cases hl
      · simp only [if_neg hi]
        exact hl
  refine ⟨⟨fun i hi => ?_, fun i l hl => ?_, ?_, fun i o l ho hl => ?_, fun i o ho hs hr hg => ?_, fun i o l ho hl hs hr => ?_⟩, EE⟩
  · have := h2.length_le
    simp only [if_neg (show ¬ i < H1.length by omega)]
    exact R.dom i hi
  · by_cases hi : i < H1.length
    · simp only [if_pos hi] at hl; exact R1.loc i l hl
    · simp only [if_neg hi] at hl; exact Nat.lt_of_lt_of_le (R.loc i l hl) E.size
  · have mixed : ∀ i j l m, i < H1.length → ¬ j < H1.length → γ i = some l → β j = some m → l.b = m.b → (l.ro = true ∧ l.sz ≠ 0) ∧ m.ro = true ∧ m.sz ≠ 0 := by
      intro i j l m hi hj hl hm he
      rcases E.fresh i l hl with ⟨q, hq, e1, e2, e3⟩ | hf
      · have := R.inj i j q m (cut_some hq).2 hm (by omega) (e1.trans he)
        rw [e2, e3] at this
        exact this
      · have := R.loc j m hm
        omega
    intro i j l m hl hm hne he
    by_cases hi : i < H1.length <;> by_cases hj : j < H1.length
    · simp only [if_pos hi] at hl; simp only [if_pos hj] at hm; exact R1.inj i j l m hl hm hne he
    · simp only [if_pos hi] at hl; simp only [if_neg hj] at hm; exact mixed i j l m hi hj hl hm he
    · simp only [if_neg hi] at hl; simp only [if_pos hj] at hm; exact (mixed j i m l hj hi hm hl he.symm).symm
    · simp only [if_neg hi] at hl; simp only [if_neg hj] at hm; exact R.inj i j l m hl hm hne he
  · have E0 := EE 0 (Nat.zero_le _)
    by_cases hi : i < H1.length
    · simp only [if_pos hi] at hl
      rw [← pre_back h2 hi] at ho
      obtain ⟨g1, g2, g3, g4, g5, g6⟩ := R1.obj i o l ho hl
      refine ⟨g1, g2, g3, g4, fun j c hc => ?_, g6⟩
      obtain ⟨v, hv, t⟩ := g5 j c hc
      refine ⟨v, hv, ?_⟩
      have sub : ∀ i l, γ i = some l → (if i < H1.length then γ i else β i) = some l := fun q m hq => by
        have : q < H1.length := by
          rcases Nat.lt_or_ge q H1.length with h | h
          · exact h
          · rw [R1.dom q h] at hq; cases hq
        rw [if_pos this]; exact hq
      exact t.sub sub
    · simp only [if_neg hi] at hl
      obtain ⟨g1, g2, g3, g4, g5, g6⟩ := R.obj i o l ho hl
      have hb : w'.heap[l.b]? = w.heap[l.b]? := E.keep l.b (R.loc i l hl) fun q m hq he => (R.inj q i m l (cut_some hq).2 hl (fun e => hi (by have := (cut_some hq).1; have := h1.length_le; omega)) he).1
      refine ⟨g1, g2, g3, g4, fun j c hc => ?_, fun hr => ?_⟩
      · obtain ⟨v, hv, t⟩ := g5 j c hc
        exact ⟨v, (World.cell?_of_block (a := ⟨l.b, l.base + j, none⟩) hb).trans hv, t.ext E0⟩
      · obtain ⟨arr, ha1, ha2⟩ := g6 hr
        exact ⟨arr, hb.trans ha1, ha2⟩
  · by_cases hi : i < H1.length
    · simp only [if_pos hi]
      rw [← pre_back h2 hi] at ho
      exact R1.hid i o ho hs hr hg
    · simp only [if_neg hi]
      exact R.hid i o ho hs hr hg
  · by_cases hi : i < H1.length
    · simp only [if_pos hi] at hl
      rw [← pre_back h2 hi] at ho
      obtain ⟨j, c, m0, m1, m2, m3, m4, m5⟩ := R1.mp i o l ho hl hs hr
      refine ⟨j, c, m0, pre_get h2 m1, m2, m3, m4, m5.sub fun q m hq => ?_⟩
      have : q < H1.length := by
        rcases Nat.lt_or_ge q H1.length with h | h
        · exact h
        · rw [R1.dom q h] at hq; cases hq
      rw [if_pos this]; exact hq
    · simp only [if_neg hi] at hl
      obtain ⟨j, c, m0, m1, m2, m3, m4, m5⟩ := R.mp i o l ho hl hs hr
      refine ⟨j, c, m0, m1, m2, m3, m4, m5.ext (EE 0 (Nat.zero_le _)) (E.keep l.b (R.loc i l hl) fun q m hq he => (R.inj q i m l (cut_some hq).2 hl (fun e => hi (by have := (cut_some hq).1; have := h1.length_le; omega)) he).1)⟩
end

end Go.Proofs.Ytdbflchpbhkanaa.AL
namespace Go.Proofs.Ytdbflchpbhkanaa.AL
open Go Go.RowKit
set_option linter.unusedVariables false
set_option linter.unusedSimpArgs false

structure Trace (P : Program) (nt : Nat) (ops : Array Oper) (k : Nat) (V : Nat → Value) (E : Nat → Env) (G : Nat → AH) : Prop where
  step : ∀ i, i < ops.size → E (i + 1) = aput (E i) (dstOf ops i) (V i) ∧ Step1 P nt ops k i (E i) (G i) (V i) (G (i + 1))
  wf0 : WF (G 0)
  er0 : ER (G 0).length (E 0)
  hk : k ≤ ops.size
section
variable {P : Program} {nt : Nat} {ops : Array Oper} {B : List Nat} {k : Nat} {V : Nat → Value} {E : Nat → Env} {G : Nat → AH}
theorem Trace.all (T : Trace P nt ops k V E G) : ∀ i, i ≤ ops.size → WF (G i) ∧ ER (G i).length (E i)
  | 0, _ => ⟨T.wf0, T.er0⟩
  | i + 1, hi => by
    obtain ⟨h1, h2⟩ := T.all i (by omega)
    obtain ⟨e, o, ho, hd, hg, h⟩ := T.step i (by omega)
    have hdst : dstOf ops i = o.dst := by simp [dstOf, ho]
    rw [e, hdst]
    rcases h with ⟨_, hr, _⟩ | ⟨_, hv, hG⟩
    · obtain ⟨g1, g2, g3⟩ := hr.good h1 h2
      exact ⟨g1, (h2.mono g3).put g2 _⟩
    · rw [hG, hv]
      exact ⟨h1, h2.put R3_undef _⟩
theorem Trace.len (T : Trace P nt ops k V E G) {i : Nat} (hi : i < ops.size) : (G i).length ≤ (G (i + 1)).length := by
  obtain ⟨h1, h2⟩ := T.all i (by omega)
  obtain ⟨e, o, ho, hd, hg, h⟩ := T.step i hi
  rcases h with ⟨_, hr, _⟩ | ⟨_, hv, hG⟩
  · exact (hr.good h1 h2).2.2
  · rw [hG]; exact Nat.le_refl _
theorem Trace.lens (T : Trace P nt ops k V E G) {i : Nat} : ∀ j, i ≤ j → j ≤ ops.size → (G i).length ≤ (G j).length
  | 0, h, _ => by have : i = 0 := by omega
                  subst this; exact Nat.le_refl _
  | j + 1, h, hj => by
    by_cases e : i = j + 1
    · subst e; exact Nat.le_refl _
    · exact Nat.le_trans (T.lens j (by omega) (by omega)) (T.len (by omega))
theorem Trace.pre1 (T : Trace P nt ops k V E G) {i : Nat} (hi : i < k) : G i <+: G (i + 1) := by
  obtain ⟨e, o, ho, hd, hg, h⟩ := T.step i (Nat.lt_of_lt_of_le hi T.hk)
  rcases h with ⟨_, hr, hp⟩ | ⟨_, hv, hG⟩
  · exact hp hi
  · rw [hG]; exact List.prefix_refl _
theorem Trace.pre (T : Trace P nt ops k V E G) {i : Nat} : ∀ j, i ≤ j → j ≤ k → G i <+: G j
  | 0, h, _ => by have : i = 0 := by omega
                  subst this; exact List.prefix_refl _
  | j + 1, h, hj => by
    by_cases e : i = j + 1
    · subst e; exact List.prefix_refl _
    · exact (T.pre j (by omega) (by omega)).trans (T.pre1 (by omega))
theorem Trace.same (T : Trace P nt ops k V E G) {i : Nat} : ∀ j, i ≤ j → j ≤ ops.size → (∀ q o, i ≤ q → q < j → ops[q]? = some o → quiet ops k o.op = true) → G j = G i
  | 0, h, _, _ => by have : i = 0 := by omega
                     subst this; rfl
  | j + 1, h, hj, hp => by
    by_cases e : i = j + 1
    · subst e; rfl
    · rw [← T.same j (by omega) (by omega) fun q o h1 h2 => hp q o h1 (by omega)]
      obtain ⟨e, o, ho, hd, hg, h⟩ := T.step j (by omega)
      have hpo := hp j o (by omega) (by omega) ho
      rcases h with ⟨_, hr, _⟩ | ⟨_, hv, hG⟩
      · rcases hr with hr | ⟨f, args, hr, _⟩
        · exact quiet_same hpo hr
        · exact (quiet_not_call hpo hr).elim
      · exact hG

theorem Trace.shape (T : Trace P nt ops k V E G) (hs : storesOnly ops k = true) : ∀ m, k ≤ m → m ≤ ops.size → SS (G k) (G m) ∧ SS (G m) (G k)
  | 0, h, _ => by have : k = 0 := by omega
                  subst this; exact ⟨.refl _, .refl _⟩
  | m + 1, h, hm => by
    by_cases e : k = m + 1
    · subst e; exact ⟨.refl _, .refl _⟩
    · obtain ⟨i1, i2⟩ := T.shape hs m (by omega) (by omega)
      obtain ⟨_, o, ho, _, _, hst⟩ := T.step m (by omega)
      have h1 := List.all_eq_true.1 hs m (List.mem_range.2 (by omega))
      simp only [ho, Bool.or_eq_true, decide_eq_true_eq] at h1
      have step : SS (G m) (G (m + 1)) ∧ SS (G (m + 1)) (G m) := by
        rcases hst with ⟨_, hr, _⟩ | ⟨_, _, hG⟩
        · rcases h1 with h1 | (h1 | h1) | h1
          · omega
          · rcases hr with hr | ⟨f, args, hr, _⟩
            · rw [(pure_any h1 hr).1]; exact ⟨.refl _, .refl _⟩
            · exact (pure_not_call h1 hr).elim
          · rcases hr with hr | ⟨f, args, hr, _⟩
            · rw [(shape_any h1 hr).1]; exact ⟨.refl _, .refl _⟩
            · exact (shape_not_call h1 hr).elim
          · rcases hr with hr | ⟨f, args, hr, _⟩
            · exact store_shape h1 hr
            · exact (store_not_call h1 hr).elim
        · rw [hG]; exact ⟨.refl _, .refl _⟩
      exact ⟨i1.trans step.1, step.2.trans i2⟩
theorem SS.pre {H H' : AH} (h : H <+: H') : SS H H' := fun i o ho => ⟨o, pre_get h ho, rfl, rfl, rfl⟩
theorem Trace.quietAny (T : Trace P nt ops k V E G) {i : Nat} {o : Oper} {v : Value} {H' : AH} (hp : quiet ops k o.op = true) (ho : ops[i]? = some o) (h : aop P (E i) (G i) o.op = .val v H') : ∀ m, k ≤ m → m ≤ ops.size → aop P (E i) (G m) o.op = .val v (G m) := by
  intro m h1 h2
  have hi := (Array.getElem?_eq_some_iff.1 ho).1
  unfold quiet at hp
  rw [Bool.or_eq_true, Bool.and_eq_true] at hp
  rcases hp with hp | ⟨hs, hp⟩
  · exact (pure_any hp h).2 _
  · refine (shape_any hp h).2 _ ?_
    have sm := (T.shape hs m h1 h2).1
    rcases Nat.lt_or_ge i k with hik | hik
    · exact (SS.pre (T.pre k (by omega) (Nat.le_refl _))).trans sm
    · exact (T.shape hs i hik (by omega)).2.trans sm
def PhA (ops : Array Oper) (k : Nat) (G : Nat → AH) (X : Nat → Bool) (β : BM) (w : World) : Prop :=
  (∀ j o, X j = true → ops[j]? = some o → quiet ops k o.op = false → j < k) ∧ Rel β (G k) w ∧
  ∀ i o, i < k → ops[i]? = some o → quiet ops k o.op = false → X i = false → ∀ id, (G i).length ≤ id → id < (G (i + 1)).length → β id = none
def PhB (ops : Array Oper) (k : Nat) (G : Nat → AH) (X : Nat → Bool) (β : BM) (w : World) : Prop :=
  ∃ m, k ≤ m ∧ m ≤ ops.size ∧ (∀ i o, i < m → ops[i]? = some o → quiet ops k o.op = false → X i = true) ∧ (∀ i o, m ≤ i → X i = true → ops[i]? = some o → quiet ops k o.op = true) ∧ Rel β (G m) w
structure Inv (nt : Nat) (ops : Array Oper) (k : Nat) (V : Nat → Value) (E : Nat → Env) (G : Nat → AH) (β0 : BM) (w0 : World) (X : Nat → Bool) (a : Act) (w : World) : Prop where
  closed : ∀ j o, X j = true → ops[j]? = some o → ∀ d ∈ needs o, X d = true
  bnd : ∀ j, X j = true → j < ops.size
  size : a.tmps.size = nt
  defers : a.defers = []
  core : ∃ β, EnvT β (fold ops V X (E 0) ops.size) a.tmps ∧ Ext (G 0).length β0 w0 β w ∧ (PhA ops k G X β w ∨ PhB ops k G X β w)
def addX (X : Nat → Bool) (i : Nat) : Nat → Bool := fun j => if j = i then true else X j
theorem addX_same {X : Nat → Bool} {i : Nat} : addX X i i = true := by simp [addX]
theorem addX_other {X : Nat → Bool} {i j : Nat} (h : j ≠ i) : addX X i j = X j := by simp [addX, h]
theorem fold_last {X : Nat → Bool} {i : Nat} {t : Tmp} {base : Env} (hd : dstOf ops i = some t) (hX : X i = true) (hl : ∀ j, i < j → dstOf ops j = some t → X j = false) : ∀ m, i < m → fold ops V X base m t = some (V i)
  | 0, h => by omega
  | m + 1, h => by
    by_cases e : m = i
    · subst e
      simp [fold, hX, hd, aput]
    · have ih := fold_last (base := base) hd hX hl m (by omega)
      simp only [fold]
      split
      · rename_i hm
        have : dstOf ops m ≠ some t := fun h => by rw [hl m (by omega) h] at hm; cases hm
        rw [aput_other this]
        exact ih
      · exact ih
theorem waits (hc : chk ops B k = true) {X : Nat → Bool} (closed : ∀ j o, X j = true → ops[j]? = some o → ∀ d ∈ needs o, X d = true) {i : Nat} {o : Oper} (ho : ops[i]? = some o) (hn : ∀ d ∈ needs o, X d = true) (hXi : X i = false) {j : Nat} (hb : (B.getD i 0).testBit j = true) : X j = true := by
  have hb0 : okBits ops B = true := by unfold chk at hc; rw [Bool.and_eq_true] at hc; exact hc.1
  have := closed_bits hb0 (X := fun j => addX X i j = true) (fun q p hq hp d hd => by
    by_cases e : q = i
    · subst e
      rw [ho] at hp
      cases hp
      have := hn d hd
      by_cases e2 : d = q
      · subst e2; exact addX_same
      · rw [addX_other e2]; exact this
    · rw [addX_other e] at hq
      have := closed q p hq hp d hd
      by_cases e2 : d = i
      · subst e2; exact addX_same
      · rw [addX_other e2]; exact this) i addX_same (Array.getElem?_eq_some_iff.1 ho).1 j hb
  by_cases e : j = i
  · subst e
    exfalso
    obtain ⟨h1, h2⟩ := okBits_at hb0 ho
    -- nothing waits for itself
    have key : ∀ q, q ≤ j → ∀ p, ops[q]? = some p → ∀ s, (B.getD q 0).testBit s = true → s < q := by
      intro q
      induction q using Nat.strongRecOn with
      | _ q ih =>
        intro hq p hp s hs
        obtain ⟨g1, g2⟩ := okBits_at hb0 hp
        obtain ⟨d, hd, h3⟩ := g2 s hs
        have hdq := g1 d hd
        rcases h3 with rfl | h3
        · exact hdq
        · have hdn : d < ops.size := Nat.lt_trans hdq (Array.getElem?_eq_some_iff.1 hp).1
          have := ih d hdq (by omega) _ (Array.getElem?_eq_getElem hdn) s h3
          omega
    have := key j (Nat.le_refl _) o ho j hb
    omega
  · rwa [addX_other e] at this
theorem waits_in (hc : chk ops B k = true) {X : Nat → Bool} (closed : ∀ j o, X j = true → ops[j]? = some o → ∀ d ∈ needs o, X d = true) {i j : Nat} (hj : j < ops.size) (hX : X j = true) (hb : (B.getD j 0).testBit i = true) : X i = true := by
  have hb0 : okBits ops B = true := by unfold chk at hc; rw [Bool.and_eq_true] at hc; exact hc.1
  exact closed_bits hb0 (X := fun j => X j = true) (fun q p hq hp d hd => closed q p hq hp d hd) j hX hj i hb
theorem agree (hc : chk ops B k = true) (T : Trace P nt ops k V E G) {X : Nat → Bool} (closed : ∀ j o, X j = true → ops[j]? = some o → ∀ d ∈ needs o, X d = true) {i : Nat} {o : Oper} (ho : ops[i]? = some o) (hn : ∀ d ∈ needs o, X d = true) (hXi : X i = false) {t : Tmp} (ht : t ∈ o.looksAt ops) :
    fold ops V X (E 0) ops.size t = E i t := by
  have hi := (Array.getElem?_eq_some_iff.1 ho).1
  rw [← fold_all (V := V) (E := E) rfl (fun j hj => (T.step j hj).1) i (by omega), ← fold_stop (V := V) (base := E 0) ops.size (by omega)]
  refine fold_congr ops.size fun j hj hd => ?_
  have hoj : ops[j]? = some ops[j] := Array.getElem?_eq_getElem hj
  have hdj : (ops[j]).dst = some t := by simpa [dstOf, hoj] using hd
  rcases Nat.lt_trichotomy j i with h | h | h
  · rw [decide_eq_true h]
    cases hb : (B.getD i 0).testBit j with
    | true => exact waits hc closed ho hn hXi hb
    | false => exact absurd ht ((Oper.apart_spec (chk_pair hc h hoj ho hb).1).1 t hdj)
  · subst h; simp [hXi]
  · rw [decide_eq_false (by omega)]
    cases hb : (B.getD j 0).testBit i with
    | true =>
      cases hX : X j with
      | false => rfl
      | true => rw [waits_in hc closed hj hX hb] at hXi; cases hXi
    | false => exact absurd ht ((Oper.apart_spec (chk_pair hc h ho hoj hb).1).2.2 t hdj)
theorem ayield_at {β : BM} {env : Env} {a : Act} {o : Oper} (h : ∀ d ∈ o.looksAt ops, ∀ v, env d = some v → ∃ v', a.tmps[d]? = some v' ∧ T3 β v v') (hg : okGuard ops env o = true) : Region.wanted o (yielded ops a.tmps) = Region.wanted o (ayield ops env) := by
  unfold Region.wanted
  unfold okGuard at hg
  cases hgd : o.guard with
  | none => rfl
  | some g =>
    obtain ⟨j, want⟩ := g
    simp only [hgd] at hg ⊢
    have key : yielded ops a.tmps j = ayield ops env j := by
      unfold yielded ayield
      unfold ayield at hg
      cases hd : (ops[j]?).bind (·.dst) with
      | none => rfl
      | some d =>
        simp only [hd, Option.bind_some] at hg ⊢
        cases he : env d with
        | none => simp [he] at hg
        | some v =>
          obtain ⟨v', hv, t⟩ := h d (by simp [Oper.looksAt, hgd, hd]) v he
          rw [hv]
          have := t.asB
          cases v <;> cases v' <;> simp_all [AL.asB]
    rw [key]
theorem looks_op {o : Oper} {t : Tmp} (h : Operand.tmp t ∈ o.op.operands.toList) : t ∈ o.looksAt ops := by
  unfold Oper.looksAt
  exact List.mem_append.2 (.inl (List.mem_filterMap.2 ⟨_, h, rfl⟩))
theorem Inv.one (hc : chk ops B k = true) (T : Trace P nt ops k V E G) {β0 : BM} {w0 : World} {X : Nat → Bool} {a : Act} {w : World} (I : Inv nt ops k V E G β0 w0 X a w) {i : Nat} {o : Oper} (ho : ops[i]? = some o) (hn : ∀ d ∈ needs o, X d = true) (hXi : X i = false)
    {Q : Exit → Act → World → Prop} {N : Act → World → Prop} (hN : ∀ a' w', Inv nt ops k V E G β0 w0 (addX X i) a' w' → N a' w') : wpOp P ops Q i N a w := by
  have hi := (Array.getElem?_eq_some_iff.1 ho).1
  obtain ⟨β, hE, hX, hph⟩ := I.core
  obtain ⟨heq, o', ho', hd, hg, hst⟩ := T.step i hi
  rw [ho] at ho'
  cases ho'
  have hdst : dstOf ops i = o.dst := by simp [dstOf, ho]
  have hag : ∀ t ∈ o.looksAt ops, fold ops V X (E 0) ops.size t = E i t := fun t ht => agree hc T I.closed ho hn hXi ht
  have hlook : ∀ d ∈ o.looksAt ops, ∀ v, E i d = some v → ∃ v', a.tmps[d]? = some v' ∧ T3 β v v' := fun d hd v hv => hE d v ((hag d hd).trans hv)
  have hOp : OpT β (E i) a o.op := by
    intro x hx v hv
    cases x with
    | tmp t =>
      obtain ⟨v', h1, h2⟩ := hlook t (looks_op hx) v hv
      have : a.eval (.tmp t) = v' := by simp [Act.eval, h1]
      rw [this]; exact h2
    | const c =>
      simp only [aev] at hv
      split at hv
      · cases hv; exact .const (by assumption)
      · cases hv
    | func f => cases hv; exact .plain rfl
    | global g => cases hv
  -- the new set
  have hclosed : ∀ j p, addX X i j = true → ops[j]? = some p → ∀ d ∈ needs p, addX X i d = true := by
    intro j p hj hp d hd
    have : X d = true := by
      by_cases e : j = i
      · subst e; rw [ho] at hp; cases hp; exact hn d hd
      · rw [addX_other e] at hj; exact I.closed j p hj hp d hd
    by_cases e : d = i
    · subst e; exact addX_same
    · rw [addX_other e]; exact this
  have hbnd : ∀ j, addX X i j = true → j < ops.size := fun j hj => by
    by_cases e : j = i
    · subst e; exact hi
    · rw [addX_other e] at hj; exact I.bnd j hj
  have henv : ∀ {β' : BM} {v' : Value}, EnvT β' (fold ops V X (E 0) ops.size) a.tmps → T3 β' (V i) v' → EnvT β' (fold ops V (addX X i) (E 0) ops.size) (a.put o.dst v').tmps := by
    intro β' v' h t q v hv
    refine h.put I.size t o.dst hd q v ?_
    by_cases e : o.dst = some q
    · have h1 := fold_last (V := V) (base := E 0) (hdst.trans e) (X := addX X i) addX_same (fun j hj hdj => by
        rw [addX_other (by omega)]
        cases hXj : X j with
        | false => rfl
        | true =>
          have hjn := I.bnd j hXj
          have hoj : ops[j]? = some ops[j] := Array.getElem?_eq_getElem hjn
          have hdj' : (ops[j]).dst = some q := by simpa [dstOf, hoj] using hdj
          cases hb : (B.getD j 0).testBit i with
          | true => rw [waits_in hc I.closed hjn hXj hb] at hXi; cases hXi
          | false => exact absurd hdj' ((Oper.apart_spec (chk_pair hc hj ho hoj hb).1).2.1 q e)) ops.size hi
      rw [h1] at hv
      rw [e]
      simpa [aput] using hv
    · rw [aput_other e]
      rw [← hv]
      refine fold_congr ops.size fun j hj hdj => ?_
      rw [addX_other]
      rintro rfl
      exact e (hdst.symm.trans hdj)
  have mk : ∀ {β' : BM} {v' : Value} {w' : World}, EnvT β' (fold ops V X (E 0) ops.size) a.tmps → T3 β' (V i) v' → Ext (G 0).length β0 w0 β' w' → (PhA ops k G (addX X i) β' w' ∨ PhB ops k G (addX X i) β' w') → N (a.put o.dst v') w' :=
    fun h1 h2 h3 h4 => hN _ _ ⟨hclosed, hbnd, by rw [Act.put_size]; exact I.size, by rw [Act.put_defers]; exact I.defers, _, henv h1 h2, h3, h4⟩
  -- behind the first that writes all stand in a row
  have nonpure_before : ∀ j p, j < i → ops[j]? = some p → quiet ops k p.op = false → quiet ops k o.op = false → k ≤ i → X j = true := by
    intro j p hj hp hpp hpo hki
    cases hb : (B.getD i 0).testBit j with
    | true => exact waits hc I.closed ho hn hXi hb
    | false =>
      rcases (chk_pair hc hj hp ho hb).2 with h | h | h
      · rw [hpp] at h; cases h
      · rw [hpo] at h; cases h
      · omega
  have toB : quiet ops k o.op = false → k ≤ i → ∃ m, k ≤ m ∧ m ≤ i ∧ (∀ j p, j < m → ops[j]? = some p → quiet ops k p.op = false → X j = true) ∧ (∀ j p, m ≤ j → X j = true → ops[j]? = some p → quiet ops k p.op = true) ∧ Rel β (G i) w := by
    intro hpo hki
    have fin : ∀ m, k ≤ m → m ≤ i → (∀ j p, m ≤ j → X j = true → ops[j]? = some p → quiet ops k p.op = true) → Rel β (G m) w → Rel β (G i) w := by
      intro m h1 h2 h3 h4
      rw [T.same i h2 (by omega) fun q p h5 h6 h7 => ?_]
      · exact h4
      · cases hq : quiet ops k p.op with
        | true => rfl
        | false => rw [← hq]; exact h3 q p h5 (nonpure_before q p h6 h7 hq hpo hki) h7
    rcases hph with ⟨h1, h2, h3⟩ | ⟨m, h1, h2, h3, h4, h5⟩
    · have hp : ∀ j p, k ≤ j → X j = true → ops[j]? = some p → quiet ops k p.op = true := fun j p hj hx hp => by
        cases hq : quiet ops k p.op with
        | true => rfl
        | false => have := h1 j p hx hp hq; omega
      exact ⟨k, Nat.le_refl _, hki, fun j p hj hp hq => nonpure_before j p (by omega) hp hq hpo hki, hp, fin k (Nat.le_refl _) hki hp h2⟩
    · have hmi : m ≤ i := by
        rcases Nat.lt_or_ge i m with h | h
        · rw [h3 i o h ho hpo] at hXi; cases hXi
        · exact h
      exact ⟨m, h1, hmi, h3, h4, fin m h1 hmi h4 h5⟩
  have afterB : ∀ {β' : BM} {w' : World}, quiet ops k o.op = false → k ≤ i → (∃ m, k ≤ m ∧ m ≤ i ∧ (∀ j p, j < m → ops[j]? = some p → quiet ops k p.op = false → X j = true) ∧ (∀ j p, m ≤ j → X j = true → ops[j]? = some p → quiet ops k p.op = true)) → Rel β' (G (i + 1)) w' → PhB ops k G (addX X i) β' w' := by
    rintro β' w' hpo hki ⟨m, h1, h2, h3, h4⟩ R
    refine ⟨i + 1, by omega, by omega, fun j p hj hp hq => ?_, fun j p hj hx hp => ?_, R⟩
    · by_cases e : j = i
      · subst e; exact addX_same
      · rw [addX_other e]; exact nonpure_before j p (by omega) hp hq hpo hki
    · rw [addX_other (by omega)] at hx
      exact h4 j p (by omega) hx hp
  unfold wpOp
  simp only [ho]
  rw [ayield_at hlook hg]
  rcases hst with ⟨hw, hr, hpre⟩ | ⟨hw, hv, hG⟩
  · rw [if_pos hw]
    refine .inl ?_
    cases hp : quiet ops k o.op with
    | true =>
      obtain ⟨hq⟩ | ⟨f, args, hq, _⟩ := hr
      case inr => exact (quiet_not_call hp hq).elim
      have hq := T.quietAny hp ho (by assumption)
      have go : ∀ Hr, aop P (E i) Hr o.op = .val (V i) Hr → Rel β Hr w → (∀ β' w', Rel β' Hr w' → Ext Hr.length β w β' w' → (PhA ops k G (addX X i) β' w' ∨ PhB ops k G (addX X i) β' w')) → (G 0).length ≤ Hr.length → o.wp P a w N Q := by
        intro Hr hqr R hh hl
        obtain ⟨v', w', β', hrun, R', E', t⟩ := aop_val (P := P) R hOp hqr
        have E0 := hX.trans E' (by exact hl)
        unfold Oper.wp
        rcases hrun with hrun | ⟨hrun, rfl⟩
        · rw [hrun]; exact mk (hE.ext E') t E0 (hh β' w' R' E')
        · rw [hrun]; exact mk (hE.ext E') t E0 (hh β' w' R' E')
      rcases hph with ⟨h1, h2, h3⟩ | ⟨m, h1, h2, h3, h4, h5⟩
      · refine go (G k) (hq k (Nat.le_refl _) T.hk) h2 (fun β' w' R' E' => .inl ⟨fun j p hx hpj hq => ?_, R', fun j p hj hpj hq hx id g1 g2 => ?_⟩) (T.lens k (Nat.zero_le _) T.hk)
        · by_cases e : j = i
          · subst e; rw [ho] at hpj; cases hpj; rw [hp] at hq; cases hq
          · rw [addX_other e] at hx; exact h1 j p hx hpj hq
        · have hji : j ≠ i := by rintro rfl; rw [addX_same] at hx; cases hx
          rw [addX_other hji] at hx
          have hlk := T.lens (i := j + 1) k (by omega) T.hk
          exact E'.hole id (by omega) (h3 j p hj hpj hq hx id g1 g2)
      · refine go (G m) (hq m h1 h2) h5 (fun β' w' R' E' => .inr ⟨m, h1, h2, fun j p hj hpj hq => ?_, fun j p hj hx hpj => ?_, R'⟩) (T.lens m (Nat.zero_le _) h2)
        · by_cases e : j = i
          · subst e; exact addX_same
          · rw [addX_other e]; exact h3 j p hj hpj hq
        · by_cases e : j = i
          · subst e; rw [ho] at hpj; cases hpj; exact hp
          · rw [addX_other e] at hx; exact h4 j p hj hx hpj
    | false =>
      obtain ⟨wfi, eri⟩ := T.all i (by omega)
      by_cases hki : k ≤ i
      · obtain ⟨m, h1, h2, h3, h4, R⟩ := toB hp hki
        refine op_real hr R wfi eri hOp fun v' w' β' R' E' t => ?_
        exact mk (hE.ext E') t (hX.trans E' (T.lens i (Nat.zero_le _) (by omega))) (.inr (afterB hp hki ⟨m, h1, h2, h3, h4⟩ R'))
      · have hik : i < k := by omega
        rcases hph with ⟨h1, h2, h3⟩ | ⟨m, h1, h2, h3, h4, h5⟩
        · have hpk := T.pre k (i := i) (by omega) (Nat.le_refl _)
          have hpk1 := T.pre k (i := i + 1) (by omega) (Nat.le_refl _)
          have hOp' : OpT (cut (G i).length β) (E i) a o.op := fun x hx v hv => (hOp x hx v hv).cut (aev_R eri hv)
          refine op_real hr (h2.less hpk wfi) wfi eri hOp' fun v' w' γ R1 E1 t => ?_
          obtain ⟨R', EE⟩ := h2.beside (hpre hik) hpk1 R1 E1 (h3 i o hik ho hp hXi)
          have E' := EE (G 0).length (T.lens i (Nat.zero_le _) (by omega))
          refine mk (hE.ext E') (t.sub fun q l hq => ?_) (hX.trans E' (Nat.le_refl _)) (.inl ⟨fun j p hx hpj hq => ?_, R', fun j p hj hpj hq hx id g1 g2 => ?_⟩)
          · have : q < (G (i + 1)).length := by
              rcases Nat.lt_or_ge q (G (i + 1)).length with h | h
              · exact h
              · rw [R1.dom q h] at hq; cases hq
            show (if q < (G (i + 1)).length then γ q else β q) = some l
            rw [if_pos this]; exact hq
          · by_cases e : j = i
            · subst e; exact hik
            · rw [addX_other e] at hx; exact h1 j p hx hpj hq
          · have hji : j ≠ i := by rintro rfl; rw [addX_same] at hx; cases hx
            rw [addX_other hji] at hx
            have h0 := h3 j p hj hpj hq hx id g1 g2
            show (if id < (G (i + 1)).length then γ id else β id) = none
            by_cases hid : id < (G (i + 1)).length
            · rw [if_pos hid]
              have hlt : id < (G i).length := by
                rcases Nat.lt_or_ge j i with hji | hji
                · have := T.lens (i := j + 1) i (by omega) (by omega); omega
                · have := T.lens (i := i + 1) j (by omega) (by have := T.hk; omega); omega
              exact E1.hole id hlt ((cut_lt hlt).trans h0)
            · rw [if_neg hid]; exact h0
        · rw [h3 i o (by omega) ho hp] at hXi; cases hXi
  · rw [hw]
    simp only [Bool.false_eq_true, if_false]
    have t : T3 β (V i) undef := by rw [hv]; exact undef_T3
    refine mk hE t hX ?_
    cases hp : quiet ops k o.op with
    | true =>
      rcases hph with ⟨h1, h2, h3⟩ | ⟨m, h1, h2, h3, h4, h5⟩
      · refine .inl ⟨fun j p hx hpj hq => ?_, h2, fun j p hj hpj hq hx id g1 g2 => ?_⟩
        · by_cases e : j = i
          · subst e; rw [ho] at hpj; cases hpj; rw [hp] at hq; cases hq
          · rw [addX_other e] at hx; exact h1 j p hx hpj hq
        · have hji : j ≠ i := by rintro rfl; rw [addX_same] at hx; cases hx
          rw [addX_other hji] at hx
          exact h3 j p hj hpj hq hx id g1 g2
      · refine .inr ⟨m, h1, h2, fun j p hj hpj hq => ?_, fun j p hj hx hpj => ?_, h5⟩
        · by_cases e : j = i
          · subst e; exact addX_same
          · rw [addX_other e]; exact h3 j p hj hpj hq
        · by_cases e : j = i
          · subst e; rw [ho] at hpj; cases hpj; exact hp
          · rw [addX_other e] at hx; exact h4 j p hj hx hpj
    | false =>
      by_cases hki : k ≤ i
      · obtain ⟨m, h1, h2, h3, h4, R⟩ := toB hp hki
        exact .inr (afterB hp hki ⟨m, h1, h2, h3, h4⟩ (hG ▸ R))
      · have hik : i < k := by omega
        rcases hph with ⟨h1, h2, h3⟩ | ⟨m, h1, h2, h3, h4, h5⟩
        · refine .inl ⟨fun j p hx hpj hq => ?_, h2, fun j p hj hpj hq hx id g1 g2 => ?_⟩
          · by_cases e : j = i
            · subst e; exact hik
            · rw [addX_other e] at hx; exact h1 j p hx hpj hq
          · have hji : j ≠ i := by rintro rfl; rw [addX_same] at hx; cases hx
            rw [addX_other hji] at hx
            exact h3 j p hj hpj hq hx id g1 g2
        · rw [h3 i o (by omega) ho hp] at hXi; cases hXi

def cnt (X : Nat → Bool) : Nat → Nat
  | 0 => 0
  | m + 1 => cnt X m + (if X m then 0 else 1)
theorem cnt_add {X : Nat → Bool} {i : Nat} (h : X i = false) : ∀ m, i < m → cnt (addX X i) m + 1 = cnt X m
  | 0, hm => by omega
  | m + 1, hm => by
    by_cases e : m = i
    · subst e
      have : ∀ q, q ≤ m → cnt (addX X m) q = cnt X q := by
        intro q
        induction q with
        | zero => intro _; rfl
        | succ q ih =>
          intro hq
          simp only [cnt, ih (by omega), addX_other (show q ≠ m by omega)]
      simp [cnt, this m (Nat.le_refl _), addX_same, h]
    · have := cnt_add h m (by omega)
      simp only [cnt, addX_other e]
      omega
theorem cnt_zero {X : Nat → Bool} : ∀ m, cnt X m = 0 → ∀ j, j < m → X j = true
  | 0, _, j, hj => by omega
  | m + 1, h, j, hj => by
    simp only [cnt] at h
    by_cases e : j = m
    · subst e
      cases hX : X j with
      | true => rfl
      | false => rw [hX] at h; simp at h
    · exact cnt_zero m (by omega) j (by omega)
theorem cnt_none : ∀ m, cnt (fun _ => false) m = m
  | 0 => rfl
  | m + 1 => by simp [cnt, cnt_none m]
theorem Inv.fin (T : Trace P nt ops k V E G) {β0 : BM} {w0 : World} {X : Nat → Bool} {a : Act} {w : World} (I : Inv nt ops k V E G β0 w0 X a w) (hall : ∀ j, j < ops.size → X j = true) :
    ∃ β, St nt β (E ops.size) (G ops.size) a w ∧ Ext (G 0).length β0 w0 β w := by
  obtain ⟨β, hE, hX, hph⟩ := I.core
  obtain ⟨wf, er⟩ := T.all ops.size (Nat.le_refl _)
  have he : fold ops V X (E 0) ops.size = E ops.size := by
    rw [← fold_all (V := V) (E := E) rfl (fun j hj => (T.step j hj).1) ops.size (Nat.le_refl _)]
    funext t
    exact fold_congr ops.size fun j hj _ => hall j hj
  rw [he] at hE
  refine ⟨β, ⟨?_, wf, hE, er, I.size, I.defers⟩, hX⟩
  rcases hph with ⟨h1, h2, h3⟩ | ⟨m, h1, h2, h3, h4, h5⟩
  · rw [T.same ops.size T.hk (Nat.le_refl _) fun q o hq hlt ho => ?_]
    · exact h2
    · cases hp : quiet ops k o.op with
      | true => rfl
      | false => have := h1 q o (hall q hlt) ho hp; omega
  · rw [T.same ops.size h2 (Nat.le_refl _) fun q o hq hlt ho => h4 q o hq (hall q hlt) ho]
    exact h5
theorem Inv.any (hc : chk ops B k = true) (T : Trace P nt ops k V E G) {β0 : BM} {w0 : World} {K : Exit → Act → World → Prop} (hK : ∀ β a w, St nt β (E ops.size) (G ops.size) a w → Ext (G 0).length β0 w0 β w → K .normal a w) :
    ∀ (fuel : Nat) (L : Array Bool) (a : Act) (w : World), L.size = ops.size → cnt (fun j => L.getD j false) ops.size ≤ fuel → Inv nt ops k V E G β0 w0 (fun j => L.getD j false) a w → wpAny P .any ops K fuel L a w := by
  have done : ∀ (L : Array Bool) (a : Act) (w : World), L.size = ops.size → Inv nt ops k V E G β0 w0 (fun j => L.getD j false) a w → Region.ready .any ops L = [] → K .normal a w := by
    intro L a w hL I hr
    have hall : ∀ j, j < ops.size → L.getD j false = true := by
      intro j
      induction j using Nat.strongRecOn with
      | _ j ih =>
        intro hj
        cases hX : L.getD j false with
        | true => rfl
        | false =>
          exfalso
          have hoj : ops[j]? = some ops[j] := Array.getElem?_eq_getElem hj
          have hb0 : okBits ops B = true := by unfold chk at hc; rw [Bool.and_eq_true] at hc; exact hc.1
          have : j ∈ Region.ready .any ops L := by
            unfold Region.ready
            refine List.mem_filter.2 ⟨List.mem_range.2 hj, ?_⟩
            have h1 : L.getD j true = false := by
              rw [Array.getD_eq_getD_getElem?] at hX ⊢
              rw [Array.getElem?_eq_getElem (by omega)] at hX ⊢
              exact hX
            rw [h1, hoj]
            simp only [Bool.not_false, Bool.true_and, Option.map_some, Option.getD_some]
            rw [Array.all_eq_true_iff_forall_mem]
            intro e he
            cases hbe : Region.binds .any e with
            | false => rfl
            | true =>
              have hd : e.on ∈ needs ops[j] := by
                unfold needs
                exact List.mem_map.2 ⟨e, List.mem_filter.2 ⟨by simpa using he, hbe⟩, rfl⟩
              have := (okBits_at hb0 hoj).1 e.on hd
              have := ih e.on this (by omega)
              simpa using this
          rw [hr] at this
          cases this
    obtain ⟨β, S, E'⟩ := I.fin T hall
    exact hK β a w S E'
  intro fuel
  induction fuel with
  | zero =>
    intro L a w hL hn I
    have hall := cnt_zero ops.size (Nat.le_zero.1 hn)
    have hr : Region.ready .any ops L = [] := by
      unfold Region.ready
      refine List.filter_eq_nil_iff.2 fun j hj => ?_
      have hjn := List.mem_range.1 hj
      have h1 : L.getD j true = true := by
        have := hall j hjn
        rw [Array.getD_eq_getD_getElem?] at this ⊢
        rw [Array.getElem?_eq_getElem (by omega)] at this ⊢
        exact this
      simp [h1]
    exact ⟨hr, done L a w hL I hr⟩
  | succ fuel ih =>
    intro L a w hL hn I
    refine ⟨done L a w hL I, fun i hi => ?_⟩
    unfold Region.ready at hi
    obtain ⟨h1, h2⟩ := List.mem_filter.1 hi
    have hin := List.mem_range.1 h1
    have hoi : ops[i]? = some ops[i] := Array.getElem?_eq_getElem hin
    rw [Bool.and_eq_true] at h2
    obtain ⟨h2, h3⟩ := h2
    have hXi : L.getD i false = false := by
      rw [Array.getD_eq_getD_getElem?] at h2 ⊢
      rw [Array.getElem?_eq_getElem (by omega)] at h2 ⊢
      simpa using h2
    rw [hoi] at h3
    simp only [Option.map_some, Option.getD_some] at h3
    rw [Array.all_eq_true_iff_forall_mem] at h3
    have hne : ∀ d ∈ needs ops[i], L.getD d false = true := by
      intro d hd
      unfold needs at hd
      obtain ⟨e, he, rfl⟩ := List.mem_map.1 hd
      obtain ⟨he1, he2⟩ := List.mem_filter.1 he
      have := h3 e (by simpa using he1)
      rw [he2] at this
      simpa using this
    refine I.one hc T hoi hne hXi fun a' w' I' => ?_
    have hset : (fun j => (L.setIfInBounds i true).getD j false) = addX (fun j => L.getD j false) i := by
      funext j
      unfold addX
      rw [Array.getD_eq_getD_getElem?, Array.getElem?_setIfInBounds]
      by_cases e : i = j
      · subst e
        rw [if_pos rfl, if_pos (by omega), if_pos rfl]
        rfl
      · rw [if_neg e, if_neg (fun h => e h.symm)]
        show _ = L.getD j false
        rw [Array.getD_eq_getD_getElem?]
    refine ih _ a' w' (by simp [hL]) ?_ ?_
    · rw [hset]
      have := cnt_add (X := fun j => L.getD j false) hXi ops.size hin
      omega
    · rw [hset]; exact I'
theorem AWp.drawn {id : Nat} {env : Env} {H : AH} {Q : Exit → Env → AH → Prop} (hm : P.follows .mixedOrders = true) (hc : chk ops B k = true) (hk : k ≤ ops.size) (h : ARunD P nt ops k (fun env H => Q .normal env H) 0 ops.toList env H) : AWp P nt (.region id ops true) Q env H := by
  intro β w a K S hK
  refine wp_region_any hm ?_
  obtain ⟨V, E, G, h1, h2, h3, h4⟩ := trace_of ops.toList 0 env H rfl (by simp) h
  have T : Trace P nt ops k V E G := ⟨fun i hi => h4 i (Nat.zero_le _) hi, by rw [h2]; exact S.wf, by rw [h1, h2]; exact S.er, hk⟩
  have hs : SameHeap w { w with drawn := w.drawn + 1 } := ⟨rfl, rfl, rfl, rfl⟩
  have hL : (fun j => (Array.replicate ops.size false).getD j false) = fun _ => false := by
    funext j
    rw [Array.getD_eq_getD_getElem?, Array.getElem?_replicate]
    split <;> rfl
  have hf : fold ops V (fun _ => false) (E 0) ops.size = env := by
    have : ∀ m, fold ops V (fun _ => false) (E 0) m = E 0 := by
      intro m
      induction m with
      | zero => rfl
      | succ m ih => simp [fold, ih]
    rw [this, h1]
  refine Inv.any hc T (β0 := β) (w0 := w) (fun β' a' w' S' E' => hK _ _ _ _ _ _ h3 S' (by rw [← h2]; exact E') (by rw [← h2]; exact T.lens _ (Nat.zero_le _) (Nat.le_refl _))) ops.size _ a _ (by simp) (by rw [hL, cnt_none]; exact Nat.le_refl _) ?_
  rw [hL]
  refine ⟨fun j o hj => (by cases hj), fun j hj => (by cases hj), S.size, S.defers, β, by rw [hf]; exact S.envT, Ext.same _ hs, .inl ⟨fun j o hj => (by cases hj), ?_, fun i o hi ho hp hx id g1 g2 => ?_⟩⟩
  · have := T.pre k (i := 0) (Nat.zero_le _) (Nat.le_refl _)
    rw [h2] at this
    exact (S.rel.same hs).more this
  · have := T.lens (i := 0) i (Nat.zero_le _) (by have := T.hk; omega)
    rw [h2] at this
    exact S.rel.dom id (by omega)
end

end Go.Proofs.Ytdbflchpbhkanaa.AL
namespace Go.Proofs.Ytdbflchpbhkanaa.AL
open Go Go.RowKit
set_option linter.unusedVariables false
set_option linter.unusedSimpArgs false

attribute [simp] okDst okGuard Region.wanted aop aMapOp aev constV plainV arOf arOf2 aops aparts aopt aBuiltin aCallee aExtract ayield aresults andThen aMin aMax
attribute [local simp] aBin' aBin aBinI aUn aNil flatV
@[simp] theorem aput_some {env : Env} {d t : Tmp} {v : Value} : aput env (some d) v t = if t = d then some v else env t := rfl
@[simp] theorem aput_none {env : Env} {v : Value} : aput env none v = env := rfl
def Cont (P : Program) (nt : Nat) (ops : Array Oper) (K : Env → AH → Prop) (r : List Oper) (env : Env) (d : Option Tmp) : Value → AH → Prop := fun v H' => ARun P nt ops K r (aput env d v) H'
@[simp] theorem Cont_apply {P : Program} {nt : Nat} {ops : Array Oper} {K : Env → AH → Prop} {r : List Oper} {env : Env} {d : Option Tmp} {v : Value} {H' : AH} : Cont P nt ops K r env d v H' = ARun P nt ops K r (aput env d v) H' := rfl
def AGo (g w : Bool) (P : Program) (H : AH) (r : AR) (K : Value → AH → Prop) : Prop := if g = true then (if w = true then (match r with
  | .val v H' => K v H'
  | .call f args => CallK P f args H K
  | .bad => False) else K undef H) else False
@[simp] theorem AGo_val {P : Program} {H H' : AH} {v : Value} {K : Value → AH → Prop} : AGo true true P H (.val v H') K = K v H' := by simp [AGo]
@[simp] theorem AGo_call {P : Program} {H : AH} {f : FuncId} {args : List Value} {K : Value → AH → Prop} : AGo true true P H (.call f args) K = CallK P f args H K := by simp [AGo]
@[simp] theorem AGo_bad {P : Program} {H : AH} {K : Value → AH → Prop} : AGo true true P H .bad K = False := by simp [AGo]
@[simp] theorem AGo_off {P : Program} {H : AH} {r : AR} {K : Value → AH → Prop} : AGo true false P H r K = K undef H := by simp [AGo]
@[simp] theorem ARun_nil {P : Program} {nt : Nat} {ops : Array Oper} {K : Env → AH → Prop} {env : Env} {H : AH} : ARun P nt ops K [] env H = K env H := rfl
@[simp] theorem ARun_cons {P : Program} {nt : Nat} {ops : Array Oper} {K : Env → AH → Prop} {env : Env} {H : AH} {o : Oper} {r : List Oper} : ARun P nt ops K (o :: r) env H =
    AGo (okDst nt o.dst && okGuard ops env o) (Region.wanted o (ayield ops env)) P H (aop P env H o.op) (Cont P nt ops K r env o.dst) := by
  simp only [ARun, AGo, Bool.and_eq_true]
  rfl
def ContD (P : Program) (nt : Nat) (ops : Array Oper) (k : Nat) (K : Env → AH → Prop) (i : Nat) (r : List Oper) (env : Env) (d : Option Tmp) (H : AH) : Value → AH → Prop := fun v H' => (i < k → H <+: H') ∧ ARunD P nt ops k K (i + 1) r (aput env d v) H'
@[simp] theorem ContD_apply {P : Program} {nt : Nat} {ops : Array Oper} {k : Nat} {K : Env → AH → Prop} {i : Nat} {r : List Oper} {env : Env} {d : Option Tmp} {v : Value} {H H' : AH} : ContD P nt ops k K i r env d H v H' = ((i < k → H <+: H') ∧ ARunD P nt ops k K (i + 1) r (aput env d v) H') := rfl
def AGoD (g w : Bool) (P : Program) (H : AH) (r : AR) (K : Value → AH → Prop) : Prop := if g = true then (if w = true then (match r with
  | .val v H' => K v H'
  | .call f args => CallD P f args H K
  | .bad => False) else K undef H) else False
@[simp] theorem AGoD_val {P : Program} {H H' : AH} {v : Value} {K : Value → AH → Prop} : AGoD true true P H (.val v H') K = K v H' := by simp [AGoD]
@[simp] theorem AGoD_call {P : Program} {H : AH} {f : FuncId} {args : List Value} {K : Value → AH → Prop} : AGoD true true P H (.call f args) K = CallD P f args H K := by simp [AGoD]
@[simp] theorem AGoD_bad {P : Program} {H : AH} {K : Value → AH → Prop} : AGoD true true P H .bad K = False := by simp [AGoD]
@[simp] theorem AGoD_off {P : Program} {H : AH} {r : AR} {K : Value → AH → Prop} : AGoD true false P H r K = K undef H := by simp [AGoD]
@[simp] theorem ARunD_nil {P : Program} {nt k i : Nat} {ops : Array Oper} {K : Env → AH → Prop} {env : Env} {H : AH} : ARunD P nt ops k K i [] env H = K env H := rfl
@[simp] theorem ARunD_cons {P : Program} {nt k i : Nat} {ops : Array Oper} {K : Env → AH → Prop} {env : Env} {H : AH} {o : Oper} {r : List Oper} : ARunD P nt ops k K i (o :: r) env H =
    AGoD (okDst nt o.dst && okGuard ops env o) (Region.wanted o (ayield ops env)) P H (aop P env H o.op) (ContD P nt ops k K i r env o.dst H) := by
  have hp : H <+: H := List.prefix_rfl
  simp only [ARunD, AGoD, Bool.and_eq_true, ContD, hp, implies_true, true_and]
  rfl
@[simp] theorem isTup_int {k : IntKind} {n : Int} : isTup (.int k n) = false := rfl
@[simp] theorem isTup_bool {b : Bool} : isTup (.bool b) = false := rfl
@[simp] theorem isTup_string {s : ByteArray} : isTup (.string s) = false := rfl
@[simp] theorem isTup_slice {a : Option Addr} {n c : Nat} : isTup (.slice a n c) = false := rfl
@[simp] theorem isTup_pointer {a : Option Addr} : isTup (.pointer a) = false := rfl
@[simp] theorem isTup_agg {a : Array Value} : isTup (.agg a) = false := rfl
@[simp] theorem isTup_tuple {a : Array Value} : isTup (.tuple a) = true := rfl
theorem AWp.region' {P : Program} {nt : Nat} {env : Env} {H : AH} {id : Nat} {ops : Array Oper} {Q : Exit → Env → AH → Prop} (h : ∀ K : Env → AH → Prop, (∀ env H, Q .normal env H → K env H) → ARun P nt ops K ops.toList env H) : AWp P nt (.region id ops false) Q env H := AWp.region (h _ fun _ _ h => h)
theorem wrap_id {x : Int} (h0 : -9223372036854775808 ≤ x) (h1 : x ≤ 9223372036854775807) : IntKind.i64.wrap x = x := by
  simp [IntKind.wrap, IntKind.bits, IntKind.signed]; omega
theorem AWp.ct {P : Program} {nt : Nat} {env : Env} {H : AH} {c : Operand} {x y : Code} {Q : Exit → Env → AH → Prop} (hc : aev env c = some (.bool true)) (h : AWp P nt x Q env H) : AWp P nt (.cond c x y) Q env H := AWp.cond hc (by simpa using h)
theorem AWp.cf {P : Program} {nt : Nat} {env : Env} {H : AH} {c : Operand} {x y : Code} {Q : Exit → Env → AH → Prop} (hc : aev env c = some (.bool false)) (h : AWp P nt y Q env H) : AWp P nt (.cond c x y) Q env H := AWp.cond hc (by simpa using h)
section
variable {P : Program} {H L : AH} {v : Value} {cs : List Value} {t e : TypeId}
theorem alive_app {i g : Nat} {o : AO} (h : alive H i g = some o) : alive (H ++ L) i g = some o := by
  obtain ⟨h1, h2⟩ := alive_some h
  unfold alive
  rw [List.getElem?_append_left (List.getElem?_eq_some_iff.1 h1).1, h1]
  simp [h2]
@[simp] theorem alive_len {g : Nat} : alive (H ++ L) H.length g = alive L 0 g := by unfold alive; rw [List.getElem?_append_right (Nat.le_refl _), Nat.sub_self]
@[simp] theorem alive_add {k g : Nat} : alive (H ++ L) (H.length + k) g = alive L k g := by unfold alive; rw [List.getElem?_append_right (by omega), Nat.add_sub_cancel_left]
@[simp] theorem alive_zero {o : AO} {g : Nat} : alive (o :: L) 0 g = if o.gen = g then some o else none := rfl
@[simp] theorem alive_succ {o : AO} {k g : Nat} : alive (o :: L) (k + 1) g = alive L k g := rfl
@[simp] theorem alive_one {o : AO} {g : Nat} : alive (o :: L) 1 g = alive L 0 g := rfl
@[simp] theorem alive_two {o p : AO} {g : Nat} : alive (o :: p :: L) 2 g = alive L 0 g := rfl
@[simp] theorem set_len {o : AO} : (H ++ L).set H.length o = H ++ L.set 0 o := by rw [List.set_append]; simp
@[simp] theorem set_add {o : AO} {k : Nat} : (H ++ L).set (H.length + k) o = H ++ L.set k o := by rw [List.set_append, if_neg (by omega), Nat.add_sub_cancel_left]
def Sl (H : AH) (v : Value) (cs : List Value) : Prop :=
  (v = .slice none 0 0 ∧ cs = []) ∨ ∃ i off g c o, v = .slice (some ⟨i, off, some g⟩) cs.length c ∧ alive H i g = some o ∧ (o.cells.drop off).take cs.length = cs ∧ off + cs.length ≤ o.cells.length ∧ o.sz = 1
def elP (v : Value) (k : Nat) : Value := match v with
  | .slice (some ⟨i, off, some g⟩) _ _ => .pointer (some ⟨i, off + k, some g⟩)
  | _ => undef
theorem Sl.app (h : Sl H v cs) : Sl (H ++ L) v cs := by
  rcases h with h | ⟨i, off, g, c, o, h1, h2, h3⟩
  · exact .inl h
  · exact .inr ⟨i, off, g, c, o, h1, alive_app h2, h3⟩
theorem Sl.tup (h : Sl H v cs) : isTup v = false := by
  rcases h with ⟨rfl, _⟩ | ⟨i, off, g, c, o, rfl, _⟩ <;> rfl
theorem Sl.one (h : Sl H v cs) : v.cells = #[v] := by
  rcases h with ⟨rfl, _⟩ | ⟨i, off, g, c, o, rfl, _⟩ <;> rfl
theorem Sl.nil : Sl H (.slice none 0 0) [] := .inl ⟨rfl, rfl⟩
theorem Sl.pre {H' : AH} (h : Sl H v cs) (hp : H <+: H') : Sl H' v cs := by
  obtain ⟨L, rfl⟩ := hp
  exact h.app
theorem Sl.len (h : Sl H v cs) (he : elemT P t = some e) : aLen P H t v = some (.int .i64 cs.length) := by
  have hu := elemT_some he
  rcases h with ⟨rfl, rfl⟩ | ⟨i, off, g, c, o, rfl, h2, h3⟩
  · simp [aLen, hu]
  · simp [aLen, hu, h2]
theorem Sl.idx (h : Sl H v cs) (he : elemT P t = some e) (hs : sizeT P e = some 1) {k : Nat} (hk : k < cs.length) {kk : IntKind} : aIndexAddr P H t v (.int kk (k : Int)) = some (elP v k) := by
  rcases h with ⟨rfl, rfl⟩ | ⟨i, off, g, c, o, rfl, h2, h3⟩
  · simp at hk
  · have : (k : Int) < (cs.length : Int) := by omega
    simp [aIndexAddr, he, hs, h2, elP, this, hk]
theorem Sl.load (h : Sl H v cs) (hs : sizeT P e = some 1) (hb : aggT P e = some false) {k : Nat} {x : Value} (hk : cs[k]? = some x) : aLoad P H e (elP v k) = some x := by
  rcases h with ⟨rfl, rfl⟩ | ⟨i, off, g, c, o, rfl, h2, h3, h4, _⟩
  · simp at hk
  · have hlt := (List.getElem?_eq_some_iff.1 hk).1
    simp only [elP, aLoad, h2, hs, hb]
    rw [← h3, List.getElem?_take, if_pos hlt, List.getElem?_drop] at hk
    exact hk
theorem Sl.new {cells : List Value} {g c n : Nat} (hc : cells.length = n) : Sl (H ++ (⟨cells, e, 1, g, false⟩ :: L)) (.slice (some ⟨H.length, 0, some g⟩) n c) cells := by
  subst hc
  exact .inr ⟨H.length, 0, g, c, _, rfl, by simp; rfl, by simp, by simp, rfl⟩
def ints (xs : List Int) : List Value := xs.map (.int .i64)
@[simp] theorem ints_len {xs : List Int} : (ints xs).length = xs.length := by simp [ints]
end

def Fresh (H' : AH) (N : Nat) (e : TypeId) (v : Value) (cells : List Value) : Prop := ∃ i off g c o, N ≤ i ∧ v = .slice (some ⟨i, off, some g⟩) cells.length c ∧ H'[i]? = some o ∧ o.gen = g ∧ o.elem = e ∧ o.sz = 1 ∧ o.ro = false ∧ off + cells.length ≤ o.cells.length ∧ (o.cells.drop off).take cells.length = cells
def mkL (N n : Nat) : Value := .slice (some ⟨N, 0, some 0⟩) n (n + 1)
def objL (e : TypeId) (cells : List Value) : AO := ⟨cells, e, 1, 0, false⟩
theorem Fresh.sl {H' : AH} {N : Nat} {e : TypeId} {v : Value} {cells : List Value} (h : Fresh H' N e v cells) : Sl H' v cells := by
  obtain ⟨i, off, g, c, o, h0, rfl, h1, h2, h3, h4, h5, h6, h7⟩ := h
  exact .inr ⟨i, off, g, c, o, rfl, by simp [alive, h1, h2], h7, h6, h4⟩
theorem Sl.mkL {H L : AH} {e : TypeId} {cells : List Value} {n : Nat} (h : cells.length = n) : Sl (H ++ objL e cells :: L) (mkL H.length n) cells := Sl.new h
theorem vr0_flatplain {N : Nat} {ρ : List Src} {c : Value} (h : plainV c = true) : vr0 N ρ c c := by
  unfold vr0
  split
  · simp [plainV] at h
  · simp [plainV] at h
  · exact ⟨rfl, h⟩
theorem vr2_plain {N : Nat} {ρ : List Src} {c : Value} (h : plainV c = true) : vr2 N ρ c c := by
  unfold vr2
  split
  · simp [plainV] at h
  · exact vr0_flatplain h
theorem Canon.list {H H' : AH} {e : TypeId} {v : Value} {cells : List Value} (hw : WF H) (hH : H <+: H') (hf : Fresh H' H.length e v cells) (hp : PlainL cells) {rest : List Value} (hr : PlainL rest) :
    ∃ ext ρ, H' = H ++ ext ∧ Canon H ext [objL e cells] ρ ∧ vr3 H.length ρ (packed (mkL H.length cells.length :: rest)) (packed (v :: rest)) := by
  obtain ⟨i, off, g, c, o, h0, rfl, h1, h2, h3, h4, h5, h6, h7⟩ := hf
  obtain ⟨ext, rfl⟩ := hH
  refine ⟨ext, [⟨i, off, g⟩], rfl, ⟨rfl, fun o ho c hc => hw o ho c hc, fun i j s t h1 h2 hne => ?_, fun i s n q1 q2 => ?_⟩, ?_⟩
  · have h3 := (List.getElem?_eq_some_iff.1 h1).1
    have h4 := (List.getElem?_eq_some_iff.1 h2).1
    simp at h3 h4
    omega
  · have q3 := (List.getElem?_eq_some_iff.1 q1).1
    simp at q3
    subst q3
    simp at q1 q2
    subst q1 q2
    refine ⟨h0, o, h1, h2, rfl, h3.symm, h4.symm, rfl, h5, h6, fun j c hc => ⟨c, ?_, vr0_flatplain (hp c (List.mem_of_getElem? hc))⟩⟩
    have hlt := (List.getElem?_eq_some_iff.1 hc).1
    simp only [objL] at hc hlt ⊢
    rw [← h7, List.getElem?_take, if_pos hlt, List.getElem?_drop] at hc
    exact hc
  · have hv : vr2 H.length [⟨i, off, g⟩] (mkL H.length cells.length) (.slice (some ⟨i, off, some g⟩) cells.length c) := by
      unfold mkL vr2 vr0
      refine ⟨rfl, fun h => by omega, .inr ⟨Nat.le_refl _, rfl, ⟨i, off, g⟩, by simp, rfl, rfl, by simp⟩⟩
    cases rest with
    | nil => exact hv
    | cons x r =>
      unfold packed vr3
      simp only [List.toList_toArray]
      exact .cons hv (All2.same fun y hy => vr2_plain (hr y hy))
theorem good_list {H : AH} {e : TypeId} {cells rest : List Value} (hw : WF H) (hp : PlainL cells) (hr : PlainL rest) : Good H (packed (mkL H.length cells.length :: rest)) (H ++ [objL e cells]) := by
  obtain ⟨h1, h2⟩ := hw.push (cells := cells) (e := e) (sz := 1) (fun c hc => R0_plain (hp c hc))
  refine ⟨h1, ?_, by simp⟩
  have hm : R2 (H ++ [objL e cells]).length (mkL H.length cells.length) = true := R2_of0 (by simp [R0, mkL])
  cases rest with
  | nil => exact R3_of2 hm
  | cons x r =>
    simp only [packed, R3, List.all_toArray]
    refine List.all_eq_true.2 fun y hy => ?_
    rcases List.mem_cons.1 hy with rfl | hy
    · exact hm
    · exact R2_of0 (R0_plain (hr y hy))
theorem ACall.list {P : Program} {f : FuncId} {fn : Func} {c : Code} {args : List Value} {H : AH} {rs : List ResultVar} {nt : Nat} {e : TypeId} {cells rest : List Value} (hf : P.funcs[f]? = some fn) (hb : fn.body = some c) (hn : (fn.name == "runtime.NumGoroutine") = false)
    (hr : fn.results.toList = rs) (ht : args.length + (fn.ntmps - args.length) = nt) (hp : PlainL cells) (hrest : PlainL rest)
    (h : WF H → AWp P nt c (fun x env' H' => (x = .normal ∨ x = .ret) ∧ H <+: H' ∧ ∃ v, Fresh H' H.length e v cells ∧ aresults P H' env' rs = some (v :: rest)) (fun t => args[t]?) H) :
    ACall P f args H (packed (mkL H.length cells.length :: rest)) (H ++ [objL e cells]) :=
  ACall.of_body hf hb hn (fun hw _ => good_list hw hp hrest) rfl (fun hw => by
    rw [ht]
    refine (h hw).mono ?_
    rintro x env' H' ⟨he, hpre, v, hfr, hv⟩
    obtain ⟨ext, ρ, h1, h2, h3⟩ := Canon.list hw hpre hfr hp hrest
    exact ⟨he, _, ext, ρ, by rw [hr]; exact hv, h1, h2, h3⟩)
end Go.Proofs.Ytdbflchpbhkanaa.AL
namespace Go.Proofs.Ytdbflchpbhkanaa.AL
open Go Go.RowKit
attribute [local simp] aBin' aBin aBinI aUn aNil flatV
set_option linter.unusedVariables false
set_option linter.unusedSimpArgs false

def idOf : Value → Option Nat
  | .slice (some ⟨i, _, _⟩) _ _ => some i
  | _ => none
def Agree (n : Nat) (H H' : AH) : Prop := ∀ i, i < n → H'[i]? = H[i]?
theorem Agree.refl (n : Nat) (H : AH) : Agree n H H := fun _ _ => rfl
theorem Agree.trans {n m : Nat} {H H' H'' : AH} (h : Agree n H H') (k : Agree m H' H'') (hn : n ≤ m) : Agree n H H'' := fun i hi => (k i (by omega)).trans (h i hi)
theorem Agree.less {n m : Nat} {H H' : AH} (h : Agree m H H') (hn : n ≤ m) : Agree n H H' := fun i hi => h i (by omega)
theorem Agree.pre {H H' : AH} (h : H <+: H') : Agree H.length H H' := fun i hi => by
  obtain ⟨L, rfl⟩ := h
  exact List.getElem?_append_left hi
theorem Agree.app (H L : AH) : Agree H.length H (H ++ L) := Agree.pre ⟨L, rfl⟩
theorem Agree.to_pre {H H' : AH} (h : Agree H.length H H') : H <+: H' := by
  have hl : H.length ≤ H'.length := by
    by_cases h0 : H.length = 0
    · omega
    · have h1 := h (H.length - 1) (by omega)
      rw [List.getElem?_eq_getElem (by omega : H.length - 1 < H.length)] at h1
      have := (List.getElem?_eq_some_iff.1 h1).1
      omega
  refine ⟨H'.drop H.length, ?_⟩
  refine List.ext_getElem? fun i => ?_
  by_cases hi : i < H.length
  · rw [List.getElem?_append_left hi, h i hi]
  · rw [List.getElem?_append_right (by omega), List.getElem?_drop]
    congr 1
    omega
section
variable {P : Program} {G G0 H H' : AH} {v c : Value} {cs cells new : List Value} {t t2 e eo ei : TypeId} {N : Nat}
theorem Sl.id_lt (h : Sl H v cs) {i : Nat} (hi : idOf v = some i) : i < H.length := by
  rcases h with ⟨rfl, _⟩ | ⟨j, off, g, c, o, rfl, h2, _⟩
  · simp [idOf] at hi
  · simp only [idOf, Option.some.injEq] at hi
    subst hi
    exact (List.getElem?_eq_some_iff.1 (alive_some h2).1).1
theorem Sl.at (h : Sl H v cs) (a : ∀ i, idOf v = some i → H'[i]? = H[i]?) : Sl H' v cs := by
  rcases h with h | ⟨i, off, g, c, o, rfl, h2, h3⟩
  · exact .inl h
  · refine .inr ⟨i, off, g, c, o, rfl, ?_, h3⟩
    unfold alive at h2 ⊢
    rw [a i rfl]
    exact h2
theorem Sl.agree (h : Sl H v cs) (a : Agree H.length H H') : Sl H' v cs := h.at fun i hi => a i (h.id_lt hi)
def Own (H : AH) (N : Nat) (e : TypeId) (v : Value) (cs : List Value) : Prop := (v = .slice none 0 0 ∧ cs = []) ∨ Fresh H N e v cs
theorem Own.nil : Own H N e (.slice none 0 0) [] := .inl ⟨rfl, rfl⟩
theorem Own.sl (h : Own H N e v cs) : Sl H v cs := by
  rcases h with h | h
  · exact .inl h
  · exact h.sl
theorem Own.of (h : Fresh H N e v cs) : Own H N e v cs := .inr h
theorem Own.id_lt (h : Own H N e v cs) {i : Nat} (hi : idOf v = some i) : i < H.length ∧ N ≤ i ∧ ∃ o, H[i]? = some o ∧ o.elem = e := by
  refine ⟨h.sl.id_lt hi, ?_⟩
  rcases h with ⟨rfl, _⟩ | ⟨j, off, g, c, o, h0, rfl, h1, h2, h3, _⟩
  · simp [idOf] at hi
  · simp only [idOf, Option.some.injEq] at hi
    subst hi
    exact ⟨h0, o, h1, h3⟩
theorem Fresh.at (h : Fresh H N e v cs) (a : ∀ i, idOf v = some i → H'[i]? = H[i]?) : Fresh H' N e v cs := by
  obtain ⟨i, off, g, c, o, h0, rfl, h1, h2⟩ := h
  exact ⟨i, off, g, c, o, h0, rfl, by rw [a i rfl, h1], h2⟩
theorem Own.at (h : Own H N e v cs) (a : ∀ i, idOf v = some i → H'[i]? = H[i]?) : Own H' N e v cs := by
  rcases h with h | h
  · exact .inl h
  · exact .inr (h.at a)
theorem Own.less {M : Nat} (h : Own H M e v cs) (hn : N ≤ M) : Own H N e v cs := by
  rcases h with h | ⟨i, off, g, c, o, h0, h1⟩
  · exact .inl h
  · exact .inr ⟨i, off, g, c, o, by omega, h1⟩
theorem Own.append {q : EInfo} {s : Value} (h : Own G N e v cells) (hN : N ≤ G.length) (he : elemT P t = some e) (hq : einfo P e = some q) (hq1 : q.size = 1) (hd : srcD P t2 = true) (hs : Sl G s new) (hpos : new ≠ []) (hb : cells.length + new.length ≤ 4294967296) :
    ∃ v' G', aAppend P G t t2 v s = some (v', G') ∧ Fresh G' N e v' (cells ++ new) ∧ G.length ≤ G'.length ∧ (∀ i, i < G.length → idOf v ≠ some i → G'[i]? = G[i]?) ∧ (idOf v' = idOf v ∨ idOf v' = some G.length) := by
  have hsrc : srcOf G 1 s = some (new, new.length) := by
    rcases hs with ⟨rfl, rfl⟩ | ⟨i, off, g, c, o, rfl, h2, h3, h4, _⟩
    · exact absurd rfl hpos
    · simp [srcOf, h2, h4, h3]
  have hpos' : new.length ≠ 0 := by simpa using hpos
  unfold aAppend
  simp only [he, hq, hq1, hd, hsrc, if_true]
  rcases h with ⟨rfl, rfl⟩ | ⟨i, off, g, c, o, h0, rfl, h1, h2, h3, h4, h5, h6, h7⟩
  · simp only [hpos', if_false]
    rw [if_pos (by simp [LIM]; simp at hb; omega)]
    refine ⟨_, _, rfl, ⟨G.length, 0, 0, new.length + 1, _, hN, rfl, by simp [aNew]; rfl, rfl, rfl, rfl, rfl, by simp, by simp⟩, by simp [aNew], fun i hi _ => by simp [aNew, List.getElem?_append_left hi], .inr rfl⟩
  · have hal : alive G i g = some o := by simp [alive, h1, h2]
    simp only [hal, hpos', if_false]
    rw [if_pos ⟨by simpa using h6, by simpa [LIM] using hb⟩]
    split
    · refine ⟨_, _, rfl, ⟨G.length, 0, 0, cells.length + new.length + 1, _, hN, by simp, by simp [aNew]; rfl, rfl, rfl, rfl, rfl, by simp; omega, ?_⟩, by simp [aNew], fun i hi _ => by simp [aNew, List.getElem?_append_left hi], .inr rfl⟩
      simp only [Nat.mul_one, h7]
      exact List.take_of_length_le (by simp)
    · rw [if_pos ⟨h5, h4, h3⟩]
      have hlt := (List.getElem?_eq_some_iff.1 h1).1
      refine ⟨_, _, rfl, ⟨i, 0, g + 1, cells.length + new.length + 1, _, h0, by simp, List.getElem?_set_self hlt, rfl, h3, h4, h5, by simp; omega, ?_⟩, by simp, fun j hj hne => ?_, .inl rfl⟩
      · simp only [Nat.mul_one, h7]
        exact List.take_of_length_le (by simp)
      · rw [List.getElem?_set_ne]
        exact fun e => hne (by simp [idOf, e])
theorem aBuild_one {q : EInfo} {x : Value} (he : elemT P t = some e) (hq : einfo P e = some q) (hq1 : q.size = 1) (hx : isTup x = false) (hc : x.cells = #[x]) :
    aBuildSlice P H t 1 [(0, x)] = some (.slice (some ⟨H.length, 0, some 0⟩) 1 1, H ++ [⟨[x], e, 1, 0, false⟩]) := by
  obtain ⟨qs, qb, qz⟩ := q
  simp only at hq1
  subst hq1
  have hn : noTup [(0, x)] = true := by
    unfold noTup
    simpa using hx
  simp [aBuildSlice, he, hq, hn, fillL, zeros, hc, aNew, List.range_succ]
theorem aBuild_none {q : EInfo} (he : elemT P t = some e) (hq : einfo P e = some q) (hq1 : q.size = 1) :
    aBuildSlice P H t 0 [] = some (.slice (some ⟨H.length, 0, some 0⟩) 0 0, H ++ [⟨[], e, 1, 0, false⟩]) := by
  simp [aBuildSlice, he, hq, hq1, noTup, fillL, zeros, aNew]
theorem Own.push1 {q : EInfo} {x : Value} (h : Own G N e v cells) (hN : N ≤ G.length) (he : elemT P t = some e) (he2 : elemT P t2 = some e) (hq : einfo P e = some q) (hq1 : q.size = 1) (hb : cells.length < 4294967296) :
    ∃ v' G', aAppend P (G ++ [⟨[x], e, 1, 0, false⟩]) t t2 v (.slice (some ⟨G.length, 0, some 0⟩) 1 1) = some (v', G') ∧ Fresh G' N e v' (cells ++ [x]) ∧ G.length ≤ G'.length ∧ (∀ i, i < G.length → idOf v ≠ some i → G'[i]? = G[i]?) ∧ (idOf v' = idOf v ∨ ∃ i, idOf v' = some i ∧ G.length ≤ i) := by
  have hd : srcD P t2 = true := by unfold srcD; rw [elemT_some he2]
  obtain ⟨v', G', h1, h2, h3, h4, h5⟩ := (h.at (H' := G ++ [⟨[x], e, 1, 0, false⟩]) fun i hi => List.getElem?_append_left (h.sl.id_lt hi)).append (new := [x]) (by simp; omega) he hq hq1 hd (s := .slice (some ⟨G.length, 0, some 0⟩) 1 1) (Sl.new (n := 1) rfl) (by simp) (by simp; omega)
  simp at h3
  refine ⟨v', G', h1, h2, by omega, fun i hi hne => ?_, ?_⟩
  · rw [h4 i (by simp; omega) hne, List.getElem?_append_left hi]
  · rcases h5 with h5 | h5
    · exact .inl h5
    · exact .inr ⟨_, h5, by simp⟩
theorem Fresh.store {k : Nat} {x : Value} (h : Fresh G N e v cells) (hs : sizeT P e = some 1) (hk : k < cells.length) (hx : isTup x = false) (hc : x.cells = #[x]) :
    ∃ G', aStore P G e (elP v k) x = some G' ∧ Fresh G' N e v (cells.set k x) ∧ G'.length = G.length ∧ ∀ i, idOf v ≠ some i → G'[i]? = G[i]? := by
  obtain ⟨i, off, g, c, o, h0, rfl, h1, h2, h3, h4, h5, h6, h7⟩ := h
  have hal : alive G i g = some o := by simp [alive, h1, h2]
  have hlt := (List.getElem?_eq_some_iff.1 h1).1
  simp only [elP, aStore, hal, hs, hc]
  rw [if_pos ⟨h5, hx, by simp, by omega⟩]
  refine ⟨_, rfl, ⟨i, off, g, c, _, h0, by simp, List.getElem?_set_self hlt, h2, h3, h4, h5, by simp; omega, ?_⟩, by simp, fun j hne => ?_⟩
  · simp only [List.length_set]
    refine List.ext_getElem? fun j => ?_
    have h8 := fun j : Nat => congrArg (fun l : List Value => l[j]?) h7
    simp only [List.getElem?_take, List.getElem?_drop] at h8
    simp only [List.getElem?_take, List.getElem?_drop, List.getElem?_set]
    by_cases hj : j < cells.length
    · rw [if_pos hj]
      by_cases hjk : k = j
      · subst hjk
        have hm : min (off + k) o.cells.length = off + k := by omega
        rw [List.getElem?_append_left (by simp; omega), List.getElem?_append_right (by simp; omega)]
        simp [hk, hm]
      · rw [if_neg hjk]
        have h9 := h8 j
        rw [if_pos hj] at h9
        rw [← h9]
        by_cases hlo : off + j < off + k
        · rw [List.getElem?_append_left (by simp; omega), List.getElem?_append_left (by simp; omega), List.getElem?_take, if_pos hlo]
        · rw [List.getElem?_append_right (by simp; omega), List.getElem?_drop]
          congr 1
          simp
          omega
    · rw [if_neg hj, if_neg (by omega), List.getElem?_eq_none (by omega)]
  · rw [List.getElem?_set_ne]
    exact fun e => hne (by simp [idOf, e])

def SlSl (H : AH) (v : Value) (F : List (List Value)) : Prop := ∃ C, Sl H v C ∧ C.length = F.length ∧ ∀ (k : Nat) (c : Value) (xs : List Value), C[k]? = some c → F[k]? = some xs → Sl H c xs
theorem SlSl.agree {F : List (List Value)} (h : SlSl H v F) (a : Agree H.length H H') : SlSl H' v F := by
  obtain ⟨C, h1, h2, h3⟩ := h
  exact ⟨C, h1.agree a, h2, fun k c xs hc hx => (h3 k c xs hc hx).agree a⟩
theorem SlSl.nil : SlSl H (.slice none 0 0) [] := ⟨[], .nil, rfl, fun k c xs hc => by simp at hc⟩
def RowsO (H : AH) (N : Nat) (eo ei : TypeId) (v : Value) (F : List (List Value)) : Prop := ∃ C, Own H N eo v C ∧ C.length = F.length ∧ (∀ (k : Nat) (c : Value) (xs : List Value), C[k]? = some c → F[k]? = some xs → Own H N ei c xs) ∧
  ∀ (j k : Nat) (c d : Value) (i : Nat), j < k → C[j]? = some c → C[k]? = some d → idOf c = some i → idOf d ≠ some i
theorem RowsO.nil : RowsO H N eo ei (.slice none 0 0) [] := ⟨[], .nil, rfl, fun k c xs hc => by simp at hc, fun j k c d i _ hc => by simp at hc⟩
theorem RowsO.sl {F : List (List Value)} (h : RowsO H N eo ei v F) : SlSl H v F := by
  obtain ⟨C, h1, h2, h3, _⟩ := h
  exact ⟨C, h1.sl, h2, fun k c xs hc hx => (h3 k c xs hc hx).sl⟩
theorem RowsO.keep {F : List (List Value)} (h : RowsO H N eo ei v F) (a : ∀ i, N ≤ i → i < H.length → H'[i]? = H[i]?) : RowsO H' N eo ei v F := by
  obtain ⟨C, h1, h2, h3, h4⟩ := h
  have key : ∀ {e u cs}, Own H N e u cs → Own H' N e u cs := fun ho => ho.at fun i hi => a i (ho.id_lt hi).2.1 (ho.id_lt hi).1
  exact ⟨C, key h1, h2, fun k c xs hc hx => key (h3 k c xs hc hx), h4⟩
theorem RowsO.agree {F : List (List Value)} (h : RowsO H N eo ei v F) (a : Agree H.length H H') : RowsO H' N eo ei v F := h.keep fun i _ hi => a i hi
theorem get_last {C : List Value} {k : Nat} {c d : Value} (h : (C ++ [c])[k]? = some d) : (k < C.length ∧ C[k]? = some d) ∨ (k = C.length ∧ d = c) := by
  by_cases hk : k < C.length
  · rw [List.getElem?_append_left hk] at h
    exact .inl ⟨hk, h⟩
  · have := (List.getElem?_eq_some_iff.1 h).1
    simp at this
    have : k = C.length := by omega
    subst this
    simp at h
    exact .inr ⟨rfl, h.symm⟩
theorem RowsO.push {q : EInfo} {F : List (List Value)} {xs : List Value} (h : RowsO G0 N eo ei v F) (hne : eo ≠ ei) (hN : N ≤ G0.length) (ha : Agree G0.length G0 G) (hl : G0.length ≤ G.length) (hc : Own G G0.length ei c xs)
    (he : elemT P t = some eo) (he2 : elemT P t2 = some eo) (hq : einfo P eo = some q) (hq1 : q.size = 1) (hb : F.length < 4294967296) :
    ∃ v' G', aAppend P (G ++ [⟨[c], eo, 1, 0, false⟩]) t t2 v (.slice (some ⟨G.length, 0, some 0⟩) 1 1) = some (v', G') ∧ RowsO G' N eo ei v' (F ++ [xs]) ∧ G.length ≤ G'.length ∧ Agree N G G' := by
  obtain ⟨C, p1, h2, p3, h4⟩ := h
  have h1 : Own G N eo v C := p1.at fun i hi => ha i (p1.id_lt hi).1
  have h3 : ∀ (k : Nat) (c : Value) (xs : List Value), C[k]? = some c → F[k]? = some xs → Own G N ei c xs := fun k c xs hc hx => (p3 k c xs hc hx).at fun i hi => ha i ((p3 k c xs hc hx).id_lt hi).1
  obtain ⟨v', G', k1, k2, k3, k4, k5⟩ := h1.push1 (t2 := t2) (x := c) (by omega : N ≤ G.length) he he2 hq hq1 (by omega)
  have inner : ∀ {u cs M}, N ≤ M → Own G M ei u cs → Own G' M ei u cs := fun hM ho => ho.at fun i hi => by
    obtain ⟨i1, i2, o, i3, i4⟩ := ho.id_lt hi
    refine k4 i i1 fun hv => ?_
    obtain ⟨_, _, o', j3, j4⟩ := h1.id_lt hv
    rw [i3] at j3
    cases j3
    exact hne (j4.symm.trans i4)
  refine ⟨v', G', k1, ⟨C ++ [c], .inr k2, by simp [h2], ?_, ?_⟩, k3, fun i hi => k4 i (by omega) fun hv => by have := (h1.id_lt hv).2.1; omega⟩
  · intro k d ys hd hy
    rcases get_last hd with ⟨hk, hd⟩ | ⟨rfl, rfl⟩
    · rw [List.getElem?_append_left (by omega)] at hy
      exact inner (Nat.le_refl _) (h3 k d ys hd hy)
    · rw [h2] at hy
      simp at hy
      subst hy
      exact inner (Nat.le_refl _) (hc.less hN)
  · intro j k d d' i hjk hd hd' hi
    rcases get_last hd' with ⟨hk, hd'⟩ | ⟨rfl, rfl⟩
    · rcases get_last hd with ⟨_, hd⟩ | ⟨rfl, rfl⟩
      · exact h4 j k d d' i hjk hd hd' hi
      · omega
    · rcases get_last hd with ⟨hj, hd⟩ | ⟨rfl, rfl⟩
      · intro hi'
        have q1 := (hc.id_lt hi').2.1
        have q2 := ((p3 j d _ hd (List.getElem?_eq_getElem (by omega : j < F.length))).id_lt hi).1
        omega
      · omega
theorem RowsO.len {F : List (List Value)} (h : RowsO H N eo ei v F) (he : elemT P t = some e) : aLen P H t v = some (.int .i64 F.length) := by
  obtain ⟨C, h1, h2, _⟩ := h
  rw [← h2]
  exact h1.sl.len he
end
end Go.Proofs.Ytdbflchpbhkanaa.AL
namespace Go.Proofs.Ytdbflchpbhkanaa.AL
open Go Go.RowKit
attribute [local simp] aBin' aBin aBinI aUn aNil flatV
set_option linter.unusedVariables false
set_option linter.unusedSimpArgs false
section
variable {P : Program} {G G0 H H' : AH} {v c : Value} {cs cells new : List Value} {t t2 e eo ei : TypeId} {N : Nat}
theorem Fresh.append {q : EInfo} {s : Value} (h : Fresh G N e v cells) (hN : N ≤ G.length) (he : elemT P t = some e) (he2 : elemT P t2 = some e) (hq : einfo P e = some q) (hq1 : q.size = 1) (hs : Sl G s new) (hb : cells.length + new.length ≤ 4294967296) :
    ∃ v' G', aAppend P G t t2 v s = some (v', G') ∧ Fresh G' N e v' (cells ++ new) ∧ G.length ≤ G'.length ∧ (∀ i, i < G.length → idOf v ≠ some i → G'[i]? = G[i]?) := by
  have hd : srcD P t2 = true := by unfold srcD; rw [elemT_some he2]
  by_cases hnew : new = []
  · subst hnew
    have hsrc : srcOf G 1 s = some ([], 0) := by
      rcases hs with ⟨rfl, _⟩ | ⟨i, off, g, c, o, rfl, h2, h3, h4, _⟩
      · rfl
      · simp at h4
        simp [srcOf, h2, h4]
    have h0 := h
    obtain ⟨i, off, g, c, o, _, rfl, h1, h2, _⟩ := h
    have hal : alive G i g = some o := by simp [alive, h1, h2]
    refine ⟨_, G, ?_, by rw [List.append_nil]; exact h0, Nat.le_refl _, fun _ _ _ => rfl⟩
    unfold aAppend
    simp only [he, hq, hq1, hd, hsrc, if_true, hal]
  · obtain ⟨v', G', h1, h2, h3, h4, _⟩ := (Own.of h).append hN he hq hq1 hd hs hnew hb
    exact ⟨v', G', h1, h2, h3, h4⟩
theorem lit_fresh {x : Value} : Fresh (G ++ [⟨[x], e, 1, 0, false⟩]) G.length e (.slice (some ⟨G.length, 0, some 0⟩) 1 1) [x] :=
  ⟨G.length, 0, 0, 1, _, Nat.le_refl _, by simp, by simp; rfl, rfl, rfl, rfl, rfl, by simp, by simp⟩
theorem Sl.cons {q : EInfo} {u x : Value} (h : Sl G u cs) (he : elemT P t = some e) (he2 : elemT P t2 = some e) (hq : einfo P e = some q) (hq1 : q.size = 1) (hb : cs.length < 4294967296) :
    ∃ v' G', aAppend P (G ++ [⟨[x], e, 1, 0, false⟩]) t t2 (.slice (some ⟨G.length, 0, some 0⟩) 1 1) u = some (v', G') ∧ Sl G' v' (x :: cs) ∧ Agree G.length G G' := by
  obtain ⟨v', G', h1, h2, h3, h4⟩ := (lit_fresh (G := G) (e := e) (x := x)).append (by simp) he he2 hq hq1 (h.agree (Agree.app _ _)) (by simp; omega)
  refine ⟨v', G', h1, h2.sl, fun i hi => ?_⟩
  rw [h4 i (by simp; omega) (by simp [idOf]; omega), List.getElem?_append_left hi]
theorem Sl.tail {x : Value} (h : Sl H v (x :: cs)) (he : elemT P t = some e) (hs : sizeT P e = some 1) : ∃ u, aSlice P H t v (some (.int .i64 1)) none none = some u ∧ Sl H u cs := by
  rcases h with ⟨_, h⟩ | ⟨i, off, g, c, o, rfl, h2, h3, h4, h5⟩
  · cases h
  · simp only [aSlice, h2, he, hs, idxV, h5]
    have e1 : (o.cells.drop (off + 1)).take cs.length = cs := by
      have := congrArg (List.drop 1) h3
      simpa [List.drop_take] using this
    have e2 : off + 1 + cs.length ≤ o.cells.length := by simp at h4; omega
    exact ⟨.slice (some ⟨i, off + 1, some g⟩) cs.length (if c = cs.length + 1 then cs.length else cs.length + 1), by simp [hs, h5], .inr ⟨i, off + 1, g, _, o, rfl, h2, e1, e2, h5⟩⟩
theorem SlSl.tup {F : List (List Value)} (h : SlSl H v F) : isTup v = false := by
  obtain ⟨C, h1, _⟩ := h
  exact h1.tup
theorem RowsO.lit {c : Value} {xs : List Value} (hne : eo ≠ ei) (hN : N ≤ G.length) (hc : Own G N ei c xs) : RowsO (G ++ [⟨[c], eo, 1, 0, false⟩]) N eo ei (.slice (some ⟨G.length, 0, some 0⟩) 1 1) [xs] := by
  refine ⟨[c], .inr ⟨G.length, 0, 0, 1, _, hN, by simp, by simp; rfl, rfl, rfl, rfl, rfl, by simp, by simp⟩, rfl, fun k d ys hd hy => ?_, fun j k d d' i hjk hd hd' => ?_⟩
  · cases k with
    | zero =>
      simp at hd hy
      subst hd hy
      exact hc.at fun i hi => List.getElem?_append_left (hc.id_lt hi).1
    | succ k => simp at hd
  · have := (List.getElem?_eq_some_iff.1 hd').1
    simp at this
    omega
end
end Go.Proofs.Ytdbflchpbhkanaa.AL
namespace Go.Proofs.Ytdbflchpbhkanaa.AL
open Go Go.RowKit
attribute [local simp] aBin' aBin aBinI aUn aNil flatV
set_option linter.unusedVariables false
set_option linter.unusedSimpArgs false

structure Rin where
  a : Option Addr
  len : Nat
  cap : Nat
  zs : List Int
  kd : IntKind
def Rin.ok (w : World) (r : Rin) : Prop := match r.a with
  | none => r.len = 0 ∧ r.cap = 0 ∧ r.zs = []
  | some x => x.spot = none ∧ x.block < w.heap.size ∧ r.len ≤ r.cap ∧ r.zs.length = r.cap ∧ ∀ i, i < r.zs.length → w.cell? (x.add i) = some (.int r.kd (r.zs.getD i 0))
def Rin.real (r : Rin) : Value := .slice r.a r.len r.cap
def Rin.abs (r : Rin) (k : Nat) : Value := match r.a with
  | none => .slice none 0 0
  | some _ => .slice (some ⟨k, 0, some 0⟩) r.len (r.len + 1)
def Rin.obj (r : Rin) : AO := match r.a with
  | none => ⟨[], 0, 1, 0, true⟩
  | some _ => ⟨r.zs.map (.int r.kd), 0, 1, 0, true⟩
def Rin.loc (r : Rin) : Option Loc := r.a.map fun x => ⟨x.block, x.off, x.off + r.zs.length, 1, 0, true⟩
def Rin.val (r : Rin) : List Int := r.zs.take r.len
def inH (rs : List Rin) : AH := rs.map Rin.obj
def inB (rs : List Rin) : BM := fun i => (rs[i]?).bind Rin.loc
section
variable {rs : List Rin} {r : Rin} {w : World} {k : Nat}
theorem inB_some {i : Nat} {l : Loc} (h : inB rs i = some l) : ∃ r x, rs[i]? = some r ∧ r.a = some x ∧ l = ⟨x.block, x.off, x.off + r.zs.length, 1, 0, true⟩ := by
  unfold inB Rin.loc at h
  cases hr : rs[i]? with
  | none => simp [hr] at h
  | some r =>
    simp only [hr, Option.bind_some] at h
    cases hx : r.a with
    | none => simp [hx] at h
    | some x => exact ⟨r, x, rfl, hx, by simpa [hx] using h.symm⟩
theorem in_rel (h : ∀ r ∈ rs, r.ok w) : Rel (inB rs) (inH rs) w where
  dom := fun i hi => by
    simp [inH] at hi
    simp [inB, hi]
  loc := fun i l hl => by
    obtain ⟨r, x, h1, h2, rfl⟩ := inB_some hl
    have := h r (List.mem_of_getElem? h1)
    simp only [Rin.ok, h2] at this
    exact this.2.1
  inj := fun i j l m hl hm _ _ => by
    obtain ⟨_, _, _, _, rfl⟩ := inB_some hl
    obtain ⟨_, _, _, _, rfl⟩ := inB_some hm
    exact ⟨⟨rfl, Nat.one_ne_zero⟩, rfl, Nat.one_ne_zero⟩
  obj := fun i o l ho hl => by
    obtain ⟨r, x, h1, h2, rfl⟩ := inB_some hl
    have h3 := h r (List.mem_of_getElem? h1)
    simp only [Rin.ok, h2] at h3
    obtain ⟨hs, hb, hle, hz, hc⟩ := h3
    simp only [inH, List.getElem?_map, h1, Option.map_some, Option.some.injEq, Rin.obj, h2] at ho
    subst ho
    refine ⟨rfl, rfl, rfl, by simp, fun j c hj => ?_, fun hro => by simp at hro⟩
    have hjl : j < r.zs.length := by
      have := (List.getElem?_eq_some_iff.1 hj).1
      simpa using this
    have h4 := hc j hjl
    have hadd : x.add j = ⟨x.block, x.off + j, none⟩ := by
      obtain ⟨b, o, sp⟩ := x
      simp only at hs
      subst hs
      unfold Addr.add
      split
      · rename_i h0; subst h0; rfl
      · rfl
    rw [hadd] at h4
    rw [List.getElem?_map, List.getElem?_eq_getElem hjl] at hj
    cases hj
    refine ⟨_, h4, ?_⟩
    rw [List.getD_eq_getElem?_getD, List.getElem?_eq_getElem hjl]
    exact .one (.plain rfl)
  hid := fun i o ho hs _ _ => by
    obtain ⟨r, _, rfl⟩ := List.mem_map.1 (List.mem_of_getElem? ho)
    unfold Rin.obj at hs
    split at hs <;> cases hs
  mp := fun i o l ho hl hs _ => by
    obtain ⟨r, _, rfl⟩ := List.mem_map.1 (List.mem_of_getElem? ho)
    unfold Rin.obj at hs
    split at hs <;> cases hs
theorem in_wf : WF (inH rs) := fun o ho c hc => by
  obtain ⟨r, _, rfl⟩ := List.mem_map.1 ho
  unfold Rin.obj at hc
  split at hc
  · simp at hc
  · obtain ⟨n, _, rfl⟩ := List.mem_map.1 hc
    rfl
theorem plain_T2 {β : BM} {v : Value} (h : plainV v = true) : T2 β v v := .one (.one (.plain h))
theorem law_calls {P : Program} {f : FuncId} {abs : List Value} {real : Array Value} {b : Bool} {H' : AH} (h : ACall P f abs (inH rs) (.bool b) H') (hok : ∀ r ∈ rs, r.ok w) (hR : ∀ x ∈ abs, R2 (inH rs).length x = true) (hT : All2 (T2 (inB rs)) abs real.toList) :
    Calls P f real w fun e w' => e = .returned (.bool b) ∧ Below w.heap.size w w' := by
  refine (h.calls _ w real (in_rel hok) in_wf hR hT).mono ?_
  rintro e w' ⟨v', β', rfl, R', E, t⟩
  have hv : v' = .bool b := by
    rcases t with ((t | _) | _) | _
    cases t
    rfl
  subst hv
  refine ⟨rfl, E.os, E.tape, E.output, E.size, fun k hk => E.keep k hk fun i l hl _ => ?_⟩
  obtain ⟨_, _, _, _, rfl⟩ := inB_some hl
  exact ⟨rfl, Nat.one_ne_zero⟩
end
end Go.Proofs.Ytdbflchpbhkanaa.AL
namespace Go.Proofs.Ytdbflchpbhkanaa.AL
open Go Go.RowKit
attribute [local simp] aBin' aBin aBinI aUn aNil flatV
set_option linter.unusedVariables false
set_option linter.unusedSimpArgs false
theorem part_put {α : Type} {A C B new : List α} {d k : Nat} (hn : new.length = k) (hd : d + k ≤ C.length) :
    (((A ++ (C ++ B)).take (A.length + d) ++ new ++ (A ++ (C ++ B)).drop (A.length + d + k)).drop A.length).take C.length = C.take d ++ new ++ C.drop (d + k) := by
  subst hn
  have e1 : (A ++ (C ++ B)).take (A.length + d) = A ++ C.take d := by
    rw [List.take_append, List.take_append]
    simp [show d - C.length = 0 by omega]
    exact List.take_of_length_le (by omega)
  have e2 : (A ++ (C ++ B)).drop (A.length + d + new.length) = C.drop (d + new.length) ++ B := by
    rw [Nat.add_assoc, List.drop_append, List.drop_append]
    simp [show d + new.length - C.length = 0 by omega]
  rw [e1, e2, List.append_assoc, List.append_assoc, List.drop_left, ← List.append_assoc, ← List.append_assoc, List.take_left']
  simp
  omega
section
variable {P : Program} {G H : AH} {u v : Value} {cells cs : List Value} {t e : TypeId} {N : Nat}
theorem Fresh.parts (h : Fresh G N e u cells) : ∃ i off g c o A B, N ≤ i ∧ u = .slice (some ⟨i, off, some g⟩) cells.length c ∧ G[i]? = some o ∧ o.gen = g ∧ o.elem = e ∧ o.sz = 1 ∧ o.ro = false ∧ o.cells = A ++ (cells ++ B) ∧ A.length = off := by
  obtain ⟨i, off, g, c, o, h0, rfl, h1, h2, h3, h4, h5, h6, h7⟩ := h
  refine ⟨i, off, g, c, o, o.cells.take off, o.cells.drop (off + cells.length), h0, rfl, h1, h2, h3, h4, h5, ?_, by simp; omega⟩
  have e1 : o.cells.drop off = cells ++ o.cells.drop (off + cells.length) := by
    conv => lhs; rw [← List.take_append_drop cells.length (o.cells.drop off)]
    rw [h7, List.drop_drop]
  rw [← e1, List.take_append_drop]
theorem Fresh.putAt {i off g c : Nat} {o : AO} {A B new : List Value} {d k : Nat} (h0 : N ≤ i) (h1 : G[i]? = some o) (h2 : o.gen = g) (h3 : o.elem = e) (h4 : o.sz = 1) (h5 : o.ro = false) (hc : o.cells = A ++ (cells ++ B)) (hA : A.length = off) (hn : new.length = k) (hd : d + k ≤ cells.length) :
    Fresh (G.set i { o with cells := o.cells.take (off + d) ++ new ++ o.cells.drop (off + d + k) }) N e (.slice (some ⟨i, off, some g⟩) cells.length c) (cells.take d ++ new ++ cells.drop (d + k)) := by
  have hlt := (List.getElem?_eq_some_iff.1 h1).1
  have hl : (cells.take d ++ new ++ cells.drop (d + k)).length = cells.length := by simp; omega
  refine ⟨i, off, g, c, _, h0, by rw [hl], List.getElem?_set_self hlt, h2, h3, h4, h5, ?_, ?_⟩
  · rw [hl]
    simp [hc, hA]
    omega
  · rw [hl]
    subst hA
    simp only [hc]
    exact part_put hn hd
theorem Fresh.fill {d : Nat} (h : Fresh G N e u cells) (he : elemT P t = some e) (hs : sizeT P e = some 1) (hd : d ≤ cells.length) :
    ∃ a b G', aSlice P G t u (some (.int .i64 d)) none none = some a ∧ aSlice P G t u none (some (.int .i64 d)) none = some b ∧ isTup a = false ∧ isTup b = false ∧ aCopy P G t a b = some (.int .i64 (Nat.min d (cells.length - d) : Nat), G') ∧
      Fresh G' N e u (cells.take d ++ cells.take (Nat.min d (cells.length - d)) ++ cells.drop (d + Nat.min d (cells.length - d))) ∧ G'.length = G.length ∧ ∀ i, idOf u ≠ some i → G'[i]? = G[i]? := by
  have h' := h
  obtain ⟨i, off, g, c, o, A, B, h0, rfl, h1, h2, h3, h4, h5, h6, h7⟩ := h.parts
  have ha : alive G i g = some o := by simp [alive, h1, h2]
  have hl : o.cells.length = off + cells.length + B.length := by rw [h6]; simp; omega
  have s1 : aSlice P G t (.slice (some ⟨i, off, some g⟩) cells.length c) (some (.int .i64 d)) none none = some (.slice (some ⟨i, off + d, some g⟩) (cells.length - d) (if c = cells.length then cells.length - d else cells.length - d + 1)) := by
    simp [aSlice, ha, he, hs, idxV, h4, hd]
  have s2 : ∃ c2, aSlice P G t (.slice (some ⟨i, off, some g⟩) cells.length c) none (some (.int .i64 d)) none = some (.slice (some ⟨i, off, some g⟩) d c2) := by
    simp [aSlice, ha, he, hs, idxV, h4, hd]
  obtain ⟨c2, s2⟩ := s2
  have key : ∃ G', aCopy P G t (.slice (some ⟨i, off + d, some g⟩) (cells.length - d) (if c = cells.length then cells.length - d else cells.length - d + 1)) (.slice (some ⟨i, off, some g⟩) d c2) = some (.int .i64 (Nat.min d (cells.length - d) : Nat), G') ∧
      Fresh G' N e (.slice (some ⟨i, off, some g⟩) cells.length c) (cells.take d ++ cells.take (Nat.min d (cells.length - d)) ++ cells.drop (d + Nat.min d (cells.length - d))) ∧ G'.length = G.length ∧ ∀ j, idOf (.slice (some ⟨i, off, some g⟩) cells.length c) ≠ some j → G'[j]? = G[j]? := by
    unfold aCopy
    simp only [he, ha, hs, Nat.mul_one]
    have m1 : Nat.min d (cells.length - d) ≤ d := Nat.min_le_left _ _
    have m2 : Nat.min d (cells.length - d) ≤ cells.length - d := Nat.min_le_right _ _
    generalize Nat.min d (cells.length - d) = k at *
    by_cases hk : k = 0
    · subst hk
      rw [if_pos rfl]
      exact ⟨G, rfl, by simpa using h', rfl, fun _ _ => rfl⟩
    · rw [if_neg hk, if_pos ⟨h5, by omega, by omega⟩]
      have hsrc : (o.cells.drop off).take k = cells.take k := by
        rw [h6, ← h7, List.drop_left, List.take_append_of_le_length (by omega)]
      refine ⟨_, rfl, ?_, by simp, fun j hj => List.getElem?_set_ne fun e => hj (by simp [idOf, e])⟩
      rw [hsrc]
      exact Fresh.putAt (c := c) (d := d) (k := k) (new := cells.take k) h0 h1 h2 h3 h4 h5 h6 h7 (by simp; omega) (by omega)
  obtain ⟨G', k1, k2⟩ := key
  exact ⟨_, _, G', s1, s2, rfl, rfl, k1, k2⟩
end
end Go.Proofs.Ytdbflchpbhkanaa.AL
namespace Go.Proofs.Ytdbflchpbhkanaa.AL
open Go Go.RowKit
attribute [local simp] aBin' aBin aBinI aUn aNil flatV
set_option linter.unusedVariables false
set_option linter.unusedSimpArgs false

theorem Canon.two {H H' : AH} {e : TypeId} {v1 v2 : Value} {c1 c2 : List Value} (hw : WF H) (hH : H <+: H') (hf1 : Fresh H' H.length e v1 c1) (hf2 : Fresh H' H.length e v2 c2) (hd : idOf v1 ≠ idOf v2) (hp1 : PlainL c1) (hp2 : PlainL c2) :
    ∃ ext ρ, H' = H ++ ext ∧ Canon H ext [objL e c1, objL e c2] ρ ∧ vr3 H.length ρ (packed [.agg #[mkL H.length c1.length, mkL (H.length + 1) c2.length]]) (packed [.agg #[v1, v2]]) := by
  obtain ⟨i, off, g, c, o, h0, rfl, h1, h2, h3, h4, h5, h6, h7⟩ := hf1
  obtain ⟨j, off', g', c', o', k0, rfl, k1, k2, k3, k4, k5, k6, k7⟩ := hf2
  have hij : i ≠ j := fun e => hd (by simp [idOf, e])
  obtain ⟨ext, rfl⟩ := hH
  have cell : ∀ {cells : List Value} {o : AO} {off : Nat} {ρ : List Src}, PlainL cells → (o.cells.drop off).take cells.length = cells → ∀ (m : Nat) (x : Value), cells[m]? = some x → ∃ r, o.cells[off + m]? = some r ∧ vr0 H.length ρ x r := by
    intro cells o off ρ hp ht m x hx
    refine ⟨x, ?_, vr0_flatplain (hp x (List.mem_of_getElem? hx))⟩
    have hlt := (List.getElem?_eq_some_iff.1 hx).1
    rw [← ht, List.getElem?_take, if_pos hlt, List.getElem?_drop] at hx
    exact hx
  refine ⟨ext, [⟨i, off, g⟩, ⟨j, off', g'⟩], rfl, ⟨rfl, fun o ho c hc => hw o ho c hc, fun m n s t h1 h2 hne => ?_, fun m s n q1 q2 => ?_⟩, ?_⟩
  · match m, n, h1, h2 with
    | 0, 0, _, _ => exact absurd rfl hne
    | 0, 1, h1, h2 => simp at h1 h2; subst h1 h2; exact hij
    | 1, 0, h1, h2 => simp at h1 h2; subst h1 h2; exact fun e => hij e.symm
    | 1, 1, _, _ => exact absurd rfl hne
    | m + 2, _, h1, _ => simp at h1
    | 0, n + 2, _, h2 => simp at h2
    | 1, n + 2, _, h2 => simp at h2
  · match m, q1, q2 with
    | 0, q1, q2 =>
      simp at q1 q2
      subst q1 q2
      exact ⟨h0, o, h1, h2, rfl, h3.symm, h4.symm, rfl, h5, h6, fun m x hx => cell hp1 h7 m x hx⟩
    | 1, q1, q2 =>
      simp at q1 q2
      subst q1 q2
      exact ⟨k0, o', k1, k2, rfl, k3.symm, k4.symm, rfl, k5, k6, fun m x hx => cell hp2 k7 m x hx⟩
    | m + 2, q1, _ => simp at q1
  · have e1 : vr0 H.length [⟨i, off, g⟩, ⟨j, off', g'⟩] (mkL H.length c1.length) (.slice (some ⟨i, off, some g⟩) c1.length c) := by
      unfold mkL vr0
      exact ⟨rfl, fun h => by omega, .inr ⟨Nat.le_refl _, rfl, ⟨i, off, g⟩, by simp, rfl, rfl, by simp⟩⟩
    have e2 : vr0 H.length [⟨i, off, g⟩, ⟨j, off', g'⟩] (mkL (H.length + 1) c2.length) (.slice (some ⟨j, off', some g'⟩) c2.length c') := by
      unfold mkL vr0
      exact ⟨rfl, fun h => by omega, .inr ⟨Nat.le_succ _, rfl, ⟨j, off', g'⟩, by simp, rfl, rfl, by simp⟩⟩
    exact .cons e1 (.cons e2 .nil)
theorem good_two {H : AH} {e : TypeId} {c1 c2 : List Value} (hw : WF H) (hp1 : PlainL c1) (hp2 : PlainL c2) : Good H (packed [.agg #[mkL H.length c1.length, mkL (H.length + 1) c2.length]]) (H ++ [objL e c1, objL e c2]) := by
  refine ⟨?_, ?_, by simp⟩
  · intro o ho c hc
    simp only [List.mem_append, List.mem_cons, List.not_mem_nil, or_false] at ho
    rcases ho with ho | rfl | rfl
    · exact R0_mono (by simp) (hw o ho c hc)
    · exact R0_plain (hp1 c hc)
    · exact R0_plain (hp2 c hc)
  · simp [packed, R3, R2, R0, mkL]
theorem ACall.two {P : Program} {f : FuncId} {fn : Func} {c : Code} {args : List Value} {H : AH} {rs : List ResultVar} {nt : Nat} {e : TypeId} {c1 c2 : List Value} (hf : P.funcs[f]? = some fn) (hb : fn.body = some c) (hn : (fn.name == "runtime.NumGoroutine") = false)
    (hr : fn.results.toList = rs) (ht : args.length + (fn.ntmps - args.length) = nt) (hp1 : PlainL c1) (hp2 : PlainL c2)
    (h : WF H → AWp P nt c (fun x env' H' => (x = .normal ∨ x = .ret) ∧ H <+: H' ∧ ∃ v1 v2, Fresh H' H.length e v1 c1 ∧ Fresh H' H.length e v2 c2 ∧ idOf v1 ≠ idOf v2 ∧ aresults P H' env' rs = some [.agg #[v1, v2]]) (fun t => args[t]?) H) :
    ACall P f args H (.agg #[mkL H.length c1.length, mkL (H.length + 1) c2.length]) (H ++ [objL e c1, objL e c2]) :=
  ACall.of_body hf hb hn (fun hw _ => good_two hw hp1 hp2) rfl (fun hw => by
    rw [ht]
    refine (h hw).mono ?_
    rintro x env' H' ⟨he, hpre, v1, v2, hf1, hf2, hd, hv⟩
    obtain ⟨ext, ρ, h1, h2, h3⟩ := Canon.two hw hpre hf1 hf2 hd hp1 hp2
    exact ⟨he, _, ext, ρ, by rw [hr]; exact hv, h1, h2, h3⟩)
theorem ACallP.told {P : Program} {f : FuncId} {args : List Value} {H H1 news : AH} {v : Value} {Post : Value → AH → Prop} (h : ACallP P f args H Post) (hgood : WF H → Good H v (H1 ++ news)) (hl : H.length = H1.length)
    (hp : WF H → ∀ u H', Post u H' → ∃ ext ρ, H' = H1 ++ ext ∧ Canon H1 ext news ρ ∧ vr3 H1.length ρ v u) : ACall P f args H v (H1 ++ news) :=
  ⟨h.enters, fun hw _ => hgood hw, fun β w args' R wf hR ha => (h.calls β w args' R wf hR ha).mono fun e w' ⟨u, v', β', H', he, hpost, hg, R', E, t⟩ => by
    obtain ⟨ext, ρ, rfl, C, hv⟩ := hp wf u H' hpost
    obtain ⟨R'', E'⟩ := C.rel R' R hl E
    exact ⟨v', _, he, R'', E', t.renamed R' C hv⟩⟩
def OwnN (H : AH) (N : Nat) (e : TypeId) (v : Value) (cs : List Value) : Prop := Own H N e v cs ∧ (cs = [] → v = .slice none 0 0)
def tellV (N : Nat) (cs : List Value) : Value := if cs = [] then .slice none 0 0 else mkL N cs.length
def tellH (H : AH) (e : TypeId) (cs : List Value) : AH := if cs = [] then H else H ++ [objL e cs]
theorem ACallP.list {P : Program} {f : FuncId} {args : List Value} {H : AH} {e : TypeId} {cs : List Value} (hp : PlainL cs) (h : ACallP P f args H (fun u G => OwnN G H.length e u cs ∧ Agree H.length H G)) : ACall P f args H (tellV H.length cs) (tellH H e cs) := by
  unfold tellV tellH
  by_cases c : cs = []
  · rw [if_pos c, if_pos c]
    have key := ACallP.told (H1 := H) (news := []) (v := .slice none 0 0) h (fun hw => by rw [List.append_nil]; exact ⟨hw, rfl, Nat.le_refl _⟩) rfl (fun hw u G ⟨⟨_, hu⟩, ha⟩ => by
      obtain ⟨L, rfl⟩ := ha.to_pre
      rw [hu c]
      exact ⟨L, [], rfl, Canon.none H L hw, vr3_plain rfl⟩)
    rwa [List.append_nil] at key
  · rw [if_neg c, if_neg c]
    refine ACallP.told (H1 := H) (news := [objL e cs]) h (fun hw => good_list (rest := []) hw hp (fun v hv => by cases hv)) rfl (fun hw u G ⟨⟨ho, _⟩, ha⟩ => ?_)
    have hf : Fresh G H.length e u cs := by
      rcases ho with ⟨_, h0⟩ | hf
      · exact absurd h0 c
      · exact hf
    obtain ⟨ext, ρ, h1, h2, h3⟩ := Canon.list (rest := []) hw ha.to_pre hf hp (fun v hv => by cases hv)
    exact ⟨ext, ρ, h1, h2, h3⟩
end Go.Proofs.Ytdbflchpbhkanaa.AL
namespace Go.Proofs.Ytdbflchpbhkanaa.AL
open Go Go.RowKit
attribute [local simp] aBin' aBin aBinI aUn aNil flatV
set_option linter.unusedVariables false
set_option linter.unusedSimpArgs false

end Go.Proofs.Ytdbflchpbhkanaa.AL
namespace Go.Proofs.Ytdbflchpbhkanaa.AL
open Go Go.RowKit
attribute [local simp] aBin' aBin aBinI aUn aNil flatV
set_option linter.unusedVariables false
set_option linter.unusedSimpArgs false

def DWp (P : Program) (nt : Nat) (c : Code) (Q : Exit → Env → AH → Prop) (env : Env) (H : AH) : Prop :=
  ∃ x env' H', AWp P nt c (fun y e G => y = x ∧ e = env' ∧ G = H') env H ∧ (WF H → ER H.length env → WF H' ∧ ER H'.length env' ∧ H.length ≤ H'.length) ∧ Q x env' H'
section
variable {P : Program} {nt : Nat} {env : Env} {H : AH} {Q : Exit → Env → AH → Prop}
theorem DWp.mono {c : Code} {Q' : Exit → Env → AH → Prop} (h : DWp P nt c Q env H) (hq : ∀ x e H, Q x e H → Q' x e H) : DWp P nt c Q' env H := by
  obtain ⟨x, e, G, a, g, q⟩ := h
  exact ⟨x, e, G, a, g, hq _ _ _ q⟩
theorem DWp.skip (h : Q .normal env H) : DWp P nt .skip Q env H := ⟨_, _, _, AWp.skip ⟨rfl, rfl, rfl⟩, fun a b => ⟨a, b, Nat.le_refl _⟩, h⟩
theorem DWp.label {l : Nat} (h : Q .normal env H) : DWp P nt (.label l) Q env H := ⟨_, _, _, AWp.label ⟨rfl, rfl, rfl⟩, fun a b => ⟨a, b, Nat.le_refl _⟩, h⟩
theorem DWp.exit {id : Nat} (h : Q (.exit id) env H) : DWp P nt (.exit id) Q env H := ⟨_, _, _, AWp.exit ⟨rfl, rfl, rfl⟩, fun a b => ⟨a, b, Nat.le_refl _⟩, h⟩
theorem DWp.ret (h : Q .ret env H) : DWp P nt .ret Q env H := ⟨_, _, _, AWp.ret ⟨rfl, rfl, rfl⟩, fun a b => ⟨a, b, Nat.le_refl _⟩, h⟩
theorem DWp.seq {x y : Code} (h : DWp P nt x (andThen (DWp P nt y Q) Q) env H) : DWp P nt (.seq x y) Q env H := by
  obtain ⟨e, env1, H1, a1, g1, q⟩ := h
  cases e with
  | normal =>
    obtain ⟨e2, env2, H2, a2, g2, q2⟩ := q
    refine ⟨e2, env2, H2, AWp.seq (a1.mono ?_), fun a b => ?_, q2⟩
    · rintro z e G ⟨rfl, rfl, rfl⟩
      exact a2
    · obtain ⟨w1, r1, l1⟩ := g1 a b
      obtain ⟨w2, r2, l2⟩ := g2 w1 r1
      exact ⟨w2, r2, Nat.le_trans l1 l2⟩
  | _ =>
    refine ⟨_, env1, H1, AWp.seq (a1.mono ?_), g1, q⟩
    rintro z e G ⟨rfl, rfl, rfl⟩
    exact ⟨rfl, rfl, rfl⟩
theorem DWp.cond {c : Operand} {x y : Code} {t : Bool} (hc : aev env c = some (.bool t)) (h : DWp P nt (if t then x else y) Q env H) : DWp P nt (.cond c x y) Q env H := by
  obtain ⟨e, env1, H1, a1, g1, q⟩ := h
  exact ⟨e, env1, H1, AWp.cond hc a1, g1, q⟩
theorem DWp.ct {c : Operand} {x y : Code} (hc : aev env c = some (.bool true)) (h : DWp P nt x Q env H) : DWp P nt (.cond c x y) Q env H := DWp.cond hc (by simpa using h)
theorem DWp.cf {c : Operand} {x y : Code} (hc : aev env c = some (.bool false)) (h : DWp P nt y Q env H) : DWp P nt (.cond c x y) Q env H := DWp.cond hc (by simpa using h)
def leaves (id : Nat) (Q : Exit → Env → AH → Prop) : Exit → Env → AH → Prop
  | .exit id', e, H => if id' = id then Q .normal e H else Q (.exit id') e H
  | x, e, H => Q x e H
theorem DWp.block {id : Nat} {c : Code} (h : DWp P nt c (leaves id Q) env H) : DWp P nt (.block id c) Q env H := by
  obtain ⟨e, env1, H1, a1, g1, q⟩ := h
  cases e with
  | exit id' =>
    by_cases hid : id' = id
    · simp only [leaves, hid, if_true] at q
      refine ⟨.normal, env1, H1, AWp.block (a1.mono ?_), g1, q⟩
      rintro z e G ⟨rfl, rfl, rfl⟩
      simp [hid]
    · simp only [leaves, hid, if_false] at q
      refine ⟨.exit id', env1, H1, AWp.block (a1.mono ?_), g1, q⟩
      rintro z e G ⟨rfl, rfl, rfl⟩
      simp [hid]
  | _ =>
    refine ⟨_, env1, H1, AWp.block (a1.mono ?_), g1, q⟩
    rintro z e G ⟨rfl, rfl, rfl⟩
    exact ⟨rfl, rfl, rfl⟩
inductive DRun (P : Program) (nt : Nat) (c : Code) (x : Exit) (env2 : Env) (H2 : AH) : Nat → Env → AH → Prop
  | stop {e0 : Env} {G0 : AH} : x ≠ .normal → AWp P nt c (fun y e G => y = x ∧ e = env2 ∧ G = H2) e0 G0 → DRun P nt c x env2 H2 0 e0 G0
  | step {n : Nat} {e0 : Env} {G0 : AH} {env1 : Env} {H1 : AH} : AWp P nt c (fun y e G => y = .normal ∧ e = env1 ∧ G = H1) e0 G0 → DRun P nt c x env2 H2 n env1 H1 → DRun P nt c x env2 H2 (n + 1) e0 G0
theorem DWp.loop {c : Code} (I : Nat → Env → AH → Prop) (n : Nat) (h0 : I n env H)
    (round : ∀ n env H, I n env H → DWp P nt c (andThen (fun env' H' => ∃ m, m < n ∧ I m env' H') Q) env H) : DWp P nt (.loop c) Q env H := by
  have key : ∀ n env H, I n env H → ∃ x env' H' k, DRun P nt c x env' H' k env H ∧ (WF H → ER H.length env → WF H' ∧ ER H'.length env' ∧ H.length ≤ H'.length) ∧ Q x env' H' := by
    intro n
    induction n using Nat.strongRecOn with
    | _ n ih =>
      intro env H hI
      obtain ⟨x, env1, H1, a1, g1, q⟩ := round n env H hI
      cases x with
      | normal =>
        obtain ⟨m, hm, hI'⟩ := q
        obtain ⟨x2, env2, H2, k, r, g2, q2⟩ := ih m hm env1 H1 hI'
        refine ⟨x2, env2, H2, k + 1, .step a1 r, fun a b => ?_, q2⟩
        obtain ⟨w1, r1, l1⟩ := g1 a b
        obtain ⟨w2, r2, l2⟩ := g2 w1 r1
        exact ⟨w2, r2, Nat.le_trans l1 l2⟩
      | _ => exact ⟨_, env1, H1, 0, .stop (by simp) a1, g1, q⟩
  obtain ⟨x, env', H', k, r, g, q⟩ := key n env H h0
  refine ⟨x, env', H', AWp.loop (fun n e G => DRun P nt c x env' H' n e G) k r ?_, g, q⟩
  intro n e G r
  cases r with
  | stop hx a =>
    refine a.mono ?_
    rintro y e G ⟨rfl, rfl, rfl⟩
    cases y with
    | normal => exact absurd rfl hx
    | _ => exact ⟨rfl, rfl, rfl⟩
  | step a r =>
    refine a.mono ?_
    rintro y e G ⟨rfl, rfl, rfl⟩
    exact ⟨_, Nat.lt_succ_self _, r⟩

theorem arunD_det {ops : Array Oper} {k : Nat} {K : Env → AH → Prop} : ∀ (l : List Oper) (i : Nat) (env : Env) (H : AH), ARunD P nt ops k K i l env H →
    ∃ env' H', ARunD P nt ops k (fun e G => e = env' ∧ G = H') i l env H ∧ (WF H → ER H.length env → WF H' ∧ ER H'.length env' ∧ H.length ≤ H'.length) ∧ K env' H'
  | [], i, env, H, h => ⟨env, H, ⟨rfl, rfl⟩, fun a b => ⟨a, b, Nat.le_refl _⟩, h⟩
  | o :: r, i, env, H, h => by
    unfold ARunD at h
    split at h
    case isFalse => exact h.elim
    rename_i hok
    by_cases hw : Region.wanted o (ayield ops env) = true
    · rw [if_pos hw] at h
      have go : ∃ v H1, OpRes P env H o v H1 ∧ (i < k → H <+: H1) ∧ ARunD P nt ops k K (i + 1) r (aput env o.dst v) H1 := by
        unfold AStepD at h
        split at h
        · rename_i v H1 e
          exact ⟨v, H1, .inl e, h.1, h.2⟩
        · rename_i f args e
          obtain ⟨v, H1, hc, h1, h2⟩ := h
          exact ⟨v, H1, .inr ⟨f, args, e, hc⟩, h1, h2⟩
        · exact h.elim
      obtain ⟨v, H1, hr, hp, hrest⟩ := go
      obtain ⟨env', H', h1, h2, h3⟩ := arunD_det r (i + 1) _ H1 hrest
      refine ⟨env', H', ?_, fun a b => ?_, h3⟩
      · unfold ARunD
        rw [if_pos hok, if_pos hw]
        unfold AStepD
        rcases hr with e | ⟨f, args, e, hc⟩
        · rw [e]; exact ⟨hp, h1⟩
        · rw [e]; exact ⟨v, H1, hc, hp, h1⟩
      · obtain ⟨g1, g2, g3⟩ := hr.good a b
        obtain ⟨w2, r2, l2⟩ := h2 g1 ((b.mono g3).put g2 _)
        exact ⟨w2, r2, Nat.le_trans g3 l2⟩
    · rw [if_neg hw] at h
      obtain ⟨env', H', h1, h2, h3⟩ := arunD_det r (i + 1) _ H h
      refine ⟨env', H', ?_, fun a b => h2 a (b.put R3_undef _), h3⟩
      unfold ARunD
      rw [if_pos hok, if_neg hw]
      exact h1
theorem arunD_run {ops : Array Oper} {k : Nat} {K : Env → AH → Prop} : ∀ (l : List Oper) (i : Nat) (env : Env) (H : AH), ARunD P nt ops k K i l env H → ARun P nt ops K l env H
  | [], i, env, H, h => h
  | o :: r, i, env, H, h => by
    unfold ARunD at h
    unfold ARun
    split at h
    case isFalse => exact h.elim
    rename_i hok
    rw [if_pos hok]
    split at h
    · rename_i hw
      rw [if_pos hw]
      unfold AStepD at h
      unfold AStep
      split at h
      · exact arunD_run r _ _ _ h.2
      · obtain ⟨v, H1, hc, h1, h2⟩ := h
        exact CallK.det hc (arunD_run r _ _ _ h2)
      · exact h.elim
    · rename_i hw
      rw [if_neg hw]
      exact arunD_run r _ _ _ h
theorem DWp.region {id : Nat} {ops : Array Oper} (h : ∀ K : Env → AH → Prop, (∀ env H, Q .normal env H → K env H) → ARunD P nt ops 0 K 0 ops.toList env H) : DWp P nt (.region id ops false) Q env H := by
  obtain ⟨env', H', h1, h2, h3⟩ := arunD_det _ _ _ _ (h _ fun _ _ h => h)
  refine ⟨.normal, env', H', AWp.region ?_, h2, h3⟩
  have := arunD_run _ _ _ _ h1
  simpa using this
theorem DWp.drawn {id : Nat} {ops : Array Oper} {B : List Nat} (k : Nat) (hm : P.follows .mixedOrders = true) (hc : chk ops B k = true) (hk : k ≤ ops.size) (h : ∀ K : Env → AH → Prop, (∀ env H, Q .normal env H → K env H) → ARunD P nt ops k K 0 ops.toList env H) : DWp P nt (.region id ops true) Q env H := by
  obtain ⟨env', H', h1, h2, h3⟩ := arunD_det _ _ _ _ (h _ fun _ _ h => h)
  refine ⟨.normal, env', H', AWp.drawn hm hc hk ?_, h2, h3⟩
  simpa using h1
end

def ACallT (P : Program) (f : FuncId) (args : List Value) (H : AH) (Post : Value → AH → Prop) : Prop := ∃ v H', ACall P f args H v H' ∧ Post v H'
theorem ACallT.mono {P : Program} {f : FuncId} {args : List Value} {H : AH} {Post Post' : Value → AH → Prop} (h : ACallT P f args H Post) (hq : ∀ v H', Post v H' → Post' v H') : ACallT P f args H Post' := by
  obtain ⟨v, G, c, q⟩ := h
  exact ⟨v, G, c, hq _ _ q⟩
theorem ACall.t {P : Program} {f : FuncId} {args : List Value} {H H' : AH} {v : Value} (h : ACall P f args H v H') : ACallT P f args H (fun u G => u = v ∧ G = H') := ⟨v, H', h, rfl, rfl⟩
theorem CallD.t {P : Program} {f : FuncId} {args : List Value} {H : AH} {K Post : Value → AH → Prop} (h : ACallT P f args H Post) (hk : ∀ v H', Post v H' → K v H') : CallD P f args H K := by
  obtain ⟨v, G, c, q⟩ := h
  exact ⟨v, G, c, hk _ _ q⟩
theorem ACallT.of_body {P : Program} {f : FuncId} {fn : Func} {c : Code} {args : List Value} {H : AH} {rs : List ResultVar} {nt : Nat} {Post : Value → AH → Prop} (hf : P.funcs[f]? = some fn) (hb : fn.body = some c) (hn : (fn.name == "runtime.NumGoroutine") = false)
    (hr : fn.results.toList = rs) (ht : args.length + (fn.ntmps - args.length) = nt)
    (h : DWp P nt c (fun e env' H' => (e = .normal ∨ e = .ret) ∧ ∃ vs, aresults P H' env' rs = some vs ∧ Post (packed vs) H') (fun t => args[t]?) H) : ACallT P f args H Post := by
  obtain ⟨x, env', H', a, g, he, vs, hv, hp⟩ := h
  have key : ACallP P f args H (fun u G => u = packed vs ∧ G = H') := ACallP.of_body hf hb hn hr ht fun _ _ => a.mono (by
    rintro y e G ⟨rfl, rfl, rfl⟩
    exact ⟨he, vs, hv, rfl, rfl⟩)
  refine ⟨packed vs, H', ⟨key.enters, fun wf hR => ?_, fun β w args' R wf hR ha => ?_⟩, hp⟩
  · obtain ⟨w1, r1, l1⟩ := g wf (fun t v hv => R3_of2 (hR v (List.mem_of_getElem? hv)))
    exact ⟨w1, results_R w1 r1 hv, l1⟩
  · refine (key.calls β w args' R wf hR ha).mono ?_
    rintro e w' ⟨v, v', β', G, rfl, ⟨rfl, rfl⟩, hg, R', E, t⟩
    exact ⟨v', β', rfl, R', E, t⟩
end Go.Proofs.Ytdbflchpbhkanaa.AL

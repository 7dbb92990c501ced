/- AL, part 11: a function's contract out of its body; what it made is told anew, in order, and what it dropped is forgotten. No condition. -/
import Derived.Test.YtbckijeffiofdaaAL10
namespace Go.Proofs.Ytbckijeffiofdaa.AL
open Go Go.RowKit
set_option linter.unusedVariables false
set_option linter.unusedSimpArgs false

/-- Where a new object came from: its old number, how many cells were left out in front, its old generation. -/
structure Src where
  i : Nat
  d : Nat
  g : Nat
/-- One cell told anew (c) of what it was (r). -/
def vr0 (N : Nat) (ρ : List Src) : Value → Value → Prop
  | .slice (some ⟨i, off, some gc⟩) n cc, .slice (some ⟨r, off', some g⟩) n' cr => n = n' ∧ (cc = n → cr = n') ∧ ((i < N ∧ r = i ∧ off' = off ∧ g = gc) ∨ (N ≤ i ∧ gc = 0 ∧ ∃ s, ρ[i - N]? = some s ∧ r = s.i ∧ g = s.g ∧ off' = s.d + off))
  | .pointer (some ⟨i, off, some gc⟩), .pointer (some ⟨r, off', some g⟩) => (i < N ∧ r = i ∧ off' = off ∧ g = gc) ∨ (N ≤ i ∧ gc = 0 ∧ ∃ s, ρ[i - N]? = some s ∧ r = s.i ∧ g = s.g ∧ off' = s.d + off)
  | c, r => c = r ∧ plainV c = true
def vr2 (N : Nat) (ρ : List Src) : Value → Value → Prop
  | .agg cs, .agg rs => All2 (vr0 N ρ) cs.toList rs.toList
  | c, r => vr0 N ρ c r
def vr3 (N : Nat) (ρ : List Src) : Value → Value → Prop
  | .tuple cs, .tuple rs => All2 (vr2 N ρ) cs.toList rs.toList
  | c, r => vr2 N ρ c r
def rename (N : Nat) (ρ : List Src) (β : BM) : BM := fun i => if i < N then β i else match ρ[i - N]? with
  | some s => (β s.i).map fun l => { l with base := l.base + s.d, gen := 0 }
  | none => none
/-- The heap told anew (H1 with news behind it) of the heap that it was (H1 with ext behind it). -/
structure Canon (H1 ext news : AH) (ρ : List Src) : Prop where
  len : ρ.length = news.length
  old : ∀ o ∈ H1, ∀ c ∈ o.cells, R0 H1.length c = true
  dist : ∀ (j k : Nat) (s t : Src), ρ[j]? = some s → ρ[k]? = some t → j ≠ k → s.i ≠ t.i
  obj : ∀ (k : Nat) (s : Src) (n : AO), ρ[k]? = some s → news[k]? = some n → H1.length ≤ s.i ∧ ∃ o : AO, (H1 ++ ext)[s.i]? = some o ∧ o.gen = s.g ∧ n.gen = 0 ∧ n.elem = o.elem ∧ n.sz = o.sz ∧ n.ro = false ∧ o.ro = false ∧ s.d + n.cells.length ≤ o.cells.length ∧
    ∀ (j : Nat) (c : Value), n.cells[j]? = some c → ∃ r, o.cells[s.d + j]? = some r ∧ vr0 H1.length ρ c r
section
variable {β β' : BM} {H H1 ext news : AH} {w w' : World} {ρ : List Src}
theorem rename_old {N i : Nat} (h : i < N) : rename N ρ β i = β i := by simp [rename, h]
theorem rename_new {N i : Nat} (h : N ≤ i) {s : Src} {l : Loc} (hs : ρ[i - N]? = some s) (hl : β s.i = some l) : rename N ρ β i = some { l with base := l.base + s.d, gen := 0 } := by
  simp [rename, Nat.not_lt.2 h, hs, hl]
theorem T0.renamed {N : Nat} {c r v : Value} (R : Rel β (H1 ++ ext) w) (C : Canon H1 ext news ρ) (hN : H1.length = N) (h : vr0 N ρ c r) (t : T0 β r v) (hk : ∀ (k : Nat) (s : Src), ρ[k]? = some s → ∃ o : AO, (H1 ++ ext)[s.i]? = some o ∧ o.gen = s.g) : T0 (rename N ρ β) c v := by
  unfold vr0 at h
  split at h
  · rename_i i off gc n cc r off' g n' cr
    obtain ⟨rfl, hc, h⟩ := h
    rcases h with ⟨hi, rfl, rfl, rfl⟩ | ⟨hi, rfl, s, hs, rfl, rfl, rfl⟩
    · cases t with
      | plain hp => simp [plainV] at hp
      | sl hl hg hn hcc ha => exact .sl ((rename_old hi).trans hl) hg hn (fun e => hcc (hc e)) ha
      | slOld hl hg => exact .slOld ((rename_old hi).trans hl) hg
    · obtain ⟨o, ho, hog⟩ := hk _ s hs
      cases t with
      | plain hp => simp [plainV] at hp
      | sl hl hg hn hcc ha =>
        refine .sl (rename_new hi hs hl) rfl hn (fun e => hcc (hc e)) ?_
        rcases ha with h0 | ⟨rfl, hf⟩
        · exact .inl h0
        · exact .inr ⟨by simp [Nat.add_assoc], by simp only; omega⟩
      | slOld hl hg =>
        have := (R.obj _ _ _ ho hl).1
        omega
  · rename_i i off gc r off' g
    rcases h with ⟨hi, rfl, rfl, rfl⟩ | ⟨hi, rfl, s, hs, rfl, rfl, rfl⟩
    · cases t with
      | plain hp => simp [plainV] at hp
      | ptr hl hg => exact .ptr ((rename_old hi).trans hl) hg
      | ptrOld hl hg => exact .ptrOld ((rename_old hi).trans hl) hg
    · obtain ⟨o, ho, hog⟩ := hk _ s hs
      cases t with
      | plain hp => simp [plainV] at hp
      | ptr hl hg =>
        have := T0.ptr (off := off) (rename_new hi hs hl) rfl
        simpa [Nat.add_assoc] using this
      | ptrOld hl hg =>
        have := (R.obj _ _ _ ho hl).1
        omega
  · obtain ⟨rfl, hp⟩ := h
    have := t.of_plain hp
    subst this
    exact .plain hp
theorem vr0_flat {N : Nat} {c r : Value} (h : vr0 N ρ c r) : isRow r = false ∧ isTup r = false ∧ flatV r = true := by
  unfold vr0 at h
  split at h
  · exact ⟨rfl, rfl, rfl⟩
  · exact ⟨rfl, rfl, rfl⟩
  · obtain ⟨rfl, hp⟩ := h
    cases c with
    | agg _ => simp [plainV] at hp
    | tuple _ => simp [plainV] at hp
    | pointer a => cases a <;> exact ⟨rfl, rfl, by simp [flatV, plainV]⟩
    | slice a _ _ => cases a <;> exact ⟨rfl, rfl, by simp_all [flatV, plainV]⟩
    | _ => exact ⟨rfl, rfl, by simpa [flatV] using hp⟩
theorem T1.renamed {N : Nat} {c r v : Value} (R : Rel β (H1 ++ ext) w) (C : Canon H1 ext news ρ) (hN : H1.length = N) (h : vr0 N ρ c r) (t : T1 β r v) (hk : ∀ (k : Nat) (s : Src), ρ[k]? = some s → ∃ o : AO, (H1 ++ ext)[s.i]? = some o ∧ o.gen = s.g) : T1 (rename N ρ β) c v :=
  .one (T0.renamed R C hN h ((T3.one (.one t)).flat (vr0_flat h).2.2) hk)
theorem Canon.src (C : Canon H1 ext news ρ) : ∀ (k : Nat) (s : Src), ρ[k]? = some s → ∃ o : AO, (H1 ++ ext)[s.i]? = some o ∧ o.gen = s.g := fun k s hs => by
  have hk := (List.getElem?_eq_some_iff.1 hs).1
  obtain ⟨_, o, ho, hg, _⟩ := C.obj k s _ hs (List.getElem?_eq_getElem (by rw [← C.len]; exact hk))
  exact ⟨o, ho, hg⟩
theorem T2.renamed {c r v : Value} (R : Rel β (H1 ++ ext) w) (C : Canon H1 ext news ρ) (h : vr2 H1.length ρ c r) (t : T2 β r v) : T2 (rename H1.length ρ β) c v := by
  unfold vr2 at h
  split at h
  · rename_i cs rs
    obtain ⟨vs, rfl, hv⟩ := (T3.one t).agg
    have : All2 (T1 (rename H1.length ρ β)) cs.toList vs.toList := by
      refine All2.of_get (h.length.trans hv.length) fun i x y hx hy => ?_
      obtain ⟨r, hr, hq⟩ := h.get i x hx
      obtain ⟨y', hy', ht⟩ := hv.get i r hr
      rw [hy] at hy'
      cases hy'
      exact T1.renamed R C rfl hq ht C.src
    have := T2.agg this
    simpa using this
  · have := (vr0_flat h)
    exact .one (T1.renamed R C rfl h (t.one' this.1) C.src)
theorem T3.renamed {c r v : Value} (R : Rel β (H1 ++ ext) w) (C : Canon H1 ext news ρ) (h : vr3 H1.length ρ c r) (t : T3 β r v) : T3 (rename H1.length ρ β) c v := by
  unfold vr3 at h
  split at h
  · rename_i cs rs
    obtain ⟨vs, rfl, hv⟩ := t.tuple
    have : All2 (T2 (rename H1.length ρ β)) cs.toList vs.toList := by
      refine All2.of_get (h.length.trans hv.length) fun i x y hx hy => ?_
      obtain ⟨r, hr, hq⟩ := h.get i x hx
      obtain ⟨y', hy', ht⟩ := hv.get i r hr
      rw [hy] at hy'
      cases hy'
      exact T2.renamed R C hq ht
    have := T3.tup this
    simpa using this
  · refine .one (T2.renamed R C h (t.two ?_))
    unfold vr2 at h
    split at h
    · rfl
    · exact (vr0_flat h).2.1
theorem Canon.rel (R : Rel β' (H1 ++ ext) w') (R0 : Rel β H w) (hl : H.length = H1.length) (C : Canon H1 ext news ρ) (E : Ext H.length β w β' w') :
    Rel (rename H1.length ρ β') (H1 ++ news) w' ∧ Ext H.length β w (rename H1.length ρ β') w' := by
  have hsrc := C.src
  refine ⟨⟨fun i hi => ?_, fun i l h => ?_, fun i j l m hi hj hne he => ?_, fun i o l ho hlc => ?_⟩, ⟨E.os, E.tape, E.output, E.size, E.keep, fun i l h => ?_, fun i hi hn => ?_, fun i l' h => ?_⟩⟩
  · rw [List.length_append] at hi
    have : ρ[i - H1.length]? = none := List.getElem?_eq_none (by rw [C.len]; omega)
    simp [rename, Nat.not_lt.2 (show H1.length ≤ i by omega), this]
  · unfold rename at h
    split at h
    · exact R.loc i l h
    · split at h
      · obtain ⟨m, hm, rfl⟩ := Option.map_eq_some_iff.1 h
        exact R.loc _ m hm
      · cases h
  · have get : ∀ {i : Nat} {l : Loc}, rename H1.length ρ β' i = some l → ∃ q m, β' q = some m ∧ m.b = l.b ∧ m.ro = l.ro ∧ ((i < H1.length ∧ q = i) ∨ (H1.length ≤ i ∧ H1.length ≤ q ∧ ∃ s, ρ[i - H1.length]? = some s ∧ s.i = q)) := by
      intro i l h
      unfold rename at h
      split at h
      · exact ⟨i, l, h, rfl, rfl, .inl ⟨by assumption, rfl⟩⟩
      · split at h
        · rename_i s hs
          obtain ⟨m, hm, rfl⟩ := Option.map_eq_some_iff.1 h
          have hk := (List.getElem?_eq_some_iff.1 hs).1
          have hge := (C.obj _ s _ hs (List.getElem?_eq_getElem (by rw [← C.len]; exact hk))).1
          exact ⟨s.i, m, hm, rfl, rfl, .inr ⟨by omega, hge, s, hs, rfl⟩⟩
        · cases h
    obtain ⟨qi, mi, h1, h2, h3, h4⟩ := get hi
    obtain ⟨qj, mj, k1, k2, k3, k4⟩ := get hj
    have hq : qi ≠ qj := by
      rcases h4 with ⟨a, rfl⟩ | ⟨a, b, s, hs, rfl⟩ <;> rcases k4 with ⟨c, rfl⟩ | ⟨c, d, t, ht, rfl⟩
      · exact hne
      · omega
      · omega
      · exact C.dist _ _ s t hs ht (by omega)
    rw [← h3, ← k3]
    exact R.inj qi qj mi mj h1 k1 hq (by rw [h2, k2]; exact he)
  · by_cases hi : i < H1.length
    · rw [rename_old hi] at hlc
      rw [List.getElem?_append_left hi] at ho
      obtain ⟨g1, g2, g3, g4, g5, g6⟩ := R.obj i o l (by rw [List.getElem?_append_left hi]; exact ho) hlc
      refine ⟨g1, g2, g3, g4, fun j c hc => ?_, g6⟩
      obtain ⟨v, hv, t⟩ := g5 j c hc
      refine ⟨v, hv, ?_⟩
      have hr := C.old o (List.mem_of_getElem? ho) c (List.mem_of_getElem? hc)
      -- an old cell refers to old objects alone
      have t0 : ∀ {c v : Value}, T0 β' c v → R0' H1.length c → T0 (rename H1.length ρ β') c v := by
        intro c v t hr
        cases t with
        | plain hp => exact .plain hp
        | ptr h hg => exact .ptr ((rename_old hr).trans h) hg
        | ptrOld h hg => exact .ptrOld ((rename_old hr).trans h) hg
        | sl h hg hn hcc ha => exact .sl ((rename_old hr).trans h) hg hn hcc ha
        | slOld h hg => exact .slOld ((rename_old hr).trans h) hg
      cases t with
      | one t => exact .one (t0 t (R0'_of hr))
      | fn t =>
        refine .fn ?_
        refine All2.of_get t.length fun k x y hx hy => ?_
        obtain ⟨y', hy', t1⟩ := t.get k x hx
        rw [hy] at hy'
        cases hy'
        refine t0 t1 ?_
        simp only [AL.R0, List.all_toArray] at hr
        have := List.all_eq_true.1 hr x (List.mem_of_getElem? hx)
        cases t1 with
        | plain hp => exact R0'_plain hp
        | ptr => simpa [R0', R00] using this
        | ptrOld => simpa [R0', R00] using this
        | sl => simpa [R0', R00] using this
        | slOld => simpa [R0', R00] using this
    · have hge : H1.length ≤ i := by omega
      rw [List.getElem?_append_right hge] at ho
      unfold rename at hlc
      rw [if_neg hi] at hlc
      split at hlc
      · rename_i s hs
        obtain ⟨m, hm, rfl⟩ := Option.map_eq_some_iff.1 hlc
        obtain ⟨k1, q, hq, k2, k3, k4, k5, k6, k7, k8, k9⟩ := C.obj _ s o hs ho
        obtain ⟨g1, g2, g3, g4, g5, g6⟩ := R.obj s.i q m hq hm
        refine ⟨k3.symm, g2.trans k5.symm, g3.trans (k7.trans k6.symm), by simp only; omega, fun j c hc => ?_, fun _ => ?_⟩
        · obtain ⟨r, hr, hv⟩ := k9 j c hc
          obtain ⟨v, hv', t⟩ := g5 _ r hr
          exact ⟨v, by simpa [Nat.add_assoc] using hv', T1.renamed R C rfl hv t hsrc⟩
        · obtain ⟨arr, ha1, ha2⟩ := g6 k7
          exact ⟨arr, by rw [k4]; exact ha1, ha2⟩
      · cases hlc
  · have hi : i < H1.length := by
      rcases Nat.lt_or_ge i H1.length with h1 | h1
      · exact h1
      · rw [R0.dom i (by omega)] at h; cases h
    rw [rename_old hi]
    exact E.mono i l h
  · rw [rename_old (by omega)]
    exact E.hole i hi hn
  · unfold rename at h
    split at h
    · exact E.fresh i l' h
    · split at h
      · rename_i s hs
        obtain ⟨m, hm, rfl⟩ := Option.map_eq_some_iff.1 h
        have hk := (List.getElem?_eq_some_iff.1 hs).1
        have hge := (C.obj _ s _ hs (List.getElem?_eq_getElem (by rw [← C.len]; exact hk))).1
        rcases E.fresh s.i m hm with ⟨l, hl', _, _⟩ | hf
        · rw [R0.dom s.i (by omega)] at hl'
          cases hl'
        · exact .inr hf
      · cases h
end

theorem aLoad_R {P : Program} {H : AH} (hw : WF H) {t : TypeId} {p v : Value} (hq : aLoad P H t p = some v) : R3 H.length v = true := by
  unfold aLoad at hq
  split at hq
  · split at hq
    · split at hq
      · cases hq
        rename_i ha _ _ _
        exact agg_R fun c hm => hw.cell (alive_some ha).1 (List.mem_of_mem_drop (List.mem_of_mem_take hm))
      · cases hq
    · rename_i ha _ _
      exact R3_of2 (R2_of0 (hw.cell (alive_some ha).1 (List.mem_of_getElem? hq)))
    · cases hq
  · cases hq
theorem results_R' {P : Program} {H : AH} {env : Env} (hw : WF H) (he : ER H.length env) : ∀ {rs : List ResultVar} {vs : List Value}, aresults P H env rs = some vs → ∀ v ∈ vs, R2 H.length v = true
  | [], vs, h => by cases h; simp
  | r :: rs, vs, h => by
    simp only [aresults] at h
    split at h
    · rename_i v us hv hus
      split at h
      · cases h
      · rename_i ht
        cases h
        intro x hx
        rcases List.mem_cons.1 hx with rfl | hx
        · refine R3_two ?_ (by simpa using ht)
          cases r with
          | tmp t => exact he t _ hv
          | cell p t =>
            obtain ⟨pv, hp, hl⟩ := Option.bind_eq_some_iff.1 hv
            exact aLoad_R hw hl
        · exact results_R' hw he hus x hx
    · cases h
theorem results_R {P : Program} {H : AH} {env : Env} (hw : WF H) (he : ER H.length env) {rs : List ResultVar} {vs : List Value} (h : aresults P H env rs = some vs) : R3 H.length (packed vs) = true := by
  have h1 := results_R' hw he h
  unfold packed
  split
  · exact R3_of2 (h1 _ (by simp))
  · unfold R3
    simp only [List.all_toArray]
    exact List.all_eq_true.2 h1
/-- THE CONTRACT OUT OF THE BODY. -/
theorem ACall.of_body {P : Program} {f : FuncId} {fn : Func} {c : Code} {args : List Value} {H H1 news : AH} {v : Value} (hf : P.funcs[f]? = some fn) (hb : fn.body = some c) (hn : (fn.name == "runtime.NumGoroutine") = false)
    (hgood : WF H → (∀ x ∈ args, R2 H.length x = true) → Good H v (H1 ++ news)) (hl : H.length = H1.length)
    (h : WF H → AWp P (args.length + (fn.ntmps - args.length)) c (fun e env' H' => (e = .normal ∨ e = .ret) ∧ ∃ vs ext ρ, aresults P H' env' fn.results.toList = some vs ∧ H' = H1 ++ ext ∧ Canon H1 ext news ρ ∧ vr3 H1.length ρ v (packed vs)) (fun t => args[t]?) H) :
    ACall P f args H v (H1 ++ news) := by
  refine ⟨⟨fn, hf, hn, by simp [hb]⟩, hgood, fun β w args' R wf hR ha => ?_⟩
  refine calls_of_wp hf hb ?_
  have hlen := ha.length
  refine h wf β w _ _ ⟨R, wf, ?_, ?_, ?_, rfl⟩ ?_
  · intro t v hv
    obtain ⟨v', h1, h2⟩ := ha.get t v hv
    rw [Array.getElem?_toList] at h1
    exact ⟨v', by simp only [Array.getElem?_append, (Array.getElem?_eq_some_iff.1 h1).1, if_true, h1], .one h2⟩
  · intro t v hv
    exact R3_of2 (hR v (List.mem_of_getElem? hv))
  · have : args'.size = args.length := by rw [← Array.length_toList, ← hlen]
    simp [this]
  · rintro e env' H' β' a' w' ⟨he, vs, ext, ρ, hvs, rfl, C, hv⟩ S E hle
    obtain ⟨v', hr, t⟩ := results_run S hvs
    obtain ⟨R', E'⟩ := C.rel S.rel R hl E
    have hfin : a'.defers = [] ∧ ∃ u, (results fn a'.tmps).run P w' = .ok u w' ∧ ∃ v' β', Ending.returned u = .returned v' ∧ Rel β' (H1 ++ news) w' ∧ Ext H.length β w β' w' ∧ T3 β' v v' :=
      ⟨S.defers, v', hr, v', _, rfl, R', E', t.renamed S.rel C hv⟩
    rcases he with rfl | rfl
    · exact hfin
    · exact hfin

/-- The contract with a fact, out of the body: nothing is forgotten. -/
theorem ACallP.of_body {P : Program} {f : FuncId} {fn : Func} {c : Code} {args : List Value} {H : AH} {rs : List ResultVar} {nt : Nat} {Post : Value → AH → Prop} (hf : P.funcs[f]? = some fn) (hb : fn.body = some c) (hn : (fn.name == "runtime.NumGoroutine") = false)
    (hr : fn.results.toList = rs) (ht : args.length + (fn.ntmps - args.length) = nt)
    (h : WF H → (∀ x ∈ args, R2 H.length x = true) → AWp P nt c (fun e env' H' => (e = .normal ∨ e = .ret) ∧ ∃ vs, aresults P H' env' rs = some vs ∧ Post (packed vs) H') (fun t => args[t]?) H) : ACallP P f args H Post := by
  refine ⟨⟨fn, hf, hn, by simp [hb]⟩, fun β w args' R wf hR ha => ?_⟩
  refine calls_of_wp hf hb ?_
  have hlen := ha.length
  refine h wf hR β w _ _ ⟨R, wf, ?_, ?_, ?_, rfl⟩ ?_
  · intro t v hv
    obtain ⟨v', h1, h2⟩ := ha.get t v hv
    rw [Array.getElem?_toList] at h1
    exact ⟨v', by simp only [Array.getElem?_append, (Array.getElem?_eq_some_iff.1 h1).1, if_true, h1], .one h2⟩
  · intro t v hv
    exact R3_of2 (hR v (List.mem_of_getElem? hv))
  · have : args'.size = args.length := by rw [← Array.length_toList, ← hlen]
    simp [this, ← ht]
  · rintro e env' H' β' a' w' ⟨he, vs, hvs, hp⟩ S E hle
    obtain ⟨v', hrun, t⟩ := results_run S (by rw [hr]; exact hvs)
    have hR3 : R3 H'.length (packed vs) = true := results_R S.wf S.er hvs
    have hfin : a'.defers = [] ∧ ∃ u, (results fn a'.tmps).run P w' = .ok u w' ∧ ∃ v v' β' H', Ending.returned u = .returned v' ∧ Post v H' ∧ Good H v H' ∧ Rel β' H' w' ∧ Ext H.length β w β' w' ∧ T3 β' v v' :=
      ⟨S.defers, v', hrun, packed vs, v', β', H', rfl, hp, ⟨S.wf, hR3, hle⟩, S.rel, E, t⟩
    rcases he with rfl | rfl
    · exact hfin
    · exact hfin
/-- Nothing is told anew: what comes back are plain values, and what was made is forgotten. -/
theorem Canon.none (H ext : AH) (hw : WF H) : Canon H ext [] [] := ⟨rfl, fun o ho c hc => hw o ho c hc, fun j k s t h => by simp at h, fun k s n h => by simp at h⟩
theorem vr3_plain {N : Nat} {v : Value} (h : plainV v = true) : vr3 N [] v v := by
  unfold vr3
  split
  · simp [plainV] at h
  · unfold vr2
    split
    · simp [plainV] at h
    · rename_i v _ _
      unfold vr0
      split
      · simp [plainV] at h
      · simp [plainV] at h
      · exact ⟨rfl, h⟩
def PlainL (vs : List Value) : Prop := ∀ v ∈ vs, plainV v = true
theorem vr3_plains {N : Nat} {vs : List Value} (h : PlainL vs) : vr3 N [] (packed vs) (packed vs) := by
  unfold packed
  split
  · exact vr3_plain (h _ (by simp))
  · unfold vr3
    refine All2.same fun v hv => ?_
    have := h v (by simpa using hv)
    unfold vr2
    split
    · simp [plainV] at this
    · unfold vr0
      split
      · simp [plainV] at this
      · simp [plainV] at this
      · exact ⟨rfl, this⟩
theorem R3_plains {n : Nat} {vs : List Value} (h : PlainL vs) : R3 n (packed vs) = true := by
  unfold packed
  split
  · exact R3_plain (h _ (by simp))
  · unfold R3
    simp only [List.all_toArray]
    exact List.all_eq_true.2 fun v hv => R2_of0 (R0_plain (h v hv))
theorem ACall.plain {P : Program} {f : FuncId} {fn : Func} {c : Code} {args : List Value} {H : AH} {rs : List ResultVar} {nt : Nat} {vs : List Value} (hf : P.funcs[f]? = some fn) (hb : fn.body = some c) (hn : (fn.name == "runtime.NumGoroutine") = false)
    (hr : fn.results.toList = rs) (ht : args.length + (fn.ntmps - args.length) = nt) (hp : PlainL vs)
    (h : WF H → AWp P nt c (fun e env' H' => (e = .normal ∨ e = .ret) ∧ (∃ ext, H' = H ++ ext) ∧ aresults P H' env' rs = some vs) (fun t => args[t]?) H) : ACall P f args H (packed vs) H := by
  have key := ACall.of_body (P := P) (f := f) (fn := fn) (c := c) (args := args) (H := H) (H1 := H) (news := []) (v := packed vs) hf hb hn (fun hw _ => by rw [List.append_nil]; exact ⟨hw, R3_plains hp, Nat.le_refl _⟩) rfl (fun hw => by
    rw [ht]
    refine (h hw).mono ?_
    rintro e env' H' ⟨he, ⟨ext, rfl⟩, hv⟩
    exact ⟨he, vs, ext, [], by rw [hr]; exact hv, rfl, Canon.none H ext hw, vr3_plains hp⟩)
  rwa [List.append_nil] at key

end Go.Proofs.Ytbckijeffiofdaa.AL

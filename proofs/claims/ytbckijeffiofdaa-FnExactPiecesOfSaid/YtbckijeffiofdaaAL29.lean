/- AL, part 29: a region that draws its order in which some look at what no other of it turns ('lax'). No condition. -/
import Derived.Test.YtbckijeffiofdaaAL28
namespace Go.Proofs.Ytbckijeffiofdaa.AL
open Go Go.RowKit
set_option linter.unusedVariables false
set_option linter.unusedSimpArgs false

/-- What is seen of a map of objects. -/
def kp (K : Nat → Bool) (n : Nat) (β : BM) : BM := fun i => if K i = true ∧ i < n then β i else none
theorem kp_some {K : Nat → Bool} {n : Nat} {β : BM} {i : Nat} {l : Loc} (h : kp K n β i = some l) : (K i = true ∧ i < n) ∧ β i = some l := by
  unfold kp at h
  split at h
  · exact ⟨by assumption, h⟩
  · cases h
theorem kp_in {K : Nat → Bool} {n : Nat} {β : BM} {i : Nat} (h : K i = true) (hn : i < n) : kp K n β i = β i := by simp [kp, h, hn]
/-- Whatever it stands for, only objects of K are looked at through it. -/
def OnlyK (K : Nat → Bool) (n : Nat) (v : Value) : Prop := ∀ β v', T3 β v v' → T3 (kp K n β) v v'
def Stand (K : Nat → Bool) (H H' : AH) : Prop := ∀ i, i < H.length → K i = true → H'[i]? = H[i]?
def PlainK (K : Nat → Bool) (H : AH) : Prop := ∀ i o, K i = true → H[i]? = some o → ∀ c ∈ o.cells, plainV c = true
def MadeK (K : Nat → Bool) (H H' : AH) : Prop := ∀ i, H.length ≤ i → i < H'.length → K i = true
def OnlyKs (K : Nat → Bool) (n : Nat) (env : Env) : List Operand → Prop
  | [] => True
  | x :: r => (∀ v, aev env x = some v → OnlyK K n v) ∧ OnlyKs K n env r
theorem OnlyKs.at {K : Nat → Bool} {n : Nat} {env : Env} : ∀ {l : List Operand}, OnlyKs K n env l → ∀ x ∈ l, ∀ v, aev env x = some v → OnlyK K n v
  | [], _, x, hx => by cases hx
  | y :: l, h, x, hx => by
    rcases List.mem_cons.1 hx with rfl | hx
    · exact h.1
    · exact h.2.at x hx
/-- Those that only read, through what they look at. -/
def readK : Op → Bool
  | .load .. | .indexAddr .. | .fieldAddr .. => true
  | _ => false
def idV : Value → Option Nat
  | .pointer (some ⟨i, _, _⟩) => some i
  | .slice (some ⟨i, _, _⟩) _ _ => some i
  | _ => none
def RefK (K : Nat → Bool) (n : Nat) (v : Value) : Prop := ∀ i, idV v = some i → K i = true ∧ i < n
def RefKs (K : Nat → Bool) (n : Nat) (env : Env) : List Operand → Prop
  | [] => True
  | x :: r => (∀ v, aev env x = some v → RefK K n v) ∧ RefKs K n env r
theorem RefKs.at {K : Nat → Bool} {n : Nat} {env : Env} : ∀ {l : List Operand}, RefKs K n env l → ∀ x ∈ l, ∀ v, aev env x = some v → RefK K n v
  | [], _, x, hx => by cases hx
  | y :: l, h, x, hx => by
    rcases List.mem_cons.1 hx with rfl | hx
    · exact h.1
    · exact h.2.at x hx
theorem alive_of {H G : AH} {i g : Nat} (h : G[i]? = H[i]?) : AL.alive G i g = AL.alive H i g := by unfold AL.alive; rw [h]
theorem load_of {P : Program} {H G : AH} {t : TypeId} {p : Value} (h : ∀ i, idV p = some i → G[i]? = H[i]?) : aLoad P G t p = aLoad P H t p := by
  unfold aLoad
  split
  · rw [alive_of (h _ rfl)]
  · rfl
theorem fieldAddr_of {P : Program} {H G : AH} {t : TypeId} {p : Value} {f : Nat} (h : ∀ i, idV p = some i → G[i]? = H[i]?) : aFieldAddr P G t p f = aFieldAddr P H t p f := by
  unfold aFieldAddr
  split
  · rw [alive_of (h _ rfl)]
  · rfl
theorem indexAddr_of {P : Program} {H G : AH} {t : TypeId} {p ix : Value} (h : ∀ i, idV p = some i → G[i]? = H[i]?) : aIndexAddr P G t p ix = aIndexAddr P H t p ix := by
  unfold aIndexAddr
  split
  · rw [alive_of (h _ rfl)]
  · rw [alive_of (h _ rfl)]
  · rfl
theorem read_any {P : Program} {env : Env} {H H' G : AH} {op : Op} {v : Value} (hp : readK op = true) (h : aop P env H op = .val v H') (hs : ∀ x ∈ op.operands.toList, ∀ u, aev env x = some u → ∀ i, idV u = some i → G[i]? = H[i]?) : H' = H ∧ aop P env G op = .val v G := by
  unfold aop at h
  split at h
  all_goals first
    | (simp [readK] at hp; done)
    | skip
  all_goals simp only [aop]
  · split at h
    · rename_i hx
      obtain ⟨hq, rfl⟩ := arOf_val h
      rw [load_of (hs _ (by simp [Op.operands]) _ hx), hq]
      exact ⟨rfl, rfl⟩
    · cases h
  · split at h
    · rename_i hx
      obtain ⟨hq, rfl⟩ := arOf_val h
      rw [fieldAddr_of (hs _ (by simp [Op.operands]) _ hx), hq]
      exact ⟨rfl, rfl⟩
    · cases h
  · split at h
    · rename_i hx hy
      obtain ⟨hq, rfl⟩ := arOf_val h
      rw [indexAddr_of (hs _ (by simp [Op.operands]) _ hx), hq]
      exact ⟨rfl, rfl⟩
    · cases h
theorem read_not_call {P : Program} {env : Env} {H : AH} {op : Op} {f : FuncId} {args : List Value} (hp : readK op = true) (h : aop P env H op = .call f args) : False := by
  unfold aop at h
  split at h
  all_goals first
    | (simp [readK] at hp; done)
    | ((try simp only [arOf, arOf2] at h); (repeat' (split at h)) <;> cases h)
/-- N: from there on an object is told as not turned, too. -/
def kN (N : Nat) : Nat → Bool := fun i => decide (N ≤ i)
def LaxC (K : Nat → Bool) (N : Nat) (env : Env) (o : Oper) (H H' : AH) : Prop := (readK o.op = true ∧ RefKs K H.length env o.op.operands.toList) ∨ (OnlyKs (kN N) H.length env o.op.operands.toList ∧ PlainK (kN N) H ∧ MadeK (kN N) H H' ∧ H <+: H')
theorem Stand.rfl' {K : Nat → Bool} {H : AH} : Stand K H H := fun _ _ _ => rfl
theorem MadeK.rfl' {K : Nat → Bool} {H : AH} : MadeK K H H := fun _ _ _ => by omega
section
variable {K : Nat → Bool} {n : Nat}
theorem plain_T1 {β γ : BM} {c v : Value} (h : plainV c = true) (t : T1 β c v) : T1 γ c v := by
  cases t with
  | one t =>
    cases t with
    | plain hp => exact .one (.plain hp)
    | ptr hl hg => simp [plainV] at h
    | ptrOld hl hg => simp [plainV] at h
    | sl hl hg hn hc ha => simp [plainV] at h
    | slOld hl hg => simp [plainV] at h
  | @fn f cs cs' t =>
    have : cs = [] := by
      simp only [plainV, Bool.and_eq_true, Array.isEmpty_iff] at h
      simpa using h.2
    subst this
    cases t
    exact .fn .nil
theorem OnlyK.plain {v : Value} (h : plainV v = true) : OnlyK K n v := by
  intro β v' t
  cases t with
  | one t =>
    cases t with
    | one t => exact .one (.one (plain_T1 h t))
    | agg t => simp [plainV] at h
  | tup t => simp [plainV] at h
theorem T0.kp {β : BM} {i off g : Nat} {v' : Value} (hK : K i = true) (hn : i < n) : ∀ {v : Value}, (v = .pointer (some ⟨i, off, some g⟩) ∨ ∃ m c, v = .slice (some ⟨i, off, some g⟩) m c) → T3 β v v' → T3 (AL.kp K n β) v v' := by
  rintro v (rfl | ⟨m, c, rfl⟩) t
  · cases t with
    | one t => cases t with
      | one t => cases t with
        | one t => cases t with
          | plain hp => simp [plainV] at hp
          | ptr hl hg => exact .one (.one (.one (.ptr ((kp_in hK hn).trans hl) hg)))
          | ptrOld hl hg => exact .one (.one (.one (.ptrOld ((kp_in hK hn).trans hl) hg)))
  · cases t with
    | one t => cases t with
      | one t => cases t with
        | one t => cases t with
          | plain hp => simp [plainV] at hp
          | sl hl hg hn' hc ha => exact .one (.one (.one (.sl ((kp_in hK hn).trans hl) hg hn' hc ha)))
          | slOld hl hg => exact .one (.one (.one (.slOld ((kp_in hK hn).trans hl) hg)))
end
/-- What is seen of a heap, at an earlier moment. -/
theorem Rel.keep {K : Nat → Bool} {β : BM} {H H' : AH} {w : World} (R : Rel β H' w) (hs : ∀ i, K i = true → i < H.length → H'[i]? = H[i]?) (hp : PlainK K H) : Rel (kp K H.length β) H w where
  dom := fun i hi => by simp [kp, Nat.not_lt.2 hi]
  loc := fun i l hl => R.loc i l (kp_some hl).2
  inj := fun i j l m hl hm => R.inj i j l m (kp_some hl).2 (kp_some hm).2
  obj := fun i o l ho hl => by
    obtain ⟨⟨hK, hn⟩, hl'⟩ := kp_some hl
    obtain ⟨g1, g2, g3, g4, g5, g6⟩ := R.obj i o l ((hs i hK hn).trans ho) hl'
    refine ⟨g1, g2, g3, g4, fun j c hc => ?_, g6⟩
    obtain ⟨v, hv, t⟩ := g5 j c hc
    exact ⟨v, hv, plain_T1 (hp i o hK ho c (List.mem_of_getElem? hc)) t⟩
theorem Rel.besideK {K : Nat → Bool} {β γ : BM} {H H1 H' : AH} {w w' : World} (R : Rel β H' w) (h1 : H <+: H1) (hl1 : H1.length ≤ H'.length) (hs : ∀ i, K i = true → i < H1.length → H'[i]? = H1[i]?) (hmade : MadeK K H H1) (R1 : Rel γ H1 w') (E : Ext H.length (kp K H.length β) w γ w') (hole : ∀ i, H.length ≤ i → i < H1.length → β i = none) :
    Rel (fun i => if K i = true ∧ i < H1.length then γ i else β i) H' w' ∧ (∀ N, N ≤ H.length → Ext N β w (fun i => if K i = true ∧ i < H1.length then γ i else β i) w') ∧ ∀ i l, γ i = some l → (if K i = true ∧ i < H1.length then γ i else β i) = some l := by
  have hle := h1.length_le
  have sub : ∀ i l, γ i = some l → (if K i = true ∧ i < H1.length then γ i else β i) = some l := fun q m hq => by
    have h2 : q < H1.length := by
      rcases Nat.lt_or_ge q H1.length with h | h
      · exact h
      · rw [R1.dom q h] at hq; cases hq
    have h3 : K q = true := by
      rcases Nat.lt_or_ge q H.length with h | h
      · cases hK : K q with
        | true => rfl
        | false => rw [E.hole q h (by simp [kp, hK])] at hq; cases hq
      · exact hmade q h h2
    rw [if_pos ⟨h3, h2⟩]; exact hq
  have EE : ∀ N, N ≤ H.length → Ext N β w (fun i => if K i = true ∧ i < H1.length then γ i else β i) w' := fun N hN => by
    refine ⟨E.os, E.tape, E.output, E.size, fun b hb hr => E.keep b hb fun i l hl he => hr i l (kp_some hl).2 he, fun i l hl => ?_, fun i hi hn => ?_, fun i l hl => ?_⟩
    · by_cases hi : K i = true ∧ i < H1.length
      · simp only [if_pos hi]
        by_cases hi' : i < H.length
        · exact E.mono i l ((kp_in hi.1 hi').trans hl)
        · rw [hole i (by omega) hi.2] at hl; cases hl
      · simp only [if_neg hi]
        exact ⟨l, hl, rfl, rfl, .inl rfl⟩
    · have hi' : i < H.length := by omega
      by_cases hK : K i = true ∧ i < H1.length
      · simp only [if_pos hK]
        exact E.hole i hi' ((kp_in hK.1 hi').trans hn)
      · simp only [if_neg hK]; exact hn
    · by_cases hi : K i = true ∧ i < H1.length
      · simp only [if_pos hi] at hl
        rcases E.fresh i l hl with ⟨m, hm, e1, e2⟩ | hf
        · exact .inl ⟨m, (kp_some hm).2, e1, e2⟩
        · exact .inr hf
      · simp only [if_neg hi] at hl
        exact .inl ⟨l, hl, rfl, rfl⟩
  refine ⟨⟨fun i hi => ?_, fun i l hl => ?_, ?_, fun i o l ho hl => ?_⟩, EE, sub⟩
  · rw [if_neg (fun h => by omega)]
    exact R.dom i hi
  · by_cases hi : K i = true ∧ i < H1.length
    · simp only [if_pos hi] at hl; exact R1.loc i l hl
    · simp only [if_neg hi] at hl; exact Nat.lt_of_lt_of_le (R.loc i l hl) E.size
  · have mixed : ∀ i j l m, (K i = true ∧ i < H1.length) → ¬ (K j = true ∧ j < H1.length) → γ i = some l → β j = some m → l.b = m.b → l.ro = true ∧ m.ro = true := by
      intro i j l m hi hj hl hm he
      rcases E.fresh i l hl with ⟨q, hq, e1, e2⟩ | hf
      · have := R.inj i j q m (kp_some hq).2 hm (fun e => hj (e ▸ hi)) (e1.trans he)
        rw [e2] at this
        exact this
      · have := R.loc j m hm
        omega
    intro i j l m hl hm hne he
    by_cases hi : K i = true ∧ i < H1.length <;> by_cases hj : K j = true ∧ j < H1.length
    · simp only [if_pos hi] at hl; simp only [if_pos hj] at hm; exact R1.inj i j l m hl hm hne he
    · simp only [if_pos hi] at hl; simp only [if_neg hj] at hm; exact mixed i j l m hi hj hl hm he
    · simp only [if_neg hi] at hl; simp only [if_pos hj] at hm; exact (mixed j i m l hj hi hm hl he.symm).symm
    · simp only [if_neg hi] at hl; simp only [if_neg hj] at hm; exact R.inj i j l m hl hm hne he
  · have E0 := EE 0 (Nat.zero_le _)
    by_cases hi : K i = true ∧ i < H1.length
    · simp only [if_pos hi] at hl
      rw [hs i hi.1 hi.2] at ho
      obtain ⟨g1, g2, g3, g4, g5, g6⟩ := R1.obj i o l ho hl
      refine ⟨g1, g2, g3, g4, fun j c hc => ?_, g6⟩
      obtain ⟨v, hv, t⟩ := g5 j c hc
      exact ⟨v, hv, t.sub sub⟩
    · simp only [if_neg hi] at hl
      obtain ⟨g1, g2, g3, g4, g5, g6⟩ := R.obj i o l ho hl
      have hb : w'.heap[l.b]? = w.heap[l.b]? := E.keep l.b (R.loc i l hl) fun q m hq he => (R.inj q i m l (kp_some hq).2 hl (fun e => hi (by have := (kp_some hq).1; subst e; exact ⟨this.1, by omega⟩)) he).1
      refine ⟨g1, g2, g3, g4, fun j c hc => ?_, fun hr => ?_⟩
      · obtain ⟨v, hv, t⟩ := g5 j c hc
        exact ⟨v, (World.cell?_of_block (a := ⟨l.b, l.base + j, none⟩) hb).trans hv, t.ext E0⟩
      · obtain ⟨arr, ha1, ha2⟩ := g6 hr
        exact ⟨arr, hb.trans ha1, ha2⟩

/-- Checked: what waits for nothing of each other is apart; beside what writes stand only those that look at nothing, or at what stands. -/
def chkL (ops : Array Oper) (B : List Nat) (k : Nat) (X : List Nat) : Bool := okBits ops B && (List.range ops.size).all fun j => (List.range j).all fun i => (B.getD j 0).testBit i ||
  match ops[i]?, ops[j]? with
  | some x, some y => x.apart ops y && (quiet ops k x.op || quiet ops k y.op || decide (j < k) || (X.contains i && decide (i < k)))
  | _, _ => false
/-- The text's walk. -/
def ARunL (P : Program) (nt : Nat) (ops : Array Oper) (k : Nat) (K : Nat → Bool) (N : Nat) (X : List Nat) (Q : Env → AH → Prop) : Nat → List Oper → Env → AH → Prop
  | _, [], env, H => Q env H
  | i, o :: r, env, H => if okDst nt o.dst = true ∧ okGuard ops env o = true then (if Region.wanted o (ayield ops env) then AStepD P o env H (fun v H' => ((i < k → H <+: H') ∧ (k ≤ i → Stand K H H' ∧ Stand (kN N) H H') ∧ (i ∈ X → LaxC K N env o H H')) ∧ ARunL P nt ops k K N X Q (i + 1) r (aput env o.dst v) H') else ARunL P nt ops k K N X Q (i + 1) r (aput env o.dst undef) H) else False
def Step2 (P : Program) (nt : Nat) (ops : Array Oper) (k : Nat) (K : Nat → Bool) (N : Nat) (X : List Nat) (i : Nat) (env : Env) (H : AH) (v : Value) (H' : AH) : Prop :=
  Step1 P nt ops k i env H v H' ∧ (k ≤ i → Stand K H H' ∧ Stand (kN N) H H') ∧ ∀ o, ops[i]? = some o → i ∈ X → Region.wanted o (ayield ops env) = true → LaxC K N env o H H'
section
variable {P : Program} {nt : Nat} {ops : Array Oper} {B : List Nat} {k : Nat} {K : Nat → Bool} {N : Nat} {X0 : List Nat}
theorem traceL_of {Q : Env → AH → Prop} : ∀ (l : List Oper) (i0 : Nat) (env : Env) (H : AH), ops.toList.drop i0 = l → i0 + l.length = ops.size → ARunL P nt ops k K N X0 Q i0 l env H →
    ∃ (V : Nat → Value) (E : Nat → Env) (G : Nat → AH), E i0 = env ∧ G i0 = H ∧ Q (E ops.size) (G ops.size) ∧ ∀ i, i0 ≤ i → i < ops.size → E (i + 1) = aput (E i) (dstOf ops i) (V i) ∧ Step2 P nt ops k K N X0 i (E i) (G i) (V i) (G (i + 1))
  | [], i0, env, H, _, hl, h => ⟨fun _ => undef, fun _ => env, fun _ => H, rfl, rfl, h, fun i hi hlt => by simp at hl; omega⟩
  | o :: r, i0, env, H, hd, hl, h => by
    have ho : ops[i0]? = some o := by
      have : (ops.toList.drop i0)[0]? = some o := by rw [hd]; rfl
      rw [List.getElem?_drop, Nat.add_zero, Array.getElem?_toList] at this
      exact this
    have hd' : ops.toList.drop (i0 + 1) = r := by
      have := congrArg List.tail hd
      simpa [List.tail_drop] using this
    simp only [ARunL] at h
    split at h
    case isFalse => exact h.elim
    rename_i hok
    obtain ⟨v, H', hs, hrest⟩ : ∃ v H', Step2 P nt ops k K N X0 i0 env H v H' ∧ ARunL P nt ops k K N X0 Q (i0 + 1) r (aput env o.dst v) H' := by
      split at h
      · rename_i hw
        unfold AStepD at h
        split at h
        · exact ⟨_, _, ⟨⟨o, ho, hok.1, hok.2, .inl ⟨hw, .inl (by assumption), h.1.1⟩⟩, h.1.2.1, fun p hp hx _ => by rw [ho] at hp; cases hp; exact h.1.2.2 hx⟩, h.2⟩
        · obtain ⟨v, H', hc, h1, h2⟩ := h
          exact ⟨v, H', ⟨⟨o, ho, hok.1, hok.2, .inl ⟨hw, .inr ⟨_, _, by assumption, hc⟩, h1.1⟩⟩, h1.2.1, fun p hp hx _ => by rw [ho] at hp; cases hp; exact h1.2.2 hx⟩, h2⟩
        · exact h.elim
      · rename_i hw
        exact ⟨undef, H, ⟨⟨o, ho, hok.1, hok.2, .inr ⟨by simpa using hw, rfl, rfl⟩⟩, fun _ => ⟨.rfl', .rfl'⟩, fun p hp hx hw' => by rw [ho] at hp; cases hp; exact absurd hw' hw⟩, h⟩
    obtain ⟨V, E, G, h1, h2, h3, h4⟩ := traceL_of r (i0 + 1) _ _ hd' (by simp at hl; omega) hrest
    have hsz : i0 < ops.size := by simp at hl; omega
    refine ⟨fun i => if i = i0 then v else V i, fun i => if i ≤ i0 then env else E i, fun i => if i ≤ i0 then H else G i, by simp, by simp, ?_, fun i hi hlt => ?_⟩
    · simp only [show ¬ (ops.size ≤ i0) by omega, if_false]; exact h3
    · by_cases e : i = i0
      · subst e
        simp only [Nat.le_refl, if_true, show ¬ (i + 1 ≤ i) by omega, if_false]
        rw [h1, h2]
        refine ⟨?_, hs⟩
        simp [dstOf, ho]
      · have := h4 i (by omega) hlt
        simp only [e, show ¬ (i + 1 ≤ i0) by omega, show ¬ (i ≤ i0) by omega, if_false]
        exact this
structure TraceL (P : Program) (nt : Nat) (ops : Array Oper) (k : Nat) (K : Nat → Bool) (N : Nat) (X0 : List Nat) (V : Nat → Value) (E : Nat → Env) (G : Nat → AH) : Prop where
  T : Trace P nt ops k V E G
  stand : ∀ i, i < ops.size → k ≤ i → Stand K (G i) (G (i + 1)) ∧ Stand (kN N) (G i) (G (i + 1))
  lax : ∀ i o, ops[i]? = some o → i ∈ X0 → Region.wanted o (ayield ops (E i)) = true → LaxC K N (E i) o (G i) (G (i + 1))
variable {V : Nat → Value} {E : Nat → Env} {G : Nat → AH}
theorem TraceL.stands (L : TraceL P nt ops k K N X0 V E G) : ∀ m, k ≤ m → m ≤ ops.size → ∀ i, i < (G k).length → (K i = true ∨ kN N i = true) → (G m)[i]? = (G k)[i]?
  | 0, h, _, i, hi, hK => by have : k = 0 := by omega
                             subst this; rfl
  | m + 1, h, hm, i, hi, hK => by
    by_cases e : k = m + 1
    · subst e; rfl
    · have := L.T.lens (i := k) m (by omega) (by omega)
      have st := L.stand m (by omega) (by omega)
      have e2 : (G (m + 1))[i]? = (G m)[i]? := by
        rcases hK with hK | hK
        · exact st.1 i (by omega) hK
        · exact st.2 i (by omega) hK
      rw [e2]
      exact L.stands m (by omega) (by omega) i hi hK
theorem chkL_all (h : chkL ops B k X0 = true) : chk ops B ops.size = true := by
  unfold chkL at h
  unfold chk
  rw [Bool.and_eq_true] at h ⊢
  refine ⟨h.1, List.all_eq_true.2 fun j hj => List.all_eq_true.2 fun i hi => ?_⟩
  have h1 := List.all_eq_true.1 (List.all_eq_true.1 h.2 j hj) i hi
  have hjs := List.mem_range.1 hj
  rw [Bool.or_eq_true] at h1 ⊢
  rcases h1 with h1 | h1
  · exact .inl h1
  · refine .inr ?_
    split at h1
    · rename_i e1 e2
      rw [Bool.and_eq_true] at h1
      simp only [e1, e2, h1.1, decide_eq_true hjs, Bool.or_true, Bool.and_true]
    · cases h1
theorem chkL_pair (h : chkL ops B k X0 = true) {i j : Nat} {x y : Oper} (hij : i < j) (hx : ops[i]? = some x) (hy : ops[j]? = some y) (hb : (B.getD j 0).testBit i = false) : quiet ops k x.op = true ∨ quiet ops k y.op = true ∨ j < k ∨ (i ∈ X0 ∧ i < k) := by
  have hj := (Array.getElem?_eq_some_iff.1 hy).1
  unfold chkL at h
  rw [Bool.and_eq_true] at h
  have h1 := List.all_eq_true.1 (List.all_eq_true.1 h.2 j (List.mem_range.2 hj)) i (List.mem_range.2 hij)
  simp only [hb, Bool.false_or, hx, hy, Bool.and_eq_true, Bool.or_eq_true, decide_eq_true_eq, List.contains_iff_mem] at h1
  rcases h1.2 with ((h | h) | h) | h <;> simp [h]
/-- What an operation looks at reads as in the text's order. -/
theorem agreeL (hc : chk ops B ops.size = true) (T : Trace P nt ops k V E G) {X : Nat → Bool} (closed : ∀ j o, X j = true → ops[j]? = some o → ∀ d ∈ needs o, X d = true) {i : Nat} {o : Oper} (ho : ops[i]? = some o) (hn : ∀ d ∈ needs o, X d = true) (hXi : X i = false) {t : Tmp} (ht : t ∈ o.looksAt ops) :
    fold ops V X (E 0) ops.size t = E i t := by
  have hi := (Array.getElem?_eq_some_iff.1 ho).1
  rw [← fold_all (V := V) (E := E) rfl (fun j hj => (T.step j hj).1) i (by omega), ← fold_stop (V := V) (base := E 0) ops.size (by omega)]
  refine fold_congr ops.size fun j hj hd => ?_
  have hoj : ops[j]? = some ops[j] := Array.getElem?_eq_getElem hj
  have hdj : (ops[j]).dst = some t := by simpa [dstOf, hoj] using hd
  rcases Nat.lt_trichotomy j i with h | h | h
  · rw [decide_eq_true h]
    cases hb : (B.getD i 0).testBit j with
    | true => exact waits hc closed ho hn hXi hb
    | false => exact absurd ht ((Oper.apart_spec (chk_pair hc h hoj ho hb).1).1 t hdj)
  · subst h; simp [hXi]
  · rw [decide_eq_false (by omega)]
    cases hb : (B.getD j 0).testBit i with
    | true =>
      cases hX : X j with
      | false => rfl
      | true => rw [waits_in hc closed hj hX hb] at hXi; cases hXi
    | false => exact absurd ht ((Oper.apart_spec (chk_pair hc h ho hoj hb).1).2.2 t hdj)
/-- Behind the first that writes. -/
def PhL (ops : Array Oper) (k : Nat) (X0 : List Nat) (G : Nat → AH) (X : Nat → Bool) (β : BM) (w : World) : Prop :=
  ∃ m, k ≤ m ∧ m ≤ ops.size ∧ (∀ i o, i < m → ops[i]? = some o → quiet ops k o.op = false → (i ∈ X0 ∧ i < k) ∨ X i = true) ∧ (∀ i o, m ≤ i → X i = true → ops[i]? = some o → quiet ops k o.op = true) ∧ Rel β (G m) w ∧
    ∀ i o, i < k → ops[i]? = some o → quiet ops k o.op = false → X i = false → ∀ id, (G i).length ≤ id → id < (G (i + 1)).length → β id = none
structure InvL (nt : Nat) (ops : Array Oper) (k : Nat) (X0 : List Nat) (V : Nat → Value) (E : Nat → Env) (G : Nat → AH) (β0 : BM) (w0 : World) (X : Nat → Bool) (a : Act) (w : World) : Prop where
  closed : ∀ j o, X j = true → ops[j]? = some o → ∀ d ∈ needs o, X d = true
  bnd : ∀ j, X j = true → j < ops.size
  size : a.tmps.size = nt
  defers : a.defers = []
  core : ∃ β, EnvT β (fold ops V X (E 0) ops.size) a.tmps ∧ Ext (G 0).length β0 w0 β w ∧ (PhA ops k G X β w ∨ PhL ops k X0 G X β w)
/-- One that is ready comes up. -/
theorem InvL.one (hcL : chkL ops B k X0 = true) (L : TraceL P nt ops k K N X0 V E G) {β0 : BM} {w0 : World} {X : Nat → Bool} {a : Act} {w : World} (I : InvL nt ops k X0 V E G β0 w0 X a w) {i : Nat} {o : Oper} (ho : ops[i]? = some o) (hn : ∀ d ∈ needs o, X d = true) (hXi : X i = false)
    {Q : Exit → Act → World → Prop} {NN : Act → World → Prop} (hN : ∀ a' w', InvL nt ops k X0 V E G β0 w0 (addX X i) a' w' → NN a' w') : wpOp P ops Q i NN a w := by
  have T := L.T
  have hc := chkL_all hcL
  have hi := (Array.getElem?_eq_some_iff.1 ho).1
  obtain ⟨β, hE, hX, hph⟩ := I.core
  obtain ⟨heq, o', ho', hd, hg, hst⟩ := T.step i hi
  rw [ho] at ho'
  cases ho'
  have hdst : dstOf ops i = o.dst := by simp [dstOf, ho]
  have hag : ∀ t ∈ o.looksAt ops, fold ops V X (E 0) ops.size t = E i t := fun t ht => agreeL hc T I.closed ho hn hXi ht
  have hlook : ∀ d ∈ o.looksAt ops, ∀ v, E i d = some v → ∃ v', a.tmps[d]? = some v' ∧ T3 β v v' := fun d hd v hv => hE d v ((hag d hd).trans hv)
  have hOp : OpT β (E i) a o.op := by
    intro x hx v hv
    cases x with
    | tmp t =>
      obtain ⟨v', h1, h2⟩ := hlook t (looks_op hx) v hv
      have : a.eval (.tmp t) = v' := by simp [Act.eval, h1]
      rw [this]; exact h2
    | const c =>
      simp only [aev] at hv
      split at hv
      · cases hv; exact .const (by assumption)
      · cases hv
    | func f => cases hv; exact .plain rfl
    | global g => cases hv
  -- the new set
  have hclosed : ∀ j p, addX X i j = true → ops[j]? = some p → ∀ d ∈ needs p, addX X i d = true := by
    intro j p hj hp d hd
    have : X d = true := by
      by_cases e : j = i
      · subst e; rw [ho] at hp; cases hp; exact hn d hd
      · rw [addX_other e] at hj; exact I.closed j p hj hp d hd
    by_cases e : d = i
    · subst e; exact addX_same
    · rw [addX_other e]; exact this
  have hbnd : ∀ j, addX X i j = true → j < ops.size := fun j hj => by
    by_cases e : j = i
    · subst e; exact hi
    · rw [addX_other e] at hj; exact I.bnd j hj
  have henv : ∀ {β' : BM} {v' : Value}, EnvT β' (fold ops V X (E 0) ops.size) a.tmps → T3 β' (V i) v' → EnvT β' (fold ops V (addX X i) (E 0) ops.size) (a.put o.dst v').tmps := by
    intro β' v' h t q v hv
    refine h.put I.size t o.dst hd q v ?_
    by_cases e : o.dst = some q
    · have h1 := fold_last (V := V) (base := E 0) (hdst.trans e) (X := addX X i) addX_same (fun j hj hdj => by
        rw [addX_other (by omega)]
        cases hXj : X j with
        | false => rfl
        | true =>
          have hjn := I.bnd j hXj
          have hoj : ops[j]? = some ops[j] := Array.getElem?_eq_getElem hjn
          have hdj' : (ops[j]).dst = some q := by simpa [dstOf, hoj] using hdj
          cases hb : (B.getD j 0).testBit i with
          | true => rw [waits_in hc I.closed hjn hXj hb] at hXi; cases hXi
          | false => exact absurd hdj' ((Oper.apart_spec (chk_pair hc hj ho hoj hb).1).2.1 q e)) ops.size hi
      rw [h1] at hv
      rw [e]
      simpa [aput] using hv
    · rw [aput_other e]
      rw [← hv]
      refine fold_congr ops.size fun j hj hdj => ?_
      rw [addX_other]
      rintro rfl
      exact e (hdst.symm.trans hdj)
  have mk : ∀ {β' : BM} {v' : Value} {w' : World}, EnvT β' (fold ops V X (E 0) ops.size) a.tmps → T3 β' (V i) v' → Ext (G 0).length β0 w0 β' w' → (PhA ops k G (addX X i) β' w' ∨ PhL ops k X0 G (addX X i) β' w') → NN (a.put o.dst v') w' :=
    fun h1 h2 h3 h4 => hN _ _ ⟨hclosed, hbnd, by rw [Act.put_size]; exact I.size, by rw [Act.put_defers]; exact I.defers, _, henv h1 h2, h3, h4⟩
  -- behind the first that writes all stand in a row, but the lax
  have nonpure_before : ∀ j p, j < i → ops[j]? = some p → quiet ops k p.op = false → quiet ops k o.op = false → k ≤ i → (j ∈ X0 ∧ j < k) ∨ X j = true := by
    intro j p hj hp hpp hpo hki
    cases hb : (B.getD i 0).testBit j with
    | true => exact .inr (waits hc I.closed ho hn hXi hb)
    | false =>
      rcases chkL_pair hcL hj hp ho hb with h | h | h | h
      · rw [hpp] at h; cases h
      · rw [hpo] at h; cases h
      · omega
      · exact .inl h
  have toB : quiet ops k o.op = false → k ≤ i → ∃ m, k ≤ m ∧ m ≤ i ∧ (∀ j p, j < m → ops[j]? = some p → quiet ops k p.op = false → (j ∈ X0 ∧ j < k) ∨ X j = true) ∧ (∀ j p, m ≤ j → X j = true → ops[j]? = some p → quiet ops k p.op = true) ∧ Rel β (G i) w ∧ (∀ j p, j < k → ops[j]? = some p → quiet ops k p.op = false → X j = false → ∀ id, (G j).length ≤ id → id < (G (j + 1)).length → β id = none) := by
    intro hpo hki
    have fin : ∀ m, k ≤ m → m ≤ i → (∀ j p, m ≤ j → X j = true → ops[j]? = some p → quiet ops k p.op = true) → Rel β (G m) w → Rel β (G i) w := by
      intro m h1 h2 h3 h4
      rw [T.same i h2 (by omega) fun q p h5 h6 h7 => ?_]
      · exact h4
      · cases hq : quiet ops k p.op with
        | true => rfl
        | false =>
          rcases nonpure_before q p h6 h7 hq hpo hki with h | h
          · omega
          · rw [← hq]; exact h3 q p h5 h h7
    rcases hph with ⟨h1, h2, h3⟩ | ⟨m, h1, h2, h3, h4, h5, h6⟩
    · have hp : ∀ j p, k ≤ j → X j = true → ops[j]? = some p → quiet ops k p.op = true := fun j p hj hx hp => by
        cases hq : quiet ops k p.op with
        | true => rfl
        | false => have := h1 j p hx hp hq; omega
      exact ⟨k, Nat.le_refl _, hki, fun j p hj hp hq => nonpure_before j p (by omega) hp hq hpo hki, hp, fin k (Nat.le_refl _) hki hp h2, h3⟩
    · have hmi : m ≤ i := by
        rcases Nat.lt_or_ge i m with h | h
        · rcases h3 i o h ho hpo with h' | h'
          · omega
          · rw [h'] at hXi; cases hXi
        · exact h
      exact ⟨m, h1, hmi, h3, h4, fin m h1 hmi h4 h5, h6⟩
  have afterB : ∀ {β' : BM} {w' : World}, quiet ops k o.op = false → k ≤ i → (∃ m, k ≤ m ∧ m ≤ i ∧ (∀ j p, j < m → ops[j]? = some p → quiet ops k p.op = false → (j ∈ X0 ∧ j < k) ∨ X j = true) ∧ (∀ j p, m ≤ j → X j = true → ops[j]? = some p → quiet ops k p.op = true)) → Rel β' (G (i + 1)) w' → (∀ id, id < (G i).length → β id = none → β' id = none) → (∀ j p, j < k → ops[j]? = some p → quiet ops k p.op = false → X j = false → ∀ id, (G j).length ≤ id → id < (G (j + 1)).length → β id = none) → PhL ops k X0 G (addX X i) β' w' := by
    rintro β' w' hpo hki ⟨m, h1, h2, h3, h4⟩ R hh h6
    refine ⟨i + 1, by omega, by omega, fun j p hj hp hq => ?_, fun j p hj hx hp => ?_, R, fun j p hj hpj hq hx id g1 g2 => ?_⟩
    · by_cases e : j = i
      · subst e; exact .inr addX_same
      · rw [addX_other e]; exact nonpure_before j p (by omega) hp hq hpo hki
    · rw [addX_other (by omega)] at hx
      exact h4 j p (by omega) hx hp
    · have hji : j ≠ i := by omega
      rw [addX_other hji] at hx
      have := T.lens (i := j + 1) i (by omega) (by omega)
      exact hh id (by omega) (h6 j p hj hpj hq hx id g1 g2)
  unfold wpOp
  simp only [ho]
  rw [ayield_at hlook hg]
  rcases hst with ⟨hw, hr, hpre⟩ | ⟨hw, hv, hG⟩
  · rw [if_pos hw]
    refine .inl ?_
    cases hp : quiet ops k o.op with
    | true =>
      obtain ⟨hq⟩ | ⟨f, args, hq, _⟩ := hr
      case inr => exact (quiet_not_call hp hq).elim
      have hq := T.quietAny hp ho (by assumption)
      have go : ∀ Hr, aop P (E i) Hr o.op = .val (V i) Hr → Rel β Hr w → (∀ β' w', Rel β' Hr w' → Ext Hr.length β w β' w' → (PhA ops k G (addX X i) β' w' ∨ PhL ops k X0 G (addX X i) β' w')) → (G 0).length ≤ Hr.length → o.wp P a w NN Q := by
        intro Hr hqr R hh hl
        obtain ⟨v', w', β', hrun, R', E', t⟩ := aop_val (P := P) R hOp hqr
        have E0 := hX.trans E' (by exact hl)
        unfold Oper.wp
        rcases hrun with hrun | ⟨hrun, rfl⟩
        · rw [hrun]; exact mk (hE.ext E') t E0 (hh β' w' R' E')
        · rw [hrun]; exact mk (hE.ext E') t E0 (hh β' w' R' E')
      rcases hph with ⟨h1, h2, h3⟩ | ⟨m, h1, h2, h3, h4, h5, h6⟩
      · refine go (G k) (hq k (Nat.le_refl _) T.hk) h2 (fun β' w' R' E' => .inl ⟨fun j p hx hpj hq => ?_, R', fun j p hj hpj hq hx id g1 g2 => ?_⟩) (T.lens k (Nat.zero_le _) T.hk)
        · by_cases e : j = i
          · subst e; rw [ho] at hpj; cases hpj; rw [hp] at hq; cases hq
          · rw [addX_other e] at hx; exact h1 j p hx hpj hq
        · have hji : j ≠ i := by rintro rfl; rw [addX_same] at hx; cases hx
          rw [addX_other hji] at hx
          have hlk := T.lens (i := j + 1) k (by omega) T.hk
          exact E'.hole id (by omega) (h3 j p hj hpj hq hx id g1 g2)
      · refine go (G m) (hq m h1 h2) h5 (fun β' w' R' E' => .inr ⟨m, h1, h2, fun j p hj hpj hq => ?_, fun j p hj hx hpj => ?_, R', fun j p hj hpj hq hx id g1 g2 => ?_⟩) (T.lens m (Nat.zero_le _) h2)
        · by_cases e : j = i
          · subst e; exact .inr addX_same
          · rw [addX_other e]; exact h3 j p hj hpj hq
        · by_cases e : j = i
          · subst e; rw [ho] at hpj; cases hpj; exact hp
          · rw [addX_other e] at hx; exact h4 j p hj hx hpj
        · have hji : j ≠ i := by rintro rfl; rw [addX_same] at hx; cases hx
          rw [addX_other hji] at hx
          have hlk := T.lens (i := j + 1) m (by omega) h2
          exact E'.hole id (by omega) (h6 j p hj hpj hq hx id g1 g2)
    | false =>
      obtain ⟨wfi, eri⟩ := T.all i (by omega)
      by_cases hki : k ≤ i
      · obtain ⟨m, h1, h2, h3, h4, R, h6⟩ := toB hp hki
        refine op_real hr R wfi eri hOp fun v' w' β' R' E' t => ?_
        exact mk (hE.ext E') t (hX.trans E' (T.lens i (Nat.zero_le _) (by omega))) (.inr (afterB hp hki ⟨m, h1, h2, h3, h4⟩ R' (fun id hid => E'.hole id hid) h6))
      · have hik : i < k := by omega
        rcases hph with ⟨h1, h2, h3⟩ | ⟨m, h1, h2, h3, h4, h5, h6⟩
        · have hpk := T.pre k (i := i) (by omega) (Nat.le_refl _)
          have hpk1 := T.pre k (i := i + 1) (by omega) (Nat.le_refl _)
          have hOp' : OpT (cut (G i).length β) (E i) a o.op := fun x hx v hv => (hOp x hx v hv).cut (aev_R eri hv)
          refine op_real hr (h2.less hpk wfi) wfi eri hOp' fun v' w' γ R1 E1 t => ?_
          obtain ⟨R', EE⟩ := h2.beside (hpre hik) hpk1 R1 E1 (h3 i o hik ho hp hXi)
          have E' := EE (G 0).length (T.lens i (Nat.zero_le _) (by omega))
          refine mk (hE.ext E') (t.sub fun q l hq => ?_) (hX.trans E' (Nat.le_refl _)) (.inl ⟨fun j p hx hpj hq => ?_, R', fun j p hj hpj hq hx id g1 g2 => ?_⟩)
          · have : q < (G (i + 1)).length := by
              rcases Nat.lt_or_ge q (G (i + 1)).length with h | h
              · exact h
              · rw [R1.dom q h] at hq; cases hq
            show (if q < (G (i + 1)).length then γ q else β q) = some l
            rw [if_pos this]; exact hq
          · by_cases e : j = i
            · subst e; exact hik
            · rw [addX_other e] at hx; exact h1 j p hx hpj hq
          · have hji : j ≠ i := by rintro rfl; rw [addX_same] at hx; cases hx
            rw [addX_other hji] at hx
            have h0 := h3 j p hj hpj hq hx id g1 g2
            show (if id < (G (i + 1)).length then γ id else β id) = none
            by_cases hid : id < (G (i + 1)).length
            · rw [if_pos hid]
              have hlt : id < (G i).length := by
                rcases Nat.lt_or_ge j i with hji | hji
                · have := T.lens (i := j + 1) i (by omega) (by omega); omega
                · have := T.lens (i := i + 1) j (by omega) (by have := T.hk; omega); omega
              exact E1.hole id hlt ((cut_lt hlt).trans h0)
            · rw [if_neg hid]; exact h0
        · have hlx : i ∈ X0 := by
            rcases h3 i o (by omega) ho hp with h | h
            · exact h.1
            · rw [h] at hXi; cases hXi
          have hlk := T.lens (i := i + 1) k (by omega) T.hk
          have hlk0 := T.lens (i := i) k (by omega) T.hk
          have hlm := T.lens (i := k) m h1 h2
          have phl : ∀ {β' : BM} {w' : World}, Rel β' (G m) w' → (∀ id, id < (G i).length ∨ (G (i + 1)).length ≤ id → id < (G m).length → β id = none → β' id = none) → PhL ops k X0 G (addX X i) β' w' := by
            intro β' w' R' hh
            refine ⟨m, h1, h2, fun j p hj hpj hq => ?_, fun j p hj hx hpj => ?_, R', fun j p hj hpj hq hx id g1 g2 => ?_⟩
            · by_cases e : j = i
              · subst e; exact .inr addX_same
              · rw [addX_other e]; exact h3 j p hj hpj hq
            · rw [addX_other (by omega)] at hx; exact h4 j p hj hx hpj
            · have hji : j ≠ i := by rintro rfl; rw [addX_same] at hx; cases hx
              rw [addX_other hji] at hx
              have h0 := h6 j p hj hpj hq hx id g1 g2
              have hjk := T.lens (i := j + 1) k (by omega) T.hk
              refine hh id ?_ (by omega) h0
              rcases Nat.lt_or_ge j i with hji | hji
              · have := T.lens (i := j + 1) i (by omega) (by omega); omega
              · have := T.lens (i := i + 1) j (by omega) (by have := T.hk; omega); omega
          rcases L.lax i o ho hlx hw with ⟨hrd, hrf⟩ | ⟨c1, c2, c3, c4⟩
          · obtain ⟨hq⟩ | ⟨f, args, hq, _⟩ := hr
            case inr => exact (read_not_call hrd hq).elim
            have hq' : aop P (E i) (G i) o.op = .val (V i) (G (i + 1)) := by assumption
            have hqm := (read_any (G := G m) hrd hq' fun x hx u hu id hid => by
              obtain ⟨hK, hlt⟩ := hrf.at x hx u hu id hid
              rw [L.stands m h1 h2 id (by omega) (.inl hK)]
              exact (pre_back (T.pre k (i := i) (by omega) (Nat.le_refl _)) hlt).symm).2
            obtain ⟨v', w', β', hrun, R', E', t⟩ := aop_val (P := P) h5 hOp hqm
            have E0 := hX.trans E' (T.lens m (Nat.zero_le _) h2)
            have ph := phl R' (fun id _ hid h0 => E'.hole id hid h0)
            unfold Oper.wp
            rcases hrun with hrun | ⟨hrun, rfl⟩
            · rw [hrun]; exact mk (hE.ext E') t E0 (.inr ph)
            · rw [hrun]; exact mk (hE.ext E') t E0 (.inr ph)
          have hle := c4.length_le
          have st1 : ∀ id, kN N id = true → id < (G (i + 1)).length → (G m)[id]? = (G (i + 1))[id]? := fun id hK hid => by
            rw [L.stands m h1 h2 id (by omega) (.inr hK)]
            exact (pre_back (T.pre k (i := i + 1) (by omega) (Nat.le_refl _)) hid).symm
          have st0 : ∀ id, kN N id = true → id < (G i).length → (G m)[id]? = (G i)[id]? := fun id hK hid => by
            rw [st1 id hK (by omega)]
            exact (pre_back c4 hid).symm
          have hOp' : OpT (kp (kN N) (G i).length β) (E i) a o.op := fun x hx v hv => c1.at x hx v hv _ _ (hOp x hx v hv)
          refine op_real hr (h5.keep st0 c2) wfi eri hOp' fun v' w' γ R1 E1 t => ?_
          obtain ⟨R', EE, sub⟩ := h5.besideK c4 (by omega) st1 c3 R1 E1 (h6 i o hik ho hp hXi)
          have E' := EE (G 0).length (T.lens i (Nat.zero_le _) (by omega))
          refine mk (hE.ext E') (t.sub sub) (hX.trans E' (Nat.le_refl _)) (.inr (phl R' fun id hd hid h0 => ?_))
          show (if kN N id = true ∧ id < (G (i + 1)).length then γ id else β id) = none
          by_cases hid : kN N id = true ∧ id < (G (i + 1)).length
          · rw [if_pos hid]
            have hlt : id < (G i).length := by omega
            exact E1.hole id hlt ((kp_in hid.1 hlt).trans h0)
          · rw [if_neg hid]; exact h0
  · rw [hw]
    simp only [Bool.false_eq_true, if_false]
    have t : T3 β (V i) undef := by rw [hv]; exact undef_T3
    refine mk hE t hX ?_
    cases hp : quiet ops k o.op with
    | true =>
      rcases hph with ⟨h1, h2, h3⟩ | ⟨m, h1, h2, h3, h4, h5, h6⟩
      · refine .inl ⟨fun j p hx hpj hq => ?_, h2, fun j p hj hpj hq hx id g1 g2 => ?_⟩
        · by_cases e : j = i
          · subst e; rw [ho] at hpj; cases hpj; rw [hp] at hq; cases hq
          · rw [addX_other e] at hx; exact h1 j p hx hpj hq
        · have hji : j ≠ i := by rintro rfl; rw [addX_same] at hx; cases hx
          rw [addX_other hji] at hx
          exact h3 j p hj hpj hq hx id g1 g2
      · refine .inr ⟨m, h1, h2, fun j p hj hpj hq => ?_, fun j p hj hx hpj => ?_, h5, fun j p hj hpj hq hx id g1 g2 => ?_⟩
        · by_cases e : j = i
          · subst e; exact .inr addX_same
          · rw [addX_other e]; exact h3 j p hj hpj hq
        · by_cases e : j = i
          · subst e; rw [ho] at hpj; cases hpj; exact hp
          · rw [addX_other e] at hx; exact h4 j p hj hx hpj
        · have hji : j ≠ i := by rintro rfl; rw [addX_same] at hx; cases hx
          rw [addX_other hji] at hx
          exact h6 j p hj hpj hq hx id g1 g2
    | false =>
      by_cases hki : k ≤ i
      · obtain ⟨m, h1, h2, h3, h4, R, h6⟩ := toB hp hki
        exact .inr (afterB hp hki ⟨m, h1, h2, h3, h4⟩ (hG ▸ R) (fun _ _ h => h) h6)
      · have hik : i < k := by omega
        rcases hph with ⟨h1, h2, h3⟩ | ⟨m, h1, h2, h3, h4, h5, h6⟩
        · refine .inl ⟨fun j p hx hpj hq => ?_, h2, fun j p hj hpj hq hx id g1 g2 => ?_⟩
          · by_cases e : j = i
            · subst e; exact hik
            · rw [addX_other e] at hx; exact h1 j p hx hpj hq
          · have hji : j ≠ i := by rintro rfl; rw [addX_same] at hx; cases hx
            rw [addX_other hji] at hx
            exact h3 j p hj hpj hq hx id g1 g2
        · refine .inr ⟨m, h1, h2, fun j p hj hpj hq => ?_, fun j p hj hx hpj => ?_, h5, fun j p hj hpj hq hx id g1 g2 => ?_⟩
          · by_cases e : j = i
            · subst e; exact .inr addX_same
            · rw [addX_other e]; exact h3 j p hj hpj hq
          · rw [addX_other (by omega)] at hx; exact h4 j p hj hx hpj
          · have hji : j ≠ i := by rintro rfl; rw [addX_same] at hx; cases hx
            rw [addX_other hji] at hx
            exact h6 j p hj hpj hq hx id g1 g2

theorem InvL.fin (T : Trace P nt ops k V E G) {β0 : BM} {w0 : World} {X : Nat → Bool} {a : Act} {w : World} (I : InvL nt ops k X0 V E G β0 w0 X a w) (hall : ∀ j, j < ops.size → X j = true) :
    ∃ β, St nt β (E ops.size) (G ops.size) a w ∧ Ext (G 0).length β0 w0 β w := by
  obtain ⟨β, hE, hX, hph⟩ := I.core
  obtain ⟨wf, er⟩ := T.all ops.size (Nat.le_refl _)
  have he : fold ops V X (E 0) ops.size = E ops.size := by
    rw [← fold_all (V := V) (E := E) rfl (fun j hj => (T.step j hj).1) ops.size (Nat.le_refl _)]
    funext t
    exact fold_congr ops.size fun j hj _ => hall j hj
  rw [he] at hE
  refine ⟨β, ⟨?_, wf, hE, er, I.size, I.defers⟩, hX⟩
  rcases hph with ⟨h1, h2, h3⟩ | ⟨m, h1, h2, h3, h4, h5, _⟩
  · rw [T.same ops.size T.hk (Nat.le_refl _) fun q o hq hlt ho => ?_]
    · exact h2
    · cases hp : quiet ops k o.op with
      | true => rfl
      | false => have := h1 q o (hall q hlt) ho hp; omega
  · rw [T.same ops.size h2 (Nat.le_refl _) fun q o hq hlt ho => h4 q o hq (hall q hlt) ho]
    exact h5
theorem InvL.any (hcL : chkL ops B k X0 = true) (TL : TraceL P nt ops k K N X0 V E G) {β0 : BM} {w0 : World} {NN : Exit → Act → World → Prop} (hK : ∀ β a w, St nt β (E ops.size) (G ops.size) a w → Ext (G 0).length β0 w0 β w → NN .normal a w) :
    ∀ (fuel : Nat) (L : Array Bool) (a : Act) (w : World), L.size = ops.size → cnt (fun j => L.getD j false) ops.size ≤ fuel → InvL nt ops k X0 V E G β0 w0 (fun j => L.getD j false) a w → wpAny P .any ops NN fuel L a w := by
  have T := TL.T
  have hc := chkL_all hcL
  have done : ∀ (L : Array Bool) (a : Act) (w : World), L.size = ops.size → InvL nt ops k X0 V E G β0 w0 (fun j => L.getD j false) a w → Region.ready .any ops L = [] → NN .normal a w := by
    intro L a w hL I hr
    have hall : ∀ j, j < ops.size → L.getD j false = true := by
      intro j
      induction j using Nat.strongRecOn with
      | _ j ih =>
        intro hj
        cases hX : L.getD j false with
        | true => rfl
        | false =>
          exfalso
          have hoj : ops[j]? = some ops[j] := Array.getElem?_eq_getElem hj
          have hb0 : okBits ops B = true := by unfold chk at hc; rw [Bool.and_eq_true] at hc; exact hc.1
          have : j ∈ Region.ready .any ops L := by
            unfold Region.ready
            refine List.mem_filter.2 ⟨List.mem_range.2 hj, ?_⟩
            have h1 : L.getD j true = false := by
              rw [Array.getD_eq_getD_getElem?] at hX ⊢
              rw [Array.getElem?_eq_getElem (by omega)] at hX ⊢
              exact hX
            rw [h1, hoj]
            simp only [Bool.not_false, Bool.true_and, Option.map_some, Option.getD_some]
            rw [Array.all_eq_true_iff_forall_mem]
            intro e he
            cases hbe : Region.binds .any e with
            | false => rfl
            | true =>
              have hd : e.on ∈ needs ops[j] := by
                unfold needs
                exact List.mem_map.2 ⟨e, List.mem_filter.2 ⟨by simpa using he, hbe⟩, rfl⟩
              have := (okBits_at hb0 hoj).1 e.on hd
              have := ih e.on this (by omega)
              simpa using this
          rw [hr] at this
          cases this
    obtain ⟨β, S, E'⟩ := I.fin T hall
    exact hK β a w S E'
  intro fuel
  induction fuel with
  | zero =>
    intro L a w hL hn I
    have hall := cnt_zero ops.size (Nat.le_zero.1 hn)
    have hr : Region.ready .any ops L = [] := by
      unfold Region.ready
      refine List.filter_eq_nil_iff.2 fun j hj => ?_
      have hjn := List.mem_range.1 hj
      have h1 : L.getD j true = true := by
        have := hall j hjn
        rw [Array.getD_eq_getD_getElem?] at this ⊢
        rw [Array.getElem?_eq_getElem (by omega)] at this ⊢
        exact this
      simp [h1]
    exact ⟨hr, done L a w hL I hr⟩
  | succ fuel ih =>
    intro L a w hL hn I
    refine ⟨done L a w hL I, fun i hi => ?_⟩
    unfold Region.ready at hi
    obtain ⟨h1, h2⟩ := List.mem_filter.1 hi
    have hin := List.mem_range.1 h1
    have hoi : ops[i]? = some ops[i] := Array.getElem?_eq_getElem hin
    rw [Bool.and_eq_true] at h2
    obtain ⟨h2, h3⟩ := h2
    have hXi : L.getD i false = false := by
      rw [Array.getD_eq_getD_getElem?] at h2 ⊢
      rw [Array.getElem?_eq_getElem (by omega)] at h2 ⊢
      simpa using h2
    rw [hoi] at h3
    simp only [Option.map_some, Option.getD_some] at h3
    rw [Array.all_eq_true_iff_forall_mem] at h3
    have hne : ∀ d ∈ needs ops[i], L.getD d false = true := by
      intro d hd
      unfold needs at hd
      obtain ⟨e, he, rfl⟩ := List.mem_map.1 hd
      obtain ⟨he1, he2⟩ := List.mem_filter.1 he
      have := h3 e (by simpa using he1)
      rw [he2] at this
      simpa using this
    refine I.one hcL TL hoi hne hXi fun a' w' I' => ?_
    have hset : (fun j => (L.setIfInBounds i true).getD j false) = addX (fun j => L.getD j false) i := by
      funext j
      unfold addX
      rw [Array.getD_eq_getD_getElem?, Array.getElem?_setIfInBounds]
      by_cases e : i = j
      · subst e
        rw [if_pos rfl, if_pos (by omega), if_pos rfl]
        rfl
      · rw [if_neg e, if_neg (fun h => e h.symm)]
        show _ = L.getD j false
        rw [Array.getD_eq_getD_getElem?]
    refine ih _ a' w' (by simp [hL]) ?_ ?_
    · rw [hset]
      have := cnt_add (X := fun j => L.getD j false) hXi ops.size hin
      omega
    · rw [hset]; exact I'

theorem AWp.drawnL {id : Nat} {env : Env} {H : AH} {Q : Exit → Env → AH → Prop} {π σ : List Nat} (hm : P.follows .mixedOrders = true) (hp : okP ops.size π σ = true) (hc : chkL (rlL π σ ops.toList).toArray B k X0 = true) (hk : k ≤ ops.size)
    (h : ARunL P nt (rlL π σ ops.toList).toArray k K N X0 (fun env H => Q .normal env H) 0 (rlL π σ ops.toList) env H) : AWp P nt (.region id ops true) Q env H := by
  intro β w a NN S hK
  have ok := okP_spec hp
  have hsz := (rl_get ok).1
  have key : wpAny P .any (rlL π σ ops.toList).toArray NN (rlL π σ ops.toList).toArray.size (Array.replicate (rlL π σ ops.toList).toArray.size false) a { w with drawn := w.drawn + 1 } := by
    rw [← hsz] at hk
    generalize rlL π σ ops.toList = l at h hc hk ⊢
    obtain ⟨V, E, G, h1, h2, h3, h4⟩ := traceL_of (ops := l.toArray) l 0 env H rfl (by simp) h
    have T : Trace P nt l.toArray k V E G := ⟨fun i hi => ⟨(h4 i (Nat.zero_le _) hi).1, (h4 i (Nat.zero_le _) hi).2.1⟩, by rw [h2]; exact S.wf, by rw [h1, h2]; exact S.er, hk⟩
    have L : TraceL P nt l.toArray k K N X0 V E G := ⟨T, fun i hi hki => (h4 i (Nat.zero_le _) hi).2.2.1 hki, fun i o ho hx hw => (h4 i (Nat.zero_le _) (Array.getElem?_eq_some_iff.1 ho).1).2.2.2 o ho hx hw⟩
    have hs : SameHeap w { w with drawn := w.drawn + 1 } := ⟨rfl, rfl, rfl, rfl⟩
    have hL : (fun j => (Array.replicate l.toArray.size false).getD j false) = fun _ => false := by
      funext j
      rw [Array.getD_eq_getD_getElem?, Array.getElem?_replicate]
      split <;> rfl
    have hf : fold l.toArray V (fun _ => false) (E 0) l.toArray.size = env := by
      have : ∀ m, fold l.toArray V (fun _ => false) (E 0) m = E 0 := by
        intro m
        induction m with
        | zero => rfl
        | succ m ih => simp [fold, ih]
      rw [this, h1]
    refine InvL.any hc L (β0 := β) (w0 := w) (fun β' a' w' S' E' => hK _ _ _ _ _ _ h3 S' (by rw [← h2]; exact E') (by rw [← h2]; exact T.lens _ (Nat.zero_le _) (Nat.le_refl _))) l.toArray.size _ a _ (by simp) (by rw [hL, cnt_none]; exact Nat.le_refl _) ?_
    rw [hL]
    refine ⟨fun j o hj => (by cases hj), fun j hj => (by cases hj), S.size, S.defers, β, by rw [hf]; exact S.envT, Ext.same _ hs, .inl ⟨fun j o hj => (by cases hj), ?_, fun i o hi ho hp hx id g1 g2 => ?_⟩⟩
    · have := T.pre k (i := 0) (Nat.zero_le _) (Nat.le_refl _)
      rw [h2] at this
      exact (S.rel.same hs).more this
    · have := T.lens (i := 0) i (Nat.zero_le _) (by have := T.hk; omega)
      rw [h2] at this
      exact S.rel.dom id (by omega)
  rw [hsz] at key
  refine wp_region_any hm (rl_any ok ops.size _ _ a _ ⟨by simp, by simp, fun i p hs => ?_⟩ key)
  have hi : i < ops.size := by rw [← ok.ls]; exact (List.getElem?_eq_some_iff.1 hs).1
  obtain ⟨p', h1, h2⟩ := ok.ps i hi
  rw [hs] at h1
  cases h1
  have hpl : p < ops.size := by rw [← ok.lp]; exact (List.getElem?_eq_some_iff.1 h2).1
  simp [Array.getElem?_replicate, hi, hpl]
theorem ARunL.plain {Q : Env → AH → Prop} : ∀ (l : List Oper) (i : Nat) (env : Env) (H : AH), ARunL P nt ops k K N X0 Q i l env H → ARunD P nt ops k Q i l env H
  | [], i, env, H, h => h
  | o :: r, i, env, H, h => by
    unfold ARunL at h
    unfold ARunD
    split at h
    case isFalse => exact h.elim
    rename_i hok
    rw [if_pos hok]
    split
    · rename_i hw
      rw [if_pos hw] at h
      unfold AStepD at h ⊢
      split at h
      · exact ⟨h.1.1, ARunL.plain _ _ _ _ h.2⟩
      · obtain ⟨v, H', a, b, c⟩ := h
        exact ⟨v, H', a, b.1, ARunL.plain _ _ _ _ c⟩
      · exact h.elim
    · rename_i hw
      rw [if_neg hw] at h
      exact ARunL.plain _ _ _ _ h
theorem ARunL.mono {Q Q' : Env → AH → Prop} (hq : ∀ e G, Q e G → Q' e G) : ∀ (l : List Oper) (i : Nat) (env : Env) (H : AH), ARunL P nt ops k K N X0 Q i l env H → ARunL P nt ops k K N X0 Q' i l env H
  | [], i, env, H, h => hq _ _ h
  | o :: r, i, env, H, h => by
    unfold ARunL at h ⊢
    split at h
    case isFalse => exact h.elim
    rename_i hok
    rw [if_pos hok]
    split
    · rename_i hw
      rw [if_pos hw] at h
      unfold AStepD at h ⊢
      split at h
      · exact ⟨h.1, ARunL.mono hq _ _ _ _ h.2⟩
      · obtain ⟨v, H', a, b, c⟩ := h
        exact ⟨v, H', a, b, ARunL.mono hq _ _ _ _ c⟩
      · exact h.elim
    · rename_i hw
      rw [if_neg hw] at h
      exact ARunL.mono hq _ _ _ _ h
theorem arunL_det : ∀ {Q : Env → AH → Prop} (l : List Oper) (i : Nat) (env : Env) (H : AH), ARunL P nt ops k K N X0 Q i l env H → ∃ env' H', ARunL P nt ops k K N X0 (fun e G => e = env' ∧ G = H') i l env H ∧ Q env' H'
  | Q, [], i, env, H, h => ⟨env, H, ⟨rfl, rfl⟩, h⟩
  | Q, o :: r, i, env, H, h => by
    unfold ARunL at h
    split at h
    case isFalse => exact h.elim
    rename_i hok
    by_cases hw : Region.wanted o (ayield ops env) = true
    · rw [if_pos hw] at h
      unfold AStepD at h
      split at h
      · rename_i he
        obtain ⟨e', H', a, b⟩ := arunL_det _ _ _ _ h.2
        refine ⟨e', H', ?_, b⟩
        unfold ARunL AStepD
        rw [if_pos hok, if_pos hw]
        simp only [he]
        exact ⟨h.1, a⟩
      · rename_i he
        obtain ⟨v, H1, hc, g, h2⟩ := h
        obtain ⟨e', H', a, b⟩ := arunL_det _ _ _ _ h2
        refine ⟨e', H', ?_, b⟩
        unfold ARunL AStepD
        rw [if_pos hok, if_pos hw]
        simp only [he]
        exact ⟨v, H1, hc, g, a⟩
      · exact h.elim
    · rw [if_neg hw] at h
      obtain ⟨e', H', a, b⟩ := arunL_det _ _ _ _ h
      refine ⟨e', H', ?_, b⟩
      unfold ARunL
      rw [if_pos hok, if_neg hw]
      exact a
theorem DWp.drawnL {id : Nat} {env : Env} {H : AH} {Q : Exit → Env → AH → Prop} {π σ : List Nat} (k : Nat) (K : Nat → Bool) (N : Nat) (hm : P.follows .mixedOrders = true) (hp : okP ops.size π σ = true) (hc : chkL (rlL π σ ops.toList).toArray B k X0 = true) (hk : k ≤ ops.size)
    (h : ∀ NN : Env → AH → Prop, (∀ env H, Q .normal env H → NN env H) → ARunL P nt (rlL π σ ops.toList).toArray k K N X0 NN 0 (rlL π σ ops.toList) env H) : DWp P nt (.region id ops true) Q env H := by
  obtain ⟨env', H', h1, h2⟩ := arunL_det _ _ _ _ (h _ fun _ _ h => h)
  obtain ⟨env2, H2, h3, h4, h5⟩ := arunD_det _ _ _ _ h1.plain
  obtain ⟨rfl, rfl⟩ := h5
  exact ⟨.normal, env2, H2, AWp.drawnL hm hp hc hk (by simpa using h1), h4, h2⟩
end
end Go.Proofs.Ytbckijeffiofdaa.AL

/- AL, part 30: words for regions that draw their order, with lax ones. No condition. -/
import Derived.Test.YtbckijeffiofdaaAL29
namespace Go.Proofs.Ytbckijeffiofdaa.AL
open Go Go.RowKit
set_option linter.unusedVariables false
set_option linter.unusedSimpArgs false

def ContL (P : Program) (nt : Nat) (ops : Array Oper) (k : Nat) (K : Nat → Bool) (N : Nat) (X : List Nat) (Q : Env → AH → Prop) (i : Nat) (o : Oper) (r : List Oper) (env : Env) (H : AH) : Value → AH → Prop := fun v H' => ((i < k → H <+: H') ∧ (k ≤ i → Stand K H H' ∧ Stand (kN N) H H') ∧ (i ∈ X → LaxC K N env o H H')) ∧ ARunL P nt ops k K N X Q (i + 1) r (aput env o.dst v) H'
@[simp] theorem ContL_apply {P : Program} {nt : Nat} {ops : Array Oper} {k : Nat} {K : Nat → Bool} {N : Nat} {X : List Nat} {Q : Env → AH → Prop} {i : Nat} {o : Oper} {r : List Oper} {env : Env} {H H' : AH} {v : Value} :
    ContL P nt ops k K N X Q i o r env H v H' = (((i < k → H <+: H') ∧ (k ≤ i → Stand K H H' ∧ Stand (kN N) H H') ∧ (i ∈ X → LaxC K N env o H H')) ∧ ARunL P nt ops k K N X Q (i + 1) r (aput env o.dst v) H') := rfl
def AGoL (g w : Bool) (P : Program) (H : AH) (r : AR) (K : Value → AH → Prop) (K0 : Prop) : Prop := if g = true then (if w = true then (match r with
  | .val v H' => K v H'
  | .call f args => CallD P f args H K
  | .bad => False) else K0) else False
@[simp] theorem AGoL_val {P : Program} {H H' : AH} {v : Value} {K : Value → AH → Prop} {K0 : Prop} : AGoL true true P H (.val v H') K K0 = K v H' := by simp [AGoL]
@[simp] theorem AGoL_off {P : Program} {H : AH} {r : AR} {K : Value → AH → Prop} {K0 : Prop} : AGoL true false P H r K K0 = K0 := by simp [AGoL]
@[simp] theorem ARunL_nil {P : Program} {nt k i : Nat} {ops : Array Oper} {K : Nat → Bool} {N : Nat} {X : List Nat} {Q : Env → AH → Prop} {env : Env} {H : AH} : ARunL P nt ops k K N X Q i [] env H = Q env H := rfl
@[simp] theorem ARunL_cons {P : Program} {nt k i : Nat} {ops : Array Oper} {K : Nat → Bool} {N : Nat} {X : List Nat} {Q : Env → AH → Prop} {env : Env} {H : AH} {o : Oper} {r : List Oper} : ARunL P nt ops k K N X Q i (o :: r) env H =
    AGoL (okDst nt o.dst && okGuard ops env o) (Region.wanted o (ayield ops env)) P H (aop P env H o.op) (ContL P nt ops k K N X Q i o r env H) (ARunL P nt ops k K N X Q (i + 1) r (aput env o.dst undef) H) := by
  simp only [ARunL, AGoL, Bool.and_eq_true, ContL]
  rfl
@[simp] theorem Stand_refl {K : Nat → Bool} {H : AH} : Stand K H H = True := eq_true .rfl'
@[simp] theorem RefK_int {K : Nat → Bool} {n : Nat} {k : IntKind} {x : Int} : RefK K n (.int k x) = True := eq_true fun i h => by simp [idV] at h
@[simp] theorem OnlyK_int {K : Nat → Bool} {n : Nat} {k : IntKind} {x : Int} : OnlyK K n (.int k x) = True := eq_true (.plain rfl)
@[simp] theorem OnlyK_bool {K : Nat → Bool} {n : Nat} {x : Bool} : OnlyK K n (.bool x) = True := eq_true (.plain rfl)
@[simp] theorem OnlyK_str {K : Nat → Bool} {n : Nat} {x : ByteArray} : OnlyK K n (.string x) = True := eq_true (.plain rfl)
attribute [simp] LaxC RefKs OnlyKs readK Op.operands
/-! The walk does not look at what each waits for. -/
def strip (o : Oper) : Oper := { o with after := #[] }
theorem strip_yield {ops : Array Oper} {env : Env} {j : Nat} : ayield (ops.map strip) env j = ayield ops env j := by
  unfold ayield
  rw [Array.getElem?_map]
  cases ops[j]? <;> rfl
theorem strip_dst {ops : Array Oper} {j : Nat} : ((ops.map strip)[j]?.bind fun x => x.dst) = ops[j]?.bind fun x => x.dst := by
  rw [Array.getElem?_map]
  cases ops[j]? <;> rfl
theorem strip_guard {ops : Array Oper} {env : Env} {o : Oper} : okGuard (ops.map strip) env (strip o) = okGuard ops env o := by
  unfold okGuard
  have : (strip o).guard = o.guard := rfl
  rw [this]
  cases o.guard with
  | none => rfl
  | some g => simp only [strip_yield, strip_dst]
theorem strip_wanted {ops : Array Oper} {env : Env} {o : Oper} : Region.wanted (strip o) (ayield (ops.map strip) env) = Region.wanted o (ayield ops env) := by
  have : ayield (ops.map strip) env = ayield ops env := funext fun j => strip_yield
  rw [this]
  rfl
theorem ARunL.strip {P : Program} {nt k : Nat} {ops : Array Oper} {K : Nat → Bool} {N : Nat} {X : List Nat} {Q : Env → AH → Prop} : ∀ (l : List Oper) (i : Nat) (env : Env) (H : AH), ARunL P nt (ops.map AL.strip) k K N X Q i (l.map AL.strip) env H → ARunL P nt ops k K N X Q i l env H
  | [], i, env, H, h => h
  | o :: r, i, env, H, h => by
    rw [List.map_cons] at h
    unfold ARunL at h ⊢
    rw [strip_guard, strip_wanted] at h
    split at h
    case isFalse => exact h.elim
    rename_i hok
    rw [if_pos (show okDst nt o.dst = true ∧ okGuard ops env o = true from hok)]
    split
    · rename_i hw
      rw [if_pos hw] at h
      unfold AStepD at h ⊢
      have e : (AL.strip o).op = o.op := rfl
      rw [e] at h
      split at h
      · exact ⟨h.1, ARunL.strip _ _ _ _ h.2⟩
      · obtain ⟨v, H', a, b, c⟩ := h
        exact ⟨v, H', a, b, ARunL.strip _ _ _ _ c⟩
      · exact h.elim
    · rename_i hw
      rw [if_neg hw] at h
      exact ARunL.strip _ _ _ _ h
def rlb0 (σ : List Nat) (o : Oper) : Oper := { o with after := #[], guard := o.guard.map fun g => (σ.getD g.1 g.1, g.2) }
def rl0 (π σ : List Nat) (ops : List Oper) : List Oper := π.filterMap fun i => (ops[i]?).map (rlb0 σ)
theorem rl0_eq {σ : List Nat} {ops : List Oper} : ∀ π : List Nat, rl0 π σ ops = (rlL π σ ops).map strip
  | [] => rfl
  | i :: π => by
    unfold rl0 rlL
    rw [List.filterMap_cons, List.filterMap_cons]
    have ih := rl0_eq (σ := σ) (ops := ops) π
    unfold rl0 rlL at ih
    cases ops[i]? with
    | none => simpa using ih
    | some o => simp only [Option.map_some, List.map_cons, ih]; rfl
theorem DWp.drawn0 {P : Program} {nt : Nat} {ops : Array Oper} {B : List Nat} {X0 : List Nat} {id : Nat} {env : Env} {H : AH} {Q : Exit → Env → AH → Prop} {π σ : List Nat} (k : Nat) (K : Nat → Bool) (N : Nat) (hm : P.follows .mixedOrders = true) (hp : okP ops.size π σ = true) (hc : chkL (rlL π σ ops.toList).toArray B k X0 = true) (hk : k ≤ ops.size)
    (h : ∀ NN : Env → AH → Prop, (∀ env H, Q .normal env H → NN env H) → ARunL P nt (rl0 π σ ops.toList).toArray k K N X0 NN 0 (rl0 π σ ops.toList) env H) : DWp P nt (.region id ops true) Q env H :=
  DWp.drawnL k K N hm hp hc hk fun NN hN => ARunL.strip _ _ _ _ (by
    have := h NN hN
    rw [rl0_eq] at this
    rwa [List.map_toArray])
/-- The lists that are read. -/
def kpl (vs : List Value) : Nat → Bool := fun i => vs.any fun v => idOf v == some i
theorem kpl_some {vs : List Value} {i : Nat} (h : kpl vs i = true) : ∃ v ∈ vs, idOf v = some i := by
  obtain ⟨v, hv, e⟩ := List.any_eq_true.1 h
  exact ⟨v, hv, by simpa using e⟩
theorem kpl_of {vs : List Value} {v : Value} {i : Nat} (hv : v ∈ vs) (h : idOf v = some i) : kpl vs i = true := List.any_eq_true.2 ⟨v, hv, by simp [h]⟩
theorem refK_sl {vs : List Value} {G : AH} {v : Value} {cs : List Value} (h : Sl G v cs) (hm : v ∈ vs) : RefK (kpl vs) G.length v := fun i hi => by
  have : idOf v = some i := by
    rcases h with ⟨rfl, _⟩ | ⟨j, off, g, c, o, rfl, _⟩
    · simp [idV] at hi
    · simpa [idV, idOf] using hi
  exact ⟨kpl_of hm this, h.id_lt this⟩
theorem refK_el {vs : List Value} {G : AH} {v : Value} {cs : List Value} (h : Sl G v cs) (hm : v ∈ vs) (n : Nat) : RefK (kpl vs) G.length (elP v n) := fun i hi => by
  have : idOf v = some i := by
    rcases h with ⟨rfl, _⟩ | ⟨j, off, g, c, o, rfl, _⟩
    · simp [elP, idV, undef] at hi
    · simpa [elP, idV, idOf] using hi
  exact ⟨kpl_of hm this, h.id_lt this⟩
theorem plainK_top {G : AH} : PlainK (kN G.length) G := fun i o h ho => by
  have := (List.getElem?_eq_some_iff.1 ho).1
  simp [kN] at h
  omega
theorem madeK_top {G G' : AH} : MadeK (kN G.length) G G' := fun i h _ => by simpa [kN] using h
section
variable {P : Program} {G G0 : AH} {B : Nat → Prop} {l l0 : List Item} {u s : Value} {t t2 e : TypeId} {k : Nat} {q : EInfo}
theorem Sep.appendS {α : Type} {f : α → Value} {xs ys : List α} (h : Sep G B l) (hk : l[k]? = some (flat u e (xs.map f))) (hN : Up B G.length) (he : elemT P t = some e) (he2 : elemT P t2 = some e) (hq : einfo P e = some q) (hq1 : q.size = 1) (hs : Sl G s (ys.map f)) (hb : xs.length + ys.length ≤ 4294967296) :
    ∃ v' G', aAppend P G t t2 u s = some (v', G') ∧ Sep G' B (l.set k (flat v' e ((lapp xs ys).map f))) ∧ AgB B G G' ∧ isTup v' = false ∧ v'.cells = #[v'] ∧ (∀ i, i < G.length → i ∉ ids u → G'[i]? = G[i]?) := by
  obtain ⟨v', G', a, b, c, d, g⟩ := h.appendG (f := f) hk hN he he2 hq hq1 hs hb
  have hd : srcD P t2 = true := by unfold srcD; rw [elemT_some he2]
  obtain ⟨v1, G1, a1, _, _, d1, _⟩ := (h.own hk).apx (Nat.zero_le _) he hq hq1 hd hs (by simpa using hb)
  rw [a] at a1
  cases a1
  exact ⟨v', G', a, b, c, d, g, fun i hi hm => d1 i hi fun hu => hm (mem_ids.2 hu)⟩
/-- What a list's append leaves. -/
theorem stand_kN {G G' : AH} (h : ∀ i, i < G.length → i ∉ ids u → G'[i]? = G[i]?) (h0 : Sep G0 B l0) (hk : ∃ c, l0[k]? = some (flat u e c)) : Stand (kN G0.length) G G' := fun i hi hK => h i hi fun hm => by
  obtain ⟨c, hk⟩ := hk
  obtain ⟨F, p, hF⟩ := h0.get hk
  obtain ⟨_, rfl⟩ := p
  have := (hF i hm).2
  simp [kN] at hK
  omega
theorem Sep.ids_apart {e2 : TypeId} {c c2 : List Value} {v : Value} {j : Nat} (h0 : Sep G0 B l0) (hk : l0[k]? = some (flat u e c)) (hj : l0[j]? = some (flat v e2 c2)) (hn : k ≠ j) : ∀ i ∈ ids u, idOf v ≠ some i := fun i hi hv => by
  obtain ⟨F, h1, h2⟩ := h0
  obtain ⟨_, p⟩ := (h1 k _ hk).1
  obtain ⟨_, r⟩ := (h1 j _ hj).1
  exact h2 k j (List.getElem?_eq_some_iff.1 hk).1 (List.getElem?_eq_some_iff.1 hj).1 hn i (by rw [p]; exact hi) (by rw [r]; exact mem_ids.2 hv)
theorem Sep.ids_ours {c : List Value} (h0 : Sep G0 B l0) (hk : l0[k]? = some (flat u e c)) : ∀ i ∈ ids u, B i := fun i hi => by
  obtain ⟨F, p, hF⟩ := h0.get hk
  obtain ⟨_, rfl⟩ := p
  exact (hF i hi).1
theorem stand_kpl {G G' : AH} {vs : List Value} (h : ∀ i, i < G.length → i ∉ ids u → G'[i]? = G[i]?) (ha : ∀ v ∈ vs, ∀ i ∈ ids u, idOf v ≠ some i) : Stand (kpl vs) G G' := fun i hi hK => h i hi fun hm => by
  obtain ⟨v, hv, e⟩ := kpl_some hK
  exact ha v hv i hm e
end
end Go.Proofs.Ytbckijeffiofdaa.AL

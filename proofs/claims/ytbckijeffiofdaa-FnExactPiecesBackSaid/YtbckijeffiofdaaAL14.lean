/- AL, part 14: words for walks: slices that read as lists, the heap's ends. No condition. -/
import Derived.Test.YtbckijeffiofdaaAL13
namespace Go.Proofs.Ytbckijeffiofdaa.AL
open Go Go.RowKit
set_option linter.unusedVariables false
set_option linter.unusedSimpArgs false

attribute [simp] okDst okGuard Region.wanted aop aev constV plainV arOf arOf2 aops aparts aopt aBuiltin aBin' aBin aBinI aUn aNil aCallee aExtract ayield aresults andThen flatV aMin aMax
@[simp] theorem aput_some {env : Env} {d t : Tmp} {v : Value} : aput env (some d) v t = if t = d then some v else env t := rfl
@[simp] theorem aput_none {env : Env} {v : Value} : aput env none v = env := rfl
/-- What is left of a region: a name, so that simp does not look into it before it runs. -/
def Cont (P : Program) (nt : Nat) (ops : Array Oper) (K : Env → AH → Prop) (r : List Oper) (env : Env) (d : Option Tmp) : Value → AH → Prop := fun v H' => ARun P nt ops K r (aput env d v) H'
@[simp] theorem Cont_apply {P : Program} {nt : Nat} {ops : Array Oper} {K : Env → AH → Prop} {r : List Oper} {env : Env} {d : Option Tmp} {v : Value} {H' : AH} : Cont P nt ops K r env d v H' = ARun P nt ops K r (aput env d v) H' := rfl
def AGo (g w : Bool) (P : Program) (H : AH) (r : AR) (K : Value → AH → Prop) : Prop := if g = true then (if w = true then (match r with
  | .val v H' => K v H'
  | .call f args => CallK P f args H K
  | .bad => False) else K undef H) else False
@[simp] theorem AGo_val {P : Program} {H H' : AH} {v : Value} {K : Value → AH → Prop} : AGo true true P H (.val v H') K = K v H' := by simp [AGo]
@[simp] theorem AGo_call {P : Program} {H : AH} {f : FuncId} {args : List Value} {K : Value → AH → Prop} : AGo true true P H (.call f args) K = CallK P f args H K := by simp [AGo]
@[simp] theorem AGo_bad {P : Program} {H : AH} {K : Value → AH → Prop} : AGo true true P H .bad K = False := by simp [AGo]
@[simp] theorem AGo_off {P : Program} {H : AH} {r : AR} {K : Value → AH → Prop} : AGo true false P H r K = K undef H := by simp [AGo]
@[simp] theorem ARun_nil {P : Program} {nt : Nat} {ops : Array Oper} {K : Env → AH → Prop} {env : Env} {H : AH} : ARun P nt ops K [] env H = K env H := rfl
@[simp] theorem ARun_cons {P : Program} {nt : Nat} {ops : Array Oper} {K : Env → AH → Prop} {env : Env} {H : AH} {o : Oper} {r : List Oper} : ARun P nt ops K (o :: r) env H =
    AGo (okDst nt o.dst && okGuard ops env o) (Region.wanted o (ayield ops env)) P H (aop P env H o.op) (Cont P nt ops K r env o.dst) := by
  simp only [ARun, AGo, Bool.and_eq_true]
  rfl
def ContD (P : Program) (nt : Nat) (ops : Array Oper) (k : Nat) (K : Env → AH → Prop) (i : Nat) (r : List Oper) (env : Env) (d : Option Tmp) (H : AH) : Value → AH → Prop := fun v H' => (i < k → H <+: H') ∧ ARunD P nt ops k K (i + 1) r (aput env d v) H'
@[simp] theorem ContD_apply {P : Program} {nt : Nat} {ops : Array Oper} {k : Nat} {K : Env → AH → Prop} {i : Nat} {r : List Oper} {env : Env} {d : Option Tmp} {v : Value} {H H' : AH} : ContD P nt ops k K i r env d H v H' = ((i < k → H <+: H') ∧ ARunD P nt ops k K (i + 1) r (aput env d v) H') := rfl
def AGoD (g w : Bool) (P : Program) (H : AH) (r : AR) (K : Value → AH → Prop) : Prop := if g = true then (if w = true then (match r with
  | .val v H' => K v H'
  | .call f args => CallD P f args H K
  | .bad => False) else K undef H) else False
@[simp] theorem AGoD_val {P : Program} {H H' : AH} {v : Value} {K : Value → AH → Prop} : AGoD true true P H (.val v H') K = K v H' := by simp [AGoD]
@[simp] theorem AGoD_call {P : Program} {H : AH} {f : FuncId} {args : List Value} {K : Value → AH → Prop} : AGoD true true P H (.call f args) K = CallD P f args H K := by simp [AGoD]
@[simp] theorem AGoD_bad {P : Program} {H : AH} {K : Value → AH → Prop} : AGoD true true P H .bad K = False := by simp [AGoD]
@[simp] theorem AGoD_off {P : Program} {H : AH} {r : AR} {K : Value → AH → Prop} : AGoD true false P H r K = K undef H := by simp [AGoD]
@[simp] theorem ARunD_nil {P : Program} {nt k i : Nat} {ops : Array Oper} {K : Env → AH → Prop} {env : Env} {H : AH} : ARunD P nt ops k K i [] env H = K env H := rfl
@[simp] theorem ARunD_cons {P : Program} {nt k i : Nat} {ops : Array Oper} {K : Env → AH → Prop} {env : Env} {H : AH} {o : Oper} {r : List Oper} : ARunD P nt ops k K i (o :: r) env H =
    AGoD (okDst nt o.dst && okGuard ops env o) (Region.wanted o (ayield ops env)) P H (aop P env H o.op) (ContD P nt ops k K i r env o.dst H) := by
  have hp : H <+: H := List.prefix_rfl
  simp only [ARunD, AGoD, Bool.and_eq_true, ContD, hp, implies_true, true_and]
  rfl
@[simp] theorem isTup_int {k : IntKind} {n : Int} : isTup (.int k n) = false := rfl
@[simp] theorem isTup_bool {b : Bool} : isTup (.bool b) = false := rfl
@[simp] theorem isTup_string {s : ByteArray} : isTup (.string s) = false := rfl
@[simp] theorem isTup_slice {a : Option Addr} {n c : Nat} : isTup (.slice a n c) = false := rfl
@[simp] theorem isTup_pointer {a : Option Addr} : isTup (.pointer a) = false := rfl
@[simp] theorem isTup_agg {a : Array Value} : isTup (.agg a) = false := rfl
@[simp] theorem isTup_tuple {a : Array Value} : isTup (.tuple a) = true := rfl
theorem AWp.region' {P : Program} {nt : Nat} {env : Env} {H : AH} {id : Nat} {ops : Array Oper} {Q : Exit → Env → AH → Prop} (h : ∀ K : Env → AH → Prop, (∀ env H, Q .normal env H → K env H) → ARun P nt ops K ops.toList env H) : AWp P nt (.region id ops false) Q env H := AWp.region (h _ fun _ _ h => h)
theorem AWp.drawn' {P : Program} {nt : Nat} {env : Env} {H : AH} {id : Nat} {ops : Array Oper} {Q : Exit → Env → AH → Prop} {B : List Nat} (k : Nat) (hm : P.follows .mixedOrders = true) (hc : chk ops B k = true) (hk : k ≤ ops.size) (h : ∀ K : Env → AH → Prop, (∀ env H, Q .normal env H → K env H) → ARunD P nt ops k K 0 ops.toList env H) : AWp P nt (.region id ops true) Q env H := AWp.drawn hm hc hk (h _ fun _ _ h => h)
theorem wrap_id {x : Int} (h0 : -9223372036854775808 ≤ x) (h1 : x ≤ 9223372036854775807) : IntKind.i64.wrap x = x := by
  simp [IntKind.wrap, IntKind.bits, IntKind.signed]; omega
theorem AWp.ct {P : Program} {nt : Nat} {env : Env} {H : AH} {c : Operand} {x y : Code} {Q : Exit → Env → AH → Prop} (hc : aev env c = some (.bool true)) (h : AWp P nt x Q env H) : AWp P nt (.cond c x y) Q env H := AWp.cond hc (by simpa using h)
theorem AWp.cf {P : Program} {nt : Nat} {env : Env} {H : AH} {c : Operand} {x y : Code} {Q : Exit → Env → AH → Prop} (hc : aev env c = some (.bool false)) (h : AWp P nt y Q env H) : AWp P nt (.cond c x y) Q env H := AWp.cond hc (by simpa using h)
/-- Less may be known. -/
theorem AWp.weaken {P : Program} {nt : Nat} {c : Code} {Q : Exit → Env → AH → Prop} {env env' : Env} {H : AH} (h : AWp P nt c Q env' H) (he : ∀ t v, env' t = some v → env t = some v) : AWp P nt c Q env H :=
  fun β w a K S hK => h β w a K ⟨S.rel, S.wf, fun t v hv => S.envT t v (he t v hv), fun t v hv => S.er t v (he t v hv), S.size, S.defers⟩ hK

section
variable {P : Program} {H L : AH} {v : Value} {cs : List Value} {t e : TypeId}
theorem alive_app {i g : Nat} {o : AO} (h : alive H i g = some o) : alive (H ++ L) i g = some o := by
  obtain ⟨h1, h2⟩ := alive_some h
  unfold alive
  rw [List.getElem?_append_left (List.getElem?_eq_some_iff.1 h1).1, h1]
  simp [h2]
@[simp] theorem alive_len {g : Nat} : alive (H ++ L) H.length g = alive L 0 g := by unfold alive; rw [List.getElem?_append_right (Nat.le_refl _), Nat.sub_self]
@[simp] theorem alive_add {k g : Nat} : alive (H ++ L) (H.length + k) g = alive L k g := by unfold alive; rw [List.getElem?_append_right (by omega), Nat.add_sub_cancel_left]
@[simp] theorem alive_zero {o : AO} {g : Nat} : alive (o :: L) 0 g = if o.gen = g then some o else none := rfl
@[simp] theorem alive_succ {o : AO} {k g : Nat} : alive (o :: L) (k + 1) g = alive L k g := rfl
@[simp] theorem alive_one {o : AO} {g : Nat} : alive (o :: L) 1 g = alive L 0 g := rfl
@[simp] theorem alive_two {o p : AO} {g : Nat} : alive (o :: p :: L) 2 g = alive L 0 g := rfl
@[simp] theorem set_len {o : AO} : (H ++ L).set H.length o = H ++ L.set 0 o := by rw [List.set_append]; simp
@[simp] theorem set_add {o : AO} {k : Nat} : (H ++ L).set (H.length + k) o = H ++ L.set k o := by rw [List.set_append, if_neg (by omega), Nat.add_sub_cancel_left]
theorem aNew_eq {cells : List Value} {sz : Nat} : aNew H cells e sz = H ++ [⟨cells, e, sz, 0, false⟩] := rfl

/-- A slice (elements of one cell) that reads as a list. -/
def Sl (H : AH) (v : Value) (cs : List Value) : Prop :=
  (v = .slice none 0 0 ∧ cs = []) ∨ ∃ i off g c o, v = .slice (some ⟨i, off, some g⟩) cs.length c ∧ alive H i g = some o ∧ (o.cells.drop off).take cs.length = cs ∧ off + cs.length ≤ o.cells.length ∧ o.sz = 1
def elP (v : Value) (k : Nat) : Value := match v with
  | .slice (some ⟨i, off, some g⟩) _ _ => .pointer (some ⟨i, off + k, some g⟩)
  | _ => undef
theorem Sl.app (h : Sl H v cs) : Sl (H ++ L) v cs := by
  rcases h with h | ⟨i, off, g, c, o, h1, h2, h3⟩
  · exact .inl h
  · exact .inr ⟨i, off, g, c, o, h1, alive_app h2, h3⟩
theorem Sl.tup (h : Sl H v cs) : isTup v = false := by
  rcases h with ⟨rfl, _⟩ | ⟨i, off, g, c, o, rfl, _⟩ <;> rfl
theorem Sl.one (h : Sl H v cs) : v.cells = #[v] := by
  rcases h with ⟨rfl, _⟩ | ⟨i, off, g, c, o, rfl, _⟩ <;> rfl
theorem Sl.nil : Sl H (.slice none 0 0) [] := .inl ⟨rfl, rfl⟩
theorem Sl.pre {H' : AH} (h : Sl H v cs) (hp : H <+: H') : Sl H' v cs := by
  obtain ⟨L, rfl⟩ := hp
  exact h.app
theorem Sl.len (h : Sl H v cs) (he : elemT P t = some e) : aLen P H t v = some (.int .i64 cs.length) := by
  have hu := elemT_some he
  rcases h with ⟨rfl, rfl⟩ | ⟨i, off, g, c, o, rfl, h2, h3⟩
  · simp [aLen, hu]
  · simp [aLen, hu, h2]
theorem Sl.idx (h : Sl H v cs) (he : elemT P t = some e) (hs : sizeT P e = some 1) {k : Nat} (hk : k < cs.length) {kk : IntKind} : aIndexAddr P H t v (.int kk (k : Int)) = some (elP v k) := by
  rcases h with ⟨rfl, rfl⟩ | ⟨i, off, g, c, o, rfl, h2, h3⟩
  · simp at hk
  · have : (k : Int) < (cs.length : Int) := by omega
    simp [aIndexAddr, he, hs, h2, elP, this, hk]
theorem Sl.load (h : Sl H v cs) (hs : sizeT P e = some 1) (hb : aggT P e = some false) {k : Nat} {x : Value} (hk : cs[k]? = some x) : aLoad P H e (elP v k) = some x := by
  rcases h with ⟨rfl, rfl⟩ | ⟨i, off, g, c, o, rfl, h2, h3, h4, _⟩
  · simp at hk
  · have hlt := (List.getElem?_eq_some_iff.1 hk).1
    simp only [elP, aLoad, h2, hs, hb]
    rw [← h3, List.getElem?_take, if_pos hlt, List.getElem?_drop] at hk
    exact hk
theorem Sl.new {cells : List Value} {g c n : Nat} (hc : cells.length = n) : Sl (H ++ (⟨cells, e, 1, g, false⟩ :: L)) (.slice (some ⟨H.length, 0, some g⟩) n c) cells := by
  subst hc
  exact .inr ⟨H.length, 0, g, c, _, rfl, by simp; rfl, by simp, by simp, rfl⟩
def ints (xs : List Int) : List Value := xs.map (.int .i64)
theorem ints_get {xs : List Int} {k : Nat} (h : k < xs.length) : (ints xs)[k]? = some (.int .i64 xs[k]) := by simp [ints, h]
@[simp] theorem ints_len {xs : List Int} : (ints xs).length = xs.length := by simp [ints]
theorem ints_R {n : Nat} {xs : List Int} : ∀ c ∈ ints xs, R0 n c = true := by
  intro c hc
  obtain ⟨x, _, rfl⟩ := List.mem_map.1 hc
  rfl
end

/-! ### Results told anew -/
/-- A new list: where it lies. -/
def Fresh (H' : AH) (N : Nat) (e : TypeId) (v : Value) (cells : List Value) : Prop := ∃ i off g c o, N ≤ i ∧ v = .slice (some ⟨i, off, some g⟩) cells.length c ∧ H'[i]? = some o ∧ o.gen = g ∧ o.elem = e ∧ o.sz = 1 ∧ o.ro = false ∧ off + cells.length ≤ o.cells.length ∧ (o.cells.drop off).take cells.length = cells
def mkL (N n : Nat) : Value := .slice (some ⟨N, 0, some 0⟩) n (n + 1)
def objL (e : TypeId) (cells : List Value) : AO := ⟨cells, e, 1, 0, false⟩
theorem Fresh.sl {H' : AH} {N : Nat} {e : TypeId} {v : Value} {cells : List Value} (h : Fresh H' N e v cells) : Sl H' v cells := by
  obtain ⟨i, off, g, c, o, h0, rfl, h1, h2, h3, h4, h5, h6, h7⟩ := h
  exact .inr ⟨i, off, g, c, o, rfl, by simp [alive, h1, h2], h7, h6, h4⟩
theorem Sl.mkL {H L : AH} {e : TypeId} {cells : List Value} {n : Nat} (h : cells.length = n) : Sl (H ++ objL e cells :: L) (mkL H.length n) cells := Sl.new h
theorem vr0_flatplain {N : Nat} {ρ : List Src} {c : Value} (h : plainV c = true) : vr0 N ρ c c := by
  unfold vr0
  split
  · simp [plainV] at h
  · simp [plainV] at h
  · exact ⟨rfl, h⟩
theorem vr2_plain {N : Nat} {ρ : List Src} {c : Value} (h : plainV c = true) : vr2 N ρ c c := by
  unfold vr2
  split
  · simp [plainV] at h
  · exact vr0_flatplain h
/-- One list, new, and plain values behind it. -/
theorem Canon.list {H H' : AH} {e : TypeId} {v : Value} {cells : List Value} (hw : WF H) (hH : H <+: H') (hf : Fresh H' H.length e v cells) (hp : PlainL cells) {rest : List Value} (hr : PlainL rest) :
    ∃ ext ρ, H' = H ++ ext ∧ Canon H ext [objL e cells] ρ ∧ vr3 H.length ρ (packed (mkL H.length cells.length :: rest)) (packed (v :: rest)) := by
  obtain ⟨i, off, g, c, o, h0, rfl, h1, h2, h3, h4, h5, h6, h7⟩ := hf
  obtain ⟨ext, rfl⟩ := hH
  refine ⟨ext, [⟨i, off, g⟩], rfl, ⟨rfl, fun o ho c hc => hw o ho c hc, fun i j s t h1 h2 hne => ?_, fun i s n q1 q2 => ?_⟩, ?_⟩
  · have h3 := (List.getElem?_eq_some_iff.1 h1).1
    have h4 := (List.getElem?_eq_some_iff.1 h2).1
    simp at h3 h4
    omega
  · have q3 := (List.getElem?_eq_some_iff.1 q1).1
    simp at q3
    subst q3
    simp at q1 q2
    subst q1 q2
    refine ⟨h0, o, h1, h2, rfl, h3.symm, h4.symm, rfl, h5, h6, fun j c hc => ⟨c, ?_, vr0_flatplain (hp c (List.mem_of_getElem? hc))⟩⟩
    have hlt := (List.getElem?_eq_some_iff.1 hc).1
    simp only [objL] at hc hlt ⊢
    rw [← h7, List.getElem?_take, if_pos hlt, List.getElem?_drop] at hc
    exact hc
  · have hv : vr2 H.length [⟨i, off, g⟩] (mkL H.length cells.length) (.slice (some ⟨i, off, some g⟩) cells.length c) := by
      unfold mkL vr2 vr0
      refine ⟨rfl, fun h => by omega, .inr ⟨Nat.le_refl _, rfl, ⟨i, off, g⟩, by simp, rfl, rfl, by simp⟩⟩
    cases rest with
    | nil => exact hv
    | cons x r =>
      unfold packed vr3
      simp only [List.toList_toArray]
      exact .cons hv (All2.same fun y hy => vr2_plain (hr y hy))
theorem good_list {H : AH} {e : TypeId} {cells rest : List Value} (hw : WF H) (hp : PlainL cells) (hr : PlainL rest) : Good H (packed (mkL H.length cells.length :: rest)) (H ++ [objL e cells]) := by
  obtain ⟨h1, h2⟩ := hw.push (cells := cells) (e := e) (sz := 1) (fun c hc => R0_plain (hp c hc))
  refine ⟨h1, ?_, by simp⟩
  have hm : R2 (H ++ [objL e cells]).length (mkL H.length cells.length) = true := R2_of0 (by simp [R0, mkL])
  cases rest with
  | nil => exact R3_of2 hm
  | cons x r =>
    simp only [packed, R3, List.all_toArray]
    refine List.all_eq_true.2 fun y hy => ?_
    rcases List.mem_cons.1 hy with rfl | hy
    · exact hm
    · exact R2_of0 (R0_plain (hr y hy))
/-- A FUNCTION THAT HANDS BACK A NEW LIST OF PLAIN VALUES (and plain values behind it). -/
theorem ACall.list {P : Program} {f : FuncId} {fn : Func} {c : Code} {args : List Value} {H : AH} {rs : List ResultVar} {nt : Nat} {e : TypeId} {cells rest : List Value} (hf : P.funcs[f]? = some fn) (hb : fn.body = some c) (hn : (fn.name == "runtime.NumGoroutine") = false)
    (hr : fn.results.toList = rs) (ht : args.length + (fn.ntmps - args.length) = nt) (hp : PlainL cells) (hrest : PlainL rest)
    (h : WF H → AWp P nt c (fun x env' H' => (x = .normal ∨ x = .ret) ∧ H <+: H' ∧ ∃ v, Fresh H' H.length e v cells ∧ aresults P H' env' rs = some (v :: rest)) (fun t => args[t]?) H) :
    ACall P f args H (packed (mkL H.length cells.length :: rest)) (H ++ [objL e cells]) :=
  ACall.of_body hf hb hn (fun hw _ => good_list hw hp hrest) rfl (fun hw => by
    rw [ht]
    refine (h hw).mono ?_
    rintro x env' H' ⟨he, hpre, v, hfr, hv⟩
    obtain ⟨ext, ρ, h1, h2, h3⟩ := Canon.list hw hpre hfr hp hrest
    exact ⟨he, _, ext, ρ, by rw [hr]; exact hv, h1, h2, h3⟩)
/-- The same, where no list was made: nil. -/
theorem ACall.nilList {P : Program} {f : FuncId} {fn : Func} {c : Code} {args : List Value} {H : AH} {rs : List ResultVar} {nt : Nat} {rest : List Value} (hf : P.funcs[f]? = some fn) (hb : fn.body = some c) (hn : (fn.name == "runtime.NumGoroutine") = false)
    (hr : fn.results.toList = rs) (ht : args.length + (fn.ntmps - args.length) = nt) (hrest : PlainL rest)
    (h : WF H → AWp P nt c (fun x env' H' => (x = .normal ∨ x = .ret) ∧ H <+: H' ∧ aresults P H' env' rs = some (.slice none 0 0 :: rest)) (fun t => args[t]?) H) :
    ACall P f args H (packed (.slice none 0 0 :: rest)) H :=
  ACall.plain hf hb hn hr ht (fun v hv => by
    rcases List.mem_cons.1 hv with rfl | hv
    · rfl
    · exact hrest v hv) (fun hw => (h hw).mono fun x env' H' ⟨he, ⟨L, hL⟩, hv⟩ => ⟨he, ⟨L, hL.symm⟩, hv⟩)

end Go.Proofs.Ytbckijeffiofdaa.AL

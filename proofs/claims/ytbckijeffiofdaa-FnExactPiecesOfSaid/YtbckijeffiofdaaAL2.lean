/- AL, part 2: the operations on the abstract heap. No condition. -/
import Derived.Test.YtbckijeffiofdaaAL1
import Derived.WalkSpells
namespace Go.Proofs.Ytbckijeffiofdaa.AL
open Go Go.RowKit
set_option linter.unusedVariables false
set_option linter.unusedSimpArgs false

def sizeT (P : Program) (t : TypeId) : Option Nat := (P.info? t).map (·.size)
def bytesT (P : Program) (t : TypeId) : Option Nat := (P.info? t).map (·.bytes)
def aggD : TypeDesc → Bool
  | .struct _ | .array _ _ => true
  | _ => false
def aggT (P : Program) (t : TypeId) : Option Bool := (P.underlying t).map aggD
def zeroT (P : Program) (t : TypeId) : Option Value := (P.info? t).bind (·.zero)

def constV : Value → Bool
  | .agg cs => cs.toList.all plainV
  | v => plainV v
/-- What is known of the temporaries. -/
abbrev Env := Nat → Option Value
def aev (env : Env) : Operand → Option Value
  | .tmp t => env t
  | .const v => if constV v then some v else none
  | .func f => some (.func (.func f) #[] #[])
  | .global _ => none
def EnvT (β : BM) (env : Env) (tmps : Array Value) : Prop := ∀ t v, env t = some v → ∃ v', tmps[t]? = some v' ∧ T3 β v v'

theorem T3.plain {β : BM} {v : Value} (h : plainV v = true) : T3 β v v := .one (.one (.one (.plain h)))
theorem T3.const {β : BM} {v : Value} (h : constV v = true) : T3 β v v := by
  unfold constV at h
  split at h
  · rename_i cs
    have : T2 β (.agg cs.toList.toArray) (.agg cs.toList.toArray) := .agg (All2.same fun a ha => .one (.plain (List.all_eq_true.1 h a ha)))
    simpa using T3.one this
  · exact .plain h
theorem EnvT.at_ {β : BM} {env : Env} {a : Act} (h : EnvT β env a.tmps) {x : Operand} {v : Value} (hx : aev env x = some v) : T3 β v (a.eval x) := by
  cases x with
  | tmp t =>
    obtain ⟨v', hv, t3⟩ := h t v hx
    have : a.eval (.tmp t) = v' := by simp [Act.eval, hv]
    rw [this]; exact t3
  | const c =>
    simp only [aev] at hx
    split at hx
    · cases hx; exact .const (by assumption)
    · cases hx
  | func f => cases hx; exact .plain rfl
  | global g => cases hx

/-! ### What a related value must be -/
theorem T0.of_plain {β : BM} {v v' : Value} (h : plainV v = true) (t : T0 β v v') : v' = v := by
  cases t with
  | plain _ => rfl
  | ptr => simp [plainV] at h
  | ptrOld => simp [plainV] at h
  | sl => simp [plainV] at h
  | slOld => simp [plainV] at h
theorem T1.of_plain {β : BM} {v v' : Value} (h : plainV v = true) (t : T1 β v v') : v' = v := by
  cases t with
  | one t => exact t.of_plain h
  | fn t =>
    rename_i f cs cs'
    have hc : cs = [] := by
      simp [plainV] at h
      exact h
    subst hc
    cases t
    rfl
theorem T2.of_plain {β : BM} {v v' : Value} (h : plainV v = true) (t : T2 β v v') : v' = v := by
  cases t with
  | one t => exact t.of_plain h
  | agg t => simp [plainV] at h
theorem T3.of_plain {β : BM} {v v' : Value} (h : plainV v = true) (t : T3 β v v') : v' = v := by
  cases t with
  | one t => exact t.of_plain h
  | tup t => simp [plainV] at h
theorem T3.int {β : BM} {k : IntKind} {n : Int} {v' : Value} (t : T3 β (.int k n) v') : v' = .int k n := t.of_plain rfl
theorem T3.bool {β : BM} {b : Bool} {v' : Value} (t : T3 β (.bool b) v') : v' = .bool b := t.of_plain rfl
theorem T3.string {β : BM} {s : ByteArray} {v' : Value} (t : T3 β (.string s) v') : v' = .string s := t.of_plain rfl
def alive (H : AH) (i g : Nat) : Option AO := match H[i]? with
  | some o => if o.gen = g then some o else none
  | none => none
theorem alive_some {H : AH} {i g : Nat} {o : AO} (h : alive H i g = some o) : H[i]? = some o ∧ o.gen = g := by
  unfold alive at h
  split at h
  · split at h
    · cases h; exact ⟨by assumption, by assumption⟩
    · cases h
  · cases h
theorem T3.ptr {β : BM} {H : AH} {w : World} (R : Rel β H w) {i off g : Nat} {o : AO} {v' : Value} (t : T3 β (.pointer (some ⟨i, off, some g⟩)) v') (h : alive H i g = some o) :
    ∃ l, β i = some l ∧ l.gen = g ∧ v' = .pointer (some ⟨l.b, l.base + off, none⟩) := by
  obtain ⟨ho, hg⟩ := alive_some h
  rcases t with ((t | t) | t) | t
  rcases t with t | ⟨hl, hg'⟩ | ⟨hl, hg'⟩ | t | t
  · simp [plainV] at t
  · exact ⟨_, hl, hg', rfl⟩
  · have := (R.obj _ _ _ ho hl).1; omega
theorem T3.sl {β : BM} {H : AH} {w : World} (R : Rel β H w) {i off g n c : Nat} {o : AO} {v' : Value} (t : T3 β (.slice (some ⟨i, off, some g⟩) n c) v') (h : alive H i g = some o) :
    ∃ l a c', β i = some l ∧ l.gen = g ∧ v' = .slice (some a) n c' ∧ n ≤ c' ∧ (c = n → c' = n) ∧ (c' = 0 ∨ (a = ⟨l.b, l.base + off, none⟩ ∧ l.base + off + c' * l.sz ≤ l.fin)) := by
  obtain ⟨ho, hg⟩ := alive_some h
  rcases t with ((t | t) | t) | t
  rcases t with t | t | t | ⟨hl, hg', hn, hc, ha⟩ | ⟨hl, hg'⟩
  · simp [plainV] at t
  · exact ⟨_, _, _, hl, hg', rfl, hn, hc, ha⟩
  · have := (R.obj _ _ _ ho hl).1; omega
theorem T3.agg {β : BM} {cs : Array Value} {v' : Value} (t : T3 β (.agg cs) v') : ∃ cs' : Array Value, v' = .agg cs' ∧ All2 (T1 β) cs.toList cs'.toList := by
  rcases t with ((t | t) | t) | t
  · rcases t with t | t | t | t | t
    simp [plainV] at t
  · exact ⟨_, rfl, t⟩
theorem T3.tuple {β : BM} {cs : Array Value} {v' : Value} (t : T3 β (.tuple cs) v') : ∃ cs' : Array Value, v' = .tuple cs' ∧ All2 (T2 β) cs.toList cs'.toList := by
  rcases t with ((t | t) | t) | t
  · rcases t with t | t | t | t | t
    simp [plainV] at t
  · exact ⟨_, rfl, t⟩
theorem T3.func {β : BM} {f : Fn} {cs : Array Value} {v' : Value} (t : T3 β (.func f #[] cs) v') : ∃ cs' : Array Value, v' = .func f #[] cs' ∧ All2 (T0 β) cs.toList cs'.toList := by
  rcases t with ((t | t) | t) | t
  · rcases t with t | t | t | t | t
    simp [plainV] at t
    subst t
    exact ⟨#[], rfl, .nil⟩
  · exact ⟨_, rfl, t⟩
theorem T3.func' {β : BM} {f : Fn} {fa cs : Array Value} {v' : Value} (t : T3 β (.func f fa cs) v') (h : fa = #[]) : ∃ cs' : Array Value, v' = .func f #[] cs' ∧ All2 (T0 β) cs.toList cs'.toList := by
  subst h
  exact t.func
theorem All2.mem' {α γ : Type} {R : α → γ → Prop} {l : List α} {m : List γ} (h : All2 R l m) {a : α} (ha : a ∈ l) : ∃ b ∈ m, R a b := by
  induction h with
  | nil => cases ha
  | cons hr _ ih =>
    cases ha with
    | head => exact ⟨_, .head _, hr⟩
    | tail _ ha => obtain ⟨b, hb, h⟩ := ih ha; exact ⟨b, .tail _ hb, h⟩
def isTup : Value → Bool
  | .tuple _ => true
  | _ => false
theorem T3.two {β : BM} {v v' : Value} (t : T3 β v v') (h : isTup v = false) : T2 β v v' := by
  cases t with
  | one t => exact t
  | tup t => simp [isTup] at h
def isRow : Value → Bool
  | .agg _ => true
  | _ => false
theorem T2.one' {β : BM} {v v' : Value} (t : T2 β v v') (h : isRow v = false) : T1 β v v' := by
  cases t with
  | one t => exact t
  | agg t => simp [isRow] at h

/-! ### Reading cells -/
theorem add_lit (b o j : Nat) : (⟨b, o, none⟩ : Addr).add j = ⟨b, o + j, none⟩ := by unfold Addr.add; split <;> simp_all
theorem Rel.reads {β : BM} {H : AH} {w : World} (R : Rel β H w) {i : Nat} {o : AO} {l : Loc} (ho : H[i]? = some o) (hl : β i = some l) (off n : Nat) (hn : off + n ≤ o.cells.length) :
    ∃ cs : List Value, All2 (T1 β) ((o.cells.drop off).take n) cs ∧ ∀ j v, cs[j]? = some v → w.cell? ((⟨l.b, l.base + off, none⟩ : Addr).add j) = some v := by
  obtain ⟨h1, h2, h3, h4, h5, h6⟩ := R.obj i o l ho hl
  have hlen : ((o.cells.drop off).take n).length = n := by simp; omega
  have key : ∀ j, j < n → ∃ c, o.cells[off + j]? = some c ∧ ∃ v, w.cell? ⟨l.b, l.base + (off + j), none⟩ = some v ∧ T1 β c v := fun j hj => by
    have hlt : off + j < o.cells.length := by omega
    exact ⟨_, List.getElem?_eq_getElem hlt, h5 _ _ (List.getElem?_eq_getElem hlt)⟩
  refine ⟨(List.range n).map fun j => (w.cell? ⟨l.b, l.base + (off + j), none⟩).getD default, All2.of_get (by simp [hlen]) fun j c v hc hv => ?_, fun j v hv => ?_⟩
  · have hj : j < n := by
      have := (List.getElem?_eq_some_iff.1 hc).1
      omega
    obtain ⟨c', hc', v', hv', t⟩ := key j hj
    rw [List.getElem?_take, if_pos hj, List.getElem?_drop, hc'] at hc
    cases hc
    simp [List.getElem?_map, List.getElem?_range hj, hv'] at hv
    subst hv
    exact t
  · have hj : j < n := by
      have := (List.getElem?_eq_some_iff.1 hv).1
      simpa using this
    obtain ⟨c', hc', v', hv', t⟩ := key j hj
    simp [List.getElem?_map, List.getElem?_range hj, hv'] at hv
    subst hv
    have : (⟨l.b, l.base + off, none⟩ : Addr).add j = ⟨l.b, l.base + (off + j), none⟩ := by
      unfold Addr.add
      split
      · subst_vars; rfl
      · simp [Nat.add_assoc]
    rw [this, hv']

/-! ### The operations -/
inductive AR where
  | val (v : Value) (H : AH)
  | call (f : FuncId) (args : List Value)
  | bad
def ptrAt (i off g : Nat) : Value := .pointer (some ⟨i, off, some g⟩)
def aLoad (P : Program) (H : AH) (t : TypeId) : Value → Option Value
  | .pointer (some ⟨i, off, some g⟩) => match alive H i g, sizeT P t, aggT P t with
    | some o, some n, some true => if off + n ≤ o.cells.length then some (.agg ((o.cells.drop off).take n).toArray) else none
    | some o, some _, some false => o.cells[off]?
    | _, _, _ => none
  | _ => none
def aStore (P : Program) (H : AH) (t : TypeId) : Value → Value → Option AH
  | .pointer (some ⟨i, off, some g⟩), v => match alive H i g, sizeT P t with
    | some o, some n => if o.ro = false ∧ isTup v = false ∧ v.cells.size = n ∧ off + n ≤ o.cells.length then some (H.set i { o with cells := o.cells.take off ++ v.cells.toList ++ o.cells.drop (off + n) }) else none
    | _, _ => none
  | _, _ => none
def aNew (H : AH) (cells : List Value) (e : TypeId) (sz : Nat) : AH := H ++ [⟨cells, e, sz, 0, false⟩]

section sound
variable {P : Program} {β : BM} {H : AH} {w : World}
theorem run_isAgg {t : TypeId} {b : Bool} (h : aggT P t = some b) : (isAgg t).run P w = .ok b w := by
  unfold aggT at h
  cases hu : P.underlying t with
  | none => rw [hu] at h; cases h
  | some d =>
    rw [hu] at h
    simp only [Option.map_some, Option.some.injEq] at h
    subst h
    unfold isAgg
    rw [Sem.run_bind, run_underlying hu]
    cases d <;> rfl
theorem run_sizeOf {t : TypeId} {n : Nat} (h : sizeT P t = some n) : (sizeOf t).run P w = .ok n w := by
  unfold sizeT at h
  cases hu : P.info? t with
  | none => rw [hu] at h; cases h
  | some d =>
    rw [hu] at h
    simp only [Option.map_some, Option.some.injEq] at h
    subst h
    simp [sizeOf, typeInfo, hu]
theorem aLoad_sound (R : Rel β H w) {t : TypeId} {p p' v : Value} (h : aLoad P H t p = some v) (hp : T3 β p p') : ∃ v', (Instr.loadAt t p').run P w = .ok v' w ∧ T2 β v v' := by
  unfold aLoad at h
  split at h
  · rename_i i off g
    cases ha : alive H i g with
    | none => simp [ha] at h
    | some o =>
      obtain ⟨ho, hg⟩ := alive_some ha
      obtain ⟨l, hl, hlg, rfl⟩ := hp.ptr R ha
      cases hs : sizeT P t with
      | none => simp [ha, hs] at h
      | some n =>
        cases hb : aggT P t with
        | none => simp [ha, hs, hb] at h
        | some b =>
          cases b with
          | true =>
            simp only [ha, hs, hb] at h
            split at h
            · rename_i hfit
              cases h
              obtain ⟨cs, h2, hc⟩ := R.reads ho hl off n hfit
              have hlen : cs.length = n := by rw [← h2.length]; simp; omega
              have hr := run_loadCells_list (P := P) w _ cs hc
              rw [hlen] at hr
              refine ⟨.agg cs.toArray, ?_, .agg h2⟩
              simp [Instr.loadAt, Instr.sureAddr, loadVar, Sem.run_bind, run_isAgg hb, run_sizeOf hs, hr]
            · cases h
          | false =>
            simp only [ha, hs, hb] at h
            obtain ⟨_, _, _, _, h5, _⟩ := R.obj _ _ _ ho hl
            obtain ⟨v', hv, t⟩ := h5 _ _ h
            refine ⟨v', ?_, .one t⟩
            simp [Instr.loadAt, Instr.sureAddr, loadVar, Sem.run_bind, run_isAgg hb, load, Sem.run, hv]
  · cases h
theorem All2.append_inv {α γ : Type} {S : α → γ → Prop} {l : List α} {m : List γ} (h : All2 S l m) : True := trivial
theorem aStore_sound (R : Rel β H w) {t : TypeId} {p p' v v' : Value} {H' : AH} (h : aStore P H t p v = some H') (hp : T3 β p p') (hv : T3 β v v') :
    ∃ w' β', (Instr.storeAt t p' v').run P w = .ok () w' ∧ Rel β' H' w' ∧ Ext H.length β w β' w' := by
  unfold aStore at h
  split at h
  · rename_i i off g
    cases ha : alive H i g with
    | none => simp [ha] at h
    | some o =>
      obtain ⟨ho, hg⟩ := alive_some ha
      obtain ⟨l, hl, hlg, rfl⟩ := hp.ptr R ha
      cases hs : sizeT P t with
      | none => simp [ha, hs] at h
      | some n =>
        simp only [ha, hs] at h
        split at h
        · rename_i hfit
          obtain ⟨hro, htu, hsz, hle⟩ := hfit
          cases h
          have hc := (hv.two htu).cells
          obtain ⟨g1, g2, g3, g4, g5, g6⟩ := R.obj _ _ _ ho hl
          obtain ⟨arr, harr, hfin⟩ := g6 hro
          have hn : v'.cells.toList.length = n := by rw [← hc.length]; simpa using hsz
          have h1 : ∀ u ∈ v'.cells.toList, u.oneCell' = true := fun u hu => by
            obtain ⟨x, _, t⟩ := hc.mem hu
            exact t.oneCell
          have hst := run_storeCells_at P l.b (l.base + off) o.elem v'.cells.toList 0 arr w harr (by rw [hn, hfin]; omega) h1
          rw [Nat.add_zero, hn] at hst
          have hrun : (Instr.storeAt t (.pointer (some ⟨l.b, l.base + off, none⟩)) v').run P w = .ok () (w.setRow l.b (arr.toList.take (l.base + off) ++ v'.cells.toList ++ arr.toList.drop (l.base + off + n)).toArray) := by
            have hsz' : v'.cells.size = n := by simpa using hn
            simp [Instr.storeAt, Instr.sureAddr, storeVar, Sem.run_bind, run_sizeOf hs, hsz', hst]
          have hold : All2 (T1 β) o.cells ((arr.toList.drop l.base).take o.cells.length) := by
            refine All2.of_get (by simp; omega) fun j c u hcj hu => ?_
            obtain ⟨u', hu', t⟩ := g5 j c hcj
            have hj := (List.getElem?_eq_some_iff.1 hcj).1
            rw [List.getElem?_take, if_pos hj, List.getElem?_drop] at hu
            simp [World.cell?, harr] at hu'
            simp at hu
            rw [hu'] at hu
            cases hu
            exact t
          have hal : arr.toList.length = l.fin := by simpa using hfin
          obtain ⟨R', E⟩ := R.upd (i := i) (o := o) (o' := { o with cells := o.cells.take off ++ v.cells.toList ++ o.cells.drop (off + n) }) (l := l) (l' := l)
            (w' := w.setRow l.b (arr.toList.take (l.base + off) ++ v'.cells.toList ++ arr.toList.drop (l.base + off + n)).toArray) ho hl hro rfl rfl rfl (by simp) (fun k _ hk => setRow_other w l.b k _ hk) (.inl rfl) (.inl rfl) rfl rfl hro g1 g2 (g3.trans hro)
            (arr.toList.take (l.base + off) ++ v'.cells.toList ++ arr.toList.drop (l.base + off + n)) (setRow_heap w l.b arr _ o.elem (0, 0) harr)
            (by simp only [List.length_append, List.length_take, List.length_drop, hn, hal]; omega)
            (by simp only [List.length_append, List.length_take, List.length_drop]; have : v.cells.toList.length = n := by simpa using hsz
                rw [this]; omega)
            (by
              have hvl : v.cells.toList.length = n := by simpa using hsz
              have e1 : (arr.toList.take (l.base + off) ++ v'.cells.toList ++ arr.toList.drop (l.base + off + n)).drop l.base = (arr.toList.drop l.base).take off ++ v'.cells.toList ++ arr.toList.drop (l.base + off + n) := by
                rw [List.append_assoc, List.drop_append_of_le_length (by rw [List.length_take]; omega), List.drop_take, List.append_assoc]
                congr 2
                omega
              rw [e1]
              have e2 : (o.cells.take off ++ v.cells.toList ++ o.cells.drop (off + n)).length = o.cells.length := by
                simp only [List.length_append, List.length_take, List.length_drop, hvl]; omega
              have e3 : ((arr.toList.drop l.base).take off ++ v'.cells.toList ++ arr.toList.drop (l.base + off + n)).take o.cells.length = (arr.toList.drop l.base).take off ++ v'.cells.toList ++ (arr.toList.drop (l.base + off + n)).take (o.cells.length - (off + n)) := by
                rw [List.take_append]
                have hx : ((arr.toList.drop l.base).take off ++ v'.cells.toList).length = off + n := by
                  simp only [List.length_append, List.length_take, List.length_drop, hn, hal]; omega
                rw [hx, List.take_of_length_le (by rw [hx]; exact hle)]
              rw [e2, e3]
              refine (All2.append (All2.append ?_ hc) ?_)
              · have := hold.take off
                rw [List.take_take] at this
                rwa [Nat.min_eq_left (by omega)] at this
              · have := hold.drop (off + n)
                rw [List.drop_take, List.drop_drop] at this
                rwa [← Nat.add_assoc] at this)
          rw [bup_id hl] at R' E
          exact ⟨_, _, hrun, R', E⟩
        · cases h
  · cases h
end sound

end Go.Proofs.Ytbckijeffiofdaa.AL

/- AL, the parts 0, 1, 2, 77, 78, 3, 4, 5, 55, 6, 7, 75, 76, 8, 9, 10: code told on an abstract heap. No condition. -/
import Derived.Orders
import Derived.Below
import Derived.Laws.Append
import Derived.Laws.CopyRow
import Derived.Laws.Tables
import Derived.Laws.Rows
import Derived.Laws.AppendOwn
import Derived.WalkSpells
import Derived.MapKept
import Derived.WideMake
import Derived.Maps.RangeRun
import Derived.Great.BuildSlice
import Derived.Deep.LoopGhost
namespace Go.Proofs.Ytdbflchpbhkanaa.AL
open Go Go.RowKit
set_option linter.unusedVariables false
set_option linter.unusedSimpArgs false

inductive All2 {α β : Type} (R : α → β → Prop) : List α → List β → Prop
  | nil : All2 R [] []
  | cons {a b l m} : R a b → All2 R l m → All2 R (a :: l) (b :: m)
theorem All2.length {α β : Type} {R : α → β → Prop} {l : List α} {m : List β} (h : All2 R l m) : l.length = m.length := by
  induction h with
  | nil => rfl
  | cons _ _ ih => simp [ih]
theorem All2.get {α β : Type} {R : α → β → Prop} {l : List α} {m : List β} (h : All2 R l m) : ∀ (i : Nat) (a : α), l[i]? = some a → ∃ b, m[i]? = some b ∧ R a b := by
  induction h with
  | nil => intro i a h; simp at h
  | cons hr _ ih =>
    intro i a h
    cases i with
    | zero => simp only [List.getElem?_cons_zero, Option.some.injEq] at h; subst h; exact ⟨_, rfl, hr⟩
    | succ i => simp only [List.getElem?_cons_succ] at h; exact ih i a h
theorem All2.of_get {α β : Type} {R : α → β → Prop} : ∀ {l : List α} {m : List β}, l.length = m.length → (∀ (i : Nat) (a : α) (b : β), l[i]? = some a → m[i]? = some b → R a b) → All2 R l m
  | [], [], _, _ => .nil
  | [], _ :: _, h, _ => by simp at h
  | _ :: _, [], h, _ => by simp at h
  | a :: l, b :: m, h, g => .cons (g 0 a b rfl rfl) (All2.of_get (by simpa using h) (fun i x y hx hy => g (i + 1) x y (by simpa using hx) (by simpa using hy)))
theorem All2.imp {α β : Type} {R S : α → β → Prop} {l : List α} {m : List β} (h : All2 R l m) (g : ∀ a b, R a b → S a b) : All2 S l m := by
  induction h with
  | nil => exact .nil
  | cons hr _ ih => exact .cons (g _ _ hr) ih
theorem All2.append {α β : Type} {R : α → β → Prop} {l l' : List α} {m m' : List β} (h : All2 R l m) (h' : All2 R l' m') : All2 R (l ++ l') (m ++ m') := by
  induction h with
  | nil => exact h'
  | cons hr _ ih => exact .cons hr ih
theorem All2.take {α β : Type} {R : α → β → Prop} {l : List α} {m : List β} (h : All2 R l m) : ∀ n, All2 R (l.take n) (m.take n) := by
  induction h with
  | nil => intro n; simp; exact .nil
  | cons hr _ ih =>
    intro n
    cases n with
    | zero => exact .nil
    | succ n => simpa using .cons hr (ih n)
theorem All2.drop {α β : Type} {R : α → β → Prop} {l : List α} {m : List β} (h : All2 R l m) : ∀ n, All2 R (l.drop n) (m.drop n) := by
  induction h with
  | nil => intro n; simp; exact .nil
  | cons hr h ih =>
    intro n
    cases n with
    | zero => exact .cons hr h
    | succ n => simpa using ih n
theorem All2.mem {α β : Type} {R : α → β → Prop} {l : List α} {m : List β} (h : All2 R l m) {b : β} (hb : b ∈ m) : ∃ a ∈ l, R a b := by
  induction h with
  | nil => cases hb
  | cons hr _ ih =>
    cases hb with
    | head => exact ⟨_, .head _, hr⟩
    | tail _ hb => obtain ⟨a, ha, h⟩ := ih hb; exact ⟨a, .tail _ ha, h⟩
theorem All2.replicate {α β : Type} {R : α → β → Prop} {a : α} {b : β} (h : R a b) : ∀ n, All2 R (List.replicate n a) (List.replicate n b)
  | 0 => .nil
  | n + 1 => .cons h (All2.replicate h n)
theorem All2.same {α : Type} {R : α → α → Prop} : ∀ {l : List α}, (∀ a ∈ l, R a a) → All2 R l l
  | [], _ => .nil
  | a :: l, h => .cons (h a (by simp)) (All2.same (fun x hx => h x (by simp [hx])))

structure AO where
  cells : List Value
  elem : TypeId
  sz : Nat
  gen : Nat
  ro : Bool
abbrev AH := List AO
structure Loc where
  b : Nat
  base : Nat
  fin : Nat
  sz : Nat
  gen : Nat
  ro : Bool
abbrev BM := Nat → Option Loc

def plainV : Value → Bool
  | .bool _ | .int _ _ | .string _ | .nilFunc | .nilIface | .pointer none | .map none => true
  | .slice none n c => n == 0 && c == 0
  | .func _ a b => a.isEmpty && b.isEmpty
  | _ => false
inductive T0 (β : BM) : Value → Value → Prop
  | plain {v} : plainV v = true → T0 β v v
  | ptr {i off g l} : β i = some l → l.gen = g → T0 β (.pointer (some ⟨i, off, some g⟩)) (.pointer (some ⟨l.b, l.base + off, none⟩))
  | ptrOld {i off g l x} : β i = some l → g < l.gen → T0 β (.pointer (some ⟨i, off, some g⟩)) (.pointer x)
  | sl {i off g l n c a c'} : β i = some l → l.gen = g → n ≤ c' → (c = n → c' = n) → (c' = 0 ∨ (a = ⟨l.b, l.base + off, none⟩ ∧ l.base + off + c' * l.sz ≤ l.fin)) → T0 β (.slice (some ⟨i, off, some g⟩) n c) (.slice (some a) n c')
  | slOld {i off g l n c a n' c'} : β i = some l → g < l.gen → T0 β (.slice (some ⟨i, off, some g⟩) n c) (.slice a n' c')
  | mp {i l} : β i = some l → l.sz = 0 → l.ro = true → T0 β (.map (some i)) (.map (some l.b))
inductive T1 (β : BM) : Value → Value → Prop
  | one {v v'} : T0 β v v' → T1 β v v'
  | fn {f cs cs'} : All2 (T0 β) cs cs' → T1 β (.func f #[] cs.toArray) (.func f #[] cs'.toArray)
inductive T2 (β : BM) : Value → Value → Prop
  | one {v v'} : T1 β v v' → T2 β v v'
  | agg {cs cs'} : All2 (T1 β) cs cs' → T2 β (.agg cs.toArray) (.agg cs'.toArray)
inductive T3 (β : BM) : Value → Value → Prop
  | one {v v'} : T2 β v v' → T3 β v v'
  | tup {vs vs'} : All2 (T2 β) vs vs' → T3 β (.tuple vs.toArray) (.tuple vs'.toArray)

def R00 (n : Nat) : Value → Bool
  | .pointer (some a) => decide (a.block < n)
  | .slice (some a) _ _ => decide (a.block < n)
  | .map (some i) => decide (i < n)
  | .agg _ | .tuple _ => false
  | .func _ _ cs => cs.isEmpty
  | _ => true
def R0 (n : Nat) : Value → Bool
  | .pointer (some a) => decide (a.block < n)
  | .slice (some a) _ _ => decide (a.block < n)
  | .map (some i) => decide (i < n)
  | .agg _ | .tuple _ => false
  | .func _ _ cs => cs.all (R00 n)
  | _ => true
def R2 (n : Nat) : Value → Bool
  | .agg cs => cs.all (R0 n)
  | v => R0 n v
def R3 (n : Nat) : Value → Bool
  | .tuple vs => vs.all (R2 n)
  | v => R2 n v
def WF (H : AH) : Prop := ∀ o ∈ H, ∀ c ∈ o.cells, R0 H.length c = true

def packV : List Value → Value
  | [v] => v
  | vs => .agg vs.toArray
abbrev Ents := List (Value × List Value)
def encE (l : Ents) : List Value := l.flatMap fun e => e.1 :: e.2
def decN (n : Nat) : Nat → List Value → Option Ents
  | _, [] => some []
  | 0, _ :: _ => none
  | f + 1, k :: r => if r.length < n then none else (decN n f (r.drop n)).map ((k, r.take n) :: ·)
def decE (n : Nat) (cs : List Value) : Option Ents := decN n cs.length cs
def MapIn (β : BM) (n : Nat) (cs : List Value) (b : Nat) (w : World) : Prop :=
  ∃ (es : Array MapEntry) (l : Ents), w.heap[b]? = some (.map es es.size) ∧ (∀ (j : Nat) (e : MapEntry), es[j]? = some e → e.born = j) ∧ decE n cs = some l ∧ All2 (fun (kv : Value × List Value) (e : MapEntry) => plainV kv.1 = true ∧ e.key = kv.1 ∧ T2 β (packV kv.2) e.val) l es.toList
def ItIn (β : BM) (n : Nat) (cs : List Value) (b : Nat) (w : World) : Prop :=
  ∃ (i b' : Nat) (seen : List Nat), cs = .map (some i) :: seen.map (fun s => .int .i64 (s : Int)) ∧ T0 β (.map (some i)) (.map (some b')) ∧ w.heap[b]? = some (.mapIter (some b') n seen.toArray n)
def HidIn (β : BM) (c : AO) (l : Loc) (w : World) : Prop := l.base = 0 ∧ (c.gen = 1 → MapIn β c.elem c.cells l.b w) ∧ (c.gen ≠ 1 → ItIn β c.elem c.cells l.b w)
structure Rel (β : BM) (H : AH) (w : World) : Prop where
  dom : ∀ i, H.length ≤ i → β i = none
  loc : ∀ i l, β i = some l → l.b < w.heap.size
  inj : ∀ i j l m, β i = some l → β j = some m → i ≠ j → l.b = m.b → (l.ro = true ∧ l.sz ≠ 0) ∧ m.ro = true ∧ m.sz ≠ 0
  obj : ∀ i o l, H[i]? = some o → β i = some l → l.gen = o.gen ∧ l.sz = o.sz ∧ l.ro = o.ro ∧ l.base + o.cells.length ≤ l.fin ∧
    (∀ j c, o.cells[j]? = some c → ∃ v, w.cell? ⟨l.b, l.base + j, none⟩ = some v ∧ T1 β c v) ∧
    (o.ro = false → ∃ arr : Array Value, w.heap[l.b]? = some (.cells arr o.elem (0, 0)) ∧ arr.size = l.fin)
  hid : ∀ i o, H[i]? = some o → o.sz = 0 → o.ro = true → o.gen ≠ 0 → β i = none
  mp : ∀ i o l, H[i]? = some o → β i = some l → o.sz = 0 → o.ro = true → ∃ j c, i = j + 1 ∧ H[j]? = some c ∧ c.sz = 0 ∧ c.ro = true ∧ c.gen ≠ 0 ∧ HidIn β c l w

structure Ext (N : Nat) (β : BM) (w : World) (β' : BM) (w' : World) : Prop where
  os : w'.os = w.os
  tape : w'.tape = w.tape
  output : w'.output = w.output
  size : w.heap.size ≤ w'.heap.size
  keep : ∀ b, b < w.heap.size → (∀ i l, β i = some l → l.b = b → l.ro = true ∧ l.sz ≠ 0) → w'.heap[b]? = w.heap[b]?
  mono : ∀ i l, β i = some l → ∃ l', β' i = some l' ∧ l'.sz = l.sz ∧ l'.ro = l.ro ∧ (l' = l ∨ l.gen < l'.gen)
  hole : ∀ i, i < N → β i = none → β' i = none
  fresh : ∀ i l', β' i = some l' → (∃ l, β i = some l ∧ l.b = l'.b ∧ l.ro = l'.ro ∧ l.sz = l'.sz) ∨ w.heap.size ≤ l'.b
  still : ∀ i l, β i = some l → l.ro = true → β' i = some l

theorem Ext.refl (N : Nat) (β : BM) (w : World) : Ext N β w β w :=
  ⟨rfl, rfl, rfl, Nat.le_refl _, fun _ _ _ => rfl, fun i l h => ⟨l, h, rfl, rfl, .inl rfl⟩, fun _ _ h => h, fun i l h => .inl ⟨l, h, rfl, rfl, rfl⟩, fun _ _ h _ => h⟩
theorem Ext.trans {N N' : Nat} {β β' β'' : BM} {w w' w'' : World} (h : Ext N β w β' w') (k : Ext N' β' w' β'' w'') (hN : N ≤ N') : Ext N β w β'' w'' where
  os := k.os.trans h.os
  tape := k.tape.trans h.tape
  output := k.output.trans h.output
  size := Nat.le_trans h.size k.size
  keep := fun b hb hr => by
    rw [k.keep b (Nat.lt_of_lt_of_le hb h.size) ?_, h.keep b hb hr]
    intro i l' hl he
    rcases h.fresh i l' hl with ⟨l, hl0, e1, e2, e3⟩ | hge
    · rw [← e2, ← e3]; exact hr i l hl0 (e1.trans he)
    · omega
  mono := fun i l hl => by
    obtain ⟨l', h1, h2, h3, h4⟩ := h.mono i l hl
    obtain ⟨l'', k1, k2, k3, k4⟩ := k.mono i l' h1
    refine ⟨l'', k1, k2.trans h2, k3.trans h3, ?_⟩
    rcases h4 with rfl | h4
    · exact k4
    · rcases k4 with rfl | k4
      · exact .inr h4
      · exact .inr (Nat.lt_trans h4 k4)
  hole := fun i hi hn => k.hole i (Nat.lt_of_lt_of_le hi hN) (h.hole i hi hn)
  fresh := fun i l'' hl => by
    rcases k.fresh i l'' hl with ⟨l', hl', e1, e2, e5⟩ | hge
    · rcases h.fresh i l' hl' with ⟨l, hl0, e3, e4, e6⟩ | hge
      · exact .inl ⟨l, hl0, e3.trans e1, e4.trans e2, e6.trans e5⟩
      · exact .inr (by omega)
    · exact .inr (Nat.le_trans h.size hge)
  still := fun i l hl hr => k.still i l (h.still i l hl hr) hr
section mono
variable {N : Nat} {β β' : BM} {w w' : World}
theorem T0.ext (h : Ext N β w β' w') {v v' : Value} (t : T0 β v v') : T0 β' v v' := by
  cases t with
  | plain hp => exact .plain hp
  | ptr hl hg =>
    obtain ⟨l', h1, h2, h3, h4⟩ := h.mono _ _ hl
    rcases h4 with rfl | h4
    · exact .ptr h1 hg
    · exact .ptrOld h1 (hg ▸ h4)
  | ptrOld hl hg =>
    obtain ⟨l', h1, h2, h3, h4⟩ := h.mono _ _ hl
    rcases h4 with rfl | h4
    · exact .ptrOld h1 hg
    · exact .ptrOld h1 (Nat.lt_trans hg h4)
  | sl hl hg hn hc ha =>
    obtain ⟨l', h1, h2, h3, h4⟩ := h.mono _ _ hl
    rcases h4 with rfl | h4
    · exact .sl h1 hg hn hc ha
    · exact .slOld h1 (hg ▸ h4)
  | slOld hl hg =>
    obtain ⟨l', h1, h2, h3, h4⟩ := h.mono _ _ hl
    rcases h4 with rfl | h4
    · exact .slOld h1 hg
    · exact .slOld h1 (Nat.lt_trans hg h4)
  | mp hl hs hr => exact .mp (h.still _ _ hl hr) hs hr
theorem T1.ext (h : Ext N β w β' w') {v v' : Value} (t : T1 β v v') : T1 β' v v' := by
  cases t with
  | one t => exact .one (t.ext h)
  | fn t => exact .fn (t.imp fun _ _ => T0.ext h)
theorem T2.ext (h : Ext N β w β' w') {v v' : Value} (t : T2 β v v') : T2 β' v v' := by
  cases t with
  | one t => exact .one (t.ext h)
  | agg t => exact .agg (t.imp fun _ _ => T1.ext h)
theorem T3.ext (h : Ext N β w β' w') {v v' : Value} (t : T3 β v v') : T3 β' v v' := by
  cases t with
  | one t => exact .one (t.ext h)
  | tup t => exact .tup (t.imp fun _ _ => T2.ext h)
theorem MapIn.ext (h : Ext N β w β' w') {n b : Nat} {cs : List Value} (m : MapIn β n cs b w) (hb : w'.heap[b]? = w.heap[b]?) : MapIn β' n cs b w' := by
  obtain ⟨es, l, h1, h2, h3, h4⟩ := m
  exact ⟨es, l, hb.trans h1, h2, h3, h4.imp fun _ _ ⟨a1, a2, a3⟩ => ⟨a1, a2, a3.ext h⟩⟩
theorem HidIn.ext (h : Ext N β w β' w') {c : AO} {l : Loc} (m : HidIn β c l w) (hb : w'.heap[l.b]? = w.heap[l.b]?) : HidIn β' c l w' :=
  ⟨m.1, fun e => (m.2.1 e).ext h hb, fun e => by
    obtain ⟨i, b', seen, h1, h2, h3⟩ := m.2.2 e
    exact ⟨i, b', seen, h1, h2.ext h, hb.trans h3⟩⟩
end mono

theorem T0.oneCell {β : BM} {v v' : Value} (t : T0 β v v') : v'.oneCell' = true := by
  cases t with
  | plain hp => cases v <;> simp_all [plainV, Value.oneCell']
  | _ => rfl
theorem T1.oneCell {β : BM} {v v' : Value} (t : T1 β v v') : v'.oneCell' = true := by
  cases t with
  | one t => exact t.oneCell
  | fn _ => rfl
theorem T1.cells {β : BM} {v v' : Value} (t : T1 β v v') : v'.cells = #[v'] := by
  have h := t.oneCell
  cases v' <;> first | rfl | simp [Value.oneCell'] at h
theorem T0.cellsA {β : BM} {v v' : Value} (t : T0 β v v') : v.cells = #[v] := by
  cases t with
  | plain hp => cases v <;> simp_all [plainV, Value.cells]
  | _ => rfl
theorem T1.cellsA {β : BM} {v v' : Value} (t : T1 β v v') : v.cells = #[v] := by
  cases t with
  | one t => exact t.cellsA
  | fn _ => rfl
theorem T2.cells {β : BM} {v v' : Value} (t : T2 β v v') : All2 (T1 β) v.cells.toList v'.cells.toList := by
  cases t with
  | one t => rw [t.cells, t.cellsA]; exact .cons t .nil
  | agg t => exact t

def cut (n : Nat) (β : BM) : BM := fun i => if i < n then β i else none
theorem R0_lt {n : Nat} {i off g : Nat} (h : R0 n (.pointer (some ⟨i, off, some g⟩)) = true) : i < n := by simpa [R0] using h
theorem R0_lts {n : Nat} {i off g m c : Nat} (h : R0 n (.slice (some ⟨i, off, some g⟩) m c) = true) : i < n := by simpa [R0] using h
theorem T0.cut {β : BM} {n : Nat} {v v' : Value} (t : T0 β v v') (h : R0 n v = true) : T0 (cut n β) v v' := by
  cases t with
  | plain hp => exact .plain hp
  | ptr hl hg => exact .ptr (by simpa [AL.cut, R0_lt h] using hl) hg
  | ptrOld hl hg => exact .ptrOld (by simpa [AL.cut, R0_lt h] using hl) hg
  | sl hl hg hn hc ha => exact .sl (by simpa [AL.cut, R0_lts h] using hl) hg hn hc ha
  | slOld hl hg => exact .slOld (by simpa [AL.cut, R0_lts h] using hl) hg
  | mp hl hs hr =>
    simp only [R0, decide_eq_true_eq] at h
    exact .mp (by simpa [AL.cut, h] using hl) hs hr

end Go.Proofs.Ytdbflchpbhkanaa.AL
namespace Go.Proofs.Ytdbflchpbhkanaa.AL
open Go Go.RowKit
set_option linter.unusedVariables false
set_option linter.unusedSimpArgs false

def bup (β : BM) (i : Nat) (l : Loc) : BM := fun j => if j = i then some l else β j
theorem bup_same (β : BM) (i : Nat) (l : Loc) : bup β i l i = some l := by simp [bup]
theorem bup_other {β : BM} {i j : Nat} {l : Loc} (h : j ≠ i) : bup β i l j = β j := by simp [bup, h]
theorem bup_id {β : BM} {i : Nat} {l : Loc} (h : β i = some l) : bup β i l = β := by
  funext j
  by_cases e : j = i
  · subst e; simp [bup, h]
  · simp [bup, e]

structure SameHeap (w w' : World) : Prop where
  os : w'.os = w.os
  tape : w'.tape = w.tape
  output : w'.output = w.output
  heap : w'.heap = w.heap
theorem SameHeap.drew (w : World) : SameHeap w w.drew := ⟨rfl, rfl, rfl, rfl⟩
theorem Rel.same {β : BM} {H : AH} {w w' : World} (R : Rel β H w) (h : SameHeap w w') : Rel β H w' where
  dom := R.dom
  loc := fun i l hl => by rw [h.heap]; exact R.loc i l hl
  inj := R.inj
  obj := fun i o l ho hl => by
    obtain ⟨h1, h2, h3, h4, h5, h6⟩ := R.obj i o l ho hl
    refine ⟨h1, h2, h3, h4, fun j c hc => ?_, fun hr => by rw [h.heap]; exact h6 hr⟩
    obtain ⟨v, hv, t⟩ := h5 j c hc
    exact ⟨v, by simpa [World.cell?, h.heap] using hv, t⟩
  hid := R.hid
  mp := fun i o l ho hl hs hr => by
    obtain ⟨j, c, h1, h2, h3, h4, h5, h6⟩ := R.mp i o l ho hl hs hr
    refine ⟨j, c, h1, h2, h3, h4, h5, h6.1, fun e => ?_, fun e => ?_⟩
    · obtain ⟨es, q, g⟩ := h6.2.1 e
      exact ⟨es, q, by rw [h.heap]; exact g⟩
    · obtain ⟨i, b', seen, g⟩ := h6.2.2 e
      exact ⟨i, b', seen, by rw [h.heap]; exact g⟩
theorem Ext.same {β : BM} {w w' : World} (N : Nat) (h : SameHeap w w') : Ext N β w β w' :=
  ⟨h.os, h.tape, h.output, by rw [h.heap]; exact Nat.le_refl _, fun _ _ _ => by rw [h.heap], fun i l hl => ⟨l, hl, rfl, rfl, .inl rfl⟩, fun _ _ hn => hn, fun i l hl => .inl ⟨l, hl, rfl, rfl, rfl⟩, fun _ _ h _ => h⟩

section upd
variable {β : BM} {H : AH} {w w' : World} {i : Nat} {o o' : AO} {l l' : Loc}
theorem Rel.upd_ext (R : Rel β H w) (hl : β i = some l) (hro : l.ro = false)
    (h1 : w'.os = w.os) (h2 : w'.tape = w.tape) (h3 : w'.output = w.output) (h4 : w.heap.size ≤ w'.heap.size)
    (hk : ∀ k, k < w.heap.size → k ≠ l.b → w'.heap[k]? = w.heap[k]?) (hb : l'.b = l.b ∨ w.heap.size ≤ l'.b) (hg : l' = l ∨ l.gen < l'.gen) (hs : l'.sz = l.sz) (hr : l'.ro = l.ro) :
    Ext H.length β w (bup β i l') w' where
  os := h1
  tape := h2
  output := h3
  size := h4
  keep := fun b hb hr => hk b hb (fun e => by have := (hr i l hl e.symm).1; rw [hro] at this; exact absurd this (by simp))
  mono := fun j m hm => by
    by_cases e : j = i
    · subst e
      rw [hl] at hm
      cases hm
      exact ⟨l', bup_same _ _ _, hs, hr, hg⟩
    · exact ⟨m, by rw [bup_other e]; exact hm, rfl, rfl, .inl rfl⟩
  hole := fun j _ hn => by
    by_cases e : j = i
    · subst e; rw [hl] at hn; cases hn
    · rw [bup_other e]; exact hn
  fresh := fun j m hm => by
    by_cases e : j = i
    · subst e
      rw [bup_same] at hm
      cases hm
      rcases hb with hb | hb
      · exact .inl ⟨l, hl, hb.symm, hr.symm, hs.symm⟩
      · exact .inr hb
    · rw [bup_other e] at hm; exact .inl ⟨m, hm, rfl, rfl, rfl⟩
  still := fun j m hm hmr => by
    by_cases e : j = i
    · subst e
      rw [hl] at hm
      cases hm
      rw [hro] at hmr
      cases hmr
    · rw [bup_other e]; exact hm
theorem Rel.upd (R : Rel β H w) (ho : H[i]? = some o) (hl : β i = some l) (hro : o.ro = false)
    (h1 : w'.os = w.os) (h2 : w'.tape = w.tape) (h3 : w'.output = w.output) (h4 : w.heap.size ≤ w'.heap.size)
    (hk : ∀ k, k < w.heap.size → k ≠ l.b → w'.heap[k]? = w.heap[k]?) (hb : l'.b = l.b ∨ (w.heap.size ≤ l'.b ∧ l'.b < w'.heap.size)) (hg : l' = l ∨ l.gen < l'.gen)
    (e1 : o'.elem = o.elem) (e2 : o'.sz = o.sz) (e3 : o'.ro = false) (f1 : l'.gen = o'.gen) (f2 : l'.sz = o.sz) (f3 : l'.ro = false)
    (arr : List Value) (ha : w'.heap[l'.b]? = some (.cells arr.toArray o.elem (0, 0))) (hf : arr.length = l'.fin) (hfit : l'.base + o'.cells.length ≤ l'.fin)
    (hc : All2 (T1 β) o'.cells ((arr.drop l'.base).take o'.cells.length)) :
    Rel (bup β i l') (H.set i o') w' ∧ Ext H.length β w (bup β i l') w' := by
  obtain ⟨g1, g2, g3, g4, g5, g6⟩ := R.obj i o l ho hl
  have hi : i < H.length := (List.getElem?_eq_some_iff.1 ho).1
  have E : Ext H.length β w (bup β i l') w' := R.upd_ext hl (g3.trans hro) h1 h2 h3 h4 hk (hb.imp id (·.1)) hg (f2.trans g2.symm) (f3.trans (g3.trans hro).symm)
  refine ⟨⟨fun j hj => ?_, fun j m hm => ?_, fun j k a b ha' hb' hne => ?_, fun j p m hp hm => ?_, fun j p hp hs0 hr0 hg0 => ?_, fun j p m hp hm hs0 hr0 => ?_⟩, E⟩
  · rw [List.length_set] at hj
    rw [bup_other (by omega)]
    exact R.dom j hj
  · by_cases e : j = i
    · subst e
      rw [bup_same] at hm
      cases hm
      exact (Array.getElem?_eq_some_iff.1 ha).1
    · rw [bup_other e] at hm
      exact Nat.lt_of_lt_of_le (R.loc j m hm) h4
  · have key : ∀ {q : Nat} {c : Loc}, q ≠ i → bup β i l' q = some c → l'.b ≠ c.b := by
      intro q c hq hc'
      rw [bup_other hq] at hc'
      intro he
      rcases hb with hb | ⟨hb, _⟩
      · have := (R.inj i q l c hl hc' (fun e => hq e.symm) (hb.symm.trans he)).1.1
        rw [g3, hro] at this
        cases this
      · have := R.loc q c hc'
        omega
    intro he
    by_cases e : j = i
    · subst e
      rw [bup_same] at ha'
      cases ha'
      exact absurd he (key (fun e => hne e.symm) hb')
    · by_cases e' : k = i
      · subst e'
        rw [bup_same] at hb'
        cases hb'
        exact absurd he.symm (key e ha')
      · rw [bup_other e] at ha'
        rw [bup_other e'] at hb'
        exact R.inj j k a b ha' hb' hne he
  · by_cases e : j = i
    · subst e
      rw [bup_same] at hm
      cases hm
      rw [List.getElem?_set_self hi] at hp
      cases hp
      refine ⟨f1, f2.trans e2.symm, f3.trans e3.symm, hfit, fun q c hq => ?_, fun _ => ⟨arr.toArray, by rw [e1]; exact ha, by simpa using hf⟩⟩
      obtain ⟨v, hv, t⟩ := hc.get q c hq
      refine ⟨v, ?_, t.ext E⟩
      have hqlt := (List.getElem?_eq_some_iff.1 hq).1
      rw [List.getElem?_take, if_pos hqlt, List.getElem?_drop] at hv
      simp [World.cell?, ha, hv]
    · rw [bup_other e] at hm
      rw [List.getElem?_set_ne (fun h => e h.symm)] at hp
      obtain ⟨q1, q2, q3, q4, q5, q6⟩ := R.obj j p m hp hm
      have hblk : w'.heap[m.b]? = w.heap[m.b]? := hk m.b (R.loc j m hm) (fun he => by
        have := (R.inj i j l m hl hm (fun h => e h.symm) he.symm).1.1
        rw [g3, hro] at this
        cases this)
      refine ⟨q1, q2, q3, q4, fun q c hq => ?_, fun hr => ?_⟩
      · obtain ⟨v, hv, t⟩ := q5 q c hq
        exact ⟨v, (World.cell?_of_block (a := ⟨m.b, m.base + q, none⟩) hblk).trans hv, t.ext E⟩
      · obtain ⟨a, ha1, ha2⟩ := q6 hr
        exact ⟨a, hblk.trans ha1, ha2⟩
  · have e : j ≠ i := by
      rintro rfl
      rw [List.getElem?_set_self hi] at hp
      cases hp
      rw [e3] at hr0
      cases hr0
    rw [bup_other e]
    rw [List.getElem?_set_ne (fun h => e h.symm)] at hp
    exact R.hid j p hp hs0 hr0 hg0
  · have e : j ≠ i := by
      rintro rfl
      rw [List.getElem?_set_self hi] at hp
      cases hp
      rw [e3] at hr0
      cases hr0
    rw [bup_other e] at hm
    rw [List.getElem?_set_ne (fun h => e h.symm)] at hp
    obtain ⟨k, c, rfl, m1, m2, m3, m4, m5⟩ := R.mp j p m hp hm hs0 hr0
    have e1 : k ≠ i := by
      rintro rfl
      rw [ho] at m1
      cases m1
      rw [m3] at hro
      cases hro
    refine ⟨k, c, rfl, by rw [List.getElem?_set_ne (fun h => e1 h.symm)]; exact m1, m2, m3, m4, m5.ext E (hk m.b (R.loc _ m hm) fun he => ?_)⟩
    have := (R.inj i _ l m hl hm (fun h => e h.symm) he.symm).1.1
    rw [g3, hro] at this
    cases this
end upd

theorem Rel.push {β : BM} {H : AH} {w w1 : World} (R : Rel β H w) (hs : SameHeap w w1) (cells arr : List Value) (e : TypeId) (sz : Nat) (hc : All2 (T1 β) cells (arr.take cells.length)) :
    Rel (bup β H.length ⟨w.heap.size, 0, arr.length, sz, 0, false⟩) (H ++ [⟨cells, e, sz, 0, false⟩]) (w1.alloc (.cells arr.toArray e)) ∧
    Ext H.length β w (bup β H.length ⟨w.heap.size, 0, arr.length, sz, 0, false⟩) (w1.alloc (.cells arr.toArray e)) := by
  have hsz : w1.heap.size = w.heap.size := by rw [hs.heap]
  have hold : ∀ k, k < w.heap.size → (w1.alloc (.cells arr.toArray e)).heap[k]? = w.heap[k]? := fun k hk => by
    first | rw [heap_alloc_old w1 _ k (by omega), hs.heap] | rw [heap_alloc_old w1 _ (by omega), hs.heap]
  have hnew : (w1.alloc (.cells arr.toArray e)).heap[w.heap.size]? = some (.cells arr.toArray e) := by
    rw [← hsz]; exact heap_alloc_new w1 _
  have hn : β H.length = none := R.dom _ (Nat.le_refl _)
  have E : Ext H.length β w (bup β H.length ⟨w.heap.size, 0, arr.length, sz, 0, false⟩) (w1.alloc (.cells arr.toArray e)) := by
    refine ⟨hs.os, hs.tape, hs.output, by simp [hsz], fun b hb _ => hold b hb, fun i l hl => ⟨l, ?_, rfl, rfl, .inl rfl⟩, fun i hi h => ?_, fun i l hl => ?_, fun i l hl _ => ?_⟩
    · rw [bup_other (fun e => by subst e; rw [hn] at hl; cases hl)]; exact hl
    · rw [bup_other (by omega)]; exact h
    · by_cases e : i = H.length
      · subst e
        rw [bup_same] at hl
        cases hl
        exact .inr (Nat.le_refl _)
      · rw [bup_other e] at hl; exact .inl ⟨l, hl, rfl, rfl, rfl⟩
    · rw [bup_other (fun e => by subst e; rw [hn] at hl; cases hl)]; exact hl
  refine ⟨⟨fun j hj => ?_, fun j m hm => ?_, fun j k a b ha' hb' hne he => ?_, fun j p m hp hm => ?_, fun j p hp hs0 hr0 hg0 => ?_, fun j p m hp hm hs0 hr0 => ?_⟩, E⟩
  · rw [List.length_append, List.length_singleton] at hj
    rw [bup_other (by omega)]
    exact R.dom j (by omega)
  · by_cases e : j = H.length
    · subst e; rw [bup_same] at hm; cases hm; simp [hsz]
    · rw [bup_other e] at hm; have := R.loc j m hm; simp [hsz]; omega
  · by_cases e : j = H.length
    · subst e
      rw [bup_same] at ha'
      cases ha'
      rw [bup_other (fun e => hne e.symm)] at hb'
      have := R.loc k b hb'
      simp at he
      omega
    · rw [bup_other e] at ha'
      by_cases e' : k = H.length
      · subst e'
        rw [bup_same] at hb'
        cases hb'
        have := R.loc j a ha'
        simp at he
        omega
      · rw [bup_other e'] at hb'
        exact R.inj j k a b ha' hb' hne he
  · by_cases e : j = H.length
    · subst e
      rw [bup_same] at hm
      cases hm
      rw [List.getElem?_append_right (Nat.le_refl _), Nat.sub_self] at hp
      simp only [List.getElem?_cons_zero, Option.some.injEq] at hp
      subst hp
      have hlen := hc.length
      rw [List.length_take] at hlen
      refine ⟨rfl, rfl, rfl, by simp; omega, fun q c hq => ?_, fun _ => ⟨arr.toArray, hnew, by simp⟩⟩
      obtain ⟨v, hv, t⟩ := hc.get q c hq
      have hqlt := (List.getElem?_eq_some_iff.1 hq).1
      rw [List.getElem?_take, if_pos hqlt] at hv
      exact ⟨v, by simp [World.cell?, hnew, hv], t.ext E⟩
    · rw [bup_other e] at hm
      have hj : j < H.length := by
        rcases Nat.lt_or_ge j H.length with h | h
        · exact h
        · rw [R.dom j h] at hm; cases hm
      rw [List.getElem?_append_left hj] at hp
      obtain ⟨q1, q2, q3, q4, q5, q6⟩ := R.obj j p m hp hm
      have hblk := hold m.b (R.loc j m hm)
      refine ⟨q1, q2, q3, q4, fun q c hq => ?_, fun hr => ?_⟩
      · obtain ⟨v, hv, t⟩ := q5 q c hq
        exact ⟨v, (World.cell?_of_block (a := ⟨m.b, m.base + q, none⟩) hblk).trans hv, t.ext E⟩
      · obtain ⟨a, ha1, ha2⟩ := q6 hr
        exact ⟨a, hblk.trans ha1, ha2⟩
  · have e : j ≠ H.length := by
      rintro rfl
      rw [List.getElem?_append_right (Nat.le_refl _), Nat.sub_self] at hp
      simp only [List.getElem?_cons_zero, Option.some.injEq] at hp
      subst hp
      cases hr0
    rw [bup_other e]
    rcases Nat.lt_or_ge j H.length with h | h
    · rw [List.getElem?_append_left h] at hp
      exact R.hid j p hp hs0 hr0 hg0
    · exact R.dom j h
  · have e : j ≠ H.length := by
      rintro rfl
      rw [List.getElem?_append_right (Nat.le_refl _), Nat.sub_self] at hp
      simp only [List.getElem?_cons_zero, Option.some.injEq] at hp
      subst hp
      cases hr0
    rw [bup_other e] at hm
    have hj : j < H.length := by
      rcases Nat.lt_or_ge j H.length with h | h
      · exact h
      · rw [R.dom j h] at hm; cases hm
    rw [List.getElem?_append_left hj] at hp
    obtain ⟨k, c, rfl, m1, m2, m3, m4, m5⟩ := R.mp j p m hp hm hs0 hr0
    exact ⟨k, c, rfl, by rw [List.getElem?_append_left (by omega)]; exact m1, m2, m3, m4, m5.ext E (hold m.b (R.loc _ m hm))⟩

end Go.Proofs.Ytdbflchpbhkanaa.AL
namespace Go.Proofs.Ytdbflchpbhkanaa.AL
open Go Go.RowKit
set_option linter.unusedVariables false
set_option linter.unusedSimpArgs false

def sizeT (P : Program) (t : TypeId) : Option Nat := (P.info? t).map (·.size)
def aggD : TypeDesc → Bool
  | .struct _ | .array _ _ => true
  | _ => false
def aggT (P : Program) (t : TypeId) : Option Bool := (P.underlying t).map aggD
def zeroT (P : Program) (t : TypeId) : Option Value := (P.info? t).bind (·.zero)

def constV : Value → Bool
  | .agg cs => cs.toList.all plainV
  | v => plainV v
abbrev Env := Nat → Option Value
def aev (env : Env) : Operand → Option Value
  | .tmp t => env t
  | .const v => if constV v then some v else none
  | .func f => some (.func (.func f) #[] #[])
  | .global _ => none
def EnvT (β : BM) (env : Env) (tmps : Array Value) : Prop := ∀ t v, env t = some v → ∃ v', tmps[t]? = some v' ∧ T3 β v v'

theorem T3.plain {β : BM} {v : Value} (h : plainV v = true) : T3 β v v := .one (.one (.one (.plain h)))
theorem T3.const {β : BM} {v : Value} (h : constV v = true) : T3 β v v := by
  unfold constV at h
  split at h
  · rename_i cs
    have : T2 β (.agg cs.toList.toArray) (.agg cs.toList.toArray) := .agg (All2.same fun a ha => .one (.plain (List.all_eq_true.1 h a ha)))
    simpa using T3.one this
  · exact .plain h
theorem EnvT.at_ {β : BM} {env : Env} {a : Act} (h : EnvT β env a.tmps) {x : Operand} {v : Value} (hx : aev env x = some v) : T3 β v (a.eval x) := by
  cases x with
  | tmp t =>
    obtain ⟨v', hv, t3⟩ := h t v hx
    have : a.eval (.tmp t) = v' := by simp [Act.eval, hv]
    rw [this]; exact t3
  | const c =>
    simp only [aev] at hx
    split at hx
    · cases hx; exact .const (by assumption)
    · cases hx
  | func f => cases hx; exact .plain rfl
  | global g => cases hx

theorem T0.of_plain {β : BM} {v v' : Value} (h : plainV v = true) (t : T0 β v v') : v' = v := by
  cases t with
  | plain _ => rfl
  | ptr => simp [plainV] at h
  | ptrOld => simp [plainV] at h
  | sl => simp [plainV] at h
  | slOld => simp [plainV] at h
  | mp => simp [plainV] at h
theorem T1.of_plain {β : BM} {v v' : Value} (h : plainV v = true) (t : T1 β v v') : v' = v := by
  cases t with
  | one t => exact t.of_plain h
  | fn t =>
    rename_i f cs cs'
    have hc : cs = [] := by
      simp [plainV] at h
      exact h
    subst hc
    cases t
    rfl
theorem T2.of_plain {β : BM} {v v' : Value} (h : plainV v = true) (t : T2 β v v') : v' = v := by
  cases t with
  | one t => exact t.of_plain h
  | agg t => simp [plainV] at h
theorem T3.of_plain {β : BM} {v v' : Value} (h : plainV v = true) (t : T3 β v v') : v' = v := by
  cases t with
  | one t => exact t.of_plain h
  | tup t => simp [plainV] at h
theorem T3.int {β : BM} {k : IntKind} {n : Int} {v' : Value} (t : T3 β (.int k n) v') : v' = .int k n := t.of_plain rfl
theorem T3.bool {β : BM} {b : Bool} {v' : Value} (t : T3 β (.bool b) v') : v' = .bool b := t.of_plain rfl
theorem T3.string {β : BM} {s : ByteArray} {v' : Value} (t : T3 β (.string s) v') : v' = .string s := t.of_plain rfl
def alive (H : AH) (i g : Nat) : Option AO := match H[i]? with
  | some o => if o.gen = g then some o else none
  | none => none
theorem alive_some {H : AH} {i g : Nat} {o : AO} (h : alive H i g = some o) : H[i]? = some o ∧ o.gen = g := by
  unfold alive at h
  split at h
  · split at h
    · cases h; exact ⟨by assumption, by assumption⟩
    · cases h
  · cases h
theorem T3.ptr {β : BM} {H : AH} {w : World} (R : Rel β H w) {i off g : Nat} {o : AO} {v' : Value} (t : T3 β (.pointer (some ⟨i, off, some g⟩)) v') (h : alive H i g = some o) :
    ∃ l, β i = some l ∧ l.gen = g ∧ v' = .pointer (some ⟨l.b, l.base + off, none⟩) := by
  obtain ⟨ho, hg⟩ := alive_some h
  rcases t with ((t | t) | t) | t
  rcases t with t | ⟨hl, hg'⟩ | ⟨hl, hg'⟩ | t | t
  · simp [plainV] at t
  · exact ⟨_, hl, hg', rfl⟩
  · have := (R.obj _ _ _ ho hl).1; omega
theorem T3.sl {β : BM} {H : AH} {w : World} (R : Rel β H w) {i off g n c : Nat} {o : AO} {v' : Value} (t : T3 β (.slice (some ⟨i, off, some g⟩) n c) v') (h : alive H i g = some o) :
    ∃ l a c', β i = some l ∧ l.gen = g ∧ v' = .slice (some a) n c' ∧ n ≤ c' ∧ (c = n → c' = n) ∧ (c' = 0 ∨ (a = ⟨l.b, l.base + off, none⟩ ∧ l.base + off + c' * l.sz ≤ l.fin)) := by
  obtain ⟨ho, hg⟩ := alive_some h
  rcases t with ((t | t) | t) | t
  rcases t with t | t | t | ⟨hl, hg', hn, hc, ha⟩ | ⟨hl, hg'⟩
  · simp [plainV] at t
  · exact ⟨_, _, _, hl, hg', rfl, hn, hc, ha⟩
  · have := (R.obj _ _ _ ho hl).1; omega
theorem T3.agg {β : BM} {cs : Array Value} {v' : Value} (t : T3 β (.agg cs) v') : ∃ cs' : Array Value, v' = .agg cs' ∧ All2 (T1 β) cs.toList cs'.toList := by
  rcases t with ((t | t) | t) | t
  · rcases t with t | t | t | t | t | t
    simp [plainV] at t
  · exact ⟨_, rfl, t⟩
theorem T3.tuple {β : BM} {cs : Array Value} {v' : Value} (t : T3 β (.tuple cs) v') : ∃ cs' : Array Value, v' = .tuple cs' ∧ All2 (T2 β) cs.toList cs'.toList := by
  rcases t with ((t | t) | t) | t
  · rcases t with t | t | t | t | t | t
    simp [plainV] at t
  · exact ⟨_, rfl, t⟩
theorem T3.func {β : BM} {f : Fn} {cs : Array Value} {v' : Value} (t : T3 β (.func f #[] cs) v') : ∃ cs' : Array Value, v' = .func f #[] cs' ∧ All2 (T0 β) cs.toList cs'.toList := by
  rcases t with ((t | t) | t) | t
  · rcases t with t | t | t | t | t | t
    simp [plainV] at t
    subst t
    exact ⟨#[], rfl, .nil⟩
  · exact ⟨_, rfl, t⟩
def isTup : Value → Bool
  | .tuple _ => true
  | _ => false
theorem T3.two {β : BM} {v v' : Value} (t : T3 β v v') (h : isTup v = false) : T2 β v v' := by
  cases t with
  | one t => exact t
  | tup t => simp [isTup] at h
def isRow : Value → Bool
  | .agg _ => true
  | _ => false
theorem T2.one' {β : BM} {v v' : Value} (t : T2 β v v') (h : isRow v = false) : T1 β v v' := by
  cases t with
  | one t => exact t
  | agg t => simp [isRow] at h

theorem add_lit (b o j : Nat) : (⟨b, o, none⟩ : Addr).add j = ⟨b, o + j, none⟩ := by unfold Addr.add; split <;> simp_all
theorem Rel.reads {β : BM} {H : AH} {w : World} (R : Rel β H w) {i : Nat} {o : AO} {l : Loc} (ho : H[i]? = some o) (hl : β i = some l) (off n : Nat) (hn : off + n ≤ o.cells.length) :
    ∃ cs : List Value, All2 (T1 β) ((o.cells.drop off).take n) cs ∧ ∀ j v, cs[j]? = some v → w.cell? ((⟨l.b, l.base + off, none⟩ : Addr).add j) = some v := by
  obtain ⟨h1, h2, h3, h4, h5, h6⟩ := R.obj i o l ho hl
  have hlen : ((o.cells.drop off).take n).length = n := by simp; omega
  have key : ∀ j, j < n → ∃ c, o.cells[off + j]? = some c ∧ ∃ v, w.cell? ⟨l.b, l.base + (off + j), none⟩ = some v ∧ T1 β c v := fun j hj => by
    have hlt : off + j < o.cells.length := by omega
    exact ⟨_, List.getElem?_eq_getElem hlt, h5 _ _ (List.getElem?_eq_getElem hlt)⟩
  refine ⟨(List.range n).map fun j => (w.cell? ⟨l.b, l.base + (off + j), none⟩).getD default, All2.of_get (by simp [hlen]) fun j c v hc hv => ?_, fun j v hv => ?_⟩
  · have hj : j < n := by
      have := (List.getElem?_eq_some_iff.1 hc).1
      omega
    obtain ⟨c', hc', v', hv', t⟩ := key j hj
    rw [List.getElem?_take, if_pos hj, List.getElem?_drop, hc'] at hc
    cases hc
    simp [List.getElem?_map, List.getElem?_range hj, hv'] at hv
    subst hv
    exact t
  · have hj : j < n := by
      have := (List.getElem?_eq_some_iff.1 hv).1
      simpa using this
    obtain ⟨c', hc', v', hv', t⟩ := key j hj
    simp [List.getElem?_map, List.getElem?_range hj, hv'] at hv
    subst hv
    have : (⟨l.b, l.base + off, none⟩ : Addr).add j = ⟨l.b, l.base + (off + j), none⟩ := by
      unfold Addr.add
      split
      · subst_vars; rfl
      · simp [Nat.add_assoc]
    rw [this, hv']

inductive AR where
  | val (v : Value) (H : AH)
  | call (f : FuncId) (args : List Value)
  | bad
def ptrAt (i off g : Nat) : Value := .pointer (some ⟨i, off, some g⟩)
def aLoad (P : Program) (H : AH) (t : TypeId) : Value → Option Value
  | .pointer (some ⟨i, off, some g⟩) => match alive H i g, sizeT P t, aggT P t with
    | some o, some n, some true => if off + n ≤ o.cells.length then some (.agg ((o.cells.drop off).take n).toArray) else none
    | some o, some _, some false => o.cells[off]?
    | _, _, _ => none
  | _ => none
def aStore (P : Program) (H : AH) (t : TypeId) : Value → Value → Option AH
  | .pointer (some ⟨i, off, some g⟩), v => match alive H i g, sizeT P t with
    | some o, some n => if o.ro = false ∧ isTup v = false ∧ v.cells.size = n ∧ off + n ≤ o.cells.length then some (H.set i { o with cells := o.cells.take off ++ v.cells.toList ++ o.cells.drop (off + n) }) else none
    | _, _ => none
  | _, _ => none
def aNew (H : AH) (cells : List Value) (e : TypeId) (sz : Nat) : AH := H ++ [⟨cells, e, sz, 0, false⟩]

section sound
variable {P : Program} {β : BM} {H : AH} {w : World}
theorem run_isAgg {t : TypeId} {b : Bool} (h : aggT P t = some b) : (isAgg t).run P w = .ok b w := by
  unfold aggT at h
  cases hu : P.underlying t with
  | none => rw [hu] at h; cases h
  | some d =>
    rw [hu] at h
    simp only [Option.map_some, Option.some.injEq] at h
    subst h
    unfold isAgg
    rw [Sem.run_bind, run_underlying hu]
    cases d <;> rfl
theorem run_sizeOf {t : TypeId} {n : Nat} (h : sizeT P t = some n) : (sizeOf t).run P w = .ok n w := by
  unfold sizeT at h
  cases hu : P.info? t with
  | none => rw [hu] at h; cases h
  | some d =>
    rw [hu] at h
    simp only [Option.map_some, Option.some.injEq] at h
    subst h
    simp [sizeOf, typeInfo, hu]
theorem aLoad_sound (R : Rel β H w) {t : TypeId} {p p' v : Value} (h : aLoad P H t p = some v) (hp : T3 β p p') : ∃ v', (Instr.loadAt t p').run P w = .ok v' w ∧ T2 β v v' := by
  unfold aLoad at h
  split at h
  · rename_i i off g
    cases ha : alive H i g with
    | none => simp [ha] at h
    | some o =>
      obtain ⟨ho, hg⟩ := alive_some ha
      obtain ⟨l, hl, hlg, rfl⟩ := hp.ptr R ha
      cases hs : sizeT P t with
      | none => simp [ha, hs] at h
      | some n =>
        cases hb : aggT P t with
        | none => simp [ha, hs, hb] at h
        | some b =>
          cases b with
          | true =>
            simp only [ha, hs, hb] at h
            split at h
            · rename_i hfit
              cases h
              obtain ⟨cs, h2, hc⟩ := R.reads ho hl off n hfit
              have hlen : cs.length = n := by rw [← h2.length]; simp; omega
              have hr := run_loadCells_list (P := P) w _ cs hc
              rw [hlen] at hr
              refine ⟨.agg cs.toArray, ?_, .agg h2⟩
              simp [Instr.loadAt, Instr.sureAddr, loadVar, Sem.run_bind, run_isAgg hb, run_sizeOf hs, hr]
            · cases h
          | false =>
            simp only [ha, hs, hb] at h
            obtain ⟨_, _, _, _, h5, _⟩ := R.obj _ _ _ ho hl
            obtain ⟨v', hv, t⟩ := h5 _ _ h
            refine ⟨v', ?_, .one t⟩
            simp [Instr.loadAt, Instr.sureAddr, loadVar, Sem.run_bind, run_isAgg hb, load, Sem.run, hv]
  · cases h
theorem aStore_sound (R : Rel β H w) {t : TypeId} {p p' v v' : Value} {H' : AH} (h : aStore P H t p v = some H') (hp : T3 β p p') (hv : T3 β v v') :
    ∃ w' β', (Instr.storeAt t p' v').run P w = .ok () w' ∧ Rel β' H' w' ∧ Ext H.length β w β' w' := by
  unfold aStore at h
  split at h
  · rename_i i off g
    cases ha : alive H i g with
    | none => simp [ha] at h
    | some o =>
      obtain ⟨ho, hg⟩ := alive_some ha
      obtain ⟨l, hl, hlg, rfl⟩ := hp.ptr R ha
      cases hs : sizeT P t with
      | none => simp [ha, hs] at h
      | some n =>
        simp only [ha, hs] at h
        split at h
        · rename_i hfit
          obtain ⟨hro, htu, hsz, hle⟩ := hfit
          cases h
          have hc := (hv.two htu).cells
          obtain ⟨g1, g2, g3, g4, g5, g6⟩ := R.obj _ _ _ ho hl
          obtain ⟨arr, harr, hfin⟩ := g6 hro
          have hn : v'.cells.toList.length = n := by rw [← hc.length]; simpa using hsz
          have h1 : ∀ u ∈ v'.cells.toList, u.oneCell' = true := fun u hu => by
            obtain ⟨x, _, t⟩ := hc.mem hu
            exact t.oneCell
          have hst := run_storeCells_at P l.b (l.base + off) o.elem v'.cells.toList 0 arr w harr (by rw [hn, hfin]; omega) h1
          rw [Nat.add_zero, hn] at hst
          have hrun : (Instr.storeAt t (.pointer (some ⟨l.b, l.base + off, none⟩)) v').run P w = .ok () (w.setRow l.b (arr.toList.take (l.base + off) ++ v'.cells.toList ++ arr.toList.drop (l.base + off + n)).toArray) := by
            have hsz' : v'.cells.size = n := by simpa using hn
            simp [Instr.storeAt, Instr.sureAddr, storeVar, Sem.run_bind, run_sizeOf hs, hsz', hst]
          have hold : All2 (T1 β) o.cells ((arr.toList.drop l.base).take o.cells.length) := by
            refine All2.of_get (by simp; omega) fun j c u hcj hu => ?_
            obtain ⟨u', hu', t⟩ := g5 j c hcj
            have hj := (List.getElem?_eq_some_iff.1 hcj).1
            rw [List.getElem?_take, if_pos hj, List.getElem?_drop] at hu
            simp [World.cell?, harr] at hu'
            simp at hu
            rw [hu'] at hu
            cases hu
            exact t
          have hal : arr.toList.length = l.fin := by simpa using hfin
          obtain ⟨R', E⟩ := R.upd (i := i) (o := o) (o' := { o with cells := o.cells.take off ++ v.cells.toList ++ o.cells.drop (off + n) }) (l := l) (l' := l)
            (w' := w.setRow l.b (arr.toList.take (l.base + off) ++ v'.cells.toList ++ arr.toList.drop (l.base + off + n)).toArray) ho hl hro rfl rfl rfl (by simp) (fun k _ hk => setRow_other w l.b k _ hk) (.inl rfl) (.inl rfl) rfl rfl hro g1 g2 (g3.trans hro)
            (arr.toList.take (l.base + off) ++ v'.cells.toList ++ arr.toList.drop (l.base + off + n)) (setRow_heap w l.b arr _ o.elem (0, 0) harr)
            (by simp only [List.length_append, List.length_take, List.length_drop, hn, hal]; omega)
            (by simp only [List.length_append, List.length_take, List.length_drop]; have : v.cells.toList.length = n := by simpa using hsz
                rw [this]; omega)
            (by
              have hvl : v.cells.toList.length = n := by simpa using hsz
              have e1 : (arr.toList.take (l.base + off) ++ v'.cells.toList ++ arr.toList.drop (l.base + off + n)).drop l.base = (arr.toList.drop l.base).take off ++ v'.cells.toList ++ arr.toList.drop (l.base + off + n) := by
                rw [List.append_assoc, List.drop_append_of_le_length (by rw [List.length_take]; omega), List.drop_take, List.append_assoc]
                congr 2
                omega
              rw [e1]
              have e2 : (o.cells.take off ++ v.cells.toList ++ o.cells.drop (off + n)).length = o.cells.length := by
                simp only [List.length_append, List.length_take, List.length_drop, hvl]; omega
              have e3 : ((arr.toList.drop l.base).take off ++ v'.cells.toList ++ arr.toList.drop (l.base + off + n)).take o.cells.length = (arr.toList.drop l.base).take off ++ v'.cells.toList ++ (arr.toList.drop (l.base + off + n)).take (o.cells.length - (off + n)) := by
                rw [List.take_append]
                have hx : ((arr.toList.drop l.base).take off ++ v'.cells.toList).length = off + n := by
                  simp only [List.length_append, List.length_take, List.length_drop, hn, hal]; omega
                rw [hx, List.take_of_length_le (by rw [hx]; exact hle)]
              rw [e2, e3]
              refine (All2.append (All2.append ?_ hc) ?_)
              · have := hold.take off
                rw [List.take_take] at this
                rwa [Nat.min_eq_left (by omega)] at this
              · have := hold.drop (off + n)
                rw [List.drop_take, List.drop_drop] at this
                rwa [← Nat.add_assoc] at this)
          rw [bup_id hl] at R' E
          exact ⟨_, _, hrun, R', E⟩
        · cases h
  · cases h
end sound

end Go.Proofs.Ytdbflchpbhkanaa.AL
namespace Go.Proofs.Ytdbflchpbhkanaa.AL
open Go Go.RowKit
set_option linter.unusedVariables false
set_option linter.unusedSimpArgs false

def keyOk : TypeDesc → Value → Bool
  | .int .i64, .int .i64 _ => true
  | .string, .string _ => true
  | _, _ => false
def keyEq : Value → Value → Bool
  | .int k a, .int k' b => decide (k = k') && a == b
  | .string a, .string b => a == b
  | _, _ => false
def mget (k : Value) : Ents → Option (List Value)
  | [] => none
  | e :: r => if keyEq k e.1 = true then some e.2 else mget k r
def mput (k : Value) (v : List Value) : Ents → Ents
  | [] => [(k, v)]
  | e :: r => if keyEq k e.1 = true then (e.1, v) :: r else e :: mput k v r
def mapT (P : Program) (t : TypeId) : Option (TypeDesc × Nat × Value) := match P.underlying t with
  | some (.map kt et) => match P.underlying kt, sizeT P et, zeroT P et with
    | some d, some n, some z => if constV z = true then some (d, n, z) else none
    | _, _, _ => none
  | _ => none
def mapO (H : AH) : Nat → Option (Nat × AO)
  | 0 => none
  | j + 1 => match H[j + 1]?, H[j]? with
    | some o, some c => if o.sz = 0 ∧ o.ro = true ∧ c.sz = 0 ∧ c.ro = true ∧ c.gen = 1 then some (j, c) else none
    | _, _ => none
def aMakeMap (P : Program) (H : AH) (t : TypeId) : Option (Value × AH) := match mapT P t with
  | some (_, n, _) => some (.map (some (H.length + 1)), H ++ [⟨[], n, 0, 1, true⟩, ⟨[], 0, 0, 0, true⟩])
  | none => none
def aLookup (P : Program) (H : AH) (t : TypeId) (m k : Value) (ok : Bool) : Option Value := match m with
  | .map (some i) => match mapT P t, mapO H i with
    | some (d, n, z), some (_, c) => match decE n c.cells with
      | some l => if c.elem = n ∧ keyOk d k = true ∧ l.all (fun e => keyOk d e.1) = true then
          some (match mget k l with
            | some v => if ok then .tuple #[packV v, .bool true] else packV v
            | none => if ok then .tuple #[z, .bool false] else z)
        else none
      | none => none
    | _, _ => none
  | _ => none
def rowOk (n : Nat) (v : Value) : Bool := if n = 1 then !isRow v else isRow v
def aMapPut (P : Program) (H : AH) (t : TypeId) (m k v : Value) : Option AH := match m with
  | .map (some i) => match mapT P t, mapO H i with
    | some (d, n, _), some (j, c) => match decE n c.cells with
      | some l => if (c.elem = n ∧ keyOk d k = true ∧ l.all (fun e => keyOk d e.1) = true) ∧ isTup v = false ∧ v.cells.size = n ∧ rowOk n v = true then
          some (H.set j { c with cells := encE (mput k v.cells.toList l) })
        else none
      | none => none
    | _, _ => none
  | _ => none
def aMapLen (H : AH) (i : Nat) : Option Value := match mapO H i with
  | some (_, c) => (decE c.elem c.cells).map fun l => .int .i64 l.length
  | none => none

theorem mapO_some {H : AH} {i j : Nat} {c : AO} (h : mapO H i = some (j, c)) : i = j + 1 ∧ ∃ o, H[i]? = some o ∧ o.sz = 0 ∧ o.ro = true ∧ H[j]? = some c ∧ c.sz = 0 ∧ c.ro = true ∧ c.gen = 1 := by
  cases i with
  | zero => cases h
  | succ q =>
    simp only [mapO] at h
    split at h
    · split at h
      · rename_i h1 h2 h3
        cases h
        exact ⟨rfl, _, h1, h3.1, h3.2.1, h2, h3.2.2⟩
      · cases h
    · cases h
theorem keyOk_is {d : TypeDesc} {k : Value} (h : keyOk d k = true) : MapKept.IsKey d k ∧ plainV k = true := by
  unfold keyOk at h
  split at h
  · exact ⟨by simp [MapKept.IsKey], rfl⟩
  · exact ⟨by simp [MapKept.IsKey], rfl⟩
  · cases h
theorem keyEq_iff {d : TypeDesc} {a b : Value} (ha : keyOk d a = true) (hb : keyOk d b = true) : keyEq a b = true ↔ a = b := by
  unfold keyOk at ha
  split at ha
  · unfold keyOk at hb
    split at hb
    · simp [keyEq]
    · simp_all
    · cases hb
  · unfold keyOk at hb
    split at hb
    · simp_all
    · simp [keyEq, MapKept.bytes_beq]
    · cases hb
  · cases ha
theorem decN_enc {n : Nat} : ∀ {f : Nat} {l : Ents}, (∀ e ∈ l, e.2.length = n) → (encE l).length ≤ f → decN n f (encE l) = some l
  | f, [], _, _ => by cases f <;> rfl
  | 0, e :: r, _, hf => by simp [encE] at hf
  | f + 1, e :: r, h, hf => by
    have he := h e (.head _)
    have e1 : encE (e :: r) = e.1 :: (e.2 ++ encE r) := by simp [encE]
    rw [e1] at hf ⊢
    simp only [List.length_cons, List.length_append] at hf
    have ih := decN_enc (n := n) (f := f) (l := r) (fun x hx => h x (.tail _ hx)) (by omega)
    simp only [decN, List.length_append]
    rw [if_neg (by omega), ← he, List.drop_left, List.take_left, he, ih]
    rfl
theorem decE_enc {n : Nat} {l : Ents} (h : ∀ e ∈ l, e.2.length = n) : decE n (encE l) = some l := decN_enc h (Nat.le_refl _)
theorem decN_len {n : Nat} : ∀ {f : Nat} {cs : List Value} {l : Ents}, decN n f cs = some l → ∀ e ∈ l, e.2.length = n
  | 0, [], l, h, e, he => by simp [decN] at h; subst h; cases he
  | _ + 1, [], l, h, e, he => by simp [decN] at h; subst h; cases he
  | 0, _ :: _, l, h, _, _ => by cases h
  | f + 1, k :: r, l, h, e, he => by
    simp only [decN] at h
    split at h
    · cases h
    · obtain ⟨l', hl, rfl⟩ := Option.map_eq_some_iff.1 h
      rcases List.mem_cons.1 he with rfl | he
      · simp only [List.length_take]; omega
      · exact decN_len hl e he
theorem mput_len {n : Nat} {k : Value} {v : List Value} (hv : v.length = n) : ∀ {l : Ents}, (∀ e ∈ l, e.2.length = n) → ∀ e ∈ mput k v l, e.2.length = n
  | [], _, e, he => by simp [mput] at he; subst he; exact hv
  | x :: r, h, e, he => by
    simp only [mput] at he
    split at he
    · rcases List.mem_cons.1 he with rfl | he
      · exact hv
      · exact h e (.tail _ he)
    · rcases List.mem_cons.1 he with rfl | he
      · exact h _ (.head _)
      · exact mput_len hv (fun y hy => h y (.tail _ hy)) e he
theorem packV_cells {n : Nat} {v : Value} (hn : v.cells.size = n) (hr : rowOk n v = true) (ht : isTup v = false) : packV v.cells.toList = v := by
  unfold rowOk at hr
  split at hr
  · have : v.cells = #[v] := by cases v <;> first | rfl | simp [isRow] at hr
    rw [this]
    rfl
  · rename_i h1
    cases v with
    | agg cs =>
      simp only [Value.cells] at hn ⊢
      unfold packV
      split
      · rename_i hq
        have : cs.size = 1 := by rw [← Array.length_toList, hq]; rfl
        omega
      · rfl
    | _ => simp [isRow] at hr
theorem find_rel {β : BM} {d : TypeDesc} {k : Value} (hk : keyOk d k = true) (v : List Value) : ∀ {l : Ents} {es : List MapEntry}, All2 (fun (kv : Value × List Value) (e : MapEntry) => plainV kv.1 = true ∧ e.key = kv.1 ∧ T2 β (packV kv.2) e.val) l es → l.all (fun e => keyOk d e.1) = true → ∀ i,
    (mget k l = none ∧ Instr.findNow d k es i = some none ∧ mput k v l = l ++ [(k, v)]) ∨ ∃ (j : Nat) (kv : Value × List Value) (e : MapEntry), l[j]? = some kv ∧ es[j]? = some e ∧ mget k l = some kv.2 ∧ Instr.findNow d k es i = some (some (i + j, e.val)) ∧ e.key = k ∧ mput k v l = l.set j (k, v)
  | [], _, .nil, _, i => .inl ⟨rfl, rfl, rfl⟩
  | x :: l, e :: es, .cons ⟨hp, he, ht⟩ hr, hl, i => by
    simp only [List.all_cons, Bool.and_eq_true] at hl
    obtain ⟨r, hs, hiff⟩ := MapKept.sameNow_of_keys (keyOk_is hk).1 (he ▸ (keyOk_is hl.1).1)
    by_cases hq : k = x.1
    · have h1 : keyEq k x.1 = true := (keyEq_iff hk hl.1).2 hq
      have h2 : r = true := hiff.2 (hq.trans he.symm)
      subst h2
      exact .inr ⟨0, x, e, rfl, rfl, by simp [mget, h1], by simp [Instr.findNow, hs], he.trans hq.symm, by rw [mput, if_pos h1, ← hq]; rfl⟩
    · have h1 : ¬ keyEq k x.1 = true := fun h => hq ((keyEq_iff hk hl.1).1 h)
      have h2 : r = false := by
        cases r with
        | false => rfl
        | true => exact absurd ((hiff.1 rfl).trans he) hq
      subst h2
      rcases find_rel hk v hr hl.2 (i + 1) with ⟨a1, a2, a3⟩ | ⟨j, kv, e', a1, a2, a3, a4, a5, a6⟩
      · exact .inl ⟨by simp [mget, h1, a1], by simp [Instr.findNow, hs, a2], by simp [mput, h1, a3]⟩
      · exact .inr ⟨j + 1, kv, e', by simpa using a1, by simpa using a2, by simp [mget, h1, a3], by simp [Instr.findNow, hs, a4]; omega, a5, by simp [mput, h1, a6]⟩
section
variable {P : Program} {β : BM} {H H' : AH} {w : World}
theorem T3.map {i : Nat} {v' : Value} (t : T3 β (.map (some i)) v') : ∃ l, β i = some l ∧ l.sz = 0 ∧ l.ro = true ∧ v' = .map (some l.b) := by
  rcases t with ((t | t) | t) | t
  rcases t with t | t | t | t | t | ⟨h1, h2, h3⟩
  · simp [plainV] at t
  · exact ⟨_, h1, h2, h3, rfl⟩
theorem mapO_in (R : Rel β H w) {i j : Nat} {c : AO} {v' : Value} (h : mapO H i = some (j, c)) (t : T3 β (.map (some i)) v') : ∃ l, β i = some l ∧ l.sz = 0 ∧ l.ro = true ∧ v' = .map (some l.b) ∧ β j = none ∧ l.base = 0 ∧ MapIn β c.elem c.cells l.b w := by
  obtain ⟨rfl, o, h1, h2, h3, h4, h5, h6, h7⟩ := mapO_some h
  obtain ⟨l, k1, k2, k3, rfl⟩ := t.map
  obtain ⟨j', c', e1, e2, _, _, _, m⟩ := R.mp _ o l h1 k1 h2 h3
  have : j' = j := by omega
  subst this
  rw [h4] at e2
  cases e2
  exact ⟨l, k1, k2, k3, rfl, R.hid j' c h4 h5 h6 (by omega), m.1, m.2.1 h7⟩
theorem mapT_some {t : TypeId} {d : TypeDesc} {n : Nat} {z : Value} (h : mapT P t = some (d, n, z)) : ∃ kt et, P.underlying t = some (.map kt et) ∧ P.underlying kt = some d ∧ (∀ w, (zeroValue et).run P w = .ok z w) ∧ constV z = true := by
  unfold mapT at h
  split at h
  · rename_i kt et hu
    split at h
    · rename_i d' n' z' h1 h2 h3
      split at h
      · rename_i hz
        cases h
        refine ⟨kt, et, hu, h1, fun w => ?_, hz⟩
        unfold zeroT at h3
        cases hi : P.info? et with
        | none => simp [hi] at h3
        | some q =>
          simp only [hi, Option.bind_some] at h3
          simp [zeroValue, typeInfo, hi, h3]
      · cases h
    · cases h
  · cases h
theorem aLookup_sound (R : Rel β H w) {t : TypeId} {m m' k k' v : Value} {ok : Bool} (h : aLookup P H t m k ok = some v) (hm : T3 β m m') (hk : T3 β k k') : ∃ v', (Instr.lookup t m' k' ok).run P w = .ok v' w ∧ T3 β v v' := by
  unfold aLookup at h
  split at h
  · rename_i i
    split at h
    · rename_i d n z j c hT hO
      split at h
      · rename_i l hl
        split at h
        · rename_i hc
          obtain ⟨hn, hko, hall⟩ := hc
          obtain ⟨kt, et, h1, h2, h3, h4⟩ := mapT_some hT
          obtain ⟨lo, _, _, _, rfl, _, q4, es, l', b1, b2, b3, b4⟩ := mapO_in R hO hm
          rw [hn, hl] at b3
          cases b3
          have hkk := hk.of_plain (keyOk_is hko).2
          subst hkk
          have hkey := (keyOk_is hko).1
          cases h
          rcases find_rel hko [] b4 hall 0 with ⟨a1, a2, _⟩ | ⟨q, kv, e, a1, a2, a3, a4, _, _⟩
          · refine ⟨if ok then .tuple #[z, .bool false] else z, ?_, ?_⟩
            · simp [Instr.lookup, run_underlying h1, MapKept.run_getObj_map b1, MapKept.run_checkKey h2 hkey, MapKept.run_findKey h2 a2, h3, Result.andThen]
            · rw [a1]
              cases ok with
              | false => exact .const h4
              | true => exact .tup (vs := [z, .bool false]) (vs' := [z, .bool false]) (.cons ((T3.const h4).two (by cases z <;> first | rfl | simp [constV, plainV] at h4)) (.cons (.one (.one (.plain rfl))) .nil))
          · obtain ⟨e', he', g1, g2, g3⟩ := b4.get q kv a1
            rw [a2] at he'
            cases he'
            refine ⟨if ok then .tuple #[e.val, .bool true] else e.val, ?_, ?_⟩
            · simp [Instr.lookup, run_underlying h1, MapKept.run_getObj_map b1, MapKept.run_checkKey h2 hkey, MapKept.run_findKey h2 a4, Result.andThen]
            · rw [a3]
              cases ok with
              | false => exact .one g3
              | true => exact .tup (vs := [packV kv.2, .bool true]) (vs' := [e.val, .bool true]) (.cons g3 (.cons (.one (.one (.plain rfl))) .nil))
        · cases h
      · cases h
    · cases h
  · cases h
theorem aMapLen_sound (R : Rel β H w) {t ty : TypeId} {kt et : TypeId} {i : Nat} {x' v : Value} (hu : P.underlying t = some (.map kt et)) (h : aMapLen H i = some v) (hx : T3 β (.map (some i)) x') : (Builtin.len_ #[t] ty #[x']).run P w = .ok v w ∧ plainV v = true := by
  unfold aMapLen at h
  split at h
  · rename_i j c hO
    obtain ⟨l, hl, rfl⟩ := Option.map_eq_some_iff.1 h
    obtain ⟨lo, _, _, _, rfl, _, q4, es, l', b1, b2, b3, b4⟩ := mapO_in R hO hx
    rw [hl] at b3
    cases b3
    have : es.size = l.length := by rw [← Array.length_toList, ← b4.length]
    exact ⟨by simp [Builtin.len_, run_underlying hu, MapKept.run_getObj_map b1, goInt, this], rfl⟩
  · cases h
theorem Rel.map_alone (R : Rel β H w) {i j : Nat} {l m : Loc} (h1 : β i = some l) (h2 : l.sz = 0) (h3 : β j = some m) (h4 : l.b = m.b) : i = j := by
  by_cases e : i = j
  · exact e
  · exact absurd h2 (R.inj i j l m h1 h3 e h4).1.2
theorem Rel.map_set (R : Rel β H w) {i j : Nat} {c c' o : AO} {l : Loc} {ob : Obj} (hi : i = j + 1) (ho : H[i]? = some o) (hs : o.sz = 0) (hr : o.ro = true) (hc : H[j]? = some c) (c1 : c.sz = 0) (c2 : c.ro = true) (c3 : c.gen ≠ 0) (hl : β i = some l) (hls : l.sz = 0)
    (e1 : c'.sz = 0) (e2 : c'.ro = true) (e3 : c'.gen ≠ 0) (hb : ∀ a, w.cell? ⟨l.b, a, none⟩ = none) (hm : HidIn β c' l { w with heap := w.heap.setIfInBounds l.b ob }) :
    Rel β (H.set j c') { w with heap := w.heap.setIfInBounds l.b ob } ∧ Ext H.length β w β { w with heap := w.heap.setIfInBounds l.b ob } := by
  have hj := (List.getElem?_eq_some_iff.1 hc).1
  have hne : ∀ b, b ≠ l.b → (w.heap.setIfInBounds l.b ob)[b]? = w.heap[b]? := fun b h => by rw [Array.getElem?_setIfInBounds_ne (fun e => h e.symm)]
  have E : Ext H.length β w β { w with heap := w.heap.setIfInBounds l.b ob } := by
    refine ⟨rfl, rfl, rfl, by simp, fun b _ h => hne b fun e => ?_, fun i l hl => ⟨l, hl, rfl, rfl, .inl rfl⟩, fun _ _ h => h, fun i l hl => .inl ⟨l, hl, rfl, rfl, rfl⟩, fun _ _ h _ => h⟩
    exact (h i l hl e.symm).2 hls
  refine ⟨⟨fun q hq => R.dom q (by simpa using hq), fun q m hq => by simpa using R.loc q m hq, R.inj, fun q p m hp hq => ?_, fun q p hp h1 h2 h3 => ?_, fun q p m hp hq h1 h2 => ?_⟩, E⟩
  · have hqj : q ≠ j := by rintro rfl; rw [R.hid _ c hc c1 c2 c3] at hq; cases hq
    rw [List.getElem?_set_ne (fun e => hqj e.symm)] at hp
    obtain ⟨g1, g2, g3, g4, g5, g6⟩ := R.obj q p m hp hq
    by_cases e : m.b = l.b
    · have : i = q := R.map_alone hl hls hq e.symm
      subst this
      rw [ho] at hp
      cases hp
      refine ⟨g1, g2, g3, g4, fun a b hab => ?_, fun h => by rw [hr] at h; cases h⟩
      obtain ⟨v, hv, _⟩ := g5 a b hab
      rw [hl] at hq
      cases hq
      rw [hb] at hv
      cases hv
    · have hk := hne m.b e
      refine ⟨g1, g2, g3, g4, fun a b hab => ?_, fun h => ?_⟩
      · obtain ⟨v, hv, t⟩ := g5 a b hab
        exact ⟨v, (World.cell?_of_block (a := ⟨m.b, m.base + a, none⟩) hk).trans hv, t.ext E⟩
      · obtain ⟨arr, ha1, ha2⟩ := g6 h
        exact ⟨arr, hk.trans ha1, ha2⟩
  · by_cases e : q = j
    · subst e; exact R.hid _ c hc c1 c2 c3
    · rw [List.getElem?_set_ne (fun h => e h.symm)] at hp
      exact R.hid q p hp h1 h2 h3
  · have hqj : q ≠ j := by rintro rfl; rw [R.hid _ c hc c1 c2 c3] at hq; cases hq
    rw [List.getElem?_set_ne (fun e => hqj e.symm)] at hp
    obtain ⟨a, ca, rfl, k1, k2, k3, k4, k5⟩ := R.mp q p m hp hq h1 h2
    by_cases e : a = j
    · subst e
      subst hi
      rw [hl] at hq
      cases hq
      exact ⟨a, c', rfl, List.getElem?_set_self hj, e1, e2, e3, hm⟩
    · refine ⟨a, ca, rfl, by rw [List.getElem?_set_ne (fun h => e h.symm)]; exact k1, k2, k3, k4, k5.ext E (hne _ fun eb => ?_)⟩
      have := R.map_alone hl hls hq eb.symm
      omega
theorem hid1 {c : AO} {l : Loc} (hl : l.base = 0) (h : c.gen = 1) (m : MapIn β c.elem c.cells l.b w) : HidIn β c l w := ⟨hl, fun _ => m, fun e => absurd h e⟩
theorem aMapPut_sound (R : Rel β H w) {t : TypeId} {m m' k k' v v' : Value} (h : aMapPut P H t m k v = some H') (hm : T3 β m m') (hk : T3 β k k') (hv : T3 β v v') : ∃ w', (Instr.mapUpdate t m' k' v').run P w = .ok () w' ∧ Rel β H' w' ∧ Ext H.length β w β w' := by
  unfold aMapPut at h
  split at h
  · rename_i i
    split at h
    · rename_i d n z j c hT hO
      split at h
      · rename_i l hl
        split at h
        · rename_i hc
          obtain ⟨⟨hn, hko, hall⟩, htu, hsz, hrow⟩ := hc
          obtain ⟨kt, et, h1, h2, h3, h4⟩ := mapT_some hT
          obtain ⟨lo, q1, q2, q3, rfl, _, q4, es, l', b1, b2, b3, b4⟩ := mapO_in R hO hm
          obtain ⟨hij, o, o1, o2, o3, o4, o5, o6, o7⟩ := mapO_some hO
          rw [hn, hl] at b3
          cases b3
          have hkk := hk.of_plain (keyOk_is hko).2
          subst hkk
          have hkey := (keyOk_is hko).1
          have hv2 := hv.two htu
          have hpk : T2 β (packV v.cells.toList) v' := by rw [packV_cells hsz hrow htu]; exact hv2
          cases h
          have hlt := (Array.getElem?_eq_some_iff.1 b1).1
          have hlen := decN_len hl
          have hdec : decE n (encE (mput k' v.cells.toList l)) = some (mput k' v.cells.toList l) := decE_enc (mput_len (by simpa using hsz) hlen)
          rcases find_rel hko v.cells.toList b4 hall 0 with ⟨a1, a2, a3⟩ | ⟨q, kv, e, a1, a2, a3, a4, a5, a6⟩
          · refine ⟨_, by simp [Instr.mapUpdate, run_underlying h1, MapKept.run_getObj_map b1, MapKept.run_checkKey h2 hkey, MapKept.run_findKey h2 a2, MapKept.run_setObj_map _ b1, Result.andThen]; rfl, R.map_set hij o1 o2 o3 o4 o5 o6 (by omega) q1 q2 o5 o6 (by simp [o7]) (fun a => by simp [World.cell?, b1]) <| hid1 q4 o7 ⟨es.push { key := k', val := v', born := es.size }, mput k' v.cells.toList l, ?_, ?_, by rw [hn]; exact hdec, ?_⟩⟩
            · simp only [Array.size_push]; exact (MapKept.heap_set b1).1
            · intro a b hab
              rw [Array.getElem?_push] at hab
              split at hab
              · rename_i hq
                cases hab
                exact hq.symm
              · exact b2 a b hab
            · rw [a3, Array.toList_push]
              exact b4.append (.cons ⟨(keyOk_is hko).2, rfl, hpk⟩ .nil)
          · have hj : es[q]? = some e := by simpa using a2
            simp only [Nat.zero_add] at a4
            refine ⟨_, by simp [Instr.mapUpdate, run_underlying h1, MapKept.run_getObj_map b1, MapKept.run_checkKey h2 hkey, MapKept.run_findKey h2 a4, hj, a5, MapKept.run_keyThatStays hkey, MapKept.run_setObj_map _ b1, Result.andThen]; rfl, R.map_set hij o1 o2 o3 o4 o5 o6 (by omega) q1 q2 o5 o6 (by simp [o7]) (fun a => by simp [World.cell?, b1]) <| hid1 q4 o7 ⟨es.modify q fun e => { e with key := k', val := v' }, mput k' v.cells.toList l, ?_, ?_, by rw [hn]; exact hdec, ?_⟩⟩
            · simp only [Array.size_modify]; exact (MapKept.heap_set b1).1
            · intro a b hab
              rw [Array.getElem?_modify] at hab
              split at hab
              · obtain ⟨x, hx, rfl⟩ := Option.map_eq_some_iff.1 hab
                exact b2 a x hx
              · exact b2 a b hab
            · rw [a6]
              refine All2.of_get (by simp [b4.length]) fun a x y hx hy => ?_
              rw [Array.getElem?_toList, Array.getElem?_modify] at hy
              rw [List.getElem?_set] at hx
              by_cases e1 : q = a
              · rw [if_pos e1] at hy
                rw [if_pos e1] at hx
                obtain ⟨y0, hy0, rfl⟩ := Option.map_eq_some_iff.1 hy
                split at hx
                · cases hx
                  exact ⟨(keyOk_is hko).2, rfl, hpk⟩
                · cases hx
              · rw [if_neg e1] at hy
                rw [if_neg e1] at hx
                obtain ⟨y', hy', g⟩ := b4.get a x hx
                rw [Array.getElem?_toList, hy] at hy'
                cases hy'
                exact g
        · cases h
      · cases h
    · cases h
  · cases h
theorem Rel.push2 (R : Rel β H w) (ob : Obj) (c : AO) (c1 : c.sz = 0) (c2 : c.ro = true) (c3 : c.gen ≠ 0) (hm : ∀ β', Ext H.length β w β' (w.alloc ob) → HidIn β' c ⟨w.heap.size, 0, 0, 0, 0, true⟩ (w.alloc ob)) :
    Rel (bup β (H.length + 1) ⟨w.heap.size, 0, 0, 0, 0, true⟩) (H ++ [c, ⟨[], 0, 0, 0, true⟩]) (w.alloc ob) ∧ Ext H.length β w (bup β (H.length + 1) ⟨w.heap.size, 0, 0, 0, 0, true⟩) (w.alloc ob) := by
  have hold : ∀ b, b < w.heap.size → (w.alloc ob).heap[b]? = w.heap[b]? := fun b hb => heap_alloc_old w _ hb
  have hn1 : β (H.length + 1) = none := R.dom _ (by omega)
  have E : Ext H.length β w (bup β (H.length + 1) ⟨w.heap.size, 0, 0, 0, 0, true⟩) (w.alloc ob) := by
    refine ⟨rfl, rfl, rfl, by simp, fun b hb _ => hold b hb, fun i l hl => ⟨l, ?_, rfl, rfl, .inl rfl⟩, fun i hi h => ?_, fun i l hl => ?_, fun i l hl _ => ?_⟩
    · rw [bup_other (fun e => by subst e; rw [hn1] at hl; cases hl)]; exact hl
    · rw [bup_other (by omega)]; exact h
    · by_cases e : i = H.length + 1
      · subst e
        rw [bup_same] at hl
        cases hl
        exact .inr (Nat.le_refl _)
      · rw [bup_other e] at hl; exact .inl ⟨l, hl, rfl, rfl, rfl⟩
    · rw [bup_other (fun e => by subst e; rw [hn1] at hl; cases hl)]; exact hl
  refine ⟨⟨fun i hi => ?_, fun i l hl => ?_, fun i k a b ha hb hne he => ?_, fun i o l ho hl => ?_, fun i o ho h1 h2 h3 => ?_, fun i o l ho hl h1 h2 => ?_⟩, E⟩
  · simp only [List.length_append, List.length_cons, List.length_nil] at hi
    rw [bup_other (by omega)]
    exact R.dom i (by omega)
  · by_cases e : i = H.length + 1
    · subst e
      rw [bup_same] at hl
      cases hl
      simp
    · rw [bup_other e] at hl
      have := R.loc i l hl
      simp; omega
  · by_cases e : i = H.length + 1
    · subst e
      rw [bup_same] at ha
      cases ha
      rw [bup_other (fun e => hne e.symm)] at hb
      have := R.loc k b hb
      simp at he
      omega
    · rw [bup_other e] at ha
      by_cases e' : k = H.length + 1
      · subst e'
        rw [bup_same] at hb
        cases hb
        have := R.loc i a ha
        simp at he
        omega
      · rw [bup_other e'] at hb
        exact R.inj i k a b ha hb hne he
  · by_cases e : i = H.length + 1
    · subst e
      rw [bup_same] at hl
      cases hl
      rw [List.getElem?_append_right (by omega)] at ho
      simp at ho
      subst ho
      exact ⟨rfl, rfl, rfl, by simp, fun j c hc => by simp at hc, fun h => by cases h⟩
    · rw [bup_other e] at hl
      have hi : i < H.length := by
        rcases Nat.lt_or_ge i H.length with h | h
        · exact h
        · rw [R.dom i h] at hl; cases hl
      rw [List.getElem?_append_left hi] at ho
      obtain ⟨g1, g2, g3, g4, g5, g6⟩ := R.obj i o l ho hl
      have hb := hold l.b (R.loc i l hl)
      refine ⟨g1, g2, g3, g4, fun j c hc => ?_, fun hr => ?_⟩
      · obtain ⟨v, hv, t⟩ := g5 j c hc
        exact ⟨v, (World.cell?_of_block (a := ⟨l.b, l.base + j, none⟩) hb).trans hv, t.ext E⟩
      · obtain ⟨arr, ha1, ha2⟩ := g6 hr
        exact ⟨arr, hb.trans ha1, ha2⟩
  · rcases Nat.lt_or_ge i H.length with h | h
    · rw [List.getElem?_append_left h] at ho
      rw [bup_other (by omega)]
      exact R.hid i o ho h1 h2 h3
    · rw [List.getElem?_append_right h] at ho
      by_cases e : i = H.length + 1
      · subst e
        simp at ho
        subst ho
        exact absurd rfl h3
      · rw [bup_other e]
        exact R.dom i h
  · by_cases e : i = H.length + 1
    · subst e
      rw [bup_same] at hl
      cases hl
      exact ⟨H.length, c, rfl, by rw [List.getElem?_append_right (Nat.le_refl _)]; simp, c1, c2, c3, hm _ E⟩
    · rw [bup_other e] at hl
      have hi : i < H.length := by
        rcases Nat.lt_or_ge i H.length with h | h
        · exact h
        · rw [R.dom i h] at hl; cases hl
      rw [List.getElem?_append_left hi] at ho
      obtain ⟨j, c, rfl, k1, k2, k3, k4, k5⟩ := R.mp i o l ho hl h1 h2
      exact ⟨j, c, rfl, by rw [List.getElem?_append_left (by omega)]; exact k1, k2, k3, k4, k5.ext E (hold l.b (R.loc _ l hl))⟩
theorem aMakeMap_sound (R : Rel β H w) {t : TypeId} {v : Value} (h : aMakeMap P H t = some (v, H')) : ∃ v' w' β', (Instr.makeMap t none).run P w = .ok v' w' ∧ Rel β' H' w' ∧ Ext H.length β w β' w' ∧ T3 β' v v' := by
  unfold aMakeMap at h
  split at h
  · rename_i d n z hT
    cases h
    obtain ⟨R', E⟩ := R.push2 (.map #[] 0) ⟨[], n, 0, 1, true⟩ rfl rfl (by simp) fun β' _ => hid1 rfl rfl ⟨#[], [], heap_alloc_new w _, fun j e h => by simp at h, rfl, .nil⟩
    exact ⟨.map (some w.heap.size), _, _, by simp [Instr.makeMap, newObj, Sem.run], R', E, .one (.one (.one (.mp (bup_same ..) rfl rfl)))⟩
  · cases h
end
end Go.Proofs.Ytdbflchpbhkanaa.AL
namespace Go.Proofs.Ytdbflchpbhkanaa.AL
open Go Go.RowKit
set_option linter.unusedVariables false
set_option linter.unusedSimpArgs false

def itO (H : AH) : Nat → Option (Nat × AO)
  | 0 => none
  | j + 1 => match H[j + 1]?, H[j]? with
    | some o, some c => if o.sz = 0 ∧ o.ro = true ∧ o.gen = 0 ∧ c.sz = 0 ∧ c.ro = true ∧ c.gen = 2 then some (j, c) else none
    | _, _ => none
def decS : List Value → Option (List Nat)
  | [] => some []
  | .int .i64 z :: r => if 0 ≤ z then (decS r).map (z.toNat :: ·) else none
  | _ => none
structure Nx where
  j : Nat
  c : AO
  E : Ents
  seen : List Nat
def aNx (H : AH) (i : Nat) : Option Nx := match itO H i with
  | some (j, c) => match c.cells with
    | .map (some m) :: r => match mapO H m, decS r with
      | some (_, o), some seen => match decE o.elem o.cells with
        | some E => if E.length = c.elem then some ⟨j, c, E, seen⟩ else none
        | none => none
      | _, _ => none
    | _ => none
  | none => none
def aRange (P : Program) (H : AH) (t : TypeId) (m : Value) : Option (Value × AH) := match P.underlying t, m with
  | some (.map _ _), .map (some i) => match mapO H i with
    | some (_, c) => match decE c.elem c.cells with
      | some l => some (ptrAt (H.length + 1) 0 0, H ++ [⟨[.map (some i)], l.length, 0, 2, true⟩, ⟨[], 0, 0, 0, true⟩])
      | none => none
    | none => none
  | _, _ => none
def aEntry (H : AH) (p : Value) : Option Value := match p with
  | .pointer (some ⟨i, 0, some 0⟩) => match aNx H i with
    | some x => match x.seen.getLast? with
      | some s => match x.E[s]? with
        | some e => some (.tuple #[e.1, packV e.2])
        | none => none
      | none => none
    | none => none
  | _ => none
def Nx.mark (x : Nx) (H : AH) (s : Nat) : AH := H.set x.j { x.c with cells := x.c.cells ++ [.int .i64 (s : Int)] }

theorem itO_some {H : AH} {i j : Nat} {c : AO} (h : itO H i = some (j, c)) : i = j + 1 ∧ ∃ o, H[i]? = some o ∧ o.sz = 0 ∧ o.ro = true ∧ o.gen = 0 ∧ H[j]? = some c ∧ c.sz = 0 ∧ c.ro = true ∧ c.gen = 2 := by
  cases i with
  | zero => cases h
  | succ q =>
    simp only [itO] at h
    split at h
    · split at h
      · rename_i h1 h2 h3
        cases h
        exact ⟨rfl, _, h1, h3.1, h3.2.1, h3.2.2.1, h2, h3.2.2.2⟩
      · cases h
    · cases h
theorem decS_some : ∀ {r : List Value} {seen : List Nat}, decS r = some seen → r = seen.map fun (s : Nat) => Value.int .i64 (s : Int)
  | [], seen, h => by cases h; rfl
  | .int .i64 z :: r, seen, h => by
    simp only [decS] at h
    split at h
    · rename_i hz
      obtain ⟨s, hs, rfl⟩ := Option.map_eq_some_iff.1 h
      rw [decS_some hs]
      simp [Int.toNat_of_nonneg hz]
    · cases h
theorem decS_enc : ∀ seen : List Nat, decS (seen.map fun (s : Nat) => Value.int .i64 (s : Int)) = some seen
  | [] => rfl
  | s :: r => by simp [decS, decS_enc r]
theorem aNx_some {H : AH} {i : Nat} {x : Nx} (h : aNx H i = some x) : ∃ m jm om, itO H i = some (x.j, x.c) ∧ x.c.cells = .map (some m) :: x.seen.map (fun (s : Nat) => Value.int .i64 (s : Int)) ∧ mapO H m = some (jm, om) ∧ decE om.elem om.cells = some x.E ∧ x.E.length = x.c.elem := by
  unfold aNx at h
  split at h
  · rename_i j c hi
    split at h
    · rename_i m r hc
      split at h
      · rename_i jm om seen hm hs
        split at h
        · rename_i E hE
          split at h
          · rename_i hl
            cases h
            exact ⟨m, jm, om, hi, by rw [hc, decS_some hs], hm, hE, hl⟩
          · cases h
        · cases h
      · cases h
    · cases h
  · cases h
section
variable {P : Program} {β : BM} {H H' : AH} {w : World}
theorem aRange_sound (R : Rel β H w) {t : TypeId} {m m' v : Value} (h : aRange P H t m = some (v, H')) (hm : T3 β m m') : ∃ v' w' β', (Instr.range t m').run P w = .ok v' w' ∧ Rel β' H' w' ∧ Ext H.length β w β' w' ∧ T3 β' v v' := by
  unfold aRange at h
  split at h
  · rename_i kt et i hu
    split at h
    · rename_i j c hO
      split at h
      · rename_i l hl
        cases h
        obtain ⟨lo, q1, q2, q3, rfl, _, q4, es, l', b1, b2, b3, b4⟩ := mapO_in R hO hm
        rw [hl] at b3
        cases b3
        have hsz : es.size = l.length := by rw [← Array.length_toList, ← b4.length]
        obtain ⟨R', E⟩ := R.push2 (.mapIter (some lo.b) es.size #[] es.size) ⟨[.map (some i)], l.length, 0, 2, true⟩ rfl rfl (by simp) fun β' E => ⟨rfl, fun e => by simp at e, fun _ => ⟨i, lo.b, [], rfl, (T0.mp q1 q2 q3).ext E, by rw [← hsz]; exact heap_alloc_new w _⟩⟩
        have hp := T0.ptr (off := 0) (bup_same β (H.length + 1) ⟨w.heap.size, 0, 0, 0, 0, true⟩) rfl
        exact ⟨.pointer (some ⟨w.heap.size, 0, none⟩), _, _, by simp [Instr.range, run_underlying hu, MapKept.run_getObj_map b1, newObj, Sem.run, Result.andThen], R', E, .one (.one (.one hp))⟩
      · cases h
    · cases h
  · cases h
theorem aNx_in (R : Rel β H w) {i : Nat} {x : Nx} {p' : Value} (h : aNx H i = some x) (hp : T3 β (ptrAt i 0 0) p') :
    ∃ (l : Loc) (b : Nat) (es : Array MapEntry), i = x.j + 1 ∧ β i = some l ∧ l.sz = 0 ∧ p' = .pointer (some ⟨l.b, 0, none⟩) ∧ w.heap[l.b]? = some (.mapIter (some b) x.E.length x.seen.toArray x.E.length) ∧ w.heap[b]? = some (.map es es.size) ∧ es.size = x.E.length ∧ l.b ≠ b ∧
      (∀ (j : Nat) (e : MapEntry), es[j]? = some e → e.born = j) ∧ All2 (fun (kv : Value × List Value) (e : MapEntry) => plainV kv.1 = true ∧ e.key = kv.1 ∧ T2 β (packV kv.2) e.val) x.E es.toList ∧
      (∀ w', (∀ b', b' ≠ l.b → w'.heap[b']? = w.heap[b']?) → ∀ s : Nat, w'.heap[l.b]? = some (.mapIter (some b) x.E.length (x.seen.toArray.push s) x.E.length) → HidIn β { x.c with cells := x.c.cells ++ [.int .i64 (s : Int)] } l w') := by
  obtain ⟨m, jm, om, h1, h2, h3, h4, h5⟩ := aNx_some h
  obtain ⟨rfl, o, o1, o2, o3, o3', o4, o5, o6, o7⟩ := itO_some h1
  have hal : alive H (x.j + 1) 0 = some o := by simp [alive, o1, o3']
  obtain ⟨l, l1, l2, rfl⟩ := hp.ptr R hal
  obtain ⟨g1, g2, g3, g4, g5, g6⟩ := R.obj _ o l o1 l1
  obtain ⟨j', c', e1, e2, _, _, _, hd⟩ := R.mp _ o l o1 l1 o2 o3
  have : j' = x.j := by omega
  subst this
  rw [o4] at e2
  cases e2
  obtain ⟨i0, b, seen, s1, s2, s3⟩ := hd.2.2 (by omega)
  rw [h2] at s1
  simp only [List.cons.injEq, Value.map.injEq, Option.some.injEq] at s1
  obtain ⟨rfl, s1⟩ := s1
  have hse : x.seen = seen := by
    have := congrArg decS s1
    rw [decS_enc, decS_enc] at this
    exact Option.some.inj this
  subst hse
  obtain ⟨lo, q1, q2, q3, e4, _, q4, es, l', b1, b2, b3, b4⟩ := mapO_in R h3 (.one (.one (.one s2)))
  cases e4
  rw [h4] at b3
  cases b3
  have hsz : es.size = x.E.length := by rw [← Array.length_toList, ← b4.length]
  have hne : l.b ≠ lo.b := fun e => by
    rw [e, b1] at s3
    cases s3
  rw [hd.1]
  rw [← h5] at s3
  refine ⟨l, lo.b, es, rfl, l1, by rw [g2, o2], by simp, s3, b1, hsz, hne, b2, b4, fun w' hw s hs => ⟨hd.1, fun e => absurd e (by simp [o7]), fun _ => ⟨m, lo.b, x.seen ++ [s], by simp [h2], s2, by rw [hs]; simp [h5]⟩⟩⟩
theorem aNx_entry (R : Rel β H w) {i : Nat} {x : Nx} {p' : Value} (h : aNx H i = some x) (hp : T3 β (ptrAt i 0 0) p') {s : Nat} {kv : Value × List Value} (hs : x.seen.getLast? = some s) (he : x.E[s]? = some kv) :
    ∃ v', (Instr.entry p').run P w = .ok v' w ∧ T3 β (.tuple #[kv.1, packV kv.2]) v' := by
  obtain ⟨l, b, es, _, _, _, rfl, h1, h2, h3, _, h4, h5, _⟩ := aNx_in R h hp
  obtain ⟨e, g1, g2, g3, g4⟩ := h5.get s kv he
  obtain ⟨seen', hse⟩ : ∃ q, x.seen = q ++ [s] := by
    obtain ⟨q, hq⟩ := List.getLast?_eq_some_iff.1 hs
    exact ⟨q, hq⟩
  have hb := h4 s e (by simpa using g1)
  have hr : w.heap[l.b]? = some (.mapIter (some b) x.E.length (seen'.toArray.push e.born) es.size) := by rw [h1, hse, hb, h3]; simp
  have hnd : (es.toList.map (·.born)).Nodup := by
    have : es.toList.map (·.born) = List.range es.toList.length := by
      apply List.ext_getElem?
      intro j
      rw [List.getElem?_map]
      by_cases hj : j < es.toList.length
      · rw [List.getElem?_range hj, List.getElem?_eq_getElem hj, Option.map_some, h4 j _ (by rw [← Array.getElem?_toList, List.getElem?_eq_getElem hj])]
      · have h' : es.toList.length ≤ j := by omega
        rw [List.getElem?_eq_none h', List.getElem?_eq_none (by simpa using h')]
        rfl
    rw [this]
    exact List.nodup_range
  refine ⟨_, run_entry_at w l.b b x.E.length seen'.toArray es es.size e hr h2 (List.mem_of_getElem? g1) hnd, ?_⟩
  exact .tup (vs := [kv.1, packV kv.2]) (vs' := [e.key, e.val]) (.cons (by rw [g3]; exact .one (.one (.plain g2))) (.cons g4 .nil))
theorem aEntry_sound (R : Rel β H w) {p p' v : Value} (h : aEntry H p = some v) (hp : T3 β p p') : ∃ v', (Instr.entry p').run P w = .ok v' w ∧ T3 β v v' := by
  unfold aEntry at h
  split at h
  · split at h
    · rename_i x hx
      split at h
      · rename_i s hs
        split at h
        · rename_i e he
          cases h
          exact aNx_entry R hx hp hs he
        · cases h
      · cases h
    · cases h
  · cases h
theorem next_sound (R : Rel β H w) {i : Nat} {x : Nx} {p' : Value} (ty : TypeId) (h : aNx H i = some x) (hp : T3 β (ptrAt i 0 0) p') :
    ((∀ s, s < x.E.length → s ∈ x.seen) ∧ (Instr.next p' false ty).run P w = .ok (.tuple #[.bool false]) w) ∨
    ∃ (s : Nat) (kv : Value × List Value) (v' : Value) (w' : World), s ∉ x.seen ∧ x.E[s]? = some kv ∧ (Instr.next p' false ty).run P w = .ok v' w' ∧ T3 β (.tuple #[.bool true, kv.1, packV kv.2]) v' ∧ Rel β (x.mark H s) w' ∧ Ext H.length β w β w' := by
  have hx := h
  obtain ⟨l, b, es, hi, hl, hls, rfl, h1, h2, h3, hne, h4, h5, hm⟩ := aNx_in R h hp
  have hold : ∀ y ∈ es.toList, y.born < x.E.length := fun y hy => by
    obtain ⟨j, hj⟩ := List.getElem?_of_mem hy
    rw [Array.getElem?_toList] at hj
    have := (Array.getElem?_eq_some_iff.1 hj).1
    rw [h4 j y hj]
    omega
  rcases run_next_at (P := P) w ty l.b b x.E.length x.E.length x.seen.toArray es es.size h1 h2 hold (Nat.le_refl _) with ⟨h0, hr⟩ | ⟨e, he, w1, hw1, hr⟩
  · left
    refine ⟨fun s hs => ?_, hr⟩
    apply Classical.byContradiction
    intro hn
    have hlt : s < es.size := by omega
    have hmem : es[s] ∈ leftOf es x.seen.toArray := by
      unfold leftOf
      rw [Array.mem_filter]
      refine ⟨Array.getElem_mem hlt, ?_⟩
      rw [h4 s _ (Array.getElem?_eq_getElem hlt)]
      simpa using hn
    have : leftOf es x.seen.toArray = #[] := Array.eq_empty_of_size_eq_zero h0
    rw [this] at hmem
    simp at hmem
  · right
    obtain ⟨m1, m2⟩ := mem_left he
    obtain ⟨s, hs⟩ := List.getElem?_of_mem m1
    have hb : e.born = s := h4 s e (by simpa using hs)
    have hkl : s < x.E.length := by have := (List.getElem?_eq_some_iff.1 hs).1; rw [h5.length]; exact this
    obtain ⟨e', g1, g2, g3, g4⟩ := h5.get s _ (List.getElem?_eq_getElem hkl)
    rw [hs] at g1
    cases g1
    obtain ⟨m, jm, om, hit, _⟩ := aNx_some hx
    obtain ⟨rfl, o, o1, o2, o3, o3', o4, o5, o6, o7⟩ := itO_some hit
    have hw : SameHeap w w1 := by rcases hw1 with rfl | rfl <;> exact ⟨rfl, rfl, rfl, rfl⟩
    have R1 := R.same hw
    have hlt := (Array.getElem?_eq_some_iff.1 h1).1
    obtain ⟨R2, E2⟩ := R1.map_set (ob := .mapIter (some b) x.E.length (x.seen.toArray.push e.born) es.size) (c' := { x.c with cells := x.c.cells ++ [.int .i64 (s : Int)] }) rfl o1 o2 o3 o4 o5 o6 (by omega) hl hls o5 o6 (by simp [o7]) (fun a => by simp [World.cell?, hw.heap, h1])
      (hm _ (fun b' hb' => by simp only [hw.heap]; rw [Array.getElem?_setIfInBounds_ne (fun e => hb' e.symm)]) s (by simp only [hw.heap]; rw [Array.getElem?_setIfInBounds_self_of_lt hlt, hb, h3]))
    refine ⟨s, _, _, _, ?_, List.getElem?_eq_getElem hkl, hr, ?_, R2, (Ext.same _ hw).trans E2 (Nat.le_refl _)⟩
    · rw [hb] at m2
      simpa using m2
    · exact .tup (vs := [.bool true, _, _]) (vs' := [.bool true, e.key, e.val]) (.cons (.one (.one (.plain rfl))) (.cons (by rw [g3]; exact .one (.one (.plain g2))) (.cons g4 .nil)))
end
end Go.Proofs.Ytdbflchpbhkanaa.AL
namespace Go.Proofs.Ytdbflchpbhkanaa.AL
open Go Go.RowKit
set_option linter.unusedVariables false
set_option linter.unusedSimpArgs false

def fillL (place : Nat → Option (Nat × Nat)) : List Value → List (Nat × Value) → Option (List Value)
  | cells, [] => some cells
  | cells, (i, v) :: rest => match place i with
    | none => none
    | some (off, size) => if v.cells.size = size ∧ off + size ≤ cells.length then fillL place (cells.take off ++ v.cells.toList ++ cells.drop (off + size)) rest else none
theorem splice_eq (off : Nat) (v : Array Value) (cs : Array Value) (h : off + v.size ≤ cs.size) :
    v.zipIdx.foldl (fun cs (x : Value × Nat) => cs.setIfInBounds (off + x.2) x.1) cs = (cs.toList.take off ++ v.toList ++ cs.toList.drop (off + v.size)).toArray := by
  obtain ⟨h1, h2⟩ := Great.foldl_set off v.toList 0 cs
  rw [← Array.foldl_toList, Array.toList_zipIdx]
  apply Array.ext'
  apply List.ext_getElem?
  intro k
  rw [Array.getElem?_toList, h2 k]
  simp only [Nat.add_zero, Array.length_toList, List.toList_toArray]
  by_cases hk : off ≤ k ∧ k < off + v.size ∧ k < cs.size
  · rw [if_pos hk, List.getElem?_append_left (by simp; omega), List.getElem?_append_right (by simp; omega)]
    congr 1
    simp
    omega
  · rw [if_neg hk]
    by_cases h3 : k < off
    · rw [List.getElem?_append_left (by simp; omega), List.getElem?_append_left (by simp; omega), List.getElem?_take, if_pos h3, Array.getElem?_toList]
    · by_cases h4 : k < cs.size
      · rw [List.getElem?_append_right (by simp; omega), List.getElem?_drop, Array.getElem?_toList]
        congr 1
        simp
        omega
      · rw [Array.getElem?_eq_none (by omega), List.getElem?_eq_none (by simp; omega)]
theorem fill_sound {β : BM} {place : Nat → Option (Nat × Nat)} : ∀ {parts parts' : List (Nat × Value)} {cells cells' r : List Value}, All2 (fun p q => p.1 = q.1 ∧ T2 β p.2 q.2) parts parts' → All2 (T1 β) cells cells' →
    fillL place cells parts = some r → ∃ r', Instr.fill place cells'.toArray parts' = some r'.toArray ∧ All2 (T1 β) r r'
  | _, _, cells, cells', r, .nil, hc, h => by
    cases h
    exact ⟨cells', rfl, hc⟩
  | _, _, cells, cells', r, .cons (a := (i, v)) (b := (i', v')) ⟨e, t⟩ hp, hc, h => by
    simp only at e t
    subst e
    simp only [fillL] at h
    unfold Instr.fill
    cases hpl : place i with
    | none => simp [hpl] at h
    | some os =>
      obtain ⟨off, size⟩ := os
      simp only [hpl] at h ⊢
      split at h
      · rename_i hs
        have hvc := t.cells
        have hvs : v'.cells.size = size := by
          have := hvc.length
          simp at this
          omega
        have hl := hc.length
        rw [if_neg (by simp [hvs]; omega)]
        have key := fill_sound (place := place) (cells := cells.take off ++ v.cells.toList ++ cells.drop (off + size)) (cells' := cells'.take off ++ v'.cells.toList ++ cells'.drop (off + size)) hp
          (All2.append (All2.append (hc.take _) hvc) (hc.drop _)) h
        obtain ⟨r', h1, h2⟩ := key
        refine ⟨r', ?_, h2⟩
        rw [← h1]
        congr 1
        have := splice_eq off v'.cells cells'.toArray (by simp; omega)
        rw [hvs] at this
        simpa using this
      · cases h
def placeT (P : Program) (t : TypeId) : Option (Value × (Nat → Option (Nat × Nat))) :=
  match P.info? t, P.underlying t with
  | some it, some (.array _ e) => match it.zero, P.info? e with
    | some z, some ie => some (z, fun i => some (i * ie.size, ie.size))
    | _, _ => none
  | some it, some (.struct fields) => match it.zero, fields.toList.mapM (fun f => (P.info? f.type).map fun i => (f.offset, i.size)) with
    | some z, some places => some (z, fun i => places.toArray[i]?)
    | _, _ => none
  | _, _ => none
theorem built_of {P : Program} {t : TypeId} {z : Value} {pl : Nat → Option (Nat × Nat)} (h : placeT P t = some (z, pl)) (parts : List (Nat × Value)) : P.built t parts = Instr.fill pl z.cells parts := by
  unfold placeT at h
  unfold Program.built
  split at h
  · rename_i it n e h1 h2
    simp only [h1, h2]
    split at h
    · rename_i z' ie h3 h4
      simp only [h3, h4]
      simp only [Option.some.injEq, Prod.mk.injEq] at h
      obtain ⟨rfl, rfl⟩ := h
      rfl
    · cases h
  · rename_i it fs h1 h2
    simp only [h1, h2]
    split at h
    · rename_i z' places h3 h4
      simp only [h3, h4]
      simp only [Option.some.injEq, Prod.mk.injEq] at h
      obtain ⟨rfl, rfl⟩ := h
      rfl
    · cases h
  · cases h
theorem constV_cells {β : BM} {z : Value} (h : constV z = true) : All2 (T1 β) z.cells.toList z.cells.toList := ((T3.const h).two (by cases z <;> first | rfl | simp [constV, plainV] at h)).cells
def noTup (l : List (Nat × Value)) : Bool := l.all fun p => !isTup p.2
def aBuild (P : Program) (t : TypeId) (parts : List (Nat × Value)) : Option Value := match placeT P t with
  | some (z, pl) => if constV z = true ∧ noTup parts = true then (fillL pl z.cells.toList parts).map fun r => .agg r.toArray else none
  | none => none
theorem parts_two {β : BM} {parts parts' : List (Nat × Value)} (h : All2 (fun p q => p.1 = q.1 ∧ T3 β p.2 q.2) parts parts') (hn : noTup parts = true) : All2 (fun p q => p.1 = q.1 ∧ T2 β p.2 q.2) parts parts' := by
  induction h with
  | nil => exact .nil
  | cons hr _ ih =>
    simp only [noTup, List.all_cons, Bool.and_eq_true] at hn
    exact .cons ⟨hr.1, hr.2.two (by simpa using hn.1)⟩ (ih hn.2)
theorem aBuild_sound {P : Program} {β : BM} {w : World} {t : TypeId} {parts parts' : List (Nat × Value)} {v : Value} (h : aBuild P t parts = some v) (hp : All2 (fun p q => p.1 = q.1 ∧ T3 β p.2 q.2) parts parts') :
    ∃ v', (Instr.build t parts'.toArray).run P w = .ok v' w ∧ T2 β v v' := by
  unfold aBuild at h
  split at h
  · rename_i z pl hpl
    split at h
    · rename_i hz
      obtain ⟨r, hr, rfl⟩ := Option.map_eq_some_iff.1 h
      obtain ⟨r', h1, h2⟩ := fill_sound (parts_two hp hz.2) (constV_cells hz.1) hr
      refine ⟨.agg r'.toArray, run_build w t _ _ ?_, .agg h2⟩
      rw [List.toList_toArray, built_of hpl]
      simpa using h1
    · cases h
  · cases h

section new
variable {P : Program} {β : BM} {H : AH} {w w1 : World}
theorem push_sound (R : Rel β H w) (hs : SameHeap w w1) (cells arr : List Value) (e : TypeId) (sz : Nat) (hc : All2 (T1 β) cells (arr.take cells.length)) :
    ∃ β', Rel β' (aNew H cells e sz) (w1.alloc (.cells arr.toArray e)) ∧ Ext H.length β w β' (w1.alloc (.cells arr.toArray e)) ∧ β' H.length = some ⟨w.heap.size, 0, arr.length, sz, 0, false⟩ := by
  obtain ⟨R', E⟩ := R.push hs cells arr e sz hc
  exact ⟨_, R', E, bup_same _ _ _⟩
theorem new_ptr {n m : Nat} {l : Loc} (h : β n = some l) (hg : l.gen = 0) (hb : l.b = m) (hbase : l.base = 0) : T3 β (ptrAt n 0 0) (.pointer (some ⟨m, 0, none⟩)) := by
  have := T0.ptr (off := 0) h hg
  rw [hb, hbase] at this
  exact .one (.one (.one this))
theorem new_sl {n m k c c' : Nat} {l : Loc} (h : β n = some l) (hg : l.gen = 0) (hb : l.b = m) (hbase : l.base = 0) (hk : k ≤ c') (hc : c = k → c' = k) (hf : c' * l.sz ≤ l.fin) : T3 β (.slice (some ⟨n, 0, some 0⟩) k c) (.slice (some ⟨m, 0, none⟩) k c') := by
  refine .one (.one (.one (.sl h hg hk hc (.inr ⟨?_, ?_⟩))))
  · rw [hb, hbase]
  · rw [hbase]; simpa using hf
theorem box_sound (R : Rel β H w) {t : TypeId} {v v' : Value} (hv : T2 β v v') :
    ∃ β' w', (Instr.box t v').run P w = .ok (.pointer (some ⟨w.heap.size, 0, none⟩)) w' ∧ Rel β' (aNew H v.cells.toList t 1) w' ∧ Ext H.length β w β' w' ∧ T3 β' (ptrAt H.length 0 0) (.pointer (some ⟨w.heap.size, 0, none⟩)) := by
  have hl := hv.cells.length
  obtain ⟨β', R', E, hn⟩ := push_sound (w1 := w) R ⟨rfl, rfl, rfl, rfl⟩ v.cells.toList v'.cells.toList t 1 (by rw [List.take_of_length_le (by omega)]; exact hv.cells)
  refine ⟨β', _, ?_, R', E, new_ptr hn rfl rfl rfl⟩
  simp [Instr.box, newVar, newRow]
def aAlloc (P : Program) (H : AH) (t : TypeId) : Option AH := match zeroT P t with
  | some z => if constV z = true then some (aNew H z.cells.toList t 1) else none
  | none => none
theorem aAlloc_sound (R : Rel β H w) {t : TypeId} {H' : AH} (h : aAlloc P H t = some H') :
    ∃ β' w', (Instr.alloc t true (.tuple #[])).run P w = .ok (.pointer (some ⟨w.heap.size, 0, none⟩)) w' ∧ Rel β' H' w' ∧ Ext H.length β w β' w' ∧ T3 β' (ptrAt H.length 0 0) (.pointer (some ⟨w.heap.size, 0, none⟩)) := by
  unfold aAlloc at h
  split at h
  · rename_i z hz
    split at h
    · rename_i hc
      cases h
      obtain ⟨β', w', h1, h2⟩ := box_sound (P := P) (t := t) R ((T3.const (β := β) hc).two (by cases z <;> first | rfl | simp [constV, plainV] at hc))
      refine ⟨β', w', ?_, h2⟩
      rw [← h1]
      unfold zeroT at hz
      cases hi : P.info? t with
      | none => simp [hi] at hz
      | some i =>
        simp [hi] at hz
        simp [Instr.alloc, Instr.box, zeroValue, typeInfo, hi, hz]
    · cases h
  · cases h
end new

def elemT (P : Program) (t : TypeId) : Option TypeId := match P.underlying t with
  | some (.slice e) => some e
  | _ => none
theorem elemT_some {P : Program} {t e : TypeId} (h : elemT P t = some e) : P.underlying t = some (.slice e) := by
  unfold elemT at h
  split at h
  · cases h; assumption
  · cases h
structure EInfo where
  size : Nat
  bytes : Nat
  zero : Value
def einfo (P : Program) (e : TypeId) : Option EInfo := match P.info? e with
  | some i => match i.zero with
    | some z => if z.cells.size = i.size ∧ 0 < i.size ∧ constV z = true ∧ i.bytes ≤ 16384 then some ⟨i.size, i.bytes, z⟩ else none
    | none => none
  | none => none
theorem einfo_some {P : Program} {e : TypeId} {q : EInfo} (h : einfo P e = some q) : ∃ i, P.info? e = some i ∧ i.zero = some q.zero ∧ i.size = q.size ∧ i.bytes = q.bytes ∧ q.zero.cells.size = q.size ∧ 0 < q.size ∧ constV q.zero = true ∧ q.bytes ≤ 16384 := by
  unfold einfo at h
  split at h
  · rename_i i hi
    split at h
    · rename_i z hz
      split at h
      · rename_i hc
        cases h
        exact ⟨i, hi, hz, rfl, rfl, hc.1, hc.2.1, hc.2.2.1, hc.2.2.2⟩
      · cases h
    · cases h
  · cases h
def LIM : Nat := 4294967296
def zeros (q : EInfo) (n : Nat) : List Value := (List.range n).map fun i => q.zero.cells[i % q.zero.cells.size]!
theorem zeros_rel {β : BM} {q : EInfo} (h : constV q.zero = true) (hp : 0 < q.zero.cells.size) (n : Nat) : All2 (T1 β) (zeros q n) (zeros q n) := by
  refine All2.same fun a ha => ?_
  obtain ⟨i, _, rfl⟩ := List.mem_map.1 ha
  have hc := constV_cells (β := β) h
  have hlt : i % q.zero.cells.size < q.zero.cells.size := Nat.mod_lt _ hp
  obtain ⟨b, hb, t⟩ := hc.get (i % q.zero.cells.size) (q.zero.cells[i % q.zero.cells.size]) (by simp [hlt])
  simp [hlt] at hb
  rw [show q.zero.cells[i % q.zero.cells.size]! = q.zero.cells[i % q.zero.cells.size] from getElem!_pos q.zero.cells _ hlt]
  rw [← hb] at t
  exact t
def aBuildSlice (P : Program) (H : AH) (t : TypeId) (len : Nat) (parts : List (Nat × Value)) : Option (Value × AH) := match elemT P t with
  | some e => match einfo P e with
    | some q => if len * q.size ≤ 16777216 ∧ noTup parts = true then (fillL (fun i => some (i * q.size, q.size)) (zeros q (len * q.size)) parts).map fun r => (.slice (some ⟨H.length, 0, some 0⟩) len len, aNew H r e q.size) else none
    | none => none
  | none => none

section lit
variable {P : Program} {β : BM} {H : AH} {w w1 : World}
theorem fillL_length {place : Nat → Option (Nat × Nat)} : ∀ {parts : List (Nat × Value)} {cells r : List Value}, fillL place cells parts = some r → r.length = cells.length
  | [], _, _, h => by cases h; rfl
  | (i, v) :: rest, cells, r, h => by
    simp only [fillL] at h
    split at h
    · cases h
    · split at h
      · rename_i hs
        rw [fillL_length h]
        have : v.cells.toList.length = v.cells.size := by simp
        simp only [List.length_append, List.length_take, List.length_drop, this]
        omega
      · cases h
theorem aBuildSlice_sound (R : Rel β H w) {t : TypeId} {len : Nat} {parts parts' : List (Nat × Value)} {v : Value} {H' : AH} (h : aBuildSlice P H t len parts = some (v, H'))
    (hp : All2 (fun p q => p.1 = q.1 ∧ T3 β p.2 q.2) parts parts') :
    ∃ β' w' v', (Instr.buildSlice t len parts'.toArray).run P w = .ok v' w' ∧ Rel β' H' w' ∧ Ext H.length β w β' w' ∧ T3 β' v v' := by
  unfold aBuildSlice at h
  split at h
  · rename_i e he
    have hu := elemT_some he
    split at h
    · rename_i q hq
      obtain ⟨i, hi, hz, hsz, hby, hzs, hpos, hcz, hb⟩ := einfo_some hq
      split at h
      · rename_i hc
        obtain ⟨r, hr, hv⟩ := Option.map_eq_some_iff.1 h
        cases hv
        obtain ⟨r', h1, h2⟩ := fill_sound (parts_two hp hc.2) (zeros_rel (β := β) hcz (by omega) _) hr
        have hl := h2.length
        obtain ⟨β', R', E, hn⟩ := push_sound (w1 := w) R ⟨rfl, rfl, rfl, rfl⟩ r r' e q.size (by rw [List.take_of_length_le (by omega)]; exact h2)
        have hrl : r'.length = len * q.size := by
          rw [← hl, fillL_length hr]
          simp [zeros]
        refine ⟨β', _, .slice (some ⟨w.heap.size, 0, none⟩) len len, ?_, R', E, new_sl hn rfl rfl rfl (Nat.le_refl _) (fun _ => rfl) (by show len * q.size ≤ r'.length; omega)⟩
        by_cases h0 : len * q.size = 0
        · have hz0 : zeros q (len * q.size) = [] := by rw [h0]; rfl
          rw [hz0] at h1
          have hsm : ¬ (16777216 < len * i.size) := by rw [hsz]; omega
          have h0' : len * i.size = 0 := by rw [hsz]; exact h0
          have hl0 : len = 0 := by
            rcases Nat.mul_eq_zero.1 h0 with h | h
            · exact h
            · omega
          subst hl0
          rw [← hsz] at h1
          have e0 : Array.map (fun x : Nat => (default : Value)) (Array.range 0) = (#[] : Array Value) := by simp
          simp [Instr.buildSlice, run_underlying hu, sizeOf, typeInfo, zeroValue, hi, hz, newRow]
          rw [e0, h1]
          simp
        · refine run_buildSlice w t e len parts'.toArray r'.toArray i q.zero hu hi hz (by rw [hsz]; omega) (by rw [hsz]; exact h0) ?_
          rw [hsz, List.toList_toArray]
          rw [← h1]
          congr 1
          apply Array.ext'
          simp [zeros]
      · cases h
    · cases h
  · cases h
end lit

end Go.Proofs.Ytdbflchpbhkanaa.AL
namespace Go.Proofs.Ytdbflchpbhkanaa.AL
open Go Go.RowKit
set_option linter.unusedVariables false
set_option linter.unusedSimpArgs false

section run
variable {P : Program} {w : World}
theorem run_append_room' (t t2 ty e : TypeId) (i : TypeInfo) (u : TypeDesc) (ht : P.underlying t = some (.slice e)) (ht2 : P.underlying t2 = some u) (hni : (∃ e2, u = .slice e2) ∨ u = .string) (hi : P.info? e = some i)
    (g o sLen sCap : Nat) (cur : Array Value) (hg : w.heap[g]? = some (.cells cur e (0, 0))) (x : Value) (m : Nat) (news : List Value)
    (hlen : (Builtin.lenOf x).run P w = .ok m w) (hfc : (Builtin.firstCells i.size m x).run P w = .ok news.toArray w) (h1 : ∀ u ∈ news, u.oneCell' = true)
    (hroom : sLen + m ≤ sCap) (hfit : o + sLen * i.size + news.length ≤ cur.size) :
    (Builtin.append_ #[t, t2] ty #[.slice (some ⟨g, o, none⟩) sLen sCap, x]).run P w =
      .ok (.slice (some ⟨g, o, none⟩) (sLen + m) sCap) (w.setRow g (cur.toList.take (o + sLen * i.size) ++ news ++ cur.toList.drop (o + sLen * i.size + news.length)).toArray) := by
  have hst := run_storeCells_at P g (o + sLen * i.size) e news 0 cur w hg (by simpa using hfit) h1
  simp only [Nat.add_zero] at hst
  have hadd : (⟨g, o, none⟩ : Addr).add (sLen * i.size) = ⟨g, o + sLen * i.size, none⟩ := by unfold Addr.add; split <;> simp_all
  rcases hni with ⟨e2, rfl⟩ | rfl <;> simp [Builtin.append_, run_underlying ht, run_underlying ht2, sizeOf, typeInfo, hi, hlen, hroom, hfc, hadd, hst]
theorem run_append_same (t t2 ty e : TypeId) (i : TypeInfo) (u : TypeDesc) (ht : P.underlying t = some (.slice e)) (ht2 : P.underlying t2 = some u) (hni : (∃ e2, u = .slice e2) ∨ u = .string) (hi : P.info? e = some i)
    (a : Option Addr) (sLen sCap : Nat) (x : Value) (hle : sLen ≤ sCap) (hlen : (Builtin.lenOf x).run P w = .ok 0 w) (hfc : (Builtin.firstCells i.size 0 x).run P w = .ok #[] w) :
    (Builtin.append_ #[t, t2] ty #[.slice a sLen sCap, x]).run P w = .ok (.slice a sLen sCap) w := by
  cases a <;> rcases hni with ⟨e2, rfl⟩ | rfl <;> simp [Builtin.append_, run_underlying ht, run_underlying ht2, sizeOf, typeInfo, hi, hlen, hle, hfc, storeCells]
theorem run_append_grow' (t t2 ty e : TypeId) (i : TypeInfo) (z : Value) (u : TypeDesc) (ht : P.underlying t = some (.slice e)) (ht2 : P.underlying t2 = some u) (hni : (∃ e2, u = .slice e2) ∨ u = .string) (hi : P.info? e = some i) (hz : i.zero = some z)
    (a : Option Addr) (sLen sCap : Nat) (olds : List Value) (holds : ∀ w', SameHeap w w' → (Builtin.firstCells i.size sLen (.slice a sLen sCap)).run P w' = .ok olds.toArray w')
    (x : Value) (m : Nat) (news : List Value) (hlen : (Builtin.lenOf x).run P w = .ok m w) (hfc : ∀ w', SameHeap w w' → (Builtin.firstCells i.size m x).run P w' = .ok news.toArray w')
    (hg : sCap < sLen + m) (h63 : ((sLen + m : Nat) : Int) ≤ 9223372036854775807) (hfit : Builtin.nextslicecap (sLen + m) sCap * i.bytes ≤ 281474976710656) :
    (Builtin.append_ #[t, t2] ty #[.slice a sLen sCap, x]).run P w =
      .ok (.slice (some ⟨w.heap.size, 0, none⟩) (sLen + m) (grownCap w (sLen + m) sCap e))
        (w.drew.alloc (.cells (olds.toArray ++ news.toArray ++ Builtin.zeroCells z.cells (grownCap w (sLen + m) sCap e - (sLen + m))) e)) := by
  have hn : ¬ (sLen + m ≤ sCap) := by omega
  have h63' : ¬ (9223372036854775807 < ((sLen : Int) + (m : Int))) := by omega
  have h48' : ¬ (281474976710656 < Builtin.nextslicecap (sLen + m) sCap * i.bytes) := by omega
  have hf := hfc w.drew ⟨rfl, rfl, rfl, rfl⟩
  have hfo := holds w.drew ⟨rfl, rfl, rfl, rfl⟩
  rcases hni with ⟨e2, rfl⟩ | rfl
  all_goals
    simp [Builtin.append_, run_underlying ht, run_underlying ht2, sizeOf, typeInfo, zeroValue, hi, hz, hlen, hn, h63', h48', Question.forced, hf, hfo, newRow, grownCap]
    congr 2
    apply Array.ext'
    simp [List.append_assoc]
end run

def srcOf (H : AH) (size : Nat) : Value → Option (List Value × Nat)
  | .slice none 0 0 => some ([], 0)
  | .slice (some ⟨i, off, some g⟩) m _ => match alive H i g with
    | some o => if off + m * size ≤ o.cells.length then some ((o.cells.drop off).take (m * size), m) else none
    | none => none
  | .string s => if size = 1 then some (s.data.toList.map fun b => .int .u8 b.toNat, s.size) else none
  | _ => none
def srcD (P : Program) (t2 : TypeId) : Bool := match P.underlying t2 with
  | some (.slice _) => true
  | some .string => true
  | _ => false
def aAppend (P : Program) (H : AH) (t t2 : TypeId) (s x : Value) : Option (Value × AH) := match elemT P t with
  | some e => match einfo P e with
    | some q => if srcD P t2 = true then match srcOf H q.size x with
      | some (news, m) => match s with
        | .slice none 0 0 => if m = 0 then some (.slice none 0 0, H) else if m ≤ LIM then some (.slice (some ⟨H.length, 0, some 0⟩) m (m + 1), aNew H news e q.size) else none
        | .slice (some ⟨i, off, some g⟩) n c => match alive H i g with
          | some o => if m = 0 then some (.slice (some ⟨i, off, some g⟩) n c, H) else
            if off + n * q.size ≤ o.cells.length ∧ n + m ≤ LIM then
              if c = n then some (.slice (some ⟨H.length, 0, some 0⟩) (n + m) (n + m + 1), aNew H ((o.cells.drop off).take (n * q.size) ++ news) e q.size)
              else if o.ro = false ∧ o.sz = q.size ∧ o.elem = e then some (.slice (some ⟨i, 0, some (g + 1)⟩) (n + m) (n + m + 1), H.set i { o with cells := (o.cells.drop off).take (n * q.size) ++ news, gen := g + 1 })
              else none
            else none
          | none => none
        | _ => none
      | none => none
      else none
    | none => none
  | none => none

section sound
variable {P : Program} {β : BM} {H : AH} {w : World}
theorem lenOf_slice {a : Option Addr} {n c : Nat} : (Builtin.lenOf (.slice a n c)).run P w = .ok n w := by simp [Builtin.lenOf]
theorem srcOf_sound (R : Rel β H w) {size : Nat} {x x' : Value} {news : List Value} {m : Nat} (h : srcOf H size x = some (news, m)) (hx : T3 β x x') :
    ∃ news', All2 (T1 β) news news' ∧ news.length = m * size ∧ (Builtin.lenOf x').run P w = .ok m w ∧ ∀ w', SameHeap w w' → (Builtin.firstCells size m x').run P w' = .ok news'.toArray w' := by
  unfold srcOf at h
  split at h
  · cases h
    have := hx.of_plain rfl
    subst this
    exact ⟨[], .nil, by simp, lenOf_slice, fun w' _ => run_firstCells_none w' _ _ _ _⟩
  · rename_i i off g n c
    split at h
    · rename_i o ha
      split at h
      · rename_i hfit
        cases h
        obtain ⟨ho, hg⟩ := alive_some ha
        obtain ⟨l, a, c', hl, hlg, rfl, hn, _, hadr⟩ := hx.sl R ha
        obtain ⟨cs, h2, hc⟩ := R.reads ho hl off (m * size) hfit
        have hlen : ((o.cells.drop off).take (m * size)).length = m * size := by simp; omega
        refine ⟨cs, h2, hlen, lenOf_slice, fun w' hs => ?_⟩
        have hcl : cs.length = m * size := by rw [← h2.length]; exact hlen
        refine run_firstCells_some w' size m a m c' cs hcl fun j v hv => ?_
        rcases hadr with h0 | ⟨rfl, _⟩
        · have : m = 0 := by omega
          subst this
          have : cs = [] := List.eq_nil_of_length_eq_zero (by simpa using hcl)
          subst this
          simp at hv
        · have := hc j v hv
          simpa [World.cell?, hs.heap] using this
      · cases h
    · cases h
  · rename_i s
    split at h
    · rename_i hs
      cases h
      subst hs
      have := hx.string
      subst this
      have e1 : s.data.toList.length = s.size := by rw [Array.length_toList]; rfl
      refine ⟨_, All2.same fun a ha => ?_, by rw [List.length_map, e1]; simp, by simp [Builtin.lenOf], fun w' _ => ?_⟩
      · obtain ⟨b, _, rfl⟩ := List.mem_map.1 ha
        exact .one (.plain rfl)
      · simp only [Builtin.firstCells]
        have : s.extract 0 s.size = s := by simp
        rw [this]
        simp
        apply Array.ext'
        simp
    · cases h
  · cases h
theorem T3.slice_of {n c c' : Nat} {i off g : Nat} {l : Loc} {a : Addr} (hl : β i = some l) (hg : l.gen = g) (hn : n ≤ c') (hc : c = n → c' = n) (ha : c' = 0 ∨ (a = ⟨l.b, l.base + off, none⟩ ∧ l.base + off + c' * l.sz ≤ l.fin)) :
    T3 β (.slice (some ⟨i, off, some g⟩) n c) (.slice (some a) n c') := .one (.one (.one (.sl hl hg hn hc ha)))
theorem append_fits {n m cap bytes : Nat} (h : cap < n + m) (hl : n + m ≤ LIM) (hb : bytes ≤ 16384) : Builtin.nextslicecap (n + m) cap * bytes ≤ 281474976710656 := by
  refine growslice_fits h ?_
  have : (n + m) * bytes ≤ LIM * 16384 := Nat.mul_le_mul hl hb
  simp only [LIM] at this
  omega
theorem aAppend_sound (R : Rel β H w) {t t2 ty : TypeId} {s s' x x' v : Value} {H' : AH} (h : aAppend P H t t2 s x = some (v, H')) (hs : T3 β s s') (hx : T3 β x x') :
    ∃ β' w' v', (Builtin.append_ #[t, t2] ty #[s', x']).run P w = .ok v' w' ∧ Rel β' H' w' ∧ Ext H.length β w β' w' ∧ T3 β' v v' := by
  unfold aAppend at h
  split at h
  case h_2 => cases h
  rename_i e he
  have hu := elemT_some he
  split at h
  case h_2 => cases h
  rename_i q hq
  obtain ⟨i, hi, hz, hsz, hby, hzs, hpos, hcz, hb⟩ := einfo_some hq
  split at h
  case isFalse => cases h
  rename_i hsd
  obtain ⟨u, ht2, hni⟩ : ∃ u, P.underlying t2 = some u ∧ ((∃ e2, u = .slice e2) ∨ u = .string) := by
    unfold srcD at hsd
    split at hsd
    · exact ⟨_, by assumption, .inl ⟨_, rfl⟩⟩
    · exact ⟨_, by assumption, .inr rfl⟩
    · cases hsd
  split at h
  case h_2 => cases h
  rename_i news m hsrc
  obtain ⟨news', hnw, hnl, hlen, hfc⟩ := srcOf_sound (P := P) R hsrc hx
  have hnl' : news'.length = m * q.size := by rw [← hnw.length]; exact hnl
  have hzc : q.zero.cells.size = i.size := by rw [hsz]; exact hzs
  -- a new block
  have make : ∀ (a : Option Addr) (n cap : Nat) (olds olds' : List Value), All2 (T1 β) olds olds' → olds.length = n * q.size → (∀ w', SameHeap w w' → (Builtin.firstCells i.size n (.slice a n cap)).run P w' = .ok olds'.toArray w') → cap < n + m → n + m ≤ LIM →
      (Builtin.append_ #[t, t2] ty #[.slice a n cap, x']).run P w = .ok (.slice (some ⟨w.heap.size, 0, none⟩) (n + m) (grownCap w (n + m) cap e))
        (w.drew.alloc (.cells ((olds' ++ news') ++ (Builtin.zeroCells q.zero.cells (grownCap w (n + m) cap e - (n + m))).toList).toArray e)) ∧
      ((olds' ++ news') ++ (Builtin.zeroCells q.zero.cells (grownCap w (n + m) cap e - (n + m))).toList).length = grownCap w (n + m) cap e * q.size ∧ n + m ≤ grownCap w (n + m) cap e := by
    intro a n cap olds olds' ho hol hfo hcap hlim
    have hge := grownCap_ge w (n + m) cap e
    have hol' : olds'.length = n * q.size := by rw [← ho.length]; exact hol
    refine ⟨?_, ?_, hge⟩
    · rw [run_append_grow' t t2 ty e i q.zero u hu ht2 hni hi hz a n cap olds' hfo x' m news' hlen (fun w' h' => by rw [hsz]; exact hfc w' h') hcap (by simp only [LIM] at hlim; omega) (by rw [hby]; exact append_fits hcap hlim hb)]
      congr 3
      apply Array.ext'
      simp
    · simp only [List.length_append, Array.length_toList, hol', hnl', size_zeroCells, hzs]
      rw [← Nat.add_mul, ← Nat.add_mul]
      congr 1
      omega
  split at h
  · -- nil
    have := hs.of_plain rfl
    subst this
    split at h
    · rename_i hm
      cases h
      subst hm
      have hn0 : news' = [] := List.eq_nil_of_length_eq_zero (by simpa using hnl')
      subst hn0
      exact ⟨β, w, _, run_append_same t t2 ty e i u hu ht2 hni hi none 0 0 x' (Nat.le_refl _) hlen (by rw [hsz]; exact hfc w ⟨rfl, rfl, rfl, rfl⟩), R, .refl _ _ _, .plain rfl⟩
    · split at h
      · rename_i hm hlim
        cases h
        obtain ⟨h1, h2, h3⟩ := make none 0 0 [] [] .nil (by simp) (fun w' _ => run_firstCells_none w' _ _ _ _) (by omega) (by omega)
        simp only [Nat.zero_add, List.nil_append] at h1 h2 h3
        obtain ⟨β', R', E, hn⟩ := push_sound (w1 := w.drew) R (.drew w) news (news' ++ (Builtin.zeroCells q.zero.cells (grownCap w m 0 e - m)).toList) e q.size (by
          rw [hnw.length, List.take_left]; exact hnw)
        exact ⟨β', _, _, h1, R', E, new_sl hn rfl rfl rfl h3 (fun h => by omega) (by simp only; omega)⟩
      · cases h
  · -- a slice
    rename_i si off g n c
    split at h
    case h_2 => cases h
    rename_i o ha
    obtain ⟨ho, hg⟩ := alive_some ha
    obtain ⟨l, a, c', hl, hlg, rfl, hnc, hcx, hadr⟩ := hs.sl R ha
    split at h
    · rename_i hm
      cases h
      subst hm
      have hn0 : news' = [] := List.eq_nil_of_length_eq_zero (by simpa using hnl')
      subst hn0
      exact ⟨β, w, _, run_append_same t t2 ty e i u hu ht2 hni hi (some a) n c' x' hnc hlen (by rw [hsz]; exact hfc w ⟨rfl, rfl, rfl, rfl⟩), R, .refl _ _ _, hs⟩
    · rename_i hm
      split at h
      case isFalse => cases h
      rename_i hfit
      obtain ⟨cs, h2, hc⟩ := R.reads ho hl off (n * q.size) hfit.1
      have hol : ((o.cells.drop off).take (n * q.size)).length = n * q.size := by simp; omega
      have hcl : cs.length = n * q.size := by rw [← h2.length]; exact hol
      have hfo : ∀ w', SameHeap w w' → (Builtin.firstCells i.size n (.slice (some a) n c')).run P w' = .ok cs.toArray w' := fun w' hw => by
        rw [hsz]
        refine run_firstCells_some w' q.size n a n c' cs hcl fun j v hv => ?_
        rcases hadr with h0 | ⟨rfl, _⟩
        · have : n = 0 := by omega
          subst this
          have : cs = [] := List.eq_nil_of_length_eq_zero (by simpa using hcl)
          subst this
          simp at hv
        · have := hc j v hv
          simpa [World.cell?, hw.heap] using this
      have happ : All2 (T1 β) ((o.cells.drop off).take (n * q.size) ++ news) (cs ++ news') := h2.append hnw
      split at h
      · -- as long as its block: always a new one
        rename_i hcn
        cases h
        have hc' := hcx hcn
        obtain ⟨h3, h4, h5⟩ := make (some a) n c' _ cs h2 hol hfo (by omega) hfit.2
        obtain ⟨β', R', E, hn⟩ := push_sound (w1 := w.drew) R (.drew w) ((o.cells.drop off).take (n * q.size) ++ news) (cs ++ news' ++ (Builtin.zeroCells q.zero.cells (grownCap w (n + m) c' e - (n + m))).toList) e q.size (by
          rw [happ.length, List.take_left]; exact happ)
        exact ⟨β', _, _, h3, R', E, new_sl hn rfl rfl rfl h5 (fun h => by omega) (by simp only; omega)⟩
      · split at h
        case isFalse => cases h
        rename_i hcn hro
        obtain ⟨hro, hosz, hoe⟩ := hro
        cases h
        obtain ⟨g1, g2, g3, g4, g5, g6⟩ := R.obj _ _ _ ho hl
        obtain ⟨arr, harr, hfin⟩ := g6 hro
        by_cases hroom : n + m ≤ c'
        · -- in place
          obtain ⟨rfl, hbd⟩ : a = ⟨l.b, l.base + off, none⟩ ∧ l.base + off + c' * l.sz ≤ l.fin := by
            rcases hadr with h0 | h
            · omega
            · exact h
          rw [g2, hosz] at hbd
          have hmul : (n + m) * q.size ≤ c' * q.size := Nat.mul_le_mul_right _ hroom
          rw [Nat.add_mul] at hmul
          have hsz2 : l.base + off + n * i.size + news'.length ≤ arr.size := by rw [hsz, hnl', hfin]; omega
          have hrun := run_append_room' t t2 ty e i u hu ht2 hni hi l.b (l.base + off) n c' arr (hoe ▸ harr) x' m news' hlen (by rw [hsz]; exact hfc w ⟨rfl, rfl, rfl, rfl⟩)
            (fun v hv => by obtain ⟨y, _, ty⟩ := hnw.mem hv; exact ty.oneCell) hroom hsz2
          rw [hsz, hnl'] at hrun
          have hal : arr.toList.length = l.fin := by simpa using hfin
          obtain ⟨R', E⟩ := R.upd (i := si) (o := o) (o' := { o with cells := (o.cells.drop off).take (n * q.size) ++ news, gen := g + 1 }) (l := l) (l' := { l with base := l.base + off, gen := g + 1 })
            (w' := w.setRow l.b (arr.toList.take (l.base + off + n * q.size) ++ news' ++ arr.toList.drop (l.base + off + n * q.size + m * q.size)).toArray) ho hl hro rfl rfl rfl (by simp) (fun k _ hk => setRow_other w l.b k _ hk) (.inl rfl) (.inr (by simp; omega)) rfl rfl hro rfl g2 (g3.trans hro)
            (arr.toList.take (l.base + off + n * q.size) ++ news' ++ arr.toList.drop (l.base + off + n * q.size + m * q.size)) (setRow_heap w l.b arr _ o.elem (0, 0) harr)
            (by simp only [List.length_append, List.length_take, List.length_drop, hnl', hal]; omega)
            (by simp only [List.length_append, hol, hnl]; omega)
            (by
              simp only [List.length_append, hol, hnl]
              have hcs : (arr.toList.drop (l.base + off)).take (n * q.size) = cs := by
                apply List.ext_getElem?
                intro j
                by_cases hj : j < n * q.size
                · obtain ⟨v, hv⟩ : ∃ v, cs[j]? = some v := ⟨_, List.getElem?_eq_getElem (by omega)⟩
                  have := hc j v hv
                  rw [Go.Proofs.Ytdbflchpbhkanaa.AL.add_lit] at this
                  simp [World.cell?, harr] at this
                  rw [List.getElem?_take, if_pos hj, List.getElem?_drop, hv, Array.getElem?_toList, this]
                · rw [List.getElem?_eq_none (by simp; omega), List.getElem?_eq_none (by omega)]
              have e1 : (arr.toList.take (l.base + off + n * q.size) ++ news' ++ arr.toList.drop (l.base + off + n * q.size + m * q.size)).drop (l.base + off) = cs ++ news' ++ arr.toList.drop (l.base + off + n * q.size + m * q.size) := by
                rw [List.append_assoc, List.drop_append_of_le_length (by rw [List.length_take]; omega), List.drop_take, List.append_assoc, ← hcs]
                congr 2
                omega
              rw [e1]
              have e2 : (cs ++ news').length = n * q.size + m * q.size := by simp [hcl, hnl']
              rw [← e2, List.take_left]
              exact happ)
          refine ⟨_, _, _, hrun, R', E, T3.slice_of (bup_same _ _ _) rfl hroom (fun h => by omega) (.inr ⟨by simp, ?_⟩)⟩
          simp only [g2, hosz]
          omega
        · -- into a new block
          obtain ⟨h3, h4, h5⟩ := make (some a) n c' _ cs h2 hol hfo (by omega) hfit.2
          have hnewb : (w.drew.alloc (.cells (cs ++ news' ++ (Builtin.zeroCells q.zero.cells (grownCap w (n + m) c' e - (n + m))).toList).toArray e)).heap[w.heap.size]? = some (.cells (cs ++ news' ++ (Builtin.zeroCells q.zero.cells (grownCap w (n + m) c' e - (n + m))).toList).toArray o.elem (0, 0)) := by
            rw [hoe]; exact heap_alloc_new w.drew _
          obtain ⟨R', E⟩ := R.upd (i := si) (o := o) (o' := { o with cells := (o.cells.drop off).take (n * q.size) ++ news, gen := g + 1 }) (l := l)
            (l' := ⟨w.heap.size, 0, (cs ++ news' ++ (Builtin.zeroCells q.zero.cells (grownCap w (n + m) c' e - (n + m))).toList).length, q.size, g + 1, false⟩)
            (w' := w.drew.alloc (.cells (cs ++ news' ++ (Builtin.zeroCells q.zero.cells (grownCap w (n + m) c' e - (n + m))).toList).toArray e)) ho hl hro rfl rfl rfl (by simp) (fun k hk _ => Below.heap_alloc w.drew _ k hk) (.inr ⟨Nat.le_refl _, by simp⟩) (.inr (by simp; omega)) rfl rfl hro rfl hosz.symm rfl
            _ hnewb rfl (by simp only [List.length_append, hol, hnl, hcl, hnl']; omega)
            (by
              rw [List.drop_zero, happ.length, List.take_left]
              exact happ)
          exact ⟨_, _, _, h3, R', E, T3.slice_of (bup_same _ _ _) rfl h5 (fun h => by omega) (.inr ⟨by simp, by simp only; omega⟩)⟩
  · cases h
end sound

end Go.Proofs.Ytdbflchpbhkanaa.AL
namespace Go.Proofs.Ytdbflchpbhkanaa.AL
open Go Go.RowKit
set_option linter.unusedVariables false
set_option linter.unusedSimpArgs false

section
variable {P : Program} {β : BM} {H : AH} {w : World}

def aMake (P : Program) (H : AH) (t : TypeId) (l c : Value) : Option (Value × AH) := match l, c with
  | .int .i64 l, .int .i64 c => match elemT P t with
    | some e => match einfo P e with
      | some q => if q.size = 1 ∧ 0 ≤ l ∧ l = c ∧ l ≤ 4294967296 then some (.slice (some ⟨H.length, 0, some 0⟩) l.toNat l.toNat, aNew H (List.replicate l.toNat (q.zero.cells.getD 0 default)) e 1) else none
      | none => none
    | none => none
  | _, _ => none
theorem wrap_small {n : Int} (h0 : 0 ≤ n) (h1 : n ≤ 4294967296) : IntKind.i64.wrap n = n := by
  simp [IntKind.wrap, IntKind.bits, IntKind.signed]
  omega
theorem aMake_sound (R : Rel β H w) {t : TypeId} {l l' c c' v : Value} {H' : AH} (h : aMake P H t l c = some (v, H')) (hl : T3 β l l') (hc : T3 β c c') :
    ∃ β' w' v', (Instr.makeSlice t l' c').run P w = .ok v' w' ∧ Rel β' H' w' ∧ Ext H.length β w β' w' ∧ T3 β' v v' := by
  unfold aMake at h
  split at h
  case h_2 => cases h
  rename_i l c
  have := hl.int
  subst this
  have := hc.int
  subst this
  split at h
  case h_2 => cases h
  rename_i e he
  have hu := elemT_some he
  split at h
  case h_2 => cases h
  rename_i q hq
  obtain ⟨i, hi, hz, hsz, hby, hzs, hpos, hcz, hb⟩ := einfo_some hq
  split at h
  case isFalse => cases h
  rename_i hcond
  obtain ⟨hs1, h0, rfl, hlim⟩ := hcond
  cases h
  obtain ⟨n, rfl⟩ := Int.eq_ofNat_of_zero_le h0
  simp only [Int.toNat_natCast]
  have hc1 : q.zero.cells.size = 1 := by omega
  have hz1 : q.zero.cells = #[q.zero.cells.getD 0 default] := by
    apply Array.ext
    · simp [hc1]
    · intro j h1 h2
      have : j = 0 := by omega
      subst this
      simp [hc1]
  have tz : T1 β (q.zero.cells.getD 0 default) (q.zero.cells.getD 0 default) := by
    have h1 := constV_cells (β := β) hcz
    rw [hz1] at h1
    cases h1 with
    | cons h _ => exact h
  obtain ⟨β', R', E, hn⟩ := push_sound (w1 := w) R ⟨rfl, rfl, rfl, rfl⟩ (List.replicate n (q.zero.cells.getD 0 default)) (List.replicate n (q.zero.cells.getD 0 default)) e 1 (by
    rw [List.take_of_length_le (by simp)]; exact All2.replicate tz n)
  refine ⟨β', _, _, ?_, R', E, new_sl hn rfl rfl rfl (Nat.le_refl _) (fun _ => rfl) (by simp)⟩
  have w1 := wrap_small h0 hlim
  have hbb : (i.bytes : Int) * n ≤ 16384 * 4294967296 := by
    rw [hby]
    have : q.bytes * n ≤ 16384 * 4294967296 := Nat.mul_le_mul hb (by omega)
    omega
  have hng : ¬ ((281474976710656 : Int) < (i.bytes : Int) * n) := by omega
  have hneg : ¬ ((n : Int) < 0) := by omega
  have harr : (Array.map (fun x => q.zero.cells[x % q.zero.cells.size]!) (Array.range n)) = (List.replicate n (q.zero.cells.getD 0 default)).toArray := by
    apply Array.ext'
    simp only [Array.toList_map, Array.toList_range, List.toList_toArray]
    apply List.ext_getElem
    · simp
    · intro j h1 h2
      simp [hc1, Nat.mod_one]
  by_cases hn0 : n = 0
  · subst hn0
    have w0 : IntKind.i64.wrap 0 = 0 := by decide
    simp [Instr.makeSlice, run_underlying hu, asInt, asIntOf, typeInfo, hi, w0, askRoom, sizeOf, newRow]
    rw [show Array.map (fun x : Nat => (default : Value)) (Array.range 0) = #[] from by simp]
  · have hnz : ¬ (n * i.size = 0) := by rw [hsz, hs1]; omega
    have hsz1 : i.size = 1 := by omega
    simp [Instr.makeSlice, run_underlying hu, asInt, asIntOf, typeInfo, zeroValue, hi, hz, w1, hng, askRoom, sizeOf, newRow, hsz1, hn0, harr]
    split <;> (intro hx; exact absurd hx hneg)

def idxV : Option Value → Nat → Option Nat
  | none, d => some d
  | some (.int .i64 n), _ => if 0 ≤ n then some n.toNat else none
  | some _, _ => none
def aSlice (P : Program) (H : AH) (t : TypeId) (x : Value) (lo hi mx : Option Value) : Option Value :=
  match x with
  | .string s => match P.underlying t, idxV lo 0, idxV hi s.size, mx with
    | some .string, some l, some h, none => if l ≤ h ∧ h ≤ s.size then some (.string (s.extract l h)) else none
    | _, _, _, _ => none
  | .slice none 0 0 => match elemT P t, idxV lo 0, idxV hi 0, mx with
    | some e, some 0, some 0, none => match sizeT P e with
      | some _ => some (.slice none 0 0)
      | none => none
    | _, _, _, _ => none
  | .slice (some ⟨i, off, some g⟩) n c => match alive H i g, elemT P t, idxV lo 0, idxV hi n with
    | some o, some e, some l, some h => match sizeT P e with
      | some size => if o.sz = size ∧ l ≤ h ∧ h ≤ n then match mx with
          | none => some (.slice (some ⟨i, off + l * size, some g⟩) (h - l) (if c = n ∧ h = n then h - l else h - l + 1))
          | some (.int .i64 m) => if (h : Int) ≤ m ∧ m ≤ n ∧ hi.isSome then some (.slice (some ⟨i, off + l * size, some g⟩) (h - l) (if m.toNat = h then h - l else h - l + 1)) else none
          | _ => none
        else none
      | none => none
    | _, _, _, _ => none
  | .pointer (some ⟨i, off, some g⟩) => match alive H i g, P.underlying t, lo.isNone && hi.isNone && mx.isNone with
    | some o, some (.array n e), true => match sizeT P e with
      | some size => if o.sz = size ∧ off + n * size ≤ o.cells.length then some (.slice (some ⟨i, off, some g⟩) n n) else none
      | none => none
    | _, _, _ => none
  | _ => none
theorem run_bound {x : Value} {y n : Nat} {code : BoundsCode} (hx : x = .int .i64 (n : Int)) (h : n ≤ y) : (Instr.sliceBound x y code).run P w = .ok n w := by
  subst hx
  have : (n : Int) ≤ (y : Int) := by omega
  simp [Instr.sliceBound, asIntOf, this]
theorem idxV_some {β : BM} {x x' : Option Value} {d n : Nat} (h : idxV x d = some n) (hx : ∀ v, x = some v → ∃ v', x' = some v' ∧ T3 β v v') (hn : x = none → x' = none) : (x' = none ∧ x = none ∧ n = d) ∨ (x' = some (.int .i64 (n : Int)) ∧ x = some (.int .i64 (n : Int))) := by
  unfold idxV at h
  split at h
  · cases h; exact .inl ⟨hn rfl, rfl, rfl⟩
  · rename_i m d'
    split at h
    · cases h
      obtain ⟨v', h1, t⟩ := hx _ rfl
      have := t.int
      subst this
      obtain ⟨q, rfl⟩ := Int.eq_ofNat_of_zero_le (by assumption)
      exact .inr ⟨by simpa using h1, by simp⟩
    · cases h
  · cases h
end

end Go.Proofs.Ytdbflchpbhkanaa.AL
namespace Go.Proofs.Ytdbflchpbhkanaa.AL
open Go Go.RowKit
set_option linter.unusedVariables false
set_option linter.unusedSimpArgs false
section
variable {P : Program} {β : BM} {H : AH} {w : World}
def intT (P : Program) (t : TypeId) : Bool := match P.underlying t with
  | some (.int _) => true
  | _ => false
def aApM (P : Program) (H : AH) (t t2 : TypeId) (s x : Value) : Option (Value × AH) := match s, x with
  | .slice none 0 0, .int .i64 n => match elemT P t with
    | some e => match einfo P e with
      | some q => if q.size = 1 ∧ intT P t2 = true ∧ 0 < n ∧ n ≤ 4294967296 then some (.slice (some ⟨H.length, 0, some 0⟩) n.toNat (n.toNat + 1), aNew H (List.replicate n.toNat (q.zero.cells.getD 0 default)) e 1) else none
      | none => none
    | none => none
  | _, _ => none
def aCap (P : Program) (t : TypeId) (x : Value) : Option Value := match P.underlying t, x with
  | some (.slice _), .slice none 0 0 => some (.int .i64 0)
  | _, _ => none
theorem aCap_sound (R : Rel β H w) {t ty : TypeId} {x x' v : Value} (h : aCap P t x = some v) (hx : T3 β x x') : (Builtin.cap_ #[t] ty #[x']).run P w = .ok v w ∧ plainV v = true := by
  unfold aCap at h
  split at h
  · rename_i e hu
    cases h
    have := hx.of_plain rfl
    subst this
    exact ⟨by simp [Builtin.cap_, run_underlying hu]; rfl, rfl⟩
  · cases h
theorem aApM_sound (R : Rel β H w) {t t2 ty : TypeId} {s s' x x' v : Value} {H' : AH} (h : aApM P H t t2 s x = some (v, H')) (hs : T3 β s s') (hx : T3 β x x') :
    ∃ β' w' v', (Builtin.append_ #[t, t2] ty #[s', x']).run P w = .ok v' w' ∧ Rel β' H' w' ∧ Ext H.length β w β' w' ∧ T3 β' v v' := by
  unfold aApM at h
  split at h
  case h_2 => cases h
  rename_i n
  have := hs.of_plain rfl
  subst this
  have := hx.int
  subst this
  split at h
  case h_2 => cases h
  rename_i e he
  have hu := elemT_some he
  split at h
  case h_2 => cases h
  rename_i q hq
  obtain ⟨i, hi, hz, hsz, hby, hzs, hpos, hcz, hb⟩ := einfo_some hq
  split at h
  case isFalse => cases h
  rename_i hcond
  obtain ⟨hs1, hit, h0, hlim⟩ := hcond
  cases h
  obtain ⟨k, hk⟩ : ∃ k, P.underlying t2 = some (.int k) := by
    unfold intT at hit
    split at hit
    · exact ⟨_, by assumption⟩
    · cases hit
  obtain ⟨n, rfl⟩ := Int.eq_ofNat_of_zero_le (Int.le_of_lt h0)
  simp only [Int.toNat_natCast]
  have hc1 : q.zero.cells.size = 1 := by omega
  have hz1 : q.zero.cells = #[q.zero.cells.getD 0 default] := by
    apply Array.ext
    · simp [hc1]
    · intro j h1 h2
      have : j = 0 := by omega
      subst this
      simp [hc1]
  have tz : T1 β (q.zero.cells.getD 0 default) (q.zero.cells.getD 0 default) := by
    have h1 := constV_cells (β := β) hcz
    rw [hz1] at h1
    cases h1 with
    | cons h _ => exact h
  have harr : ∀ m, Builtin.zeroCells q.zero.cells m = (List.replicate m (q.zero.cells.getD 0 default)).toArray := fun m => by
    unfold Builtin.zeroCells
    apply Array.ext'
    simp only [Array.toList_map, Array.toList_range, List.toList_toArray, hc1, Nat.mul_one]
    apply List.ext_getElem
    · simp
    · intro j h1 h2
      simp [hc1, Nat.mod_one]
  have hge := grownCap_ge w n 0 e
  obtain ⟨β', R', E, hn⟩ := push_sound (w1 := w.drew) R (.drew w) (List.replicate n (q.zero.cells.getD 0 default)) (List.replicate n (q.zero.cells.getD 0 default) ++ List.replicate (grownCap w n 0 e - n) (q.zero.cells.getD 0 default)) e 1 (by
    rw [List.length_replicate, List.take_left' (by simp)]; exact All2.replicate tz n)
  refine ⟨β', _, _, ?_, R', E, new_sl hn rfl rfl rfl hge (fun h => by omega) (by simp; omega)⟩
  have w1 := wrap_small (Int.le_of_lt h0) hlim
  have hbb : (n : Int) * i.bytes ≤ 4294967296 * 16384 := by
    rw [hby]
    have : n * q.bytes ≤ 4294967296 * 16384 := Nat.mul_le_mul (by omega) hb
    omega
  have hng : ¬ ((281474976710656 : Int) < (n : Int) * i.bytes) := by omega
  have hneg : ¬ ((n : Int) < 0) := by omega
  have hsz1 : i.size = 1 := by omega
  have hn0 : n ≠ 0 := by omega
  have h48 := append_fits (n := n) (m := 0) (cap := 0) (bytes := i.bytes) (by omega) (by simp only [LIM]; omega) (by rw [hby]; exact hb)
  simp only [Nat.add_zero] at h48
  have h48' : ¬ (281474976710656 < Builtin.nextslicecap n 0 * i.bytes) := by omega
  have h63' : ¬ ((9223372036854775807 : Int) < n) := by omega
  have hle : ¬ (n ≤ 0) := by omega
  simp [Builtin.append_, run_underlying hu, run_underlying hk, asInt, asIntOf, sizeOf, typeInfo, zeroValue, hi, hz, w1, hng, hneg, hsz1, hn0, hle, h63', h48', harr, Question.forced, askRoom, newRow, grownCap, Builtin.firstCells]
end
end Go.Proofs.Ytdbflchpbhkanaa.AL
namespace Go.Proofs.Ytdbflchpbhkanaa.AL
open Go Go.RowKit
set_option linter.unusedVariables false
set_option linter.unusedSimpArgs false

section
variable {P : Program} {β : BM} {H : AH} {w : World}
def optRel (β : BM) (x x' : Option Value) : Prop := match x, x' with
  | none, none => True
  | some v, some v' => T3 β v v'
  | _, _ => False
theorem idx_rel {x x' : Option Value} {d n : Nat} (h : idxV x d = some n) (hx : optRel β x x') : (x' = none ∧ x = none ∧ n = d) ∨ (x' = some (.int .i64 (n : Int)) ∧ x = some (.int .i64 (n : Int))) := by
  refine idxV_some (β := β) h (fun v hv => ?_) (fun hn => ?_)
  · subst hv
    cases x' with
    | none => exact hx.elim
    | some v' => exact ⟨v', rfl, hx⟩
  · subst hn
    cases x' with
    | none => rfl
    | some v' => exact hx.elim
theorem run_bounds {b : Bool} {len cap l h m : Nat} {lo' hi' mx' : Option Value} (hl : (lo' = none ∧ l = 0) ∨ lo' = some (.int .i64 (l : Int))) (hh : (hi' = none ∧ h = len ∧ mx' = none) ∨ hi' = some (.int .i64 (h : Int)))
    (hm : (mx' = none ∧ m = cap) ∨ mx' = some (.int .i64 (m : Int))) (h1 : l ≤ h) (h2 : h ≤ m) (h3 : m ≤ cap) : (Instr.sliceBounds b len cap lo' hi' mx').run P w = .ok (l, h, m) w := by
  rcases hl with ⟨rfl, rfl⟩ | rfl <;> rcases hh with ⟨rfl, rfl, rfl⟩ | rfl <;> rcases hm with ⟨e, rfl⟩ | e
  all_goals first | (cases e; done) | skip
  all_goals (try subst e)
  all_goals unfold Instr.sliceBounds
  all_goals simp only [Sem.run_bind, Sem.run_pure, Result.andThen_ok, run_bound rfl h1, run_bound rfl h2, run_bound rfl h3, run_bound rfl (Nat.le_trans h2 h3)]
theorem slice_addr {a : Addr} {l : Loc} {off k c' sz m : Nat} (hsz : l.sz = sz) (ha : c' = 0 ∨ (a = ⟨l.b, l.base + off, none⟩ ∧ l.base + off + c' * l.sz ≤ l.fin)) (hk : k ≤ m) (hm : m ≤ c') :
    ∃ a', (if m = k then some a else some (a.add (k * sz))) = some a' ∧ (m - k = 0 ∨ (a' = ⟨l.b, l.base + (off + k * sz), none⟩ ∧ l.base + (off + k * sz) + (m - k) * l.sz ≤ l.fin)) := by
  by_cases e : m = k
  · subst e
    exact ⟨a, by simp, .inl (by omega)⟩
  · rcases ha with h0 | ⟨rfl, hf⟩
    · omega
    · refine ⟨_, by rw [if_neg e], .inr ⟨?_, ?_⟩⟩
      · rw [add_lit, Nat.add_assoc]
      · subst hsz
        have h1 : k * l.sz + (m - k) * l.sz = m * l.sz := by rw [← Nat.add_mul]; congr 1; omega
        have h2 : m * l.sz ≤ c' * l.sz := Nat.mul_le_mul_right _ hm
        omega
theorem aSlice_sound (R : Rel β H w) {t : TypeId} {x x' v : Value} {lo hi mx lo' hi' mx' : Option Value} (h : aSlice P H t x lo hi mx = some v) (hx : T3 β x x') (h1 : optRel β lo lo') (h2 : optRel β hi hi') (h3 : optRel β mx mx') :
    ∃ v', (Instr.sliceAt t x' lo' hi' mx').run P w = .ok v' w ∧ T3 β v v' := by
  unfold aSlice at h
  split at h
  · rename_i s
    have := hx.string
    subst this
    split at h
    case h_2 => cases h
    rename_i l n hu hl hn
    split at h
    case isFalse => cases h
    rename_i hc
    cases h
    have e3 : mx' = none := by
      cases mx' with
      | none => rfl
      | some y => exact h3.elim
    subst e3
    refine ⟨_, ?_, .plain rfl⟩
    have hle : ∀ {a b : Nat}, a ≤ b → (a : Int) ≤ (b : Int) := fun h => by omega
    have hb := run_bounds (P := P) (w := w) (b := false) (len := s.size) (cap := s.size) (m := s.size) (mx' := none) ((idx_rel hl h1).imp (fun h => ⟨h.1, h.2.2⟩) (·.1)) ((idx_rel hn h2).imp (fun h => ⟨h.1, h.2.2, rfl⟩) (·.1)) (.inl ⟨rfl, rfl⟩) hc.1 hc.2 (Nat.le_refl _)
    simp [Instr.sliceAt, run_underlying hu, Instr.slice, hb]
  · have := hx.of_plain rfl
    subst this
    split at h
    case h_2 => cases h
    rename_i e he hl hn
    split at h
    case h_2 => cases h
    rename_i size hs
    cases h
    have hu := elemT_some he
    have e3 : mx' = none := by
      cases mx' with
      | none => rfl
      | some y => exact h3.elim
    subst e3
    refine ⟨_, ?_, .plain rfl⟩
    have hb := run_bounds (P := P) (w := w) (b := true) (len := 0) (cap := 0) (m := 0) (mx' := none) ((idx_rel hl h1).imp (fun h => ⟨h.1, h.2.2⟩) (·.1)) ((idx_rel hn h2).imp (fun h => ⟨h.1, h.2.2, rfl⟩) (·.1)) (.inl ⟨rfl, rfl⟩) (Nat.le_refl _) (Nat.le_refl _) (Nat.le_refl _)
    simp [Instr.sliceAt, run_underlying hu, Instr.slice, hb, run_sizeOf hs]
  · rename_i si off g n c
    split at h
    case h_2 => cases h
    rename_i o e l h' ha he hl hn
    have hu := elemT_some he
    obtain ⟨ho, hg⟩ := alive_some ha
    obtain ⟨lc, a, c', hlc, hlg, rfl, hnc, hcx, hadr⟩ := hx.sl R ha
    split at h
    case h_2 => cases h
    rename_i size hs
    split at h
    case isFalse => cases h
    rename_i hc
    obtain ⟨hosz, hlh, hhn⟩ := hc
    have hsz : lc.sz = size := by rw [(R.obj _ _ _ ho hlc).2.1, hosz]
    have hle : ∀ {a b : Nat}, a ≤ b → (a : Int) ≤ (b : Int) := fun h => by omega
    split at h
    · cases h
      have e3 : mx' = none := by
        cases mx' with
        | none => rfl
        | some y => exact h3.elim
      subst e3
      obtain ⟨a', ha', hadr'⟩ := slice_addr (k := l) (m := c') hsz hadr (by omega) (Nat.le_refl _)
      refine ⟨.slice (some a') (h' - l) (c' - l), ?_, T3.slice_of hlc hlg (by omega) (fun hh => ?_) hadr'⟩
      · have hb := run_bounds (P := P) (w := w) (b := true) (len := n) (cap := c') (m := c') (mx' := none) ((idx_rel hl h1).imp (fun h => ⟨h.1, h.2.2⟩) (·.1)) ((idx_rel hn h2).imp (fun h => ⟨h.1, h.2.2, rfl⟩) (·.1)) (.inl ⟨rfl, rfl⟩) hlh (by omega) (Nat.le_refl _)
        simp [Instr.sliceAt, run_underlying hu, Instr.slice, hb, run_sizeOf hs]
        simpa using ha'
      · split at hh
        · rename_i hcc
          have := hcx hcc.1
          omega
        · omega
    · rename_i m
      split at h
      case isFalse => cases h
      rename_i hm
      cases h
      obtain ⟨q, rfl⟩ : ∃ q : Nat, m = (q : Int) := Int.eq_ofNat_of_zero_le (by omega)
      cases mx' with
      | none => exact h3.elim
      | some y =>
        have := T3.int h3
        subst this
        obtain ⟨a', ha', hadr'⟩ := slice_addr (k := l) (m := q) hsz hadr (by omega) (by omega)
        refine ⟨.slice (some a') (h' - l) (q - l), ?_, T3.slice_of hlc hlg (by omega) (fun hh => ?_) hadr'⟩
        · have hb := run_bounds (P := P) (w := w) (b := true) (len := n) (cap := c') (m := q) (mx' := some (.int .i64 (q : Int))) ((idx_rel hl h1).imp (fun h => ⟨h.1, h.2.2⟩) (·.1)) (Or.inr (by
            rcases idx_rel hn h2 with ⟨_, e, _⟩ | ⟨e, _⟩
            · subst e; simp at hm
            · exact e)) (.inr rfl) hlh (by omega) (by omega)
          simp [Instr.sliceAt, run_underlying hu, Instr.slice, hb, run_sizeOf hs]
          simpa using ha'
        · split at hh
          · rename_i hcc
            simp at hcc
            omega
          · omega
    · cases h
  · rename_i i off g
    split at h
    case h_2 => cases h
    rename_i o n e ha hu hno
    obtain ⟨l, hl, hlg, rfl⟩ := hx.ptr R ha
    obtain ⟨ho, hg⟩ := alive_some ha
    split at h
    case h_2 => cases h
    rename_i size hs
    split at h
    case isFalse => cases h
    rename_i hc
    cases h
    simp only [Bool.and_eq_true, Option.isNone_iff_eq_none] at hno
    obtain ⟨⟨e1, e2⟩, e3⟩ := hno
    subst e1 e2 e3
    have e1 : lo' = none := by
      cases lo' with
      | none => rfl
      | some y => exact h1.elim
    have e2 : hi' = none := by
      cases hi' with
      | none => rfl
      | some y => exact h2.elim
    have e3 : mx' = none := by
      cases mx' with
      | none => rfl
      | some y => exact h3.elim
    subst e1 e2 e3
    have ro := R.obj _ _ _ ho hl
    refine ⟨.slice (some ⟨l.b, l.base + off, none⟩) n n, ?_, T3.slice_of hl hlg (Nat.le_refl _) (fun _ => rfl) (.inr ⟨rfl, by rw [ro.2.1, hc.1]; have := ro.2.2.2.1; omega⟩)⟩
    simp [Instr.sliceAt, run_underlying hu, Instr.sureAddr, Instr.sliceBounds, run_sizeOf hs, add_lit]
  · cases h
def aIndexAddr (P : Program) (H : AH) (t : TypeId) (x ix : Value) : Option Value := match x, ix with
  | .slice (some ⟨i, off, some g⟩) n _, .int _ k => match alive H i g, elemT P t with
    | some _, some e => match sizeT P e with
      | some size => if 0 ≤ k ∧ k < n then some (.pointer (some ⟨i, off + k.toNat * size, some g⟩)) else none
      | none => none
    | _, _ => none
  | .pointer (some ⟨i, off, some g⟩), .int _ k => match alive H i g, P.underlying t with
    | some _, some (.array n e) => match sizeT P e with
      | some size => if 0 ≤ k ∧ k < n then some (.pointer (some ⟨i, off + k.toNat * size, some g⟩)) else none
      | none => none
    | _, _ => none
  | _, _ => none
theorem T3.ptr_of {i off g : Nat} {l : Loc} (hl : β i = some l) (hg : l.gen = g) : T3 β (.pointer (some ⟨i, off, some g⟩)) (.pointer (some ⟨l.b, l.base + off, none⟩)) := .one (.one (.one (.ptr hl hg)))
theorem aIndexAddr_sound (R : Rel β H w) {t : TypeId} {x x' ix ix' v : Value} (h : aIndexAddr P H t x ix = some v) (hx : T3 β x x') (hi : T3 β ix ix') :
    ∃ v', (Instr.indexAt t x' ix').run P w = .ok v' w ∧ T3 β v v' := by
  unfold aIndexAddr at h
  split at h
  · rename_i i off g n c k' k
    have := hi.int
    subst this
    split at h
    case h_2 => cases h
    rename_i o e ha he
    have hu := elemT_some he
    obtain ⟨l, a, c', hl, hlg, rfl, hnc, hcx, hadr⟩ := hx.sl R ha
    split at h
    case h_2 => cases h
    rename_i size hs
    split at h
    case isFalse => cases h
    rename_i hc
    cases h
    rcases hadr with h0 | ⟨rfl, _⟩
    · omega
    · refine ⟨_, ?_, T3.ptr_of hl hlg⟩
      simp [Instr.indexAt, asIntOf, run_underlying hu, hc.1, hc.2, run_sizeOf hs, add_lit, Nat.add_assoc]
  · rename_i i off g k' k
    have := hi.int
    subst this
    split at h
    case h_2 => cases h
    rename_i o n e ha hu
    obtain ⟨l, hl, hlg, rfl⟩ := hx.ptr R ha
    split at h
    case h_2 => cases h
    rename_i size hs
    split at h
    case isFalse => cases h
    rename_i hc
    cases h
    refine ⟨_, ?_, T3.ptr_of hl hlg⟩
    simp [Instr.indexAt, asIntOf, run_underlying hu, Instr.sureAddr, hc.1, hc.2, run_sizeOf hs, add_lit, Nat.add_assoc]
  · cases h
def aFieldAddr (P : Program) (H : AH) (s : TypeId) (x : Value) (f : Nat) : Option Value := match x with
  | .pointer (some ⟨i, off, some g⟩) => match alive H i g, P.underlying s with
    | some _, some (.struct fields) => match fields[f]? with
      | some fl => match sizeT P fl.type with
        | some (n + 1) => some (.pointer (some ⟨i, off + fl.offset, some g⟩))
        | _ => none
      | none => none
    | _, _ => none
  | _ => none
theorem aFieldAddr_sound (R : Rel β H w) {s : TypeId} {x x' v : Value} {f : Nat} (h : aFieldAddr P H s x f = some v) (hx : T3 β x x') :
    ∃ v', (Instr.fieldAt s x' f).run P w = .ok v' w ∧ T3 β v v' := by
  unfold aFieldAddr at h
  split at h
  · rename_i i off g
    split at h
    case h_2 => cases h
    rename_i o fields ha hu
    obtain ⟨l, hl, hlg, rfl⟩ := hx.ptr R ha
    split at h
    case h_2 => cases h
    rename_i fl hf
    split at h
    case h_2 => cases h
    rename_i n hs
    cases h
    refine ⟨_, ?_, T3.ptr_of hl hlg⟩
    simp [Instr.fieldAt, run_underlying hu, hf, Instr.sureAddr, fieldPlace, run_sizeOf hs, add_lit, Nat.add_assoc]
  · cases h
def aPart (P : Program) (t : TypeId) (cs : List Value) (off : Nat) : Option Value := match aggT P t, sizeT P t with
  | some true, some n => if off + n ≤ cs.length then some (.agg ((cs.drop off).take n).toArray) else none
  | some false, some _ => cs[off]?
  | _, _ => none
theorem aPart_sound {t : TypeId} {cs cs' : Array Value} {off : Nat} {v : Value} (h : aPart P t cs.toList off = some v) (hc : All2 (T1 β) cs.toList cs'.toList) : ∃ v', (part t cs' off).run P w = .ok v' w ∧ T2 β v v' := by
  unfold aPart at h
  split at h
  · rename_i n hb hs
    split at h
    case isFalse => cases h
    rename_i hle
    cases h
    refine ⟨.agg (cs'.extract off (off + n)), ?_, ?_⟩
    · simp [part, run_isAgg hb, run_sizeOf hs]
    · have := (hc.drop off).take n
      have e : cs'.extract off (off + n) = ((cs'.toList.drop off).take n).toArray := by
        apply Array.ext'
        simp [List.drop_take]
      rw [e]
      exact .agg this
  · rename_i n hb hs
    obtain ⟨v', hv, t1⟩ := hc.get _ _ h
    rw [Array.getElem?_toList] at hv
    refine ⟨v', ?_, .one t1⟩
    simp [part, run_isAgg hb, hv]
  · cases h
def aField (P : Program) (t : TypeId) (x : Value) (f : Nat) : Option Value := match x, P.underlying t with
  | .agg cs, some (.struct fields) => match fields[f]? with
    | some fl => aPart P fl.type cs.toList fl.offset
    | none => none
  | _, _ => none
theorem aField_sound {t : TypeId} {x x' v : Value} {f : Nat} (h : aField P t x f = some v) (hx : T3 β x x') : ∃ v', (Instr.field t x' f).run P w = .ok v' w ∧ T3 β v v' := by
  unfold aField at h
  split at h
  · rename_i cs fields hu
    split at h
    case h_2 => cases h
    rename_i fl hf
    obtain ⟨cs', rfl, hc⟩ := hx.agg
    obtain ⟨v', h1, h2⟩ := aPart_sound (w := w) h hc
    exact ⟨v', by simp [Instr.field, run_underlying hu, hf, asAgg, h1], .one h2⟩
  · cases h
def aIndex (P : Program) (t : TypeId) (x ix : Value) : Option Value := match x, ix with
  | .string s, .int _ k => match P.underlying t with
    | some .string => if 0 ≤ k then (s.data[k.toNat]?).map fun b => .int .u8 b.toNat else none
    | _ => none
  | .agg cs, .int _ k => match P.underlying t with
    | some (.array n e) => match sizeT P e with
      | some size => if 0 ≤ k ∧ k < n then aPart P e cs.toList (k.toNat * size) else none
      | none => none
    | _ => none
  | _, _ => none
theorem aIndex_sound {t : TypeId} {x x' ix ix' v : Value} (h : aIndex P t x ix = some v) (hx : T3 β x x') (hi : T3 β ix ix') : ∃ v', (Instr.index t x' ix').run P w = .ok v' w ∧ T3 β v v' := by
  unfold aIndex at h
  split at h
  · rename_i s k' k
    have := hi.int
    subst this
    have := hx.string
    subst this
    split at h
    case h_2 => cases h
    rename_i hu
    split at h
    case isFalse => cases h
    rename_i h0
    obtain ⟨b, hb, rfl⟩ := Option.map_eq_some_iff.1 h
    refine ⟨_, ?_, .plain rfl⟩
    have hb' : s[k.toNat]? = some b := by
      have h1 := (Array.getElem?_eq_some_iff.1 hb)
      obtain ⟨h2, h3⟩ := h1
      have : k.toNat < s.size := h2
      rw [getElem?_pos s k.toNat this]
      exact congrArg some h3
    simp [Instr.index, asIntOf, run_underlying hu, h0, hb']
  · rename_i cs k' k
    have := hi.int
    subst this
    obtain ⟨cs', rfl, hc⟩ := hx.agg
    split at h
    case h_2 => cases h
    rename_i n e hu
    split at h
    case h_2 => cases h
    rename_i size hs
    split at h
    case isFalse => cases h
    rename_i h0
    obtain ⟨v', h1, h2⟩ := aPart_sound (w := w) h hc
    exact ⟨v', by simp [Instr.index, asIntOf, run_underlying hu, h0.1, h0.2, run_sizeOf hs, h1], .one h2⟩
  · cases h
def aExtract (x : Value) (i : Nat) : Option Value := match x with
  | .tuple vs => vs[i]?
  | _ => none
theorem aExtract_sound {x x' v : Value} {i : Nat} (h : aExtract x i = some v) (hx : T3 β x x') : ∃ v', (Instr.extract x' i).run P w = .ok v' w ∧ T3 β v v' := by
  unfold aExtract at h
  split at h
  · rename_i vs
    obtain ⟨vs', rfl, hc⟩ := hx.tuple
    obtain ⟨v', hv, t⟩ := hc.get i v (by rw [Array.getElem?_toList]; exact h)
    rw [Array.getElem?_toList] at hv
    exact ⟨v', by simp [Instr.extract, hv], .one t⟩
  · cases h

def aBits (op : BinOp) (k : IntKind) (x y : Int) : Option Value :=
  let a := BitVec.ofInt k.bits x
  let b := BitVec.ofInt k.bits y
  match op with
  | .and => some (.int k (k.wrap (a &&& b).toNat))
  | .or => some (.int k (k.wrap (a ||| b).toNat))
  | .xor => some (.int k (k.wrap (a ^^^ b).toNat))
  | .andNot => some (.int k (k.wrap (a &&& ~~~b).toNat))
  | _ => none
def aBinI (op : BinOp) (k : IntKind) (a b : Int) : Option Value := match op with
  | .add => some (.int k (k.wrap (a + b)))
  | .sub => some (.int k (k.wrap (a - b)))
  | .mul => some (.int k (k.wrap (a * b)))
  | .quo => if b = 0 then none else some (.int k (k.wrap (a.tdiv b)))
  | .rem => if b = 0 then none else some (.int k (a.tmod b))
  | .eql => some (.bool (a == b))
  | .neq => some (.bool (a != b))
  | .lss => some (.bool (decide (a < b)))
  | .leq => some (.bool (decide (a ≤ b)))
  | .gtr => some (.bool (decide (a > b)))
  | .geq => some (.bool (decide (a ≥ b)))
  | op => aBits op k a b
def aBinS (op : BinOp) (x y : ByteArray) : Option Value := match op with
  | .add => if x.size + y.size ≤ 9223372036854775807 then some (.string (x ++ y)) else none
  | .eql => some (.bool (x.toList == y.toList))
  | .neq => some (.bool (!(x.toList == y.toList)))
  | .lss => some (.bool (Op.bytesLess x.toList y.toList))
  | .leq => some (.bool (Op.bytesLess x.toList y.toList || x.toList == y.toList))
  | .gtr => some (.bool (!(Op.bytesLess x.toList y.toList || x.toList == y.toList)))
  | .geq => some (.bool (!(Op.bytesLess x.toList y.toList)))
  | _ => none
def eqB (op : BinOp) (b : Bool) : Option Value := match op with
  | .eql => some (.bool b)
  | .neq => some (.bool (!b))
  | _ => none
def aBin (P : Program) (H : AH) (op : BinOp) (t : TypeId) (x y : Value) : Option Value := match x, y with
  | .int k a, .int k' b => match op with
    | .shl => if b < 0 then none else some (.int k (k.wrap (a * 2 ^ (min b.toNat k.bits))))
    | .shr => if b < 0 then none else some (.int k (a.fdiv (2 ^ (min b.toNat k.bits))))
    | op => if k = k' then aBinI op k a b else none
  | .string a, .string b => aBinS op a b
  | .bool a, .bool b => match P.underlying t with
    | some .bool => eqB op (a == b)
    | _ => none
  | .slice none 0 0, .slice none 0 0 => match P.underlying t with
    | some (.slice _) => eqB op true
    | _ => none
  | .slice (some _) _ _, .slice none 0 0 => match P.underlying t with
    | some (.slice _) => eqB op false
    | _ => none
  | .slice none 0 0, .slice (some _) _ _ => match P.underlying t with
    | some (.slice _) => eqB op false
    | _ => none
  | .agg xs, .agg ys => match P.underlying t, xs.toList, ys.toList with
    | some (.array 2 e), [.int k1 a, .int k2 b], [.int k3 c, .int k4 d] => match P.underlying e, sizeT P e with
      | some (.int _), some 1 => if k1 = k3 ∧ k2 = k4 then eqB op (a == c && b == d) else none
      | _, _ => none
    | _, _, _ => none
  | _, _ => none
end

end Go.Proofs.Ytdbflchpbhkanaa.AL
namespace Go.Proofs.Ytdbflchpbhkanaa.AL
open Go Go.RowKit
set_option linter.unusedVariables false
set_option linter.unusedSimpArgs false

section
variable {P : Program} {β : BM} {H : AH} {w : World}
theorem aBinI_sound {op : BinOp} {t : TypeId} {k : IntKind} {a b : Int} {v : Value} (hs : op ≠ .shl ∧ op ≠ .shr) (h : aBinI op k a b = some v) : (binOp op t (.int k a) (.int k b)).run P w = .ok v w ∧ plainV v = true := by
  cases op <;> simp [aBinI, aBits] at h hs <;> first | (subst h; refine ⟨?_, rfl⟩; simp [binOp, Op.intArith, Op.intDiv, Op.intBits, Op.intCmp]; done) | (obtain ⟨h0, h⟩ := h; subst h; refine ⟨?_, rfl⟩; simp [binOp, Op.intArith, Op.intDiv, Op.intBits, Op.intCmp, h0]; done)
theorem aBinS_sound {op : BinOp} {t : TypeId} {x y : ByteArray} {v : Value} (h : aBinS op x y = some v) : (binOp op t (.string x) (.string y)).run P w = .ok v w ∧ plainV v = true := by
  cases op <;> simp [aBinS] at h <;> first | (subst h; refine ⟨?_, rfl⟩; simp [binOp, Op.stringOp]; done) | (obtain ⟨h0, h⟩ := h; subst h; refine ⟨?_, rfl⟩; have h1 : ¬ ((9223372036854775807 : Int) < (x.size : Int) + y.size) := (by omega); simp [binOp, Op.stringOp, h1]; done)
theorem guard_pass {op : BinOp} {t : TypeId} {x y : Operand} {a b : Value} (h1 : a ≠ .nilIface ∨ b ≠ .nilIface) (h2 : (∀ c, a ≠ .agg c) ∨ (∀ c, b ≠ .agg c)) : (eqGuard op t x y a b).run P w = .ok () w := by
  unfold eqGuard
  by_cases h : op = .eql ∨ op = .neq
  · rcases h with rfl | rfl <;> simp <;> split <;> first | rfl | simp_all
  · cases op <;> first | exact absurd (.inl rfl) h | exact absurd (.inr rfl) h | rfl
theorem eqB_sound {op : BinOp} {t : TypeId} {a b : Value} {r : Bool} {v : Value} (h : eqB op r = some v) (hop : ∀ op', op' = BinOp.eql ∨ op' = .neq → binOp op' t a b = (match op' with | .eql => do pure (.bool (← Op.equal t a b)) | _ => do pure (.bool (!(← Op.equal t a b)))))
    (he : (Op.equal t a b).run P w = .ok r w) : (binOp op t a b).run P w = .ok v w ∧ plainV v = true := by
  unfold eqB at h
  split at h
  · cases h
    rw [hop _ (.inl rfl)]
    exact ⟨by simp [he], rfl⟩
  · cases h
    rw [hop _ (.inr rfl)]
    exact ⟨by simp [he], rfl⟩
  · cases h
theorem run_equalIn_bool {d : Nat} {t : TypeId} {a b : Bool} (h : P.underlying t = some .bool) : (Op.equalIn (d + 1) t (.bool a) (.bool b)).run P w = .ok (a == b) w := by
  simp [Op.equalIn, run_underlying h]
theorem run_equalIn_slice {d : Nat} {t e : TypeId} {a b : Option Addr} {n c n' c' : Nat} (h : P.underlying t = some (.slice e)) (hn : a = none ∨ b = none) : (Op.equalIn (d + 1) t (.slice a n c) (.slice b n' c')).run P w = .ok (a.isNone && b.isNone) w := by
  rcases hn with rfl | rfl
  · simp [Op.equalIn, run_underlying h]
  · cases a <;> simp [Op.equalIn, run_underlying h]
def aliveS (H : AH) : Value → Bool
  | .slice (some ⟨i, _, some g⟩) _ _ => (alive H i g).isSome
  | .slice none 0 0 => true
  | _ => false
def aBin' (P : Program) (H : AH) (op : BinOp) (t : TypeId) (x y : Value) : Option Value := match x, y with
  | .slice a n c, .slice b n' c' => if aliveS H (.slice a n c) = true ∧ aliveS H (.slice b n' c') = true then aBin P H op t (.slice a n c) (.slice b n' c') else none
  | x, y => aBin P H op t x y
theorem T3.slice_alive (R : Rel β H w) {a : Option Addr} {n c : Nat} {v' : Value} (t : T3 β (.slice a n c) v') (h : aliveS H (.slice a n c) = true) : ∃ a' n' c', v' = .slice a' n' c' ∧ a'.isNone = a.isNone := by
  unfold aliveS at h
  split at h
  · rename_i i off g n c hv
    cases hv
    obtain ⟨o, ho⟩ := Option.isSome_iff_exists.1 h
    obtain ⟨l, a, c', _, _, rfl, _⟩ := t.sl R ho
    exact ⟨_, _, _, rfl, rfl⟩
  · rename_i hv
    cases hv
    have := t.of_plain rfl
    subst this
    exact ⟨_, _, _, rfl, rfl⟩
  · cases h
theorem two_int {k1 k2 : IntKind} {a b : Int} {xs : Array Value} (h : All2 (T1 β) [.int k1 a, .int k2 b] xs.toList) : xs = #[.int k1 a, .int k2 b] := by
  match hx : xs.toList, h with
  | _, .cons h1 (.cons h2 .nil) =>
    have e1 := (T3.one (.one h1)).int
    have e2 := (T3.one (.one h2)).int
    subst e1 e2
    exact Array.ext' hx
theorem run_equalIn_int {d : Nat} {t : TypeId} {k k1 : IntKind} {a b : Int} (h : P.underlying t = some (.int k)) : (Op.equalIn (d + 1) t (.int k1 a) (.int k1 b)).run P w = .ok (a == b) w := by
  simp [Op.equalIn, run_underlying h]
theorem run_equalIn_arr {d : Nat} {t e : TypeId} {k k1 k2 : IntKind} {a b a' b' : Int} (h : P.underlying t = some (.array 2 e)) (he : P.underlying e = some (.int k)) (hs : sizeT P e = some 1) :
    (Op.equalIn (d + 2) t (.agg #[.int k1 a, .int k2 b]) (.agg #[.int k1 a', .int k2 b'])).run P w = .ok (a == a' && b == b') w := by
  have hb : aggT P e = some false := by simp [aggT, he, aggD]
  have p0 : ∀ w (x y : Value), (part e #[x, y] 0).run P w = .ok x w := fun w x y => by simp [part, run_isAgg hb]
  have p1 : ∀ w (x y : Value), (part e #[x, y] 1).run P w = .ok y w := fun w x y => by simp [part, run_isAgg hb]
  unfold Op.equalIn
  rw [Sem.run_bind, run_underlying h]
  simp only [Result.andThen_ok]
  rw [Sem.run_bind, run_sizeOf hs]
  simp only [Result.andThen_ok]
  cases h1 : (a == a') <;> cases h2 : (b == b') <;>
    simp [Std.Legacy.Range.forIn_eq_forIn_range', Std.Legacy.Range.size, List.range', p0, p1, run_equalIn_int he, h1, h2]
theorem guard_arr {op : BinOp} {t e : TypeId} {x y : Operand} {k k1 k2 : IntKind} {a b a' b' : Int} (h : P.underlying t = some (.array 2 e)) (he : P.underlying e = some (.int k)) (hs : sizeT P e = some 1) :
    (eqGuard op t x y (.agg #[.int k1 a, .int k2 b]) (.agg #[.int k1 a', .int k2 b'])).run P w = .ok () w := by
  have hin : ∀ d, (Op.eqGuardIn (d + 1) e (.int k1 a) (.int k1 a')).run P w = .ok false w := fun d => by simp [Op.eqGuardIn, run_underlying he]
  have hin2 : ∀ d, (Op.eqGuardIn (d + 1) e (.int k2 b) (.int k2 b')).run P w = .ok false w := fun d => by simp [Op.eqGuardIn, run_underlying he]
  have hb : aggT P e = some false := by simp [aggT, he, aggD]
  have p0 : ∀ w (x y : Value), (part e #[x, y] 0).run P w = .ok x w := fun w x y => by simp [part, run_isAgg hb]
  have p1 : ∀ w (x y : Value), (part e #[x, y] 1).run P w = .ok y w := fun w x y => by simp [part, run_isAgg hb]
  have hg : (Op.eqGuardIn Op.maxDepth t (.agg #[.int k1 a, .int k2 b]) (.agg #[.int k1 a', .int k2 b'])).run P w = .ok false w := by
    show (Op.eqGuardIn (9998 + 2) t (.agg #[.int k1 a, .int k2 b]) (.agg #[.int k1 a', .int k2 b'])).run P w = .ok false w
    unfold Op.eqGuardIn
    rw [Sem.run_bind, run_underlying h]
    simp only [Result.andThen_ok]
    rw [Sem.run_bind, run_sizeOf hs]
    simp only [Result.andThen_ok]
    simp [Std.Legacy.Range.forIn_eq_forIn_range', Std.Legacy.Range.size, List.range', p0, p1, hin, hin2]
  unfold eqGuard
  by_cases ho : op = .eql ∨ op = .neq
  · rcases ho with rfl | rfl <;> simp [hg]
  · cases op <;> first | exact absurd (.inl rfl) ho | exact absurd (.inr rfl) ho | rfl
theorem aBin_sound (R : Rel β H w) {op : BinOp} {t : TypeId} {x y x' y' v : Value} {ox oy : Operand} (h : aBin' P H op t x y = some v) (hx : T3 β x x') (hy : T3 β y y') :
    ((do eqGuard op t ox oy x' y'; binOp op t x' y' : Sem Value)).run P w = .ok v w ∧ plainV v = true := by
  unfold aBin' at h
  split at h
  · rename_i a n c b n' c'
    split at h
    case isFalse => cases h
    rename_i hal
    obtain ⟨a1, n1, c1, rfl, e1⟩ := hx.slice_alive R hal.1
    obtain ⟨a2, n2, c2, rfl, e2⟩ := hy.slice_alive R hal.2
    have hg : (eqGuard op t ox oy (.slice a1 n1 c1) (.slice a2 n2 c2)).run P w = .ok () w := guard_pass (.inl (by simp)) (.inl (by simp))
    have key : ∀ {r : Bool} {e : TypeId}, P.underlying t = some (.slice e) → (a = none ∨ b = none) → r = (a.isNone && b.isNone) → eqB op r = some v → (binOp op t (.slice a1 n1 c1) (.slice a2 n2 c2)).run P w = .ok v w ∧ plainV v = true := by
      intro r e hu hn hr hv
      refine eqB_sound hv (fun op' ho => by rcases ho with rfl | rfl <;> rfl) ?_
      have := run_equalIn_slice (P := P) (w := w) (d := 9999) (a := a1) (b := a2) (n := n1) (c := c1) (n' := n2) (c' := c2) hu (by rcases hn with rfl | rfl <;> simp_all)
      rw [hr, ← e1, ← e2]
      exact this
    rw [Sem.run_bind, hg, Result.andThen_ok]
    unfold aBin at h
    split at h <;> first | (cases h; done) | (rename_i hv1 hv2; cases hv1; cases hv2; split at h <;> first | (cases h; done) | (rename_i hu; exact key hu (by simp) (by simp) h)) | (rename_i hv1; cases hv1)
  · rename_i hns
    unfold aBin at h
    split at h
    · rename_i k a k' b
      have := hx.int
      subst this
      have := hy.int
      subst this
      have hg : (eqGuard op t ox oy (.int k a) (.int k' b)).run P w = .ok () w := guard_pass (.inl (by simp)) (.inl (by simp))
      rw [Sem.run_bind, hg, Result.andThen_ok]
      split at h
      · split at h
        · cases h
        · cases h
          rename_i hb
          exact ⟨by simp [binOp, Op.shift, hb], rfl⟩
      · split at h
        · cases h
        · cases h
          rename_i hb
          exact ⟨by simp [binOp, Op.shift, hb], rfl⟩
      · split at h
        · rename_i h1 h2 hk
          subst hk
          exact aBinI_sound ⟨h1, h2⟩ h
        · cases h
    · rename_i a b
      have := hx.string
      subst this
      have := hy.string
      subst this
      rw [Sem.run_bind, guard_pass (.inl (by simp)) (.inl (by simp)), Result.andThen_ok]
      exact aBinS_sound h
    · rename_i a b
      have := hx.bool
      subst this
      have := hy.bool
      subst this
      rw [Sem.run_bind, guard_pass (.inl (by simp)) (.inl (by simp)), Result.andThen_ok]
      split at h
      · rename_i hu
        exact eqB_sound h (fun op' ho => by rcases ho with rfl | rfl <;> rfl) (run_equalIn_bool (d := 9999) hu)
      · cases h
    · exact (hns _ _ _ _ _ _ rfl rfl).elim
    · exact (hns _ _ _ _ _ _ rfl rfl).elim
    · exact (hns _ _ _ _ _ _ rfl rfl).elim
    · rename_i xs ys
      split at h
      case h_2 => cases h
      rename_i e k1 a k2 b k3 c k4 d hu hx1 hy1
      split at h
      case h_2 => cases h
      rename_i kk he hs1
      split at h
      case isFalse => cases h
      rename_i hk
      obtain ⟨hk1, hk2⟩ := hk
      subst hk1 hk2
      obtain ⟨xs', rfl, tx⟩ := hx.agg
      obtain ⟨ys', rfl, ty⟩ := hy.agg
      rw [hx1] at tx
      rw [hy1] at ty
      have ex := two_int tx
      have ey := two_int ty
      subst ex ey
      rw [Sem.run_bind, guard_arr hu he hs1, Result.andThen_ok]
      exact eqB_sound h (fun op' ho => by rcases ho with rfl | rfl <;> rfl) (run_equalIn_arr (d := 9998) hu he hs1)
    · cases h
def aUn (op : UnOp) (x : Value) : Option Value := match op, x with
  | .neg, .int k n => some (.int k (k.wrap (0 - n)))
  | .not, .bool b => some (.bool (!b))
  | _, _ => none
theorem aUn_sound {op : UnOp} {x x' v : Value} (h : aUn op x = some v) (hx : T3 β x x') : (Op.unary op x').run P w = .ok v w ∧ plainV v = true := by
  unfold aUn at h
  split at h
  · cases h
    have := hx.int
    subst this
    exact ⟨by simp [Op.unary, Op.intArith], rfl⟩
  · cases h
    have := hx.bool
    subst this
    exact ⟨by simp [Op.unary], rfl⟩
  · cases h
def unU8 : List Value → Option (List Int)
  | [] => some []
  | .int .u8 n :: r => (unU8 r).map fun l => n :: l
  | _ :: _ => none
theorem unU8_some : ∀ {cs : List Value} {ns : List Int}, unU8 cs = some ns → cs = ns.map (Value.int .u8)
  | [], ns, h => by cases h; rfl
  | c :: r, ns, h => by
    unfold unU8 at h
    split at h
    · rename_i heq
      cases heq
    · rename_i n r' heq
      cases heq
      cases hr : unU8 r with
      | none => rw [hr] at h; cases h
      | some l =>
        rw [hr] at h
        cases h
        rw [unU8_some hr]
        rfl
    · cases h
theorem unU8_map : ∀ (ns : List Int), unU8 (ns.map (Value.int .u8)) = some ns
  | [] => rfl
  | n :: ns => by simp [unU8, unU8_map ns]
def bstr (ns : List Int) : ByteArray := ns.foldl (fun r n => r.push (UInt8.ofNat n.toNat)) ByteArray.empty
def aBytes (P : Program) (H : AH) (e : TypeId) (x : Value) : Option Value := match P.underlying e, x with
  | some (.int .u8), .slice none 0 0 => some (.string .empty)
  | some (.int .u8), .slice (some ⟨i, off, some g⟩) n _ => match alive H i g with
    | some o => if off + n ≤ o.cells.length then (unU8 ((o.cells.drop off).take n)).map fun l => .string (bstr l) else none
    | none => none
  | _, _ => none
theorem All2.u8 {β : BM} : ∀ {ns : List Int} {cs : List Value}, All2 (T1 β) (ns.map (Value.int .u8)) cs → cs = ns.map (Value.int .u8)
  | [], cs, h => by cases h; rfl
  | n :: ns, cs, h => by
    cases h with
    | cons a b =>
      rw [All2.u8 b]
      have : T3 β (.int .u8 n) _ := .one (.one a)
      rw [this.int]
      rfl
theorem aBytes_sound (R : Rel β H w) {src dst e : TypeId} {x x' v : Value} (hs : P.underlying src = some (.slice e)) (hd : P.underlying dst = some .string) (h : aBytes P H e x = some v) (hx : T3 β x x') : (convert src dst x').run P w = .ok v w ∧ plainV v = true := by
  unfold aBytes at h
  split at h
  · rename_i he
    cases h
    have := hx.of_plain rfl
    subst this
    rw [run_convert_bytes_string w src dst e none 0 0 hs he hd]
    exact ⟨by simp [Conv.bytesToString, Sem.run_pure], rfl⟩
  · rename_i i off g n c he
    split at h
    case h_2 => cases h
    rename_i o ha
    split at h
    case isFalse => cases h
    rename_i hfit
    cases hb : unU8 ((o.cells.drop off).take n) with
    | none => rw [hb] at h; cases h
    | some ns =>
      rw [hb] at h
      cases h
      obtain ⟨ho, hg⟩ := alive_some ha
      obtain ⟨l, a, c', hl, hlg, rfl, hn, _, hadr⟩ := hx.sl R ha
      rw [run_convert_bytes_string w src dst e (some a) n c' hs he hd]
      have hcs := unU8_some hb
      refine ⟨run_bytesToString w a n c' ns ?_, rfl⟩
      have hl0 : ns.length = n := by
        have := congrArg List.length hcs
        simp at this
        omega
      by_cases hk : n = 0
      · subst hk
        have : ns = [] := List.eq_nil_of_length_eq_zero hl0
        subst this
        have hr := run_loadCells_list (P := P) w a [] (by simp)
        simpa using hr
      · obtain ⟨rfl, _⟩ : a = ⟨l.b, l.base + off, none⟩ ∧ l.base + off + c' * l.sz ≤ l.fin := by
          rcases hadr with h0 | h
          · omega
          · exact h
        obtain ⟨cs, h2, hc⟩ := R.reads ho hl off n hfit
        rw [hcs] at h2
        have e2 := All2.u8 h2
        subst e2
        have hr := run_loadCells_list (P := P) w _ _ hc
        rw [List.length_map, hl0] at hr
        exact hr
  · cases h
def aConvert (P : Program) (H : AH) (src dst : TypeId) (x : Value) : Option Value := match P.underlying src, P.underlying dst, x with
  | some _, some (.int k), .int _ n => some (.int k (k.wrap n))
  | some .string, some .string, .string s => some (.string s)
  | some (.slice e), some .string, y => if dst = 9 then aBytes P H e y else none
  | _, _, _ => none
theorem aConvert_sound (R : Rel β H w) {src dst : TypeId} {x x' v : Value} (h : aConvert P H src dst x = some v) (hx : T3 β x x') : (convert src dst x').run P w = .ok v w ∧ plainV v = true := by
  unfold aConvert at h
  split at h
  · rename_i d k k' n hs hd
    cases h
    have := hx.int
    subst this
    exact ⟨by simp [convert, run_underlying hs, run_underlying hd, Conv.intToInt], rfl⟩
  · rename_i s hs hd
    cases h
    have := hx.string
    subst this
    exact ⟨by simp [convert, run_underlying hs, run_underlying hd], rfl⟩
  · rename_i e hs hd
    split at h
    · exact aBytes_sound R hs hd h hx
    · cases h
  · cases h
theorem aBytes_plain {H : AH} {e : TypeId} {x v : Value} (h : aBytes P H e x = some v) : plainV v = true := by
  unfold aBytes at h
  split at h
  · cases h; rfl
  · split at h
    · split at h
      · obtain ⟨l, _, rfl⟩ := Option.map_eq_some_iff.1 h
        rfl
      · cases h
    · cases h
  · cases h
theorem aConvert_plain {H : AH} {src dst : TypeId} {x v : Value} (h : aConvert P H src dst x = some v) : plainV v = true := by
  unfold aConvert at h
  split at h
  · cases h; rfl
  · cases h; rfl
  · split at h
    · exact aBytes_plain h
    · cases h
  · cases h

def aLen (P : Program) (H : AH) (t : TypeId) (x : Value) : Option Value := match P.underlying t, x with
  | some .string, .string s => some (.int .i64 s.size)
  | some (.slice _), .slice none 0 0 => some (.int .i64 0)
  | some (.slice _), .slice (some ⟨i, _, some g⟩) n _ => match alive H i g with
    | some _ => some (.int .i64 n)
    | none => none
  | some (.map _ _), .map (some i) => aMapLen H i
  | _, _ => none
theorem aLen_sound (R : Rel β H w) {t ty : TypeId} {x x' v : Value} (h : aLen P H t x = some v) (hx : T3 β x x') : (Builtin.len_ #[t] ty #[x']).run P w = .ok v w ∧ plainV v = true := by
  unfold aLen at h
  split at h
  · rename_i s hu
    cases h
    have := hx.string
    subst this
    exact ⟨by simp [Builtin.len_, run_underlying hu, goInt], rfl⟩
  · rename_i e hu
    cases h
    have := hx.of_plain rfl
    subst this
    exact ⟨by simp [Builtin.len_, run_underlying hu, goInt], rfl⟩
  · rename_i e i off g n c hu
    split at h
    case h_2 => cases h
    rename_i o ha
    cases h
    obtain ⟨l, a, c', _, _, rfl, _⟩ := hx.sl R ha
    exact ⟨by simp [Builtin.len_, run_underlying hu, goInt], rfl⟩
  · rename_i kt et i hu
    exact aMapLen_sound R hu h hx
  · cases h
def aMin (x y : Value) : Option Value := match x, y with
  | .int k a, .int _ b => some (.int k (if b < a then b else a))
  | _, _ => none
def aMax (x y : Value) : Option Value := match x, y with
  | .int k a, .int _ b => some (.int k (if b > a then b else a))
  | _, _ => none
theorem aMin_sound {ts : Array TypeId} {ty : TypeId} {x y x' y' v : Value} (h : aMin x y = some v) (hx : T3 β x x') (hy : T3 β y y') : (Builtin.min_ ts ty #[x', y']).run P w = .ok v w ∧ plainV v = true := by
  unfold aMin at h
  split at h
  · cases h
    have := hx.int
    subst this
    have := hy.int
    subst this
    exact ⟨by simp [Builtin.min_, Builtin.min2], rfl⟩
  · cases h
theorem aMax_sound {ts : Array TypeId} {ty : TypeId} {x y x' y' v : Value} (h : aMax x y = some v) (hx : T3 β x x') (hy : T3 β y y') : (Builtin.max_ ts ty #[x', y']).run P w = .ok v w ∧ plainV v = true := by
  unfold aMax at h
  split at h
  · cases h
    have := hx.int
    subst this
    have := hy.int
    subst this
    exact ⟨by simp [Builtin.max_, Builtin.max2], rfl⟩
  · cases h
end

end Go.Proofs.Ytdbflchpbhkanaa.AL
namespace Go.Proofs.Ytdbflchpbhkanaa.AL
open Go Go.RowKit
set_option linter.unusedVariables false
set_option linter.unusedSimpArgs false

def aCopy (P : Program) (H : AH) (t : TypeId) (d s : Value) : Option (Value × AH) := match elemT P t, d, s with
  | some e, .slice (some ⟨i, off, some g⟩) n _, .slice (some ⟨j, off2, some g2⟩) m _ => match alive H i g, alive H j g2, sizeT P e with
    | some o, some o2, some z => if Nat.min m n = 0 then some (.int .i64 0, H)
      else if o.ro = false ∧ off + Nat.min m n * z ≤ o.cells.length ∧ off2 + Nat.min m n * z ≤ o2.cells.length then
        some (.int .i64 (Nat.min m n : Nat), H.set i { o with cells := o.cells.take off ++ (o2.cells.drop off2).take (Nat.min m n * z) ++ o.cells.drop (off + Nat.min m n * z) })
      else none
    | _, _, _ => none
  | _, _, _ => none
section
variable {P : Program} {β : BM} {H : AH} {w : World}
theorem put_cells (R : Rel β H w) {i off : Nat} {o : AO} {l : Loc} {arr : Array Value} {news news' : List Value} (ho : H[i]? = some o) (hl : β i = some l) (hro : o.ro = false) (harr : w.heap[l.b]? = some (.cells arr o.elem (0, 0))) (hfin : arr.size = l.fin)
    (hc : All2 (T1 β) news news') (hle : off + news.length ≤ o.cells.length) :
    Rel β (H.set i { o with cells := o.cells.take off ++ news ++ o.cells.drop (off + news.length) }) (w.setRow l.b (arr.toList.take (l.base + off) ++ news' ++ arr.toList.drop (l.base + off + news.length)).toArray) ∧
      Ext H.length β w β (w.setRow l.b (arr.toList.take (l.base + off) ++ news' ++ arr.toList.drop (l.base + off + news.length)).toArray) := by
  obtain ⟨g1, g2, g3, g4, g5, g6⟩ := R.obj _ _ _ ho hl
  have hn : news'.length = news.length := hc.length.symm
  have hold : All2 (T1 β) o.cells ((arr.toList.drop l.base).take o.cells.length) := by
    refine All2.of_get (by simp; omega) fun j c u hcj hu => ?_
    obtain ⟨u', hu', t⟩ := g5 j c hcj
    have hj := (List.getElem?_eq_some_iff.1 hcj).1
    rw [List.getElem?_take, if_pos hj, List.getElem?_drop] at hu
    simp [World.cell?, harr] at hu'
    simp at hu
    rw [hu'] at hu
    cases hu
    exact t
  have hal : arr.toList.length = l.fin := by simpa using hfin
  obtain ⟨R', E⟩ := R.upd (i := i) (o := o) (o' := { o with cells := o.cells.take off ++ news ++ o.cells.drop (off + news.length) }) (l := l) (l' := l)
    (w' := w.setRow l.b (arr.toList.take (l.base + off) ++ news' ++ arr.toList.drop (l.base + off + news.length)).toArray) ho hl hro rfl rfl rfl (by simp) (fun k _ hk => setRow_other w l.b k _ hk) (.inl rfl) (.inl rfl) rfl rfl hro g1 g2 (g3.trans hro)
    (arr.toList.take (l.base + off) ++ news' ++ arr.toList.drop (l.base + off + news.length)) (setRow_heap w l.b arr _ o.elem (0, 0) harr)
    (by simp only [List.length_append, List.length_take, List.length_drop, hn, hal]; omega)
    (by simp only [List.length_append, List.length_take, List.length_drop]; omega)
    (by
      have e1 : (arr.toList.take (l.base + off) ++ news' ++ arr.toList.drop (l.base + off + news.length)).drop l.base = (arr.toList.drop l.base).take off ++ news' ++ arr.toList.drop (l.base + off + news.length) := by
        rw [List.append_assoc, List.drop_append_of_le_length (by rw [List.length_take]; omega), List.drop_take, List.append_assoc]
        congr 2
        omega
      rw [e1]
      have e2 : (o.cells.take off ++ news ++ o.cells.drop (off + news.length)).length = o.cells.length := by
        simp only [List.length_append, List.length_take, List.length_drop]; omega
      have e3 : ((arr.toList.drop l.base).take off ++ news' ++ arr.toList.drop (l.base + off + news.length)).take o.cells.length = (arr.toList.drop l.base).take off ++ news' ++ (arr.toList.drop (l.base + off + news.length)).take (o.cells.length - (off + news.length)) := by
        rw [List.take_append]
        have hx : ((arr.toList.drop l.base).take off ++ news').length = off + news.length := by
          simp only [List.length_append, List.length_take, List.length_drop, hn, hal]; omega
        rw [hx, List.take_of_length_le (by rw [hx]; exact hle)]
      rw [e2, e3]
      refine (All2.append (All2.append ?_ hc) ?_)
      · have := hold.take off
        rw [List.take_take] at this
        rwa [Nat.min_eq_left (by omega)] at this
      · have := hold.drop (off + news.length)
        rw [List.drop_take, List.drop_drop] at this
        rwa [← Nat.add_assoc] at this)
  rw [bup_id hl] at R' E
  exact ⟨R', E⟩
theorem aCopy_sound (R : Rel β H w) {t t2 ty : TypeId} {d d' s s' v : Value} {H' : AH} (h : aCopy P H t d s = some (v, H')) (hd : T3 β d d') (hs : T3 β s s') :
    ∃ w' v', (Builtin.copy_ #[t, t2] ty #[d', s']).run P w = .ok v' w' ∧ Rel β H' w' ∧ Ext H.length β w β w' ∧ T3 β v v' := by
  unfold aCopy at h
  split at h
  case h_2 => cases h
  rename_i e i off g n c j off2 g2 m c2 he
  have hu := elemT_some he
  split at h
  case h_2 => cases h
  rename_i o o2 z ha ha2 hsz
  obtain ⟨ho, hg⟩ := alive_some ha
  obtain ⟨ho2, hg2⟩ := alive_some ha2
  obtain ⟨l, a, c', hl, hlg, rfl, hn, _, hadr⟩ := hd.sl R ha
  obtain ⟨l2, a2, c2', hl2, hlg2, rfl, hn2, _, hadr2⟩ := hs.sl R ha2
  have hrs := run_sizeOf (w := w) hsz
  by_cases hk : Nat.min m n = 0
  · rw [if_pos hk] at h
    cases h
    refine ⟨w, .int .i64 0, ?_, R, .refl _ _ _, .one (.one (.one (.plain rfl)))⟩
    have hfc : (Builtin.firstCells z 0 (.slice (some a2) m c2')).run P w = .ok #[] w := run_firstCells_some w z 0 a2 m c2' [] (by simp) (fun j v hv => by simp at hv)
    simp [Builtin.copy_, run_underlying hu, lenOf_slice, hk, hrs, hfc, storeCells, goInt]
  · rw [if_neg hk] at h
    split at h
    case isFalse => cases h
    rename_i hfit
    obtain ⟨hro, h1, h2⟩ := hfit
    cases h
    obtain ⟨cs, k2, hc⟩ := R.reads ho2 hl2 off2 (Nat.min m n * z) h2
    have hkm : Nat.min m n ≤ m := Nat.min_le_left _ _
    have hkn : Nat.min m n ≤ n := Nat.min_le_right _ _
    generalize hk' : Nat.min m n = k at *
    have hlen : ((o2.cells.drop off2).take (k * z)).length = k * z := by simp; omega
    have hcl : cs.length = k * z := by rw [← k2.length]; exact hlen
    obtain ⟨rfl, _⟩ : a = ⟨l.b, l.base + off, none⟩ ∧ l.base + off + c' * l.sz ≤ l.fin := by
      rcases hadr with h0 | h
      · omega
      · exact h
    obtain ⟨rfl, _⟩ : a2 = ⟨l2.b, l2.base + off2, none⟩ ∧ l2.base + off2 + c2' * l2.sz ≤ l2.fin := by
      rcases hadr2 with h0 | h
      · omega
      · exact h
    obtain ⟨g1, g2', g3, g4, g5, g6⟩ := R.obj _ _ _ ho hl
    obtain ⟨arr, harr, hfin⟩ := g6 hro
    have hfc : (Builtin.firstCells z k (.slice (some ⟨l2.b, l2.base + off2, none⟩) m c2')).run P w = .ok cs.toArray w := run_firstCells_some w z k _ m c2' cs (by omega) hc
    have hone : ∀ u ∈ cs, u.oneCell' = true := fun u hu => by
      obtain ⟨x, _, t⟩ := k2.mem hu
      exact t.oneCell
    have hst := run_storeCells_at P l.b (l.base + off) o.elem cs 0 arr w harr (by rw [hcl, hfin]; omega) hone
    rw [Nat.add_zero, hcl] at hst
    obtain ⟨R', E⟩ := put_cells R (off := off) ho hl hro harr hfin k2 (by rw [hlen]; exact h1)
    rw [hlen] at R' E
    refine ⟨_, .int .i64 (k : Nat), ?_, R', E, .one (.one (.one (.plain rfl)))⟩
    simp [Builtin.copy_, run_underlying hu, lenOf_slice, hk', hrs, hfc, hst, goInt]
end
end Go.Proofs.Ytdbflchpbhkanaa.AL
namespace Go.Proofs.Ytdbflchpbhkanaa.AL
open Go Go.RowKit
set_option linter.unusedVariables false
set_option linter.unusedSimpArgs false
def aClear (P : Program) (H : AH) (t : TypeId) (x : Value) : Option (Value × AH) := match elemT P t, x with
  | some e, .slice (some ⟨i, off, some g⟩) n _ => match alive H i g, einfo P e with
    | some o, some q => if n = 0 then some (.tuple #[], H)
      else if o.ro = false ∧ off + n * q.size ≤ o.cells.length then some (.tuple #[], H.set i { o with cells := o.cells.take off ++ zeros q (n * q.size) ++ o.cells.drop (off + n * q.size) })
      else none
    | _, _ => none
  | _, _ => none
section
variable {P : Program} {β : BM} {H : AH} {w : World}
theorem aClear_sound (R : Rel β H w) {t ty : TypeId} {x x' v : Value} {H' : AH} (h : aClear P H t x = some (v, H')) (hx : T3 β x x') :
    ∃ w' v', (Builtin.clear_ #[t] ty #[x']).run P w = .ok v' w' ∧ Rel β H' w' ∧ Ext H.length β w β w' ∧ T3 β v v' := by
  unfold aClear at h
  split at h
  case h_2 => cases h
  rename_i e i off g n c he
  have hu := elemT_some he
  split at h
  case h_2 => cases h
  rename_i o q ha hq
  obtain ⟨inf, hi, hz, hsz, hby, hzs, hpos, hcz, hb⟩ := einfo_some hq
  obtain ⟨ho, hg⟩ := alive_some ha
  obtain ⟨l, a, c', hl, hlg, rfl, hn, _, hadr⟩ := hx.sl R ha
  have tt : T3 β (.tuple #[]) (.tuple #[]) := .tup (vs := []) (vs' := []) .nil
  by_cases hk : n = 0
  · rw [if_pos hk] at h
    cases h
    subst hk
    exact ⟨w, .tuple #[], by simp [Builtin.clear_, run_underlying hu], R, .refl _ _ _, tt⟩
  · rw [if_neg hk] at h
    split at h
    case isFalse => cases h
    rename_i hfit
    obtain ⟨hro, h1⟩ := hfit
    cases h
    obtain ⟨rfl, _⟩ : a = ⟨l.b, l.base + off, none⟩ ∧ l.base + off + c' * l.sz ≤ l.fin := by
      rcases hadr with h0 | h
      · omega
      · exact h
    obtain ⟨g1, g2', g3, g4, g5, g6⟩ := R.obj _ _ _ ho hl
    obtain ⟨arr, harr, hfin⟩ := g6 hro
    have hz0 : 0 < q.zero.cells.size := by omega
    have hlen : (zeros q (n * q.size)).length = n * q.size := by simp [zeros]
    have hrel := zeros_rel (β := β) hcz hz0 (n * q.size)
    have hone : ∀ u ∈ zeros q (n * q.size), u.oneCell' = true := fun u hu => by
      obtain ⟨x, _, t⟩ := hrel.mem hu
      exact t.oneCell
    have hst := run_storeCells_at P l.b (l.base + off) o.elem (zeros q (n * q.size)) 0 arr w harr (by rw [hlen, hfin]; omega) hone
    rw [Nat.add_zero, hlen] at hst
    obtain ⟨R', E⟩ := put_cells R (off := off) ho hl hro harr hfin hrel (by rw [hlen]; exact h1)
    rw [hlen] at R' E
    have hzc : (Builtin.zeroCells q.zero.cells n).toList = zeros q (n * q.size) := by
      simp [Builtin.zeroCells, zeros, hzs]
    refine ⟨_, .tuple #[], ?_, R', E, tt⟩
    have hzv : (zeroValue e).run P w = .ok q.zero w := by simp [zeroValue, typeInfo, hi, hz]
    unfold Builtin.clear_
    cases n with
    | zero => exact absurd rfl hk
    | succ n =>
      simp [run_underlying hu, hzv, hzc, hst]
end
end Go.Proofs.Ytdbflchpbhkanaa.AL
namespace Go.Proofs.Ytdbflchpbhkanaa.AL
open Go Go.RowKit
set_option linter.unusedVariables false
set_option linter.unusedSimpArgs false

def aops (env : Env) : List Operand → Option (List Value)
  | [] => some []
  | x :: r => match aev env x, aops env r with
    | some v, some vs => some (v :: vs)
    | _, _ => none
def aparts (env : Env) : List (Nat × Operand) → Option (List (Nat × Value))
  | [] => some []
  | (i, x) :: r => match aev env x, aparts env r with
    | some v, some vs => some ((i, v) :: vs)
    | _, _ => none
def aopt (env : Env) : Option Operand → Option (Option Value)
  | none => some none
  | some x => (aev env x).map some
def flatV : Value → Bool
  | .pointer (some _) | .slice (some _) _ _ | .map (some _) => true
  | v => plainV v
def arOf (H : AH) : Option Value → AR
  | some v => .val v H
  | none => .bad
def arOf2 : Option (Value × AH) → AR
  | some (v, H) => .val v H
  | none => .bad
def aBuiltin (P : Program) (H : AH) (b : Builtin) (ts : List TypeId) (args : List Value) : AR := match b, ts, args with
  | .len, [t], [x] => arOf H (aLen P H t x)
  | .append, [t, t2], [s, x] => arOf2 ((aAppend P H t t2 s x).orElse fun _ => aApM P H t t2 s x)
  | .cap, [t], [x] => arOf H (aCap P t x)
  | .clear, [t], [x] => arOf2 (aClear P H t x)
  | .min, _, [x, y] => arOf H (aMin x y)
  | .max, _, [x, y] => arOf H (aMax x y)
  | .copy, [t, t2], [d, s] => arOf2 (aCopy P H t d s)
  | _, _, _ => .bad
def aNil (H : AH) : Value → AR
  | .pointer (some ⟨i, off, some g⟩) => if (alive H i g).isSome then .val (.pointer (some ⟨i, off, some g⟩)) H else .bad
  | .func (.func f) a cs => if a.isEmpty then .val (.func (.func f) a cs) H else .bad
  | _ => .bad
def aCallee (H : AH) (f : Value) (args : List Value) : AR := match f with
  | .func (.func g) a cs => if a.isEmpty ∧ args.all (fun v => !isTup v) = true then .call g (args ++ cs.toList) else .bad
  | _ => .bad
def aMapOp (P : Program) (env : Env) (H : AH) : Op → AR
  | .makeMap t none => arOf2 (aMakeMap P H t)
  | .lookup t m x ok => match aev env m, aev env x with
    | some a, some b => arOf H (aLookup P H t a b ok)
    | _, _ => .bad
  | .mapUpdate t m x v => match aev env m, aev env x, aev env v with
    | some a, some b, some c => match aMapPut P H t a b c with
      | some H' => .val undef H'
      | none => .bad
    | _, _, _ => .bad
  | .insert t m x v => match aev env m, aev env x, aev env v with
    | some a, some b, some c => match aMapPut P H t a b c with
      | some H' => .val undef H'
      | none => .bad
    | _, _, _ => .bad
  | .range t x => match aev env x with
    | some a => arOf2 (aRange P H t a)
    | none => .bad
  | .entry x => match aev env x with
    | some a => arOf H (aEntry H a)
    | none => .bad
  | _ => .bad
def mapK : Op → Bool
  | .makeMap .. | .lookup .. | .mapUpdate .. | .insert .. | .range .. | .entry .. => true
  | _ => false
theorem aMapOp_k {P : Program} {env : Env} {H H' : AH} {op : Op} {v : Value} (h : aMapOp P env H op = .val v H') : mapK op = true := by
  unfold aMapOp at h
  split at h
  all_goals first | rfl | cases h
def aop (P : Program) (env : Env) (H : AH) : Op → AR
  | .move x => arOf H (aev env x)
  | .assign x => arOf H (aev env x)
  | .pick c a b => match aev env c, aev env a, aev env b with
    | some (.bool t), some va, some vb => .val (if t then va else vb) H
    | _, _, _ => .bad
  | .alloc t => match aAlloc P H t with
    | some H' => .val (ptrAt H.length 0 0) H'
    | none => .bad
  | .box t x => match aev env x with
    | some v => if isTup v then .bad else .val (ptrAt H.length 0 0) (aNew H v.cells.toList t 1)
    | none => .bad
  | .build t parts => match aparts env parts.toList with
    | some ps => arOf H (aBuild P t ps)
    | none => .bad
  | .buildSlice t len parts => match aparts env parts.toList with
    | some ps => arOf2 (aBuildSlice P H t len ps)
    | none => .bad
  | .load t x => match aev env x with
    | some p => arOf H (aLoad P H t p)
    | none => .bad
  | .store t x y => match aev env x, aev env y with
    | some p, some v => match aStore P H t p v with
      | some H' => .val undef H'
      | none => .bad
    | _, _ => .bad
  | .nilCheck x => match aev env x with
    | some v => aNil H v
    | none => .bad
  | .binOp op t x y _ => match aev env x, aev env y with
    | some a, some b => arOf H (aBin' P H op t a b)
    | _, _ => .bad
  | .unOp op _ x => match aev env x with
    | some a => arOf H (aUn op a)
    | none => .bad
  | .convert s d x => match aev env x with
    | some a => arOf H (aConvert P H s d a)
    | none => .bad
  | .makeFunc fn first caps => match aops env caps.toList with
    | some vs => if first.isEmpty ∧ vs.all flatV = true then .val (.func fn #[] vs.toArray) H else .bad
    | none => .bad
  | .makeSlice t l c => match aev env l, aev env c with
    | some a, some b => arOf2 (aMake P H t a b)
    | _, _ => .bad
  | .slice t x lo hi mx => match aev env x, aopt env lo, aopt env hi, aopt env mx with
    | some v, some l, some h, some m => arOf H (aSlice P H t v l h m)
    | _, _, _, _ => .bad
  | .fieldAddr s x f => match aev env x with
    | some v => arOf H (aFieldAddr P H s v f)
    | none => .bad
  | .field t x f => match aev env x with
    | some v => arOf H (aField P t v f)
    | none => .bad
  | .indexAddr t x ix => match aev env x, aev env ix with
    | some v, some i => arOf H (aIndexAddr P H t v i)
    | _, _ => .bad
  | .index t x ix => match aev env x, aev env ix with
    | some v, some i => arOf H (aIndex P t v i)
    | _, _ => .bad
  | .extract x i => match aev env x with
    | some v => arOf H (aExtract v i)
    | none => .bad
  | .call c => match c.callee with
    | .builtin b => match aops env c.args.toList with
      | some vs => aBuiltin P H b c.argTypes.toList vs
      | none => .bad
    | .value f => match aev env f, aops env c.args.toList with
      | some v, some vs => aCallee H v vs
      | _, _ => .bad
    | .invoke _ _ => .bad
  | op => aMapOp P env H op

section
variable {P : Program} {β : BM} {H H' : AH} {w : World} {env : Env} {a : Act}
def OpT (β : BM) (env : Env) (a : Act) (op : Op) : Prop := ∀ x ∈ op.operands.toList, ∀ v, aev env x = some v → T3 β v (a.eval x)
theorem OpT.at' {op : Op} (h : OpT β env a op) {x : Operand} {v : Value} (hx : aev env x = some v) (hm : x ∈ op.operands.toList) : T3 β v (a.eval x) := h x hm v hx
theorem EnvT.op (h : EnvT β env a.tmps) (op : Op) : OpT β env a op := fun _ _ _ hx => h.at_ hx
theorem aops_sound : ∀ {xs : List Operand} {vs : List Value} (he : ∀ x ∈ xs, ∀ v, aev env x = some v → T3 β v (a.eval x)), aops env xs = some vs → All2 (T3 β) vs (xs.map a.eval)
  | [], vs, _, h => by cases h; exact .nil
  | x :: r, vs, he, h => by
    simp only [aops] at h
    split at h
    · cases h
      exact .cons (he x (.head _) _ (by assumption)) (aops_sound (fun y hy => he y (.tail _ hy)) (by assumption))
    · cases h
theorem aparts_sound : ∀ {xs : List (Nat × Operand)} {vs : List (Nat × Value)} (he : ∀ x ∈ xs, ∀ v, aev env x.2 = some v → T3 β v (a.eval x.2)), aparts env xs = some vs → All2 (fun p q => p.1 = q.1 ∧ T3 β p.2 q.2) vs (xs.map fun x => (x.1, a.eval x.2))
  | [], vs, _, h => by cases h; exact .nil
  | (i, x) :: r, vs, he, h => by
    simp only [aparts] at h
    split at h
    · cases h
      exact .cons ⟨rfl, he (i, x) (.head _) _ (by assumption)⟩ (aparts_sound (fun y hy => he y (.tail _ hy)) (by assumption))
    · cases h
theorem aopt_sound {x : Option Operand} {v : Option Value} (he : ∀ y, x = some y → ∀ v, aev env y = some v → T3 β v (a.eval y)) (h : aopt env x = some v) : optRel β v (x.map a.eval) := by
  cases x with
  | none => cases h; trivial
  | some x =>
    obtain ⟨u, hu, rfl⟩ := Option.map_eq_some_iff.1 h
    exact he x rfl _ hu
theorem T3.flat {v v' : Value} (t : T3 β v v') (h : flatV v = true) : T0 β v v' := by
  rcases t with ((t | t) | t) | t
  · exact t
  · simp [flatV, plainV] at h
    subst h
    cases t
    exact .plain rfl
  · simp [flatV, plainV] at h
  · simp [flatV, plainV] at h
def Went (P : Program) (β : BM) (H : AH) (w : World) (r : Result Next) (v : Value) (H' : AH) : Prop :=
  ∃ v' w' β', (r = .ok (.value v') w' ∨ (r = .ok .skip w' ∧ v' = undef)) ∧ Rel β' H' w' ∧ Ext H.length β w β' w' ∧ T3 β' v v'
theorem Went.plain (R : Rel β H w) {r : Result Next} {v : Value} (h : r = .ok (.value v) w) (hp : plainV v = true) : Went P β H w r v H := ⟨v, w, β, .inl h, R, .refl _ _ _, .plain hp⟩
theorem Went.pure (R : Rel β H w) {r : Result Next} {v v' : Value} (h : r = .ok (.value v') w) (t : T3 β v v') : Went P β H w r v H := ⟨v', w, β, .inl h, R, .refl _ _ _, t⟩
theorem arOf_val {x : Option Value} {v : Value} (h : arOf H x = .val v H') : x = some v ∧ H' = H := by
  unfold arOf at h
  split at h
  · cases h; exact ⟨rfl, rfl⟩
  · cases h
theorem arOf2_val {x : Option (Value × AH)} {v : Value} (h : arOf2 x = .val v H') : x = some (v, H') := by
  unfold arOf2 at h
  split at h
  · cases h; rfl
  · cases h
theorem aBuiltin_sound (R : Rel β H w) {b : Builtin} {ts : List TypeId} {args : List Value} {args' : List Value} {ty : TypeId} {consts : Array Bool} {v : Value} (h : aBuiltin P H b ts args = .val v H') (ha : All2 (T3 β) args args') :
    Went P β H w ((builtin b ts.toArray ty consts args'.toArray).run P w) v H' := by
  unfold aBuiltin at h
  split at h
  · obtain ⟨hq, rfl⟩ := arOf_val h
    cases ha with
    | cons hx hr =>
      cases hr
      have := aLen_sound (ty := ty) R hq hx
      exact .plain R (by simp [builtin, this.1]) this.2
  · have h := arOf2_val h
    cases ha with
    | cons hs hr =>
      cases hr with
      | cons hx hr =>
        cases hr
        cases ha1 : aAppend P H _ _ _ _ with
        | some r =>
          rw [ha1, Option.orElse_some] at h
          cases h
          obtain ⟨β', w', v', h1, h2, h3, h4⟩ := aAppend_sound (ty := ty) R ha1 hs hx
          exact ⟨v', w', β', .inl (by simp [builtin, h1]), h2, h3, h4⟩
        | none =>
          rw [ha1, Option.orElse_none] at h
          obtain ⟨β', w', v', h1, h2, h3, h4⟩ := aApM_sound (ty := ty) R h hs hx
          exact ⟨v', w', β', .inl (by simp [builtin, h1]), h2, h3, h4⟩
  · obtain ⟨hq, rfl⟩ := arOf_val h
    cases ha with
    | cons hx hr =>
      cases hr
      have := aCap_sound (ty := ty) R hq hx
      exact .plain R (by simp [builtin, this.1]) this.2
  · have h := arOf2_val h
    cases ha with
    | cons hx hr =>
      cases hr
      obtain ⟨w', v', h1, h2, h3, h4⟩ := aClear_sound (ty := ty) R h hx
      exact ⟨v', w', β, .inl (by simp [builtin, h1]), h2, h3, h4⟩
  · obtain ⟨hq, rfl⟩ := arOf_val h
    cases ha with
    | cons hs hr =>
      cases hr with
      | cons hx hr =>
        cases hr
        refine .plain R ?_ (aMin_sound (P := P) (w := w) (ts := #[]) (ty := ty) hq hs hx).2
        simp [builtin, (aMin_sound (P := P) (w := w) (ty := ty) hq hs hx).1]
  · obtain ⟨hq, rfl⟩ := arOf_val h
    cases ha with
    | cons hs hr =>
      cases hr with
      | cons hx hr =>
        cases hr
        refine .plain R ?_ (aMax_sound (P := P) (w := w) (ts := #[]) (ty := ty) hq hs hx).2
        simp [builtin, (aMax_sound (P := P) (w := w) (ty := ty) hq hs hx).1]
  · rename_i t1 t2 d1 s1
    have h := arOf2_val h
    cases ha with
    | cons hs hr =>
      cases hr with
      | cons hx hr =>
        cases hr
        obtain ⟨w', v', h1, h2, h3, h4⟩ := aCopy_sound (t2 := t2) (ty := ty) R h hs hx
        exact ⟨v', w', β, .inl (by simp [builtin, h1]), h2, h3, h4⟩
  · cases h
theorem undef_T3 : T3 β undef undef := .tup (vs := []) (vs' := []) .nil
theorem aMapOp_sound (R : Rel β H w) {o : Oper} (he : OpT β env a o.op) {v : Value} (h : aMapOp P env H o.op = .val v H') : Went P β H w ((execOp a.eval o).run P w) v H' := by
  unfold aMapOp at h
  split at h
  · rename_i t ho
    obtain ⟨v', w', β', h1, h2, h3, h4⟩ := aMakeMap_sound (P := P) R (arOf2_val h)
    exact ⟨v', w', β', .inl (by simp [execOp, ho, h1]), h2, h3, h4⟩
  · rename_i t m x ok ho
    split at h
    · rename_i va vb hx hy
      obtain ⟨hq, rfl⟩ := arOf_val h
      obtain ⟨v', h1, h2⟩ := aLookup_sound (P := P) R hq (he.at' hx (by rw [ho]; simp [Op.operands])) (he.at' hy (by rw [ho]; simp [Op.operands]))
      exact .pure R (v' := v') (by simp [execOp, ho, h1]) h2
    · cases h
  · rename_i t m x y ho
    split at h
    · rename_i va vb vc hx hy hz
      split at h
      · rename_i H2 hS
        cases h
        obtain ⟨w', h1, h2, h3⟩ := aMapPut_sound (P := P) R hS (he.at' hx (by rw [ho]; simp [Op.operands])) (he.at' hy (by rw [ho]; simp [Op.operands])) (he.at' hz (by rw [ho]; simp [Op.operands]))
        exact ⟨undef, w', β, .inr ⟨by simp [execOp, ho, h1], rfl⟩, h2, h3, undef_T3⟩
      · cases h
    · cases h
  · rename_i t m x y ho
    split at h
    · rename_i va vb vc hx hy hz
      split at h
      · rename_i H2 hS
        cases h
        obtain ⟨w', h1, h2, h3⟩ := aMapPut_sound (P := P) R hS (he.at' hx (by rw [ho]; simp [Op.operands])) (he.at' hy (by rw [ho]; simp [Op.operands])) (he.at' hz (by rw [ho]; simp [Op.operands]))
        exact ⟨undef, w', β, .inr ⟨by simp [execOp, ho, h1], rfl⟩, h2, h3, undef_T3⟩
      · cases h
    · cases h
  · rename_i t x ho
    split at h
    · rename_i va hx
      obtain ⟨v', w', β', h1, h2, h3, h4⟩ := aRange_sound (P := P) R (arOf2_val h) (he.at' hx (by rw [ho]; simp [Op.operands]))
      exact ⟨v', w', β', .inl (by simp [execOp, ho, h1]), h2, h3, h4⟩
    · cases h
  · rename_i x ho
    split at h
    · rename_i va hx
      obtain ⟨hq, rfl⟩ := arOf_val h
      obtain ⟨v', h1, h2⟩ := aEntry_sound (P := P) R hq (he.at' hx (by rw [ho]; simp [Op.operands]))
      exact .pure R (v' := v') (by simp [execOp, ho, h1]) h2
    · cases h
  · cases h
theorem aMapOp_call {op : Op} {f : FuncId} {args : List Value} (h : aMapOp P env H op = .call f args) : False := by
  unfold aMapOp at h
  split at h
  all_goals ((try simp only [arOf, arOf2] at h); (repeat' (split at h)) <;> cases h)
theorem aop_val (R : Rel β H w) {o : Oper} (he : OpT β env a o.op) {v : Value} (h : aop P env H o.op = .val v H') : Went P β H w ((execOp a.eval o).run P w) v H' := by
  unfold aop at h
  split at h
  · rename_i x ho
    obtain ⟨hq, rfl⟩ := arOf_val h
    exact .pure R (by simp [execOp, ho]) (he.at' hq (by rw [ho]; simp [Op.operands]))
  · rename_i x ho
    obtain ⟨hq, rfl⟩ := arOf_val h
    exact .pure R (by simp [execOp, ho]) (he.at' hq (by rw [ho]; simp [Op.operands]))
  · rename_i c x y ho
    split at h
    · rename_i t va vb hc hx hy
      cases h
      have := (he.at' hc (by rw [ho]; simp [Op.operands])).bool
      refine .pure R (v' := if t then a.eval x else a.eval y) (by simp [execOp, ho, this, asBool]) ?_
      cases t
      · exact he.at' hy (by rw [ho]; simp [Op.operands])
      · exact he.at' hx (by rw [ho]; simp [Op.operands])
    · cases h
  · rename_i t ho
    split at h
    · rename_i H2 hA
      cases h
      obtain ⟨β', w', h1, h2, h3, h4⟩ := aAlloc_sound R hA
      exact ⟨_, w', β', .inl (by simp [execOp, ho, h1]), h2, h3, h4⟩
    · cases h
  · rename_i t x ho
    split at h
    · rename_i u hx
      split at h
      · cases h
      · rename_i htu
        cases h
        obtain ⟨β', w', h1, h2, h3, h4⟩ := box_sound (P := P) (t := t) R ((he.at' hx (by rw [ho]; simp [Op.operands])).two (by simpa using htu))
        exact ⟨_, w', β', .inl (by simp [execOp, ho, h1]), h2, h3, h4⟩
    · cases h
  · rename_i t parts ho
    split at h
    · rename_i ps hps
      obtain ⟨hq, rfl⟩ := arOf_val h
      obtain ⟨v', h1, h2⟩ := aBuild_sound (P := P) (w := w) hq (aparts_sound (fun x hx v hv => he.at' hv (by rw [ho]; simp only [Op.operands, List.toList_toArray]; exact List.mem_map.2 ⟨x, hx, rfl⟩)) hps)
      refine .pure R (v' := v') ?_ (.one h2)
      have : parts.map (fun x => (x.1, a.eval x.2)) = (parts.toList.map fun x => (x.1, a.eval x.2)).toArray := by apply Array.ext'; simp
      simp [execOp, ho, this, h1]
    · cases h
  · rename_i t len parts ho
    split at h
    · rename_i ps hps
      have h := arOf2_val h
      obtain ⟨β', w', v', h1, h2, h3, h4⟩ := aBuildSlice_sound (P := P) R h (aparts_sound (fun x hx v hv => he.at' hv (by rw [ho]; simp only [Op.operands, List.toList_toArray]; exact List.mem_map.2 ⟨x, hx, rfl⟩)) hps)
      refine ⟨v', w', β', .inl ?_, h2, h3, h4⟩
      have : parts.map (fun x => (x.1, a.eval x.2)) = (parts.toList.map fun x => (x.1, a.eval x.2)).toArray := by apply Array.ext'; simp
      simp [execOp, ho, this, h1]
    · cases h
  · rename_i t x ho
    split at h
    · rename_i p hp
      obtain ⟨hq, rfl⟩ := arOf_val h
      obtain ⟨v', h1, h2⟩ := aLoad_sound (P := P) R hq (he.at' hp (by rw [ho]; simp [Op.operands]))
      exact .pure R (v' := v') (by simp [execOp, ho, h1]) (.one h2)
    · cases h
  · rename_i t x y ho
    split at h
    · rename_i p u hp hu
      split at h
      · rename_i H2 hS
        cases h
        obtain ⟨w', β', h1, h2, h3⟩ := aStore_sound (P := P) R hS (he.at' hp (by rw [ho]; simp [Op.operands])) (he.at' hu (by rw [ho]; simp [Op.operands]))
        exact ⟨undef, w', β', .inr ⟨by simp [execOp, ho, h1], rfl⟩, h2, h3, undef_T3⟩
      · cases h
    · cases h
  · rename_i x ho
    split at h
    · rename_i u hu
      have t := he.at' hu (by rw [ho]; simp [Op.operands])
      unfold aNil at h
      split at h
      · rename_i i off g
        split at h
        · rename_i hal
          cases h
          obtain ⟨o2, ho2⟩ := Option.isSome_iff_exists.1 hal
          obtain ⟨l, hl, hlg, hv⟩ := t.ptr R ho2
          exact .pure R (v' := a.eval x) (by rw [hv]; simp [execOp, ho, hv]) t
        · cases h
      · rename_i f fa cs
        split at h
        · rename_i hem
          cases h
          have : fa = #[] := by simpa using hem
          subst this
          obtain ⟨cs', hv, _⟩ := t.func
          exact .pure R (v' := a.eval x) (by rw [hv]; simp [execOp, ho, hv]) t
        · cases h
      · cases h
    · cases h
  · rename_i op t x y yt ho
    split at h
    · rename_i va vb hx hy
      obtain ⟨hq, rfl⟩ := arOf_val h
      obtain ⟨h1, h2⟩ := aBin_sound (P := P) (ox := x) (oy := y) R hq (he.at' hx (by rw [ho]; simp [Op.operands])) (he.at' hy (by rw [ho]; simp [Op.operands]))
      refine .plain R ?_ h2
      unfold execOp
      rw [ho]
      simp only [Sem.run_bind] at h1 ⊢
      cases hg : (eqGuard op t x y (a.eval x) (a.eval y)).run P w with
      | ok u w1 =>
        rw [hg] at h1
        simp only [Result.andThen_ok] at h1 ⊢
        rw [h1]
        rfl
      | halt e w1 => rw [hg] at h1; cases h1
    · cases h
  · rename_i op t x ho
    split at h
    · rename_i va hx
      obtain ⟨hq, rfl⟩ := arOf_val h
      obtain ⟨h1, h2⟩ := aUn_sound (P := P) (w := w) hq (he.at' hx (by rw [ho]; simp [Op.operands]))
      exact .plain R (by simp [execOp, ho, h1]) h2
    · cases h
  · rename_i s d x ho
    split at h
    · rename_i va hx
      obtain ⟨hq, rfl⟩ := arOf_val h
      obtain ⟨h1, h2⟩ := aConvert_sound (P := P) R hq (he.at' hx (by rw [ho]; simp [Op.operands]))
      exact .plain R (by simp [execOp, ho, h1]) h2
    · cases h
  · rename_i fn first caps ho
    split at h
    · rename_i vs hvs
      split at h
      · rename_i hc
        cases h
        have hf : first = #[] := by simpa using hc.1
        subst hf
        have hs := aops_sound (fun x hx v hv => he.at' hv (by rw [ho]; simp only [Op.operands, Array.toList_append]; exact List.mem_append.2 (.inr hx))) hvs
        have h0 : All2 (T0 β) vs (caps.toList.map a.eval) := by
          refine All2.of_get hs.length fun i x y hx hy => ?_
          obtain ⟨y', hy', t⟩ := hs.get i x hx
          rw [hy] at hy'
          cases hy'
          exact t.flat (List.all_eq_true.1 hc.2 x (List.mem_of_getElem? hx))
        have e : caps.map a.eval = (caps.toList.map a.eval).toArray := by apply Array.ext'; simp
        exact .pure R (v' := .func fn #[] (caps.toList.map a.eval).toArray) (by simp [execOp, ho, Instr.makeFunc, e]) (.one (.one (.fn h0)))
      · cases h
    · cases h
  · rename_i t l c ho
    split at h
    · rename_i va vb hx hy
      have h := arOf2_val h
      obtain ⟨β', w', v', h1, h2, h3, h4⟩ := aMake_sound (P := P) R h (he.at' hx (by rw [ho]; simp [Op.operands])) (he.at' hy (by rw [ho]; simp [Op.operands]))
      exact ⟨v', w', β', .inl (by simp [execOp, ho, h1]), h2, h3, h4⟩
    · cases h
  · rename_i t x lo hi mx ho
    split at h
    · rename_i va l h' m hx hl hh hm
      obtain ⟨hq, rfl⟩ := arOf_val h
      obtain ⟨v', h1, h2⟩ := aSlice_sound (P := P) R hq (he.at' hx (by rw [ho]; simp [Op.operands])) (aopt_sound (fun y hy v hv => he.at' hv (by rw [ho]; simp [Op.operands, hy])) hl) (aopt_sound (fun y hy v hv => he.at' hv (by rw [ho]; simp [Op.operands, hy])) hh) (aopt_sound (fun y hy v hv => he.at' hv (by rw [ho]; simp [Op.operands, hy])) hm)
      exact .pure R (v' := v') (by simp [execOp, ho, h1]) h2
    · cases h
  · rename_i s x f ho
    split at h
    · rename_i va hx
      obtain ⟨hq, rfl⟩ := arOf_val h
      obtain ⟨v', h1, h2⟩ := aFieldAddr_sound (P := P) R hq (he.at' hx (by rw [ho]; simp [Op.operands]))
      exact .pure R (v' := v') (by simp [execOp, ho, h1]) h2
    · cases h
  · rename_i t x f ho
    split at h
    · rename_i va hx
      obtain ⟨hq, rfl⟩ := arOf_val h
      obtain ⟨v', h1, h2⟩ := aField_sound (P := P) (w := w) hq (he.at' hx (by rw [ho]; simp [Op.operands]))
      exact .pure R (v' := v') (by simp [execOp, ho, h1]) h2
    · cases h
  · rename_i t x ix ho
    split at h
    · rename_i va vi hx hi
      obtain ⟨hq, rfl⟩ := arOf_val h
      obtain ⟨v', h1, h2⟩ := aIndexAddr_sound (P := P) R hq (he.at' hx (by rw [ho]; simp [Op.operands])) (he.at' hi (by rw [ho]; simp [Op.operands]))
      exact .pure R (v' := v') (by simp [execOp, ho, h1]) h2
    · cases h
  · rename_i t x ix ho
    split at h
    · rename_i va vi hx hi
      obtain ⟨hq, rfl⟩ := arOf_val h
      obtain ⟨v', h1, h2⟩ := aIndex_sound (P := P) (w := w) hq (he.at' hx (by rw [ho]; simp [Op.operands])) (he.at' hi (by rw [ho]; simp [Op.operands]))
      exact .pure R (v' := v') (by simp [execOp, ho, h1]) h2
    · cases h
  · rename_i x i ho
    split at h
    · rename_i va hx
      obtain ⟨hq, rfl⟩ := arOf_val h
      obtain ⟨v', h1, h2⟩ := aExtract_sound (P := P) (w := w) hq (he.at' hx (by rw [ho]; simp [Op.operands]))
      exact .pure R (v' := v') (by simp [execOp, ho, h1]) h2
    · cases h
  · rename_i c ho
    split at h
    · rename_i b hb
      split at h
      · rename_i vs hvs
        have hs := aops_sound (fun x hx v hv => he.at' hv (by rw [ho]; simp only [Op.operands, Call.operands, Array.toList_append]; exact List.mem_append.2 (.inr hx))) hvs
        have e : c.args.map a.eval = (c.args.toList.map a.eval).toArray := by apply Array.ext'; simp
        have hw := aBuiltin_sound (P := P) (ty := o.type) (consts := c.args.map fun | .const _ => true | _ => false) R h hs
        have ht : c.argTypes.toList.toArray = c.argTypes := by simp
        rw [ht] at hw
        unfold execOp
        rw [ho]
        simp only [resolve, hb, Sem.run_bind, Sem.run_pure, Result.andThen_ok, invoke, e]
        exact hw
      · cases h
    · split at h
      · unfold aCallee at h
        split at h
        · split at h <;> cases h
        · cases h
      · cases h
    · cases h
  · exact aMapOp_sound R he h
def Enters (P : Program) (f : FuncId) : Prop := ∃ fn, P.funcs[f]? = some fn ∧ (fn.name == "runtime.NumGoroutine") = false ∧ fn.body.isNone = false
theorem run_enter {f : FuncId} (h : Enters P f) (args : Array Value) : (callFunc f args).run P w = .ok (.enter f args) w := by
  obtain ⟨fn, h1, h2, h3⟩ := h
  simp [callFunc, program, Sem.run_bind, Sem.run, h1]
  have h2' : ¬ fn.name = "runtime.NumGoroutine" := by simpa using h2
  have h3' : ¬ fn.body = none := fun e => by rw [e] at h3; cases h3
  simp [h2', h3']
theorem aop_call (R : Rel β H w) {o : Oper} (he : OpT β env a o.op) {f : FuncId} {args : List Value} (h : aop P env H o.op = .call f args) (hf : Enters P f) :
    ∃ args', (execOp a.eval o).run P w = .ok (.enter f args') w ∧ All2 (T2 β) args args'.toList := by
  unfold aop at h
  split at h
  case h_22 =>
    rename_i c ho
    split at h
    · rename_i b hb
      split at h
      · simp only [aBuiltin, arOf, arOf2] at h
        repeat' (split at h)
        all_goals cases h
      · cases h
    · rename_i fo hfo
      split at h
      · rename_i v vs hv hvs
        unfold aCallee at h
        split at h
        · rename_i g fa cs
          split at h
          · rename_i hc
            cases h
            have hfa : fa = #[] := by simpa using hc.1
            subst hfa
            obtain ⟨cs', hev, hcs⟩ := (he.at' hv (by rw [ho]; simp [Op.operands, Call.operands, hfo])).func
            have hs := aops_sound (fun x hx v hv => he.at' hv (by rw [ho]; simp only [Op.operands, Call.operands, Array.toList_append]; exact List.mem_append.2 (.inr hx))) hvs
            have e : c.args.map a.eval = (c.args.toList.map a.eval).toArray := by apply Array.ext'; simp
            refine ⟨(c.args.toList.map a.eval).toArray ++ cs', ?_, ?_⟩
            · unfold execOp
              rw [ho]
              simp only [resolve, hfo, Sem.run_bind, Sem.run_pure, Result.andThen_ok, hev, Deferred.ofValue, invoke, e, Array.empty_append]
              exact run_enter hf _
            · rw [Array.toList_append]
              refine All2.append ?_ (hcs.imp fun _ _ t => .one (.one t))
              refine All2.of_get hs.length fun i x y hx hy => ?_
              obtain ⟨y', hy', t⟩ := hs.get i x hx
              rw [hy] at hy'
              cases hy'
              exact t.two (by simpa using List.all_eq_true.1 hc.2 x (List.mem_of_getElem? hx))
          · cases h
        · cases h
      · cases h
    · cases h
  all_goals first
    | exact (aMapOp_call h).elim
    | ((try simp only [arOf, arOf2, aNil] at h); (repeat' (split at h)) <;> cases h)
end

end Go.Proofs.Ytdbflchpbhkanaa.AL
namespace Go.Proofs.Ytdbflchpbhkanaa.AL
open Go Go.RowKit
set_option linter.unusedVariables false
set_option linter.unusedSimpArgs false

section
theorem R00_mono {n m : Nat} (h : n ≤ m) {v : Value} (r : R00 n v = true) : R00 m v = true := by
  cases v with
  | pointer a =>
    cases a with
    | none => rfl
    | some a => simp [R00] at r ⊢; omega
  | slice a _ _ =>
    cases a with
    | none => rfl
    | some a => simp [R00] at r ⊢; omega
  | map a =>
    cases a with
    | none => rfl
    | some a => simp [R00] at r ⊢; omega
  | func f x cs => exact r
  | _ => first | rfl | simp [R00] at r
theorem R00_to {n : Nat} {v : Value} (r : R00 n v = true) : R0 n v = true := by
  cases v with
  | func f x cs =>
    simp [R00] at r
    simp [R0, r]
  | pointer a => cases a <;> exact r
  | slice a _ _ => cases a <;> exact r
  | map a => cases a <;> exact r
  | _ => exact r
theorem R0_mono {n m : Nat} (h : n ≤ m) {v : Value} (r : R0 n v = true) : R0 m v = true := by
  cases v with
  | pointer a =>
    cases a with
    | none => rfl
    | some a => simp [R0] at r ⊢; omega
  | slice a _ _ =>
    cases a with
    | none => rfl
    | some a => simp [R0] at r ⊢; omega
  | map a =>
    cases a with
    | none => rfl
    | some a => simp [R0] at r ⊢; omega
  | func f x cs =>
    simp only [R0, Array.all_eq_true] at r ⊢
    exact fun i hi => R00_mono h (r i hi)
  | _ => first | rfl | simp [R0] at r
theorem R2_mono {n m : Nat} (h : n ≤ m) {v : Value} (r : R2 n v = true) : R2 m v = true := by
  unfold R2 at *
  split
  · simp only [Array.all_eq_true] at r ⊢
    exact fun i hi => R0_mono h (r i hi)
  · split at r
    · simp_all
    · exact R0_mono h r
theorem R3_mono {n m : Nat} (h : n ≤ m) {v : Value} (r : R3 n v = true) : R3 m v = true := by
  unfold R3 at *
  split
  · simp only [Array.all_eq_true] at r ⊢
    exact fun i hi => R2_mono h (r i hi)
  · split at r
    · simp_all
    · exact R2_mono h r
theorem R0_plain {n : Nat} {v : Value} (h : plainV v = true) : R0 n v = true := by
  cases v with
  | pointer a => cases a <;> simp_all [plainV, R0]
  | slice a _ _ => cases a <;> simp_all [plainV, R0]
  | map a => cases a <;> simp_all [plainV, R0]
  | func f a cs =>
    simp [plainV] at h
    simp [R0, h.2]
  | _ => first | rfl | simp [plainV] at h
def R0' (n : Nat) : Value → Prop
  | .pointer (some a) => a.block < n
  | .slice (some a) _ _ => a.block < n
  | .map (some i) => i < n
  | _ => True
theorem R0'_of {n : Nat} {v : Value} (h : R0 n v = true) : R0' n v := by
  cases v with
  | pointer a => cases a <;> simp_all [R0, R0']
  | slice a _ _ => cases a <;> simp_all [R0, R0']
  | map a => cases a <;> simp_all [R0, R0']
  | _ => trivial
theorem R0'_plain {n : Nat} {v : Value} (h : plainV v = true) : R0' n v := R0'_of (R0_plain h)
theorem R2_of0 {n : Nat} {v : Value} (h : R0 n v = true) : R2 n v = true := by
  unfold R2
  split
  · simp [R0] at h
  · exact h
theorem R3_of2 {n : Nat} {v : Value} (h : R2 n v = true) : R3 n v = true := by
  unfold R3
  split
  · simp [R2, R0] at h
  · exact h
theorem R3_plain {n : Nat} {v : Value} (h : plainV v = true) : R3 n v = true := R3_of2 (R2_of0 (R0_plain h))
theorem R2_const {n : Nat} {v : Value} (h : constV v = true) : R2 n v = true := by
  unfold constV at h
  split at h
  · simp only [R2, Array.all_eq_true]
    intro i hi
    exact R0_plain (List.all_eq_true.1 h _ (by simp))
  · exact R2_of0 (R0_plain h)
theorem R2_cells {n : Nat} {v : Value} (h : R2 n v = true) : ∀ c ∈ v.cells.toList, R0 n c = true := by
  intro c hc
  unfold R2 at h
  split at h
  · simp only [Value.cells] at hc
    rw [Array.all_eq_true_iff_forall_mem] at h
    exact h c (by simpa using hc)
  · have : v.cells = #[v] := by
      cases v <;> first | rfl | simp_all [R0]
    rw [this] at hc
    simp at hc
    subst hc
    exact h
theorem R3_two {n : Nat} {v : Value} (h : R3 n v = true) (ht : isTup v = false) : R2 n v = true := by
  unfold R3 at h
  split at h
  · simp [isTup] at ht
  · exact h
def ER (n : Nat) (env : Env) : Prop := ∀ t v, env t = some v → R3 n v = true
theorem ER.mono {n m : Nat} {env : Env} (h : ER n env) (hn : n ≤ m) : ER m env := fun t v hv => R3_mono hn (h t v hv)
theorem aev_R {n : Nat} {env : Env} (h : ER n env) {x : Operand} {v : Value} (hx : aev env x = some v) : R3 n v = true := by
  cases x with
  | tmp t => exact h t v hx
  | const c =>
    simp only [aev] at hx
    split at hx
    · cases hx; exact R3_of2 (R2_const (by assumption))
    · cases hx
  | func f => cases hx; exact R3_plain rfl
  | global g => cases hx
theorem aops_R {n : Nat} {env : Env} (h : ER n env) : ∀ {xs : List Operand} {vs : List Value}, aops env xs = some vs → ∀ v ∈ vs, R3 n v = true
  | [], vs, e => by cases e; simp
  | x :: r, vs, e => by
    simp only [aops] at e
    split at e
    · cases e
      rename_i u us hx hr
      intro v hv
      cases hv with
      | head => exact aev_R h hx
      | tail _ hv => exact aops_R h hr v hv
    · cases e
theorem aparts_R {n : Nat} {env : Env} (h : ER n env) : ∀ {xs : List (Nat × Operand)} {vs : List (Nat × Value)}, aparts env xs = some vs → ∀ v ∈ vs, R3 n v.2 = true
  | [], vs, e => by cases e; simp
  | (i, x) :: r, vs, e => by
    simp only [aparts] at e
    split at e
    · cases e
      rename_i u us hx hr
      intro v hv
      cases hv with
      | head => exact aev_R h hx
      | tail _ hv => exact aparts_R h hr v hv
    · cases e
theorem WF.cell {H : AH} (hw : WF H) {i : Nat} {o : AO} (ho : H[i]? = some o) {c : Value} (hc : c ∈ o.cells) : R0 H.length c = true := hw o (List.mem_of_getElem? ho) c hc
theorem WF.push {H : AH} (hw : WF H) {cells : List Value} {e : TypeId} {sz : Nat} (h : ∀ c ∈ cells, R0 H.length c = true) : WF (aNew H cells e sz) ∧ H.length ≤ (aNew H cells e sz).length := by
  refine ⟨fun o ho c hc => ?_, by simp [aNew]⟩
  have hl : H.length ≤ (aNew H cells e sz).length := by simp [aNew]
  rcases List.mem_append.1 ho with ho | ho
  · exact R0_mono hl (hw o ho c hc)
  · simp at ho
    subst ho
    exact R0_mono hl (h c hc)
theorem WF.set {H : AH} (hw : WF H) {i : Nat} {o : AO} (h : ∀ c ∈ o.cells, R0 H.length c = true) : WF (H.set i o) ∧ H.length ≤ (H.set i o).length := by
  refine ⟨fun p hp c hc => ?_, by simp⟩
  rw [List.length_set]
  rcases List.mem_or_eq_of_mem_set hp with hp | rfl
  · exact hw p hp c hc
  · exact h c hc
theorem fillL_R {n : Nat} {place : Nat → Option (Nat × Nat)} : ∀ {parts : List (Nat × Value)} {cells r : List Value}, fillL place cells parts = some r → (∀ p ∈ parts, R2 n p.2 = true) → (∀ c ∈ cells, R0 n c = true) → ∀ c ∈ r, R0 n c = true
  | [], _, _, h, _, hc => by cases h; exact hc
  | (i, v) :: rest, cells, r, h, hp, hc => by
    simp only [fillL] at h
    split at h
    · cases h
    · split at h
      · refine fillL_R h (fun p hp' => hp p (.tail _ hp')) fun c hm => ?_
        rcases List.mem_append.1 hm with hm | hm
        · rcases List.mem_append.1 hm with hm | hm
          · exact hc c (List.mem_of_mem_take hm)
          · exact R2_cells (hp _ (.head _)) c hm
        · exact hc c (List.mem_of_mem_drop hm)
      · cases h
theorem parts_R2 {n : Nat} {ps : List (Nat × Value)} (h : ∀ v ∈ ps, R3 n v.2 = true) (hn : noTup ps = true) : ∀ v ∈ ps, R2 n v.2 = true := fun v hv => R3_two (h v hv) (by simpa using List.all_eq_true.1 hn v hv)
theorem constR {n : Nat} {z : Value} (h : constV z = true) : ∀ c ∈ z.cells.toList, R0 n c = true := R2_cells (R2_const h)
theorem agg_R {n : Nat} {l : List Value} (h : ∀ c ∈ l, R0 n c = true) : R3 n (.agg l.toArray) = true := by
  refine R3_of2 ?_
  simp only [R2, List.all_toArray]
  exact List.all_eq_true.2 h
def Good (H : AH) (v : Value) (H' : AH) : Prop := WF H' ∧ R3 H'.length v = true ∧ H.length ≤ H'.length
theorem Good.plain {H : AH} (hw : WF H) {v : Value} (h : plainV v = true) : Good H v H := ⟨hw, R3_plain h, Nat.le_refl _⟩
theorem Good.same {H : AH} (hw : WF H) {v : Value} (h : R3 H.length v = true) : Good H v H := ⟨hw, h, Nat.le_refl _⟩
theorem R3_ptr {n i off g : Nat} (h : i < n) : R3 n (.pointer (some ⟨i, off, some g⟩)) = true := R3_of2 (R2_of0 (by simp [R0, h]))
theorem R3_sl {n i off g k c : Nat} (h : i < n) : R3 n (.slice (some ⟨i, off, some g⟩) k c) = true := R3_of2 (R2_of0 (by simp [R0, h]))
theorem alive_lt {H : AH} {i g : Nat} {o : AO} (h : alive H i g = some o) : i < H.length := (List.getElem?_eq_some_iff.1 (alive_some h).1).1
variable {P : Program} {H H' : AH} {env : Env}
theorem aPart_R {n : Nat} {t : TypeId} {cs : List Value} {off : Nat} {v : Value} (h : aPart P t cs off = some v) (hc : ∀ c ∈ cs, R0 n c = true) : R3 n v = true := by
  unfold aPart at h
  split at h
  · split at h
    · cases h
      exact agg_R fun c hm => hc c (List.mem_of_mem_drop (List.mem_of_mem_take hm))
    · cases h
  · exact R3_of2 (R2_of0 (hc v (List.mem_of_getElem? h)))
  · cases h
theorem agg_cells_R {n : Nat} {cs : Array Value} (h : R3 n (.agg cs) = true) : ∀ c ∈ cs.toList, R0 n c = true := R2_cells (R3_two h rfl)
theorem srcOf_R (hw : WF H) {size : Nat} {x : Value} {news : List Value} {m : Nat} (h : srcOf H size x = some (news, m)) : ∀ c ∈ news, R0 H.length c = true := by
  unfold srcOf at h
  split at h
  · cases h; simp
  · split at h
    · split at h
      · cases h
        rename_i ha _
        intro c hm
        exact hw.cell (alive_some ha).1 (List.mem_of_mem_drop (List.mem_of_mem_take hm))
      · cases h
    · cases h
  · split at h
    · cases h
      intro c hm
      obtain ⟨b, _, rfl⟩ := List.mem_map.1 hm
      rfl
    · cases h
  · cases h
theorem aCopy_good {P : Program} (hw : WF H) {t : TypeId} {d s v : Value} (h : aCopy P H t d s = some (v, H')) : Good H v H' := by
  unfold aCopy at h
  split at h
  case h_2 => cases h
  split at h
  case h_2 => cases h
  rename_i o o2 z ha ha2 hsz
  split at h
  · cases h
    exact .plain hw rfl
  · split at h
    · cases h
      obtain ⟨ho, _⟩ := alive_some ha
      obtain ⟨ho2, _⟩ := alive_some ha2
      obtain ⟨h1, h2⟩ := hw.set (i := _) (o := { o with cells := o.cells.take _ ++ (o2.cells.drop _).take _ ++ o.cells.drop _ }) fun c hc => by
        simp only [List.mem_append] at hc
        rcases hc with (hc | hc) | hc
        · exact hw.cell ho (List.mem_of_mem_take hc)
        · exact hw.cell ho2 (List.mem_of_mem_drop (List.mem_of_mem_take hc))
        · exact hw.cell ho (List.mem_of_mem_drop hc)
      exact ⟨h1, rfl, h2⟩
    · cases h
theorem aClear_good (hw : WF H) {t : TypeId} {x v : Value} (h : aClear P H t x = some (v, H')) : Good H v H' := by
  unfold aClear at h
  split at h
  case h_2 => cases h
  split at h
  case h_2 => cases h
  rename_i o q ha hei
  split at h
  · cases h
    exact ⟨hw, by simp [R3], Nat.le_refl _⟩
  · split at h
    · cases h
      obtain ⟨ho, _⟩ := alive_some ha
      obtain ⟨i, _, _, _, _, hzs, hpos, hcz, _⟩ := einfo_some hei
      refine ⟨fun y hy c hc => ?_, by simp [R3], by simp⟩
      rw [List.length_set]
      rcases List.mem_or_eq_of_mem_set hy with hy | rfl
      · exact hw y hy c hc
      · have hw' := hw o (List.mem_of_getElem? ho)
        simp only [List.mem_append] at hc
        rcases hc with (hc | hc) | hc
        · exact hw' c (List.mem_of_mem_take hc)
        · simp only [zeros, List.mem_map] at hc
          obtain ⟨j, _, rfl⟩ := hc
          have hlt : j % q.zero.cells.size < q.zero.cells.size := Nat.mod_lt _ (by omega)
          rw [getElem!_pos q.zero.cells _ hlt]
          exact constR hcz _ (by simp)
        · exact hw' c (List.mem_of_mem_drop hc)
    · cases h
theorem aApM_good (hw : WF H) {t t2 : TypeId} {s x v : Value} (h : aApM P H t t2 s x = some (v, H')) : Good H v H' := by
  unfold aApM at h
  split at h
  · split at h
    · split at h
      · rename_i q hei
        split at h
        · rename_i hc
          cases h
          obtain ⟨i, _, _, _, _, hzs, hpos, hcz, _⟩ := einfo_some hei
          obtain ⟨h1, h2⟩ := hw.push (cells := List.replicate _ (q.zero.cells.getD 0 default)) (fun c hm => by
            rw [(List.mem_replicate.1 hm).2]
            have hlt : 0 < q.zero.cells.size := by omega
            rw [Array.getD_eq_getD_getElem?, Array.getElem?_eq_getElem hlt]
            exact constR hcz _ (by simp))
          exact ⟨h1, R3_sl (by simp [aNew]), h2⟩
        · cases h
      · cases h
    · cases h
  · cases h
theorem aAppend_good (hw : WF H) {t t2 : TypeId} {s x v : Value} (hs : R3 H.length s = true) (h : aAppend P H t t2 s x = some (v, H')) : Good H v H' := by
  unfold aAppend at h
  split at h
  case h_2 => cases h
  split at h
  case h_2 => cases h
  split at h
  case isFalse => cases h
  split at h
  case h_2 => cases h
  rename_i hsrc
  have hn := srcOf_R hw hsrc
  split at h
  · split at h
    · cases h; exact .plain hw rfl
    · split at h
      · cases h
        obtain ⟨h1, h2⟩ := hw.push (cells := _) hn
        exact ⟨h1, R3_sl (by simp [aNew]), h2⟩
      · cases h
  · split at h
    case h_2 => cases h
    rename_i o ha
    have hall : ∀ c ∈ o.cells, R0 H.length c = true := fun c hc => hw.cell (alive_some ha).1 hc
    split at h
    · cases h; exact .same hw hs
    · split at h
      case isFalse => cases h
      have hcs : ∀ {a b : Nat} {news : List Value}, (∀ c ∈ news, R0 H.length c = true) → ∀ c ∈ (o.cells.drop a).take b ++ news, R0 H.length c = true := fun hn c hm => by
        rcases List.mem_append.1 hm with hm | hm
        · exact hall c (List.mem_of_mem_drop (List.mem_of_mem_take hm))
        · exact hn c hm
      split at h
      · cases h
        obtain ⟨h1, h2⟩ := hw.push (hcs hn)
        exact ⟨h1, R3_sl (by simp [aNew]), h2⟩
      · split at h
        · cases h
          refine ⟨?_, R3_sl (by rw [List.length_set]; exact alive_lt ha), by simp⟩
          exact (hw.set (o := { o with cells := _, gen := _ }) (hcs hn)).1
        · cases h
  · cases h
theorem aSlice_R {n : Nat} {t : TypeId} {x v : Value} {lo hi mx : Option Value} (hx : R3 n x = true) (h : aSlice P H t x lo hi mx = some v) : R3 n v = true := by
  unfold aSlice at h
  split at h
  · split at h
    · split at h
      · cases h; rfl
      · cases h
    · cases h
  · split at h
    · split at h
      · cases h; rfl
      · cases h
    · cases h
  · rename_i i off g k c
    have hi : i < n := R0_lts (by simpa [R3, R2] using hx)
    split at h
    case h_2 => cases h
    split at h
    case h_2 => cases h
    split at h
    case isFalse => cases h
    split at h
    · cases h; exact R3_sl hi
    · split at h
      · cases h; exact R3_sl hi
      · cases h
    · cases h
  · rename_i i off g
    have hi : i < n := R0_lt (by simpa [R3, R2] using hx)
    split at h
    case h_2 => cases h
    split at h
    case h_2 => cases h
    split at h
    case isFalse => cases h
    cases h
    exact R3_sl hi
  · cases h
theorem aBin_plain {op : BinOp} {t : TypeId} {x y v : Value} (hq : aBin P H op t x y = some v) : plainV v = true := by
  unfold aBin at hq
  split at hq
  · split at hq
    · split at hq
      · cases hq
      · cases hq; rfl
    · split at hq
      · cases hq
      · cases hq; rfl
    · split at hq
      · rename_i h1 h2 hk
        exact (aBinI_sound (P := P) (w := default) (t := 0) ⟨h1, h2⟩ hq).2
      · cases hq
  · exact (aBinS_sound (P := P) (w := default) (t := 0) hq).2
  all_goals first | (cases hq; done) | (unfold eqB at hq; (repeat' (split at hq)) <;> first | (cases hq; done) | (cases hq; rfl))
theorem packV_R {N : Nat} {vs : List Value} (h : ∀ c ∈ vs, R0 N c = true) : R2 N (packV vs) = true := by
  unfold packV
  split
  · exact R2_of0 (h _ (by simp))
  · simp only [R2, List.all_toArray]
    exact List.all_eq_true.2 h
theorem decN_mem {n : Nat} : ∀ {f : Nat} {cs : List Value} {l : Ents}, decN n f cs = some l → ∀ e ∈ l, e.1 ∈ cs ∧ ∀ c ∈ e.2, c ∈ cs
  | 0, [], l, h, e, he => by simp [decN] at h; subst h; cases he
  | _ + 1, [], l, h, e, he => by simp [decN] at h; subst h; cases he
  | 0, _ :: _, l, h, _, _ => by cases h
  | f + 1, k :: r, l, h, e, he => by
    simp only [decN] at h
    split at h
    · cases h
    · obtain ⟨l', hl, rfl⟩ := Option.map_eq_some_iff.1 h
      rcases List.mem_cons.1 he with rfl | he
      · exact ⟨.head _, fun c hc => .tail _ (List.mem_of_mem_take hc)⟩
      · obtain ⟨h1, h2⟩ := decN_mem hl e he
        exact ⟨.tail _ (List.mem_of_mem_drop h1), fun c hc => .tail _ (List.mem_of_mem_drop (h2 c hc))⟩
theorem decN_R {N n f : Nat} {cs : List Value} {l : Ents} (h : decN n f cs = some l) (hc : ∀ c ∈ cs, R0 N c = true) : ∀ kv ∈ l, R2 N (packV kv.2) = true :=
  fun kv hk => packV_R fun c hm => hc c ((decN_mem h kv hk).2 c hm)
theorem mput_mem {k : Value} {v : List Value} : ∀ {l : Ents} {e : Value × List Value}, e ∈ mput k v l → e ∈ l ∨ (e.2 = v ∧ (e.1 = k ∨ ∃ x ∈ l, x.1 = e.1))
  | [], e, h => by simp [mput] at h; subst h; exact .inr ⟨rfl, .inl rfl⟩
  | x :: r, e, h => by
    simp only [mput] at h
    split at h
    · rcases List.mem_cons.1 h with rfl | h
      · exact .inr ⟨rfl, .inr ⟨x, .head _, rfl⟩⟩
      · exact .inl (.tail _ h)
    · rcases List.mem_cons.1 h with rfl | h
      · exact .inl (.head _)
      · rcases mput_mem h with h | ⟨h1, h2 | ⟨y, hy, h2⟩⟩
        · exact .inl (.tail _ h)
        · exact .inr ⟨h1, .inl h2⟩
        · exact .inr ⟨h1, .inr ⟨y, .tail _ hy, h2⟩⟩
theorem mget_mem {k : Value} {v : List Value} : ∀ {l : Ents}, mget k l = some v → ∃ e ∈ l, e.2 = v
  | [], h => by cases h
  | x :: r, h => by
    simp only [mget] at h
    split at h
    · cases h; exact ⟨x, .head _, rfl⟩
    · obtain ⟨e, he, h⟩ := mget_mem h
      exact ⟨e, .tail _ he, h⟩
theorem R3_pair {n : Nat} {v : Value} {b : Bool} (h : R3 n v = true) (ht : isTup v = false) : R3 n (.tuple #[v, .bool b]) = true := by
  have h2 := R3_two h ht
  have h3 : R2 n (.bool b) = true := rfl
  simp [R3, h2, h3]
theorem notTup_const {v : Value} (h : constV v = true) : isTup v = false := by
  cases v <;> first | rfl | simp [constV, plainV] at h
theorem notTup_R2 {n : Nat} {v : Value} (h : R2 n v = true) : isTup v = false := by
  cases v <;> first | rfl | simp [R2, R0] at h
theorem aMapOp_good (hw : WF H) (he : ER H.length env) {op : Op} {v : Value} (h : aMapOp P env H op = .val v H') : Good H v H' := by
  unfold aMapOp at h
  split at h
  · have hq := arOf2_val h
    unfold aMakeMap at hq
    split at hq
    · cases hq
      refine ⟨fun o ho c hc => ?_, R3_of2 (R2_of0 (by simp [R0])), by simp⟩
      rcases List.mem_append.1 ho with ho | ho
      · exact R0_mono (by simp) (hw o ho c hc)
      · simp only [List.mem_cons, List.not_mem_nil, or_false] at ho
        rcases ho with rfl | rfl <;> simp at hc
    · cases hq
  · split at h
    · rename_i va vb hx hy
      obtain ⟨hq, rfl⟩ := arOf_val h
      refine .same hw ?_
      unfold aLookup at hq
      split at hq
      · split at hq
        · rename_i d n z j c hT hO
          obtain ⟨_, o, _, _, _, o4, _⟩ := mapO_some hO
          split at hq
          · rename_i l hl
            split at hq
            · obtain ⟨_, _, _, _, _, hz⟩ := mapT_some hT
              have hz3 : R3 H'.length z = true := R3_of2 (R2_const hz)
              cases hq
              split
              · rename_i u hu
                obtain ⟨e, hem, rfl⟩ := mget_mem hu
                have h2 := decN_R hl (fun c hm => hw.cell o4 hm) e hem
                split
                · exact R3_pair (R3_of2 h2) (notTup_R2 h2)
                · exact R3_of2 h2
              · split
                · exact R3_pair hz3 (notTup_const hz)
                · exact hz3
            · cases hq
          · cases hq
        · cases hq
      · cases hq
    · cases h
  · split at h
    · rename_i va vb vc hx hy hz
      split at h
      · rename_i H2 hS
        cases h
        unfold aMapPut at hS
        split at hS
        · split at hS
          · rename_i d n z j c hT hO
            obtain ⟨_, o, _, _, _, o4, _⟩ := mapO_some hO
            split at hS
            · rename_i l hl
              split at hS
              · rename_i hc
                obtain ⟨⟨_, hko, _⟩, htu, _⟩ := hc
                cases hS
                have := WF.set hw (i := j) (o := { c with cells := encE (mput vb vc.cells.toList l) }) (fun x hx => by
                  obtain ⟨e, hem, hxe⟩ := List.mem_flatMap.1 hx
                  have old : ∀ y ∈ l, R0 H.length y.1 = true ∧ ∀ q ∈ y.2, R0 H.length q = true := fun y hy => by
                    obtain ⟨g1, g2⟩ := decN_mem hl y hy
                    exact ⟨hw.cell o4 g1, fun q hq => hw.cell o4 (g2 q hq)⟩
                  have hv : ∀ q ∈ vc.cells.toList, R0 H.length q = true := R2_cells (R3_two (aev_R he hz) htu)
                  rcases mput_mem hem with hm | ⟨h1, h2⟩
                  · rcases List.mem_cons.1 hxe with rfl | hxe
                    · exact (old e hm).1
                    · exact (old e hm).2 x hxe
                  · rcases List.mem_cons.1 hxe with rfl | hxe
                    · rcases h2 with h2 | ⟨y, hy, h2⟩
                      · rw [h2]; exact R0_plain (keyOk_is hko).2
                      · rw [← h2]; exact (old y hy).1
                    · rw [h1] at hxe
                      exact hv x hxe)
                exact ⟨this.1, by simp [R3, undef], this.2⟩
              · cases hS
            · cases hS
          · cases hS
        · cases hS
      · cases h
    · cases h
  · split at h
    · rename_i va vb vc hx hy hz
      split at h
      · rename_i H2 hS
        cases h
        unfold aMapPut at hS
        split at hS
        · split at hS
          · rename_i d n z j c hT hO
            obtain ⟨_, o, _, _, _, o4, _⟩ := mapO_some hO
            split at hS
            · rename_i l hl
              split at hS
              · rename_i hc
                obtain ⟨⟨_, hko, _⟩, htu, _⟩ := hc
                cases hS
                have := WF.set hw (i := j) (o := { c with cells := encE (mput vb vc.cells.toList l) }) (fun x hx => by
                  obtain ⟨e, hem, hxe⟩ := List.mem_flatMap.1 hx
                  have old : ∀ y ∈ l, R0 H.length y.1 = true ∧ ∀ q ∈ y.2, R0 H.length q = true := fun y hy => by
                    obtain ⟨g1, g2⟩ := decN_mem hl y hy
                    exact ⟨hw.cell o4 g1, fun q hq => hw.cell o4 (g2 q hq)⟩
                  have hv : ∀ q ∈ vc.cells.toList, R0 H.length q = true := R2_cells (R3_two (aev_R he hz) htu)
                  rcases mput_mem hem with hm | ⟨h1, h2⟩
                  · rcases List.mem_cons.1 hxe with rfl | hxe
                    · exact (old e hm).1
                    · exact (old e hm).2 x hxe
                  · rcases List.mem_cons.1 hxe with rfl | hxe
                    · rcases h2 with h2 | ⟨y, hy, h2⟩
                      · rw [h2]; exact R0_plain (keyOk_is hko).2
                      · rw [← h2]; exact (old y hy).1
                    · rw [h1] at hxe
                      exact hv x hxe)
                exact ⟨this.1, by simp [R3, undef], this.2⟩
              · cases hS
            · cases hS
          · cases hS
        · cases hS
      · cases h
    · cases h
  · split at h
    · rename_i va hx
      have hq := arOf2_val h
      unfold aRange at hq
      split at hq
      · rename_i hu
        split at hq
        · rename_i j c hO
          split at hq
          · cases hq
            obtain ⟨_, o, o1, _⟩ := mapO_some hO
            have hlt := (List.getElem?_eq_some_iff.1 o1).1
            refine ⟨fun o ho c hc => ?_, R3_ptr (by simp), by simp⟩
            rcases List.mem_append.1 ho with ho | ho
            · exact R0_mono (by simp) (hw o ho c hc)
            · simp only [List.mem_cons, List.not_mem_nil, or_false] at ho
              rcases ho with rfl | rfl
              · simp at hc
                subst hc
                simp [R0]
                omega
              · simp at hc
          · cases hq
        · cases hq
      · cases hq
    · cases h
  · split at h
    · rename_i va hx
      obtain ⟨hq, rfl⟩ := arOf_val h
      refine .same hw ?_
      unfold aEntry at hq
      split at hq
      · split at hq
        · rename_i x hx
          split at hq
          · split at hq
            · rename_i e he'
              cases hq
              obtain ⟨m, jm, om, _, _, hm, hE, _⟩ := aNx_some hx
              obtain ⟨_, o, _, _, _, o4, _⟩ := mapO_some hm
              have hem := List.mem_of_getElem? he'
              have h1 : R2 H'.length e.1 = true := R2_of0 (hw.cell o4 (decN_mem hE e hem).1)
              have h2 := decN_R hE (fun c hm => hw.cell o4 hm) e hem
              simp [R3, h1, h2]
            · cases hq
          · cases hq
        · cases hq
      · cases hq
    · cases h
  · cases h
theorem aop_good (hw : WF H) (he : ER H.length env) {op : Op} {v : Value} (h : aop P env H op = .val v H') : Good H v H' := by
  unfold aop at h
  split at h
  · obtain ⟨hq, rfl⟩ := arOf_val h
    exact .same hw (aev_R he hq)
  · obtain ⟨hq, rfl⟩ := arOf_val h
    exact .same hw (aev_R he hq)
  · split at h
    · rename_i t va vb hc hx hy
      cases h
      cases t
      · exact .same hw (aev_R he hy)
      · exact .same hw (aev_R he hx)
    · cases h
  · split at h
    · rename_i H2 hA
      cases h
      unfold aAlloc at hA
      split at hA
      · split at hA
        · cases hA
          rename_i hz
          obtain ⟨h1, h2⟩ := hw.push (constR hz)
          exact ⟨h1, R3_ptr (by simp [aNew]), h2⟩
        · cases hA
      · cases hA
    · cases h
  · split at h
    · rename_i u hx
      split at h
      · cases h
      · rename_i htu
        cases h
        obtain ⟨h1, h2⟩ := hw.push (R2_cells (R3_two (aev_R he hx) (by simpa using htu)))
        exact ⟨h1, R3_ptr (by simp [aNew]), h2⟩
    · cases h
  · split at h
    · rename_i ps hps
      obtain ⟨hq, rfl⟩ := arOf_val h
      unfold aBuild at hq
      split at hq
      · split at hq
        · rename_i hc
          obtain ⟨r, hr, rfl⟩ := Option.map_eq_some_iff.1 hq
          exact .same hw (agg_R (fillL_R hr (parts_R2 (aparts_R he hps) hc.2) (constR hc.1)))
        · cases hq
      · cases hq
    · cases h
  · split at h
    · rename_i ps hps
      have hq := arOf2_val h
      unfold aBuildSlice at hq
      split at hq
      · split at hq
        · rename_i q hei
          split at hq
          · rename_i hc
            obtain ⟨r, hr, hv⟩ := Option.map_eq_some_iff.1 hq
            cases hv
            obtain ⟨i, _, _, _, _, hzs, hpos, hcz, _⟩ := einfo_some hei
            have hz : ∀ (n : Nat), ∀ c ∈ zeros q n, R0 H.length c = true := fun n c hm => by
              obtain ⟨j, _, rfl⟩ := List.mem_map.1 hm
              have hlt : j % q.zero.cells.size < q.zero.cells.size := Nat.mod_lt _ (by omega)
              rw [show q.zero.cells[j % q.zero.cells.size]! = q.zero.cells[j % q.zero.cells.size] from getElem!_pos q.zero.cells _ hlt]
              exact constR hcz _ (by simp)
            obtain ⟨h1, h2⟩ := hw.push (fillL_R hr (parts_R2 (aparts_R he hps) hc.2) (hz _))
            exact ⟨h1, R3_sl (by simp [aNew]), h2⟩
          · cases hq
        · cases hq
      · cases hq
    · cases h
  · split at h
    · rename_i p hp
      obtain ⟨hq, rfl⟩ := arOf_val h
      unfold aLoad at hq
      split at hq
      · split at hq
        · split at hq
          · cases hq
            rename_i ha _ _ _
            exact .same hw (agg_R fun c hm => hw.cell (alive_some ha).1 (List.mem_of_mem_drop (List.mem_of_mem_take hm)))
          · cases hq
        · rename_i ha _ _
          exact .same hw (R3_of2 (R2_of0 (hw.cell (alive_some ha).1 (List.mem_of_getElem? hq))))
        · cases hq
      · cases hq
    · cases h
  · split at h
    · rename_i p u hp hu
      split at h
      · rename_i H2 hS
        cases h
        unfold aStore at hS
        split at hS
        · split at hS
          · split at hS
            · rename_i o n ha _ hc
              cases hS
              obtain ⟨h1, h2⟩ := hw.set (i := _) (o := { o with cells := o.cells.take _ ++ u.cells.toList ++ o.cells.drop _ }) (fun c hm => by
                rcases List.mem_append.1 hm with hm | hm
                · rcases List.mem_append.1 hm with hm | hm
                  · exact hw.cell (alive_some ha).1 (List.mem_of_mem_take hm)
                  · exact R2_cells (R3_two (aev_R he hu) hc.2.1) c hm
                · exact hw.cell (alive_some ha).1 (List.mem_of_mem_drop hm))
              exact ⟨h1, by simp [undef, R3], h2⟩
            · cases hS
          · cases hS
        · cases hS
      · cases h
    · cases h
  · split at h
    · rename_i u hu
      unfold aNil at h
      split at h
      · split at h
        · cases h; exact .same hw (aev_R he hu)
        · cases h
      · split at h
        · cases h; exact .same hw (aev_R he hu)
        · cases h
      · cases h
    · cases h
  · split at h
    · rename_i va vb hx hy
      obtain ⟨hq, rfl⟩ := arOf_val h
      refine .plain hw ?_
      unfold aBin' at hq
      split at hq
      · split at hq
        · exact aBin_plain hq
        · cases hq
      · exact aBin_plain hq
    · cases h
  · split at h
    · obtain ⟨hq, rfl⟩ := arOf_val h
      unfold aUn at hq
      refine .plain hw ?_
      split at hq <;> first | (cases hq; done) | (cases hq; rfl)
    · cases h
  · split at h
    · obtain ⟨hq, rfl⟩ := arOf_val h
      exact .plain hw (aConvert_plain hq)
    · cases h
  · split at h
    · rename_i vs hvs
      split at h
      · rename_i hc
        cases h
        refine .same hw (R3_of2 (R2_of0 ?_))
        simp only [R0, List.all_toArray]
        refine List.all_eq_true.2 fun c hm => ?_
        have h1 := aops_R he hvs c hm
        have h2 := List.all_eq_true.1 hc.2 c hm
        cases c with
        | pointer p => cases p <;> simp_all [R3, R2, R0, R00]
        | slice p _ _ => cases p <;> simp_all [R3, R2, R0, R00]
        | map p => cases p <;> simp_all [R3, R2, R0, R00]
        | func _ _ _ => simp_all [flatV, plainV, R00]
        | agg _ => simp [flatV, plainV] at h2
        | tuple _ => simp [flatV, plainV] at h2
        | _ => rfl
      · cases h
    · cases h
  · split at h
    · have hq := arOf2_val h
      unfold aMake at hq
      split at hq
      · split at hq
        · split at hq
          · rename_i q hei
            split at hq
            · rename_i hc
              cases hq
              obtain ⟨i, _, _, _, _, hzs, hpos, hcz, _⟩ := einfo_some hei
              obtain ⟨h1, h2⟩ := hw.push (cells := List.replicate _ (q.zero.cells.getD 0 default)) (fun c hm => by
                rw [(List.mem_replicate.1 hm).2]
                have hlt : 0 < q.zero.cells.size := by omega
                rw [Array.getD_eq_getD_getElem?, Array.getElem?_eq_getElem hlt]
                exact constR hcz _ (by simp))
              exact ⟨h1, R3_sl (by simp [aNew]), h2⟩
            · cases hq
          · cases hq
        · cases hq
      · cases hq
    · cases h
  · split at h
    · rename_i va l h' m hx hl hh hm
      obtain ⟨hq, rfl⟩ := arOf_val h
      exact .same hw (aSlice_R (aev_R he hx) hq)
    · cases h
  · split at h
    · rename_i va hx
      obtain ⟨hq, rfl⟩ := arOf_val h
      unfold aFieldAddr at hq
      split at hq
      · split at hq
        · rename_i ha _
          split at hq
          · split at hq
            · cases hq
              exact .same hw (R3_ptr (alive_lt ha))
            · cases hq
          · cases hq
        · cases hq
      · cases hq
    · cases h
  · split at h
    · rename_i va hx
      obtain ⟨hq, rfl⟩ := arOf_val h
      unfold aField at hq
      split at hq
      · split at hq
        · exact .same hw (aPart_R hq (agg_cells_R (aev_R he hx)))
        · cases hq
      · cases hq
    · cases h
  · split at h
    · rename_i va vi hx hi
      obtain ⟨hq, rfl⟩ := arOf_val h
      unfold aIndexAddr at hq
      split at hq
      · split at hq
        · rename_i ha _
          split at hq
          · split at hq
            · cases hq
              exact .same hw (R3_ptr (alive_lt ha))
            · cases hq
          · cases hq
        · cases hq
      · split at hq
        · rename_i ha _
          split at hq
          · split at hq
            · cases hq
              exact .same hw (R3_ptr (alive_lt ha))
            · cases hq
          · cases hq
        · cases hq
      · cases hq
    · cases h
  · split at h
    · rename_i va vi hx hi
      obtain ⟨hq, rfl⟩ := arOf_val h
      unfold aIndex at hq
      split at hq
      · split at hq
        · split at hq
          · obtain ⟨b, _, rfl⟩ := Option.map_eq_some_iff.1 hq
            exact .plain hw rfl
          · cases hq
        · cases hq
      · split at hq
        · split at hq
          · split at hq
            · exact .same hw (aPart_R hq (agg_cells_R (aev_R he hx)))
            · cases hq
          · cases hq
        · cases hq
      · cases hq
    · cases h
  · split at h
    · rename_i va hx
      obtain ⟨hq, rfl⟩ := arOf_val h
      unfold aExtract at hq
      split at hq
      · rename_i vs
        have h1 := aev_R he hx
        simp only [R3, Array.all_eq_true_iff_forall_mem] at h1
        exact .same hw (R3_of2 (h1 v (Array.mem_of_getElem? hq)))
      · cases hq
    · cases h
  · split at h
    · split at h
      · rename_i b hb vs hvs
        unfold aBuiltin at h
        split at h
        · obtain ⟨hq, rfl⟩ := arOf_val h
          unfold aLen at hq
          refine .plain hw ?_
          (repeat' (split at hq)) <;> first | (cases hq; done) | (cases hq; rfl) | (unfold aMapLen at hq; split at hq <;> first | (cases hq; done) | (obtain ⟨_, _, rfl⟩ := Option.map_eq_some_iff.1 hq; rfl))
        · have hq := arOf2_val h
          cases ha1 : aAppend P H _ _ _ _ with
          | some r =>
            rw [ha1, Option.orElse_some] at hq
            cases hq
            exact aAppend_good hw (aops_R he hvs _ (by simp)) ha1
          | none =>
            rw [ha1, Option.orElse_none] at hq
            exact aApM_good hw hq
        · obtain ⟨hq, rfl⟩ := arOf_val h
          unfold aCap at hq
          refine .plain hw ?_
          split at hq <;> first | (cases hq; done) | (cases hq; rfl)
        · have hq := arOf2_val h
          exact aClear_good hw hq
        · obtain ⟨hq, rfl⟩ := arOf_val h
          unfold aMin at hq
          refine .plain hw ?_
          split at hq <;> first | (cases hq; done) | (cases hq; rfl)
        · obtain ⟨hq, rfl⟩ := arOf_val h
          unfold aMax at hq
          refine .plain hw ?_
          split at hq <;> first | (cases hq; done) | (cases hq; rfl)
        · have hq := arOf2_val h
          exact aCopy_good hw hq
        · cases h
      · cases h
    · split at h
      · unfold aCallee at h
        split at h
        · split at h <;> cases h
        · cases h
      · cases h
    · cases h
  · exact aMapOp_good hw he h
end

end Go.Proofs.Ytdbflchpbhkanaa.AL
namespace Go.Proofs.Ytdbflchpbhkanaa.AL
open Go Go.RowKit
set_option linter.unusedVariables false
set_option linter.unusedSimpArgs false

structure ACall (P : Program) (f : FuncId) (args : List Value) (H : AH) (v : Value) (H' : AH) : Prop where
  enters : Enters P f
  good : WF H → (∀ x ∈ args, R2 H.length x = true) → Good H v H'
  calls : ∀ β w args', Rel β H w → WF H → (∀ x ∈ args, R2 H.length x = true) → All2 (T2 β) args args'.toList →
    Calls P f args' w fun e w' => ∃ v' β', e = .returned v' ∧ Rel β' H' w' ∧ Ext H.length β w β' w' ∧ T3 β' v v'
structure ACallP (P : Program) (f : FuncId) (args : List Value) (H : AH) (Post : Value → AH → Prop) : Prop where
  enters : Enters P f
  calls : ∀ β w args', Rel β H w → WF H → (∀ x ∈ args, R2 H.length x = true) → All2 (T2 β) args args'.toList →
    Calls P f args' w fun e w' => ∃ v v' β' H', e = .returned v' ∧ Post v H' ∧ Good H v H' ∧ Rel β' H' w' ∧ Ext H.length β w β' w' ∧ T3 β' v v'
theorem ACall.p {P : Program} {f : FuncId} {args : List Value} {H H' : AH} {v : Value} (h : ACall P f args H v H') : ACallP P f args H (fun u G => u = v ∧ G = H') :=
  ⟨h.enters, fun β w args' R hw hR ha => (h.calls β w args' R hw hR ha).mono fun e w' ⟨v', β', he, R', E, t⟩ => ⟨v, v', β', H', he, ⟨rfl, rfl⟩, h.good hw hR, R', E, t⟩⟩
theorem ACallP.mono {P : Program} {f : FuncId} {args : List Value} {H : AH} {Post Post' : Value → AH → Prop} (h : ACallP P f args H Post) (hq : ∀ v H', Post v H' → Post' v H') : ACallP P f args H Post' :=
  ⟨h.enters, fun β w args' R hw hR ha => (h.calls β w args' R hw hR ha).mono fun e w' ⟨v, v', β', H', he, hp, r⟩ => ⟨v, v', β', H', he, hq _ _ hp, r⟩⟩
def CallK (P : Program) (f : FuncId) (args : List Value) (H : AH) (K : Value → AH → Prop) : Prop := ∃ Post, ACallP P f args H Post ∧ ∀ v H', Post v H' → K v H'
@[congr] theorem CallK_congr {P : Program} {f f' : FuncId} {args args' : List Value} {H H' : AH} {K : Value → AH → Prop} (h1 : f = f') (h2 : args = args') (h3 : H = H') : CallK P f args H K = CallK P f' args' H' K := by subst h1 h2 h3; rfl
theorem CallK.of {P : Program} {f : FuncId} {args : List Value} {H : AH} {K Post : Value → AH → Prop} (h : ACallP P f args H Post) (hk : ∀ v H', Post v H' → K v H') : CallK P f args H K := ⟨Post, h, hk⟩
theorem CallK.det {P : Program} {f : FuncId} {args : List Value} {H H' : AH} {v : Value} {K : Value → AH → Prop} (h : ACall P f args H v H') (hk : K v H') : CallK P f args H K := ⟨_, h.p, fun _ _ ⟨h1, h2⟩ => by rw [h1, h2]; exact hk⟩
def CallD (P : Program) (f : FuncId) (args : List Value) (H : AH) (K : Value → AH → Prop) : Prop := ∃ v H', ACall P f args H v H' ∧ K v H'
@[congr] theorem CallD_congr {P : Program} {f f' : FuncId} {args args' : List Value} {H H' : AH} {K : Value → AH → Prop} (h1 : f = f') (h2 : args = args') (h3 : H = H') : CallD P f args H K = CallD P f' args' H' K := by subst h1 h2 h3; rfl
theorem CallD.of {P : Program} {f : FuncId} {args : List Value} {H H' : AH} {v : Value} {K : Value → AH → Prop} (h : ACall P f args H v H') (hk : K v H') : CallD P f args H K := ⟨v, H', h, hk⟩
def aput (env : Env) (d : Option Tmp) (v : Value) : Env := match d with
  | some d => fun t => if t = d then some v else env t
  | none => env
def ayield (ops : Array Oper) (env : Env) (j : Nat) : Option Bool :=
  match ((ops[j]?).bind (·.dst)).bind env with
  | some (.bool b) => some b
  | _ => none
def AStep (P : Program) (o : Oper) (env : Env) (H : AH) (K : Value → AH → Prop) : Prop :=
  match aop P env H o.op with
  | .val v H' => K v H'
  | .call f args => CallK P f args H K
  | .bad => False
def AStepD (P : Program) (o : Oper) (env : Env) (H : AH) (K : Value → AH → Prop) : Prop :=
  match aop P env H o.op with
  | .val v H' => K v H'
  | .call f args => CallD P f args H K
  | .bad => False
def okDst (nt : Nat) : Option Tmp → Bool
  | some d => decide (d < nt)
  | none => true
def okGuard (ops : Array Oper) (env : Env) (o : Oper) : Bool := match o.guard with
  | none => true
  | some (j, _) => (ayield ops env j).isSome || ((((ops[j]?).bind (·.dst)).bind env).isSome)
def ARun (P : Program) (nt : Nat) (ops : Array Oper) (K : Env → AH → Prop) : List Oper → Env → AH → Prop
  | [], env, H => K env H
  | o :: r, env, H => if okDst nt o.dst = true ∧ okGuard ops env o = true then (if Region.wanted o (ayield ops env) then AStep P o env H (fun v H' => ARun P nt ops K r (aput env o.dst v) H') else ARun P nt ops K r (aput env o.dst undef) H) else False

section
variable {P : Program} {β : BM} {H H' : AH} {w : World} {env : Env} {a : Act}
theorem EnvT.ext {N : Nat} {β' : BM} {w' : World} {tmps : Array Value} (E : Ext N β w β' w') (h : EnvT β env tmps) : EnvT β' env tmps := fun t v hv => by
  obtain ⟨v', h1, h2⟩ := h t v hv
  exact ⟨v', h1, h2.ext E⟩
theorem EnvT.put {nt : Nat} (h : EnvT β env a.tmps) (hs : a.tmps.size = nt) {v v' : Value} (t : T3 β v v') (d : Option Tmp) (hd : okDst nt d = true) : EnvT β (aput env d v) (a.put d v').tmps := by
  cases d with
  | none => exact h
  | some d =>
    intro i u hu
    simp only [aput] at hu
    simp only [Act.put]
    split at hu
    · rename_i e
      subst e
      cases hu
      refine ⟨v', ?_, t⟩
      have : i < a.tmps.size := by rw [hs]; simpa [okDst] using hd
      simp [this]
    · rename_i e
      obtain ⟨u', h1, h2⟩ := h i u hu
      exact ⟨u', by rw [Array.getElem?_setIfInBounds_ne (fun h => e h.symm)]; exact h1, h2⟩
theorem ER.put {n : Nat} (h : ER n env) {v : Value} (hv : R3 n v = true) (d : Option Tmp) : ER n (aput env d v) := by
  cases d with
  | none => exact h
  | some d =>
    intro i u hu
    simp only [aput] at hu
    split at hu
    · cases hu; exact hv
    · exact h i u hu
def asB : Value → Option Bool
  | .bool b => some b
  | _ => none
theorem T3.asB {v v' : Value} (t : T3 β v v') : AL.asB v' = AL.asB v := by
  rcases t with ((t | t) | t) | t
  · cases t <;> rfl
  · rfl
  · rfl
  · rfl
theorem ayield_eq {ops : Array Oper} (h : EnvT β env a.tmps) {o : Oper} (hg : okGuard ops env o = true) : Region.wanted o (yielded ops a.tmps) = Region.wanted o (ayield ops env) := by
  unfold Region.wanted
  unfold okGuard at hg
  cases hgd : o.guard with
  | none => rfl
  | some g =>
    obtain ⟨j, want⟩ := g
    simp only [hgd] at hg ⊢
    have key : yielded ops a.tmps j = ayield ops env j := by
      unfold yielded ayield
      unfold ayield at hg
      cases hd : (ops[j]?).bind (·.dst) with
      | none => rfl
      | some d =>
        simp only [hd, Option.bind_some] at hg ⊢
        cases he : env d with
        | none => simp [he] at hg
        | some v =>
          obtain ⟨v', hv, t⟩ := h d v he
          rw [hv]
          have := t.asB
          cases v <;> cases v' <;> simp_all [AL.asB]
    rw [key]
theorem R3_undef {n : Nat} : R3 n undef = true := by simp [undef, R3]
structure St (nt : Nat) (β : BM) (env : Env) (H : AH) (a : Act) (w : World) : Prop where
  rel : Rel β H w
  wf : WF H
  envT : EnvT β env a.tmps
  er : ER H.length env
  size : a.tmps.size = nt
  defers : a.defers = []
theorem Act.put_size (a : Act) (d : Option Tmp) (v : Value) : (a.put d v).tmps.size = a.tmps.size := by cases d <;> simp [Act.put]
theorem Act.put_defers (a : Act) (d : Option Tmp) (v : Value) : (a.put d v).defers = a.defers := by cases d <;> rfl
def OpRes (P : Program) (env : Env) (H : AH) (o : Oper) (v : Value) (H' : AH) : Prop := aop P env H o.op = .val v H' ∨ ∃ f args, aop P env H o.op = .call f args ∧ ACall P f args H v H'
theorem call_args_R {op : Op} {f : FuncId} {args : List Value} (he : ER H.length env) (ha : aop P env H op = .call f args) : ∀ x ∈ args, R2 H.length x = true := by
  unfold aop at ha
  split at ha
  case h_22 =>
    split at ha
    · split at ha
      · simp only [aBuiltin, arOf, arOf2] at ha
        (repeat' (split at ha)) <;> cases ha
      · cases ha
    · split at ha
      · rename_i fv vs hf hvs
        unfold aCallee at ha
        split at ha
        · rename_i g fa cs
          split at ha
          · rename_i hcc
            cases ha
            intro x hx
            rcases List.mem_append.1 hx with hx | hx
            · exact R3_two (aops_R he hvs x hx) (by simpa using List.all_eq_true.1 hcc.2 x hx)
            · have h1 := aev_R he hf
              simp only [R3, R2, R0, Array.all_eq_true_iff_forall_mem] at h1
              have h2 := h1 x (by simpa using hx)
              exact R2_of0 (R00_to h2)
          · cases ha
        · cases ha
      · cases ha
    · cases ha
  all_goals first
    | exact (aMapOp_call ha).elim
    | ((try simp only [arOf, arOf2, aNil] at ha); (repeat' (split at ha)) <;> cases ha)
theorem OpRes.good {o : Oper} {v : Value} (h : OpRes P env H o v H') (hw : WF H) (he : ER H.length env) : Good H v H' := by
  rcases h with h | ⟨f, args, h, hc⟩
  · exact aop_good hw he h
  · exact hc.good hw (call_args_R he h)
theorem op_real {o : Oper} {v : Value} {N : Act → World → Prop} {Q : Exit → Act → World → Prop} (h : OpRes P env H o v H') (R : Rel β H w) (hw : WF H) (he : ER H.length env) (ht : OpT β env a o.op)
    (hN : ∀ v' w' β', Rel β' H' w' → Ext H.length β w β' w' → T3 β' v v' → N (a.put o.dst v') w') : o.wp P a w N Q := by
  unfold Oper.wp
  rcases h with h | ⟨f, args, h, hc⟩
  · obtain ⟨v', w', β', hr, R', E, t⟩ := aop_val R ht h
    rcases hr with hr | ⟨hr, rfl⟩
    · rw [hr]; exact hN v' w' β' R' E t
    · rw [hr]; exact hN undef w' β' R' E t
  · obtain ⟨args', hr, hargs⟩ := aop_call R ht h hc.enters
    rw [hr]
    refine (hc.calls β w args' R hw (call_args_R he h) hargs).mono ?_
    rintro e w' ⟨v', β', rfl, R', E, t⟩
    exact hN v' w' β' R' E t
theorem step_sound {nt : Nat} {o : Oper} {K : Value → AH → Prop} {N : Act → World → Prop} {Q : Exit → Act → World → Prop} (S : St nt β env H a w) (hd : okDst nt o.dst = true) (h : AStep P o env H K)
    (hN : ∀ v H' β' v' w', K v H' → St nt β' (aput env o.dst v) H' (a.put o.dst v') w' → Ext H.length β w β' w' → H.length ≤ H'.length → N (a.put o.dst v') w') : o.wp P a w N Q := by
  have fin : ∀ {v v' : Value} {H' : AH} {β' : BM} {w' : World}, K v H' → Good H v H' → Rel β' H' w' → Ext H.length β w β' w' → T3 β' v v' → N (a.put o.dst v') w' := fun hk ⟨g1, g2, g3⟩ R' E t =>
    hN _ _ _ _ _ hk ⟨R', g1, (S.envT.ext E).put S.size t _ hd, (S.er.mono g3).put g2 _, by rw [Act.put_size]; exact S.size, by rw [Act.put_defers]; exact S.defers⟩ E g3
  unfold AStep at h
  split at h
  · rename_i v H' ha
    exact op_real (.inl ha) S.rel S.wf S.er (S.envT.op _) fun v' w' β' R' E t => fin h (aop_good S.wf S.er ha) R' E t
  · rename_i f args ha
    obtain ⟨Post, hc, hk⟩ := h
    unfold Oper.wp
    obtain ⟨args', hr, hargs⟩ := aop_call S.rel (S.envT.op _) ha hc.enters
    rw [hr]
    refine (hc.calls β w args' S.rel S.wf (call_args_R S.er ha) hargs).mono ?_
    rintro e w' ⟨v, v', β', H', rfl, hp, hg, R', E, t⟩
    exact fin (hk v H' hp) hg R' E t
  · exact h.elim

def AWp (P : Program) (nt : Nat) (c : Code) (Q : Exit → Env → AH → Prop) (env : Env) (H : AH) : Prop :=
  ∀ β w a (K : Exit → Act → World → Prop), St nt β env H a w →
    (∀ x env' H' β' a' w', Q x env' H' → St nt β' env' H' a' w' → Ext H.length β w β' w' → H.length ≤ H'.length → K x a' w') → c.wp P K a w
theorem AWp.mono {nt : Nat} {c : Code} {Q Q' : Exit → Env → AH → Prop} (h : AWp P nt c Q env H) (hq : ∀ x e H, Q x e H → Q' x e H) : AWp P nt c Q' env H :=
  fun β w a K S hK => h β w a K S fun x env' H' β' a' w' q => hK x env' H' β' a' w' (hq _ _ _ q)
theorem AWp.skip {nt : Nat} {Q : Exit → Env → AH → Prop} (h : Q .normal env H) : AWp P nt .skip Q env H := fun β w a K S hK => wp_skip (hK _ _ _ _ _ _ h S (.refl _ _ _) (Nat.le_refl _))
theorem AWp.label {nt : Nat} {Q : Exit → Env → AH → Prop} {l : Nat} (h : Q .normal env H) : AWp P nt (.label l) Q env H := fun β w a K S hK => wp_label (hK _ _ _ _ _ _ h S (.refl _ _ _) (Nat.le_refl _))
theorem AWp.exit {nt : Nat} {Q : Exit → Env → AH → Prop} {id : Nat} (h : Q (.exit id) env H) : AWp P nt (.exit id) Q env H := fun β w a K S hK => wp_exit (hK _ _ _ _ _ _ h S (.refl _ _ _) (Nat.le_refl _))
theorem AWp.ret {nt : Nat} {Q : Exit → Env → AH → Prop} (h : Q .ret env H) : AWp P nt .ret Q env H := fun β w a K S hK => wp_ret (hK _ _ _ _ _ _ h S (.refl _ _ _) (Nat.le_refl _))
def andThen (N : Env → AH → Prop) (Q : Exit → Env → AH → Prop) : Exit → Env → AH → Prop
  | .normal, e, H => N e H
  | x, e, H => Q x e H
theorem AWp.seq {nt : Nat} {x y : Code} {Q : Exit → Env → AH → Prop} (h : AWp P nt x (andThen (AWp P nt y Q) Q) env H) : AWp P nt (.seq x y) Q env H := by
  intro β w a K S hK
  refine wp_seq (h β w a _ S ?_)
  intro e env' H' β' a' w' q S' E hl
  cases e with
  | normal =>
    refine q β' w' a' K S' ?_
    intro e2 env2 H2 β2 a2 w2 q2 S2 E2 hl2
    exact hK e2 env2 H2 β2 a2 w2 q2 S2 (E.trans E2 hl) (Nat.le_trans hl hl2)
  | _ => exact hK _ _ _ _ _ _ q S' E hl
theorem AWp.cond {nt : Nat} {c : Operand} {x y : Code} {t : Bool} {Q : Exit → Env → AH → Prop} (hc : aev env c = some (.bool t)) (h : AWp P nt (if t then x else y) Q env H) : AWp P nt (.cond c x y) Q env H :=
  fun β w a K S hK => wp_cond (S.envT.at_ hc).bool (h β w a K S hK)
theorem AWp.block {nt : Nat} {id : Nat} {c : Code} {Q : Exit → Env → AH → Prop} (h : AWp P nt c (fun e env H => match e with
    | .exit id' => if id' = id then Q .normal env H else Q (.exit id') env H
    | e => Q e env H) env H) : AWp P nt (.block id c) Q env H := by
  intro β w a K S hK
  refine wp_block (h β w a _ S ?_)
  intro e env' H' β' a' w' q S' E hl
  cases e with
  | exit id' =>
    by_cases hid : id' = id
    · simp only [hid, if_true, Exit.inBlock] at q ⊢
      exact hK _ _ _ _ _ _ q S' E hl
    · simp only [hid, if_false, Exit.inBlock] at q ⊢
      exact hK _ _ _ _ _ _ q S' E hl
  | _ => exact hK _ _ _ _ _ _ q S' E hl
theorem AWp.loop {nt : Nat} {c : Code} {Q : Exit → Env → AH → Prop} (I : Nat → Env → AH → Prop) (n : Nat) (h0 : I n env H)
    (round : ∀ n env H, I n env H → AWp P nt c (andThen (fun env' H' => ∃ m, m < n ∧ I m env' H') Q) env H) : AWp P nt (.loop c) Q env H := by
  intro β w a K S hK
  refine wp_loop_ghost (fun n a' w' => ∃ env' H' β', I n env' H' ∧ St nt β' env' H' a' w' ∧ Ext H.length β w β' w' ∧ H.length ≤ H'.length) n ⟨env, H, β, h0, S, .refl _ _ _, Nat.le_refl _⟩ ?_
  rintro n a1 w1 ⟨env1, H1, β1, hI, S1, E1, hl1⟩
  refine round n env1 H1 hI β1 w1 a1 _ S1 ?_
  intro e env' H' β' a' w' q S' E hl
  cases e with
  | normal =>
    obtain ⟨m, hm, hI'⟩ := q
    exact ⟨m, hm, env', H', β', hI', S', E1.trans E hl1, Nat.le_trans hl1 hl⟩
  | _ => exact hK _ _ _ _ _ _ q S' (E1.trans E hl1) (Nat.le_trans hl1 hl)
theorem ops_sound {nt : Nat} {ops : Array Oper} {Q : Exit → Env → AH → Prop} {K : Exit → Act → World → Prop} : ∀ (l : List Oper) (k : Nat) (env : Env) (H : AH) (β : BM) (a : Act) (w : World), ops.toList.drop k = l → St nt β env H a w →
    ARun P nt ops (fun env' H' => Q .normal env' H') l env H → (∀ env' H' β' a' w', Q .normal env' H' → St nt β' env' H' a' w' → Ext H.length β w β' w' → H.length ≤ H'.length → K .normal a' w') →
    wpOps P ops K (List.range' k l.length) a w
  | [], k, env, H, β, a, w, _, S, h, hK => hK env H β a w h S (.refl _ _ _) (Nat.le_refl _)
  | o :: r, k, env, H, β, a, w, hd, S, h, hK => by
    have hk : ops[k]? = some o := by
      have : (ops.toList.drop k)[0]? = some o := by rw [hd]; rfl
      rw [List.getElem?_drop, Nat.add_zero, Array.getElem?_toList] at this
      exact this
    have hd' : ops.toList.drop (k + 1) = r := by
      have := congrArg List.tail hd
      simpa [List.tail_drop] using this
    simp only [ARun] at h
    simp only [List.length_cons, List.range'_succ, wpOps, hk]
    split at h
    case isFalse => exact h.elim
    rename_i hok
    rw [ayield_eq S.envT hok.2]
    split
    · rename_i hw
      rw [if_pos hw] at h
      refine .inl (step_sound S hok.1 h ?_)
      intro v H1 β1 v' w1 hk1 S1 E1 hl1
      refine ops_sound r (k + 1) _ H1 β1 _ w1 hd' S1 hk1 ?_
      intro env2 H2 β2 a2 w2 q S2 E2 hl2
      exact hK env2 H2 β2 a2 w2 q S2 (E1.trans E2 hl1) (Nat.le_trans hl1 hl2)
    · rename_i hw
      rw [if_neg hw] at h
      refine ops_sound r (k + 1) _ H β _ w hd' ⟨S.rel, S.wf, S.envT.put S.size undef_T3 _ hok.1, S.er.put R3_undef _, by rw [Act.put_size]; exact S.size, by rw [Act.put_defers]; exact S.defers⟩ h hK
theorem AWp.region {nt : Nat} {id : Nat} {ops : Array Oper} {Q : Exit → Env → AH → Prop} (h : ARun P nt ops (fun env H => Q .normal env H) ops.toList env H) : AWp P nt (.region id ops false) Q env H := by
  intro β w a K S hK
  refine wp_region ?_
  have e : List.range ops.size = List.range' 0 ops.toList.length := by rw [List.range_eq_range']; simp
  rw [e]
  exact ops_sound ops.toList 0 env H β a w rfl S h fun env' H' β' a' w' q S' E hl => hK _ _ _ _ _ _ q S' E hl

def aresults (P : Program) (H : AH) (env : Env) : List ResultVar → Option (List Value)
  | [] => some []
  | r :: rs => match (match r with
      | .tmp t => env t
      | .cell p t => (env p).bind (aLoad P H t)), aresults P H env rs with
    | some v, some vs => if isTup v then none else some (v :: vs)
    | _, _ => none
def packed (vs : List Value) : Value := match vs with
  | [v] => v
  | vs => .tuple vs.toArray
def resSem (tmps : Array Value) : ResultVar → Sem Value
  | .tmp t => pure (tmps.getD t undef)
  | .cell p t => do loadVar t (← asAddr (tmps.getD p undef))
theorem results_sound {nt : Nat} (S : St nt β env H a w) : ∀ {rs : List ResultVar} {vs : List Value}, aresults P H env rs = some vs →
    ∃ vs', All2 (T2 β) vs vs' ∧ (rs.mapM (m := Sem) (resSem a.tmps)).run P w = .ok vs' w
  | [], vs, h => by cases h; exact ⟨[], .nil, by simp⟩
  | r :: rs, vs, h => by
    simp only [aresults] at h
    split at h
    · rename_i v us hv hus
      split at h
      · cases h
      · rename_i ht
        cases h
        obtain ⟨us', hu, hr⟩ := results_sound S hus
        cases r with
        | tmp t =>
          simp only at hv
          obtain ⟨v', hv', t3⟩ := S.envT t v hv
          refine ⟨v' :: us', .cons (t3.two (by simpa using ht)) hu, ?_⟩
          simp [List.mapM_cons, Sem.run_bind, resSem, hr, hv']
        | cell p t =>
          simp only at hv
          obtain ⟨pv, hp, hl⟩ := Option.bind_eq_some_iff.1 hv
          obtain ⟨p', hp', t3⟩ := S.envT p pv hp
          obtain ⟨v', h1, h2⟩ := aLoad_sound (P := P) S.rel hl t3
          refine ⟨v' :: us', .cons h2 hu, ?_⟩
          have h3 : p' = .pointer none ∨ (∃ q, p' = .pointer (some q)) := by
            unfold aLoad at hl
            split at hl
            · split at hl
              · rename_i ha _ _
                obtain ⟨l, _, _, rfl⟩ := t3.ptr S.rel ha
                exact .inr ⟨_, rfl⟩
              · rename_i ha _ _
                obtain ⟨l, _, _, rfl⟩ := t3.ptr S.rel ha
                exact .inr ⟨_, rfl⟩
              · cases hl
            · cases hl
          rcases h3 with rfl | ⟨q, rfl⟩
          · simp [Instr.loadAt, Instr.sureAddr] at h1
          · have h4 : (loadVar t q).run P w = .ok v' w := by simpa [Instr.loadAt, Instr.sureAddr] using h1
            simp [List.mapM_cons, Sem.run_bind, resSem, hr, hp', asAddr, h4]
    · cases h
theorem results_eq (fn : Func) (tmps : Array Value) : results fn tmps = (do
    let vs ← fn.results.mapM (resSem tmps)
    pure (if h : vs.size = 1 then vs[0] else .tuple vs)) := by
  unfold results
  have : ∀ (f g : ResultVar → Sem Value), f = g → (do
    let vs ← fn.results.mapM f
    pure (if h : vs.size = 1 then vs[0] else Value.tuple vs) : Sem Value) = (do
    let vs ← fn.results.mapM g
    pure (if h : vs.size = 1 then vs[0] else Value.tuple vs)) := fun f g h => by rw [h]
  exact this _ _ (by funext r; cases r <;> rfl)
theorem results_run {nt : Nat} (S : St nt β env H a w) {fn : Func} {vs : List Value} (h : aresults P H env fn.results.toList = some vs) : ∃ v', (results fn a.tmps).run P w = .ok v' w ∧ T3 β (packed vs) v' := by
  obtain ⟨vs', hv, hr⟩ := results_sound S h
  have e : (fn.results.mapM (m := Sem) (resSem a.tmps)).run P w = .ok vs'.toArray w := by
    rw [Array.mapM_eq_mapM_toList]
    simp [hr]
  rw [results_eq]
  rw [Sem.run_bind, e]
  simp only [Result.andThen_ok, Sem.run_pure]
  cases hv with
  | nil => exact ⟨_, rfl, .tup .nil⟩
  | cons h1 h2 =>
    cases h2 with
    | nil => exact ⟨_, rfl, .one h1⟩
    | cons h2 h3 => exact ⟨_, rfl, .tup (.cons h1 (.cons h2 h3))⟩
end

end Go.Proofs.Ytdbflchpbhkanaa.AL

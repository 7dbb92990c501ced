/- AL, part 0: an abstract heap (objects with numbers and generations), its relation to a real world, and how facts stay. No condition. -/
import Derived.Orders
import Derived.Below
import Derived.Laws.Append
import Derived.Laws.CopyRow
import Derived.Laws.Tables
import Derived.Laws.Rows
import Derived.Laws.AppendOwn
namespace Go.Proofs.Ytbckijeffiofdaa.AL
open Go Go.RowKit
set_option linter.unusedVariables false
set_option linter.unusedSimpArgs false

/-- Two lists, pair by pair. -/
inductive All2 {α β : Type} (R : α → β → Prop) : List α → List β → Prop
  | nil : All2 R [] []
  | cons {a b l m} : R a b → All2 R l m → All2 R (a :: l) (b :: m)
theorem All2.length {α β : Type} {R : α → β → Prop} {l : List α} {m : List β} (h : All2 R l m) : l.length = m.length := by
  induction h with
  | nil => rfl
  | cons _ _ ih => simp [ih]
theorem All2.get {α β : Type} {R : α → β → Prop} {l : List α} {m : List β} (h : All2 R l m) : ∀ (i : Nat) (a : α), l[i]? = some a → ∃ b, m[i]? = some b ∧ R a b := by
  induction h with
  | nil => intro i a h; simp at h
  | cons hr _ ih =>
    intro i a h
    cases i with
    | zero => simp only [List.getElem?_cons_zero, Option.some.injEq] at h; subst h; exact ⟨_, rfl, hr⟩
    | succ i => simp only [List.getElem?_cons_succ] at h; exact ih i a h
theorem All2.of_get {α β : Type} {R : α → β → Prop} : ∀ {l : List α} {m : List β}, l.length = m.length → (∀ (i : Nat) (a : α) (b : β), l[i]? = some a → m[i]? = some b → R a b) → All2 R l m
  | [], [], _, _ => .nil
  | [], _ :: _, h, _ => by simp at h
  | _ :: _, [], h, _ => by simp at h
  | a :: l, b :: m, h, g => .cons (g 0 a b rfl rfl) (All2.of_get (by simpa using h) (fun i x y hx hy => g (i + 1) x y (by simpa using hx) (by simpa using hy)))
theorem All2.imp {α β : Type} {R S : α → β → Prop} {l : List α} {m : List β} (h : All2 R l m) (g : ∀ a b, R a b → S a b) : All2 S l m := by
  induction h with
  | nil => exact .nil
  | cons hr _ ih => exact .cons (g _ _ hr) ih
theorem All2.append {α β : Type} {R : α → β → Prop} {l l' : List α} {m m' : List β} (h : All2 R l m) (h' : All2 R l' m') : All2 R (l ++ l') (m ++ m') := by
  induction h with
  | nil => exact h'
  | cons hr _ ih => exact .cons hr ih
theorem All2.take {α β : Type} {R : α → β → Prop} {l : List α} {m : List β} (h : All2 R l m) : ∀ n, All2 R (l.take n) (m.take n) := by
  induction h with
  | nil => intro n; simp; exact .nil
  | cons hr _ ih =>
    intro n
    cases n with
    | zero => exact .nil
    | succ n => simpa using .cons hr (ih n)
theorem All2.drop {α β : Type} {R : α → β → Prop} {l : List α} {m : List β} (h : All2 R l m) : ∀ n, All2 R (l.drop n) (m.drop n) := by
  induction h with
  | nil => intro n; simp; exact .nil
  | cons hr h ih =>
    intro n
    cases n with
    | zero => exact .cons hr h
    | succ n => simpa using ih n
theorem All2.mem {α β : Type} {R : α → β → Prop} {l : List α} {m : List β} (h : All2 R l m) {b : β} (hb : b ∈ m) : ∃ a ∈ l, R a b := by
  induction h with
  | nil => cases hb
  | cons hr _ ih =>
    cases hb with
    | head => exact ⟨_, .head _, hr⟩
    | tail _ hb => obtain ⟨a, ha, h⟩ := ih hb; exact ⟨a, .tail _ ha, h⟩
theorem All2.replicate {α β : Type} {R : α → β → Prop} {a : α} {b : β} (h : R a b) : ∀ n, All2 R (List.replicate n a) (List.replicate n b)
  | 0 => .nil
  | n + 1 => .cons h (All2.replicate h n)
theorem All2.same {α : Type} {R : α → α → Prop} : ∀ {l : List α}, (∀ a ∈ l, R a a) → All2 R l l
  | [], _ => .nil
  | a :: l, h => .cons (h a (by simp)) (All2.same (fun x hx => h x (by simp [hx])))

/-- An abstract object: its cells, the type that its real block bears, the cells of an element, its generation, and whether it is only read. -/
structure AO where
  cells : List Value
  elem : TypeId
  sz : Nat
  gen : Nat
  ro : Bool
abbrev AH := List AO
/-- Where an object lies in the real heap. -/
structure Loc where
  b : Nat
  base : Nat
  fin : Nat
  sz : Nat
  gen : Nat
  ro : Bool
abbrev BM := Nat → Option Loc

/-- Values that mean the same in both. -/
def plainV : Value → Bool
  | .bool _ | .int _ _ | .string _ | .nilFunc | .nilIface | .pointer none => true
  | .slice none n c => n == 0 && c == 0
  | .func _ a b => a.isEmpty && b.isEmpty
  | _ => false
/-- One cell's value, no function that captures. -/
inductive T0 (β : BM) : Value → Value → Prop
  | plain {v} : plainV v = true → T0 β v v
  | ptr {i off g l} : β i = some l → l.gen = g → T0 β (.pointer (some ⟨i, off, some g⟩)) (.pointer (some ⟨l.b, l.base + off, none⟩))
  | ptrOld {i off g l x} : β i = some l → g < l.gen → T0 β (.pointer (some ⟨i, off, some g⟩)) (.pointer x)
  | sl {i off g l n c a c'} : β i = some l → l.gen = g → n ≤ c' → (c = n → c' = n) → (c' = 0 ∨ (a = ⟨l.b, l.base + off, none⟩ ∧ l.base + off + c' * l.sz ≤ l.fin)) → T0 β (.slice (some ⟨i, off, some g⟩) n c) (.slice (some a) n c')
  | slOld {i off g l n c a n' c'} : β i = some l → g < l.gen → T0 β (.slice (some ⟨i, off, some g⟩) n c) (.slice a n' c')
/-- One cell's value. -/
inductive T1 (β : BM) : Value → Value → Prop
  | one {v v'} : T0 β v v' → T1 β v v'
  | fn {f cs cs'} : All2 (T0 β) cs cs' → T1 β (.func f #[] cs.toArray) (.func f #[] cs'.toArray)
/-- A value: one cell or a row of them. -/
inductive T2 (β : BM) : Value → Value → Prop
  | one {v v'} : T1 β v v' → T2 β v v'
  | agg {cs cs'} : All2 (T1 β) cs cs' → T2 β (.agg cs.toArray) (.agg cs'.toArray)
/-- A temporary's content: a value or several results. -/
inductive T3 (β : BM) : Value → Value → Prop
  | one {v v'} : T2 β v v' → T3 β v v'
  | tup {vs vs'} : All2 (T2 β) vs vs' → T3 β (.tuple vs.toArray) (.tuple vs'.toArray)

/-- References below a number: of what a function has captured. -/
def R00 (n : Nat) : Value → Bool
  | .pointer (some a) => decide (a.block < n)
  | .slice (some a) _ _ => decide (a.block < n)
  | .agg _ | .tuple _ => false
  | .func _ _ cs => cs.isEmpty
  | _ => true
/-- References below a number. -/
def R0 (n : Nat) : Value → Bool
  | .pointer (some a) => decide (a.block < n)
  | .slice (some a) _ _ => decide (a.block < n)
  | .agg _ | .tuple _ => false
  | .func _ _ cs => cs.all (R00 n)
  | _ => true
def R2 (n : Nat) : Value → Bool
  | .agg cs => cs.all (R0 n)
  | v => R0 n v
def R3 (n : Nat) : Value → Bool
  | .tuple vs => vs.all (R2 n)
  | v => R2 n v
/-- A well-formed heap: each cell is one cell and refers to objects that are there. -/
def WF (H : AH) : Prop := ∀ o ∈ H, ∀ c ∈ o.cells, R0 H.length c = true

/-- The relation: what the abstract heap says of the real one. -/
structure Rel (β : BM) (H : AH) (w : World) : Prop where
  dom : ∀ i, H.length ≤ i → β i = none
  loc : ∀ i l, β i = some l → l.b < w.heap.size
  inj : ∀ i j l m, β i = some l → β j = some m → i ≠ j → l.b = m.b → l.ro = true ∧ m.ro = true
  obj : ∀ i o l, H[i]? = some o → β i = some l → l.gen = o.gen ∧ l.sz = o.sz ∧ l.ro = o.ro ∧ l.base + o.cells.length ≤ l.fin ∧
    (∀ j c, o.cells[j]? = some c → ∃ v, w.cell? ⟨l.b, l.base + j, none⟩ = some v ∧ T1 β c v) ∧
    (o.ro = false → ∃ arr : Array Value, w.heap[l.b]? = some (.cells arr o.elem (0, 0)) ∧ arr.size = l.fin)

/-- How a step may turn things: N: so many objects were there. -/
structure Ext (N : Nat) (β : BM) (w : World) (β' : BM) (w' : World) : Prop where
  os : w'.os = w.os
  tape : w'.tape = w.tape
  output : w'.output = w.output
  size : w.heap.size ≤ w'.heap.size
  keep : ∀ b, b < w.heap.size → (∀ i l, β i = some l → l.b = b → l.ro = true) → w'.heap[b]? = w.heap[b]?
  mono : ∀ i l, β i = some l → ∃ l', β' i = some l' ∧ l'.sz = l.sz ∧ l'.ro = l.ro ∧ (l' = l ∨ l.gen < l'.gen)
  hole : ∀ i, i < N → β i = none → β' i = none
  fresh : ∀ i l', β' i = some l' → (∃ l, β i = some l ∧ l.b = l'.b ∧ l.ro = l'.ro) ∨ w.heap.size ≤ l'.b

theorem Ext.refl (N : Nat) (β : BM) (w : World) : Ext N β w β w :=
  ⟨rfl, rfl, rfl, Nat.le_refl _, fun _ _ _ => rfl, fun i l h => ⟨l, h, rfl, rfl, .inl rfl⟩, fun _ _ h => h, fun i l h => .inl ⟨l, h, rfl, rfl⟩⟩
theorem Ext.trans {N N' : Nat} {β β' β'' : BM} {w w' w'' : World} (h : Ext N β w β' w') (k : Ext N' β' w' β'' w'') (hN : N ≤ N') : Ext N β w β'' w'' where
  os := k.os.trans h.os
  tape := k.tape.trans h.tape
  output := k.output.trans h.output
  size := Nat.le_trans h.size k.size
  keep := fun b hb hr => by
    rw [k.keep b (Nat.lt_of_lt_of_le hb h.size) ?_, h.keep b hb hr]
    intro i l' hl he
    rcases h.fresh i l' hl with ⟨l, hl0, e1, e2⟩ | hge
    · rw [← e2]; exact hr i l hl0 (e1.trans he)
    · omega
  mono := fun i l hl => by
    obtain ⟨l', h1, h2, h3, h4⟩ := h.mono i l hl
    obtain ⟨l'', k1, k2, k3, k4⟩ := k.mono i l' h1
    refine ⟨l'', k1, k2.trans h2, k3.trans h3, ?_⟩
    rcases h4 with rfl | h4
    · exact k4
    · rcases k4 with rfl | k4
      · exact .inr h4
      · exact .inr (Nat.lt_trans h4 k4)
  hole := fun i hi hn => k.hole i (Nat.lt_of_lt_of_le hi hN) (h.hole i hi hn)
  fresh := fun i l'' hl => by
    rcases k.fresh i l'' hl with ⟨l', hl', e1, e2⟩ | hge
    · rcases h.fresh i l' hl' with ⟨l, hl0, e3, e4⟩ | hge
      · exact .inl ⟨l, hl0, e3.trans e1, e4.trans e2⟩
      · exact .inr (by omega)
    · exact .inr (Nat.le_trans h.size hge)
theorem Ext.lower {N N' : Nat} {β β' : BM} {w w' : World} (h : Ext N' β w β' w') (hN : N ≤ N') : Ext N β w β' w' := { h with hole := fun i hi => h.hole i (Nat.lt_of_lt_of_le hi hN) }

section mono
variable {N : Nat} {β β' : BM} {w w' : World}
theorem T0.ext (h : Ext N β w β' w') {v v' : Value} (t : T0 β v v') : T0 β' v v' := by
  cases t with
  | plain hp => exact .plain hp
  | ptr hl hg =>
    obtain ⟨l', h1, h2, h3, h4⟩ := h.mono _ _ hl
    rcases h4 with rfl | h4
    · exact .ptr h1 hg
    · exact .ptrOld h1 (hg ▸ h4)
  | ptrOld hl hg =>
    obtain ⟨l', h1, h2, h3, h4⟩ := h.mono _ _ hl
    rcases h4 with rfl | h4
    · exact .ptrOld h1 hg
    · exact .ptrOld h1 (Nat.lt_trans hg h4)
  | sl hl hg hn hc ha =>
    obtain ⟨l', h1, h2, h3, h4⟩ := h.mono _ _ hl
    rcases h4 with rfl | h4
    · exact .sl h1 hg hn hc ha
    · exact .slOld h1 (hg ▸ h4)
  | slOld hl hg =>
    obtain ⟨l', h1, h2, h3, h4⟩ := h.mono _ _ hl
    rcases h4 with rfl | h4
    · exact .slOld h1 hg
    · exact .slOld h1 (Nat.lt_trans hg h4)
theorem T1.ext (h : Ext N β w β' w') {v v' : Value} (t : T1 β v v') : T1 β' v v' := by
  cases t with
  | one t => exact .one (t.ext h)
  | fn t => exact .fn (t.imp fun _ _ => T0.ext h)
theorem T2.ext (h : Ext N β w β' w') {v v' : Value} (t : T2 β v v') : T2 β' v v' := by
  cases t with
  | one t => exact .one (t.ext h)
  | agg t => exact .agg (t.imp fun _ _ => T1.ext h)
theorem T3.ext (h : Ext N β w β' w') {v v' : Value} (t : T3 β v v') : T3 β' v v' := by
  cases t with
  | one t => exact .one (t.ext h)
  | tup t => exact .tup (t.imp fun _ _ => T2.ext h)
end mono

theorem T0.oneCell {β : BM} {v v' : Value} (t : T0 β v v') : v'.oneCell' = true := by
  cases t with
  | plain hp => cases v <;> simp_all [plainV, Value.oneCell']
  | _ => rfl
theorem T1.oneCell {β : BM} {v v' : Value} (t : T1 β v v') : v'.oneCell' = true := by
  cases t with
  | one t => exact t.oneCell
  | fn _ => rfl
theorem T1.cells {β : BM} {v v' : Value} (t : T1 β v v') : v'.cells = #[v'] := by
  have h := t.oneCell
  cases v' <;> first | rfl | simp [Value.oneCell'] at h
theorem T0.cellsA {β : BM} {v v' : Value} (t : T0 β v v') : v.cells = #[v] := by
  cases t with
  | plain hp => cases v <;> simp_all [plainV, Value.cells]
  | _ => rfl
theorem T1.cellsA {β : BM} {v v' : Value} (t : T1 β v v') : v.cells = #[v] := by
  cases t with
  | one t => exact t.cellsA
  | fn _ => rfl
theorem T2.cells {β : BM} {v v' : Value} (t : T2 β v v') : All2 (T1 β) v.cells.toList v'.cells.toList := by
  cases t with
  | one t => rw [t.cells, t.cellsA]; exact .cons t .nil
  | agg t => exact t

/-- Only ids below the number stay. -/
def cut (n : Nat) (β : BM) : BM := fun i => if i < n then β i else none
theorem R0_lt {n : Nat} {i off g : Nat} (h : R0 n (.pointer (some ⟨i, off, some g⟩)) = true) : i < n := by simpa [R0] using h
theorem R0_lts {n : Nat} {i off g m c : Nat} (h : R0 n (.slice (some ⟨i, off, some g⟩) m c) = true) : i < n := by simpa [R0] using h
theorem T0.cut {β : BM} {n : Nat} {v v' : Value} (t : T0 β v v') (h : R0 n v = true) : T0 (cut n β) v v' := by
  cases t with
  | plain hp => exact .plain hp
  | ptr hl hg => exact .ptr (by simpa [AL.cut, R0_lt h] using hl) hg
  | ptrOld hl hg => exact .ptrOld (by simpa [AL.cut, R0_lt h] using hl) hg
  | sl hl hg hn hc ha => exact .sl (by simpa [AL.cut, R0_lts h] using hl) hg hn hc ha
  | slOld hl hg => exact .slOld (by simpa [AL.cut, R0_lts h] using hl) hg

end Go.Proofs.Ytbckijeffiofdaa.AL

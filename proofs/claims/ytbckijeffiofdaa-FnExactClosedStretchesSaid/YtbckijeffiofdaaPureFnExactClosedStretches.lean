import Derived.Test.YtbckijeffiofdaaWWords
import Derived.Test.YtbckijeffiofdaaF133
import Derived.Test.YtbckijeffiofdaaF134
import Derived.Test.YtbckijeffiofdaaF89
import Derived.Test.YtbckijeffiofdaaF90
import Derived.Test.YtbckijeffiofdaaF92
import Derived.Test.YtbckijeffiofdaaF93
import Derived.Test.YtbckijeffiofdaaF100
import Derived.Test.YtbckijeffiofdaaF101
import Derived.Test.YtbckijeffiofdaaGShortest
import Derived.Test.YtbckijeffiofdaaF25
import Derived.Test.YtbckijeffiofdaaF23
import Derived.Test.YtbckijeffiofdaaF21
import Derived.Test.YtbckijeffiofdaaF33
import Derived.Test.YtbckijeffiofdaaF38
import Derived.Test.YtbckijeffiofdaaGMarkSS
import Derived.Test.YtbckijeffiofdaaF32
import Derived.Test.YtbckijeffiofdaaF35
import Derived.Test.YtbckijeffiofdaaGLawClosedStretches
/- Small laws on 'from some number of rounds on'. -/
namespace Go.Proofs.Ytbckijeffiofdaa.EvKit
open Go.RowKit Go.Proofs.YtbckijeffiofdaaW.PrintWords

theorem pos {α : Type} {c : Prop} [Decidable c] {A B : Nat → Option α} {r : α} (h : c) (e : Ev A r) : Ev (fun k => if c then A k else B k) r := by
  simp only [if_pos h]; exact e
theorem neg {α : Type} {c : Prop} [Decidable c] {A B : Nat → Option α} {r : α} (h : ¬ c) (e : Ev B r) : Ev (fun k => if c then A k else B k) r := by
  simp only [if_neg h]; exact e
theorem got {α β : Type} {a : Option α} {x : α} {f : Nat → α → Option β} {r : β} (h : a = some x) (e : Ev (fun k => f k x) r) : Ev (fun k => a.bind (f k)) r := by
  subst h; exact e
theorem eq {α : Type} {g : Nat → Option α} {r r' : α} (h : r = r') (e : Ev g r) : Ev g r' := h ▸ e
theorem uniq {α : Type} {g : Nat → Option α} {r r' : α} (h : Ev g r) (h' : Ev g r') : r = r' := by
  obtain ⟨K, h⟩ := h
  obtain ⟨K', h'⟩ := h'
  have a := h (max K K') (by omega)
  have b := h' (max K K') (by omega)
  rw [a] at b
  exact Option.some.inj b

theorem wr {x : Int} (h0 : -9223372036854775808 ≤ x) (h1 : x ≤ 9223372036854775807) : wrap64 x = x := by
  unfold wrap64; omega

end Go.Proofs.Ytbckijeffiofdaa.EvKit

/- Arch systems: the check by pairs and the check by a stack tell the same (plain mathematics). -/
namespace Go.Proofs.Ytbckijeffiofdaa.Arch

def gt (xs : List Int) (i : Int) : Int := xs.getD i.toNat 0

/-- What both checks say. -/
structure ArcS (p : List Int) : Prop where
  lo : ∀ i : Int, 0 ≤ i → i < p.length → 0 ≤ gt p i
  hi : ∀ i : Int, 0 ≤ i → i < p.length → gt p i < p.length
  ne : ∀ i : Int, 0 ≤ i → i < p.length → gt p i ≠ i
  inv : ∀ i : Int, 0 ≤ i → i < p.length → gt p (gt p i) = i
  cr : ∀ a b : Int, 0 ≤ a → a < p.length → a < b → b < gt p a → a ≤ gt p b ∧ gt p b ≤ gt p a

/-- The stack check, from point i on, d points left. -/
def okFrom (p : List Int) : Nat → Int → List Int → Bool
  | 0, _, _ => true
  | d + 1, i, O =>
    if gt p i > i ∧ gt p (gt p i) = i then okFrom p d (i + 1) (i :: O)
    else if gt p i < i then
      match O with
      | [] => false
      | j :: O' => if j = gt p i then okFrom p d (i + 1) O' else false
    else false


def openAt (p : List Int) (i : Int) : Nat → List Int
  | 0 => []
  | m + 1 => if gt p m ≥ i then (m : Int) :: openAt p i m else openAt p i m

theorem mem_openAt (p : List Int) (i : Int) : ∀ (m : Nat) (a : Int), a ∈ openAt p i m ↔ 0 ≤ a ∧ a < m ∧ gt p a ≥ i := by
  intro m
  induction m with
  | zero => intro a; simp [openAt]; omega
  | succ m ih =>
    intro a
    unfold openAt
    split
    · rename_i h
      rw [List.mem_cons, ih]
      constructor
      · rintro (rfl | h')
        · exact ⟨by omega, by omega, h⟩
        · exact ⟨h'.1, by omega, h'.2.2⟩
      · rintro ⟨h0, h1, h2⟩
        by_cases e : a = m
        · exact .inl e
        · exact .inr ⟨h0, by omega, h2⟩
    · rename_i h
      rw [ih]
      constructor
      · rintro h'
        exact ⟨h'.1, by omega, h'.2.2⟩
      · rintro ⟨h0, h1, h2⟩
        refine ⟨h0, ?_, h2⟩
        by_cases e : a = m
        · subst e; exact absurd h2 h
        · omega

theorem openAt_cons (p : List Int) (i : Int) (m : Nat) (h : gt p m ≥ i) : openAt p i (m + 1) = (m : Int) :: openAt p i m := by
  rw [openAt, if_pos h]

theorem openAt_skip (p : List Int) (i : Int) (m : Nat) (h : ¬ gt p m ≥ i) : openAt p i (m + 1) = openAt p i m := by
  rw [openAt, if_neg h]

/-- If below m nobody's end is i, the bound may be raised. -/
theorem openAt_raise (p : List Int) (i : Int) : ∀ m : Nat, (∀ a : Int, 0 ≤ a → a < m → gt p a ≠ i) → openAt p (i + 1) m = openAt p i m := by
  intro m
  induction m with
  | zero => intro _; rfl
  | succ m ih =>
    intro h
    have h1 := h m (by omega) (by omega)
    have h2 := ih (fun a h0 h1 => h a h0 (by omega))
    unfold openAt
    by_cases c : gt p m ≥ i
    · rw [if_pos c, if_pos (by omega), h2]
    · rw [if_neg c, if_neg (by omega), h2]

/-- If above j nobody below m is open at i, and j is, j is the head; and behind its end it is gone. -/
theorem openAt_head (p : List Int) (i j : Int) (hj : gt p j = i) (h0 : 0 ≤ j) : ∀ m : Nat, j < m → (∀ a : Int, j < a → a < m → ¬ gt p a ≥ i) → (∀ a : Int, 0 ≤ a → a < m → gt p a = i → a = j) →
    openAt p i m = j :: openAt p (i + 1) m := by
  intro m
  induction m with
  | zero => intro h; omega
  | succ m ih =>
    intro hm ha hu
    by_cases e : j = m
    · subst e
      rw [openAt_cons p i m (by omega), openAt_skip p (i + 1) m (by omega), openAt_raise p i m]
      intro a h0 h1 h2
      have := hu a h0 (by omega) h2
      omega
    · have c := ha m (by omega) (by omega)
      rw [openAt_skip p i m c, openAt_skip p (i + 1) m (by omega)]
      exact ih (by omega) (fun a h1 h2 => ha a h1 (by omega)) (fun a h1 h2 => hu a h1 (by omega))

/-- Of a system the stack check holds. -/
theorem ok_of_sys {p : List Int} (h : ArcS p) : ∀ (d i : Nat), i + d = p.length → okFrom p d i (openAt p i i) = true := by
  intro d
  induction d with
  | zero => intro i _; rfl
  | succ d ih =>
    intro i hi
    have hlt : (i : Int) < p.length := by omega
    have hl := h.lo i (by omega) hlt
    have hh := h.hi i (by omega) hlt
    have hn := h.ne i (by omega) hlt
    have hv := h.inv i (by omega) hlt
    have next := ih (i + 1) (by omega)
    unfold okFrom
    by_cases c : gt p i > i
    · rw [if_pos ⟨c, hv⟩]
      have e : openAt p ((i + 1 : Nat) : Int) (i + 1) = (i : Int) :: openAt p i i := by
        rw [openAt_cons _ _ _ (by omega)]
        congr 1
        have := openAt_raise p i i (fun a h0 h1 h2 => by
          have := h.inv a h0 (by omega)
          rw [h2] at this
          omega)
        exact this
      rw [e] at next
      exact next
    · rw [if_neg (fun q => c q.1), if_pos (by omega)]
      have e := openAt_head p i (gt p i) hv hl i (by omega) (fun a h1 h2 h3 => by
          have := h.cr (gt p i) a hl hh h1 (by omega)
          have h4 : gt p a = i := by omega
          have := h.inv a (by omega) (by omega)
          rw [h4] at this
          omega) (fun a h0 h1 h2 => by
          have := h.inv a h0 (by omega)
          rw [h2] at this
          omega)
      rw [e]
      simp only [if_true]
      have e2 : openAt p ((i + 1 : Nat) : Int) (i + 1) = openAt p ((i : Int) + 1) i := openAt_skip _ _ _ (by omega)
      rw [e2] at next
      exact next

/-- The number of open points has the parity of the place. -/
theorem open_len {p : List Int} (h : ArcS p) : ∀ i : Nat, i ≤ p.length → (openAt p i i).length % 2 = i % 2 := by
  intro i
  induction i with
  | zero => intro _; rfl
  | succ i ih =>
    intro hi
    have ih := ih (by omega)
    have hlt : (i : Int) < p.length := by omega
    have hl := h.lo i (by omega) hlt
    have hh := h.hi i (by omega) hlt
    have hn := h.ne i (by omega) hlt
    have hv := h.inv i (by omega) hlt
    by_cases c : gt p i > i
    · have e : openAt p ((i + 1 : Nat) : Int) (i + 1) = (i : Int) :: openAt p i i := by
        rw [openAt_cons _ _ _ (by omega)]
        congr 1
        have := openAt_raise p i i (fun a h0 h1 h2 => by
          have := h.inv a h0 (by omega)
          rw [h2] at this
          omega)
        exact this
      rw [e, List.length_cons]
      omega
    · have e := openAt_head p i (gt p i) hv hl i (by omega) (fun a h1 h2 h3 => by
          have := h.cr (gt p i) a hl hh h1 (by omega)
          have h4 : gt p a = i := by omega
          have := h.inv a (by omega) (by omega)
          rw [h4] at this
          omega) (fun a h0 h1 h2 => by
          have := h.inv a h0 (by omega)
          rw [h2] at this
          omega)
      have e2 : openAt p ((i + 1 : Nat) : Int) (i + 1) = openAt p ((i : Int) + 1) i := openAt_skip _ _ _ (by omega)
      rw [e, List.length_cons] at ih
      rw [e2]
      omega

theorem even_of_sys {p : List Int} (h : ArcS p) : p.length % 2 = 0 := by
  have h1 := open_len h p.length (Nat.le_refl _)
  have h2 : openAt p p.length p.length = [] := by
    cases e : openAt p p.length p.length with
    | nil => rfl
    | cons a l =>
      have : a ∈ openAt p p.length p.length := by rw [e]; exact List.mem_cons_self
      rw [mem_openAt] at this
      have := h.hi a this.1 this.2.1
      omega
  rw [h2] at h1
  simpa using h1.symm

/-- What the stack holds while the check holds: openers, the last one first. -/
structure Stk (p : List Int) (i : Int) (O : List Int) : Prop where
  dec : O.Pairwise (· > ·)
  lt : ∀ a ∈ O, 0 ≤ a ∧ a < i
  op : ∀ a ∈ O, gt p a > a ∧ gt p (gt p a) = a

/-- Once a point below i is not open it is not the end of any later point: from (i, O) on the check holds. -/
theorem closers (p : List Int) : ∀ (d : Nat) (i : Int) (O : List Int), Stk p i O → 0 ≤ i → okFrom p d i O = true →
    ∀ m : Int, i ≤ m → m < i + d → gt p m < m → gt p m < i → gt p m ∈ O := by
  intro d
  induction d with
  | zero => intro i O _ _ _ m h1 h2; omega
  | succ d ih =>
    intro i O hS hi hok m h1 h2 h3 h4
    unfold okFrom at hok
    by_cases c : gt p i > i ∧ gt p (gt p i) = i
    · rw [if_pos c] at hok
      have hne : m ≠ i := by rintro rfl; omega
      have := ih (i + 1) (i :: O) ⟨List.pairwise_cons.2 ⟨fun a ha => (hS.lt a ha).2, hS.dec⟩, fun a ha => by
        rcases List.mem_cons.1 ha with rfl | ha
        · omega
        · have := hS.lt a ha; omega, fun a ha => by
        rcases List.mem_cons.1 ha with rfl | ha
        · exact c
        · exact hS.op a ha⟩ (by omega) hok m (by omega) (by omega) h3 (by omega)
      rcases List.mem_cons.1 this with e | e
      · omega
      · exact e
    · rw [if_neg c] at hok
      by_cases c2 : gt p i < i
      · rw [if_pos c2] at hok
        match O, hS, hok with
        | [], _, hok => cases hok
        | j :: O', hS, hok =>
          simp only at hok
          by_cases c3 : j = gt p i
          · rw [if_pos c3] at hok
            by_cases e : m = i
            · subst e; rw [← c3]; exact List.mem_cons_self
            · have hd := List.pairwise_cons.1 hS.dec
              have := ih (i + 1) O' ⟨hd.2, fun a ha => by have := hS.lt a (List.mem_cons_of_mem _ ha); omega, fun a ha => hS.op a (List.mem_cons_of_mem _ ha)⟩ (by omega) hok m (by omega) (by omega) h3 (by omega)
              exact List.mem_cons_of_mem _ this
          · rw [if_neg c3] at hok; cases hok
      · rw [if_neg c2] at hok; cases hok


theorem tells (p : List Int) (n : Nat) (hn : n = p.length) (hr : ∀ i : Int, 0 ≤ i → i < n → 0 ≤ gt p i ∧ gt p i < n) : ∀ (d : Nat) (i : Int) (O : List Int), Stk p i O → 0 ≤ i → i + d = n → (∀ a ∈ O, gt p a ≥ i) → okFrom p d i O = true →
    (∀ m : Int, i ≤ m → m < n → gt p m ≠ m ∧ gt p (gt p m) = m) ∧
    (∀ a ∈ O, ∀ b : Int, i ≤ b → b < gt p a → a < gt p b ∧ gt p b < gt p a) ∧
    (∀ a b : Int, i ≤ a → a < n → a < b → b < gt p a → a ≤ gt p b ∧ gt p b ≤ gt p a) := by
  intro d
  induction d with
  | zero =>
    intro i O hS h0 hi hO _
    refine ⟨fun m h1 h2 => by omega, fun a ha b h1 h2 => ?_, fun a b h1 h2 => by omega⟩
    have := hS.lt a ha
    have := (hr a this.1 (by omega)).2
    omega
  | succ d ih =>
    intro i O hS h0 hi hO hok
    have hok0 := hok
    have hri := hr i h0 (by omega)
    unfold okFrom at hok
    by_cases c : gt p i > i ∧ gt p (gt p i) = i
    · rw [if_pos c] at hok
      have hS' : Stk p (i + 1) (i :: O) := ⟨List.pairwise_cons.2 ⟨fun a ha => (hS.lt a ha).2, hS.dec⟩, fun a ha => by
        rcases List.mem_cons.1 ha with rfl | ha
        · omega
        · have := hS.lt a ha; omega, fun a ha => by
        rcases List.mem_cons.1 ha with rfl | ha
        · exact c
        · exact hS.op a ha⟩
      have hO' : ∀ a ∈ i :: O, gt p a ≥ i + 1 := fun a ha => by
        rcases List.mem_cons.1 ha with rfl | ha
        · omega
        · have h1 := hO a ha
          by_cases e : gt p a = i
          · have h2 := (hS.op a ha).2
            rw [e] at h2
            have := (hS.lt a ha).2
            omega
          · omega
      obtain ⟨t1, t2, t3⟩ := ih (i + 1) (i :: O) hS' (by omega) (by omega) hO' hok
      refine ⟨fun m h1 h2 => ?_, fun a ha b h1 h2 => ?_, fun a b h1 h2 h3 h4 => ?_⟩
      · by_cases e : m = i
        · subst e; exact ⟨by omega, c.2⟩
        · exact t1 m (by omega) h2
      · by_cases e : b = i
        · subst e
          have hlt := (hS.lt a ha).2
          refine ⟨by omega, ?_⟩
          -- b opens inside a: its end is inside a's
          rcases Int.lt_or_le (gt p b) (gt p a) with h | h
          · exact h
          · exfalso
            have hbi := t2 b List.mem_cons_self (gt p a)
            by_cases e2 : gt p b = gt p a
            · have h5 := c.2
              rw [e2, (hS.op a ha).2] at h5
              omega
            · have := hbi (by omega) (by omega)
              rw [(hS.op a ha).2] at this
              omega
        · exact t2 a (List.mem_cons_of_mem _ ha) b (by omega) h2
      · by_cases e : a = i
        · subst e
          have := t2 a List.mem_cons_self b (by omega) h4
          omega
        · exact t3 a b (by omega) h2 h3 h4
    · rw [if_neg c] at hok
      by_cases c2 : gt p i < i
      · rw [if_pos c2] at hok
        match O, hS, hO, hok, hok0 with
        | [], _, _, hok, _ => cases hok
        | j :: O', hS, hO, hok, hok0 =>
          simp only at hok
          by_cases c3 : j = gt p i
          · rw [if_pos c3] at hok
            have hd := List.pairwise_cons.1 hS.dec
            have hS' : Stk p (i + 1) O' := ⟨hd.2, fun a ha => by have := hS.lt a (List.mem_cons_of_mem _ ha); omega, fun a ha => hS.op a (List.mem_cons_of_mem _ ha)⟩
            have hj := hS.op j List.mem_cons_self
            have hjl := hS.lt j List.mem_cons_self
            have hjO := hO j List.mem_cons_self
            -- j's end is i: it was open, and is closed here
            have hji : gt p j = i := by
              rcases Int.lt_or_le i (gt p j) with h | h
              · exfalso
                have hrj := hr j hjl.1 (by omega)
                have := closers p d (i + 1) O' hS' (by omega) hok (gt p j) (by omega) (by omega) (by rw [hj.2]; omega) (by rw [hj.2]; omega)
                rw [hj.2] at this
                have := hd.1 j this
                omega
              · omega
            have hO' : ∀ a ∈ O', gt p a ≥ i + 1 := fun a ha => by
              have h1 := hO a (List.mem_cons_of_mem _ ha)
              by_cases e : gt p a = i
              · have h2 := (hS.op a (List.mem_cons_of_mem _ ha)).2
                have := hd.1 a ha
                rw [e, ← c3] at h2
                omega
              · omega
            obtain ⟨t1, t2, t3⟩ := ih (i + 1) O' hS' (by omega) (by omega) hO' hok
            refine ⟨fun m h1 h2 => ?_, fun a ha b h1 h2 => ?_, fun a b h1 h2 h3 h4 => ?_⟩
            · by_cases e : m = i
              · subst e; exact ⟨by omega, by rw [← c3]; exact hji⟩
              · exact t1 m (by omega) h2
            · rcases List.mem_cons.1 ha with rfl | ha'
              · omega
              · by_cases e : b = i
                · subst e
                  have := hd.1 a ha'
                  rw [← c3]
                  omega
                · exact t2 a ha' b (by omega) h2
            · by_cases e : a = i
              · subst e; omega
              · exact t3 a b (by omega) h2 h3 h4
          · rw [if_neg c3] at hok; cases hok
      · rw [if_neg c2] at hok; cases hok

theorem sys_of_ok {p : List Int} (hr : ∀ i : Int, 0 ≤ i → i < p.length → 0 ≤ gt p i ∧ gt p i < p.length) (h : okFrom p p.length 0 [] = true) : ArcS p := by
  obtain ⟨t1, _, t3⟩ := tells p p.length rfl hr p.length 0 [] ⟨List.Pairwise.nil, (fun a ha => by simp at ha), (fun a ha => by simp at ha)⟩ (by omega) (by omega) (fun a ha => by simp at ha) h
  exact ⟨fun i h0 h1 => (hr i h0 h1).1, fun i h0 h1 => (hr i h0 h1).2, fun i h0 h1 => (t1 i h0 h1).1, fun i h0 h1 => (t1 i h0 h1).2, fun a b h0 h1 h2 h3 => t3 a b h0 h1 h2 h3⟩

theorem ok_iff_sys {p : List Int} (hr : ∀ i : Int, 0 ≤ i → i < p.length → 0 ≤ gt p i ∧ gt p i < p.length) : okFrom p p.length 0 [] = true ↔ ArcS p :=
  ⟨sys_of_ok hr, fun h => ok_of_sys h p.length 0 (by omega)⟩

end Go.Proofs.Ytbckijeffiofdaa.Arch

/- The program's check of a system and the reference's tell the same. -/
namespace Go.Proofs.Ytbckijeffiofdaa.Sys
open Go.RowKit Go.Proofs.YtbckijeffiofdaaW.PrintWords Go.Proofs.Ytbckijeffiofdaa Go.Proofs.Ytbckijeffiofdaa.Arch Go.Proofs.Ytbckijeffiofdaa.P

theorem rd_gt (p : List Int) (i : Int) : rd p i = gt p i := rfl

/-- The check of a system, at most twelve points. -/
def sysB (p : List Int) : Bool := decide (p.length ≤ 12) && (decide (p.length % 2 = 0) && (p.all (fun x => decide (0 ≤ x) && decide (x < p.length)) && okFrom p p.length 0 []))

theorem range_of_all {p : List Int} (h : p.all (fun x => decide (0 ≤ x) && decide (x < p.length)) = true) : ∀ i : Int, 0 ≤ i → i < p.length → 0 ≤ gt p i ∧ gt p i < p.length := by
  intro i h0 h1
  rw [List.all_eq_true] at h
  have hm : gt p i ∈ p := by
    unfold gt
    rw [List.getD_eq_getElem?_getD, List.getElem?_eq_getElem (by omega : i.toNat < p.length)]
    exact List.getElem_mem _
  have := h _ hm
  simpa using this

theorem all_of_range {p : List Int} (h : ∀ i : Int, 0 ≤ i → i < p.length → 0 ≤ gt p i ∧ gt p i < p.length) : p.all (fun x => decide (0 ≤ x) && decide (x < p.length)) = true := by
  rw [List.all_eq_true]
  intro x hx
  obtain ⟨j, hj, rfl⟩ := List.getElem_of_mem hx
  have := h j (by omega) (by omega)
  unfold gt at this
  rw [List.getD_eq_getElem?_getD, List.getElem?_eq_getElem (by omega : (j : Int).toNat < p.length)] at this
  simpa using this

theorem sysB_iff (p : List Int) : sysB p = true ↔ p.length ≤ 12 ∧ ArcS p := by
  unfold sysB
  simp only [Bool.and_eq_true, decide_eq_true_eq]
  constructor
  · rintro ⟨h1, h2, h3, h4⟩
    exact ⟨h1, sys_of_ok (range_of_all h3) h4⟩
  · rintro ⟨h1, h⟩
    exact ⟨h1, even_of_sys h, all_of_range (fun i h0 h1 => ⟨h.lo i h0 h1, h.hi i h0 h1⟩), ok_of_sys h p.length 0 (by omega)⟩

/-! ### the reference's check -/
theorem l1In_f (a b c : Int) : spec_l1In.f a b c = some (decide (b ≤ a) && decide (a ≤ c)) := by
  unfold spec_l1In.f
  by_cases h : a ≥ b
  · rw [if_pos h]; simp [show b ≤ a from h]
  · rw [if_neg h]; simp [show ¬ b ≤ a from h]
theorem in_f (a b c : Int) : impl_in.f a b c = some (decide (b ≤ a) && decide (a ≤ c)) := by
  unfold impl_in.f
  by_cases h : b ≤ a
  · rw [if_pos h]; simp [h]
  · rw [if_neg h]; simp [h]

theorem drop_gt (p : List Int) (i : Nat) (h : i < p.length) : p.drop i = gt p i :: p.drop (i + 1) := by
  rw [List.drop_eq_getElem_cons h]
  congr 1
  unfold gt
  rw [List.getD_eq_getElem?_getD, Int.toNat_natCast, List.getElem?_eq_getElem h]; rfl

theorem l1All_ev (p : List Int) (a b : Int) (hp : p.length ≤ 140737488351232) : Ev (fun k => spec_l1All.f k p a b) (p.all fun x => decide (a ≤ x) && decide (x ≤ b)) := by
  have key : ∀ (d i : Nat), i + d = p.length → Ev (fun k => spec_l1All.l0 k a b p p.length i) ((p.drop i).all fun x => decide (a ≤ x) && decide (x ≤ b)) := by
    intro d
    induction d with
    | zero =>
      intro i hi
      refine Ev.step (fun k => by rw [spec_l1All.l0]) ?_
      refine EvKit.neg (by omega) ?_
      rw [List.drop_of_length_le (by omega)]
      exact Ev.now _
    | succ d ih =>
      intro i hi
      refine Ev.step (fun k => by rw [spec_l1All.l0]) ?_
      refine EvKit.pos (by omega) (EvKit.pos (by omega) (EvKit.pos (by omega) (EvKit.got (l1In_f _ _ _) ?_)))
      rw [drop_gt p i (by omega), List.all_cons]
      by_cases c : (decide (a ≤ rd p i) && decide (rd p i ≤ b)) = true
      · refine EvKit.pos c ?_
        rw [EvKit.wr (by omega) (by omega)]
        rw [rd_gt] at c
        rw [c, Bool.true_and]
        exact ih (i + 1) (by omega)
      · refine EvKit.neg c ?_
        rw [rd_gt] at c
        rw [Bool.eq_false_iff.mpr c, Bool.false_and]
        exact Ev.now _
  have := key p.length 0 (by omega)
  exact this

theorem ahGood_l0 (p : List Int) (hp : p.length ≤ 12) (hr : ∀ i : Int, 0 ≤ i → i < p.length → 0 ≤ gt p i ∧ gt p i < p.length) : ∀ (d i : Nat) (O : List Int), i + d = p.length → O.length ≤ i →
    Ev (fun k => spec_ahGood.l0 k p O p p.length i) (okFrom p d i O) := by
  intro d
  induction d with
  | zero =>
    intro i O hi hO
    refine Ev.step (fun k => by rw [spec_ahGood.l0]) ?_
    refine EvKit.neg (by omega) ?_
    exact Ev.now _
  | succ d ih =>
    intro i O hi hO
    have hri := hr i (by omega) (by omega)
    refine Ev.step (fun k => by rw [spec_ahGood.l0]) ?_
    refine EvKit.pos (by omega) (EvKit.pos (by omega) (EvKit.pos (by omega) ?_))
    simp only [rd_gt]
    unfold okFrom
    by_cases c : gt p i > i
    · refine EvKit.pos c (EvKit.pos (by omega) (EvKit.pos (by omega) ?_))
      refine Ev.step (fun k => by rw [spec_ahGood.j2]) ?_
      by_cases c2 : gt p (gt p i) = i
      · rw [if_pos ⟨c, c2⟩]
        refine EvKit.pos (by simpa using c2) ?_
        refine EvKit.got rfl (EvKit.pos (by simp; omega) ?_)
        rw [EvKit.wr (by omega) (by omega)]
        exact ih (i + 1) (i :: O) (by omega) (by simp; omega)
      · rw [if_neg (fun q => c2 q.2), if_neg (by omega)]
        refine EvKit.neg (by simpa using c2) (EvKit.neg (by omega) ?_)
        exact Ev.now _
    · rw [if_neg (fun q => c q.1)]
      refine EvKit.neg c ?_
      refine Ev.step (fun k => by rw [spec_ahGood.j2]) ?_
      refine EvKit.neg (by simp) ?_
      by_cases c2 : gt p i < i
      · rw [if_pos c2]
        refine EvKit.pos c2 ?_
        cases O with
        | nil => exact EvKit.neg (by simp) (Ev.now _)
        | cons j O' =>
          refine EvKit.pos (by simp) (EvKit.pos (by simp) ?_)
          have e : rd (j :: O') 0 = j := rfl
          by_cases c3 : j = gt p i
          · simp only [if_pos c3]
            refine EvKit.pos (by rw [← rd_gt, e]; exact c3) (EvKit.pos (by simp; omega) ?_)
            rw [EvKit.wr (by omega) (by omega)]
            exact ih (i + 1) O' (by omega) (by simp at hO; omega)
          · simp only [if_neg c3]
            refine EvKit.neg (by rw [← rd_gt, e]; exact c3) ?_
            exact Ev.now _
      · rw [if_neg c2]
        exact EvKit.neg c2 (Ev.now _)

theorem ahGood_ev (p : List Int) (hp : p.length ≤ 140737488351232) : Ev (fun k => spec_ahGood.f k p) (sysB p) := by
  have hj : Ev (fun k => spec_ahGood.j0 k p true) false := by
    refine Ev.step (fun k => by rw [spec_ahGood.j0]) ?_
    exact EvKit.pos rfl (Ev.now _)
  unfold spec_ahGood.f sysB
  by_cases c1 : (p.length : Int) % 2 = 1
  · refine EvKit.pos c1 ?_
    rw [decide_eq_false (show ¬ p.length % 2 = 0 by omega)]
    simp only [Bool.false_and, Bool.and_false]
    exact hj
  · refine EvKit.neg c1 ?_
    by_cases c2 : (p.length : Int) > 12
    · refine EvKit.pos c2 ?_
      rw [decide_eq_false (show ¬ p.length ≤ 12 by omega)]
      exact hj
    · refine EvKit.neg c2 ?_
      rw [decide_eq_true (show p.length ≤ 12 by omega), decide_eq_true (show p.length % 2 = 0 by omega), Bool.true_and, Bool.true_and]
      have h := l1All_ev p 0 (wrap64 ((p.length : Int) - 1)) hp
      rw [EvKit.wr (by omega) (by omega)] at h
      have e : (p.all fun x => decide (0 ≤ x) && decide (x ≤ (p.length : Int) - 1)) = (p.all fun x => decide (0 ≤ x) && decide (x < (p.length : Int))) := by
        congr 1
        funext x
        congr 1
        rw [decide_eq_decide]
        omega
      rw [e] at h
      rw [EvKit.wr (by omega) (by omega)]
      refine Ev.bind h ?_
      refine Ev.step (fun k => by rw [spec_ahGood.j0]) ?_
      by_cases c3 : (p.all fun x => decide (0 ≤ x) && decide (x < (p.length : Int))) = true
      · rw [c3]
        refine EvKit.neg (by simp) ?_
        rw [Bool.true_and]
        exact ahGood_l0 p (by omega) (range_of_all c3) p.length 0 [] (by omega) (by simp)
      · rw [Bool.eq_false_iff.mpr c3]
        exact EvKit.pos (by simp) (Ev.now _)

/-! ### the program's check -/
theorem isSystem_l2 (p : List Int) (hp : p.length ≤ 140737488351232) (a : Nat) (ha : a < p.length) (hhi : gt p a < p.length) (r : Bool)
    (hnext : (∀ b : Int, a < b → b < gt p a → a ≤ gt p b ∧ gt p b ≤ gt p a) → Ev (fun k => impl_isSystem.l1 k p p p.length (wrap64 ((a : Int) + 1))) r)
    (hbad : ¬ (∀ b : Int, a < b → b < gt p a → a ≤ gt p b ∧ gt p b ≤ gt p a) → r = false) :
    ∀ (d : Nat) (b : Int), a < b → (gt p a - b).toNat = d → (∀ c : Int, a < c → c < b → c < gt p a → a ≤ gt p c ∧ gt p c ≤ gt p a) → Ev (fun k => impl_isSystem.l2 k p a (gt p a) b p p.length a) r := by
  intro d
  induction d with
  | zero =>
    intro b hb hd hall
    refine Ev.step (fun k => by rw [impl_isSystem.l2]) ?_
    refine EvKit.neg (by omega) ?_
    exact hnext (fun c h1 h2 => hall c h1 (by omega) h2)
  | succ d ih =>
    intro b hb hd hall
    refine Ev.step (fun k => by rw [impl_isSystem.l2]) ?_
    refine EvKit.pos (by omega) (EvKit.pos (by omega) (EvKit.pos (by omega) (EvKit.got (in_f _ _ _) ?_)))
    simp only [rd_gt]
    by_cases c : (decide ((a : Int) ≤ gt p b) && decide (gt p b ≤ gt p a)) = true
    · refine EvKit.pos c ?_
      simp only [Bool.and_eq_true, decide_eq_true_eq] at c
      rw [EvKit.wr (by omega) (by omega)]
      refine ih (b + 1) (by omega) (by omega) (fun e h1 h2 h3 => ?_)
      by_cases he : e = b
      · subst he; exact c
      · exact hall e h1 (by omega) h3
    · refine EvKit.neg c ?_
      simp only [Bool.and_eq_true, decide_eq_true_eq] at c
      rw [hbad (fun q => c (q b hb (by omega)))]
      exact Ev.now _

theorem isSystem_l1 (p : List Int) (hp : p.length ≤ 140737488351232) (hhi : ∀ i : Int, 0 ≤ i → i < p.length → gt p i < p.length) (r : Bool)
    (h1 : (∀ a b : Int, 0 ≤ a → a < p.length → a < b → b < gt p a → a ≤ gt p b ∧ gt p b ≤ gt p a) → r = true)
    (h2 : ¬ (∀ a b : Int, 0 ≤ a → a < p.length → a < b → b < gt p a → a ≤ gt p b ∧ gt p b ≤ gt p a) → r = false) :
    ∀ (d i : Nat), i + d = p.length → (∀ a b : Int, 0 ≤ a → a < i → a < b → b < gt p a → a ≤ gt p b ∧ gt p b ≤ gt p a) → Ev (fun k => impl_isSystem.l1 k p p p.length i) r := by
  intro d
  induction d with
  | zero =>
    intro i hi hall
    refine Ev.step (fun k => by rw [impl_isSystem.l1]) ?_
    refine EvKit.neg (by omega) ?_
    rw [h1 (fun a b x0 x1 x2 x3 => hall a b x0 (by omega) x2 x3)]
    exact Ev.now _
  | succ d ih =>
    intro i hi hall
    refine Ev.step (fun k => by rw [impl_isSystem.l1]) ?_
    refine EvKit.pos (by omega) (EvKit.pos (by omega) (EvKit.pos (by omega) ?_))
    simp only [rd_gt]
    rw [EvKit.wr (by omega) (by omega)]
    refine isSystem_l2 p hp i (by omega) (hhi i (by omega) (by omega)) r (fun hok => ?_) (fun hbad => h2 (fun q => hbad (fun b => q i b (by omega) (by omega)))) _ ((i : Int) + 1) (by omega) rfl (fun c h3 h4 => by omega)
    rw [EvKit.wr (by omega) (by omega)]
    refine ih (i + 1) (by omega) (fun a b x0 x1 x2 x3 => ?_)
    by_cases e : a = i
    · subst e; exact hok b x2 x3
    · exact hall a b x0 (by omega) x2 x3

/-- What the first loop of the program's check holds. -/
def Inv1 (p : List Int) (n : Int) : Prop := ∀ i : Int, 0 ≤ i → i < n → 0 ≤ gt p i ∧ gt p i < p.length ∧ gt p i ≠ i ∧ gt p (gt p i) = i

theorem isSystem_l0 (p : List Int) (hp : p.length ≤ 140737488351232) (r : Bool) (h1 : ArcS p → r = true) (h2 : ¬ ArcS p → r = false) : ∀ (d i : Nat), i + d = p.length → Inv1 p i → Ev (fun k => impl_isSystem.l0 k p p p.length i) r := by
  intro d
  induction d with
  | zero =>
    intro i hi hI
    have hi' : i = p.length := by omega
    subst hi'
    refine Ev.step (fun k => by rw [impl_isSystem.l0]) ?_
    refine EvKit.neg (by omega) ?_
    refine isSystem_l1 p hp (fun i h0 h1 => (hI i h0 h1).2.1) r (fun hc => ?_) (fun hc => ?_) p.length 0 (by omega) (fun a b x0 x1 => by omega)
    · exact h1 ⟨fun i a b => (hI i a b).1, fun i a b => (hI i a b).2.1, fun i a b => (hI i a b).2.2.1, fun i a b => (hI i a b).2.2.2, hc⟩
    · exact h2 (fun s => hc s.cr)
  | succ d ih =>
    intro i hi hI
    refine Ev.step (fun k => by rw [impl_isSystem.l0]) ?_
    refine EvKit.pos (by omega) (EvKit.pos (by omega) (EvKit.pos (by omega) (EvKit.got (in_f _ _ _) ?_)))
    simp only [rd_gt]
    rw [EvKit.wr (by omega) (by omega)]
    by_cases c : (decide (0 ≤ gt p i) && decide (gt p i ≤ (p.length : Int) - 1)) = true
    · refine EvKit.pos c ?_
      simp only [Bool.and_eq_true, decide_eq_true_eq] at c
      by_cases c2 : gt p i = i
      · refine EvKit.pos c2 ?_
        rw [h2 (fun s => s.ne i (by omega) (by omega) c2)]
        exact Ev.now _
      · refine EvKit.neg c2 (EvKit.pos c.1 (EvKit.pos (by omega) ?_))
        by_cases c3 : gt p (gt p i) = i
        · refine EvKit.pos c3 ?_
          rw [EvKit.wr (by omega) (by omega)]
          refine ih (i + 1) (by omega) (fun j h3 h4 => ?_)
          by_cases e : j = i
          · subst e; exact ⟨c.1, by omega, c2, c3⟩
          · exact hI j h3 (by omega)
        · refine EvKit.neg c3 ?_
          rw [h2 (fun s => c3 (s.inv i (by omega) (by omega)))]
          exact Ev.now _
    · refine EvKit.neg c ?_
      simp only [Bool.and_eq_true, decide_eq_true_eq] at c
      rw [h2 (fun s => c ⟨s.lo i (by omega) (by omega), by have := s.hi i (by omega) (by omega); omega⟩)]
      exact Ev.now _

theorem IsSystem_ev (p : List Int) (hp : p.length ≤ 140737488351232) : Ev (fun k => impl_IsSystem.f k p) (sysB p) := by
  unfold impl_IsSystem.f
  by_cases c : (p.length : Int) ≤ 12
  · refine EvKit.pos c ?_
    have h : Ev (fun k => impl_isSystem.f k p) (sysB p) := by
      unfold impl_isSystem.f
      refine isSystem_l0 p hp (sysB p) (fun s => (sysB_iff p).2 ⟨by omega, s⟩) (fun s => ?_) p.length 0 (by omega) (fun i h0 h1 => by omega)
      rw [Bool.eq_false_iff]
      intro q
      exact s ((sysB_iff p).1 q).2
    exact Ev.bind h (Ev.now _)
  · refine EvKit.neg c ?_
    unfold sysB
    rw [decide_eq_false (show ¬ p.length ≤ 12 by omega)]
    exact Ev.now _

end Go.Proofs.Ytbckijeffiofdaa.Sys

/- Pairs, stretches and closed stretches: the program and the reference tell the same. -/
namespace Go.Proofs.Ytbckijeffiofdaa.Cut
open Go.RowKit Go.Proofs.YtbckijeffiofdaaW.PrintWords Go.Proofs.Ytbckijeffiofdaa Go.Proofs.Ytbckijeffiofdaa.Arch Go.Proofs.Ytbckijeffiofdaa.Sys Go.Proofs.Ytbckijeffiofdaa.P

/-- Two systems of as many arches. -/
def pairB (p q : List Int) : Bool := sysB p && (sysB q && decide (p.length = q.length))
theorem pairB_iff (p q : List Int) : pairB p q = true ↔ p.length ≤ 12 ∧ ArcS p ∧ ArcS q ∧ p.length = q.length := by
  unfold pairB
  simp only [Bool.and_eq_true, sysB_iff, decide_eq_true_eq]
  constructor
  · rintro ⟨⟨h1, h2⟩, ⟨_, h3⟩, h4⟩
    exact ⟨h1, h2, h3, h4⟩
  · rintro ⟨h1, h2, h3, h4⟩
    exact ⟨⟨h1, h2⟩, ⟨by omega, h3⟩, h4⟩
theorem len_eq (p q : List Int) : ((p.length : Int) == (q.length : Int)) = decide (p.length = q.length) := by
  rw [Bool.eq_iff_iff]
  simp
  omega

theorem mePair_ev (p q : List Int) (hp : p.length ≤ 140737488351232) (hq : q.length ≤ 140737488351232) : Ev (fun k => spec_mePair.f k p q) (pairB p q) := by
  unfold spec_mePair.f pairB
  refine Ev.bind (ahGood_ev p hp) ?_
  cases sysB p with
  | false => exact EvKit.neg (by simp) (Ev.now _)
  | true =>
    refine EvKit.pos rfl (Ev.bind (ahGood_ev q hq) ?_)
    cases sysB q with
    | false => exact EvKit.neg (by simp) (Ev.now _)
    | true => rw [len_eq]; exact EvKit.pos rfl (Ev.now _)

theorem IsPair_ev (p q : List Int) (hp : p.length ≤ 140737488351232) (hq : q.length ≤ 140737488351232) : Ev (fun k => impl_IsPair.f k p q) (pairB p q) := by
  unfold impl_IsPair.f pairB
  refine Ev.bind (IsSystem_ev p hp) ?_
  cases sysB p with
  | false => exact EvKit.neg (by simp) (Ev.now _)
  | true =>
    refine EvKit.pos rfl (Ev.bind (IsSystem_ev q hq) ?_)
    cases sysB q with
    | false => exact EvKit.neg (by simp) (Ev.now _)
    | true => rw [len_eq]; exact EvKit.pos rfl (Ev.now _)

/-- A pair has a stretch. -/
def stretchB (p q : List Int) (i j : Int) : Bool := pairB p q && (decide (0 ≤ i) && (decide (i < j) && decide (j < p.length)))
theorem stretchB_iff (p q : List Int) (i j : Int) : stretchB p q i j = true ↔ pairB p q = true ∧ 0 ≤ i ∧ i < j ∧ j < p.length := by
  unfold stretchB
  simp [Bool.and_eq_true]

theorem siStretch_ev (p q : List Int) (i j : Int) (hp : p.length ≤ 140737488351232) (hq : q.length ≤ 140737488351232) : Ev (fun k => spec_siStretch.f k p q i j) (stretchB p q i j) := by
  unfold spec_siStretch.f
  refine Ev.bind (mePair_ev p q hp hq) ?_
  by_cases c : pairB p q = true
  · refine EvKit.pos c (EvKit.got (l1In_f _ _ _) ?_)
    rw [EvKit.wr (by omega) (by omega)]
    by_cases c2 : (decide (0 ≤ j) && decide (j ≤ (p.length : Int) - 1)) = true
    · refine EvKit.pos c2 (EvKit.got (l1In_f _ _ _) ?_)
      by_cases c3 : (decide (0 ≤ i) && decide (i ≤ (p.length : Int) - 1)) = true
      · refine EvKit.pos c3 (EvKit.eq ?_ (Ev.now _))
        rw [Bool.eq_iff_iff, stretchB_iff]
        simp at c2 c3 ⊢
        constructor
        · intro h; exact ⟨c, by omega, by omega, by omega⟩
        · rintro ⟨_, h⟩; omega
      · refine EvKit.neg c3 (EvKit.eq ?_ (Ev.now _))
        symm
        rw [Bool.eq_false_iff]
        intro h
        rw [stretchB_iff] at h
        simp at c2 c3
        omega
    · refine EvKit.neg c2 (EvKit.eq ?_ (Ev.now _))
      symm
      rw [Bool.eq_false_iff]
      intro h
      rw [stretchB_iff] at h
      simp at c2
      omega
  · refine EvKit.neg c (EvKit.eq ?_ (Ev.now _))
    unfold stretchB
    rw [Bool.eq_false_iff.mpr c]; rfl

theorem isStretch_ev (p q : List Int) (i j : Int) (hp : p.length ≤ 140737488351232) (hq : q.length ≤ 140737488351232) : Ev (fun k => impl_isStretch.f k p q i j) (stretchB p q i j) := by
  unfold impl_isStretch.f
  refine Ev.bind (IsPair_ev p q hp hq) ?_
  by_cases c : pairB p q = true
  · refine EvKit.pos c (EvKit.got (in_f _ _ _) ?_)
    rw [EvKit.wr (by omega) (by omega), EvKit.wr (x := (p.length : Int) - 1) (by omega) (by omega)]
    by_cases c2 : (decide (0 ≤ i) && decide (i ≤ (p.length : Int) - 2)) = true
    · simp at c2
      rw [EvKit.wr (by omega) (by omega)]
      refine EvKit.pos (by simp; exact c2) (EvKit.got (in_f _ _ _) (EvKit.eq ?_ (Ev.now _)))
      rw [Bool.eq_iff_iff, stretchB_iff]
      simp
      constructor
      · intro h; exact ⟨c, by omega, by omega, by omega⟩
      · rintro ⟨_, h⟩; omega
    · refine EvKit.neg c2 (EvKit.eq ?_ (Ev.now _))
      symm
      rw [Bool.eq_false_iff]
      intro h
      rw [stretchB_iff] at h
      simp at c2
      omega
  · refine EvKit.neg c (EvKit.eq ?_ (Ev.now _))
    unfold stretchB
    rw [Bool.eq_false_iff.mpr c]; rfl

/-- No arch leads out of i .. j, from point k on. -/
def closedFrom (p q : List Int) (i j : Int) : Nat → Int → Bool
  | 0, _ => true
  | d + 1, k => (decide (i ≤ gt p k) && decide (gt p k ≤ j)) && ((decide (i ≤ gt q k) && decide (gt q k ≤ j)) && closedFrom p q i j d (k + 1))
def closedB (p q : List Int) (i j : Int) : Bool := closedFrom p q i j (j + 1 - i).toNat i

theorem closedFrom_iff (p q : List Int) (i j : Int) : ∀ (d : Nat) (k : Int), closedFrom p q i j d k = true ↔ ∀ x : Int, k ≤ x → x < k + d → (i ≤ gt p x ∧ gt p x ≤ j) ∧ i ≤ gt q x ∧ gt q x ≤ j := by
  intro d
  induction d with
  | zero => intro k; simp [closedFrom]; intro x h1 h2; omega
  | succ d ih =>
    intro k
    unfold closedFrom
    simp only [Bool.and_eq_true, decide_eq_true_eq, ih]
    constructor
    · rintro ⟨h1, h2, h3⟩ x h4 h5
      by_cases e : x = k
      · subst e; exact ⟨h1, h2⟩
      · exact h3 x (by omega) (by omega)
    · intro h
      exact ⟨(h k (by omega) (by omega)).1, (h k (by omega) (by omega)).2, fun x h1 h2 => h x (by omega) (by omega)⟩
theorem closedB_iff (p q : List Int) (i j : Int) : closedB p q i j = true ↔ ∀ x : Int, i ≤ x → x ≤ j → (i ≤ gt p x ∧ gt p x ≤ j) ∧ i ≤ gt q x ∧ gt q x ≤ j := by
  unfold closedB
  rw [closedFrom_iff]
  constructor
  · intro h x h1 h2; exact h x h1 (by omega)
  · intro h x h1 h2; exact h x h1 (by omega)

theorem siClosed_ev (p q : List Int) (i j : Int) (h0 : 0 ≤ i) (hj : j < p.length) (hl : p.length = q.length) (hp : p.length ≤ 140737488351232) : Ev (fun k => spec_siClosed.f k p q i j) (closedB p q i j) := by
  have key : ∀ (d : Nat) (x : Int), 0 ≤ x → (j + 1 - x).toNat = d → Ev (fun k => spec_siClosed.l0 k i j x p q) (closedFrom p q i j d x) := by
    intro d
    induction d with
    | zero =>
      intro x hx hd
      refine Ev.step (fun k => by rw [spec_siClosed.l0]) ?_
      exact EvKit.neg (by omega) (Ev.now _)
    | succ d ih =>
      intro x hx hd
      refine Ev.step (fun k => by rw [spec_siClosed.l0]) ?_
      refine EvKit.pos (by omega) (EvKit.pos (by omega) (EvKit.pos (by omega) (EvKit.got (l1In_f _ _ _) ?_)))
      unfold closedFrom
      simp only [rd_gt]
      by_cases c : (decide (i ≤ gt p x) && decide (gt p x ≤ j)) = true
      · refine EvKit.pos c (EvKit.pos (by omega) (EvKit.got (l1In_f _ _ _) ?_))
        rw [c, Bool.true_and]
        by_cases c2 : (decide (i ≤ gt q x) && decide (gt q x ≤ j)) = true
        · refine EvKit.pos c2 ?_
          rw [c2, Bool.true_and, EvKit.wr (by omega) (by omega)]
          exact ih (x + 1) (by omega) (by omega)
        · refine EvKit.neg c2 (EvKit.eq ?_ (Ev.now _))
          rw [Bool.eq_false_iff.mpr c2]; rfl
      · refine EvKit.neg c (EvKit.eq ?_ (Ev.now _))
        rw [Bool.eq_false_iff.mpr c]; rfl
  exact key _ i h0 rfl

theorem isClosed_ev (p q : List Int) (i j : Int) (h0 : 0 ≤ i) (hj : j < p.length) (hl : p.length = q.length) (hp : p.length ≤ 140737488351232) : Ev (fun k => impl_Meander_isClosed.f k p q i j) (closedB p q i j) := by
  have key : ∀ (d : Nat) (x : Int), 0 ≤ x → (j + 1 - x).toNat = d → Ev (fun k => impl_Meander_isClosed.l0 k i j x p q) (closedFrom p q i j d x) := by
    intro d
    induction d with
    | zero =>
      intro x hx hd
      refine Ev.step (fun k => by rw [impl_Meander_isClosed.l0]) ?_
      exact EvKit.neg (by omega) (Ev.now _)
    | succ d ih =>
      intro x hx hd
      refine Ev.step (fun k => by rw [impl_Meander_isClosed.l0]) ?_
      refine EvKit.pos (by omega) (EvKit.pos (by omega) (EvKit.pos (by omega) (EvKit.got (in_f _ _ _) ?_)))
      unfold closedFrom
      simp only [rd_gt]
      by_cases c : (decide (i ≤ gt p x) && decide (gt p x ≤ j)) = true
      · refine EvKit.pos c (EvKit.pos (by omega) (EvKit.got (in_f _ _ _) ?_))
        rw [c, Bool.true_and]
        by_cases c2 : (decide (i ≤ gt q x) && decide (gt q x ≤ j)) = true
        · refine EvKit.pos c2 ?_
          rw [c2, Bool.true_and, EvKit.wr (by omega) (by omega)]
          exact ih (x + 1) (by omega) (by omega)
        · refine EvKit.neg c2 (EvKit.eq ?_ (Ev.now _))
          rw [Bool.eq_false_iff.mpr c2]; rfl
      · refine EvKit.neg c (EvKit.eq ?_ (Ev.now _))
        rw [Bool.eq_false_iff.mpr c]; rfl
  exact key _ i h0 rfl

end Go.Proofs.Ytbckijeffiofdaa.Cut

/- The proper closed stretches: the program and the reference list the same. -/
namespace Go.Proofs.Ytbckijeffiofdaa.Cut
open Go.RowKit Go.Proofs.YtbckijeffiofdaaW.PrintWords Go.Proofs.Ytbckijeffiofdaa Go.Proofs.Ytbckijeffiofdaa.Arch Go.Proofs.Ytbckijeffiofdaa.Sys Go.Proofs.Ytbckijeffiofdaa.P

/-- Is i .. j a proper closed stretch? -/
def properB (p q : List Int) (i j : Int) : Bool := decide (j - i + 1 < p.length) && closedB p q i j
def innerL (p q : List Int) (i : Int) : Nat → Int → List (List Int) → List (List Int)
  | 0, _, acc => acc
  | d + 1, j, acc => innerL p q i d (j + 1) (if properB p q i j then acc ++ [[i, j]] else acc)
def outerL (p q : List Int) : Nat → Int → List (List Int) → List (List Int)
  | 0, _, acc => acc
  | d + 1, i, acc => outerL p q d (i + 1) (innerL p q i d (i + 1) acc)
def stretchesL (p q : List Int) : List (List Int) := outerL p q p.length 0 []

theorem innerL_len (p q : List Int) (i : Int) : ∀ (d : Nat) (j : Int) (acc : List (List Int)), (innerL p q i d j acc).length ≤ acc.length + d := by
  intro d
  induction d with
  | zero => intro j acc; exact Nat.le_refl _
  | succ d ih =>
    intro j acc
    unfold innerL
    refine Nat.le_trans (ih _ _) ?_
    split
    · simp; omega
    · omega

theorem siAll_ev (p q : List Int) (hp : p.length ≤ 12) (hl : p.length = q.length) : Ev (fun k => spec_siAll.f k p q) (stretchesL p q) := by
  have inner : ∀ (i : Nat) (r : List (List Int)) (res : List (List Int)), i < p.length → Ev (fun k => spec_siAll.l0 k p.length res ((i : Int) + 1) p q) r →
      ∀ (d : Nat) (j : Int) (acc : List (List Int)), (i : Int) < j → j + d = p.length → acc.length ≤ 12 * i + j → innerL p q i d j acc = res → Ev (fun k => spec_siAll.l1 k p.length acc i j p q) r := by
    intro i r res hi hnext d
    induction d with
    | zero =>
      intro j acc hj hd ha hres
      refine Ev.step (fun k => by rw [spec_siAll.l1]) ?_
      refine EvKit.neg (by omega) ?_
      rw [EvKit.wr (by omega) (by omega)]
      have : acc = res := hres
      rw [this]
      exact hnext
    | succ d ih =>
      intro j acc hj hd ha hres
      refine Ev.step (fun k => by rw [spec_siAll.l1]) ?_
      refine EvKit.pos (by omega) ?_
      rw [EvKit.wr (x := j - i) (by omega) (by omega), EvKit.wr (x := j - i + 1) (by omega) (by omega), EvKit.wr (x := j + 1) (by omega) (by omega)]
      unfold innerL at hres
      by_cases c : j - i + 1 < (p.length : Int)
      · refine EvKit.pos c (Ev.bind (siClosed_ev p q i j (by omega) (by omega) hl (by omega)) ?_)
        by_cases c2 : closedB p q i j = true
        · refine EvKit.pos c2 (EvKit.pos (by omega) ?_)
          have e : properB p q i j = true := by unfold properB; rw [c2, decide_eq_true c]; rfl
          rw [if_pos e] at hres
          exact ih (j + 1) _ (by omega) (by omega) (by simp; omega) hres
        · refine EvKit.neg c2 ?_
          have e : ¬ properB p q i j = true := by unfold properB; rw [Bool.eq_false_iff.mpr c2]; simp
          rw [if_neg e] at hres
          exact ih (j + 1) _ (by omega) (by omega) (by omega) hres
      · refine EvKit.neg c ?_
        have e : ¬ properB p q i j = true := by unfold properB; rw [decide_eq_false c]; simp
        rw [if_neg e] at hres
        exact ih (j + 1) _ (by omega) (by omega) (by omega) hres
  have outer : ∀ (d i : Nat) (acc : List (List Int)), i + d = p.length → acc.length ≤ 12 * i → Ev (fun k => spec_siAll.l0 k p.length acc i p q) (outerL p q d i acc) := by
    intro d
    induction d with
    | zero =>
      intro i acc hi ha
      refine Ev.step (fun k => by rw [spec_siAll.l0]) ?_
      exact EvKit.neg (by omega) (Ev.now _)
    | succ d ih =>
      intro i acc hi ha
      refine Ev.step (fun k => by rw [spec_siAll.l0]) ?_
      refine EvKit.pos (by omega) ?_
      rw [EvKit.wr (by omega) (by omega)]
      unfold outerL
      refine inner i _ (innerL p q i d ((i : Int) + 1) acc) (by omega) ?_ d ((i : Int) + 1) acc (by omega) (by omega) (by omega) rfl
      have h := innerL_len p q i d ((i : Int) + 1) acc
      exact ih (i + 1) _ (by omega) (by omega)
  exact outer p.length 0 [] (by omega) (by simp)

theorem stretches_ev (p q : List Int) (hp : p.length ≤ 12) (hl : p.length = q.length) : Ev (fun k => impl_Meander_stretches.f k p q) (stretchesL p q) := by
  have inner : ∀ (i : Nat) (r : List (List Int)) (res : List (List Int)), i < p.length → Ev (fun k => impl_Meander_stretches.l0 k res p.length ((i : Int) + 1) p q) r →
      ∀ (d : Nat) (j : Int) (acc : List (List Int)), (i : Int) < j → j + d = p.length → acc.length ≤ 12 * i + j → innerL p q i d j acc = res → Ev (fun k => impl_Meander_stretches.l1 k acc i j p.length i p q) r := by
    intro i r res hi hnext d
    induction d with
    | zero =>
      intro j acc hj hd ha hres
      refine Ev.step (fun k => by rw [impl_Meander_stretches.l1]) ?_
      refine EvKit.neg (by omega) ?_
      rw [EvKit.wr (by omega) (by omega)]
      have : acc = res := hres
      rw [this]
      exact hnext
    | succ d ih =>
      intro j acc hj hd ha hres
      refine Ev.step (fun k => by rw [impl_Meander_stretches.l1]) ?_
      refine EvKit.pos (by omega) ?_
      rw [EvKit.wr (x := j - i) (by omega) (by omega), EvKit.wr (x := j - i + 1) (by omega) (by omega), EvKit.wr (x := j + 1) (by omega) (by omega)]
      unfold innerL at hres
      by_cases c : j - i + 1 < (p.length : Int)
      · refine EvKit.pos c (Ev.bind (isClosed_ev p q i j (by omega) (by omega) hl (by omega)) ?_)
        by_cases c2 : closedB p q i j = true
        · refine EvKit.pos c2 (EvKit.pos (by omega) ?_)
          have e : properB p q i j = true := by unfold properB; rw [c2, decide_eq_true c]; rfl
          rw [if_pos e] at hres
          exact ih (j + 1) _ (by omega) (by omega) (by simp; omega) hres
        · refine EvKit.neg c2 ?_
          have e : ¬ properB p q i j = true := by unfold properB; rw [Bool.eq_false_iff.mpr c2]; simp
          rw [if_neg e] at hres
          exact ih (j + 1) _ (by omega) (by omega) (by omega) hres
      · refine EvKit.neg c ?_
        have e : ¬ properB p q i j = true := by unfold properB; rw [decide_eq_false c]; simp
        rw [if_neg e] at hres
        exact ih (j + 1) _ (by omega) (by omega) (by omega) hres
  have outer : ∀ (d i : Nat) (acc : List (List Int)), i + d = p.length → acc.length ≤ 12 * i → Ev (fun k => impl_Meander_stretches.l0 k acc p.length i p q) (outerL p q d i acc) := by
    intro d
    induction d with
    | zero =>
      intro i acc hi ha
      refine Ev.step (fun k => by rw [impl_Meander_stretches.l0]) ?_
      exact EvKit.neg (by omega) (Ev.now _)
    | succ d ih =>
      intro i acc hi ha
      refine Ev.step (fun k => by rw [impl_Meander_stretches.l0]) ?_
      refine EvKit.pos (by omega) ?_
      rw [EvKit.wr (by omega) (by omega)]
      unfold outerL
      refine inner i _ (innerL p q i d ((i : Int) + 1) acc) (by omega) ?_ d ((i : Int) + 1) acc (by omega) (by omega) (by omega) rfl
      have h := innerL_len p q i d ((i : Int) + 1) acc
      exact ih (i + 1) _ (by omega) (by omega)
  exact outer p.length 0 [] (by omega) (by simp)

end Go.Proofs.Ytbckijeffiofdaa.Cut

/- The shortest proper closed stretch: the program and the reference take the same. -/
namespace Go.Proofs.Ytbckijeffiofdaa.Cut
open Go.RowKit Go.Proofs.YtbckijeffiofdaaW.PrintWords Go.Proofs.Ytbckijeffiofdaa Go.Proofs.Ytbckijeffiofdaa.Arch Go.Proofs.Ytbckijeffiofdaa.Sys Go.Proofs.Ytbckijeffiofdaa.P

theorem innerL_rows (p q : List Int) (i : Int) : ∀ (d : Nat) (j : Int) (acc : List (List Int)), (∀ r ∈ acc, r.length = 2) → ∀ r ∈ innerL p q i d j acc, r.length = 2 := by
  intro d
  induction d with
  | zero => intro j acc h; exact h
  | succ d ih =>
    intro j acc h
    unfold innerL
    refine ih _ _ ?_
    split
    · intro r hr
      rcases List.mem_append.1 hr with hr | hr
      · exact h r hr
      · rw [List.mem_singleton.1 hr]; rfl
    · exact h

theorem outerL_rows (p q : List Int) : ∀ (d : Nat) (i : Int) (acc : List (List Int)), (∀ r ∈ acc, r.length = 2) → ∀ r ∈ outerL p q d i acc, r.length = 2 := by
  intro d
  induction d with
  | zero => intro i acc h; exact h
  | succ d ih =>
    intro i acc h
    unfold outerL
    exact ih _ _ (innerL_rows p q i d _ acc h)

theorem stretchesL_rows (p q : List Int) : ∀ r ∈ stretchesL p q, r.length = 2 := outerL_rows p q _ _ _ (by simp)

theorem outerL_len (p q : List Int) : ∀ (d : Nat) (i : Int) (acc : List (List Int)), d ≤ 12 → (outerL p q d i acc).length ≤ acc.length + 12 * d := by
  intro d
  induction d with
  | zero => intro i acc _; exact Nat.le_refl _
  | succ d ih =>
    intro i acc hd
    unfold outerL
    have h1 := ih (i + 1) (innerL p q i d (i + 1) acc) (by omega)
    have h2 := innerL_len p q i d (i + 1) acc
    omega

theorem stretchesL_len (p q : List Int) (hp : p.length ≤ 12) : (stretchesL p q).length ≤ 144 := by
  have h := outerL_len p q p.length 0 [] hp
  unfold stretchesL
  simp at h
  omega

def shFold (last : Bool) (rows : List (List Int)) (best : List Int) : List Int := rows.foldl (fun b o => if shTakes last b o = true then o else b) best

theorem shGo_ev (last : Bool) (rows : List (List Int)) (hl : rows.length ≤ 1000000) (h2 : ∀ r ∈ rows, r.length = 2) : ∀ (d i : Nat) (best : List Int), i + d = rows.length → Ev (fun k => shGo k last rows best i) (shFold last (rows.drop i) best) := by
  intro d
  induction d with
  | zero =>
    intro i best hi
    refine Ev.step (fun k => by rw [shGo]) ?_
    rw [List.drop_of_length_le (by omega)]
    exact EvKit.neg (by omega) (Ev.now _)
  | succ d ih =>
    intro i best hi
    refine Ev.step (fun k => by rw [shGo]) ?_
    have e : rd_L9 rows (i : Int) = rows[i]'(by omega) := by
      unfold rd_L9
      rw [Int.toNat_natCast, List.getD_eq_getElem?_getD, List.getElem?_eq_getElem (by omega)]
      rfl
    rw [List.drop_eq_getElem_cons (by omega)]
    refine EvKit.pos (by omega) (EvKit.pos (by omega) (EvKit.pos ?_ ?_))
    · rw [e]; exact h2 _ (List.getElem_mem _)
    · rw [EvKit.wr (by omega) (by omega), e]
      exact ih (i + 1) _ (by omega)

theorem siShortest_ev (p q : List Int) (last : Bool) (hp : p.length ≤ 12) (hl : p.length = q.length) : Ev (fun k => spec_siShortest.f k p q last) (shFold last (stretchesL p q) []) := by
  unfold spec_siShortest.f
  refine Ev.bind (siAll_ev p q hp hl) ?_
  have h := stretchesL_len p q hp
  exact shGo_ev last _ (by omega) (stretchesL_rows p q) _ 0 [] (Nat.zero_add _)

theorem shortest_ev (p q : List Int) (last : Bool) (hp : p.length ≤ 12) (hl : p.length = q.length) : Ev (fun k => impl_Meander_shortest.f k p q last) (shFold last (stretchesL p q) []) := by
  unfold impl_Meander_shortest.f
  refine Ev.bind (stretches_ev p q hp hl) ?_
  have h := stretchesL_len p q hp
  exact shGo_ev last _ (by omega) (stretchesL_rows p q) _ 0 [] (Nat.zero_add _)

theorem shFold_two (last : Bool) : ∀ (rows : List (List Int)) (best : List Int), (∀ r ∈ rows, r.length = 2) → best.length = 0 ∨ best.length = 2 → (shFold last rows best).length = 0 ∨ (shFold last rows best).length = 2 := by
  intro rows
  induction rows with
  | nil => intro best _ h; exact h
  | cons r rest ih =>
    intro best h hb
    refine ih _ (fun x hx => h x (List.mem_cons_of_mem _ hx)) ?_
    show (if shTakes last best r = true then r else best).length = 0 ∨ (if shTakes last best r = true then r else best).length = 2
    split
    · exact .inr (h r List.mem_cons_self)
    · exact hb

theorem shortest_two (p q : List Int) (last : Bool) : (shFold last (stretchesL p q) []).length = 0 ∨ (shFold last (stretchesL p q) []).length = 2 := shFold_two last _ _ (stretchesL_rows p q) (.inl rfl)

end Go.Proofs.Ytbckijeffiofdaa.Cut

/- What the laws' own small functions come to: copies, comparisons, sizes. -/
namespace Go.Proofs.Ytbckijeffiofdaa.LawKit
open Go.RowKit Go.Proofs.YtbckijeffiofdaaW.PrintWords Go.Proofs.Ytbckijeffiofdaa Go.Proofs.Ytbckijeffiofdaa.Arch Go.Proofs.Ytbckijeffiofdaa.P

theorem rd_gt (p : List Int) (i : Int) : rd p i = gt p i := rfl
theorem drop_gt (p : List Int) (i : Nat) (h : i < p.length) : p.drop i = gt p i :: p.drop (i + 1) := by
  rw [List.drop_eq_getElem_cons h]
  congr 1
  unfold gt
  rw [List.getD_eq_getElem?_getD, Int.toNat_natCast, List.getElem?_eq_getElem h]; rfl

theorem eqIntS_ev (a b : List Int) (ha : a.length ≤ 140737488351232) : Ev (fun k => laws_eqIntS.f k a b) (decide (a = b)) := by
  unfold laws_eqIntS.f
  by_cases c : (a.length : Int) = (b.length : Int)
  · refine EvKit.pos c ?_
    have key : ∀ (d i : Nat), i + d = a.length → Ev (fun k => laws_eqIntS.l0 k a b i) (decide (a.drop i = b.drop i)) := by
      intro d
      induction d with
      | zero =>
        intro i hi
        refine Ev.step (fun k => by rw [laws_eqIntS.l0]) ?_
        refine EvKit.neg (by omega) ?_
        rw [List.drop_of_length_le (by omega), List.drop_of_length_le (by omega)]
        exact Ev.now _
      | succ d ih =>
        intro i hi
        refine Ev.step (fun k => by rw [laws_eqIntS.l0]) ?_
        refine EvKit.pos (by omega) (EvKit.pos (by omega) (EvKit.pos (by omega) ?_))
        rw [drop_gt a i (by omega), drop_gt b i (by omega)]
        by_cases e : rd a i = rd b i
        · refine EvKit.pos e ?_
          rw [EvKit.wr (by omega) (by omega)]
          have := ih (i + 1) (by omega)
          rw [rd_gt, rd_gt] at e
          have e2 : decide (gt a i :: a.drop (i + 1) = gt b i :: b.drop (i + 1)) = decide (a.drop (i + 1) = b.drop (i + 1)) := by
            rw [decide_eq_decide, e]; simp
          rw [e2]
          exact this
        · refine EvKit.neg e ?_
          rw [rd_gt, rd_gt] at e
          rw [decide_eq_false (fun h => e (List.cons.inj h).1)]
          exact Ev.now _
    have := key a.length 0 (by omega)
    simpa using this
  · refine EvKit.neg c ?_
    rw [decide_eq_false (fun h => c (by rw [h]))]
    exact Ev.now _

theorem eqMeander_ev (a b c d : List Int) (ha : a.length ≤ 140737488351232) (hb : b.length ≤ 140737488351232) : Ev (fun k => laws_eqMeander.f k a b c d) (decide (a = c) && decide (b = d)) := by
  unfold laws_eqMeander.f
  refine Ev.bind (eqIntS_ev a c ha) ?_
  by_cases h : a = c
  · rw [decide_eq_true h]
    refine EvKit.pos rfl (Ev.bind (eqIntS_ev b d hb) ?_)
    by_cases h2 : b = d
    · rw [decide_eq_true h2]; exact EvKit.pos rfl (Ev.now _)
    · rw [decide_eq_false h2]; exact EvKit.neg (by simp) (Ev.now _)
  · rw [decide_eq_false h]
    exact EvKit.neg (by simp) (Ev.now _)

theorem set_take (l : List Int) (i : Nat) (x : List Int) (hi : i < l.length) (hx : x.length = l.length) (ht : x.take i = l.take i) : (x.set i (gt l i)).take (i + 1) = l.take (i + 1) := by
  apply List.ext_getElem
  · simp; omega
  · intro j h1 h2
    simp only [List.length_take, List.length_set] at h1 h2
    rw [List.getElem_take, List.getElem_take, List.getElem_set]
    by_cases e : i = j
    · subst e
      rw [if_pos rfl]
      unfold gt
      rw [List.getD_eq_getElem?_getD, Int.toNat_natCast, List.getElem?_eq_getElem hi]; rfl
    · rw [if_neg e]
      have := congrArg (fun z => z[j]?) ht
      simp only [List.getElem?_take] at this
      rw [if_pos (by omega), if_pos (by omega), List.getElem?_eq_getElem (by omega), List.getElem?_eq_getElem (by omega)] at this
      exact Option.some.inj this

theorem toIntS_ev (l : List Int) (hl : l.length ≤ 35184372088832) : Ev (fun k => laws_toIntS.f k l) l := by
  unfold laws_toIntS.f
  refine EvKit.pos (by omega) (EvKit.pos (by simpa using hl) ?_)
  have key : ∀ (d i : Nat) (x : List Int), i + d = l.length → x.length = l.length → x.take i = l.take i → Ev (fun k => laws_toIntS.l0 k l x i) l := by
    intro d
    induction d with
    | zero =>
      intro i x hi hx ht
      refine Ev.step (fun k => by rw [laws_toIntS.l0]) ?_
      refine EvKit.neg (by omega) ?_
      rw [List.take_of_length_le (by omega), List.take_of_length_le (by omega)] at ht
      rw [ht]
      exact Ev.now _
    | succ d ih =>
      intro i x hi hx ht
      refine Ev.step (fun k => by rw [laws_toIntS.l0]) ?_
      refine EvKit.pos (by omega) (EvKit.pos (by omega) (EvKit.pos (by omega) ?_))
      rw [EvKit.wr (by omega) (by omega), rd_gt, Int.toNat_natCast]
      exact ih (i + 1) _ (by omega) (by simp [hx]) (set_take l i x (by omega) hx ht)
  have := key l.length 0 (List.replicate l.length 0) (by omega) (by simp) (by simp)
  simpa using this

theorem toMeander_ev (a b : List Int) (ha : a.length ≤ 35184372088832) (hb : b.length ≤ 35184372088832) : Ev (fun k => laws_toMeander.f k a b) (a, b) := by
  unfold laws_toMeander.f
  exact Ev.bind (toIntS_ev a ha) (Ev.bind (toIntS_ev b hb) (Ev.now _))

theorem szIntS_f (l : List Int) (n : Int) (hl : l.length ≤ maxLen) (h0 : 0 ≤ n) (h1 : n ≤ 1048576) : laws_szIntS.f l n = some (if (l.length : Int) ≤ n then n - l.length else -1) := by
  unfold laws_szIntS.f maxLen at *
  rw [EvKit.wr (by omega) (by omega)]
  by_cases c : (l.length : Int) ≤ n
  · rw [if_neg (by omega), if_pos c]
  · rw [if_pos (by omega), if_neg c]

theorem szMeander_f (a b : List Int) (n : Int) (ha : a.length ≤ maxLen) (hb : b.length ≤ maxLen) (h0 : 0 ≤ n) (h1 : n ≤ 1048576) : laws_szMeander.f a b n = some (if (a.length : Int) + b.length ≤ n then n - a.length - b.length else -1) := by
  unfold laws_szMeander.f
  rw [szIntS_f a n ha h0 h1]
  simp only [Option.bind_some]
  by_cases c : (a.length : Int) ≤ n
  · rw [if_pos c, if_neg (by omega), szIntS_f b _ hb (by omega) (by omega)]
    simp only [Option.bind_some]
    by_cases c2 : (a.length : Int) + b.length ≤ n
    · rw [if_pos (show (b.length : Int) ≤ n - a.length by omega), if_pos c2, if_neg (by omega)]
    · rw [if_neg (show ¬ (b.length : Int) ≤ n - a.length by omega), if_neg c2, if_pos (by omega)]
  · rw [if_neg c, if_pos (by omega), if_neg (by omega)]

end Go.Proofs.Ytbckijeffiofdaa.LawKit

/- Marks: what the law writes into a result, and that it stands there. -/
namespace Go.Proofs.Ytbckijeffiofdaa.LawKit
open Go.RowKit Go.Proofs.YtbckijeffiofdaaW.PrintWords Go.Proofs.Ytbckijeffiofdaa Go.Proofs.Ytbckijeffiofdaa.Arch Go.Proofs.Ytbckijeffiofdaa.P

def marks (m : Int) (n : Nat) : List Int := (List.range n).map (fun (j : Nat) => m + (j : Int))
theorem marks_len (m : Int) (n : Nat) : (marks m n).length = n := by simp [marks]
theorem marks_gt (m : Int) (n i : Nat) (h : i < n) : gt (marks m n) (i : Int) = m + i := by
  unfold gt marks
  rw [List.getD_eq_getElem?_getD, Int.toNat_natCast, List.getElem?_map, List.getElem?_range h]
  rfl

theorem markIntS_ev (l : List Int) (m : Int) (h0 : 0 ≤ m) (h1 : m ≤ 140737488351232) (hl : l.length ≤ 140737488351232) : Ev (fun k => laws_markIntS.f k l m) (m + l.length, marks m l.length) := by
  unfold laws_markIntS.f
  have key : ∀ (d i : Nat) (x : List Int), i + d = l.length → x.length = l.length → x.take i = (marks m l.length).take i → Ev (fun k => laws_markIntS.l0 k x (m + i) i) (m + l.length, marks m l.length) := by
    intro d
    induction d with
    | zero =>
      intro i x hi hx ht
      refine Ev.step (fun k => by rw [laws_markIntS.l0]) ?_
      refine EvKit.neg (by omega) ?_
      rw [List.take_of_length_le (by omega), List.take_of_length_le (by rw [marks_len]; omega)] at ht
      rw [ht, show (i : Int) = l.length by omega]
      exact Ev.now _
    | succ d ih =>
      intro i x hi hx ht
      refine Ev.step (fun k => by rw [laws_markIntS.l0]) ?_
      refine EvKit.pos (by omega) (EvKit.pos (by omega) ?_)
      rw [EvKit.wr (x := m + i + 1) (by omega) (by omega), EvKit.wr (x := (i : Int) + 1) (by omega) (by omega), Int.toNat_natCast]
      have e : m + (i : Int) + 1 = m + ((i + 1 : Nat) : Int) := by omega
      rw [e]
      have ht2 := set_take (marks m l.length) i x (by rw [marks_len]; omega) (by rw [marks_len]; exact hx) ht
      rw [marks_gt _ _ _ (by omega)] at ht2
      exact ih (i + 1) _ (by omega) (by simp [hx]) ht2
  have h := key l.length 0 l (by omega) rfl (by simp)
  simpa using h

theorem heldIntS_ev (n : Nat) (m : Int) (h0 : 0 ≤ m) (h1 : m ≤ 140737488351232) (hl : n ≤ 140737488351232) : Ev (fun k => laws_heldIntS.f k (marks m n) m) (m + n) := by
  unfold laws_heldIntS.f
  have key : ∀ (d i : Nat), i + d = n → Ev (fun k => laws_heldIntS.l0 k (marks m n) (m + i) i) (m + n) := by
    intro d
    induction d with
    | zero =>
      intro i hi
      refine Ev.step (fun k => by rw [laws_heldIntS.l0]) ?_
      refine EvKit.neg (by rw [marks_len]; omega) ?_
      rw [show (i : Int) = n by omega]
      exact Ev.now _
    | succ d ih =>
      intro i hi
      refine Ev.step (fun k => by rw [laws_heldIntS.l0]) ?_
      refine EvKit.pos (by rw [marks_len]; omega) (EvKit.pos (by omega) (EvKit.pos (by rw [rd_gt, marks_gt _ _ _ (by omega)]) ?_))
      rw [EvKit.wr (x := m + i + 1) (by omega) (by omega), EvKit.wr (x := (i : Int) + 1) (by omega) (by omega)]
      have e : m + (i : Int) + 1 = m + ((i + 1 : Nat) : Int) := by omega
      rw [e]
      exact ih (i + 1) (by omega)
  have h := key n 0 (by omega)
  simpa using h

theorem markMeander_ev (a b : List Int) (m : Int) (h0 : 0 ≤ m) (h1 : m ≤ 1048576) (ha : a.length ≤ 35184372088832) (hb : b.length ≤ 35184372088832) : Ev (fun k => laws_markMeander.f k a b m) (m + a.length + b.length, marks m a.length, marks (m + a.length) b.length) := by
  unfold laws_markMeander.f
  refine Ev.bind (markIntS_ev a m h0 (by omega) (by omega)) ?_
  exact Ev.bind (markIntS_ev b _ (by omega) (by omega) (by omega)) (Ev.now _)

theorem heldMeander_ev (a b : Nat) (m : Int) (h0 : 0 ≤ m) (h1 : m ≤ 1048576) (ha : a ≤ 35184372088832) (hb : b ≤ 35184372088832) : Ev (fun k => laws_heldMeander.f k (marks m a) (marks (m + a) b) m) (m + a + b) := by
  unfold laws_heldMeander.f
  refine Ev.bind (heldIntS_ev a m h0 (by omega) (by omega)) (EvKit.neg (by omega) ?_)
  refine Ev.bind (heldIntS_ev b _ (by omega) (by omega) (by omega)) (EvKit.neg (by omega) (Ev.now _))

end Go.Proofs.Ytbckijeffiofdaa.LawKit

/- Rows of rows: compared, marked, held. -/
namespace Go.Proofs.Ytbckijeffiofdaa.LawKit
open Go.RowKit Go.Proofs.YtbckijeffiofdaaW.PrintWords Go.Proofs.Ytbckijeffiofdaa Go.Proofs.Ytbckijeffiofdaa.Arch Go.Proofs.Ytbckijeffiofdaa.P

theorem L9_at (l : List (List Int)) (i : Nat) (h : i < l.length) : rd_L9 l (i : Int) = l[i] := by
  unfold rd_L9
  rw [Int.toNat_natCast, List.getD_eq_getElem?_getD, List.getElem?_eq_getElem h]
  rfl

theorem eqIntSS_same (l : List (List Int)) (hl : l.length ≤ 1000000) (hr : ∀ r ∈ l, r.length ≤ 1000000) : Ev (fun k => laws_eqIntSS.f k l l) true := by
  unfold laws_eqIntSS.f
  refine EvKit.pos rfl ?_
  have key : ∀ (d i : Nat), i + d = l.length → Ev (fun k => laws_eqIntSS.l0 k l l i) true := by
    intro d
    induction d with
    | zero =>
      intro i hi
      refine Ev.step (fun k => by rw [laws_eqIntSS.l0]) ?_
      exact EvKit.neg (by omega) (Ev.now _)
    | succ d ih =>
      intro i hi
      refine Ev.step (fun k => by rw [laws_eqIntSS.l0]) ?_
      have hx : (rd_L9 l (i : Int)).length ≤ 1000000 := by rw [L9_at l i (by omega)]; exact hr _ (List.getElem_mem _)
      refine EvKit.pos (by omega) (EvKit.pos (by omega) (EvKit.pos (by omega) (Ev.bind (eqIntS_ev _ _ (by omega)) ?_)))
      refine EvKit.pos (by simp) ?_
      rw [EvKit.wr (x := (i : Int) + 1) (by omega) (by omega)]
      exact ih (i + 1) (by omega)
  exact key l.length 0 (by omega)

def totS (m : Int) : List (List Int) → Int
  | [] => m
  | r :: l => totS (m + r.length) l
def mkS (m : Int) : List (List Int) → List (List Int)
  | [] => []
  | r :: l => marks m r.length :: mkS (m + r.length) l
theorem totS_le : ∀ (l : List (List Int)) (m : Int), m ≤ totS m l
  | [], _ => Int.le_refl _
  | r :: l, m => by
    have := totS_le l (m + r.length)
    show m ≤ totS (m + r.length) l
    omega
theorem at_mid (A : List (List Int)) (b : List Int) (l : List (List Int)) : rd_L9 (A ++ b :: l) (A.length : Int) = b := by
  rw [L9_at _ _ (by simp)]
  simp

theorem markIntSS_ev (l : List (List Int)) : ∀ (A : List (List Int)) (m : Int), 0 ≤ m → totS m l ≤ 1000000 → (A ++ l).length ≤ 1000000 → Ev (fun k => laws_markIntSS.l0 k (A ++ l) m A.length) (totS m l, A ++ mkS m l) := by
  induction l with
  | nil =>
    intro A m _ _ _
    refine Ev.step (fun k => by rw [laws_markIntSS.l0]) ?_
    exact EvKit.neg (by simp) (Ev.now _)
  | cons b l ih =>
    intro A m h0 h1 h2
    refine Ev.step (fun k => by rw [laws_markIntSS.l0]) ?_
    have h3 := totS_le l (m + b.length)
    have h4 : totS m (b :: l) = totS (m + b.length) l := rfl
    have h5 : (A ++ b :: l).length = A.length + l.length + 1 := by simp; omega
    refine EvKit.pos (by omega) (EvKit.pos (by omega) ?_)
    rw [at_mid, EvKit.wr (x := (A.length : Int) + 1) (by omega) (by omega)]
    refine Ev.bind (markIntS_ev b m h0 (by omega) (by omega)) ?_
    have e : (A ++ b :: l).set (A.length : Int).toNat (marks m b.length) = (A ++ [marks m b.length]) ++ l := by
      rw [Int.toNat_natCast, List.set_append_right _ _ (Nat.le_refl _)]
      simp
    have e2 : (A.length : Int) + 1 = ((A ++ [marks m b.length]).length : Int) := by simp
    have e3 : A ++ mkS m (b :: l) = (A ++ [marks m b.length]) ++ mkS (m + b.length) l := by simp [mkS]
    show Ev (fun k => laws_markIntSS.l0 k ((A ++ b :: l).set (A.length : Int).toNat (marks m b.length)) (m + b.length) ((A.length : Int) + 1)) _
    rw [e, e2, e3, h4]
    exact ih _ _ (by omega) (by omega) (by simp at h2 ⊢; omega)

theorem heldIntSS_ev (l : List (List Int)) : ∀ (A : List (List Int)) (m : Int), 0 ≤ m → totS m l ≤ 1000000 → (A ++ l).length ≤ 1000000 → Ev (fun k => laws_heldIntSS.l0 k (A ++ mkS m l) m A.length) (totS m l) := by
  induction l with
  | nil =>
    intro A m _ _ _
    refine Ev.step (fun k => by rw [laws_heldIntSS.l0]) ?_
    exact EvKit.neg (by simp [mkS]) (Ev.now _)
  | cons b l ih =>
    intro A m h0 h1 h2
    refine Ev.step (fun k => by rw [laws_heldIntSS.l0]) ?_
    have h3 := totS_le l (m + b.length)
    have h4 : totS m (b :: l) = totS (m + b.length) l := rfl
    have h5 : (A ++ mkS m (b :: l)).length = A.length + (mkS (m + b.length) l).length + 1 := by simp [mkS]; omega
    have h6 : A.length ≤ 1000000 := by simp at h2; omega
    refine EvKit.pos (by omega) (EvKit.pos (by omega) ?_)
    have e0 : rd_L9 (A ++ mkS m (b :: l)) (A.length : Int) = marks m b.length := at_mid A _ _
    rw [e0, EvKit.wr (x := (A.length : Int) + 1) (by omega) (by omega)]
    refine Ev.bind (heldIntS_ev b.length m h0 (by omega) (by omega)) (EvKit.neg (by omega) ?_)
    have e2 : (A.length : Int) + 1 = ((A ++ [marks m b.length]).length : Int) := by simp
    have e3 : A ++ mkS m (b :: l) = (A ++ [marks m b.length]) ++ mkS (m + b.length) l := by simp [mkS]
    rw [e2, e3, h4]
    exact ih _ _ (by omega) (by omega) (by simp at h2 ⊢; omega)

end Go.Proofs.Ytbckijeffiofdaa.LawKit

/- Of every pair the program's ClosedStretches and the reference's list the same: the plain side. -/
namespace Go.Proofs.Ytbckijeffiofdaa.Pure
open Go.RowKit Go.Proofs.YtbckijeffiofdaaW.PrintWords Go.Proofs.Ytbckijeffiofdaa Go.Proofs.Ytbckijeffiofdaa.Arch Go.Proofs.Ytbckijeffiofdaa.Sys Go.Proofs.Ytbckijeffiofdaa.Cut Go.Proofs.Ytbckijeffiofdaa.LawKit Go.Proofs.Ytbckijeffiofdaa.P

def strT (p q : List Int) : List (List Int) × Bool := if pairB p q = true then (stretchesL p q, true) else ([], false)

theorem strT_rows (p q : List Int) : (strT p q).1.length ≤ 144 ∧ ∀ r ∈ (strT p q).1, r.length = 2 := by
  unfold strT
  split
  · rename_i c
    exact ⟨stretchesL_len p q ((pairB_iff p q).1 c).1, stretchesL_rows p q⟩
  · simp

theorem totS_two : ∀ (l : List (List Int)) (m : Int), (∀ r ∈ l, r.length = 2) → totS m l = m + 2 * l.length
  | [], m, _ => by show m = _; simp
  | r :: l, m, h => by
    have h2 := h r List.mem_cons_self
    have ih := totS_two l (m + r.length) (fun x hx => h x (List.mem_cons_of_mem _ hx))
    show totS (m + r.length) l = _
    rw [ih, List.length_cons]
    omega

theorem spec_ClosedStretches_ev (p q : List Int) (hp : p.length ≤ 140737488351232) (hq : q.length ≤ 140737488351232) : Ev (fun k => spec_ClosedStretches.f k p q) (strT p q) := by
  unfold spec_ClosedStretches.f strT
  refine Ev.bind (mePair_ev p q hp hq) ?_
  by_cases c : pairB p q = true
  · have h2 := (pairB_iff p q).1 c
    exact EvKit.eq (if_pos c).symm (EvKit.pos c (Ev.bind (siAll_ev p q h2.1 h2.2.2.2) (Ev.now _)))
  · exact EvKit.eq (if_neg c).symm (EvKit.neg c (Ev.now _))

theorem impl_ClosedStretches_ev (p q : List Int) (hp : p.length ≤ 140737488351232) (hq : q.length ≤ 140737488351232) : Ev (fun k => impl_ClosedStretches.f k p q) (strT p q) := by
  unfold impl_ClosedStretches.f strT
  refine Ev.bind (IsPair_ev p q hp hq) ?_
  by_cases c : pairB p q = true
  · have h2 := (pairB_iff p q).1 c
    exact EvKit.eq (if_pos c).symm (EvKit.pos c (Ev.bind (stretches_ev p q h2.1 h2.2.2.2) (Ev.now _)))
  · exact EvKit.eq (if_neg c).symm (EvKit.neg c (Ev.now _))

theorem FnExactClosedStretches : ∀ (l0_0 : List Int) (l0_1 : List Int), l0_0.length ≤ maxLen → (∀ x ∈ l0_0, (Lit.int .i64 x).wf = true) → l0_1.length ≤ maxLen → (∀ x ∈ l0_1, (Lit.int .i64 x).wf = true) → ∃ k, laws_FnExactClosedStretches.f k l0_0 l0_1 = some true := by
  intro p q hp _ hq _
  refine Ev.rounds ?_
  unfold laws_FnExactClosedStretches.f
  refine EvKit.got (szMeander_f p q _ hp hq (by omega) (by omega)) ?_
  by_cases c : (p.length : Int) + q.length ≤ 1048576
  · rw [if_pos c]
    refine EvKit.neg (by omega) ?_
    obtain ⟨hl, h2⟩ := strT_rows p q
    have hS := spec_ClosedStretches_ev p q (by omega) (by omega)
    have hI := impl_ClosedStretches_ev p q (by omega) (by omega)
    generalize strT p q = R at hl h2 hS hI
    obtain ⟨R, b⟩ := R
    simp only at hl h2
    have ht := totS_two R 1 h2
    refine Ev.bind (toMeander_ev p q (by omega) (by omega)) (Ev.bind hS (Ev.bind hI ?_))
    refine Ev.bind (eqIntSS_same R (by omega) (fun r hr => by rw [h2 r hr]; omega)) ?_
    refine Ev.bind (eqMeander_ev p q p q (by omega) (by omega)) ?_
    refine Ev.bind (markMeander_ev p q 1 (by omega) (by omega) (by omega) (by omega)) ?_
    refine Ev.bind (markIntSS_ev R [] 1 (by omega) (by omega) (by simp; omega)) ?_
    refine Ev.bind (heldIntSS_ev R [] 1 (by omega) (by omega) (by simp; omega)) ?_
    refine EvKit.pos ⟨rfl, rfl, by simp, ?_, rfl, ?_⟩ (Ev.now _)
    · show ¬ (1 + (p.length : Int) + q.length < 0); omega
    · show ¬ (totS 1 R < 0); omega
  · rw [if_neg c]
    exact EvKit.pos (by omega) (Ev.now _)

end Go.Proofs.Ytbckijeffiofdaa.Pure

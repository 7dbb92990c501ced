/- Arch systems: the check by pairs and the check by a stack tell the same (plain mathematics). -/
import Derived.Test.YtogghgecmjnieaaGreatALC
namespace Go.Proofs.YtogghgecmjnieaaGreat.Arch
open Go.Proofs.YtogghgecmjnieaaGreat.AL (gat)
@[reducible] def gt (xs : List Int) (i : Int) : Int := gat 0 xs i
structure ArcS (p : List Int) : Prop where
 lo : ∀ i : Int, 0 ≤ i → i < p.length → 0 ≤ gt p i
 hi : ∀ i : Int, 0 ≤ i → i < p.length → gt p i < p.length
 ne : ∀ i : Int, 0 ≤ i → i < p.length → gt p i ≠ i
 inv : ∀ i : Int, 0 ≤ i → i < p.length → gt p (gt p i) = i
 cr : ∀ a b : Int, 0 ≤ a → a < p.length → a < b → b < gt p a → a ≤ gt p b ∧ gt p b ≤ gt p a
def okFrom (p : List Int) : Nat → Int → List Int → Bool
 | 0, _, _ => true
 | d + 1, i, O =>
  if gt p i > i ∧ gt p (gt p i) = i then okFrom p d (i + 1) (i :: O)
  else if gt p i < i then
   match O with
   | [] => false
   | j :: O' => if j = gt p i then okFrom p d (i + 1) O' else false
  else false
def openAt (p : List Int) (i : Int) : Nat → List Int
 | 0 => []
 | m + 1 => if gt p m ≥ i then (m : Int) :: openAt p i m else openAt p i m
theorem mem_openAt (p : List Int) (i : Int) : ∀ (m : Nat) (a : Int), a ∈ openAt p i m ↔ 0 ≤ a ∧ a < m ∧ gt p a ≥ i := by
 intro m
 induction m with
 | zero => intro a; simp [openAt]; omega
 | succ m ih =>
  intro a
  unfold openAt
  split
  ·rename_i h
   rw [List.mem_cons, ih]
   constructor
   ·rintro (rfl | h')
    ·exact ⟨by omega, by omega, h⟩
    ·exact ⟨h'.1, by omega, h'.2.2⟩
   ·rintro ⟨h0, h1, h2⟩
    by_cases e : a = m
    ·exact .inl e
    ·exact .inr ⟨h0, by omega, h2⟩
  ·rename_i h
   rw [ih]
   constructor
   ·rintro h'
    exact ⟨h'.1, by omega, h'.2.2⟩
   ·rintro ⟨h0, h1, h2⟩
    refine ⟨h0, ?_, h2⟩
    by_cases e : a = m
    ·subst e; exact absurd h2 h
    ·omega
theorem openAt_cons (p : List Int) (i : Int) (m : Nat) (h : gt p m ≥ i) : openAt p i (m + 1) = (m : Int) :: openAt p i m := by
 rw [openAt, if_pos h]
theorem openAt_skip (p : List Int) (i : Int) (m : Nat) (h : ¬ gt p m ≥ i) : openAt p i (m + 1) = openAt p i m := by
 rw [openAt, if_neg h]
theorem openAt_raise (p : List Int) (i : Int) : ∀ m : Nat, (∀ a : Int, 0 ≤ a → a < m → gt p a ≠ i) → openAt p (i + 1) m = openAt p i m := by
 intro m
 induction m with
 | zero => intro _; rfl
 | succ m ih =>
  intro h
  have h1 := h m (by omega) (by omega)
  have h2 := ih (fun a h0 h1 => h a h0 (by omega))
  unfold openAt
  by_cases c : gt p m ≥ i
  ·rw [if_pos c, if_pos (by omega), h2]
  ·rw [if_neg c, if_neg (by omega), h2]
theorem openAt_head (p : List Int) (i j : Int) (hj : gt p j = i) (h0 : 0 ≤ j) : ∀ m : Nat, j < m → (∀ a : Int, j < a → a < m → ¬ gt p a ≥ i) → (∀ a : Int, 0 ≤ a → a < m → gt p a = i → a = j) →
  openAt p i m = j :: openAt p (i + 1) m := by
 intro m
 induction m with
 | zero => intro h; omega
 | succ m ih =>
  intro hm ha hu
  by_cases e : j = m
  ·subst e
   rw [openAt_cons p i m (by omega), openAt_skip p (i + 1) m (by omega), openAt_raise p i m]
   intro a h0 h1 h2
   have := hu a h0 (by omega) h2
   omega
  ·have c := ha m (by omega) (by omega)
   rw [openAt_skip p i m c, openAt_skip p (i + 1) m (by omega)]
   exact ih (by omega) (fun a h1 h2 => ha a h1 (by omega)) (fun a h1 h2 => hu a h1 (by omega))
theorem ok_of_sys {p : List Int} (h : ArcS p) : ∀ (d i : Nat), i + d = p.length → okFrom p d i (openAt p i i) = true := by
 intro d
 induction d with
 | zero => intro i _; rfl
 | succ d ih =>
  intro i hi
  have hlt : (i : Int) < p.length := by omega
  have hl := h.lo i (by omega) hlt
  have hh := h.hi i (by omega) hlt
  have hn := h.ne i (by omega) hlt
  have hv := h.inv i (by omega) hlt
  have next := ih (i + 1) (by omega)
  unfold okFrom
  by_cases c : gt p i > i
  ·rw [if_pos ⟨c, hv⟩]
   have e : openAt p ((i + 1 : Nat) : Int) (i + 1) = (i : Int) :: openAt p i i := by
    rw [openAt_cons _ _ _ (by omega)]
    congr 1
    have := openAt_raise p i i (fun a h0 h1 h2 => by
     have := h.inv a h0 (by omega)
     rw [h2] at this
     omega)
    exact this
   rw [e] at next
   exact next
  ·rw [if_neg (fun q => c q.1), if_pos (by omega)]
   have e := openAt_head p i (gt p i) hv hl i (by omega) (fun a h1 h2 h3 => by
     have := h.cr (gt p i) a hl hh h1 (by omega)
     have h4 : gt p a = i := by omega
     have := h.inv a (by omega) (by omega)
     rw [h4] at this
     omega) (fun a h0 h1 h2 => by
     have := h.inv a h0 (by omega)
     rw [h2] at this
     omega)
   rw [e]
   simp only [if_true]
   have e2 : openAt p ((i + 1 : Nat) : Int) (i + 1) = openAt p ((i : Int) + 1) i := openAt_skip _ _ _ (by omega)
   rw [e2] at next
   exact next
theorem open_len {p : List Int} (h : ArcS p) : ∀ i : Nat, i ≤ p.length → (openAt p i i).length % 2 = i % 2 := by
 intro i
 induction i with
 | zero => intro _; rfl
 | succ i ih =>
  intro hi
  have ih := ih (by omega)
  have hlt : (i : Int) < p.length := by omega
  have hl := h.lo i (by omega) hlt
  have hh := h.hi i (by omega) hlt
  have hn := h.ne i (by omega) hlt
  have hv := h.inv i (by omega) hlt
  by_cases c : gt p i > i
  ·have e : openAt p ((i + 1 : Nat) : Int) (i + 1) = (i : Int) :: openAt p i i := by
    rw [openAt_cons _ _ _ (by omega)]
    congr 1
    have := openAt_raise p i i (fun a h0 h1 h2 => by
     have := h.inv a h0 (by omega)
     rw [h2] at this
     omega)
    exact this
   rw [e, List.length_cons]
   omega
  ·have e := openAt_head p i (gt p i) hv hl i (by omega) (fun a h1 h2 h3 => by
     have := h.cr (gt p i) a hl hh h1 (by omega)
     have h4 : gt p a = i := by omega
     have := h.inv a (by omega) (by omega)
     rw [h4] at this
     omega) (fun a h0 h1 h2 => by
     have := h.inv a h0 (by omega)
     rw [h2] at this
     omega)
   have e2 : openAt p ((i + 1 : Nat) : Int) (i + 1) = openAt p ((i : Int) + 1) i := openAt_skip _ _ _ (by omega)
   rw [e, List.length_cons] at ih
   rw [e2]
   omega
theorem even_of_sys {p : List Int} (h : ArcS p) : p.length % 2 = 0 := by
 have h1 := open_len h p.length (Nat.le_refl _)
 have h2 : openAt p p.length p.length = [] := by
  cases e : openAt p p.length p.length with
  | nil => rfl
  | cons a l =>
   have : a ∈ openAt p p.length p.length := by rw [e]; exact List.mem_cons_self
   rw [mem_openAt] at this
   have := h.hi a this.1 this.2.1
   omega
 rw [h2] at h1
 simpa using h1.symm
structure Stk (p : List Int) (i : Int) (O : List Int) : Prop where
 dec : O.Pairwise (· > ·)
 lt : ∀ a ∈ O, 0 ≤ a ∧ a < i
 op : ∀ a ∈ O, gt p a > a ∧ gt p (gt p a) = a
theorem closers (p : List Int) : ∀ (d : Nat) (i : Int) (O : List Int), Stk p i O → 0 ≤ i → okFrom p d i O = true →
  ∀ m : Int, i ≤ m → m < i + d → gt p m < m → gt p m < i → gt p m ∈ O := by
 intro d
 induction d with
 | zero => intro i O _ _ _ m h1 h2; omega
 | succ d ih =>
  intro i O hS hi hok m h1 h2 h3 h4
  unfold okFrom at hok
  by_cases c : gt p i > i ∧ gt p (gt p i) = i
  ·rw [if_pos c] at hok
   have hne : m ≠ i := by rintro rfl; omega
   have := ih (i + 1) (i :: O) ⟨List.pairwise_cons.2 ⟨fun a ha => (hS.lt a ha).2, hS.dec⟩, fun a ha => by
    rcases List.mem_cons.1 ha with rfl | ha
    ·omega
    ·have := hS.lt a ha; omega, fun a ha => by
    rcases List.mem_cons.1 ha with rfl | ha
    ·exact c
    ·exact hS.op a ha⟩ (by omega) hok m (by omega) (by omega) h3 (by omega)
   rcases List.mem_cons.1 this with e | e
   ·omega
   ·exact e
  ·rw [if_neg c] at hok
   by_cases c2 : gt p i < i
   ·rw [if_pos c2] at hok
    match O, hS, hok with
    | [], _, hok => cases hok
    | j :: O', hS, hok =>
     simp only at hok
     by_cases c3 : j = gt p i
     ·rw [if_pos c3] at hok
      by_cases e : m = i
      ·subst e; rw [← c3]; exact List.mem_cons_self
      ·have hd := List.pairwise_cons.1 hS.dec
       have := ih (i + 1) O' ⟨hd.2, fun a ha => by have := hS.lt a (List.mem_cons_of_mem _ ha); omega, fun a ha => hS.op a (List.mem_cons_of_mem _ ha)⟩ (by omega) hok m (by omega) (by omega) h3 (by omega)
       exact List.mem_cons_of_mem _ this
     ·rw [if_neg c3] at hok; cases hok
   ·rw [if_neg c2] at hok; cases hok
theorem tells (p : List Int) (n : Nat) (hn : n = p.length) (hr : ∀ i : Int, 0 ≤ i → i < n → 0 ≤ gt p i ∧ gt p i < n) : ∀ (d : Nat) (i : Int) (O : List Int), Stk p i O → 0 ≤ i → i + d = n → (∀ a ∈ O, gt p a ≥ i) → okFrom p d i O = true →
  (∀ m : Int, i ≤ m → m < n → gt p m ≠ m ∧ gt p (gt p m) = m) ∧
  (∀ a ∈ O, ∀ b : Int, i ≤ b → b < gt p a → a < gt p b ∧ gt p b < gt p a) ∧
  (∀ a b : Int, i ≤ a → a < n → a < b → b < gt p a → a ≤ gt p b ∧ gt p b ≤ gt p a) := by
 intro d
 induction d with
 | zero =>
  intro i O hS h0 hi hO _
  refine ⟨fun m h1 h2 => by omega, fun a ha b h1 h2 => ?_, fun a b h1 h2 => by omega⟩
  have := hS.lt a ha
  have := (hr a this.1 (by omega)).2
  omega
 | succ d ih =>
  intro i O hS h0 hi hO hok
  have hok0 := hok
  have hri := hr i h0 (by omega)
  unfold okFrom at hok
  by_cases c : gt p i > i ∧ gt p (gt p i) = i
  ·rw [if_pos c] at hok
   have hS' : Stk p (i + 1) (i :: O) := ⟨List.pairwise_cons.2 ⟨fun a ha => (hS.lt a ha).2, hS.dec⟩, fun a ha => by
    rcases List.mem_cons.1 ha with rfl | ha
    ·omega
    ·have := hS.lt a ha; omega, fun a ha => by
    rcases List.mem_cons.1 ha with rfl | ha
    ·exact c
    ·exact hS.op a ha⟩
   have hO' : ∀ a ∈ i :: O, gt p a ≥ i + 1 := fun a ha => by
    rcases List.mem_cons.1 ha with rfl | ha
    ·omega
    ·have h1 := hO a ha
     by_cases e : gt p a = i
     ·have h2 := (hS.op a ha).2
      rw [e] at h2
      have := (hS.lt a ha).2
      omega
     ·omega
   obtain ⟨t1, t2, t3⟩ := ih (i + 1) (i :: O) hS' (by omega) (by omega) hO' hok
   refine ⟨fun m h1 h2 => ?_, fun a ha b h1 h2 => ?_, fun a b h1 h2 h3 h4 => ?_⟩
   ·by_cases e : m = i
    ·subst e; exact ⟨by omega, c.2⟩
    ·exact t1 m (by omega) h2
   ·by_cases e : b = i
    ·subst e
     have hlt := (hS.lt a ha).2
     refine ⟨by omega, ?_⟩
     -- b opens inside a: its end is inside a's
     rcases Int.lt_or_le (gt p b) (gt p a) with h | h
     ·exact h
     ·exfalso
      have hbi := t2 b List.mem_cons_self (gt p a)
      by_cases e2 : gt p b = gt p a
      ·have h5 := c.2
       rw [e2, (hS.op a ha).2] at h5
       omega
      ·have := hbi (by omega) (by omega)
       rw [(hS.op a ha).2] at this
       omega
    ·exact t2 a (List.mem_cons_of_mem _ ha) b (by omega) h2
   ·by_cases e : a = i
    ·subst e
     have := t2 a List.mem_cons_self b (by omega) h4
     omega
    ·exact t3 a b (by omega) h2 h3 h4
  ·rw [if_neg c] at hok
   by_cases c2 : gt p i < i
   ·rw [if_pos c2] at hok
    match O, hS, hO, hok, hok0 with
    | [], _, _, hok, _ => cases hok
    | j :: O', hS, hO, hok, hok0 =>
     simp only at hok
     by_cases c3 : j = gt p i
     ·rw [if_pos c3] at hok
      have hd := List.pairwise_cons.1 hS.dec
      have hS' : Stk p (i + 1) O' := ⟨hd.2, fun a ha => by have := hS.lt a (List.mem_cons_of_mem _ ha); omega, fun a ha => hS.op a (List.mem_cons_of_mem _ ha)⟩
      have hj := hS.op j List.mem_cons_self
      have hjl := hS.lt j List.mem_cons_self
      have hjO := hO j List.mem_cons_self
      -- j's end is i: it was open, and is closed here
      have hji : gt p j = i := by
       rcases Int.lt_or_le i (gt p j) with h | h
       ·exfalso
        have hrj := hr j hjl.1 (by omega)
        have := closers p d (i + 1) O' hS' (by omega) hok (gt p j) (by omega) (by omega) (by rw [hj.2]; omega) (by rw [hj.2]; omega)
        rw [hj.2] at this
        have := hd.1 j this
        omega
       ·omega
      have hO' : ∀ a ∈ O', gt p a ≥ i + 1 := fun a ha => by
       have h1 := hO a (List.mem_cons_of_mem _ ha)
       by_cases e : gt p a = i
       ·have h2 := (hS.op a (List.mem_cons_of_mem _ ha)).2
        have := hd.1 a ha
        rw [e, ← c3] at h2
        omega
       ·omega
      obtain ⟨t1, t2, t3⟩ := ih (i + 1) O' hS' (by omega) (by omega) hO' hok
      refine ⟨fun m h1 h2 => ?_, fun a ha b h1 h2 => ?_, fun a b h1 h2 h3 h4 => ?_⟩
      ·by_cases e : m = i
       ·subst e; exact ⟨by omega, by rw [← c3]; exact hji⟩
       ·exact t1 m (by omega) h2
      ·rcases List.mem_cons.1 ha with rfl | ha'
       ·omega
       ·by_cases e : b = i
        ·subst e
         have := hd.1 a ha'
         rw [← c3]
         omega
        ·exact t2 a ha' b (by omega) h2
      ·by_cases e : a = i
       ·subst e; omega
       ·exact t3 a b (by omega) h2 h3 h4
     ·rw [if_neg c3] at hok; cases hok
   ·rw [if_neg c2] at hok; cases hok
theorem sys_of_ok {p : List Int} (hr : ∀ i : Int, 0 ≤ i → i < p.length → 0 ≤ gt p i ∧ gt p i < p.length) (h : okFrom p p.length 0 [] = true) : ArcS p := by
 obtain ⟨t1, _, t3⟩ := tells p p.length rfl hr p.length 0 [] ⟨List.Pairwise.nil, (fun a ha => by simp at ha), (fun a ha => by simp at ha)⟩ (by omega) (by omega) (fun a ha => by simp at ha) h
 exact ⟨fun i h0 h1 => (hr i h0 h1).1, fun i h0 h1 => (hr i h0 h1).2, fun i h0 h1 => (t1 i h0 h1).1, fun i h0 h1 => (t1 i h0 h1).2, fun a b h0 h1 h2 h3 => t3 a b h0 h1 h2 h3⟩
end Go.Proofs.YtogghgecmjnieaaGreat.Arch

/- In whatever order closed stretches are cut out, the pieces are the same. No condition. -/
import Derived.Test.YtbckijeffiofdaaPAD
namespace Go.Proofs.Ytbckijeffiofdaa.AL
open Go Go.Proofs.Ytbckijeffiofdaa.Arch
set_option linter.unusedVariables false
set_option linter.unusedSimpArgs false
set_option maxRecDepth 100000
def Cl (p q : List Int) (I J : Nat) : Prop := I < J ∧ J < p.length ∧ J + 1 - I < p.length ∧ Shut p I J ∧ Shut q I J
def Mn (p q : List Int) (I J : Nat) : Prop := Cl p q I J ∧ ∀ A B : Nat, I ≤ A → B ≤ J → A < B → Shut p A B → Shut q A B → A = I ∧ B = J
inductive Cuts : List Int → List Int → List PL → Prop
  | done {p q : List Int} : (∀ I J, ¬ Cl p q I J) → Cuts p q [(p, q)]
  | cut {p q : List Int} {I J : Nat} {L : List PL} : Mn p q I J → Cuts (outL p I J) (outL q I J) L → Cuts p q ((innL p I J, innL q I J) :: L)
section
variable {p q r : List Int} {I J K M : Nat}
theorem Mn.two_out (h : Two p q) (m : Mn p q I J) : Two (outL p I J) (outL q I J) := by
  obtain ⟨⟨a, b, c, d, e⟩, _⟩ := m
  have hl := h.len
  have o1 := outL_len (p := p) (I := I) (J := J) (by omega) b
  have o2 := outL_len (p := q) (I := I) (J := J) (by omega) (by omega)
  exact ⟨arc_out (by omega) b d h.sp, arc_out (by omega) (by omega) e h.sq, by omega⟩
theorem Mn.two_inn (h : Two p q) (m : Mn p q I J) : Two (innL p I J) (innL q I J) := by
  obtain ⟨⟨a, b, c, d, e⟩, _⟩ := m
  have hl := h.len
  have o1 : (innL p I J).length = J + 1 - I := innL_len (by omega)
  have o2 : (innL q I J).length = J + 1 - I := innL_len (by omega)
  exact ⟨arc_inn (by omega) b d h.sp, arc_inn (by omega) (by omega) e h.sq, by omega⟩
theorem outL_lt (hIJ : I < J) (hJ : J < p.length) : (outL p I J).length < p.length := by rw [outL_len (by omega) hJ]; omega
theorem mn_ex : ∀ (n I J : Nat), J - I = n → Cl p q I J → ∃ A B, Mn p q A B := by
  intro n
  induction n using Nat.strongRecOn with
  | _ n ih =>
    intro I J hn hc
    by_cases h : ∀ A B : Nat, I ≤ A → B ≤ J → A < B → Shut p A B → Shut q A B → A = I ∧ B = J
    · exact ⟨I, J, hc, h⟩
    · simp only [Classical.not_forall] at h
      obtain ⟨A, B, h1, h2, h3, h4, h5, h6⟩ := h
      obtain ⟨c1, c2, c3, c4, c5⟩ := hc
      exact ih (B - A) (by omega) A B rfl ⟨h3, by omega, by omega, h4, h5⟩
theorem cuts_ex : ∀ (n : Nat) (p q : List Int), p.length = n → Two p q → ∃ L, Cuts p q L := by
  intro n
  induction n using Nat.strongRecOn with
  | _ n ih =>
    intro p q hn h
    by_cases hc : ∃ I J, Cl p q I J
    · obtain ⟨I, J, hc⟩ := hc
      obtain ⟨A, B, hm⟩ := mn_ex _ I J rfl hc
      obtain ⟨L, hL⟩ := ih _ (by rw [← hn]; exact outL_lt hm.1.1 hm.1.2.1) (outL p A B) (outL q A B) rfl (hm.two_out h)
      exact ⟨_, .cut hm hL⟩
    · exact ⟨_, .done fun I J h => hc ⟨I, J, h⟩⟩
theorem mn_apart (h : Two p q) (a : Mn p q I J) (b : Mn p q K M) (hne : ¬ (I = K ∧ J = M)) : J < K ∨ M < I := by
  refine Classical.byContradiction fun hn => ?_
  obtain ⟨⟨a1, a2, a3, a4, a5⟩, a6⟩ := a
  obtain ⟨⟨b1, b2, b3, b4, b5⟩, b6⟩ := b
  have both : ∀ r : List Int, Shut r I J → Shut r K M → Shut r ((max I K : Nat) : Int) ((min J M : Nat) : Int) := fun r h1 h2 x hx1 hx2 => by
    have := h1 x (by omega) (by omega)
    have := h2 x (by omega) (by omega)
    omega
  by_cases hlt : max I K < min J M
  · have e1 := a6 (max I K) (min J M) (by omega) (by omega) hlt (both p a4 b4) (both q a5 b5)
    have e2 := b6 (max I K) (min J M) (by omega) (by omega) hlt (both p a4 b4) (both q a5 b5)
    omega
  · have e : max I K = min J M := by omega
    have := both p a4 b4 ((max I K : Nat) : Int) (by omega) (by omega)
    have := ArcS.ne' h.sp ((max I K : Nat) : Int) (by omega) (by omega)
    omega
theorem out_at (hIJ : I ≤ J) (hJ : J < r.length) {k : Nat} (hk : k < (outL r I J).length) : gat 0 (outL r I J) (k : Int) = dn I J (gat 0 r ((up I J k : Nat) : Int)) := outL_get hIJ hJ (by rw [outL_len hIJ hJ] at hk; exact hk)
theorem right_shut (hIJ : I ≤ J) (hJ : J < r.length) (ha : J < K) (hKM : K ≤ M) (hM : M < r.length) (hs : Shut r K M) : Shut (outL r I J) ((K - (J + 1 - I) : Nat) : Int) ((M - (J + 1 - I) : Nat) : Int) := fun x h0 h1 => by
  have hl := outL_len hIJ hJ
  have e : x = ((x.toNat : Nat) : Int) := by omega
  rw [e, out_at hIJ hJ (by omega)]
  have hu : up I J x.toNat = x.toNat + (J + 1 - I) := by unfold up; rw [if_neg (by omega)]
  rw [hu]
  have := hs ((x.toNat + (J + 1 - I) : Nat) : Int) (by omega) (by omega)
  unfold dn
  rw [if_pos (by omega)]
  omega
theorem right_back (hIJ : I ≤ J) (hJ : J < r.length) (hr : Joint r) (hsJ : Shut r I J) {A B : Nat} (hA : I ≤ A) (hB : B < (outL r I J).length) (hs : Shut (outL r I J) (A : Int) (B : Int)) : Shut r ((A + (J + 1 - I) : Nat) : Int) ((B + (J + 1 - I) : Nat) : Int) := fun x h0 h1 => by
  have hl := outL_len hIJ hJ
  have e : x = ((x.toNat - (J + 1 - I) + (J + 1 - I) : Nat) : Int) := by omega
  have hk : x.toNat - (J + 1 - I) < (outL r I J).length := by omega
  have hu : up I J (x.toNat - (J + 1 - I)) = x.toNat - (J + 1 - I) + (J + 1 - I) := by unfold up; rw [if_neg (by omega)]
  have h2 := hs ((x.toNat - (J + 1 - I) : Nat) : Int) (by omega) (by omega)
  rw [out_at hIJ hJ hk, hu] at h2
  have hno := out_of hsJ hr (x := x.toNat - (J + 1 - I) + (J + 1 - I)) (by omega) (by unfold inN; simp; omega)
  rw [e]
  generalize gat 0 r ((x.toNat - (J + 1 - I) + (J + 1 - I) : Nat) : Int) = v at h2 hno ⊢
  unfold dn at h2
  split at h2 <;> omega
theorem right_inn (hIJ : I ≤ J) (hJ : J < r.length) (ha : J < K) (hKM : K ≤ M) (hM : M < r.length) (hs : Shut r K M) : innL (outL r I J) (K - (J + 1 - I)) (M - (J + 1 - I)) = innL r K M := by
  have hl := outL_len hIJ hJ
  have l1 : (innL (outL r I J) (K - (J + 1 - I)) (M - (J + 1 - I))).length = M + 1 - K := by rw [innL_len (by omega)]; omega
  have l2 : (innL r K M).length = M + 1 - K := innL_len hKM
  refine List.ext_getElem? fun i => ?_
  by_cases h : i < M + 1 - K
  · rw [some_gat (by omega), some_gat (by omega), inn_get (by omega) (by omega), inn_get hKM h, out_at hIJ hJ (by omega)]
    have hu : up I J (K - (J + 1 - I) + i) = K + i := by unfold up; rw [if_neg (by omega)]; omega
    rw [hu]
    have := hs ((K + i : Nat) : Int) (by omega) (by omega)
    congr 1
    unfold dn
    rw [if_pos (by omega)]
    omega
  · rw [List.getElem?_eq_none (by omega), List.getElem?_eq_none (by omega)]
theorem left_gat (hKM : K ≤ M) (hM : M < r.length) (ha : J < K) (hs : Shut r I J) {x : Nat} (h0 : I ≤ x) (h1 : x ≤ J) : gat 0 (outL r K M) (x : Int) = gat 0 r (x : Int) := by
  have hl := outL_len hKM hM
  rw [out_at hKM hM (by omega)]
  have hu : up K M x = x := by unfold up; rw [if_pos (by omega)]
  rw [hu]
  have := hs (x : Int) (by omega) (by omega)
  unfold dn
  rw [if_neg (by omega)]
theorem left_shut (hKM : K ≤ M) (hM : M < r.length) (ha : J < K) (hs : Shut r I J) : Shut (outL r K M) (I : Int) (J : Int) := fun x h0 h1 => by
  have e : x = ((x.toNat : Nat) : Int) := by omega
  rw [e, left_gat hKM hM ha hs (by omega) (by omega)]
  have := hs ((x.toNat : Nat) : Int) (by omega) (by omega)
  omega
theorem left_back (hKM : K ≤ M) (hM : M < r.length) (ha : J < K) (hs : Shut r I J) {A B : Nat} (hA : I ≤ A) (hB : B ≤ J) (hu : Shut (outL r K M) (A : Int) (B : Int)) : Shut r (A : Int) (B : Int) := fun x h0 h1 => by
  have e : x = ((x.toNat : Nat) : Int) := by omega
  have := hu x h0 h1
  rw [e, left_gat hKM hM ha hs (by omega) (by omega)] at this
  rw [e]
  omega
theorem left_inn (hIJ : I ≤ J) (hKM : K ≤ M) (hM : M < r.length) (ha : J < K) (hs : Shut r I J) : innL (outL r K M) I J = innL r I J := by
  have l1 : (innL (outL r K M) I J).length = J + 1 - I := innL_len hIJ
  have l2 : (innL r I J).length = J + 1 - I := innL_len hIJ
  refine List.ext_getElem? fun i => ?_
  by_cases h : i < J + 1 - I
  · rw [some_gat (by omega), some_gat (by omega), inn_get hIJ h, inn_get hIJ h, left_gat hKM hM ha hs (by omega) (by omega)]
  · rw [List.getElem?_eq_none (by omega), List.getElem?_eq_none (by omega)]
theorem out_out (hIJ : I ≤ J) (ha : J < K) (hKM : K ≤ M) (hM : M < r.length) (hr : Joint r) (hs : Shut r I J) (ht : Shut r K M) : outL (outL r I J) (K - (J + 1 - I)) (M - (J + 1 - I)) = outL (outL r K M) I J := by
  have l1 := outL_len (p := r) (I := I) (J := J) hIJ (by omega)
  have l2 := outL_len (p := r) (I := K) (J := M) hKM hM
  have l3 := outL_len (p := outL r I J) (I := K - (J + 1 - I)) (J := M - (J + 1 - I)) (by omega) (by omega)
  have l4 := outL_len (p := outL r K M) (I := I) (J := J) hIJ (by omega)
  refine List.ext_getElem? fun i => ?_
  by_cases h : i < (outL (outL r K M) I J).length
  · have u1 : up (K - (J + 1 - I)) (M - (J + 1 - I)) i < (outL r I J).length := by unfold up; split <;> omega
    have u2 : up I J i < (outL r K M).length := by unfold up; split <;> omega
    have e : up I J (up (K - (J + 1 - I)) (M - (J + 1 - I)) i) = up K M (up I J i) := by unfold up; split <;> split <;> split <;> (try split) <;> omega
    rw [some_gat (by omega), some_gat h, out_at (by omega) (by omega) (by omega), out_at (by omega) (by omega) h, out_at hIJ (by omega) u1, out_at hKM hM u2, e]
    have hlt : up K M (up I J i) < r.length := by unfold up; split <;> split <;> omega
    have n1 := out_of hs hr hlt (by rw [← e]; unfold up inN; split <;> split <;> simp <;> omega)
    have n2 := out_of ht hr hlt (by unfold up inN; split <;> split <;> simp <;> omega)
    have j := hr _ hlt
    generalize gat 0 r ((up K M (up I J i) : Nat) : Int) = v at n1 n2 j ⊢
    congr 1
    unfold dn
    split <;> split <;> split <;> (try split) <;> omega
  · rw [List.getElem?_eq_none (by omega), List.getElem?_eq_none (by omega)]
theorem swap {n : Nat} (ih : ∀ m, m < n → ∀ (p q : List Int) (L L' : List PL), p.length = m → Two p q → Cuts p q L → Cuts p q L' → L.Perm L') (hn : p.length = n) (h : Two p q) (a : Mn p q I J) (b : Mn p q K M) (hJK : J < K) {L L' : List PL}
    (hL : Cuts (outL p I J) (outL q I J) L) (hL' : Cuts (outL p K M) (outL q K M) L') : ((innL p I J, innL q I J) :: L).Perm ((innL p K M, innL q K M) :: L') := by
  have two1 := a.two_out h
  have two2 := b.two_out h
  obtain ⟨⟨a1, a2, a3, a4, a5⟩, a6⟩ := a
  obtain ⟨⟨b1, b2, b3, b4, b5⟩, b6⟩ := b
  have hl := h.len
  have jp := sys_joint h.sp
  have jq := sys_joint h.sq
  have l1 := outL_len (p := p) (I := I) (J := J) (by omega) a2
  have l2 := outL_len (p := p) (I := K) (J := M) (by omega) b2
  have l1q := outL_len (p := q) (I := I) (J := J) (by omega) (by omega)
  have l2q := outL_len (p := q) (I := K) (J := M) (by omega) (by omega)
  have ri : innL (outL p I J) (K - (J + 1 - I)) (M - (J + 1 - I)) = innL p K M := right_inn (by omega) a2 hJK (by omega) b2 b4
  have rj : innL (outL q I J) (K - (J + 1 - I)) (M - (J + 1 - I)) = innL q K M := right_inn (by omega) (by omega) hJK (by omega) (by omega) b5
  have li : innL (outL p K M) I J = innL p I J := left_inn (by omega) (by omega) b2 hJK a4
  have lj : innL (outL q K M) I J = innL q I J := left_inn (by omega) (by omega) (by omega) hJK a5
  have rs := right_shut (I := I) (by omega) a2 hJK (by omega) b2 b4
  have rt := right_shut (I := I) (r := q) (by omega) (by omega) hJK (by omega) (by omega) b5
  have rmin : ∀ A B : Nat, K - (J + 1 - I) ≤ A → B ≤ M - (J + 1 - I) → A < B → Shut (outL p I J) A B → Shut (outL q I J) A B → A = K - (J + 1 - I) ∧ B = M - (J + 1 - I) := fun A B h1 h2 h3 h4 h5 => by
    have := b6 (A + (J + 1 - I)) (B + (J + 1 - I)) (by omega) (by omega) (by omega) (right_back (by omega) a2 jp a4 (by omega) (by omega) h4) (right_back (by omega) (by omega) jq a5 (by omega) (by omega) h5)
    omega
  by_cases hs : (J + 1 - I) + (M + 1 - K) < p.length
  · have m1 : Mn (outL p I J) (outL q I J) (K - (J + 1 - I)) (M - (J + 1 - I)) := ⟨⟨by omega, by omega, by omega, rs, rt⟩, rmin⟩
    have m2 : Mn (outL p K M) (outL q K M) I J := ⟨⟨a1, by omega, by omega, left_shut (by omega) b2 hJK a4, left_shut (by omega) (by omega) hJK a5⟩, fun A B h1 h2 h3 h4 h5 =>
      a6 A B h1 h2 h3 (left_back (by omega) b2 hJK a4 h1 h2 h4) (left_back (by omega) (by omega) hJK a5 h1 h2 h5)⟩
    obtain ⟨X, hX⟩ := cuts_ex _ _ _ rfl (m2.two_out two2)
    have o1 : outL (outL p I J) (K - (J + 1 - I)) (M - (J + 1 - I)) = outL (outL p K M) I J := out_out (by omega) hJK (by omega) b2 jp a4 b4
    have o2 : outL (outL q I J) (K - (J + 1 - I)) (M - (J + 1 - I)) = outL (outL q K M) I J := out_out (by omega) hJK (by omega) (by omega) jq a5 b5
    have c1 := Cuts.cut m2 hX
    rw [← o1, ← o2] at hX
    have c2 := Cuts.cut m1 hX
    rw [li, lj] at c1
    rw [ri, rj] at c2
    have p1 := ih _ (by omega) _ _ _ _ rfl two1 hL c2
    have p2 := ih _ (by omega) _ _ _ _ rfl two2 hL' c1
    exact (List.Perm.cons _ p1).trans ((List.Perm.swap _ _ _).trans (List.Perm.cons _ p2.symm))
  · have hI : I = 0 := by omega
    have hK : K = J + 1 := by omega
    have hM : M + 1 = p.length := by omega
    have e1 : ∀ r : List Int, r.length = p.length → Shut r K M → outL r I J = innL r K M := fun r hr hs => by
      have k1 := outL_len (p := r) (I := I) (J := J) (by omega) (by omega)
      have k2 : (innL r K M).length = M + 1 - K := innL_len (by omega)
      refine List.ext_getElem? fun i => ?_
      by_cases h : i < M + 1 - K
      · rw [some_gat (by omega), some_gat (by omega), inn_get (by omega) h, out_at (by omega) (by omega) (by omega)]
        have hu : up I J i = K + i := by unfold up; rw [if_neg (by omega)]; omega
        rw [hu]
        have := hs ((K + i : Nat) : Int) (by omega) (by omega)
        congr 1
        unfold dn
        rw [if_pos (by omega)]
        omega
      · rw [List.getElem?_eq_none (by omega), List.getElem?_eq_none (by omega)]
    have e2 : ∀ r : List Int, r.length = p.length → Shut r I J → outL r K M = innL r I J := fun r hr hs => by
      have k1 := outL_len (p := r) (I := K) (J := M) (by omega) (by omega)
      have k2 : (innL r I J).length = J + 1 - I := innL_len (by omega)
      refine List.ext_getElem? fun i => ?_
      by_cases h : i < J + 1 - I
      · rw [some_gat (by omega), some_gat (by omega), inn_get (by omega) h, left_gat (by omega) (by omega) hJK hs (by omega) (by omega)]
        congr 1
        rw [show I + i = i by omega]
        omega
      · rw [List.getElem?_eq_none (by omega), List.getElem?_eq_none (by omega)]
    have w1 : ∀ A B, ¬ Cl (outL p I J) (outL q I J) A B := fun A B hc => by
      obtain ⟨c1, c2, c3, c4, c5⟩ := hc
      have := rmin A B (by omega) (by omega) c1 c4 c5
      omega
    have w2 : ∀ A B, ¬ Cl (outL p K M) (outL q K M) A B := fun A B hc => by
      obtain ⟨c1, c2, c3, c4, c5⟩ := hc
      have := a6 A B (by omega) (by omega) c1 (left_back (by omega) b2 hJK a4 (by omega) (by omega) c4) (left_back (by omega) (by omega) hJK a5 (by omega) (by omega) c5)
      omega
    have p1 := ih _ (by omega) _ _ _ _ rfl two1 hL (.done w1)
    have p2 := ih _ (by omega) _ _ _ _ rfl two2 hL' (.done w2)
    rw [e1 p rfl b4, e1 q (by omega) b5] at p1
    rw [e2 p rfl a4, e2 q (by omega) a5] at p2
    exact (List.Perm.cons _ p1).trans ((List.Perm.swap _ _ _).trans (List.Perm.cons _ p2.symm))
theorem cuts_perm : ∀ (n : Nat) (p q : List Int) (L L' : List PL), p.length = n → Two p q → Cuts p q L → Cuts p q L' → L.Perm L' := by
  intro n
  induction n using Nat.strongRecOn with
  | _ n ih =>
    intro p q L L' hn h c c'
    cases c with
    | done d =>
      cases c' with
      | done _ => exact .refl _
      | cut m _ => exact absurd m.1 (d _ _)
    | @cut _ _ I J L m c =>
      cases c' with
      | done d => exact absurd m.1 (d _ _)
      | @cut _ _ K M L' m' c' =>
        by_cases e : I = K ∧ J = M
        · obtain ⟨rfl, rfl⟩ := e
          exact .cons _ (ih _ (by rw [← hn]; exact outL_lt m.1.1 m.1.2.1) _ _ _ _ rfl (m.two_out h) c c')
        · rcases mn_apart h m m' e with hlt | hlt
          · exact swap ih hn h m m' hlt c c'
          · exact (swap ih hn h m' m hlt c' c).symm
theorem cuts_all (h : Two p q) {L : List PL} (c : Cuts p q L) : (∀ x ∈ L, Two x.1 x.2 ∧ x.1.length ≤ p.length ∧ ∀ A B, ¬ Cl x.1 x.2 A B) ∧ (L.map fun x => x.1.length).sum = p.length ∧ (L.map fun x => compN x.1 x.2).sum = compN p q ∧ (0 < p.length → ∀ x ∈ L, 0 < x.1.length) := by
  induction c with
  | @done p q d =>
    refine ⟨fun x hx => ?_, by simp, by simp, fun h0 x hx => ?_⟩
    · obtain rfl := List.mem_singleton.1 hx
      exact ⟨h, Nat.le_refl _, d⟩
    · obtain rfl := List.mem_singleton.1 hx
      exact h0
  | @cut p q I J L m c ih =>
    obtain ⟨i1, i2, i3, i4⟩ := ih (m.two_out h)
    have ti := m.two_inn h
    obtain ⟨⟨a1, a2, a3, a4, a5⟩, a6⟩ := m
    have l1 := outL_len (p := p) (I := I) (J := J) (by omega) a2
    have l2 : (innL p I J).length = J + 1 - I := innL_len (by omega)
    have l3 : (innL q I J).length = J + 1 - I := innL_len (by omega)
    refine ⟨fun x hx => ?_, ?_, ?_, fun h0 x hx => ?_⟩
    · rcases List.mem_cons.1 hx with rfl | hx
      · refine ⟨ti, by simp only; omega, fun A B hc => ?_⟩
        obtain ⟨c1, c2, c3, c4, c5⟩ := hc
        simp only at c2 c3 c4 c5
        have back : ∀ r : List Int, Shut (innL r I J) A B → Shut r ((I + A : Nat) : Int) ((I + B : Nat) : Int) := fun r hs x h0 h1 => by
          have e : x = ((I + (x.toNat - I) : Nat) : Int) := by omega
          have := hs ((x.toNat - I : Nat) : Int) (by omega) (by omega)
          rw [inn_get (by omega) (by omega)] at this
          rw [e]
          omega
        have := a6 (I + A) (I + B) (by omega) (by omega) (by omega) (back p c4) (back q c5)
        omega
      · obtain ⟨k1, k2, k3⟩ := i1 x hx
        exact ⟨k1, by omega, k3⟩
    · rw [List.map_cons, List.sum_cons, i2]
      simp only
      omega
    · rw [List.map_cons, List.sum_cons, i3]
      exact comp_add h (by omega) a2 a4 a5
    · rcases List.mem_cons.1 hx with rfl | hx
      · simp only
        omega
      · exact i4 (by omega) x hx
end
end Go.Proofs.Ytbckijeffiofdaa.AL

/- Words in which each letter stands twice and none cross: by a stack, by cancelling, and by looking for what crosses. No condition. -/
import Derived.Test.YtdbflchpbhkanaaPD1
namespace Go.Proofs.Ytdbflchpbhkanaa.AL
open Go
set_option linter.unusedVariables false
set_option linter.unusedSimpArgs false
def rs : List Int → Int → List Int
  | [], x => [x]
  | t :: st, x => if t = x then st else x :: t :: st
def Rd : List Int → Prop
  | [] => True
  | [_] => True
  | a :: b :: l => a ≠ b ∧ Rd (b :: l)
def act (st w : List Int) : List Int := w.foldl rs st
theorem rs_cons {t x : Int} {st : List Int} : rs (t :: st) x = if t = x then st else x :: t :: st := rfl
theorem Rd.nil : Rd [] := trivial
theorem Rd.tl {a : Int} : ∀ {l : List Int}, Rd (a :: l) → Rd l
  | [], _ => trivial
  | _ :: _, h => h.2
theorem rs_rd : ∀ {st : List Int}, Rd st → ∀ x, Rd (rs st x)
  | [], _, _ => trivial
  | t :: st, h, x => by
    show Rd (if t = x then st else x :: t :: st)
    by_cases e : t = x
    · rw [if_pos e]; exact h.tl
    · rw [if_neg e]; exact ⟨fun e' => e e'.symm, h⟩
theorem rs_rs : ∀ {st : List Int}, Rd st → ∀ x, rs (rs st x) x = st
  | [], _, x => by simp [rs]
  | t :: st, h, x => by
    by_cases e : t = x
    · subst e
      simp only [rs, if_true]
      cases st with
      | nil => rfl
      | cons b l => simp only [rs]; rw [if_neg (fun e => h.1 e.symm)]
    · simp only [rs, if_neg e, if_true]
theorem act_app (st A B : List Int) : act st (A ++ B) = act (act st A) B := List.foldl_append
theorem act_cons (st : List Int) (x : Int) (B : List Int) : act st (x :: B) = act (rs st x) B := rfl
theorem act_rd : ∀ (w : List Int) {st : List Int}, Rd st → Rd (act st w)
  | [], _, h => h
  | x :: w, _, h => act_rd w (rs_rd h x)
theorem act_pair {st : List Int} (h : Rd st) (A : List Int) (x : Int) (B : List Int) : act st (A ++ x :: x :: B) = act st (A ++ B) := by
  rw [act_app, act_app, act_cons, act_cons, rs_rs (act_rd A h)]
theorem act_map (f : Int → Int) : ∀ (w : List Int) {st : List Int}, Rd st → act [] ((st.reverse ++ w).map f) = act [] ((act st w).reverse.map f)
  | [], st, _ => by simp [act]
  | x :: w, st, h => by
    rw [act_cons, ← act_map f w (rs_rd h x)]
    cases st with
    | nil => rfl
    | cons t s =>
      by_cases e : t = x
      · subst e
        simp only [rs, if_true, List.reverse_cons, List.map_append, List.map_cons, List.map_nil, List.append_assoc, List.cons_append, List.nil_append]
        exact act_pair Rd.nil _ _ _
      · simp [rs, if_neg e]
theorem act_map0 {w : List Int} (h : act [] w = []) (f : Int → Int) : act [] (w.map f) = [] := by
  have := act_map f w (st := []) Rd.nil
  rw [h] at this
  exact this
def Two (w : List Int) : Prop := ∀ x ∈ w, w.count x = 2
def NCw (w : List Int) : Prop := Two w ∧ act [] w = []
instance (w : List Int) : Decidable (Two w) := by unfold Two; infer_instance
instance (w : List Int) : Decidable (NCw w) := by unfold NCw; infer_instance
theorem count_inj {f : Int → Int} {x : Int} : ∀ {w : List Int}, (∀ y ∈ w, f y = f x → y = x) → (w.map f).count (f x) = w.count x
  | [], _ => rfl
  | y :: w, h => by
    rw [List.map_cons, List.count_cons, List.count_cons, count_inj (fun z hz => h z (.tail _ hz))]
    by_cases e : y = x
    · simp [e]
    · have : f y ≠ f x := fun e' => e (h y (.head _) e')
      simp [e, this]
theorem Two.map {f : Int → Int} {w : List Int} (h : Two w) (hf : ∀ x ∈ w, ∀ y ∈ w, f y = f x → y = x) : Two (w.map f) := fun z hz => by
  obtain ⟨x, hx, rfl⟩ := List.mem_map.1 hz
  rw [count_inj (fun y hy => hf x hx y hy)]
  exact h x hx
theorem NCw.map {f : Int → Int} {w : List Int} (h : NCw w) (hf : ∀ x ∈ w, ∀ y ∈ w, f y = f x → y = x) : NCw (w.map f) := ⟨h.1.map hf, act_map0 h.2 f⟩
theorem NCw.ins {A B : List Int} {x : Int} (h : NCw (A ++ B)) (hx : x ∉ A ++ B) : NCw (A ++ x :: x :: B) := by
  refine ⟨fun z hz => ?_, by rw [act_pair Rd.nil]; exact h.2⟩
  have hc : (A ++ x :: x :: B).count z = (A ++ B).count z + if x = z then 2 else 0 := by
    simp only [List.count_append, List.count_cons]
    by_cases e : x = z <;> simp [e] <;> omega
  rw [hc]
  by_cases e : x = z
  · rw [if_pos e, ← e, List.count_eq_zero.2 hx]
  · rw [if_neg e]
    refine h.1 z ?_
    simp at hz ⊢
    rcases hz with hz | hz | hz
    · exact .inl hz
    · exact absurd hz.symm e
    · exact .inr hz
theorem Two.del {A B : List Int} {x : Int} (h : Two (A ++ x :: x :: B)) : Two (A ++ B) ∧ x ∉ A ++ B := by
  have hc : ∀ z, (A ++ x :: x :: B).count z = (A ++ B).count z + if x = z then 2 else 0 := fun z => by
    simp only [List.count_append, List.count_cons]
    by_cases e : x = z <;> simp [e] <;> omega
  have hx : x ∉ A ++ B := by
    have := h x (by simp)
    rw [hc, if_pos rfl] at this
    exact List.count_eq_zero.1 (by omega)
  refine ⟨fun z hz => ?_, hx⟩
  have e : x ≠ z := fun e => hx (e ▸ hz)
  have := h z (by simp at hz ⊢; rcases hz with hz | hz <;> simp [hz])
  rwa [hc, if_neg e] at this
theorem NCw.del {A B : List Int} {x : Int} (h : NCw (A ++ x :: x :: B)) : NCw (A ++ B) := ⟨h.1.del.1, by have := h.2; rwa [act_pair Rd.nil] at this⟩
def jn (x y z : Int) : Int := if z = y then x else z
theorem count_jn {x y a : Int} (hxy : x ≠ y) : ∀ w : List Int, (w.map (jn x y)).count a = if a = x then w.count x + w.count y else if a = y then 0 else w.count a
  | [] => by simp
  | z :: w => by
    rw [List.map_cons, List.count_cons, count_jn hxy w]
    unfold jn
    simp only [List.count_cons]
    by_cases hzy : z = y
    · subst hzy
      by_cases ha : a = x
      · subst ha
        have : ¬ z = a := fun e => hxy e.symm
        simp [this]
        omega
      · have h1 : ¬ x = a := fun e => ha e.symm
        by_cases haz : a = z
        · subst haz; simp [ha, h1]
        · have : ¬ z = a := fun e => haz e.symm
          simp [ha, h1, haz, this]
    · by_cases ha : a = x
      · subst ha
        simp [hzy]
        omega
      · by_cases hay : a = y
        · subst hay; simp [ha, hzy]
        · simp [ha, hay, hzy]
theorem NCw.join {A B : List Int} {x y : Int} (h : NCw (A ++ x :: y :: B)) (hxy : x ≠ y) : NCw ((A ++ B).map (jn x y)) := by
  have e : (A ++ x :: y :: B).map (jn x y) = A.map (jn x y) ++ x :: x :: B.map (jn x y) := by
    simp [jn, hxy]
  have h2 := act_map0 h.2 (jn x y)
  rw [e, act_pair Rd.nil, ← List.map_append] at h2
  refine ⟨fun z hz => ?_, h2⟩
  have hcz : ∀ z, (A ++ x :: y :: B).count z = (A ++ B).count z + (if x = z then 1 else 0) + if y = z then 1 else 0 := fun z => by
    simp only [List.count_append, List.count_cons]
    by_cases e : x = z <;> by_cases e2 : y = z <;> simp [e, e2] <;> omega
  rw [count_jn hxy]
  have cx := h.1 x (by simp)
  have cy := h.1 y (by simp)
  rw [hcz, if_pos rfl, if_neg (fun e => hxy e.symm)] at cx
  rw [hcz, if_neg hxy, if_pos rfl] at cy
  obtain ⟨z0, hz0, rfl⟩ := List.mem_map.1 hz
  by_cases e0 : z0 = y
  · have : jn x y z0 = x := by simp [jn, e0]
    rw [this, if_pos rfl]
    omega
  · have h1 : jn x y z0 = z0 := by simp [jn, e0]
    rw [h1]
    by_cases e1 : z0 = x
    · rw [if_pos e1]; omega
    · rw [if_neg e1, if_neg e0]
      have := h.1 z0 (by simp at hz0 ⊢; rcases hz0 with hz0 | hz0 <;> simp [hz0])
      rwa [hcz, if_neg (fun e => e1 e.symm), if_neg (fun e => e0 e.symm)] at this
def stk : List Int → List Int → List Int → Bool
  | op, _, [] => op == []
  | op, dn, x :: w => if x ∈ dn then false else if x ∉ op then stk (op ++ [x]) dn w else if op.getLast? ≠ some x then false else stk op.dropLast (dn ++ [x]) w
theorem mem_act {x : Int} : ∀ (w : List Int) {st : List Int}, x ∈ st → x ∉ w → x ∈ act st w
  | [], _, h, _ => h
  | z :: w, st, h, hn => by
    rw [act_cons]
    refine mem_act w ?_ (fun e => hn (.tail _ e))
    have hz : x ≠ z := fun e => hn (e ▸ .head _)
    cases st with
    | nil => cases h
    | cons t s =>
      rw [rs_cons]
      split
      · rename_i e
        rcases List.mem_cons.1 h with h | h
        · exact absurd (h.trans e) hz
        · exact h
      · exact .tail _ h
theorem stk_eq : ∀ (r p op dn : List Int), act [] p = op.reverse → (∀ x ∈ dn, p.count x = 2) → (∀ x ∈ op, p.count x = 1) → (∀ x ∈ p, x ∈ dn ∨ x ∈ op) → stk op dn r = decide (NCw (p ++ r)) := by
  intro r
  induction r with
  | nil =>
    intro p op dn ha hd ho hm
    rw [List.append_nil]
    unfold stk
    cases op with
    | nil =>
      have : NCw p := by
        refine ⟨fun x hx => ?_, by simpa using ha⟩
        rcases hm x hx with h | h
        · exact hd x h
        · cases h
      simp [this]
    | cons a l =>
      have : ¬ NCw p := fun h => by
        have := h.2
        rw [ha] at this
        simp at this
      simp [this]
  | cons x r ih =>
    intro p op dn ha hd ho hm
    have e : p ++ x :: r = (p ++ [x]) ++ r := by simp
    have ap : act [] (p ++ [x]) = rs op.reverse x := by rw [act_app, ha]; rfl
    have hcount : ∀ z, (p ++ [x]).count z = p.count z + if x = z then 1 else 0 := fun z => by
      simp [List.count_append, List.count_cons]
    unfold stk
    by_cases h1 : x ∈ dn
    · rw [if_pos h1]
      have : ¬ NCw (p ++ x :: r) := fun h => by
        have h2 := h.1 x (by simp)
        rw [List.count_append, List.count_cons, hd x h1] at h2
        simp at h2
      simp [this]
    · rw [if_neg h1]
      by_cases h2 : x ∈ op
      · rw [if_neg (by simpa using h2)]
        by_cases h3 : op.getLast? = some x
        · rw [if_neg (by simpa using h3)]
          obtain ⟨q, rfl⟩ : ∃ q, op = q ++ [x] := by
            rcases List.eq_nil_or_concat op with rfl | ⟨q, z, rfl⟩
            · cases h3
            · rw [List.concat_eq_append] at h3 ⊢
              rw [List.getLast?_append] at h3
              simp at h3
              exact ⟨q, by rw [h3]⟩
          rw [e, List.dropLast_concat]
          have hq : ∀ z ∈ q, x ≠ z := fun z hz e => by
            subst e
            have hrd := act_rd p (st := []) Rd.nil
            have c1 := ho x h2
            have key : ∀ (w st : List Int) (z : Int), (act st w).count z ≤ st.count z + w.count z := by
              intro w
              induction w with
              | nil => intro st z; simp [act]
              | cons y w ihw =>
                intro st z
                rw [act_cons]
                refine Nat.le_trans (ihw _ z) ?_
                rw [List.count_cons]
                have : (rs st y).count z ≤ st.count z + if y = z then 1 else 0 := by
                  cases st with
                  | nil => simp [rs, List.count_cons]
                  | cons t s =>
                    rw [rs_cons]
                    split
                    · rw [List.count_cons]; omega
                    · rw [List.count_cons]; simp only [beq_iff_eq]; exact Nat.le_refl _
                have e2 : (if (y == z) = true then 1 else 0) = if y = z then 1 else 0 := by simp
                omega
            have k := key p [] x
            rw [ha, List.count_reverse, List.count_append, c1] at k
            have : 0 < q.count x := List.count_pos_iff.2 hz
            simp at k
            omega
          refine ih (p ++ [x]) q (dn ++ [x]) ?_ ?_ ?_ ?_
          · rw [ap]; simp [rs]
          · intro z hz
            rw [hcount]
            rcases List.mem_append.1 hz with hz | hz
            · rw [hd z hz, if_neg (fun e : x = z => h1 (e ▸ hz))]
            · simp at hz
              rw [hz, if_pos rfl, ho x h2]
          · intro z hz
            rw [hcount, ho z (by simp [hz]), if_neg (hq z hz)]
          · intro z hz
            rcases List.mem_append.1 hz with hz | hz
            · rcases hm z hz with hz | hz
              · exact .inl (by simp [hz])
              · simp at hz
                rcases hz with hz | hz
                · exact .inr hz
                · exact .inl (by simp [hz])
            · simp at hz
              exact .inl (by simp [hz])
        · rw [if_pos h3]
          have : ¬ NCw (p ++ x :: r) := fun h => by
            have hxr : x ∉ r := fun hx => by
              have h4 := h.1 x (by simp)
              rw [List.count_append, List.count_cons, ho x h2] at h4
              have : 0 < r.count x := List.count_pos_iff.2 hx
              simp at h4
              omega
            have h5 := h.2
            rw [e, act_app, ap] at h5
            have h6 : x ∈ rs op.reverse x := by
              cases ho' : op.reverse with
              | nil => simp [rs]
              | cons t s =>
                rw [rs_cons]
                split
                · rename_i et
                  have : op = s.reverse ++ [t] := by
                    have := congrArg List.reverse ho'
                    simpa using this
                  rw [this] at h3
                  exact absurd (by simp [et]) h3
                · simp
            have := mem_act r h6 hxr
            rw [h5] at this
            cases this
          simp [this]
      · rw [if_pos h2]
        have hx0 : p.count x = 0 := List.count_eq_zero.2 fun hx => by
          rcases hm x hx with h | h
          · exact h1 h
          · exact h2 h
        rw [e]
        refine ih (p ++ [x]) (op ++ [x]) dn ?_ ?_ ?_ ?_
        · rw [ap]
          cases ho' : op.reverse with
          | nil => simp [rs, ho']
          | cons t s =>
            have ht : t ≠ x := fun e => h2 (List.mem_reverse.1 (by rw [ho', e]; exact .head _))
            simp [rs, ht, ho']
        · intro z hz
          rw [hcount, hd z hz, if_neg (fun e : x = z => h1 (e ▸ hz))]
        · intro z hz
          rw [hcount]
          rcases List.mem_append.1 hz with hz | hz
          · rw [ho z hz, if_neg (fun e : x = z => h2 (e ▸ hz))]
          · simp at hz
            rw [hz, if_pos rfl, hx0]
        · intro z hz
          rcases List.mem_append.1 hz with hz | hz
          · rcases hm z hz with hz | hz
            · exact .inl hz
            · exact .inr (by simp [hz])
          · exact .inr (by simp at hz; simp [hz])
theorem stk_nc (w : List Int) : stk [] [] w = decide (NCw w) := stk_eq w [] [] [] rfl (by simp) (by simp) (by simp)
end Go.Proofs.Ytdbflchpbhkanaa.AL

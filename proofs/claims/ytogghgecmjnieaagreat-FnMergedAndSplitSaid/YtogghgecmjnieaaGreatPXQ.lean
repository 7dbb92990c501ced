/- Curves of a pair of systems: both counts are the table's. No condition. -/
import Derived.Test.YtogghgecmjnieaaGreatPXE
import Derived.Test.YtogghgecmjnieaaGreatPXM0
import Derived.Test.YtogghgecmjnieaaGreatPXM1
namespace Go.Proofs.YtogghgecmjnieaaGreat.AL
open Go Go.Proofs.YtogghgecmjnieaaGreat.Arch
set_option linter.unusedVariables false
set_option linter.unusedSimpArgs false
set_option maxRecDepth 100000
section
variable {fu : Nat} {p q a : List Int}
theorem rowM_all (hp : sysB p = true) : rowM p = true := sys_ch rowM_0 rowM_1 rowM_2 rowM_3 rowM_4 rowM_5 rowM_6 rowM_7 rowM_8 rowM_9 rowM_10 rowM_11 rowM_12 rowM_13 rowM_14 hp
theorem stepB_all (hp : sysB p = true) : stepB p = true := sys_ch stepB_0 stepB_1 stepB_2 stepB_3 stepB_4 stepB_5 stepB_6 stepB_7 stepB_8 stepB_9 stepB_10 stepB_11 stepB_12 stepB_13 stepB_14 hp
def pairB (p q : List Int) : Bool := (sysB p && sysB q) && decide (p.length = q.length)
def cmpV (p q : List Int) : Int := (F_impl_Meander_components 2000000 p q).getD 0
def distV (p q : List Int) : Int := (p.length : Int) / 2 - cmpV p q
theorem pair_of (h : pairB p q = true) : sysB p = true ∧ sysB q = true ∧ p.length = q.length := by
 unfold pairB at h
 simp only [Bool.and_eq_true, decide_eq_true_eq] at h
 exact ⟨h.1.1, h.1.2, h.2⟩
theorem pair_mk (h : pairB p q = true) (ha : sysB a = true) (hl : a.length = p.length) : pairB a q = true := by
 obtain ⟨h1, h2, h3⟩ := pair_of h
 unfold pairB
 rw [ha, h2]
 simp only [Bool.and_self, Bool.true_and, decide_eq_true_eq]
 omega
theorem cand_sys {x : List Int} (hp : sysB p = true) (hx : x ∈ cand p.length) : sysB x = true ∧ x.length = p.length := by
 have h := candS_all
 have hl := sys_lens hp
 have h2 : candS p.length = true := List.all_eq_true.1 h _ (by rcases hl with e | e | e | e | e | e | e <;> rw [e] <;> simp)
 unfold candS at h2
 have := List.all_eq_true.1 h2 x hx
 simpa using this
theorem rows_map {f g : List Int → Option Int} : ∀ {C : List (List Int)} {l : List Nat}, C.map f = l.map (fun d : Nat => some (d : Int)) → C.map g = l.map (fun d : Nat => some (d : Int)) → ∀ x ∈ C, ∃ d ∈ l, f x = some (d : Int) ∧ g x = some (d : Int) ∧ (x, d) ∈ C.zip l
 | [], _, _, _, x, hx => by cases hx
 | y :: C, [], h1, _, _, _ => by cases h1
 | y :: C, a :: l, h1, h2, x, hx => by
  simp only [List.map_cons, List.cons.injEq] at h1 h2
  rcases List.mem_cons.1 hx with rfl | hx
  ·exact ⟨a, by simp, h1.1, h2.1, by simp⟩
  ·obtain ⟨d, k1, k2, k3, k4⟩ := rows_map h1.2 h2.2 x hx
   exact ⟨d, by simp [k1], k2, k3, by simp [k4]⟩
theorem rows_back {f : List Int → Option Int} : ∀ {C : List (List Int)} {l : List Nat}, C.map f = l.map (fun d : Nat => some (d : Int)) → ∀ d ∈ l, ∃ x ∈ C, f x = some (d : Int)
 | [], [], _, d, hd => by cases hd
 | [], _ :: _, h, _, _ => by cases h
 | y :: C, [], h1, _, hd => by cases hd
 | y :: C, a :: l, h1, d, hd => by
  simp only [List.map_cons, List.cons.injEq] at h1
  rcases List.mem_cons.1 hd with rfl | hd
  ·exact ⟨y, by simp, h1.1⟩
  ·obtain ⟨x, k1, k2⟩ := rows_back h1.2 d hd
   exact ⟨x, by simp [k1], k2⟩
theorem rows_step {n : Nat} {f : List Int → Option Int} {g : Int × Int → List Int → Option Int} {cs : List (Int × Int)} : ∀ {C : List (List Int)} {l : List Nat} {dm : Int × Int → List Nat}, C.map f = l.map (fun d : Nat => some (d : Int)) →
  (∀ c ∈ cs, C.map (g c) = (dm c).map fun d : Nat => some (d : Int)) → stB n l (cs.map dm) = true → ∀ x ∈ C, ∃ d : Nat, f x = some (d : Int) ∧ (1 < d → ∃ c ∈ cs, g c x = some ((d - 1 : Nat) : Int)) ∧ (d < n → ∃ c ∈ cs, g c x = some ((d + 1 : Nat) : Int))
 | [], _, _, _, _, _, x, hx => by cases hx
 | y :: C, [], _, h1, _, _, _, _ => by cases h1
 | y :: C, a :: l, dm, h1, h2, h3, x, hx => by
  simp only [List.map_cons, List.cons.injEq] at h1
  have hd : ∀ c ∈ cs, ∃ b m, dm c = b :: m ∧ g c y = some ((b : Nat) : Int) ∧ C.map (g c) = m.map fun d : Nat => some (d : Int) := fun c hc => by
   have := h2 c hc
   cases hm : dm c with
   | nil => rw [hm] at this; cases this
   | cons b m =>
    rw [hm] at this
    simp only [List.map_cons, List.cons.injEq] at this
    exact ⟨b, m, rfl, this.1, this.2⟩
  simp only [stB, Bool.and_eq_true, Bool.or_eq_true, List.any_map, List.any_eq_true, Function.comp_apply, beq_iff_eq, Nat.ble_eq, List.map_map] at h3
  obtain ⟨⟨k1, k2⟩, k3⟩ := h3
  rcases List.mem_cons.1 hx with rfl | hx
  ·refine ⟨a, h1.1, fun ha => ?_, fun ha => ?_⟩
   ·obtain ⟨c, hc, e⟩ := k1.resolve_left (by omega)
    obtain ⟨b, m, e1, e2, e3⟩ := hd c hc
    rw [e1] at e
    simp only [List.headD_cons] at e
    exact ⟨c, hc, by rw [e2, e]⟩
   ·obtain ⟨c, hc, e⟩ := k2.resolve_left (by omega)
    obtain ⟨b, m, e1, e2, e3⟩ := hd c hc
    rw [e1] at e
    simp only [List.headD_cons] at e
    exact ⟨c, hc, by rw [e2, e]⟩
  ·refine rows_step (dm := fun c => (dm c).tail) h1.2 (fun c hc => ?_) k3 x hx
   obtain ⟨b, m, e1, e2, e3⟩ := hd c hc
   simp only [e1, List.tail_cons]
   exact e3
theorem tab_of (hp : sysB p = true) : ∃ t, tab p = some t := by
 have h := rowB_all hp
 unfold rowB at h
 split at h
 ·rename_i t e
  exact ⟨t, e⟩
 ·cases h
theorem pair_all (h : pairB p q = true) : ∃ d : Nat, F_impl_Meander_components 2000000 p q = some (d : Int) ∧ F_spec_meCount 2000000 p q = some (d : Int) ∧ d ≤ p.length / 2 ∧ (p.length = 0 ∨ 1 ≤ d) ∧ (d = p.length / 2 → q = p) ∧
  (1 < d → ∃ c ∈ csOf p, F_impl_Meander_components 2000000 (exV p c) q = some ((d - 1 : Nat) : Int)) ∧ (d < p.length / 2 → ∃ c ∈ csOf p, F_impl_Meander_components 2000000 (exV p c) q = some ((d + 1 : Nat) : Int)) := by
 obtain ⟨h1, h2, h3⟩ := pair_of h
 obtain ⟨t, ht⟩ := tab_of h1
 have r1 := row_of h1 ht
 have r2 := rowM_all h1
 unfold rowM at r2
 rw [ht] at r2
 have r2 := eq_of_beq r2
 have hs := stepB_all h1
 unfold stepB at hs
 rw [ht] at hs
 simp only [Bool.and_eq_true] at hs
 obtain ⟨k1, k2, k3, k4⟩ := hs
 have hq := cand_of h2
 rw [← h3] at hq
 obtain ⟨d, hd, e1, e2, e3⟩ := rows_map r1 r2 q hq
 have a1 := List.all_eq_true.1 k1 d hd
 have a2 := List.all_eq_true.1 k2 _ e3
 simp only [Bool.and_eq_true, Bool.or_eq_true, Nat.ble_eq, beq_iff_eq, Bool.not_eq_true', beq_eq_false_iff_ne] at a1 a2
 obtain ⟨d', f1, f2, f3⟩ := rows_step (g := fun c x => F_impl_Meander_components 2000000 (exV p c) x) r1 (fun c hc => by
  obtain ⟨s1, s2⟩ := ex_len h1 hc
  obtain ⟨u, hu⟩ := tab_of s1
  have := row_of s1 hu
  rw [s2] at this
  rw [this]
  unfold dmV
  rw [hu]) k4 q hq
 rw [e1] at f1
 have : d' = d := by
  simp only [Option.some.injEq] at f1
  omega
 subst this
 exact ⟨d', e1, e2, a1.1, a1.2, fun hd => (a2.resolve_left fun h => h hd), f2, f3⟩
theorem cmp_le (h : pairB p q = true) : 0 ≤ cmpV p q ∧ cmpV p q ≤ ((p.length / 2 : Nat) : Int) := by
 obtain ⟨d, e1, e2, e3, _⟩ := pair_all h
 unfold cmpV
 rw [e1]
 simp only [Option.getD_some]
 omega
theorem cmp_pos (h : pairB p q = true) (h0 : 0 < p.length) : 1 ≤ cmpV p q := by
 obtain ⟨d, e1, e2, e3, e4, _⟩ := pair_all h
 unfold cmpV
 rw [e1]
 simp only [Option.getD_some]
 omega
theorem comp_eq (h : pairB p q = true) : F_impl_Meander_components 2000000 p q = some (cmpV p q) := by
 obtain ⟨d, e1, e2, e3, _⟩ := pair_all h
 unfold cmpV
 rw [e1]
 rfl
theorem count_me (h : pairB p q = true) : F_spec_meCount 2000000 p q = some (cmpV p q) := by
 obtain ⟨d, e1, e2, e3, _⟩ := pair_all h
 unfold cmpV
 rw [e1, e2]
 rfl
theorem cmp_top (h : pairB p q = true) (hc : cmpV p q = ((p.length / 2 : Nat) : Int)) : q = p := by
 obtain ⟨d, e1, e2, e3, e4, e5, _⟩ := pair_all h
 unfold cmpV at hc
 rw [e1] at hc
 simp only [Option.getD_some] at hc
 exact e5 (by omega)
theorem close_ex (h : sysB p = true) (h0 : 0 < p.length) : ∃ q, sysB q = true ∧ q.length = p.length ∧ cmpV p q = 1 := by
 obtain ⟨t, ht⟩ := tab_of h
 have r1 := row_of h ht
 have hs := stepB_all h
 unfold stepB at hs
 rw [ht] at hs
 simp only [Bool.and_eq_true] at hs
 obtain ⟨k1, k2, k3, k4⟩ := hs
 simp only [Bool.or_eq_true, beq_iff_eq, List.any_eq_true] at k3
 obtain ⟨d, hd, rfl⟩ := k3.resolve_left (by omega)
 obtain ⟨x, hx, e⟩ := rows_back r1 1 hd
 obtain ⟨s1, s2⟩ := cand_sys h hx
 refine ⟨x, s1, s2, ?_⟩
 unfold cmpV
 rw [e]
 rfl
theorem dist_eq (h : pairB p q = true) : F_spec_exDistance 2000000 p q = some (distV p q) := by
 have hl := sys_le (pair_of h).1
 have hc := cmp_le h
 unfold F_spec_exDistance distV
 rw [count_me h, bd_of]
 simp only [llen]
 rw [quo12 _ (by omega), isub_id (by omega) (by omega)]
 simp
theorem cs_nil : csOf [] = [] := by kernel_rfl
theorem own_eq {xs : List Int} (h : xs.length ≤ 1048576) : F_spec_l1Own fu xs = some xs := by
 unfold F_spec_l1Own
 rw [gd_t (by simp; omega)]
 rfl
theorem clone_eq {xs : List Int} (h : xs.length ≤ 1048576) : F_slices_Clone_Sint fu xs = some xs := by
 unfold F_slices_Clone_Sint
 rw [gd_t (by simp; omega)]
 rfl
end
end Go.Proofs.YtogghgecmjnieaaGreat.AL

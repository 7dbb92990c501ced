/- Keys of states, their order, and a state put into an ordered list. No condition. -/
import Derived.Test.YtdbflchpbhkanaaPD8
import Derived.Test.YtdbflchpbhkanaaGK6
namespace Go.Proofs.Ytdbflchpbhkanaa.AL
open Go
set_option linter.unusedVariables false
set_option linter.unusedSimpArgs false
theorem bstr_data : ∀ (xs : List Int) (s : ByteArray), (xs.foldl (fun r n => r.push (UInt8.ofNat n.toNat)) s).data.toList = s.data.toList ++ xs.map (fun n => UInt8.ofNat n.toNat)
  | [], s => by simp
  | x :: xs, s => by
    rw [List.foldl_cons, bstr_data xs]
    simp [ByteArray.push]
theorem u8_inj {a b : Int} (ha : 0 ≤ a ∧ a ≤ 255) (hb : 0 ≤ b ∧ b ≤ 255) (h : UInt8.ofNat a.toNat = UInt8.ofNat b.toNat) : a = b := by
  have := congrArg UInt8.toNat h
  simp at this
  omega
theorem bstr_inj {xs ys : List Int} (hx : ∀ z ∈ xs, 0 ≤ z ∧ z ≤ 255) (hy : ∀ z ∈ ys, 0 ≤ z ∧ z ≤ 255) (h : bstr xs = bstr ys) : xs = ys := by
  have h1 : xs.map (fun n => UInt8.ofNat n.toNat) = ys.map (fun n => UInt8.ofNat n.toNat) := by
    have := congrArg (fun s => s.data.toList) h
    unfold bstr at this
    simp only [bstr_data] at this
    simpa using this
  clear h
  induction xs generalizing ys with
  | nil =>
    cases ys with
    | nil => rfl
    | cons b ys => cases h1
  | cons a xs ih =>
    cases ys with
    | nil => cases h1
    | cons b ys =>
      rw [List.map_cons, List.map_cons, List.cons.injEq] at h1
      rw [u8_inj (hx a (.head _)) (hy b (.head _)) h1.1, ih (fun z hz => hx z (.tail _ hz)) (fun z hz => hy z (.tail _ hz)) h1.2]
def klP (s : St3) : List Int := (48 + s.2.2) :: (48 + (s.1.length : Int)) :: (s.1 ++ s.2.1).map (48 + ·)
def keyP (s : St3) : ByteArray := bstr (klP s)
theorem kl_range {s : St3} (h : GdS s) : ∀ z ∈ klP s, 0 ≤ z ∧ z ≤ 255 := by
  intro z hz
  have h1 := h.1
  unfold klP at hz
  simp only [List.mem_cons] at hz
  rcases hz with rfl | rfl | hz
  · omega
  · omega
  · obtain ⟨y, hy, rfl⟩ := List.mem_map.1 hz
    rcases List.mem_append.1 hy with hy | hy
    · have := h.range.1 y hy; omega
    · have := h.range.2 y hy; omega
theorem map48 {a b : List Int} (h : a.map (fun x => (48 : Int) + x) = b.map (fun x => (48 : Int) + x)) : a = b := List.map_inj_right (f := fun x => (48 : Int) + x) (fun x y e => by omega) |>.1 h
theorem key_inj {s t : St3} (hs : GdS s) (ht : GdS t) (h : keyP s = keyP t) : s = t := by
  obtain ⟨u, d, c⟩ := s
  obtain ⟨u', d', c'⟩ := t
  have := bstr_inj (kl_range hs) (kl_range ht) h
  unfold klP at this
  simp only [List.cons.injEq] at this
  obtain ⟨h1, h2, h3⟩ := this
  have h4 := List.append_inj (map48 h3) (by omega)
  rw [h4.1, h4.2, show c = c' by omega]
theorem iwr_u8 {a : Int} (h0 : 0 ≤ a) (h1 : a ≤ 255) : iwr .u8 a = a := by
  unfold iwr
  rw [wrF_eq]
  have : IntKind.wrap .u8 a = a % 256 := by simp [IntKind.wrap, IntKind.bits, IntKind.signed]
  rw [this]
  omega
section
variable {fu : Nat}
theorem key_eq {s : St3} (h : GdS s) (hf : 1000 < fu) : F_impl_State_key fu s.1 s.2.1 s.2.2 = some (keyP s) := by
  obtain ⟨u, d, c⟩ := s
  have h1 := h.1
  have hr := h.range
  simp only at h1 hr ⊢
  unfold F_impl_State_key
  rw [concat_eq (by omega) (by omega) (by omega), bd_of]
  have e0 : iwr .u8 (iadd .i64 48 c) = 48 + c := by rw [iadd_id (by omega) (by omega), iwr_u8 (by omega) (by omega)]
  have e1 : iwr .u8 (iadd .i64 48 (llen u)) = 48 + (u.length : Int) := by unfold llen; rw [iadd_id (by omega) (by omega), iwr_u8 (by omega) (by omega)]
  rw [e0, e1]
  obtain ⟨⟨o1, o2⟩, hq, e⟩ := loop_inv (fun n (l : List Int) k => F_impl_State_key_L1 fu (u ++ d) (llen (u ++ d)) n l k) (u ++ d).length (fun k l => l = (48 + c) :: (48 + (u.length : Int)) :: ((u ++ d).take k).map (48 + ·)) (fun o => o.1 = klP (u, d, c))
    (fun n k l hk hp => by
      have hl : (u ++ d).length ≤ 12 := by simp; omega
      have hz : 0 ≤ (u ++ d)[k] ∧ (u ++ d)[k] ≤ 5 := by
        have := List.getElem_mem hk
        rcases List.mem_append.1 this with hm | hm
        · exact hr.1 _ hm
        · exact hr.2 _ hm
      have ll : l.length ≤ k + 2 := by rw [hp]; simp; omega
      simp only [F_impl_State_key_L1]
      rw [ilt_k hk, cond_true, gd_t (inL_nat hk), gat_nat hk, nx hk (by omega), gd_t (by simp; omega), iadd_id (by omega) (by omega), iwr_u8 (by omega) (by omega)]
      refine .inr ⟨_, ?_, rfl⟩
      rw [hp, tk hk, List.map_append]
      rfl)
    (fun n l hp => by
      simp only [F_impl_State_key_L1]
      rw [ilt_e, cond_false]
      refine ⟨_, ?_, rfl⟩
      rw [List.take_length] at hp
      exact hp) fu [48 + c, 48 + (u.length : Int)] (by simp; omega) (by simp)
  simp only at e hq
  rw [e, bd_of]
  simp only
  rw [hq]
  rfl
end
def lcmp : List Int → List Int → Int
  | [], b => -(b.length : Int)
  | _ :: _, [] => 1
  | a :: x, b :: y => if a = b then lcmp x y else a - b
def lexB : List Int → List Int → Bool
  | [], [] => false
  | [], _ :: _ => true
  | _ :: _, [] => false
  | a :: x, b :: y => if a = b then lexB x y else decide (a < b)
theorem lexB_cons {a b : Int} {x y : List Int} : lexB (a :: x) (b :: y) = if a = b then lexB x y else decide (a < b) := rfl
theorem lcmp_cons {a b : Int} {x y : List Int} : lcmp (a :: x) (b :: y) = if a = b then lcmp x y else a - b := rfl
theorem lex_irr : ∀ a : List Int, lexB a a = false
  | [] => rfl
  | a :: x => by simp [lexB, lex_irr x]
theorem lex_trans : ∀ {a b c : List Int}, lexB a b = true → lexB b c = true → lexB a c = true
  | [], [], _, h, _ => by cases h
  | [], _ :: _, [], _, h => by cases h
  | [], _ :: _, _ :: _, _, _ => rfl
  | _ :: _, [], _, h, _ => by cases h
  | _ :: _, _ :: _, [], _, h => by cases h
  | a :: x, b :: y, c :: z, h, g => by
    unfold lexB at h g ⊢
    by_cases e1 : a = b
    · subst e1
      rw [if_pos rfl] at h
      by_cases e2 : a = c
      · subst e2
        rw [if_pos rfl] at g ⊢
        exact lex_trans h g
      · rw [if_neg e2] at g ⊢
        exact g
    · rw [if_neg e1, decide_eq_true_iff] at h
      by_cases e2 : b = c
      · subst e2
        rw [if_neg e1]
        exact decide_eq_true h
      · rw [if_neg e2, decide_eq_true_iff] at g
        rw [if_neg (by omega)]
        exact decide_eq_true (by omega)
theorem lex_tri : ∀ {a b : List Int}, lexB a b = false → lexB b a = false → a = b
  | [], [], _, _ => rfl
  | [], _ :: _, h, _ => by cases h
  | _ :: _, [], _, h => by cases h
  | a :: x, b :: y, h, g => by
    unfold lexB at h g
    by_cases e : a = b
    · subst e
      rw [if_pos rfl] at h g
      rw [lex_tri h g]
    · rw [if_neg e, decide_eq_false_iff_not] at h
      rw [if_neg (fun e' => e e'.symm), decide_eq_false_iff_not] at g
      omega
theorem lex_app : ∀ {a b x y : List Int}, a.length = b.length → lexB (a ++ x) (b ++ y) = if lcmp a b = 0 then lexB x y else decide (lcmp a b < 0)
  | [], [], x, y, _ => by simp [lcmp]
  | a :: p, b :: q, x, y, h => by
    rw [List.cons_append, List.cons_append, lexB_cons, lcmp_cons]
    by_cases e : a = b
    · rw [if_pos e, if_pos e, lex_app (by simpa using h)]
    · rw [if_neg e, if_neg e, if_neg (by omega)]
      exact decide_eq_decide.2 (by omega)
theorem lex_end : ∀ {a b x y : List Int}, (∀ z ∈ a, 0 ≤ z) → (∀ z ∈ b, 0 ≤ z) → lexB (a.map (· + 1) ++ 0 :: x) (b.map (· + 1) ++ 0 :: y) = if lcmp a b = 0 then lexB x y else decide (lcmp a b < 0)
  | [], [], x, y, _, _ => by simp [lcmp, lexB]
  | [], b :: q, x, y, _, hb => by
    have := hb b (.head _)
    show lexB (0 :: x) ((b + 1) :: (q.map (· + 1) ++ 0 :: y)) = _
    unfold lexB lcmp
    rw [if_neg (by omega), if_neg (by simp; omega)]
    exact decide_eq_decide.2 ⟨fun _ => by simp, fun _ => by omega⟩
  | a :: p, [], x, y, ha, _ => by
    have := ha a (.head _)
    show lexB ((a + 1) :: (p.map (· + 1) ++ 0 :: x)) (0 :: y) = _
    unfold lexB lcmp
    rw [if_neg (by omega), if_neg (by omega)]
    exact decide_eq_decide.2 (by omega)
  | a :: p, b :: q, x, y, ha, hb => by
    show lexB ((a + 1) :: (p.map (· + 1) ++ 0 :: x)) ((b + 1) :: (q.map (· + 1) ++ 0 :: y)) = _
    rw [lexB_cons, lcmp_cons]
    by_cases e : a = b
    · rw [if_pos (by omega), if_pos e, lex_end (fun z hz => ha z (.tail _ hz)) (fun z hz => hb z (.tail _ hz))]
    · rw [if_neg (by omega), if_neg e, if_neg (by omega)]
      exact decide_eq_decide.2 (by omega)
def cdS (s : St3) : List Int := (s.1.length : Int) :: (s.1 ++ (s.2.1.map (· + 1) ++ [0, s.2.2]))
def ltS (s t : St3) : Bool := lexB (cdS s) (cdS t)
theorem cd_inj {s t : St3} (h : cdS s = cdS t) : s = t := by
  obtain ⟨u, d, c⟩ := s
  obtain ⟨u', d', c'⟩ := t
  unfold cdS at h
  simp only [List.cons.injEq] at h
  have h2 := List.append_inj h.2 (by omega)
  have h3 := List.append_inj h2.2 (by have := congrArg List.length h2.2; simp at this; simp; omega)
  have h4 : d = d' := List.map_inj_right (f := fun x => x + (1 : Int)) (fun x y e => by omega) |>.1 h3.1
  have h5 := h3.2
  simp at h5
  rw [h2.1, h4, h5]
theorem ltS_tri {s t : St3} (h : ltS s t = false) (g : ltS t s = false) : s = t := cd_inj (lex_tri h g)
section
variable {fu : Nat} {a b : List Int}
theorem cmp_eq (hf : 1000 < fu) (ha : a.length ≤ 100) (hb : b.length ≤ 100) (ra : ∀ z ∈ a, 0 ≤ z ∧ z ≤ 5) (rb : ∀ z ∈ b, 0 ≤ z ∧ z ≤ 5) : F_spec_stListLess fu a b = some (lcmp a b) := by
  unfold F_spec_stListLess
  obtain ⟨out, hq, e⟩ := loop_inv (fun n (_ : Unit) k => F_spec_stListLess_L1 fu a b (llen a) n k) a.length (fun k _ => k ≤ b.length ∧ lcmp a b = lcmp (a.drop k) (b.drop k)) (fun o => o = .ret (lcmp a b) ∨ ((∃ y, o = .brk y) ∧ lcmp a b = (a.length : Int) - (b.length : Int)))
    (fun n k _ hk hp => by
      obtain ⟨h1, h2⟩ := hp
      rw [List.drop_eq_getElem_cons hk] at h2
      simp only [F_spec_stListLess_L1]
      rw [ilt_k hk, cond_true, gd_t (inL_nat hk), gat_nat hk, nx hk (by omega)]
      by_cases hkb : k < b.length
      · rw [List.drop_eq_getElem_cons hkb, lcmp_cons] at h2
        have r1 := ra _ (List.getElem_mem hk)
        have r2 := rb _ (List.getElem_mem hkb)
        rw [ile_f (by unfold llen; omega), cond_false, gd_t (inL_nat hkb), gat_nat hkb]
        by_cases e : a[k] = b[k]
        · rw [if_pos e] at h2
          rw [ine_f e, cond_false]
          exact .inr ⟨(), ⟨by omega, h2⟩, rfl⟩
        · rw [if_neg e] at h2
          rw [ine_t e, cond_true, gd_t (inL_nat hkb), isub_id (by omega) (by omega)]
          exact .inl ⟨_, .inl (by rw [h2]), rfl⟩
      · have : k = b.length := by omega
        rw [show b.drop k = [] from List.drop_of_length_le (by omega)] at h2
        rw [ile_t (by unfold llen; omega), cond_true]
        exact .inl ⟨_, .inl (by rw [h2]; rfl), rfl⟩)
    (fun n _ hp => by
      simp only [F_spec_stListLess_L1]
      rw [ilt_e, cond_false]
      refine ⟨_, .inr ⟨⟨_, rfl⟩, ?_⟩, rfl⟩
      rw [hp.2, List.drop_length]
      unfold lcmp
      rw [List.length_drop]
      have := hp.1
      omega) fu () (by omega) ⟨by omega, by simp⟩
  rw [e, bd_of]
  rcases hq with rfl | ⟨⟨y, rfl⟩, h⟩
  · rfl
  · show some (isub .i64 (llen a) (llen b)) = _
    unfold llen
    rw [isub_id (by omega) (by omega), h]
theorem less_eq {s t : St3} (hs : GdS s) (ht : GdS t) (hf : 1000 < fu) : F_spec_stLess fu s.1 s.2.1 s.2.2 t.1 t.2.1 t.2.2 = some (ltS s t) := by
  obtain ⟨u, d, c⟩ := s
  obtain ⟨u', d', c'⟩ := t
  have h1 := hs.1
  have h2 := ht.1
  have r1 := hs.range
  have r2 := ht.range
  simp only at h1 h2 r1 r2 ⊢
  unfold F_spec_stLess ltS cdS
  simp only
  rw [lexB]
  by_cases hl : u.length = u'.length
  · rw [ine_f (by unfold llen; omega), cond_false, cmp_eq hf (by omega) (by omega) r1.1 r2.1, bd_of, if_pos (by omega), lex_app hl]
    by_cases e : lcmp u u' = 0
    · rw [ine_f e, cond_false, cmp_eq hf (by omega) (by omega) r1.2 r2.2, bd_of, if_pos e, lex_end (fun z hz => (r1.2 z hz).1) (fun z hz => (r2.2 z hz).1)]
      by_cases e2 : lcmp d d' = 0
      · rw [ine_f e2, cond_false, if_pos e2, ilt_eq]
        congr 1
        unfold lexB
        by_cases e3 : c = c'
        · rw [if_pos e3, e3]
          simp [lexB]
        · rw [if_neg e3]
      · rw [ine_t e2, cond_true, if_neg e2, ilt_eq]
    · rw [ine_t e, cond_true, if_neg e, ilt_eq]
  · rw [ine_t (by unfold llen; omega), cond_true, if_neg (by omega), ilt_eq]
    rfl
end
end Go.Proofs.Ytdbflchpbhkanaa.AL

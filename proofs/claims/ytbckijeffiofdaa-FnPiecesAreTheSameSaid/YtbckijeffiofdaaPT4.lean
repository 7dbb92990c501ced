/- Texts of pairs: the program's and the reference's are one. No condition. -/
import Derived.Test.YtbckijeffiofdaaPT3
namespace Go.Proofs.Ytbckijeffiofdaa.AL
open Go
set_option linter.unusedVariables false
set_option linter.unusedSimpArgs false
section
variable {fu : Nat}
theorem bstr_app {xs : List Int} {x : Int} : bstr (xs ++ [x]) = sapp (bstr xs) (ByteArray.mk #[UInt8.ofNat x.toNat]) := by
  rw [bstr_snoc]
  unfold sapp
  apply ByteArray.ext
  simp [ByteArray.push, ByteArray.data_append]
theorem bstr_size : ∀ {xs : List Int}, (bstr xs).size = xs.length := by
  have key : ∀ (xs : List Int) (s : ByteArray), (xs.foldl (fun r n => r.push (UInt8.ofNat n.toNat)) s).size = s.size + xs.length := by
    intro xs
    induction xs with
    | nil => intro s; rfl
    | cons x xs ih =>
      intro s
      rw [List.foldl_cons, ih, ByteArray.size_push, List.length_cons]
      omega
  intro xs
  unfold bstr
  rw [key]
  simp
theorem text_L {p : List Int} (hp : p.length ≤ 100) : ∀ (d k n : Nat) (l : List Int), k + d = p.length → d < n → l.length = k →
    ∃ l' : List Int, l'.length = p.length ∧ F_impl_systemText_L1 fu p (p.length : Int) n l (k : Int) = some (l', (p.length : Int)) ∧ F_spec_ahText_L1 fu p (p.length : Int) n (bstr l) (k : Int) = some (bstr l', (p.length : Int)) := by
  intro d
  induction d with
  | zero =>
    intro k n l hk hn hl
    cases n with
    | zero => omega
    | succ n =>
      have : k = p.length := by omega
      subst this
      refine ⟨l, hl, ?_⟩
      simp only [F_impl_systemText_L1, F_spec_ahText_L1]
      rw [ilt_f (by omega), cond_false, cond_false]
      exact ⟨rfl, rfl⟩
  | succ d ih =>
    intro k n l hk hn hl
    cases n with
    | zero => omega
    | succ n =>
      have hk' : k < p.length := by omega
      have s40 : (ByteArray.mk #[40]).size = 1 := rfl
      have s41 : (ByteArray.mk #[41]).size = 1 := rfl
      have sz := bstr_size (xs := l)
      simp only [F_impl_systemText_L1, F_spec_ahText_L1]
      rw [ilt_t (by omega), cond_true, cond_true, gd_t (inL_nat hk'), gd_t (inL_nat hk'), iadd_id (by omega) (by omega), show ((k : Int) + 1) = ((k + 1 : Nat) : Int) by omega]
      cases ilt (k : Int) (gat 0 p (k : Int))
      · rw [cond_false, cond_false, gd_t (by simp; omega), gd_t (by omega)]
        have e : sapp (bstr l) (ByteArray.mk #[41]) = bstr (lapp l [41]) := (bstr_app (xs := l) (x := 41)).symm
        rw [e]
        exact ih (k + 1) n _ (by omega) (by omega) (by simp [lapp]; omega)
      · rw [cond_true, cond_true, gd_t (by simp; omega), gd_t (by omega)]
        have e : sapp (bstr l) (ByteArray.mk #[40]) = bstr (lapp l [40]) := (bstr_app (xs := l) (x := 40)).symm
        rw [e]
        exact ih (k + 1) n _ (by omega) (by omega) (by simp [lapp]; omega)
theorem text_eq {p : List Int} (hp : p.length ≤ 100) (hf : 1000 < fu) : ∃ s : ByteArray, s.size = p.length ∧ F_impl_systemText fu p = some s ∧ F_spec_ahText fu p = some s := by
  obtain ⟨l, h1, h2, h3⟩ := text_L (fu := fu) hp p.length 0 fu [] (by omega) (by omega) rfl
  rw [Int.natCast_zero] at h2 h3
  unfold F_impl_systemText F_spec_ahText
  simp only [llen]
  have e : F_spec_ahText_L1 fu p (p.length : Int) fu (ByteArray.mk #[]) 0 = some (bstr l, (p.length : Int)) := h3
  rw [h2, e, bd_of, bd_of]
  exact ⟨bstr l, by rw [bstr_size, h1], rfl, rfl⟩
theorem meText_eq {p q : List Int} (hp : p.length ≤ 100) (hq : q.length ≤ 100) (hf : 1000 < fu) : ∃ s : ByteArray, s.size ≤ 201 ∧ F_impl_meanderText fu p q = some s ∧ F_spec_meText fu p q = some s := by
  obtain ⟨s, a1, a2, a3⟩ := text_eq (fu := fu) hp hf
  obtain ⟨t, b1, b2, b3⟩ := text_eq (fu := fu) hq hf
  have s1 : (ByteArray.mk #[124]).size = 1 := rfl
  have s2 : (sapp s (ByteArray.mk #[124])).size = s.size + 1 := by unfold sapp; rw [ByteArray.size_append, s1]
  unfold F_impl_meanderText F_spec_meText
  rw [a2, a3, b2, b3, bd_of, bd_of, gd_t (by omega), gd_t (by omega)]
  refine ⟨_, ?_, rfl, rfl⟩
  have : (sapp (sapp s (ByteArray.mk #[124])) t).size = s.size + 1 + t.size := by
    rw [← s2]
    unfold sapp
    rw [ByteArray.size_append]
  omega
end
end Go.Proofs.Ytbckijeffiofdaa.AL

/- Systems: the program's check and the reference's. No condition. -/
import Derived.Test.YtdghlhdpcmemjaaFB4
namespace Go.Proofs.Ytdghlhdpcmemjaa.AL
open Go Go.Proofs.Ytdghlhdpcmemjaa.Arch
attribute [local simp] aBin' aBin aBinI aUn aNil flatV
set_option linter.unusedVariables false
set_option linter.unusedSimpArgs false

theorem range_of_all {p : List Int} (h : p.all (fun x => decide (0 ≤ x) && decide (x < p.length)) = true) : ∀ i : Int, 0 ≤ i → i < p.length → 0 ≤ gt p i ∧ gt p i < p.length := by
  intro i h0 h1
  rw [List.all_eq_true] at h
  have hm : gt p i ∈ p := by
    unfold gt
    rw [List.getD_eq_getElem?_getD, List.getElem?_eq_getElem (by omega : i.toNat < p.length)]
    exact List.getElem_mem _
  have := h _ hm
  simpa using this
theorem all_of_range {p : List Int} (h : ∀ i : Int, 0 ≤ i → i < p.length → 0 ≤ gt p i ∧ gt p i < p.length) : p.all (fun x => decide (0 ≤ x) && decide (x < p.length)) = true := by
  rw [List.all_eq_true]
  intro x hx
  obtain ⟨j, hj, rfl⟩ := List.getElem_of_mem hx
  have := h j (by omega) (by omega)
  unfold gt at this
  rw [List.getD_eq_getElem?_getD, List.getElem?_eq_getElem (by omega : (j : Int).toNat < p.length)] at this
  simpa using this
def arcB (p : List Int) : Bool := decide (p.length % 2 = 0) && (p.all (fun x => decide (0 ≤ x) && decide (x < p.length)) && okFrom p p.length 0 [])
theorem arcB_iff (p : List Int) : arcB p = true ↔ ArcS p := by
  unfold arcB
  simp only [Bool.and_eq_true, decide_eq_true_eq]
  constructor
  · rintro ⟨h2, h3, h4⟩
    exact sys_of_ok (range_of_all h3) h4
  · intro h
    exact ⟨even_of_sys h, all_of_range (fun i h0 h1 => ⟨h.lo i h0 h1, h.hi i h0 h1⟩), ok_of_sys h p.length 0 (by omega)⟩
def sysB (p : List Int) : Bool := decide (p.length ≤ 12) && arcB p
theorem arcB_no {p : List Int} (h : ¬ ArcS p) : arcB p = false := by
  rw [Bool.eq_false_iff]
  exact fun q => h ((arcB_iff p).1 q)
def Inv1 (p : List Int) (n : Int) : Prop := ∀ i : Int, 0 ≤ i → i < n → 0 ≤ gt p i ∧ gt p i < p.length ∧ gt p i ≠ i ∧ gt p (gt p i) = i
def Inv2 (p : List Int) (n : Int) : Prop := ∀ a b : Int, 0 ≤ a → a < n → a < b → b < gt p a → a ≤ gt p b ∧ gt p b ≤ gt p a

theorem isSystem (H : AH) (v : Value) (p : List Int) (hv : Sl H v (ints p)) (hx : p.length ≤ 4294967296) : ACall Try.prog 87 [v] H (.bool (arcB p)) H := by
  refine ACall.plain (nt := 58) (rs := [.tmp 2]) (vs := [_]) Try.func87 rfl rfl rfl rfl (by simp [PlainL]) fun wf => ?_
  have l1 := hv.len (P := Try.prog) elem22
  rw [ints_len] at l1
  have hw1 : IntKind.i64.wrap ((p.length : Int) - 1) = (p.length : Int) - 1 := wrap_id (by omega) (by omega)
  repeat refine AWp.seq ?_
  refine AWp.region' fun K hK => ?_
  simp []
  apply hK
  clear hK K
  simp only [andThen]
  repeat refine AWp.seq ?_
  refine AWp.region' fun K hK => ?_
  simp [l1]
  apply hK
  clear hK K
  simp only [andThen]
  repeat refine AWp.seq ?_
  refine AWp.block ?_
  refine AWp.loop (fun j env G => G = H ∧ ∃ (k : Nat), j = p.length - k ∧ k ≤ p.length ∧ Inv1 p k ∧ env 0 = some v ∧ env 8 = some v ∧ env 9 = some (.int .i64 p.length) ∧ env 10 = some (.int .i64 k)) (p.length) ⟨rfl, 0, by simp, by omega, fun i h0 h1 => by omega, rfl, by simp, by simp, rfl⟩ ?_
  rintro j env G ⟨rfl, k, rfl, hk, hI, e0, e8, e9, e10⟩
  repeat refine AWp.seq ?_
  refine AWp.region' fun K hK => ?_
  simp [e9, e10]
  apply hK
  clear hK K
  simp only [andThen]
  by_cases hlt : k < p.length
  · repeat refine AWp.seq ?_
    refine AWp.ct (by simp [hlt]) ?_
    refine AWp.skip ?_
    simp only [andThen]
    have bad : ¬ ArcS p → (Value.bool (arcB p)) = .bool false := fun h => by rw [arcB_no h]
    repeat refine AWp.seq ?_
    refine AWp.block ?_
    repeat refine AWp.seq ?_
    refine AWp.region' fun K hK => ?_
    simp [e8, e10, idxN hv hlt, loadN hv hlt]
    apply hK
    clear hK K
    simp only [andThen]
    repeat refine AWp.seq ?_
    refine AWp.region' fun K hK => ?_
    simp [e0, l1, hw1]
    refine CallK.det (in_ _ _ _ _) ?_
    by_cases c1 : 0 ≤ gt p k ∧ gt p k ≤ (p.length : Int) - 1
    · have c1' : (decide (0 ≤ gt p k) && decide (gt p k ≤ (p.length : Int) - 1)) = true := by simp; omega
      rw [c1']
      by_cases c2 : gt p k = k
      · simp [c2]
        apply hK
        clear hK K
        simp only [andThen]
        repeat refine AWp.seq ?_
        refine AWp.ct (by simp) ?_
        repeat refine AWp.seq ?_
        refine AWp.region' fun K hK => ?_
        simp []
        apply hK
        clear hK K
        simp only [andThen]
        refine AWp.ret ?_
        exact ⟨.inr rfl, ⟨[], by simp⟩, by simp [arcB_no fun s => s.ne k (by omega) (by omega) c2]⟩
      · have b2 : (gt p k == (k : Int)) = false := by simpa using c2
        by_cases c3 : gt p (gt p k) = k
        · simp [b2, c3, e0, idxI hv c1.1 (by omega), loadI hv c1.1 (by omega)]
          apply hK
          clear hK K
          simp only [andThen]
          repeat refine AWp.seq ?_
          refine AWp.cf (by simp) ?_
          refine AWp.skip ?_
          simp only [andThen]
          repeat refine AWp.seq ?_
          refine AWp.region' fun K hK => ?_
          simp [e10, wrap_succ (show k ≤ 4294967296 by omega)]
          apply hK
          clear hK K
          simp only [andThen]
          refine ⟨p.length - (k + 1), by omega, trivial, k + 1, rfl, by omega, fun i h0 h1 => ?_, by simp [e0], by simp [e8], by simp [e9], by simp⟩
          by_cases hik : i = k
          · subst hik; exact ⟨c1.1, by omega, c2, c3⟩
          · exact hI i h0 (by omega)
        · have b3 : (gt p (gt p k) == (k : Int)) = false := by simpa using c3
          simp [b2, b3, e0, idxI hv c1.1 (by omega), loadI hv c1.1 (by omega)]
          apply hK
          clear hK K
          simp only [andThen]
          repeat refine AWp.seq ?_
          refine AWp.ct (by simp [c3]) ?_
          repeat refine AWp.seq ?_
          refine AWp.region' fun K hK => ?_
          simp []
          apply hK
          clear hK K
          simp only [andThen]
          refine AWp.ret ?_
          exact ⟨.inr rfl, ⟨[], by simp⟩, by simp [arcB_no fun s => c3 (s.inv k (by omega) (by omega))]⟩
    · have c1' : (decide (0 ≤ gt p k) && decide (gt p k ≤ (p.length : Int) - 1)) = false := by
        rw [Bool.eq_false_iff]; intro h; exact c1 (by simpa using h)
      rw [c1']
      simp
      apply hK
      clear hK K
      simp only [andThen]
      repeat refine AWp.seq ?_
      refine AWp.ct (by simp) ?_
      repeat refine AWp.seq ?_
      refine AWp.region' fun K hK => ?_
      simp []
      apply hK
      clear hK K
      simp only [andThen]
      refine AWp.ret ?_
      exact ⟨.inr rfl, ⟨[], by simp⟩, by simp [arcB_no fun s => c1 ⟨s.lo k (by omega) (by omega), by have := s.hi k (by omega) (by omega); omega⟩]⟩
  · repeat refine AWp.seq ?_
    refine AWp.cf (by simp [hlt]) ?_
    refine AWp.exit ?_
    simp only [andThen]
    have hkk : k = p.length := by omega
    subst hkk
    simp
    clear hlt hk
    have hlo : ∀ i : Int, 0 ≤ i → i < p.length → gt p i < p.length := fun i h0 h1 => (hI i h0 h1).2.1
    repeat refine AWp.seq ?_
    refine AWp.region' fun K hK => ?_
    simp [e0, l1]
    apply hK
    clear hK K
    simp only [andThen]
    repeat refine AWp.seq ?_
    refine AWp.block ?_
    refine AWp.loop (fun j env G' => G' = G ∧ ∃ (k : Nat), j = p.length - k ∧ k ≤ p.length ∧ Inv2 p k ∧ env 0 = some v ∧ env 35 = some v ∧ env 36 = some (.int .i64 p.length) ∧ env 37 = some (.int .i64 k)) (p.length) ⟨rfl, 0, by simp, by omega, fun a b h0 h1 => by omega, by simp [e0], by simp, by simp, rfl⟩ ?_
    rintro j env G' ⟨rfl, k, rfl, hk, hI2, e0, e35, e36, e37⟩
    repeat refine AWp.seq ?_
    refine AWp.region' fun K hK => ?_
    simp [e36, e37]
    apply hK
    clear hK K
    simp only [andThen]
    by_cases hlt : k < p.length
    · repeat refine AWp.seq ?_
      refine AWp.ct (by simp [hlt]) ?_
      refine AWp.skip ?_
      simp only [andThen]
      repeat refine AWp.seq ?_
      refine AWp.block ?_
      repeat refine AWp.seq ?_
      refine AWp.region' fun K hK => ?_
      simp [e35, e37, idxN hv hlt, loadN hv hlt]
      apply hK
      clear hK K
      simp only [andThen]
      repeat refine AWp.seq ?_
      refine AWp.region' fun K hK => ?_
      simp [wrap_succ (show k ≤ 4294967296 by omega)]
      apply hK
      clear hK K
      simp only [andThen]
      have hhi := hlo k (by omega) (by omega)
      repeat refine AWp.seq ?_
      refine AWp.block ?_
      refine AWp.loop (fun j env G'' => G'' = G' ∧ ∃ (b : Int), j = (gt p k - b).toNat ∧ k < b ∧ (∀ c : Int, k < c → c < b → c < gt p k → (k : Int) ≤ gt p c ∧ gt p c ≤ gt p k) ∧ env 0 = some v ∧ env 5 = some (.int .i64 k) ∧ env 6 = some (.int .i64 (gt p k)) ∧ env 7 = some (.int .i64 b) ∧ env 35 = some v ∧ env 36 = some (.int .i64 p.length) ∧ env 37 = some (.int .i64 k)) ((gt p k - (k + 1 : Nat)).toNat) ⟨rfl, ((k + 1 : Nat) : Int), rfl, by omega, fun c h1 h2 => by omega, by simp [e0], by simp, by simp, by simp, by simp [e35], by simp [e36], by simp [e37]⟩ ?_
      rintro j env G'' ⟨rfl, b, rfl, hkb, hall, e0, e5, e6, e7, e35, e36, e37⟩
      repeat refine AWp.seq ?_
      refine AWp.region' fun K hK => ?_
      simp [e6, e7]
      apply hK
      clear hK K
      simp only [andThen]
      by_cases hb : b < gt p k
      · repeat refine AWp.seq ?_
        refine AWp.ct (by simp [hb]) ?_
        refine AWp.skip ?_
        simp only [andThen]
        repeat refine AWp.seq ?_
        refine AWp.block ?_
        repeat refine AWp.seq ?_
        refine AWp.region' fun K hK => ?_
        simp [e0, e5, e6, e7, idxI hv (show 0 ≤ b by omega) (by omega), loadI hv (show 0 ≤ b by omega) (by omega)]
        refine CallK.det (in_ _ _ _ _) ?_
        simp
        apply hK
        clear hK K
        simp only [andThen]
        by_cases c : (k : Int) ≤ gt p b ∧ gt p b ≤ gt p k
        · repeat refine AWp.seq ?_
          refine AWp.cf (by simp [c]) ?_
          refine AWp.skip ?_
          simp only [andThen]
          have hwb : IntKind.i64.wrap (b + 1) = b + 1 := wrap_id (by omega) (by omega)
          repeat refine AWp.seq ?_
          refine AWp.region' fun K hK => ?_
          simp [e7, hwb]
          apply hK
          clear hK K
          simp only [andThen]
          refine ⟨(gt p k - (b + 1)).toNat, by omega, trivial, b + 1, rfl, by omega, fun d h1 h2 h3 => ?_, by simp [e0], by simp [e5], by simp [e6], by simp, by simp [e35], by simp [e36], by simp [e37]⟩
          by_cases hd : d = b
          · subst hd; exact c
          · exact hall d h1 (by omega) h3
        · repeat refine AWp.seq ?_
          refine AWp.ct (by simp; omega) ?_
          repeat refine AWp.seq ?_
          refine AWp.region' fun K hK => ?_
          simp []
          apply hK
          clear hK K
          simp only [andThen]
          refine AWp.ret ?_
          exact ⟨.inr rfl, ⟨[], by simp⟩, by simp [arcB_no fun s => c (s.cr k b (by omega) (by omega) hkb hb)]⟩
      · repeat refine AWp.seq ?_
        refine AWp.cf (by simp [hb]) ?_
        refine AWp.exit ?_
        simp only [andThen]
        simp
        repeat refine AWp.seq ?_
        refine AWp.region' fun K hK => ?_
        simp [e37, wrap_succ (show k ≤ 4294967296 by omega)]
        apply hK
        clear hK K
        simp only [andThen]
        refine ⟨p.length - (k + 1), by omega, trivial, k + 1, rfl, by omega, fun a d h0 h1 h2 h3 => ?_, by simp [e0], by simp [e35], by simp [e36], by simp⟩
        by_cases hak : a = k
        · subst hak; exact hall d h2 (by omega) h3
        · exact hI2 a d h0 (by omega) h2 h3
    · repeat refine AWp.seq ?_
      refine AWp.cf (by simp [hlt]) ?_
      refine AWp.exit ?_
      simp only [andThen]
      simp
      repeat refine AWp.seq ?_
      refine AWp.region' fun K hK => ?_
      simp []
      apply hK
      clear hK K
      simp only [andThen]
      refine AWp.ret ?_
      have hkk : k = p.length := by omega
      subst hkk
      have hs : arcB p = true := (arcB_iff p).2 ⟨fun i a b => (hI i a b).1, fun i a b => (hI i a b).2.1, fun i a b => (hI i a b).2.2.1, fun i a b => (hI i a b).2.2.2, hI2⟩
      exact ⟨.inr rfl, ⟨[], by simp⟩, by simp [hs]⟩

theorem IsSystem (H : AH) (v : Value) (p : List Int) (hv : Sl H v (ints p)) (hx : p.length ≤ 4294967296) : ACall Try.prog 55 [v] H (.bool (sysB p)) H := by
  refine ACall.plain (nt := 10) (rs := [.tmp 2]) (vs := [_]) Try.func55 rfl rfl rfl rfl (by simp [PlainL]) fun wf => ?_
  have l1 := hv.len (P := Try.prog) elem22
  rw [ints_len] at l1
  repeat refine AWp.seq ?_
  refine AWp.region' fun K hK => ?_
  simp []
  apply hK
  clear hK K
  simp only [andThen]
  by_cases h : p.length ≤ 12
  · have h' : (p.length : Int) ≤ 12 := by omega
    repeat refine AWp.seq ?_
    refine AWp.region' fun K hK => ?_
    simp [l1, h', hv.tup]
    refine CallK.det (isSystem _ v p hv hx) ?_
    simp
    apply hK
    clear hK K
    simp only [andThen]
    refine AWp.ret ?_
    exact ⟨.inr rfl, ⟨[], by simp⟩, by simp [sysB, h]⟩
  · have h' : ¬ (p.length : Int) ≤ 12 := by omega
    repeat refine AWp.seq ?_
    refine AWp.region' fun K hK => ?_
    simp [l1, h']
    apply hK
    clear hK K
    simp only [andThen]
    refine AWp.ret ?_
    exact ⟨.inr rfl, ⟨[], by simp⟩, by simp [sysB, h]⟩
end Go.Proofs.Ytdghlhdpcmemjaa.AL

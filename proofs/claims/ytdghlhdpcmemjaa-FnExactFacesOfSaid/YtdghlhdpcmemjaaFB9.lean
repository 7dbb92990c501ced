/- The faces told and not told; the law of the faces. No condition. -/
import Derived.Test.YtdghlhdpcmemjaaFB8
import Derived.Test.YtdghlhdpcmemjaaFB6
import Derived.Test.YtdghlhdpcmemjaaFB3
namespace Go.Proofs.Ytdghlhdpcmemjaa.AL
open Go Go.Proofs.Ytdghlhdpcmemjaa.Arch
set_option linter.unusedVariables false
set_option linter.unusedSimpArgs false
set_option maxRecDepth 4096

def facesF (p : List Int) : List (List Int) := if sysB p = true then facesTo p p.length else []
theorem sysB_some {p : List Int} (h : sysB p = true) : p.length ≤ 12 ∧ ArcS p := by
  unfold sysB at h
  rw [Bool.and_eq_true, decide_eq_true_eq] at h
  exact ⟨h.1, (arcB_iff p).1 h.2⟩
theorem facesF_len {p : List Int} : (facesF p).length ≤ 13 ∧ ∀ r ∈ facesF p, r.length ≤ 13 := by
  unfold facesF
  split
  · rename_i h
    obtain ⟨h1, s⟩ := sysB_some h
    refine ⟨by have := facesTo_len (p := p) (k := p.length); omega, fun r hr => ?_⟩
    unfold facesTo at hr
    rcases List.mem_cons.1 hr with rfl | hr
    · have := hops_len (p := p) p.length 0 p.length
      omega
    · obtain ⟨i, hi, rfl⟩ := List.mem_map.1 hr
      have hi := List.mem_range.1 (List.mem_filter.1 hi).1
      have := hops_len (p := p) (gt p i - ((i + 1 : Nat) : Int)).toNat ((i + 1 : Nat) : Int) (gt p i)
      have := s.hi i (by omega) (by omega)
      simp only [faceAt, List.length_cons]
      omega
  · simp
theorem offs_small {n : Int} {F : List (List Int)} (h : ∀ r ∈ F, r.length ≤ 13) : ∀ k, k ≤ F.length → offs n F k ≤ n + 13 * k := fun k => by
  induction k with
  | zero => intro _; simp [offs_zero]
  | succ k ih =>
    intro hk
    have := ih (by omega)
    have := h F[k] (List.getElem_mem _)
    rw [offs_succ (by omega)]
    omega

theorem FacesOf_spec (H : AH) (v : Value) (p : List Int) (hv : Sl H v (ints p)) (hx : p.length ≤ 4294967296) :
    ACallP Try.prog 15 [v] H (fun u G => ∃ w, u = .tuple #[w, .bool (sysB p)] ∧ RowsO G H.length 22 3 w ((facesF p).map ints) ∧ Agree H.length H G) := by
  refine ACallP.of_body (nt := 9) (rs := [.tmp 2, .tmp 3]) Try.func15 rfl rfl rfl rfl fun wf _ => ?_
  repeat refine AWp.seq ?_
  refine AWp.region' fun K hK => ?_
  simp []
  apply hK
  clear hK K
  simp only [andThen]
  repeat refine AWp.seq ?_
  refine AWp.region' fun K hK => ?_
  simp [hv.tup]
  refine CallK.det (ahGood H v p hv hx) ?_
  simp
  apply hK
  clear hK K
  simp only [andThen]
  by_cases h : sysB p = true
  · obtain ⟨h1, s⟩ := sysB_some h
    rw [h]
    repeat refine AWp.seq ?_
    refine AWp.cf (by simp) ?_
    refine AWp.skip ?_
    simp only [andThen]
    repeat refine AWp.seq ?_
    refine AWp.region' fun K hK => ?_
    simp [hv.tup]
    refine CallK.of (exFaces H v p hv s h1) ?_
    rintro u G ⟨hr, ha⟩
    simp
    apply hK
    clear hK K
    simp only [andThen]
    refine AWp.ret ?_
    exact ⟨.inr rfl, [u, .bool true], by simp [hr.sl.tup], u, rfl, by simpa [facesF, h] using hr, ha⟩
  · have h' : sysB p = false := by simpa using h
    rw [h']
    repeat refine AWp.seq ?_
    refine AWp.ct (by simp) ?_
    repeat refine AWp.seq ?_
    refine AWp.region' fun K hK => ?_
    simp []
    apply hK
    clear hK K
    simp only [andThen]
    refine AWp.ret ?_
    exact ⟨.inr rfl, [.slice none 0 0, .bool false], by simp, .slice none 0 0, rfl, by simpa [facesF, h'] using RowsO.nil, .refl _ _⟩
theorem FacesOf_impl (H : AH) (v : Value) (p : List Int) (hv : Sl H v (ints p)) (hx : p.length ≤ 4294967296) :
    ACallP Try.prog 17 [v] H (fun u G => ∃ w, u = .tuple #[w, .bool (sysB p)] ∧ RowsO G H.length 22 3 w ((facesF p).map ints) ∧ Agree H.length H G) := by
  refine ACallP.of_body (nt := 9) (rs := [.tmp 2, .tmp 3]) Try.func17 rfl rfl rfl rfl fun wf _ => ?_
  repeat refine AWp.seq ?_
  refine AWp.region' fun K hK => ?_
  simp []
  apply hK
  clear hK K
  simp only [andThen]
  repeat refine AWp.seq ?_
  refine AWp.region' fun K hK => ?_
  simp [hv.tup]
  refine CallK.det (IsSystem H v p hv hx) ?_
  simp
  apply hK
  clear hK K
  simp only [andThen]
  by_cases h : sysB p = true
  · obtain ⟨h1, s⟩ := sysB_some h
    rw [h]
    repeat refine AWp.seq ?_
    refine AWp.cf (by simp) ?_
    refine AWp.skip ?_
    simp only [andThen]
    repeat refine AWp.seq ?_
    refine AWp.region' fun K hK => ?_
    simp [hv.tup]
    refine CallK.of (faces H v p hv s h1) ?_
    rintro u G ⟨hr, ha⟩
    simp
    apply hK
    clear hK K
    simp only [andThen]
    refine AWp.ret ?_
    exact ⟨.inr rfl, [u, .bool true], by simp [hr.sl.tup], u, rfl, by simpa [facesF, h] using hr, ha⟩
  · have h' : sysB p = false := by simpa using h
    rw [h']
    repeat refine AWp.seq ?_
    refine AWp.ct (by simp) ?_
    repeat refine AWp.seq ?_
    refine AWp.region' fun K hK => ?_
    simp []
    apply hK
    clear hK K
    simp only [andThen]
    refine AWp.ret ?_
    exact ⟨.inr rfl, [.slice none 0 0, .bool false], by simp, .slice none 0 0, rfl, by simpa [facesF, h'] using RowsO.nil, .refl _ _⟩

theorem mkL_tup {N n : Nat} : isTup (mkL N n) = false := rfl
theorem mkL_fresh {H L : AH} {xs : List Int} : Fresh (H ++ objL 3 (ints xs) :: L) H.length 3 (mkL H.length xs.length) (ints xs) :=
  ⟨H.length, 0, 0, xs.length + 1, _, Nat.le_refl _, by simp [mkL], by simp; rfl, rfl, rfl, rfl, rfl, by simp [objL], by simp only [objL, List.drop_zero]; exact List.take_of_length_le (Nat.le_refl _)⟩

theorem FnExactFacesOf (H : AH) (v : Value) (xs : List Int) (hv : Sl H v (ints xs)) (_ : ∀ x ∈ xs, (Lit.int .i64 x).wf = true) : ACall Try.prog 3 [v] H (.bool true) H := by
  refine ACall.plain (nt := 93) (rs := [.tmp 2]) (vs := [_]) Try.func3 rfl rfl rfl rfl (by simp [PlainL]) fun wf => ?_
  have l1 := hv.len (P := Try.prog) elem22
  rw [ints_len] at l1
  repeat refine AWp.seq ?_
  refine AWp.region' fun K hK => ?_
  simp []
  apply hK
  clear hK K
  simp only [andThen]
  repeat refine AWp.seq ?_
  refine AWp.region' fun K hK => ?_
  simp [l1]
  apply hK
  clear hK K
  simp only [andThen]
  by_cases big : 1048576 < xs.length
  · repeat refine AWp.seq ?_
    refine AWp.ct (by simp; omega) ?_
    repeat refine AWp.seq ?_
    refine AWp.region' fun K hK => ?_
    simp []
    apply hK
    clear hK K
    simp only [andThen]
    refine AWp.ret ?_
    exact ⟨.inr rfl, ⟨[], by simp⟩, by simp⟩
  have small : xs.length ≤ 1048576 := by omega
  repeat refine AWp.seq ?_
  refine AWp.cf (by simp; omega) ?_
  refine AWp.skip ?_
  simp only [andThen]
  obtain ⟨fl, fr⟩ := facesF_len (p := xs)
  have hoff : offs 1 (facesF xs) (facesF xs).length ≤ 4294967296 := by have := offs_small (n := 1) fr _ (Nat.le_refl _); omega
  have fr' : ∀ r ∈ facesF xs, r.length ≤ 4294967296 := fun r hr => by have := fr r hr; omega
  -- the reference's faces
  repeat refine AWp.seq ?_
  refine AWp.region' fun K hK => ?_
  simp [hv.tup]
  refine CallK.det (toIntS H v xs hv small) ?_
  simp [mkL_tup]
  refine CallK.of (FacesOf_spec _ _ xs mkL_fresh.sl (by omega)) ?_
  rintro u3 H3 ⟨w3, rfl, r3, a3⟩
  have t3 := r3.sl.tup
  simp
  apply hK
  clear hK K
  simp only [andThen]
  have a03 : Agree H.length H H3 := (Agree.app H _).trans a3 (by simp)
  have s3 := r3.sl
  clear r3
  -- a copy, and the program's faces
  have hv3 := hv.agree a03
  repeat refine AWp.seq ?_
  refine AWp.region' fun K hK => ?_
  simp [hv.tup]
  refine CallK.det (toIntS H3 v xs hv3 small) ?_
  simp
  apply hK
  clear hK K
  simp only [andThen]
  have f4 := mkL_fresh (H := H3) (L := []) (xs := xs)
  have a34 : Agree H3.length H3 (H3 ++ [objL 3 (ints xs)]) := Agree.app _ _
  have id5 : idOf (mkL H3.length xs.length) = some H3.length := rfl
  have l5 : H3.length < (H3 ++ [objL 3 (ints xs)]).length := by simp
  generalize hv5 : mkL H3.length xs.length = v5 at *
  generalize hH4 : H3 ++ [objL 3 (ints xs)] = H4 at *
  repeat refine AWp.seq ?_
  refine AWp.region' fun K hK => ?_
  simp [f4.sl.tup]
  refine CallK.of (FacesOf_impl H4 v5 xs f4.sl (by omega)) ?_
  rintro u6 H6 ⟨w6, rfl, r6, a46⟩
  have t6 := r6.sl.tup
  simp
  apply hK
  clear hK K
  simp only [andThen]
  have h46 := a46.to_pre.length_le
  have a36 := a34.trans a46 (by omega)
  have s36 := s3.agree a36
  -- they are the same
  repeat refine AWp.seq ?_
  refine AWp.region' fun K hK => ?_
  simp [t3, t6]
  refine CallK.det (eqIntSS H6 w6 w3 (facesF xs) (facesF xs) r6.sl s36 (by omega) (by omega) fr' fr') ?_
  simp
  apply hK
  clear hK K
  simp only [andThen]
  repeat refine AWp.seq ?_
  refine AWp.cf (by simp) ?_
  refine AWp.skip ?_
  simp only [andThen]
  -- the copy is as it was
  have hv6 := hv3.agree a36
  have f6 := f4.at (H' := H6) fun i hi => a46 i ((Own.of f4).id_lt hi).1
  repeat refine AWp.seq ?_
  refine AWp.region' fun K hK => ?_
  simp [hv.tup, f4.sl.tup]
  refine CallK.det (toIntS H6 v xs hv6 small) ?_
  simp [mkL_tup, f4.sl.tup]
  have a67 : Agree H6.length H6 (H6 ++ [objL 3 (ints xs)]) := Agree.app _ _
  refine CallK.det (eqIntS _ v5 _ xs xs (f6.sl.agree a67) mkL_fresh.sl (by omega) (by omega)) ?_
  simp
  apply hK
  clear hK K
  simp only [andThen]
  repeat refine AWp.seq ?_
  refine AWp.cf (by simp) ?_
  refine AWp.skip ?_
  simp only [andThen]
  have f7 := f6.at (H' := H6 ++ [objL 3 (ints xs)]) fun i hi => a67 i ((Own.of f6).id_lt hi).1
  have r7 := r6.agree a67
  have a37 := a36.trans a67 (by omega)
  have h47 : H4.length ≤ (H6 ++ [objL 3 (ints xs)]).length := by simp; omega
  have a47 : Agree H4.length H4 (H6 ++ [objL 3 (ints xs)]) := a46.trans a67 h46
  generalize H6 ++ [objL 3 (ints xs)] = H7 at *
  -- the copy is marked
  repeat refine AWp.seq ?_
  refine AWp.region' fun K hK => ?_
  simp []
  apply hK
  clear hK K
  simp only [andThen]
  repeat refine AWp.seq ?_
  refine AWp.region' fun K hK => ?_
  simp [f4.sl.tup]
  refine CallK.of (markIntS H7 H3.length v5 xs 1 (.inr f7) (by omega) (by omega) (by omega)) ?_
  rintro u8 H8 ⟨rfl, f8, l8, k8⟩
  simp
  apply hK
  clear hK K
  simp only [andThen]
  have r8 := r7.keep (H' := H8) fun i hi _ => k8 i (by rw [id5]; simp; omega)
  have a38 : Agree H3.length H3 H8 := fun i hi => by rw [k8 i (by rw [id5]; simp; omega), a37 i hi]
  have hpos : ¬ ((1 : Int) + (xs.length : Int) < 0) := by omega
  repeat refine AWp.seq ?_
  refine AWp.region' fun K hK => ?_
  simp [hpos, t3, t6]
  refine CallK.det (eqIntSS H8 w6 w3 (facesF xs) (facesF xs) r8.sl (s3.agree a38) (by omega) (by omega) fr' fr') ?_
  simp
  apply hK
  clear hK K
  simp only [andThen]
  repeat refine AWp.seq ?_
  refine AWp.cf (by simp) ?_
  refine AWp.skip ?_
  simp only [andThen]
  -- the faces are marked
  repeat refine AWp.seq ?_
  refine AWp.region' fun K hK => ?_
  simp []
  apply hK
  clear hK K
  simp only [andThen]
  repeat refine AWp.seq ?_
  refine AWp.region' fun K hK => ?_
  simp [t6]
  refine CallK.of (markIntSS H8 H4.length w6 1 (facesF xs) r8 (by omega) (by omega) hoff) ?_
  rintro u9 H9 ⟨rfl, r9, l9, k9⟩
  simp
  apply hK
  clear hK K
  simp only [andThen]
  have a39 : Agree H3.length H3 H9 := fun i hi => by rw [k9 i (by omega), a38 i hi]
  have hpos2 : ¬ (offs 1 (facesF xs) (facesF xs).length < 0) := by have := offs_ge (n := 1) (F := facesF xs) (k := (facesF xs).length); omega
  repeat refine AWp.seq ?_
  refine AWp.region' fun K hK => ?_
  simp []
  apply hK
  clear hK K
  simp only [andThen]
  repeat refine AWp.seq ?_
  refine AWp.region' fun K hK => ?_
  simp [t6]
  refine CallK.det (heldIntSS H9 w6 1 (facesF xs) r9.sl (by omega) (by omega) hoff) ?_
  simp
  apply hK
  clear hK K
  simp only [andThen]
  repeat refine AWp.seq ?_
  refine AWp.region' fun K hK => ?_
  simp []
  apply hK
  clear hK K
  simp only [andThen]
  repeat refine AWp.seq ?_
  refine AWp.cf (by simp [hpos2]) ?_
  refine AWp.skip ?_
  simp only [andThen]
  repeat refine AWp.seq ?_
  refine AWp.region' fun K hK => ?_
  simp []
  apply hK
  clear hK K
  simp only [andThen]
  repeat refine AWp.seq ?_
  refine AWp.cf (by simp) ?_
  refine AWp.skip ?_
  simp only [andThen]
  -- asked again
  have hv9 := hv3.agree a39
  repeat refine AWp.seq ?_
  refine AWp.region' fun K hK => ?_
  simp [hv.tup]
  refine CallK.det (toIntS H9 v xs hv9 small) ?_
  simp [mkL_tup]
  refine CallK.of (FacesOf_impl _ _ xs mkL_fresh.sl (by omega)) ?_
  rintro u11 H11 ⟨w11, rfl, r11, a11⟩
  have t11 := r11.sl.tup
  simp
  apply hK
  clear hK K
  simp only [andThen]
  have a9 : Agree H9.length H9 H11 := (Agree.app H9 _).trans a11 (by simp)
  have r9' := r9.agree a9
  have h9 : H3.length ≤ H9.length := by have := a39.to_pre.length_le; omega
  repeat refine AWp.seq ?_
  refine AWp.region' fun K hK => ?_
  simp [t3, t11]
  refine CallK.det (eqIntSS H11 w11 w3 (facesF xs) (facesF xs) r11.sl (s3.agree (a39.trans a9 h9)) (by omega) (by omega) fr' fr') ?_
  simp
  apply hK
  clear hK K
  simp only [andThen]
  repeat refine AWp.seq ?_
  refine AWp.cf (by simp) ?_
  refine AWp.skip ?_
  simp only [andThen]
  repeat refine AWp.seq ?_
  refine AWp.region' fun K hK => ?_
  simp []
  apply hK
  clear hK K
  simp only [andThen]
  repeat refine AWp.seq ?_
  refine AWp.region' fun K hK => ?_
  simp [t6]
  refine CallK.det (heldIntSS H11 w6 1 (facesF xs) r9'.sl (by omega) (by omega) hoff) ?_
  simp
  apply hK
  clear hK K
  simp only [andThen]
  repeat refine AWp.seq ?_
  refine AWp.region' fun K hK => ?_
  simp []
  apply hK
  clear hK K
  simp only [andThen]
  repeat refine AWp.seq ?_
  refine AWp.cf (by simp [hpos2]) ?_
  refine AWp.skip ?_
  simp only [andThen]
  repeat refine AWp.seq ?_
  refine AWp.region' fun K hK => ?_
  simp []
  apply hK
  clear hK K
  simp only [andThen]
  repeat refine AWp.seq ?_
  refine AWp.cf (by simp) ?_
  refine AWp.skip ?_
  simp only [andThen]
  repeat refine AWp.seq ?_
  refine AWp.region' fun K hK => ?_
  simp []
  apply hK
  clear hK K
  simp only [andThen]
  refine AWp.ret ?_
  have afin : Agree H.length H H11 := (a03.trans a39 (by have := a03.to_pre.length_le; omega)).trans a9 (by have := a03.to_pre.length_le; omega)
  exact ⟨.inr rfl, afin.to_pre.imp fun L h => h.symm, by simp⟩
end Go.Proofs.Ytdghlhdpcmemjaa.AL

/- The laws' own lists: copies and marks. No condition. -/
import Derived.Test.YtdghlhdpcmemjaaFB1
namespace Go.Proofs.Ytdghlhdpcmemjaa.AL
open Go
set_option linter.unusedVariables false
set_option linter.unusedSimpArgs false

theorem set_take_succ {xs ys : List Int} {k : Nat} (hl : ys.length = xs.length) (h : ys.take k = xs.take k) (hk : k < xs.length) : (ys.set k xs[k]).take (k + 1) = xs.take (k + 1) := by
  refine take_eq_succ ?_ (by simp; omega) hk (by simp)
  rw [List.take_set_of_le (Nat.le_refl k), h]
theorem ints_set {ys : List Int} {k : Nat} {x : Int} : (ints ys).set k (.int .i64 x) = ints (ys.set k x) := by simp [ints, List.map_set]
theorem ints_plain {xs : List Int} : PlainL (ints xs) := fun v hv => by
  obtain ⟨x, _, rfl⟩ := List.mem_map.1 hv
  rfl
theorem repl_ints {n : Nat} : List.replicate n (Value.int .i64 0) = ints (List.replicate n 0) := by simp [ints]

theorem mkL_tup {N n : Nat} : isTup (mkL N n) = false := rfl
theorem mkL_fresh {H L : AH} {xs : List Int} : Fresh (H ++ objL 3 (ints xs) :: L) H.length 3 (mkL H.length xs.length) (ints xs) :=
  ⟨H.length, 0, 0, xs.length + 1, _, Nat.le_refl _, by simp [mkL], by simp; rfl, rfl, rfl, rfl, rfl, by simp [objL], by simp only [objL, List.drop_zero]; exact List.take_of_length_le (Nat.le_refl _)⟩

theorem toIntS (H : AH) (v : Value) (xs : List Int) (hv : Sl H v (ints xs)) (hx : xs.length ≤ 1048576) :
    ACall Try.prog 16 [v] H (mkL H.length xs.length) (H ++ [objL 3 (ints xs)]) := by
  have key := ACall.list (P := Try.prog) (f := 16) (args := [v]) (H := H) (nt := 22) (rs := [.tmp 2]) (e := 3) (cells := ints xs) (rest := []) Try.func16 rfl rfl rfl rfl ints_plain (by simp [PlainL]) fun wf => ?_
  · simpa [packed] using key
  have l1 := hv.len (P := Try.prog) elem22
  have mk : aMake Try.prog H 22 (.int .i64 xs.length) (.int .i64 xs.length) = some (.slice (some ⟨H.length, 0, some 0⟩) xs.length xs.length, H ++ [⟨ints (List.replicate xs.length 0), 3, 1, 0, false⟩]) := by
    simp [aMake, elem22, einfo3, aNew, Value.cells, ← repl_ints]
    omega
  repeat refine AWp.seq ?_
  refine AWp.region' fun K hK => ?_
  simp []
  apply hK
  clear hK K
  simp only [andThen]
  repeat refine AWp.seq ?_
  refine AWp.region' fun K hK => ?_
  simp [l1, mk]
  apply hK
  clear hK K
  simp only [andThen]
  repeat refine AWp.seq ?_
  refine AWp.region' fun K hK => ?_
  simp []
  apply hK
  clear hK K
  simp only [andThen]
  repeat refine AWp.seq ?_
  refine AWp.block ?_
  refine AWp.loop (fun n env G => ∃ (k : Nat) (ys : List Int) (u : Value), n = xs.length - k ∧ k ≤ xs.length ∧ ys.length = xs.length ∧ ys.take k = xs.take k ∧ Fresh G H.length 3 u (ints ys) ∧ Agree H.length H G ∧ env 0 = some v ∧ env 3 = some u ∧ env 4 = some (.int .i64 k)) (xs.length) ⟨0, List.replicate xs.length 0, .slice (some ⟨H.length, 0, some 0⟩) xs.length xs.length, by simp, by omega, by simp, by simp, ⟨H.length, 0, 0, xs.length, _, by omega, by simp, by simp; rfl, rfl, rfl, rfl, rfl, by simp, by simp [ints]⟩, Agree.app _ _, rfl, rfl, rfl⟩ ?_
  rintro n env G ⟨k, ys, u, rfl, hk, hys, htk, hf, ha, e0, e3, e4⟩
  have hv' := hv.agree ha
  have l1 := hv'.len (P := Try.prog) elem22
  repeat refine AWp.seq ?_
  refine AWp.region' fun K hK => ?_
  simp [l1, e0, e4]
  apply hK
  clear hK K
  simp only [andThen]
  by_cases hlt : k < xs.length
  · repeat refine AWp.seq ?_
    refine AWp.ct (by simp [hlt]) ?_
    refine AWp.skip ?_
    simp only [andThen]
    have i1 := hv'.idx (P := Try.prog) elem22 size3 (kk := .i64) (k := k) (by simpa using hlt)
    have d1 := hv'.load (P := Try.prog) size3 agg3 (ints_get hlt)
    have i2 := hf.sl.idx (P := Try.prog) elem22 size3 (kk := .i64) (k := k) (by simp; omega)
    obtain ⟨G', s1, s2, s3, s4⟩ := hf.store (P := Try.prog) (k := k) (x := .int .i64 xs[k]) size3 (by simp; omega) rfl rfl
    repeat refine AWp.seq ?_
    refine AWp.block ?_
    repeat refine AWp.seq ?_
    refine AWp.region' fun K hK => ?_
    simp [e0, e3, e4, i1, d1, i2, s1]
    apply hK
    clear hK K
    simp only [andThen]
    repeat refine AWp.seq ?_
    refine AWp.region' fun K hK => ?_
    simp [e4, wrap_succ (show k ≤ 4294967296 by omega)]
    apply hK
    clear hK K
    simp only [andThen]
    rw [ints_set] at s2
    refine ⟨xs.length - (k + 1), by omega, k + 1, _, u, rfl, by omega, by simp [hys], set_take_succ hys htk hlt, s2, fun i hi => ?_, by simp [e0], by simp [e3], by simp⟩
    rw [s4 i (fun h => by have := (Own.of hf).id_lt h; omega), ha i hi]
  · repeat refine AWp.seq ?_
    refine AWp.cf (by simp [hlt]) ?_
    refine AWp.exit ?_
    simp only [andThen]
    simp
    repeat refine AWp.seq ?_
    refine AWp.region' fun K hK => ?_
    simp [e3]
    apply hK
    clear hK K
    simp only [andThen]
    refine AWp.ret ?_
    have hkk : k = xs.length := by omega
    subst hkk
    have hxy : ys = xs := by
      rw [List.take_of_length_le (by omega), List.take_of_length_le (Nat.le_refl _)] at htk
      exact htk
    subst hxy
    exact ⟨.inr rfl, ha.to_pre, u, hf, by simp [hf.sl.tup]⟩

/-- Numbers from n on. -/
def seqI (n : Int) (k : Nat) : List Int := (List.range k).map fun j => n + (j : Nat)
@[simp] theorem seqI_len {n : Int} {k : Nat} : (seqI n k).length = k := by simp [seqI]
theorem seqI_get {n : Int} {k j : Nat} (h : j < (seqI n k).length) : (seqI n k)[j] = n + j := by simp [seqI]
theorem seqI_take {n : Int} {k m : Nat} (h : m ≤ k) : (seqI n k).take m = seqI n m := by
  unfold seqI
  rw [← List.map_take, List.take_range]
  congr 2
  omega

theorem markIntS (H : AH) (N : Nat) (v : Value) (xs : List Int) (n : Int) (hv : Own H N 3 v (ints xs)) (hx : xs.length ≤ 4294967296) (h0 : 0 ≤ n) (h1 : n ≤ 4294967296) :
    ACallP Try.prog 20 [v, .int .i64 n] H (fun u G => u = .int .i64 (n + xs.length) ∧ Own G N 3 v (ints (seqI n xs.length)) ∧ G.length = H.length ∧ ∀ i, idOf v ≠ some i → G[i]? = H[i]?) := by
  refine ACallP.of_body (nt := 19) (rs := [.tmp 4]) Try.func20 rfl rfl rfl rfl fun wf _ => ?_
  repeat refine AWp.seq ?_
  refine AWp.region' fun K hK => ?_
  simp []
  apply hK
  clear hK K
  simp only [andThen]
  repeat refine AWp.seq ?_
  refine AWp.region' fun K hK => ?_
  simp []
  apply hK
  clear hK K
  simp only [andThen]
  repeat refine AWp.seq ?_
  refine AWp.block ?_
  refine AWp.loop (fun m env G => ∃ (k : Nat) (ys : List Int), m = xs.length - k ∧ k ≤ xs.length ∧ ys.length = xs.length ∧ ys.take k = seqI n k ∧ Own G N 3 v (ints ys) ∧ G.length = H.length ∧ (∀ i, idOf v ≠ some i → G[i]? = H[i]?) ∧ env 0 = some v ∧ env 1 = some (.int .i64 (n + k)) ∧ env 5 = some (.int .i64 k)) (xs.length) ⟨0, xs, by simp, by omega, rfl, rfl, hv, rfl, fun _ _ => rfl, rfl, by simp, rfl⟩ ?_
  rintro m env G ⟨k, ys, rfl, hk, hys, htk, hf, hgl, ha, e0, e1, e5⟩
  have l1 := hf.sl.len (P := Try.prog) elem22
  repeat refine AWp.seq ?_
  refine AWp.region' fun K hK => ?_
  simp [l1, e0, e5, hys]
  apply hK
  clear hK K
  simp only [andThen]
  by_cases hlt : k < xs.length
  · repeat refine AWp.seq ?_
    refine AWp.ct (by simp [hlt]) ?_
    refine AWp.skip ?_
    simp only [andThen]
    have hf' : Fresh G N 3 v (ints ys) := by
      rcases hf with ⟨_, h⟩ | hf
      · have := congrArg List.length h
        rw [ints_len, List.length_nil] at this
        omega
      · exact hf
    have i2 := hf.sl.idx (P := Try.prog) elem22 size3 (kk := .i64) (k := k) (by simp; omega)
    obtain ⟨G', s1, s2, s3, s4⟩ := hf'.store (P := Try.prog) (k := k) (x := .int .i64 (n + k)) size3 (by simp; omega) rfl rfl
    repeat refine AWp.seq ?_
    refine AWp.block ?_
    repeat refine AWp.seq ?_
    refine AWp.region' fun K hK => ?_
    simp [e0, e1, e5, i2, s1]
    apply hK
    clear hK K
    simp only [andThen]
    have hw : IntKind.i64.wrap (n + (k : Int) + 1) = n + ((k + 1 : Nat) : Int) := by rw [wrap_id (by omega) (by omega)]; omega
    repeat refine AWp.seq ?_
    refine AWp.region' fun K hK => ?_
    simp [e1, hw]
    apply hK
    clear hK K
    simp only [andThen]
    repeat refine AWp.seq ?_
    refine AWp.region' fun K hK => ?_
    simp [e5, wrap_succ (show k ≤ 4294967296 by omega)]
    apply hK
    clear hK K
    simp only [andThen]
    rw [ints_set] at s2
    refine ⟨xs.length - (k + 1), by omega, k + 1, _, rfl, by omega, by simp [hys], ?_, .inr s2, by omega, fun i hi => by rw [s4 i hi, ha i hi], by simp [e0], by simp, by simp⟩
    have h3 := seqI_take (n := n) (k := xs.length) (m := k + 1) (by omega)
    rw [← h3]
    refine take_eq_succ ?_ (by simp; omega) (by simp; omega) (by simp [seqI_get])
    rw [List.take_set_of_le (Nat.le_refl k), htk, seqI_take (by omega)]
  · repeat refine AWp.seq ?_
    refine AWp.cf (by simp [hlt]) ?_
    refine AWp.exit ?_
    simp only [andThen]
    simp
    repeat refine AWp.seq ?_
    refine AWp.region' fun K hK => ?_
    simp [e1]
    apply hK
    clear hK K
    simp only [andThen]
    refine AWp.ret ?_
    have hkk : k = xs.length := by omega
    subst hkk
    have hxy : ys = seqI n xs.length := by
      rw [← htk, List.take_of_length_le (by omega)]
    subst hxy
    exact ⟨.inr rfl, _, by simp; rfl, rfl, hf, hgl, ha⟩

theorem heldIntS (H : AH) (v : Value) (n : Int) (m : Nat) (hv : Sl H v (ints (seqI n m))) (hx : m ≤ 4294967296) (h0 : 0 ≤ n) (h1 : n ≤ 4294967296) :
    ACall Try.prog 34 [v, .int .i64 n] H (.int .i64 (n + m)) H := by
  refine ACall.plain (nt := 21) (rs := [.tmp 4]) (vs := [_]) Try.func34 rfl rfl rfl rfl (by simp [PlainL]) fun wf => ?_
  have l1 := hv.len (P := Try.prog) elem22
  repeat refine AWp.seq ?_
  refine AWp.region' fun K hK => ?_
  simp []
  apply hK
  clear hK K
  simp only [andThen]
  repeat refine AWp.seq ?_
  refine AWp.region' fun K hK => ?_
  simp []
  apply hK
  clear hK K
  simp only [andThen]
  repeat refine AWp.seq ?_
  refine AWp.block ?_
  refine AWp.loop (fun j env G => G = H ∧ ∃ (k : Nat), j = m - k ∧ k ≤ m ∧ env 0 = some v ∧ env 1 = some (.int .i64 (n + k)) ∧ env 5 = some (.int .i64 k)) (m) ⟨rfl, 0, by simp, by omega, rfl, by simp, rfl⟩ ?_
  rintro j env G ⟨rfl, k, rfl, hk, e0, e1, e5⟩
  repeat refine AWp.seq ?_
  refine AWp.region' fun K hK => ?_
  simp [l1, e0, e5]
  apply hK
  clear hK K
  simp only [andThen]
  by_cases hlt : k < m
  · repeat refine AWp.seq ?_
    refine AWp.ct (by simp [hlt]) ?_
    refine AWp.skip ?_
    simp only [andThen]
    have i2 := hv.idx (P := Try.prog) elem22 size3 (kk := .i64) (k := k) (by simp; omega)
    have d2 := hv.load (P := Try.prog) size3 agg3 (ints_get (k := k) (by simp; omega))
    rw [seqI_get] at d2
    repeat refine AWp.seq ?_
    refine AWp.block ?_
    repeat refine AWp.seq ?_
    refine AWp.region' fun K hK => ?_
    simp [e0, e1, e5, i2, d2]
    apply hK
    clear hK K
    simp only [andThen]
    repeat refine AWp.seq ?_
    refine AWp.cf (by simp) ?_
    refine AWp.skip ?_
    simp only [andThen]
    have hw : IntKind.i64.wrap (n + (k : Int) + 1) = n + ((k + 1 : Nat) : Int) := by rw [wrap_id (by omega) (by omega)]; omega
    repeat refine AWp.seq ?_
    refine AWp.region' fun K hK => ?_
    simp [e1, hw]
    apply hK
    clear hK K
    simp only [andThen]
    repeat refine AWp.seq ?_
    refine AWp.region' fun K hK => ?_
    simp [e5, wrap_succ (show k ≤ 4294967296 by omega)]
    apply hK
    clear hK K
    simp only [andThen]
    exact ⟨m - (k + 1), by omega, trivial, k + 1, rfl, by omega, by simp [e0], by simp, by simp⟩
  · repeat refine AWp.seq ?_
    refine AWp.cf (by simp [hlt]) ?_
    refine AWp.exit ?_
    simp only [andThen]
    simp
    repeat refine AWp.seq ?_
    refine AWp.region' fun K hK => ?_
    simp [e1]
    apply hK
    clear hK K
    simp only [andThen]
    refine AWp.ret ?_
    have hkk : k = m := by omega
    subst hkk
    exact ⟨.inr rfl, ⟨[], by simp⟩, by simp⟩
end Go.Proofs.Ytdghlhdpcmemjaa.AL

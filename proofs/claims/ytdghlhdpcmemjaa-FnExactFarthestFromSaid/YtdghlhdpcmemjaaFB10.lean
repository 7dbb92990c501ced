/- slices.Repeat of a list of one number. No condition. -/
import Derived.Test.YtdghlhdpcmemjaaFB2
import Derived.Test.YtdghlhdpcmemjaaALB
namespace Go.Proofs.Ytdghlhdpcmemjaa.AL
open Go
set_option linter.unusedVariables false
set_option linter.unusedSimpArgs false
set_option maxRecDepth 4096

theorem and_val {x z : Int} (h : IntKind.u64.wrap ((BitVec.ofInt 64 x &&& BitVec.ofInt 64 4294967295).toNat : Int) = z) : aBits .and .u64 x 4294967295 = some (.int .u64 z) := by
  rw [← h]; rfl
theorem and_small : ∀ n : Fin 13, IntKind.u64.wrap ((BitVec.ofInt 64 ((n.val : Nat) : Int) &&& BitVec.ofInt 64 4294967295).toNat : Int) = ((n.val : Nat) : Int) := by decide
theorem shr_small : ∀ n : Fin 13, Int.fdiv ((n.val : Nat) : Int) 4294967296 = 0 := by decide
theorem wrap_small64 : ∀ n : Fin 13, IntKind.u64.wrap ((n.val : Nat) : Int) = ((n.val : Nat) : Int) := by decide

theorem Mul64 (H : AH) (n : Nat) (hn : n ≤ 12) : ACall Try.prog 142 [.int .u64 1, .int .u64 n] H (.tuple #[.int .u64 0, .int .u64 n]) H := by
  refine ACall.plain (nt := 51) (rs := [.tmp 4, .tmp 5]) (vs := [_, _]) Try.func142 rfl rfl rfl rfl (by simp [PlainL]) fun wf => ?_
  have a1 := and_val (and_small ⟨n, by omega⟩)
  have s1 := shr_small ⟨n, by omega⟩
  have w1 := wrap_small64 ⟨n, by omega⟩
  simp only at a1 s1 w1
  have a0 : aBits .and .u64 1 4294967295 = some (.int .u64 1) := and_val (by decide)
  have a2 : aBits .and .u64 0 4294967295 = some (.int .u64 0) := and_val (by decide)
  have s0 : Int.fdiv 1 4294967296 = 0 := by decide
  have s2 : Int.fdiv 0 4294967296 = 0 := by decide
  have w0 : IntKind.u64.wrap 0 = 0 := by decide
  have b1 : IntKind.bits .u64 = 64 := rfl
  repeat refine AWp.seq ?_
  refine AWp.region' fun K hK => ?_
  simp []
  apply hK
  clear hK K
  simp only [andThen]
  repeat refine AWp.seq ?_
  refine AWp.region' fun K hK => ?_
  simp [a0]
  apply hK
  clear hK K
  simp only [andThen]
  repeat refine AWp.seq ?_
  refine AWp.region' fun K hK => ?_
  simp [s0, b1]
  apply hK
  clear hK K
  simp only [andThen]
  repeat refine AWp.seq ?_
  refine AWp.region' fun K hK => ?_
  simp [a1]
  apply hK
  clear hK K
  simp only [andThen]
  repeat refine AWp.seq ?_
  refine AWp.region' fun K hK => ?_
  simp [s1, b1]
  apply hK
  clear hK K
  simp only [andThen]
  repeat refine AWp.seq ?_
  refine AWp.region' fun K hK => ?_
  simp [w1]
  apply hK
  clear hK K
  simp only [andThen]
  repeat refine AWp.seq ?_
  refine AWp.region' fun K hK => ?_
  simp [s1, b1, w0]
  apply hK
  clear hK K
  simp only [andThen]
  repeat refine AWp.seq ?_
  refine AWp.region' fun K hK => ?_
  simp [a2]
  apply hK
  clear hK K
  simp only [andThen]
  repeat refine AWp.seq ?_
  refine AWp.region' fun K hK => ?_
  simp [s2, b1]
  apply hK
  clear hK K
  simp only [andThen]
  repeat refine AWp.seq ?_
  refine AWp.region' fun K hK => ?_
  simp [w0]
  apply hK
  clear hK K
  simp only [andThen]
  repeat refine AWp.seq ?_
  refine AWp.region' fun K hK => ?_
  simp [w0, s2, b1]
  apply hK
  clear hK K
  simp only [andThen]
  repeat refine AWp.seq ?_
  refine AWp.region' fun K hK => ?_
  simp [w1]
  apply hK
  clear hK K
  simp only [andThen]
  refine AWp.ret ?_
  exact ⟨.inr rfl, ⟨[], by simp⟩, by simp⟩
theorem Mul (H : AH) (n : Nat) (hn : n ≤ 12) : ACall Try.prog 121 [.int .u64 1, .int .u64 n] H (.tuple #[.int .u64 0, .int .u64 n]) H := by
  refine ACall.plain (nt := 30) (rs := [.tmp 4, .tmp 5]) (vs := [_, _]) Try.func121 rfl rfl rfl rfl (by simp [PlainL]) fun wf => ?_
  repeat refine AWp.seq ?_
  refine AWp.region' fun K hK => ?_
  simp []
  apply hK
  clear hK K
  simp only [andThen]
  repeat refine AWp.seq ?_
  refine AWp.cf (by rfl) ?_
  refine AWp.skip ?_
  simp only [andThen]
  repeat refine AWp.seq ?_
  refine AWp.region' fun K hK => ?_
  simp []
  refine CallK.det (Mul64 H n hn) ?_
  simp
  apply hK
  clear hK K
  simp only [andThen]
  repeat refine AWp.seq ?_
  refine AWp.region' fun K hK => ?_
  simp []
  apply hK
  clear hK K
  simp only [andThen]
  refine AWp.ret ?_
  exact ⟨.inr rfl, ⟨[], by simp⟩, by simp⟩

theorem repl_fill {n d : Nat} (ys : List Int) (hl : ys.length = n) (hd : d ≤ n) (ht : ys.take d = List.replicate d (-1)) : (ints ys).take d ++ (ints ys).take (Nat.min d (n - d)) ++ (ints ys).drop (d + Nat.min d (n - d)) = ints (ys.take d ++ ys.take (Nat.min d (n - d)) ++ ys.drop (d + Nat.min d (n - d))) ∧
    (ys.take d ++ ys.take (Nat.min d (n - d)) ++ ys.drop (d + Nat.min d (n - d))).take (d + Nat.min d (n - d)) = List.replicate (d + Nat.min d (n - d)) (-1) ∧ (ys.take d ++ ys.take (Nat.min d (n - d)) ++ ys.drop (d + Nat.min d (n - d))).length = n := by
  have m1 : Nat.min d (n - d) ≤ d := Nat.min_le_left _ _
  have m2 : Nat.min d (n - d) ≤ n - d := Nat.min_le_right _ _
  generalize Nat.min d (n - d) = k at *
  have e1 : ys.take k = List.replicate k (-1) := by
    have := congrArg (List.take k) ht
    rwa [List.take_take, Nat.min_eq_left m1, List.take_replicate, Nat.min_eq_left m1] at this
  refine ⟨by simp [ints, List.map_take, List.map_drop], ?_, by simp; omega⟩
  rw [ht, e1, List.take_left' (by simp), List.replicate_append_replicate]

theorem Repeat (H : AH) (v : Value) (n : Nat) (hv : Sl H v (ints [-1])) (hn : n ≤ 12) :
    ACall Try.prog 114 [v, .int .i64 n] H (mkL H.length n) (H ++ [objL 3 (ints (List.replicate n (-1)))]) := by
  have key := ACall.list (P := Try.prog) (f := 114) (args := [v, .int .i64 n]) (H := H) (nt := 48) (rs := [.tmp 4]) (e := 3) (cells := ints (List.replicate n (-1))) (rest := []) Try.func114 rfl rfl rfl rfl ints_plain (by simp [PlainL]) fun wf => ?_
  · simpa [packed] using key
  have l1 := hv.len (P := Try.prog) elem22
  have hnn : v ≠ .slice none 0 0 := by
    rintro rfl
    rcases hv with ⟨_, h⟩ | ⟨i, off, g, c, o, h, _⟩
    · simp [ints] at h
    · cases h
  have c1 : aConvert Try.prog H 3 93 (.int .i64 1) = some (.int .u64 1) := by kernel_rfl
  have c2 : aConvert Try.prog H 3 93 (.int .i64 n) = some (.int .u64 n) := by
    have h1 : aConvert Try.prog H 3 93 (.int .i64 n) = some (.int .u64 (IntKind.u64.wrap n)) := by kernel_rfl
    rw [h1, wrap_small64 ⟨n, by omega⟩]
  have c3 : aConvert Try.prog H 93 3 (.int .u64 n) = some (.int .i64 n) := by
    have h1 : aConvert Try.prog H 93 3 (.int .u64 n) = some (.int .i64 (IntKind.i64.wrap n)) := by kernel_rfl
    rw [h1, wrap_id (by omega) (by omega)]
  have big : ¬ ((n : Int) > 9223372036854775807) := by omega
  have mk : aMake Try.prog H 22 (.int .i64 n) (.int .i64 n) = some (.slice (some ⟨H.length, 0, some 0⟩) n n, H ++ [⟨ints (List.replicate n 0), 3, 1, 0, false⟩]) := by
    simp [aMake, elem22, einfo3, aNew, Value.cells, ← repl_ints]
    omega
  have f0 : Fresh (H ++ [⟨ints (List.replicate n 0), 3, 1, 0, false⟩]) H.length 3 (.slice (some ⟨H.length, 0, some 0⟩) n n) (ints (List.replicate n 0)) := ⟨H.length, 0, 0, n, _, by omega, by simp, by simp; rfl, rfl, rfl, rfl, rfl, by simp, by simp [ints]⟩
  have a0 : Agree H.length H (H ++ [⟨ints (List.replicate n 0), 3, 1, 0, false⟩]) := Agree.app _ _
  repeat refine AWp.seq ?_
  refine AWp.region' fun K hK => ?_
  simp []
  apply hK
  clear hK K
  simp only [andThen]
  repeat refine AWp.seq ?_
  refine AWp.region' fun K hK => ?_
  simp []
  apply hK
  clear hK K
  simp only [andThen]
  repeat refine AWp.seq ?_
  refine AWp.cf (by simp) ?_
  refine AWp.skip ?_
  simp only [andThen]
  repeat refine AWp.seq ?_
  refine AWp.region' fun K hK => ?_
  simp [l1, c1, c2]
  refine CallK.det (Mul H n hn) ?_
  simp
  apply hK
  clear hK K
  simp only [andThen]
  repeat refine AWp.seq ?_
  refine AWp.region' fun K hK => ?_
  simp [big]
  apply hK
  clear hK K
  simp only [andThen]
  repeat refine AWp.seq ?_
  refine AWp.cf (by simp) ?_
  refine AWp.skip ?_
  simp only [andThen]
  repeat refine AWp.seq ?_
  refine AWp.region' fun K hK => ?_
  simp [c3, mk]
  apply hK
  clear hK K
  simp only [andThen]
  obtain ⟨G1, p1, p2, p3, p4⟩ := f0.copyIn (P := Try.prog) (t := 22) (hv.agree a0) elem22 size3 hnn
  have a1 : Agree H.length H G1 := fun i hi => by rw [p4 i (by simp [idOf]; omega), a0 i hi]
  simp only [ints_len, List.length_replicate, List.length_singleton] at p1 p2
  repeat refine AWp.seq ?_
  refine AWp.region' fun K hK => ?_
  simp [p1]
  apply hK
  clear hK K
  simp only [andThen]
  have m0 : Nat.min 1 n ≤ 1 := Nat.min_le_left _ _
  have m1 : Nat.min 1 n ≤ n := Nat.min_le_right _ _
  have m2 : 0 < Nat.min 1 n ∨ n = 0 := by
    by_cases h : n = 0
    · exact .inr h
    · exact .inl (Nat.lt_min.2 ⟨by omega, by omega⟩)
  generalize Nat.min 1 n = k0 at *
  have q0 : Fresh G1 H.length 3 (.slice (some ⟨H.length, 0, some 0⟩) n n) (ints (([-1] : List Int).take k0 ++ (List.replicate n 0).drop k0)) := by
    simpa [ints, List.map_take, List.map_drop] using p2
  have q1 : (([-1] : List Int).take k0 ++ (List.replicate n (0 : Int)).drop k0).length = n := by simp; omega
  have q2 : (([-1] : List Int).take k0 ++ (List.replicate n (0 : Int)).drop k0).take k0 = List.replicate k0 (-1) := by
    rw [List.take_left' (by simp; omega)]
    have : k0 = 0 ∨ k0 = 1 := by omega
    rcases this with rfl | rfl <;> rfl
  repeat refine AWp.seq ?_
  refine AWp.block ?_
  refine AWp.loop (fun j env G => ∃ (d : Nat) (ys : List Int), j = n - d ∧ d ≤ n ∧ (0 < d ∨ n = 0) ∧ ys.length = n ∧ ys.take d = List.replicate d (-1) ∧ Fresh G H.length 3 (.slice (some ⟨H.length, 0, some 0⟩) n n) (ints ys) ∧ Agree H.length H G ∧ env 7 = some (.slice (some ⟨H.length, 0, some 0⟩) n n) ∧ env 8 = some (.int .i64 d)) (n - k0) ⟨k0, _, rfl, m1, m2, q1, q2, q0, a1, by simp, by simp⟩ ?_
  rintro j env G ⟨d, ys, rfl, hd, hpos, hys, htk, hf, ha, e7, e8⟩
  have l7 := hf.sl.len (P := Try.prog) elem22
  rw [ints_len, hys] at l7
  repeat refine AWp.seq ?_
  refine AWp.region' fun K hK => ?_
  simp [e7, e8, l7]
  apply hK
  clear hK K
  simp only [andThen]
  by_cases hlt : d < n
  · repeat refine AWp.seq ?_
    refine AWp.ct (by simp [hlt]) ?_
    refine AWp.skip ?_
    simp only [andThen]
    obtain ⟨a, b, G', s1, s2, s3, s4, s5, s6, s7, s8⟩ := hf.fill (P := Try.prog) (t := 22) (d := d) elem22 size3 (by simp; omega)
    obtain ⟨r1, r2, r3⟩ := repl_fill ys hys hd htk
    rw [ints_len, hys] at s5 s6
    rw [r1] at s6
    have hmp : 0 < Nat.min d (n - d) := Nat.lt_min.2 ⟨by omega, by omega⟩
    have hml : Nat.min d (n - d) ≤ n - d := Nat.min_le_right _ _
    generalize Nat.min d (n - d) = k at *
    have hw : IntKind.i64.wrap ((d : Int) + (k : Nat)) = ((d + k : Nat) : Int) := by rw [wrap_id (by omega) (by omega)]; rfl
    repeat refine AWp.seq ?_
    refine AWp.block ?_
    repeat refine AWp.seq ?_
    refine AWp.drawn' (B := [0, 0, 0, 6, 0, 0, 48, 126, 255, 511]) 7 mixed (by kernel_rfl) (by decide) fun K hK => ?_
    simp [e7, e8, s1, s2, s5, hw]
    apply hK
    clear hK K
    simp only [andThen]
    exact ⟨n - (d + k), by omega, d + k, _, rfl, by omega, .inl (by omega), r3, r2, s6, fun i hi => by rw [s8 i (by simp [idOf]; omega), ha i hi], by simp [e7], by simp⟩
  · repeat refine AWp.seq ?_
    refine AWp.cf (by simp [hlt]) ?_
    refine AWp.exit ?_
    simp only [andThen]
    simp
    repeat refine AWp.seq ?_
    refine AWp.region' fun K hK => ?_
    simp [e7]
    apply hK
    clear hK K
    simp only [andThen]
    refine AWp.ret ?_
    have hdn : d = n := by omega
    subst hdn
    rw [List.take_of_length_le (by omega)] at htk
    subst htk
    exact ⟨.inr rfl, ha.to_pre, _, hf, by simp⟩
end Go.Proofs.Ytdghlhdpcmemjaa.AL

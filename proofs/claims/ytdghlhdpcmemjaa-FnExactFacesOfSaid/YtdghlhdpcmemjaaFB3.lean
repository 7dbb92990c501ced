/- Marks through rows of numbers. No condition. -/
import Derived.Test.YtdghlhdpcmemjaaFB2
namespace Go.Proofs.Ytdghlhdpcmemjaa.AL
open Go
set_option linter.unusedVariables false
set_option linter.unusedSimpArgs false

/-- Where the marks of row k begin. -/
def offs (n : Int) (F : List (List Int)) (k : Nat) : Int := n + (((F.take k).map List.length).sum : Nat)
theorem offs_zero {n : Int} {F : List (List Int)} : offs n F 0 = n := by simp [offs]
theorem offs_succ {n : Int} {F : List (List Int)} {k : Nat} (h : k < F.length) : offs n F (k + 1) = offs n F k + F[k].length := by
  unfold offs
  rw [List.take_succ_eq_append_getElem h, List.map_append, List.sum_append]
  simp only [List.map_cons, List.map_nil, List.sum_cons, List.sum_nil]
  omega
theorem offs_le {n : Int} {F : List (List Int)} {k : Nat} : ∀ d, k + d ≤ F.length → offs n F k ≤ offs n F (k + d) := fun d => by
  induction d with
  | zero => intro _; exact Int.le_refl _
  | succ d ih =>
    intro h
    have := ih (by omega)
    rw [← Nat.add_assoc, offs_succ (by omega)]
    omega
theorem offs_ge {n : Int} {F : List (List Int)} {k : Nat} : n ≤ offs n F k := by unfold offs; omega
def marks (n : Int) (F : List (List Int)) : List (List Int) := (List.range F.length).map fun k => seqI (offs n F k) (F.getD k []).length
@[simp] theorem marks_len {n : Int} {F : List (List Int)} : (marks n F).length = F.length := by simp [marks]
theorem marks_get {n : Int} {F : List (List Int)} {k : Nat} (h : k < F.length) : (marks n F)[k]? = some (seqI (offs n F k) F[k].length) := by
  simp [marks, h]
theorem row_bound {n : Int} {F : List (List Int)} {k : Nat} (hk : k < F.length) (h0 : 0 ≤ n) (hb : offs n F F.length ≤ 4294967296) : 0 ≤ offs n F k ∧ offs n F k ≤ 4294967296 ∧ F[k].length ≤ 4294967296 := by
  have h1 := offs_succ (n := n) hk
  have h2 := offs_le (n := n) (F := F) (k := k + 1) (F.length - (k + 1)) (by omega)
  rw [show k + 1 + (F.length - (k + 1)) = F.length by omega] at h2
  have h3 := offs_ge (n := n) (F := F) (k := k)
  omega

theorem heldIntSS (H : AH) (v : Value) (n : Int) (F : List (List Int)) (hv : SlSl H v ((marks n F).map ints)) (hF : F.length ≤ 4294967296) (h0 : 0 ≤ n) (hb : offs n F F.length ≤ 4294967296) :
    ACall Try.prog 22 [v, .int .i64 n] H (.int .i64 (offs n F F.length)) H := by
  obtain ⟨C, hC, lC, rC⟩ := hv
  simp at lC
  refine ACall.plain (nt := 21) (rs := [.tmp 4]) (vs := [_]) Try.func22 rfl rfl rfl rfl (by simp [PlainL]) fun wf => ?_
  have l1 := hC.len (P := Try.prog) elem23
  rw [lC] at l1
  repeat refine AWp.seq ?_
  refine AWp.region' fun K hK => ?_
  simp []
  apply hK
  clear hK K
  simp only [andThen]
  repeat refine AWp.seq ?_
  refine AWp.region' fun K hK => ?_
  simp []
  apply hK
  clear hK K
  simp only [andThen]
  repeat refine AWp.seq ?_
  refine AWp.block ?_
  refine AWp.loop (fun j env G => G = H ∧ ∃ (k : Nat), j = F.length - k ∧ k ≤ F.length ∧ env 0 = some v ∧ env 1 = some (.int .i64 (offs n F k)) ∧ env 5 = some (.int .i64 k)) (F.length) ⟨rfl, 0, by simp, by omega, rfl, by simp [offs_zero], rfl⟩ ?_
  rintro j env G ⟨rfl, k, rfl, hk, e0, e1, e5⟩
  repeat refine AWp.seq ?_
  refine AWp.region' fun K hK => ?_
  simp [l1, e0, e5]
  apply hK
  clear hK K
  simp only [andThen]
  by_cases hlt : k < F.length
  · repeat refine AWp.seq ?_
    refine AWp.ct (by simp [hlt]) ?_
    refine AWp.skip ?_
    simp only [andThen]
    have c1 : C[k]? = some C[k] := List.getElem?_eq_getElem (by omega)
    have i1 := hC.idx (P := Try.prog) elem23 size22 (kk := .i64) (k := k) (by omega)
    have d1 := hC.load (P := Try.prog) size22 agg22 c1
    have q1 := rC k _ (ints (seqI (offs n F k) F[k].length)) c1 (by simp [marks_get hlt])
    obtain ⟨b0, b1, b2⟩ := row_bound hlt h0 hb
    have hc := heldIntS _ C[k] (offs n F k) F[k].length q1 b2 b0 b1
    repeat refine AWp.seq ?_
    refine AWp.block ?_
    repeat refine AWp.seq ?_
    refine AWp.region' fun K hK => ?_
    simp [e0, e1, e5, i1, d1, q1.tup]
    refine CallK.det hc ?_
    try simp
    apply hK
    clear hK K
    simp only [andThen]
    rw [← offs_succ hlt]
    have hng : ¬ offs n F (k + 1) < 0 := by have := offs_ge (n := n) (F := F) (k := k + 1); omega
    repeat refine AWp.seq ?_
    refine AWp.region' fun K hK => ?_
    simp []
    apply hK
    clear hK K
    simp only [andThen]
    repeat refine AWp.seq ?_
    refine AWp.cf (by simp [hng]) ?_
    refine AWp.skip ?_
    simp only [andThen]
    repeat refine AWp.seq ?_
    refine AWp.region' fun K hK => ?_
    simp [e5, wrap_succ (show k ≤ 4294967296 by omega)]
    apply hK
    clear hK K
    simp only [andThen]
    exact ⟨F.length - (k + 1), by omega, trivial, k + 1, rfl, by omega, by simp [e0], by simp, by simp⟩
  · repeat refine AWp.seq ?_
    refine AWp.cf (by simp [hlt]) ?_
    refine AWp.exit ?_
    simp only [andThen]
    simp
    repeat refine AWp.seq ?_
    refine AWp.region' fun K hK => ?_
    simp [e1]
    apply hK
    clear hK K
    simp only [andThen]
    refine AWp.ret ?_
    have hkk : k = F.length := by omega
    subst hkk
    exact ⟨.inr rfl, ⟨[], by simp⟩, by simp⟩

theorem markIntSS (H : AH) (N : Nat) (v : Value) (n : Int) (F : List (List Int)) (hv : RowsO H N 22 3 v (F.map ints)) (hF : F.length ≤ 4294967296) (h0 : 0 ≤ n) (hb : offs n F F.length ≤ 4294967296) :
    ACallP Try.prog 21 [v, .int .i64 n] H (fun u G => u = .int .i64 (offs n F F.length) ∧ RowsO G N 22 3 v ((marks n F).map ints) ∧ G.length = H.length ∧ Agree N H G) := by
  obtain ⟨C, hC, lC, rC, dC⟩ := hv
  simp at lC
  refine ACallP.of_body (nt := 19) (rs := [.tmp 4]) Try.func21 rfl rfl rfl rfl fun wf _ => ?_
  repeat refine AWp.seq ?_
  refine AWp.region' fun K hK => ?_
  simp []
  apply hK
  clear hK K
  simp only [andThen]
  repeat refine AWp.seq ?_
  refine AWp.region' fun K hK => ?_
  simp []
  apply hK
  clear hK K
  simp only [andThen]
  repeat refine AWp.seq ?_
  refine AWp.block ?_
  refine AWp.loop (fun j env G => ∃ (k : Nat), j = F.length - k ∧ k ≤ F.length ∧ Own G N 22 v C ∧ (∀ (k' : Nat) (c : Value) (xs : List Value), C[k']? = some c → (((marks n F).take k ++ F.drop k).map ints)[k']? = some xs → Own G N 3 c xs) ∧ G.length = H.length ∧ Agree N H G ∧ env 0 = some v ∧ env 1 = some (.int .i64 (offs n F k)) ∧ env 5 = some (.int .i64 k)) (F.length) ⟨0, by simp, by omega, hC, by simpa using rC, rfl, .refl _ _, rfl, by simp [offs_zero], rfl⟩ ?_
  rintro j env G ⟨k, rfl, hk, hC, rC, hgl, ha, e0, e1, e5⟩
  have l1 := hC.sl.len (P := Try.prog) elem23
  rw [lC] at l1
  repeat refine AWp.seq ?_
  refine AWp.region' fun K hK => ?_
  simp [l1, e0, e5]
  apply hK
  clear hK K
  simp only [andThen]
  by_cases hlt : k < F.length
  · repeat refine AWp.seq ?_
    refine AWp.ct (by simp [hlt]) ?_
    refine AWp.skip ?_
    simp only [andThen]
    have c1 : C[k]? = some C[k] := List.getElem?_eq_getElem (by omega)
    have i1 := hC.sl.idx (P := Try.prog) elem23 size22 (kk := .i64) (k := k) (by omega)
    have d1 := hC.sl.load (P := Try.prog) size22 agg22 c1
    have q1 := rC k _ (ints F[k]) c1 (by rw [List.getElem?_map, take_drop_get (by simp) hlt]; simp [hlt])
    obtain ⟨b0, b1, b2⟩ := row_bound hlt h0 hb
    have hc := markIntS G N C[k] F[k] (offs n F k) q1 b2 b0 b1
    repeat refine AWp.seq ?_
    refine AWp.block ?_
    repeat refine AWp.seq ?_
    refine AWp.region' fun K hK => ?_
    simp [e0, e1, e5, i1, d1, q1.sl.tup]
    refine CallK.of hc ?_
    rintro u G' ⟨rfl, ho, hl', ha'⟩
    try simp
    apply hK
    clear hK K
    simp only [andThen]
    rw [← offs_succ hlt]
    obtain ⟨r1, r2, r3⟩ := row_set hC (by simp [lC]; omega) rC dC (by decide) c1 ha' ho
    repeat refine AWp.seq ?_
    refine AWp.region' fun K hK => ?_
    simp [e5, wrap_succ (show k ≤ 4294967296 by omega)]
    apply hK
    clear hK K
    simp only [andThen]
    refine ⟨F.length - (k + 1), by omega, k + 1, rfl, by omega, r1, ?_, by omega, fun i hi => ?_, by simp [e0], by simp, by simp⟩
    · rw [← take_drop_set (by simp) (marks_get hlt), List.map_set]
      exact r3
    · rw [ha' i (fun h => by have := (q1.id_lt h).2.1; omega), ha i hi]
  · repeat refine AWp.seq ?_
    refine AWp.cf (by simp [hlt]) ?_
    refine AWp.exit ?_
    simp only [andThen]
    simp
    repeat refine AWp.seq ?_
    refine AWp.region' fun K hK => ?_
    simp [e1]
    apply hK
    clear hK K
    simp only [andThen]
    refine AWp.ret ?_
    have hkk : k = F.length := by omega
    subst hkk
    refine ⟨.inr rfl, _, by simp; rfl, rfl, ⟨C, hC, by simp [lC], ?_, dC⟩, hgl, ha⟩
    have h9 : (marks n F).take F.length ++ F.drop F.length = marks n F := by
      rw [List.take_of_length_le (by simp), List.drop_length, List.append_nil]
    rw [h9] at rC
    exact rC
end Go.Proofs.Ytdghlhdpcmemjaa.AL

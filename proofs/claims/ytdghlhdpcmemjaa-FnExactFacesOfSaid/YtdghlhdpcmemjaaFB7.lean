/- The faces of a system: what they are, and the program's. No condition. -/
import Derived.Test.YtdghlhdpcmemjaaFB5
namespace Go.Proofs.Ytdghlhdpcmemjaa.AL
open Go Go.Proofs.Ytdghlhdpcmemjaa.Arch
set_option linter.unusedVariables false
set_option linter.unusedSimpArgs false

/-- From arch to arch, side by side. -/
def hops (p : List Int) : Nat → Int → Int → List Int
  | 0, _, _ => []
  | d + 1, i, to => if i < to then i :: hops p d (gt p i + 1) to else []
theorem hops_end {p : List Int} {d : Nat} {i to : Int} (h : ¬ i < to) : hops p d i to = [] := by
  cases d with
  | zero => rfl
  | succ d => simp [hops, h]
theorem hops_len {p : List Int} : ∀ (d : Nat) (i to : Int), (hops p d i to).length ≤ d := fun d => by
  induction d with
  | zero => intro i to; simp [hops]
  | succ d ih =>
    intro i to
    unfold hops
    split
    · have := ih (gt p i + 1) to
      simp; omega
    · simp
/-- Between two points all arches stay. -/
structure Shut (p : List Int) (i to : Int) : Prop where
  lo : 0 ≤ i
  hi : to ≤ p.length
  stay : ∀ x : Int, i ≤ x → x < to → i ≤ gt p x ∧ gt p x < to
theorem Shut.step {p : List Int} (s : ArcS p) {i to : Int} (h : Shut p i to) (hi : i < to) : i < gt p i ∧ Shut p (gt p i + 1) to := by
  have hl := h.lo
  have hh := h.hi
  have h1 := h.stay i (Int.le_refl _) hi
  have h2 := s.ne i hl (by omega)
  refine ⟨by omega, by omega, hh, fun x hx hxt => ⟨?_, (h.stay x (by omega) hxt).2⟩⟩
  have h3 := h.stay x (by omega) hxt
  have h4 := s.inv x (by omega) (by omega)
  have h5 := s.inv i hl (by omega)
  by_cases hle : gt p x ≤ gt p i
  · exfalso
    by_cases e1 : gt p x = i
    · rw [e1] at h4; omega
    · by_cases e2 : gt p x = gt p i
      · rw [e2] at h4; omega
      · have := s.cr i (gt p x) hl (by omega) (by omega) (by omega)
        rw [h4] at this
        omega
  · omega
theorem Shut.all {p : List Int} (s : ArcS p) : Shut p 0 p.length := ⟨by omega, by omega, fun x h0 h1 => ⟨s.lo x h0 h1, s.hi x h0 h1⟩⟩
theorem Shut.under {p : List Int} (s : ArcS p) {i : Int} (h0 : 0 ≤ i) (h1 : i < p.length) : Shut p (i + 1) (gt p i) := by
  have hb := s.hi i h0 h1
  refine ⟨by omega, by omega, fun x hx hxt => ?_⟩
  have h2 := s.cr i x h0 h1 (by omega) hxt
  have h3 := s.inv x (by omega) (by omega)
  have h4 := s.inv i h0 h1
  constructor
  · have : gt p x ≠ i := fun e => by rw [e] at h3; omega
    omega
  · have : gt p x ≠ gt p i := fun e => by rw [e] at h3; omega
    omega
def faceAt (p : List Int) (i : Nat) : List Int := (i : Int) :: hops p (gt p i - ((i + 1 : Nat) : Int)).toNat ((i + 1 : Nat) : Int) (gt p i)
def facesTo (p : List Int) (k : Nat) : List (List Int) := hops p p.length 0 p.length :: ((List.range k).filter fun i : Nat => decide ((i : Int) < gt p i)).map (faceAt p)
theorem facesTo_zero {p : List Int} : facesTo p 0 = [hops p p.length 0 p.length] := rfl
theorem facesTo_yes {p : List Int} {k : Nat} (h : (k : Int) < gt p k) : facesTo p (k + 1) = facesTo p k ++ [faceAt p k] := by
  unfold facesTo
  rw [List.range_succ, List.filter_append, List.map_append]
  simp [h]
theorem facesTo_no {p : List Int} {k : Nat} (h : ¬ (k : Int) < gt p k) : facesTo p (k + 1) = facesTo p k := by
  unfold facesTo
  rw [List.range_succ, List.filter_append, List.map_append]
  simp [h]
theorem facesTo_len {p : List Int} {k : Nat} : (facesTo p k).length ≤ k + 1 := by
  unfold facesTo
  simp
  exact Nat.le_trans (List.length_filter_le _ _) (by simp)

set_option maxRecDepth 4096
theorem under (H : AH) (v : Value) (p : List Int) (a b : Int) (hv : Sl H v (ints p)) (s : ArcS p) (hs : Shut p a b) (hx : p.length ≤ 4294967295) :
    ACall Try.prog 88 [v, .int .i64 a, .int .i64 b] H (mkL H.length (hops p (b - a).toNat a b).length) (H ++ [objL 3 (ints (hops p (b - a).toNat a b))]) := by
  have hlo := hs.lo
  have hhi := hs.hi
  have key := ACall.list (P := Try.prog) (f := 88) (args := [v, .int .i64 a, .int .i64 b]) (H := H) (nt := 24) (rs := [.tmp 6]) (e := 3) (cells := ints (hops p (b - a).toNat a b)) (rest := []) Try.func88 rfl rfl rfl rfl ints_plain (by simp [PlainL]) fun wf => ?_
  · simpa [packed] using key
  have hb0 := aBuild_none (P := Try.prog) (H := H) (t := 22) elem22 einfo3 rfl
  repeat refine AWp.seq ?_
  refine AWp.region' fun K hK => ?_
  simp []
  apply hK
  clear hK K
  simp only [andThen]
  repeat refine AWp.seq ?_
  refine AWp.region' fun K hK => ?_
  simp [hb0]
  apply hK
  clear hK K
  simp only [andThen]
  repeat refine AWp.seq ?_
  refine AWp.region' fun K hK => ?_
  simp []
  apply hK
  clear hK K
  simp only [andThen]
  repeat refine AWp.seq ?_
  refine AWp.block ?_
  refine AWp.loop (fun j env G => ∃ (i : Int) (L : List Int) (u : Value), L ++ hops p j i b = hops p (b - a).toNat a b ∧ L.length + j ≤ (b - a).toNat ∧ (b - i).toNat ≤ j ∧ Shut p i b ∧ Fresh G H.length 3 u (ints L) ∧ Agree H.length H G ∧ env 0 = some v ∧ env 2 = some (.int .i64 b) ∧ env 7 = some u ∧ env 8 = some (.int .i64 i)) ((b - a).toNat) ⟨a, [], _, by simp, by simp, by omega, hs, lit0_fresh, Agree.app _ _, by simp, by simp, by simp, by simp⟩ ?_
  rintro j env G ⟨i, L, u, hL, hLj, hj, hsh, hf, ha, e0, e2, e7, e8⟩
  repeat refine AWp.seq ?_
  refine AWp.region' fun K hK => ?_
  simp [e2, e8]
  apply hK
  clear hK K
  simp only [andThen]
  by_cases hlt : i < b
  · repeat refine AWp.seq ?_
    refine AWp.ct (by simp [hlt]) ?_
    refine AWp.skip ?_
    simp only [andThen]
    obtain ⟨t1, t2⟩ := hsh.step s hlt
    have tlo := hsh.lo
    have thi := t2.hi
    have tst := hsh.stay i (Int.le_refl _) hlt
    have hlen := ha.to_pre.length_le
    obtain ⟨v', G', h1, h2, h3, h4, h5⟩ := (Own.of hf).push1 (P := Try.prog) (t := 22) (t2 := 22) (x := .int .i64 i) hlen elem22 elem22 einfo3 rfl (by simp; omega)
    have hb := aBuild_one (P := Try.prog) (H := G) (t := 22) (x := .int .i64 i) elem22 einfo3 rfl rfl rfl
    have ha' : Agree H.length H G' := fun q hq => by
      rw [h4 q (by omega) (fun e => by have := ((Own.of hf).id_lt e).2.1; omega), ha q hq]
    have hv' := hv.agree ha'
    have hwi : IntKind.i64.wrap (gt p i + 1) = gt p i + 1 := wrap_id (by omega) (by omega)
    repeat refine AWp.seq ?_
    refine AWp.block ?_
    repeat refine AWp.seq ?_
    refine AWp.region' fun K hK => ?_
    simp [e7, e8, hb, h1]
    apply hK
    clear hK K
    simp only [andThen]
    repeat refine AWp.seq ?_
    refine AWp.region' fun K hK => ?_
    simp [e0, e8, idxI hv' (show 0 ≤ i by omega) (by omega), loadI hv' (show 0 ≤ i by omega) (by omega), hwi]
    apply hK
    clear hK K
    simp only [andThen]
    obtain ⟨j', rfl⟩ : ∃ j', j = j' + 1 := ⟨j - 1, by omega⟩
    refine ⟨j', by omega, gt p i + 1, L ++ [i], v', ?_, by simp; omega, by omega, t2, by simpa [ints] using h2, ha', by simp [e0], by simp [e2], by simp, by simp⟩
    rw [← hL]
    simp [hops, hlt]
  · repeat refine AWp.seq ?_
    refine AWp.cf (by simp [hlt]) ?_
    refine AWp.exit ?_
    simp only [andThen]
    simp
    repeat refine AWp.seq ?_
    refine AWp.region' fun K hK => ?_
    simp [e7]
    apply hK
    clear hK K
    simp only [andThen]
    refine AWp.ret ?_
    rw [hops_end hlt, List.append_nil] at hL
    subst hL
    exact ⟨.inr rfl, ha.to_pre, u, hf, by simp [hf.sl.tup]⟩

theorem faces (H : AH) (v : Value) (p : List Int) (hv : Sl H v (ints p)) (s : ArcS p) (hx : p.length ≤ 12) :
    ACallP Try.prog 56 [v] H (fun u G => RowsO G H.length 22 3 u ((facesTo p p.length).map ints) ∧ Agree H.length H G) := by
  have l1 := hv.len (P := Try.prog) elem22
  rw [ints_len] at l1
  refine ACallP.of_body (nt := 34) (rs := [.tmp 2]) Try.func56 rfl rfl rfl rfl fun wf _ => ?_
  repeat refine AWp.seq ?_
  refine AWp.region' fun K hK => ?_
  simp []
  apply hK
  clear hK K
  simp only [andThen]
  repeat refine AWp.seq ?_
  refine AWp.region' fun K hK => ?_
  simp [l1, hv.tup]
  refine CallK.det (under H v p _ _ hv s (Shut.all s) (by omega)) ?_
  simp only [Int.sub_zero, Int.toNat_natCast]
  have hf0 : Fresh (H ++ [objL 3 (ints (hops p p.length 0 p.length))]) H.length 3 (mkL H.length (hops p p.length 0 p.length).length) (ints (hops p p.length 0 p.length)) := ⟨H.length, 0, 0, (hops p p.length 0 p.length).length + 1, _, by omega, by simp [mkL], by simp; rfl, rfl, rfl, rfl, rfl, by simp [objL], by simp only [objL, List.drop_zero]; exact List.take_of_length_le (Nat.le_refl _)⟩
  have hb0 := aBuild_one (P := Try.prog) (H := H ++ [objL 3 (ints (hops p p.length 0 p.length))]) (t := 23) (x := mkL H.length (hops p p.length 0 p.length).length) elem23 einfo22 rfl rfl rfl
  have hr0 := RowsO.lit (eo := 22) (ei := 3) (by decide) (by simp) (Own.of hf0)
  have ha0 : Agree H.length H ((H ++ [objL 3 (ints (hops p p.length 0 p.length))]) ++ [⟨[mkL H.length (hops p p.length 0 p.length).length], 22, 1, 0, false⟩]) := (Agree.app H _).trans (Agree.app _ _) (by simp)
  generalize hG0 : (H ++ [objL 3 (ints (hops p p.length 0 p.length))]) ++ [⟨[mkL H.length (hops p p.length 0 p.length).length], 22, 1, 0, false⟩] = G0 at *
  generalize hn0 : (H ++ [objL 3 (ints (hops p p.length 0 p.length))]).length = n0 at *
  simp [hb0]
  apply hK
  clear hK K
  simp only [andThen]
  repeat refine AWp.seq ?_
  refine AWp.region' fun K hK => ?_
  simp [(hv.agree ha0).len (P := Try.prog) elem22]
  apply hK
  clear hK K
  simp only [andThen]
  repeat refine AWp.seq ?_
  refine AWp.block ?_
  refine AWp.loop (fun j env G => ∃ (k : Nat) (u : Value), j = p.length - k ∧ k ≤ p.length ∧ RowsO G H.length 22 3 u ((facesTo p k).map ints) ∧ Agree H.length H G ∧ env 0 = some v ∧ env 3 = some u ∧ env 11 = some v ∧ env 12 = some (.int .i64 p.length) ∧ env 13 = some (.int .i64 k)) (p.length) ⟨0, _, by simp, by omega, by rw [facesTo_zero]; exact hr0, ha0, by simp, by simp, by simp, by simp, by simp⟩ ?_
  rintro j env G ⟨k, u, rfl, hk, hr, ha, e0, e3, e11, e12, e13⟩
  have hv' := hv.agree ha
  have hlen := ha.to_pre.length_le
  repeat refine AWp.seq ?_
  refine AWp.region' fun K hK => ?_
  simp [e12, e13]
  apply hK
  clear hK K
  simp only [andThen]
  by_cases hlt : k < p.length
  · repeat refine AWp.seq ?_
    refine AWp.ct (by simp [hlt]) ?_
    refine AWp.skip ?_
    simp only [andThen]
    have hh := s.hi k (by omega) (by omega)
    repeat refine AWp.seq ?_
    refine AWp.block ?_
    repeat refine AWp.seq ?_
    refine AWp.region' fun K hK => ?_
    simp [e11, e13, idxN hv' hlt, loadN hv' hlt]
    apply hK
    clear hK K
    simp only [andThen]
    repeat refine AWp.seq ?_
    refine AWp.region' fun K hK => ?_
    simp []
    apply hK
    clear hK K
    simp only [andThen]
    by_cases c : (k : Int) < gt p k
    · repeat refine AWp.seq ?_
      refine AWp.ct (by simp [c]) ?_
      have hb1 := aBuild_one (P := Try.prog) (H := G) (t := 22) (x := .int .i64 (k : Int)) elem22 einfo3 rfl rfl rfl
      have hv1 := hv'.agree (Agree.app G [⟨[.int .i64 (k : Int)], 3, 1, 0, false⟩])
      have hsh := Shut.under s (i := (k : Int)) (by omega) (by omega)
      repeat refine AWp.seq ?_
      refine AWp.region' fun K hK => ?_
      simp [e3, e0, hb1, wrap_succ (show k ≤ 4294967296 by omega), hv'.tup]
      refine CallK.det (under (G ++ [⟨[.int .i64 (k : Int)], 3, 1, 0, false⟩]) v p _ _ hv1 s hsh (by omega)) ?_
      obtain ⟨v2, G2, h1, h2, h3, h4⟩ := ((lit_fresh (G := G) (e := 3) (x := .int .i64 (k : Int))).at (H' := (G ++ [⟨[.int .i64 (k : Int)], 3, 1, 0, false⟩]) ++ [objL 3 (ints (hops p (gt p k - ((k : Int) + 1)).toNat ((k : Int) + 1) (gt p k)))]) fun i hi => List.getElem?_append_left (by simp [idOf] at hi; simp; omega)).append (P := Try.prog) (t := 22) (t2 := 22) (by simp <;> omega) elem22 elem22 einfo3 rfl (Sl.mkL (L := []) (n := (hops p (gt p k - ((k : Int) + 1)).toNat ((k : Int) + 1) (gt p k)).length) (by simp)) (by have := hops_len (p := p) (gt p k - ((k : Int) + 1)).toNat ((k : Int) + 1) (gt p k); simp; omega)
      have ha2 : Agree G.length G G2 := fun i hi => by
        rw [h4 i (by simp; omega) (by simp [idOf]; omega), List.getElem?_append_left (by simp; omega), List.getElem?_append_left hi]
      have hb2 := aBuild_one (P := Try.prog) (H := G2) (t := 23) (x := v2) elem23 einfo22 rfl h2.sl.tup h2.sl.one
      obtain ⟨v3, G3, q1, q2, q3, q4⟩ := hr.push (P := Try.prog) (t := 23) (t2 := 23) (by decide) hlen ha2 ha2.to_pre.length_le (Own.of h2) elem23 elem23 einfo22 rfl (by have := facesTo_len (p := p) (k := k); simp; omega)
      simp at h1
      simp [h1, hb2, q1]
      apply hK
      clear hK K
      simp only [andThen]
      repeat refine AWp.seq ?_
      refine AWp.region' fun K hK => ?_
      simp [e13, wrap_succ (show k ≤ 4294967296 by omega)]
      apply hK
      clear hK K
      simp only [andThen]
      refine ⟨p.length - (k + 1), by omega, k + 1, v3, rfl, by omega, ?_, fun i hi => ?_, by simp [e0], by simp, by simp [e11], by simp [e12], by simp⟩
      · rw [facesTo_yes c, List.map_append]
        simpa [faceAt, ints] using q2
      · rw [q4 i hi, ha2 i (by omega), ha i hi]
    · repeat refine AWp.seq ?_
      refine AWp.cf (by simp [c]) ?_
      refine AWp.skip ?_
      simp only [andThen]
      repeat refine AWp.seq ?_
      refine AWp.region' fun K hK => ?_
      simp [e13, wrap_succ (show k ≤ 4294967296 by omega)]
      apply hK
      clear hK K
      simp only [andThen]
      exact ⟨p.length - (k + 1), by omega, k + 1, u, rfl, by omega, by rw [facesTo_no c]; exact hr, ha, by simp [e0], by simp [e3], by simp [e11], by simp [e12], by simp⟩
  · repeat refine AWp.seq ?_
    refine AWp.cf (by simp [hlt]) ?_
    refine AWp.exit ?_
    simp only [andThen]
    simp
    repeat refine AWp.seq ?_
    refine AWp.region' fun K hK => ?_
    simp [e3]
    apply hK
    clear hK K
    simp only [andThen]
    refine AWp.ret ?_
    have hkk : k = p.length := by omega
    subst hkk
    exact ⟨.inr rfl, [u], by simp [hr.sl.tup], hr, ha⟩
end Go.Proofs.Ytdghlhdpcmemjaa.AL

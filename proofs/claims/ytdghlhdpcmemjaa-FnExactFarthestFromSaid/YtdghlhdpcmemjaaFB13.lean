/- The way of a pair from a point on: the program's and the reference's. No condition. -/
import Derived.Test.YtdghlhdpcmemjaaFB11
import Derived.Test.YtdghlhdpcmemjaaFB12
namespace Go.Proofs.Ytdghlhdpcmemjaa.AL
open Go Go.Proofs.Ytdghlhdpcmemjaa.Arch
set_option linter.unusedVariables false
set_option linter.unusedSimpArgs false
set_option maxRecDepth 4096

theorem aBuild_twoF {P : Program} {H : AH} {t e : TypeId} {q : EInfo} {x y : Value} (he : elemT P t = some e) (hq : einfo P e = some q) (hq1 : q.size = 1) (hx : isTup x = false) (hy : isTup y = false) (hc : x.cells = #[x]) (hd : y.cells = #[y]) :
    aBuildSlice P H t 2 [(0, x), (1, y)] = some (.slice (some ⟨H.length, 0, some 0⟩) 2 2, H ++ [⟨[x, y], e, 1, 0, false⟩]) := by
  obtain ⟨qs, qb, qz⟩ := q
  simp only at hq1
  subst hq1
  have hn : noTup [(0, x), (1, y)] = true := by
    unfold noTup
    simpa using ⟨hx, hy⟩
  simp [aBuildSlice, he, hq, hn, fillL, zeros, hc, hd, aNew, List.range_succ]
theorem lit2_fresh {G : AH} {e : TypeId} {x y : Value} : Fresh (G ++ [⟨[x, y], e, 1, 0, false⟩]) G.length e (.slice (some ⟨G.length, 0, some 0⟩) 2 2) [x, y] :=
  ⟨G.length, 0, 0, 2, _, Nat.le_refl _, by simp, by simp; rfl, rfl, rfl, rfl, rfl, by simp, by simp⟩
theorem Fresh.push2 {G : AH} {N : Nat} {u : Value} {xs : List Int} {x y : Int} (h : Fresh G N 3 u (ints xs)) (hN : N ≤ G.length) (hb : xs.length < 4294967295) :
    ∃ v' G', aAppend Try.prog (G ++ [⟨[.int .i64 x, .int .i64 y], 3, 1, 0, false⟩]) 22 22 u (.slice (some ⟨G.length, 0, some 0⟩) 2 2) = some (v', G') ∧ Fresh G' N 3 v' (ints (xs ++ [x, y])) ∧ G.length ≤ G'.length ∧ Agree N G G' := by
  have h1 := h.at (H' := G ++ [⟨[.int .i64 x, .int .i64 y], 3, 1, 0, false⟩]) fun i hi => List.getElem?_append_left ((Own.of h).id_lt hi).1
  obtain ⟨v', G', k1, k2, k3, k4⟩ := h1.append (P := Try.prog) (t := 22) (t2 := 22) (by simp; omega) elem22 elem22 einfo3 rfl lit2_fresh.sl (by simp; omega)
  refine ⟨v', G', k1, by simpa [ints] using k2, by simp at k3; omega, fun i hi => ?_⟩
  rw [k4 i (by simp; omega) (fun e => by have := ((Own.of h).id_lt e).2.1; omega), List.getElem?_append_left (by omega)]

theorem meWay (H : AH) (a b : Value) (p q : List Int) (ha : Sl H a (ints p)) (hb : Sl H b (ints q)) (h : Two p q) (hx : p.length ≤ 12) (i : Int) (h0 : 0 ≤ i) (h1 : i < p.length) :
    ACall Try.prog 113 [.agg #[a, b], .int .i64 i] H (mkL H.length (wayL p q i).length) (H ++ [objL 3 (ints (wayL p q i))]) := by
  have key := ACall.list (P := Try.prog) (f := 113) (args := [.agg #[a, b], .int .i64 i]) (H := H) (nt := 45) (rs := [.tmp 4]) (e := 3) (cells := ints (wayL p q i)) (rest := []) Try.func113 rfl rfl rfl rfl ints_plain (by simp [PlainL]) fun wf => ?_
  · simpa [packed] using key
  obtain ⟨p0, p1, p2, p3⟩ := h.per_spec h0 h1
  have hl := h.len
  repeat refine AWp.seq ?_
  refine AWp.region' fun K hK => ?_
  simp [Value.cells, aNew]
  apply hK
  clear hK K
  simp only [andThen]
  have mb := Mbox.new (H := H) (a := a) (b := b) (e := 38)
  have ag : Agree H.length H (H ++ [⟨[a, b], 38, 1, 0, false⟩]) := Agree.app _ _
  have hlb : H.length < (H ++ [⟨[a, b], 38, 1, 0, false⟩] : AH).length := by simp
  generalize H ++ [⟨[a, b], 38, 1, 0, false⟩] = G at *
  have ha' := ha.agree ag
  have hb' := hb.agree ag
  have in0 := h.in1 h0 h1
  have b2 := aBuild_twoF (P := Try.prog) (H := G) (t := 22) (x := .int .i64 i) (y := .int .i64 (gt p i)) elem22 einfo3 rfl rfl rfl rfl rfl
  repeat refine AWp.seq ?_
  refine AWp.region' fun K hK => ?_
  simp [mb.f0, mb.l0, idxI ha' h0 h1, loadI ha' h0 h1, b2]
  apply hK
  clear hK K
  simp only [andThen]
  have f2 := (lit2_fresh (G := G) (e := 3) (x := .int .i64 i) (y := .int .i64 (gt p i)))
  have a2 : Agree G.length G (G ++ [⟨[.int .i64 i, .int .i64 (gt p i)], 3, 1, 0, false⟩]) := Agree.app _ _
  have hl2 : G.length ≤ (G ++ [⟨[.int .i64 i, .int .i64 (gt p i)], 3, 1, 0, false⟩] : AH).length := by simp
  generalize G ++ [⟨[.int .i64 i, .int .i64 (gt p i)], 3, 1, 0, false⟩] = G2 at *
  have mb2 := mb.agree a2 hlb
  have ha2 := ha'.agree a2
  have hb2 := hb'.agree a2
  have jb : 0 ≤ gt p i ∧ gt p i < q.length := ⟨in0.1, by omega⟩
  repeat refine AWp.seq ?_
  refine AWp.drawn' (B := [0, 1, 0, 4, 0, 28, 60, 127, 255, 511]) 10 mixed (by kernel_rfl) (by decide) fun K hK => ?_
  simp [mb2.f0, mb2.l0, mb2.f1, mb2.l1, idxI ha2 h0 h1, loadI ha2 h0 h1, idxI hb2 jb.1 jb.2, loadI hb2 jb.1 jb.2]
  apply hK
  clear hK K
  simp only [andThen]
  repeat refine AWp.seq ?_
  refine AWp.block ?_
  refine AWp.loop (fun j env G3 => ∃ (k : Nat) (u : Value), j = per p q i - k ∧ 0 < k ∧ k ≤ per p q i ∧ Fresh G3 G.length 3 u (ints (wayTo p q i k)) ∧ Agree G.length G G3 ∧ env 1 = some (.int .i64 i) ∧ env 2 = some (ptrAt H.length 0 0) ∧ env 5 = some u ∧ env 6 = some (.int .i64 (iter p q k i))) (per p q i - 1) ⟨1, _, rfl, by omega, by omega, by simpa [wayTo, iter, ints] using f2, a2, by simp, by simp, by simp, by simp [iter, step]⟩ ?_
  rintro j env G3 ⟨k, u, rfl, k0, k1, hf, ha3, e1, e2, e5, e6⟩
  repeat refine AWp.seq ?_
  refine AWp.region' fun K hK => ?_
  simp [e1, e6]
  apply hK
  clear hK K
  simp only [andThen]
  by_cases hk : k < per p q i
  · have hne := p3 k k0 hk
    repeat refine AWp.seq ?_
    refine AWp.ct (by simp [hne]) ?_
    refine AWp.skip ?_
    simp only [andThen]
    obtain ⟨i0, i1⟩ := h.iter_in h0 h1 k
    have in1 := h.in1 i0 i1
    have jb : 0 ≤ gt p (iter p q k i) ∧ gt p (iter p q k i) < q.length := ⟨in1.1, by omega⟩
    have mb3 := mb.agree ha3 hlb
    have ha4 := ha'.agree ha3
    have b3 := aBuild_twoF (P := Try.prog) (H := G3) (t := 22) (x := .int .i64 (iter p q k i)) (y := .int .i64 (gt p (iter p q k i))) elem22 einfo3 rfl rfl rfl rfl rfl
    obtain ⟨v', G', q1, q2, q3, q4⟩ := hf.push2 (x := iter p q k i) (y := gt p (iter p q k i)) ha3.to_pre.length_le (by rw [wayTo_len]; omega)
    have ha5 : Agree G.length G G' := ha3.trans q4 (Nat.le_refl _)
    have mb5 := mb.agree ha5 hlb
    have ha6 := ha'.agree ha5
    have hb6 := hb'.agree ha5
    repeat refine AWp.seq ?_
    refine AWp.block ?_
    repeat refine AWp.seq ?_
    refine AWp.region' fun K hK => ?_
    simp [e2, e5, e6, mb3.f0, mb3.l0, idxI ha4 i0 i1, loadI ha4 i0 i1, b3, q1]
    apply hK
    clear hK K
    simp only [andThen]
    repeat refine AWp.seq ?_
    refine AWp.drawn' (B := [0, 1, 0, 4, 0, 28, 60, 127, 255, 511]) 10 mixed (by kernel_rfl) (by decide) fun K hK => ?_
    simp [e2, e6, mb5.f0, mb5.l0, mb5.f1, mb5.l1, idxI ha6 i0 i1, loadI ha6 i0 i1, idxI hb6 jb.1 jb.2, loadI hb6 jb.1 jb.2]
    apply hK
    clear hK K
    simp only [andThen]
    exact ⟨per p q i - (k + 1), by omega, k + 1, v', rfl, by omega, by omega, by rw [wayTo_succ]; exact q2, ha5, by simp [e1], by simp [e2], by simp, by simp [iter, step]⟩
  · have hkk : k = per p q i := by omega
    subst hkk
    repeat refine AWp.seq ?_
    refine AWp.cf (by simp [p2]) ?_
    refine AWp.exit ?_
    simp only [andThen]
    simp
    repeat refine AWp.seq ?_
    refine AWp.region' fun K hK => ?_
    simp [e5]
    apply hK
    clear hK K
    simp only [andThen]
    refine AWp.ret ?_
    exact ⟨.inr rfl, (ag.trans ha3 (by omega)).to_pre, u, by obtain ⟨z, y⟩ := (Own.of hf).less (N := H.length) (by omega) |>.resolve_left (fun h => by have := congrArg List.length h.2; simp [wayTo_len] at this; omega); exact ⟨z, y⟩, by simp [hf.sl.tup]⟩

theorem way (H : AH) (a b : Value) (p q : List Int) (ha : Sl H a (ints p)) (hb : Sl H b (ints q)) (h : Two p q) (hx : p.length ≤ 12) (i : Int) (h0 : 0 ≤ i) (h1 : i < p.length) :
    ACall Try.prog 115 [.agg #[a, b], .int .i64 i] H (mkL H.length (wayL p q i).length) (H ++ [objL 3 (ints (wayL p q i))]) := by
  have key := ACall.list (P := Try.prog) (f := 115) (args := [.agg #[a, b], .int .i64 i]) (H := H) (nt := 29) (rs := [.tmp 4]) (e := 3) (cells := ints (wayL p q i)) (rest := []) Try.func115 rfl rfl rfl rfl ints_plain (by simp [PlainL]) fun wf => ?_
  · simpa [packed] using key
  obtain ⟨p0, p1, p2, p3⟩ := h.per_spec h0 h1
  have hl := h.len
  repeat refine AWp.seq ?_
  refine AWp.region' fun K hK => ?_
  simp [Value.cells, aNew]
  apply hK
  clear hK K
  simp only [andThen]
  have mb := Mbox.new (H := H) (a := a) (b := b) (e := 38)
  have ag : Agree H.length H (H ++ [⟨[a, b], 38, 1, 0, false⟩]) := Agree.app _ _
  have hlb : H.length < (H ++ [⟨[a, b], 38, 1, 0, false⟩] : AH).length := by simp
  generalize H ++ [⟨[a, b], 38, 1, 0, false⟩] = G at *
  have ha' := ha.agree ag
  have hb' := hb.agree ag
  have b0 := aBuild_none (P := Try.prog) (H := G) (t := 22) elem22 einfo3 rfl
  repeat refine AWp.seq ?_
  refine AWp.region' fun K hK => ?_
  simp [b0]
  apply hK
  clear hK K
  simp only [andThen]
  repeat refine AWp.seq ?_
  refine AWp.region' fun K hK => ?_
  simp []
  apply hK
  clear hK K
  simp only [andThen]
  repeat refine AWp.seq ?_
  refine AWp.block ?_
  refine AWp.loop (fun j env G3 => ∃ (k : Nat) (u : Value), j = per p q i - k ∧ k < per p q i ∧ Fresh G3 G.length 3 u (ints (wayTo p q i k)) ∧ Agree G.length G G3 ∧ env 1 = some (.int .i64 i) ∧ env 2 = some (ptrAt H.length 0 0) ∧ env 5 = some u ∧ env 6 = some (.int .i64 (iter p q k i))) (per p q i) ⟨0, _, by simp, p0, by simpa [wayTo, ints] using lit0_fresh, Agree.app _ _, by simp, by simp, by simp, by simp [iter]⟩ ?_
  rintro j env G3 ⟨k, u, rfl, hk, hf, ha3, e1, e2, e5, e6⟩
  obtain ⟨i0, i1⟩ := h.iter_in h0 h1 k
  have in1 := h.in1 i0 i1
  have jb : 0 ≤ gt p (iter p q k i) ∧ gt p (iter p q k i) < q.length := ⟨in1.1, by omega⟩
  have mb3 := mb.agree ha3 hlb
  have ha4 := ha'.agree ha3
  have b3 := aBuild_twoF (P := Try.prog) (H := G3) (t := 22) (x := .int .i64 (iter p q k i)) (y := .int .i64 (gt p (iter p q k i))) elem22 einfo3 rfl rfl rfl rfl rfl
  obtain ⟨v', G', q1, q2, q3, q4⟩ := hf.push2 (x := iter p q k i) (y := gt p (iter p q k i)) ha3.to_pre.length_le (by rw [wayTo_len]; omega)
  have ha5 : Agree G.length G G' := ha3.trans q4 (Nat.le_refl _)
  have mb5 := mb.agree ha5 hlb
  have ha6 := ha'.agree ha5
  have hb6 := hb'.agree ha5
  rw [← wayTo_succ] at q2
  repeat refine AWp.seq ?_
  refine AWp.block ?_
  repeat refine AWp.seq ?_
  refine AWp.region' fun K hK => ?_
  simp [e2, e6, mb3.f0, mb3.l0, idxI ha4 i0 i1, loadI ha4 i0 i1]
  apply hK
  clear hK K
  simp only [andThen]
  repeat refine AWp.seq ?_
  refine AWp.region' fun K hK => ?_
  simp [e5, e6, b3, q1]
  apply hK
  clear hK K
  simp only [andThen]
  repeat refine AWp.seq ?_
  refine AWp.region' fun K hK => ?_
  simp [e2, mb5.f1, mb5.l1, idxI hb6 jb.1 jb.2, loadI hb6 jb.1 jb.2]
  apply hK
  clear hK K
  simp only [andThen]
  repeat refine AWp.seq ?_
  refine AWp.region' fun K hK => ?_
  simp [e1]
  apply hK
  clear hK K
  simp only [andThen]
  by_cases hk1 : k + 1 < per p q i
  · have hne := p3 (k + 1) (by omega) hk1
    have hne' : ¬ gt q (gt p (iter p q k i)) = i := hne
    repeat refine AWp.seq ?_
    refine AWp.cf (by simp [hne']) ?_
    refine AWp.skip ?_
    simp only [andThen]
    exact ⟨per p q i - (k + 1), by omega, k + 1, v', rfl, hk1, q2, ha5, by simp [e1], by simp [e2], by simp, by simp [iter, step]⟩
  · have hkk : k + 1 = per p q i := by omega
    rw [hkk] at q2
    rw [← hkk] at p2
    have heq : gt q (gt p (iter p q k i)) = i := p2
    repeat refine AWp.seq ?_
    refine AWp.ct (by simp [heq]) ?_
    repeat refine AWp.seq ?_
    refine AWp.region' fun K hK => ?_
    simp []
    apply hK
    clear hK K
    simp only [andThen]
    refine AWp.ret ?_
    exact ⟨.inr rfl, (ag.trans ha5 (by omega)).to_pre, v', by obtain ⟨z, y⟩ := (Own.of q2).less (N := H.length) (by omega) |>.resolve_left (fun h => by have := congrArg List.length h.2; simp [wayL, wayTo_len] at this; omega); exact ⟨z, y⟩, by simp [q2.sl.tup]⟩
end Go.Proofs.Ytdghlhdpcmemjaa.AL

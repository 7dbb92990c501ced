/- The curves of a pair, and how many there are. No condition. -/
import Derived.Test.YtdghlhdpcmemjaaFB14
namespace Go.Proofs.Ytdghlhdpcmemjaa.AL
open Go Go.Proofs.Ytdghlhdpcmemjaa.Arch
set_option linter.unusedVariables false
set_option linter.unusedSimpArgs false
set_option maxRecDepth 4096

theorem curves (H : AH) (a b : Value) (p q : List Int) (ha : Sl H a (ints p)) (hb : Sl H b (ints q)) (h : Two p q) (hx : p.length ≤ 12) :
    ACall Try.prog 92 [.agg #[a, b]] H (.tuple #[mkL H.length p.length, .int .i64 (colTo p q p.length).2]) (H ++ [objL 3 (ints (colTo p q p.length).1)]) := by
  have key := ACall.list (P := Try.prog) (f := 92) (args := [.agg #[a, b]]) (H := H) (nt := 42) (rs := [.tmp 2, .tmp 3]) (e := 3) (cells := ints (colTo p q p.length).1) (rest := [.int .i64 (colTo p q p.length).2]) Try.func92 rfl rfl rfl rfl ints_plain (by simp [PlainL]) fun wf => ?_
  · simpa [packed, (colTo_len (p := p) (q := q) p.length).1] using key
  repeat refine AWp.seq ?_
  refine AWp.region' fun K hK => ?_
  simp [Value.cells, aNew]
  apply hK
  clear hK K
  simp only [andThen]
  have mb := Mbox.new (H := H) (a := a) (b := b) (e := 38)
  have ag : Agree H.length H (H ++ [⟨[a, b], 38, 1, 0, false⟩]) := Agree.app _ _
  have hlb : H.length < (H ++ [⟨[a, b], 38, 1, 0, false⟩] : AH).length := by simp
  generalize H ++ [⟨[a, b], 38, 1, 0, false⟩] = G' at *
  have b1 := aBuild_one (P := Try.prog) (H := G') (t := 22) (x := .int .i64 (-1)) elem22 einfo3 rfl rfl rfl
  have fl := lit_fresh (G := G') (e := 3) (x := .int .i64 (-1))
  have agl : Agree G'.length G' (G' ++ [⟨[.int .i64 (-1)], 3, 1, 0, false⟩]) := Agree.app _ _
  have hll : G'.length ≤ (G' ++ [⟨[.int .i64 (-1)], 3, 1, 0, false⟩] : AH).length := by simp
  generalize hG : G' ++ [⟨[.int .i64 (-1)], 3, 1, 0, false⟩] = G at *
  have ha' := (ha.agree ag).agree agl
  have hb' := (hb.agree ag).agree agl
  replace mb := mb.agree agl hlb
  replace ag := ag.trans agl (by omega)
  replace hlb : H.length < G.length := by omega
  have l0 := ha'.len (P := Try.prog) elem22
  rw [ints_len] at l0
  repeat refine AWp.seq ?_
  refine AWp.region' fun K hK => ?_
  simp [b1, mb.f0, mb.l0, l0]
  refine CallK.det (Repeat G _ p.length fl.sl hx) ?_
  have f0 := mkL_fresh (H := G) (L := []) (xs := List.replicate p.length (-1))
  rw [List.length_replicate] at f0
  have a0 : Agree G.length G (G ++ [objL 3 (ints (List.replicate p.length (-1)))]) := Agree.app _ _
  have id5 : idOf (mkL G.length p.length) = some G.length := rfl
  generalize hu : mkL G.length p.length = u at *
  generalize G ++ [objL 3 (ints (List.replicate p.length (-1)))] = G2 at *
  have l1 := f0.sl.len (P := Try.prog) elem22
  rw [ints_len, List.length_replicate] at l1
  have tu := f0.sl.tup
  simp [tu]
  apply hK
  clear hK K
  simp only [andThen]
  repeat refine AWp.seq ?_
  refine AWp.region' fun K hK => ?_
  simp [l1, tu]
  apply hK
  clear hK K
  simp only [andThen]
  have hf0 : Fresh G2 G.length 3 u (ints (colTo p q 0).1) := f0
  repeat refine AWp.seq ?_
  refine AWp.block ?_
  refine AWp.loop (fun j env G3 => ∃ (k : Nat), j = p.length - k ∧ k ≤ p.length ∧ Fresh G3 G.length 3 u (ints (colTo p q k).1) ∧ Agree G.length G G3 ∧ env 1 = some (ptrAt H.length 0 0) ∧ env 4 = some u ∧ env 5 = some (.int .i64 (colTo p q k).2) ∧ env 15 = some (.int .i64 p.length) ∧ env 16 = some (.int .i64 k)) (p.length) ⟨0, by simp, by omega, hf0, a0, by simp, by simp, by simp [colTo], by simp, by simp⟩ ?_
  rintro j env G3 ⟨k, rfl, hk, hf, hag, e1, e4, e5, e15, e16⟩
  obtain ⟨cl, cc⟩ := colTo_len (p := p) (q := q) k
  repeat refine AWp.seq ?_
  refine AWp.region' fun K hK => ?_
  simp [e15, e16]
  apply hK
  clear hK K
  simp only [andThen]
  by_cases hlt : k < p.length
  · repeat refine AWp.seq ?_
    refine AWp.ct (by simp [hlt]) ?_
    refine AWp.skip ?_
    simp only [andThen]
    repeat refine AWp.seq ?_
    refine AWp.block ?_
    repeat refine AWp.seq ?_
    refine AWp.region' fun K hK => ?_
    simp [e16]
    apply hK
    clear hK K
    simp only [andThen]
    repeat refine AWp.seq ?_
    refine AWp.region' fun K hK => ?_
    simp [e4, idxN hf.sl (show k < (colTo p q k).1.length by omega), loadN hf.sl (show k < (colTo p q k).1.length by omega), tu]
    apply hK
    clear hK K
    simp only [andThen]
    by_cases c : 0 ≤ gt (colTo p q k).1 k
    · repeat refine AWp.seq ?_
      refine AWp.ct (by simp [c]) ?_
      refine AWp.exit ?_
      simp only [andThen]
      simp
      repeat refine AWp.seq ?_
      refine AWp.region' fun K hK => ?_
      simp [e16, wrap_succ (show k ≤ 4294967296 by omega)]
      apply hK
      clear hK K
      simp only [andThen]
      have hcs : colTo p q (k + 1) = colTo p q k := by rw [colTo_succ, colStep, if_pos c]
      exact ⟨p.length - (k + 1), by omega, k + 1, rfl, by omega, by rw [hcs]; exact hf, hag, by simp [e1], by simp [e4], by simp [e5, hcs], by simp [e15], by simp⟩
    · repeat refine AWp.seq ?_
      refine AWp.cf (by simp [c]) ?_
      refine AWp.skip ?_
      simp only [andThen]
      have hcs : colTo p q (k + 1) = (paint (colTo p q k).1 (wayL p q k) (colTo p q k).2, (colTo p q k).2 + 1) := by rw [colTo_succ, colStep, if_neg c]
      have mb3 := mb.agree hag hlb
      have hgl := hag.to_pre.length_le
      repeat refine AWp.seq ?_
      refine AWp.region' fun K hK => ?_
      simp [e1, mb3.l]
      refine CallK.det (way G3 a b p q (ha'.agree hag) (hb'.agree hag) h hx k (by omega) (by omega)) ?_
      have fw := mkL_fresh (H := G3) (L := []) (xs := wayL p q k)
      have idw : idOf (mkL G3.length (wayL p q k).length) = some G3.length := rfl
      have agw : Agree G3.length G3 (G3 ++ [objL 3 (ints (wayL p q k))]) := Agree.app _ _
      have iu := ((Own.of hf).id_lt id5).1
      have lw := fw.sl.len (P := Try.prog) elem22
      rw [ints_len] at lw
      have tw := fw.sl.tup
      have hf4 := hf.at (H' := G3 ++ [objL 3 (ints (wayL p q k))]) fun i hi => agw i ((Own.of hf).id_lt hi).1
      have hag4 := hag.trans agw hgl
      have win : ∀ x ∈ wayL p q k, 0 ≤ x ∧ x < p.length := h.way_in (by omega) (by omega)
      generalize hwv : mkL G3.length (wayL p q k).length = wv at *
      generalize G3 ++ [objL 3 (ints (wayL p q k))] = G4 at *
      simp [lw, tw]
      apply hK
      clear hK K
      simp only [andThen]
      repeat refine AWp.seq ?_
      refine AWp.block ?_
      refine AWp.loop (fun j env G5 => ∃ (m : Nat), j = (wayL p q k).length - m ∧ m ≤ (wayL p q k).length ∧ Fresh G5 G.length 3 u (ints (paint (colTo p q k).1 ((wayL p q k).take m) (colTo p q k).2)) ∧ (∀ i, idOf u ≠ some i → G5[i]? = G4[i]?) ∧ env 1 = some (ptrAt H.length 0 0) ∧ env 4 = some u ∧ env 5 = some (.int .i64 (colTo p q k).2) ∧ env 15 = some (.int .i64 p.length) ∧ env 16 = some (.int .i64 k) ∧ env 26 = some wv ∧ env 27 = some (.int .i64 (wayL p q k).length) ∧ env 28 = some (.int .i64 m)) ((wayL p q k).length) ⟨0, by simp, by omega, by simpa [paint] using hf4, fun _ _ => rfl, by simp [e1], by simp [e4], by simp [e5], by simp [e15], by simp [e16], by simp, by simp, by simp⟩ ?_
      rintro j env G5 ⟨m, rfl, hm, hf5, k5, e1, e4, e5, e15, e16, e26, e27, e28⟩
      repeat refine AWp.seq ?_
      refine AWp.region' fun K hK => ?_
      simp [e27, e28]
      apply hK
      clear hK K
      simp only [andThen]
      by_cases hml : m < (wayL p q k).length
      · repeat refine AWp.seq ?_
        refine AWp.ct (by simp [hml]) ?_
        refine AWp.skip ?_
        simp only [andThen]
        have sw5 := fw.sl.at (H' := G5) fun i hi => k5 i (by rw [idw] at hi; rw [id5]; simp at hi ⊢; omega)
        have wx := win _ (List.getElem_mem hml)
        obtain ⟨G6, s1, s2, s3, s4⟩ := hf5.paint1 (x := (wayL p q k)[m]) (c := (colTo p q k).2) wx.1 (by rw [paint_len]; omega)
        have ix := idxI hf5.sl (j := (wayL p q k)[m]) wx.1 (by rw [paint_len]; omega)
        have lx := loadN sw5 hml
        rw [← gt_nat hml] at lx
        repeat refine AWp.seq ?_
        refine AWp.block ?_
        repeat refine AWp.seq ?_
        refine AWp.region' fun K hK => ?_
        simp [e26, e28, idxN sw5 hml, lx]
        apply hK
        clear hK K
        simp only [andThen]
        repeat refine AWp.seq ?_
        refine AWp.region' fun K hK => ?_
        simp [e4, e5, ix, s1, tu]
        apply hK
        clear hK K
        simp only [andThen]
        have hwl : (wayL p q k).length ≤ 4294967295 := by have := (h.per_spec (i := k) (by omega) (by omega)).2.1; simp [wayL, wayTo_len]; omega
        repeat refine AWp.seq ?_
        refine AWp.region' fun K hK => ?_
        simp [e28, wrap_succ (show m ≤ 4294967296 by omega)]
        apply hK
        clear hK K
        simp only [andThen]
        exact ⟨(wayL p q k).length - (m + 1), by omega, m + 1, rfl, by omega, by rw [paint_take hml]; exact s2, fun i hi => by rw [s4 i hi, k5 i hi], by simp [e1], by simp [e4], by simp [e5], by simp [e15], by simp [e16], by simp [e26], by simp [e27], by simp⟩
      · repeat refine AWp.seq ?_
        refine AWp.cf (by simp [hml]) ?_
        refine AWp.exit ?_
        simp only [andThen]
        simp
        have hmm : m = (wayL p q k).length := by omega
        rw [hmm, List.take_of_length_le (Nat.le_refl _)] at hf5
        repeat refine AWp.seq ?_
        refine AWp.region' fun K hK => ?_
        simp [e5, wrap_succ (show (colTo p q k).2 ≤ 4294967296 by omega)]
        apply hK
        clear hK K
        simp only [andThen]
        repeat refine AWp.seq ?_
        refine AWp.region' fun K hK => ?_
        simp [e16, wrap_succ (show k ≤ 4294967296 by omega)]
        apply hK
        clear hK K
        simp only [andThen]
        exact ⟨p.length - (k + 1), by omega, k + 1, rfl, by omega, by rw [hcs]; exact hf5, fun i hi => by rw [k5 i (by rw [id5]; simp; omega), hag4 i hi], by simp [e1], by simp [e4], by simp [hcs], by simp [e15], by simp⟩
  · repeat refine AWp.seq ?_
    refine AWp.cf (by simp [hlt]) ?_
    refine AWp.exit ?_
    simp only [andThen]
    simp
    repeat refine AWp.seq ?_
    refine AWp.region' fun K hK => ?_
    simp [e4, e5, tu]
    apply hK
    clear hK K
    simp only [andThen]
    refine AWp.ret ?_
    have hkk : k = p.length := by omega
    subst hkk
    have hgl := ag.to_pre.length_le
    exact ⟨.inr rfl, (ag.trans hag hgl).to_pre, u, by
      obtain ⟨i, off, g, c, o, z0, z1⟩ := hf
      exact ⟨i, off, g, c, o, by omega, z1⟩, by simp [tu]⟩

theorem components (H : AH) (a b : Value) (p q : List Int) (ha : Sl H a (ints p)) (hb : Sl H b (ints q)) (h : Two p q) (hx : p.length ≤ 12) :
    ACall Try.prog 65 [.agg #[a, b]] H (.int .i64 (colTo p q p.length).2) H := by
  refine ACall.plain (nt := 11) (rs := [.tmp 2]) (vs := [_]) Try.func65 rfl rfl rfl rfl (by simp [PlainL]) fun wf => ?_
  repeat refine AWp.seq ?_
  refine AWp.region' fun K hK => ?_
  simp [Value.cells, aNew]
  apply hK
  clear hK K
  simp only [andThen]
  have mb := Mbox.new (H := H) (a := a) (b := b) (e := 38)
  have ag : Agree H.length H (H ++ [⟨[a, b], 38, 1, 0, false⟩]) := Agree.app _ _
  have hlb : H.length ≤ (H ++ [⟨[a, b], 38, 1, 0, false⟩] : AH).length := by simp
  generalize H ++ [⟨[a, b], 38, 1, 0, false⟩] = G at *
  repeat refine AWp.seq ?_
  refine AWp.region' fun K hK => ?_
  simp [mb.l]
  refine CallK.det (curves G a b p q (ha.agree ag) (hb.agree ag) h hx) ?_
  simp [mkL_tup]
  apply hK
  clear hK K
  simp only [andThen]
  repeat refine AWp.seq ?_
  refine AWp.region' fun K hK => ?_
  simp []
  apply hK
  clear hK K
  simp only [andThen]
  refine AWp.ret ?_
  exact ⟨.inr rfl, (ag.trans (Agree.app _ _) hlb).to_pre.imp fun L h => h.symm, by simp⟩
end Go.Proofs.Ytdghlhdpcmemjaa.AL

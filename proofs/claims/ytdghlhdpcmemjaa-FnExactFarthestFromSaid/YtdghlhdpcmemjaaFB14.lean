/- The colours of a pair's points: plain, and the two walks. No condition. -/
import Derived.Test.YtdghlhdpcmemjaaFB13
import Derived.Test.YtdghlhdpcmemjaaFB10
namespace Go.Proofs.Ytdghlhdpcmemjaa.AL
open Go Go.Proofs.Ytdghlhdpcmemjaa.Arch
set_option linter.unusedVariables false
set_option linter.unusedSimpArgs false
set_option maxRecDepth 4096

def paint (ys w : List Int) (c : Int) : List Int := w.foldl (fun o x => o.set x.toNat c) ys
theorem paint_len {c : Int} : ∀ (w ys : List Int), (paint ys w c).length = ys.length
  | [], ys => rfl
  | x :: w, ys => by
    have := paint_len (c := c) w (ys.set x.toNat c)
    simpa [paint] using this
theorem paint_take {ys w : List Int} {c : Int} {m : Nat} (h : m < w.length) : paint ys (w.take (m + 1)) c = (paint ys (w.take m) c).set (w[m]).toNat c := by
  unfold paint
  rw [List.take_succ_eq_append_getElem h, List.foldl_append]
  rfl
def colStep (p q : List Int) (s : List Int × Nat) (i : Nat) : List Int × Nat := if 0 ≤ gt s.1 i then s else (paint s.1 (wayL p q i) s.2, s.2 + 1)
def colTo (p q : List Int) (k : Nat) : List Int × Nat := (List.range k).foldl (colStep p q) (List.replicate p.length (-1), 0)
theorem colTo_succ {p q : List Int} {k : Nat} : colTo p q (k + 1) = colStep p q (colTo p q k) k := by
  unfold colTo
  rw [List.range_succ, List.foldl_append]
  rfl
theorem colTo_len {p q : List Int} : ∀ k, (colTo p q k).1.length = p.length ∧ (colTo p q k).2 ≤ k
  | 0 => by simp [colTo]
  | k + 1 => by
    obtain ⟨a, b⟩ := colTo_len (p := p) (q := q) k
    rw [colTo_succ]
    unfold colStep
    split
    · exact ⟨a, by omega⟩
    · exact ⟨by simpa [paint_len] using a, by simp; omega⟩

theorem Fresh.paint1 {G : AH} {N : Nat} {u : Value} {ys : List Int} {x c : Int} (h : Fresh G N 3 u (ints ys)) (h0 : 0 ≤ x) (h1 : x < ys.length) :
    ∃ G', aStore Try.prog G 3 (elP u x.toNat) (.int .i64 c) = some G' ∧ Fresh G' N 3 u (ints (ys.set x.toNat c)) ∧ G'.length = G.length ∧ ∀ i, idOf u ≠ some i → G'[i]? = G[i]? := by
  obtain ⟨G', a, b, d, e⟩ := h.store (P := Try.prog) (k := x.toNat) (x := .int .i64 c) size3 (by simp; omega) rfl rfl
  exact ⟨G', a, by rwa [ints_set] at b, d, e⟩

theorem meColours (H : AH) (a b : Value) (p q : List Int) (ha : Sl H a (ints p)) (hb : Sl H b (ints q)) (h : Two p q) (hx : p.length ≤ 12) :
    ACall Try.prog 90 [.agg #[a, b]] H (mkL H.length p.length) (H ++ [objL 3 (ints (colTo p q p.length).1)]) := by
  have key := ACall.list (P := Try.prog) (f := 90) (args := [.agg #[a, b]]) (H := H) (nt := 49) (rs := [.tmp 2]) (e := 3) (cells := ints (colTo p q p.length).1) (rest := []) Try.func90 rfl rfl rfl rfl ints_plain (by simp [PlainL]) fun wf => ?_
  · simpa [packed, (colTo_len (p := p) (q := q) p.length).1] using key
  repeat refine AWp.seq ?_
  refine AWp.region' fun K hK => ?_
  simp [Value.cells, aNew]
  apply hK
  clear hK K
  simp only [andThen]
  have mb := Mbox.new (H := H) (a := a) (b := b) (e := 38)
  have ag : Agree H.length H (H ++ [⟨[a, b], 38, 1, 0, false⟩]) := Agree.app _ _
  have hlb : H.length < (H ++ [⟨[a, b], 38, 1, 0, false⟩] : AH).length := by simp
  generalize H ++ [⟨[a, b], 38, 1, 0, false⟩] = G at *
  have ha' := ha.agree ag
  have hb' := hb.agree ag
  have l0 := ha'.len (P := Try.prog) elem22
  rw [ints_len] at l0
  have mk : aMake Try.prog G 22 (.int .i64 p.length) (.int .i64 p.length) = some (.slice (some ⟨G.length, 0, some 0⟩) p.length p.length, G ++ [⟨ints (List.replicate p.length 0), 3, 1, 0, false⟩]) := by
    simp [aMake, elem22, einfo3, aNew, Value.cells, ← repl_ints]
    omega
  have f0 : Fresh (G ++ [⟨ints (List.replicate p.length 0), 3, 1, 0, false⟩]) G.length 3 (.slice (some ⟨G.length, 0, some 0⟩) p.length p.length) (ints (List.replicate p.length 0)) := ⟨G.length, 0, 0, p.length, _, by omega, by simp, by simp; rfl, rfl, rfl, rfl, rfl, by simp, by simp [ints]⟩
  have a0 : Agree G.length G (G ++ [⟨ints (List.replicate p.length 0), 3, 1, 0, false⟩]) := Agree.app _ _
  repeat refine AWp.seq ?_
  refine AWp.region' fun K hK => ?_
  simp [mb.f0, mb.l0, l0, mk]
  apply hK
  clear hK K
  simp only [andThen]
  have id5 : idOf (.slice (some ⟨G.length, 0, some 0⟩) p.length p.length) = some G.length := rfl
  generalize hu : Value.slice (some ⟨G.length, 0, some 0⟩) p.length p.length = u at *
  generalize G ++ [⟨ints (List.replicate p.length 0), 3, 1, 0, false⟩] = G1 at *
  have l1 := f0.sl.len (P := Try.prog) elem22
  rw [ints_len, List.length_replicate] at l1
  have tu := f0.sl.tup
  repeat refine AWp.seq ?_
  refine AWp.region' fun K hK => ?_
  simp [l1, tu]
  apply hK
  clear hK K
  simp only [andThen]
  repeat refine AWp.seq ?_
  refine AWp.block ?_
  refine AWp.loop (fun j env G2 => ∃ (k : Nat) (ys : List Int), j = p.length - k ∧ k ≤ p.length ∧ ys.length = p.length ∧ ys.take k = List.replicate k (-1) ∧ Fresh G2 G.length 3 u (ints ys) ∧ Agree G.length G G2 ∧ env 1 = some (ptrAt H.length 0 0) ∧ env 3 = some u ∧ env 14 = some (.int .i64 p.length) ∧ env 15 = some (.int .i64 k)) (p.length) ⟨0, _, by simp, by omega, by simp, by simp, f0, a0, by simp, by simp, by simp, by simp⟩ ?_
  rintro j env G2 ⟨k, ys, rfl, hk, hys, htk, hf, hag, e1, e3, e14, e15⟩
  repeat refine AWp.seq ?_
  refine AWp.region' fun K hK => ?_
  simp [e14, e15]
  apply hK
  clear hK K
  simp only [andThen]
  by_cases hlt : k < p.length
  · repeat refine AWp.seq ?_
    refine AWp.ct (by simp [hlt]) ?_
    refine AWp.skip ?_
    simp only [andThen]
    obtain ⟨G3, s1, s2, s3, s4⟩ := hf.paint1 (x := (k : Nat)) (c := -1) (by omega) (by omega)
    simp only [Int.toNat_natCast] at s1 s2
    repeat refine AWp.seq ?_
    refine AWp.block ?_
    repeat refine AWp.seq ?_
    refine AWp.region' fun K hK => ?_
    simp [e15]
    apply hK
    clear hK K
    simp only [andThen]
    repeat refine AWp.seq ?_
    refine AWp.region' fun K hK => ?_
    simp [e3, idxN hf.sl (show k < ys.length by omega), s1, tu]
    apply hK
    clear hK K
    simp only [andThen]
    repeat refine AWp.seq ?_
    refine AWp.region' fun K hK => ?_
    simp [e15, wrap_succ (show k ≤ 4294967296 by omega)]
    apply hK
    clear hK K
    simp only [andThen]
    refine ⟨p.length - (k + 1), by omega, k + 1, _, rfl, by omega, by simp [hys], ?_, s2, fun i hi => by rw [s4 i (by rw [id5]; simp; omega), hag i hi], by simp [e1], by simp [e3], by simp [e14], by simp⟩
    have e := List.replicate_succ' (n := k) (a := (-1 : Int))
    rw [e, ← htk, List.take_succ_eq_append_getElem (by simp; omega), List.take_set_of_le (Nat.le_refl k)]
    simp
  · repeat refine AWp.seq ?_
    refine AWp.cf (by simp [hlt]) ?_
    refine AWp.exit ?_
    simp only [andThen]
    simp
    have hkk : k = p.length := by omega
    subst hkk
    rw [List.take_of_length_le (by omega)] at htk
    subst htk
    have hf0 : Fresh G2 G.length 3 u (ints (colTo p q 0).1) := hf
    clear hf f0 a0 mk
    repeat refine AWp.seq ?_
    refine AWp.region' fun K hK => ?_
    simp []
    apply hK
    clear hK K
    simp only [andThen]
    have l1 := hf0.sl.len (P := Try.prog) elem22
    rw [ints_len, (colTo_len 0).1] at l1
    repeat refine AWp.seq ?_
    refine AWp.region' fun K hK => ?_
    simp [e3, l1, tu]
    apply hK
    clear hK K
    simp only [andThen]
    repeat refine AWp.seq ?_
    refine AWp.block ?_
    refine AWp.loop (fun j env G3 => ∃ (k : Nat), j = p.length - k ∧ k ≤ p.length ∧ Fresh G3 G.length 3 u (ints (colTo p q k).1) ∧ Agree G.length G G3 ∧ env 1 = some (ptrAt H.length 0 0) ∧ env 3 = some u ∧ env 5 = some (.int .i64 (colTo p q k).2) ∧ env 23 = some (.int .i64 p.length) ∧ env 24 = some (.int .i64 k)) (p.length) ⟨0, by simp, by omega, hf0, hag, by simp [e1], by simp [e3], by simp [colTo], by simp, by simp⟩ ?_
    rintro j env G3 ⟨k, rfl, hk, hf, hag, e1, e3, e5, e23, e24⟩
    obtain ⟨cl, cc⟩ := colTo_len (p := p) (q := q) k
    repeat refine AWp.seq ?_
    refine AWp.region' fun K hK => ?_
    simp [e23, e24]
    apply hK
    clear hK K
    simp only [andThen]
    by_cases hlt : k < p.length
    · repeat refine AWp.seq ?_
      refine AWp.ct (by simp [hlt]) ?_
      refine AWp.skip ?_
      simp only [andThen]
      repeat refine AWp.seq ?_
      refine AWp.block ?_
      repeat refine AWp.seq ?_
      refine AWp.region' fun K hK => ?_
      simp [e24]
      apply hK
      clear hK K
      simp only [andThen]
      repeat refine AWp.seq ?_
      refine AWp.region' fun K hK => ?_
      simp [e3, idxN hf.sl (show k < (colTo p q k).1.length by omega), loadN hf.sl (show k < (colTo p q k).1.length by omega), tu]
      apply hK
      clear hK K
      simp only [andThen]
      by_cases c : 0 ≤ gt (colTo p q k).1 k
      · repeat refine AWp.seq ?_
        refine AWp.ct (by simp [c]) ?_
        refine AWp.exit ?_
        simp only [andThen]
        simp
        repeat refine AWp.seq ?_
        refine AWp.region' fun K hK => ?_
        simp [e24, wrap_succ (show k ≤ 4294967296 by omega)]
        apply hK
        clear hK K
        simp only [andThen]
        have hcs : colTo p q (k + 1) = colTo p q k := by rw [colTo_succ, colStep, if_pos c]
        exact ⟨p.length - (k + 1), by omega, k + 1, rfl, by omega, by rw [hcs]; exact hf, hag, by simp [e1], by simp [e3], by simp [e5, hcs], by simp [e23], by simp⟩
      · repeat refine AWp.seq ?_
        refine AWp.cf (by simp [c]) ?_
        refine AWp.skip ?_
        simp only [andThen]
        have hcs : colTo p q (k + 1) = (paint (colTo p q k).1 (wayL p q k) (colTo p q k).2, (colTo p q k).2 + 1) := by rw [colTo_succ, colStep, if_neg c]
        have mb3 := mb.agree hag hlb
        have hgl := hag.to_pre.length_le
        repeat refine AWp.seq ?_
        refine AWp.region' fun K hK => ?_
        simp [e1, mb3.l]
        refine CallK.det (meWay G3 a b p q (ha'.agree hag) (hb'.agree hag) h hx k (by omega) (by omega)) ?_
        have fw := mkL_fresh (H := G3) (L := []) (xs := wayL p q k)
        have idw : idOf (mkL G3.length (wayL p q k).length) = some G3.length := rfl
        have agw : Agree G3.length G3 (G3 ++ [objL 3 (ints (wayL p q k))]) := Agree.app _ _
        have iu := ((Own.of hf).id_lt id5).1
        have lw := fw.sl.len (P := Try.prog) elem22
        rw [ints_len] at lw
        have tw := fw.sl.tup
        have hf4 := hf.at (H' := G3 ++ [objL 3 (ints (wayL p q k))]) fun i hi => agw i ((Own.of hf).id_lt hi).1
        have hag4 := hag.trans agw hgl
        have win : ∀ x ∈ wayL p q k, 0 ≤ x ∧ x < p.length := h.way_in (by omega) (by omega)
        generalize hwv : mkL G3.length (wayL p q k).length = wv at *
        generalize G3 ++ [objL 3 (ints (wayL p q k))] = G4 at *
        simp [lw, tw]
        apply hK
        clear hK K
        simp only [andThen]
        repeat refine AWp.seq ?_
        refine AWp.block ?_
        refine AWp.loop (fun j env G5 => ∃ (m : Nat), j = (wayL p q k).length - m ∧ m ≤ (wayL p q k).length ∧ Fresh G5 G.length 3 u (ints (paint (colTo p q k).1 ((wayL p q k).take m) (colTo p q k).2)) ∧ (∀ i, idOf u ≠ some i → G5[i]? = G4[i]?) ∧ env 1 = some (ptrAt H.length 0 0) ∧ env 3 = some u ∧ env 5 = some (.int .i64 (colTo p q k).2) ∧ env 23 = some (.int .i64 p.length) ∧ env 24 = some (.int .i64 k) ∧ env 34 = some wv ∧ env 35 = some (.int .i64 (wayL p q k).length) ∧ env 36 = some (.int .i64 m)) ((wayL p q k).length) ⟨0, by simp, by omega, by simpa [paint] using hf4, fun _ _ => rfl, by simp [e1], by simp [e3], by simp [e5], by simp [e23], by simp [e24], by simp, by simp, by simp⟩ ?_
        rintro j env G5 ⟨m, rfl, hm, hf5, k5, e1, e3, e5, e23, e24, e34, e35, e36⟩
        repeat refine AWp.seq ?_
        refine AWp.region' fun K hK => ?_
        simp [e35, e36]
        apply hK
        clear hK K
        simp only [andThen]
        by_cases hml : m < (wayL p q k).length
        · repeat refine AWp.seq ?_
          refine AWp.ct (by simp [hml]) ?_
          refine AWp.skip ?_
          simp only [andThen]
          have sw5 := fw.sl.at (H' := G5) fun i hi => k5 i (by rw [idw] at hi; rw [id5]; simp at hi ⊢; omega)
          have wx := win _ (List.getElem_mem hml)
          obtain ⟨G6, s1, s2, s3, s4⟩ := hf5.paint1 (x := (wayL p q k)[m]) (c := (colTo p q k).2) wx.1 (by rw [paint_len]; omega)
          have ix := idxI hf5.sl (j := (wayL p q k)[m]) wx.1 (by rw [paint_len]; omega)
          have lx := loadN sw5 hml
          rw [← gt_nat hml] at lx
          repeat refine AWp.seq ?_
          refine AWp.block ?_
          repeat refine AWp.seq ?_
          refine AWp.region' fun K hK => ?_
          simp [e34, e36, idxN sw5 hml, lx]
          apply hK
          clear hK K
          simp only [andThen]
          repeat refine AWp.seq ?_
          refine AWp.region' fun K hK => ?_
          simp [e3, e5, ix, s1, tu]
          apply hK
          clear hK K
          simp only [andThen]
          have hwl : (wayL p q k).length ≤ 4294967295 := by have := (h.per_spec (i := k) (by omega) (by omega)).2.1; simp [wayL, wayTo_len]; omega
          repeat refine AWp.seq ?_
          refine AWp.region' fun K hK => ?_
          simp [e36, wrap_succ (show m ≤ 4294967296 by omega)]
          apply hK
          clear hK K
          simp only [andThen]
          exact ⟨(wayL p q k).length - (m + 1), by omega, m + 1, rfl, by omega, by rw [paint_take hml]; exact s2, fun i hi => by rw [s4 i hi, k5 i hi], by simp [e1], by simp [e3], by simp [e5], by simp [e23], by simp [e24], by simp [e34], by simp [e35], by simp⟩
        · repeat refine AWp.seq ?_
          refine AWp.cf (by simp [hml]) ?_
          refine AWp.exit ?_
          simp only [andThen]
          simp
          have hmm : m = (wayL p q k).length := by omega
          rw [hmm, List.take_of_length_le (Nat.le_refl _)] at hf5
          repeat refine AWp.seq ?_
          refine AWp.region' fun K hK => ?_
          simp [e5, wrap_succ (show (colTo p q k).2 ≤ 4294967296 by omega)]
          apply hK
          clear hK K
          simp only [andThen]
          repeat refine AWp.seq ?_
          refine AWp.region' fun K hK => ?_
          simp [e24, wrap_succ (show k ≤ 4294967296 by omega)]
          apply hK
          clear hK K
          simp only [andThen]
          exact ⟨p.length - (k + 1), by omega, k + 1, rfl, by omega, by rw [hcs]; exact hf5, fun i hi => by rw [k5 i (by rw [id5]; simp; omega), hag4 i hi], by simp [e1], by simp [e3], by simp [hcs], by simp [e23], by simp⟩
    · repeat refine AWp.seq ?_
      refine AWp.cf (by simp [hlt]) ?_
      refine AWp.exit ?_
      simp only [andThen]
      simp
      repeat refine AWp.seq ?_
      refine AWp.region' fun K hK => ?_
      simp [e3, tu]
      apply hK
      clear hK K
      simp only [andThen]
      refine AWp.ret ?_
      have hkk : k = p.length := by omega
      subst hkk
      have hgl := ag.to_pre.length_le
      exact ⟨.inr rfl, (ag.trans hag hgl).to_pre, u, by
        obtain ⟨i, off, g, c, o, z0, z1⟩ := hf
        exact ⟨i, off, g, c, o, by omega, z1⟩, by simp [tu]⟩
end Go.Proofs.Ytdghlhdpcmemjaa.AL

/- The law of the distance. No condition. -/
import Derived.Test.YtdghlhdpcmemjaaFB16
namespace Go.Proofs.Ytdghlhdpcmemjaa.AL
open Go Go.Proofs.Ytdghlhdpcmemjaa.Arch
set_option linter.unusedVariables false
set_option linter.unusedSimpArgs false
set_option maxRecDepth 4096

theorem FnExactExchangeDistance (H : AH) (v : Value) (xs : List Int) (w : Value) (ys : List Int) (hv : Sl H v (ints xs)) (_ : ∀ x ∈ xs, (Lit.int .i64 x).wf = true) (hw : Sl H w (ints ys)) (_ : ∀ x ∈ ys, (Lit.int .i64 x).wf = true) :
    ACall Try.prog 4 [v, w] H (.bool true) H := by
  refine ACall.plain (nt := 53) (rs := [.tmp 4]) (vs := [_]) Try.func4 rfl rfl rfl rfl (by simp [PlainL]) fun wf => ?_
  have l1 := hv.len (P := Try.prog) elem22
  have l2 := hw.len (P := Try.prog) elem22
  rw [ints_len] at l1 l2
  repeat refine AWp.seq ?_
  refine AWp.region' fun K hK => ?_
  simp []
  apply hK
  clear hK K
  simp only [andThen]
  repeat refine AWp.seq ?_
  refine AWp.region' fun K hK => ?_
  simp [l1]
  apply hK
  clear hK K
  simp only [andThen]
  by_cases big : 1048576 < xs.length
  · repeat refine AWp.seq ?_
    refine AWp.ct (by simp; omega) ?_
    repeat refine AWp.seq ?_
    refine AWp.region' fun K hK => ?_
    simp []
    apply hK
    clear hK K
    simp only [andThen]
    refine AWp.ret ?_
    exact ⟨.inr rfl, ⟨[], by simp⟩, by simp⟩
  have small : xs.length ≤ 1048576 := by omega
  repeat refine AWp.seq ?_
  refine AWp.cf (by simp; omega) ?_
  refine AWp.skip ?_
  simp only [andThen]
  repeat refine AWp.seq ?_
  refine AWp.region' fun K hK => ?_
  simp [l2]
  apply hK
  clear hK K
  simp only [andThen]
  by_cases big2 : 1048576 < ys.length
  · repeat refine AWp.seq ?_
    refine AWp.ct (by simp; omega) ?_
    repeat refine AWp.seq ?_
    refine AWp.region' fun K hK => ?_
    simp []
    apply hK
    clear hK K
    simp only [andThen]
    refine AWp.ret ?_
    exact ⟨.inr rfl, ⟨[], by simp⟩, by simp⟩
  have small2 : ys.length ≤ 1048576 := by omega
  repeat refine AWp.seq ?_
  refine AWp.cf (by simp; omega) ?_
  refine AWp.skip ?_
  simp only [andThen]
  -- the reference
  repeat refine AWp.seq ?_
  refine AWp.region' fun K hK => ?_
  simp [hv.tup]
  refine CallK.det (toIntS H v xs hv small) ?_
  have a1 : Agree H.length H (H ++ [objL 3 (ints xs)]) := Agree.app _ _
  have c1 := (mkL_fresh (H := H) (L := []) (xs := xs)).sl
  generalize mkL H.length xs.length = u1 at *
  generalize H ++ [objL 3 (ints xs)] = H1 at *
  have h1 := a1.to_pre.length_le
  have hw1 := hw.agree a1
  simp [c1.tup, hw.tup]
  refine CallK.det (toIntS H1 w ys hw1 small2) ?_
  have a2 : Agree H1.length H1 (H1 ++ [objL 3 (ints ys)]) := Agree.app _ _
  have c2 := (mkL_fresh (H := H1) (L := []) (xs := ys)).sl
  generalize mkL H1.length ys.length = u2 at *
  generalize H1 ++ [objL 3 (ints ys)] = H2 at *
  have h2 := a2.to_pre.length_le
  have c1' := c1.agree a2
  simp [c1.tup, c2.tup]
  refine CallK.det (ExchangeDistance_spec H2 u1 u2 xs ys c1' c2 (by omega) (by omega)) ?_
  simp
  apply hK
  clear hK K
  simp only [andThen]
  -- copies, and the program
  have a02 := a1.trans a2 h1
  have hv2 := hv.agree a02
  have hw2 := hw.agree a02
  repeat refine AWp.seq ?_
  refine AWp.region' fun K hK => ?_
  simp [hv.tup]
  refine CallK.det (toIntS H2 v xs hv2 small) ?_
  have a3 : Agree H2.length H2 (H2 ++ [objL 3 (ints xs)]) := Agree.app _ _
  have c3 := (mkL_fresh (H := H2) (L := []) (xs := xs)).sl
  generalize mkL H2.length xs.length = u3 at *
  generalize H2 ++ [objL 3 (ints xs)] = H3 at *
  have h3 := a3.to_pre.length_le
  simp [c3.tup]
  apply hK
  clear hK K
  simp only [andThen]
  have hw3 := hw2.agree a3
  have hv3 := hv2.agree a3
  repeat refine AWp.seq ?_
  refine AWp.region' fun K hK => ?_
  simp [hw.tup]
  refine CallK.det (toIntS H3 w ys hw3 small2) ?_
  have a4 : Agree H3.length H3 (H3 ++ [objL 3 (ints ys)]) := Agree.app _ _
  have c4 := (mkL_fresh (H := H3) (L := []) (xs := ys)).sl
  generalize mkL H3.length ys.length = u4 at *
  generalize H3 ++ [objL 3 (ints ys)] = H4 at *
  have h4 := a4.to_pre.length_le
  simp [c4.tup]
  apply hK
  clear hK K
  simp only [andThen]
  have c3' := c3.agree a4
  repeat refine AWp.seq ?_
  refine AWp.region' fun K hK => ?_
  simp [c3.tup, c4.tup]
  refine CallK.det (ExchangeDistance_impl H4 u3 u4 xs ys c3' c4 (by omega) (by omega)) ?_
  simp
  apply hK
  clear hK K
  simp only [andThen]
  repeat refine AWp.seq ?_
  refine AWp.region' fun K hK => ?_
  simp []
  apply hK
  clear hK K
  simp only [andThen]
  repeat refine AWp.seq ?_
  refine AWp.cf (by simp) ?_
  refine AWp.skip ?_
  simp only [andThen]
  -- the copies are as they were
  have hv4 := hv3.agree a4
  have hw4 := hw3.agree a4
  repeat refine AWp.seq ?_
  refine AWp.region' fun K hK => ?_
  simp [hv.tup, c3.tup]
  refine CallK.det (toIntS H4 v xs hv4 small) ?_
  have a5 : Agree H4.length H4 (H4 ++ [objL 3 (ints xs)]) := Agree.app _ _
  have c5 := (mkL_fresh (H := H4) (L := []) (xs := xs)).sl
  generalize mkL H4.length xs.length = u5 at *
  generalize H4 ++ [objL 3 (ints xs)] = H5 at *
  have h5 := a5.to_pre.length_le
  simp [c5.tup, c3.tup]
  refine CallK.det (eqIntS H5 u3 u5 xs xs (c3'.agree a5) c5 (by omega) (by omega)) ?_
  simp
  apply hK
  clear hK K
  simp only [andThen]
  repeat refine AWp.seq ?_
  refine AWp.cf (by simp) ?_
  refine AWp.skip ?_
  simp only [andThen]
  repeat refine AWp.seq ?_
  refine AWp.region' fun K hK => ?_
  simp [hw.tup, c4.tup]
  refine CallK.det (toIntS H5 w ys (hw4.agree a5) small2) ?_
  have a6 : Agree H5.length H5 (H5 ++ [objL 3 (ints ys)]) := Agree.app _ _
  have c6 := (mkL_fresh (H := H5) (L := []) (xs := ys)).sl
  generalize mkL H5.length ys.length = u6 at *
  generalize H5 ++ [objL 3 (ints ys)] = H6 at *
  simp [c6.tup, c4.tup]
  refine CallK.det (eqIntS H6 u4 u6 ys ys ((c4.agree a5).agree a6) c6 (by omega) (by omega)) ?_
  simp
  apply hK
  clear hK K
  simp only [andThen]
  repeat refine AWp.seq ?_
  refine AWp.cf (by simp) ?_
  refine AWp.skip ?_
  simp only [andThen]
  repeat refine AWp.seq ?_
  refine AWp.region' fun K hK => ?_
  simp []
  apply hK
  clear hK K
  simp only [andThen]
  refine AWp.ret ?_
  have afin : Agree H.length H H6 := (((a02.trans a3 (by omega)).trans a4 (by omega)).trans a5 (by omega)).trans a6 (by omega)
  exact ⟨.inr rfl, afin.to_pre.imp fun L h => h.symm, by simp⟩
end Go.Proofs.Ytdghlhdpcmemjaa.AL

/- The law of the merge distance. No condition. -/
import Derived.Test.YtdghlhdpcmemjaaFB19
namespace Go.Proofs.Ytdghlhdpcmemjaa.AL
open Go Go.Proofs.Ytdghlhdpcmemjaa.Arch
set_option linter.unusedVariables false
set_option linter.unusedSimpArgs false
set_option maxRecDepth 4096

theorem Agree.box {H : AH} {a b : Value} {e : TypeId} : Agree H.length H (H ++ [⟨[a, b], e, 1, 0, false⟩]) := Agree.app _ _
theorem eqMeander_same (H : AH) (a b c d : Value) (xs ys : List Int) (ha : Sl H a (ints xs)) (hb : Sl H b (ints ys)) (hc : Sl H c (ints xs)) (hd : Sl H d (ints ys)) (hx : xs.length ≤ 4294967296) (hy : ys.length ≤ 4294967296) :
    ACall Try.prog 29 [.agg #[a, b], .agg #[c, d]] H (.bool true) H := by
  refine ACall.plain (nt := 17) (rs := [.tmp 4]) (vs := [_]) Try.func29 rfl rfl rfl rfl (by simp [PlainL]) fun wf => ?_
  repeat refine AWp.seq ?_
  refine AWp.region' fun K hK => ?_
  simp [Value.cells, aNew]
  apply hK
  clear hK K
  simp only [andThen]
  have m1 := Mbox.new (H := H) (a := a) (b := b) (e := 38)
  have g1 : Agree H.length H (H ++ [⟨[a, b], 38, 1, 0, false⟩]) := Agree.app _ _
  have m2 := Mbox.new (H := H ++ [⟨[a, b], 38, 1, 0, false⟩]) (a := c) (b := d) (e := 38)
  have g2 : Agree (H ++ [⟨[a, b], 38, 1, 0, false⟩] : AH).length (H ++ [⟨[a, b], 38, 1, 0, false⟩]) ((H ++ [⟨[a, b], 38, 1, 0, false⟩]) ++ [⟨[c, d], 38, 1, 0, false⟩]) := Agree.app _ _
  replace m1 := m1.agree g2 (by simp)
  have ag := g1.trans g2 (by simp)
  clear g1 g2
  simp only [List.append_assoc, List.cons_append, List.nil_append, List.length_append, List.length_cons, List.length_nil, Nat.zero_add] at m1 m2 ag
  generalize H ++ [⟨[a, b], 38, 1, 0, false⟩, ⟨[c, d], 38, 1, 0, false⟩] = G at *
  have ha' := ha.agree ag
  have hb' := hb.agree ag
  have hc' := hc.agree ag
  have hd' := hd.agree ag
  repeat refine AWp.seq ?_
  refine AWp.region' fun K hK => ?_
  simp [m1.f0, m1.l0, m2.f0, m2.l0, ha.tup, hc.tup]
  refine CallK.det (eqIntS G a c xs xs ha' hc' hx hx) ?_
  simp
  apply hK
  clear hK K
  simp only [andThen]
  repeat refine AWp.seq ?_
  refine AWp.cf (by simp) ?_
  refine AWp.skip ?_
  simp only [andThen]
  repeat refine AWp.seq ?_
  refine AWp.region' fun K hK => ?_
  simp [m1.f1, m1.l1, m2.f1, m2.l1, hb.tup, hd.tup]
  refine CallK.det (eqIntS G b d ys ys hb' hd' hy hy) ?_
  simp
  apply hK
  clear hK K
  simp only [andThen]
  repeat refine AWp.seq ?_
  refine AWp.cf (by simp) ?_
  refine AWp.skip ?_
  simp only [andThen]
  repeat refine AWp.seq ?_
  refine AWp.region' fun K hK => ?_
  simp []
  apply hK
  clear hK K
  simp only [andThen]
  refine AWp.ret ?_
  exact ⟨.inr rfl, ag.to_pre.imp fun L h => h.symm, by simp⟩
def cutB (xs ys : List Int) : Bool := pairB xs ys && decide (0 < xs.length)
theorem exSome (H : AH) (a b : Value) (xs ys : List Int) (ha : Sl H a (ints xs)) (hb : Sl H b (ints ys)) (hx : xs.length ≤ 4294967296) (hy : ys.length ≤ 4294967296) : ACall Try.prog 62 [.agg #[a, b]] H (.bool (cutB xs ys)) H := by
  refine ACall.plain (nt := 11) (rs := [.tmp 2]) (vs := [_]) Try.func62 rfl rfl rfl rfl (by simp [PlainL]) fun wf => ?_
  repeat refine AWp.seq ?_
  refine AWp.region' fun K hK => ?_
  simp [Value.cells, aNew]
  apply hK
  clear hK K
  simp only [andThen]
  have mb := Mbox.new (H := H) (a := a) (b := b) (e := 38)
  have ag : Agree H.length H (H ++ [⟨[a, b], 38, 1, 0, false⟩]) := Agree.app _ _
  generalize H ++ [⟨[a, b], 38, 1, 0, false⟩] = G at *
  have l0 := (ha.agree ag).len (P := Try.prog) elem22
  rw [ints_len] at l0
  repeat refine AWp.seq ?_
  refine AWp.region' fun K hK => ?_
  simp [mb.l]
  refine CallK.det (mePair G a b xs ys (ha.agree ag) (hb.agree ag) hx hy) ?_
  by_cases h : pairB xs ys = true
  · rw [h]
    simp [mb.f0, mb.l0, l0, ha.tup]
    apply hK
    clear hK K
    simp only [andThen]
    refine AWp.ret ?_
    exact ⟨.inr rfl, ag.to_pre.imp fun L h => h.symm, by simp [cutB, h]⟩
  · have h : pairB xs ys = false := by simpa using h
    rw [h]
    simp
    apply hK
    clear hK K
    simp only [andThen]
    refine AWp.ret ?_
    exact ⟨.inr rfl, ag.to_pre.imp fun L h => h.symm, by simp [cutB, h]⟩
theorem isCut (H : AH) (a b : Value) (xs ys : List Int) (ha : Sl H a (ints xs)) (hb : Sl H b (ints ys)) (hx : xs.length ≤ 4294967296) (hy : ys.length ≤ 4294967296) : ACall Try.prog 64 [.agg #[a, b]] H (.bool (cutB xs ys)) H := by
  refine ACall.plain (nt := 11) (rs := [.tmp 2]) (vs := [_]) Try.func64 rfl rfl rfl rfl (by simp [PlainL]) fun wf => ?_
  repeat refine AWp.seq ?_
  refine AWp.region' fun K hK => ?_
  simp [Value.cells, aNew]
  apply hK
  clear hK K
  simp only [andThen]
  have mb := Mbox.new (H := H) (a := a) (b := b) (e := 38)
  have ag : Agree H.length H (H ++ [⟨[a, b], 38, 1, 0, false⟩]) := Agree.app _ _
  generalize H ++ [⟨[a, b], 38, 1, 0, false⟩] = G at *
  have l0 := (ha.agree ag).len (P := Try.prog) elem22
  rw [ints_len] at l0
  repeat refine AWp.seq ?_
  refine AWp.region' fun K hK => ?_
  simp [mb.l]
  refine CallK.det (IsPair G a b xs ys (ha.agree ag) (hb.agree ag) hx hy) ?_
  by_cases h : pairB xs ys = true
  · rw [h]
    simp [mb.f0, mb.l0, l0, ha.tup]
    apply hK
    clear hK K
    simp only [andThen]
    refine AWp.ret ?_
    exact ⟨.inr rfl, ag.to_pre.imp fun L h => h.symm, by simp [cutB, h]⟩
  · have h : pairB xs ys = false := by simpa using h
    rw [h]
    simp
    apply hK
    clear hK K
    simp only [andThen]
    refine AWp.ret ?_
    exact ⟨.inr rfl, ag.to_pre.imp fun L h => h.symm, by simp [cutB, h]⟩
def mergeV (xs ys : List Int) : Int := if cutB xs ys then ((colTo xs ys xs.length).2 : Nat) - 1 else 0
theorem MergeDistance_spec (H : AH) (a b : Value) (xs ys : List Int) (ha : Sl H a (ints xs)) (hb : Sl H b (ints ys)) (hx : xs.length ≤ 4294967296) (hy : ys.length ≤ 4294967296) :
    ACall Try.prog 26 [.agg #[a, b]] H (.tuple #[.int .i64 (mergeV xs ys), .bool (cutB xs ys)]) H := by
  refine ACall.plain (nt := 10) (rs := [.tmp 2, .tmp 3]) (vs := [_, _]) Try.func26 rfl rfl rfl rfl (by simp [PlainL]) fun wf => ?_
  repeat refine AWp.seq ?_
  refine AWp.region' fun K hK => ?_
  simp [Value.cells, aNew]
  apply hK
  clear hK K
  simp only [andThen]
  have mb := Mbox.new (H := H) (a := a) (b := b) (e := 38)
  have ag : Agree H.length H (H ++ [⟨[a, b], 38, 1, 0, false⟩]) := Agree.app _ _
  generalize H ++ [⟨[a, b], 38, 1, 0, false⟩] = G at *
  repeat refine AWp.seq ?_
  refine AWp.region' fun K hK => ?_
  simp [mb.l]
  refine CallK.det (exSome G a b xs ys (ha.agree ag) (hb.agree ag) hx hy) ?_
  by_cases h : cutB xs ys = true
  · have hp : pairB xs ys = true := by unfold cutB at h; simp at h; exact h.1
    obtain ⟨h1, h2⟩ := pairB_two hp
    have hcc := (colTo_len (p := xs) (q := ys) xs.length).2
    have hw : IntKind.i64.wrap (((colTo xs ys xs.length).2 : Nat) - 1) = ((colTo xs ys xs.length).2 : Nat) - 1 := wrap_id (by omega) (by omega)
    rw [h]
    simp
    apply hK
    clear hK K
    simp only [andThen]
    repeat refine AWp.seq ?_
    refine AWp.cf (by simp) ?_
    refine AWp.skip ?_
    simp only [andThen]
    repeat refine AWp.seq ?_
    refine AWp.region' fun K hK => ?_
    simp [mb.l]
    refine CallK.det (meCount G a b xs ys (ha.agree ag) (hb.agree ag) h1 h2) ?_
    simp [hw]
    apply hK
    clear hK K
    simp only [andThen]
    refine AWp.ret ?_
    exact ⟨.inr rfl, ag.to_pre.imp fun L h => h.symm, by simp [mergeV, h, hw]⟩
  · have h : cutB xs ys = false := by simpa using h
    rw [h]
    simp
    apply hK
    clear hK K
    simp only [andThen]
    repeat refine AWp.seq ?_
    refine AWp.ct (by simp) ?_
    repeat refine AWp.seq ?_
    refine AWp.region' fun K hK => ?_
    simp []
    apply hK
    clear hK K
    simp only [andThen]
    refine AWp.ret ?_
    exact ⟨.inr rfl, ag.to_pre.imp fun L h => h.symm, by simp [mergeV, h]⟩
theorem MergeDistance_impl (H : AH) (a b : Value) (xs ys : List Int) (ha : Sl H a (ints xs)) (hb : Sl H b (ints ys)) (hx : xs.length ≤ 4294967296) (hy : ys.length ≤ 4294967296) :
    ACall Try.prog 28 [.agg #[a, b]] H (.tuple #[.int .i64 (mergeV xs ys), .bool (cutB xs ys)]) H := by
  refine ACall.plain (nt := 10) (rs := [.tmp 2, .tmp 3]) (vs := [_, _]) Try.func28 rfl rfl rfl rfl (by simp [PlainL]) fun wf => ?_
  repeat refine AWp.seq ?_
  refine AWp.region' fun K hK => ?_
  simp [Value.cells, aNew]
  apply hK
  clear hK K
  simp only [andThen]
  have mb := Mbox.new (H := H) (a := a) (b := b) (e := 38)
  have ag : Agree H.length H (H ++ [⟨[a, b], 38, 1, 0, false⟩]) := Agree.app _ _
  generalize H ++ [⟨[a, b], 38, 1, 0, false⟩] = G at *
  repeat refine AWp.seq ?_
  refine AWp.region' fun K hK => ?_
  simp [mb.l]
  refine CallK.det (isCut G a b xs ys (ha.agree ag) (hb.agree ag) hx hy) ?_
  by_cases h : cutB xs ys = true
  · have hp : pairB xs ys = true := by unfold cutB at h; simp at h; exact h.1
    obtain ⟨h1, h2⟩ := pairB_two hp
    have hcc := (colTo_len (p := xs) (q := ys) xs.length).2
    have hw : IntKind.i64.wrap (((colTo xs ys xs.length).2 : Nat) - 1) = ((colTo xs ys xs.length).2 : Nat) - 1 := wrap_id (by omega) (by omega)
    rw [h]
    simp
    apply hK
    clear hK K
    simp only [andThen]
    repeat refine AWp.seq ?_
    refine AWp.cf (by simp) ?_
    refine AWp.skip ?_
    simp only [andThen]
    repeat refine AWp.seq ?_
    refine AWp.region' fun K hK => ?_
    simp [mb.l]
    refine CallK.det (components G a b xs ys (ha.agree ag) (hb.agree ag) h1 h2) ?_
    simp [hw]
    apply hK
    clear hK K
    simp only [andThen]
    refine AWp.ret ?_
    exact ⟨.inr rfl, ag.to_pre.imp fun L h => h.symm, by simp [mergeV, h, hw]⟩
  · have h : cutB xs ys = false := by simpa using h
    rw [h]
    simp
    apply hK
    clear hK K
    simp only [andThen]
    repeat refine AWp.seq ?_
    refine AWp.ct (by simp) ?_
    repeat refine AWp.seq ?_
    refine AWp.region' fun K hK => ?_
    simp []
    apply hK
    clear hK K
    simp only [andThen]
    refine AWp.ret ?_
    exact ⟨.inr rfl, ag.to_pre.imp fun L h => h.symm, by simp [mergeV, h]⟩

theorem two_sl {H : AH} {xs ys : List Int} : Sl (H ++ [objL 3 (ints xs), objL 3 (ints ys)]) (mkL H.length xs.length) (ints xs) ∧ Sl (H ++ [objL 3 (ints xs), objL 3 (ints ys)]) (mkL (H.length + 1) ys.length) (ints ys) := by
  refine ⟨(mkL_fresh (H := H) (L := [objL 3 (ints ys)])).sl, ?_⟩
  have := (mkL_fresh (H := H ++ [objL 3 (ints xs)]) (L := []) (xs := ys)).sl
  simpa using this
theorem FnExactMergeDistance (H : AH) (a : Value) (xs : List Int) (b : Value) (ys : List Int) (ha : Sl H a (ints xs)) (_ : ∀ x ∈ xs, (Lit.int .i64 x).wf = true) (bx : xs.length ≤ maxLen) (hb : Sl H b (ints ys)) (_ : ∀ x ∈ ys, (Lit.int .i64 x).wf = true) (by_ : ys.length ≤ maxLen) :
    ACall Try.prog 5 [.agg #[a, b]] H (.bool true) H := by
  refine ACall.plain (nt := 40) (rs := [.tmp 2]) (vs := [_]) Try.func5 rfl rfl rfl rfl (by simp [PlainL]) fun wf => ?_
  simp only [maxLen] at bx by_
  repeat refine AWp.seq ?_
  refine AWp.region' fun K hK => ?_
  simp [Value.cells, aNew]
  apply hK
  clear hK K
  simp only [andThen]
  have mb := Mbox.new (H := H) (a := a) (b := b) (e := 35)
  have ag : Agree H.length H (H ++ [⟨[a, b], 35, 1, 0, false⟩]) := Agree.app _ _
  have hlb : H.length < (H ++ [⟨[a, b], 35, 1, 0, false⟩] : AH).length := by simp
  generalize H ++ [⟨[a, b], 35, 1, 0, false⟩] = G at *
  have ha' := ha.agree ag
  have hb' := hb.agree ag
  repeat refine AWp.seq ?_
  refine AWp.region' fun K hK => ?_
  simp []
  apply hK
  clear hK K
  simp only [andThen]
  repeat refine AWp.seq ?_
  refine AWp.region' fun K hK => ?_
  simp [mb.lL]
  refine CallK.det (szMeander G a b xs ys 1048576 ha' hb' (by omega) (by omega) (by omega) (by omega)) ?_
  by_cases c : (xs.length : Int) + ys.length ≤ 1048576
  · rw [if_pos c]
    try simp
    apply hK
    clear hK K
    simp only [andThen]
    repeat refine AWp.seq ?_
    refine AWp.region' fun K hK => ?_
    simp []
    apply hK
    clear hK K
    simp only [andThen]
    repeat refine AWp.seq ?_
    refine AWp.cf (by simp; omega) ?_
    refine AWp.skip ?_
    simp only [andThen]
    repeat refine AWp.seq ?_
    refine AWp.region' fun K hK => ?_
    simp [mb.lL]
    refine CallK.det (toMeander G a b xs ys ha' hb' (by omega) (by omega)) ?_
    have t1 := two_sl (H := G) (xs := xs) (ys := ys)
    have g1 : Agree G.length G (G ++ [objL 3 (ints xs), objL 3 (ints ys)]) := Agree.app _ _
    have n1 : G.length ≤ (G ++ [objL 3 (ints xs), objL 3 (ints ys)]).length := by simp
    generalize mkL G.length xs.length = u1 at *
    generalize mkL (G.length + 1) ys.length = u2 at *
    generalize G ++ [objL 3 (ints xs), objL 3 (ints ys)] = G1 at *
    simp
    refine CallK.det (MergeDistance_spec G1 u1 u2 xs ys t1.1 t1.2 (by omega) (by omega)) ?_
    simp
    apply hK
    clear hK K
    simp only [andThen]
    have ag1 := ag.trans g1 (by omega)
    replace mb := mb.agree g1 hlb
    have ha1 := ha'.agree g1
    have hb1 := hb'.agree g1
    -- a copy in a box, and the program
    repeat refine AWp.seq ?_
    refine AWp.region' fun K hK => ?_
    simp [mb.lL]
    refine CallK.det (toMeander G1 a b xs ys ha1 hb1 (by omega) (by omega)) ?_
    have t2 := two_sl (H := G1) (xs := xs) (ys := ys)
    have g2 : Agree G1.length G1 (G1 ++ [objL 3 (ints xs), objL 3 (ints ys)]) := Agree.app _ _
    have n2 : G1.length + 2 = (G1 ++ [objL 3 (ints xs), objL 3 (ints ys)]).length := by simp
    generalize mkL G1.length xs.length = u3 at *
    generalize mkL (G1.length + 1) ys.length = u4 at *
    generalize G1 ++ [objL 3 (ints xs), objL 3 (ints ys)] = G2 at *
    have m3 := MboxW.new (H := G2) (a := .slice none 0 0) (b := .slice none 0 0) (e := 38)
    have g3 : Agree G2.length G2 (G2 ++ [⟨[.slice none 0 0, .slice none 0 0], 38, 1, 0, false⟩]) := Agree.app _ _
    obtain ⟨G4, s4, m4, l4, k4⟩ := m3.st (u := u3) (v := u4)
    have g4 : Agree G2.length G2 G4 := fun i hi => by rw [k4 i (by omega), g3 i hi]
    simp [alloc38, s4]
    apply hK
    clear hK K
    simp only [andThen]
    have mb4 := (mb.agree g2 (by omega)).agree g4 (by omega)
    have v1 := t2.1.agree g4
    have v2 := t2.2.agree g4
    have a4 := (ha1.agree g2).agree g4
    have b4 := (hb1.agree g2).agree g4
    repeat refine AWp.seq ?_
    refine AWp.region' fun K hK => ?_
    simp [m4.m.l]
    refine CallK.det (MergeDistance_impl G4 u3 u4 xs ys v1 v2 (by omega) (by omega)) ?_
    simp
    apply hK
    clear hK K
    simp only [andThen]
    repeat refine AWp.seq ?_
    refine AWp.region' fun K hK => ?_
    simp []
    apply hK
    clear hK K
    simp only [andThen]
    repeat refine AWp.seq ?_
    refine AWp.cf (by simp) ?_
    refine AWp.skip ?_
    simp only [andThen]
    repeat refine AWp.seq ?_
    refine AWp.drawn' (B := [0, 0, 2, 7, 15]) 5 mixed (by kernel_rfl) (by decide) fun K hK => ?_
    simp [m4.m.l, mb4.lL]
    refine CallD.of (toMeander G4 a b xs ys a4 b4 (by omega) (by omega)) ?_
    have t5 := two_sl (H := G4) (xs := xs) (ys := ys)
    have g5 : Agree G4.length G4 (G4 ++ [objL 3 (ints xs), objL 3 (ints ys)]) := Agree.app _ _
    simp
    refine CallD.of (eqMeander_same _ u3 u4 _ _ xs ys (v1.agree g5) (v2.agree g5) t5.1 t5.2 (by omega) (by omega)) ?_
    simp
    apply hK
    clear hK K
    simp only [andThen]
    repeat refine AWp.seq ?_
    refine AWp.cf (by simp) ?_
    refine AWp.skip ?_
    simp only [andThen]
    repeat refine AWp.seq ?_
    refine AWp.region' fun K hK => ?_
    simp []
    apply hK
    clear hK K
    simp only [andThen]
    refine AWp.ret ?_
    have h1 := g4.to_pre.length_le
    have hG := ag.to_pre.length_le
    exact ⟨.inr rfl, (((ag1.trans g2 (by omega)).trans g4 (by omega)).trans g5 (by omega)).to_pre.imp fun L h => h.symm, by simp⟩
  · rw [if_neg c]
    try simp
    apply hK
    clear hK K
    simp only [andThen]
    repeat refine AWp.seq ?_
    refine AWp.region' fun K hK => ?_
    simp []
    apply hK
    clear hK K
    simp only [andThen]
    repeat refine AWp.seq ?_
    refine AWp.ct (by simp) ?_
    repeat refine AWp.seq ?_
    refine AWp.region' fun K hK => ?_
    simp []
    apply hK
    clear hK K
    simp only [andThen]
    refine AWp.ret ?_
    exact ⟨.inr rfl, ag.to_pre.imp fun L h => h.symm, by simp⟩
end Go.Proofs.Ytdghlhdpcmemjaa.AL

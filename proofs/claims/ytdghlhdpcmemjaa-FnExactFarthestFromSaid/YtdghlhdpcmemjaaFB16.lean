/- How many curves the reference counts; distances. No condition. -/
import Derived.Test.YtdghlhdpcmemjaaFB15
namespace Go.Proofs.Ytdghlhdpcmemjaa.AL
open Go Go.Proofs.Ytdghlhdpcmemjaa.Arch
set_option linter.unusedVariables false
set_option linter.unusedSimpArgs false
set_option maxRecDepth 4096

theorem paint_keep {j : Nat} {c : Int} : ∀ (w ys : List Int), ys[j]? = some c → (paint ys w c)[j]? = some c
  | [], ys, h => h
  | x :: w, ys, h => by
    refine paint_keep w (ys.set x.toNat c) ?_
    by_cases hx : x.toNat = j
    · subst hx
      exact List.getElem?_set_self (List.getElem?_eq_some_iff.1 h).1
    · rw [List.getElem?_set_ne hx]; exact h
theorem paint_hit {x c : Int} : ∀ (w ys : List Int), x ∈ w → x.toNat < ys.length → c ∈ paint ys w c
  | [], ys, h, _ => by cases h
  | y :: w, ys, h, hl => by
    rcases List.mem_cons.1 h with rfl | h
    · exact List.mem_of_getElem? (paint_keep w (ys.set x.toNat c) (List.getElem?_set_self hl))
    · exact paint_hit w (ys.set y.toNat c) h (by simpa using hl)
theorem paint_from {c : Int} : ∀ (w ys : List Int), ∀ y ∈ paint ys w c, y ∈ ys ∨ y = c
  | [], ys, y, h => .inl h
  | x :: w, ys, y, h => by
    rcases paint_from w (ys.set x.toNat c) y h with h | h
    · exact (List.mem_or_eq_of_mem_set h)
    · exact .inr h
theorem col_inv {p q : List Int} (h : Two p q) : ∀ k, k ≤ p.length → (∀ x ∈ (colTo p q k).1, x < ((colTo p q k).2 : Nat)) ∧ (0 < (colTo p q k).2 → (((colTo p q k).2 : Nat) : Int) - 1 ∈ (colTo p q k).1)
  | 0, _ => by
    refine ⟨fun x hx => ?_, fun h => by simp [colTo] at h⟩
    simp [colTo] at hx ⊢
    omega
  | k + 1, hk => by
    obtain ⟨a, b⟩ := col_inv h k (by omega)
    obtain ⟨cl, cc⟩ := colTo_len (p := p) (q := q) k
    rw [colTo_succ]
    unfold colStep
    split
    · exact ⟨a, b⟩
    · refine ⟨fun x hx => ?_, fun _ => ?_⟩
      · rcases paint_from _ _ x hx with hx | rfl
        · have := a x hx
          simp; omega
        · simp; omega
      · have hin : (k : Int) ∈ wayL p q k := by
          refine List.mem_flatMap.2 ⟨0, List.mem_range.2 ?_, by simp [iter]⟩
          exact (h.per_spec (by omega) (by omega)).1
        have := paint_hit (c := ((colTo p q k).2 : Nat)) _ (colTo p q k).1 hin (by simp; omega)
        simpa using this
def mostL (m : Int) (ys : List Int) : Int := ys.foldl (fun m x => if m > x then m else x) m
theorem mostL_take {m : Int} {ys : List Int} {k : Nat} (h : k < ys.length) : mostL m (ys.take (k + 1)) = if mostL m (ys.take k) > ys[k] then mostL m (ys.take k) else ys[k] := by
  unfold mostL
  rw [List.take_succ_eq_append_getElem h, List.foldl_append]
  rfl
theorem mostL_spec : ∀ (ys : List Int) (m c : Int), m ≤ c → (∀ x ∈ ys, x ≤ c) → m ≤ mostL m ys ∧ mostL m ys ≤ c ∧ ∀ x ∈ ys, x ≤ mostL m ys
  | [], m, c, h, _ => ⟨Int.le_refl _, h, fun x hx => by cases hx⟩
  | y :: ys, m, c, h, hall => by
    have hy := hall y (by simp)
    have hm : m ≤ (if m > y then m else y) ∧ y ≤ (if m > y then m else y) ∧ (if m > y then m else y) ≤ c := by split <;> omega
    have e : mostL m (y :: ys) = mostL (if m > y then m else y) ys := rfl
    rw [e]
    generalize (if m > y then m else y) = m' at *
    obtain ⟨a, b, d⟩ := mostL_spec ys m' c hm.2.2 (fun x hx => hall x (by simp [hx]))
    refine ⟨by omega, b, fun x hx => ?_⟩
    rcases List.mem_cons.1 hx with rfl | hx
    · omega
    · exact d x hx
theorem most_col {p q : List Int} (h : Two p q) : mostL (-1) (colTo p q p.length).1 = ((colTo p q p.length).2 : Nat) - 1 := by
  obtain ⟨a, b⟩ := col_inv h p.length (Nat.le_refl _)
  obtain ⟨x, y, z⟩ := mostL_spec (colTo p q p.length).1 (-1) (((colTo p q p.length).2 : Nat) - 1) (by omega) (fun x hx => by have := a x hx; omega)
  by_cases h0 : 0 < (colTo p q p.length).2
  · have := z _ (b h0)
    omega
  · omega

theorem l1Most (H : AH) (a b : Int) : ACall Try.prog 91 [.int .i64 a, .int .i64 b] H (.int .i64 (if a > b then a else b)) H := by
  refine ACall.plain (nt := 10) (rs := [.tmp 4]) (vs := [_]) Try.func91 rfl rfl rfl rfl (by simp [PlainL]) fun wf => ?_
  repeat refine AWp.seq ?_
  refine AWp.region' fun K hK => ?_
  simp []
  apply hK
  clear hK K
  simp only [andThen]
  repeat refine AWp.seq ?_
  refine AWp.region' fun K hK => ?_
  simp []
  apply hK
  clear hK K
  simp only [andThen]
  by_cases h : b < a
  · repeat refine AWp.seq ?_
    refine AWp.ct (by simp [h]) ?_
    repeat refine AWp.seq ?_
    refine AWp.region' fun K hK => ?_
    simp []
    apply hK
    clear hK K
    simp only [andThen]
    refine AWp.ret ?_
    exact ⟨.inr rfl, ⟨[], by simp⟩, by simp [h]⟩
  · repeat refine AWp.seq ?_
    refine AWp.cf (by simp; omega) ?_
    refine AWp.skip ?_
    simp only [andThen]
    repeat refine AWp.seq ?_
    refine AWp.region' fun K hK => ?_
    simp []
    apply hK
    clear hK K
    simp only [andThen]
    refine AWp.ret ?_
    exact ⟨.inr rfl, ⟨[], by simp⟩, by simp [h]⟩

theorem meCount (H : AH) (a b : Value) (p q : List Int) (ha : Sl H a (ints p)) (hb : Sl H b (ints q)) (h : Two p q) (hx : p.length ≤ 12) :
    ACall Try.prog 63 [.agg #[a, b]] H (.int .i64 (colTo p q p.length).2) H := by
  refine ACall.plain (nt := 19) (rs := [.tmp 2]) (vs := [_]) Try.func63 rfl rfl rfl rfl (by simp [PlainL]) fun wf => ?_
  repeat refine AWp.seq ?_
  refine AWp.region' fun K hK => ?_
  simp [Value.cells, aNew]
  apply hK
  clear hK K
  simp only [andThen]
  have mb := Mbox.new (H := H) (a := a) (b := b) (e := 38)
  have ag : Agree H.length H (H ++ [⟨[a, b], 38, 1, 0, false⟩]) := Agree.app _ _
  have hlb : H.length ≤ (H ++ [⟨[a, b], 38, 1, 0, false⟩] : AH).length := by simp
  generalize H ++ [⟨[a, b], 38, 1, 0, false⟩] = G at *
  have hcl := (colTo_len (p := p) (q := q) p.length).1
  have hcc := (colTo_len (p := p) (q := q) p.length).2
  repeat refine AWp.seq ?_
  refine AWp.region' fun K hK => ?_
  simp []
  apply hK
  clear hK K
  simp only [andThen]
  repeat refine AWp.seq ?_
  refine AWp.region' fun K hK => ?_
  simp [mb.l]
  refine CallK.det (meColours G a b p q (ha.agree ag) (hb.agree ag) h hx) ?_
  have fw := mkL_fresh (H := G) (L := []) (xs := (colTo p q p.length).1)
  rw [hcl] at fw
  have agw : Agree G.length G (G ++ [objL 3 (ints (colTo p q p.length).1)]) := Agree.app _ _
  have lw := fw.sl.len (P := Try.prog) elem22
  rw [ints_len, hcl] at lw
  have tw := fw.sl.tup
  replace ag := ag.trans agw hlb
  generalize mkL G.length p.length = wv at *
  generalize G ++ [objL 3 (ints (colTo p q p.length).1)] = G4 at *
  simp [lw, tw]
  apply hK
  clear hK K
  simp only [andThen]
  have hmc := most_col h
  have hbd := mostL_spec (colTo p q p.length).1 (-1) (((colTo p q p.length).2 : Nat) : Int) (by omega) (fun x hx => by have := (col_inv h p.length (Nat.le_refl _)).1 x hx; omega)
  generalize hys : (colTo p q p.length).1 = ys at *
  repeat refine AWp.seq ?_
  refine AWp.block ?_
  refine AWp.loop (fun j env G5 => G5 = G4 ∧ ∃ (m : Nat), j = p.length - m ∧ m ≤ p.length ∧ env 3 = some (.int .i64 (mostL (-1) (ys.take m))) ∧ env 7 = some wv ∧ env 8 = some (.int .i64 p.length) ∧ env 9 = some (.int .i64 m)) (p.length) ⟨rfl, 0, by simp, by omega, by simp [mostL], by simp, by simp, by simp⟩ ?_
  rintro j env G5 ⟨rfl, m, rfl, hm, e3, e7, e8, e9⟩
  repeat refine AWp.seq ?_
  refine AWp.region' fun K hK => ?_
  simp [e8, e9]
  apply hK
  clear hK K
  simp only [andThen]
  by_cases hml : m < p.length
  · repeat refine AWp.seq ?_
    refine AWp.ct (by simp [hml]) ?_
    refine AWp.skip ?_
    simp only [andThen]
    have hml2 : m < ys.length := by omega
    have lx := loadN fw.sl hml2
    rw [← gt_nat hml2] at lx
    repeat refine AWp.seq ?_
    refine AWp.block ?_
    repeat refine AWp.seq ?_
    refine AWp.region' fun K hK => ?_
    simp [e7, e9, idxN fw.sl hml2, lx]
    apply hK
    clear hK K
    simp only [andThen]
    repeat refine AWp.seq ?_
    refine AWp.region' fun K hK => ?_
    simp [e3]
    refine CallK.det (l1Most _ _ _) ?_
    rw [← mostL_take hml2]
    try simp
    apply hK
    clear hK K
    simp only [andThen]
    repeat refine AWp.seq ?_
    refine AWp.region' fun K hK => ?_
    simp [e9, wrap_succ (show m ≤ 4294967296 by omega)]
    apply hK
    clear hK K
    simp only [andThen]
    exact ⟨p.length - (m + 1), by omega, trivial, m + 1, rfl, by omega, by simp, by simp [e7], by simp [e8], by simp⟩
  · repeat refine AWp.seq ?_
    refine AWp.cf (by simp [hml]) ?_
    refine AWp.exit ?_
    simp only [andThen]
    simp
    have hmm : m = p.length := by omega
    rw [hmm, List.take_of_length_le (by omega), hmc] at e3
    have hw : IntKind.i64.wrap (((colTo p q p.length).2 : Nat) : Int) = (((colTo p q p.length).2 : Nat) : Int) := wrap_id (by omega) (by omega)
    repeat refine AWp.seq ?_
    refine AWp.region' fun K hK => ?_
    simp [e3, hw]
    apply hK
    clear hK K
    simp only [andThen]
    refine AWp.ret ?_
    exact ⟨.inr rfl, ag.to_pre.imp fun L h => h.symm, by simp⟩

def distV (p q : List Int) : Int := (p.length : Int) / 2 - ((colTo p q p.length).2 : Nat)
theorem exDistance (H : AH) (a b : Value) (p q : List Int) (ha : Sl H a (ints p)) (hb : Sl H b (ints q)) (h : Two p q) (hx : p.length ≤ 12) : ACall Try.prog 58 [a, b] H (.int .i64 (distV p q)) H := by
  refine ACall.plain (nt := 13) (rs := [.tmp 4]) (vs := [_]) Try.func58 rfl rfl rfl rfl (by simp [PlainL]) fun wf => ?_
  have l0 := ha.len (P := Try.prog) elem22
  rw [ints_len] at l0
  have hcc := (colTo_len (p := p) (q := q) p.length).2
  have hw : IntKind.i64.wrap ((p.length : Int) / 2 - ((colTo p q p.length).2 : Nat)) = distV p q := wrap_id (by omega) (by omega)
  have hw2 : IntKind.i64.wrap ((p.length : Int) / 2) = (p.length : Int) / 2 := wrap_id (by omega) (by omega)
  repeat refine AWp.seq ?_
  refine AWp.region' fun K hK => ?_
  simp []
  apply hK
  clear hK K
  simp only [andThen]
  repeat refine AWp.seq ?_
  refine AWp.region' fun K hK => ?_
  simp [l0, hw2, build38 ha.tup hb.tup ha.one hb.one, ha.tup, hb.tup]
  refine CallK.det (meCount H a b p q ha hb h hx) ?_
  simp [hw2, hw]
  apply hK
  clear hK K
  simp only [andThen]
  refine AWp.ret ?_
  exact ⟨.inr rfl, ⟨[], by simp⟩, by simp [hw2, hw]⟩
theorem pairB_two {xs ys : List Int} (h : pairB xs ys = true) : Two xs ys ∧ xs.length ≤ 12 := by
  unfold pairB at h
  simp only [Bool.and_eq_true, decide_eq_true_eq] at h
  obtain ⟨⟨h1, h2⟩, h3⟩ := h
  unfold sysB at h1 h2
  simp only [Bool.and_eq_true, decide_eq_true_eq] at h1 h2
  exact ⟨⟨(arcB_iff xs).1 h1.2, (arcB_iff ys).1 h2.2, h3.symm⟩, h1.1⟩
end Go.Proofs.Ytdghlhdpcmemjaa.AL

/- The law PiecesAreTheSame. No condition. -/
import Derived.Test.YtbckijeffiofdaaPCV
import Derived.Test.YtbckijeffiofdaaPT6
import Derived.Test.YtbckijeffiofdaaG1
import Derived.Test.YtbckijeffiofdaaG2
import Derived.Test.YtbckijeffiofdaaG3
import Derived.Test.YtbckijeffiofdaaG4
import Derived.Test.YtbckijeffiofdaaG5
import Derived.Test.YtbckijeffiofdaaG6
import Derived.Test.YtbckijeffiofdaaG7
import Derived.Test.YtbckijeffiofdaaG8
import Derived.Test.YtbckijeffiofdaaG9
import Derived.Test.YtbckijeffiofdaaG10
import Derived.Test.YtbckijeffiofdaaG11
import Derived.Test.YtbckijeffiofdaaG12
import Derived.Test.YtbckijeffiofdaaG13
import Derived.Test.YtbckijeffiofdaaG14
import Derived.Test.YtbckijeffiofdaaG15
import Derived.Test.YtbckijeffiofdaaG16
import Derived.Test.YtbckijeffiofdaaG17
import Derived.Test.YtbckijeffiofdaaG18
import Derived.Test.YtbckijeffiofdaaG19
import Derived.Laws.Strings
import Derived.KernelRfl
namespace Go.Proofs.Ytbckijeffiofdaa.AL
open Go Go.Proofs.Ytbckijeffiofdaa.Arch
set_option linter.unusedVariables false
set_option linter.unusedSimpArgs false
set_option maxRecDepth 100000
theorem txt_pos {x : PL} (h : Small x) : seq' (txP 2000000 x) (ByteArray.mk #[]) = false := by
  obtain ⟨_, e, _⟩ := txP_eq (fu := 2000000) h (by omega)
  unfold F_impl_meanderText at e
  obtain ⟨r1, _, e⟩ := bd_some e
  obtain ⟨_, e⟩ := gd_some e
  obtain ⟨r2, _, e⟩ := bd_some e
  obtain ⟨_, e⟩ := gd_some e
  have e := Option.some.inj e
  rw [← e]
  unfold seq' sapp
  rw [ByteArray.toList_eq, ByteArray.toList_eq]
  rw [Bool.eq_false_iff]
  intro h
  have h := eq_of_beq h
  have h2 := congrArg List.length h
  simp at h2
theorem insS_perm {x : ByteArray} : ∀ l : List ByteArray, (insS x l).Perm (x :: l)
  | [] => .refl _
  | y :: r => by
    unfold insS
    split
    · exact (List.Perm.cons y (insS_perm r)).trans (List.Perm.swap x y r)
    · exact .refl _
theorem allS_perm : ∀ (xs l : List ByteArray), (allS l xs).Perm (xs ++ l)
  | [], l => .refl _
  | x :: xs, l => (allS_perm xs (insS x l)).trans ((List.Perm.append_left xs (insS_perm l)).trans List.perm_middle)
theorem sgt_sorted {T : List ByteArray} (h : SortS T) {k : Nat} (hk : k + 1 < T.length) : sgt' (gat (ByteArray.mk #[]) T (k : Int)) (gat (ByteArray.mk #[]) T ((k + 1 : Nat) : Int)) = false := by
  rw [gat_nat (by omega), gat_nat hk]
  have := List.pairwise_iff_getElem.1 h k (k + 1) (by omega) hk (by omega)
  show (!sle' T[k] T[k + 1]) = false
  rw [this]
  rfl
section
variable {R Bk : List PL} {T : List ByteArray}
structure Set3 (R Bk : List PL) (T : List ByteArray) : Prop where
  n1 : R.length ≤ 100
  n2 : Bk.length = R.length
  n3 : T.length = R.length
  m1 : ∀ x ∈ R, F_impl_MeanderText 2000000 x.1 x.2 = some (txP 2000000 x, true)
  m2 : ∀ x ∈ Bk, F_impl_MeanderText 2000000 x.1 x.2 = some (txP 2000000 x, true)
theorem cnt_L (h : Set3 R Bk T) {own : ByteArray} {a0 a1 a2 : List Int} {b0 : Int} {b1 : Bool} {c0 c1 c2 : Int} {d0 d1 : List Int} {e0 e1 : Bool} {f0 : Int} {f1 : Bool} {g1 : Bool} {t1 : ByteArray} {h1 : Bool} : ∀ (d k n a b c : Nat), k + d = R.length → d < n → a ≤ k → b ≤ k → c ≤ k →
    F_laws_FnPiecesAreTheSame_L2 2000000 a0 a1 a2 R Bk T b0 b1 c0 c1 c2 d0 d1 e0 e1 f0 f1 own g1 t1 h1 (R.length : Int) n (a : Int) (b : Int) (c : Int) (k : Int) =
      some (.brk (((a + ((R.drop k).map (txP 2000000)).countP (fun t => seq' t own) : Nat) : Int), ((b + ((Bk.drop k).map (txP 2000000)).countP (fun t => seq' t own) : Nat) : Int), ((c + (T.drop k).countP (fun t => seq' t own) : Nat) : Int), (R.length : Int))) := by
  have n1 := h.n1
  have n2 := h.n2
  have n3 := h.n3
  intro d
  induction d with
  | zero =>
    intro k n a b c hk hn ha hb hc
    cases n with
    | zero => omega
    | succ n =>
      simp only [F_laws_FnPiecesAreTheSame_L2]
      rw [ilt_f (by omega), cond_false, List.drop_eq_nil_of_le (by omega), List.drop_eq_nil_of_le (by omega), List.drop_eq_nil_of_le (by omega), show (k : Int) = (R.length : Int) by omega]
      simp
  | succ d ih =>
    intro k n a b c hk hn ha hb hc
    cases n with
    | zero => omega
    | succ n =>
      have k1 : k < R.length := by omega
      have k2 : k < Bk.length := by omega
      have k3 : k < T.length := by omega
      simp only [F_laws_FnPiecesAreTheSame_L2]
      rw [ilt_t (by omega), cond_true, gd_t (inL_nat k1), gat_nat k1, h.m1 _ (List.getElem_mem k1), bd_of, gd_t (inL_nat k2), gat_nat k2, h.m2 _ (List.getElem_mem k2), bd_of]
      simp only [show bnot true = false from rfl, cond_false, bd_of]
      rw [iadd_id (a := (k : Int)) (by omega) (by omega), show (k : Int) + 1 = ((k + 1 : Nat) : Int) by omega,
        iadd_id (a := (a : Int)) (by omega) (by omega), iadd_id (a := (b : Int)) (by omega) (by omega), iadd_id (a := (c : Int)) (by omega) (by omega)]
      have ea : (bif seq' (txP 2000000 R[k]) own then some ((a : Int) + 1) else some (a : Int)) = some (((a + (if seq' (txP 2000000 R[k]) own then 1 else 0) : Nat) : Int)) := by
        cases seq' (txP 2000000 R[k]) own <;> simp
      have eb : (bif seq' (txP 2000000 Bk[k]) own then some ((b : Int) + 1) else some (b : Int)) = some (((b + (if seq' (txP 2000000 Bk[k]) own then 1 else 0) : Nat) : Int)) := by
        cases seq' (txP 2000000 Bk[k]) own <;> simp
      rw [ea, eb, bd_of, bd_of, gd_t (inL_nat k3), gat_nat k3, List.drop_eq_getElem_cons k1, List.drop_eq_getElem_cons k2, List.drop_eq_getElem_cons k3, List.map_cons, List.map_cons, List.countP_cons, List.countP_cons, List.countP_cons]
      have la : a + (if seq' (txP 2000000 R[k]) own then 1 else 0) ≤ k + 1 := by split <;> omega
      have lb : b + (if seq' (txP 2000000 Bk[k]) own then 1 else 0) ≤ k + 1 := by split <;> omega
      cases hc' : seq' T[k] own
      · rw [cond_false, ih (k + 1) n _ _ c (by omega) (by omega) la lb (by omega)]
        simp only [Option.some.injEq, LR.brk.injEq, Prod.mk.injEq]
        refine ⟨?_, ?_, ?_, trivial⟩
        · congr 1; omega
        · congr 1; omega
        · simp
      · rw [cond_true, show (c : Int) + 1 = ((c + 1 : Nat) : Int) by omega, ih (k + 1) n _ _ (c + 1) (by omega) (by omega) la lb (by omega)]
        simp only [Option.some.injEq, LR.brk.injEq, Prod.mk.injEq]
        refine ⟨?_, ?_, ?_, trivial⟩
        · congr 1; omega
        · congr 1; omega
        · congr 1; simp; omega
structure Set4 (R Bk : List PL) (T : List ByteArray) : Prop extends Set3 R Bk T where
  w : ∀ x ∈ R, F_impl_IsWhole 2000000 x.1 x.2 = some (true, true)
  cc : ∀ x ∈ R, F_impl_ComponentsOf 2000000 x.1 x.2 = some (((compN x.1 x.2 : Nat) : Int), true) ∧ compN x.1 x.2 ≤ 12
  ln : ∀ x ∈ R, x.1.length ≤ 12
  ne : ∀ x ∈ Bk, seq' (txP 2000000 x) (ByteArray.mk #[]) = false
  p1 : (R.map (txP 2000000)).Perm (Bk.map (txP 2000000))
  p2 : (R.map (txP 2000000)).Perm T
  so : SortS T
theorem all_L (h : Set4 R Bk T) {a0 a1 a2 : List Int} {b0 : Int} {b1 : Bool} : ∀ (d k n a b : Nat), k + d = R.length → d < n → a ≤ 12 * k → b ≤ 12 * k →
    F_laws_FnPiecesAreTheSame_L1 2000000 a0 a1 a2 R Bk T b0 b1 (R.length : Int) n (a : Int) (b : Int) (k : Int) =
      some (.brk (((a + ((R.drop k).map fun x => x.1.length).sum : Nat) : Int), ((b + ((R.drop k).map fun x => compN x.1 x.2).sum : Nat) : Int), (R.length : Int))) := by
  have n1 := h.n1
  have n2 := h.n2
  have n3 := h.n3
  intro d
  induction d with
  | zero =>
    intro k n a b hk hn ha hb
    cases n with
    | zero => omega
    | succ n =>
      simp only [F_laws_FnPiecesAreTheSame_L1]
      rw [ilt_f (by omega), cond_false, List.drop_eq_nil_of_le (by omega), show (k : Int) = (R.length : Int) by omega]
      simp
  | succ d ih =>
    intro k n a b hk hn ha hb
    cases n with
    | zero => omega
    | succ n =>
      have k1 : k < R.length := by omega
      have k2 : k < Bk.length := by omega
      obtain ⟨c1, c2⟩ := h.cc _ (List.getElem_mem k1)
      have c3 := h.ln _ (List.getElem_mem k1)
      have cn : ∀ (own : ByteArray), (R.map (txP 2000000)).countP (fun t => seq' t own) = (Bk.map (txP 2000000)).countP (fun t => seq' t own) ∧ (R.map (txP 2000000)).countP (fun t => seq' t own) = T.countP (fun t => seq' t own) := fun own => ⟨h.p1.countP_eq _, h.p2.countP_eq _⟩
      simp only [F_laws_FnPiecesAreTheSame_L1]
      rw [ilt_t (by omega), cond_true, gd_t (inL_nat k1), gat_nat k1, h.w _ (List.getElem_mem k1), bd_of, c1, bd_of, h.m1 _ (List.getElem_mem k1), bd_of, gd_t (inL_nat k2), gat_nat k2, h.m2 _ (List.getElem_mem k2), bd_of]
      simp only
      have cL := fun (own : ByteArray) => cnt_L (c0 := (a : Int)) (c1 := (b : Int)) (c2 := (k : Int)) (a0 := a0) (a1 := a1) (a2 := a2) (b0 := b0) (b1 := b1) (d0 := R[k].1) (d1 := R[k].2) (e0 := true) (e1 := true) (f0 := ((compN R[k].1 R[k].2 : Nat) : Int)) (f1 := true) (own := own) (g1 := true) (t1 := txP 2000000 Bk[k]) (h1 := true) h.toSet3 R.length 0 2000000 0 0 0 (by omega) (by omega) (by omega) (by omega) (by omega)
      simp only [Int.natCast_zero, Nat.zero_add, List.drop_zero, Int.cast_ofNat_Int] at cL
      rw [cL]
      obtain ⟨e1, e2⟩ := cn (txP 2000000 R[k])
      simp only [bd_of, lr, show bnot true = false from rfl, cond_false, h.ne _ (List.getElem_mem k2), ine_f (congrArg (fun n : Nat => (n : Int)) e1), ine_f (congrArg (fun n : Nat => (n : Int)) e2)]
      have last : (bif (ilt 0 (k : Int)) then gd (inL T (isub .i64 (k : Int) 1)) (gd (inL T (k : Int)) (some (sgt' (gat (ByteArray.mk #[]) T (isub .i64 (k : Int) 1)) (gat (ByteArray.mk #[]) T (k : Int))))) else some false) = some false := by
        by_cases h0 : 0 < k
        · rw [ilt_t (by omega), cond_true, isub_id (by omega) (by omega), show (k : Int) - 1 = ((k - 1 : Nat) : Int) by omega, gd_t (inL_nat (by omega)), gd_t (inL_nat (by omega))]
          have := sgt_sorted h.so (k := k - 1) (by omega)
          rw [show k - 1 + 1 = k by omega] at this
          rw [this]
        · rw [ilt_f (by omega), cond_false]
      rw [last, bd_of, cond_false, iadd_id (a := (a : Int)) (by simp only [llen]; omega) (by simp only [llen]; omega), iadd_id (a := (b : Int)) (by omega) (by omega), iadd_id (a := (k : Int)) (by omega) (by omega),
        show (a : Int) + llen R[k].1 = ((a + R[k].1.length : Nat) : Int) by simp only [llen]; omega, show (b : Int) + ((compN R[k].1 R[k].2 : Nat) : Int) = ((b + compN R[k].1 R[k].2 : Nat) : Int) by omega, show (k : Int) + 1 = ((k + 1 : Nat) : Int) by omega,
        ih (k + 1) n _ _ (by omega) (by omega) (by omega) (by omega), List.drop_eq_getElem_cons k1, List.map_cons, List.map_cons, List.sum_cons, List.sum_cons]
      simp only [Option.some.injEq, LR.brk.injEq, Prod.mk.injEq]
      refine ⟨?_, ?_, trivial⟩
      · congr 1; omega
      · congr 1; omega
end
section
variable {p q : List Int} {x : List Int}
theorem goodTwo (hg : goodP p q = true) : Two p q := by
  obtain ⟨g1, g2, g3, g4, g5, g6, g7, g8⟩ := good_of hg
  exact ⟨g7, g8, by omega⟩
theorem two_good (h : Two p q) (hl : p.length ≤ 12) : goodP p q = true := good_mk h.sp h.sq (by have := h.len; omega) hl
theorem whole_of (h : Two p q) (hl : p.length ≤ 12) (h0 : 0 < p.length) (hn : ∀ A B, ¬ Cl p q A B) : F_impl_IsWhole 2000000 p q = some (true, true) := by
  have hlen := h.len
  have hB : Brief (p, q) := ⟨by show p.length ≤ 14; omega, by show q.length ≤ 14; omega⟩
  obtain ⟨S, e, hS, hT⟩ := siAll_eq (fu := 2000000) (p := p) (q := q) (by omega) (by omega) (by omega)
  have hs : S = [] := by
    cases S with
    | nil => rfl
    | cons r S =>
      obtain ⟨i, j, _, a1, a2, a3, a4, a5, a6⟩ := hT r (by simp)
      exact absurd ⟨by omega, by omega, by omega, by rw [show ((i.toNat : Nat) : Int) = i by omega, show ((j.toNat : Nat) : Int) = j by omega]; exact a5, by rw [show ((i.toNat : Nat) : Int) = i by omega, show ((j.toNat : Nat) : Int) = j by omega]; exact a6⟩ (hn i.toNat j.toNat)
  subst hs
  unfold F_impl_IsWhole F_impl_Meander_isWhole
  rw [IsPair_go hB (by omega), two_good h hl, str_eq, e, ilt_t (show (0 : Int) < llen p by simp only [llen]; omega)]
  rfl
theorem mt_of (h : Two p q) (hl : p.length ≤ 12) : F_impl_MeanderText 2000000 p q = some (txP 2000000 (p, q), true) := by
  have hlen := h.len
  have hB : Brief (p, q) := ⟨by show p.length ≤ 14; omega, by show q.length ≤ 14; omega⟩
  have hs : Small (p, q) := ⟨by show p.length ≤ 100; omega, by show q.length ≤ 100; omega⟩
  obtain ⟨_, e, _⟩ := txP_eq (fu := 2000000) hs (by omega)
  simp only at e
  unfold F_impl_MeanderText
  rw [IsPair_go hB (by omega), two_good h hl, bd_of, show bnot true = false from rfl, cond_false, e]
  rfl
theorem allS_len (xs l : List ByteArray) : (allS l xs).length = xs.length + l.length := by rw [(allS_perm xs l).length_eq, List.length_append]
theorem cut_data (hg : goodP p q = true) (h0 : 0 < p.length) : ∃ (R Bk : List PL) (T : List ByteArray), F_impl_PiecesOf 2000000 p q = some (R, true) ∧ F_spec_PiecesOf 2000000 p q = some (R, true) ∧ F_impl_PiecesBack 2000000 p q = some (Bk, true) ∧ F_spec_PiecesBack 2000000 p q = some (Bk, true) ∧
    F_impl_PieceTexts 2000000 p q = some (T, true) ∧ F_spec_PieceTexts 2000000 p q = some (T, true) ∧ Set4 R Bk T ∧ (R.map fun x => x.1.length).sum = p.length ∧ (R.map fun x => compN x.1 x.2).sum = compN p q ∧ (∀ x ∈ R, Small x) ∧ (∀ x ∈ Bk, Small x) ∧ (∀ x ∈ R, Two x.1 x.2 ∧ 0 < x.1.length ∧ x.1.length ≤ 12) ∧ F_impl_IsSimple 2000000 p q = some (ieq (llen R) (iquo .i64 (llen p) 2), true) ∧ F_spec_IsSimple 2000000 p q = some (ieq (llen R) (iquo .i64 (llen p) 2), true) := by
  have two := goodTwo hg
  obtain ⟨g1, g2, g3, g4, g5, g6, g7, g8⟩ := good_of hg
  obtain ⟨e1, e2⟩ := cut_eq (fu := 2000000) (p := p) (q := q) (by omega) (by omega) (by omega)
  have hc : ((sysB p && sysB q) && decide (p.length = q.length) && decide (0 < p.length)) = true := by
    have : goodP p q = ((sysB p && sysB q) && decide (p.length = q.length)) := rfl
    rw [← this, hg]
    simp [h0]
  rw [hc] at e1 e2
  obtain ⟨R, r1, r2, r3, r4, r5⟩ := pieces_eq (fu := 2000000) (b := false) g1 (by omega) (by omega) g5 g6
  obtain ⟨Bk, s1, s2, s3, s4, s5⟩ := pieces_eq (fu := 2000000) (b := true) g1 (by omega) (by omega) g5 g6
  have r6 := r5 h0
  have cR := cuts_pieces (fu := 2000000) (by omega) two (by omega) r1
  have cB := cuts_pieces (fu := 2000000) (by omega) two (by omega) s1
  have perm := cuts_perm _ p q R Bk rfl two cR cB
  obtain ⟨a1, a2, a3, a4⟩ := cuts_all two cR
  obtain ⟨b1, b2, b3, b4⟩ := cuts_all two cB
  have i := ptI_L (fu := 2000000) (R := R) (by omega) r4 (by omega) R [] [] 0 2000000 rfl rfl (by omega) rfl
  have s := ptS_L (fu := 2000000) (R := R) (by omega) r4 (by omega) R [] [] 0 2000000 rfl rfl (by omega) rfl
  rw [Int.natCast_zero] at i s
  have so := sort_eq (X := R.map (txP 2000000)) (by simp; omega)
  have n1 : (!true) = false := rfl
  have n2 : bnot true = false := rfl
  refine ⟨R, Bk, allS [] (R.map (txP 2000000)), ?_, ?_, ?_, ?_, ?_, ?_, ⟨⟨by omega, perm.length_eq.symm, by rw [allS_len]; simp, fun x hx => mt_of (a1 x hx).1 (by have := (a1 x hx).2.1; omega), fun x hx => mt_of (b1 x hx).1 (by have := (b1 x hx).2.1; omega)⟩,
    fun x hx => whole_of (a1 x hx).1 (by have := (a1 x hx).2.1; omega) (a4 h0 x hx) (a1 x hx).2.2, fun x hx => compOf (two_good (a1 x hx).1 (by have := (a1 x hx).2.1; omega)), fun x hx => by have := (a1 x hx).2.1; omega, fun x hx => txt_pos (s4 x hx), perm.map _,
    by have := allS_perm (R.map (txP 2000000)) []; rw [List.append_nil] at this; exact this.symm, allS_sort _ _ (by simp [SortS])⟩, a2, a3, r4, s4, fun x hx => ⟨(a1 x hx).1, a4 h0 x hx, by have := (a1 x hx).2.1; omega⟩, ?_, ?_⟩
  · unfold F_impl_PiecesOf
    rw [e1, bd_of, n2, cond_false, r2, bd_of]
  · unfold F_spec_PiecesOf
    rw [e2, bd_of, n1, cond_false, r1, bd_of]
  · unfold F_impl_PiecesBack
    rw [e1, bd_of, n2, cond_false, s2, bd_of]
  · unfold F_spec_PiecesBack
    rw [e2, bd_of, n1, cond_false, s1, bd_of]
  · unfold F_impl_PieceTexts
    rw [e1, bd_of, n2, cond_false, r2, bd_of]
    simp only [llen]
    rw [i, bd_of, List.nil_append, so, bd_of]
  · unfold F_spec_PieceTexts
    rw [e2, bd_of, n1, cond_false, r1, bd_of]
    simp only [llen]
    rw [s, bd_of]
  · unfold F_impl_IsSimple F_impl_Meander_isSimple
    rw [e1, bd_of, n2, cond_false, r2, bd_of, bd_of]
  · unfold F_spec_IsSimple F_spec_siSimple
    rw [e2, bd_of, n1, cond_false, r1, bd_of, bd_of]
theorem cut_none (hB : Brief (p, q)) (h : goodP p q = false ∨ p.length = 0) : F_impl_PiecesOf 2000000 p q = some ([], false) ∧ F_spec_PiecesOf 2000000 p q = some ([], false) ∧ F_impl_PiecesBack 2000000 p q = some ([], false) ∧ F_spec_PiecesBack 2000000 p q = some ([], false) ∧
    F_impl_PieceTexts 2000000 p q = some ([], false) ∧ F_spec_PieceTexts 2000000 p q = some ([], false) ∧ F_impl_IsSimple 2000000 p q = some (false, false) ∧ F_spec_IsSimple 2000000 p q = some (false, false) := by
  have h1 : p.length ≤ 14 := hB.1
  have h2 : q.length ≤ 14 := hB.2
  obtain ⟨e1, e2⟩ := cut_eq (fu := 2000000) (p := p) (q := q) (by omega) (by omega) (by omega)
  have hc : ((sysB p && sysB q) && decide (p.length = q.length) && decide (0 < p.length)) = false := by
    have e : goodP p q = ((sysB p && sysB q) && decide (p.length = q.length)) := rfl
    rw [← e]
    rcases h with h | h
    · rw [h]; rfl
    · rw [h]; simp
  rw [hc] at e1 e2
  have n1 : (!false) = true := rfl
  have n2 : bnot false = true := rfl
  unfold F_impl_PiecesOf F_spec_PiecesOf F_impl_PiecesBack F_spec_PiecesBack F_impl_PieceTexts F_spec_PieceTexts F_impl_IsSimple F_spec_IsSimple
  rw [e1, e2]
  simp only [bd_of, n1, n2, cond_true, and_self]
theorem comp10 : compN [1, 0] [1, 0] = 1 := by decide
theorem comp_two (h : Two p q) (hl : p.length = 2) : compN p q = 1 := by
  have hq := h.len
  have key : ∀ r : List Int, ArcS r → r.length = 2 → r = [1, 0] := fun r ha hr => by
    match r, hr with
    | [a, b], _ =>
      have a0 := ArcS.lo' ha 0 (by omega) (by simp)
      have a1 := ArcS.hi' ha 0 (by omega) (by simp)
      have a2 := ArcS.ne' ha 0 (by omega) (by simp)
      have b0 := ArcS.lo' ha 1 (by omega) (by simp)
      have b1 := ArcS.hi' ha 1 (by omega) (by simp)
      have b2 := ArcS.ne' ha 1 (by omega) (by simp)
      simp [gat_eq] at a0 a1 a2 b0 b1 b2
      have : a = 1 := by omega
      have : b = 0 := by omega
      subst_vars
      rfl
  rw [key p h.sp hl, key q h.sq (by omega)]
  exact comp10
theorem sum_two : ∀ (R : List PL), (∀ x ∈ R, Two x.1 x.2 ∧ 0 < x.1.length ∧ x.1.length ≤ 12) → 2 * R.length ≤ (R.map fun x => x.1.length).sum ∧ ((R.map fun x => x.1.length).sum = 2 * R.length → (R.map fun x => compN x.1 x.2).sum = R.length)
  | [], _ => ⟨by simp, by simp⟩
  | x :: R, h => by
    obtain ⟨i1, i2⟩ := sum_two R fun y hy => h y (by simp [hy])
    obtain ⟨t, h0, h1⟩ := h x (by simp)
    have := arc_two t.sp h0
    simp only [List.map_cons, List.sum_cons, List.length_cons]
    refine ⟨by omega, fun e => ?_⟩
    rw [comp_two t (by omega), i2 (by omega)]
    omega
theorem even_of (hg : goodP p q = true) : p.length % 2 = 0 := by
  simp only [goodP, sysB, arcB, Bool.and_eq_true, decide_eq_true_eq] at hg
  exact hg.1.1.2.1
theorem sim_ok (w : Bytes x) : (
    bd (F_spec_DrawIsSimple 2000000 x) fun r23 =>
    bd (F_impl_IsSimple 2000000 r23.1 r23.2) fun r24 =>
    bd (F_spec_IsSimple 2000000 r23.1 r23.2) fun r25 =>
    bd (
      bif (bne' r24.2 r25.2) then
        some true
      else
        some (bne' r24.1 r25.1)) fun s380 =>
    bif s380 then
      some false
    else
      bif r24.1 then
        bd (F_impl_ComponentsOf 2000000 r23.1 r23.2) fun r26 =>
        bif r26.2 then
          some (ieq r26.1 (iquo .i64 (llen r23.1) 2))
        else
          some false
      else
        some true) = some true := by
  obtain ⟨p, q, e, hB⟩ := drawStretches_ok (fu := 2000000) w (by omega)
  have n1 : bnot true = false := rfl
  have hd : F_spec_DrawIsSimple 2000000 x = some (p, q) := by
    unfold F_spec_DrawIsSimple
    rw [e]
    rfl
  rw [hd, bd_of]
  simp only
  by_cases h : goodP p q = true ∧ 0 < p.length
  · obtain ⟨hg, h0⟩ := h
    obtain ⟨R, Bk, T, _, _, _, _, _, _, S4, sl, sc, _, _, tw, i1, i2⟩ := cut_data hg h0
    obtain ⟨g1, g2, _⟩ := good_of hg
    obtain ⟨d1, d2⟩ := compOf hg
    rw [i1, i2]
    simp only [bd_of, bne_s, cond_false]
    cases hs : ieq (llen R) (iquo .i64 (llen p) 2)
    · rfl
    · rw [cond_true, d1, bd_of, cond_true]
      have ev := even_of hg
      have hq2 : iquo .i64 (llen p) 2 = ((p.length / 2 : Nat) : Int) := by
        unfold iquo llen
        rw [Int.tdiv_eq_ediv_of_nonneg (by omega)]
        exact wrap_id (by omega) (by omega)
      rw [hq2] at hs ⊢
      rw [ieq_eq] at hs
      have hs := eq_of_beq hs
      simp only [llen] at hs
      obtain ⟨s1, s2⟩ := sum_two R tw
      have s3 := s2 (by omega)
      rw [ieq_t (by omega)]
  · obtain ⟨_, _, _, _, _, _, i1, i2⟩ := cut_none hB (by
      cases hg : goodP p q
      · exact .inl rfl
      · exact .inr (by
          have : ¬ 0 < p.length := fun h0 => h ⟨hg, h0⟩
          omega))
    rw [i1, i2]
    rfl
theorem yPairs_L {fu : Nat} {X : List PL} (hX : X.length ≤ 4294967296) (hf : 100000 < fu) (hs : ∀ x ∈ X, Small x) : ∀ (d k n : Nat), k + d = X.length → d < n → F_laws_yPairs_L1 fu X X (X.length : Int) n (k : Int) = some (.brk (X.length : Int)) := by
  intro d
  induction d with
  | zero =>
    intro k n hk hn
    cases n with
    | zero => omega
    | succ n =>
      have : k = X.length := by omega
      subst this
      simp only [F_laws_yPairs_L1]
      rw [ilt_f (by omega), cond_false]
  | succ d ih =>
    intro k n hk hn
    cases n with
    | zero => omega
    | succ n =>
      have hk' : k < X.length := by omega
      obtain ⟨s1, s2⟩ := hs _ (List.getElem_mem hk')
      simp only [F_laws_yPairs_L1]
      rw [ilt_t (by omega), cond_true, gd_t (inL_nat hk'), gd_t (inL_nat hk'), gat_nat hk', yPair_eq s1 s2 (by omega), bd_of, show bnot true = false from rfl, cond_false, iadd_id (by omega) (by omega)]
      exact ih (k + 1) n (by omega) (by omega)
theorem yPairs_eq {fu : Nat} {X : List PL} (hX : X.length ≤ 50000) (hf : 100000 < fu) (hs : ∀ x ∈ X, Small x) : F_laws_yPairs fu X X = some true := by
  unfold F_laws_yPairs
  have h := yPairs_L (fu := fu) (X := X) (by omega) hf hs X.length 0 fu (by omega) (by omega)
  rw [Int.natCast_zero] at h
  rw [ine_f rfl, cond_false]
  simp only [llen]
  rw [h]
  rfl
theorem yTexts_L {fu : Nat} {X : List ByteArray} (hX : X.length ≤ 50000) : ∀ (d k n : Nat), k + d = X.length → d < n → F_laws_yTexts_L1 fu X X (X.length : Int) n (k : Int) = some (.brk (X.length : Int)) := by
  intro d
  induction d with
  | zero =>
    intro k n hk hn
    cases n with
    | zero => omega
    | succ n =>
      have : k = X.length := by omega
      subst this
      simp only [F_laws_yTexts_L1]
      rw [ilt_f (by omega), cond_false]
  | succ d ih =>
    intro k n hk hn
    cases n with
    | zero => omega
    | succ n =>
      simp only [F_laws_yTexts_L1]
      rw [ilt_t (by omega), cond_true, gd_t (inL_nat (by omega)), gd_t (inL_nat (by omega)), show ∀ t, sne' t t = false from fun t => by simp [sne'], cond_false, iadd_id (by omega) (by omega)]
      exact ih (k + 1) n (by omega) (by omega)
theorem yTexts_eq {fu : Nat} {X : List ByteArray} (hX : X.length ≤ 50000) (hf : 100000 < fu) : F_laws_yTexts fu X X = some true := by
  unfold F_laws_yTexts
  have h := yTexts_L (fu := fu) (X := X) hX X.length 0 fu (by omega) (by omega)
  rw [Int.natCast_zero] at h
  rw [ine_f rfl, cond_false]
  simp only [llen]
  rw [h]
  rfl
theorem law_FnPiecesAreTheSame {code more : List Int} (lc : code.length ≤ maxLen) (wc : ∀ n ∈ code, (Lit.int .u8 n).wf = true) (lm : more.length ≤ maxLen) (wm : ∀ n ∈ more, (Lit.int .u8 n).wf = true) : F_laws_FnPiecesAreTheSame 2000000 code more = some true := by
  have hm := sim_ok (x := more) wm
  have n1 : bnot true = false := rfl
  have n2 : bnot false = true := rfl
  unfold F_laws_FnPiecesAreTheSame
  obtain ⟨b, hb⟩ : ∃ b, F_laws_big 2000000 code more = some b := by
    unfold F_laws_big
    cases ilt 1048576 (llen code)
    · exact ⟨_, rfl⟩
    · exact ⟨_, rfl⟩
  rw [hb, bd_of]
  cases b
  case true => rfl
  obtain ⟨p, q, e, hB⟩ := drawStretches_ok (fu := 2000000) (x := code) wc (by omega)
  have hd : F_spec_DrawPiecesOf 2000000 code = some (p, q) := by
    unfold F_spec_DrawPiecesOf
    rw [e]
    rfl
  rw [cond_false, hd, bd_of]
  simp only
  by_cases h : goodP p q = true ∧ 0 < p.length
  · obtain ⟨hg, h0⟩ := h
    obtain ⟨R, Bk, T, c1, c2, c3, c4, c5, c6, S4, sl, sc, m1, m2, tw, _, _⟩ := cut_data hg h0
    obtain ⟨d1, d2⟩ := compOf hg
    have k1 := S4.n1
    have k2 := S4.n2
    have k3 := S4.n3
    have y1 := yPairs_eq (fu := 2000000) (X := R) (by omega) (by omega) m1
    have y2 := yPairs_eq (fu := 2000000) (X := Bk) (by omega) (by omega) m2
    have y3 := yTexts_eq (fu := 2000000) (X := T) (by omega) (by omega)
    have al := all_L S4 (a0 := more) (a1 := p) (a2 := q) (b0 := ((compN p q : Nat) : Int)) (b1 := true) R.length 0 2000000 0 0 (by omega) (by omega) (by omega) (by omega)
    simp only [Nat.zero_add, List.drop_zero, sl, sc, Int.natCast_zero] at al
    rw [c1, c2, c3, c4, c5, c6]
    simp only [bd_of, bne_s, cond_false, y1, y2, y3, n1, ine_f (show llen R = llen Bk by simp only [llen]; omega), ine_f (show llen T = llen R by simp only [llen]; omega), cond_true, d1]
    simp only [llen] at al ⊢
    rw [al]
    simp only [bd_of, lr, ine_s, cond_false]
    exact hm
  · obtain ⟨c1, c2, c3, c4, c5, c6, _, _⟩ := cut_none hB (by
      cases hg : goodP p q
      · exact .inl rfl
      · exact .inr (by
          have : ¬ 0 < p.length := fun h0 => h ⟨hg, h0⟩
          omega))
    have y1 := yPairs_eq (fu := 2000000) (X := []) (by simp) (by omega) (by simp)
    have y3 := yTexts_eq (fu := 2000000) (X := []) (by simp) (by omega)
    rw [c1, c2, c3, c4, c5, c6]
    simp only [bd_of, bne_s, cond_false, y1, y3, n1, ine_s]
    exact hm
end
end Go.Proofs.Ytbckijeffiofdaa.AL

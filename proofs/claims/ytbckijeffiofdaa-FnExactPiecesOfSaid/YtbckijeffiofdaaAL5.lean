/- AL, part 5: make, slicing, addresses, copy, scalars. No condition. -/
import Derived.Test.YtbckijeffiofdaaAL4
namespace Go.Proofs.Ytbckijeffiofdaa.AL
open Go Go.RowKit
set_option linter.unusedVariables false
set_option linter.unusedSimpArgs false

section
variable {P : Program} {β : BM} {H : AH} {w : World}

/-! ### make -/
def aMake (P : Program) (H : AH) (t : TypeId) (l c : Value) : Option (Value × AH) := match l, c with
  | .int .i64 l, .int .i64 c => match elemT P t with
    | some e => match einfo P e with
      | some q => if q.size = 1 ∧ 0 ≤ l ∧ l = c ∧ l ≤ 4294967296 then some (.slice (some ⟨H.length, 0, some 0⟩) l.toNat l.toNat, aNew H (List.replicate l.toNat (q.zero.cells.getD 0 default)) e 1) else none
      | none => none
    | none => none
  | _, _ => none
theorem wrap_small {n : Int} (h0 : 0 ≤ n) (h1 : n ≤ 4294967296) : IntKind.i64.wrap n = n := by
  simp [IntKind.wrap, IntKind.bits, IntKind.signed]
  omega
theorem aMake_sound (R : Rel β H w) {t : TypeId} {l l' c c' v : Value} {H' : AH} (h : aMake P H t l c = some (v, H')) (hl : T3 β l l') (hc : T3 β c c') :
    ∃ β' w' v', (Instr.makeSlice t l' c').run P w = .ok v' w' ∧ Rel β' H' w' ∧ Ext H.length β w β' w' ∧ T3 β' v v' := by
  unfold aMake at h
  split at h
  case h_2 => cases h
  rename_i l c
  have := hl.int
  subst this
  have := hc.int
  subst this
  split at h
  case h_2 => cases h
  rename_i e he
  have hu := elemT_some he
  split at h
  case h_2 => cases h
  rename_i q hq
  obtain ⟨i, hi, hz, hsz, hby, hzs, hpos, hcz, hb⟩ := einfo_some hq
  split at h
  case isFalse => cases h
  rename_i hcond
  obtain ⟨hs1, h0, rfl, hlim⟩ := hcond
  cases h
  obtain ⟨n, rfl⟩ := Int.eq_ofNat_of_zero_le h0
  simp only [Int.toNat_natCast]
  have hc1 : q.zero.cells.size = 1 := by omega
  have hz1 : q.zero.cells = #[q.zero.cells.getD 0 default] := by
    apply Array.ext
    · simp [hc1]
    · intro j h1 h2
      have : j = 0 := by omega
      subst this
      simp [hc1]
  have tz : T1 β (q.zero.cells.getD 0 default) (q.zero.cells.getD 0 default) := by
    have h1 := constV_cells (β := β) hcz
    rw [hz1] at h1
    cases h1 with
    | cons h _ => exact h
  obtain ⟨β', R', E, hn⟩ := push_sound (w1 := w) R ⟨rfl, rfl, rfl, rfl⟩ (List.replicate n (q.zero.cells.getD 0 default)) (List.replicate n (q.zero.cells.getD 0 default)) e 1 (by
    rw [List.take_of_length_le (by simp)]; exact All2.replicate tz n)
  refine ⟨β', _, _, ?_, R', E, new_sl hn rfl rfl rfl (Nat.le_refl _) (fun _ => rfl) (by simp)⟩
  have w1 := wrap_small h0 hlim
  have hbb : (i.bytes : Int) * n ≤ 16384 * 4294967296 := by
    rw [hby]
    have : q.bytes * n ≤ 16384 * 4294967296 := Nat.mul_le_mul hb (by omega)
    omega
  have hng : ¬ ((281474976710656 : Int) < (i.bytes : Int) * n) := by omega
  have hneg : ¬ ((n : Int) < 0) := by omega
  have harr : (Array.map (fun x => q.zero.cells[x % q.zero.cells.size]!) (Array.range n)) = (List.replicate n (q.zero.cells.getD 0 default)).toArray := by
    apply Array.ext'
    simp only [Array.toList_map, Array.toList_range, List.toList_toArray]
    apply List.ext_getElem
    · simp
    · intro j h1 h2
      simp [hc1, Nat.mod_one]
  by_cases hn0 : n = 0
  · subst hn0
    have w0 : IntKind.i64.wrap 0 = 0 := by decide
    simp [Instr.makeSlice, run_underlying hu, asInt, asIntOf, typeInfo, hi, w0, askRoom, sizeOf, newRow]
    rw [show Array.map (fun x : Nat => (default : Value)) (Array.range 0) = #[] from by simp]
  · have hnz : ¬ (n * i.size = 0) := by rw [hsz, hs1]; omega
    have hsz1 : i.size = 1 := by omega
    simp [Instr.makeSlice, run_underlying hu, asInt, asIntOf, typeInfo, zeroValue, hi, hz, w1, hng, askRoom, sizeOf, newRow, hsz1, hn0, harr]
    split <;> (intro hx; exact absurd hx hneg)

/-! ### Slicing and addresses -/
def idxV : Option Value → Nat → Option Nat
  | none, d => some d
  | some (.int .i64 n), _ => if 0 ≤ n then some n.toNat else none
  | some _, _ => none
def aSlice (P : Program) (H : AH) (t : TypeId) (x : Value) (lo hi mx : Option Value) : Option Value :=
  match x with
  | .string s => match P.underlying t, idxV lo 0, idxV hi s.size, mx with
    | some .string, some l, some h, none => if l ≤ h ∧ h ≤ s.size then some (.string (s.extract l h)) else none
    | _, _, _, _ => none
  | .slice none 0 0 => match elemT P t, idxV lo 0, idxV hi 0, mx with
    | some e, some 0, some 0, none => match sizeT P e with
      | some _ => some (.slice none 0 0)
      | none => none
    | _, _, _, _ => none
  | .slice (some ⟨i, off, some g⟩) n c => match alive H i g, elemT P t, idxV lo 0, idxV hi n with
    | some o, some e, some l, some h => match sizeT P e with
      | some size => if o.sz = size ∧ l ≤ h ∧ h ≤ n then match mx with
          | none => some (.slice (some ⟨i, off + l * size, some g⟩) (h - l) (if c = n ∧ h = n then h - l else h - l + 1))
          | some (.int .i64 m) => if (h : Int) ≤ m ∧ m ≤ n ∧ hi.isSome then some (.slice (some ⟨i, off + l * size, some g⟩) (h - l) (if m.toNat = h then h - l else h - l + 1)) else none
          | _ => none
        else none
      | none => none
    | _, _, _, _ => none
  | _ => none
theorem run_bound {x : Value} {y n : Nat} {code : BoundsCode} (hx : x = .int .i64 (n : Int)) (h : n ≤ y) : (Instr.sliceBound x y code).run P w = .ok n w := by
  subst hx
  have : (n : Int) ≤ (y : Int) := by omega
  simp [Instr.sliceBound, asIntOf, this]
theorem idxV_some {β : BM} {x x' : Option Value} {d n : Nat} (h : idxV x d = some n) (hx : ∀ v, x = some v → ∃ v', x' = some v' ∧ T3 β v v') (hn : x = none → x' = none) : (x' = none ∧ x = none ∧ n = d) ∨ (x' = some (.int .i64 (n : Int)) ∧ x = some (.int .i64 (n : Int))) := by
  unfold idxV at h
  split at h
  · cases h; exact .inl ⟨hn rfl, rfl, rfl⟩
  · rename_i m d'
    split at h
    · cases h
      obtain ⟨v', h1, t⟩ := hx _ rfl
      have := t.int
      subst this
      obtain ⟨q, rfl⟩ := Int.eq_ofNat_of_zero_le (by assumption)
      exact .inr ⟨by simpa using h1, by simp⟩
    · cases h
  · cases h
end

end Go.Proofs.Ytbckijeffiofdaa.AL

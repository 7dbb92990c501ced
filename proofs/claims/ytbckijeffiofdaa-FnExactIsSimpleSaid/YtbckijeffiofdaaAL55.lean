/- AL, part 5b: so many zeros appended to nil; the room of nil. No condition. -/
import Derived.Test.YtbckijeffiofdaaAL5
namespace Go.Proofs.Ytbckijeffiofdaa.AL
open Go Go.RowKit
set_option linter.unusedVariables false
set_option linter.unusedSimpArgs false
section
variable {P : Program} {β : BM} {H : AH} {w : World}
def intT (P : Program) (t : TypeId) : Bool := match P.underlying t with
  | some (.int _) => true
  | _ => false
def aApM (P : Program) (H : AH) (t t2 : TypeId) (s x : Value) : Option (Value × AH) := match s, x with
  | .slice none 0 0, .int .i64 n => match elemT P t with
    | some e => match einfo P e with
      | some q => if q.size = 1 ∧ intT P t2 = true ∧ 0 < n ∧ n ≤ 4294967296 then some (.slice (some ⟨H.length, 0, some 0⟩) n.toNat (n.toNat + 1), aNew H (List.replicate n.toNat (q.zero.cells.getD 0 default)) e 1) else none
      | none => none
    | none => none
  | _, _ => none
def aCap (P : Program) (t : TypeId) (x : Value) : Option Value := match P.underlying t, x with
  | some (.slice _), .slice none 0 0 => some (.int .i64 0)
  | _, _ => none
theorem aCap_sound (R : Rel β H w) {t ty : TypeId} {x x' v : Value} (h : aCap P t x = some v) (hx : T3 β x x') : (Builtin.cap_ #[t] ty #[x']).run P w = .ok v w ∧ plainV v = true := by
  unfold aCap at h
  split at h
  · rename_i e hu
    cases h
    have := hx.of_plain rfl
    subst this
    exact ⟨by simp [Builtin.cap_, run_underlying hu]; rfl, rfl⟩
  · cases h
theorem aApM_sound (R : Rel β H w) {t t2 ty : TypeId} {s s' x x' v : Value} {H' : AH} (h : aApM P H t t2 s x = some (v, H')) (hs : T3 β s s') (hx : T3 β x x') :
    ∃ β' w' v', (Builtin.append_ #[t, t2] ty #[s', x']).run P w = .ok v' w' ∧ Rel β' H' w' ∧ Ext H.length β w β' w' ∧ T3 β' v v' := by
  unfold aApM at h
  split at h
  case h_2 => cases h
  rename_i n
  have := hs.of_plain rfl
  subst this
  have := hx.int
  subst this
  split at h
  case h_2 => cases h
  rename_i e he
  have hu := elemT_some he
  split at h
  case h_2 => cases h
  rename_i q hq
  obtain ⟨i, hi, hz, hsz, hby, hzs, hpos, hcz, hb⟩ := einfo_some hq
  split at h
  case isFalse => cases h
  rename_i hcond
  obtain ⟨hs1, hit, h0, hlim⟩ := hcond
  cases h
  obtain ⟨k, hk⟩ : ∃ k, P.underlying t2 = some (.int k) := by
    unfold intT at hit
    split at hit
    · exact ⟨_, by assumption⟩
    · cases hit
  obtain ⟨n, rfl⟩ := Int.eq_ofNat_of_zero_le (Int.le_of_lt h0)
  simp only [Int.toNat_natCast]
  have hc1 : q.zero.cells.size = 1 := by omega
  have hz1 : q.zero.cells = #[q.zero.cells.getD 0 default] := by
    apply Array.ext
    · simp [hc1]
    · intro j h1 h2
      have : j = 0 := by omega
      subst this
      simp [hc1]
  have tz : T1 β (q.zero.cells.getD 0 default) (q.zero.cells.getD 0 default) := by
    have h1 := constV_cells (β := β) hcz
    rw [hz1] at h1
    cases h1 with
    | cons h _ => exact h
  have harr : ∀ m, Builtin.zeroCells q.zero.cells m = (List.replicate m (q.zero.cells.getD 0 default)).toArray := fun m => by
    unfold Builtin.zeroCells
    apply Array.ext'
    simp only [Array.toList_map, Array.toList_range, List.toList_toArray, hc1, Nat.mul_one]
    apply List.ext_getElem
    · simp
    · intro j h1 h2
      simp [hc1, Nat.mod_one]
  have hge := grownCap_ge w n 0 e
  obtain ⟨β', R', E, hn⟩ := push_sound (w1 := w.drew) R (.drew w) (List.replicate n (q.zero.cells.getD 0 default)) (List.replicate n (q.zero.cells.getD 0 default) ++ List.replicate (grownCap w n 0 e - n) (q.zero.cells.getD 0 default)) e 1 (by
    rw [List.length_replicate, List.take_left' (by simp)]; exact All2.replicate tz n)
  refine ⟨β', _, _, ?_, R', E, new_sl hn rfl rfl rfl hge (fun h => by omega) (by simp; omega)⟩
  have w1 := wrap_small (Int.le_of_lt h0) hlim
  have hbb : (n : Int) * i.bytes ≤ 4294967296 * 16384 := by
    rw [hby]
    have : n * q.bytes ≤ 4294967296 * 16384 := Nat.mul_le_mul (by omega) hb
    omega
  have hng : ¬ ((281474976710656 : Int) < (n : Int) * i.bytes) := by omega
  have hneg : ¬ ((n : Int) < 0) := by omega
  have hsz1 : i.size = 1 := by omega
  have hn0 : n ≠ 0 := by omega
  have h48 := append_fits (n := n) (m := 0) (cap := 0) (bytes := i.bytes) (by omega) (by simp only [LIM]; omega) (by rw [hby]; exact hb)
  simp only [Nat.add_zero] at h48
  have h48' : ¬ (281474976710656 < Builtin.nextslicecap n 0 * i.bytes) := by omega
  have h63' : ¬ ((9223372036854775807 : Int) < n) := by omega
  have hle : ¬ (n ≤ 0) := by omega
  simp [Builtin.append_, run_underlying hu, run_underlying hk, asInt, asIntOf, sizeOf, typeInfo, zeroValue, hi, hz, w1, hng, hneg, hsz1, hn0, hle, h63', h48', harr, Question.forced, askRoom, newRow, grownCap, Builtin.firstCells]
end
end Go.Proofs.Ytbckijeffiofdaa.AL

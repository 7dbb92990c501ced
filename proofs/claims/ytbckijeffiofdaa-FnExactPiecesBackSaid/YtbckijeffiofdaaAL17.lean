/- AL, part 17: from a real call to the abstract heap: what is handed in stands there, read only. No condition. -/
import Derived.Test.YtbckijeffiofdaaAL16
import Derived.WideShapes
import Derived.Below
namespace Go.Proofs.Ytbckijeffiofdaa.AL
open Go Go.RowKit
set_option linter.unusedVariables false
set_option linter.unusedSimpArgs false

/-- A slice of whole numbers that is handed in, nil or not, with its room behind it. -/
structure Rin where
  a : Option Addr
  len : Nat
  cap : Nat
  zs : List Int
def Rin.ok (w : World) (r : Rin) : Prop := match r.a with
  | none => r.len = 0 ∧ r.cap = 0 ∧ r.zs = []
  | some x => x.spot = none ∧ x.block < w.heap.size ∧ r.len ≤ r.cap ∧ r.zs.length = r.cap ∧ ∀ i, i < r.zs.length → w.cell? (x.add i) = some (.int .i64 (r.zs.getD i 0))
def Rin.real (r : Rin) : Value := .slice r.a r.len r.cap
def Rin.abs (r : Rin) (k : Nat) : Value := match r.a with
  | none => .slice none 0 0
  | some _ => .slice (some ⟨k, 0, some 0⟩) r.len (r.len + 1)
def Rin.obj (r : Rin) : AO := match r.a with
  | none => ⟨[], 0, 1, 0, true⟩
  | some _ => ⟨ints r.zs, 0, 1, 0, true⟩
def Rin.loc (r : Rin) : Option Loc := r.a.map fun x => ⟨x.block, x.off, x.off + r.zs.length, 1, 0, true⟩
def Rin.val (r : Rin) : List Int := r.zs.take r.len
def inH (rs : List Rin) : AH := rs.map Rin.obj
def inB (rs : List Rin) : BM := fun i => (rs[i]?).bind Rin.loc
section
variable {rs : List Rin} {r : Rin} {w : World} {k : Nat}
theorem inB_some {i : Nat} {l : Loc} (h : inB rs i = some l) : ∃ r x, rs[i]? = some r ∧ r.a = some x ∧ l = ⟨x.block, x.off, x.off + r.zs.length, 1, 0, true⟩ := by
  unfold inB Rin.loc at h
  cases hr : rs[i]? with
  | none => simp [hr] at h
  | some r =>
    simp only [hr, Option.bind_some] at h
    cases hx : r.a with
    | none => simp [hx] at h
    | some x => exact ⟨r, x, rfl, hx, by simpa [hx] using h.symm⟩
theorem in_rel (h : ∀ r ∈ rs, r.ok w) : Rel (inB rs) (inH rs) w where
  dom := fun i hi => by
    simp [inH] at hi
    simp [inB, hi]
  loc := fun i l hl => by
    obtain ⟨r, x, h1, h2, rfl⟩ := inB_some hl
    have := h r (List.mem_of_getElem? h1)
    simp only [Rin.ok, h2] at this
    exact this.2.1
  inj := fun i j l m hl hm _ _ => by
    obtain ⟨_, _, _, _, rfl⟩ := inB_some hl
    obtain ⟨_, _, _, _, rfl⟩ := inB_some hm
    exact ⟨rfl, rfl⟩
  obj := fun i o l ho hl => by
    obtain ⟨r, x, h1, h2, rfl⟩ := inB_some hl
    have h3 := h r (List.mem_of_getElem? h1)
    simp only [Rin.ok, h2] at h3
    obtain ⟨hs, hb, hle, hz, hc⟩ := h3
    simp only [inH, List.getElem?_map, h1, Option.map_some, Option.some.injEq, Rin.obj, h2] at ho
    subst ho
    refine ⟨rfl, rfl, rfl, by simp, fun j c hj => ?_, fun hro => by simp at hro⟩
    have hjl : j < r.zs.length := by
      have := (List.getElem?_eq_some_iff.1 hj).1
      simpa using this
    have h4 := hc j hjl
    have hadd : x.add j = ⟨x.block, x.off + j, none⟩ := by
      obtain ⟨b, o, sp⟩ := x
      simp only at hs
      subst hs
      unfold Addr.add
      split
      · rename_i h0; subst h0; rfl
      · rfl
    rw [hadd] at h4
    rw [ints_get hjl] at hj
    cases hj
    refine ⟨_, h4, ?_⟩
    rw [List.getD_eq_getElem?_getD, List.getElem?_eq_getElem hjl]
    exact .one (.plain rfl)
theorem in_wf : WF (inH rs) := fun o ho c hc => by
  obtain ⟨r, _, rfl⟩ := List.mem_map.1 ho
  unfold Rin.obj at hc
  split at hc
  · simp at hc
  · exact ints_R c hc
theorem in_get (h : rs[k]? = some r) : (inH rs)[k]? = some r.obj := by simp [inH, h]
theorem in_T0 (h : rs[k]? = some r) (ho : r.ok w) : T0 (inB rs) (r.abs k) r.real := by
  unfold Rin.abs Rin.real
  cases ha : r.a with
  | none =>
    simp only [Rin.ok, ha] at ho
    rw [ho.1, ho.2.1]
    exact .plain rfl
  | some x =>
    simp only [Rin.ok, ha] at ho
    obtain ⟨hs, hb, hle, hz, hc⟩ := ho
    refine .sl (l := ⟨x.block, x.off, x.off + r.zs.length, 1, 0, true⟩) (by simp [inB, h, Rin.loc, ha]) rfl hle (fun e => by omega) (.inr ⟨?_, by simp; omega⟩)
    obtain ⟨b, o, sp⟩ := x
    simp only at hs
    subst hs
    rfl
theorem in_sl (h : rs[k]? = some r) (ho : r.ok w) : Sl (inH rs) (r.abs k) (ints r.val) := by
  unfold Rin.abs Rin.val
  cases ha : r.a with
  | none =>
    simp only [Rin.ok, ha] at ho
    rw [ho.1]
    exact .inl ⟨rfl, rfl⟩
  | some x =>
    simp only [Rin.ok, ha] at ho
    obtain ⟨hs, hb, hle, hz, hc⟩ := ho
    have hlen : (ints (r.zs.take r.len)).length = r.len := by simp; omega
    have hobj : r.obj = ⟨ints r.zs, 0, 1, 0, true⟩ := by simp [Rin.obj, ha]
    refine .inr ⟨k, 0, 0, r.len + 1, r.obj, by simp [hlen], by simp [alive, in_get h, hobj], ?_, by rw [hobj]; simp; omega, by rw [hobj]⟩
    rw [hlen, hobj]
    simp [ints, List.map_take]
theorem in_R0 (h : rs[k]? = some r) : R0 (inH rs).length (r.abs k) = true := by
  unfold Rin.abs
  have := (List.getElem?_eq_some_iff.1 h).1
  split
  · rfl
  · simp [R0, inH, this]
theorem in_T2 (h : rs[k]? = some r) (ho : r.ok w) : T2 (inB rs) (r.abs k) r.real := .one (.one (in_T0 h ho))
theorem plain_T2 {β : BM} {v : Value} (h : plainV v = true) : T2 β v v := .one (.one (.plain h))
/-- A LAW'S CALL: all that was handed in stands as it stood. -/
theorem law_calls {P : Program} {f : FuncId} {abs : List Value} {real : Array Value} {b : Bool} {H' : AH} (h : ACall P f abs (inH rs) (.bool b) H') (hok : ∀ r ∈ rs, r.ok w) (hR : ∀ x ∈ abs, R2 (inH rs).length x = true) (hT : All2 (T2 (inB rs)) abs real.toList) :
    Calls P f real w fun e w' => e = .returned (.bool b) ∧ Below w.heap.size w w' := by
  refine (h.calls _ w real (in_rel hok) in_wf hR hT).mono ?_
  rintro e w' ⟨v', β', rfl, R', E, t⟩
  have hv : v' = .bool b := by
    rcases t with ((t | _) | _) | _
    cases t
    rfl
  subst hv
  refine ⟨rfl, E.os, E.tape, E.output, E.size, fun k hk => E.keep k hk fun i l hl _ => ?_⟩
  obtain ⟨_, _, _, _, rfl⟩ := inB_some hl
  rfl
theorem has_in {P : Program} {rch : Reach} {base n : Nat} {e : TypeId} {x : Addr} (h : World.has P w rch base x e n) : x.spot = none ∧ x.block < w.heap.size := by
  simp only [World.has] at h
  obtain ⟨_, hs, row, cells, hsh, _⟩ := h
  refine ⟨hs, ?_⟩
  unfold World.shape? at hsh
  split at hsh
  · rename_i hg
    exact (Array.getElem?_eq_some_iff.1 hg).1
  · cases hsh
theorem cell_in {P : Program} {rch : Reach} {base : Nat} {u : TypeId} {x : Addr} {len cap : Nat} (h : Cell.okWide P w rch base u (.slice (some x) len cap)) : x.spot = none ∧ x.block < w.heap.size := by
  cases hu : P.underlying u with
  | none => simp [Cell.okWide, Cell.ok, hu] at h
  | some d =>
    cases d <;> simp [Cell.okWide, Cell.ok, hu] at h
    exact has_in h.2.2
theorem agg_in {P : Program} {rch : Reach} {base i : Nat} {t : TypeId} {fs : Array Field} {x : Addr} {len cap : Nat} {cs : Array Value} (ht : P.underlying t = some (.struct fs)) (h : Value.okWide P w rch base t (.agg cs)) (hi : cs[i]? = some (.slice (some x) len cap)) : x.spot = none ∧ x.block < w.heap.size := by
  simp only [Value.okWide, ht] at h
  obtain ⟨cs', he, _, ts, _, _, hall⟩ := h
  cases he
  obtain ⟨u, _, hu⟩ := hall i _ hi
  exact cell_in hu
theorem val_len (ho : r.ok w) (hm : r.cap ≤ maxLen) : r.val.length ≤ maxLen := by
  have h1 : r.val.length ≤ r.len := by simp [Rin.val]; omega
  cases ha : r.a with
  | none =>
    simp only [Rin.ok, ha] at ho
    omega
  | some x =>
    simp only [Rin.ok, ha] at ho
    omega
theorem slice_in {P : Program} {rch : Reach} {base : Nat} {t e : TypeId} {x : Addr} {len cap : Nat} (ht : P.underlying t = some (.slice e)) (h : Value.okWide P w rch base t (.slice (some x) len cap)) : x.spot = none ∧ x.block < w.heap.size := by
  simp only [Value.okWide, ht, Cell.okWide, Cell.ok, World.has] at h
  obtain ⟨_, _, _, hs, row, cells, hsh, _⟩ := h
  refine ⟨hs, ?_⟩
  unfold World.shape? at hsh
  split at hsh
  · rename_i hg
    exact (Array.getElem?_eq_some_iff.1 hg).1
  · cases hsh
end
end Go.Proofs.Ytbckijeffiofdaa.AL

/- AL, part 52: lists of records of k cells: read, written, told behind each other, shifted. No condition. -/
import Derived.Test.YtdbflchpbhkanaaAL50
namespace Go.Proofs.Ytdbflchpbhkanaa.AL
open Go Go.RowKit
set_option linter.unusedVariables false
set_option linter.unusedSimpArgs false
section
variable {P : Program} {k n : Nat} {G G1 H : AH} {v u : Value} {cs : List Value} {t e : TypeId}
theorem OwnK.parts (h : OwnK k G e u n cs) (hn : n ≠ 0) : ∃ i off g c o A B, u = .slice (some ⟨i, off, some g⟩) n c ∧ G[i]? = some o ∧ o.gen = g ∧ o.elem = e ∧ o.sz = k ∧ o.ro = false ∧ o.cells = A ++ (cs ++ B) ∧ A.length = off := by
  obtain ⟨h0, h⟩ := h
  rcases h with ⟨_, h⟩ | ⟨i, off, g, c, o, rfl, h1, h2, h3, h4, h5, h6, h7⟩
  · exact absurd h hn
  refine ⟨i, off, g, c, o, o.cells.take off, o.cells.drop (off + cs.length), rfl, h1, h2, h3, h4, h5, ?_, by simp; omega⟩
  have e1 : o.cells.drop off = cs ++ o.cells.drop (off + cs.length) := by
    conv => lhs; rw [← List.take_append_drop cs.length (o.cells.drop off)]
    rw [h7, List.drop_drop]
  rw [← e1, List.take_append_drop]
theorem OwnK.putAt {i off g c : Nat} {o : AO} {A B new : List Value} {d m : Nat} (h0 : cs.length = n * k) (h1 : G[i]? = some o) (h2 : o.gen = g) (h3 : o.elem = e) (h4 : o.sz = k) (h5 : o.ro = false) (hc : o.cells = A ++ (cs ++ B)) (hA : A.length = off) (hn : new.length = m) (hd : d + m ≤ cs.length) :
    OwnK k (G.set i { o with cells := o.cells.take (off + d) ++ new ++ o.cells.drop (off + d + m) }) e (.slice (some ⟨i, off, some g⟩) n c) n (cs.take d ++ new ++ cs.drop (d + m)) := by
  have hlt := (List.getElem?_eq_some_iff.1 h1).1
  have hl : (cs.take d ++ new ++ cs.drop (d + m)).length = cs.length := by simp; omega
  refine ⟨by rw [hl, h0], .inr ⟨i, off, g, c, _, rfl, List.getElem?_set_self hlt, h2, h3, h4, h5, ?_, ?_⟩⟩
  · rw [hl]
    simp [hc, hA]
    omega
  · rw [hl]
    subst hA
    simp only [hc]
    exact part_put hn hd
end
def recs (k : Nat) (u : Value) (e : TypeId) (R : List (List Value)) : Item := ⟨fun G F => OwnK k G e u R.length R.flatten ∧ (∀ r ∈ R, r.length = k) ∧ F = ids u, fun G G' F h ⟨a, b, c⟩ => by
  subst c
  exact ⟨a.at fun i hi => h i (mem_ids.2 hi), b, rfl⟩⟩
theorem flat_at {α : Type} {k : Nat} : ∀ {R : List (List α)}, (∀ r ∈ R, r.length = k) → ∀ (j : Nat) (r : List α), R[j]? = some r → (R.flatten.drop (j * k)).take k = r
  | [], _, _, _, h => by simp at h
  | x :: R, hl, j, r, h => by
    have hx := hl x (.head _)
    cases j with
    | zero =>
      simp at h
      subst h
      simp [← hx]
    | succ j =>
      simp at h
      have ih := flat_at (fun r hr => hl r (.tail _ hr)) j r h
      rw [List.flatten_cons, Nat.add_mul, Nat.one_mul, Nat.add_comm, ← List.drop_drop, ← hx, List.drop_left, hx]
      exact ih
theorem flat_len {α : Type} {k : Nat} : ∀ {R : List (List α)}, (∀ r ∈ R, r.length = k) → R.flatten.length = R.length * k
  | [], _ => by simp
  | x :: R, hl => by
    rw [List.flatten_cons, List.length_append, flat_len (fun r hr => hl r (.tail _ hr)), hl x (.head _), List.length_cons, Nat.add_mul]
    omega
theorem flat_cell {α : Type} {k : Nat} {R : List (List α)} (hl : ∀ r ∈ R, r.length = k) {j f : Nat} {r : List α} {x : α} (h : R[j]? = some r) (hx : r[f]? = some x) : R.flatten[j * k + f]? = some x := by
  have h1 := flat_at hl j r h
  have hf : f < k := by
    have := (List.getElem?_eq_some_iff.1 hx).1
    rw [hl r (List.mem_of_getElem? h)] at this
    exact this
  rw [← h1, List.getElem?_take, if_pos hf, List.getElem?_drop] at hx
  exact hx
theorem flat_take {α : Type} {k : Nat} : ∀ {R : List (List α)}, (∀ r ∈ R, r.length = k) → ∀ j, R.flatten.take (j * k) = (R.take j).flatten
  | [], _, j => by simp
  | x :: R, hl, 0 => by simp
  | x :: R, hl, j + 1 => by
    have hx := hl x (.head _)
    rw [List.take_succ_cons, List.flatten_cons, List.flatten_cons, ← flat_take (fun r hr => hl r (.tail _ hr)) j, List.take_append, List.take_of_length_le (by rw [hx, Nat.add_mul]; omega), hx]
    congr 2
    rw [Nat.add_mul]
    omega
theorem flat_drop {α : Type} {k : Nat} : ∀ {R : List (List α)}, (∀ r ∈ R, r.length = k) → ∀ j, R.flatten.drop (j * k) = (R.drop j).flatten
  | [], _, j => by simp
  | x :: R, hl, 0 => by simp
  | x :: R, hl, j + 1 => by
    have hx := hl x (.head _)
    rw [List.drop_succ_cons, List.flatten_cons, ← flat_drop (fun r hr => hl r (.tail _ hr)) j, Nat.add_mul, Nat.one_mul, Nat.add_comm, ← List.drop_drop, ← hx, List.drop_left, hx]
section
variable {P : Program} {K : Nat} {G G1 H : AH} {B : Nat → Prop} {l : List Item} {u s v x : Value} {R : List (List Value)} {r : List Value} {t t2 e f : TypeId} {k m : Nat} {q : EInfo} {i : Int} {kk : IntKind}
theorem Sep.recOwn (h : Sep G B l) (hk : l[k]? = some (recs K u e R)) : OwnK K G e u R.length R.flatten ∧ ∀ r ∈ R, r.length = K := by
  obtain ⟨F, ⟨h1, h2, _⟩, _⟩ := h.get hk
  exact ⟨h1, h2⟩
theorem Sep.recTup (h : Sep G B l) (hk : l[k]? = some (recs K u e R)) : isTup u = false := (h.recOwn hk).1.sl.tup
theorem Sep.recLen (h : Sep G B l) (hk : l[k]? = some (recs K u e R)) (he : elemT P t = some e) : aLen P G t u = some (.int .i64 (llen R)) := (h.recOwn hk).1.sl.len he
theorem Sep.recIdx (h : Sep G B l) (hk : l[k]? = some (recs K u e R)) (he : elemT P t = some e) (hs : sizeT P e = some K) (hi : inL R i) : aIndexAddr P G t u (.int kk i) = some (elP u (i.toNat * K)) := by
  unfold inL at hi
  have := (h.recOwn hk).1.sl.idx (kk := kk) he hs (j := i.toNat) (by omega)
  rwa [Int.toNat_of_nonneg hi.1] at this
theorem Sep.recAgg (h : Sep G B l) (hk : l[k]? = some (recs K u e R)) (hs : sizeT P e = some K) (hb : aggT P e = some true) (hi : inL R i) : aLoad P G e (elP u (i.toNat * K)) = some (.agg (gat [] R i).toArray) := by
  obtain ⟨h1, h2⟩ := h.recOwn hk
  have hj : i.toNat < R.length := by unfold inL at hi; omega
  rw [h1.sl.agg hs hb hj, flat_at h2 _ _ (gat_get (d := []) hi)]
theorem Sep.recFld (h : Sep G B l) (hk : l[k]? = some (recs K u e R)) {off : Nat} (hf : fldT P t m = some off) (hi : inL R i) {p : Nat} : aFieldAddr P G t (elP u p) m = some (elP u (p + off)) :=
  (h.recOwn hk).1.sl.fld hf (by unfold inL at hi; omega)
theorem Sep.recCell (h : Sep G B l) (hk : l[k]? = some (recs K u e R)) (hs : sizeT P f = some 1) (hb : aggT P f = some false) (hi : inL R i) (hx : (gat [] R i)[m]? = some x) : aLoad P G f (elP u (i.toNat * K + m)) = some x := by
  obtain ⟨h1, h2⟩ := h.recOwn hk
  exact h1.sl.cell hs hb (flat_cell h2 (gat_get (d := []) hi) hx)
theorem Sep.recSub (h : Sep G B l) (hk : l[k]? = some (recs K u e R)) (hs : sizeT P f = some m) (hm : m ≤ K) (hb : aggT P f = some true) (hi : inL R i) : aLoad P G f (elP u (i.toNat * K)) = some (.agg ((gat [] R i).take m).toArray) := by
  obtain ⟨h1, h2⟩ := h.recOwn hk
  have hj : i.toNat < R.length := by unfold inL at hi; omega
  have hle : i.toNat * K + K ≤ R.flatten.length := by
    rw [flat_len h2]
    have : (i.toNat + 1) * K ≤ R.length * K := Nat.mul_le_mul_right K (by omega)
    rw [Nat.add_mul] at this
    omega
  have hat := flat_at h2 _ _ (gat_get (d := []) hi)
  obtain ⟨o0, a, off, g, c, o, rfl, k1, k2, k3, k4⟩ : ∃ (o0 : Nat) (a off g c : Nat) (o : AO), u = .slice (some ⟨a, off, some g⟩) R.length c ∧ alive G a g = some o ∧ (o.cells.drop off).take R.flatten.length = R.flatten ∧ off + R.flatten.length ≤ o.cells.length ∧ o.sz = K := by
    rcases h1.sl.2 with ⟨_, h0⟩ | ⟨a, off, g, c, o, rfl, k1, k2, k3, k4⟩
    · omega
    · exact ⟨0, a, off, g, c, o, rfl, k1, k2, k3, k4⟩
  simp only [elP, aLoad, k1, hs, hb]
  rw [if_pos (by omega), ← hat, ← k2, List.drop_take, List.take_take, List.take_take, List.drop_drop, Nat.min_eq_left (by omega), Nat.min_eq_left (by omega)]
theorem Sep.recLit (h : Sep G B l) (hN : Up B G.length) (he : elemT P t = some e) (hq : einfo P e = some q) (hq1 : q.size = r.length) (hb : r.length ≤ 16777216) :
    ∃ v G', aBuildSlice P G t 1 [(0, .agg r.toArray)] = some (v, G') ∧ Sep G' B (l ++ [recs r.length v e [r]]) ∧ Agree G.length G G' ∧ isTup v = false ∧ v.cells = #[v] := by
  refine ⟨.slice (some ⟨G.length, 0, some 0⟩) 1 1, G ++ [⟨r, e, r.length, 0, false⟩], ?_, ?_, Agree.app _ _, rfl, rfl⟩
  · have hc : (Value.agg r.toArray).cells = r.toArray := rfl
    have hz : (zeros q q.size).length = r.length := by simp [zeros, hq1]
    simp [aBuildSlice, he, hq, noTup, isTup, fillL, aNew, hc, hq1]
    simp only [hq1] at hz
    simp [hz, hb]
  · exact h.new (it := recs r.length (.slice (some ⟨G.length, 0, some 0⟩) 1 1) e [r]) hN ⟨⟨by simp, .inr ⟨G.length, 0, 0, 1, ⟨r, e, r.length, 0, false⟩, rfl, by simp, rfl, rfl, rfl, rfl, by simp, by simp⟩⟩, by simp, by simp [ids, idOf]⟩ (by simp)
theorem Sep.recNil (h : Sep G B l) (hN : Up B G.length) (K : Nat) (e : TypeId) : Sep G B (l ++ [recs K nilV e []]) :=
  h.app (B' := Fr G) (Agree.refl _ _) ⟨fun _ => [], fun k jt hk => by
    cases k with
    | zero => simp at hk; subst hk; exact ⟨⟨⟨by simp, .inl ⟨rfl, rfl⟩⟩, by simp, rfl⟩, fun i hi => by simp at hi⟩
    | succ k => simp at hk, fun j k hj hk hjk i hi => by simp at hi⟩ (fun _ h => h) hN
theorem Sep.recPush (h : Sep G B l) (hK : 0 < K) (hk : l[k]? = some (recs K u e R)) {j : Nat} (hj : l[j]? = some (recs K s e [r])) (hN : Up B G.length) (he : elemT P t = some e) (he2 : elemT P t2 = some e) (hq : einfo P e = some q) (hq1 : q.size = K) (hb : R.length + 1 ≤ 4294967296) :
    ∃ v' G', aAppend P G t t2 u s = some (v', G') ∧ Sep G' B (l.set k (recs K v' e (R ++ [r]))) ∧ AgB B G G' ∧ isTup v' = false ∧ v'.cells = #[v'] := by
  have hd : srcD P t2 = true := by unfold srcD; rw [elemT_some he2]
  obtain ⟨h1, h2⟩ := h.recOwn hk
  obtain ⟨h3, h4⟩ := h.recOwn hj
  have h5 : SlK K G s 1 r := by simpa using h3.sl
  obtain ⟨v', G1, a, b, c, d, e5⟩ := h1.apx hK he hq hq1 hd h5 (by omega) hb
  obtain ⟨G', r', s1, s2, s3⟩ := h.step (it' := recs K v' e (R ++ [r])) hk hN (fun G' => G' = G1) fun F ⟨p, _, pF⟩ hF => by
    refine ⟨G1, ids v', rfl, ⟨by simpa using b, fun x hx => ?_, rfl⟩, fun i hi => ?_, c, fun i hi hm => d i hi fun hu => hm (by rw [pF]; exact mem_ids.2 hu)⟩
    · rcases List.mem_append.1 hx with hx | hx
      · exact h2 x hx
      · exact h4 x hx
    · rw [mem_ids] at hi
      rcases e5 with e5 | ⟨e5, e6⟩
      · rw [pF]; exact .inl (mem_ids.2 (e5 ▸ hi))
      · rw [e5] at hi
        simp at hi
        exact .inr (by omega)
  subst r'
  exact ⟨v', _, a, s1, s2, b.sl.tup, b.sl.one⟩
theorem Sep.recSet {R' : List (List Value)} {new : List Value} {d : Nat} (h : Sep G B l) (hk : l[k]? = some (recs K u e R)) (hN : Up B G.length) (hR : R ≠ []) (hl : R'.length = R.length) (hr : ∀ r ∈ R', r.length = K) (hc : R.flatten.take d ++ new ++ R.flatten.drop (d + new.length) = R'.flatten) (hd : d + new.length ≤ R.flatten.length) :
    ∃ i off g c o, u = .slice (some ⟨i, off, some g⟩) R.length c ∧ alive G i g = some o ∧ o.ro = false ∧ o.sz = K ∧ off + R.flatten.length ≤ o.cells.length ∧ (o.cells.drop off).take R.flatten.length = R.flatten ∧
      Sep (G.set i { o with cells := o.cells.take (off + d) ++ new ++ o.cells.drop (off + d + new.length) }) B (l.set k (recs K u e R')) ∧ AgB B G (G.set i { o with cells := o.cells.take (off + d) ++ new ++ o.cells.drop (off + d + new.length) }) := by
  obtain ⟨h1, h2⟩ := h.recOwn hk
  have hn : R.length ≠ 0 := fun e => hR (List.eq_nil_of_length_eq_zero e)
  obtain ⟨i, off, g, c, o, A, C, rfl, k1, k2, k3, k4, k5, k6, k7⟩ := h1.parts hn
  refine ⟨i, off, g, c, o, rfl, by simp [alive, k1, k2], k5, k4, by rw [k6]; simp; omega, by rw [k6, ← k7, List.drop_left, List.take_left], ?_⟩
  obtain ⟨G', r', s1, s2, s3⟩ := h.step (it' := recs K (.slice (some ⟨i, off, some g⟩) R.length c) e R') hk hN (fun G' => G' = G.set i { o with cells := o.cells.take (off + d) ++ new ++ o.cells.drop (off + d + new.length) }) fun F ⟨p, _, pF⟩ hF => by
    have hp := OwnK.putAt (c := c) (new := new) (d := d) h1.1 k1 k2 k3 k4 k5 k6 k7 rfl hd
    rw [hc] at hp
    refine ⟨_, F, rfl, ⟨by rw [hl]; exact hp, hr, pF⟩, fun j hj => .inl hj, by simp, fun j _ hm => List.getElem?_set_ne fun e => hm ?_⟩
    rw [pF, mem_ids, ← e]
    rfl
  rw [← r']
  exact ⟨s1, s2⟩
theorem set_flat {i : Nat} (hl : ∀ r ∈ R, r.length = K) (hi : i < R.length) (hr : r.length = K) : R.flatten.take (i * K) ++ r ++ R.flatten.drop (i * K + r.length) = (R.set i r).flatten := by
  have e1 : i * K + r.length = (i + 1) * K := by rw [hr, Nat.add_mul]; omega
  rw [e1, flat_take hl, flat_drop hl, List.set_eq_take_append_cons_drop, if_pos hi]
  simp
theorem mul_lt_len {i : Nat} (hl : ∀ r ∈ R, r.length = K) (hi : i < R.length) : i * K + K ≤ R.flatten.length := by
  rw [flat_len hl]
  have : (i + 1) * K ≤ R.length * K := Nat.mul_le_mul_right K (by omega)
  rw [Nat.add_mul] at this
  omega
theorem Sep.recPut (h : Sep G B l) (hk : l[k]? = some (recs K u e R)) (hN : Up B G.length) (hs : sizeT P e = some K) (hi : inL R i) (hr : r.length = K) :
    ∃ G', aStore P G e (elP u (i.toNat * K)) (.agg r.toArray) = some G' ∧ Sep G' B (l.set k (recs K u e (lset R i r))) ∧ AgB B G G' := by
  obtain ⟨h1, h2⟩ := h.recOwn hk
  have hj : i.toNat < R.length := by unfold inL at hi; omega
  have hle := mul_lt_len h2 hj
  obtain ⟨a, off, g, c, o, rfl, k1, k2, k3, k4, k5, s1, s2⟩ := h.recSet (R' := R.set i.toNat r) (new := r) (d := i.toNat * K) hk hN (fun e => by simp [e] at hj) (by simp) (fun x hx => by
    rcases List.mem_or_eq_of_mem_set hx with hx | rfl
    · exact h2 x hx
    · exact hr) (set_flat h2 hj hr) (by omega)
  refine ⟨_, ?_, by rw [lset]; exact s1, s2⟩
  have hc : (Value.agg r.toArray).cells = r.toArray := rfl
  simp only [elP, aStore, k1, hs, hc]
  rw [if_pos ⟨k2, rfl, by simpa using hr, by omega⟩, hr]
theorem Sep.recPutC (h : Sep G B l) (hk : l[k]? = some (recs K u e R)) (hN : Up B G.length) (hs : sizeT P f = some 1) (hi : inL R i) (hm : m < K) (hx : isTup x = false) (hc : x.cells = #[x]) :
    ∃ G', aStore P G f (elP u (i.toNat * K + m)) x = some G' ∧ Sep G' B (l.set k (recs K u e (lset R i ((gat [] R i).set m x)))) ∧ AgB B G G' := by
  obtain ⟨h1, h2⟩ := h.recOwn hk
  have hj : i.toNat < R.length := by unfold inL at hi; omega
  have hle := mul_lt_len h2 hj
  have hg := gat_get (d := []) hi
  have hgl : (gat [] R i).length = K := h2 _ (List.mem_of_getElem? hg)
  have hat := flat_at h2 _ _ hg
  have hfl : R.flatten.take (i.toNat * K + m) ++ [x] ++ R.flatten.drop (i.toNat * K + m + [x].length) = (R.set i.toNat ((gat [] R i).set m x)).flatten := by
    rw [← set_flat (r := (gat [] R i).set m x) h2 hj (by simpa using hgl), List.length_set, hgl]
    have hX : (R.flatten.take (i.toNat * K)).length = i.toNat * K := by rw [List.length_take]; omega
    have hsp : R.flatten = R.flatten.take (i.toNat * K) ++ (gat [] R i ++ R.flatten.drop (i.toNat * K + K)) := by
      rw [← hat, ← List.drop_drop, List.take_append_drop, List.take_append_drop]
    generalize R.flatten.take (i.toNat * K) = X at hX hsp ⊢
    generalize R.flatten.drop (i.toNat * K + K) = Y at hsp ⊢
    generalize gat [] R i = row at hsp hgl ⊢
    rw [hsp, ← hX, List.length_singleton, Nat.add_assoc, List.take_append, List.drop_append, List.take_of_length_le (Nat.le_add_right _ _), List.drop_of_length_le (Nat.le_add_right _ _), Nat.add_sub_cancel_left, Nat.add_sub_cancel_left, List.take_append_of_le_length (by omega), List.drop_append_of_le_length (by omega), List.set_eq_take_append_cons_drop, if_pos (by omega)]
    simp
  obtain ⟨a, off, g, c, o, rfl, k1, k2, k3, k4, k5, s1, s2⟩ := h.recSet (R' := R.set i.toNat ((gat [] R i).set m x)) (new := [x]) (d := i.toNat * K + m) hk hN (fun e => by simp [e] at hj) (by simp) (fun y hy => by
    rcases List.mem_or_eq_of_mem_set hy with hy | rfl
    · exact h2 y hy
    · simpa using hgl) hfl (by rw [List.length_singleton]; omega)
  refine ⟨_, ?_, by rw [lset]; exact s1, s2⟩
  simp only [elP, aStore, k1, hs, hc]
  rw [if_pos ⟨k2, hx, rfl, by omega⟩]
  rfl
theorem Sep.recShift (h : Sep G B l) (hk : l[k]? = some (recs K u e R)) (hN : Up B G.length) (he : elemT P t = some e) (hs : sizeT P e = some K) (hi : inL R i) :
    ∃ a b G', aSlice P G t u (some (.int .i64 (i + 1))) none none = some a ∧ aSlice P G t u (some (.int .i64 i)) none none = some b ∧ isTup a = false ∧ isTup b = false ∧ aCopy P G t a b = some (.int .i64 (R.length - i.toNat - 1 : Nat), G') ∧
      Sep G' B (l.set k (recs K u e (R.take (i.toNat + 1) ++ (R.drop i.toNat).take (R.length - i.toNat - 1)))) ∧ AgB B G G' := by
  obtain ⟨h1, h2⟩ := h.recOwn hk
  unfold inL at hi
  obtain ⟨n, rfl⟩ : ∃ n : Nat, i = n := ⟨i.toNat, by omega⟩
  have hj : n < R.length := by omega
  simp only [Int.toNat_natCast]
  have hfl := flat_len h2
  have hm1 : (n + 1) * K ≤ R.length * K := Nat.mul_le_mul_right K (by omega)
  have hm2 : (n + 1) * K + (R.length - n - 1) * K = R.length * K := by rw [← Nat.add_mul]; congr 1; omega
  have hm3 : n * K + (R.length - n - 1) * K + K = R.length * K := by
    rw [Nat.add_mul, Nat.one_mul] at hm2
    omega
  have hnew : ((R.flatten.drop (n * K)).take ((R.length - n - 1) * K)).length = (R.length - n - 1) * K := by rw [List.length_take, List.length_drop, hfl]; omega
  have hcells : R.flatten.take ((n + 1) * K) ++ (R.flatten.drop (n * K)).take ((R.length - n - 1) * K) ++ R.flatten.drop ((n + 1) * K + ((R.flatten.drop (n * K)).take ((R.length - n - 1) * K)).length) = (R.take (n + 1) ++ (R.drop n).take (R.length - n - 1)).flatten := by
    rw [hnew, hm2, List.drop_of_length_le (Nat.le_of_eq hfl), flat_take h2, flat_drop h2, flat_take (fun r hr => h2 r (List.mem_of_mem_drop hr)), List.flatten_append, List.append_nil]
  obtain ⟨a, off, g, c, o, rfl, k1, k2, k3, k4, k5, s1, s2⟩ := h.recSet (R' := R.take (n + 1) ++ (R.drop n).take (R.length - n - 1)) (new := (R.flatten.drop (n * K)).take ((R.length - n - 1) * K)) (d := (n + 1) * K) hk hN (fun e => by simp [e] at hj) (by simp; omega) (fun x hx => by
    rcases List.mem_append.1 hx with hx | hx
    · exact h2 x (List.mem_of_mem_take hx)
    · exact h2 x (List.mem_of_mem_drop (List.mem_of_mem_take hx))) hcells (by rw [hnew, hfl]; omega)
  rw [hnew] at s1 s2
  have hsrc : (o.cells.drop (off + n * K)).take ((R.length - n - 1) * K) = (R.flatten.drop (n * K)).take ((R.length - n - 1) * K) := by
    rw [← k5, List.drop_take, List.take_take, List.drop_drop, Nat.min_eq_left (by rw [hfl]; omega)]
  have q1 : ((n : Int) + 1).toNat = n + 1 := by omega
  have sa : aSlice P G t (.slice (some ⟨a, off, some g⟩) R.length c) (some (.int .i64 ((n : Int) + 1))) none none = some (.slice (some ⟨a, off + (n + 1) * K, some g⟩) (R.length - (n + 1)) (if c = R.length then R.length - (n + 1) else R.length - (n + 1) + 1)) := by
    have : (0 : Int) ≤ (n : Int) + 1 := by omega
    simp [aSlice, k1, he, hs, idxV, k3, q1, this]
    omega
  have sb : aSlice P G t (.slice (some ⟨a, off, some g⟩) R.length c) (some (.int .i64 (n : Int))) none none = some (.slice (some ⟨a, off + n * K, some g⟩) (R.length - n) (if c = R.length then R.length - n else R.length - n + 1)) := by
    simp [aSlice, k1, he, hs, idxV, k3]
    omega
  have hmin : Nat.min (R.length - n) (R.length - (n + 1)) = R.length - n - 1 := by
    show min _ _ = _
    omega
  by_cases hz : R.length - n - 1 = 0
  · refine ⟨_, _, G, sa, sb, rfl, rfl, ?_, ?_, .refl _ _⟩
    · simp only [aCopy, he, k1, hs, hmin]
      rw [if_pos hz, hz]
      rfl
    · have e1 : R.take (n + 1) ++ (R.drop n).take (R.length - n - 1) = R := by
        rw [hz, List.take_zero, List.append_nil, List.take_of_length_le (by omega)]
      rw [e1]
      have e2 : l.set k (recs K (.slice (some ⟨a, off, some g⟩) R.length c) e R) = l := by
        apply List.ext_getElem?
        intro z
        rw [List.getElem?_set]
        split
        · rename_i hz
          subst hz
          rw [if_pos (List.getElem?_eq_some_iff.1 hk).1, hk]
        · rfl
      rw [e2]
      exact h
  · refine ⟨_, _, _, sa, sb, rfl, rfl, ?_, s1, s2⟩
    simp only [aCopy, he, k1, hs, hmin]
    rw [if_neg hz, if_pos ⟨k2, by omega, by omega⟩, hsrc]
end
theorem buildS31 {P : Program} {t : TypeId} {z x y w n : Value} (hp : placeT P t = some (z, fun i => [(0, 3), (3, 1)].toArray[i]?)) (hz : constV z = true) (hl : z.cells.toList.length = 4) (ht : isTup n = false) (hc : n.cells = #[n]) : aBuild P t [(0, .agg #[x, y, w]), (1, n)] = some (.agg #[x, y, w, n]) := by
  have hn : noTup [(0, .agg #[x, y, w]), (1, n)] = true := by
    unfold noTup
    simp [isTup] ; exact ht
  have hca : (Value.agg #[x, y, w]).cells = #[x, y, w] := rfl
  unfold aBuild
  rw [hp]
  simp only [hz, hn, and_self, if_true]
  match hzc : z.cells.toList, hl with
  | [z0, z1, z2, z3], _ => simp [fillL, hc, hca]
theorem buildS01 {P : Program} {t : TypeId} {z n a b c d : Value} (hp : placeT P t = some (z, fun i => [(0, 3), (3, 1)].toArray[i]?)) (hz : constV z = true) (hl : z.cells.toList = [a, b, c, d]) (ht : isTup n = false) (hc : n.cells = #[n]) : aBuild P t [(1, n)] = some (.agg #[a, b, c, n]) := by
  have hn : noTup [(1, n)] = true := by
    unfold noTup
    simpa using ht
  unfold aBuild
  rw [hp]
  simp only [hz, hn, and_self, if_true, hl]
  simp [fillL, hc]
end Go.Proofs.Ytdbflchpbhkanaa.AL

/- AL, the parts 37, 38, 39, 40, 41, 42, 43, 44, 45: code told on an abstract heap. No condition. -/
import Derived.Test.YtdbflchpbhkanaaALC
namespace Go.Proofs.Ytdbflchpbhkanaa.AL
open Go Go.RowKit
attribute [local simp] aBin' aBin aBinI aUn aNil flatV
set_option linter.unusedVariables false
set_option linter.unusedSimpArgs false
structure RowsAB (k : Nat) (G : AH) (eo ei : TypeId) (u : Value) (n : Nat) (C : List Value) (F : List (List Value)) (a b : Nat) : Prop where
  out : OwnK k G eo u n C
  len : C.length = F.length
  row : ∀ (m : Nat) (c : Value) (xs : List Value), (m < a ∨ b ≤ m) → C[m]? = some c → F[m]? = some xs → Own G 0 ei c xs
  apart : ∀ (j m : Nat) (c d : Value) (i : Nat), (j < a ∨ b ≤ j) → (m < a ∨ b ≤ m) → j < m → C[j]? = some c → C[m]? = some d → idOf c = some i → idOf d ≠ some i
  inner : ∀ (m : Nat) (c : Value), (m < a ∨ b ≤ m) → C[m]? = some c → ∀ i, idOf c = some i → idOf u ≠ some i
def those (C : List Value) (a b : Nat) : List Value := C.take a ++ C.drop b
theorem mem_those {C : List Value} {a b : Nat} {c : Value} : c ∈ those C a b ↔ ∃ m, (m < a ∨ b ≤ m) ∧ C[m]? = some c := by
  unfold those
  rw [List.mem_append]
  constructor
  · rintro (h | h)
    · obtain ⟨m, hm⟩ := List.getElem?_of_mem h
      have hlt := (List.getElem?_eq_some_iff.1 hm).1
      simp at hlt
      rw [List.getElem?_take_of_lt (by omega)] at hm
      exact ⟨m, .inl (by omega), hm⟩
    · obtain ⟨m, hm⟩ := List.getElem?_of_mem h
      rw [List.getElem?_drop] at hm
      exact ⟨b + m, .inr (by omega), hm⟩
  · rintro ⟨m, hm | hm, hc⟩
    · exact .inl (List.mem_of_getElem? (i := m) (by rw [List.getElem?_take_of_lt hm, hc]))
    · exact .inr (List.mem_of_getElem? (i := m - b) (by rw [List.getElem?_drop, show b + (m - b) = m by omega, hc]))
theorem mem_ab {C : List Value} {a b i : Nat} {u : Value} : i ∈ ids u ++ (those C a b).flatMap ids ↔ idOf u = some i ∨ ∃ m c, (m < a ∨ b ≤ m) ∧ C[m]? = some c ∧ idOf c = some i := by
  rw [List.mem_append, mem_ids, List.mem_flatMap]
  constructor
  · rintro (h | ⟨c, hc, hi⟩)
    · exact .inl h
    · obtain ⟨m, hm, e⟩ := mem_those.1 hc
      exact .inr ⟨m, c, hm, e, mem_ids.1 hi⟩
  · rintro (h | ⟨m, c, hm, e, hi⟩)
    · exact .inl h
    · exact .inr ⟨c, mem_those.2 ⟨m, hm, e⟩, mem_ids.2 hi⟩
theorem RowsAB.at {k : Nat} {G G' : AH} {eo ei : TypeId} {u : Value} {n : Nat} {C : List Value} {F : List (List Value)} {a b : Nat} (h : RowsAB k G eo ei u n C F a b) (ha : ∀ i, i ∈ ids u ++ (those C a b).flatMap ids → G'[i]? = G[i]?) : RowsAB k G' eo ei u n C F a b where
  out := h.out.at fun i hi => ha i (mem_ab.2 (.inl hi))
  len := h.len
  row := fun m c xs hm hc hx => (h.row m c xs hm hc hx).at fun i hi => ha i (mem_ab.2 (.inr ⟨m, c, hm, hc, hi⟩))
  apart := h.apart
  inner := h.inner
section
variable {Y : List PL} {P : Program} {G G1 H : AH} {B : Nat → Prop} {l : List Item} {u v c c1 c2 : Value} {C : List Value} {F : List (List Value)} {xs ys : List Int} {t e eo ei : TypeId} {k kk k1 k2 a b n : Nat} {y z i j : Int} {ki : IntKind} {q : EInfo}
theorem putL {α : Type} {L new : List α} {off a len : Nat} (h : off + len ≤ L.length) (ha : a + new.length ≤ len) : ((L.take (off + a) ++ new ++ L.drop (off + a + new.length)).drop off).take len = ((L.drop off).take len).take a ++ new ++ ((L.drop off).take len).drop (a + new.length) := by
  apply List.ext_getElem?
  intro x
  simp only [List.getElem?_take, List.getElem?_drop, List.getElem?_append, List.length_append, List.length_take, List.length_drop]
  grind
theorem OwnK.put {new : List Value} {v' : Value} {m : Nat} (h : OwnK k G e u n C) (hs : sizeT P e = some k) (hm : m < n) (hv : isTup v' = false) (hc : v'.cells.toList = new) (hn : new.length = k) :
    ∃ G', aStore P G e (elP u (m * k)) v' = some G' ∧ OwnK k G' e u n (C.take (m * k) ++ new ++ C.drop (m * k + k)) ∧ G'.length = G.length ∧ ∀ i, idOf u ≠ some i → G'[i]? = G[i]? := by
  obtain ⟨h0, h⟩ := h
  have hmk : m * k + k ≤ n * k := by
    have : (m + 1) * k ≤ n * k := Nat.mul_le_mul_right k (by omega)
    rw [Nat.add_mul, Nat.one_mul] at this
    exact this
  rcases h with ⟨rfl, rfl⟩ | ⟨i, off, g, c, o, rfl, h1, h2, h3, h4, h5, h6, h7⟩
  · omega
  · have hal : alive G i g = some o := by simp [alive, h1, h2]
    have hlt := (List.getElem?_eq_some_iff.1 h1).1
    have hcs : v'.cells.size = k := by rw [← Array.length_toList, hc, hn]
    simp only [elP, aStore, hal, hs]
    rw [if_pos ⟨h5, hv, hcs, by omega⟩]
    refine ⟨_, rfl, ⟨by simp [hn]; omega, .inr ⟨i, off, g, c, _, rfl, List.getElem?_set_self hlt, h2, h3, h4, h5, by simp [hn, hc]; omega, ?_⟩⟩, by simp, fun j hne => ?_⟩
    · have hl1 : (C.take (m * k) ++ new ++ C.drop (m * k + k)).length = C.length := by simp [hn]; omega
      rw [hl1, hc]
      have := putL (L := o.cells) (new := new) (off := off) (a := m * k) (len := C.length) (by omega) (by rw [hn]; omega)
      rw [hn, h7] at this
      simpa [Nat.add_assoc, hn] using this
    · rw [List.getElem?_set_ne]
      rintro rfl
      exact hne rfl
end
end Go.Proofs.Ytdbflchpbhkanaa.AL
namespace Go.Proofs.Ytdbflchpbhkanaa.AL
open Go Go.RowKit
attribute [local simp] aBin' aBin aBinI aUn aNil flatV
set_option linter.unusedVariables false
set_option linter.unusedSimpArgs false
def subP (u : Value) (a b : Nat) : Value := match u with
  | .slice (some ⟨i, off, some g⟩) n c => .slice (some ⟨i, off + a * 2, some g⟩) (b - a) (if c = n ∧ b = n then b - a else b - a + 1)
  | v => v
section
variable {Y : List PL} {P : Program} {G G1 H : AH} {B : Nat → Prop} {l : List Item} {u v c c1 c2 : Value} {C zs : List Value} {F F' : List (List Value)} {xs ys : List Int} {t e eo ei : TypeId} {k kk k1 k2 a b n m : Nat} {y z i j : Int} {ki : IntKind} {q : EInfo}
theorem OwnK.clear (h : OwnK 2 G e u n C) (he : elemT P t = some e) (hq : einfo P e = some q) (hq1 : q.size = 2) (ha : a < n) :
    ∃ G' D, aClear P G t (subP u a n) = some (.tuple #[], G') ∧ OwnK 2 G' e u n (C.take (a * 2) ++ D) ∧ G'.length = G.length ∧ ∀ i, idOf u ≠ some i → G'[i]? = G[i]? := by
  obtain ⟨h0, h⟩ := h
  rcases h with ⟨rfl, rfl⟩ | ⟨i, off, g, c, o, rfl, h1, h2, h3, h4, h5, h6, h7⟩
  · omega
  · have hal : alive G i g = some o := by simp [alive, h1, h2]
    have hlt := (List.getElem?_eq_some_iff.1 h1).1
    have hz : (zeros q ((n - a) * 2)).length = (n - a) * 2 := by simp [zeros]
    simp only [subP, aClear, he, hal, hq, hq1]
    rw [if_neg (by omega), if_pos ⟨h5, by omega⟩]
    refine ⟨_, zeros q ((n - a) * 2), rfl, ⟨by simp [hz]; omega, .inr ⟨i, off, g, c, _, rfl, List.getElem?_set_self hlt, h2, h3, h4, h5, by simp [hz]; omega, ?_⟩⟩, by simp, fun j hne => ?_⟩
    · have := putL (L := o.cells) (new := zeros q ((n - a) * 2)) (off := off) (a := a * 2) (len := C.length) (by omega) (by omega)
      rw [hz, h7, List.drop_eq_nil_of_le (by omega : C.length ≤ a * 2 + (n - a) * 2), List.append_nil] at this
      rw [show (C.take (a * 2) ++ zeros q ((n - a) * 2)).length = C.length by simp [hz]; omega]
      exact this
    · rw [List.getElem?_set_ne]
      rintro rfl
      exact hne rfl
theorem OwnK.head (h : OwnK 2 G e u n C) (ha : a < n) : OwnK 2 G e (subP u 0 a) a (C.take (a * 2)) := by
  obtain ⟨h0, h⟩ := h
  rcases h with ⟨rfl, rfl⟩ | ⟨i, off, g, c, o, rfl, h1, h2, h3, h4, h5, h6, h7⟩
  · omega
  · refine ⟨by simp; omega, .inr ⟨i, off, g, _, o, by simp [subP]; rfl, h1, h2, h3, h4, h5, by simp; omega, ?_⟩⟩
    rw [← h7, List.take_take]
    congr 1
    simp
    omega
end
end Go.Proofs.Ytdbflchpbhkanaa.AL
namespace Go.Proofs.Ytdbflchpbhkanaa.AL
open Go Go.RowKit
attribute [local simp] aBin' aBin aBinI aUn aNil flatV
set_option linter.unusedVariables false
set_option linter.unusedSimpArgs false
section
variable {β : Type} {fr : β → List Value} {X : List β} {d : β} {P : Program} {G G1 H : AH} {B : Nat → Prop} {l : List Item} {u v c c1 : Value} {C zs : List Value} {F F' : List (List Value)} {xs : β} {t e eo ei : TypeId} {k kk k1 k2 a b n m : Nat} {y z i j : Int} {ki : IntKind} {q : EInfo}
end
end Go.Proofs.Ytdbflchpbhkanaa.AL
namespace Go.Proofs.Ytdbflchpbhkanaa.AL
open Go Go.RowKit
attribute [local simp] aBin' aBin aBinI aUn aNil flatV
set_option linter.unusedVariables false
set_option linter.unusedSimpArgs false
theorem c_bytes {P : Program} {G : AH} {s e : TypeId} {v : Value} {xs : List Int} (hs : P.underlying s = some (.slice e)) (he : P.underlying e = some (.int .u8)) (hd : P.underlying 9 = some .string) (h : Sl G v (u8s xs)) : aConvert P G s 9 v = some (.string (bstr xs)) := by
  unfold aConvert
  unfold u8s at h
  simp only [hs, hd]
  rcases h with ⟨rfl, h0⟩ | ⟨i, off, g, c, o, rfl, h2, h3, h4, h5⟩
  · have hx : xs = [] := by simpa using h0
    subst hx
    simp [aBytes, he, bstr]
  · simp only [if_true, aBytes, he, h2]
    rw [if_pos h4, h3, unU8_map]
    rfl
theorem Bx.later {G G1 : AH} {B : Nat → Prop} {p : Value} {cells : List Value} (h : ∃ F, (AL.box p cells).P G F ∧ ∀ i ∈ F, ¬ B i) (a : AgB B G G1) : Bx G1 p cells := by
  obtain ⟨F, ⟨i, ⟨e, o, b, c⟩, rfl⟩, h2⟩ := h
  exact ⟨i, e, o, (a.2 i (h2 i (by simp))).trans b, c⟩
end Go.Proofs.Ytdbflchpbhkanaa.AL
namespace Go.Proofs.Ytdbflchpbhkanaa.AL
open Go Go.RowKit
attribute [local simp] aBin' aBin aBinI aUn aNil flatV
set_option linter.unusedVariables false
set_option linter.unusedSimpArgs false
abbrev I2 := Int × Int
def ce (p : I2) : List Value := [.int .i64 p.1, .int .i64 p.2]
def ces (X : List I2) : List Value := X.flatMap ce
def i2 : I2 := (0, 0)
theorem ces_at : ∀ (X : List I2) (j : Nat), j < X.length → ((ces X).drop (j * 2)).take 2 = ce (X.getD j i2)
  | x :: X, 0, _ => by simp [ces, ce]
  | x :: X, j + 1, h => by
    have := ces_at X j (by simpa using h)
    rw [show ces (x :: X) = ce x ++ ces X from List.flatMap_cons, show (j + 1) * 2 = (ce x).length + j * 2 by simp [ce]; omega, List.drop_append, List.drop_of_length_le (Nat.le_add_right _ _), List.nil_append, Nat.add_sub_cancel_left, this]
    simp
def SlI (G : AH) (v : Value) (X : List I2) : Prop := SlK 2 G v X.length (ces X)
section
variable {P : Program} {G G1 H : AH} {B : Nat → Prop} {l : List Item} {u v s : Value} {X Y : List I2} {t t2 e : TypeId} {j k : Nat} {q : EInfo} {n : Int} {kk : IntKind} {a b : Int}
theorem SlI.agree (h : SlI G v X) (a : Agree G.length G G1) : SlI G1 v X := SlK.agree h a
theorem SlI.agr (h : SlI H v X) (a : AgB B H G) (hd : ∀ i, idOf v = some i → ¬ B i) : SlI G v X := by
  obtain ⟨h0, h⟩ := h
  refine ⟨h0, ?_⟩
  rcases h with h | ⟨i, off, g, c, o, rfl, h1, h2⟩
  · exact .inl h
  · obtain ⟨a1, a2⟩ := alive_some h1
    exact .inr ⟨i, off, g, c, o, rfl, by simp [alive, a.2 i (hd i rfl), a1, a2], h2⟩
theorem SlI.id_lt (h : SlI G v X) {i : Nat} (hi : idOf v = some i) : i < G.length := by
  obtain ⟨h0, h⟩ := h
  rcases h with ⟨rfl, _⟩ | ⟨i', off, g, c, o, rfl, h1, _⟩
  · simp [idOf] at hi
  · simp [idOf] at hi
    subst hi
    exact (List.getElem?_eq_some_iff.1 (alive_some h1).1).1
theorem SlI.tup (h : SlI G v X) : isTup v = false := SlK.tup h
theorem SlI.one (h : SlI G v X) : v.cells = #[v] := SlK.one h
theorem SlI.nil : SlI G nilV [] := ⟨rfl, .inl ⟨rfl, rfl⟩⟩
theorem SlI.lenG (h : SlI G v X) (he : elemT P t = some e) : aLen P G t v = some (.int .i64 (llen X)) := SlK.len h he
theorem SlI.idxG (h : SlI G v X) (he : elemT P t = some e) (hs : sizeT P e = some 2) (hi : inL X n) : aIndexAddr P G t v (.int kk n) = some (elP v (n.toNat * 2)) := by
  have := SlK.idx (kk := kk) h he hs (j := n.toNat) (by unfold inL at hi; omega)
  rwa [Int.toNat_of_nonneg hi.1] at this
theorem SlI.loadG (h : SlI G v X) (hs : sizeT P e = some 2) (hb : aggT P e = some true) (hi : inL X n) : aLoad P G e (elP v (n.toNat * 2)) = some (.agg #[.int .i64 (gat i2 X n).1, .int .i64 (gat i2 X n).2]) := by
  have hj : n.toNat < X.length := by unfold inL at hi; omega
  rw [SlK.agg h hs hb hj, ces_at X _ hj, ← gat_eq]
  rfl
def arrV (p : Value) (n : Nat) : Value := match p with
  | .pointer (some ⟨i, o, some g⟩) => .slice (some ⟨i, o, some g⟩) n n
  | v => v
theorem BoxAt.arr {p : Value} {cells : List Value} {i n : Nat} (h : BoxAt G p cells i) (hu : P.underlying t = some (.array n e)) (hs : sizeT P e = some 1) (hn : cells.length = n) : aSlice P G t p none none none = some (arrV p n) ∧ Sl G (arrV p n) cells := by
  obtain ⟨rfl, o, h1, h2, rfl, h3, hz⟩ := h
  have ha : alive G i 0 = some o := by simp [alive, h1, h2]
  refine ⟨?_, .inr ⟨i, 0, 0, n, o, by simp [arrV, ptrAt, hn], ha, by simp, by simp, hz⟩⟩
  simp [ptrAt, aSlice, ha, hu, hs, hz, hn, arrV]
end
end Go.Proofs.Ytdbflchpbhkanaa.AL
namespace Go.Proofs.Ytdbflchpbhkanaa.AL
open Go Go.RowKit
attribute [local simp] aBin' aBin aBinI aUn aNil flatV
set_option linter.unusedVariables false
set_option linter.unusedSimpArgs false
section
variable {β : Type} {fr : β → List Value} {X : List β} {y : β} {P : Program} {G G1 H : AH} {B : Nat → Prop} {l : List Item} {u v c s : Value} {C cells new : List Value} {F : List (List Value)} {t t2 e eo ei : TypeId} {j k w : Nat} {q : EInfo} {a b : Int}
end
end Go.Proofs.Ytdbflchpbhkanaa.AL
namespace Go.Proofs.Ytdbflchpbhkanaa.AL
open Go Go.RowKit
section
variable {P : Program} {nt : Nat} {env : Env} {H : AH} {Q : Exit → Env → AH → Prop} {id : Nat} {ops : Array Oper} {y : Code}
theorem DWp.sr (h : ∀ K : Env → AH → Prop, (∀ env H, DWp P nt y Q env H → K env H) → ARunD P nt ops 0 K 0 ops.toList env H) : DWp P nt (.seq (.region id ops false) y) Q env H := DWp.seq (DWp.region h)
theorem DWp.sd {B : List Nat} (k : Nat) (hm : P.follows .mixedOrders = true) (hc : chk ops B k = true) (hk : k ≤ ops.size) (h : ∀ K : Env → AH → Prop, (∀ env H, DWp P nt y Q env H → K env H) → ARunD P nt ops k K 0 ops.toList env H) : DWp P nt (.seq (.region id ops true) y) Q env H := DWp.seq (DWp.drawn k hm hc hk h)
theorem DWp.sl {B : List Nat} {X0 : List Nat} {π σ : List Nat} (k : Nat) (K : Nat → Bool) (N : Option Nat) (hm : P.follows .mixedOrders = true) (hp : okP ops.size π σ = true) (hc : chkL (rlL π σ ops.toList).toArray B k X0 = true) (hk : k ≤ ops.size)
    (h : ∀ NN : Env → AH → Prop, (∀ env H, DWp P nt y Q env H → NN env H) → ARunL P nt (rl0 π σ ops.toList).toArray k K N X0 NN 0 (rl0 π σ ops.toList) env H) : DWp P nt (.seq (.region id ops true) y) Q env H := DWp.seq (DWp.drawn0 k K N hm hp hc hk h)
end
end Go.Proofs.Ytdbflchpbhkanaa.AL
namespace Go.Proofs.Ytdbflchpbhkanaa.AL
open Go Go.RowKit
set_option linter.unusedVariables false
set_option linter.unusedSimpArgs false
section
variable {P : Program} {G G1 H : AH} {B : Nat → Prop} {l : List Item} {u v s : Value} {cells : List Value} {t t2 e : TypeId} {j k : Nat} {q : EInfo}
end
end Go.Proofs.Ytdbflchpbhkanaa.AL
namespace Go.Proofs.Ytdbflchpbhkanaa.AL
open Go Go.RowKit
attribute [local simp] aBin' aBin aBinI aUn aNil flatV
set_option linter.unusedVariables false
set_option linter.unusedSimpArgs false

def bids (p : Value) : List Nat := (AL.idV p).toList
theorem mem_bids {p : Value} {i : Nat} : i ∈ bids p ↔ AL.idV p = some i := by simp [bids]
section
variable {P : Program} {G G0 G' H : AH} {B B' : Nat → Prop} {l l0 l1 l2 : List Item} {u v p : Value} {t e eo ei : TypeId} {j k N : Nat} {C c : List Value} {F : List (List Value)} {vs : List Value}
theorem storeB_same {x : Value} (h : aStore P G t p x = some G') : ∀ i, i < G.length → i ∉ bids p → G'[i]? = G[i]? := fun i hi hm => by
  unfold aStore at h
  split at h
  · split at h
    · split at h
      · cases h
        refine List.getElem?_set_ne fun e => hm ?_
        subst e
        exact mem_bids.2 rfl
      · cases h
    · cases h
  · cases h
theorem stand_kplB (h : ∀ i, i < G.length → i ∉ bids p → G'[i]? = G[i]?) (ha : ∀ v ∈ vs, ∀ i ∈ bids p, AL.idV v ≠ some i) : Stand (kpl vs) G G' := fun i hi hK => h i hi fun hm => by
  obtain ⟨v, hv, e⟩ := kpl_some hK
  exact ha v hv i hm e
theorem box_bids {cells : List Value} {F : List Nat} (h : (AL.box p cells).P G F) : F = bids p := by
  obtain ⟨m, ⟨rfl, _⟩, rfl⟩ := h
  rfl
theorem Sep.two {it jt : Item} (h : Sep G B l) (hk : l[k]? = some it) (hj : l[j]? = some jt) (hn : k ≠ j) : ∃ F1 F2, it.P G F1 ∧ jt.P G F2 ∧ ∀ i ∈ F1, i ∉ F2 := by
  obtain ⟨F, h1, h2⟩ := h
  exact ⟨_, _, (h1 k _ hk).1, (h1 j _ hj).1, h2 k j (List.getElem?_eq_some_iff.1 hk).1 (List.getElem?_eq_some_iff.1 hj).1 hn⟩
theorem Sep.bb {c1 c2 : List Value} {q : Value} (h : Sep G B l) (hk : l[k]? = some (AL.box p c1)) (hj : l[j]? = some (AL.box q c2)) (hn : k ≠ j) : ∀ i ∈ bids p, AL.idV q ≠ some i := fun i hi hv => by
  obtain ⟨F1, F2, a, b, c⟩ := h.two hk hj hn
  rw [box_bids a, box_bids b] at c
  exact c i hi (mem_bids.2 hv)
theorem stand_call (a : AgB B' G G') (h : ∀ v ∈ vs, ∀ i, AL.idV v = some i → ¬ B' i) : Stand (kpl vs) G G' := fun i hi hK => by
  obtain ⟨v, hv, e⟩ := kpl_some hK
  exact a.2 i (h v hv i e)
theorem nb_box {c1 : List Value} (h : ∃ F, (AL.box p c1).P G F ∧ ∀ i ∈ F, ¬ B' i) : ∀ i, AL.idV p = some i → ¬ B' i := fun i hi => by
  obtain ⟨F, a, b⟩ := h
  rw [box_bids a] at b
  exact b i (mem_bids.2 hi)
end
end Go.Proofs.Ytdbflchpbhkanaa.AL

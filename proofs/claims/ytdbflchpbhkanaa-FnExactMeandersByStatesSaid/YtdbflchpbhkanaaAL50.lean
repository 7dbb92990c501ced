/- AL, part 50: rows that are kept and only read; maps, what is owned of them. No condition. -/
import Derived.Test.YtdbflchpbhkanaaALD
namespace Go.Proofs.Ytdbflchpbhkanaa.AL
open Go Go.RowKit
set_option linter.unusedVariables false
set_option linter.unusedSimpArgs false
def pool (D : List (Value × List Int)) : Item := ⟨fun G F => (∀ e ∈ D, Sl G e.1 (ints e.2)) ∧ F = D.flatMap fun e => ids e.1, fun G G' F h ⟨a, b⟩ => by
  subst b
  exact ⟨fun e he => (a e he).at fun i hi => h i (List.mem_flatMap.2 ⟨e, he, mem_ids.2 hi⟩), rfl⟩⟩
theorem mapO_at {G G' : AH} {j : Nat} (h1 : G'[j]? = G[j]?) (h2 : G'[j + 1]? = G[j + 1]?) : mapO G' (j + 1) = mapO G (j + 1) := by
  simp only [mapO, h1, h2]
def mapC (v : Value) (d : TypeDesc) (n : Nat) (E : Ents) : Item := ⟨fun G F => ∃ j c, v = .map (some (j + 1)) ∧ mapO G (j + 1) = some (j, c) ∧ c.elem = n ∧ c.cells = encE E ∧ (∀ e ∈ E, e.2.length = n ∧ keyOk d e.1 = true) ∧ F = [j, j + 1],
  fun G G' F h ⟨j, c, h1, h2, h3, h4, h5, h6⟩ => by
    subst h6
    exact ⟨j, c, h1, by rw [mapO_at (h j (by simp)) (h (j + 1) (by simp))]; exact h2, h3, h4, h5, rfl⟩⟩
section
variable {P : Program} {G G1 H : AH} {B : Nat → Prop} {l : List Item} {v c x key z : Value} {D D2 : List (Value × List Int)} {E : Ents} {t ei : TypeId} {j k n : Nat} {d : TypeDesc} {a : List Int}
theorem Sep.poolNil (h : Sep G B l) (hN : Up B G.length) : Sep G B (l ++ [pool []]) :=
  h.app (B' := Fr G) (Agree.refl _ _) ⟨fun _ => [], fun k jt hk => by
    cases k with
    | zero => simp at hk; subst hk; exact ⟨⟨fun e he => by simp at he, rfl⟩, fun i hi => by simp at hi⟩
    | succ k => simp at hk, fun j k hj hk hjk i hi => by simp at hi⟩ (fun _ h => h) hN
theorem Sep.poolSl (h : Sep G B l) (hk : l[k]? = some (pool D)) {e : Value × List Int} (he : e ∈ D) : Sl G e.1 (ints e.2) := by
  obtain ⟨F, h1, _⟩ := h.get hk
  exact h1.1 e he
theorem Sep.poolPut (h : Sep G B l) (d1 : j ≠ k) (hj : l[j]? = some (pool D)) (hk : l[k]? = some (flat c ei (ints a))) : Sep G B ((l.set j (pool (D ++ [(c, a)]))).set k emp) := by
  have jl := (List.getElem?_eq_some_iff.1 hj).1
  have h1 := h.join d1 hj hk
  have hj1 : ((l.set j (star (pool D) (flat c ei (ints a)))).set k emp)[j]? = some (star (pool D) (flat c ei (ints a))) := by
    rw [List.getElem?_set_ne (fun e => d1 e.symm), List.getElem?_set_self jl]
  have h2 := h1.turn (it' := pool (D ++ [(c, a)])) hj1 fun A ⟨A1, A2, eA, ⟨r1, r2⟩, ⟨x1, x2⟩, dd⟩ => by
    subst r2 x2 eA
    refine ⟨_, ⟨fun e he => ?_, rfl⟩, fun i hi => by simpa [List.flatMap_append] using hi⟩
    rcases List.mem_append.1 he with he | he
    · exact r1 e he
    · simp at he
      subst he
      exact x1.sl
  rw [List.set_comm _ _ (fun e => d1 e.symm), List.set_set] at h2
  exact h2
theorem Sep.mapT' (h : Sep G B l) (hk : l[k]? = some (mapC v d n E)) : isTup v = false ∧ v.cells = #[v] ∧ flatV v = true := by
  obtain ⟨F, ⟨j, c, rfl, _⟩, _⟩ := h.get hk
  exact ⟨rfl, rfl, rfl⟩
theorem Sep.mapTup (h : Sep G B l) (hk : l[k]? = some (mapC v d n E)) : isTup v = false := (h.mapT' hk).1
theorem Sep.mapLook (h : Sep G B l) (hk : l[k]? = some (mapC v d n E)) (hT : mapT P t = some (d, n, z)) (hkey : keyOk d key = true) (ok : Bool) :
    aLookup P G t v key ok = some (match mget key E with
      | some x => if ok then .tuple #[packV x, .bool true] else packV x
      | none => if ok then .tuple #[z, .bool false] else z) := by
  obtain ⟨F, ⟨j, c, rfl, h2, h3, h4, h5, h6⟩, _⟩ := h.get hk
  have hd : decE n c.cells = some E := by rw [h4]; exact decE_enc fun e he => (h5 e he).1
  have ha : E.all (fun e => keyOk d e.1) = true := List.all_eq_true.2 fun e he => (h5 e he).2
  simp only [aLookup, hT, h2, hd]
  rw [if_pos ⟨h3, hkey, ha⟩]
  cases mget key E <;> cases ok <;> rfl
def mvalZ (z : Value) : Option (List Value) → Value
  | some x => packV x
  | none => z
theorem Sep.mapLook0 (h : Sep G B l) (hk : l[k]? = some (mapC v d n E)) (hT : mapT P t = some (d, n, z)) (hkey : keyOk d key = true) : aLookup P G t v key false = some (mvalZ z (mget key E)) := by
  rw [h.mapLook hk hT hkey false]
  cases mget key E <;> rfl
theorem Sep.mapLen (h : Sep G B l) (hk : l[k]? = some (mapC v d n E)) {kt et : TypeId} (hu : P.underlying t = some (.map kt et)) : aLen P G t v = some (.int .i64 E.length) := by
  obtain ⟨F, ⟨j, c, rfl, h2, h3, h4, h5, h6⟩, _⟩ := h.get hk
  have hd : decE c.elem c.cells = some E := by rw [h3, h4]; exact decE_enc fun e he => (h5 e he).1
  simp [aLen, hu, aMapLen, h2, hd]
theorem mput_key {key : Value} {x : List Value} {E : Ents} (hkey : keyOk d key = true) (h : ∀ e ∈ E, keyOk d e.1 = true) : ∀ e ∈ mput key x E, keyOk d e.1 = true := fun e he => by
  rcases mput_mem he with he | ⟨_, he | ⟨y, hy, he⟩⟩
  · exact h e he
  · rw [he]; exact hkey
  · rw [← he]; exact h y hy
theorem Sep.mapPut (h : Sep G B l) (hk : l[k]? = some (mapC v d n E)) (hN : Up B G.length) (hT : mapT P t = some (d, n, z)) (hkey : keyOk d key = true) (hx : isTup x = false) (hs : x.cells.size = n) (hr : rowOk n x = true) :
    ∃ G', aMapPut P G t v key x = some G' ∧ Sep G' B (l.set k (mapC v d n (mput key x.cells.toList E))) ∧ AgB B G G' := by
  have h0 := h
  obtain ⟨F, ⟨j, c, rfl, h2, h3, h4, h5, h6⟩, hF⟩ := h.get hk
  have hd : decE n c.cells = some E := by rw [h4]; exact decE_enc fun e he => (h5 e he).1
  have ha : E.all (fun e => keyOk d e.1) = true := List.all_eq_true.2 fun e he => (h5 e he).2
  have hj := (hF j (by rw [h6]; simp)).2
  have hp : aMapPut P G t (.map (some (j + 1))) key x = some (G.set j { c with cells := encE (mput key x.cells.toList E) }) := by
    simp only [aMapPut, hT, h2, hd]
    rw [if_pos ⟨⟨h3, hkey, ha⟩, hx, hs, hr⟩]
  obtain ⟨_, o, o1, o2, o3, o4, o5, o6, o7⟩ := mapO_some h2
  obtain ⟨G', r, s1, s2, s3⟩ := h0.step (it' := mapC (.map (some (j + 1))) d n (mput key x.cells.toList E)) hk hN (fun G' => G' = G.set j { c with cells := encE (mput key x.cells.toList E) }) fun F' ⟨j', c', p1, p2, p3, p4, p5, p6⟩ hF' => by
    have e : j' = j := by cases p1; rfl
    subst e
    refine ⟨_, [j', j' + 1], rfl, ⟨j', { c with cells := encE (mput key x.cells.toList E) }, rfl, ?_, h3, rfl, fun e he => ⟨mput_len (by simpa using hs) (fun e he => (h5 e he).1) e he, mput_key hkey (fun e he => (h5 e he).2) e he⟩, rfl⟩, fun i hi => .inl (by rw [p6]; exact hi), by simp, fun i hi hm => ?_⟩
    · simp only [mapO]
      rw [List.getElem?_set_ne (by omega), List.getElem?_set_self hj, o1]
      simp [o2, o3, o5, o6, o7]
    · rw [List.getElem?_set_ne]
      rintro rfl
      rw [p6] at hm
      simp at hm
  exact ⟨G', r ▸ hp, s1, s2⟩
theorem Sep.mapNew (h : Sep G B l) (hN : Up B G.length) (hT : mapT P t = some (d, n, z)) :
    ∃ v G', aMakeMap P G t = some (v, G') ∧ Sep G' B (l ++ [mapC v d n []]) ∧ Agree G.length G G' ∧ isTup v = false ∧ v.cells = #[v] := by
  refine ⟨.map (some (G.length + 1)), G ++ [⟨[], n, 0, 1, true⟩, ⟨[], 0, 0, 0, true⟩], by simp [aMakeMap, hT], ?_, Agree.app _ _, rfl, rfl⟩
  refine h.app (B' := Fr G) (Agree.app _ _) ⟨fun _ => [G.length, G.length + 1], fun k jt hk => ?_, fun a b ha hb hab => by simp at ha hb; omega⟩ (fun _ h => h) hN
  cases k with
  | zero =>
    simp at hk
    subst hk
    refine ⟨⟨G.length, ⟨[], n, 0, 1, true⟩, rfl, ?_, rfl, rfl, fun e he => by simp at he, rfl⟩, fun i hi => ?_⟩
    · simp [mapO]
    · simp at hi
      unfold Fr
      simp
      omega
  | succ k => simp at hk
end
def mgetI (k : Int) : List (Int × Int) → Option Int
  | [] => none
  | e :: r => if k = e.1 then some e.2 else mgetI k r
def mputI (k x : Int) : List (Int × Int) → List (Int × Int)
  | [] => [(k, x)]
  | e :: r => if k = e.1 then (e.1, x) :: r else e :: mputI k x r
def encI (m : List (Int × Int)) : Ents := m.map fun e => (.int .i64 e.1, [.int .i64 e.2])
def mapI (v : Value) (m : List (Int × Int)) : Item := mapC v (.int .i64) 1 (encI m)
theorem mget_I (k : Int) : ∀ m : List (Int × Int), mget (.int .i64 k) (encI m) = (mgetI k m).map fun x => [.int .i64 x]
  | [] => rfl
  | e :: r => by
    have ih := mget_I k r
    unfold encI at ih ⊢
    simp only [List.map_cons, mget, mgetI, keyEq, decide_true, Bool.true_and, beq_iff_eq]
    split
    · rfl
    · exact ih
theorem mput_I (k x : Int) : ∀ m : List (Int × Int), mput (.int .i64 k) [.int .i64 x] (encI m) = encI (mputI k x m)
  | [] => rfl
  | e :: r => by
    have ih := mput_I k x r
    unfold encI at ih ⊢
    simp only [List.map_cons, mput, mputI, keyEq, decide_true, Bool.true_and, beq_iff_eq]
    split
    · rfl
    · rw [ih]; rfl
section
variable {P : Program} {G G1 H : AH} {B : Nat → Prop} {l : List Item} {v : Value} {m : List (Int × Int)} {t : TypeId} {k : Nat} {q x : Int}
theorem Sep.miLook (h : Sep G B l) (hk : l[k]? = some (mapI v m)) (hT : mapT P t = some (.int .i64, 1, .int .i64 0)) : aLookup P G t v (.int .i64 q) false = some (.int .i64 ((mgetI q m).getD 0)) := by
  rw [h.mapLook hk hT rfl false, mget_I]
  cases mgetI q m <;> rfl
theorem Sep.miLookOk (h : Sep G B l) (hk : l[k]? = some (mapI v m)) (hT : mapT P t = some (.int .i64, 1, .int .i64 0)) : aLookup P G t v (.int .i64 q) true = some (.tuple #[.int .i64 ((mgetI q m).getD 0), .bool (mgetI q m).isSome]) := by
  rw [h.mapLook hk hT rfl true, mget_I]
  cases mgetI q m <;> rfl
theorem Sep.miLen (h : Sep G B l) (hk : l[k]? = some (mapI v m)) {kt et : TypeId} (hu : P.underlying t = some (.map kt et)) : aLen P G t v = some (.int .i64 (llen m)) := by
  rw [h.mapLen hk hu]
  simp [encI, llen]
theorem Sep.miPut (h : Sep G B l) (hk : l[k]? = some (mapI v m)) (hN : Up B G.length) (hT : mapT P t = some (.int .i64, 1, .int .i64 0)) : ∃ G', aMapPut P G t v (.int .i64 q) (.int .i64 x) = some G' ∧ Sep G' B (l.set k (mapI v (mputI q x m))) ∧ AgB B G G' := by
  obtain ⟨G', h1, h2, h3⟩ := h.mapPut (x := .int .i64 x) hk hN hT (key := .int .i64 q) rfl rfl rfl rfl
  refine ⟨G', h1, ?_, h3⟩
  unfold mapI
  rw [← mput_I]
  exact h2
theorem Sep.miNew (h : Sep G B l) (hN : Up B G.length) (hT : mapT P t = some (.int .i64, 1, .int .i64 0)) : ∃ v G', aMakeMap P G t = some (v, G') ∧ Sep G' B (l ++ [mapI v []]) ∧ Agree G.length G G' ∧ isTup v = false ∧ v.cells = #[v] := h.mapNew hN hT
end
end Go.Proofs.Ytdbflchpbhkanaa.AL

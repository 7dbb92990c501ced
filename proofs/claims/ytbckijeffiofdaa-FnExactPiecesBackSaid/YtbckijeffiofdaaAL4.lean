/- AL, part 4: make, append, copy. No condition. -/
import Derived.Test.YtbckijeffiofdaaAL3
namespace Go.Proofs.Ytbckijeffiofdaa.AL
open Go Go.RowKit
set_option linter.unusedVariables false
set_option linter.unusedSimpArgs false

section run
variable {P : Program} {w : World}
theorem run_append_room' (t t2 ty e : TypeId) (i : TypeInfo) (u : TypeDesc) (ht : P.underlying t = some (.slice e)) (ht2 : P.underlying t2 = some u) (hni : (∃ e2, u = .slice e2) ∨ u = .string) (hi : P.info? e = some i)
    (g o sLen sCap : Nat) (cur : Array Value) (hg : w.heap[g]? = some (.cells cur e (0, 0))) (x : Value) (m : Nat) (news : List Value)
    (hlen : (Builtin.lenOf x).run P w = .ok m w) (hfc : (Builtin.firstCells i.size m x).run P w = .ok news.toArray w) (h1 : ∀ u ∈ news, u.oneCell' = true)
    (hroom : sLen + m ≤ sCap) (hfit : o + sLen * i.size + news.length ≤ cur.size) :
    (Builtin.append_ #[t, t2] ty #[.slice (some ⟨g, o, none⟩) sLen sCap, x]).run P w =
      .ok (.slice (some ⟨g, o, none⟩) (sLen + m) sCap) (w.setRow g (cur.toList.take (o + sLen * i.size) ++ news ++ cur.toList.drop (o + sLen * i.size + news.length)).toArray) := by
  have hst := run_storeCells_at P g (o + sLen * i.size) e news 0 cur w hg (by simpa using hfit) h1
  simp only [Nat.add_zero] at hst
  have hadd : (⟨g, o, none⟩ : Addr).add (sLen * i.size) = ⟨g, o + sLen * i.size, none⟩ := by unfold Addr.add; split <;> simp_all
  rcases hni with ⟨e2, rfl⟩ | rfl <;> simp [Builtin.append_, run_underlying ht, run_underlying ht2, sizeOf, typeInfo, hi, hlen, hroom, hfc, hadd, hst]
theorem run_append_same (t t2 ty e : TypeId) (i : TypeInfo) (u : TypeDesc) (ht : P.underlying t = some (.slice e)) (ht2 : P.underlying t2 = some u) (hni : (∃ e2, u = .slice e2) ∨ u = .string) (hi : P.info? e = some i)
    (a : Option Addr) (sLen sCap : Nat) (x : Value) (hle : sLen ≤ sCap) (hlen : (Builtin.lenOf x).run P w = .ok 0 w) (hfc : (Builtin.firstCells i.size 0 x).run P w = .ok #[] w) :
    (Builtin.append_ #[t, t2] ty #[.slice a sLen sCap, x]).run P w = .ok (.slice a sLen sCap) w := by
  cases a <;> rcases hni with ⟨e2, rfl⟩ | rfl <;> simp [Builtin.append_, run_underlying ht, run_underlying ht2, sizeOf, typeInfo, hi, hlen, hle, hfc, storeCells]
theorem run_append_grow' (t t2 ty e : TypeId) (i : TypeInfo) (z : Value) (u : TypeDesc) (ht : P.underlying t = some (.slice e)) (ht2 : P.underlying t2 = some u) (hni : (∃ e2, u = .slice e2) ∨ u = .string) (hi : P.info? e = some i) (hz : i.zero = some z)
    (a : Option Addr) (sLen sCap : Nat) (olds : List Value) (holds : ∀ w', SameHeap w w' → (Builtin.firstCells i.size sLen (.slice a sLen sCap)).run P w' = .ok olds.toArray w')
    (x : Value) (m : Nat) (news : List Value) (hlen : (Builtin.lenOf x).run P w = .ok m w) (hfc : ∀ w', SameHeap w w' → (Builtin.firstCells i.size m x).run P w' = .ok news.toArray w')
    (hg : sCap < sLen + m) (h63 : ((sLen + m : Nat) : Int) ≤ 9223372036854775807) (hfit : Builtin.nextslicecap (sLen + m) sCap * i.bytes ≤ 281474976710656) :
    (Builtin.append_ #[t, t2] ty #[.slice a sLen sCap, x]).run P w =
      .ok (.slice (some ⟨w.heap.size, 0, none⟩) (sLen + m) (grownCap w (sLen + m) sCap e))
        (w.drew.alloc (.cells (olds.toArray ++ news.toArray ++ Builtin.zeroCells z.cells (grownCap w (sLen + m) sCap e - (sLen + m))) e)) := by
  have hn : ¬ (sLen + m ≤ sCap) := by omega
  have h63' : ¬ (9223372036854775807 < ((sLen : Int) + (m : Int))) := by omega
  have h48' : ¬ (281474976710656 < Builtin.nextslicecap (sLen + m) sCap * i.bytes) := by omega
  have hf := hfc w.drew ⟨rfl, rfl, rfl, rfl⟩
  have hfo := holds w.drew ⟨rfl, rfl, rfl, rfl⟩
  rcases hni with ⟨e2, rfl⟩ | rfl
  all_goals
    simp [Builtin.append_, run_underlying ht, run_underlying ht2, sizeOf, typeInfo, zeroValue, hi, hz, hlen, hn, h63', h48', Question.forced, hf, hfo, newRow, grownCap]
    congr 2
    apply Array.ext'
    simp [List.append_assoc]
end run

/-- The cells of what is appended, and how many elements these are. -/
def srcOf (H : AH) (size : Nat) : Value → Option (List Value × Nat)
  | .slice none 0 0 => some ([], 0)
  | .slice (some ⟨i, off, some g⟩) m _ => match alive H i g with
    | some o => if off + m * size ≤ o.cells.length then some ((o.cells.drop off).take (m * size), m) else none
    | none => none
  | .string s => if size = 1 then some (s.data.toList.map fun b => .int .u8 b.toNat, s.size) else none
  | _ => none
def srcD (P : Program) (t2 : TypeId) : Bool := match P.underlying t2 with
  | some (.slice _) => true
  | some .string => true
  | _ => false
def aAppend (P : Program) (H : AH) (t t2 : TypeId) (s x : Value) : Option (Value × AH) := match elemT P t with
  | some e => match einfo P e with
    | some q => if srcD P t2 = true then match srcOf H q.size x with
      | some (news, m) => match s with
        | .slice none 0 0 => if m = 0 then some (.slice none 0 0, H) else if m ≤ LIM then some (.slice (some ⟨H.length, 0, some 0⟩) m (m + 1), aNew H news e q.size) else none
        | .slice (some ⟨i, off, some g⟩) n c => match alive H i g with
          | some o => if m = 0 then some (.slice (some ⟨i, off, some g⟩) n c, H) else
            if off + n * q.size ≤ o.cells.length ∧ n + m ≤ LIM then
              if c = n then some (.slice (some ⟨H.length, 0, some 0⟩) (n + m) (n + m + 1), aNew H ((o.cells.drop off).take (n * q.size) ++ news) e q.size)
              else if o.ro = false ∧ o.sz = q.size ∧ o.elem = e then some (.slice (some ⟨i, 0, some (g + 1)⟩) (n + m) (n + m + 1), H.set i { o with cells := (o.cells.drop off).take (n * q.size) ++ news, gen := g + 1 })
              else none
            else none
          | none => none
        | _ => none
      | none => none
      else none
    | none => none
  | none => none

section sound
variable {P : Program} {β : BM} {H : AH} {w : World}
theorem lenOf_slice {a : Option Addr} {n c : Nat} : (Builtin.lenOf (.slice a n c)).run P w = .ok n w := by simp [Builtin.lenOf]
/-- What the source holds in the real heap. -/
theorem srcOf_sound (R : Rel β H w) {size : Nat} {x x' : Value} {news : List Value} {m : Nat} (h : srcOf H size x = some (news, m)) (hx : T3 β x x') :
    ∃ news', All2 (T1 β) news news' ∧ news.length = m * size ∧ (Builtin.lenOf x').run P w = .ok m w ∧ ∀ w', SameHeap w w' → (Builtin.firstCells size m x').run P w' = .ok news'.toArray w' := by
  unfold srcOf at h
  split at h
  · cases h
    have := hx.of_plain rfl
    subst this
    exact ⟨[], .nil, by simp, lenOf_slice, fun w' _ => run_firstCells_none w' _ _ _ _⟩
  · rename_i i off g n c
    split at h
    · rename_i o ha
      split at h
      · rename_i hfit
        cases h
        obtain ⟨ho, hg⟩ := alive_some ha
        obtain ⟨l, a, c', hl, hlg, rfl, hn, _, hadr⟩ := hx.sl R ha
        obtain ⟨cs, h2, hc⟩ := R.reads ho hl off (m * size) hfit
        have hlen : ((o.cells.drop off).take (m * size)).length = m * size := by simp; omega
        refine ⟨cs, h2, hlen, lenOf_slice, fun w' hs => ?_⟩
        have hcl : cs.length = m * size := by rw [← h2.length]; exact hlen
        refine run_firstCells_some w' size m a m c' cs hcl fun j v hv => ?_
        rcases hadr with h0 | ⟨rfl, _⟩
        · have : m = 0 := by omega
          subst this
          have : cs = [] := List.eq_nil_of_length_eq_zero (by simpa using hcl)
          subst this
          simp at hv
        · have := hc j v hv
          simpa [World.cell?, hs.heap] using this
      · cases h
    · cases h
  · rename_i s
    split at h
    · rename_i hs
      cases h
      subst hs
      have := hx.string
      subst this
      have e1 : s.data.toList.length = s.size := by rw [Array.length_toList]; rfl
      refine ⟨_, All2.same fun a ha => ?_, by rw [List.length_map, e1]; simp, by simp [Builtin.lenOf], fun w' _ => ?_⟩
      · obtain ⟨b, _, rfl⟩ := List.mem_map.1 ha
        exact .one (.plain rfl)
      · simp only [Builtin.firstCells]
        have : s.extract 0 s.size = s := by simp
        rw [this]
        simp
        apply Array.ext'
        simp
    · cases h
  · cases h
theorem T3.slice_of {n c c' : Nat} {i off g : Nat} {l : Loc} {a : Addr} (hl : β i = some l) (hg : l.gen = g) (hn : n ≤ c') (hc : c = n → c' = n) (ha : c' = 0 ∨ (a = ⟨l.b, l.base + off, none⟩ ∧ l.base + off + c' * l.sz ≤ l.fin)) :
    T3 β (.slice (some ⟨i, off, some g⟩) n c) (.slice (some a) n c') := .one (.one (.one (.sl hl hg hn hc ha)))
theorem append_fits {n m cap bytes : Nat} (h : cap < n + m) (hl : n + m ≤ LIM) (hb : bytes ≤ 16384) : Builtin.nextslicecap (n + m) cap * bytes ≤ 281474976710656 := by
  refine growslice_fits h ?_
  have : (n + m) * bytes ≤ LIM * 16384 := Nat.mul_le_mul hl hb
  simp only [LIM] at this
  omega
theorem grown_rel {q : EInfo} {news news' : List Value} {k : Nat} (h : All2 (T1 β) news news') : All2 (T1 β) news ((news'.toArray ++ Builtin.zeroCells q.zero.cells k).toList.take news.length) := by
  have hl := h.length
  simp only [Array.toList_append, List.toList_toArray]
  rw [hl, List.take_left]
  exact h
theorem aAppend_sound (R : Rel β H w) {t t2 ty : TypeId} {s s' x x' v : Value} {H' : AH} (h : aAppend P H t t2 s x = some (v, H')) (hs : T3 β s s') (hx : T3 β x x') :
    ∃ β' w' v', (Builtin.append_ #[t, t2] ty #[s', x']).run P w = .ok v' w' ∧ Rel β' H' w' ∧ Ext H.length β w β' w' ∧ T3 β' v v' := by
  unfold aAppend at h
  split at h
  case h_2 => cases h
  rename_i e he
  have hu := elemT_some he
  split at h
  case h_2 => cases h
  rename_i q hq
  obtain ⟨i, hi, hz, hsz, hby, hzs, hpos, hcz, hb⟩ := einfo_some hq
  split at h
  case isFalse => cases h
  rename_i hsd
  obtain ⟨u, ht2, hni⟩ : ∃ u, P.underlying t2 = some u ∧ ((∃ e2, u = .slice e2) ∨ u = .string) := by
    unfold srcD at hsd
    split at hsd
    · exact ⟨_, by assumption, .inl ⟨_, rfl⟩⟩
    · exact ⟨_, by assumption, .inr rfl⟩
    · cases hsd
  split at h
  case h_2 => cases h
  rename_i news m hsrc
  obtain ⟨news', hnw, hnl, hlen, hfc⟩ := srcOf_sound (P := P) R hsrc hx
  have hnl' : news'.length = m * q.size := by rw [← hnw.length]; exact hnl
  have hzc : q.zero.cells.size = i.size := by rw [hsz]; exact hzs
  -- a new block
  have make : ∀ (a : Option Addr) (n cap : Nat) (olds olds' : List Value), All2 (T1 β) olds olds' → olds.length = n * q.size → (∀ w', SameHeap w w' → (Builtin.firstCells i.size n (.slice a n cap)).run P w' = .ok olds'.toArray w') → cap < n + m → n + m ≤ LIM →
      (Builtin.append_ #[t, t2] ty #[.slice a n cap, x']).run P w = .ok (.slice (some ⟨w.heap.size, 0, none⟩) (n + m) (grownCap w (n + m) cap e))
        (w.drew.alloc (.cells ((olds' ++ news') ++ (Builtin.zeroCells q.zero.cells (grownCap w (n + m) cap e - (n + m))).toList).toArray e)) ∧
      ((olds' ++ news') ++ (Builtin.zeroCells q.zero.cells (grownCap w (n + m) cap e - (n + m))).toList).length = grownCap w (n + m) cap e * q.size ∧ n + m ≤ grownCap w (n + m) cap e := by
    intro a n cap olds olds' ho hol hfo hcap hlim
    have hge := grownCap_ge w (n + m) cap e
    have hol' : olds'.length = n * q.size := by rw [← ho.length]; exact hol
    refine ⟨?_, ?_, hge⟩
    · rw [run_append_grow' t t2 ty e i q.zero u hu ht2 hni hi hz a n cap olds' hfo x' m news' hlen (fun w' h' => by rw [hsz]; exact hfc w' h') hcap (by simp only [LIM] at hlim; omega) (by rw [hby]; exact append_fits hcap hlim hb)]
      congr 3
      apply Array.ext'
      simp
    · simp only [List.length_append, Array.length_toList, hol', hnl', size_zeroCells, hzs]
      rw [← Nat.add_mul, ← Nat.add_mul]
      congr 1
      omega
  split at h
  · -- nil
    have := hs.of_plain rfl
    subst this
    split at h
    · rename_i hm
      cases h
      subst hm
      have hn0 : news' = [] := List.eq_nil_of_length_eq_zero (by simpa using hnl')
      subst hn0
      exact ⟨β, w, _, run_append_same t t2 ty e i u hu ht2 hni hi none 0 0 x' (Nat.le_refl _) hlen (by rw [hsz]; exact hfc w ⟨rfl, rfl, rfl, rfl⟩), R, .refl _ _ _, .plain rfl⟩
    · split at h
      · rename_i hm hlim
        cases h
        obtain ⟨h1, h2, h3⟩ := make none 0 0 [] [] .nil (by simp) (fun w' _ => run_firstCells_none w' _ _ _ _) (by omega) (by omega)
        simp only [Nat.zero_add, List.nil_append] at h1 h2 h3
        obtain ⟨β', R', E, hn⟩ := push_sound (w1 := w.drew) R (.drew w) news (news' ++ (Builtin.zeroCells q.zero.cells (grownCap w m 0 e - m)).toList) e q.size (by
          rw [hnw.length, List.take_left]; exact hnw)
        exact ⟨β', _, _, h1, R', E, new_sl hn rfl rfl rfl h3 (fun h => by omega) (by simp only; omega)⟩
      · cases h
  · -- a slice
    rename_i si off g n c
    split at h
    case h_2 => cases h
    rename_i o ha
    obtain ⟨ho, hg⟩ := alive_some ha
    obtain ⟨l, a, c', hl, hlg, rfl, hnc, hcx, hadr⟩ := hs.sl R ha
    split at h
    · rename_i hm
      cases h
      subst hm
      have hn0 : news' = [] := List.eq_nil_of_length_eq_zero (by simpa using hnl')
      subst hn0
      exact ⟨β, w, _, run_append_same t t2 ty e i u hu ht2 hni hi (some a) n c' x' hnc hlen (by rw [hsz]; exact hfc w ⟨rfl, rfl, rfl, rfl⟩), R, .refl _ _ _, hs⟩
    · rename_i hm
      split at h
      case isFalse => cases h
      rename_i hfit
      obtain ⟨cs, h2, hc⟩ := R.reads ho hl off (n * q.size) hfit.1
      have hol : ((o.cells.drop off).take (n * q.size)).length = n * q.size := by simp; omega
      have hcl : cs.length = n * q.size := by rw [← h2.length]; exact hol
      have hfo : ∀ w', SameHeap w w' → (Builtin.firstCells i.size n (.slice (some a) n c')).run P w' = .ok cs.toArray w' := fun w' hw => by
        rw [hsz]
        refine run_firstCells_some w' q.size n a n c' cs hcl fun j v hv => ?_
        rcases hadr with h0 | ⟨rfl, _⟩
        · have : n = 0 := by omega
          subst this
          have : cs = [] := List.eq_nil_of_length_eq_zero (by simpa using hcl)
          subst this
          simp at hv
        · have := hc j v hv
          simpa [World.cell?, hw.heap] using this
      have happ : All2 (T1 β) ((o.cells.drop off).take (n * q.size) ++ news) (cs ++ news') := h2.append hnw
      split at h
      · -- as long as its block: always a new one
        rename_i hcn
        cases h
        have hc' := hcx hcn
        obtain ⟨h3, h4, h5⟩ := make (some a) n c' _ cs h2 hol hfo (by omega) hfit.2
        obtain ⟨β', R', E, hn⟩ := push_sound (w1 := w.drew) R (.drew w) ((o.cells.drop off).take (n * q.size) ++ news) (cs ++ news' ++ (Builtin.zeroCells q.zero.cells (grownCap w (n + m) c' e - (n + m))).toList) e q.size (by
          rw [happ.length, List.take_left]; exact happ)
        exact ⟨β', _, _, h3, R', E, new_sl hn rfl rfl rfl h5 (fun h => by omega) (by simp only; omega)⟩
      · split at h
        case isFalse => cases h
        rename_i hcn hro
        obtain ⟨hro, hosz, hoe⟩ := hro
        cases h
        obtain ⟨g1, g2, g3, g4, g5, g6⟩ := R.obj _ _ _ ho hl
        obtain ⟨arr, harr, hfin⟩ := g6 hro
        by_cases hroom : n + m ≤ c'
        · -- in place
          obtain ⟨rfl, hbd⟩ : a = ⟨l.b, l.base + off, none⟩ ∧ l.base + off + c' * l.sz ≤ l.fin := by
            rcases hadr with h0 | h
            · omega
            · exact h
          rw [g2, hosz] at hbd
          have hmul : (n + m) * q.size ≤ c' * q.size := Nat.mul_le_mul_right _ hroom
          rw [Nat.add_mul] at hmul
          have hsz2 : l.base + off + n * i.size + news'.length ≤ arr.size := by rw [hsz, hnl', hfin]; omega
          have hrun := run_append_room' t t2 ty e i u hu ht2 hni hi l.b (l.base + off) n c' arr (hoe ▸ harr) x' m news' hlen (by rw [hsz]; exact hfc w ⟨rfl, rfl, rfl, rfl⟩)
            (fun v hv => by obtain ⟨y, _, ty⟩ := hnw.mem hv; exact ty.oneCell) hroom hsz2
          rw [hsz, hnl'] at hrun
          have hal : arr.toList.length = l.fin := by simpa using hfin
          obtain ⟨R', E⟩ := R.upd (i := si) (o := o) (o' := { o with cells := (o.cells.drop off).take (n * q.size) ++ news, gen := g + 1 }) (l := l) (l' := { l with base := l.base + off, gen := g + 1 })
            (w' := w.setRow l.b (arr.toList.take (l.base + off + n * q.size) ++ news' ++ arr.toList.drop (l.base + off + n * q.size + m * q.size)).toArray) ho hl hro rfl rfl rfl (by simp) (fun k _ hk => setRow_other w l.b k _ hk) (.inl rfl) (.inr (by simp; omega)) rfl rfl hro rfl g2 (g3.trans hro)
            (arr.toList.take (l.base + off + n * q.size) ++ news' ++ arr.toList.drop (l.base + off + n * q.size + m * q.size)) (setRow_heap w l.b arr _ o.elem (0, 0) harr)
            (by simp only [List.length_append, List.length_take, List.length_drop, hnl', hal]; omega)
            (by simp only [List.length_append, hol, hnl]; omega)
            (by
              simp only [List.length_append, hol, hnl]
              have hcs : (arr.toList.drop (l.base + off)).take (n * q.size) = cs := by
                apply List.ext_getElem?
                intro j
                by_cases hj : j < n * q.size
                · obtain ⟨v, hv⟩ : ∃ v, cs[j]? = some v := ⟨_, List.getElem?_eq_getElem (by omega)⟩
                  have := hc j v hv
                  rw [Go.Proofs.Ytbckijeffiofdaa.AL.add_lit] at this
                  simp [World.cell?, harr] at this
                  rw [List.getElem?_take, if_pos hj, List.getElem?_drop, hv, Array.getElem?_toList, this]
                · rw [List.getElem?_eq_none (by simp; omega), List.getElem?_eq_none (by omega)]
              have e1 : (arr.toList.take (l.base + off + n * q.size) ++ news' ++ arr.toList.drop (l.base + off + n * q.size + m * q.size)).drop (l.base + off) = cs ++ news' ++ arr.toList.drop (l.base + off + n * q.size + m * q.size) := by
                rw [List.append_assoc, List.drop_append_of_le_length (by rw [List.length_take]; omega), List.drop_take, List.append_assoc, ← hcs]
                congr 2
                omega
              rw [e1]
              have e2 : (cs ++ news').length = n * q.size + m * q.size := by simp [hcl, hnl']
              rw [← e2, List.take_left]
              exact happ)
          refine ⟨_, _, _, hrun, R', E, T3.slice_of (bup_same _ _ _) rfl hroom (fun h => by omega) (.inr ⟨by simp, ?_⟩)⟩
          simp only [g2, hosz]
          omega
        · -- into a new block
          obtain ⟨h3, h4, h5⟩ := make (some a) n c' _ cs h2 hol hfo (by omega) hfit.2
          have hnewb : (w.drew.alloc (.cells (cs ++ news' ++ (Builtin.zeroCells q.zero.cells (grownCap w (n + m) c' e - (n + m))).toList).toArray e)).heap[w.heap.size]? = some (.cells (cs ++ news' ++ (Builtin.zeroCells q.zero.cells (grownCap w (n + m) c' e - (n + m))).toList).toArray o.elem (0, 0)) := by
            rw [hoe]; exact heap_alloc_new w.drew _
          obtain ⟨R', E⟩ := R.upd (i := si) (o := o) (o' := { o with cells := (o.cells.drop off).take (n * q.size) ++ news, gen := g + 1 }) (l := l)
            (l' := ⟨w.heap.size, 0, (cs ++ news' ++ (Builtin.zeroCells q.zero.cells (grownCap w (n + m) c' e - (n + m))).toList).length, q.size, g + 1, false⟩)
            (w' := w.drew.alloc (.cells (cs ++ news' ++ (Builtin.zeroCells q.zero.cells (grownCap w (n + m) c' e - (n + m))).toList).toArray e)) ho hl hro rfl rfl rfl (by simp) (fun k hk _ => Below.heap_alloc w.drew _ k hk) (.inr ⟨Nat.le_refl _, by simp⟩) (.inr (by simp; omega)) rfl rfl hro rfl hosz.symm rfl
            _ hnewb rfl (by simp only [List.length_append, hol, hnl, hcl, hnl']; omega)
            (by
              rw [List.drop_zero, happ.length, List.take_left]
              exact happ)
          exact ⟨_, _, _, h3, R', E, T3.slice_of (bup_same _ _ _) rfl h5 (fun h => by omega) (.inr ⟨by simp, by simp only; omega⟩)⟩
  · cases h
end sound

end Go.Proofs.Ytbckijeffiofdaa.AL

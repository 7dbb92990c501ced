/- AL, part 9: each operation leaves a well-formed heap. No condition. -/
import Derived.Test.YtbckijeffiofdaaAL8
namespace Go.Proofs.Ytbckijeffiofdaa.AL
open Go Go.RowKit
set_option linter.unusedVariables false
set_option linter.unusedSimpArgs false

section
theorem R00_mono {n m : Nat} (h : n ≤ m) {v : Value} (r : R00 n v = true) : R00 m v = true := by
  cases v with
  | pointer a =>
    cases a with
    | none => rfl
    | some a => simp [R00] at r ⊢; omega
  | slice a _ _ =>
    cases a with
    | none => rfl
    | some a => simp [R00] at r ⊢; omega
  | func f x cs => exact r
  | _ => first | rfl | simp [R00] at r
theorem R00_to {n : Nat} {v : Value} (r : R00 n v = true) : R0 n v = true := by
  cases v with
  | func f x cs =>
    simp [R00] at r
    simp [R0, r]
  | pointer a => cases a <;> exact r
  | slice a _ _ => cases a <;> exact r
  | _ => exact r
theorem R0_mono {n m : Nat} (h : n ≤ m) {v : Value} (r : R0 n v = true) : R0 m v = true := by
  cases v with
  | pointer a =>
    cases a with
    | none => rfl
    | some a => simp [R0] at r ⊢; omega
  | slice a _ _ =>
    cases a with
    | none => rfl
    | some a => simp [R0] at r ⊢; omega
  | func f x cs =>
    simp only [R0, Array.all_eq_true] at r ⊢
    exact fun i hi => R00_mono h (r i hi)
  | _ => first | rfl | simp [R0] at r
theorem R2_mono {n m : Nat} (h : n ≤ m) {v : Value} (r : R2 n v = true) : R2 m v = true := by
  unfold R2 at *
  split
  · simp only [Array.all_eq_true] at r ⊢
    exact fun i hi => R0_mono h (r i hi)
  · split at r
    · simp_all
    · exact R0_mono h r
theorem R3_mono {n m : Nat} (h : n ≤ m) {v : Value} (r : R3 n v = true) : R3 m v = true := by
  unfold R3 at *
  split
  · simp only [Array.all_eq_true] at r ⊢
    exact fun i hi => R2_mono h (r i hi)
  · split at r
    · simp_all
    · exact R2_mono h r
theorem R0_plain {n : Nat} {v : Value} (h : plainV v = true) : R0 n v = true := by
  cases v with
  | pointer a => cases a <;> simp_all [plainV, R0]
  | slice a _ _ => cases a <;> simp_all [plainV, R0]
  | func f a cs =>
    simp [plainV] at h
    simp [R0, h.2]
  | _ => first | rfl | simp [plainV] at h
/-- A flat value's reference, as a plain inequality. -/
def R0' (n : Nat) : Value → Prop
  | .pointer (some a) => a.block < n
  | .slice (some a) _ _ => a.block < n
  | _ => True
theorem R0'_of {n : Nat} {v : Value} (h : R0 n v = true) : R0' n v := by
  cases v with
  | pointer a => cases a <;> simp_all [R0, R0']
  | slice a _ _ => cases a <;> simp_all [R0, R0']
  | _ => trivial
theorem R0'_plain {n : Nat} {v : Value} (h : plainV v = true) : R0' n v := R0'_of (R0_plain h)
theorem R2_of0 {n : Nat} {v : Value} (h : R0 n v = true) : R2 n v = true := by
  unfold R2
  split
  · simp [R0] at h
  · exact h
theorem R3_of2 {n : Nat} {v : Value} (h : R2 n v = true) : R3 n v = true := by
  unfold R3
  split
  · simp [R2, R0] at h
  · exact h
theorem R3_plain {n : Nat} {v : Value} (h : plainV v = true) : R3 n v = true := R3_of2 (R2_of0 (R0_plain h))
theorem R2_const {n : Nat} {v : Value} (h : constV v = true) : R2 n v = true := by
  unfold constV at h
  split at h
  · simp only [R2, Array.all_eq_true]
    intro i hi
    exact R0_plain (List.all_eq_true.1 h _ (by simp))
  · exact R2_of0 (R0_plain h)
theorem R2_cells {n : Nat} {v : Value} (h : R2 n v = true) : ∀ c ∈ v.cells.toList, R0 n c = true := by
  intro c hc
  unfold R2 at h
  split at h
  · simp only [Value.cells] at hc
    rw [Array.all_eq_true_iff_forall_mem] at h
    exact h c (by simpa using hc)
  · have : v.cells = #[v] := by
      cases v <;> first | rfl | simp_all [R0]
    rw [this] at hc
    simp at hc
    subst hc
    exact h
theorem R3_two {n : Nat} {v : Value} (h : R3 n v = true) (ht : isTup v = false) : R2 n v = true := by
  unfold R3 at h
  split at h
  · simp [isTup] at ht
  · exact h
def ER (n : Nat) (env : Env) : Prop := ∀ t v, env t = some v → R3 n v = true
theorem ER.mono {n m : Nat} {env : Env} (h : ER n env) (hn : n ≤ m) : ER m env := fun t v hv => R3_mono hn (h t v hv)
theorem aev_R {n : Nat} {env : Env} (h : ER n env) {x : Operand} {v : Value} (hx : aev env x = some v) : R3 n v = true := by
  cases x with
  | tmp t => exact h t v hx
  | const c =>
    simp only [aev] at hx
    split at hx
    · cases hx; exact R3_of2 (R2_const (by assumption))
    · cases hx
  | func f => cases hx; exact R3_plain rfl
  | global g => cases hx
theorem aops_R {n : Nat} {env : Env} (h : ER n env) : ∀ {xs : List Operand} {vs : List Value}, aops env xs = some vs → ∀ v ∈ vs, R3 n v = true
  | [], vs, e => by cases e; simp
  | x :: r, vs, e => by
    simp only [aops] at e
    split at e
    · cases e
      rename_i u us hx hr
      intro v hv
      cases hv with
      | head => exact aev_R h hx
      | tail _ hv => exact aops_R h hr v hv
    · cases e
theorem aparts_R {n : Nat} {env : Env} (h : ER n env) : ∀ {xs : List (Nat × Operand)} {vs : List (Nat × Value)}, aparts env xs = some vs → ∀ v ∈ vs, R3 n v.2 = true
  | [], vs, e => by cases e; simp
  | (i, x) :: r, vs, e => by
    simp only [aparts] at e
    split at e
    · cases e
      rename_i u us hx hr
      intro v hv
      cases hv with
      | head => exact aev_R h hx
      | tail _ hv => exact aparts_R h hr v hv
    · cases e
theorem WF.cell {H : AH} (hw : WF H) {i : Nat} {o : AO} (ho : H[i]? = some o) {c : Value} (hc : c ∈ o.cells) : R0 H.length c = true := hw o (List.mem_of_getElem? ho) c hc
theorem WF.push {H : AH} (hw : WF H) {cells : List Value} {e : TypeId} {sz : Nat} (h : ∀ c ∈ cells, R0 H.length c = true) : WF (aNew H cells e sz) ∧ H.length ≤ (aNew H cells e sz).length := by
  refine ⟨fun o ho c hc => ?_, by simp [aNew]⟩
  have hl : H.length ≤ (aNew H cells e sz).length := by simp [aNew]
  rcases List.mem_append.1 ho with ho | ho
  · exact R0_mono hl (hw o ho c hc)
  · simp at ho
    subst ho
    exact R0_mono hl (h c hc)
theorem WF.set {H : AH} (hw : WF H) {i : Nat} {o : AO} (h : ∀ c ∈ o.cells, R0 H.length c = true) : WF (H.set i o) ∧ H.length ≤ (H.set i o).length := by
  refine ⟨fun p hp c hc => ?_, by simp⟩
  rw [List.length_set]
  rcases List.mem_or_eq_of_mem_set hp with hp | rfl
  · exact hw p hp c hc
  · exact h c hc
theorem fillL_R {n : Nat} {place : Nat → Option (Nat × Nat)} : ∀ {parts : List (Nat × Value)} {cells r : List Value}, fillL place cells parts = some r → (∀ p ∈ parts, R2 n p.2 = true) → (∀ c ∈ cells, R0 n c = true) → ∀ c ∈ r, R0 n c = true
  | [], _, _, h, _, hc => by cases h; exact hc
  | (i, v) :: rest, cells, r, h, hp, hc => by
    simp only [fillL] at h
    split at h
    · cases h
    · split at h
      · refine fillL_R h (fun p hp' => hp p (.tail _ hp')) fun c hm => ?_
        rcases List.mem_append.1 hm with hm | hm
        · rcases List.mem_append.1 hm with hm | hm
          · exact hc c (List.mem_of_mem_take hm)
          · exact R2_cells (hp _ (.head _)) c hm
        · exact hc c (List.mem_of_mem_drop hm)
      · cases h
theorem parts_R2 {n : Nat} {ps : List (Nat × Value)} (h : ∀ v ∈ ps, R3 n v.2 = true) (hn : noTup ps = true) : ∀ v ∈ ps, R2 n v.2 = true := fun v hv => R3_two (h v hv) (by simpa using List.all_eq_true.1 hn v hv)
theorem constR {n : Nat} {z : Value} (h : constV z = true) : ∀ c ∈ z.cells.toList, R0 n c = true := R2_cells (R2_const h)
theorem agg_R {n : Nat} {l : List Value} (h : ∀ c ∈ l, R0 n c = true) : R3 n (.agg l.toArray) = true := by
  refine R3_of2 ?_
  simp only [R2, List.all_toArray]
  exact List.all_eq_true.2 h
/-- What an operation hands back refers to objects that are there, and so do all cells behind it. -/
def Good (H : AH) (v : Value) (H' : AH) : Prop := WF H' ∧ R3 H'.length v = true ∧ H.length ≤ H'.length
theorem Good.plain {H : AH} (hw : WF H) {v : Value} (h : plainV v = true) : Good H v H := ⟨hw, R3_plain h, Nat.le_refl _⟩
theorem Good.same {H : AH} (hw : WF H) {v : Value} (h : R3 H.length v = true) : Good H v H := ⟨hw, h, Nat.le_refl _⟩
theorem R3_ptr {n i off g : Nat} (h : i < n) : R3 n (.pointer (some ⟨i, off, some g⟩)) = true := R3_of2 (R2_of0 (by simp [R0, h]))
theorem R3_sl {n i off g k c : Nat} (h : i < n) : R3 n (.slice (some ⟨i, off, some g⟩) k c) = true := R3_of2 (R2_of0 (by simp [R0, h]))
theorem alive_lt {H : AH} {i g : Nat} {o : AO} (h : alive H i g = some o) : i < H.length := (List.getElem?_eq_some_iff.1 (alive_some h).1).1
variable {P : Program} {H H' : AH} {env : Env}
theorem aPart_R {n : Nat} {t : TypeId} {cs : List Value} {off : Nat} {v : Value} (h : aPart P t cs off = some v) (hc : ∀ c ∈ cs, R0 n c = true) : R3 n v = true := by
  unfold aPart at h
  split at h
  · split at h
    · cases h
      exact agg_R fun c hm => hc c (List.mem_of_mem_drop (List.mem_of_mem_take hm))
    · cases h
  · exact R3_of2 (R2_of0 (hc v (List.mem_of_getElem? h)))
  · cases h
theorem agg_cells_R {n : Nat} {cs : Array Value} (h : R3 n (.agg cs) = true) : ∀ c ∈ cs.toList, R0 n c = true := R2_cells (R3_two h rfl)
theorem srcOf_R (hw : WF H) {size : Nat} {x : Value} {news : List Value} {m : Nat} (h : srcOf H size x = some (news, m)) : ∀ c ∈ news, R0 H.length c = true := by
  unfold srcOf at h
  split at h
  · cases h; simp
  · split at h
    · split at h
      · cases h
        rename_i ha _
        intro c hm
        exact hw.cell (alive_some ha).1 (List.mem_of_mem_drop (List.mem_of_mem_take hm))
      · cases h
    · cases h
  · split at h
    · cases h
      intro c hm
      obtain ⟨b, _, rfl⟩ := List.mem_map.1 hm
      rfl
    · cases h
  · cases h
theorem aCopy_good {P : Program} (hw : WF H) {t : TypeId} {d s v : Value} (h : aCopy P H t d s = some (v, H')) : Good H v H' := by
  unfold aCopy at h
  split at h
  case h_2 => cases h
  split at h
  case h_2 => cases h
  rename_i o o2 ha ha2 hsz
  split at h
  · cases h
    exact .plain hw rfl
  · split at h
    · cases h
      obtain ⟨ho, _⟩ := alive_some ha
      obtain ⟨ho2, _⟩ := alive_some ha2
      obtain ⟨h1, h2⟩ := hw.set (i := _) (o := { o with cells := o.cells.take _ ++ (o2.cells.drop _).take _ ++ o.cells.drop _ }) fun c hc => by
        simp only [List.mem_append] at hc
        rcases hc with (hc | hc) | hc
        · exact hw.cell ho (List.mem_of_mem_take hc)
        · exact hw.cell ho2 (List.mem_of_mem_drop (List.mem_of_mem_take hc))
        · exact hw.cell ho (List.mem_of_mem_drop hc)
      exact ⟨h1, rfl, h2⟩
    · cases h
theorem aApM_good (hw : WF H) {t t2 : TypeId} {s x v : Value} (h : aApM P H t t2 s x = some (v, H')) : Good H v H' := by
  unfold aApM at h
  split at h
  · split at h
    · split at h
      · rename_i q hei
        split at h
        · rename_i hc
          cases h
          obtain ⟨i, _, _, _, _, hzs, hpos, hcz, _⟩ := einfo_some hei
          obtain ⟨h1, h2⟩ := hw.push (cells := List.replicate _ (q.zero.cells.getD 0 default)) (fun c hm => by
            rw [(List.mem_replicate.1 hm).2]
            have hlt : 0 < q.zero.cells.size := by omega
            rw [Array.getD_eq_getD_getElem?, Array.getElem?_eq_getElem hlt]
            exact constR hcz _ (by simp))
          exact ⟨h1, R3_sl (by simp [aNew]), h2⟩
        · cases h
      · cases h
    · cases h
  · cases h
theorem aAppend_good (hw : WF H) {t t2 : TypeId} {s x v : Value} (hs : R3 H.length s = true) (h : aAppend P H t t2 s x = some (v, H')) : Good H v H' := by
  unfold aAppend at h
  split at h
  case h_2 => cases h
  split at h
  case h_2 => cases h
  split at h
  case isFalse => cases h
  split at h
  case h_2 => cases h
  rename_i hsrc
  have hn := srcOf_R hw hsrc
  split at h
  · split at h
    · cases h; exact .plain hw rfl
    · split at h
      · cases h
        obtain ⟨h1, h2⟩ := hw.push (cells := _) hn
        exact ⟨h1, R3_sl (by simp [aNew]), h2⟩
      · cases h
  · split at h
    case h_2 => cases h
    rename_i o ha
    have hall : ∀ c ∈ o.cells, R0 H.length c = true := fun c hc => hw.cell (alive_some ha).1 hc
    split at h
    · cases h; exact .same hw hs
    · split at h
      case isFalse => cases h
      have hcs : ∀ {a b : Nat} {news : List Value}, (∀ c ∈ news, R0 H.length c = true) → ∀ c ∈ (o.cells.drop a).take b ++ news, R0 H.length c = true := fun hn c hm => by
        rcases List.mem_append.1 hm with hm | hm
        · exact hall c (List.mem_of_mem_drop (List.mem_of_mem_take hm))
        · exact hn c hm
      split at h
      · cases h
        obtain ⟨h1, h2⟩ := hw.push (hcs hn)
        exact ⟨h1, R3_sl (by simp [aNew]), h2⟩
      · split at h
        · cases h
          refine ⟨?_, R3_sl (by rw [List.length_set]; exact alive_lt ha), by simp⟩
          exact (hw.set (o := { o with cells := _, gen := _ }) (hcs hn)).1
        · cases h
  · cases h
theorem aSlice_R {n : Nat} {t : TypeId} {x v : Value} {lo hi mx : Option Value} (hx : R3 n x = true) (h : aSlice P H t x lo hi mx = some v) : R3 n v = true := by
  unfold aSlice at h
  split at h
  · split at h
    · split at h
      · cases h; rfl
      · cases h
    · cases h
  · split at h
    · split at h
      · cases h; rfl
      · cases h
    · cases h
  · rename_i i off g k c
    have hi : i < n := R0_lts (by simpa [R3, R2] using hx)
    split at h
    case h_2 => cases h
    split at h
    case h_2 => cases h
    split at h
    case isFalse => cases h
    split at h
    · cases h; exact R3_sl hi
    · split at h
      · cases h; exact R3_sl hi
      · cases h
    · cases h
  · cases h
theorem aBin_plain {op : BinOp} {t : TypeId} {x y v : Value} (hq : aBin P H op t x y = some v) : plainV v = true := by
  unfold aBin at hq
  split at hq
  · split at hq
    · split at hq
      · cases hq
      · cases hq; rfl
    · split at hq
      · cases hq
      · cases hq; rfl
    · split at hq
      · rename_i h1 h2 hk
        exact (aBinI_sound (P := P) (w := default) (t := 0) ⟨h1, h2⟩ hq).2
      · cases hq
  · exact (aBinS_sound (P := P) (w := default) (t := 0) hq).2
  all_goals first | (cases hq; done) | (unfold eqB at hq; (repeat' (split at hq)) <;> first | (cases hq; done) | (cases hq; rfl))
theorem aop_good (hw : WF H) (he : ER H.length env) {op : Op} {v : Value} (h : aop P env H op = .val v H') : Good H v H' := by
  unfold aop at h
  split at h
  · obtain ⟨hq, rfl⟩ := arOf_val h
    exact .same hw (aev_R he hq)
  · obtain ⟨hq, rfl⟩ := arOf_val h
    exact .same hw (aev_R he hq)
  · split at h
    · rename_i t va vb hc hx hy
      cases h
      cases t
      · exact .same hw (aev_R he hy)
      · exact .same hw (aev_R he hx)
    · cases h
  · split at h
    · rename_i H2 hA
      cases h
      unfold aAlloc at hA
      split at hA
      · split at hA
        · cases hA
          rename_i hz
          obtain ⟨h1, h2⟩ := hw.push (constR hz)
          exact ⟨h1, R3_ptr (by simp [aNew]), h2⟩
        · cases hA
      · cases hA
    · cases h
  · split at h
    · rename_i u hx
      split at h
      · cases h
      · rename_i htu
        cases h
        obtain ⟨h1, h2⟩ := hw.push (R2_cells (R3_two (aev_R he hx) (by simpa using htu)))
        exact ⟨h1, R3_ptr (by simp [aNew]), h2⟩
    · cases h
  · split at h
    · rename_i ps hps
      obtain ⟨hq, rfl⟩ := arOf_val h
      unfold aBuild at hq
      split at hq
      · split at hq
        · rename_i hc
          obtain ⟨r, hr, rfl⟩ := Option.map_eq_some_iff.1 hq
          exact .same hw (agg_R (fillL_R hr (parts_R2 (aparts_R he hps) hc.2) (constR hc.1)))
        · cases hq
      · cases hq
    · cases h
  · split at h
    · rename_i ps hps
      have hq := arOf2_val h
      unfold aBuildSlice at hq
      split at hq
      · split at hq
        · rename_i q hei
          split at hq
          · rename_i hc
            obtain ⟨r, hr, hv⟩ := Option.map_eq_some_iff.1 hq
            cases hv
            obtain ⟨i, _, _, _, _, hzs, hpos, hcz, _⟩ := einfo_some hei
            have hz : ∀ (n : Nat), ∀ c ∈ zeros q n, R0 H.length c = true := fun n c hm => by
              obtain ⟨j, _, rfl⟩ := List.mem_map.1 hm
              have hlt : j % q.zero.cells.size < q.zero.cells.size := Nat.mod_lt _ (by omega)
              rw [show q.zero.cells[j % q.zero.cells.size]! = q.zero.cells[j % q.zero.cells.size] from getElem!_pos q.zero.cells _ hlt]
              exact constR hcz _ (by simp)
            obtain ⟨h1, h2⟩ := hw.push (fillL_R hr (parts_R2 (aparts_R he hps) hc.2) (hz _))
            exact ⟨h1, R3_sl (by simp [aNew]), h2⟩
          · cases hq
        · cases hq
      · cases hq
    · cases h
  · split at h
    · rename_i p hp
      obtain ⟨hq, rfl⟩ := arOf_val h
      unfold aLoad at hq
      split at hq
      · split at hq
        · split at hq
          · cases hq
            rename_i ha _ _ _
            exact .same hw (agg_R fun c hm => hw.cell (alive_some ha).1 (List.mem_of_mem_drop (List.mem_of_mem_take hm)))
          · cases hq
        · rename_i ha _ _
          exact .same hw (R3_of2 (R2_of0 (hw.cell (alive_some ha).1 (List.mem_of_getElem? hq))))
        · cases hq
      · cases hq
    · cases h
  · split at h
    · rename_i p u hp hu
      split at h
      · rename_i H2 hS
        cases h
        unfold aStore at hS
        split at hS
        · split at hS
          · split at hS
            · rename_i o n ha _ hc
              cases hS
              obtain ⟨h1, h2⟩ := hw.set (i := _) (o := { o with cells := o.cells.take _ ++ u.cells.toList ++ o.cells.drop _ }) (fun c hm => by
                rcases List.mem_append.1 hm with hm | hm
                · rcases List.mem_append.1 hm with hm | hm
                  · exact hw.cell (alive_some ha).1 (List.mem_of_mem_take hm)
                  · exact R2_cells (R3_two (aev_R he hu) hc.2.1) c hm
                · exact hw.cell (alive_some ha).1 (List.mem_of_mem_drop hm))
              exact ⟨h1, by simp [undef, R3], h2⟩
            · cases hS
          · cases hS
        · cases hS
      · cases h
    · cases h
  · split at h
    · rename_i u hu
      unfold aNil at h
      split at h
      · split at h
        · cases h; exact .same hw (aev_R he hu)
        · cases h
      · split at h
        · cases h; exact .same hw (aev_R he hu)
        · cases h
      · cases h
    · cases h
  · split at h
    · rename_i va vb hx hy
      obtain ⟨hq, rfl⟩ := arOf_val h
      refine .plain hw ?_
      unfold aBin' at hq
      split at hq
      · split at hq
        · exact aBin_plain hq
        · cases hq
      · exact aBin_plain hq
    · cases h
  · split at h
    · obtain ⟨hq, rfl⟩ := arOf_val h
      unfold aUn at hq
      refine .plain hw ?_
      split at hq <;> first | (cases hq; done) | (cases hq; rfl)
    · cases h
  · split at h
    · obtain ⟨hq, rfl⟩ := arOf_val h
      unfold aConvert at hq
      refine .plain hw ?_
      split at hq <;> first | (cases hq; done) | (cases hq; rfl)
    · cases h
  · split at h
    · rename_i vs hvs
      split at h
      · rename_i hc
        cases h
        refine .same hw (R3_of2 (R2_of0 ?_))
        simp only [R0, List.all_toArray]
        refine List.all_eq_true.2 fun c hm => ?_
        have h1 := aops_R he hvs c hm
        have h2 := List.all_eq_true.1 hc.2 c hm
        cases c with
        | pointer p => cases p <;> simp_all [R3, R2, R0, R00]
        | slice p _ _ => cases p <;> simp_all [R3, R2, R0, R00]
        | func _ _ _ => simp_all [flatV, plainV, R00]
        | agg _ => simp [flatV, plainV] at h2
        | tuple _ => simp [flatV, plainV] at h2
        | _ => rfl
      · cases h
    · cases h
  · split at h
    · have hq := arOf2_val h
      unfold aMake at hq
      split at hq
      · split at hq
        · split at hq
          · rename_i q hei
            split at hq
            · rename_i hc
              cases hq
              obtain ⟨i, _, _, _, _, hzs, hpos, hcz, _⟩ := einfo_some hei
              obtain ⟨h1, h2⟩ := hw.push (cells := List.replicate _ (q.zero.cells.getD 0 default)) (fun c hm => by
                rw [(List.mem_replicate.1 hm).2]
                have hlt : 0 < q.zero.cells.size := by omega
                rw [Array.getD_eq_getD_getElem?, Array.getElem?_eq_getElem hlt]
                exact constR hcz _ (by simp))
              exact ⟨h1, R3_sl (by simp [aNew]), h2⟩
            · cases hq
          · cases hq
        · cases hq
      · cases hq
    · cases h
  · split at h
    · rename_i va l h' m hx hl hh hm
      obtain ⟨hq, rfl⟩ := arOf_val h
      exact .same hw (aSlice_R (aev_R he hx) hq)
    · cases h
  · split at h
    · rename_i va hx
      obtain ⟨hq, rfl⟩ := arOf_val h
      unfold aFieldAddr at hq
      split at hq
      · split at hq
        · rename_i ha _
          split at hq
          · split at hq
            · cases hq
              exact .same hw (R3_ptr (alive_lt ha))
            · cases hq
          · cases hq
        · cases hq
      · cases hq
    · cases h
  · split at h
    · rename_i va hx
      obtain ⟨hq, rfl⟩ := arOf_val h
      unfold aField at hq
      split at hq
      · split at hq
        · exact .same hw (aPart_R hq (agg_cells_R (aev_R he hx)))
        · cases hq
      · cases hq
    · cases h
  · split at h
    · rename_i va vi hx hi
      obtain ⟨hq, rfl⟩ := arOf_val h
      unfold aIndexAddr at hq
      split at hq
      · split at hq
        · rename_i ha _
          split at hq
          · split at hq
            · cases hq
              exact .same hw (R3_ptr (alive_lt ha))
            · cases hq
          · cases hq
        · cases hq
      · split at hq
        · rename_i ha _
          split at hq
          · split at hq
            · cases hq
              exact .same hw (R3_ptr (alive_lt ha))
            · cases hq
          · cases hq
        · cases hq
      · cases hq
    · cases h
  · split at h
    · rename_i va vi hx hi
      obtain ⟨hq, rfl⟩ := arOf_val h
      unfold aIndex at hq
      split at hq
      · split at hq
        · split at hq
          · obtain ⟨b, _, rfl⟩ := Option.map_eq_some_iff.1 hq
            exact .plain hw rfl
          · cases hq
        · cases hq
      · split at hq
        · split at hq
          · split at hq
            · exact .same hw (aPart_R hq (agg_cells_R (aev_R he hx)))
            · cases hq
          · cases hq
        · cases hq
      · cases hq
    · cases h
  · split at h
    · rename_i va hx
      obtain ⟨hq, rfl⟩ := arOf_val h
      unfold aExtract at hq
      split at hq
      · rename_i vs
        have h1 := aev_R he hx
        simp only [R3, Array.all_eq_true_iff_forall_mem] at h1
        exact .same hw (R3_of2 (h1 v (Array.mem_of_getElem? hq)))
      · cases hq
    · cases h
  · split at h
    · split at h
      · rename_i b hb vs hvs
        unfold aBuiltin at h
        split at h
        · obtain ⟨hq, rfl⟩ := arOf_val h
          unfold aLen at hq
          refine .plain hw ?_
          (repeat' (split at hq)) <;> first | (cases hq; done) | (cases hq; rfl)
        · have hq := arOf2_val h
          cases ha1 : aAppend P H _ _ _ _ with
          | some r =>
            rw [ha1, Option.orElse_some] at hq
            cases hq
            exact aAppend_good hw (aops_R he hvs _ (by simp)) ha1
          | none =>
            rw [ha1, Option.orElse_none] at hq
            exact aApM_good hw hq
        · obtain ⟨hq, rfl⟩ := arOf_val h
          unfold aCap at hq
          refine .plain hw ?_
          split at hq <;> first | (cases hq; done) | (cases hq; rfl)
        · obtain ⟨hq, rfl⟩ := arOf_val h
          unfold aMin at hq
          refine .plain hw ?_
          split at hq <;> first | (cases hq; done) | (cases hq; rfl)
        · obtain ⟨hq, rfl⟩ := arOf_val h
          unfold aMax at hq
          refine .plain hw ?_
          split at hq <;> first | (cases hq; done) | (cases hq; rfl)
        · have hq := arOf2_val h
          exact aCopy_good hw hq
        · cases h
      · cases h
    · split at h
      · unfold aCallee at h
        split at h
        · split at h <;> cases h
        · cases h
      · cases h
    · cases h
  · cases h
end

end Go.Proofs.Ytbckijeffiofdaa.AL

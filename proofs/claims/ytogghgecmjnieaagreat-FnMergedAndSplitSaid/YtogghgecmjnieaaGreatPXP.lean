/- Paths of exchanges: the program's and the reference's are one. No condition. -/
import Derived.Test.YtogghgecmjnieaaGreatPXQ
import Derived.KernelRfl
namespace Go.Proofs.YtogghgecmjnieaaGreat.AL
open Go Go.Proofs.YtogghgecmjnieaaGreat.Arch
set_option linter.unusedVariables false
set_option linter.unusedSimpArgs false
set_option maxRecDepth 100000
section
variable {fu : Nat} {p q a : List Int}
def nxtL (p q : List Int) (k : Int) : List (Int × Int) → Option (List Int)
 | [] => none
 | x :: r => if cmpV (exV p x) q = k then some (exV p x) else nxtL p q k r
theorem ex_spec (h : pairB p q = true) {x : Int × Int} (hx : x ∈ csOf p) : F_impl_exchanged 2000000 p x.1 x.2 = some (exV p x) ∧ F_spec_exAt 2000000 p x.1 x.2 = some (exV p x) ∧ pairB (exV p x) q = true ∧ exV p x ≠ [] ∧ (exV p x).length = p.length := by
 obtain ⟨h1, h2, h3⟩ := pair_of h
 obtain ⟨e1, e2, e3, e4⟩ := cs_spec h1
 obtain ⟨a, f1, f2, f3, f4⟩ := e4 x hx
 have e : exV p x = a := by unfold exV; rw [f1]; rfl
 rw [e]
 refine ⟨f1, f2, pair_mk h f3 f4, fun hn => ?_, f4⟩
 subst hn
 have : p = [] := List.eq_nil_of_length_eq_zero f4.symm
 subst this
 rw [cs_nil] at hx
 cases hx
theorem nxt_spec (h : pairB p q = true) {k : Int} : ∀ l : List (Int × Int), (∀ x ∈ l, x ∈ csOf p) → ∀ a, nxtL p q k l = some a → pairB a q = true ∧ a ≠ [] ∧ a.length = p.length ∧ cmpV a q = k
 | [], _, a, ha => by cases ha
 | x :: r, hl, a, ha => by
  unfold nxtL at ha
  split at ha
  ·rename_i hc
   cases ha
   obtain ⟨_, _, e1, e2, e3⟩ := ex_spec h (hl x (by simp))
   exact ⟨e1, e2, e3, hc⟩
  ·exact nxt_spec h r (fun y hy => hl y (by simp [hy])) a ha
theorem better_L (h : pairB p q = true) {K : Int} : ∀ (rest pre : List (Int × Int)) (k m : Nat), pre ++ rest = csOf p → pre.length = k → rest.length < m →
  F_impl_better_L1 2000000 p q K (csOf p) ((csOf p).length : Int) m (k : Int) = some (match nxtL p q K rest with | some a => .ret a | none => .brk ((csOf p).length : Int)) := by
 have hC := (cs_spec (pair_of h).1).2.2.1
 intro rest
 induction rest with
 | nil =>
  intro pre k m hp hk hm
  cases m with
  | zero => simp at hm
  | succ m =>
   have : k = (csOf p).length := by rw [← hp, ← hk]; simp
   subst this
   simp only [F_impl_better_L1]
   rw [ilt_f (by omega), cond_false]
   rfl
 | cons x rest ih =>
  intro pre k m hp hk hm
  cases m with
  | zero => simp at hm
  | succ m =>
   have hlen : k < (csOf p).length := by rw [← hp, ← hk]; simp
   have hg : gat i2 (csOf p) (k : Int) = x := by rw [← hp]; exact gatI hk
   have hx : x ∈ csOf p := by rw [← hp]; simp
   obtain ⟨f1, _, f3, f4, f5⟩ := ex_spec h hx
   simp only [F_impl_better_L1]
   rw [ilt_t (by omega), cond_true, gd_t (inL_nat hlen), hg, f1, bd_of, comp_eq f3, bd_of, ieq_eq]
   by_cases c : cmpV (exV p x) q = K
   ·rw [show (cmpV (exV p x) q == K) = true by simpa using c, cond_true, gd_t f4]
    simp only [nxtL, if_pos c]
   ·rw [show (cmpV (exV p x) q == K) = false by simpa using c, cond_false, iadd_id (by omega) (by omega), show ((k : Int) + 1) = ((k + 1 : Nat) : Int) by omega]
    simp only [nxtL, if_neg c]
    exact ih (pre ++ [x]) (k + 1) m (by rw [← hp]; simp) (by simp [hk]) (by simp at hm; omega)
theorem better_eq (h : pairB p q = true) {K : Int} : F_impl_better 2000000 p q K = some ((nxtL p q K (csOf p)).getD []) := by
 have hC := (cs_spec (pair_of h).1).2.2.1
 unfold F_impl_better
 rw [(cs_spec (pair_of h).1).1, bd_of]
 have b := better_L h (K := K) (csOf p) [] 0 2000000 rfl rfl (by omega)
 rw [Int.natCast_zero] at b
 simp only [llen]
 rw [b, bd_of]
 cases nxtL p q K (csOf p) <;> rfl
theorem step_L (h : pairB p q = true) {by_ C : Int} (hb : -9223372036854775808 ≤ C + by_ ∧ C + by_ ≤ 9223372036854775807) : ∀ (rest pre : List (Int × Int)) (k m : Nat), pre ++ rest = csOf p → pre.length = k → rest.length < m →
  F_spec_exStep_L1 2000000 p q by_ C ((csOf p).map fun x => [x.1, x.2]) ((csOf p).length : Int) m (k : Int) = some (match nxtL p q (C + by_) rest with | some a => .ret (a, true) | none => .brk ((csOf p).length : Int)) := by
 have hC := (cs_spec (pair_of h).1).2.2.1
 intro rest
 induction rest with
 | nil =>
  intro pre k m hp hk hm
  cases m with
  | zero => simp at hm
  | succ m =>
   have : k = (csOf p).length := by rw [← hp, ← hk]; simp
   subst this
   simp only [F_spec_exStep_L1]
   rw [ilt_f (by omega), cond_false]
   rfl
 | cons x rest ih =>
  intro pre k m hp hk hm
  cases m with
  | zero => simp at hm
  | succ m =>
   have hlen : k < (csOf p).length := by rw [← hp, ← hk]; simp
   have hg : gat i2 (csOf p) (k : Int) = x := by rw [← hp]; exact gatI hk
   have hx : x ∈ csOf p := by rw [← hp]; simp
   obtain ⟨_, f2, f3, f4, f5⟩ := ex_spec h hx
   have two0 : inL [x.1, x.2] (0 : Int) := ⟨by omega, by simp⟩
   have two1 : inL [x.1, x.2] (1 : Int) := ⟨by omega, by simp⟩
   simp only [F_spec_exStep_L1]
   rw [ilt_t (by omega), cond_true, gd_t (inL_nat (by simpa using hlen)), gatC hlen, hg, gd_t two0, gd_t two1, show gat (0 : Int) [x.1, x.2] 0 = x.1 from rfl, show gat (0 : Int) [x.1, x.2] 1 = x.2 from rfl,
    f2, bd_of, count_me f3, bd_of, iadd_id hb.1 hb.2, ieq_eq]
   by_cases c : cmpV (exV p x) q = C + by_
   ·rw [show (cmpV (exV p x) q == C + by_) = true by simpa using c, cond_true]
    simp only [nxtL, if_pos c]
   ·rw [show (cmpV (exV p x) q == C + by_) = false by simpa using c, cond_false, iadd_id (by omega) (by omega), show ((k : Int) + 1) = ((k + 1 : Nat) : Int) by omega]
    simp only [nxtL, if_neg c]
    exact ih (pre ++ [x]) (k + 1) m (by rw [← hp]; simp) (by simp [hk]) (by simp at hm; omega)
theorem step_eq (h : pairB p q = true) {by_ : Int} (hb : by_ = 1 ∨ by_ = -1) : F_spec_exStep 2000000 p q by_ = some (match nxtL p q (cmpV p q + by_) (csOf p) with | some a => (a, true) | none => ([], false)) := by
 have hC := (cs_spec (pair_of h).1).2.2.1
 have hl := sys_le (pair_of h).1
 have hc := cmp_le h
 unfold F_spec_exStep
 rw [count_me h, bd_of, (cs_spec (pair_of h).1).2.1, bd_of]
 have b := step_L h (by_ := by_) (C := cmpV p q) (by omega) (csOf p) [] 0 2000000 rfl rfl (by omega)
 rw [Int.natCast_zero] at b
 simp only [llen, List.length_map]
 rw [b, bd_of]
 cases nxtL p q (cmpV p q + by_) (csOf p) <;> rfl
def runP (q : List Int) (by_ : Int) : Nat → List Int → List (List Int)
 | 0, _ => []
 | d + 1, p => match nxtL p q (cmpV p q + by_) (csOf p) with
  | some a => a :: runP q by_ d a
  | none => []
theorem gatLast {pre : List (List Int)} {r : List Int} : gat [] (pre ++ [r]) (pre.length : Int) = r := by simp [gat_eq]
theorem move_eq {c T by_ : Int} {d : Nat} (hb : by_ = 1 ∨ by_ = -1) (hT : c + by_ * ((d + 1 : Nat) : Int) = T) (h0 : 0 ≤ c) (h1 : c ≤ 100) : ine c T = true ∧ (bif ilt c T then some (iadd .i64 c 1) else some (isub .i64 c 1)) = some (c + by_) := by
 rcases hb with rfl | rfl
 ·refine ⟨ine_t (by omega), ?_⟩
  rw [ilt_t (by omega), cond_true, iadd_id (by omega) (by omega)]
 ·refine ⟨ine_t (by omega), ?_⟩
  rw [ilt_f (by omega), cond_false, isub_id (by omega) (by omega)]
  rfl
theorem path_L {T by_ : Int} (hb : by_ = 1 ∨ by_ = -1) : ∀ (d m : Nat) (p : List Int) (pre : List (List Int)), pairB p q = true → cmpV p q + by_ * (d : Int) = T → d < m → pre.length + d ≤ 1000 →
  ∃ r : LR (List (List Int)) (List (List Int) × Int × Int), F_impl_path_L1 2000000 q T m (pre ++ [p]) (pre.length : Int) (cmpV p q) = some r ∧ (r = .ret (pre ++ p :: runP q by_ d p) ∨ ∃ y z, r = .brk (pre ++ p :: runP q by_ d p, y, z)) := by
 intro d
 induction d with
 | zero =>
  intro m p pre h hT hm hl
  cases m with
  | zero => simp at hm
  | succ m =>
   simp only [F_impl_path_L1]
   rw [ine_f (by omega), cond_false]
   exact ⟨_, rfl, .inr ⟨_, _, rfl⟩⟩
 | succ d ih =>
  intro m p pre h hT hm hl
  cases m with
  | zero => simp at hm
  | succ m =>
   have hc := cmp_le h
   have hpl := sys_le (pair_of h).1
   obtain ⟨m1, m2⟩ := move_eq hb hT hc.1 (by omega)
   simp only [F_impl_path_L1]
   rw [m1, cond_true, m2, bd_of, gatLast, better_eq h, bd_of]
   simp only [runP]
   cases hn : nxtL p q (cmpV p q + by_) (csOf p) with
   | none => exact ⟨_, rfl, .inl rfl⟩
   | some a =>
    obtain ⟨e1, e2, e3, e4⟩ := nxt_spec h (csOf p) (fun _ hx => hx) a hn
    have hle : lemp a = false := by
     cases a with
     | nil => exact absurd rfl e2
     | cons _ _ => rfl
    simp only [Option.getD_some]
    rw [hle, cond_false, gd_t (by simp; omega)]
    have key := ih m a (pre ++ [p]) e1 (by rw [e4, ← hT]; rcases hb with rfl | rfl <;> omega) (by omega) (by simp; omega)
    rw [e4] at key
    simp only [List.append_assoc, List.singleton_append] at key
    have ell : llen (pre ++ [p]) = ((pre ++ [p]).length : Int) := rfl
    have el : lapp (pre ++ [p]) [a] = pre ++ [p, a] := by simp [lapp]
    rw [ell, el]
    exact key
theorem spath_L {T by_ : Int} (hb : by_ = 1 ∨ by_ = -1) (hT0 : ∀ a, pairB a q = true → a.length = p.length → cmpV a q ≠ T + by_) : ∀ (d m : Nat) (r : List Int) (pre : List (List Int)), pairB r q = true → r.length = p.length → cmpV r q + by_ * (d : Int) = T → d < m → pre.length + d ≤ 1000 →
  F_spec_exPath_L1 2000000 q by_ m (pre ++ [r]) = some (.ret (pre ++ r :: runP q by_ d r)) := by
 intro d
 induction d with
 | zero =>
  intro m r pre h hr hT hm hl
  cases m with
  | zero => simp at hm
  | succ m =>
   have hn : nxtL r q (cmpV r q + by_) (csOf r) = none := by
    cases hn : nxtL r q (cmpV r q + by_) (csOf r) with
    | none => rfl
    | some a =>
     obtain ⟨e1, e2, e3, e4⟩ := nxt_spec h (csOf r) (fun _ hx => hx) a hn
     exact absurd (by rw [e4]; omega) (hT0 a e1 (by omega))
   have ell : isub .i64 (llen (pre ++ [r])) 1 = (pre.length : Int) := by
    unfold llen
    rw [isub_id (by simp only [List.length_append, List.length_singleton]; omega) (by simp only [List.length_append, List.length_singleton]; omega)]
    simp
   simp only [F_spec_exPath_L1]
   rw [ell, gd_t (inL_nat (by simp)), gatLast, step_eq h hb, hn, bd_of]
   rfl
 | succ d ih =>
  intro m r pre h hr hT hm hl
  cases m with
  | zero => simp at hm
  | succ m =>
   have ell : isub .i64 (llen (pre ++ [r])) 1 = (pre.length : Int) := by
    unfold llen
    rw [isub_id (by simp only [List.length_append, List.length_singleton]; omega) (by simp only [List.length_append, List.length_singleton]; omega)]
    simp
   simp only [F_spec_exPath_L1]
   rw [ell, gd_t (inL_nat (by simp)), gatLast, step_eq h hb, bd_of]
   simp only [runP]
   cases hn : nxtL r q (cmpV r q + by_) (csOf r) with
   | none => rfl
   | some a =>
    obtain ⟨e1, e2, e3, e4⟩ := nxt_spec h (csOf r) (fun _ hx => hx) a hn
    simp only [bnot, Bool.not_true, cond_false]
    rw [gd_t (by simp; omega)]
    have key := ih m a (pre ++ [r]) e1 (by omega) (by rw [e4, ← hT]; rcases hb with rfl | rfl <;> omega) (by omega) (by simp; omega)
    simp only [List.append_assoc, List.singleton_append] at key
    have el : lapp (pre ++ [r]) [a] = pre ++ [r, a] := by simp [lapp]
    rw [el]
    exact key
theorem path_eq {T by_ : Int} (hb : by_ = 1 ∨ by_ = -1) (h : pairB p q = true) {d : Nat} (hT : cmpV p q + by_ * (d : Int) = T) (hd : d ≤ 100) (hT0 : ∀ a, pairB a q = true → a.length = p.length → cmpV a q ≠ T + by_) :
  F_impl_path 2000000 p q T = some (p :: runP q by_ d p) ∧ F_spec_exPath 2000000 p q by_ = some (p :: runP q by_ d p) := by
 have hpl := sys_le (pair_of h).1
 have hc := cmp_le h
 constructor
 ·unfold F_impl_path
  rw [clone_eq (by omega), bd_of, comp_eq h, bd_of]
  cases d with
  | zero =>
   rw [ine_f (by omega), cond_false]
   rfl
  | succ d =>
   obtain ⟨m1, m2⟩ := move_eq hb hT hc.1 (by omega)
   rw [m1, cond_true, m2, bd_of, better_eq h, bd_of]
   simp only [runP]
   cases hn : nxtL p q (cmpV p q + by_) (csOf p) with
   | none => rfl
   | some a =>
    obtain ⟨e1, e2, e3, e4⟩ := nxt_spec h (csOf p) (fun _ hx => hx) a hn
    have hle : lemp a = false := by
     cases a with
     | nil => exact absurd rfl e2
     | cons _ _ => rfl
    simp only [Option.getD_some]
    rw [hle, cond_false, gd_t (by simp)]
    obtain ⟨r, k1, k2⟩ := path_L (T := T) hb d 2000000 a [p] e1 (by rw [e4, ← hT]; rcases hb with rfl | rfl <;> omega) (by omega) (by simp; omega)
    rw [e4] at k1
    have k1' : F_impl_path_L1 2000000 q T 2000000 (lapp [p] [a]) (llen [p]) (cmpV p q + by_) = some r := k1
    rw [k1', bd_of]
    rcases k2 with rfl | ⟨y, z, rfl⟩ <;> rfl
 ·unfold F_spec_exPath
  rw [own_eq (by omega), bd_of]
  have key := spath_L (p := p) (T := T) hb hT0 d 2000000 p [] h rfl hT (by omega) (by simp; omega)
  simp only [List.nil_append] at key
  rw [key, bd_of]
  rfl
end
end Go.Proofs.YtogghgecmjnieaaGreat.AL

/- slices.Sort at []int, by the library's own contract. No condition. -/
import Derived.Test.YtfccbmpfnonjiaaAL31
import Derived.Test.YtfccbmpfnonjiaaAL32
import Derived.Test.YtfccbmpfnonjiaaProg
import Derived.KernelRfl
namespace Go.Proofs.Ytfccbmpfnonjiaa.AL
open Go Go.RowKit
set_option linter.unusedVariables false
def lays189_ren : Go.Shelf.Ren := ⟨fun | 189 => 85 | 125 => 92 | 257 => 91 | 128 => 105 | 129 => 106 | 294 => 96 | 295 => 97 | 296 => 98 | 297 => 99 | 298 => 100 | 299 => 101 | 216 => 102 | 300 => 103 | 301 => 104 | 328 => 107 | 329 => 108 | 330 => 109 | 331 => 110 | 332 => 111 | 215 => 112 | 343 => 113 | n => n, fun | 28 => 22 | 3 => 3 | 46 => 94 | 0 => 0 | 51 => 103 | 53 => 79 | 4 => 4 | 183 => 98 | 182 => 97 | 131 => 33 | 5 => 5 | 9 => 9 | 218 => 105 | 222 => 109 | 228 => 111 | 229 => 56 | n => n, fun | n => n⟩
theorem lays189 : Go.Proofs.Lays.n189 Try.prog lays189_ren := {
  mixed := by kernel_rfl
  f125 := Try.func92.trans (congrArg some (by kernel_rfl))
  f128 := Try.func105.trans (congrArg some (by kernel_rfl))
  f129 := Try.func106.trans (congrArg some (by kernel_rfl))
  f189 := Try.func85.trans (congrArg some (by kernel_rfl))
  f215 := Try.func112.trans (congrArg some (by kernel_rfl))
  f216 := Try.func102.trans (congrArg some (by kernel_rfl))
  f257 := Try.func91.trans (congrArg some (by kernel_rfl))
  f294 := Try.func96.trans (congrArg some (by kernel_rfl))
  f295 := Try.func97.trans (congrArg some (by kernel_rfl))
  f296 := Try.func98.trans (congrArg some (by kernel_rfl))
  f297 := Try.func99.trans (congrArg some (by kernel_rfl))
  f298 := Try.func100.trans (congrArg some (by kernel_rfl))
  f299 := Try.func101.trans (congrArg some (by kernel_rfl))
  f300 := Try.func103.trans (congrArg some (by kernel_rfl))
  f301 := Try.func104.trans (congrArg some (by kernel_rfl))
  f328 := Try.func107.trans (congrArg some (by kernel_rfl))
  f329 := Try.func108.trans (congrArg some (by kernel_rfl))
  f330 := Try.func109.trans (congrArg some (by kernel_rfl))
  f331 := Try.func110.trans (congrArg some (by kernel_rfl))
  f332 := Try.func111.trans (congrArg some (by kernel_rfl))
  f343 := Try.func113.trans (congrArg some (by kernel_rfl))
  t0 := Try.underlying0
  a0 := Try.isAgg0
  z0 := Try.sizeOf0
  v0 := Try.zeroValue0
  t3 := Try.underlying3
  a3 := Try.isAgg3
  z3 := Try.sizeOf3
  v3 := Try.zeroValue3
  t4 := Try.underlying4
  a4 := Try.isAgg4
  z4 := Try.sizeOf4
  v4 := Try.zeroValue4
  t5 := Try.underlying5
  a5 := Try.isAgg5
  z5 := Try.sizeOf5
  v5 := Try.zeroValue5
  t9 := Try.underlying9
  a9 := Try.isAgg9
  z9 := Try.sizeOf9
  v9 := Try.zeroValue9
  t28 := Try.underlying22
  a28 := Try.isAgg22
  z28 := Try.sizeOf22
  v28 := Try.zeroValue22
  t46 := Try.underlying94
  a46 := Try.isAgg94
  z46 := Try.sizeOf94
  v46 := Try.zeroValue94
  t51 := Try.underlying103
  a51 := Try.isAgg103
  z51 := Try.sizeOf103
  v51 := Try.zeroValue103
  t53 := Try.underlying79
  a53 := Try.isAgg79
  z53 := Try.sizeOf79
  v53 := Try.zeroValue79
  t131 := Try.underlying33
  a131 := Try.isAgg33
  z131 := Try.sizeOf33
  v131 := Try.zeroValue33
  t182 := Try.underlying97
  a182 := Try.isAgg97
  z182 := Try.sizeOf97
  v182 := Try.zeroValue97
  t183 := Try.underlying98
  a183 := Try.isAgg98
  z183 := Try.sizeOf98
  v183 := Try.zeroValue98
  t218 := Try.underlying105
  a218 := Try.isAgg105
  z218 := Try.sizeOf105
  v218 := Try.zeroValue105
  t222 := Try.underlying109
  a222 := Try.isAgg109
  z222 := Try.sizeOf109
  v222 := Try.zeroValue109
  t228 := Try.underlying111
  a228 := Try.isAgg111
  z228 := Try.sizeOf111
  v228 := Try.zeroValue111
  t229 := Try.underlying56
  a229 := Try.isAgg56
  z229 := Try.sizeOf56
  v229 := Try.zeroValue56 }

theorem ren_sort : lays189_ren.f 189 = 85 := by kernel_rfl
/-! slices.Sort[[]int,int] -/
def F_slices_Sort_Sint (fu : Nat) (x0 : List Int) : Option (List Int) := gd (0 < x0.length ∧ x0.length ≤ 4294967296) (some (srt x0))
theorem F_slices_Sort_Sint_w {fu : Nat} {H : AH} {B : Nat → Prop} {v0 : Value} {x0 : List Int} {r : (List Int)} (hB : Up B H.length) (S0 : Sep H B [flat v0 3 (ints x0)]) (hF : F_slices_Sort_Sint fu x0 = some r) :
    ACallT Try.prog 85 [v0] H (fun u G => AgB B H G ∧ u = (Value.tuple #[]) ∧ Sep G B [flat v0 3 (ints r)]) := by
  obtain ⟨⟨h1, h2⟩, hF⟩ := gd_some hF
  obtain rfl := Option.some.inj hF
  have hE : Enters Try.prog (lays189_ren.f 189) := by
    rw [ren_sort]
    exact ⟨_, Try.func85, rfl, rfl⟩
  have key := sort_w lays189 hE hB S0 (by rintro rfl; simp at h1) h2
  rw [ren_sort] at key
  exact key
end Go.Proofs.Ytfccbmpfnonjiaa.AL

/- strings.Join, by the library's own contract. No condition. -/
import Derived.Test.YtcbdgkgdopkofaaDoorALD
import Derived.Test.YtcbdgkgdopkofaaDoorAL48
import Derived.Test.YtcbdgkgdopkofaaDoorProg
import Derived.KernelRfl
namespace Go.Proofs.YtcbdgkgdopkofaaDoor.AL
open Go Go.RowKit
set_option linter.unusedVariables false
def lays156_ren : Go.Shelf.Ren := ⟨fun | 156 => 55 | 165 => 66 | 166 => 67 | 169 => 68 | 240 => 83 | 241 => 84 | 276 => 97 | 277 => 98 | n => n, fun | 31 => 32 | 9 => 9 | 3 => 3 | 4 => 4 | 0 => 0 | 20 => 20 | 72 => 82 | 76 => 67 | 70 => 80 | 37 => 60 | 75 => 66 | 127 => 98 | 164 => 116 | 5 => 5 | 80 => 84 | n => n, fun | n => n⟩
theorem lays156 : Go.Proofs.Lays.n156 Tryd.prog lays156_ren := {
  mixed := by kernel_rfl
  f156 := Tryd.func55.trans (congrArg some (by kernel_rfl))
  f165 := Tryd.func66.trans (congrArg some (by kernel_rfl))
  f166 := Tryd.func67.trans (congrArg some (by kernel_rfl))
  f169 := Tryd.func68.trans (congrArg some (by kernel_rfl))
  f240 := Tryd.func83.trans (congrArg some (by kernel_rfl))
  f241 := Tryd.func84.trans (congrArg some (by kernel_rfl))
  f276 := Tryd.func97.trans (congrArg some (by kernel_rfl))
  f277 := Tryd.func98.trans (congrArg some (by kernel_rfl))
  t0 := Tryd.underlying0
  a0 := Tryd.isAgg0
  z0 := Tryd.sizeOf0
  v0 := Tryd.zeroValue0
  t3 := Tryd.underlying3
  a3 := Tryd.isAgg3
  z3 := Tryd.sizeOf3
  v3 := Tryd.zeroValue3
  t4 := Tryd.underlying4
  a4 := Tryd.isAgg4
  z4 := Tryd.sizeOf4
  v4 := Tryd.zeroValue4
  t9 := Tryd.underlying9
  a9 := Tryd.isAgg9
  z9 := Tryd.sizeOf9
  v9 := Tryd.zeroValue9
  t20 := Tryd.underlying20
  a20 := Tryd.isAgg20
  z20 := Tryd.sizeOf20
  v20 := Tryd.zeroValue20
  t31 := Tryd.underlying32
  a31 := Tryd.isAgg32
  z31 := Tryd.sizeOf32
  v31 := Tryd.zeroValue32
  t37 := Tryd.underlying60
  a37 := Tryd.isAgg60
  z37 := Tryd.sizeOf60
  v37 := Tryd.zeroValue60
  t70 := Tryd.underlying80
  a70 := Tryd.isAgg80
  z70 := Tryd.sizeOf80
  v70 := Tryd.zeroValue80
  t72 := Tryd.underlying82
  a72 := Tryd.isAgg82
  z72 := Tryd.sizeOf82
  v72 := Tryd.zeroValue82
  t75 := Tryd.underlying66
  a75 := Tryd.isAgg66
  z75 := Tryd.sizeOf66
  v75 := Tryd.zeroValue66
  t76 := Tryd.underlying67
  a76 := Tryd.isAgg67
  z76 := Tryd.sizeOf67
  v76 := Tryd.zeroValue67
  t127 := Tryd.underlying98
  a127 := Tryd.isAgg98
  z127 := Tryd.sizeOf98
  v127 := Tryd.zeroValue98
  t164 := Tryd.underlying116
  a164 := Tryd.isAgg116
  z164 := Tryd.sizeOf116
  v164 := Tryd.zeroValue116 }

theorem ren_join : lays156_ren.f 156 = 55 := by kernel_rfl
theorem extra156 : Builder.Extra Tryd.prog lays156_ren where
  sizeBuilder := by kernel_rfl
  liesBuilder := by kernel_rfl
  t5 := Tryd.underlying5
  a5 := Tryd.isAgg5
  z5 := Tryd.sizeOf5
  v5 := Tryd.zeroValue5
  infoByte := by kernel_rfl
  cellsByte := by kernel_rfl
  sizeByte := by kernel_rfl
  neB5 := by decide
/-! strings.Join -/
def F_strings_Join (fu : Nat) (x0 : List ByteArray) (x1 : ByteArray) : Option ByteArray := gd (x0.length ≤ 140737488355328 ∧ (Lib.join (x0.map (·.data.toList)) x1.data.toList).length ≤ 140737488355328) (some (joinS x0 x1))
theorem F_strings_Join_w {fu : Nat} {H : AH} {v0 : Value} {x0 : List ByteArray} {x1 : ByteArray} {r : ByteArray} (hx0 : Sl H v0 (strs x0)) (hF : F_strings_Join fu x0 x1 = some r) :
    ACallT Tryd.prog 55 [v0, (Value.string x1)] H (fun u G => AgB (Fr H) H G ∧ u = (Value.string r) ∧ Sep G (Fr H) []) := by
  obtain ⟨⟨h1, h2⟩, hF⟩ := gd_some hF
  obtain rfl := Option.some.inj hF
  have hE : Enters Tryd.prog (lays156_ren.f 156) := by
    rw [ren_join]
    exact ⟨_, Tryd.func55, rfl, rfl⟩
  have key := join_w lays156 extra156 hE hx0 h1 h2
  rw [ren_join] at key
  exact key
end Go.Proofs.YtcbdgkgdopkofaaDoor.AL

/- The ends of the law FnSeaweedsIndexed, named. No condition. -/
import Derived.Test.YtigpmjebldgekaaPWM
import Derived.Test.YtigpmjebldgekaaG1
import Derived.Test.YtigpmjebldgekaaG2
import Derived.Test.YtigpmjebldgekaaG3
import Derived.Test.YtigpmjebldgekaaG4
import Derived.Test.YtigpmjebldgekaaG5
import Derived.Test.YtigpmjebldgekaaG6
namespace Go.Proofs.Ytigpmjebldgekaa.AL
open Go
set_option linter.unusedVariables false
def JJ (x1 : List Int) : Option Bool :=
  bd (F_spec_DrawJoinSeaweeds 2000000 x1) fun r89 =>
                bd (F_impl_JoinSeaweeds 2000000 r89.1.1 r89.1.2 r89.2.1 r89.2.2) fun r90 =>
                bd (F_spec_JoinSeaweeds 2000000 r89.1.1 r89.1.2 r89.2.1 r89.2.2) fun r91 =>
                bd (
                  bif (bne' r90.2 r91.2) then
                    some true
                  else
                    bd (F_laws_yWeed 2000000 r90.1.1 r90.1.2 r91.1.1 r91.1.2) fun r92 =>
                    some (bnot r92)) fun s1474 =>
                bif s1474 then
                  some false
                else
                  bif r90.2 then
                    bd (F_impl_IndexOf 2000000 r89.1.1 r89.1.2) fun r93 =>
                    bd (F_impl_IndexOf 2000000 r89.2.1 r89.2.2) fun r94 =>
                    bd (F_impl_IndexOf 2000000 r90.1.1 r90.1.2) fun r95 =>
                    bif r93.2 then
                      bif r94.2 then
                        bif r95.2 then
                          some (ieq r95.1 (iadd .i64 (iadd .i64 r93.1 r94.1) 1))
                        else
                          some false
                      else
                        some false
                    else
                      some false
                  else
                    some true
def TT (x1 : List Int) : Option Bool :=
  bd (F_spec_DrawIndexOfThree 2000000 x1) fun r78 =>
            bd (F_impl_IndexOfThree 2000000 r78.1 r78.2.1 r78.2.2) fun r79 =>
            bd (F_spec_IndexOfThree 2000000 r78.1 r78.2.1 r78.2.2) fun r80 =>
            bd (
              bif (bne' r79.2 r80.2) then
                some true
              else
                some (ine r79.1 r80.1)) fun s1245 =>
            bif s1245 then
              some false
            else
              bif r79.2 then
                bd (F_impl_IndexOf 2000000 [r78.1, r78.2.1, r78.2.2] [(iadd .i64 (iadd .i64 r78.1 r78.2.1) r78.2.2)]) fun r81 =>
                bd (
                  bif (bnot r81.2) then
                    some true
                  else
                    some (ine r81.1 r79.1)) fun s1275 =>
                bif s1275 then
                  some false
                else
                  bd (F_spec_DrawJoinSeaweeds 2000000 x1) fun r82 =>
                  bd (F_impl_JoinSeaweeds 2000000 r82.1.1 r82.1.2 r82.2.1 r82.2.2) fun r83 =>
                  bd (F_spec_JoinSeaweeds 2000000 r82.1.1 r82.1.2 r82.2.1 r82.2.2) fun r84 =>
                  bd (
                    bif (bne' r83.2 r84.2) then
                      some true
                    else
                      bd (F_laws_yWeed 2000000 r83.1.1 r83.1.2 r84.1.1 r84.1.2) fun r85 =>
                      some (bnot r85)) fun s1356 =>
                  bif s1356 then
                    some false
                  else
                    bif r83.2 then
                      bd (F_impl_IndexOf 2000000 r82.1.1 r82.1.2) fun r86 =>
                      bd (F_impl_IndexOf 2000000 r82.2.1 r82.2.2) fun r87 =>
                      bd (F_impl_IndexOf 2000000 r83.1.1 r83.1.2) fun r88 =>
                      bif r86.2 then
                        bif r87.2 then
                          bif r88.2 then
                            some (ieq r88.1 (iadd .i64 (iadd .i64 r86.1 r87.1) 1))
                          else
                            some false
                        else
                          some false
                      else
                        some false
                    else
                      some true
              else
                bd (F_spec_DrawJoinSeaweeds 2000000 x1) fun r89 =>
                bd (F_impl_JoinSeaweeds 2000000 r89.1.1 r89.1.2 r89.2.1 r89.2.2) fun r90 =>
                bd (F_spec_JoinSeaweeds 2000000 r89.1.1 r89.1.2 r89.2.1 r89.2.2) fun r91 =>
                bd (
                  bif (bne' r90.2 r91.2) then
                    some true
                  else
                    bd (F_laws_yWeed 2000000 r90.1.1 r90.1.2 r91.1.1 r91.1.2) fun r92 =>
                    some (bnot r92)) fun s1474 =>
                bif s1474 then
                  some false
                else
                  bif r90.2 then
                    bd (F_impl_IndexOf 2000000 r89.1.1 r89.1.2) fun r93 =>
                    bd (F_impl_IndexOf 2000000 r89.2.1 r89.2.2) fun r94 =>
                    bd (F_impl_IndexOf 2000000 r90.1.1 r90.1.2) fun r95 =>
                    bif r93.2 then
                      bif r94.2 then
                        bif r95.2 then
                          some (ieq r95.1 (iadd .i64 (iadd .i64 r93.1 r94.1) 1))
                        else
                          some false
                      else
                        some false
                    else
                      some false
                  else
                    some true
def WW (x1 : List Int) : Option Bool :=
  bd (F_spec_DrawIndexOfTwo 2000000 x1) fun r55 =>
        bd (F_impl_IndexOfTwo 2000000 r55.1 r55.2) fun r56 =>
        bd (F_spec_IndexOfTwo 2000000 r55.1 r55.2) fun r57 =>
        bd (
          bif (bne' r56.2 r57.2) then
            some true
          else
            some (ine r56.1 r57.1)) fun s882 =>
        bif s882 then
          some false
        else
          bif r56.2 then
            bd (F_impl_IndexOf 2000000 [r55.1, r55.2] [(iadd .i64 r55.1 r55.2)]) fun r58 =>
            bd (
              bif (bnot r58.2) then
                some true
              else
                bif (ine r58.1 r56.1) then
                  some true
                else
                  bd (F_laws_yGcd 2000000 r55.1 r55.2) fun r59 =>
                  some (ine r56.1 (isub .i64 r59 1))) fun s912 =>
            bif s912 then
              some false
            else
              bd (F_spec_DrawIndexOfThree 2000000 x1) fun r60 =>
              bd (F_impl_IndexOfThree 2000000 r60.1 r60.2.1 r60.2.2) fun r61 =>
              bd (F_spec_IndexOfThree 2000000 r60.1 r60.2.1 r60.2.2) fun r62 =>
              bd (
                bif (bne' r61.2 r62.2) then
                  some true
                else
                  some (ine r61.1 r62.1)) fun s950 =>
              bif s950 then
                some false
              else
                bif r61.2 then
                  bd (F_impl_IndexOf 2000000 [r60.1, r60.2.1, r60.2.2] [(iadd .i64 (iadd .i64 r60.1 r60.2.1) r60.2.2)]) fun r63 =>
                  bd (
                    bif (bnot r63.2) then
                      some true
                    else
                      some (ine r63.1 r61.1)) fun s980 =>
                  bif s980 then
                    some false
                  else
                    bd (F_spec_DrawJoinSeaweeds 2000000 x1) fun r64 =>
                    bd (F_impl_JoinSeaweeds 2000000 r64.1.1 r64.1.2 r64.2.1 r64.2.2) fun r65 =>
                    bd (F_spec_JoinSeaweeds 2000000 r64.1.1 r64.1.2 r64.2.1 r64.2.2) fun r66 =>
                    bd (
                      bif (bne' r65.2 r66.2) then
                        some true
                      else
                        bd (F_laws_yWeed 2000000 r65.1.1 r65.1.2 r66.1.1 r66.1.2) fun r67 =>
                        some (bnot r67)) fun s1061 =>
                    bif s1061 then
                      some false
                    else
                      bif r65.2 then
                        bd (F_impl_IndexOf 2000000 r64.1.1 r64.1.2) fun r68 =>
                        bd (F_impl_IndexOf 2000000 r64.2.1 r64.2.2) fun r69 =>
                        bd (F_impl_IndexOf 2000000 r65.1.1 r65.1.2) fun r70 =>
                        bif r68.2 then
                          bif r69.2 then
                            bif r70.2 then
                              some (ieq r70.1 (iadd .i64 (iadd .i64 r68.1 r69.1) 1))
                            else
                              some false
                          else
                            some false
                        else
                          some false
                      else
                        some true
                else
                  bd (F_spec_DrawJoinSeaweeds 2000000 x1) fun r71 =>
                  bd (F_impl_JoinSeaweeds 2000000 r71.1.1 r71.1.2 r71.2.1 r71.2.2) fun r72 =>
                  bd (F_spec_JoinSeaweeds 2000000 r71.1.1 r71.1.2 r71.2.1 r71.2.2) fun r73 =>
                  bd (
                    bif (bne' r72.2 r73.2) then
                      some true
                    else
                      bd (F_laws_yWeed 2000000 r72.1.1 r72.1.2 r73.1.1 r73.1.2) fun r74 =>
                      some (bnot r74)) fun s1179 =>
                  bif s1179 then
                    some false
                  else
                    bif r72.2 then
                      bd (F_impl_IndexOf 2000000 r71.1.1 r71.1.2) fun r75 =>
                      bd (F_impl_IndexOf 2000000 r71.2.1 r71.2.2) fun r76 =>
                      bd (F_impl_IndexOf 2000000 r72.1.1 r72.1.2) fun r77 =>
                      bif r75.2 then
                        bif r76.2 then
                          bif r77.2 then
                            some (ieq r77.1 (iadd .i64 (iadd .i64 r75.1 r76.1) 1))
                          else
                            some false
                        else
                          some false
                      else
                        some false
                    else
                      some true
          else
            bd (F_spec_DrawIndexOfThree 2000000 x1) fun r78 =>
            bd (F_impl_IndexOfThree 2000000 r78.1 r78.2.1 r78.2.2) fun r79 =>
            bd (F_spec_IndexOfThree 2000000 r78.1 r78.2.1 r78.2.2) fun r80 =>
            bd (
              bif (bne' r79.2 r80.2) then
                some true
              else
                some (ine r79.1 r80.1)) fun s1245 =>
            bif s1245 then
              some false
            else
              bif r79.2 then
                bd (F_impl_IndexOf 2000000 [r78.1, r78.2.1, r78.2.2] [(iadd .i64 (iadd .i64 r78.1 r78.2.1) r78.2.2)]) fun r81 =>
                bd (
                  bif (bnot r81.2) then
                    some true
                  else
                    some (ine r81.1 r79.1)) fun s1275 =>
                bif s1275 then
                  some false
                else
                  bd (F_spec_DrawJoinSeaweeds 2000000 x1) fun r82 =>
                  bd (F_impl_JoinSeaweeds 2000000 r82.1.1 r82.1.2 r82.2.1 r82.2.2) fun r83 =>
                  bd (F_spec_JoinSeaweeds 2000000 r82.1.1 r82.1.2 r82.2.1 r82.2.2) fun r84 =>
                  bd (
                    bif (bne' r83.2 r84.2) then
                      some true
                    else
                      bd (F_laws_yWeed 2000000 r83.1.1 r83.1.2 r84.1.1 r84.1.2) fun r85 =>
                      some (bnot r85)) fun s1356 =>
                  bif s1356 then
                    some false
                  else
                    bif r83.2 then
                      bd (F_impl_IndexOf 2000000 r82.1.1 r82.1.2) fun r86 =>
                      bd (F_impl_IndexOf 2000000 r82.2.1 r82.2.2) fun r87 =>
                      bd (F_impl_IndexOf 2000000 r83.1.1 r83.1.2) fun r88 =>
                      bif r86.2 then
                        bif r87.2 then
                          bif r88.2 then
                            some (ieq r88.1 (iadd .i64 (iadd .i64 r86.1 r87.1) 1))
                          else
                            some false
                        else
                          some false
                      else
                        some false
                    else
                      some true
              else
                bd (F_spec_DrawJoinSeaweeds 2000000 x1) fun r89 =>
                bd (F_impl_JoinSeaweeds 2000000 r89.1.1 r89.1.2 r89.2.1 r89.2.2) fun r90 =>
                bd (F_spec_JoinSeaweeds 2000000 r89.1.1 r89.1.2 r89.2.1 r89.2.2) fun r91 =>
                bd (
                  bif (bne' r90.2 r91.2) then
                    some true
                  else
                    bd (F_laws_yWeed 2000000 r90.1.1 r90.1.2 r91.1.1 r91.1.2) fun r92 =>
                    some (bnot r92)) fun s1474 =>
                bif s1474 then
                  some false
                else
                  bif r90.2 then
                    bd (F_impl_IndexOf 2000000 r89.1.1 r89.1.2) fun r93 =>
                    bd (F_impl_IndexOf 2000000 r89.2.1 r89.2.2) fun r94 =>
                    bd (F_impl_IndexOf 2000000 r90.1.1 r90.1.2) fun r95 =>
                    bif r93.2 then
                      bif r94.2 then
                        bif r95.2 then
                          some (ieq r95.1 (iadd .i64 (iadd .i64 r93.1 r94.1) 1))
                        else
                          some false
                      else
                        some false
                    else
                      some false
                  else
                    some true
end Go.Proofs.Ytigpmjebldgekaa.AL

/- The library contracts that are used, laid at this program. -/
import Derived.Test.YtmgnagpgnoikfaaDoorBase14
import Derived.Shelf.Sort.Plain
import Derived.Shelf.Slices.CompactI
import Derived.KernelRfl
import Derived.Test.YtmgnagpgnoikfaaDoorProg
set_option maxRecDepth 100000
namespace Go.Proofs.YtmgnagpgnoikfaaDoor
open Go Go.Shelf Go.RowKit

def layNm189_ren : Ren := { f := fun x => match x with | 189 => 33 | 125 => 49 | 257 => 48 | 128 => 64 | 129 => 65 | 294 => 55 | 295 => 56 | 296 => 57 | 297 => 58 | 298 => 59 | 299 => 60 | 216 => 61 | 300 => 62 | 301 => 63 | 328 => 69 | 329 => 70 | 330 => 71 | 331 => 72 | 332 => 73 | 215 => 74 | 343 => 77 | n => n, t := fun x => match x with | 28 => 24 | 3 => 3 | 46 => 92 | 0 => 0 | 51 => 106 | 53 => 108 | 4 => 4 | 183 => 99 | 182 => 98 | 131 => 58 | 5 => 5 | 9 => 9 | 218 => 113 | 222 => 117 | 228 => 119 | 229 => 110 | n => n, g := fun x => x }
theorem layNm189 : Lays.n189 Go.Proofs.Tryd.prog layNm189_ren where
  mixed := by kernel_rfl
  f125 := Eq.trans Go.Proofs.Tryd.func49 (congrArg some (by kernel_rfl))
  f128 := Eq.trans Go.Proofs.Tryd.func64 (congrArg some (by kernel_rfl))
  f129 := Eq.trans Go.Proofs.Tryd.func65 (congrArg some (by kernel_rfl))
  f189 := Eq.trans Go.Proofs.Tryd.func33 (congrArg some (by kernel_rfl))
  f215 := Eq.trans Go.Proofs.Tryd.func74 (congrArg some (by kernel_rfl))
  f216 := Eq.trans Go.Proofs.Tryd.func61 (congrArg some (by kernel_rfl))
  f257 := Eq.trans Go.Proofs.Tryd.func48 (congrArg some (by kernel_rfl))
  f294 := Eq.trans Go.Proofs.Tryd.func55 (congrArg some (by kernel_rfl))
  f295 := Eq.trans Go.Proofs.Tryd.func56 (congrArg some (by kernel_rfl))
  f296 := Eq.trans Go.Proofs.Tryd.func57 (congrArg some (by kernel_rfl))
  f297 := Eq.trans Go.Proofs.Tryd.func58 (congrArg some (by kernel_rfl))
  f298 := Eq.trans Go.Proofs.Tryd.func59 (congrArg some (by kernel_rfl))
  f299 := Eq.trans Go.Proofs.Tryd.func60 (congrArg some (by kernel_rfl))
  f300 := Eq.trans Go.Proofs.Tryd.func62 (congrArg some (by kernel_rfl))
  f301 := Eq.trans Go.Proofs.Tryd.func63 (congrArg some (by kernel_rfl))
  f328 := Eq.trans Go.Proofs.Tryd.func69 (congrArg some (by kernel_rfl))
  f329 := Eq.trans Go.Proofs.Tryd.func70 (congrArg some (by kernel_rfl))
  f330 := Eq.trans Go.Proofs.Tryd.func71 (congrArg some (by kernel_rfl))
  f331 := Eq.trans Go.Proofs.Tryd.func72 (congrArg some (by kernel_rfl))
  f332 := Eq.trans Go.Proofs.Tryd.func73 (congrArg some (by kernel_rfl))
  f343 := Eq.trans Go.Proofs.Tryd.func77 (congrArg some (by kernel_rfl))
  t0 := Go.Proofs.Tryd.underlying0
  a0 := Go.Proofs.Tryd.isAgg0
  z0 := Go.Proofs.Tryd.sizeOf0
  v0 := Go.Proofs.Tryd.zeroValue0
  t3 := Go.Proofs.Tryd.underlying3
  a3 := Go.Proofs.Tryd.isAgg3
  z3 := Go.Proofs.Tryd.sizeOf3
  v3 := Go.Proofs.Tryd.zeroValue3
  t4 := Go.Proofs.Tryd.underlying4
  a4 := Go.Proofs.Tryd.isAgg4
  z4 := Go.Proofs.Tryd.sizeOf4
  v4 := Go.Proofs.Tryd.zeroValue4
  t5 := Go.Proofs.Tryd.underlying5
  a5 := Go.Proofs.Tryd.isAgg5
  z5 := Go.Proofs.Tryd.sizeOf5
  v5 := Go.Proofs.Tryd.zeroValue5
  t9 := Go.Proofs.Tryd.underlying9
  a9 := Go.Proofs.Tryd.isAgg9
  z9 := Go.Proofs.Tryd.sizeOf9
  v9 := Go.Proofs.Tryd.zeroValue9
  t28 := Go.Proofs.Tryd.underlying24
  a28 := Go.Proofs.Tryd.isAgg24
  z28 := Go.Proofs.Tryd.sizeOf24
  v28 := Go.Proofs.Tryd.zeroValue24
  t46 := Go.Proofs.Tryd.underlying92
  a46 := Go.Proofs.Tryd.isAgg92
  z46 := Go.Proofs.Tryd.sizeOf92
  v46 := Go.Proofs.Tryd.zeroValue92
  t51 := Go.Proofs.Tryd.underlying106
  a51 := Go.Proofs.Tryd.isAgg106
  z51 := Go.Proofs.Tryd.sizeOf106
  v51 := Go.Proofs.Tryd.zeroValue106
  t53 := Go.Proofs.Tryd.underlying108
  a53 := Go.Proofs.Tryd.isAgg108
  z53 := Go.Proofs.Tryd.sizeOf108
  v53 := Go.Proofs.Tryd.zeroValue108
  t131 := Go.Proofs.Tryd.underlying58
  a131 := Go.Proofs.Tryd.isAgg58
  z131 := Go.Proofs.Tryd.sizeOf58
  v131 := Go.Proofs.Tryd.zeroValue58
  t182 := Go.Proofs.Tryd.underlying98
  a182 := Go.Proofs.Tryd.isAgg98
  z182 := Go.Proofs.Tryd.sizeOf98
  v182 := Go.Proofs.Tryd.zeroValue98
  t183 := Go.Proofs.Tryd.underlying99
  a183 := Go.Proofs.Tryd.isAgg99
  z183 := Go.Proofs.Tryd.sizeOf99
  v183 := Go.Proofs.Tryd.zeroValue99
  t218 := Go.Proofs.Tryd.underlying113
  a218 := Go.Proofs.Tryd.isAgg113
  z218 := Go.Proofs.Tryd.sizeOf113
  v218 := Go.Proofs.Tryd.zeroValue113
  t222 := Go.Proofs.Tryd.underlying117
  a222 := Go.Proofs.Tryd.isAgg117
  z222 := Go.Proofs.Tryd.sizeOf117
  v222 := Go.Proofs.Tryd.zeroValue117
  t228 := Go.Proofs.Tryd.underlying119
  a228 := Go.Proofs.Tryd.isAgg119
  z228 := Go.Proofs.Tryd.sizeOf119
  v228 := Go.Proofs.Tryd.zeroValue119
  t229 := Go.Proofs.Tryd.underlying110
  a229 := Go.Proofs.Tryd.isAgg110
  z229 := Go.Proofs.Tryd.sizeOf110
  v229 := Go.Proofs.Tryd.zeroValue110
def layNm220_ren : Ren := { f := fun x => match x with | 20 => 34 | n => n, t := fun x => match x with | 22 => 24 | 3 => 3 | 4 => 4 | 0 => 0 | n => n, g := fun x => x }
theorem layNm220 : Lays2.n20 Go.Proofs.Tryd.prog layNm220_ren where
  mixed := by kernel_rfl
  f20 := Eq.trans Go.Proofs.Tryd.func34 (congrArg some (by kernel_rfl))
  t0 := Go.Proofs.Tryd.underlying0
  a0 := Go.Proofs.Tryd.isAgg0
  z0 := Go.Proofs.Tryd.sizeOf0
  v0 := Go.Proofs.Tryd.zeroValue0
  t3 := Go.Proofs.Tryd.underlying3
  a3 := Go.Proofs.Tryd.isAgg3
  z3 := Go.Proofs.Tryd.sizeOf3
  v3 := Go.Proofs.Tryd.zeroValue3
  t4 := Go.Proofs.Tryd.underlying4
  a4 := Go.Proofs.Tryd.isAgg4
  z4 := Go.Proofs.Tryd.sizeOf4
  v4 := Go.Proofs.Tryd.zeroValue4
  t22 := Go.Proofs.Tryd.underlying24
  a22 := Go.Proofs.Tryd.isAgg24
  z22 := Go.Proofs.Tryd.sizeOf24
  v22 := Go.Proofs.Tryd.zeroValue24
  i3 := by kernel_rfl
end Go.Proofs.YtmgnagpgnoikfaaDoor

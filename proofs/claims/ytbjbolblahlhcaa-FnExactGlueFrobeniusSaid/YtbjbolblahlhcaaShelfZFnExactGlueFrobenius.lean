/- Contracts of library functions at this translation, laid by the kit's tool in plain words: each one application. No condition of their own. -/
import Derived.Shelf.Sort.Plain
import Derived.Ground.Names2Prog
import Derived.Shelf.Slices.CompactI
import Derived.Shelf.Slices.In.SortNone
import Derived.Test.YtbjbolblahlhcaaProg
namespace Go.Proofs
open Go.Shelf
def Try.lays189_ren : Go.Shelf.Ren := ⟨fun | 189 => 151 | 125 => 161 | 257 => 160 | 128 => 174 | 129 => 175 | 294 => 165 | 295 => 166 | 296 => 167 | 297 => 168 | 298 => 169 | 299 => 170 | 216 => 171 | 300 => 172 | 301 => 173 | 328 => 179 | 329 => 180 | 330 => 181 | 331 => 182 | 332 => 183 | 215 => 184 | 343 => 185 | n => n, fun | 28 => 22 | 3 => 3 | 46 => 106 | 0 => 0 | 51 => 126 | 53 => 128 | 4 => 4 | 183 => 121 | 182 => 120 | 131 => 116 | 5 => 5 | 9 => 9 | 218 => 132 | 222 => 136 | 228 => 138 | 229 => 35 | n => n, fun | n => n⟩
theorem Try.lays189 : Go.Proofs.Lays.n189 Try.prog Try.lays189_ren := {
 mixed := by kernel_rfl
 f125 := Try.func161.trans (congrArg some (by kernel_rfl))
 f128 := Try.func174.trans (congrArg some (by kernel_rfl))
 f129 := Try.func175.trans (congrArg some (by kernel_rfl))
 f189 := Try.func151.trans (congrArg some (by kernel_rfl))
 f215 := Try.func184.trans (congrArg some (by kernel_rfl))
 f216 := Try.func171.trans (congrArg some (by kernel_rfl))
 f257 := Try.func160.trans (congrArg some (by kernel_rfl))
 f294 := Try.func165.trans (congrArg some (by kernel_rfl))
 f295 := Try.func166.trans (congrArg some (by kernel_rfl))
 f296 := Try.func167.trans (congrArg some (by kernel_rfl))
 f297 := Try.func168.trans (congrArg some (by kernel_rfl))
 f298 := Try.func169.trans (congrArg some (by kernel_rfl))
 f299 := Try.func170.trans (congrArg some (by kernel_rfl))
 f300 := Try.func172.trans (congrArg some (by kernel_rfl))
 f301 := Try.func173.trans (congrArg some (by kernel_rfl))
 f328 := Try.func179.trans (congrArg some (by kernel_rfl))
 f329 := Try.func180.trans (congrArg some (by kernel_rfl))
 f330 := Try.func181.trans (congrArg some (by kernel_rfl))
 f331 := Try.func182.trans (congrArg some (by kernel_rfl))
 f332 := Try.func183.trans (congrArg some (by kernel_rfl))
 f343 := Try.func185.trans (congrArg some (by kernel_rfl))
 t0 := Try.underlying0
 a0 := Try.isAgg0
 z0 := Try.sizeOf0
 v0 := Try.zeroValue0
 t3 := Try.underlying3
 a3 := Try.isAgg3
 z3 := Try.sizeOf3
 v3 := Try.zeroValue3
 t4 := Try.underlying4
 a4 := Try.isAgg4
 z4 := Try.sizeOf4
 v4 := Try.zeroValue4
 t5 := Try.underlying5
 a5 := Try.isAgg5
 z5 := Try.sizeOf5
 v5 := Try.zeroValue5
 t9 := Try.underlying9
 a9 := Try.isAgg9
 z9 := Try.sizeOf9
 v9 := Try.zeroValue9
 t28 := Try.underlying22
 a28 := Try.isAgg22
 z28 := Try.sizeOf22
 v28 := Try.zeroValue22
 t46 := Try.underlying106
 a46 := Try.isAgg106
 z46 := Try.sizeOf106
 v46 := Try.zeroValue106
 t51 := Try.underlying126
 a51 := Try.isAgg126
 z51 := Try.sizeOf126
 v51 := Try.zeroValue126
 t53 := Try.underlying128
 a53 := Try.isAgg128
 z53 := Try.sizeOf128
 v53 := Try.zeroValue128
 t131 := Try.underlying116
 a131 := Try.isAgg116
 z131 := Try.sizeOf116
 v131 := Try.zeroValue116
 t182 := Try.underlying120
 a182 := Try.isAgg120
 z182 := Try.sizeOf120
 v182 := Try.zeroValue120
 t183 := Try.underlying121
 a183 := Try.isAgg121
 z183 := Try.sizeOf121
 v183 := Try.zeroValue121
 t218 := Try.underlying132
 a218 := Try.isAgg132
 z218 := Try.sizeOf132
 v218 := Try.zeroValue132
 t222 := Try.underlying136
 a222 := Try.isAgg136
 z222 := Try.sizeOf136
 v222 := Try.zeroValue136
 t228 := Try.underlying138
 a228 := Try.isAgg138
 z228 := Try.sizeOf138
 v228 := Try.zeroValue138
 t229 := Try.underlying35
 a229 := Try.isAgg35
 z229 := Try.sizeOf35
 v229 := Try.zeroValue35 }
open Go.Sort Go.RowKit in
theorem Try.slices_Sort_int (blk off cap : Nat) (zs : List Int) (w : World) (hH : Holds (Value.int .i64) w blk off zs.toArray) (hblk : blk < w.heap.size) (hsz : zs.length < 4611686018427387904) :
 Calls Try.prog 151 #[.slice (some ⟨blk, off, none⟩) zs.length cap] w fun e w' =>
  e = .returned (.tuple #[]) ∧ ∃ n os, w' = grow (putRow (Value.int .i64) (Sort.ahead w n) blk off (zs.mergeSort fun x y => decide (x ≤ y)).toArray) os := Any.slices_Sort_int Try.lays189 blk off cap zs w hH hblk hsz
def Try.laysNm220_ren : Go.Shelf.Ren := ⟨fun | 20 => 152 | n => n, fun | 22 => 22 | 3 => 3 | 4 => 4 | 0 => 0 | n => n, fun | n => n⟩
theorem Try.laysNm220 : Go.Proofs.Lays2.n20 Try.prog Try.laysNm220_ren := {
 mixed := by kernel_rfl
 f20 := Try.func152.trans (congrArg some (by kernel_rfl))
 t0 := Try.underlying0
 a0 := Try.isAgg0
 z0 := Try.sizeOf0
 v0 := Try.zeroValue0
 t3 := Try.underlying3
 a3 := Try.isAgg3
 z3 := Try.sizeOf3
 v3 := Try.zeroValue3
 t4 := Try.underlying4
 a4 := Try.isAgg4
 z4 := Try.sizeOf4
 v4 := Try.zeroValue4
 t22 := Try.underlying22
 a22 := Try.isAgg22
 z22 := Try.sizeOf22
 v22 := Try.zeroValue22
 i3 := by kernel_rfl }
open Go.RowKit Go.Lib Go.Sort in
theorem Try.slices_Compact_int (blk off cap : Nat) (zs : List Int) (w : World) (hH : Holds (Value.int .i64) w blk off zs.toArray) (hsz : zs.length ≤ 9223372036854775807) (hcap : zs.length ≤ cap) :
 Calls Try.prog 152 #[.slice (some ⟨blk, off, none⟩) zs.length cap] w fun e w' => e = .returned (.slice (some ⟨blk, off, none⟩) (Lib.compact zs).length cap) ∧ ∃ q, w' = putRow (Value.int .i64) (Sort.ahead w q) blk off (Lib.compact zs ++ List.replicate (zs.length - (Lib.compact zs).length) 0).toArray := Any.slices_Compact_int Try.laysNm220 blk off cap zs w hH hsz hcap
open Go.RowKit Go.Lib Go.Sort in
theorem Try.slices_Compact_int_empty (a : Option Addr) (cap : Nat) (w : World) :
 Calls Try.prog 152 #[.slice a 0 cap] w fun e w' => e = .returned (.slice a 0 cap) ∧ w' = w := Any.slices_Compact_int_empty Try.laysNm220 a cap w
open Go.RowKit Go.Sort in
theorem Try.slices_Sort_int_none (p : Option Addr) (cap : Nat) (w : World) :
 Calls Try.prog 151 #[.slice p 0 cap] w fun e w' => e = .returned (.tuple #[]) ∧ w' = w := Any.slices_Sort_int_none Try.lays189 p cap w
end Go.Proofs

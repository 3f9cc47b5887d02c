/-
 The library's contract at this program: slices.Sort of ints (the shelf's, in its plain mode: lay-plain.mjs). No condition.
-/
import Derived.Shelf.Sort.Plain
import Derived.Shelf.Slices.In.SortNone
import Derived.Test.YtjfmckhbmdjnpaaGreatProg
namespace Go.Proofs
open Go.Shelf
def Tryz.lays189_ren:Go.Shelf.Ren:=⟨fun | 189=>106 | 125=>127 | 257=>126 | 128=>143 | 129=>144 | 294=>134 | 295=>135 | 296=>136 | 297=>137 | 298=>138 | 299=>139 | 216=>140 | 300=>141 | 301=>142 | 328=>145 | 329=>146 | 330=>147 | 331=>148 | 332=>149 | 215=>150 | 343=>151 | n=>n,fun | 28=>27 | 3=>3 | 46=>158 | 0=>0 | 51=>171 | 53=>173 | 4=>4 | 183=>163 | 182=>162 | 131=>168 | 5=>5 | 9=>9 | 218=>174 | 222=>178 | 228=>180 | 229=>181 | n=>n,fun | n=>n⟩
theorem Tryz.lays189:Go.Proofs.Lays.n189 Tryz.prog Tryz.lays189_ren:={
 mixed:=by kernel_rfl
 f125:=Tryz.func127.trans (congrArg some (by kernel_rfl))
 f128:=Tryz.func143.trans (congrArg some (by kernel_rfl))
 f129:=Tryz.func144.trans (congrArg some (by kernel_rfl))
 f189:=Tryz.func106.trans (congrArg some (by kernel_rfl))
 f215:=Tryz.func150.trans (congrArg some (by kernel_rfl))
 f216:=Tryz.func140.trans (congrArg some (by kernel_rfl))
 f257:=Tryz.func126.trans (congrArg some (by kernel_rfl))
 f294:=Tryz.func134.trans (congrArg some (by kernel_rfl))
 f295:=Tryz.func135.trans (congrArg some (by kernel_rfl))
 f296:=Tryz.func136.trans (congrArg some (by kernel_rfl))
 f297:=Tryz.func137.trans (congrArg some (by kernel_rfl))
 f298:=Tryz.func138.trans (congrArg some (by kernel_rfl))
 f299:=Tryz.func139.trans (congrArg some (by kernel_rfl))
 f300:=Tryz.func141.trans (congrArg some (by kernel_rfl))
 f301:=Tryz.func142.trans (congrArg some (by kernel_rfl))
 f328:=Tryz.func145.trans (congrArg some (by kernel_rfl))
 f329:=Tryz.func146.trans (congrArg some (by kernel_rfl))
 f330:=Tryz.func147.trans (congrArg some (by kernel_rfl))
 f331:=Tryz.func148.trans (congrArg some (by kernel_rfl))
 f332:=Tryz.func149.trans (congrArg some (by kernel_rfl))
 f343:=Tryz.func151.trans (congrArg some (by kernel_rfl))
 t0:=Tryz.underlying0
 a0:=Tryz.isAgg0
 z0:=Tryz.sizeOf0
 v0:=Tryz.zeroValue0
 t3:=Tryz.underlying3
 a3:=Tryz.isAgg3
 z3:=Tryz.sizeOf3
 v3:=Tryz.zeroValue3
 t4:=Tryz.underlying4
 a4:=Tryz.isAgg4
 z4:=Tryz.sizeOf4
 v4:=Tryz.zeroValue4
 t5:=Tryz.underlying5
 a5:=Tryz.isAgg5
 z5:=Tryz.sizeOf5
 v5:=Tryz.zeroValue5
 t9:=Tryz.underlying9
 a9:=Tryz.isAgg9
 z9:=Tryz.sizeOf9
 v9:=Tryz.zeroValue9
 t28:=Tryz.underlying27
 a28:=Tryz.isAgg27
 z28:=Tryz.sizeOf27
 v28:=Tryz.zeroValue27
 t46:=Tryz.underlying158
 a46:=Tryz.isAgg158
 z46:=Tryz.sizeOf158
 v46:=Tryz.zeroValue158
 t51:=Tryz.underlying171
 a51:=Tryz.isAgg171
 z51:=Tryz.sizeOf171
 v51:=Tryz.zeroValue171
 t53:=Tryz.underlying173
 a53:=Tryz.isAgg173
 z53:=Tryz.sizeOf173
 v53:=Tryz.zeroValue173
 t131:=Tryz.underlying168
 a131:=Tryz.isAgg168
 z131:=Tryz.sizeOf168
 v131:=Tryz.zeroValue168
 t182:=Tryz.underlying162
 a182:=Tryz.isAgg162
 z182:=Tryz.sizeOf162
 v182:=Tryz.zeroValue162
 t183:=Tryz.underlying163
 a183:=Tryz.isAgg163
 z183:=Tryz.sizeOf163
 v183:=Tryz.zeroValue163
 t218:=Tryz.underlying174
 a218:=Tryz.isAgg174
 z218:=Tryz.sizeOf174
 v218:=Tryz.zeroValue174
 t222:=Tryz.underlying178
 a222:=Tryz.isAgg178
 z222:=Tryz.sizeOf178
 v222:=Tryz.zeroValue178
 t228:=Tryz.underlying180
 a228:=Tryz.isAgg180
 z228:=Tryz.sizeOf180
 v228:=Tryz.zeroValue180
 t229:=Tryz.underlying181
 a229:=Tryz.isAgg181
 z229:=Tryz.sizeOf181
 v229:=Tryz.zeroValue181 }
open Go.Sort Go.RowKit in
theorem Tryz.slices_Sort_int (blk off cap:Nat) (zs:List Int) (w:World) (hH:Holds (Value.int .i64) w blk off zs.toArray) (hblk:blk<w.heap.size) (hsz:zs.length<4611686018427387904):
  Calls Tryz.prog 106 #[.slice (some ⟨blk,off,none⟩) zs.length cap] w fun e w'=>
   e=.returned (.tuple #[])∧∃ n os,w'=grow (putRow (Value.int .i64) (Sort.ahead w n) blk off (zs.mergeSort fun x y=>decide (x≤y)).toArray) os:=Any.slices_Sort_int Tryz.lays189 blk off cap zs w hH hblk hsz
open Go.RowKit Go.Sort in
theorem Tryz.slices_Sort_int_none (p:Option Addr) (cap:Nat) (w:World):
  Calls Tryz.prog 106 #[.slice p 0 cap] w fun e w'=>e=.returned (.tuple #[])∧w'=w:=Any.slices_Sort_int_none Tryz.lays189 p cap w
end Go.Proofs

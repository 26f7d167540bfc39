import Derived.Shelf.SlSortCmp.WholeK
import Derived.Shelf.SlSortCmp.NoneTotal
import Derived.Shelf.SortM.Plain
import Derived.Shelf.SortM.SortNone
import Derived.Shelf.Slices.CompactI
import Derived.Shelf.SlicesE.DeleteFunc
import Derived.Test.YtfkpgpibpnghiaaGreatProg
namespace Go.Proofs
open Go.RowKit Go.Lib Go.Sort Go.Shelf
def Tryz.sortFunc243_ren:Go.Shelf.Ren:=⟨fun | 6=>243 | 15=>260 | 14=>259 | 28=>278 | 29=>279 | 20=>270 | 21=>271 | 22=>272 | 23=>273 | 24=>274 | 25=>275 | 26=>276 | 27=>277 | 46=>289 | 47=>290 | 48=>291 | 49=>292 | 50=>293 | 57=>298 | n=>n,fun | 22=>352 | 24=>354 | 25=>357 | 3=>3 | 39=>366 | 0=>0 | 53=>381 | 55=>383 | 4=>4 | 46=>375 | 45=>374 | 50=>252 | 5=>5 | 9=>9 | 66=>390 | 70=>394 | 76=>398 | 77=>259 | n=>n,fun | n=>n⟩
theorem Tryz.sortFunc243:Go.Proofs.SlLaysF0.n6 Tryz.prog Tryz.sortFunc243_ren where
 mixed:=by kernel_rfl
 f6:=⟨"slices.SortFunc[[]billing/interval.change,billing/interval.change]",by decide,Tryz.func243.trans (congrArg some (by kernel_rfl))⟩
 f14:=⟨"slices.pdqsortCmpFunc[billing/interval.change]",by decide,Tryz.func259.trans (congrArg some (by kernel_rfl))⟩
 f15:=Tryz.func260.trans (congrArg some (by kernel_rfl))
 f20:=⟨"slices.insertionSortCmpFunc[billing/interval.change]",by decide,Tryz.func270.trans (congrArg some (by kernel_rfl))⟩
 f21:=⟨"slices.heapSortCmpFunc[billing/interval.change]",by decide,Tryz.func271.trans (congrArg some (by kernel_rfl))⟩
 f22:=⟨"slices.breakPatternsCmpFunc[billing/interval.change]",by decide,Tryz.func272.trans (congrArg some (by kernel_rfl))⟩
 f23:=⟨"slices.choosePivotCmpFunc[billing/interval.change]",by decide,Tryz.func273.trans (congrArg some (by kernel_rfl))⟩
 f24:=⟨"slices.reverseRangeCmpFunc[billing/interval.change]",by decide,Tryz.func274.trans (congrArg some (by kernel_rfl))⟩
 f25:=⟨"slices.partialInsertionSortCmpFunc[billing/interval.change]",by decide,Tryz.func275.trans (congrArg some (by kernel_rfl))⟩
 f26:=⟨"slices.partitionEqualCmpFunc[billing/interval.change]",by decide,Tryz.func276.trans (congrArg some (by kernel_rfl))⟩
 f27:=⟨"slices.partitionCmpFunc[billing/interval.change]",by decide,Tryz.func277.trans (congrArg some (by kernel_rfl))⟩
 f28:=Tryz.func278.trans (congrArg some (by kernel_rfl))
 f29:=Tryz.func279.trans (congrArg some (by kernel_rfl))
 f46:=⟨"slices.siftDownCmpFunc[billing/interval.change]",by decide,Tryz.func289.trans (congrArg some (by kernel_rfl))⟩
 f47:=Tryz.func290.trans (congrArg some (by kernel_rfl))
 f48:=Tryz.func291.trans (congrArg some (by kernel_rfl))
 f49:=⟨"slices.medianAdjacentCmpFunc[billing/interval.change]",by decide,Tryz.func292.trans (congrArg some (by kernel_rfl))⟩
 f50:=⟨"slices.medianCmpFunc[billing/interval.change]",by decide,Tryz.func293.trans (congrArg some (by kernel_rfl))⟩
 f57:=⟨"slices.order2CmpFunc[billing/interval.change]",by decide,Tryz.func298.trans (congrArg some (by kernel_rfl))⟩
 t0:=Tryz.underlying0
 a0:=Tryz.isAgg0
 z0:=Tryz.sizeOf0
 v0:=Tryz.zeroValue0
 t3:=Tryz.underlying3
 a3:=Tryz.isAgg3
 z3:=Tryz.sizeOf3
 v3:=Tryz.zeroValue3
 t4:=Tryz.underlying4
 a4:=Tryz.isAgg4
 z4:=Tryz.sizeOf4
 v4:=Tryz.zeroValue4
 t5:=Tryz.underlying5
 a5:=Tryz.isAgg5
 z5:=Tryz.sizeOf5
 v5:=Tryz.zeroValue5
 t9:=Tryz.underlying9
 a9:=Tryz.isAgg9
 z9:=Tryz.sizeOf9
 v9:=Tryz.zeroValue9
 t22:=Tryz.underlying352
 a22:=Tryz.isAgg352
 z22:=Tryz.sizeOf352
 v22:=Tryz.zeroValue352
 t25:=Tryz.underlying357
 a25:=Tryz.isAgg357
 z25:=Tryz.sizeOf357
 v25:=Tryz.zeroValue357
 t39:=Tryz.underlying366
 a39:=Tryz.isAgg366
 z39:=Tryz.sizeOf366
 v39:=Tryz.zeroValue366
 t45:=Tryz.underlying374
 a45:=Tryz.isAgg374
 z45:=Tryz.sizeOf374
 v45:=Tryz.zeroValue374
 t46:=Tryz.underlying375
 a46:=Tryz.isAgg375
 z46:=Tryz.sizeOf375
 v46:=Tryz.zeroValue375
 t50:=Tryz.underlying252
 a50:=Tryz.isAgg252
 z50:=Tryz.sizeOf252
 v50:=Tryz.zeroValue252
 t53:=Tryz.underlying381
 a53:=Tryz.isAgg381
 z53:=Tryz.sizeOf381
 v53:=Tryz.zeroValue381
 t55:=Tryz.underlying383
 a55:=Tryz.isAgg383
 z55:=Tryz.sizeOf383
 v55:=Tryz.zeroValue383
 t66:=Tryz.underlying390
 a66:=Tryz.isAgg390
 z66:=Tryz.sizeOf390
 v66:=Tryz.zeroValue390
 t70:=Tryz.underlying394
 a70:=Tryz.isAgg394
 z70:=Tryz.sizeOf394
 v70:=Tryz.zeroValue394
 t76:=Tryz.underlying398
 a76:=Tryz.isAgg398
 z76:=Tryz.sizeOf398
 v76:=Tryz.zeroValue398
 t77:=Tryz.underlying259
 a77:=Tryz.isAgg259
 z77:=Tryz.sizeOf259
 v77:=Tryz.zeroValue259
def Tryz.sortInts246_ren:Go.Shelf.Ren:=⟨fun | 5=>246 | 8=>260 | 7=>261 | 19=>278 | 20=>279 | 10=>280 | 11=>281 | 12=>282 | 13=>283 | 14=>284 | 15=>285 | 16=>286 | 17=>287 | 18=>288 | 30=>294 | 31=>290 | 32=>291 | 33=>295 | 34=>296 | 35=>297 | 40=>299 | n=>n,fun | 23=>26 | 25=>3 | 3=>3 | 32=>366 | 22=>26 | 0=>0 | 44=>381 | 46=>383 | 4=>4 | 36=>375 | 35=>374 | 41=>252 | 5=>5 | 9=>9 | 53=>390 | 57=>394 | 63=>398 | 64=>259 | n=>n,fun | n=>n⟩
theorem Tryz.sortInts246:Go.Proofs.SlLaysM.n5 Tryz.prog Tryz.sortInts246_ren where
 mixed:=by kernel_rfl
 f5:=⟨"slices.Sort[[]int,int]",by decide,Tryz.func246.trans (congrArg some (by kernel_rfl))⟩
 f7:=⟨"slices.pdqsortOrdered[int]",by decide,Tryz.func261.trans (congrArg some (by kernel_rfl))⟩
 f8:=Tryz.func260.trans (congrArg some (by kernel_rfl))
 f10:=⟨"slices.insertionSortOrdered[int]",by decide,Tryz.func280.trans (congrArg some (by kernel_rfl))⟩
 f11:=⟨"slices.heapSortOrdered[int]",by decide,Tryz.func281.trans (congrArg some (by kernel_rfl))⟩
 f12:=⟨"slices.breakPatternsOrdered[int]",by decide,Tryz.func282.trans (congrArg some (by kernel_rfl))⟩
 f13:=⟨"slices.choosePivotOrdered[int]",by decide,Tryz.func283.trans (congrArg some (by kernel_rfl))⟩
 f14:=⟨"slices.reverseRangeOrdered[int]",by decide,Tryz.func284.trans (congrArg some (by kernel_rfl))⟩
 f15:=⟨"slices.partialInsertionSortOrdered[int]",by decide,Tryz.func285.trans (congrArg some (by kernel_rfl))⟩
 f16:=⟨"cmp.Less[int]",by decide,Tryz.func286.trans (congrArg some (by kernel_rfl))⟩
 f17:=⟨"slices.partitionEqualOrdered[int]",by decide,Tryz.func287.trans (congrArg some (by kernel_rfl))⟩
 f18:=⟨"slices.partitionOrdered[int]",by decide,Tryz.func288.trans (congrArg some (by kernel_rfl))⟩
 f19:=Tryz.func278.trans (congrArg some (by kernel_rfl))
 f20:=Tryz.func279.trans (congrArg some (by kernel_rfl))
 f30:=⟨"slices.siftDownOrdered[int]",by decide,Tryz.func294.trans (congrArg some (by kernel_rfl))⟩
 f31:=Tryz.func290.trans (congrArg some (by kernel_rfl))
 f32:=Tryz.func291.trans (congrArg some (by kernel_rfl))
 f33:=⟨"slices.medianAdjacentOrdered[int]",by decide,Tryz.func295.trans (congrArg some (by kernel_rfl))⟩
 f34:=⟨"slices.medianOrdered[int]",by decide,Tryz.func296.trans (congrArg some (by kernel_rfl))⟩
 f35:=⟨"cmp.isNaN[int]",by decide,Tryz.func297.trans (congrArg some (by kernel_rfl))⟩
 f40:=⟨"slices.order2Ordered[int]",by decide,Tryz.func299.trans (congrArg some (by kernel_rfl))⟩
 t0:=Tryz.underlying0
 a0:=Tryz.isAgg0
 z0:=Tryz.sizeOf0
 v0:=Tryz.zeroValue0
 t3:=Tryz.underlying3
 a3:=Tryz.isAgg3
 z3:=Tryz.sizeOf3
 v3:=Tryz.zeroValue3
 t4:=Tryz.underlying4
 a4:=Tryz.isAgg4
 z4:=Tryz.sizeOf4
 v4:=Tryz.zeroValue4
 t5:=Tryz.underlying5
 a5:=Tryz.isAgg5
 z5:=Tryz.sizeOf5
 v5:=Tryz.zeroValue5
 t9:=Tryz.underlying9
 a9:=Tryz.isAgg9
 z9:=Tryz.sizeOf9
 v9:=Tryz.zeroValue9
 t22:=Tryz.underlying26
 a22:=Tryz.isAgg26
 z22:=Tryz.sizeOf26
 v22:=Tryz.zeroValue26
 t23:=Tryz.underlying26
 a23:=Tryz.isAgg26
 z23:=Tryz.sizeOf26
 v23:=Tryz.zeroValue26
 t25:=Tryz.underlying3
 a25:=Tryz.isAgg3
 z25:=Tryz.sizeOf3
 v25:=Tryz.zeroValue3
 t32:=Tryz.underlying366
 a32:=Tryz.isAgg366
 z32:=Tryz.sizeOf366
 v32:=Tryz.zeroValue366
 t35:=Tryz.underlying374
 a35:=Tryz.isAgg374
 z35:=Tryz.sizeOf374
 v35:=Tryz.zeroValue374
 t36:=Tryz.underlying375
 a36:=Tryz.isAgg375
 z36:=Tryz.sizeOf375
 v36:=Tryz.zeroValue375
 t41:=Tryz.underlying252
 a41:=Tryz.isAgg252
 z41:=Tryz.sizeOf252
 v41:=Tryz.zeroValue252
 t44:=Tryz.underlying381
 a44:=Tryz.isAgg381
 z44:=Tryz.sizeOf381
 v44:=Tryz.zeroValue381
 t46:=Tryz.underlying383
 a46:=Tryz.isAgg383
 z46:=Tryz.sizeOf383
 v46:=Tryz.zeroValue383
 t53:=Tryz.underlying390
 a53:=Tryz.isAgg390
 z53:=Tryz.sizeOf390
 v53:=Tryz.zeroValue390
 t57:=Tryz.underlying394
 a57:=Tryz.isAgg394
 z57:=Tryz.sizeOf394
 v57:=Tryz.zeroValue394
 t63:=Tryz.underlying398
 a63:=Tryz.isAgg398
 z63:=Tryz.sizeOf398
 v63:=Tryz.zeroValue398
 t64:=Tryz.underlying259
 a64:=Tryz.isAgg259
 z64:=Tryz.sizeOf259
 v64:=Tryz.zeroValue259
def Tryz.compactInts247_ren:Go.Shelf.Ren:=⟨fun | 20=>247 | n=>n,fun | 22=>26 | 3=>3 | 4=>4 | 0=>0 | n=>n,fun | n=>n⟩
theorem Tryz.compactInts247:Go.Proofs.Lays2.n20 Tryz.prog Tryz.compactInts247_ren where
 mixed:=by kernel_rfl
 f20:=Tryz.func247.trans (congrArg some (by kernel_rfl))
 t0:=Tryz.underlying0
 a0:=Tryz.isAgg0
 z0:=Tryz.sizeOf0
 v0:=Tryz.zeroValue0
 t3:=Tryz.underlying3
 a3:=Tryz.isAgg3
 z3:=Tryz.sizeOf3
 v3:=Tryz.zeroValue3
 t4:=Tryz.underlying4
 a4:=Tryz.isAgg4
 z4:=Tryz.sizeOf4
 v4:=Tryz.zeroValue4
 t22:=Tryz.underlying26
 a22:=Tryz.isAgg26
 z22:=Tryz.sizeOf26
 v22:=Tryz.zeroValue26
 i3:=by kernel_rfl
def Tryz.deleteFunc248_ren:Go.Shelf.Ren:=⟨fun | 10=>248 | 6=>262 | n=>n,fun | 22=>26 | 23=>3 | 25=>64 | 3=>3 | 4=>4 | 0=>0 | n=>n,fun | n=>n⟩
theorem Tryz.deleteFunc248:Go.Proofs.SlLaysH.n10 Tryz.prog Tryz.deleteFunc248_ren where
 mixed:=by kernel_rfl
 f6:=⟨"slices.IndexFunc[[]int,int]",by decide,Tryz.func262.trans (congrArg some (by kernel_rfl))⟩
 f10:=⟨"slices.DeleteFunc[[]int,int]",by decide,Tryz.func248.trans (congrArg some (by kernel_rfl))⟩
 t0:=Tryz.underlying0
 a0:=Tryz.isAgg0
 z0:=Tryz.sizeOf0
 v0:=Tryz.zeroValue0
 t3:=Tryz.underlying3
 a3:=Tryz.isAgg3
 z3:=Tryz.sizeOf3
 v3:=Tryz.zeroValue3
 t4:=Tryz.underlying4
 a4:=Tryz.isAgg4
 z4:=Tryz.sizeOf4
 v4:=Tryz.zeroValue4
 t22:=Tryz.underlying26
 a22:=Tryz.isAgg26
 z22:=Tryz.sizeOf26
 v22:=Tryz.zeroValue26
 a23:=Tryz.isAgg3
 z23:=Tryz.sizeOf3
 t25:=Tryz.underlying64
 a25:=Tryz.isAgg64
 z25:=Tryz.sizeOf64
 v25:=Tryz.zeroValue64
set_option maxHeartbeats 1000000 in
theorem Tryz.clo244(x y:Int×Int×Int)(W:World):Calls Tryz.prog 244 #[.agg #[.int .i64 x.1,.int .i64 x.2.1,.int .i64 x.2.2],.agg #[.int .i64 y.1,.int .i64 y.2.1,.int .i64 y.2.2]] W fun e w'=>e=.returned (.int .i64 (IntKind.wrap .i64 (x.1 - y.1)))∧∃q os',w'=grow (W.drewN q) os':=by
 go_enter Tryz.func244,Tryz.ntmps244
 go_wp2
 go_ret
 exact⟨by rw[IntWalk.i64_left]; rfl,0,_,by rw[alloc_eq_grow,alloc_eq_grow,grow_grow]; rfl⟩
set_option maxHeartbeats 1000000 in
theorem Tryz.clo249(x:Int)(W:World):Calls Tryz.prog 249 #[.int .i64 x] W fun e w'=>e=.returned (.bool (decide (x≥1440)))∧∃q,w'=W.drewN q:=by
 go_enter Tryz.func249,Tryz.ntmps249
 go_wp2
 go_ret
 exact⟨rfl,0,rfl⟩
end Go.Proofs

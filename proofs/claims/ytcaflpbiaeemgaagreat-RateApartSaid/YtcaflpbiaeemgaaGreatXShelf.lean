import Derived.Shelf.SlSortCmp.WholeK
import Derived.Shelf.SlSortCmp.NoneTotal
import Derived.Shelf.SortM.Plain
import Derived.Shelf.SortM.SortNone
import Derived.Shelf.Slices.CompactI
import Derived.Shelf.SlicesE.DeleteFunc
import Derived.Test.YtcaflpbiaeemgaaGreatProg
namespace Go.Proofs
open Go.RowKit Go.Lib Go.Sort Go.Shelf
def Tryz.sortFunc333_ren:Go.Shelf.Ren:=⟨fun | 6=>333 | 15=>355 | 14=>354 | 28=>379 | 29=>380 | 20=>371 | 21=>372 | 22=>373 | 23=>374 | 24=>375 | 25=>376 | 26=>377 | 27=>378 | 46=>392 | 47=>393 | 48=>394 | 49=>395 | 50=>396 | 57=>401 | n=>n,fun | 22=>375 | 24=>377 | 25=>380 | 3=>3 | 39=>391 | 0=>0 | 53=>409 | 55=>411 | 4=>4 | 46=>403 | 45=>402 | 50=>229 | 5=>5 | 9=>9 | 66=>417 | 70=>421 | 76=>425 | 77=>120 | n=>n,fun | n=>n⟩
theorem Tryz.sortFunc333:Go.Proofs.SlLaysF0.n6 Tryz.prog Tryz.sortFunc333_ren where
 mixed:=by kernel_rfl
 f6:=⟨"slices.SortFunc[[]billing/interval.change,billing/interval.change]",by decide,Tryz.func333.trans (congrArg some (by kernel_rfl))⟩
 f14:=⟨"slices.pdqsortCmpFunc[billing/interval.change]",by decide,Tryz.func354.trans (congrArg some (by kernel_rfl))⟩
 f15:=Tryz.func355.trans (congrArg some (by kernel_rfl))
 f20:=⟨"slices.insertionSortCmpFunc[billing/interval.change]",by decide,Tryz.func371.trans (congrArg some (by kernel_rfl))⟩
 f21:=⟨"slices.heapSortCmpFunc[billing/interval.change]",by decide,Tryz.func372.trans (congrArg some (by kernel_rfl))⟩
 f22:=⟨"slices.breakPatternsCmpFunc[billing/interval.change]",by decide,Tryz.func373.trans (congrArg some (by kernel_rfl))⟩
 f23:=⟨"slices.choosePivotCmpFunc[billing/interval.change]",by decide,Tryz.func374.trans (congrArg some (by kernel_rfl))⟩
 f24:=⟨"slices.reverseRangeCmpFunc[billing/interval.change]",by decide,Tryz.func375.trans (congrArg some (by kernel_rfl))⟩
 f25:=⟨"slices.partialInsertionSortCmpFunc[billing/interval.change]",by decide,Tryz.func376.trans (congrArg some (by kernel_rfl))⟩
 f26:=⟨"slices.partitionEqualCmpFunc[billing/interval.change]",by decide,Tryz.func377.trans (congrArg some (by kernel_rfl))⟩
 f27:=⟨"slices.partitionCmpFunc[billing/interval.change]",by decide,Tryz.func378.trans (congrArg some (by kernel_rfl))⟩
 f28:=Tryz.func379.trans (congrArg some (by kernel_rfl))
 f29:=Tryz.func380.trans (congrArg some (by kernel_rfl))
 f46:=⟨"slices.siftDownCmpFunc[billing/interval.change]",by decide,Tryz.func392.trans (congrArg some (by kernel_rfl))⟩
 f47:=Tryz.func393.trans (congrArg some (by kernel_rfl))
 f48:=Tryz.func394.trans (congrArg some (by kernel_rfl))
 f49:=⟨"slices.medianAdjacentCmpFunc[billing/interval.change]",by decide,Tryz.func395.trans (congrArg some (by kernel_rfl))⟩
 f50:=⟨"slices.medianCmpFunc[billing/interval.change]",by decide,Tryz.func396.trans (congrArg some (by kernel_rfl))⟩
 f57:=⟨"slices.order2CmpFunc[billing/interval.change]",by decide,Tryz.func401.trans (congrArg some (by kernel_rfl))⟩
 t0:=Tryz.underlying0
 a0:=Tryz.isAgg0
 z0:=Tryz.sizeOf0
 v0:=Tryz.zeroValue0
 t3:=Tryz.underlying3
 a3:=Tryz.isAgg3
 z3:=Tryz.sizeOf3
 v3:=Tryz.zeroValue3
 t4:=Tryz.underlying4
 a4:=Tryz.isAgg4
 z4:=Tryz.sizeOf4
 v4:=Tryz.zeroValue4
 t5:=Tryz.underlying5
 a5:=Tryz.isAgg5
 z5:=Tryz.sizeOf5
 v5:=Tryz.zeroValue5
 t9:=Tryz.underlying9
 a9:=Tryz.isAgg9
 z9:=Tryz.sizeOf9
 v9:=Tryz.zeroValue9
 t22:=Tryz.underlying375
 a22:=Tryz.isAgg375
 z22:=Tryz.sizeOf375
 v22:=Tryz.zeroValue375
 t25:=Tryz.underlying380
 a25:=Tryz.isAgg380
 z25:=Tryz.sizeOf380
 v25:=Tryz.zeroValue380
 t39:=Tryz.underlying391
 a39:=Tryz.isAgg391
 z39:=Tryz.sizeOf391
 v39:=Tryz.zeroValue391
 t45:=Tryz.underlying402
 a45:=Tryz.isAgg402
 z45:=Tryz.sizeOf402
 v45:=Tryz.zeroValue402
 t46:=Tryz.underlying403
 a46:=Tryz.isAgg403
 z46:=Tryz.sizeOf403
 v46:=Tryz.zeroValue403
 t50:=Tryz.underlying229
 a50:=Tryz.isAgg229
 z50:=Tryz.sizeOf229
 v50:=Tryz.zeroValue229
 t53:=Tryz.underlying409
 a53:=Tryz.isAgg409
 z53:=Tryz.sizeOf409
 v53:=Tryz.zeroValue409
 t55:=Tryz.underlying411
 a55:=Tryz.isAgg411
 z55:=Tryz.sizeOf411
 v55:=Tryz.zeroValue411
 t66:=Tryz.underlying417
 a66:=Tryz.isAgg417
 z66:=Tryz.sizeOf417
 v66:=Tryz.zeroValue417
 t70:=Tryz.underlying421
 a70:=Tryz.isAgg421
 z70:=Tryz.sizeOf421
 v70:=Tryz.zeroValue421
 t76:=Tryz.underlying425
 a76:=Tryz.isAgg425
 z76:=Tryz.sizeOf425
 v76:=Tryz.zeroValue425
 t77:=Tryz.underlying120
 a77:=Tryz.isAgg120
 z77:=Tryz.sizeOf120
 v77:=Tryz.zeroValue120
def Tryz.sortInts336_ren:Go.Shelf.Ren:=⟨fun | 5=>336 | 8=>355 | 7=>356 | 19=>379 | 20=>380 | 10=>381 | 11=>382 | 12=>383 | 13=>384 | 14=>385 | 15=>386 | 16=>387 | 17=>388 | 18=>389 | 30=>397 | 31=>393 | 32=>394 | 33=>398 | 34=>399 | 35=>400 | 40=>402 | n=>n,fun | 23=>26 | 25=>3 | 3=>3 | 32=>391 | 22=>26 | 0=>0 | 44=>409 | 46=>411 | 4=>4 | 36=>403 | 35=>402 | 41=>229 | 5=>5 | 9=>9 | 53=>417 | 57=>421 | 63=>425 | 64=>120 | n=>n,fun | n=>n⟩
theorem Tryz.sortInts336:Go.Proofs.SlLaysM.n5 Tryz.prog Tryz.sortInts336_ren where
 mixed:=by kernel_rfl
 f5:=⟨"slices.Sort[[]int,int]",by decide,Tryz.func336.trans (congrArg some (by kernel_rfl))⟩
 f7:=⟨"slices.pdqsortOrdered[int]",by decide,Tryz.func356.trans (congrArg some (by kernel_rfl))⟩
 f8:=Tryz.func355.trans (congrArg some (by kernel_rfl))
 f10:=⟨"slices.insertionSortOrdered[int]",by decide,Tryz.func381.trans (congrArg some (by kernel_rfl))⟩
 f11:=⟨"slices.heapSortOrdered[int]",by decide,Tryz.func382.trans (congrArg some (by kernel_rfl))⟩
 f12:=⟨"slices.breakPatternsOrdered[int]",by decide,Tryz.func383.trans (congrArg some (by kernel_rfl))⟩
 f13:=⟨"slices.choosePivotOrdered[int]",by decide,Tryz.func384.trans (congrArg some (by kernel_rfl))⟩
 f14:=⟨"slices.reverseRangeOrdered[int]",by decide,Tryz.func385.trans (congrArg some (by kernel_rfl))⟩
 f15:=⟨"slices.partialInsertionSortOrdered[int]",by decide,Tryz.func386.trans (congrArg some (by kernel_rfl))⟩
 f16:=⟨"cmp.Less[int]",by decide,Tryz.func387.trans (congrArg some (by kernel_rfl))⟩
 f17:=⟨"slices.partitionEqualOrdered[int]",by decide,Tryz.func388.trans (congrArg some (by kernel_rfl))⟩
 f18:=⟨"slices.partitionOrdered[int]",by decide,Tryz.func389.trans (congrArg some (by kernel_rfl))⟩
 f19:=Tryz.func379.trans (congrArg some (by kernel_rfl))
 f20:=Tryz.func380.trans (congrArg some (by kernel_rfl))
 f30:=⟨"slices.siftDownOrdered[int]",by decide,Tryz.func397.trans (congrArg some (by kernel_rfl))⟩
 f31:=Tryz.func393.trans (congrArg some (by kernel_rfl))
 f32:=Tryz.func394.trans (congrArg some (by kernel_rfl))
 f33:=⟨"slices.medianAdjacentOrdered[int]",by decide,Tryz.func398.trans (congrArg some (by kernel_rfl))⟩
 f34:=⟨"slices.medianOrdered[int]",by decide,Tryz.func399.trans (congrArg some (by kernel_rfl))⟩
 f35:=⟨"cmp.isNaN[int]",by decide,Tryz.func400.trans (congrArg some (by kernel_rfl))⟩
 f40:=⟨"slices.order2Ordered[int]",by decide,Tryz.func402.trans (congrArg some (by kernel_rfl))⟩
 t0:=Tryz.underlying0
 a0:=Tryz.isAgg0
 z0:=Tryz.sizeOf0
 v0:=Tryz.zeroValue0
 t3:=Tryz.underlying3
 a3:=Tryz.isAgg3
 z3:=Tryz.sizeOf3
 v3:=Tryz.zeroValue3
 t4:=Tryz.underlying4
 a4:=Tryz.isAgg4
 z4:=Tryz.sizeOf4
 v4:=Tryz.zeroValue4
 t5:=Tryz.underlying5
 a5:=Tryz.isAgg5
 z5:=Tryz.sizeOf5
 v5:=Tryz.zeroValue5
 t9:=Tryz.underlying9
 a9:=Tryz.isAgg9
 z9:=Tryz.sizeOf9
 v9:=Tryz.zeroValue9
 t22:=Tryz.underlying26
 a22:=Tryz.isAgg26
 z22:=Tryz.sizeOf26
 v22:=Tryz.zeroValue26
 t23:=Tryz.underlying26
 a23:=Tryz.isAgg26
 z23:=Tryz.sizeOf26
 v23:=Tryz.zeroValue26
 t25:=Tryz.underlying3
 a25:=Tryz.isAgg3
 z25:=Tryz.sizeOf3
 v25:=Tryz.zeroValue3
 t32:=Tryz.underlying391
 a32:=Tryz.isAgg391
 z32:=Tryz.sizeOf391
 v32:=Tryz.zeroValue391
 t35:=Tryz.underlying402
 a35:=Tryz.isAgg402
 z35:=Tryz.sizeOf402
 v35:=Tryz.zeroValue402
 t36:=Tryz.underlying403
 a36:=Tryz.isAgg403
 z36:=Tryz.sizeOf403
 v36:=Tryz.zeroValue403
 t41:=Tryz.underlying229
 a41:=Tryz.isAgg229
 z41:=Tryz.sizeOf229
 v41:=Tryz.zeroValue229
 t44:=Tryz.underlying409
 a44:=Tryz.isAgg409
 z44:=Tryz.sizeOf409
 v44:=Tryz.zeroValue409
 t46:=Tryz.underlying411
 a46:=Tryz.isAgg411
 z46:=Tryz.sizeOf411
 v46:=Tryz.zeroValue411
 t53:=Tryz.underlying417
 a53:=Tryz.isAgg417
 z53:=Tryz.sizeOf417
 v53:=Tryz.zeroValue417
 t57:=Tryz.underlying421
 a57:=Tryz.isAgg421
 z57:=Tryz.sizeOf421
 v57:=Tryz.zeroValue421
 t63:=Tryz.underlying425
 a63:=Tryz.isAgg425
 z63:=Tryz.sizeOf425
 v63:=Tryz.zeroValue425
 t64:=Tryz.underlying120
 a64:=Tryz.isAgg120
 z64:=Tryz.sizeOf120
 v64:=Tryz.zeroValue120
def Tryz.compactInts337_ren:Go.Shelf.Ren:=⟨fun | 20=>337 | n=>n,fun | 22=>26 | 3=>3 | 4=>4 | 0=>0 | n=>n,fun | n=>n⟩
theorem Tryz.compactInts337:Go.Proofs.Lays2.n20 Tryz.prog Tryz.compactInts337_ren where
 mixed:=by kernel_rfl
 f20:=Tryz.func337.trans (congrArg some (by kernel_rfl))
 t0:=Tryz.underlying0
 a0:=Tryz.isAgg0
 z0:=Tryz.sizeOf0
 v0:=Tryz.zeroValue0
 t3:=Tryz.underlying3
 a3:=Tryz.isAgg3
 z3:=Tryz.sizeOf3
 v3:=Tryz.zeroValue3
 t4:=Tryz.underlying4
 a4:=Tryz.isAgg4
 z4:=Tryz.sizeOf4
 v4:=Tryz.zeroValue4
 t22:=Tryz.underlying26
 a22:=Tryz.isAgg26
 z22:=Tryz.sizeOf26
 v22:=Tryz.zeroValue26
 i3:=by kernel_rfl
def Tryz.deleteFunc338_ren:Go.Shelf.Ren:=⟨fun | 10=>338 | 6=>357 | n=>n,fun | 22=>26 | 23=>3 | 25=>57 | 3=>3 | 4=>4 | 0=>0 | n=>n,fun | n=>n⟩
theorem Tryz.deleteFunc338:Go.Proofs.SlLaysH.n10 Tryz.prog Tryz.deleteFunc338_ren where
 mixed:=by kernel_rfl
 f6:=⟨"slices.IndexFunc[[]int,int]",by decide,Tryz.func357.trans (congrArg some (by kernel_rfl))⟩
 f10:=⟨"slices.DeleteFunc[[]int,int]",by decide,Tryz.func338.trans (congrArg some (by kernel_rfl))⟩
 t0:=Tryz.underlying0
 a0:=Tryz.isAgg0
 z0:=Tryz.sizeOf0
 v0:=Tryz.zeroValue0
 t3:=Tryz.underlying3
 a3:=Tryz.isAgg3
 z3:=Tryz.sizeOf3
 v3:=Tryz.zeroValue3
 t4:=Tryz.underlying4
 a4:=Tryz.isAgg4
 z4:=Tryz.sizeOf4
 v4:=Tryz.zeroValue4
 t22:=Tryz.underlying26
 a22:=Tryz.isAgg26
 z22:=Tryz.sizeOf26
 v22:=Tryz.zeroValue26
 a23:=Tryz.isAgg3
 z23:=Tryz.sizeOf3
 t25:=Tryz.underlying57
 a25:=Tryz.isAgg57
 z25:=Tryz.sizeOf57
 v25:=Tryz.zeroValue57
set_option maxHeartbeats 1000000 in
theorem Tryz.clo334(x y:Int×Int×Int)(W:World):Calls Tryz.prog 334 #[.agg #[.int .i64 x.1,.int .i64 x.2.1,.int .i64 x.2.2],.agg #[.int .i64 y.1,.int .i64 y.2.1,.int .i64 y.2.2]] W fun e w'=>e=.returned (.int .i64 (IntKind.wrap .i64 (x.1 - y.1)))∧∃q os',w'=grow (W.drewN q) os':=by
 go_enter Tryz.func334,Tryz.ntmps334
 go_wp2
 go_ret
 exact⟨by rw[IntWalk.i64_left]; rfl,0,_,by rw[alloc_eq_grow,alloc_eq_grow,grow_grow]; rfl⟩
set_option maxHeartbeats 1000000 in
theorem Tryz.clo339(x:Int)(W:World):Calls Tryz.prog 339 #[.int .i64 x] W fun e w'=>e=.returned (.bool (decide (x≥1440)))∧∃q,w'=W.drewN q:=by
 go_enter Tryz.func339,Tryz.ntmps339
 go_wp2
 go_ret
 exact⟨rfl,0,rfl⟩
end Go.Proofs

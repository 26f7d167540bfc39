import Derived.Shelf.SlSortCmp.WholeK
import Derived.Shelf.SlSortCmp.NoneTotal
import Derived.Shelf.SortM.Plain
import Derived.Shelf.SortM.SortNone
import Derived.Shelf.Slices.CompactI
import Derived.Shelf.SlicesE.DeleteFunc
import Derived.Test.YtjjpjagokgfbdaaGreatProg
namespace Go.Proofs
open Go.RowKit Go.Lib Go.Sort Go.Shelf
def Tryz.sortFunc377_ren:Go.Shelf.Ren:=⟨fun | 6=>377 | 15=>399 | 14=>398 | 28=>423 | 29=>424 | 20=>415 | 21=>416 | 22=>417 | 23=>418 | 24=>419 | 25=>420 | 26=>421 | 27=>422 | 46=>436 | 47=>437 | 48=>438 | 49=>439 | 50=>440 | 57=>445 | n=>n,fun | 22=>413 | 24=>415 | 25=>418 | 3=>3 | 39=>429 | 0=>0 | 53=>447 | 55=>449 | 4=>4 | 46=>441 | 45=>440 | 50=>266 | 5=>5 | 9=>9 | 66=>455 | 70=>459 | 76=>463 | 77=>76 | n=>n,fun | n=>n⟩
theorem Tryz.sortFunc377:Go.Proofs.SlLaysF0.n6 Tryz.prog Tryz.sortFunc377_ren where
 mixed:=by kernel_rfl
 f6:=⟨"slices.SortFunc[[]billing/interval.change,billing/interval.change]",by decide,Tryz.func377.trans (congrArg some (by kernel_rfl))⟩
 f14:=⟨"slices.pdqsortCmpFunc[billing/interval.change]",by decide,Tryz.func398.trans (congrArg some (by kernel_rfl))⟩
 f15:=Tryz.func399.trans (congrArg some (by kernel_rfl))
 f20:=⟨"slices.insertionSortCmpFunc[billing/interval.change]",by decide,Tryz.func415.trans (congrArg some (by kernel_rfl))⟩
 f21:=⟨"slices.heapSortCmpFunc[billing/interval.change]",by decide,Tryz.func416.trans (congrArg some (by kernel_rfl))⟩
 f22:=⟨"slices.breakPatternsCmpFunc[billing/interval.change]",by decide,Tryz.func417.trans (congrArg some (by kernel_rfl))⟩
 f23:=⟨"slices.choosePivotCmpFunc[billing/interval.change]",by decide,Tryz.func418.trans (congrArg some (by kernel_rfl))⟩
 f24:=⟨"slices.reverseRangeCmpFunc[billing/interval.change]",by decide,Tryz.func419.trans (congrArg some (by kernel_rfl))⟩
 f25:=⟨"slices.partialInsertionSortCmpFunc[billing/interval.change]",by decide,Tryz.func420.trans (congrArg some (by kernel_rfl))⟩
 f26:=⟨"slices.partitionEqualCmpFunc[billing/interval.change]",by decide,Tryz.func421.trans (congrArg some (by kernel_rfl))⟩
 f27:=⟨"slices.partitionCmpFunc[billing/interval.change]",by decide,Tryz.func422.trans (congrArg some (by kernel_rfl))⟩
 f28:=Tryz.func423.trans (congrArg some (by kernel_rfl))
 f29:=Tryz.func424.trans (congrArg some (by kernel_rfl))
 f46:=⟨"slices.siftDownCmpFunc[billing/interval.change]",by decide,Tryz.func436.trans (congrArg some (by kernel_rfl))⟩
 f47:=Tryz.func437.trans (congrArg some (by kernel_rfl))
 f48:=Tryz.func438.trans (congrArg some (by kernel_rfl))
 f49:=⟨"slices.medianAdjacentCmpFunc[billing/interval.change]",by decide,Tryz.func439.trans (congrArg some (by kernel_rfl))⟩
 f50:=⟨"slices.medianCmpFunc[billing/interval.change]",by decide,Tryz.func440.trans (congrArg some (by kernel_rfl))⟩
 f57:=⟨"slices.order2CmpFunc[billing/interval.change]",by decide,Tryz.func445.trans (congrArg some (by kernel_rfl))⟩
 t0:=Tryz.underlying0
 a0:=Tryz.isAgg0
 z0:=Tryz.sizeOf0
 v0:=Tryz.zeroValue0
 t3:=Tryz.underlying3
 a3:=Tryz.isAgg3
 z3:=Tryz.sizeOf3
 v3:=Tryz.zeroValue3
 t4:=Tryz.underlying4
 a4:=Tryz.isAgg4
 z4:=Tryz.sizeOf4
 v4:=Tryz.zeroValue4
 t5:=Tryz.underlying5
 a5:=Tryz.isAgg5
 z5:=Tryz.sizeOf5
 v5:=Tryz.zeroValue5
 t9:=Tryz.underlying9
 a9:=Tryz.isAgg9
 z9:=Tryz.sizeOf9
 v9:=Tryz.zeroValue9
 t22:=Tryz.underlying413
 a22:=Tryz.isAgg413
 z22:=Tryz.sizeOf413
 v22:=Tryz.zeroValue413
 t25:=Tryz.underlying418
 a25:=Tryz.isAgg418
 z25:=Tryz.sizeOf418
 v25:=Tryz.zeroValue418
 t39:=Tryz.underlying429
 a39:=Tryz.isAgg429
 z39:=Tryz.sizeOf429
 v39:=Tryz.zeroValue429
 t45:=Tryz.underlying440
 a45:=Tryz.isAgg440
 z45:=Tryz.sizeOf440
 v45:=Tryz.zeroValue440
 t46:=Tryz.underlying441
 a46:=Tryz.isAgg441
 z46:=Tryz.sizeOf441
 v46:=Tryz.zeroValue441
 t50:=Tryz.underlying266
 a50:=Tryz.isAgg266
 z50:=Tryz.sizeOf266
 v50:=Tryz.zeroValue266
 t53:=Tryz.underlying447
 a53:=Tryz.isAgg447
 z53:=Tryz.sizeOf447
 v53:=Tryz.zeroValue447
 t55:=Tryz.underlying449
 a55:=Tryz.isAgg449
 z55:=Tryz.sizeOf449
 v55:=Tryz.zeroValue449
 t66:=Tryz.underlying455
 a66:=Tryz.isAgg455
 z66:=Tryz.sizeOf455
 v66:=Tryz.zeroValue455
 t70:=Tryz.underlying459
 a70:=Tryz.isAgg459
 z70:=Tryz.sizeOf459
 v70:=Tryz.zeroValue459
 t76:=Tryz.underlying463
 a76:=Tryz.isAgg463
 z76:=Tryz.sizeOf463
 v76:=Tryz.zeroValue463
 t77:=Tryz.underlying76
 a77:=Tryz.isAgg76
 z77:=Tryz.sizeOf76
 v77:=Tryz.zeroValue76
def Tryz.sortInts380_ren:Go.Shelf.Ren:=⟨fun | 5=>380 | 8=>399 | 7=>400 | 19=>423 | 20=>424 | 10=>425 | 11=>426 | 12=>427 | 13=>428 | 14=>429 | 15=>430 | 16=>431 | 17=>432 | 18=>433 | 30=>441 | 31=>437 | 32=>438 | 33=>442 | 34=>443 | 35=>444 | 40=>446 | n=>n,fun | 23=>26 | 25=>3 | 3=>3 | 32=>429 | 22=>26 | 0=>0 | 44=>447 | 46=>449 | 4=>4 | 36=>441 | 35=>440 | 41=>266 | 5=>5 | 9=>9 | 53=>455 | 57=>459 | 63=>463 | 64=>76 | n=>n,fun | n=>n⟩
theorem Tryz.sortInts380:Go.Proofs.SlLaysM.n5 Tryz.prog Tryz.sortInts380_ren where
 mixed:=by kernel_rfl
 f5:=⟨"slices.Sort[[]int,int]",by decide,Tryz.func380.trans (congrArg some (by kernel_rfl))⟩
 f7:=⟨"slices.pdqsortOrdered[int]",by decide,Tryz.func400.trans (congrArg some (by kernel_rfl))⟩
 f8:=Tryz.func399.trans (congrArg some (by kernel_rfl))
 f10:=⟨"slices.insertionSortOrdered[int]",by decide,Tryz.func425.trans (congrArg some (by kernel_rfl))⟩
 f11:=⟨"slices.heapSortOrdered[int]",by decide,Tryz.func426.trans (congrArg some (by kernel_rfl))⟩
 f12:=⟨"slices.breakPatternsOrdered[int]",by decide,Tryz.func427.trans (congrArg some (by kernel_rfl))⟩
 f13:=⟨"slices.choosePivotOrdered[int]",by decide,Tryz.func428.trans (congrArg some (by kernel_rfl))⟩
 f14:=⟨"slices.reverseRangeOrdered[int]",by decide,Tryz.func429.trans (congrArg some (by kernel_rfl))⟩
 f15:=⟨"slices.partialInsertionSortOrdered[int]",by decide,Tryz.func430.trans (congrArg some (by kernel_rfl))⟩
 f16:=⟨"cmp.Less[int]",by decide,Tryz.func431.trans (congrArg some (by kernel_rfl))⟩
 f17:=⟨"slices.partitionEqualOrdered[int]",by decide,Tryz.func432.trans (congrArg some (by kernel_rfl))⟩
 f18:=⟨"slices.partitionOrdered[int]",by decide,Tryz.func433.trans (congrArg some (by kernel_rfl))⟩
 f19:=Tryz.func423.trans (congrArg some (by kernel_rfl))
 f20:=Tryz.func424.trans (congrArg some (by kernel_rfl))
 f30:=⟨"slices.siftDownOrdered[int]",by decide,Tryz.func441.trans (congrArg some (by kernel_rfl))⟩
 f31:=Tryz.func437.trans (congrArg some (by kernel_rfl))
 f32:=Tryz.func438.trans (congrArg some (by kernel_rfl))
 f33:=⟨"slices.medianAdjacentOrdered[int]",by decide,Tryz.func442.trans (congrArg some (by kernel_rfl))⟩
 f34:=⟨"slices.medianOrdered[int]",by decide,Tryz.func443.trans (congrArg some (by kernel_rfl))⟩
 f35:=⟨"cmp.isNaN[int]",by decide,Tryz.func444.trans (congrArg some (by kernel_rfl))⟩
 f40:=⟨"slices.order2Ordered[int]",by decide,Tryz.func446.trans (congrArg some (by kernel_rfl))⟩
 t0:=Tryz.underlying0
 a0:=Tryz.isAgg0
 z0:=Tryz.sizeOf0
 v0:=Tryz.zeroValue0
 t3:=Tryz.underlying3
 a3:=Tryz.isAgg3
 z3:=Tryz.sizeOf3
 v3:=Tryz.zeroValue3
 t4:=Tryz.underlying4
 a4:=Tryz.isAgg4
 z4:=Tryz.sizeOf4
 v4:=Tryz.zeroValue4
 t5:=Tryz.underlying5
 a5:=Tryz.isAgg5
 z5:=Tryz.sizeOf5
 v5:=Tryz.zeroValue5
 t9:=Tryz.underlying9
 a9:=Tryz.isAgg9
 z9:=Tryz.sizeOf9
 v9:=Tryz.zeroValue9
 t22:=Tryz.underlying26
 a22:=Tryz.isAgg26
 z22:=Tryz.sizeOf26
 v22:=Tryz.zeroValue26
 t23:=Tryz.underlying26
 a23:=Tryz.isAgg26
 z23:=Tryz.sizeOf26
 v23:=Tryz.zeroValue26
 t25:=Tryz.underlying3
 a25:=Tryz.isAgg3
 z25:=Tryz.sizeOf3
 v25:=Tryz.zeroValue3
 t32:=Tryz.underlying429
 a32:=Tryz.isAgg429
 z32:=Tryz.sizeOf429
 v32:=Tryz.zeroValue429
 t35:=Tryz.underlying440
 a35:=Tryz.isAgg440
 z35:=Tryz.sizeOf440
 v35:=Tryz.zeroValue440
 t36:=Tryz.underlying441
 a36:=Tryz.isAgg441
 z36:=Tryz.sizeOf441
 v36:=Tryz.zeroValue441
 t41:=Tryz.underlying266
 a41:=Tryz.isAgg266
 z41:=Tryz.sizeOf266
 v41:=Tryz.zeroValue266
 t44:=Tryz.underlying447
 a44:=Tryz.isAgg447
 z44:=Tryz.sizeOf447
 v44:=Tryz.zeroValue447
 t46:=Tryz.underlying449
 a46:=Tryz.isAgg449
 z46:=Tryz.sizeOf449
 v46:=Tryz.zeroValue449
 t53:=Tryz.underlying455
 a53:=Tryz.isAgg455
 z53:=Tryz.sizeOf455
 v53:=Tryz.zeroValue455
 t57:=Tryz.underlying459
 a57:=Tryz.isAgg459
 z57:=Tryz.sizeOf459
 v57:=Tryz.zeroValue459
 t63:=Tryz.underlying463
 a63:=Tryz.isAgg463
 z63:=Tryz.sizeOf463
 v63:=Tryz.zeroValue463
 t64:=Tryz.underlying76
 a64:=Tryz.isAgg76
 z64:=Tryz.sizeOf76
 v64:=Tryz.zeroValue76
def Tryz.compactInts381_ren:Go.Shelf.Ren:=⟨fun | 20=>381 | n=>n,fun | 22=>26 | 3=>3 | 4=>4 | 0=>0 | n=>n,fun | n=>n⟩
theorem Tryz.compactInts381:Go.Proofs.Lays2.n20 Tryz.prog Tryz.compactInts381_ren where
 mixed:=by kernel_rfl
 f20:=Tryz.func381.trans (congrArg some (by kernel_rfl))
 t0:=Tryz.underlying0
 a0:=Tryz.isAgg0
 z0:=Tryz.sizeOf0
 v0:=Tryz.zeroValue0
 t3:=Tryz.underlying3
 a3:=Tryz.isAgg3
 z3:=Tryz.sizeOf3
 v3:=Tryz.zeroValue3
 t4:=Tryz.underlying4
 a4:=Tryz.isAgg4
 z4:=Tryz.sizeOf4
 v4:=Tryz.zeroValue4
 t22:=Tryz.underlying26
 a22:=Tryz.isAgg26
 z22:=Tryz.sizeOf26
 v22:=Tryz.zeroValue26
 i3:=by kernel_rfl
def Tryz.deleteFunc382_ren:Go.Shelf.Ren:=⟨fun | 10=>382 | 6=>401 | n=>n,fun | 22=>26 | 23=>3 | 25=>83 | 3=>3 | 4=>4 | 0=>0 | n=>n,fun | n=>n⟩
theorem Tryz.deleteFunc382:Go.Proofs.SlLaysH.n10 Tryz.prog Tryz.deleteFunc382_ren where
 mixed:=by kernel_rfl
 f6:=⟨"slices.IndexFunc[[]int,int]",by decide,Tryz.func401.trans (congrArg some (by kernel_rfl))⟩
 f10:=⟨"slices.DeleteFunc[[]int,int]",by decide,Tryz.func382.trans (congrArg some (by kernel_rfl))⟩
 t0:=Tryz.underlying0
 a0:=Tryz.isAgg0
 z0:=Tryz.sizeOf0
 v0:=Tryz.zeroValue0
 t3:=Tryz.underlying3
 a3:=Tryz.isAgg3
 z3:=Tryz.sizeOf3
 v3:=Tryz.zeroValue3
 t4:=Tryz.underlying4
 a4:=Tryz.isAgg4
 z4:=Tryz.sizeOf4
 v4:=Tryz.zeroValue4
 t22:=Tryz.underlying26
 a22:=Tryz.isAgg26
 z22:=Tryz.sizeOf26
 v22:=Tryz.zeroValue26
 a23:=Tryz.isAgg3
 z23:=Tryz.sizeOf3
 t25:=Tryz.underlying83
 a25:=Tryz.isAgg83
 z25:=Tryz.sizeOf83
 v25:=Tryz.zeroValue83
set_option maxHeartbeats 1000000 in
theorem Tryz.clo378(x y:Int×Int×Int)(W:World):Calls Tryz.prog 378 #[.agg #[.int .i64 x.1,.int .i64 x.2.1,.int .i64 x.2.2],.agg #[.int .i64 y.1,.int .i64 y.2.1,.int .i64 y.2.2]] W fun e w'=>e=.returned (.int .i64 (IntKind.wrap .i64 (x.1 - y.1)))∧∃q os',w'=grow (W.drewN q) os':=by
 go_enter Tryz.func378,Tryz.ntmps378
 go_wp2
 go_ret
 exact⟨by rw[IntWalk.i64_left]; rfl,0,_,by rw[alloc_eq_grow,alloc_eq_grow,grow_grow]; rfl⟩
set_option maxHeartbeats 1000000 in
theorem Tryz.clo383(x:Int)(W:World):Calls Tryz.prog 383 #[.int .i64 x] W fun e w'=>e=.returned (.bool (decide (x≥1440)))∧∃q,w'=W.drewN q:=by
 go_enter Tryz.func383,Tryz.ntmps383
 go_wp2
 go_ret
 exact⟨rfl,0,rfl⟩
end Go.Proofs

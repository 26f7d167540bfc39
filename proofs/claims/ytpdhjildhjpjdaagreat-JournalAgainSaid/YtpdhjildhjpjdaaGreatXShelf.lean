import Derived.Shelf.SlSortCmp.WholeK
import Derived.Shelf.SlSortCmp.NoneTotal
import Derived.Shelf.SlIterI.Sorted
import Derived.Shelf.SortM.Plain
import Derived.Shelf.SortM.SortNone
import Derived.Test.YtpdhjildhjpjdaaGreatProg
namespace Go.Proofs
open Go.RowKit Go.Lib Go.Maps Go.Sort Go.Shelf
def Tryz.iterA_ren:Go.Shelf.Ren:=⟨fun | 10=>113 | n=>n,fun | 33=>207 | 23=>89 | 0=>0 | 4=>4 | 26=>3 | 3=>81 | n=>n,fun | n=>n⟩
theorem Tryz.iterA:Go.Proofs.SlLaysZI.n10 Tryz.prog Tryz.iterA_ren where
 mixed:=by kernel_rfl
 f10:=⟨"maps.Keys[map[int]billing/api.Session,int,billing/api.Session]$1",by decide,Tryz.func113.trans (congrArg some (by kernel_rfl))⟩
 t0:=Tryz.underlying0
 a0:=Tryz.isAgg0
 z0:=Tryz.sizeOf0
 v0:=Tryz.zeroValue0
 t4:=Tryz.underlying4
 a4:=Tryz.isAgg4
 z4:=Tryz.sizeOf4
 v4:=Tryz.zeroValue4
 t23:=Tryz.underlying89
 a23:=Tryz.isAgg89
 z23:=Tryz.sizeOf89
 v23:=Tryz.zeroValue89
 t26:=Tryz.underlying3
 a26:=Tryz.isAgg3
 z26:=Tryz.sizeOf3
 v26:=Tryz.zeroValue3
 t33:=Tryz.underlying207
 a33:=Tryz.isAgg207
 z33:=Tryz.sizeOf207
 v33:=Tryz.zeroValue207
def Tryz.sortedA_ren:Go.Shelf.Ren:=⟨fun | 6=>72 | 8=>111 | 9=>112 | 11=>149 | 13=>151 | 12=>150 | 23=>222 | 24=>223 | 14=>213 | 15=>214 | 16=>215 | 17=>216 | 18=>217 | 19=>218 | 20=>219 | 21=>220 | 22=>221 | 25=>263 | 26=>264 | 27=>265 | 28=>266 | 29=>267 | 30=>268 | 31=>301 | n=>n,fun | 26=>3 | 28=>168 | 24=>26 | 0=>0 | 3=>3 | 37=>248 | 48=>246 | 50=>326 | 4=>4 | 40=>342 | 39=>341 | 45=>346 | 5=>5 | 9=>9 | 51=>387 | 55=>391 | 57=>419 | 58=>238 | 33=>207 | n=>n,fun | n=>n⟩
theorem Tryz.sortedA:Go.Proofs.SlLaysZI.n6 Tryz.prog Tryz.sortedA_ren where
 mixed:=by kernel_rfl
 f6:=⟨"slices.Sorted[int]",by decide,Tryz.func72.trans (congrArg some (by kernel_rfl))⟩
 f8:=⟨"slices.Collect[int]",by decide,Tryz.func111.trans (congrArg some (by kernel_rfl))⟩
 f11:=⟨"slices.AppendSeq[[]int,int]",by decide,Tryz.func149.trans (congrArg some (by kernel_rfl))⟩
 t0:=Tryz.underlying0
 a0:=Tryz.isAgg0
 z0:=Tryz.sizeOf0
 v0:=Tryz.zeroValue0
 t24:=Tryz.underlying26
 a24:=Tryz.isAgg26
 z24:=Tryz.sizeOf26
 v24:=Tryz.zeroValue26
 t26:=Tryz.underlying3
 a26:=Tryz.isAgg3
 z26:=Tryz.sizeOf3
 v26:=Tryz.zeroValue3
 t28:=Tryz.underlying168
 a28:=Tryz.isAgg168
 z28:=Tryz.sizeOf168
 v28:=Tryz.zeroValue168
 i26:=by kernel_rfl
def Tryz.sortA_ren:Go.Shelf.Ren:=⟨fun | 5=>112 | 8=>151 | 7=>150 | 19=>222 | 20=>223 | 10=>213 | 11=>214 | 12=>215 | 13=>216 | 14=>217 | 15=>218 | 16=>219 | 17=>220 | 18=>221 | 30=>263 | 31=>264 | 32=>265 | 33=>266 | 34=>267 | 35=>268 | 40=>301 | n=>n,fun | 23=>26 | 25=>3 | 3=>3 | 32=>248 | 22=>26 | 0=>0 | 44=>246 | 46=>326 | 4=>4 | 36=>342 | 35=>341 | 41=>346 | 5=>5 | 9=>9 | 53=>387 | 57=>391 | 63=>419 | 64=>238 | n=>n,fun | n=>n⟩
theorem Tryz.sortA:Go.Proofs.SlLaysM.n5 Tryz.prog Tryz.sortA_ren where
 mixed:=by kernel_rfl
 f5:=⟨"slices.Sort[[]int,int]",by decide,Tryz.func112.trans (congrArg some (by kernel_rfl))⟩
 f7:=⟨"slices.pdqsortOrdered[int]",by decide,Tryz.func150.trans (congrArg some (by kernel_rfl))⟩
 f8:=Tryz.func151.trans (congrArg some (by kernel_rfl))
 f10:=⟨"slices.insertionSortOrdered[int]",by decide,Tryz.func213.trans (congrArg some (by kernel_rfl))⟩
 f11:=⟨"slices.heapSortOrdered[int]",by decide,Tryz.func214.trans (congrArg some (by kernel_rfl))⟩
 f12:=⟨"slices.breakPatternsOrdered[int]",by decide,Tryz.func215.trans (congrArg some (by kernel_rfl))⟩
 f13:=⟨"slices.choosePivotOrdered[int]",by decide,Tryz.func216.trans (congrArg some (by kernel_rfl))⟩
 f14:=⟨"slices.reverseRangeOrdered[int]",by decide,Tryz.func217.trans (congrArg some (by kernel_rfl))⟩
 f15:=⟨"slices.partialInsertionSortOrdered[int]",by decide,Tryz.func218.trans (congrArg some (by kernel_rfl))⟩
 f16:=⟨"cmp.Less[int]",by decide,Tryz.func219.trans (congrArg some (by kernel_rfl))⟩
 f17:=⟨"slices.partitionEqualOrdered[int]",by decide,Tryz.func220.trans (congrArg some (by kernel_rfl))⟩
 f18:=⟨"slices.partitionOrdered[int]",by decide,Tryz.func221.trans (congrArg some (by kernel_rfl))⟩
 f19:=Tryz.func222.trans (congrArg some (by kernel_rfl))
 f20:=Tryz.func223.trans (congrArg some (by kernel_rfl))
 f30:=⟨"slices.siftDownOrdered[int]",by decide,Tryz.func263.trans (congrArg some (by kernel_rfl))⟩
 f31:=Tryz.func264.trans (congrArg some (by kernel_rfl))
 f32:=Tryz.func265.trans (congrArg some (by kernel_rfl))
 f33:=⟨"slices.medianAdjacentOrdered[int]",by decide,Tryz.func266.trans (congrArg some (by kernel_rfl))⟩
 f34:=⟨"slices.medianOrdered[int]",by decide,Tryz.func267.trans (congrArg some (by kernel_rfl))⟩
 f35:=⟨"cmp.isNaN[int]",by decide,Tryz.func268.trans (congrArg some (by kernel_rfl))⟩
 f40:=⟨"slices.order2Ordered[int]",by decide,Tryz.func301.trans (congrArg some (by kernel_rfl))⟩
 t0:=Tryz.underlying0
 a0:=Tryz.isAgg0
 z0:=Tryz.sizeOf0
 v0:=Tryz.zeroValue0
 t3:=Tryz.underlying3
 a3:=Tryz.isAgg3
 z3:=Tryz.sizeOf3
 v3:=Tryz.zeroValue3
 t4:=Tryz.underlying4
 a4:=Tryz.isAgg4
 z4:=Tryz.sizeOf4
 v4:=Tryz.zeroValue4
 t5:=Tryz.underlying5
 a5:=Tryz.isAgg5
 z5:=Tryz.sizeOf5
 v5:=Tryz.zeroValue5
 t9:=Tryz.underlying9
 a9:=Tryz.isAgg9
 z9:=Tryz.sizeOf9
 v9:=Tryz.zeroValue9
 t22:=Tryz.underlying26
 a22:=Tryz.isAgg26
 z22:=Tryz.sizeOf26
 v22:=Tryz.zeroValue26
 t23:=Tryz.underlying26
 a23:=Tryz.isAgg26
 z23:=Tryz.sizeOf26
 v23:=Tryz.zeroValue26
 t25:=Tryz.underlying3
 a25:=Tryz.isAgg3
 z25:=Tryz.sizeOf3
 v25:=Tryz.zeroValue3
 t32:=Tryz.underlying248
 a32:=Tryz.isAgg248
 z32:=Tryz.sizeOf248
 v32:=Tryz.zeroValue248
 t35:=Tryz.underlying341
 a35:=Tryz.isAgg341
 z35:=Tryz.sizeOf341
 v35:=Tryz.zeroValue341
 t36:=Tryz.underlying342
 a36:=Tryz.isAgg342
 z36:=Tryz.sizeOf342
 v36:=Tryz.zeroValue342
 t41:=Tryz.underlying346
 a41:=Tryz.isAgg346
 z41:=Tryz.sizeOf346
 v41:=Tryz.zeroValue346
 t44:=Tryz.underlying246
 a44:=Tryz.isAgg246
 z44:=Tryz.sizeOf246
 v44:=Tryz.zeroValue246
 t46:=Tryz.underlying326
 a46:=Tryz.isAgg326
 z46:=Tryz.sizeOf326
 v46:=Tryz.zeroValue326
 t53:=Tryz.underlying387
 a53:=Tryz.isAgg387
 z53:=Tryz.sizeOf387
 v53:=Tryz.zeroValue387
 t57:=Tryz.underlying391
 a57:=Tryz.isAgg391
 z57:=Tryz.sizeOf391
 v57:=Tryz.zeroValue391
 t63:=Tryz.underlying419
 a63:=Tryz.isAgg419
 z63:=Tryz.sizeOf419
 v63:=Tryz.zeroValue419
 t64:=Tryz.underlying238
 a64:=Tryz.isAgg238
 z64:=Tryz.sizeOf238
 v64:=Tryz.zeroValue238
def Tryz.sortFunc314_ren:Go.Shelf.Ren:=⟨fun | 6=>314 | 15=>151 | 14=>326 | 28=>222 | 29=>223 | 20=>330 | 21=>331 | 22=>332 | 23=>333 | 24=>334 | 25=>335 | 26=>336 | 27=>337 | 46=>338 | 47=>264 | 48=>265 | 49=>339 | 50=>340 | 57=>341 | n=>n,fun | 22=>431 | 24=>433 | 25=>436 | 3=>3 | 39=>248 | 0=>0 | 53=>246 | 55=>326 | 4=>4 | 46=>342 | 45=>341 | 50=>346 | 5=>5 | 9=>9 | 66=>387 | 70=>391 | 76=>419 | 77=>238 | n=>n,fun | n=>n⟩
theorem Tryz.sortFunc314:Go.Proofs.SlLaysF0.n6 Tryz.prog Tryz.sortFunc314_ren where
 mixed:=by kernel_rfl
 f6:=⟨"slices.SortFunc[[]billing/interval.change,billing/interval.change]",by decide,Tryz.func314.trans (congrArg some (by kernel_rfl))⟩
 f14:=⟨"slices.pdqsortCmpFunc[billing/interval.change]",by decide,Tryz.func326.trans (congrArg some (by kernel_rfl))⟩
 f15:=Tryz.func151.trans (congrArg some (by kernel_rfl))
 f20:=⟨"slices.insertionSortCmpFunc[billing/interval.change]",by decide,Tryz.func330.trans (congrArg some (by kernel_rfl))⟩
 f21:=⟨"slices.heapSortCmpFunc[billing/interval.change]",by decide,Tryz.func331.trans (congrArg some (by kernel_rfl))⟩
 f22:=⟨"slices.breakPatternsCmpFunc[billing/interval.change]",by decide,Tryz.func332.trans (congrArg some (by kernel_rfl))⟩
 f23:=⟨"slices.choosePivotCmpFunc[billing/interval.change]",by decide,Tryz.func333.trans (congrArg some (by kernel_rfl))⟩
 f24:=⟨"slices.reverseRangeCmpFunc[billing/interval.change]",by decide,Tryz.func334.trans (congrArg some (by kernel_rfl))⟩
 f25:=⟨"slices.partialInsertionSortCmpFunc[billing/interval.change]",by decide,Tryz.func335.trans (congrArg some (by kernel_rfl))⟩
 f26:=⟨"slices.partitionEqualCmpFunc[billing/interval.change]",by decide,Tryz.func336.trans (congrArg some (by kernel_rfl))⟩
 f27:=⟨"slices.partitionCmpFunc[billing/interval.change]",by decide,Tryz.func337.trans (congrArg some (by kernel_rfl))⟩
 f28:=Tryz.func222.trans (congrArg some (by kernel_rfl))
 f29:=Tryz.func223.trans (congrArg some (by kernel_rfl))
 f46:=⟨"slices.siftDownCmpFunc[billing/interval.change]",by decide,Tryz.func338.trans (congrArg some (by kernel_rfl))⟩
 f47:=Tryz.func264.trans (congrArg some (by kernel_rfl))
 f48:=Tryz.func265.trans (congrArg some (by kernel_rfl))
 f49:=⟨"slices.medianAdjacentCmpFunc[billing/interval.change]",by decide,Tryz.func339.trans (congrArg some (by kernel_rfl))⟩
 f50:=⟨"slices.medianCmpFunc[billing/interval.change]",by decide,Tryz.func340.trans (congrArg some (by kernel_rfl))⟩
 f57:=⟨"slices.order2CmpFunc[billing/interval.change]",by decide,Tryz.func341.trans (congrArg some (by kernel_rfl))⟩
 t0:=Tryz.underlying0
 a0:=Tryz.isAgg0
 z0:=Tryz.sizeOf0
 v0:=Tryz.zeroValue0
 t3:=Tryz.underlying3
 a3:=Tryz.isAgg3
 z3:=Tryz.sizeOf3
 v3:=Tryz.zeroValue3
 t4:=Tryz.underlying4
 a4:=Tryz.isAgg4
 z4:=Tryz.sizeOf4
 v4:=Tryz.zeroValue4
 t5:=Tryz.underlying5
 a5:=Tryz.isAgg5
 z5:=Tryz.sizeOf5
 v5:=Tryz.zeroValue5
 t9:=Tryz.underlying9
 a9:=Tryz.isAgg9
 z9:=Tryz.sizeOf9
 v9:=Tryz.zeroValue9
 t22:=Tryz.underlying431
 a22:=Tryz.isAgg431
 z22:=Tryz.sizeOf431
 v22:=Tryz.zeroValue431
 t25:=Tryz.underlying436
 a25:=Tryz.isAgg436
 z25:=Tryz.sizeOf436
 v25:=Tryz.zeroValue436
 t39:=Tryz.underlying248
 a39:=Tryz.isAgg248
 z39:=Tryz.sizeOf248
 v39:=Tryz.zeroValue248
 t45:=Tryz.underlying341
 a45:=Tryz.isAgg341
 z45:=Tryz.sizeOf341
 v45:=Tryz.zeroValue341
 t46:=Tryz.underlying342
 a46:=Tryz.isAgg342
 z46:=Tryz.sizeOf342
 v46:=Tryz.zeroValue342
 t50:=Tryz.underlying346
 a50:=Tryz.isAgg346
 z50:=Tryz.sizeOf346
 v50:=Tryz.zeroValue346
 t53:=Tryz.underlying246
 a53:=Tryz.isAgg246
 z53:=Tryz.sizeOf246
 v53:=Tryz.zeroValue246
 t55:=Tryz.underlying326
 a55:=Tryz.isAgg326
 z55:=Tryz.sizeOf326
 v55:=Tryz.zeroValue326
 t66:=Tryz.underlying387
 a66:=Tryz.isAgg387
 z66:=Tryz.sizeOf387
 v66:=Tryz.zeroValue387
 t70:=Tryz.underlying391
 a70:=Tryz.isAgg391
 z70:=Tryz.sizeOf391
 v70:=Tryz.zeroValue391
 t76:=Tryz.underlying419
 a76:=Tryz.isAgg419
 z76:=Tryz.sizeOf419
 v76:=Tryz.zeroValue419
 t77:=Tryz.underlying238
 a77:=Tryz.isAgg238
 z77:=Tryz.sizeOf238
 v77:=Tryz.zeroValue238
set_option maxHeartbeats 1000000 in
theorem Tryz.clo315(x y:Int×Int×Int)(W:World):Calls Tryz.prog 315 #[.agg #[.int .i64 x.1,.int .i64 x.2.1,.int .i64 x.2.2],.agg #[.int .i64 y.1,.int .i64 y.2.1,.int .i64 y.2.2]] W fun e w'=>e=.returned (.int .i64 (IntKind.wrap .i64 (x.1 - y.1)))∧∃q os',w'=grow (W.drewN q) os':=by
 go_enter Tryz.func315,Tryz.ntmps315
 go_wp2
 go_ret
 exact⟨by rw[IntWalk.i64_left]; rfl,0,_,by rw[alloc_eq_grow,alloc_eq_grow,grow_grow]; rfl⟩
theorem Tryz.sortsA(m:Nat):AnyZI.SortsIn Tryz.prog Tryz.sortedA_ren Fence.wide m :=
  ⟨fun blk off cap ss W hH hblk hsz=>callsIn_wide.2 (AnyM.slices_Sort_int Tryz.sortA blk off cap ss W hH hblk hsz),
   fun p cap W=>callsIn_wide.2 (AnyM.slices_Sort_int_none Tryz.sortA p cap W)⟩
theorem Tryz.sortedKeys113{H:Type}(R:Value→Option (DataW H×List MemPlace))(Bm b nn:Nat)(D0:DataW H)(w:World)(hBm:Bm<w.heap.size)(hm:w.cell? ⟨Bm,0,none⟩=some (.map (some b)))(hown:w.ownsMap Tryz.prog 3 R b nn D0)(hmax:Maps.size D0≤maxLen)(hbytes:Maps.size D0*8≤140737488355328) :
  Calls Tryz.prog 72 #[.func (.func 113) #[] #[.pointer (some ⟨Bm,0,none⟩)]] w fun e w'=>∃(v:Value) (ss:List Int),e=.returned v∧ss.Perm (intKeys D0) ∧
   w'.ownsRow w.heap.size 3 1 v ss.length ((ss.mergeSort (fun x y=>decide (x≤y))).map encZ)∧(v=.slice none 0 0↔ss=[])∧Below w.heap.size w w':=by
 have hseq:SeqGives Fence.wide 2 Tryz.prog 113 #[.pointer (some ⟨Bm,0,none⟩)] encZ (fun ss=>ss.Perm (intKeys D0)) (Maps.size D0) w :=
  AnyZI.keys_gives (ρ:=Tryz.iterA_ren) Tryz.iterA Fence.wide _ trivial rfl (by omega) Bm b nn D0 w hBm hm hown
 exact(callsIn_wide (n:=5)).1 (AnyZI.sorted_in Tryz.sortedA Fence.wide 5 trivial trivial trivial trivial rfl (by omega) (Tryz.sortsA _) (enters_of Tryz.func112 (by kernel_rfl) rfl) 113 #[.pointer (some ⟨Bm,0,none⟩)] trivial (enters_of Tryz.func113 (by kernel_rfl) rfl) _ _ hmax hbytes _ hseq)
end Go.Proofs

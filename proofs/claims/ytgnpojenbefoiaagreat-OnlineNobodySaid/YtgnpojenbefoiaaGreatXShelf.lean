import Derived.Shelf.SlIterI.Sorted
import Derived.Shelf.SortM.Plain
import Derived.Shelf.SortM.SortNone
import Derived.Test.YtgnpojenbefoiaaGreatProg
namespace Go.Proofs
open Go.RowKit Go.Maps Go.Sort Go.Shelf
def Tryz.iterA_ren:Go.Shelf.Ren:=⟨fun | 10=>129 | n=>n,fun | 33=>116 | 23=>52 | 0=>0 | 4=>4 | 26=>3 | 3=>39 | n=>n,fun | n=>n⟩
theorem Tryz.iterA:Go.Proofs.SlLaysZI.n10 Tryz.prog Tryz.iterA_ren:={
  mixed:=by kernel_rfl
  f10:=⟨"maps.Keys[map[int]billing/api.Session,int,billing/api.Session]$1",by decide,Tryz.func129.trans (congrArg some (by kernel_rfl))⟩
  t0:=Tryz.underlying0
  a0:=Tryz.isAgg0
  z0:=Tryz.sizeOf0
  v0:=Tryz.zeroValue0
  t4:=Tryz.underlying4
  a4:=Tryz.isAgg4
  z4:=Tryz.sizeOf4
  v4:=Tryz.zeroValue4
  t23:=Tryz.underlying52
  a23:=Tryz.isAgg52
  z23:=Tryz.sizeOf52
  v23:=Tryz.zeroValue52
  t26:=Tryz.underlying3
  a26:=Tryz.isAgg3
  z26:=Tryz.sizeOf3
  v26:=Tryz.zeroValue3
  t33:=Tryz.underlying116
  a33:=Tryz.isAgg116
  z33:=Tryz.sizeOf116
  v33:=Tryz.zeroValue116
}
def Tryz.sortedA_ren:Go.Shelf.Ren:=⟨fun | 6=>78 | 8=>127 | 9=>128 | 11=>203 | 13=>205 | 12=>204 | 23=>280 | 24=>281 | 14=>271 | 15=>272 | 16=>273 | 17=>274 | 18=>275 | 19=>276 | 20=>277 | 21=>278 | 22=>279 | 25=>332 | 26=>333 | 27=>334 | 28=>335 | 29=>336 | 30=>337 | 31=>362 | n=>n,fun | 26=>3 | 28=>177 | 24=>48 | 0=>0 | 3=>3 | 37=>334 | 48=>401 | 50=>403 | 4=>4 | 40=>395 | 39=>394 | 45=>390 | 5=>5 | 9=>9 | 51=>444 | 55=>448 | 57=>474 | 58=>234 | 33=>116 | n=>n,fun | n=>n⟩
theorem Tryz.sortedA:Go.Proofs.SlLaysZI.n6 Tryz.prog Tryz.sortedA_ren:={
  mixed:=by kernel_rfl
  f6:=⟨"slices.Sorted[int]",by decide,Tryz.func78.trans (congrArg some (by kernel_rfl))⟩
  f8:=⟨"slices.Collect[int]",by decide,Tryz.func127.trans (congrArg some (by kernel_rfl))⟩
  f11:=⟨"slices.AppendSeq[[]int,int]",by decide,Tryz.func203.trans (congrArg some (by kernel_rfl))⟩
  t0:=Tryz.underlying0
  a0:=Tryz.isAgg0
  z0:=Tryz.sizeOf0
  v0:=Tryz.zeroValue0
  t24:=Tryz.underlying48
  a24:=Tryz.isAgg48
  z24:=Tryz.sizeOf48
  v24:=Tryz.zeroValue48
  t26:=Tryz.underlying3
  a26:=Tryz.isAgg3
  z26:=Tryz.sizeOf3
  v26:=Tryz.zeroValue3
  t28:=Tryz.underlying177
  a28:=Tryz.isAgg177
  z28:=Tryz.sizeOf177
  v28:=Tryz.zeroValue177
  i26:=by kernel_rfl
}
def Tryz.sortA_ren:Go.Shelf.Ren:=⟨fun | 5=>128 | 8=>205 | 7=>204 | 19=>280 | 20=>281 | 10=>271 | 11=>272 | 12=>273 | 13=>274 | 14=>275 | 15=>276 | 16=>277 | 17=>278 | 18=>279 | 30=>332 | 31=>333 | 32=>334 | 33=>335 | 34=>336 | 35=>337 | 40=>362 | n=>n,fun | 23=>48 | 25=>3 | 3=>3 | 32=>334 | 22=>48 | 0=>0 | 44=>401 | 46=>403 | 4=>4 | 36=>395 | 35=>394 | 41=>390 | 5=>5 | 9=>9 | 53=>444 | 57=>448 | 63=>474 | 64=>234 | n=>n,fun | n=>n⟩
theorem Tryz.sortA:Go.Proofs.SlLaysM.n5 Tryz.prog Tryz.sortA_ren:={
  mixed:=by kernel_rfl
  f5:=⟨"slices.Sort[[]int,int]",by decide,Tryz.func128.trans (congrArg some (by kernel_rfl))⟩
  f7:=⟨"slices.pdqsortOrdered[int]",by decide,Tryz.func204.trans (congrArg some (by kernel_rfl))⟩
  f8:=Tryz.func205.trans (congrArg some (by kernel_rfl))
  f10:=⟨"slices.insertionSortOrdered[int]",by decide,Tryz.func271.trans (congrArg some (by kernel_rfl))⟩
  f11:=⟨"slices.heapSortOrdered[int]",by decide,Tryz.func272.trans (congrArg some (by kernel_rfl))⟩
  f12:=⟨"slices.breakPatternsOrdered[int]",by decide,Tryz.func273.trans (congrArg some (by kernel_rfl))⟩
  f13:=⟨"slices.choosePivotOrdered[int]",by decide,Tryz.func274.trans (congrArg some (by kernel_rfl))⟩
  f14:=⟨"slices.reverseRangeOrdered[int]",by decide,Tryz.func275.trans (congrArg some (by kernel_rfl))⟩
  f15:=⟨"slices.partialInsertionSortOrdered[int]",by decide,Tryz.func276.trans (congrArg some (by kernel_rfl))⟩
  f16:=⟨"cmp.Less[int]",by decide,Tryz.func277.trans (congrArg some (by kernel_rfl))⟩
  f17:=⟨"slices.partitionEqualOrdered[int]",by decide,Tryz.func278.trans (congrArg some (by kernel_rfl))⟩
  f18:=⟨"slices.partitionOrdered[int]",by decide,Tryz.func279.trans (congrArg some (by kernel_rfl))⟩
  f19:=Tryz.func280.trans (congrArg some (by kernel_rfl))
  f20:=Tryz.func281.trans (congrArg some (by kernel_rfl))
  f30:=⟨"slices.siftDownOrdered[int]",by decide,Tryz.func332.trans (congrArg some (by kernel_rfl))⟩
  f31:=Tryz.func333.trans (congrArg some (by kernel_rfl))
  f32:=Tryz.func334.trans (congrArg some (by kernel_rfl))
  f33:=⟨"slices.medianAdjacentOrdered[int]",by decide,Tryz.func335.trans (congrArg some (by kernel_rfl))⟩
  f34:=⟨"slices.medianOrdered[int]",by decide,Tryz.func336.trans (congrArg some (by kernel_rfl))⟩
  f35:=⟨"cmp.isNaN[int]",by decide,Tryz.func337.trans (congrArg some (by kernel_rfl))⟩
  f40:=⟨"slices.order2Ordered[int]",by decide,Tryz.func362.trans (congrArg some (by kernel_rfl))⟩
  t0:=Tryz.underlying0
  a0:=Tryz.isAgg0
  z0:=Tryz.sizeOf0
  v0:=Tryz.zeroValue0
  t3:=Tryz.underlying3
  a3:=Tryz.isAgg3
  z3:=Tryz.sizeOf3
  v3:=Tryz.zeroValue3
  t4:=Tryz.underlying4
  a4:=Tryz.isAgg4
  z4:=Tryz.sizeOf4
  v4:=Tryz.zeroValue4
  t5:=Tryz.underlying5
  a5:=Tryz.isAgg5
  z5:=Tryz.sizeOf5
  v5:=Tryz.zeroValue5
  t9:=Tryz.underlying9
  a9:=Tryz.isAgg9
  z9:=Tryz.sizeOf9
  v9:=Tryz.zeroValue9
  t22:=Tryz.underlying48
  a22:=Tryz.isAgg48
  z22:=Tryz.sizeOf48
  v22:=Tryz.zeroValue48
  t23:=Tryz.underlying48
  a23:=Tryz.isAgg48
  z23:=Tryz.sizeOf48
  v23:=Tryz.zeroValue48
  t25:=Tryz.underlying3
  a25:=Tryz.isAgg3
  z25:=Tryz.sizeOf3
  v25:=Tryz.zeroValue3
  t32:=Tryz.underlying334
  a32:=Tryz.isAgg334
  z32:=Tryz.sizeOf334
  v32:=Tryz.zeroValue334
  t35:=Tryz.underlying394
  a35:=Tryz.isAgg394
  z35:=Tryz.sizeOf394
  v35:=Tryz.zeroValue394
  t36:=Tryz.underlying395
  a36:=Tryz.isAgg395
  z36:=Tryz.sizeOf395
  v36:=Tryz.zeroValue395
  t41:=Tryz.underlying390
  a41:=Tryz.isAgg390
  z41:=Tryz.sizeOf390
  v41:=Tryz.zeroValue390
  t44:=Tryz.underlying401
  a44:=Tryz.isAgg401
  z44:=Tryz.sizeOf401
  v44:=Tryz.zeroValue401
  t46:=Tryz.underlying403
  a46:=Tryz.isAgg403
  z46:=Tryz.sizeOf403
  v46:=Tryz.zeroValue403
  t53:=Tryz.underlying444
  a53:=Tryz.isAgg444
  z53:=Tryz.sizeOf444
  v53:=Tryz.zeroValue444
  t57:=Tryz.underlying448
  a57:=Tryz.isAgg448
  z57:=Tryz.sizeOf448
  v57:=Tryz.zeroValue448
  t63:=Tryz.underlying474
  a63:=Tryz.isAgg474
  z63:=Tryz.sizeOf474
  v63:=Tryz.zeroValue474
  t64:=Tryz.underlying234
  a64:=Tryz.isAgg234
  z64:=Tryz.sizeOf234
  v64:=Tryz.zeroValue234
}
theorem Tryz.sortsA (m:Nat):AnyZI.SortsIn Tryz.prog Tryz.sortedA_ren Fence.wide m :=
  ⟨fun blk off cap ss W hH hblk hsz=>callsIn_wide.2 (AnyM.slices_Sort_int Tryz.sortA blk off cap ss W hH hblk hsz),
   fun p cap W=>callsIn_wide.2 (AnyM.slices_Sort_int_none Tryz.sortA p cap W)⟩
theorem Tryz.sortedKeys129 {H:Type} (R:Value→Option (DataW H×List MemPlace)) (Bm b nn:Nat) (D0:DataW H) (w:World) (hBm:Bm<w.heap.size) (hm:w.cell? ⟨Bm,0,none⟩=some (.map (some b))) (hown:w.ownsMap Tryz.prog 3 R b nn D0) (hmax:Maps.size D0≤maxLen) (hbytes:Maps.size D0*8≤140737488355328) :
  Calls Tryz.prog 78 #[.func (.func 129) #[] #[.pointer (some ⟨Bm,0,none⟩)]] w fun e w'=>∃(v:Value) (ss:List Int),e=.returned v∧ss.Perm (intKeys D0) ∧
   w'.ownsRow w.heap.size 3 1 v ss.length ((ss.mergeSort (fun x y=>decide (x≤y))).map encZ)∧(v=.slice none 0 0↔ss=[])∧Below w.heap.size w w':=by
 have hseq:SeqGives Fence.wide 2 Tryz.prog 129 #[.pointer (some ⟨Bm,0,none⟩)] encZ (fun ss=>ss.Perm (intKeys D0)) (Maps.size D0) w :=
  AnyZI.keys_gives (ρ:=Tryz.iterA_ren) Tryz.iterA Fence.wide _ trivial rfl (by omega) Bm b nn D0 w hBm hm hown
 exact (callsIn_wide (n:=5)).1 (AnyZI.sorted_in Tryz.sortedA Fence.wide 5 trivial trivial trivial trivial rfl (by omega) (Tryz.sortsA _) (enters_of Tryz.func128 (by kernel_rfl) rfl) 129 #[.pointer (some ⟨Bm,0,none⟩)] trivial (enters_of Tryz.func129 (by kernel_rfl) rfl) _ _ hmax hbytes _ hseq)
end Go.Proofs

/- Local arrays of integers. -/
import Derived.Test.YtnlnadfpfekeiaaDoorGFnv
namespace Gd
open Go Go.RowKit
set_option linter.unusedVariables false
set_option linter.unusedSimpArgs false

/-- A fact that asks nothing of the world. -/
def DF.pure (p : Prop) : DF := ⟨fun _ _ => p, fun h _ => h, fun h _ => h⟩
theorem Sb.okLt {β : Nat → Nat} {X : Cx} {G : GL} {D : List DF} {H : HL} {O : List TL} {a : Act} {w : World} (_ : Sb β X G D H O a w) : ∀ b o, okOf X.ok X.w.heap.size β H O w b o → b < w.heap.size := fun _ _ h => h.2.1

def arrC (k : IntKind) (l : List Int) : List Value := l.map (Value.int k)

section
variable {P : Program} {T : Tab} {β : Nat → Nat} {X : Cx} {G : GL} {D : List DF} {H : HL} {O : List TL} {a : Act} {w w' : World}
variable {ops : Array Oper} {Q : Exit → Act → World → Prop} {rest : List Oper}

theorem step_arrIdx (hT : TabOk P T) (h : Sb β X G D H O a w) {t : TypeId} {x i : Operand} {d : Nat} {ps : String} {af : Array Edge} {ty : TypeId} {gd : Option (Nat × Bool)}
    (hg : guardV ops G ⟨some d, .indexAddr t x i, ty, ps, af, gd⟩ = some true) (hlt : okD X d = true)
    {id m : Nat} {l : List Int} {ki : IntKind} {j y : Int} {e : TypeId} {te ee : TE} (ht : lookT T t = some te) (htd : te.d = .array m e) (he : lookT T e = some ee) (hes : ee.size = 1) (hm : l.length = m)
    (hx : gv G x = some (.o id 0)) (hi : gv G i = some (.v (.int ki j))) (hy : idx l j = some y)
    (hk : ∀ a', Sb β X (setN G d (.o id j.toNat)) D H O a' w → wpList P ops Q rest a' w) : wpList P ops Q (⟨some d, .indexAddr t x i, ty, ps, af, gd⟩ :: rest) a w := by
  obtain ⟨h0, h1⟩ := idx_ok hy
  have hlen : j.toNat < l.length := (List.getElem?_eq_some_iff.1 h1).1
  have hun : (underlying t).run P w = .ok (.array m e) w := by rw [run_under hT w ht, htd]
  have hrun : (execOp a.eval ⟨some d, .indexAddr t x i, ty, ps, af, gd⟩).run P w = .ok (.value (.pointer (some ⟨β id, j.toNat, none⟩))) w := by
    have hjm : 0 ≤ j ∧ j < (m : Int) := by omega
    unfold execOp
    simp only [h.ev hx, h.ev hi, den_v, den_o]
    simp [Instr.indexAt, asIntOf, hun, Instr.sureAddr, hjm, run_sizeOf' hT w he, hes, Addr.add_lit]
  refine wpList_go (guardV_ok h hg) (wp_value hrun ?_)
  exact hk _ (h.put hlt (.o id j.toNat))

theorem step_arrStore (hT : TabOk P T) (h : Sb β X G D H O a w) {t : TypeId} {p x : Operand} {ps : String} {af : Array Edge} {ty : TypeId} {gd : Option (Nat × Bool)}
    (hg : guardV ops G ⟨none, .store t p x, ty, ps, af, gd⟩ = some true) {id off : Nat} {l : List Int} {t0 : TypeId} {k : IntKind} {u y j : Int} {te : TE} (ht : lookT T t = some te) (hts : te.size = 1)
    (hp : gv G p = some (.o id off)) (ho : lookN H id = some ⟨arrC k l, t0⟩) (hx : gv G x = some (.v (.int k u))) (hy : idx l j = some y) (hoff : off = j.toNat)
    (hk : ∀ a' w', Sb β X G D (setN H id ⟨arrC k (l.set j.toNat u), t0⟩) O a' w' → wpList P ops Q rest a' w') : wpList P ops Q (⟨none, .store t p x, ty, ps, af, gd⟩ :: rest) a w := by
  subst hoff
  obtain ⟨h0, h1⟩ := idx_ok hy
  have hlen : j.toNat < l.length := (List.getElem?_eq_some_iff.1 h1).1
  have hob := (h.obj _ (lookN_mem ho)).1
  simp only at hob
  have hst := run_storeCells_at P (β id) j.toNat t0 [.int k u] 0 (arrC k l).toArray w hob (by simp [arrC]; omega) (by simp [Value.oneCell'])
  simp only [Nat.add_zero, List.toList_toArray] at hst
  have hset : (arrC k l).take j.toNat ++ [Value.int k u] ++ (arrC k l).drop (j.toNat + 1) = arrC k (l.set j.toNat u) := by
    unfold arrC
    rw [List.map_set, List.set_eq_take_append_cons_drop]
    simp [hlen]
  have hst' : (storeCells ⟨β id, j.toNat, none⟩ [Value.int k u]).run P w = .ok () (w.setRow (β id) (arrC k (l.set j.toNat u)).toArray) := by
    rw [← hset]; exact hst
  have hrun : (execOp a.eval ⟨none, .store t p x, ty, ps, af, gd⟩).run P w = .ok .skip (w.setRow (β id) (arrC k (l.set j.toNat u)).toArray) := by
    unfold execOp
    simp only [h.ev hp, h.ev hx, den_v, den_o]
    simp [Instr.storeAt, Instr.sureAddr, storeVar, run_sizeOf' hT w ht, hts, Value.cells, hst']
  refine wpList_go (guardV_ok h hg) ?_
  unfold Oper.wp
  rw [hrun]
  exact hk _ _ (h.store ho _ (by simp [arrC]))

theorem step_arrLoad (hT : TabOk P T) (h : Sb β X G D H O a w) {t : TypeId} {x : Operand} {d : Nat} {ps : String} {af : Array Edge} {ty : TypeId} {gd : Option (Nat × Bool)}
    (hg : guardV ops G ⟨some d, .load t x, ty, ps, af, gd⟩ = some true) (hlt : okD X d = true) {id off : Nat} {l : List Int} {t0 : TypeId} {k : IntKind} {y j : Int} {te : TE} (ht : lookT T t = some te) (hag : isAggD te.d = false) (hts : te.size = 1)
    (hx : gv G x = some (.o id off)) (ho : lookN H id = some ⟨arrC k l, t0⟩) (hy : idx l j = some y) (hoff : off = j.toNat)
    (hk : ∀ a', Sb β X (setN G d (.v (.int k y))) D H O a' w → wpList P ops Q rest a' w) : wpList P ops Q (⟨some d, .load t x, ty, ps, af, gd⟩ :: rest) a w := by
  subst hoff
  obtain ⟨h0, h1⟩ := idx_ok hy
  refine step_val h (g := none) hg rfl hlt (v := .int k y) ?_ hk
  have := run_loadVar_cells hT w ht (β id) j.toNat [.int k y] (by simp [hts]) (fun _ => rfl) (fun q u hu => by
    rw [h.cell ho]
    cases q with
    | zero => simp at hu; subst hu; simp [arrC, h1]
    | succ q => simp at hu)
  unfold execOp
  simp only [h.ev hx, den_o]
  simp [Instr.loadAt, Instr.sureAddr, this, hag]

/-- Text of a part of a local array of bytes: the slice and its conversion, one behind the other. -/
theorem step_arrStr (hT : TabOk P T) (h : Sb β X G D H O a w) {t s dt : TypeId} {x : Operand} {lo hi : Option Operand} {d d2 : Nat} {ps ps2 : String} {af af2 : Array Edge} {ty ty2 : TypeId}
    (hlt : okD X d = true) (hlt2 : okD X d2 = true) {id m : Nat} {l z : List Int} {lw u : Int} {t0 e e2 : TypeId} {te ee se de ee2 : TE}
    (ht : lookT T t = some te) (htd : te.d = .array m e) (he : lookT T e = some ee) (hes : ee.size = 1) (hm : l.length = m) (hse : lookT T s = some se) (hsd : se.d = .slice e2) (he2 : lookT T e2 = some ee2) (hed2 : ee2.d = .int .u8)
    (hde : lookT T dt = some de) (hdd : de.d = .string) (hx : gv G x = some (.o id 0)) (ho : lookN H id = some ⟨arrC .u8 l, t0⟩) (hlo : bndV G lo 0 lw) (hhi : bndV G hi (l.length : Int) u) (hsl : slc l lw u = some z)
    (hk : ∀ a', Sb β X (setN (remN G d) d2 (.v (strV (bstr z)))) D H O a' w → wpList P ops Q rest a' w) :
    wpList P ops Q (⟨some d, .slice t x lo hi none, ty, ps, af, none⟩ :: ⟨some d2, .convert s dt (.tmp d), ty2, ps2, af2, none⟩ :: rest) a w := by
  subst hm
  obtain ⟨h0, h1, h2, hys, hyl⟩ := slc_ok hsl
  have hun : (underlying t).run P w = .ok (.array l.length e) w := by rw [run_under hT w ht, htd]
  have hb := run_bounds (P := P) (isS := false) (cap := l.length) h hlo hhi h0 h1 (by omega) (Nat.le_refl _)
  have hrun : (execOp a.eval ⟨some d, .slice t x lo hi none, ty, ps, af, none⟩).run P w = .ok (.value (.slice (some (if l.length = lw.toNat then ⟨β id, 0, none⟩ else ⟨β id, lw.toNat, none⟩)) z.length (l.length - lw.toNat))) w := by
    have hlen : u.toNat - lw.toNat = z.length := by omega
    unfold execOp
    simp only [h.ev hx, den_o]
    simp [Instr.sliceAt, hun, Instr.sureAddr, hb, run_sizeOf' hT w he, hes, Addr.add_lit, hlen]
  refine wpList_go (by simp [Region.wanted]) (wp_value hrun ?_)
  have h' := h.forget hlt (.slice (some (if l.length = lw.toNat then ⟨β id, 0, none⟩ else ⟨β id, lw.toNat, none⟩)) z.length (l.length - lw.toNat))
  have hev : (a.put (some d) (.slice (some (if l.length = lw.toNat then ⟨β id, 0, none⟩ else ⟨β id, lw.toNat, none⟩)) z.length (l.length - lw.toNat))).eval (.tmp d) =
      .slice (some (if l.length = lw.toNat then ⟨β id, 0, none⟩ else ⟨β id, lw.toNat, none⟩)) z.length (l.length - lw.toNat) := by
    have := okD_lt hlt
    simp [Act.eval, Act.put, h.sz, this]
  have hus := (lookT_ok hT hse).2; rw [hsd] at hus
  have hut := (lookT_ok hT hde).2; rw [hdd] at hut
  have hue := (lookT_ok hT he2).2; rw [hed2] at hue
  have hload : (loadCells (if l.length = lw.toNat then ⟨β id, 0, none⟩ else ⟨β id, lw.toNat, none⟩) z.length).run P w = .ok (z.map (Value.int .u8)).toArray w := by
    have := run_loadCells_list (P := P) w (if l.length = lw.toNat then ⟨β id, 0, none⟩ else ⟨β id, lw.toNat, none⟩) (z.map (Value.int .u8)) (fun j v hj => by
      rw [List.getElem?_map] at hj
      obtain ⟨y, hy, rfl⟩ := Option.map_eq_some_iff.1 hj
      have hj' := (List.getElem?_eq_some_iff.1 hy).1
      rw [if_neg (by omega), addr_add, h.cell ho]
      rw [hys, List.getElem?_take_of_lt (by omega), List.getElem?_drop] at hy
      simp [arrC, hy])
    simpa using this
  have hconv : (convert s dt (.slice (some (if l.length = lw.toNat then ⟨β id, 0, none⟩ else ⟨β id, lw.toNat, none⟩)) z.length (l.length - lw.toNat))).run P w = .ok (strV (bstr z)) w := by
    rw [run_convert_bytes_string (P := P) w s dt e2 _ _ _ hus hue hut, run_bytesToString w _ _ _ z hload]
    have := foldl_push z []
    simp only [List.nil_append] at this
    show Result.ok (Value.string (z.foldl _ (ByteArray.mk ([] : List UInt8).toArray))) w = _
    rw [this]; rfl
  have hrun2 : (execOp (a.put (some d) (.slice (some (if l.length = lw.toNat then ⟨β id, 0, none⟩ else ⟨β id, lw.toNat, none⟩)) z.length (l.length - lw.toNat))).eval ⟨some d2, .convert s dt (.tmp d), ty2, ps2, af2, none⟩).run P w = .ok (.value (strV (bstr z))) w := by
    unfold execOp
    simp only [hev]
    simp [hconv]
  refine wpList_go (by simp [Region.wanted]) (wp_value hrun2 ?_)
  exact hk _ (h'.put hlt2 (.v _))
end
end Gd

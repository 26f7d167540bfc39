/- Sequences of quiet operations, new objects and stores into them. -/
import Derived.Test.YtnlnadfpfekeiaaDoorGOps
namespace Gd
open Go Go.RowKit
set_option linter.unusedVariables false
set_option linter.unusedSimpArgs false
def guardV (ops : Array Oper) (G : GL) (o : Oper) : Option Bool :=
  match o.guard with
  | none => some true
  | some (j, want) => match ops[j]? with
    | some p => match p.dst with
      | some t => match lookN G t with
        | some (.v (.bool b)) => some (b == want)
        | some (.v (.tuple _)) => some false
        | _ => none
      | none => none
    | none => none
def remO : GL → Nat → GL
  | [], _ => []
  | (k, .v x) :: l, d => (k, .v x) :: remO l d
  | (k, .o id off) :: l, d => bif Nat.beq id d then remO l d else (k, .o id off) :: remO l d
theorem remO_mem {l : GL} {d : Nat} {p : Nat × AV} (h : p ∈ remO l d) : p ∈ l ∧ ∀ off, p.2 ≠ .o d off := by
  induction l with
  | nil => simp [remO] at h
  | cons q l ih =>
    obtain ⟨k, x⟩ := q
    cases x with
    | v x =>
      simp only [remO, List.mem_cons] at h
      rcases h with rfl | h
      · exact ⟨.head _, fun off e => by cases e⟩
      · exact ⟨.tail _ (ih h).1, (ih h).2⟩
    | o id off =>
      simp only [remO] at h
      cases hb : Nat.beq id d with
      | true => rw [hb] at h; exact ⟨.tail _ (ih h).1, (ih h).2⟩
      | false =>
        rw [hb] at h
        simp only [cond_false, List.mem_cons] at h
        rcases h with rfl | h
        · refine ⟨.head _, fun off e => ?_⟩
          injection e with e1 e2
          subst e1
          simp [Nat.beq_refl] at hb
        · exact ⟨.tail _ (ih h).1, (ih h).2⟩
def allOne : List Value → Bool
  | [] => true
  | v :: l => v.oneCell' && allOne l
theorem allOne_ok {l : List Value} (h : allOne l = true) : ∀ v ∈ l, v.oneCell' = true := by
  induction l with
  | nil => simp
  | cons x l ih =>
    simp only [allOne, Bool.and_eq_true] at h
    intro v hv
    rcases List.mem_cons.1 hv with rfl | hv
    · exact h.1
    · exact ih h.2 v hv
def stepL (T : Tab) (ops : Array Oper) (X : Cx) (o : Oper) (G : GL) (H : HL) : Option (GL × HL) :=
  match guardV ops G o with
  | none => none
  | some false => match o.dst with
    | some d => bif okD X d then some (setN G d (.v undef), H) else none
    | none => some (G, H)
  | some true => match o.op with
    | .alloc t => match o.dst, lookT T t with
      | some d, some e => bif okD X d && noPin X then some (setN (remO G d) d (.o d 0), setN H d ⟨cellsL e.z, t⟩) else none
      | _, _ => none
    | .box t x => match o.dst, gv G x with
      | some d, some (.v v) => bif okD X d && noPin X then some (setN (remO G d) d (.o d 0), setN H d ⟨cellsL v, t⟩) else none
      | _, _ => none
    | .store t p x => match o.dst, gv G p, gv G x with
      | none, some (.o id off), some (.v v) => match lookN H id, lookT T t with
        | some ob, some e => bif Nat.beq (cellsL v).length e.size && Nat.ble (off + e.size) ob.cs.length && allOne (cellsL v) then
            some (G, setN H id ⟨ob.cs.take off ++ cellsL v ++ ob.cs.drop (off + (cellsL v).length), ob.t⟩) else none
        | _, _ => none
      | _, _, _ => none
    | op => match evalOp T G H op, o.dst with
      | some x, some d => bif okD X d then some (setN G d x, H) else none
      | some _, none => some (G, H)
      | none, _ => none
section
variable {P : Program} {T : Tab} {β : Nat → Nat} {X : Cx} {G : GL} {D : List DF} {H : HL} {O : List TL} {a : Act} {w w' : World}
theorem guardV_ok (h : Sb β X G D H O a w) {ops : Array Oper} {o : Oper} {g : Bool} (hg : guardV ops G o = some g) : Region.wanted o (yielded ops a.tmps) = g := by
  unfold guardV at hg
  unfold Region.wanted
  split at hg
  · rename_i hn; rw [hn]; simpa using hg
  · rename_i j want hn
    rw [hn]
    split at hg
    · rename_i p hp
      split at hg
      · rename_i t ht
        split at hg
        · rename_i b hb
          simp at hg
          have := h.tm _ (lookN_mem hb)
          simp only [den_v] at this
          have hy : yielded ops a.tmps j = some b := by simp [yielded, hp, ht, this]
          show (yielded ops a.tmps j == some want) = g
          rw [hy, ← hg]
          cases b <;> cases want <;> rfl
        · rename_i hb
          simp at hg
          have := h.tm _ (lookN_mem hb)
          simp only [den_v] at this
          have hy : yielded ops a.tmps j = none := by simp [yielded, hp, ht, this]
          show (yielded ops a.tmps j == some want) = g
          rw [hy, hg]; rfl
        · cases hg
      · cases hg
    · cases hg
theorem Sb.alloc (h : Sb β X G D H O a w) {d : Nat} (hdX : okD X d = true) (hpX : noPin X = true) (cs : List Value) (t : TypeId) :
    Sb (fun i => if i = d then w.heap.size else β i) X (setN (remO G d) d (.o d 0)) D (setN H d ⟨cs, t⟩) O (a.put (some d) (.pointer (some ⟨w.heap.size, 0, none⟩))) (w.alloc (.cells cs.toArray t)) := by
  have hsz : (w.alloc (.cells cs.toArray t)).heap.size = w.heap.size + 1 := by simp
  have hH : ∀ p ∈ setN H d (⟨cs, t⟩ : HB), (p = (d, ⟨cs, t⟩)) ∨ (p ∈ H ∧ p.1 ≠ d) := by
    intro p hp
    simp only [setN, List.mem_cons] at hp
    rcases hp with rfl | hp
    · exact .inl rfl
    · exact .inr (remN_mem hp)
  have hlt : ∀ p ∈ H, β p.1 < w.heap.size := fun p hp => heap_lt (h.obj p hp).1
  have hd := okD_lt hdX
  have hevo : Evo (okOf X.ok X.w.heap.size β H O w) w (w.alloc (.cells cs.toArray t)) := Evo.of_blocks (by simp) fun b o hb => Below.heap_alloc _ _ _ hb.2.1
  have hok : ∀ b o, okOf X.ok X.w.heap.size β H O w b o → okOf X.ok X.w.heap.size (fun i => if i = d then w.heap.size else β i) (setN H d ⟨cs, t⟩) O (w.alloc (.cells cs.toArray t)) b o := by
    rintro b o ⟨h1, h2, h3, h4⟩
    refine ⟨h1, by omega, ?_, h4⟩
    intro p hp
    rcases hH p hp with rfl | ⟨hp, hne⟩
    · simp; omega
    · simp [hne, h3 p hp]
  refine { sz := ?_, df := ?_, fr := ?_, pn := fun f hf => by (rw [noPin_ok hpX] at hf; cases hf), tm := ?_, bel := ?_, dat := ?_, obj := ?_, own := ?_, dHH := ?_, dHO := ?_, dOO := h.dOO }
  · simp [Act.put, h.sz]
  · exact h.df
  · intro k hk
    have hne : d ≠ k := fun e => okD_res hdX (e ▸ hk)
    simp [Act.put, hne, h.fr k hk]
  · intro p hp
    simp only [setN, List.mem_cons] at hp
    rcases hp with rfl | hp
    · simp [Act.put, h.sz, hd, den]
    · obtain ⟨hp, hne⟩ := remN_mem hp
      obtain ⟨hp, hno⟩ := remO_mem hp
      have hne' : d ≠ p.1 := fun e => hne e.symm
      have hden : den (fun i => if i = d then w.heap.size else β i) p.2 = den β p.2 := by
        cases hx : p.2 with
        | v x => rfl
        | o id off =>
          have : id ≠ d := by rintro rfl; exact hno off hx
          simp [den, this]
      rw [hden]
      simp [Act.put, hne', h.tm p hp]
  · exact h.bel.trans (BelowL.of _ ((Below.refl _ _).alloc h.bel.size _))
  · exact (h.dat.evo hevo).weak hok
  · intro p hp
    rcases hH p hp with rfl | ⟨hp, hne⟩
    · simp only [if_true]
      exact ⟨heap_alloc_new w _, .inl h.bel.size⟩
    · simp only [if_neg hne]
      exact ⟨by rw [Below.heap_alloc _ _ _ (hlt p hp), (h.obj p hp).1], (h.obj p hp).2⟩
  · exact fun u hu => ⟨u.weak (u.keep (h.own u hu).1 (fun g hg => Below.heap_alloc _ _ _ (h.olt hu hg)) hevo) hok, (h.own u hu).2⟩
  · intro p hp q hq hne
    rcases hH p hp with rfl | ⟨hp, hnp⟩
    · rcases hH q hq with rfl | ⟨hq, hnq⟩
      · exact absurd rfl hne
      · simp only [if_true, if_neg hnq]; have := hlt q hq; omega
    · rcases hH q hq with rfl | ⟨hq, hnq⟩
      · simp only [if_true, if_neg hnp]; have := hlt p hp; omega
      · simp only [if_neg hnp, if_neg hnq]; exact h.dHH p hp q hq hne
  · intro p hp u hu
    rcases hH p hp with rfl | ⟨hp, hnp⟩
    · intro e
      have := h.olt hu e
      simp at this
    · simp only [if_neg hnp]; exact h.dHO p hp u hu
theorem Sb.store (h : Sb β X G D H O a w) {id : Nat} {ob : HB} (ho : lookN H id = some ob) (cs : List Value) (hl : cs.length = ob.cs.length) :
    Sb β X G D (setN H id ⟨cs, ob.t⟩) O a (w.setRow (β id) cs.toArray) := by
  have hm := lookN_mem ho
  have hob := (h.obj _ hm).1
  simp only at hob
  have hH : ∀ p ∈ setN H id (⟨cs, ob.t⟩ : HB), (p = (id, ⟨cs, ob.t⟩)) ∨ (p ∈ H ∧ p.1 ≠ id) := by
    intro p hp
    simp only [setN, List.mem_cons] at hp
    rcases hp with rfl | hp
    · exact .inl rfl
    · exact .inr (remN_mem hp)
  have hbg : X.mine (β id) := (h.obj _ hm).2
  have hevo : Evo (okOf X.ok X.w.heap.size β H O w) w (w.setRow (β id) cs.toArray) := Evo.of_blocks (by simp) fun b o hb => setRow_other _ _ _ _ (fun e => hb.2.2.1 _ hm e.symm)
  have hok : ∀ b o, okOf X.ok X.w.heap.size β H O w b o → okOf X.ok X.w.heap.size β (setN H id ⟨cs, ob.t⟩) O (w.setRow (β id) cs.toArray) b o := by
    rintro b o ⟨h1, h2, h3, h4⟩
    refine ⟨h1, by simpa using h2, ?_, h4⟩
    intro p hp
    rcases hH p hp with rfl | ⟨hp, hne⟩
    · exact h3 (id, ob) hm
    · exact h3 p hp
  refine { sz := h.sz, df := h.df, fr := h.fr, pn := fun f hf p hp => ?_, tm := h.tm, bel := ?_, dat := ?_, obj := ?_, own := ?_, dHH := ?_, dHO := ?_, dOO := h.dOO }
  · rcases hH p hp with rfl | ⟨hp, hne⟩
    · exact h.pn f hf (id, ob) hm
    · exact h.pn f hf p hp
  · exact h.bel.trans ⟨rfl, rfl, rfl, by simp, fun k hk hn => setRow_other _ _ _ _ (fun e => hbg.elim (fun hg => by omega) (fun hg => hn (e ▸ hg)))⟩
  · exact (h.dat.evo hevo).weak hok
  · intro p hp
    rcases hH p hp with rfl | ⟨hp, hne⟩
    · exact ⟨setRow_heap _ _ _ _ _ _ hob, hbg⟩
    · exact ⟨by rw [setRow_other _ _ _ _ (h.dHH p hp _ hm hne)]; exact (h.obj p hp).1, (h.obj p hp).2⟩
  · exact fun u hu => ⟨u.weak (u.keep (h.own u hu).1 (fun g hg => setRow_other _ _ _ _ (fun e => h.dHO _ hm u hu (e ▸ hg))) hevo) hok, (h.own u hu).2⟩
  · intro p hp q hq hne
    rcases hH p hp with rfl | ⟨hp, hnp⟩
    · rcases hH q hq with rfl | ⟨hq, hnq⟩
      · exact absurd rfl hne
      · exact h.dHH (id, ob) hm q hq hne
    · rcases hH q hq with rfl | ⟨hq, hnq⟩
      · exact h.dHH p hp (id, ob) hm hne
      · exact h.dHH p hp q hq hne
  · intro p hp u hu
    rcases hH p hp with rfl | ⟨hp, hnp⟩
    · exact h.dHO (id, ob) hm u hu
    · exact h.dHO p hp u hu
theorem wpList_go {ops : Array Oper} {Q : Exit → Act → World → Prop} {rest : List Oper} {o : Oper} (hw : Region.wanted o (yielded ops a.tmps) = true)
    (h : o.wp P a w (wpList P ops Q rest) Q) : wpList P ops Q (o :: rest) a w := by
  unfold wpList
  rw [if_pos hw]
  exact .inl h
theorem wp_value {o : Oper} {next : Act → World → Prop} {Q : Exit → Act → World → Prop} {v : Value} (hr : (execOp a.eval o).run P w = .ok (.value v) w') (h : next (a.put o.dst v) w') :
    o.wp P a w next Q := by
  unfold Oper.wp; rw [hr]; exact h
theorem stepL_ok (hT : TabOk P T) (h : Sb β X G D H O a w) {ops : Array Oper} {Q : Exit → Act → World → Prop} {o : Oper} {rest : List Oper} {G' : GL} {H' : HL}
    (hs : stepL T ops X o G H = some (G', H')) (hk : ∀ β' a' w', Sb β' X G' D H' O a' w' → wpList P ops Q rest a' w') : wpList P ops Q (o :: rest) a w := by
  unfold stepL at hs
  split at hs
  · cases hs
  · rename_i hg
    have hw := guardV_ok h hg
    unfold wpList
    rw [if_neg (by rw [hw]; simp)]
    split at hs
    · rename_i d hd
      cases hb : okD X d with
      | false => rw [hb] at hs; cases hs
      | true =>
        rw [hb] at hs
        simp at hs
        obtain ⟨rfl, rfl⟩ := hs
        rw [hd]
        exact hk _ _ _ (h.put hb (.v undef))
    · rename_i hd
      simp at hs
      obtain ⟨rfl, rfl⟩ := hs
      rw [hd]
      exact hk _ _ _ h
  · rename_i hg
    refine wpList_go (guardV_ok h hg) ?_
    split at hs
    · rename_i t hop
      split at hs
      · rename_i d e hd he
        cases hb : (okD X d && noPin X) with
        | false => rw [hb] at hs; cases hs
        | true =>
          rw [hb] at hs
          simp only [Bool.and_eq_true] at hb
          simp only [cond_true, Option.some.injEq, Prod.mk.injEq] at hs
          obtain ⟨rfl, rfl⟩ := hs
          have hrun : (execOp a.eval o).run P w = .ok (.value (.pointer (some ⟨w.heap.size, 0, none⟩))) (w.alloc (.cells (cellsL e.z).toArray t)) := by
            unfold execOp
            simp only [hop]
            simp [Instr.alloc, run_zeroValue hT w he, newVar, newRow, cellsL_eq]
          refine wp_value hrun ?_
          rw [hd]
          exact hk _ _ _ (h.alloc hb.1 hb.2 _ _)
      · cases hs
    · rename_i t x hop
      split at hs
      · rename_i d v hd hv
        cases hb : (okD X d && noPin X) with
        | false => rw [hb] at hs; cases hs
        | true =>
          rw [hb] at hs
          simp only [Bool.and_eq_true] at hb
          simp only [cond_true, Option.some.injEq, Prod.mk.injEq] at hs
          obtain ⟨rfl, rfl⟩ := hs
          have hrun : (execOp a.eval o).run P w = .ok (.value (.pointer (some ⟨w.heap.size, 0, none⟩))) (w.alloc (.cells (cellsL v).toArray t)) := by
            unfold execOp
            simp only [hop, h.ev hv, den_v]
            simp [Instr.box, newVar, newRow, cellsL_eq]
          refine wp_value hrun ?_
          rw [hd]
          exact hk _ _ _ (h.alloc hb.1 hb.2 _ _)
      · cases hs
    · rename_i t p x hop
      split at hs
      · rename_i id off v hd hp hx
        split at hs
        · rename_i ob e ho he
          cases hb : (Nat.beq (cellsL v).length e.size && Nat.ble (off + e.size) ob.cs.length && allOne (cellsL v)) with
          | false => rw [hb] at hs; cases hs
          | true =>
            rw [hb] at hs
            simp only [cond_true, Option.some.injEq, Prod.mk.injEq] at hs
            obtain ⟨rfl, rfl⟩ := hs
            simp only [Bool.and_eq_true] at hb
            obtain ⟨⟨hb1, hb2⟩, hb3⟩ := hb
            have hl := Nat.eq_of_beq_eq_true hb1
            have hle := Nat.le_of_ble_eq_true hb2
            have hob := (h.obj _ (lookN_mem ho)).1
            simp only at hob
            have hst := run_storeCells_at P (β id) off ob.t (cellsL v) 0 ob.cs.toArray w hob (by simp; omega) (allOne_ok hb3)
            simp only [Nat.add_zero, List.toList_toArray] at hst
            have hsz : v.cells.size = e.size := by rw [← hl, cellsL_eq]; simp
            have hrun : (execOp a.eval o).run P w = .ok .skip (w.setRow (β id) (ob.cs.take off ++ cellsL v ++ ob.cs.drop (off + (cellsL v).length)).toArray) := by
              unfold execOp
              simp only [hop, h.ev hp, h.ev hx, den_v, den_o]
              rw [cellsL_eq] at hst
              simp [Instr.storeAt, Instr.sureAddr, storeVar, run_sizeOf' hT w he, hsz, cellsL_eq, hst]
            unfold Oper.wp
            rw [hrun]
            show wpList P ops Q rest (a.put o.dst undef) _
            rw [hd]
            exact hk _ _ _ (h.store ho _ (by simp; omega))
        · cases hs
      · cases hs
    · split at hs
      · rename_i x d hx hd
        cases hb : okD X d with
        | false => rw [hb] at hs; cases hs
        | true =>
          rw [hb] at hs
          simp only [cond_true, Option.some.injEq, Prod.mk.injEq] at hs
          obtain ⟨rfl, rfl⟩ := hs
          refine wp_value (evalOp_ok hT h hx) ?_
          rw [hd]
          exact hk _ _ _ (h.put hb _)
      · rename_i x hx hd
        simp at hs
        obtain ⟨rfl, rfl⟩ := hs
        refine wp_value (evalOp_ok hT h hx) ?_
        rw [hd]
        exact hk _ _ _ h
      · cases hs
end
end Gd

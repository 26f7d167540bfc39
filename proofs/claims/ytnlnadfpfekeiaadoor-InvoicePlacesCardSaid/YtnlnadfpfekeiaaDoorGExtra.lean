/- Struct equality, literals of the call's own, results in cells, local arrays, function values. -/
import Derived.Test.YtnlnadfpfekeiaaDoorGDraw
namespace Gd
open Go Go.RowKit
set_option linter.unusedVariables false
set_option linter.unusedSimpArgs false

/-- The equality of structs of plain fields, field by field. -/
def eqFs (T : Tab) : List Field → List Value → List Value → Option Bool
  | [], _, _ => some true
  | f :: fs, xs, ys => match lookT T f.type, xs[f.offset]?, ys[f.offset]?, eqFs T fs xs ys with
    | some ⟨_, .int _, _, _, _⟩, some (.int k a), some (.int k' b), some r => bif sameK k k' then some ((a == b) && r) else none
    | some ⟨_, .bool, _, _, _⟩, some (.bool a), some (.bool b), some r => some ((a == b) && r)
    | some ⟨_, .string, _, _, _⟩, some (.string ⟨⟨a⟩⟩), some (.string ⟨⟨b⟩⟩), some r => some ((a == b) && r)
    | _, _, _, _ => none
def blankB (fs : List Field) : Bool := fs.all fun f => f.name != "_"

section
variable {P : Program} {T : Tab} {β : Nat → Nat} {X : Cx} {G : GL} {D : List DF} {H : HL} {O : List TL} {a : Act} {w w' : World}
variable {ops : Array Oper} {Q : Exit → Act → World → Prop} {rest : List Oper}

theorem part_plain (hT : TabOk P T) {t : TypeId} {e : TE} (he : lookT T t = some e) (ha : isAggD e.d = false) {xs : List Value} {off : Nat} {v : Value} (hv : xs[off]? = some v) :
    (part t xs.toArray off).run P w = .ok v w := run_part hT w he xs off (by rw [ha]; simpa using hv)

theorem eqFs_ok (hT : TabOk P T) (d : Nat) : ∀ {fs : List Field} {xs ys : List Value} {r : Bool}, blankB fs = true → eqFs T fs xs ys = some r → (Op.eqFields (d + 1) xs.toArray ys.toArray fs).run P w = .ok r w
  | [], xs, ys, r, _, h => by simp [eqFs] at h; subst h; rfl
  | f :: fs, xs, ys, r, hb, h => by
    simp only [blankB, List.all_cons, Bool.and_eq_true] at hb
    have hn : f.name ≠ "_" := by simpa using hb.1
    simp only [eqFs] at h
    have key : ∀ {e : TE} {u v : Value} {p q : Bool}, lookT T f.type = some e → isAggD e.d = false → xs[f.offset]? = some u → ys[f.offset]? = some v →
        (Op.equalIn (d + 1) f.type u v).run P w = .ok p w → eqFs T fs xs ys = some q → (Op.eqFields (d + 1) xs.toArray ys.toArray (f :: fs)).run P w = .ok (p && q) w := by
      intro e u v p q he ha hu hv hp hq
      have ih := eqFs_ok hT d (by simpa [blankB] using hb.2) hq
      simp only [Op.eqFields, ne_eq, hn, not_false_eq_true, if_true, Sem.run_bind, part_plain hT he ha hu, part_plain hT he ha hv, Result.andThen_ok, hp]
      cases p with
      | true => simpa using ih
      | false => simp
    split at h
    · rename_i t1 k z1 s1 b1 k1 a1 k2 a2 q he hu hv hq
      cases hk : sameK k1 k2 with
      | false => rw [hk] at h; cases h
      | true =>
        rw [hk] at h
        simp only [cond_true, Option.some.injEq] at h
        subst h
        have := sameK_eq hk
        subst this
        exact key he rfl hu hv (run_equalIn_int w d f.type k1 k a1 a2 (lookT_ok hT he).2) hq
    · rename_i he hu hv hq
      simp at h; subst h
      exact key he rfl hu hv (run_equalIn_bool' w d f.type _ _ (lookT_ok hT he).2) hq
    · rename_i t1 z1 s1 b1 a1 a2 q he hu hv hq
      simp at h; subst h
      refine key he rfl hu hv ?_ hq
      rw [run_equalIn_string w d f.type ⟨⟨a1⟩⟩ ⟨⟨a2⟩⟩ (lookT_ok hT he).2]
      rw [show (ByteArray.mk ⟨a1⟩).toList = a1 from ByteArray.toList_mk a1, show (ByteArray.mk ⟨a2⟩).toList = a2 from ByteArray.toList_mk a2]
    · cases h

theorem step_eqAgg (hT : TabOk P T) (h : Sb β X G D H O a w) (neg : Bool) {t yt : TypeId} {x y : Operand} {d : Nat} {ps : String} {af : Array Edge} {ty : TypeId} {gd : Option (Nat × Bool)}
    (hg : guardV ops G ⟨some d, .binOp (bif neg then .neq else .eql) t x y yt, ty, ps, af, gd⟩ = some true) (hlt : okD X d = true)
    {xs ys : List Value} {fs : List Field} {te : TE} (ht : lookT T t = some te) (htd : te.d = .struct ⟨fs⟩) (hst : P.stoodInHeld t = false) (heg : P.eqGuardType P.depth t = false) (hbl : blankB fs = true)
    (hx : gv G x = some (.v (.agg ⟨xs⟩))) (hy : gv G y = some (.v (.agg ⟨ys⟩))) {r : Bool} (hr : eqFs T fs xs ys = some r)
    (hk : ∀ a', Sb β X (setN G d (.v (.bool (bif neg then !r else r)))) D H O a' w → wpList P ops Q rest a' w) :
    wpList P ops Q (⟨some d, .binOp (bif neg then .neq else .eql) t x y yt, ty, ps, af, gd⟩ :: rest) a w := by
  refine step_val h (g := none) hg rfl hlt ?_ hk
  have hu := (lookT_ok hT ht).2; rw [htd] at hu
  have hf : P.fieldsOf t = ⟨fs⟩ := by simp [Program.fieldsOf, hu]
  have heq : (Op.equal t (.agg ⟨xs⟩) (.agg ⟨ys⟩)).run P w = .ok r w := by
    have := run_equalIn_struct (P := P) w 9999 t ⟨xs⟩ ⟨ys⟩ (by rw [hf, hu]) hst
    rw [hf] at this
    show (Op.equalIn 10000 t _ _).run P w = _
    rw [this]
    exact eqFs_ok hT 9998 hbl hr
  unfold execOp
  simp only [h.ev hx, h.ev hy, den_v]
  cases neg with
  | true => simp [eqGuard, heg, binOp, heq]
  | false => simp [eqGuard, heg, binOp, heq]

/-- A new row of the call's own, in a block that has just been made. -/
theorem Sb.allocTL (h : Sb β X G D H O a w) (hb : Below w.heap.size w w') {t : TL} (ht : ∀ g, t.blks g → w.heap.size ≤ g) (hq : t.p (okOf X.ok X.w.heap.size β H (t :: O) w') w') : Sb β X G D H (t :: O) a w' := by
  have h' := h.below hb
  have hevo : Evo (okOf X.ok X.w.heap.size β H O w) w w' := (Evo.of_below hb).mono fun b o hk => hk.2.1
  have hok : ∀ b o, okOf X.ok X.w.heap.size β H O w b o → okOf X.ok X.w.heap.size β H (t :: O) w' b o := by
    rintro b o ⟨h1, h2, h3, h4⟩
    refine ⟨h1, Nat.lt_of_lt_of_le h2 hb.size, h3, fun u hu hc => ?_⟩
    rcases List.mem_cons.1 hu with rfl | hu
    · have := ht b (u.cb hc); omega
    · exact h4 u hu hc
  refine { h' with dat := (h.dat.evo hevo).weak hok, own := fun u hu => ?_, dHO := fun p hp u hu => ?_, dOO := List.Pairwise.cons (fun u hu g hg hg2 => ?_) h'.dOO }
  · rcases List.mem_cons.1 hu with rfl | hu
    · exact ⟨hq, fun g hg => .inl (Nat.le_trans h.bel.size (ht g hg))⟩
    · exact ⟨u.weak (u.keep (h.own u hu).1 (fun g hg => hb.block g (h.olt hu hg)) hevo) hok, (h.own u hu).2⟩
  · rcases List.mem_cons.1 hu with rfl | hu
    · intro hg
      have := ht _ hg
      have := h.hlt hp
      omega
    · exact h'.dHO p hp u hu
  · have := ht g hg
    have := h.olt hu hg2
    omega

theorem Sb.allocOwn (h : Sb β X G D H O a w) (hb : Below w.heap.size w w') {v : Value} {e sz m : Nat} {xs : List Value} (hv : v.ownBlock = some w.heap.size ∨ v.ownBlock = none) (hm : lenV v = m) (hown : w'.ownsRowS 0 e sz v m xs) :
    Sb β X G D H (tl v e sz :: O) a w' := by
  subst hm
  refine h.allocTL hb (t := tl v e sz) (fun g hg => ?_) ⟨xs, hown⟩
  rcases hv with hv | hv
  · have hg : v.ownBlock = some g := hg
    rw [hv] at hg; injection hg with hg; omega
  · have hg : v.ownBlock = some g := hg
    rw [hv] at hg; cases hg

theorem own_new (w : World) (B : Nat) (hB : B ≤ w.heap.size) (e sz m : Nat) (cs : List Value) (hl : cs.length = m * sz) (hm : m ≤ maxLen) :
    (w.alloc (.cells cs.toArray e)).ownsRowS B e sz (.slice (some ⟨w.heap.size, 0, none⟩) m m) m cs :=
  ⟨hl, .inr ⟨w.heap.size, m, cs.toArray, (0, 0), rfl, hB, heap_alloc_new w _, .inl rfl, Nat.le_refl _, hm, by simp [hl], by rw [← hl]; simp⟩⟩

/-- A literal slice that will be appended to: a row of the call's own. -/
theorem step_buildOwn0 (hT : TabOk P T) (h : Sb β X G D H O a w) {t : TypeId} {d : Nat} {ps : String} {af : Array Edge} {ty : TypeId} {gd : Option (Nat × Bool)}
    (hg : guardV ops G ⟨some d, .buildSlice t 0 ⟨[]⟩, ty, ps, af, gd⟩ = some true) (hlt : okD X d = true)
    {τ : Type} {r : RT τ} {e : TypeId} {te ee : TE} (ht : lookT T t = some te) (htd : te.d = .slice e) (he : lookT T e = some ee)
    (hk : ∀ b a' w', isV (rSl r) (okOf X.ok X.w.heap.size β H (tl (.slice (some ⟨b, 0, none⟩) (List.length ([] : List τ)) 0) e ee.size :: O) w') w' [] (.slice (some ⟨b, 0, none⟩) (List.length ([] : List τ)) 0) →
      Sb β X (setN G d (.v (.slice (some ⟨b, 0, none⟩) (List.length ([] : List τ)) 0))) D H (tl (.slice (some ⟨b, 0, none⟩) (List.length ([] : List τ)) 0) e ee.size :: O) a' w' → wpList P ops Q rest a' w') :
    wpList P ops Q (⟨some d, .buildSlice t 0 ⟨[]⟩, ty, ps, af, gd⟩ :: rest) a w := by
  have hrun : (execOp a.eval ⟨some d, .buildSlice t 0 ⟨[]⟩, ty, ps, af, gd⟩).run P w = .ok (.value (.slice (some ⟨w.heap.size, 0, none⟩) 0 0)) (w.alloc (.cells #[] e)) := by
    have hun : (underlying t).run P w = .ok (.slice e) w := by rw [run_under hT w ht, htd]
    unfold execOp
    simp [Instr.buildSlice, hun, run_sizeOf' hT w he, Instr.fill, newRow]
    rw [show Array.range 0 = #[] from by simp [Array.range]]
    simp
  refine wpList_go (guardV_ok h hg) (wp_value hrun ?_)
  have hb : Below w.heap.size w (w.alloc (.cells #[] e)) := (Below.refl _ _).alloc (Nat.le_refl _) _
  exact hk _ _ _ (isV_sl.2 ⟨_, 0, 0, rfl, rfl, Nat.le_refl _, fun h => absurd h (by omega)⟩)
    ((h.allocOwn hb (.inl rfl) rfl (own_new w 0 (Nat.zero_le _) e ee.size 0 [] (by simp) (by simp [maxLen]))).put hlt (.v _))

/-- append to a slice without room: always a new one. -/
theorem step_append0 (hT : TabOk P T) (h : Sb β X G D H O a w) {t : TypeId} {s x : Operand} {d : Nat} {ps : String} {af : Array Edge} {ty : TypeId} {gd : Option (Nat × Bool)}
    (hg : guardV ops G ⟨some d, .call ⟨.builtin .append, ⟨[s, x]⟩, ⟨[t, t]⟩⟩, ty, ps, af, gd⟩ = some true) (hlt : okD X d = true)
    {τ : Type} {r : RT τ} {ys zs : List τ} {A A2 : Option Addr} {m2 c2 : Nat} {e : TypeId} {te ee : TE} (ht : lookT T t = some te) (htd : te.d = .slice e) (he : lookT T e = some ee) (hs : ee.size = r.size)
    (hz : Nat.beq (cellsL ee.z).length ee.size = true) (hsz : Nat.ble 1 ee.size = true) (hby : Nat.ble 1 ee.bytes = true)
    (hs1 : gv G s = some (.v (.slice A 0 0))) (hx1 : gv G x = some (.v (.slice A2 m2 c2)))
    (hDy : isV (rSl r) (okOf X.ok X.w.heap.size β H O w) w ys (.slice A2 m2 c2)) (happ : app ee.bytes ([] : List τ) ys = some zs)
    (hk : ∀ A' c' a' w', isV (rSl r) (okOf X.ok X.w.heap.size β H O w') w' zs (.slice A' zs.length c') → Sb β X (setN G d (.v (.slice A' zs.length c'))) D H O a' w' → wpList P ops Q rest a' w') :
    wpList P ops Q (⟨some d, .call ⟨.builtin .append, ⟨[s, x]⟩, ⟨[t, t]⟩⟩, ty, ps, af, gd⟩ :: rest) a w := by
  obtain ⟨hbytes, hzs⟩ := app_ok happ
  simp only [List.nil_append, List.length_nil, Nat.zero_add] at hbytes hzs
  subst hzs
  obtain ⟨csy, hcy1, hyl, hmc2, hA2, hcy2, hcy3, hcy4⟩ := slRep_cells (isV_sl.1 hDy)
  have hzl := Nat.eq_of_beq_eq_true hz
  have hsz' : 0 < ee.size := Nat.le_of_ble_eq_true hsz
  have hby' : 0 < ee.bytes := Nat.le_of_ble_eq_true hby
  have hu : P.underlying t = some (.slice e) := by rw [(lookT_ok hT ht).2, htd]
  obtain ⟨i, hi, hz', hsi, hbi⟩ := lookT_info hT he
  have hm2b : zs.length ≤ 140737488355328 := Nat.le_trans (Nat.le_mul_of_pos_right _ hby') hbytes
  have hm : (Array.mk [s, x]).map a.eval = ⟨[.slice A 0 0, .slice A2 m2 c2]⟩ := by simp [h.ev hs1, h.ev hx1, den_v]
  have hexec : ∀ v' w1, (Builtin.append_ ⟨[t, t]⟩ ty ⟨[.slice A 0 0, .slice A2 m2 c2]⟩).run P w = .ok v' w1 → (execOp a.eval ⟨some d, .call ⟨.builtin .append, ⟨[s, x]⟩, ⟨[t, t]⟩⟩, ty, ps, af, gd⟩).run P w = .ok (.value v') w1 := by
    intro v' w1 hr
    unfold execOp
    simp [resolve, hm, invoke, builtin, hr]
  rcases Nat.eq_zero_or_pos m2 with h0 | h0
  · subst h0
    have hx : zs = [] := List.eq_nil_of_length_eq_zero hyl
    subst hx
    have hrun : (Builtin.append_ ⟨[t, t]⟩ ty ⟨[.slice A 0 0, .slice A2 0 c2]⟩).run P w = .ok (.slice A 0 0) w := by
      cases A <;> cases A2 <;> simp [Builtin.append_, run_underlying hu, Go.sizeOf, typeInfo, hi, Builtin.lenOf, Builtin.firstCells, loadCells, loadCellsFrom, storeCells]
    refine wpList_go (guardV_ok h hg) (wp_value (hexec _ _ hrun) ?_)
    exact hk A 0 _ _ (isV_sl.2 ⟨_, 0, 0, rfl, rfl, Nat.le_refl _, fun h => absurd h (by omega)⟩) (h.put hlt (.v _))
  · obtain ⟨b, o, rfl, hc⟩ := hcy3 h0
    have hnews : ∀ j u, csy[j]? = some u → w.cell? ((⟨b, o, none⟩ : Addr).add j) = some u := fun j u hu => by rw [addr_add]; exact (hc j u hu).2
    have hrun : ∃ c', zs.length ≤ c' ∧ (Builtin.append_ ⟨[t, t]⟩ ty ⟨[.slice A 0 0, .slice (some ⟨b, o, none⟩) m2 c2]⟩).run P w =
        .ok (.slice (some ⟨w.heap.size, 0, none⟩) m2 c') (w.drew.alloc (.cells (csy.toArray ++ Builtin.zeroCells ee.z.cells (c' - m2)) e)) := by
      refine ⟨grownCap w m2 0 e, by rw [hyl]; exact grownCap_ge w m2 0 e, ?_⟩
      cases A with
      | none => exact run_append_nil (P := P) w t ty e i ee.z hu hi hz' _ m2 c2 csy (by rw [hsi, hs]; exact hcy1) hnews h0 (by omega) (by rw [hbi, ← hyl]; omega)
      | some ad =>
        have := run_append_grow (P := P) w t ty e i ee.z hu hi hz' ad 0 0 [] (by simp) (by simp) ⟨b, o, none⟩ m2 c2 csy (by rw [hsi, hs]; exact hcy1) hnews (by omega) (by omega) (growslice_fits (by omega) (by rw [hbi, Nat.zero_add, ← hyl]; exact hbytes))
        simpa using this
    obtain ⟨c', hle, hrun⟩ := hrun
    refine wpList_go (guardV_ok h hg) (wp_value (hexec _ _ hrun) ?_)
    have hb : Below w.heap.size w (w.drew.alloc (.cells (csy.toArray ++ Builtin.zeroCells ee.z.cells (c' - m2)) e)) := ((Below.refl _ _).drew.alloc (Nat.le_refl _) _)
    have := hk (some ⟨w.heap.size, 0, none⟩) c' _ _ (h.fresh (tail := (Builtin.zeroCells ee.z.cells (c' - m2)).toList) e c' hcy4 hle _ hb (by
      have : (w.drew.alloc (.cells (csy.toArray ++ Builtin.zeroCells ee.z.cells (c' - m2)) e)).heap[w.drew.heap.size]? = some (.cells (csy.toArray ++ Builtin.zeroCells ee.z.cells (c' - m2)) e) := heap_alloc_new w.drew _
      rw [show w.drew.heap.size = w.heap.size from rfl] at this
      rw [this]
      congr 2
      apply Array.ext'
      simp)) ((h.below hb).put hlt (.v _))
    simp only [den_v, hyl] at this
    exact this

/-! ## Results in cells -/

theorem ret1c_ok (hT : TabOk P T) (h : Sb β X G D H O a w) {fn : Func} {t : Nat} {ty : TypeId} {id : Nat} {ob : HB} {v : Value} (hr : fn.results = ⟨[.cell t ty]⟩) (hv : lookN G t = some (.o id 0)) (ho : lookN H id = some ob)
    (hc : cellsOf? T ty ob.cs 0 = some v) {R : Value → World → Prop} (hR : R v w) : bodyPost P fn (RetL X.lent X.w R) .ret a w := by
  refine ⟨h.df, v, ?_, v, rfl, hR, h.bel⟩
  have hop := evalOp_ok hT h (o := ⟨some 0, .load ty (.tmp t), 0, "", ⟨[]⟩, none⟩) (v := .v v) (by simp only [evalOp, gv, hv, ho, hc]; rfl)
  have ht := h.tm _ (lookN_mem hv)
  simp only [den_o] at ht
  have hev : a.eval (.tmp t) = .pointer (some ⟨β id, 0, none⟩) := by simp [Act.eval, ht]
  unfold execOp at hop
  simp only [hev, Instr.loadAt, Instr.sureAddr, Sem.run_bind, Sem.run_pure, Result.andThen_ok, den_v] at hop
  have hl : (loadVar ty ⟨β id, 0, none⟩).run P w = .ok v w := by
    cases hx : (loadVar ty ⟨β id, 0, none⟩).run P w with
    | ok u w1 => rw [hx] at hop; simp at hop; obtain ⟨h1, h2⟩ := hop; rw [h1, h2]
    | halt e w1 => rw [hx] at hop; simp at hop
  simp [results, hr, ht, asAddr, hl]
end
end Gd

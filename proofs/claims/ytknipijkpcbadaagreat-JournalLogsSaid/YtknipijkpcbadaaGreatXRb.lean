/- Operations that give a value, in a region whose order is open. -/
import Derived.Test.YtknipijkpcbadaaGreatXMy
namespace Gx
open Go Go.RowKit Gd
set_option linter.unusedVariables false
set_option linter.unusedSimpArgs false
theorem gvW {S : St} {β : Nat → Nat} {ρ : Nat → Value} {ok : Ok} {a : Act} {w : World} {N : Nat} (h : RelW β ρ ok S a w) (hs : a.tmps.size = N) {x : Operand} {v : AV} (hx : ev S [] x = some v) : gv (allG N a) x = some (.v (a.eval x)) := by
  cases x with
  | tmp t =>
    simp only [ev] at hx
    split at hx
    · rename_i e he
      obtain ⟨hb, hx⟩ := bvT hx
      obtain ⟨hm, ht⟩ := lookE_ok he
      obtain ⟨cs, h1, h2⟩ := (h.1 e hm).1 (subC_ok hb (holdsC_nil a))
      rw [lookE_rd he a, ht] at h1
      have hlt : t < a.tmps.size := by
        rcases Nat.lt_or_ge t a.tmps.size with h3 | h3
        · exact h3
        · rw [Array.getElem?_eq_none h3] at h1; cases h1
      simp only [gv, allG]
      rw [lookN_map (f := fun t => Gd.AV.v (a.tmps.getD t undef)) (List.mem_range.2 (hs ▸ hlt))]
      rfl
    · cases hx
  | const v => rfl
  | func f => rfl
  | global g => rfl
def ValSem (gl : List (Nat × Σ t : Ty, t.De)) (P : Program) (l0 : List Oper) (S : St) (o : Oper) (v : AV) : Prop :=
  ∀ {β : Nat → Nat} {ρ : Nat → Value} {β1 : Nat → Nat} {X : Cx} {D : List DF} {O : List TL} {a : Act} {w : World} {d : Nat} {Q : Exit → Act → World → Prop}, GlobOk gl (okN X) X.w → Sb β1 X (allG X.n a) D [] O a w → RelW β ρ (okOf X.ok X.w.heap.size β1 [] O w) S a w →
    Region.wanted o (yielded ⟨l0⟩ a.tmps) = true → guardV (⟨l0⟩ : Array Oper) (allG X.n a) o = some true → o.dst = some d → okD X d = true →
    (∀ a' w' cs, Sb β1 X (setN (allG X.n a) d (.v (v.val cs))) D [] O a' w' → cr β ρ (okOf X.ok X.w.heap.size β1 [] O w') w' false v cs → Q .normal a' w') → wpList P ⟨l0⟩ Q [o] a w
section
variable {P : Program} {Y : TX} {gl : List (Nat × Σ t : Ty, t.De)} {l0 : List Oper} {S : St} {o : Oper} {R : Type} {r : R}
theorem valQ {v : AV} (h : OpSem P S [] o v) : ValSem gl P l0 S o v := by
  intro β ρ β1 X D O a w d Q hG hS hR hw hg hd hok H
  obtain ⟨cs, h1, h2⟩ := h hR (holdsC_nil a)
  exact step_val hS (g := none) hg hd hok h1 fun a' hS' => H a' w cs hS' h2
theorem argD_ok {β : Nat → Nat} {ρ : Nat → Value} {ok : Ok} {a : Act} {w : World} (h : RelW β ρ ok S a w) : ∀ {xs : List Operand} {i : Nat} {es : List En} (pre : List Value), pre.length = i → argD S xs i = some es →
    es.length = xs.length ∧ ∀ e ∈ es, (enD β ρ ⟨(pre ++ xs.map a.eval).toArray, []⟩ e).p ok w
  | [], i, es, pre, _, he => by simp [argD] at he; subst he; exact ⟨rfl, by simp⟩
  | x :: xs, i, es, pre, hi, he => by
    simp only [argD] at he
    split at he
    · rename_i v r hv hr
      obtain ⟨hbi, he⟩ := bvT he
      simp at he; subst he
      obtain ⟨cs, h1, h2⟩ := h.ev (holdsC_nil a) hv
      obtain ⟨h3, h4⟩ := argD_ok h (xs := xs) (i := i + 1) (pre ++ [a.eval x]) (by simp [hi]) hr
      refine ⟨by simp [h3], fun e hm => ?_⟩
      have hl : pre ++ [a.eval x] ++ xs.map a.eval = pre ++ (x :: xs).map a.eval := by simp
      rw [hl] at h4
      rcases List.mem_cons.1 hm with rfl | hm
      · refine ⟨fun _ => ⟨cs, ?_, h2⟩, .inl (holdsC_nil _)⟩
        rw [rd_lt hbi]
        simp only [List.getElem?_toArray]
        rw [List.getElem?_append_right (by omega), ← hi]
        simp only [Nat.sub_self, List.map_cons, List.getElem?_cons_zero]
        exact congrArg some h1
      · exact h4 e hm
    · cases he
theorem isNilL_ok {α : Type} {l : List α} (h : isNilL l = true) : l = [] := by cases l <;> simp [isNilL] at h; rfl
theorem valCall {c : Con} (hc : ConOk P gl c) (hrun : Runs P c.f) {k : AV → Option R} (hs : callD c o.op S k = some r) : ∃ v, k v = some r ∧ allIds v = [] ∧ ValSem gl P l0 S o v := by
  unfold callD at hs
  split at hs
  · rename_i f xs ts hop
    obtain ⟨hb, hs⟩ := bvT hs
    simp only [Bool.and_eq_true] at hb
    have hf := Nat.eq_of_beq_eq_true hb.1.1
    have hΓ := isNilL_ok hb.1.2
    have hΔ := isNilL_ok hb.2
    split at hs
    · rename_i es hes
      obtain ⟨hlb, hs⟩ := bvT hs
      have hlen := Nat.eq_of_beq_eq_true hlb
      split at hs
      · rename_i x hx
        obtain ⟨y, hy, hs⟩ := bindE hs
        obtain ⟨hids, hs⟩ := bvT hs
        have hids := isNilL_ok hids
        have hall : allIds (resAV (enc c.Δ y).env) = [] := by
          cases hai : allIds (resAV (enc c.Δ y).env) with
          | nil => rfl
          | cons i l =>
            have := resAV_ids (enc c.Δ y).env i (by rw [hai]; exact .head _)
            rw [hids] at this; cases this
        refine ⟨_, hs, hall, ?_⟩
        intro β ρ β1 X D O a w d Q hGl hS hR hw hg hd hok H
        unfold decR at hx
        obtain ⟨hbx, hx⟩ := bvT hx
        split at hx
        · rename_i u v hu hv
          have hxl := ofL_ok hx
          obtain ⟨el, hE0⟩ := argD_ok hR [] rfl hes
          simp only [List.nil_append] at hE0
          obtain ⟨es', e1, e2⟩ := decEnv_ok (β := β) (ρ := ρ) (fun id ob ho => hR.2 id ob (by simpa using ho)) hE0 v hu
          have hmem : (enc c.Γ x).mem = [] := by
            unfold enc
            split
            rw [hΓ]; rfl
          have henv : (enc c.Γ x).env = es' := by
            unfold enc
            rw [hxl, e1]
          have hargs : ∀ e ∈ (enc c.Γ x).env, ∃ cs, (xs.map a.eval)[e.t]? = some (e.av.val cs) ∧ cr (newB [] β) (newR [] [] ρ) (okOf X.ok X.w.heap.size β1 [] O w) w false e.av cs := by
            intro e he
            rw [henv] at he
            have hcs : e.cs = [] := encEnv_cs (Γe := c.Γ.env) (l := u ++ v) e (by rw [e1]; exact he)
            obtain ⟨cs, p1, p2⟩ := (e2 e he).1.1 (by rw [hcs]; exact holdsC_nil _)
            rw [rd_lt (e2 e he).2] at p1
            exact ⟨cs, by simpa using p1, p2⟩
          have hcall := hc _ w [] _ _ x y (xs.map a.eval) (fun b f hk => hk.2.1) (glob_here hS hGl) (by rw [List.length_map, ← el, hlen]) (by rw [hmem]; exact ⟨by simp [memO], .nil, by simp⟩) hargs hy
          subst hf
          refine wpList_go hw ?_
          have hrun' : (execOp a.eval o).run P w = .ok (.enter c.f ⟨xs.map a.eval⟩) w := by
            unfold execOp
            rw [hop]
            have hm : (Array.mk xs).map a.eval = ⟨xs.map a.eval⟩ := by simp
            simp [resolve, hm, Act.eval, Deferred.ofValue, invoke, run_callFunc hrun]
          unfold Oper.wp
          rw [hrun']
          refine hcall.mono ?_
          rintro e' w' ⟨v0, rfl, ⟨β2, ρ2, hag, ⟨cs, hv0, hcr⟩, hT2, hpw2⟩, hbel⟩
          show wpList P ⟨l0⟩ Q [] (a.put o.dst v0) w'
          rw [hd]
          have h2 : Sb β1 X (allG X.n a) D [] ([] ++ O) a w := hS
          have h3 := Sb.callO (O1' := []) h2 hbel (by simp) (by simp) (by simp) .nil
          have h4 := h3.put hok (.v v0)
          subst hv0
          refine H _ w' cs h4 ?_
          have hcr' := cr_agree (β' := β) (ρ' := ρ) (fun i hi => by rw [hall] at hi; cases hi) hcr
          refine cr_weak hcr' fun b f hk => ?_
          have hm0 : memO β2 ρ2 (enc c.Δ y).mem = [] := by
            have : (enc c.Δ y).mem = [] := by
              unfold enc
              split
              rw [hΔ]; rfl
            rw [this]; rfl
          rw [hm0] at hk
          exact okOf_call (O1' := []) h2 hbel.size (by simp) b f ⟨hk.1, hk.2.1, by simp, by simp⟩
        · cases hx
      · cases hs
    · cases hs
  · cases hs
theorem asLsW_ok {β : Nat → Nat} {ρ : Nat → Value} {ok : Ok} {a : Act} {w : World} {N : Nat} (h : RelW β ρ ok S a w) (hn : a.tmps.size = N) {u : Ty} : ∀ {ps : List (Nat × Operand)} {vs : List (Nat × AV)} {xs : List u.De} {j : Nat}, evParts' S [] ps = some vs → asLs S.mem u vs j = some xs →
    ∃ us : List Value, ps.map (fun p => (p.1, a.eval p.2)) = (List.range' j us.length).zip us ∧ allV (rt u) ok w xs us ∧ us.length = xs.length ∧ evParts (allG N a) ps = some (ps.map (fun p => (p.1, a.eval p.2)))
  | [], vs, xs, j, he, hx => by
    simp [evParts'] at he; subst he
    simp [asLs] at hx; subst hx
    exact ⟨[], rfl, trivial, rfl, rfl⟩
  | (i, x) :: ps, vs, xs, j, he, hx => by
    simp only [evParts'] at he
    split at he
    · rename_i v l hv hl
      simp at he; subst he
      simp only [asLs] at hx
      obtain ⟨hb, hx⟩ := bvT hx
      simp only [Bool.and_eq_true] at hb
      have := Nat.eq_of_beq_eq_true hb.1
      subst this
      split at hx
      · rename_i y ys hy hys
        simp at hx; subst hx
        obtain ⟨us, q1, q2, q3, q4⟩ := asLsW_ok h hn (u := u) (ps := ps) hl hys
        have hiv := h.asD (holdsC_nil a) hv hy (bEq hb.2)
        refine ⟨a.eval x :: us, ?_, ⟨hiv, q2⟩, by simp [q3], ?_⟩
        · simp only [List.map_cons, List.length_cons, List.range'_succ, List.zip_cons_cons, q1]
        · simp only [evParts, gvW h hn hv, q4, List.map_cons]
      · cases hx
    · cases he
theorem valLit (hT : TabOk P Y.T) {k : AV → Option R} (hs : litD Y S o.op k = some r) : ∃ v, k v = some r ∧ allIds v = [] ∧ ValSem gl P l0 S o v := by
  unfold litD at hs
  split at hs
  · rename_i t m ps hop
    split at hs
    · rename_i te hte
      split at hs
      · rename_i e htd
        have htd := isSliceD_ok htd
        split at hs
        · rename_i ee u he hu
          split at hs
          · rename_i vs hvs
            split at hs
            · rename_i xs hxs
              obtain ⟨hb, hs⟩ := bvT hs
              simp only [Bool.and_eq_true] at hb
              obtain ⟨⟨⟨⟨hsz, hl⟩, hsm⟩, hpos⟩, hzl⟩ := hb
              refine ⟨_, hs, rfl, ?_⟩
              intro β ρ β1 X D O a w d Q hGl hS hR hw hg hd hok H
              have hn : a.tmps.size = X.n := hS.sz
              obtain ⟨us, q1, q2, q3, q4⟩ := asLsW_ok hR hn hvs hxs
              have hes := Nat.eq_of_beq_eq_true hsz
              have hxl := Nat.eq_of_beq_eq_true hl
              have hcl : ∀ v ∈ us, (cellsL v).length = ee.size := by
                have key : ∀ {xs : List u.De} {us : List Value}, allV (rt u) (okOf X.ok X.w.heap.size β1 [] O w) w xs us → ∀ v ∈ us, (cellsL v).length = ee.size := by
                  intro xs
                  induction xs with
                  | nil => intro us hu v hv; cases us with
                    | nil => cases hv
                    | cons _ _ => cases hu
                  | cons x xs ih =>
                    intro us hu v hv
                    cases us with
                    | nil => cases hv
                    | cons y us =>
                      rcases List.mem_cons.1 hv with rfl | hv
                      · rw [(rt u).len (cellsL_rep hu.1), rt_size, hes]
                      · exact ih hu.2 v hv
                exact key q2
              have hz0 : (zerosS (cellsL ee.z) ((m + 1) * ee.size)).length = (m + 1) * ee.size := by simp [zerosS]
              have hfill := fillS us 0 (zerosS (cellsL ee.z) ((m + 1) * ee.size)) hcl (by rw [hz0, Nat.zero_add, q3, hxl]; exact Nat.le_refl _)
              rw [← q1] at hfill
              have hfill' : fillL (placeS ee.size) (zerosS (cellsL ee.z) ((m + 1) * ee.size)) (ps.map (fun p => (p.1, a.eval p.2))) = some (us.flatMap cellsL) := by
                rw [hfill]
                simp only [Nat.zero_mul, List.take_zero, List.nil_append, Nat.zero_add]
                rw [List.drop_of_length_le (by rw [hz0, q3, hxl]; exact Nat.le_refl _), List.append_nil]
              rw [op_eta o, hd, hop] at hg ⊢
              refine step_buildSlice hT hS (r := rt u) hg hok q4 hte htd he (by rw [rt_size]; exact hes) hxl hsm (Nat.ble_eq_true_of_le (by have := Nat.le_of_ble_eq_true hpos; have := Nat.mul_le_mul (Nat.le_add_left 1 m) this; omega)) hzl hfill' q2 fun A c a' w' hv hS' => ?_
              exact H a' w' [.slice A xs.length c] hS' ⟨_, rfl, isV_sl.1 hv⟩
            · cases hs
          · cases hs
        · cases hs
      · cases hs
    · cases hs
  · cases hs
end
end Gx

/- Regions whose order is open, in which rows are made. -/
namespace Gx
open Go Go.RowKit Gd
set_option linter.unusedVariables false
set_option linter.unusedSimpArgs false
abbrev locS (l0 : List Oper) (ds : List Nat) (Zs : List (Nat × Ob)) (S0 : XS) (i : Nat) (acc : Got) (o : Oper) : St := locOf l0 ds Zs S0 i acc o
def ranG : Gk → Bool
  | .u => false
  | _ => true
def MadeOk (Y : TX) (L : St) (o : Oper) (u : Ty) (e : TypeId) (zs : List u.De) (c : Nat) : Prop :=
  ∃ (t : TypeId) (lo co : Operand) (te ee : TE) (lv cv : AV) (k1 k2 : IntKind) (nl nc : Int) (za : AV) (z : u.De), o.op = .makeSlice t lo co ∧ lookT Y.T t = some te ∧ te.d = .slice e ∧ lookT Y.T e = some ee ∧
    ev L [] lo = some lv ∧ ev L [] co = some cv ∧ isInt lv = some (k1, nl) ∧ isInt cv = some (k2, nc) ∧ zeroAV u ee.z = some za ∧ asD [] za u = some z ∧ Nat.beq ee.size u.size = true ∧ Nat.beq (cellsL ee.z).length ee.size = true ∧
    Nat.ble 1 ee.bytes = true ∧ mkL ee.bytes nl nc z = some zs ∧ c = nc.toNat
def AppdOk (Y : TX) (C : Nat → Option Ob) (L : St) (o : Oper) (u : Ty) (e : TypeId) (zs : List u.De) (h : Nat) : Prop :=
  ∃ (t : TypeId) (s x : Operand) (te ee : TE) (xv : AV) (xs ys : List u.De), o.op = .call ⟨.builtin .append, ⟨[s, x]⟩, ⟨[t, t]⟩⟩ ∧ C h = some (.tail e u xs) ∧ lookT Y.T t = some te ∧ te.d = .slice e ∧ lookT Y.T e = some ee ∧
    ev L [] s = some (.s h) ∧ ev L [] x = some xv ∧ asD L.mem xv (.sl u) = some ys ∧ Nat.ble 1 ee.size = true ∧ Nat.ble 1 ee.bytes = true ∧ Nat.beq (cellsL ee.z).length ee.size = true ∧ Nat.beq ee.size u.size = true ∧ isNilL ys = false ∧ app ee.bytes xs ys = some zs
def NapOk (Y : TX) (L : St) (o : Oper) (u : Ty) (e : TypeId) (zs : List u.De) : Prop :=
  ∃ (t : TypeId) (s x : Operand) (te ee : TE) (xv : AV) (ys : List u.De), o.op = .call ⟨.builtin .append, ⟨[s, x]⟩, ⟨[t, t]⟩⟩ ∧ lookT Y.T t = some te ∧ te.d = .slice e ∧ lookT Y.T e = some ee ∧
    ev L [] s = some .ns ∧ ev L [] x = some xv ∧ asD L.mem xv (.sl u) = some ys ∧ Nat.ble 1 ee.size = true ∧ Nat.ble 1 ee.bytes = true ∧ Nat.beq (cellsL ee.z).length ee.size = true ∧ Nat.beq ee.size u.size = true ∧ app ee.bytes [] ys = some zs
def VardOk (Y : TX) (o : Oper) (t : TypeId) (c : AV) : Prop := ∃ (e : TE) (ty : Ty), o.op = .alloc t ∧ lookT Y.T t = some e ∧ zeroAV ty e.z = some c ∧ allIds c = []
def StorOk (Y : TX) (l0 : List Oper) (ds : List Nat) (Zs : List (Nat × Ob)) (L : St) (i : Nat) (acc : Got) (o : Oper) (id : Nat) (ob : Ob) : Prop :=
  ∃ (t : TypeId) (p x : Operand) (e : TE) (v : AV), o.op = .store t p x ∧ lookT Y.T t = some e ∧ ev L [] x = some v ∧ Nat.beq e.size v.size = true ∧ v.isVal = true ∧ v.inMem = true ∧
    ((∃ path tid c c', curA l0 Zs i acc id = some (.var tid c) ∧ setP path c v = some c' ∧ noneOf ds c' = true ∧ ob = .var tid c' ∧ ((ev L [] p = some (.p id path) ∧ isSomeN (lookM Zs id) = true) ∨ (p = .tmp id ∧ path = [] ∧ isVarG acc id = true ∧ predB l0 i (ds.idxOf id) = true))) ∨
     (∃ (j : Int) (sz : Nat) (ps : List PS) (et : TypeId) (u : Ty) (xs : List u.De) (y : u.De) (c : AV) (z : u.De), ev L [] p = some (.e id (.i j sz :: ps)) ∧ curA l0 Zs i acc id = some (.row et u xs) ∧ idx xs j = some y ∧ setP ps (.d u y) v = some c ∧ asD L.mem c u = some z ∧ Nat.beq sz u.size = true ∧ Nat.ble 1 u.size = true ∧ isSomeN (lookM Zs id) = true ∧ ob = .row et u (xs.set j.toNat z)))
def FoundOk (P : Program) (Y : TX) (Zs : List (Nat × Ob)) (l0 : List Oper) (ds : List Nat) (S0 : XS) (o : Oper) (i : Nat) (acc : Got) : Nat × AV × Gk → Prop
  | (d, v, .v) => ValSem Y.gl P l0 (locS l0 ds Zs S0 i acc o) o v ∧ noneOf ds v = true
  | (d, v, .u) => v = .tp .nil
  | (d, v, .r u e zs c) => v = .s d ∧ okZ Zs S0 d acc = true ∧ (MadeOk Y (locS l0 ds Zs S0 i acc o) o u e zs c ∨ NapOk Y (locS l0 ds Zs S0 i acc o) o u e zs)
  | (d, v, .c) => ∃ t, v = .s t ∧ isRowG acc t = true ∧ predB l0 i (ds.idxOf t) = true ∧ (o.op = .move (.tmp t) ∨ o.op = .assign (.tmp t))
  | (d, v, .t u e zs h) => v = .s d ∧ okZ Zs S0 d acc = true ∧ AppdOk Y (curB l0 Zs i acc) (locS l0 ds Zs S0 i acc o) o u e zs h
  | (d, v, .o t c) => v = .p d [] ∧ okZ Zs S0 d acc = true ∧ VardOk Y o t c
  | (d, v, .b ns) => ValSem Y.gl P l0 (locB ds ns (locS l0 ds Zs S0 i acc o)) o v ∧ (∀ t ∈ ns, isRowG acc t = true ∧ predB l0 i (ds.idxOf t) = true) ∧ ∀ j ∈ allIds v, j ∈ ds → j ∈ ns
  | (d, v, .w id ob) => StorOk Y l0 ds Zs (locS l0 ds Zs S0 i acc o) i acc o id ob
def isW : Gk → Bool
  | .w _ _ => true
  | _ => false
structure GotOk (P : Program) (Y : TX) (Zs : List (Nat × Ob)) (n : Nat) (l0 : List Oper) (ds : List Nat) (S0 : XS) (o : Oper) (i : Nat) (acc : Got) (g : Nat × AV × Gk) : Prop where
  gd : guardD l0 ds i acc o = some (ranG g.2.2)
  wr : isW g.2.2 = false → okW n S0 g.1 = true
  dst : isW g.2.2 = false → o.dst = some g.1
  ndst : isW g.2.2 = true → o.dst = none ∧ g.1 = 1000000000 + i
  ix : ds.getD i 0 = g.1
  fnd : FoundOk P Y Zs l0 ds S0 o i acc g
theorem cpRow_ok {l0 : List Oper} {ds : List Nat} {i : Nat} {acc : Got} {op : Op} {t : Nat} (h : cpRow l0 ds i acc op = some t) : isRowG acc t = true ∧ predB l0 i (ds.idxOf t) = true ∧ (op = .move (.tmp t) ∨ op = .assign (.tmp t)) := by
  unfold cpRow at h
  split at h
  · obtain ⟨hb, h⟩ := bvT h
    simp only [Bool.and_eq_true] at hb
    simp at h; subst h
    exact ⟨hb.1, hb.2, .inl rfl⟩
  · obtain ⟨hb, h⟩ := bvT h
    simp only [Bool.and_eq_true] at hb
    simp at h; subst h
    exact ⟨hb.1, hb.2, .inr rfl⟩
  · cases h
theorem beqF {a b : Nat} (h : a ≠ b) : (!Nat.beq a b) = true := by
  cases hb : Nat.beq a b with
  | true => exact absurd (Nat.eq_of_beq_eq_true hb) h
  | false => rfl
theorem noId_of {d : Nat} : ∀ {x : AV}, (∀ i ∈ allIds x, i ≠ d) → noId d x = true
  | .d .., _ => rfl | .a .., _ => rfl | .z, _ => rfl | .ns, _ => rfl | .np, _ => rfl | .nm, _ => rfl | .nf, _ => rfl | .nil, _ => rfl
  | .p id _, h => beqF (h id (by simp [allIds]))
  | .e id _, h => beqF (h id (by simp [allIds]))
  | .s id, h => beqF (h id (by simp [allIds]))
  | .m id, h => beqF (h id (by simp [allIds]))
  | .w id _ _, h => beqF (h id (by simp [allIds]))
  | .f _ c, h => noId_of (x := c) h
  | .ag l, h => noId_of (x := l) h
  | .tp l, h => noId_of (x := l) h
  | .cons x y, h => by
    simp only [noId, Bool.and_eq_true]
    exact ⟨noId_of fun i hi => h i (List.mem_append_left _ hi), noId_of fun i hi => h i (List.mem_append_right _ hi)⟩
theorem noneOf_nil {ds : List Nat} {x : AV} (h : allIds x = []) : noneOf ds x = true := by
  unfold noneOf
  rw [List.all_eq_true]
  exact fun d _ => noId_of fun i hi => by rw [h] at hi; cases hi
section
variable {P : Program} {Y : TX} {Zs : List (Nat × Ob)} {n : Nat} {l0 : List Oper} {ds : List Nat} {S0 : XS} {R : Type} {r : R}
theorem makeD_ok {L : St} {o : Oper} {k : (u : Ty) → TypeId → List u.De → Nat → Option R} (h : makeD Y L o.op k = some r) : ∃ u e zs c, k u e zs c = some r ∧ MadeOk Y L o u e zs c := by
  unfold makeD at h
  split at h
  · rename_i t lo co hop
    split at h
    · rename_i te lv cv hte hl hc
      split at h
      · rename_i e k1 nl k2 nc htd hli hci
        split at h
        · rename_i ee u he hu
          split at h
          · rename_i za hza
            split at h
            · rename_i z hz
              obtain ⟨hb2, h⟩ := bvT h
              simp only [Bool.and_eq_true] at hb2
              obtain ⟨zs, hzs, h⟩ := bindE h
              exact ⟨u, e, zs, nc.toNat, h, t, lo, co, te, ee, lv, cv, k1, k2, nl, nc, za, z, hop, hte, isSliceD_ok htd, he, hl, hc, hli, hci, hza, hz, hb2.1.1, hb2.1.2, hb2.2, hzs, rfl⟩
            · cases h
          · cases h
        · cases h
      · cases h
    · cases h
  · cases h
theorem appD_ok {C : Nat → Option Ob} {L : St} {o : Oper} {k : (u : Ty) → TypeId → List u.De → Nat → Option R} (h : appD Y C L o.op k = some r) : ∃ u e zs c, k u e zs c = some r ∧ AppdOk Y C L o u e zs c := by
  unfold appD at h
  split at h
  · rename_i s x t t' hop
    split at h
    · rename_i te id xv hte hs hx
      split at h
      · rename_i e' u xs hC
        split at h
        · rename_i e htd
          split at h
          · rename_i ee ys he hys
            have hb := (bvT h).1
            obtain ⟨zs, hzs, hkk⟩ := bindE (bvT h).2
            simp only [Bool.and_eq_true] at hb
            obtain ⟨⟨⟨⟨⟨⟨b2, b3⟩, b4⟩, b5⟩, b6⟩, b7⟩, b8⟩ := hb
            clear h
            have e2 := Nat.eq_of_beq_eq_true b2
            have e3 := Nat.eq_of_beq_eq_true b7
            subst e2; subst e3
            exact ⟨u, e, zs, id, hkk, t, s, x, te, ee, xv, xs, ys, hop, hC, hte, isSliceD_ok htd, he, hs, hx, hys, b3, b4, b5, b6, by simpa using b8, hzs⟩
          · cases h
        · cases h
      · cases h
    · cases h
  · cases h
theorem napD_ok {L : St} {o : Oper} {k : (u : Ty) → TypeId → List u.De → Nat → Option R} (h : napD Y L o.op k = some r) : ∃ u e zs c, k u e zs c = some r ∧ NapOk Y L o u e zs := by
  unfold napD at h
  split at h
  · rename_i s x t t' hop
    split at h
    · rename_i te xv hte hs hx
      split at h
      · rename_i e htd
        split at h
        · rename_i ee u he hu
          split at h
          · rename_i ys hys
            have hb := (bvT h).1
            obtain ⟨zs, hzs, hkk⟩ := bindE (bvT h).2
            simp only [Bool.and_eq_true] at hb
            obtain ⟨⟨⟨⟨b2, b3⟩, b4⟩, b5⟩, b6⟩ := hb
            clear h
            have e2 := Nat.eq_of_beq_eq_true b2
            subst e2
            exact ⟨u, e, zs, 0, hkk, t, s, x, te, ee, xv, ys, hop, hte, isSliceD_ok htd, he, hs, hx, hys, b3, b4, b5, b6, hzs⟩
          · cases h
        · cases h
      · cases h
    · cases h
  · cases h
theorem allocD_ok {o : Oper} {k : TypeId → AV → Option R} (h : allocD Y o.op k = some r) : ∃ t c, k t c = some r ∧ VardOk Y o t c := by
  unfold allocD at h
  split at h
  · rename_i t hop
    split at h
    · rename_i e ty he hty
      split at h
      · rename_i c hc
        obtain ⟨hb, h⟩ := bvT h
        simp only [Bool.and_eq_true] at hb
        exact ⟨t, c, h, e, ty, hop, he, hc, isNilL_ok hb.2⟩
      · cases h
    · cases h
  · cases h
theorem rowsG_row {acc : Got} : ∀ {ts : List Nat} {t : Nat}, t ∈ rowsG acc ts → isRowG acc t = true
  | [], t, h => by cases h
  | x :: ts, t, h => by
    simp only [rowsG] at h
    cases hb : isRowG acc x with
    | true =>
      rw [hb] at h
      rcases List.mem_cons.1 h with rfl | h
      · exact hb
      · exact rowsG_row h
    | false => rw [hb] at h; exact rowsG_row h
theorem predsB_ok {l0 : List Oper} {ds : List Nat} {i : Nat} : ∀ {ts : List Nat}, predsB l0 ds i ts = true → ∀ t ∈ ts, predB l0 i (ds.idxOf t) = true
  | [], _, t, h => by cases h
  | x :: ts, hp, t, h => by
    simp only [predsB, Bool.and_eq_true] at hp
    rcases List.mem_cons.1 h with rfl | h
    · exact hp.1
    · exact predsB_ok hp.2 t h
theorem memN_ok' : ∀ {l : List Nat} {t : Nat}, memN l t = true → t ∈ l
  | [], t, h => by cases h
  | k :: l, t, h => by
    simp only [memN] at h
    cases hb : Nat.beq k t with
    | true => rw [Nat.eq_of_beq_eq_true hb]; exact .head _
    | false => rw [hb] at h; exact .tail _ (memN_ok' (by simpa using h))
theorem targetD_ok {L : St} {i : Nat} {acc : Got} {p : Operand} {b el : Bool} {id : Nat} {path : List PS} (h : targetD l0 ds L i acc p = some (b, el, id, path)) :
    (ev L [] p = some (.p id path) ∧ b = true ∧ el = false) ∨ (ev L [] p = some (.e id path) ∧ b = true ∧ el = true) ∨ (p = .tmp id ∧ path = [] ∧ b = false ∧ el = false ∧ isVarG acc id = true ∧ predB l0 i (ds.idxOf id) = true) := by
  unfold targetD at h
  split at h
  · rename_i hp
    simp only [Option.some.injEq, Prod.mk.injEq] at h
    obtain ⟨rfl, rfl, rfl, rfl⟩ := h
    exact .inl ⟨hp, rfl, rfl⟩
  · rename_i hp
    simp only [Option.some.injEq, Prod.mk.injEq] at h
    obtain ⟨rfl, rfl, rfl, rfl⟩ := h
    exact .inr (.inl ⟨hp, rfl, rfl⟩)
  · cases h
  · split at h
    · obtain ⟨hb, h⟩ := bvT h
      simp only [Bool.and_eq_true] at hb
      simp only [Option.some.injEq, Prod.mk.injEq] at h
      obtain ⟨rfl, rfl, rfl, rfl⟩ := h
      exact .inr (.inr ⟨rfl, rfl, rfl, rfl, hb.1, hb.2⟩)
    · cases h
theorem storeD_ok {L : St} {i : Nat} {acc : Got} {o : Oper} {k : Nat → Ob → Option R} (h : storeD Y l0 ds Zs L i acc o.op k = some r) : ∃ id ob, k id ob = some r ∧ StorOk Y l0 ds Zs L i acc o id ob := by
  unfold storeD at h
  split at h
  · rename_i t p x hop
    split at h
    · rename_i e b el id path0 v he ht hx
      obtain ⟨hb, h⟩ := bvT h
      simp only [Bool.and_eq_true] at hb
      have htt := targetD_ok ht
      split at h
      · rename_i _ et u xs j sz ps hC _
        obtain ⟨y, hy, h⟩ := bindE h
        split at h
        · rename_i c hc
          split at h
          · rename_i z hz
            obtain ⟨hb2, h⟩ := bvT h
            simp only [Bool.and_eq_true] at hb2
            rcases htt with ⟨_, _, h3⟩ | ⟨h1, _, _⟩ | ⟨_, h2, _⟩
            · rw [h3] at hb2; simp at hb2
            · exact ⟨_, _, h, t, p, x, e, v, hop, he, hx, hb.1.1, hb.1.2, hb.2, .inr ⟨j, sz, ps, et, u, xs, y, c, z, h1, hC, hy, hc, hz, hb2.1.1.2, hb2.1.2, hb2.2, rfl⟩⟩
            · cases h2
          · cases h
        · cases h
      · rename_i path0 _ _ tid c hC _
        split at h
        · rename_i c' hc'
          obtain ⟨hb2, h⟩ := bvT h
          simp only [Bool.and_eq_true, Bool.or_eq_true, Bool.not_eq_true'] at hb2
          rcases htt with ⟨h1, h2, h3⟩ | ⟨h1, _, h3⟩ | ⟨h1, h2, h3, _, h4, h5⟩
          · exact ⟨_, _, h, t, p, x, e, v, hop, he, hx, hb.1.1, hb.1.2, hb.2, .inl ⟨path0, tid, c, c', hC, hc', hb2.1.1, rfl, .inl ⟨h1, hb2.2.resolve_left (by rw [h2]; simp)⟩⟩⟩
          · rw [h3] at hb2; simp at hb2
          · exact ⟨_, _, h, t, p, x, e, v, hop, he, hx, hb.1.1, hb.1.2, hb.2, .inl ⟨path0, tid, c, c', hC, hc', hb2.1.1, rfl, .inr ⟨h1, h2, h4, h5⟩⟩⟩
        · cases h
      · cases h
    · cases h
  · cases h
theorem stepD_tr (hT : TabOk P Y.T) {o : Oper} {i : Nat} {acc : Got} {k : Nat × AV × Gk → Option R} (h : stepD Y n l0 ds Zs S0 o i acc k = some r) : ∃ g, k g = some r ∧ GotOk P Y Zs n l0 ds S0 o i acc g := by
  unfold stepD at h
  split at h
  · rename_i hd
    obtain ⟨hb, h⟩ := bvT h
    have hix := Nat.eq_of_beq_eq_true hb
    split at h
    · rename_i hg
      obtain ⟨id, ob, h, hm⟩ := storeD_ok h
      exact ⟨_, h, hg, (fun h => by cases h), (fun h => by cases h), fun _ => ⟨hd, rfl⟩, hix, hm⟩
    · cases h
  · rename_i d hd
    obtain ⟨hb, h⟩ := bvT h
    simp only [Bool.and_eq_true] at hb
    have hix := Nat.eq_of_beq_eq_true hb.2
    split at h
    · rename_i hg
      exact ⟨_, h, hg, fun _ => hb.1, fun _ => hd, (fun h => by cases h), hix, rfl⟩
    · rename_i hg
      split at h
      · rename_i t hcp
        obtain ⟨c1, c2, c3⟩ := cpRow_ok hcp
        exact ⟨_, h, hg, fun _ => hb.1, fun _ => hd, (fun h => by cases h), hix, t, rfl, c1, c2, c3⟩
      · split at h
        · obtain ⟨u, e, zs, c, h, hm⟩ := makeD_ok h
          obtain ⟨hb2, h⟩ := bvT h
          exact ⟨_, h, hg, fun _ => hb.1, fun _ => hd, (fun h => by cases h), hix, rfl, hb2, .inl hm⟩
        · obtain ⟨v, h, hv, hs⟩ := valLit (P := P) (l0 := l0) hT h
          exact ⟨_, h, hg, fun _ => hb.1, fun _ => hd, (fun h => by cases h), hix, hs, noneOf_nil hv⟩
        · cases hns : isNs (locOf l0 ds Zs S0 i acc o) o.op with
          | true =>
            rw [hns] at h
            simp only [cond_true] at h
            obtain ⟨u, e, zs, c, h, hm⟩ := napD_ok h
            obtain ⟨hb2, h⟩ := bvT h
            exact ⟨_, h, hg, fun _ => hb.1, fun _ => hd, (fun h => by cases h), hix, rfl, hb2, .inr hm⟩
          | false =>
            rw [hns] at h
            simp only [cond_false] at h
            obtain ⟨u, e, zs, h0, h, hm⟩ := appD_ok h
            obtain ⟨hb2, h⟩ := bvT h
            exact ⟨_, h, hg, fun _ => hb.1, fun _ => hd, (fun h => by cases h), hix, rfl, hb2, hm⟩
        · obtain ⟨t, c, h, hm⟩ := allocD_ok h
          obtain ⟨hb2, h⟩ := bvT h
          exact ⟨_, h, hg, fun _ => hb.1, fun _ => hd, (fun h => by cases h), hix, rfl, hb2, hm⟩
        · cases hni : isNilL (rowsG acc (opTmps o)) with
          | true =>
            rw [hni] at h
            obtain ⟨av, h1, h2⟩ := stepQ_ok (P := P) hT rfl h
            obtain ⟨hb2, h1⟩ := bvT h1
            exact ⟨_, h1, hg, fun _ => hb.1, fun _ => hd, (fun h => by cases h), hix, valQ h2, hb2⟩
          | false =>
            rw [hni] at h
            simp only [cond_false] at h
            obtain ⟨hpr, h⟩ := bvT h
            obtain ⟨av, h1, h2⟩ := stepQ_ok (P := P) hT rfl h
            obtain ⟨hb2, h1⟩ := bvT h1
            refine ⟨_, h1, hg, fun _ => hb.1, fun _ => hd, (fun h => by cases h), hix, valQ h2, fun t ht => ⟨rowsG_row ht, predsB_ok hpr t ht⟩, fun j hj hjd => ?_⟩
            have := List.all_eq_true.1 hb2 j hj
            simp only [Bool.or_eq_true] at this
            rcases this with h3 | h3
            · exact absurd hjd (notIn_ok h3)
            · exact memN_ok' h3
        · obtain ⟨av, h1, h2⟩ := stepQ_ok (P := P) hT rfl h
          obtain ⟨hb2, h1⟩ := bvT h1
          exact ⟨_, h1, hg, fun _ => hb.1, fun _ => hd, (fun h => by cases h), hix, valQ h2, hb2⟩
    · cases h
def Tr (P : Program) (Y : TX) (Zs : List (Nat × Ob)) (n : Nat) (l0 : List Oper) (ds : List Nat) (S0 : XS) : List Oper → Nat → Got → Got → Prop
  | [], _, _, [] => True
  | o :: l, i, acc, g :: acc2 => GotOk P Y Zs n l0 ds S0 o i acc g ∧ Tr P Y Zs n l0 ds S0 l (i + 1) (acc ++ [g]) acc2
  | _, _, _, _ => False
theorem Tr.get : ∀ {l : List Oper} {i : Nat} {acc acc2 : Got}, Tr P Y Zs n l0 ds S0 l i acc acc2 → acc2.length = l.length ∧ ∀ (j : Nat) o, l[j]? = some o → ∃ g, acc2[j]? = some g ∧ GotOk P Y Zs n l0 ds S0 o (i + j) (acc ++ acc2.take j) g
  | [], i, acc, [], _ => ⟨rfl, by simp⟩
  | o :: l, i, acc, [], h => h.elim
  | [], i, acc, _ :: _, h => h.elim
  | o :: l, i, acc, g :: acc2, h => by
    obtain ⟨h2, h3⟩ := Tr.get h.2
    refine ⟨by simp [h2], fun j o' ho => ?_⟩
    cases j with
    | zero =>
      simp at ho; subst ho
      exact ⟨g, rfl, by simpa using h.1⟩
    | succ j =>
      obtain ⟨g', q1, q2⟩ := h3 j o' (by simpa using ho)
      refine ⟨g', by simpa using q1, ?_⟩
      rw [show i + (j + 1) = i + 1 + j by omega]
      simpa using q2
theorem runDn_tr (hT : TabOk P Y.T) {D : Got → Prop} : ∀ {m : Nat} {l : List Oper} {i : Nat} {acc : Got} {k : List Oper → Nat → Got → Option R}, runDn Y n l0 ds Zs S0 m l i acc k = some r →
    (∀ l' i' acc', k l' i' acc' = some r → ∃ acc2, D (acc' ++ acc2) ∧ Tr P Y Zs n l0 ds S0 l' i' acc' acc2) → ∃ acc2, D (acc ++ acc2) ∧ Tr P Y Zs n l0 ds S0 l i acc acc2
  | 0, l, i, acc, k, h, H => H l i acc h
  | m + 1, [], i, acc, k, h, H => by simp [runDn] at h
  | m + 1, o :: l, i, acc, k, h, H => by
    simp only [runDn] at h
    obtain ⟨g, h1, h2⟩ := stepD_tr hT h
    obtain ⟨acc2, h3, h4⟩ := runDn_tr hT h1 H
    exact ⟨g :: acc2, by simpa using h3, h2, h4⟩
theorem setG_same : ∀ {acc : Got} {t : Nat} {b : Bool}, lookG acc t = some (.d .bool b) → setG acc t b = acc
  | [], t, b, h => by simp [lookG] at h
  | (d, v, q) :: l, t, b, h => by
    simp only [setG]
    cases q <;> simp only [lookG] at h <;> cases hb : Nat.beq d t <;> rw [hb] at h
    all_goals first | (simp only [cond_false]; rw [setG_same (acc := l) h]; done) | skip
    all_goals first | (cases h; done) | skip
    simp at h; subst h
    rfl
theorem runD_ok (hT : TabOk P Y.T) {K : List Con} (hK : ∀ c ∈ K, ConOk P Y.gl c ∧ Runs P c.f) : ∀ {h : Hn} {l : List Oper} {i : Nat} {acc : Got} {k : Hn → Got → Option R}, runD Y n l0 ds Zs S0 K h l i acc k = some r →
    ∃ acc2, (∃ h', k h' (acc ++ acc2) = some r) ∧ Tr P Y Zs n l0 ds S0 l i acc acc2
  | .tl h, l, i, acc, k, hs => by
    simp only [runD] at hs
    split at hs
    · exact ⟨[], ⟨h, by simpa using hs⟩, trivial⟩
    · cases hs
  | .n m g, l, i, acc, k, hs => by
    simp only [runD] at hs
    exact runDn_tr hT (D := fun a => ∃ h', k h' a = some r) hs fun l' i' acc' h' => runD_ok hT hK h'
  | .call c g, l, i, acc, k, hs => by
    simp only [runD] at hs
    split at hs
    · rename_i con o l' hc
      split at hs
      · rename_i d hd
        obtain ⟨hb, hs⟩ := bvT hs
        simp only [Bool.and_eq_true] at hb
        have hix := Nat.eq_of_beq_eq_true hb.2
        split at hs
        · rename_i hg
          have hcm := hK con (List.mem_of_getElem? hc)
          obtain ⟨v, h1, h2, h3⟩ := valCall (l0 := l0) hcm.1 hcm.2 hs
          obtain ⟨acc2, ⟨h', h4⟩, h5⟩ := runD_ok hT hK h1
          exact ⟨(d, v, .v) :: acc2, ⟨h', by simpa using h4⟩, ⟨hg, fun _ => hb.1, fun _ => hd, (fun h => by cases h), hix, h3, noneOf_nil h2⟩, h5⟩
        · cases hs
      · cases hs
    · cases hs
  | .so t x y, l, i, acc, k, hs => by
    simp only [runD] at hs
    split at hs
    · rename_i v hv
      cases v with
      | true =>
        rw [if_pos rfl, setG_same hv] at hs
        exact runD_ok hT hK hs
      | false =>
        rw [if_neg (by simp), setG_same hv] at hs
        exact runD_ok hT hK hs
    · cases hs
  | .done, l, i, acc, k, hs => by simp [runD] at hs
  | .nl m g, l, i, acc, k, hs => by simp [runD] at hs
  | .md m g, l, i, acc, k, hs => by simp [runD] at hs
  | .mt _ _ _ _, l, i, acc, k, hs => by simp [runD] at hs
  | .op _ _ _ _, l, i, acc, k, hs => by simp [runD] at hs
  | .fm _ _, l, i, acc, k, hs => by simp [runD] at hs
  | .keep m g, l, i, acc, k, hs => by simp [runD] at hs
  | .fz m g, l, i, acc, k, hs => by simp [runD] at hs
  | .sp _ _ _ _ _ _ _ _, l, i, acc, k, hs => by simp [runD] at hs
def blkV : Value → Nat
  | .pointer (some a) => a.block
  | _ => 0
def updV (a : Act) : List Nat → (Nat → Value) → Nat → Value
  | [], ρ => ρ
  | d :: l, ρ => updV a l (upd ρ d (a.tmps.getD d undef))
def updBk (a : Act) : List Nat → (Nat → Nat) → Nat → Nat
  | [], β => β
  | d :: l, β => updBk a l (upd β d (blkV (a.tmps.getD d undef)))
theorem updP_ind {a : Act} {C : (Nat → Nat) → (Nat → Value) → Prop} : ∀ {l : List Nat} {β : Nat → Nat} {ρ : Nat → Value}, C β ρ → (∀ d ∈ l, ∀ β ρ, C β ρ → C (upd β d (blkV (a.tmps.getD d undef))) (upd ρ d (a.tmps.getD d undef))) → C (updBk a l β) (updV a l ρ)
  | [], β, ρ, h, _ => h
  | d :: l, β, ρ, h, hs => updP_ind (l := l) (hs d (.head _) β ρ h) fun d' hd => hs d' (.tail _ hd)
theorem updP_not {a : Act} {l : List Nat} {β : Nat → Nat} {ρ : Nat → Value} {d : Nat} (h : d ∉ l) : updBk a l β d = β d ∧ updV a l ρ d = ρ d :=
  updP_ind (C := fun β' ρ' => β' d = β d ∧ ρ' d = ρ d) ⟨rfl, rfl⟩ fun e he β' ρ' h' => by
    have hne : d ≠ e := fun q => h (q ▸ he)
    rw [upd_other _ _ hne, upd_other _ _ hne]; exact h'
theorem updP_at {a : Act} : ∀ {l : List Nat} {β : Nat → Nat} {ρ : Nat → Value} {d : Nat}, d ∈ l → updBk a l β d = blkV (a.tmps.getD d undef) ∧ updV a l ρ d = a.tmps.getD d undef
  | e :: l, β, ρ, d, h => by
    by_cases hm : d ∈ l
    · exact updP_at (l := l) hm
    · rcases List.mem_cons.1 h with rfl | h
      · have := updP_not (a := a) (l := l) (β := upd β d (blkV (a.tmps.getD d undef))) (ρ := upd ρ d (a.tmps.getD d undef)) hm
        rw [upd_same, upd_same] at this
        exact this
      · exact absurd h hm
theorem updP_congr {a a' : Act} : ∀ {l : List Nat} {β : Nat → Nat} {ρ : Nat → Value}, (∀ t ∈ l, a'.tmps.getD t undef = a.tmps.getD t undef) → updBk a' l β = updBk a l β ∧ updV a' l ρ = updV a l ρ
  | [], β, ρ, _ => ⟨rfl, rfl⟩
  | d :: l, β, ρ, h => by
    simp only [updBk, updV, h d (.head _)]
    exact updP_congr (l := l) fun t ht => h t (.tail _ ht)
def gotA (β : Nat → Nat) (ρ : Nat → Value) : Nat × AV × Gk → FA
  | (d, v, .v) => ⟨fun ok w a => ∃ cs, a.tmps.getD d undef = v.val cs ∧ cr β ρ ok w false v cs, fun ⟨cs, h1, h2⟩ he => ⟨cs, h1, cr_evo h2 he⟩, fun ⟨cs, h1, h2⟩ hk => ⟨cs, h1, cr_weak h2 hk⟩⟩
  | (d, _, .r _ _ zs _) => ⟨fun _ _ a => ∃ A c, a.tmps.getD d undef = .slice A zs.length c, fun h _ => h, fun h _ => h⟩
  | (d, _, .o _ _) => ⟨fun _ _ a => ∃ b, a.tmps.getD d undef = .pointer (some ⟨b, 0, none⟩), fun h _ => h, fun h _ => h⟩
  | (d, v, .b ns) => ⟨fun ok w a => ∃ cs, a.tmps.getD d undef = v.val cs ∧ cr (updBk a ns β) (updV a ns ρ) ok w false v cs, fun ⟨cs, h1, h2⟩ he => ⟨cs, h1, cr_evo h2 he⟩, fun ⟨cs, h1, h2⟩ hk => ⟨cs, h1, cr_weak h2 hk⟩⟩
  | (d, .s t, .c) => ⟨fun _ _ a => a.tmps.getD d undef = a.tmps.getD t undef, fun h _ => h, fun h _ => h⟩
  | (_, _, .c) => ⟨fun _ _ _ => True, fun h _ => h, fun h _ => h⟩
  | (_, _, .w _ _) => ⟨fun _ _ _ => True, fun h _ => h, fun h _ => h⟩
  | (d, _, .u) => ⟨fun _ _ a => a.tmps.getD d undef = undef, fun h _ => h, fun h _ => h⟩
  | (d, _, .t _ _ zs _) => ⟨fun _ _ a => ∃ A c, a.tmps.getD d undef = .slice A zs.length c, fun h _ => h, fun h _ => h⟩
def tlAt (β : Nat → Nat) (ρ : Nat → Value) (v : Value) (id : Nat) : Ob → TL
  | .var t c => tlVar β ρ (blkV v) t c
  | .row e t xs => ml v e (rt t) xs
  | .tail e t xs => tlTail v e (rt t) xs
  | o => tlOf β ρ id o
def tlX (β : Nat → Nat) (ρ : Nat → Value) (acc : Got) (a : Act) (id : Nat) (ob : Ob) : TL := bif memN (rowIds acc) id then tlAt β ρ (a.tmps.getD id undef) id ob else tlOf β ρ id ob
def namesZ (Zs : List (Nat × Ob)) (acc : Got) : List Nat := keysM Zs ++ rowIds acc
def fX (β : Nat → Nat) (ρ : Nat → Value) (Zs : List (Nat × Ob)) (acc : Got) (E : Nat → Bool) (a : Act) (id : Nat) : Option TL := (curO E id acc 0 (lookM Zs id)).map (tlX β ρ acc a id)
def OWx (β : Nat → Nat) (ρ : Nat → Value) (Zs : List (Nat × Ob)) (acc : Got) (E : Nat → Bool) (a : Act) : List TL := (namesZ Zs acc).filterMap (fX β ρ Zs acc E a)
theorem lookG_mem : ∀ {acc : Got} {t : Nat} {v : AV}, lookG acc t = some v → (t, v, .v) ∈ acc
  | [], t, v, h => by simp [lookG] at h
  | (d, u, q) :: l, t, v, h => by
    cases q <;> simp only [lookG] at h <;> cases hb : Nat.beq d t <;> rw [hb] at h
    all_goals first | exact .tail _ (lookG_mem (acc := l) h) | skip
    all_goals first | (cases h; done) | skip
    have := Nat.eq_of_beq_eq_true hb
    simp at h; subst h; subst this
    exact .head _
theorem varE_mem : ∀ {env : List En} {e : En}, e ∈ varE env → e.cs = [] ∧ e ∈ env ∧ Nat.blt e.t 100000 = false
  | [], e, h => by simp [varE] at h
  | x :: l, e, h => by
    simp only [varE] at h
    cases hb : Nat.blt x.t 100000 with
    | true =>
      rw [hb] at h
      obtain ⟨h1, h2, h3⟩ := varE_mem (env := l) h
      exact ⟨h1, .tail _ h2, h3⟩
    | false =>
      rw [hb] at h
      simp only [cond_false] at h
      split at h
      · rename_i hc
        rcases List.mem_cons.1 h with rfl | h
        · exact ⟨hc, .head _, hb⟩
        · obtain ⟨h1, h2, h3⟩ := varE_mem (env := l) h
          exact ⟨h1, .tail _ h2, h3⟩
      · obtain ⟨h1, h2, h3⟩ := varE_mem (env := l) h
        exact ⟨h1, .tail _ h2, h3⟩
theorem locE_mem {l0 : List Oper} {i : Nat} {acc : Got} {env : List En} : ∀ {ts : List Nat} {e : En}, e ∈ locE l0 ds i acc env ts →
    e.cs = [] ∧ ((lookG acc e.t = some e.av ∧ predB l0 i (ds.idxOf e.t) = true) ∨ (notIn ds e.t = true ∧ e ∈ env ∧ Nat.blt e.t 100000 = true) ∨ (e ∈ env ∧ Nat.blt e.t 100000 = false))
  | [], e, h => by
    obtain ⟨h1, h2, h3⟩ := varE_mem (by simpa [locE] using h)
    exact ⟨h1, .inr (.inr ⟨h2, h3⟩)⟩
  | t :: ts, e, h => by
    simp only [locE] at h
    split at h
    · rename_i v hv
      cases hp : predB l0 i (ds.idxOf t) with
      | true =>
        rw [hp] at h
        rcases List.mem_cons.1 h with rfl | h
        · exact ⟨rfl, .inl ⟨hv, hp⟩⟩
        · exact locE_mem h
      | false => rw [hp] at h; exact locE_mem h
    · cases hb : notIn ds t with
      | true =>
        rw [hb] at h
        simp only [cond_true] at h
        split at h
        · rename_i t' v he
          obtain ⟨h1, h2⟩ := lookE_ok he
          rcases List.mem_cons.1 h with rfl | h
          · simp only at h2
            subst h2
            exact ⟨rfl, .inr (.inl ⟨hb, h1, lookE_lt he⟩)⟩
          · exact locE_mem h
        · exact locE_mem h
      | false => rw [hb] at h; exact locE_mem h
def updG (a : Act) (acc : Got) (ρ : Nat → Value) : Nat → Value := updV a (rowIds acc) ρ
def updH (a : Act) (acc : Got) (β : Nat → Nat) : Nat → Nat := updBk a (rowIds acc) β
def newG : Gk → Bool
  | .r _ _ _ _ => true
  | .t _ _ _ _ => true
  | .o _ _ => true
  | _ => false
theorem rowIds_mem {acc : Got} {d : Nat} : d ∈ rowIds acc ↔ ∃ v q, (d, v, q) ∈ acc ∧ newG q = true := by
  induction acc with
  | nil => simp [rowIds]
  | cons g l ih =>
    obtain ⟨d', v', q'⟩ := g
    have key : newG q' = false → ((∃ v q, (d, v, q) ∈ l ∧ newG q = true) ↔ ∃ v q, (d, v, q) ∈ (d', v', q') :: l ∧ newG q = true) := by
      intro hq
      constructor
      · rintro ⟨v, q, h, hn⟩; exact ⟨v, q, .tail _ h, hn⟩
      · rintro ⟨v, q, h, hn⟩
        rcases List.mem_cons.1 h with h | h
        · injection h with _ h; injection h with _ h; subst h; rw [hq] at hn; cases hn
        · exact ⟨v, q, h, hn⟩
    have key2 : newG q' = true → ((d = d' ∨ ∃ v q, (d, v, q) ∈ l ∧ newG q = true) ↔ ∃ v q, (d, v, q) ∈ (d', v', q') :: l ∧ newG q = true) := by
      intro hq
      constructor
      · rintro (rfl | ⟨v, q, h, hn⟩)
        · exact ⟨v', q', .head _, hq⟩
        · exact ⟨v, q, .tail _ h, hn⟩
      · rintro ⟨v, q, h, hn⟩
        rcases List.mem_cons.1 h with h | h
        · injection h with h _; exact .inl h
        · exact .inr ⟨v, q, h, hn⟩
    cases q' with
    | v => simp only [rowIds, ih]; exact key rfl
    | c => simp only [rowIds, ih]; exact key rfl
    | u => simp only [rowIds, ih]; exact key rfl
    | b ns => simp only [rowIds, ih]; exact key rfl
    | w j0 b0 => simp only [rowIds, ih]; exact key rfl
    | o t0 c0 =>
      show d ∈ d' :: rowIds l ↔ _
      rw [List.mem_cons, ih]; exact key2 rfl
    | r u0 e0 zs0 c0 =>
      show d ∈ d' :: rowIds l ↔ _
      rw [List.mem_cons, ih]; exact key2 rfl
    | t u0 e0 zs0 c0 =>
      show d ∈ d' :: rowIds l ↔ _
      rw [List.mem_cons, ih]; exact key2 rfl
theorem isRowG_mem : ∀ {acc : Got} {t : Nat}, isRowG acc t = true → ∃ v u e zs c, (t, v, Gk.r u e zs c) ∈ acc
  | [], t, h => by simp [isRowG] at h
  | (d, v, .v) :: l, t, h => let ⟨v, u, e, zs, c, h⟩ := isRowG_mem (acc := l) h; ⟨v, u, e, zs, c, .tail _ h⟩
  | (d, v, .c) :: l, t, h => let ⟨v, u, e, zs, c, h⟩ := isRowG_mem (acc := l) h; ⟨v, u, e, zs, c, .tail _ h⟩
  | (d, v, .u) :: l, t, h => let ⟨v, u, e, zs, c, h⟩ := isRowG_mem (acc := l) h; ⟨v, u, e, zs, c, .tail _ h⟩
  | (d, v, .t _ _ _ _) :: l, t, h => let ⟨v, u, e, zs, c, h⟩ := isRowG_mem (acc := l) h; ⟨v, u, e, zs, c, .tail _ h⟩
  | (d, v, .o _ _) :: l, t, h => let ⟨v, u, e, zs, c, h⟩ := isRowG_mem (acc := l) h; ⟨v, u, e, zs, c, .tail _ h⟩
  | (d, v, .b _) :: l, t, h => let ⟨v, u, e, zs, c, h⟩ := isRowG_mem (acc := l) h; ⟨v, u, e, zs, c, .tail _ h⟩
  | (d, v, .w _ _) :: l, t, h => let ⟨v, u, e, zs, c, h⟩ := isRowG_mem (acc := l) h; ⟨v, u, e, zs, c, .tail _ h⟩
  | (d, v, .r u e zs c) :: l, t, h => by
    simp only [isRowG, Bool.or_eq_true] at h
    rcases h with h | h
    · rw [← Nat.eq_of_beq_eq_true h]; exact ⟨v, u, e, zs, c, .head _⟩
    · obtain ⟨v, u, e, zs, c, h⟩ := isRowG_mem (acc := l) h; exact ⟨v, u, e, zs, c, .tail _ h⟩
theorem isVarG_mem : ∀ {acc : Got} {t : Nat}, isVarG acc t = true → ∃ v ty c, (t, v, Gk.o ty c) ∈ acc
  | [], t, h => by simp [isVarG] at h
  | (d, v, q) :: l, t, h => by
    cases q <;> simp only [isVarG] at h
    case o ty c =>
      simp only [Bool.or_eq_true] at h
      rcases h with h | h
      · rw [← Nat.eq_of_beq_eq_true h]; exact ⟨v, ty, c, .head _⟩
      · obtain ⟨v, ty, c, h⟩ := isVarG_mem (acc := l) h; exact ⟨v, ty, c, .tail _ h⟩
    all_goals
      obtain ⟨v, ty, c, h⟩ := isVarG_mem (acc := l) h
      exact ⟨v, ty, c, .tail _ h⟩
theorem AllB_all {C : Nat → Prop} : ∀ {n : Nat}, (∀ i, i < n → C i) → AllB C n
  | 0, _ => trivial
  | n + 1, h => ⟨AllB_all fun i hi => h i (by omega), h n (by omega)⟩
theorem notIn_of {l : List Nat} {t : Nat} (h : t ∉ l) : notIn l t = true := by
  induction l with
  | nil => rfl
  | cons k l ih =>
    simp only [notIn]
    cases hb : Nat.beq k t with
    | true => exact absurd (Nat.eq_of_beq_eq_true hb ▸ List.mem_cons_self) h
    | false => exact ih fun hm => h (.tail _ hm)
theorem remD_ne {d : Nat} : ∀ {ks : List Nat}, d ∉ remD ks d
  | [], h => by cases h
  | k :: ks, h => by
    simp only [remD] at h
    cases hb : Nat.beq k d with
    | true => rw [hb] at h; exact remD_ne (ks := ks) h
    | false =>
      rw [hb] at h
      rcases List.mem_cons.1 h with rfl | h
      · simp [Nat.beq_refl] at hb
      · exact remD_ne (ks := ks) h
section
variable {X : Cx} {β : Nat → Nat} {ρ : Nat → Value} {a0 : Act} {w0 : World} {acc : Got}
def restG (X : Cx) (ds : List Nat) (a : Act) : GL := (allG X.n a).filter fun p => notIn ds p.1
theorem restG_mem {ds : List Nat} {t : Nat} (ht : t < X.n) (hn : t ∉ ds) (a : Act) : (t, Gd.AV.v (a.tmps.getD t undef)) ∈ restG X ds a :=
  List.mem_filter.2 ⟨List.mem_map.2 ⟨t, List.mem_range.2 ht, rfl⟩, notIn_of hn⟩
theorem restG_not {ds : List Nat} {a : Act} {p : Nat × Gd.AV} (h : p ∈ restG X ds a) : p.1 ∉ ds ∧ p.1 < X.n ∧ p.2 = .v (a.tmps.getD p.1 undef) := by
  obtain ⟨h1, h2⟩ := List.mem_filter.1 h
  obtain ⟨t, ht, rfl⟩ := List.mem_map.1 h1
  exact ⟨notIn_ok h2, List.mem_range.1 ht, rfl⟩
theorem getD_some {l : List Nat} {i d : Nat} (h : l[i]? = some d) : l.getD i 0 = d := by simp [List.getD_eq_getElem?_getD, h]
theorem some_getD {l : List Nat} {i d : Nat} (hi : i < l.length) (h : l.getD i 0 = d) : l[i]? = some d := by
  rw [List.getD_eq_getElem?_getD, List.getElem?_eq_getElem hi] at h
  rw [List.getElem?_eq_getElem hi]; exact congrArg some h
def AccOk (P : Program) (Y : TX) (Zs : List (Nat × Ob)) (n : Nat) (l0 : List Oper) (ds : List Nat) (S0 : XS) (acc : Got) : Prop :=
  acc.length = ds.length ∧ ∀ (i : Nat) g, acc[i]? = some g → ∃ o, l0[i]? = some o ∧ GotOk P Y Zs n l0 ds S0 o i (acc.take i) g
theorem acc_lt {acc : Got} {i : Nat} {g : Nat × AV × Gk} (h : acc[i]? = some g) : i < acc.length := by
  rcases Nat.lt_or_ge i acc.length with q | q
  · exact q
  · rw [List.getElem?_eq_none q] at h; cases h
theorem acc_idx (hnd : ds.Nodup) (hA : AccOk P Y Zs n l0 ds S0 acc) {i : Nat} {g : Nat × AV × Gk} (hg : g ∈ acc.take i) : ∃ j, acc[j]? = some g ∧ ds[j]? = some g.1 ∧ ds.idxOf g.1 = j ∧ (isW g.2.2 = false → okW n S0 g.1 = true) := by
  obtain ⟨j, hj⟩ := List.getElem?_of_mem hg
  have hj' : acc[j]? = some g := by
    rw [List.getElem?_take] at hj
    split at hj
    · exact hj
    · cases hj
  obtain ⟨oj, hoj, hGj⟩ := hA.2 j _ hj'
  have hjd : j < ds.length := by rw [← hA.1]; exact acc_lt hj'
  have hdj := some_getD hjd hGj.ix
  refine ⟨j, hj', hdj, ?_, hGj.wr⟩
  have := hnd.idxOf_getElem j hjd
  rw [List.getElem?_eq_getElem hjd] at hdj
  injection hdj with hdj
  rw [hdj] at this
  exact this
theorem gotA_loc (hA : AccOk P Y Zs n l0 ds S0 acc) (hnd : ds.Nodup) : ∀ (i : Nat) fv, (acc.map (gotA β ρ))[i]? = some fv → ∀ (a a' : Act) ok w, (∀ j e : Nat, (j = i ∨ predB l0 i j = true) → ds[j]? = some e → a'.tmps.getD e undef = a.tmps.getD e undef) → fv.p ok w a → fv.p ok w a' := by
  intro i fv hf a a' ok w hsame hp
  rw [List.getElem?_map] at hf
  obtain ⟨g, hg, hfv⟩ := Option.map_eq_some_iff.1 hf
  obtain ⟨o, ho, hG⟩ := hA.2 i g hg
  have hd : ds[i]? = some g.1 := some_getD (by rw [← hA.1]; exact acc_lt hg) hG.ix
  have h1 := hsame i g.1 (.inl rfl) hd
  subst hfv
  obtain ⟨d, v, q⟩ := g
  cases q with
  | v => obtain ⟨cs, h2, h3⟩ := hp; exact ⟨cs, h1.trans h2, h3⟩
  | r u e zs c => obtain ⟨b, c', h2⟩ := hp; exact ⟨b, c', h1.trans h2⟩
  | o t c => obtain ⟨b, h2⟩ := hp; exact ⟨b, h1.trans h2⟩
  | b ns =>
    obtain ⟨cs, h2, h3⟩ := hp
    obtain ⟨_, hns, _⟩ := hG.fnd
    have hcg := updP_congr (a := a) (a' := a') (l := ns) (β := β) (ρ := ρ) fun t ht => by
      obtain ⟨c1, c2⟩ := hns t ht
      obtain ⟨v', u, e, zs, c, hm⟩ := isRowG_mem c1
      obtain ⟨j, hj, hdj, hix, _⟩ := acc_idx hnd hA hm
      simp only at hix hdj
      rw [hix] at c2
      exact hsame j t (.inr c2) hdj
    exact ⟨cs, h1.trans h2, by rw [hcg.1, hcg.2]; exact h3⟩
  | t u e zs c => obtain ⟨b, c', h2⟩ := hp; exact ⟨b, c', h1.trans h2⟩
  | u => exact h1.trans hp
  | w id ob => trivial
  | c =>
    obtain ⟨t, rfl, c1, c2, c3⟩ := hG.fnd
    obtain ⟨v', u, e, zs, c, hm⟩ := isRowG_mem c1
    obtain ⟨j, hj, hdj, hix, _⟩ := acc_idx hnd hA hm
    simp only at hix hdj
    rw [hix] at c2
    have h2 := hsame j t (.inr c2) hdj
    have hp' : a.tmps.getD d undef = a.tmps.getD t undef := hp
    show a'.tmps.getD d undef = a'.tmps.getD t undef
    rw [h2, ← hp']; exact h1
theorem guardS {ops : Array Oper} {o : Oper} {a : Act} {N : Nat} (hs : a.tmps.size = N) (hw : Region.wanted o (yielded ops a.tmps) = true) : guardV ops (allG N a) o = some true := by
  unfold guardV
  unfold Region.wanted at hw
  split
  · rfl
  · rename_i j want hg
    rw [hg] at hw
    simp only [beq_iff_eq] at hw
    unfold yielded at hw
    split
    · rename_i p hp
      rw [hp] at hw
      split
      · rename_i t ht
        simp only [Option.bind_some, ht] at hw
        split at hw
        · rename_i b hb
          simp at hw; subst hw
          have hlt : t < N := by
            rw [← hs]
            rcases Nat.lt_or_ge t a.tmps.size with h1 | h1
            · exact h1
            · rw [Array.getElem?_eq_none h1] at hb; cases hb
          have e : lookN (allG N a) t = some (.v (a.tmps.getD t undef)) := by
            simp only [allG]
            rw [lookN_map (f := fun t => Gd.AV.v (a.tmps.getD t undef)) (List.mem_range.2 hlt)]
          rw [e]
          simp [Array.getD_eq_getD_getElem?, hb]
        · cases hw
      · rename_i ht
        simp [ht] at hw
    · rename_i hp
      simp [hp] at hw
theorem isSkipG_mem : ∀ {acc : Got} {t : Nat}, isSkipG acc t = true → ∃ v, (t, v, .u) ∈ acc
  | [], t, h => by simp [isSkipG] at h
  | (d, v, q) :: l, t, h => by
    cases q <;> simp only [isSkipG] at h
    case u =>
      simp only [Bool.or_eq_true] at h
      rcases h with h | h
      · rw [← Nat.eq_of_beq_eq_true h]; exact ⟨v, .head _⟩
      · obtain ⟨v', h'⟩ := isSkipG_mem (acc := l) h; exact ⟨v', .tail _ h'⟩
    all_goals
      cases hb : Nat.beq d t <;> rw [hb] at h
      · obtain ⟨v', h'⟩ := isSkipG_mem (acc := l) h; exact ⟨v', .tail _ h'⟩
      · cases h
theorem step_appT (hT : TabOk P Y.T) {X : Cx} {β : Nat → Nat} {G : GL} {D : List DF} {O2 : List TL} {a : Act} {w : World} {ops : Array Oper} {Q : Exit → Act → World → Prop} {rest : List Oper} {u : Ty} {A : Option Addr} {m c : Nat} {e : TypeId} {xs ys zs : List u.De}
    (h : Sb β X G D [] (tlTail (.slice A m c) e (rt u) xs :: O2) a w) {t : TypeId} {s x : Operand} {d : Nat} {ps : String} {af : Array Edge} {ty : TypeId} {gd : Option (Nat × Bool)}
    (hg : guardV ops G ⟨some d, .call ⟨.builtin .append, ⟨[s, x]⟩, ⟨[t, t]⟩⟩, ty, ps, af, gd⟩ = some true) (hlt : okD X d = true) {te ee : TE} (hte : lookT Y.T t = some te) (htd : te.d = .slice e) (he : lookT Y.T e = some ee) (hsz : Nat.beq ee.size u.size = true)
    (hpos : Nat.ble 1 ee.size = true) (hby : Nat.ble 1 ee.bytes = true) (hzl : Nat.beq (cellsL ee.z).length ee.size = true) {A2 : Option Addr} {m2 c2 : Nat} (hs1 : gv G s = some (.v (.slice A m c))) (hx1 : gv G x = some (.v (.slice A2 m2 c2)))
    (hDy : isV (rSl (rt u)) (okOf X.ok X.w.heap.size β [] (tlTail (.slice A m c) e (rt u) xs :: O2) w) w ys (.slice A2 m2 c2)) (happ : app ee.bytes xs ys = some zs)
    (hk : ∀ A' c' a' w', Sb β X (setN G d (.v (.slice A' zs.length c'))) D [] (tlTail (.slice A' zs.length c') e (rt u) zs :: O2) a' w' → wpList P ops Q rest a' w') :
    wpList P ops Q (⟨some d, .call ⟨.builtin .append, ⟨[s, x]⟩, ⟨[t, t]⟩⟩, ty, ps, af, gd⟩ :: rest) a w := by
  have hes : ee.size = (rt u).size := by rw [rt_size]; exact Nat.eq_of_beq_eq_true hsz
  have hxv : isV (rSl (rt u)) (okOf X.ok X.w.heap.size β [] (tlTail (.slice A m c) e (rt u) xs :: O2) w) w xs (.slice A m c) := (h.own _ (.head _)).1.1
  have hsim : SimL (tlTail (.slice A m c) e (rt u) xs :: O2) (tl (.slice A m c) e ee.size :: O2) :=
    .cons ⟨fun _ => Iff.rfl, fun _ _ => by rw [hes]; exact Iff.rfl, fun _ _ hp => by rw [hes]; exact hp.2⟩ (SimL.refl _)
  have hG2 := Sb.simO h hsim
  have hok : ∀ b o, okOf X.ok X.w.heap.size β [] (tlTail (.slice A m c) e (rt u) xs :: O2) w b o → okOf X.ok X.w.heap.size β [] (tl (.slice A m c) e ee.size :: O2) w b o := hsim.ok
  have hG3 := hG2.addD (d := DF.v (rSl (rt u)) xs (.slice A m c)) (hxv.weak hok)
  refine step_append hT hG3 0 0 [] O2 (r := rt u) hg hlt hte htd he hes hzl hpos hby rfl hs1 hx1 rfl (hDy.weak hok) happ fun A' c' a' w' hv' hS => hk A' c' a' w' ?_
  simp only [List.nil_append] at hS hv'
  have hS1 : Sb β X (setN G d (.v (.slice A' zs.length c'))) D [] (tl (.slice A' zs.length c') e ee.size :: O2) a' w' := { hS with dat := hS.dat.2 }
  have hpw := List.pairwise_cons.1 hS1.dOO
  refine Sb.remake hS1 (fun t' ht' => ?_) ?_
  · rcases List.mem_cons.1 ht' with rfl | ht'
    · refine .inl ⟨tl (.slice A' zs.length c') e ee.size, .head _, fun _ hg => hg, fun _ _ hc => by rw [hes]; exact hc, hv', ?_⟩
      have := (hS1.own (tl (.slice A' zs.length c') e ee.size) (.head _)).1
      rw [hes] at this
      exact this
    · exact .inl ⟨t', .tail _ ht', fun _ hg => hg, fun _ _ hc => hc, (hS1.own t' (.tail _ ht')).1⟩
  · exact List.pairwise_cons.2 ⟨fun t ht => hpw.1 t ht, hpw.2⟩
end
end
end Gx

/- Objects of an open region. -/
namespace Gx
open Go Go.RowKit Gd
set_option linter.unusedVariables false
set_option linter.unusedSimpArgs false
theorem curG_no {id d : Nat} {q : Gk} {c : Option Ob} (h : touches id d q = false) : curG id d q c = c := by
  cases q <;> simp only [touches, Bool.or_eq_false_iff] at h <;> simp only [curG]
  · rw [h]; rfl
  · rw [h.1, h.2]; rfl
  · rw [h]; rfl
  · rw [h]; rfl
theorem curO_append {E : Nat → Bool} {id : Nat} : ∀ {l1 l2 : Got} {j : Nat} {c : Option Ob}, curO E id (l1 ++ l2) j c = curO E id l2 (j + l1.length) (curO E id l1 j c)
  | [], l2, j, c => rfl
  | (d, v, q) :: l1, l2, j, c => by
    simp only [List.cons_append, curO, curO_append (l1 := l1), List.length_cons]
    rw [show j + 1 + l1.length = j + (l1.length + 1) by omega]
theorem curO_congr {E E' : Nat → Bool} {id : Nat} : ∀ {l : Got} {j : Nat} {c : Option Ob}, (∀ k g, l[k]? = some g → touches id g.1 g.2.2 = true → E (j + k) = E' (j + k)) → curO E id l j c = curO E' id l j c
  | [], j, c, _ => rfl
  | (d, v, q) :: l, j, c, h => by
    simp only [curO]
    have e : (bif E j then curG id d q c else c) = (bif E' j then curG id d q c else c) := by
      cases ht : touches id d q with
      | true => rw [show E j = E' j from h 0 _ rfl ht]
      | false => rw [curG_no ht]; cases E j <;> cases E' j <;> rfl
    rw [e]
    exact curO_congr fun k g hk ht => by
      have := h (k + 1) g (by simpa using hk) ht
      rw [show j + 1 + k = j + (k + 1) by omega]; exact this
theorem curO_late {E : Nat → Bool} {id : Nat} : ∀ {l : Got} {j : Nat} {c : Option Ob}, (∀ k g, l[k]? = some g → touches id g.1 g.2.2 = true → E (j + k) = false) → curO E id l j c = c
  | [], j, c, _ => rfl
  | (d, v, q) :: l, j, c, h => by
    simp only [curO]
    have e : (bif E j then curG id d q c else c) = c := by
      cases ht : touches id d q with
      | true => rw [show E j = false from h 0 _ rfl ht]; rfl
      | false => rw [curG_no ht]; cases E j <;> rfl
    rw [e]
    exact curO_late fun k g hk ht => by
      have := h (k + 1) g (by simpa using hk) ht
      rw [show j + 1 + k = j + (k + 1) by omega]; exact this
abbrev insE (E : Nat → Bool) (i : Nat) : Nat → Bool := fun j => j == i || E j
theorem acc_split {acc : Got} {i : Nat} {g : Nat × AV × Gk} (hg : acc[i]? = some g) : acc = acc.take i ++ g :: acc.drop (i + 1) ∧ (acc.take i).length = i := by
  have hi : i < acc.length := acc_lt hg
  rw [List.getElem?_eq_getElem hi] at hg
  injection hg with hg
  refine ⟨?_, by rw [List.length_take]; omega⟩
  rw [← hg, ← List.drop_eq_getElem_cons hi, List.take_append_drop]
section
variable {E : Nat → Bool} {acc : Got} {i id : Nat} {g : Nat × AV × Gk} {c : Option Ob}
theorem curO_now (hg : acc[i]? = some g) (hi : E i = false) (he : ∀ j g', acc[j]? = some g' → j < i → touches id g'.1 g'.2.2 = true → E j = true) (hl : ∀ j g', acc[j]? = some g' → i < j → touches id g'.1 g'.2.2 = true → E j = false) :
    curO E id acc 0 c = curO allE id (acc.take i) 0 c := by
  obtain ⟨e1, e2⟩ := acc_split hg
  have e3 : curO E id acc 0 c = curO E id (acc.take i ++ g :: acc.drop (i + 1)) 0 c := by rw [← e1]
  rw [e3, curO_append, e2, Nat.zero_add]
  obtain ⟨d, v, q⟩ := g
  simp only [curO, hi, cond_false]
  rw [curO_late fun k g' hk ht => hl (i + 1 + k) g' (by rw [List.getElem?_drop] at hk; exact hk) (by omega) ht]
  refine curO_congr fun k g' hk ht => ?_
  rw [List.getElem?_take] at hk
  split at hk
  · rw [Nat.zero_add, he k g' hk (by omega) ht]; rfl
  · cases hk
theorem curO_ins (hg : acc[i]? = some g) (hi : E i = false) (hl : ∀ j g', acc[j]? = some g' → i < j → touches id g'.1 g'.2.2 = true → E j = false) :
    curO (insE E i) id acc 0 c = curG id g.1 g.2.2 (curO E id acc 0 c) := by
  obtain ⟨e1, e2⟩ := acc_split hg
  have e3 : ∀ E, curO E id acc 0 c = curO E id (acc.take i ++ g :: acc.drop (i + 1)) 0 c := fun E => by rw [← e1]
  rw [e3, e3, curO_append, curO_append, e2, Nat.zero_add]
  obtain ⟨d, v, q⟩ := g
  simp only [curO, hi, cond_false, BEq.rfl, Bool.true_or, cond_true]
  have h1 : curO (insE E i) id (acc.take i) 0 c = curO E id (acc.take i) 0 c := curO_congr fun k g' hk ht => by
    have : k < i := by have := acc_lt hk; omega
    simp only [insE, Nat.zero_add]
    rw [show (k == i) = false by simp; omega]; rfl
  have h2 : ∀ c', curO (insE E i) id (acc.drop (i + 1)) (i + 1) c' = c' := fun c' => curO_late fun k g' hk ht => by
    simp only [insE]
    rw [show (i + 1 + k == i) = false by simp; omega]
    exact hl (i + 1 + k) g' (by rw [List.getElem?_drop] at hk; exact hk) (by omega) ht
  have h3 : ∀ c', curO E id (acc.drop (i + 1)) (i + 1) c' = c' := fun c' => curO_late fun k g' hk ht => hl (i + 1 + k) g' (by rw [List.getElem?_drop] at hk; exact hk) (by omega) ht
  rw [h2, h3, h1]
  simp only [insE, BEq.rfl, Bool.true_or, cond_true]
theorem curO_not (hg : acc[i]? = some g) (ht : touches id g.1 g.2.2 = false) : curO (insE E i) id acc 0 c = curO E id acc 0 c :=
  curO_congr fun k g' hk ht' => by
    rw [Nat.zero_add]
    by_cases e : k = i
    · subst e
      rw [hg] at hk; injection hk with hk; subst hk
      rw [ht] at ht'; cases ht'
    · simp only [insE]
      rw [show (k == i) = false by simp; omega]; rfl
end
theorem filterMap_at {α β : Type} {f f' : α → Option β} {x0 : α} : ∀ {l : List α}, l.Nodup → x0 ∈ l → (∀ j ∈ l, j ≠ x0 → f' j = f j) → ∃ rest, (l.filterMap f).Perm ((f x0).toList ++ rest) ∧ (l.filterMap f').Perm ((f' x0).toList ++ rest)
  | y :: ys, hn, hi, h => by
    have hn' := List.nodup_cons.1 hn
    rcases List.mem_cons.1 hi with rfl | hi
    · have : ys.filterMap f' = ys.filterMap f := filterMap_same fun j hj => h j (.tail _ hj) fun e => hn'.1 (e ▸ hj)
      refine ⟨ys.filterMap f, ?_, ?_⟩
      · simp only [List.filterMap_cons]
        cases f x0 <;> exact List.Perm.refl _
      · simp only [List.filterMap_cons, this]
        cases f' x0 <;> exact List.Perm.refl _
    · have hy : y ≠ x0 := fun e => hn'.1 (e ▸ hi)
      obtain ⟨rest, h1, h2⟩ := filterMap_at hn'.2 hi fun j hj => h j (.tail _ hj)
      simp only [List.filterMap_cons, h y (.head _) hy]
      cases f y with
      | none => exact ⟨rest, h1, h2⟩
      | some z => exact ⟨z :: rest, (List.Perm.cons z h1).trans List.perm_middle.symm, (List.Perm.cons z h2).trans List.perm_middle.symm⟩
theorem filterMap_two {α β : Type} [DecidableEq α] {f : α → Option β} {x y : α} {l : List α} (hn : l.Nodup) (hx : x ∈ l) (hy : y ∈ l) (hxy : x ≠ y) (hfy : f y = none) :
    ∃ rest, (l.filterMap f).Perm ((f x).toList ++ rest) ∧ ∀ f' : α → Option β, f' x = none → (∀ j ∈ l, j ≠ x → j ≠ y → f' j = f j) → (l.filterMap f').Perm ((f' y).toList ++ rest) := by
  obtain ⟨r1, p1, p2⟩ := filterMap_at (f := f) (f' := fun z => if z = x then none else f z) hn hx fun j _ hj => if_neg hj
  refine ⟨r1, p1, fun f' hfx h => ?_⟩
  obtain ⟨r2, p3, p4⟩ := filterMap_at (f := fun z => if z = x then none else f z) (f' := f') hn hy fun j hj hjy => by
    by_cases e : j = x
    · rw [e, if_pos rfl, hfx]
    · rw [if_neg e, h j hj e hjy]
  rw [if_pos rfl] at p2
  rw [if_neg (Ne.symm hxy), hfy] at p3
  exact p4.trans (List.Perm.append_left _ (p3.symm.trans p2))
section
variable {β : Nat → Nat} {ρ : Nat → Value} {Zs : List (Nat × Ob)} {acc : Got} {E : Nat → Bool} {a a' : Act} {i : Nat} {g : Nat × AV × Gk}
theorem memN_of {l : List Nat} {t : Nat} (h : t ∈ l) : memN l t = true := by
  induction l with
  | nil => cases h
  | cons k l ih =>
    simp only [memN, Bool.or_eq_true]
    rcases List.mem_cons.1 h with rfl | h
    · exact .inl (Nat.beq_refl _)
    · exact .inr (ih h)
theorem fX_same {ds : List Nat} (hds : ds = acc.map (·.1)) (hnd : ds.Nodup) (hg : acc[i]? = some g) (hgd : ∀ (j e : Nat), j ≠ i → ds[j]? = some e → a'.tmps.getD e undef = a.tmps.getD e undef) {id : Nat} (ht : touches id g.1 g.2.2 = false) :
    fX β ρ Zs acc (insE E i) a' id = fX β ρ Zs acc E a id := by
  unfold fX
  rw [curO_not hg ht]
  cases hm : memN (rowIds acc) id with
  | false =>
    congr 1; funext ob; simp only [tlX, hm, cond_false]
  | true =>
    obtain ⟨v, q, hmem, hq⟩ := rowIds_mem.1 (memN_ok' hm)
    obtain ⟨j, hj⟩ := List.getElem?_of_mem hmem
    have hji : j ≠ i := fun e => by
      subst e
      rw [hg] at hj; injection hj with hj; subst hj
      cases q <;> simp [newG] at hq <;> simp [touches, Nat.beq_refl] at ht
    have := hgd j id hji (by rw [hds, List.getElem?_map, hj]; rfl)
    congr 1; funext ob; simp only [tlX, hm, cond_true, this]
theorem OW_same {ds : List Nat} (hds : ds = acc.map (·.1)) (hnd : ds.Nodup) (hg : acc[i]? = some g) (hgd : ∀ (j e : Nat), j ≠ i → ds[j]? = some e → a'.tmps.getD e undef = a.tmps.getD e undef) (ht : ∀ id, touches id g.1 g.2.2 = false) :
    OWx β ρ Zs acc (insE E i) a' = OWx β ρ Zs acc E a := filterMap_same fun id _ => fX_same hds hnd hg hgd (ht id)
end
theorem behT_at {l0 : List Oper} {i id : Nat} : ∀ {acc : Got} {j k : Nat} {g : Nat × AV × Gk}, behT l0 i id acc j = true → acc[k]? = some g → touches id g.1 g.2.2 = true → behindB l0 l0.length i (j + k) = true
  | [], j, k, g, _, hk, _ => by simp at hk
  | (d, v, q) :: l, j, k, g, h, hk, ht => by
    simp only [behT, Bool.and_eq_true, Bool.or_eq_true, Bool.not_eq_true'] at h
    cases k with
    | zero =>
      simp at hk; subst hk
      rcases h.1 with h1 | h1
      · rw [h1] at ht; cases ht
      · exact h1
    | succ k =>
      have := behT_at h.2 (by simpa using hk) ht
      rw [show j + (k + 1) = j + 1 + k by omega]; exact this
theorem noTouch_at {id : Nat} : ∀ {acc : Got} {k : Nat} {g : Nat × AV × Gk}, noTouch id acc = true → acc[k]? = some g → touches id g.1 g.2.2 = false
  | [], k, g, _, hk => by simp at hk
  | (d, v, q) :: l, k, g, h, hk => by
    simp only [noTouch, Bool.and_eq_true, Bool.not_eq_true'] at h
    cases k with
    | zero => simp at hk; subst hk; exact h.1
    | succ k => exact noTouch_at h.2 (by simpa using hk)
theorem behT_no {l0 : List Oper} {i id : Nat} : ∀ {acc : Got} {j : Nat}, noTouch id acc = true → behT l0 i id acc j = true
  | [], _, _ => rfl
  | (d, v, q) :: l, j, h => by
    simp only [noTouch, Bool.and_eq_true, Bool.not_eq_true'] at h
    simp only [behT, h.1, Bool.not_false, Bool.true_or, Bool.true_and]
    exact behT_no h.2
section
variable {P : Program} {Y : TX} {Zs : List (Nat × Ob)} {n : Nat} {l0 : List Oper} {ds : List Nat} {S0 : XS} {o : Oper} {i : Nat} {acc : Got} {g : Nat × AV × Gk} {id : Nat}
theorem curA_ok {ob : Ob} (h : curA l0 Zs i acc id = some ob) : behT l0 i id acc 0 = true ∧ curO allE id acc 0 (lookM Zs id) = some ob := by
  unfold curA at h
  exact bvT h
theorem curB_ok {ob : Ob} (h : curB l0 Zs i acc id = some ob) : isSomeN (lookM Zs id) = true ∧ behT l0 i id acc 0 = true ∧ curO allE id acc 0 (lookM Zs id) = some ob := by
  unfold curB at h
  obtain ⟨h1, h2⟩ := bvT h
  exact ⟨h1, curA_ok h2⟩
theorem okZ_ok {d : Nat} (h : okZ Zs S0 d acc = true) : okB S0 d = true ∧ freshM d Zs = true ∧ noTouch d acc = true := by
  unfold okZ at h
  simp only [Bool.and_eq_true] at h
  exact ⟨h.1.1, h.1.2, h.2⟩
theorem tb_ok (hG : GotOk P Y Zs n l0 ds S0 o i acc g) (ht : touches id g.1 g.2.2 = true) : behT l0 i id acc 0 = true := by
  obtain ⟨d, v, q⟩ := g
  have hf := hG.fnd
  cases q with
  | v => cases ht
  | u => cases ht
  | c => cases ht
  | b ns => cases ht
  | r u e zs c =>
    have := Nat.eq_of_beq_eq_true (show Nat.beq d id = true from ht)
    subst this
    exact behT_no (okZ_ok hf.2.1).2.2
  | o t c =>
    have := Nat.eq_of_beq_eq_true (show Nat.beq d id = true from ht)
    subst this
    exact behT_no (okZ_ok hf.2.1).2.2
  | t u e zs h =>
    have ht' : (Nat.beq d id || Nat.beq h id) = true := ht
    simp only [Bool.or_eq_true] at ht'
    rcases ht' with h1 | h1
    · rw [← Nat.eq_of_beq_eq_true h1]
      exact behT_no (okZ_ok hf.2.1).2.2
    · rw [← Nat.eq_of_beq_eq_true h1]
      obtain ⟨_, _, _, _, _, _, _, _, _, hC, _⟩ := hf.2.2
      exact (curB_ok hC).2.1
  | w j ob =>
    have := Nat.eq_of_beq_eq_true (show Nat.beq j id = true from ht)
    subst this
    obtain ⟨_, _, _, _, _, _, _, _, _, _, _, hc⟩ := hf
    rcases hc with ⟨_, _, _, _, hc, _⟩ | ⟨_, _, _, _, _, _, _, _, _, _, hc, _⟩
    · exact (curA_ok hc).1
    · exact (curA_ok hc).1
theorem freshM_look {d : Nat} : ∀ {M : List (Nat × Ob)}, freshM d M = true → lookM M d = none ∧ d ∉ keysM M
  | [], _ => ⟨rfl, by simp [keysM]⟩
  | (k, ob) :: l, h => by
    have h' : Nat.beq k d = false ∧ freshM d l = true := by
      cases ob with
      | mapT k v path e u xs hole =>
        cases hole <;> simp only [freshM, Bool.and_eq_true, Bool.not_eq_true'] at h
        · exact ⟨h.1, h.2⟩
        · exact ⟨h.1.1, h.2⟩
      | _ =>
        simp only [freshM, Bool.and_eq_true, Bool.not_eq_true'] at h
        first | exact ⟨h.1, h.2⟩ | exact ⟨h.1.1, h.2⟩
    obtain ⟨h1, h2⟩ := freshM_look h'.2
    refine ⟨by simp only [lookM, h'.1, cond_false]; exact h1, fun hm => ?_⟩
    rcases List.mem_cons.1 (show d ∈ k :: keysM l from hm) with rfl | hm
    · simp [Nat.beq_refl] at h'
    · exact h2 hm
theorem isSomeN_key : ∀ {M : List (Nat × Ob)} {id : Nat}, isSomeN (lookM M id) = true → id ∈ keysM M
  | [], id, h => by simp [lookM, isSomeN] at h
  | (k, ob) :: l, id, h => by
    simp only [lookM] at h
    cases hb : Nat.beq k id with
    | true => rw [Nat.eq_of_beq_eq_true hb]; exact .head _
    | false => rw [hb] at h; exact .tail _ (isSomeN_key h)
end
end Gx

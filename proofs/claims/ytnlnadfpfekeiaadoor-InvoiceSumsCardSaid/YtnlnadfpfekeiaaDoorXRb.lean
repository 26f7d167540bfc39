/- Operations that give a value, in a region whose order is open. -/
import Derived.Test.YtnlnadfpfekeiaaDoorXRa
namespace Gx
open Go Go.RowKit Gd
set_option linter.unusedVariables false
set_option linter.unusedSimpArgs false
theorem gvW {S : St} {β : Nat → Nat} {ρ : Nat → Value} {ok : Ok} {a : Act} {w : World} {N : Nat} (h : RelW β ρ ok S a w) (hs : a.tmps.size = N) {x : Operand} {v : AV} (hx : ev S [] x = some v) : gv (allG N a) x = some (.v (a.eval x)) := by
  cases x with
  | tmp t =>
    simp only [ev] at hx
    split at hx
    · rename_i e he
      obtain ⟨hb, hx⟩ := bvT hx
      obtain ⟨hm, ht⟩ := lookE_ok he
      obtain ⟨cs, h1, h2⟩ := (h.1 e hm).1 (subC_ok hb (holdsC_nil a))
      rw [lookE_rd he a, ht] at h1
      have hlt : t < a.tmps.size := by
        rcases Nat.lt_or_ge t a.tmps.size with h3 | h3
        · exact h3
        · rw [Array.getElem?_eq_none h3] at h1; cases h1
      simp only [gv, allG]
      rw [lookN_map (f := fun t => Gd.AV.v (a.tmps.getD t undef)) (List.mem_range.2 (hs ▸ hlt))]
      rfl
    · cases hx
  | const v => rfl
  | func f => rfl
  | global g => rfl
def ValSem (gl : List (Nat × Σ t : Ty, t.De)) (P : Program) (l0 : List Oper) (S : St) (o : Oper) (v : AV) : Prop :=
  ∀ {β : Nat → Nat} {ρ : Nat → Value} {β1 : Nat → Nat} {X : Cx} {D : List DF} {O : List TL} {a : Act} {w : World} {d : Nat} {Q : Exit → Act → World → Prop}, GlobOk gl (okN X) X.w → Sb β1 X (allG X.n a) D [] O a w → RelW β ρ (okOf X.ok X.w.heap.size β1 [] O w) S a w →
    Region.wanted o (yielded ⟨l0⟩ a.tmps) = true → guardV (⟨l0⟩ : Array Oper) (allG X.n a) o = some true → o.dst = some d → okD X d = true →
    (∀ a' w' cs, Sb β1 X (setN (allG X.n a) d (.v (v.val cs))) D [] O a' w' → cr β ρ (okOf X.ok X.w.heap.size β1 [] O w') w' false v cs → Q .normal a' w') → wpList P ⟨l0⟩ Q [o] a w
section
variable {P : Program} {Y : TX} {gl : List (Nat × Σ t : Ty, t.De)} {l0 : List Oper} {S : St} {o : Oper} {R : Type} {r : R}
theorem valQ {v : AV} (h : OpSem P S [] o v) : ValSem gl P l0 S o v := by
  intro β ρ β1 X D O a w d Q hG hS hR hw hg hd hok H
  obtain ⟨cs, h1, h2⟩ := h hR (holdsC_nil a)
  exact step_val hS (g := none) hg hd hok h1 fun a' hS' => H a' w cs hS' h2
theorem argD_ok {β : Nat → Nat} {ρ : Nat → Value} {ok : Ok} {a : Act} {w : World} (h : RelW β ρ ok S a w) : ∀ {xs : List Operand} {i : Nat} {es : List En} (pre : List Value), pre.length = i → argD S xs i = some es →
    es.length = xs.length ∧ ∀ e ∈ es, (enD β ρ ⟨(pre ++ xs.map a.eval).toArray, []⟩ e).p ok w
  | [], i, es, pre, _, he => by simp [argD] at he; subst he; exact ⟨rfl, by simp⟩
  | x :: xs, i, es, pre, hi, he => by
    simp only [argD] at he
    split at he
    · rename_i v r hv hr
      obtain ⟨hbi, he⟩ := bvT he
      simp at he; subst he
      obtain ⟨cs, h1, h2⟩ := h.ev (holdsC_nil a) hv
      obtain ⟨h3, h4⟩ := argD_ok h (xs := xs) (i := i + 1) (pre ++ [a.eval x]) (by simp [hi]) hr
      refine ⟨by simp [h3], fun e hm => ?_⟩
      have hl : pre ++ [a.eval x] ++ xs.map a.eval = pre ++ (x :: xs).map a.eval := by simp
      rw [hl] at h4
      rcases List.mem_cons.1 hm with rfl | hm
      · refine ⟨fun _ => ⟨cs, ?_, h2⟩, .inl (holdsC_nil _)⟩
        rw [rd_lt hbi]
        simp only [List.getElem?_toArray]
        rw [List.getElem?_append_right (by omega), ← hi]
        simp only [Nat.sub_self, List.map_cons, List.getElem?_cons_zero]
        exact congrArg some h1
      · exact h4 e hm
    · cases he
theorem isNilL_ok {α : Type} {l : List α} (h : isNilL l = true) : l = [] := by cases l <;> simp [isNilL] at h; rfl
theorem valCall {c : Con} (hc : ConOk P gl c) (hrun : Runs P c.f) {k : AV → Option R} (hs : callD c o.op S k = some r) : ∃ v, k v = some r ∧ allIds v = [] ∧ ValSem gl P l0 S o v := by
  unfold callD at hs
  split at hs
  · rename_i f xs ts hop
    obtain ⟨hb, hs⟩ := bvT hs
    simp only [Bool.and_eq_true] at hb
    have hf := Nat.eq_of_beq_eq_true hb.1.1
    have hΓ := isNilL_ok hb.1.2
    have hΔ := isNilL_ok hb.2
    split at hs
    · rename_i es hes
      obtain ⟨hlb, hs⟩ := bvT hs
      have hlen := Nat.eq_of_beq_eq_true hlb
      split at hs
      · rename_i x hx
        obtain ⟨y, hy, hs⟩ := bindE hs
        obtain ⟨hids, hs⟩ := bvT hs
        have hids := isNilL_ok hids
        have hall : allIds (resAV (enc c.Δ y).env) = [] := by
          cases hai : allIds (resAV (enc c.Δ y).env) with
          | nil => rfl
          | cons i l =>
            have := resAV_ids (enc c.Δ y).env i (by rw [hai]; exact .head _)
            rw [hids] at this; cases this
        refine ⟨_, hs, hall, ?_⟩
        intro β ρ β1 X D O a w d Q hGl hS hR hw hg hd hok H
        unfold decR at hx
        obtain ⟨hbx, hx⟩ := bvT hx
        split at hx
        · rename_i u v hu hv
          have hxl := ofL_ok hx
          obtain ⟨el, hE0⟩ := argD_ok hR [] rfl hes
          simp only [List.nil_append] at hE0
          obtain ⟨es', e1, e2⟩ := decEnv_ok (β := β) (ρ := ρ) (fun id ob ho => hR.2 id ob (by simpa using ho)) hE0 v hu
          have hmem : (enc c.Γ x).mem = [] := by
            unfold enc
            split
            rw [hΓ]; rfl
          have henv : (enc c.Γ x).env = es' := by
            unfold enc
            rw [hxl, e1]
          have hargs : ∀ e ∈ (enc c.Γ x).env, ∃ cs, (xs.map a.eval)[e.t]? = some (e.av.val cs) ∧ cr (newB [] β) (newR [] [] ρ) (okOf X.ok X.w.heap.size β1 [] O w) w false e.av cs := by
            intro e he
            rw [henv] at he
            have hcs : e.cs = [] := encEnv_cs (Γe := c.Γ.env) (l := u ++ v) e (by rw [e1]; exact he)
            obtain ⟨cs, p1, p2⟩ := (e2 e he).1.1 (by rw [hcs]; exact holdsC_nil _)
            rw [rd_lt (e2 e he).2] at p1
            exact ⟨cs, by simpa using p1, p2⟩
          have hcall := hc _ w [] _ _ x y (xs.map a.eval) (fun b f hk => hk.2.1) (glob_here hS hGl) (by rw [List.length_map, ← el, hlen]) (by rw [hmem]; exact ⟨by simp [memO], .nil, by simp⟩) hargs hy
          subst hf
          refine wpList_go hw ?_
          have hrun' : (execOp a.eval o).run P w = .ok (.enter c.f ⟨xs.map a.eval⟩) w := by
            unfold execOp
            rw [hop]
            have hm : (Array.mk xs).map a.eval = ⟨xs.map a.eval⟩ := by simp
            simp [resolve, hm, Act.eval, Deferred.ofValue, invoke, run_callFunc hrun]
          unfold Oper.wp
          rw [hrun']
          refine hcall.mono ?_
          rintro e' w' ⟨v0, rfl, ⟨β2, ρ2, hag, ⟨cs, hv0, hcr⟩, hT2, hpw2⟩, hbel⟩
          show wpList P ⟨l0⟩ Q [] (a.put o.dst v0) w'
          rw [hd]
          have h2 : Sb β1 X (allG X.n a) D [] ([] ++ O) a w := hS
          have h3 := Sb.callO (O1' := []) h2 hbel (by simp) (by simp) (by simp) .nil
          have h4 := h3.put hok (.v v0)
          subst hv0
          refine H _ w' cs h4 ?_
          have hcr' := cr_agree (β' := β) (ρ' := ρ) (fun i hi => by rw [hall] at hi; cases hi) hcr
          refine cr_weak hcr' fun b f hk => ?_
          have hm0 : memO β2 ρ2 (enc c.Δ y).mem = [] := by
            have : (enc c.Δ y).mem = [] := by
              unfold enc
              split
              rw [hΔ]; rfl
            rw [this]; rfl
          rw [hm0] at hk
          exact okOf_call (O1' := []) h2 hbel.size (by simp) b f ⟨hk.1, hk.2.1, by simp, by simp⟩
        · cases hx
      · cases hs
    · cases hs
  · cases hs
theorem asLsW_ok {β : Nat → Nat} {ρ : Nat → Value} {ok : Ok} {a : Act} {w : World} {N : Nat} (h : RelW β ρ ok S a w) (hn : a.tmps.size = N) {u : Ty} : ∀ {ps : List (Nat × Operand)} {vs : List (Nat × AV)} {xs : List u.De} {j : Nat}, evParts' S [] ps = some vs → asLs S.mem u vs j = some xs →
    ∃ us : List Value, ps.map (fun p => (p.1, a.eval p.2)) = (List.range' j us.length).zip us ∧ allV (rt u) ok w xs us ∧ us.length = xs.length ∧ evParts (allG N a) ps = some (ps.map (fun p => (p.1, a.eval p.2)))
  | [], vs, xs, j, he, hx => by
    simp [evParts'] at he; subst he
    simp [asLs] at hx; subst hx
    exact ⟨[], rfl, trivial, rfl, rfl⟩
  | (i, x) :: ps, vs, xs, j, he, hx => by
    simp only [evParts'] at he
    split at he
    · rename_i v l hv hl
      simp at he; subst he
      simp only [asLs] at hx
      obtain ⟨hb, hx⟩ := bvT hx
      simp only [Bool.and_eq_true] at hb
      have := Nat.eq_of_beq_eq_true hb.1
      subst this
      split at hx
      · rename_i y ys hy hys
        simp at hx; subst hx
        obtain ⟨us, q1, q2, q3, q4⟩ := asLsW_ok h hn (u := u) (ps := ps) hl hys
        have hiv := h.asD (holdsC_nil a) hv hy (bEq hb.2)
        refine ⟨a.eval x :: us, ?_, ⟨hiv, q2⟩, by simp [q3], ?_⟩
        · simp only [List.map_cons, List.length_cons, List.range'_succ, List.zip_cons_cons, q1]
        · simp only [evParts, gvW h hn hv, q4, List.map_cons]
      · cases hx
    · cases he
theorem valLit (hT : TabOk P Y.T) {k : AV → Option R} (hs : litD Y S o.op k = some r) : ∃ v, k v = some r ∧ allIds v = [] ∧ ValSem gl P l0 S o v := by
  unfold litD at hs
  split at hs
  · rename_i t m ps hop
    split at hs
    · rename_i te hte
      split at hs
      · rename_i e htd
        have htd := isSliceD_ok htd
        split at hs
        · rename_i ee u he hu
          split at hs
          · rename_i vs hvs
            split at hs
            · rename_i xs hxs
              obtain ⟨hb, hs⟩ := bvT hs
              simp only [Bool.and_eq_true] at hb
              obtain ⟨⟨⟨⟨hsz, hl⟩, hsm⟩, hpos⟩, hzl⟩ := hb
              refine ⟨_, hs, rfl, ?_⟩
              intro β ρ β1 X D O a w d Q hGl hS hR hw hg hd hok H
              have hn : a.tmps.size = X.n := hS.sz
              obtain ⟨us, q1, q2, q3, q4⟩ := asLsW_ok hR hn hvs hxs
              have hes := Nat.eq_of_beq_eq_true hsz
              have hxl := Nat.eq_of_beq_eq_true hl
              have hcl : ∀ v ∈ us, (cellsL v).length = ee.size := by
                have key : ∀ {xs : List u.De} {us : List Value}, allV (rt u) (okOf X.ok X.w.heap.size β1 [] O w) w xs us → ∀ v ∈ us, (cellsL v).length = ee.size := by
                  intro xs
                  induction xs with
                  | nil => intro us hu v hv; cases us with
                    | nil => cases hv
                    | cons _ _ => cases hu
                  | cons x xs ih =>
                    intro us hu v hv
                    cases us with
                    | nil => cases hv
                    | cons y us =>
                      rcases List.mem_cons.1 hv with rfl | hv
                      · rw [(rt u).len (cellsL_rep hu.1), rt_size, hes]
                      · exact ih hu.2 v hv
                exact key q2
              have hz0 : (zerosS (cellsL ee.z) ((m + 1) * ee.size)).length = (m + 1) * ee.size := by simp [zerosS]
              have hfill := fillS us 0 (zerosS (cellsL ee.z) ((m + 1) * ee.size)) hcl (by rw [hz0, Nat.zero_add, q3, hxl]; exact Nat.le_refl _)
              rw [← q1] at hfill
              have hfill' : fillL (placeS ee.size) (zerosS (cellsL ee.z) ((m + 1) * ee.size)) (ps.map (fun p => (p.1, a.eval p.2))) = some (us.flatMap cellsL) := by
                rw [hfill]
                simp only [Nat.zero_mul, List.take_zero, List.nil_append, Nat.zero_add]
                rw [List.drop_of_length_le (by rw [hz0, q3, hxl]; exact Nat.le_refl _), List.append_nil]
              rw [op_eta o, hd, hop] at hg ⊢
              refine step_buildSlice hT hS (r := rt u) hg hok q4 hte htd he (by rw [rt_size]; exact hes) hxl hsm (Nat.ble_eq_true_of_le (by have := Nat.le_of_ble_eq_true hpos; have := Nat.mul_le_mul (Nat.le_add_left 1 m) this; omega)) hzl hfill' q2 fun A c a' w' hv hS' => ?_
              exact H a' w' [.slice A xs.length c] hS' ⟨_, rfl, isV_sl.1 hv⟩
            · cases hs
          · cases hs
        · cases hs
      · cases hs
    · cases hs
  · cases hs
end
end Gx

/- Rows that are appended to, frozen, lent to a call. -/
import Derived.Test.YtnlnadfpfekeiaaDoorGRows
namespace Gd
open Go Go.RowKit
set_option linter.unusedVariables false
set_option linter.unusedSimpArgs false
section
variable {P : Program} {T : Tab} {β : Nat → Nat} {X : Cx} {G : GL} {D : List DF} {H : HL} {O : List TL} {a : Act} {w w' : World}
variable {ops : Array Oper} {Q : Exit → Act → World → Prop} {rest : List Oper}
theorem Sb.addNilM (h : Sb β X G D H O a w) (e : Nat) {τ : Type} (r : RT τ) : Sb β X G D H (ml (.slice none 0 0) e r [] :: O) a w :=
  h.allocTL (Below.refl _ _) (fun g hg => by have hg : (none : Option Nat) = some g := hg; cases hg) ⟨rfl, [], World.ownsRowS_nil _ _ _ _, rfl⟩
theorem Sb.freeze (h : Sb β X G D H O a w) {τ : Type} {r : RT τ} {xs : List τ} {A : Option Addr} {c : Nat} {e : Nat} {O2 : List TL} (hO : O = ml (.slice A xs.length c) e r xs :: O2) (hpos : Nat.ble 1 r.size = true) :
    Sb β X G (DF.v (rSl r) xs (.slice A xs.length c) :: D) H (tl (.slice A xs.length c) e r.size :: O2) a w := by
  subst hO
  have hmem : ml (.slice A xs.length c) e r xs ∈ ml (.slice A xs.length c) e r xs :: O2 := .head _
  obtain ⟨⟨hl, cs, hown, hr⟩, hmine⟩ := h.own _ hmem
  have hok : ∀ b o, okOf X.ok X.w.heap.size β H (ml (.slice A xs.length c) e r xs :: O2) w b o → okOf X.ok X.w.heap.size β H (tl (.slice A xs.length c) e r.size :: O2) w b o := by
    rintro b o ⟨h1, h2, h3, h4⟩
    refine ⟨h1, h2, h3, fun u hu hc => ?_⟩
    rcases List.mem_cons.1 hu with rfl | hu
    · exact h4 _ (.head _) hc.1
    · exact h4 u (.tail _ hu) hc
  have hpw := List.pairwise_cons.1 h.dOO
  refine { sz := h.sz, df := h.df, fr := h.fr, pn := h.pn, tm := h.tm, bel := h.bel, dat := ⟨?_, h.dat.weak hok⟩, obj := h.obj, own := fun u hu => ?_, dHH := h.dHH, dHO := fun p hp u hu => ?_, dOO := List.pairwise_cons.2 ⟨fun u hu g hg => hpw.1 u hu g hg, hpw.2⟩ }
  · refine isV_sl.2 ⟨A, xs.length, c, rfl, rfl, ?_, fun h0 => ?_⟩
    · rcases hown.2 with ⟨hv, h0⟩ | ⟨g, cap, cur, fz, hv, _, _, _, hle, _⟩
      · simp only [lenV] at h0; omega
      · injection hv with e1 e2 e3; simp only [lenV] at hle; omega
    · rcases hown.2 with ⟨hv, h1⟩ | ⟨g, cap, cur, fz, hv, _, hh, hfz, hle, hcm, hcs, htk⟩
      · simp only [lenV] at h1; omega
      · injection hv with e1 e2 e3
        simp only [lenV] at hle htk
        refine ⟨g, 0, e1, fun i x hx => ?_⟩
        have hi := (List.getElem?_eq_some_iff.1 hx).1
        have hrep := repA_at hr hx
        refine ⟨_, r.weak hrep hok, fun j u hu => ?_⟩
        have hj : j < r.size := by have := (List.getElem?_eq_some_iff.1 hu).1; rw [r.len hrep] at this; exact this
        have hgb : (Value.slice A xs.length c).ownBlock = some g := by rw [e1]; rfl
        rw [Nat.zero_add]
        refine ⟨⟨X.mine_ok (hmine g hgb) _, heap_lt hh, fun p hp e2 => h.dHO p hp _ hmem (by rw [e2]; exact hgb), fun u' hu' hc => ?_⟩, ?_⟩
        · rcases List.mem_cons.1 hu' with rfl | hu'
          · have := hc.2
            simp only [lenV] at this
            have : (i + 1) * r.size ≤ xs.length * r.size := Nat.mul_le_mul_right _ hi
            rw [Nat.add_mul] at this
            omega
          · exact hpw.1 u' hu' g hgb (u'.cb hc)
        · rw [mrow_cell hh]
          rw [List.getElem?_take_of_lt hj, List.getElem?_drop, ← htk, List.getElem?_take] at hu
          split at hu
          · exact hu
          · cases hu
  · rcases List.mem_cons.1 hu with rfl | hu
    · exact ⟨⟨cs, hown⟩, hmine⟩
    · exact ⟨u.weak (h.own u (.tail _ hu)).1 hok, (h.own u (.tail _ hu)).2⟩
  · rcases List.mem_cons.1 hu with rfl | hu
    · exact fun hg => (h.dHO p hp _ hmem) hg
    · exact h.dHO p hp u (.tail _ hu)
theorem step_mappend (hT : TabOk P T) (h : Sb β X G D H O a w) (O1 O2 : List TL) {t : TypeId} {s x : Operand} {d : Nat} {ps : String} {af : Array Edge} {ty : TypeId} {gd : Option (Nat × Bool)}
    (hg : guardV ops G ⟨some d, .call ⟨.builtin .append, ⟨[s, x]⟩, ⟨[t, t]⟩⟩, ty, ps, af, gd⟩ = some true) (hlt : okD X d = true)
    {τ : Type} {r : RT τ} {xs ys zs : List τ} {A : Option Addr} {A2 : Option Addr} {m c m2 c2 : Nat} {e : TypeId} {te ee : TE} (ht : lookT T t = some te) (htd : te.d = .slice e) (he : lookT T e = some ee) (hs : ee.size = r.size)
    (hz : Nat.beq (cellsL ee.z).length ee.size = true) (hsz : Nat.ble 1 ee.size = true) (hby : Nat.ble 1 ee.bytes = true)
    (hO : O = O1 ++ ml (.slice A m c) e r xs :: O2) (hs1 : gv G s = some (.v (.slice A m c))) (hx1 : gv G x = some (.v (.slice A2 m2 c2)))
    (hDy : isV (rSl r) (okOf X.ok X.w.heap.size β H O w) w ys (.slice A2 m2 c2)) (happ : app ee.bytes xs ys = some zs)
    (hk : ∀ A' c' a' w', Sb β X (setN G d (.v (.slice A' zs.length c'))) D H (O1 ++ ml (.slice A' zs.length c') e r zs :: O2) a' w' → wpList P ops Q rest a' w') :
    wpList P ops Q (⟨some d, .call ⟨.builtin .append, ⟨[s, x]⟩, ⟨[t, t]⟩⟩, ty, ps, af, gd⟩ :: rest) a w := by
  obtain ⟨hbytes, rfl⟩ := app_ok happ
  have hmem : ml (.slice A m c) e r xs ∈ O := by rw [hO]; simp
  obtain ⟨⟨hl, xs0, hown, hr⟩, hmine⟩ := h.own _ hmem
  obtain ⟨csy, hcy1, hyl, hmc2, hA2, hcy2, hcy3, hcy4⟩ := slRep_cells (isV_sl.1 hDy)
  have hzl := Nat.eq_of_beq_eq_true hz
  have hsz' : 0 < ee.size := Nat.le_of_ble_eq_true hsz
  have hby' : 0 < ee.bytes := Nat.le_of_ble_eq_true hby
  have hnews : ∀ ad, A2 = some ad → ∀ j u, csy[j]? = some u → w.cell? (ad.add j) = some u := by
    intro ad had j u hu
    have hj := (List.getElem?_eq_some_iff.1 hu).1
    have hm2 : 0 < m2 := by
      rcases Nat.eq_zero_or_pos m2 with h0 | h0
      · rw [h0, Nat.zero_mul] at hcy1; omega
      · exact h0
    obtain ⟨b, o, hA', hc⟩ := hcy3 hm2
    rw [hA'] at had
    injection had with had
    subst had
    rw [addr_add]
    exact (hc j u hu).2
  simp only [lenV] at hown hl
  rw [← hs] at hown
  obtain ⟨v', w1, hrun, hown', hgrow, hblk⟩ := own_append (P := P) (w := w) (ty := ty) hT ht htd he hzl hsz' hby' hown (Nat.zero_le _) (k := m2) (c := c2) (A := A2) (news := csy) (by rw [hs]; exact hcy1) hA2 hnews hcy2 (by rw [hl, ← hyl]; exact hbytes)
  have hrun' : (execOp a.eval ⟨some d, .call ⟨.builtin .append, ⟨[s, x]⟩, ⟨[t, t]⟩⟩, ty, ps, af, gd⟩).run P w = .ok (.value v') w1 := by
    unfold execOp
    have hm : (Array.mk [s, x]).map a.eval = ⟨[.slice A m c, .slice A2 m2 c2]⟩ := by simp [h.ev hs1, h.ev hx1, den_v]
    simp [resolve, hm, invoke, builtin, hrun]
  have hform : ∃ A' c', v' = .slice A' (m + m2) c' := by
    rcases hown'.2 with ⟨rfl, h0⟩ | ⟨g, cap, cur, fz, rfl, _⟩
    · exact ⟨none, 0, by rw [h0]⟩
    · exact ⟨_, cap, rfl⟩
  obtain ⟨A', c', rfl⟩ := hform
  have hlen : m + m2 = (xs ++ ys).length := by rw [List.length_append, hl, hyl]
  refine wpList_go (guardV_ok h hg) (wp_value hrun' ?_)
  have hS : Sb β X G D H (O1 ++ ml (.slice A' (m + m2) c') e r (xs ++ ys) :: O2) a w1 := by
    refine h.upd hO hgrow.os hgrow.tape hgrow.output hgrow.size (fun b hb hn => hgrow.block b hb fun e => hn e.symm) (fun b o hb => hb) (fun g hg => ?_) fun hevo hok => ?_
    · rcases hblk with he1 | ⟨he1, _⟩
      · exact .inl (by have hg : (Value.slice A' (m + m2) c').ownBlock = some g := hg; rw [he1] at hg; exact hg)
      · have hg : (Value.slice A' (m + m2) c').ownBlock = some g := hg
        rw [he1] at hg; injection hg with hg; exact .inr (by omega)
    · refine ⟨hlen, xs0 ++ csy, by rw [← hs]; exact hown', repA_append (repA_weak (repA_evo hr hevo) hok) (repA_weak (repA_evo ?_ hevo) hok)⟩
      exact repA_of ys csy (by rw [hcy1, hyl]) hcy4
  have := hk A' c' (a.put (some d) (.slice A' (m + m2) c')) w1
  rw [← hlen] at this
  exact this (hS.put hlt (.v _))
end
end Gd
namespace Gd
open Go Go.RowKit
section
variable {P : Program} {T : Tab} {β : Nat → Nat} {X : Cx} {G : GL} {D : List DF} {H : HL} {O : List TL} {a : Act} {w w' : World}
variable {ops : Array Oper} {Q : Exit → Act → World → Prop} {rest : List Oper}
def blkL (v : Value) : List Nat := match v.ownBlock with
  | some g => [g]
  | none => []
theorem mem_blkL {v : Value} {g : Nat} : g ∈ blkL v ↔ v.ownBlock = some g := by
  unfold blkL
  cases h : v.ownBlock with
  | none => simp
  | some b => simp [eq_comm]
def Lends (Ts : List TL) (L : List Nat) (ok : Ok) (w : World) : Prop :=
  (∀ t ∈ Ts, t.p ok w ∧ (∀ g, t.blks g → g ∈ L) ∧ ∀ g o, t.blks g → ¬ ok g o) ∧ (Ts.Pairwise fun s t => ∀ g, s.blks g → ¬ t.blks g) ∧ ∀ g ∈ L, ∃ t ∈ Ts, t.blks g
theorem enter_okL {f : FuncId} {fn : Func} {c : Code} {vs : List Value} {R : Value → World → Prop} {ok : Ok} {n : Nat} {L : List Nat} {O : List TL} (hok : ∀ b o, ok b o → b < w.heap.size)
    (hf : P.funcs[f]? = some fn) (hb : fn.body = some c) (hn : fn.ntmps = n) (hle : Nat.ble vs.length n = true) {D : List DF} (hD : AllD ok w D) (hO : Lends O L ok w)
    (h : ∀ a, Sb (fun _ => 0) (cxL L n ok w) (zipG vs 0) D [] O a w → c.wp P (bodyPost P fn (RetL L w R)) a w) : Calls P f ⟨vs⟩ w (RetL L w R) := by
  refine calls_of_wp hf hb (h _ ?_)
  have hle' := Nat.le_of_ble_eq_true hle
  have hk : ∀ b o, ok b o → okOf (okL L ok) w.heap.size (fun _ => 0) [] O w b o := fun b o hbo => ⟨.inl (.inl hbo), hok b o hbo, by simp, fun t ht hc => (hO.1 t ht).2.2 b o (t.cb hc) hbo⟩
  refine { sz := by simp [hn]; omega, df := rfl, fr := by simp, pn := by simp, tm := ?_, bel := BelowL.refl _ _ _, dat := hD.weak hk, obj := by simp, own := fun t ht => ⟨t.weak (hO.1 t ht).1 hk, fun g hg => .inr ((hO.1 t ht).2.1 g hg)⟩, dHH := by simp, dHO := by simp, dOO := hO.2.1 }
  intro p hp
  obtain ⟨j, v, rfl, hv⟩ := zipG_get hp
  have hj := (List.getElem?_eq_some_iff.1 hv).1
  simp only [Nat.zero_add, den_v]
  rw [Array.getElem?_append_left (by simpa using hj)]
  simpa using hv
theorem Sb.melt0 {A : Option Addr} {c e : Nat} {τ : Type} {r : RT τ} {O2 : List TL} (h : Sb β X G D H (tl (.slice A 0 c) e r.size :: O2) a w) : Sb β X G D H (ml (.slice A 0 c) e r [] :: O2) a w := by
  have hok : ∀ b o, okOf X.ok X.w.heap.size β H (tl (.slice A 0 c) e r.size :: O2) w b o → okOf X.ok X.w.heap.size β H (ml (.slice A 0 c) e r [] :: O2) w b o := by
    rintro b o ⟨h1, h2, h3, h4⟩
    refine ⟨h1, h2, h3, fun u hu hc => ?_⟩
    rcases List.mem_cons.1 hu with rfl | hu
    · exact h4 _ (.head _) ⟨hc, by simp [lenV]⟩
    · exact h4 u (.tail _ hu) hc
  obtain ⟨⟨cs, hown⟩, hmine⟩ := h.own _ (.head _)
  have hpw := List.pairwise_cons.1 h.dOO
  have hcs : cs = [] := by
    have := hown.1
    simp only [lenV, Nat.zero_mul] at this
    exact List.eq_nil_of_length_eq_zero this
  refine { sz := h.sz, df := h.df, fr := h.fr, pn := h.pn, tm := h.tm, bel := h.bel, dat := h.dat.weak hok, obj := h.obj, own := fun u hu => ?_, dHH := h.dHH, dHO := fun p hp u hu => ?_, dOO := List.pairwise_cons.2 ⟨fun u hu g hg => hpw.1 u hu g hg, hpw.2⟩ }
  · rcases List.mem_cons.1 hu with rfl | hu
    · exact ⟨⟨rfl, cs, hown, by subst hcs; rfl⟩, hmine⟩
    · exact ⟨u.weak (h.own u (.tail _ hu)).1 hok, (h.own u (.tail _ hu)).2⟩
  · rcases List.mem_cons.1 hu with rfl | hu
    · exact fun hg => h.dHO p hp _ (.head _) hg
    · exact h.dHO p hp u (.tail _ hu)
end
end Gd

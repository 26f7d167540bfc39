/- Rows that are appended to, frozen, lent to a call. -/
import Derived.Test.YtnlnadfpfekeiaaDoorGRows
namespace Gd
open Go Go.RowKit
set_option linter.unusedVariables false
set_option linter.unusedSimpArgs false

section
variable {P : Program} {T : Tab} {β : Nat → Nat} {X : Cx} {G : GL} {D : List DF} {H : HL} {O : List TL} {a : Act} {w w' : World}
variable {ops : Array Oper} {Q : Exit → Act → World → Prop} {rest : List Oper}

/-- A nil slice, as a row that will be written. -/
theorem Sb.addNilM (h : Sb β X G D H O a w) (e : Nat) {τ : Type} (r : RT τ) : Sb β X G D H (ml (.slice none 0 0) e r [] :: O) a w :=
  h.allocTL (Below.refl _ _) (fun g hg => by have hg : (none : Option Nat) = some g := hg; cases hg) ⟨rfl, [], World.ownsRowS_nil _ _ _ _, rfl⟩

/-- What is the call's own, in another order: one to the front. -/
theorem Sb.front (h : Sb β X G D H O a w) (k : Nat) {t : TL} (hk : O[k]? = some t) : Sb β X G D H (t :: O.eraseIdx k) a w := by
  have hlt := (List.getElem?_eq_some_iff.1 hk).1
  have ht : t ∈ O := List.mem_of_getElem? hk
  have hm : ∀ u, u ∈ t :: O.eraseIdx k ↔ u ∈ O := by
    intro u
    constructor
    · intro hu
      rcases List.mem_cons.1 hu with rfl | hu
      · exact ht
      · exact List.mem_of_mem_eraseIdx hu
    · intro hu
      obtain ⟨i, hi⟩ := List.getElem?_of_mem hu
      by_cases hik : i = k
      · subst hik; rw [hk] at hi; injection hi with hi; subst hi; exact .head _
      · refine .tail _ (List.mem_eraseIdx_iff_getElem?.2 ⟨i, hik, hi⟩)
  have hok : ∀ b o, okOf X.ok X.w.heap.size β H O w b o → okOf X.ok X.w.heap.size β H (t :: O.eraseIdx k) w b o := fun b o ⟨h1, h2, h3, h4⟩ => ⟨h1, h2, h3, fun u hu => h4 u ((hm u).1 hu)⟩
  refine { sz := h.sz, df := h.df, fr := h.fr, pn := h.pn, tm := h.tm, bel := h.bel, dat := h.dat.weak hok, obj := h.obj, own := fun u hu => ⟨u.weak (h.own u ((hm u).1 hu)).1 hok, (h.own u ((hm u).1 hu)).2⟩, dHH := h.dHH, dHO := fun p hp u hu => h.dHO p hp u ((hm u).1 hu), dOO := ?_ }
  have hO : O = O.take k ++ t :: O.drop (k + 1) := by
    rw [← (List.getElem?_eq_some_iff.1 hk).2, ← List.drop_eq_getElem_cons hlt, List.take_append_drop]
  have hE : O.eraseIdx k = O.take k ++ O.drop (k + 1) := List.eraseIdx_eq_take_drop_succ O k
  have hp := h.dOO
  rw [hO] at hp
  rw [hE]
  have hp1 := List.pairwise_append.1 hp
  have hp2 := List.pairwise_cons.1 hp1.2.1
  refine List.pairwise_cons.2 ⟨fun u hu g hg hg2 => ?_, List.pairwise_append.2 ⟨hp1.1, hp2.2, fun u hu v hv => hp1.2.2 u hu v (.tail _ hv)⟩⟩
  rcases List.mem_append.1 hu with hu | hu
  · exact hp1.2.2 u hu t (.head _) g hg2 hg
  · exact hp2.1 u hu g hg hg2

/-- A row that is no longer written: its elements stay, it may still be appended to. -/
theorem Sb.freeze (h : Sb β X G D H O a w) {τ : Type} {r : RT τ} {xs : List τ} {A : Option Addr} {c : Nat} {e : Nat} {O2 : List TL} (hO : O = ml (.slice A xs.length c) e r xs :: O2) (hpos : Nat.ble 1 r.size = true) :
    Sb β X G (DF.v (rSl r) xs (.slice A xs.length c) :: D) H (tl (.slice A xs.length c) e r.size :: O2) a w := by
  subst hO
  have hmem : ml (.slice A xs.length c) e r xs ∈ ml (.slice A xs.length c) e r xs :: O2 := .head _
  obtain ⟨⟨hl, cs, hown, hr⟩, hmine⟩ := h.own _ hmem
  have hok : ∀ b o, okOf X.ok X.w.heap.size β H (ml (.slice A xs.length c) e r xs :: O2) w b o → okOf X.ok X.w.heap.size β H (tl (.slice A xs.length c) e r.size :: O2) w b o := by
    rintro b o ⟨h1, h2, h3, h4⟩
    refine ⟨h1, h2, h3, fun u hu hc => ?_⟩
    rcases List.mem_cons.1 hu with rfl | hu
    · exact h4 _ (.head _) hc.1
    · exact h4 u (.tail _ hu) hc
  have hpw := List.pairwise_cons.1 h.dOO
  refine { sz := h.sz, df := h.df, fr := h.fr, pn := h.pn, tm := h.tm, bel := h.bel, dat := ⟨?_, h.dat.weak hok⟩, obj := h.obj, own := fun u hu => ?_, dHH := h.dHH, dHO := fun p hp u hu => ?_, dOO := List.pairwise_cons.2 ⟨fun u hu g hg => hpw.1 u hu g hg, hpw.2⟩ }
  · refine isV_sl.2 ⟨A, xs.length, c, rfl, rfl, ?_, fun h0 => ?_⟩
    · rcases hown.2 with ⟨hv, h0⟩ | ⟨g, cap, cur, fz, hv, _, _, _, hle, _⟩
      · simp only [lenV] at h0; omega
      · injection hv with e1 e2 e3; simp only [lenV] at hle; omega
    · rcases hown.2 with ⟨hv, h1⟩ | ⟨g, cap, cur, fz, hv, _, hh, hfz, hle, hcm, hcs, htk⟩
      · simp only [lenV] at h1; omega
      · injection hv with e1 e2 e3
        simp only [lenV] at hle htk
        refine ⟨g, 0, e1, fun i x hx => ?_⟩
        have hi := (List.getElem?_eq_some_iff.1 hx).1
        have hrep := repA_at hr hx
        refine ⟨_, r.weak hrep hok, fun j u hu => ?_⟩
        have hj : j < r.size := by have := (List.getElem?_eq_some_iff.1 hu).1; rw [r.len hrep] at this; exact this
        have hgb : (Value.slice A xs.length c).ownBlock = some g := by rw [e1]; rfl
        rw [Nat.zero_add]
        refine ⟨⟨X.mine_ok (hmine g hgb) _, heap_lt hh, fun p hp e2 => h.dHO p hp _ hmem (by rw [e2]; exact hgb), fun u' hu' hc => ?_⟩, ?_⟩
        · rcases List.mem_cons.1 hu' with rfl | hu'
          · have := hc.2
            simp only [lenV] at this
            have : (i + 1) * r.size ≤ xs.length * r.size := Nat.mul_le_mul_right _ hi
            rw [Nat.add_mul] at this
            omega
          · exact hpw.1 u' hu' g hgb (u'.cb hc)
        · rw [mrow_cell hh]
          rw [List.getElem?_take_of_lt hj, List.getElem?_drop, ← htk, List.getElem?_take] at hu
          split at hu
          · exact hu
          · cases hu
  · rcases List.mem_cons.1 hu with rfl | hu
    · exact ⟨⟨cs, hown⟩, hmine⟩
    · exact ⟨u.weak (h.own u (.tail _ hu)).1 hok, (h.own u (.tail _ hu)).2⟩
  · rcases List.mem_cons.1 hu with rfl | hu
    · exact fun hg => (h.dHO p hp _ hmem) hg
    · exact h.dHO p hp u (.tail _ hu)

/-- append to a row. -/
theorem step_mappend (hT : TabOk P T) (h : Sb β X G D H O a w) (O1 O2 : List TL) {t : TypeId} {s x : Operand} {d : Nat} {ps : String} {af : Array Edge} {ty : TypeId} {gd : Option (Nat × Bool)}
    (hg : guardV ops G ⟨some d, .call ⟨.builtin .append, ⟨[s, x]⟩, ⟨[t, t]⟩⟩, ty, ps, af, gd⟩ = some true) (hlt : okD X d = true)
    {τ : Type} {r : RT τ} {xs ys zs : List τ} {A : Option Addr} {A2 : Option Addr} {m c m2 c2 : Nat} {e : TypeId} {te ee : TE} (ht : lookT T t = some te) (htd : te.d = .slice e) (he : lookT T e = some ee) (hs : ee.size = r.size)
    (hz : Nat.beq (cellsL ee.z).length ee.size = true) (hsz : Nat.ble 1 ee.size = true) (hby : Nat.ble 1 ee.bytes = true)
    (hO : O = O1 ++ ml (.slice A m c) e r xs :: O2) (hs1 : gv G s = some (.v (.slice A m c))) (hx1 : gv G x = some (.v (.slice A2 m2 c2)))
    (hDy : isV (rSl r) (okOf X.ok X.w.heap.size β H O w) w ys (.slice A2 m2 c2)) (happ : app ee.bytes xs ys = some zs)
    (hk : ∀ A' c' a' w', Sb β X (setN G d (.v (.slice A' zs.length c'))) D H (O1 ++ ml (.slice A' zs.length c') e r zs :: O2) a' w' → wpList P ops Q rest a' w') :
    wpList P ops Q (⟨some d, .call ⟨.builtin .append, ⟨[s, x]⟩, ⟨[t, t]⟩⟩, ty, ps, af, gd⟩ :: rest) a w := by
  obtain ⟨hbytes, rfl⟩ := app_ok happ
  have hmem : ml (.slice A m c) e r xs ∈ O := by rw [hO]; simp
  obtain ⟨⟨hl, xs0, hown, hr⟩, hmine⟩ := h.own _ hmem
  obtain ⟨csy, hcy1, hyl, hmc2, hA2, hcy2, hcy3, hcy4⟩ := slRep_cells (isV_sl.1 hDy)
  have hzl := Nat.eq_of_beq_eq_true hz
  have hsz' : 0 < ee.size := Nat.le_of_ble_eq_true hsz
  have hby' : 0 < ee.bytes := Nat.le_of_ble_eq_true hby
  have hnews : ∀ ad, A2 = some ad → ∀ j u, csy[j]? = some u → w.cell? (ad.add j) = some u := by
    intro ad had j u hu
    have hj := (List.getElem?_eq_some_iff.1 hu).1
    have hm2 : 0 < m2 := by
      rcases Nat.eq_zero_or_pos m2 with h0 | h0
      · rw [h0, Nat.zero_mul] at hcy1; omega
      · exact h0
    obtain ⟨b, o, hA', hc⟩ := hcy3 hm2
    rw [hA'] at had
    injection had with had
    subst had
    rw [addr_add]
    exact (hc j u hu).2
  simp only [lenV] at hown hl
  rw [← hs] at hown
  obtain ⟨v', w1, hrun, hown', hgrow, hblk⟩ := own_append (P := P) (w := w) (ty := ty) hT ht htd he hzl hsz' hby' hown (Nat.zero_le _) (k := m2) (c := c2) (A := A2) (news := csy) (by rw [hs]; exact hcy1) hA2 hnews hcy2 (by rw [hl, ← hyl]; exact hbytes)
  have hrun' : (execOp a.eval ⟨some d, .call ⟨.builtin .append, ⟨[s, x]⟩, ⟨[t, t]⟩⟩, ty, ps, af, gd⟩).run P w = .ok (.value v') w1 := by
    unfold execOp
    have hm : (Array.mk [s, x]).map a.eval = ⟨[.slice A m c, .slice A2 m2 c2]⟩ := by simp [h.ev hs1, h.ev hx1, den_v]
    simp [resolve, hm, invoke, builtin, hrun]
  have hform : ∃ A' c', v' = .slice A' (m + m2) c' := by
    rcases hown'.2 with ⟨rfl, h0⟩ | ⟨g, cap, cur, fz, rfl, _⟩
    · exact ⟨none, 0, by rw [h0]⟩
    · exact ⟨_, cap, rfl⟩
  obtain ⟨A', c', rfl⟩ := hform
  have hlen : m + m2 = (xs ++ ys).length := by rw [List.length_append, hl, hyl]
  refine wpList_go (guardV_ok h hg) (wp_value hrun' ?_)
  have hS : Sb β X G D H (O1 ++ ml (.slice A' (m + m2) c') e r (xs ++ ys) :: O2) a w1 := by
    refine h.upd hO hgrow.os hgrow.tape hgrow.output hgrow.size (fun b hb hn => hgrow.block b hb fun e => hn e.symm) (fun b o hb => hb) (fun g hg => ?_) fun hevo hok => ?_
    · rcases hblk with he1 | ⟨he1, _⟩
      · exact .inl (by have hg : (Value.slice A' (m + m2) c').ownBlock = some g := hg; rw [he1] at hg; exact hg)
      · have hg : (Value.slice A' (m + m2) c').ownBlock = some g := hg
        rw [he1] at hg; injection hg with hg; exact .inr (by omega)
    · refine ⟨hlen, xs0 ++ csy, by rw [← hs]; exact hown', repA_append (repA_weak (repA_evo hr hevo) hok) (repA_weak (repA_evo ?_ hevo) hok)⟩
      exact repA_of ys csy (by rw [hcy1, hyl]) hcy4
  have := hk A' c' (a.put (some d) (.slice A' (m + m2) c')) w1
  rw [← hlen] at this
  exact this (hS.put hlt (.v _))

/-- A row that was lent to a call. -/
theorem Sb.lent1 {L : List Nat} {t t' : TL} {O2 : List TL} (h : Sb β X G D H (t :: O2) a w) (hb : BelowL L w.heap.size w w') (hL : ∀ g ∈ L, t.blks g) (hcov : ∀ b o, t.blks b → t.cov b o) (hb' : ∀ g, t'.blks g → t.blks g)
    (hp : t'.p (okx (okOf X.ok X.w.heap.size β H (t :: O2) w) w w') w') : Sb β X G D H (t' :: O2) a w' := by
  refine h.upd (O1 := []) rfl hb.os hb.tape hb.output hb.size (fun b hlt hn => hb.block b hlt fun hm => hn (hL b hm)) hcov (fun g hg => .inl (hb' g hg)) fun hevo hok => t'.weak hp ?_
  rintro b o (hk | ⟨h1, h2⟩)
  · exact hok b o hk
  · refine ⟨.inr (Nat.le_trans h.bel.size h1), h2, fun p hp' e => by have := h.hlt hp'; omega, fun u hu hc => ?_⟩
    rcases List.mem_cons.1 hu with rfl | hu
    · have := h.olt (.head _) (hb' b (u.cb hc)); omega
    · have := h.olt (.tail _ hu) (u.cb hc); omega

/-- Two of the call's own as one. -/
def both (t u : TL) : TL where
  blks := fun g => t.blks g ∨ u.blks g
  cov := fun b o => t.cov b o ∨ u.cov b o
  cb := fun h => h.imp t.cb u.cb
  p := fun ok w => t.p ok w ∧ u.p ok w
  keep := fun h hb he => ⟨t.keep h.1 (fun g hg => hb g (.inl hg)) he, u.keep h.2 (fun g hg => hb g (.inr hg)) he⟩
  weak := fun h hk => ⟨t.weak h.1 hk, u.weak h.2 hk⟩
  lt := fun h g hg => hg.elim (t.lt h.1 g) (u.lt h.2 g)

theorem Sb.join2 {t u : TL} {O2 : List TL} (h : Sb β X G D H (t :: u :: O2) a w) : Sb β X G D H (both t u :: O2) a w := by
  have hok : ∀ b o, okOf X.ok X.w.heap.size β H (t :: u :: O2) w b o → okOf X.ok X.w.heap.size β H (both t u :: O2) w b o := by
    rintro b o ⟨h1, h2, h3, h4⟩
    refine ⟨h1, h2, h3, fun v hv hc => ?_⟩
    rcases List.mem_cons.1 hv with rfl | hv
    · exact hc.elim (h4 t (.head _)) (h4 u (.tail _ (.head _)))
    · exact h4 v (.tail _ (.tail _ hv)) hc
  have hp := List.pairwise_cons.1 h.dOO
  have hp2 := List.pairwise_cons.1 hp.2
  refine { sz := h.sz, df := h.df, fr := h.fr, pn := h.pn, tm := h.tm, bel := h.bel, dat := h.dat.weak hok, obj := h.obj, own := fun v hv => ?_, dHH := h.dHH, dHO := fun p hp' v hv => ?_, dOO := List.pairwise_cons.2 ⟨fun v hv g hg => ?_, hp2.2⟩ }
  · rcases List.mem_cons.1 hv with rfl | hv
    · exact ⟨⟨t.weak (h.own t (.head _)).1 hok, u.weak (h.own u (.tail _ (.head _))).1 hok⟩, fun g hg => hg.elim ((h.own t (.head _)).2 g) ((h.own u (.tail _ (.head _))).2 g)⟩
    · exact ⟨v.weak (h.own v (.tail _ (.tail _ hv))).1 hok, (h.own v (.tail _ (.tail _ hv))).2⟩
  · rcases List.mem_cons.1 hv with rfl | hv
    · exact fun hg => hg.elim (h.dHO p hp' t (.head _)) (h.dHO p hp' u (.tail _ (.head _)))
    · exact h.dHO p hp' v (.tail _ (.tail _ hv))
  · exact hg.elim (fun hg => hp.1 v (.tail _ hv) g hg) (fun hg => hp2.1 v hv g hg)

theorem Sb.split2 {t u : TL} {O2 : List TL} (h : Sb β X G D H (both t u :: O2) a w) (hd : ∀ g, t.blks g → ¬ u.blks g) : Sb β X G D H (t :: u :: O2) a w := by
  have hok : ∀ b o, okOf X.ok X.w.heap.size β H (both t u :: O2) w b o → okOf X.ok X.w.heap.size β H (t :: u :: O2) w b o := by
    rintro b o ⟨h1, h2, h3, h4⟩
    refine ⟨h1, h2, h3, fun v hv hc => ?_⟩
    rcases List.mem_cons.1 hv with rfl | hv
    · exact h4 _ (.head _) (.inl hc)
    · rcases List.mem_cons.1 hv with rfl | hv
      · exact h4 _ (.head _) (.inr hc)
      · exact h4 v (.tail _ hv) hc
  have hp := List.pairwise_cons.1 h.dOO
  obtain ⟨⟨p1, p2⟩, hm⟩ := h.own _ (.head _)
  refine { sz := h.sz, df := h.df, fr := h.fr, pn := h.pn, tm := h.tm, bel := h.bel, dat := h.dat.weak hok, obj := h.obj, own := fun v hv => ?_, dHH := h.dHH, dHO := fun p hp' v hv => ?_, dOO := List.pairwise_cons.2 ⟨fun v hv g hg => ?_, List.pairwise_cons.2 ⟨fun v hv g hg => hp.1 v hv g (.inr hg), hp.2⟩⟩ }
  · rcases List.mem_cons.1 hv with rfl | hv
    · exact ⟨v.weak p1 hok, fun g hg => hm g (.inl hg)⟩
    · rcases List.mem_cons.1 hv with rfl | hv
      · exact ⟨v.weak p2 hok, fun g hg => hm g (.inr hg)⟩
      · exact ⟨v.weak (h.own v (.tail _ hv)).1 hok, (h.own v (.tail _ hv)).2⟩
  · rcases List.mem_cons.1 hv with rfl | hv
    · exact fun hg => h.dHO p hp' _ (.head _) (.inl hg)
    · rcases List.mem_cons.1 hv with rfl | hv
      · exact fun hg => h.dHO p hp' _ (.head _) (.inr hg)
      · exact h.dHO p hp' v (.tail _ hv)
  · rcases List.mem_cons.1 hv with rfl | hv
    · exact hd g hg
    · exact hp.1 v hv g (.inl hg)
end
end Gd
namespace Gd
open Go Go.RowKit
section
variable {P : Program} {T : Tab} {β : Nat → Nat} {X : Cx} {G : GL} {D : List DF} {H : HL} {O : List TL} {a : Act} {w w' : World}
variable {ops : Array Oper} {Q : Exit → Act → World → Prop} {rest : List Oper}

theorem Sb.lent2 {L : List Nat} {t t' u u' : TL} {O2 : List TL} (h : Sb β X G D H (t :: u :: O2) a w) (hb : BelowL L w.heap.size w w') (hL : ∀ g ∈ L, t.blks g ∨ u.blks g) (hc1 : ∀ b o, t.blks b → t.cov b o) (hc2 : ∀ b o, u.blks b → u.cov b o)
    (hb1 : ∀ g, t'.blks g → t.blks g) (hb2 : ∀ g, u'.blks g → u.blks g)
    (hp1 : t'.p (okx (okOf X.ok X.w.heap.size β H (t :: u :: O2) w) w w') w') (hp2 : u'.p (okx (okOf X.ok X.w.heap.size β H (t :: u :: O2) w) w w') w') : Sb β X G D H (t' :: u' :: O2) a w' := by
  have hd := (List.pairwise_cons.1 h.dOO).1 u (.head _)
  have hok : ∀ b o, okOf X.ok X.w.heap.size β H (t :: u :: O2) w b o → okOf X.ok X.w.heap.size β H (both t u :: O2) w b o := by
    rintro b o ⟨h1, h2, h3, h4⟩
    refine ⟨h1, h2, h3, fun v hv hc => ?_⟩
    rcases List.mem_cons.1 hv with rfl | hv
    · exact hc.elim (h4 t (.head _)) (h4 u (.tail _ (.head _)))
    · exact h4 v (.tail _ (.tail _ hv)) hc
  have hx : ∀ b o, okx (okOf X.ok X.w.heap.size β H (t :: u :: O2) w) w w' b o → okx (okOf X.ok X.w.heap.size β H (both t u :: O2) w) w w' b o := fun b o hk => hk.imp (hok b o) id
  have h1 := h.join2.lent1 (t' := both t' u') hb hL (fun b o hg => hg.imp (hc1 b o) (hc2 b o)) (fun g hg => hg.imp (hb1 g) (hb2 g)) ⟨t'.weak hp1 hx, u'.weak hp2 hx⟩
  exact h1.split2 fun g hg hg2 => hd g (hb1 g hg) (hb2 g hg2)

/-- The block of a slice, in a list. -/
def blkL (v : Value) : List Nat := match v.ownBlock with
  | some g => [g]
  | none => []
theorem mem_blkL {v : Value} {g : Nat} : g ∈ blkL v ↔ v.ownBlock = some g := by
  unfold blkL
  cases h : v.ownBlock with
  | none => simp
  | some b => simp [eq_comm]

def AllP (Ts : List TL) (ok : Ok) (w : World) : Prop := match Ts with
  | [] => True
  | t :: ts => t.p ok w ∧ AllP ts ok w

/-- What a call returns to which rows were lent. -/
def RM (R : Value → World → Prop) (Ts : List TL) (ok : Ok) (w : World) : Value → World → Prop := fun v w' => R v w' ∧ AllP Ts (okx ok w w') w'
def R0 : Value → World → Prop := fun v _ => v = .tuple ⟨[]⟩

/-- Rows of the caller's, as a callee has them. -/
def Lends (Ts : List TL) (L : List Nat) (ok : Ok) (w : World) : Prop :=
  (∀ t ∈ Ts, t.p ok w ∧ (∀ g, t.blks g → g ∈ L) ∧ ∀ g o, t.blks g → ¬ ok g o) ∧ (Ts.Pairwise fun s t => ∀ g, s.blks g → ¬ t.blks g) ∧ ∀ g ∈ L, ∃ t ∈ Ts, t.blks g

theorem enter_okL {f : FuncId} {fn : Func} {c : Code} {vs : List Value} {R : Value → World → Prop} {ok : Ok} {n : Nat} {L : List Nat} {O : List TL} (hok : ∀ b o, ok b o → b < w.heap.size)
    (hf : P.funcs[f]? = some fn) (hb : fn.body = some c) (hn : fn.ntmps = n) (hle : Nat.ble vs.length n = true) {D : List DF} (hD : AllD ok w D) (hO : Lends O L ok w)
    (h : ∀ a, Sb (fun _ => 0) (cxL L n ok w) (zipG vs 0) D [] O a w → c.wp P (bodyPost P fn (RetL L w R)) a w) : Calls P f ⟨vs⟩ w (RetL L w R) := by
  refine calls_of_wp hf hb (h _ ?_)
  have hle' := Nat.le_of_ble_eq_true hle
  have hk : ∀ b o, ok b o → okOf (okL L ok) w.heap.size (fun _ => 0) [] O w b o := fun b o hbo => ⟨.inl (.inl hbo), hok b o hbo, by simp, fun t ht hc => (hO.1 t ht).2.2 b o (t.cb hc) hbo⟩
  refine { sz := by simp [hn]; omega, df := rfl, fr := by simp, pn := by simp, tm := ?_, bel := BelowL.refl _ _ _, dat := hD.weak hk, obj := by simp, own := fun t ht => ⟨t.weak (hO.1 t ht).1 hk, fun g hg => .inr ((hO.1 t ht).2.1 g hg)⟩, dHH := by simp, dHO := by simp, dOO := hO.2.1 }
  intro p hp
  obtain ⟨j, v, rfl, hv⟩ := zipG_get hp
  have hj := (List.getElem?_eq_some_iff.1 hv).1
  simp only [Nat.zero_add, den_v]
  rw [Array.getElem?_append_left (by simpa using hj)]
  simpa using hv

/-- The cells that stay put for a caller that has lent rows. -/
theorem okOf_outL {L : List Nat} {n : Nat} {ok : Ok} {w0 : World} (_ : Sb β (cxL L n ok w0) G D H O a w) (hL : ∀ g ∈ L, ∃ t ∈ O, ∀ o, t.cov g o) : ∀ b o, okOf (okL L ok) w0.heap.size β H O w b o → okx ok w0 w b o := by
  rintro b o ⟨(h1 | h1) | h1, h2, _, h4⟩
  · exact .inl h1
  · obtain ⟨t, ht, hc⟩ := hL b h1
    exact absurd (hc o) (h4 t ht)
  · exact .inr ⟨h1, h2⟩

/-- No result. -/
theorem ret0_ok (h : Sb β X G D H O a w) {fn : Func} (hr : fn.results = ⟨[]⟩) {R : Value → World → Prop} (hR : R (.tuple ⟨[]⟩) w) : bodyPost P fn (RetL X.lent X.w R) .ret a w := by
  refine ⟨h.df, _, ?_, _, rfl, hR, h.bel⟩
  simp [results, hr]

/-- A call to which one row is lent. -/
theorem step_callM1 {t t' : TL} {O2 : List TL} (h : Sb β X G D H (t :: O2) a w) {f : FuncId} {xs : List Operand} {ts : Array TypeId} {d : Nat} {ps : String} {af : Array Edge} {ty : TypeId} {gd : Option (Nat × Bool)}
    (hg : guardV ops G ⟨some d, .call ⟨.value (.func f), ⟨xs⟩, ts⟩, ty, ps, af, gd⟩ = some true) (hlt : okD X d = true) (hf : Runs P f)
    {vs : List Value} (hvs : evArgs G xs = some vs) {R : Value → World → Prop} {L : List Nat}
    (hc : Calls P f ⟨vs⟩ w (RetL L w (RM R [t'] (okOf X.ok X.w.heap.size β H (t :: O2) w) w)))
    (hL : ∀ g ∈ L, t.blks g) (hcov : ∀ b o, t.blks b → t.cov b o) (hb' : ∀ g, t'.blks g → t.blks g)
    (hk : ∀ v a' w', R v w' → (∀ b o, okx (okOf X.ok X.w.heap.size β H (t :: O2) w) w w' b o → okOf X.ok X.w.heap.size β H (t' :: O2) w' b o) → Sb β X (setN G d (.v v)) D H (t' :: O2) a' w' → wpList P ops Q rest a' w') :
    wpList P ops Q (⟨some d, .call ⟨.value (.func f), ⟨xs⟩, ts⟩, ty, ps, af, gd⟩ :: rest) a w := by
  refine wpList_go (guardV_ok h hg) ?_
  have hrun : (execOp a.eval ⟨some d, .call ⟨.value (.func f), ⟨xs⟩, ts⟩, ty, ps, af, gd⟩).run P w = .ok (.enter f ⟨vs⟩) w := by
    unfold execOp
    have hm : (Array.mk xs).map a.eval = ⟨vs⟩ := by rw [← evArgs_ok h hvs]; simp
    simp [resolve, hm, Act.eval, Deferred.ofValue, invoke, run_callFunc hf]
  unfold Oper.wp
  rw [hrun]
  refine hc.mono ?_
  rintro e w' ⟨v, rfl, ⟨hR, hp, _⟩, hb⟩
  refine hk v _ w' hR ?_ ((h.lent1 hb hL hcov hb' hp).put hlt (.v v))
  rintro b o (⟨h1, h2, h3, h4⟩ | ⟨h1, h2⟩)
  · refine ⟨h1, Nat.lt_of_lt_of_le h2 hb.size, h3, fun u hu hcv => ?_⟩
    rcases List.mem_cons.1 hu with rfl | hu
    · exact h4 t (.head _) (hcov b o (hb' b (u.cb hcv)))
    · exact h4 u (.tail _ hu) hcv
  · refine ⟨.inr (Nat.le_trans h.bel.size h1), h2, fun p hp' e => by have := h.hlt hp'; omega, fun u hu hcv => ?_⟩
    rcases List.mem_cons.1 hu with rfl | hu
    · have := h.olt (.head _) (hb' b (u.cb hcv)); omega
    · have := h.olt (.tail _ hu) (u.cb hcv); omega

/-- Two rows. -/
theorem step_callM2 {t t' u u' : TL} {O2 : List TL} (h : Sb β X G D H (t :: u :: O2) a w) {f : FuncId} {xs : List Operand} {ts : Array TypeId} {d : Nat} {ps : String} {af : Array Edge} {ty : TypeId} {gd : Option (Nat × Bool)}
    (hg : guardV ops G ⟨some d, .call ⟨.value (.func f), ⟨xs⟩, ts⟩, ty, ps, af, gd⟩ = some true) (hlt : okD X d = true) (hf : Runs P f)
    {vs : List Value} (hvs : evArgs G xs = some vs) {R : Value → World → Prop} {L : List Nat}
    (hc : Calls P f ⟨vs⟩ w (RetL L w (RM R [t', u'] (okOf X.ok X.w.heap.size β H (t :: u :: O2) w) w)))
    (hL : ∀ g ∈ L, t.blks g ∨ u.blks g) (hc1 : ∀ b o, t.blks b → t.cov b o) (hc2 : ∀ b o, u.blks b → u.cov b o) (hb1 : ∀ g, t'.blks g → t.blks g) (hb2 : ∀ g, u'.blks g → u.blks g)
    (hk : ∀ v a' w', R v w' → (∀ b o, okx (okOf X.ok X.w.heap.size β H (t :: u :: O2) w) w w' b o → okOf X.ok X.w.heap.size β H (t' :: u' :: O2) w' b o) → Sb β X (setN G d (.v v)) D H (t' :: u' :: O2) a' w' → wpList P ops Q rest a' w') :
    wpList P ops Q (⟨some d, .call ⟨.value (.func f), ⟨xs⟩, ts⟩, ty, ps, af, gd⟩ :: rest) a w := by
  refine wpList_go (guardV_ok h hg) ?_
  have hrun : (execOp a.eval ⟨some d, .call ⟨.value (.func f), ⟨xs⟩, ts⟩, ty, ps, af, gd⟩).run P w = .ok (.enter f ⟨vs⟩) w := by
    unfold execOp
    have hm : (Array.mk xs).map a.eval = ⟨vs⟩ := by rw [← evArgs_ok h hvs]; simp
    simp [resolve, hm, Act.eval, Deferred.ofValue, invoke, run_callFunc hf]
  unfold Oper.wp
  rw [hrun]
  refine hc.mono ?_
  rintro e w' ⟨v, rfl, ⟨hR, hp1, hp2, _⟩, hb⟩
  refine hk v _ w' hR ?_ ((h.lent2 hb hL hc1 hc2 hb1 hb2 hp1 hp2).put hlt (.v v))
  rintro b o (⟨h1, h2, h3, h4⟩ | ⟨h1, h2⟩)
  · refine ⟨h1, Nat.lt_of_lt_of_le h2 hb.size, h3, fun z hz hcv => ?_⟩
    rcases List.mem_cons.1 hz with rfl | hz
    · exact h4 t (.head _) (hc1 b o (hb1 b (z.cb hcv)))
    · rcases List.mem_cons.1 hz with rfl | hz
      · exact h4 u (.tail _ (.head _)) (hc2 b o (hb2 b (z.cb hcv)))
      · exact h4 z (.tail _ (.tail _ hz)) hcv
  · refine ⟨.inr (Nat.le_trans h.bel.size h1), h2, fun p hp' e => by have := h.hlt hp'; omega, fun z hz hcv => ?_⟩
    rcases List.mem_cons.1 hz with rfl | hz
    · have := h.olt (.head _) (hb1 b (z.cb hcv)); omega
    · rcases List.mem_cons.1 hz with rfl | hz
      · have := h.olt (.tail _ (.head _)) (hb2 b (z.cb hcv)); omega
      · have := h.olt (.tail _ (.tail _ hz)) (z.cb hcv); omega

/-- An empty slice of the call's own, as a row that will be written. -/
theorem Sb.melt0 {A : Option Addr} {c e : Nat} {τ : Type} {r : RT τ} {O2 : List TL} (h : Sb β X G D H (tl (.slice A 0 c) e r.size :: O2) a w) : Sb β X G D H (ml (.slice A 0 c) e r [] :: O2) a w := by
  have hok : ∀ b o, okOf X.ok X.w.heap.size β H (tl (.slice A 0 c) e r.size :: O2) w b o → okOf X.ok X.w.heap.size β H (ml (.slice A 0 c) e r [] :: O2) w b o := by
    rintro b o ⟨h1, h2, h3, h4⟩
    refine ⟨h1, h2, h3, fun u hu hc => ?_⟩
    rcases List.mem_cons.1 hu with rfl | hu
    · exact h4 _ (.head _) ⟨hc, by simp [lenV]⟩
    · exact h4 u (.tail _ hu) hc
  obtain ⟨⟨cs, hown⟩, hmine⟩ := h.own _ (.head _)
  have hpw := List.pairwise_cons.1 h.dOO
  have hcs : cs = [] := by
    have := hown.1
    simp only [lenV, Nat.zero_mul] at this
    exact List.eq_nil_of_length_eq_zero this
  refine { sz := h.sz, df := h.df, fr := h.fr, pn := h.pn, tm := h.tm, bel := h.bel, dat := h.dat.weak hok, obj := h.obj, own := fun u hu => ?_, dHH := h.dHH, dHO := fun p hp u hu => ?_, dOO := List.pairwise_cons.2 ⟨fun u hu g hg => hpw.1 u hu g hg, hpw.2⟩ }
  · rcases List.mem_cons.1 hu with rfl | hu
    · exact ⟨⟨rfl, cs, hown, by subst hcs; rfl⟩, hmine⟩
    · exact ⟨u.weak (h.own u (.tail _ hu)).1 hok, (h.own u (.tail _ hu)).2⟩
  · rcases List.mem_cons.1 hu with rfl | hu
    · exact fun hg => h.dHO p hp _ (.head _) hg
    · exact h.dHO p hp u (.tail _ hu)
end
end Gd

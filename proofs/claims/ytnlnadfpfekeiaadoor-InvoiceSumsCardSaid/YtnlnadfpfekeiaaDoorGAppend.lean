/- The step of append; parts of slices and strings; conversions. -/
import Derived.Test.YtnlnadfpfekeiaaDoorGLists
namespace Gd
open Go Go.RowKit
set_option linter.unusedVariables false
set_option linter.unusedSimpArgs false
section
variable {P : Program} {T : Tab} {β : Nat → Nat} {X : Cx} {G : GL} {D : List DF} {H : HL} {O : List TL} {a : Act} {w w' : World}
variable {ops : Array Oper} {Q : Exit → Act → World → Prop} {rest : List Oper}
theorem sl_cells {τ : Type} {r : RT τ} {ok : Ok} {w : World} {b o : Nat} : ∀ (xs : List τ) (k : Nat),
    (∀ i x, xs[i]? = some x → ∃ cs, r.rep ok w x cs ∧ atCells ok w b (o + (k + i) * r.size) cs) →
    ∃ cs : List Value, cs.length = xs.length * r.size ∧ (∀ c ∈ cs, c.oneCell' = true) ∧ (∀ (j : Nat) u, cs[j]? = some u → ok b (o + k * r.size + j) ∧ w.cell? ⟨b, o + k * r.size + j, none⟩ = some u) ∧
      ∀ i x, xs[i]? = some x → ∃ ds, r.rep ok w x ds ∧ ∀ (j : Nat) u, ds[j]? = some u → cs[i * r.size + j]? = some u
  | [], k, _ => ⟨[], by simp, by simp, by simp, by simp⟩
  | x :: xs, k, h => by
    obtain ⟨d0, hr0, hc0⟩ := h 0 x rfl
    obtain ⟨cs, hl, h1, hc, hi⟩ := sl_cells xs (k + 1) (fun i y hy => by
      have := h (i + 1) y (by simpa using hy)
      rw [show k + (i + 1) = k + 1 + i from by omega] at this
      exact this)
    have hl0 := r.len hr0
    refine ⟨d0 ++ cs, by simp [hl, hl0, Nat.add_mul]; omega, ?_, ?_, ?_⟩
    · intro c hcm
      rcases List.mem_append.1 hcm with hcm | hcm
      · exact r.flat hr0 c hcm
      · exact h1 c hcm
    · intro j u hu
      by_cases hj : j < d0.length
      · rw [List.getElem?_append_left hj] at hu
        have := hc0 j u hu
        simpa using this
      · rw [List.getElem?_append_right (by omega)] at hu
        have := hc _ u hu
        rw [hl0] at this
        have e : o + (k + 1) * r.size + (j - r.size) = o + k * r.size + j := by rw [Nat.add_mul]; omega
        rw [e] at this
        exact this
    · intro i y hy
      cases i with
      | zero =>
        simp at hy; subst hy
        refine ⟨d0, hr0, fun j u hu => ?_⟩
        have hj := (List.getElem?_eq_some_iff.1 hu).1
        rw [Nat.zero_mul, Nat.zero_add, List.getElem?_append_left hj]; exact hu
      | succ i =>
        obtain ⟨ds, hr, hd⟩ := hi i y (by simpa using hy)
        refine ⟨ds, hr, fun j u hu => ?_⟩
        rw [List.getElem?_append_right (by rw [hl0, Nat.add_mul]; omega), hl0]
        have e : (i + 1) * r.size + j - r.size = i * r.size + j := by rw [Nat.add_mul]; omega
        rw [e]
        exact hd j u hu
theorem slRep_cells {τ : Type} {r : RT τ} {ok : Ok} {xs : List τ} {A : Option Addr} {m c : Nat} (h : slRep r ok w xs (.slice A m c)) :
    ∃ cs : List Value, cs.length = m * r.size ∧ xs.length = m ∧ m ≤ c ∧ (A = none → m = 0) ∧ (∀ c ∈ cs, c.oneCell' = true) ∧
      (0 < m → ∃ b o, A = some ⟨b, o, none⟩ ∧ ∀ (j : Nat) u, cs[j]? = some u → ok b (o + j) ∧ w.cell? ⟨b, o + j, none⟩ = some u) ∧
      ∀ i x, xs[i]? = some x → ∃ ds, r.rep ok w x ds ∧ ∀ (j : Nat) u, ds[j]? = some u → cs[i * r.size + j]? = some u := by
  obtain ⟨A', m', c', hv, hl, hc, hn⟩ := h
  injection hv with e1 e2 e3
  subst e1; subst e2; subst e3
  rcases Nat.eq_zero_or_pos m with h0 | h0
  · have hx : xs = [] := List.eq_nil_of_length_eq_zero (by omega)
    subst hx
    exact ⟨[], by simp [h0], hl, hc, fun _ => h0, by simp, fun h => absurd h (by omega), by simp⟩
  · obtain ⟨b, o, rfl, hx⟩ := hn h0
    obtain ⟨cs, hcl, h1, hcc, hi⟩ := sl_cells (r := r) (ok := ok) (w := w) (b := b) (o := o) xs 0 (fun i x hx' => by rw [Nat.zero_add]; exact hx i x hx')
    refine ⟨cs, by rw [hcl, hl], hl, hc, fun e => by simp at e, h1, fun _ => ⟨b, o, rfl, fun j u hu => ?_⟩, hi⟩
    have := hcc j u hu
    simpa using this
theorem ownBlock_len (A : Option Addr) (n n' c c' : Nat) : (Value.slice A n c).ownBlock = (Value.slice A n' c').ownBlock := by cases A <;> rfl
theorem addr_add (b o j : Nat) : (⟨b, o, none⟩ : Addr).add j = ⟨b, o + j, none⟩ := Addr.add_lit b o j
theorem step_append (hT : TabOk P T) (h : Sb β X G D H O a w) (kx ky : Nat) (O1 O2 : List TL) {t : TypeId} {s x : Operand} {d : Nat} {ps : String} {af : Array Edge} {ty : TypeId} {gd : Option (Nat × Bool)}
    (hg : guardV ops G ⟨some d, .call ⟨.builtin .append, ⟨[s, x]⟩, ⟨[t, t]⟩⟩, ty, ps, af, gd⟩ = some true) (hlt : okD X d = true)
    {τ : Type} {r : RT τ} {xs ys zs : List τ} {A : Option Addr} {A2 : Option Addr} {m c m2 c2 : Nat} {e : TypeId} {te ee : TE} (ht : lookT T t = some te) (htd : te.d = .slice e) (he : lookT T e = some ee) (hs : ee.size = r.size)
    (hz : Nat.beq (cellsL ee.z).length ee.size = true) (hsz : Nat.ble 1 ee.size = true) (hby : Nat.ble 1 ee.bytes = true)
    (hO : O = O1 ++ tl (.slice A m c) e ee.size :: O2) (hs1 : gv G s = some (.v (.slice A m c))) (hx1 : gv G x = some (.v (.slice A2 m2 c2)))
    (hDx : D[kx]? = some (DF.v (rSl r) xs (.slice A m c))) (hDy : isV (rSl r) (okOf X.ok X.w.heap.size β H O w) w ys (.slice A2 m2 c2)) (happ : app ee.bytes xs ys = some zs)
    (hk : ∀ A' c' a' w', isV (rSl r) (okOf X.ok X.w.heap.size β H (O1 ++ tl (.slice A' zs.length c') e ee.size :: O2) w') w' zs (.slice A' zs.length c') →
      Sb β X (setN G d (.v (.slice A' zs.length c'))) D H (O1 ++ tl (.slice A' zs.length c') e ee.size :: O2) a' w' → wpList P ops Q rest a' w') :
    wpList P ops Q (⟨some d, .call ⟨.builtin .append, ⟨[s, x]⟩, ⟨[t, t]⟩⟩, ty, ps, af, gd⟩ :: rest) a w := by
  subst hO
  obtain ⟨hbytes, rfl⟩ := app_ok happ
  have hmem : (tl (.slice A m c) e ee.size : TL) ∈ O1 ++ tl (.slice A m c) e ee.size :: O2 := by simp
  obtain ⟨xs0, hown⟩ := (h.own _ hmem).1
  have hmine : ∀ g, (Value.slice A m c).ownBlock = some g → X.mine g := (h.own _ hmem).2
  have hvx := isV_sl.1 (h.d kx hDx)
  obtain ⟨csx, hcx1, hxl, hmc, hA, hcx2, hcx3, hcx4⟩ := slRep_cells hvx
  obtain ⟨csy, hcy1, hyl, hmc2, hA2, hcy2, hcy3, hcy4⟩ := slRep_cells (isV_sl.1 hDy)
  have hzl := Nat.eq_of_beq_eq_true hz
  have hsz' : 0 < ee.size := Nat.le_of_ble_eq_true hsz
  have hby' : 0 < ee.bytes := Nat.le_of_ble_eq_true hby
  have hnews : ∀ ad, A2 = some ad → ∀ j u, csy[j]? = some u → w.cell? (ad.add j) = some u := by
    intro ad had j u hu
    have hj := (List.getElem?_eq_some_iff.1 hu).1
    have hm2 : 0 < m2 := by
      rcases Nat.eq_zero_or_pos m2 with h0 | h0
      · rw [h0, Nat.zero_mul] at hcy1; omega
      · exact h0
    obtain ⟨b, o, hA', hc⟩ := hcy3 hm2
    rw [hA'] at had
    injection had with had
    subst had
    rw [addr_add]
    exact (hc j u hu).2
  simp only [lenV] at hown
  obtain ⟨v', w1, hrun, hown', hgrow, hblk⟩ := own_append (P := P) (w := w) (ty := ty) hT ht htd he hzl hsz' hby' hown (Nat.zero_le _) (k := m2) (c := c2) (A := A2) (news := csy) (by rw [hs]; exact hcy1) hA2 hnews hcy2 (by rw [← hxl, ← hyl]; exact hbytes)
  have hrun' : (execOp a.eval ⟨some d, .call ⟨.builtin .append, ⟨[s, x]⟩, ⟨[t, t]⟩⟩, ty, ps, af, gd⟩).run P w = .ok (.value v') w1 := by
    unfold execOp
    have hm : (Array.mk [s, x]).map a.eval = ⟨[.slice A m c, .slice A2 m2 c2]⟩ := by simp [h.ev hs1, h.ev hx1, den_v]
    simp [resolve, hm, invoke, builtin, hrun]
  have hxs0 : xs0.length = m * ee.size := hown.1
  have hform : ∃ A' c', v' = .slice A' (m + m2) c' ∧ m + m2 ≤ c' ∧ (0 < m + m2 → ∃ g, A' = some ⟨g, 0, none⟩) := by
    rcases hown'.2 with ⟨rfl, h0⟩ | ⟨g, cap, cur, fz, rfl, _, _, _, hle, _⟩
    · exact ⟨none, 0, by rw [h0], by omega, fun h => by omega⟩
    · exact ⟨_, cap, rfl, hle, fun _ => ⟨g, rfl⟩⟩
  obtain ⟨A', c', rfl, hc', hA'⟩ := hform
  have hlen : (xs ++ ys).length = m + m2 := by rw [List.length_append, hxl, hyl]
  have hrow : ∀ g, (Value.slice A' (m + m2) c').ownBlock = some g → ∀ (j : Nat) u, (xs0 ++ csy)[j]? = some u → w1.cell? ⟨g, j, none⟩ = some u := by
    intro g hg j u hu
    have := hown'.cells hg j u hu
    rwa [addr_add, Nat.zero_add] at this
  have hrow0 : ∀ g, (Value.slice A m c).ownBlock = some g → ∀ (j : Nat) u, xs0[j]? = some u → w.cell? ⟨g, j, none⟩ = some u := by
    intro g hg j u hu
    have := hown.cells hg j u hu
    rwa [addr_add, Nat.zero_add] at this
  have hlt1 := hown'.lt
  have hlt0 := hown.lt
  have hmine1 : ∀ g, (Value.slice A' (m + m2) c').ownBlock = some g → X.mine g := by
    intro g hg
    rcases hblk with he1 | ⟨he1, _⟩
    · exact hmine g (by rw [← he1]; exact hg)
    · rw [he1] at hg; injection hg with hg; subst hg; exact .inl h.bel.size
  have hevo : Evo (okOf X.ok X.w.heap.size β H (O1 ++ tl (.slice A m c) e ee.size :: O2) w) w w1 := by
    refine ⟨hgrow.size, fun b o hk => ?_, fun b es cl hk hmp => ?_⟩
    rotate_left
    · have hbg : some b ≠ (Value.slice A m c).ownBlock := by
        intro he
        rcases hown.2 with ⟨hv0, _⟩ | ⟨g, cap, cur, fz, hv0, _, hh, _⟩
        · rw [hv0] at he; simp [Value.ownBlock] at he
        · rw [hv0] at he; simp only [Value.ownBlock, Option.some.injEq] at he; subst he; rw [hmp] at hh; cases hh
      rw [hgrow.block b hk.2.1 hbg]; exact hmp
    obtain ⟨_, h2, _, h4⟩ := hk
    by_cases hbg : some b = (Value.slice A m c).ownBlock
    · rcases hblk with he1 | ⟨he1, hbel⟩
      · have hnc := h4 _ hmem
        simp only [tl, lenV, not_and, Nat.not_le] at hnc
        have ho : o < m * ee.size := hnc hbg.symm
        have hu : ∃ u, xs0[o]? = some u := ⟨xs0[o]'(by omega), List.getElem?_eq_getElem (by omega)⟩
        obtain ⟨u, hu⟩ := hu
        rw [hrow0 b hbg.symm o u hu, hrow b (by rw [he1, ← hbg]) o u (by rw [List.getElem?_append_left (by omega)]; exact hu)]
      · exact hbel.cell (p := ⟨b, o, none⟩) h2
    · exact World.cell?_of_block (w := w) (hgrow.block b h2 hbg)
  have hok : ∀ b o, okOf X.ok X.w.heap.size β H (O1 ++ tl (.slice A m c) e ee.size :: O2) w b o → okOf X.ok X.w.heap.size β H (O1 ++ tl (.slice A' (xs ++ ys).length c') e ee.size :: O2) w1 b o := by
    rintro b o ⟨h1, h2, h3, h4⟩
    refine ⟨h1, Nat.lt_of_lt_of_le h2 hgrow.size, h3, fun t ht hcv => ?_⟩
    rcases List.mem_append.1 ht with ht | ht
    · exact h4 t (by simp [ht]) hcv
    · rcases List.mem_cons.1 ht with rfl | ht
      · obtain ⟨c1, c2⟩ := hcv
        simp only [lenV, hlen] at c1 c2
        rcases hblk with he1 | ⟨he1, _⟩
        · have hnc := h4 _ hmem
          simp only [tl, lenV, not_and, Nat.not_le] at hnc
          have := hnc (by rw [← he1]; exact c1)
          rw [Nat.add_mul] at c2
          omega
        · have e1 : (Value.slice A' (m + m2) c').ownBlock = some b := c1
          rw [he1] at e1
          injection e1 with e1
          omega
      · exact h4 t (by simp [ht]) hcv
  have hothers : ∀ t ∈ O1 ++ O2, ∀ g, t.blks g → some g ≠ (Value.slice A m c).ownBlock ∧ g < w.heap.size := by
    intro t ht g hg
    refine ⟨fun e1 => ?_, h.olt (by rcases List.mem_append.1 ht with ht | ht <;> simp [ht]) hg⟩
    have hp := List.pairwise_append.1 h.dOO
    rcases List.mem_append.1 ht with ht | ht
    · exact hp.2.2 t ht _ (.head _) g hg e1.symm
    · have hp2 := List.pairwise_cons.1 hp.2.1
      exact hp2.1 t ht g e1.symm hg
  have hSb : Sb β X G D H (O1 ++ tl (.slice A' (xs ++ ys).length c') e ee.size :: O2) a w1 := by
    refine { sz := h.sz, df := h.df, fr := h.fr, pn := h.pn, tm := h.tm, bel := ?_, dat := (h.dat.evo hevo).weak hok, obj := ?_, own := ?_, dHH := h.dHH, dHO := ?_, dOO := ?_ }
    · exact h.bel.trans ⟨hgrow.os, hgrow.tape, hgrow.output, hgrow.size, fun k hk hn => hgrow.block k (Nat.lt_of_lt_of_le hk h.bel.size) (fun e1 => by exact (hmine k e1.symm).elim (fun h => by omega) hn)⟩
    · intro p hp
      have hpb := heap_lt (h.obj p hp).1
      refine ⟨?_, (h.obj p hp).2⟩
      rw [hgrow.block _ hpb (fun e1 => h.dHO p hp _ hmem e1.symm)]
      exact (h.obj p hp).1
    · intro t ht
      rcases List.mem_append.1 ht with ht' | ht'
      · exact ⟨t.weak (t.keep (h.own t (by simp [ht'])).1 (fun g hg => hgrow.block g (hothers t (by simp [ht']) g hg).2 (hothers t (by simp [ht']) g hg).1) hevo) hok, (h.own t (by simp [ht'])).2⟩
      · rcases List.mem_cons.1 ht' with rfl | ht'
        · refine ⟨⟨xs0 ++ csy, ?_⟩, fun g hg => hmine1 g ((ownBlock_len A' (m + m2) (xs ++ ys).length c' c').trans hg)⟩
          simp only [lenV, hlen]
          exact hown'
        · exact ⟨t.weak (t.keep (h.own t (by simp [ht'])).1 (fun g hg => hgrow.block g (hothers t (by simp [ht']) g hg).2 (hothers t (by simp [ht']) g hg).1) hevo) hok, (h.own t (by simp [ht'])).2⟩
    · intro p hp t ht
      have hpb := heap_lt (h.obj p hp).1
      rcases List.mem_append.1 ht with ht' | ht'
      · exact h.dHO p hp t (by simp [ht'])
      · rcases List.mem_cons.1 ht' with rfl | ht'
        · intro e1
          have e2 : (Value.slice A' (m + m2) c').ownBlock = some (β p.1) := (ownBlock_len A' (m + m2) (xs ++ ys).length c' c').trans e1
          rcases hblk with he1 | ⟨he1, _⟩
          · rw [he1] at e2; exact h.dHO p hp _ hmem e2
          · rw [he1] at e2; injection e2 with e2; omega
        · exact h.dHO p hp t (by simp [ht'])
    · have hp := List.pairwise_append.1 h.dOO
      have hp2 := List.pairwise_cons.1 hp.2.1
      have hnew : ∀ t ∈ O1 ++ O2, ∀ g, t.blks g → (Value.slice A' (m + m2) c').ownBlock ≠ some g := by
        intro t ht g hg e2
        have := hothers t ht g hg
        rcases hblk with he1 | ⟨he1, _⟩
        · exact this.1 (by rw [← he1]; exact e2.symm)
        · rw [he1] at e2; injection e2 with e2; omega
      refine List.pairwise_append.2 ⟨hp.1, List.pairwise_cons.2 ⟨fun t ht g hg hg2 => hnew t (by simp [ht]) g hg2 ((ownBlock_len A' (m + m2) (xs ++ ys).length c' c').trans hg), hp2.2⟩, ?_⟩
      intro t ht u hu g hg
      rcases List.mem_cons.1 hu with rfl | hu
      · exact fun hg2 => hnew t (by simp [ht]) g hg ((ownBlock_len A' (m + m2) (xs ++ ys).length c' c').trans hg2)
      · exact hp.2.2 t ht u (.tail _ hu) g hg
  have hfact : isV (rSl r) (okOf X.ok X.w.heap.size β H (O1 ++ tl (.slice A' (xs ++ ys).length c') e ee.size :: O2) w1) w1 (xs ++ ys) (.slice A' (xs ++ ys).length c') := by
    refine isV_sl.2 ⟨_, _, _, rfl, rfl, by omega, fun hpos => ?_⟩
    obtain ⟨g, rfl⟩ := hA' (by omega)
    refine ⟨g, 0, rfl, fun i x hx => ?_⟩
    have hgb : (Value.slice (some ⟨g, 0, none⟩) (m + m2) c').ownBlock = some g := rfl
    have hbase := hlt1 g hgb
    have hcells : ∀ (j : Nat) u, (xs0 ++ csy)[j]? = some u → j < (m + m2) * ee.size → okOf X.ok X.w.heap.size β H (O1 ++ tl (.slice (some ⟨g, 0, none⟩) (xs ++ ys).length c') e ee.size :: O2) w1 g j ∧ w1.cell? ⟨g, j, none⟩ = some u := by
      intro j u hu hj
      refine ⟨⟨X.mine_ok (hmine1 g hgb) j, hbase.2, fun p hp e1 => ?_, fun t ht hcv => ?_⟩, hrow g hgb j u hu⟩
      · have hpb := heap_lt (h.obj p hp).1
        rcases hblk with he1 | ⟨he1, _⟩
        · exact h.dHO p hp _ hmem (by show (Value.slice A m c).ownBlock = some (β p.1); rw [← he1, e1]; exact hgb)
        · rw [hgb] at he1; injection he1 with he1; omega
      · rcases List.mem_append.1 ht with ht' | ht'
        · have := hothers t (by simp [ht']) g (t.cb hcv)
          rcases hblk with he1 | ⟨he1, _⟩
          · exact this.1 (by rw [← he1]; exact hgb.symm)
          · rw [hgb] at he1; injection he1 with he1; omega
        · rcases List.mem_cons.1 ht' with rfl | ht'
          · have c2 := hcv.2
            simp only [lenV, hlen] at c2
            omega
          · have := hothers t (by simp [ht']) g (t.cb hcv)
            rcases hblk with he1 | ⟨he1, _⟩
            · exact this.1 (by rw [← he1]; exact hgb.symm)
            · rw [hgb] at he1; injection he1 with he1; omega
    have hconv : ∀ {x : τ} {ds : List Value}, r.rep (okOf X.ok X.w.heap.size β H (O1 ++ tl (.slice A m c) e ee.size :: O2) w) w x ds →
        r.rep (okOf X.ok X.w.heap.size β H (O1 ++ tl (.slice (some ⟨g, 0, none⟩) (xs ++ ys).length c') e ee.size :: O2) w1) w1 x ds := fun hr => r.weak (r.evo hr hevo) hok
    by_cases hi : i < m
    · rw [List.getElem?_append_left (by omega)] at hx
      obtain ⟨ds, hr, hd⟩ := hcx4 i x hx
      refine ⟨ds, hconv hr, fun j u hu => ?_⟩
      have hj : j < r.size := by have := (List.getElem?_eq_some_iff.1 hu).1; rw [r.len hr] at this; exact this
      have hcu := hd j u hu
      have hidx : i * r.size + j < m * r.size := by
        have : (i + 1) * r.size ≤ m * r.size := Nat.mul_le_mul_right _ hi
        rw [Nat.add_mul] at this; omega
      obtain ⟨b', o', hA0, hc0⟩ := hcx3 (by omega)
      have hown0 : b' = g ∨ True := .inr trivial
      have hxs : xs0[i * r.size + j]? = some u := by
        rcases hown.2 with ⟨hv0, h0⟩ | ⟨g0, cap, cur, fz0, hv0, _, _, _⟩
        · omega
        · injection hv0 with hv0
          rw [hA0] at hv0
          injection hv0 with hv0
          injection hv0 with hb0 ho0
          subst hb0; subst ho0
          have h1 := (hc0 _ u hcu).2
          have h2 := hrow0 b' (by rw [hA0]; rfl) (i * r.size + j) (xs0[i * r.size + j]'(by rw [hxs0, hs]; exact hidx)) (List.getElem?_eq_getElem _)
          rw [Nat.zero_add] at h1
          rw [h1] at h2
          rw [List.getElem?_eq_getElem (by rw [hxs0, hs]; exact hidx)]
          exact h2.symm
      have := hcells (i * r.size + j) u (by rw [List.getElem?_append_left (by rw [hxs0, hs]; exact hidx)]; exact hxs) (by rw [hs, Nat.add_mul]; omega)
      rw [Nat.zero_add]
      exact this
    · rw [List.getElem?_append_right (by omega), hxl] at hx
      obtain ⟨ds, hr, hd⟩ := hcy4 (i - m) x hx
      refine ⟨ds, hconv hr, fun j u hu => ?_⟩
      have hj : j < r.size := by have := (List.getElem?_eq_some_iff.1 hu).1; rw [r.len hr] at this; exact this
      have hcu := hd j u hu
      have him : i - m < m2 := by
        have := (List.getElem?_eq_some_iff.1 hx).1
        omega
      have hidx : (i - m) * r.size + j < m2 * r.size := by
        have : (i - m + 1) * r.size ≤ m2 * r.size := Nat.mul_le_mul_right _ him
        rw [Nat.add_mul] at this; omega
      have e1 : i * r.size + j = m * r.size + ((i - m) * r.size + j) := by
        rw [← Nat.add_assoc, ← Nat.add_mul]; congr 2; omega
      have := hcells (i * r.size + j) u (by
        rw [List.getElem?_append_right (by rw [hxs0, hs, e1]; omega), hxs0, hs, e1, Nat.add_sub_cancel_left]
        exact hcu) (by rw [hs, Nat.add_mul, e1]; omega)
      rw [Nat.zero_add]
      exact this
  refine wpList_go (guardV_ok h hg) (wp_value hrun' ?_)
  have hput := hSb.put hlt (.v (.slice A' (xs ++ ys).length c'))
  have := hk A' c' _ w1 hfact hput
  simp only [den_v, hlen] at this
  exact this
end
end Gd

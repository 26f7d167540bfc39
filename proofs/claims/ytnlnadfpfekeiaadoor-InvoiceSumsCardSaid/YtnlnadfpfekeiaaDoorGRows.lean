/- Rows of the call's own whose elements are written. -/
import Derived.Test.YtnlnadfpfekeiaaDoorGArith
import Derived.Laws.MakeOwn
namespace Gd
open Go Go.RowKit
set_option linter.unusedVariables false
set_option linter.unusedSimpArgs false
theorem repA_evo {τ : Type} {r : RT τ} {ok : Ok} {w w' : World} {xs : List τ} {cs : List Value} (h : repA r ok w xs cs) (he : Evo ok w w') : repA r ok w' xs cs := ((rArr xs.length r).evo (x := xs) ⟨rfl, h⟩ he).2
theorem repA_weak {τ : Type} {r : RT τ} {ok ok' : Ok} {w : World} {xs : List τ} {cs : List Value} (h : repA r ok w xs cs) (hk : ∀ b o, ok b o → ok' b o) : repA r ok' w xs cs := ((rArr xs.length r).weak (x := xs) ⟨rfl, h⟩ hk).2
def ml {τ : Type} (v : Value) (e : Nat) (r : RT τ) (xs : List τ) : TL where
  blks := fun g => v.ownBlock = some g
  cov := fun b _ => v.ownBlock = some b
  cb := fun h => h
  p := fun ok w => lenV v = xs.length ∧ ∃ cs, w.ownsRowS 0 e r.size v (lenV v) cs ∧ repA r ok w xs cs
  keep := fun ⟨h1, cs, h2, h3⟩ hb he => ⟨h1, cs, ownsRow_keep h2 hb, repA_evo h3 he⟩
  weak := fun ⟨h1, cs, h2, h3⟩ hk => ⟨h1, cs, h2, repA_weak h3 hk⟩
  lt := fun ⟨_, _, h, _⟩ g hg => (h.lt g hg).2
theorem repA_at {τ : Type} {r : RT τ} {ok : Ok} {w : World} : ∀ {xs : List τ} {cs : List Value}, repA r ok w xs cs → ∀ {i : Nat} {y : τ}, xs[i]? = some y → r.rep ok w y ((cs.drop (i * r.size)).take r.size)
  | x :: xs, cs, ⟨c1, c2, e, h1, h2⟩, i, y, hy => by
    subst e
    have hl := r.len h1
    cases i with
    | zero =>
      simp at hy; subst hy
      rw [Nat.zero_mul, List.drop_zero, ← hl, List.take_left]; exact h1
    | succ i =>
      simp at hy
      have := repA_at h2 hy
      have e : (c1 ++ c2).drop ((i + 1) * r.size) = c2.drop (i * r.size) := by
        rw [Nat.add_mul, Nat.one_mul, Nat.add_comm, ← hl, ← List.drop_drop, List.drop_left, hl]
      rw [e]; exact this
theorem repA_set {τ : Type} {r : RT τ} {ok : Ok} {w : World} : ∀ {xs : List τ} {cs : List Value}, repA r ok w xs cs → ∀ {i : Nat} {z : τ} {ds : List Value}, i < xs.length → r.rep ok w z ds →
    repA r ok w (xs.set i z) (cs.take (i * r.size) ++ ds ++ cs.drop (i * r.size + ds.length))
  | x :: xs, cs, ⟨c1, c2, e, h1, h2⟩, i, z, ds, hi, hz => by
    subst e
    have hl := r.len h1
    have hd := r.len hz
    cases i with
    | zero =>
      refine ⟨ds, c2, ?_, hz, h2⟩
      simp only [Nat.zero_mul, List.take_zero, List.nil_append, Nat.zero_add]
      rw [hd, ← hl, List.drop_left]
    | succ i =>
      refine ⟨c1, _, ?_, h1, repA_set h2 (by simpa using hi) hz⟩
      have e1 : (i + 1) * r.size = c1.length + i * r.size := by rw [Nat.add_mul, hl]; omega
      rw [e1, List.take_append, List.append_assoc, List.append_assoc, List.append_assoc, Nat.add_sub_cancel_left, List.take_of_length_le (by omega)]
      congr 3
      rw [Nat.add_assoc, ← List.drop_drop, List.drop_left]
theorem repA_append {τ : Type} {r : RT τ} {ok : Ok} {w : World} : ∀ {xs ys : List τ} {cs ds : List Value}, repA r ok w xs cs → repA r ok w ys ds → repA r ok w (xs ++ ys) (cs ++ ds)
  | [], ys, cs, ds, h, h2 => by simp only [repA] at h; subst h; simpa using h2
  | x :: xs, ys, cs, ds, ⟨c1, c2, e, h1, h3⟩, h2 => by subst e; exact ⟨c1, c2 ++ ds, by rw [List.append_assoc], h1, repA_append h3 h2⟩
theorem repA_of {τ : Type} {r : RT τ} {ok : Ok} {w : World} : ∀ (xs : List τ) (cs : List Value), cs.length = xs.length * r.size → (∀ i x, xs[i]? = some x → ∃ ds, r.rep ok w x ds ∧ ∀ (j : Nat) u, ds[j]? = some u → cs[i * r.size + j]? = some u) → repA r ok w xs cs
  | [], cs, hl, _ => by simp only [repA]; exact List.eq_nil_of_length_eq_zero (by simpa using hl)
  | x :: xs, cs, hl, h => by
    obtain ⟨ds, hr, hd⟩ := h 0 x rfl
    have hdl := r.len hr
    have hl' : cs.length = r.size + xs.length * r.size := by rw [hl]; simp [Nat.add_mul]; omega
    refine ⟨ds, cs.drop r.size, ?_, hr, repA_of xs _ (by simp; omega) fun i y hy => ?_⟩
    · have : cs.take r.size = ds := by
        apply List.ext_getElem?
        intro j
        rcases Nat.lt_or_ge j r.size with hj | hj
        · rw [List.getElem?_take_of_lt hj]
          have hu : ds[j]? = some (ds[j]'(by omega)) := List.getElem?_eq_getElem _
          have := hd j _ hu
          rw [hu, ← this]; simp
        · rw [List.getElem?_eq_none (by simp; omega), List.getElem?_eq_none (by omega)]
      rw [← this, List.take_append_drop]
    · obtain ⟨es, he, hc⟩ := h (i + 1) y (by simpa using hy)
      refine ⟨es, he, fun j u hu => ?_⟩
      rw [List.getElem?_drop]
      have := hc j u hu
      have e : (i + 1) * r.size + j = r.size + (i * r.size + j) := by rw [Nat.add_mul]; omega
      rw [← e]; exact this
section
variable {P : Program} {T : Tab} {β : Nat → Nat} {X : Cx} {G : GL} {D : List DF} {H : HL} {O : List TL} {a : Act} {w w' : World}
variable {ops : Array Oper} {Q : Exit → Act → World → Prop} {rest : List Oper}
theorem Sb.mget (h : Sb β X G D H O a w) {τ : Type} {r : RT τ} {xs : List τ} {A : Option Addr} {m c : Nat} {e : Nat} (hm : ml (.slice A m c) e r xs ∈ O) {j : Int} {y : τ} (hy : idx xs j = some y) (hpos : 0 < r.size) :
    ∃ g cap cur fz, A = some ⟨g, 0, none⟩ ∧ (w.heap[g]? = some (.cells cur e fz) ∧ fzOk fz cur.size) ∧ m = xs.length ∧ j.toNat < m ∧ m ≤ cap ∧ cur.size = cap * r.size ∧ c = cap ∧ cap ≤ maxLen ∧
      repA r (okOf X.ok X.w.heap.size β H O w) w xs (cur.toList.take (m * r.size)) := by
  obtain ⟨⟨hl, cs, hown, hr⟩, _⟩ := h.own _ hm
  obtain ⟨h0, h1⟩ := idx_ok hy
  have hlt := (List.getElem?_eq_some_iff.1 h1).1
  simp only [lenV] at hl hown
  rcases hown.2 with ⟨hv, h0⟩ | ⟨g, cap, cur, fz, hv, _, hh, hfz, hle, hcm, hcs, htk⟩
  · omega
  · injection hv with e1 e2 e3
    exact ⟨g, cap, cur, fz, e1, ⟨hh, hfz⟩, hl, by omega, hle, hcs, e3, hcm, by rw [htk]; exact hr⟩
theorem mrow_cell {cur : Array Value} {g e : Nat} {fz : Nat × Nat} (hh : w.heap[g]? = some (.cells cur e fz)) (i : Nat) : w.cell? ⟨g, i, none⟩ = cur.toList[i]? := by
  simp [World.cell?, hh]
theorem splice_eq (L ds : List Value) {a s M off : Nat} (h1 : a + s ≤ M) (h2 : off + ds.length ≤ s) (h3 : M ≤ L.length) :
    ((L.take (a + off) ++ ds ++ L.drop (a + off + ds.length)).take M) =
      (L.take M).take a ++ (((L.drop a).take s).take off ++ ds ++ ((L.drop a).take s).drop (off + ds.length)) ++ (L.take M).drop (a + s) := by
  apply List.ext_getElem?
  intro i
  simp only [List.getElem?_append, List.getElem?_take, List.getElem?_drop, List.length_append, List.length_take, List.length_drop]
  have e1 : min (a + off) L.length = a + off := by omega
  have e2 : min a (min M L.length) = a := by omega
  have e3 : min s (L.length - a) = s := by omega
  have e4 : min off s = off := by omega
  rw [e1, e2, e3, e4]
  by_cases c1 : i < a
  · have c2 : i < a + off := by omega
    have c3 : i < M := by omega
    have c4 : i < a + off + ds.length := by omega
    have c5 : i < a + (off + ds.length + (s - (off + ds.length))) := by omega
    simp [c1, c2, c3, c4, c5]
  · by_cases c2 : i < a + off
    · have c3 : i < M := by omega
      have c4 : i < a + off + ds.length := by omega
      have c5 : i < a + (off + ds.length + (s - (off + ds.length))) := by omega
      have c6 : i - a < off := by omega
      have c7 : i - a < off + ds.length := by omega
      have c8 : i - a < s := by omega
      have c9 : a + (i - a) = i := by omega
      simp [c1, c2, c3, c4, c5, c6, c7, c8, c9]
    · by_cases c4 : i < a + off + ds.length
      · have c3 : i < M := by omega
        have c5 : i < a + (off + ds.length + (s - (off + ds.length))) := by omega
        have c6 : ¬ i - a < off := by omega
        have c7 : i - a < off + ds.length := by omega
        have c8 : i - (a + off) = i - a - off := by omega
        simp [c1, c2, c3, c4, c5, c6, c7, c8]
      · by_cases c5 : i < a + s
        · have c3 : i < M := by omega
          have c6 : i < a + (off + ds.length + (s - (off + ds.length))) := by omega
          have c7 : ¬ i - a < off + ds.length := by omega
          have c8 : off + ds.length + (i - a - (off + ds.length)) < s := by omega
          have c9 : a + (off + ds.length + (i - a - (off + ds.length))) = i := by omega
          have c10 : a + off + ds.length + (i - (a + off + ds.length)) = i := by omega
          simp [c1, c2, c3, c4, c6, c7, c8, c9, c10]
        · have c6 : ¬ i < a + (off + ds.length + (s - (off + ds.length))) := by omega
          have c9 : a + s + (i - (a + (off + ds.length + (s - (off + ds.length))))) = i := by omega
          have c10 : a + off + ds.length + (i - (a + off + ds.length)) = i := by omega
          simp [c4, c6, c9, c10]
theorem Sb.upd (h : Sb β X G D H O a w) {O1 O2 : List TL} {t t' : TL} (hO : O = O1 ++ t :: O2) (hos : w'.os = w.os) (htp : w'.tape = w.tape) (hout : w'.output = w.output) (hsz : w.heap.size ≤ w'.heap.size)
    (hblk : ∀ b, b < w.heap.size → ¬ t.blks b → w'.heap[b]? = w.heap[b]?) (hcov : ∀ b o, t.blks b → t.cov b o) (hb' : ∀ g, t'.blks g → t.blks g ∨ w.heap.size ≤ g)
    (hp : Evo (okOf X.ok X.w.heap.size β H O w) w w' → (∀ b o, okOf X.ok X.w.heap.size β H O w b o → okOf X.ok X.w.heap.size β H (O1 ++ t' :: O2) w' b o) → t'.p (okOf X.ok X.w.heap.size β H (O1 ++ t' :: O2) w') w') :
    Sb β X G D H (O1 ++ t' :: O2) a w' := by
  subst hO
  have hmem : t ∈ O1 ++ t :: O2 := by simp
  have hmine := (h.own _ hmem).2
  have hevo : Evo (okOf X.ok X.w.heap.size β H (O1 ++ t :: O2) w) w w' := Evo.of_blocks hsz fun b o hk => hblk b hk.2.1 fun hb => hk.2.2.2 t hmem (hcov b o hb)
  have hok : ∀ b o, okOf X.ok X.w.heap.size β H (O1 ++ t :: O2) w b o → okOf X.ok X.w.heap.size β H (O1 ++ t' :: O2) w' b o := by
    rintro b o ⟨h1, h2, h3, h4⟩
    refine ⟨h1, Nat.lt_of_lt_of_le h2 hsz, h3, fun u hu hc => ?_⟩
    rcases List.mem_append.1 hu with hu | hu
    · exact h4 u (by simp [hu]) hc
    · rcases List.mem_cons.1 hu with rfl | hu
      · rcases hb' b (u.cb hc) with hb | hb
        · exact h4 t hmem (hcov b o hb)
        · omega
      · exact h4 u (by simp [hu]) hc
  have hpw := List.pairwise_append.1 h.dOO
  have hpw2 := List.pairwise_cons.1 hpw.2.1
  have hoth : ∀ u ∈ O1 ++ O2, ∀ g, u.blks g → ¬ t.blks g ∧ g < w.heap.size := by
    intro u hu g hg
    refine ⟨fun hb => ?_, h.olt (by rcases List.mem_append.1 hu with hu | hu <;> simp [hu]) hg⟩
    rcases List.mem_append.1 hu with hu | hu
    · exact hpw.2.2 u hu t (.head _) g hg hb
    · exact hpw2.1 u hu g hb hg
  have hnew : ∀ u ∈ O1 ++ O2, ∀ g, u.blks g → ¬ t'.blks g := by
    intro u hu g hg hb
    have := hoth u hu g hg
    rcases hb' g hb with hb | hb
    · exact this.1 hb
    · omega
  refine { sz := h.sz, df := h.df, fr := h.fr, pn := h.pn, tm := h.tm, bel := ?_, dat := (h.dat.evo hevo).weak hok, obj := ?_, own := ?_, dHH := h.dHH, dHO := ?_, dOO := ?_ }
  · exact h.bel.trans ⟨hos, htp, hout, hsz, fun k hk hn => hblk k (Nat.lt_of_lt_of_le hk h.bel.size) fun hb => (hmine k hb).elim (fun h => by omega) hn⟩
  · intro p hp'
    refine ⟨?_, (h.obj p hp').2⟩
    rw [hblk _ (h.hlt hp') (h.dHO p hp' t hmem)]
    exact (h.obj p hp').1
  · intro u hu
    have keep : ∀ u ∈ O1 ++ O2, u.p (okOf X.ok X.w.heap.size β H (O1 ++ t' :: O2) w') w' ∧ ∀ g, u.blks g → X.mine g := by
      intro u hu
      have hu' : u ∈ O1 ++ t :: O2 := by rcases List.mem_append.1 hu with hu | hu <;> simp [hu]
      exact ⟨u.weak (u.keep (h.own u hu').1 (fun g hg => hblk g (hoth u hu g hg).2 (hoth u hu g hg).1) hevo) hok, (h.own u hu').2⟩
    rcases List.mem_append.1 hu with hu | hu
    · exact keep u (by simp [hu])
    · rcases List.mem_cons.1 hu with rfl | hu
      · exact ⟨hp hevo hok, fun g hg => (hb' g hg).elim (hmine g) fun hb => .inl (Nat.le_trans h.bel.size hb)⟩
      · exact keep u (by simp [hu])
  · intro p hp' u hu
    rcases List.mem_append.1 hu with hu | hu
    · exact h.dHO p hp' u (by simp [hu])
    · rcases List.mem_cons.1 hu with rfl | hu
      · intro hb
        rcases hb' _ hb with hb | hb
        · exact h.dHO p hp' t hmem hb
        · have := h.hlt hp'; omega
      · exact h.dHO p hp' u (by simp [hu])
  · refine List.pairwise_append.2 ⟨hpw.1, List.pairwise_cons.2 ⟨fun u hu g hg hg2 => hnew u (by simp [hu]) g hg2 hg, hpw2.2⟩, ?_⟩
    intro u hu v hv g hg
    rcases List.mem_cons.1 hv with rfl | hv
    · exact hnew u (by simp [hu]) g hg
    · exact hpw.2.2 u hu v (.tail _ hv) g hg
theorem Sb.mset (h : Sb β X G D H O a w) (O1 O2 : List TL) {τ : Type} {r : RT τ} {xs : List τ} {m c g : Nat} {j : Int} {y z : τ} {e : TypeId}
    (hO : O = O1 ++ ml (.slice (some ⟨g, 0, none⟩) m c) e r xs :: O2) (hy : idx xs j = some y) (hpos : 0 < r.size) {off : Nat} {ds : List Value} (hoff : off + ds.length ≤ r.size) (h1 : ∀ d ∈ ds, d.oneCell' = true)
    (hz : ∀ es, r.rep (okOf X.ok X.w.heap.size β H O w) w y es → r.rep (okOf X.ok X.w.heap.size β H O w) w z (es.take off ++ ds ++ es.drop (off + ds.length))) :
    ∃ cur fz, (w.heap[g]? = some (.cells cur e fz) ∧ fzOk fz cur.size) ∧ j.toNat * r.size + off + ds.length ≤ cur.size ∧
      Sb β X G D H (O1 ++ ml (.slice (some ⟨g, 0, none⟩) m c) e r (xs.set j.toNat z) :: O2) a (w.setRow g (cur.toList.take (j.toNat * r.size + off) ++ ds ++ cur.toList.drop (j.toNat * r.size + off + ds.length)).toArray) := by
  have hmem : ml (.slice (some ⟨g, 0, none⟩) m c) e r xs ∈ O := by rw [hO]; simp
  obtain ⟨g', cap, cur, fz, hA, ⟨hh, hfz⟩, hm, hj, hle, hcs, hc, hcm, hr⟩ := h.mget hmem hy hpos
  injection hA with hA; injection hA with hA; subst hA
  have hj1 : (j.toNat + 1) * r.size ≤ m * r.size := Nat.mul_le_mul_right _ hj
  have hj2 : m * r.size ≤ cap * r.size := Nat.mul_le_mul_right _ hle
  rw [Nat.add_mul] at hj1
  have hcl : cur.toList.length = cap * r.size := by simpa using hcs
  have hlen : j.toNat * r.size + off + ds.length ≤ cur.size := by omega
  refine ⟨cur, fz, ⟨hh, hfz⟩, hlen, ?_⟩
  have hset := setRow_heap w g cur (cur.toList.take (j.toNat * r.size + off) ++ ds ++ cur.toList.drop (j.toNat * r.size + off + ds.length)).toArray e _ hh
  refine h.upd (t' := ml (.slice (some ⟨g, 0, none⟩) m c) e r (xs.set j.toNat z)) hO rfl rfl rfl (by simp) (fun b hb hn => setRow_other _ _ _ _ fun e => hn (by subst e; rfl)) (fun b o hb => hb) (fun g hg => .inl hg) fun hevo hok => ?_
  have hrep := repA_at hr (idx_ok hy).2
  have hdrop : (cur.toList.take (m * r.size)).drop (j.toNat * r.size) = (cur.toList.drop (j.toNat * r.size)).take (m * r.size - j.toNat * r.size) := by rw [List.drop_take]
  have e1 : ((cur.toList.take (m * r.size)).drop (j.toNat * r.size)).take r.size = (cur.toList.drop (j.toNat * r.size)).take r.size := by
    rw [hdrop, List.take_take]; congr 1; omega
  rw [e1] at hrep
  have hnew := hz _ hrep
  have hL : ((cur.toList.drop (j.toNat * r.size)).take r.size).length = r.size := r.len hrep
  refine ⟨by simp [lenV, hm], _, ⟨?_, .inr ⟨g, cap, _, fz, by rw [hc]; rfl, Nat.zero_le _, hset, by rw [List.size_toArray, List.length_append, List.length_append, List.length_take, List.length_drop, Nat.min_eq_left (by omega), show j.toNat * r.size + off + ds.length + (cur.toList.length - (j.toNat * r.size + off + ds.length)) = cur.size by simp; omega]; exact hfz, hle, hcm, by rw [List.size_toArray, List.length_append, List.length_append, List.length_take, List.length_drop]; omega, rfl⟩⟩, ?_⟩
  · simp only [lenV, List.length_take, List.length_append, List.length_drop]; omega
  · have h2 := repA_set (repA_weak (repA_evo hr hevo) hok) (i := j.toNat) (z := z) (by omega) (r.weak (r.evo hnew hevo) hok)
    simp only [lenV]
    have hfin := splice_eq cur.toList ds (a := j.toNat * r.size) (s := r.size) (M := m * r.size) (off := off) (by omega) hoff (by omega)
    rw [hfin]
    have hlen2 : (List.take off (List.take r.size (List.drop (j.toNat * r.size) cur.toList)) ++ ds ++ List.drop (off + ds.length) (List.take r.size (List.drop (j.toNat * r.size) cur.toList))).length = r.size := by
      simp; omega
    rw [hlen2] at h2
    exact h2
def mkL {α : Type} (bytes : Nat) (l c : Int) (z : α) : Option (List α) := if 0 ≤ l ∧ l ≤ c ∧ (bytes : Int) * c ≤ 281474976710656 then some (List.replicate l.toNat z) else none
theorem range_flat (zc : List Value) : ∀ l : Nat, ((List.range (l * zc.length)).map fun j => zc.getD (j % zc.length) undef) = (List.replicate l zc).flatten
  | 0 => by simp
  | l + 1 => by
    rw [Nat.add_mul, Nat.one_mul, List.range_add, List.map_append, range_flat zc l, List.replicate_succ', List.flatten_append]
    congr 1
    simp only [List.map_map, List.flatten_cons, List.flatten_nil, List.append_nil]
    apply List.ext_getElem
    · simp
    · intro i h1 h2
      simp only [List.getElem_map, List.getElem_range, Function.comp]
      have hlt : i < zc.length := h2
      rw [Nat.mul_comm, Nat.mul_add_mod, Nat.mod_eq_of_lt hlt]
      simp [hlt]
theorem repA_rep {τ : Type} {r : RT τ} {ok : Ok} {z : τ} {zc : List Value} (h : r.rep ok w z zc) : ∀ l, repA r ok w (List.replicate l z) (List.replicate l zc).flatten
  | 0 => by simp [repA]
  | l + 1 => ⟨zc, (List.replicate l zc).flatten, by simp [List.replicate_succ], h, repA_rep h l⟩
theorem step_make (hT : TabOk P T) (h : Sb β X G D H O a w) {t : TypeId} {lo co : Operand} {d : Nat} {ps : String} {af : Array Edge} {ty : TypeId} {gd : Option (Nat × Bool)}
    (hg : guardV ops G ⟨some d, .makeSlice t lo co, ty, ps, af, gd⟩ = some true) (hlt : okD X d = true)
    {τ : Type} {r : RT τ} {z : τ} {zs : List τ} {kl kc : IntKind} {l c : Int} {e : TypeId} {te ee : TE} (ht : lookT T t = some te) (htd : te.d = .slice e) (he : lookT T e = some ee) (hs : ee.size = r.size)
    (hzl : Nat.beq (cellsL ee.z).length ee.size = true) (hby : Nat.ble 1 ee.bytes = true) (hz : ∀ ok w, r.rep ok w z (cellsL ee.z))
    (hl : gv G lo = some (.v (.int kl l))) (hc : gv G co = some (.v (.int kc c))) (hmk : mkL ee.bytes l c z = some zs)
    (hk : ∀ b a' w', Sb β X (setN G d (.v (.slice (some ⟨b, 0, none⟩) zs.length c.toNat))) D H (ml (.slice (some ⟨b, 0, none⟩) zs.length c.toNat) e r zs :: O) a' w' → wpList P ops Q rest a' w') :
    wpList P ops Q (⟨some d, .makeSlice t lo co, ty, ps, af, gd⟩ :: rest) a w := by
  unfold mkL at hmk
  split at hmk
  · rename_i hcd
    obtain ⟨h0, h1, h2⟩ := hcd
    have hzs : zs = List.replicate l.toNat z := (Option.some.inj hmk).symm
    have hlen : zs.length = l.toNat := by rw [hzs]; simp
    have hu : P.underlying t = some (.slice e) := by rw [(lookT_ok hT ht).2, htd]
    obtain ⟨i, hi, hz', hsi, hbi⟩ := lookT_info hT he
    have hby' : 1 ≤ ee.bytes := Nat.le_of_ble_eq_true hby
    have hc63 : c ≤ 281474976710656 := by
      have : (1 : Int) * c ≤ (ee.bytes : Int) * c := Int.mul_le_mul_of_nonneg_right (by omega) (by omega)
      omega
    have hzz := Nat.eq_of_beq_eq_true hzl
    have hr := run_make (P := P) w t e i ee.z hu hi hz' kl kc l c h0 h1 (by rw [hbi]; exact h2) (by omega)
    have hrun : (execOp a.eval ⟨some d, .makeSlice t lo co, ty, ps, af, gd⟩).run P w = .ok (.value (.slice (some ⟨w.heap.size, 0, none⟩) zs.length c.toNat)) (w.alloc (.cells (madeCells ee.z.cells (c.toNat * i.size)) e)) := by
      unfold execOp
      simp only [h.ev hl, h.ev hc, den_v]
      simp [hr, hlen]
    refine wpList_go (guardV_ok h hg) (wp_value hrun ?_)
    have hb : Below w.heap.size w (w.alloc (.cells (madeCells ee.z.cells (c.toNat * i.size)) e)) := (Below.refl _ _).alloc (Nat.le_refl _) _
    have hcells : (madeCells ee.z.cells (c.toNat * i.size)).toList = (List.replicate c.toNat (cellsL ee.z)).flatten := by
      rw [← range_flat, hzz, hsi]
      unfold madeCells
      rw [cellsL_eq] at hzz ⊢
      simp only [Array.toList_map, Array.toList_range]
      apply List.map_congr_left
      intro q hq
      have hq' : q < c.toNat * ee.size := by simpa using hq
      have hpos : 0 < ee.size := by
        rcases Nat.eq_zero_or_pos ee.size with h0 | h0
        · rw [h0] at hq'; omega
        · exact h0
      have hsz : ee.z.cells.size = ee.size := by rw [← hzz]; simp
      have hm : q % ee.z.cells.size < ee.z.cells.size := Nat.mod_lt _ (by omega)
      rw [getElem!_pos ee.z.cells _ hm]
      simp only [List.getD_eq_getElem?_getD]
      have hm2 : q % ee.size < ee.z.cells.toList.length := by rw [hsz] at hm; simpa [hsz] using hm
      rw [List.getElem?_eq_getElem hm2]
      simp [hsz]
    refine hk _ _ _ ((h.allocTL hb (t := ml (.slice (some ⟨w.heap.size, 0, none⟩) zs.length c.toNat) e r zs) (fun g hg => ?_) ⟨rfl, (List.replicate l.toNat (cellsL ee.z)).flatten, ⟨?_, .inr ⟨w.heap.size, c.toNat, _, (0, 0), rfl, Nat.zero_le _, heap_alloc_new w _, .inl rfl, ?_, ?_, ?_, ?_⟩⟩, ?_⟩).put hlt (.v _))
    · have hg : some w.heap.size = some g := hg
      injection hg with hg; omega
    · simp [lenV, hlen, hzz, hs]
    · simp only [lenV]; omega
    · rw [maxLen_val]; omega
    · rw [size_madeCells, hsi, hs]
    · simp only [lenV]
      rw [hcells, hlen]
      have e1 : c.toNat = l.toNat + (c.toNat - l.toNat) := by omega
      rw [e1, ← List.replicate_append_replicate, List.flatten_append]
      have e2 : l.toNat * r.size = (List.replicate l.toNat (cellsL ee.z)).flatten.length := by simp [hzz, hs]
      rw [e2, List.take_left]
    · rw [hzs]; exact repA_rep (hz _ _) _
  · cases hmk
end
end Gd

/- New slices, appends, parts of slices and strings. -/
import Derived.Test.YtnlnadfpfekeiaaDoorGMore
namespace Gd
open Go Go.RowKit Go.Lib
set_option linter.unusedVariables false
set_option linter.unusedSimpArgs false
def allV {τ : Type} (r : RT τ) (ok : Ok) (w : World) : List τ → List Value → Prop
  | [], [] => True
  | x :: xs, v :: vs => isV r ok w x v ∧ allV r ok w xs vs
  | _, _ => False
theorem cellsL_val {τ : Type} {r : RT τ} {ok : Ok} {w : World} {x : τ} {cs : List Value} (h : r.rep ok w x cs) : cellsL (r.val cs) = cs := by
  unfold RT.val
  cases ha : r.agg with
  | true => rfl
  | false =>
    have h1 := r.len h
    rw [r.one ha] at h1
    match cs, h1 with
    | [c], _ =>
      have := r.flat h c (by simp)
      cases c <;> first | rfl | (simp [Value.oneCell'] at this)
theorem cellsL_rep {τ : Type} {r : RT τ} {ok : Ok} {w : World} {x : τ} {v : Value} (h : isV r ok w x v) : r.rep ok w x (cellsL v) := by
  obtain ⟨cs, hr, rfl⟩ := h
  rw [cellsL_val hr]; exact hr
theorem allV_at {τ : Type} {r : RT τ} {ok : Ok} {w : World} : ∀ {xs : List τ} {vs : List Value}, allV r ok w xs vs → ∀ (i : Nat) (x : τ), xs[i]? = some x →
    ∃ cs, r.rep ok w x cs ∧ ∀ (j : Nat) u, cs[j]? = some u → (vs.flatMap cellsL)[i * r.size + j]? = some u
  | [], [], _, i, x, hx => by simp at hx
  | y :: ys, v :: vs, h, i, x, hx => by
    have h1 := r.len (cellsL_rep h.1)
    cases i with
    | zero =>
      simp at hx; subst hx
      refine ⟨cellsL v, cellsL_rep h.1, fun j u hu => ?_⟩
      have hj := (List.getElem?_eq_some_iff.1 hu).1
      simp only [List.flatMap_cons, Nat.zero_mul, Nat.zero_add]
      rw [List.getElem?_append_left hj]; exact hu
    | succ i =>
      simp at hx
      obtain ⟨cs, hr, hc⟩ := allV_at h.2 i x hx
      refine ⟨cs, hr, fun j u hu => ?_⟩
      simp only [List.flatMap_cons]
      rw [List.getElem?_append_right (by rw [h1, Nat.add_mul]; omega), h1]
      have : (i + 1) * r.size + j - r.size = i * r.size + j := by rw [Nat.add_mul]; omega
      rw [this]
      exact hc j u hu
section
variable {P : Program} {T : Tab} {β : Nat → Nat} {X : Cx} {G : GL} {D : List DF} {H : HL} {O : List TL} {a : Act} {w w' : World}
variable {ops : Array Oper} {Q : Exit → Act → World → Prop} {rest : List Oper}
theorem Sb.fresh (h : Sb β X G D H O a w) {τ : Type} {r : RT τ} {xs : List τ} {cs : List Value} {tail : List Value} (e : TypeId) (c : Nat)
    (hc : ∀ (i : Nat) (x : τ), xs[i]? = some x → ∃ ds, r.rep (okOf X.ok X.w.heap.size β H O w) w x ds ∧ ∀ (j : Nat) u, ds[j]? = some u → cs[i * r.size + j]? = some u)
    (hl : xs.length ≤ c) (w' : World) (hb : Below w.heap.size w w') {fr : Nat × Nat} (hw' : w'.heap[w.heap.size]? = some (.cells (cs ++ tail).toArray e fr)) :
    isV (rSl r) (okOf X.ok X.w.heap.size β H O w') w' xs (.slice (some ⟨w.heap.size, 0, none⟩) xs.length c) := by
  have hb' : Evo (okOf X.ok X.w.heap.size β H O w) w w' := (Evo.of_below hb).mono fun _ _ hk => hk.2.1
  have hlt : w.heap.size < w'.heap.size := heap_lt hw'
  refine isV_sl.2 ⟨_, _, _, rfl, rfl, hl, fun _ => ⟨_, 0, rfl, fun i x hx => ?_⟩⟩
  obtain ⟨ds, hr, hd⟩ := hc i x hx
  refine ⟨ds, r.weak (r.evo hr hb') (okOf_grow hb.size), fun j u hu => ⟨⟨.inr h.bel.size, hlt, fun p hp => ?_, fun t ht hcv => ?_⟩, ?_⟩⟩
  · exact Nat.ne_of_lt (h.hlt hp)
  · exact Nat.lt_irrefl _ (h.olt ht (t.cb hcv))
  · have := hd j u hu
    have hj := (List.getElem?_eq_some_iff.1 this).1
    simp only [World.cell?, hw', Nat.zero_add, Option.isSome_none, Bool.false_eq_true, if_false]
    rw [List.getElem?_toArray, List.getElem?_append_left hj]
    exact this
def placeS (size : Nat) : Nat → Option (Nat × Nat) := fun i => some (i * size, size)
def zerosS (z : List Value) (m : Nat) : List Value := (List.range m).map fun j => z.getD (j % z.length) undef
theorem step_buildSlice (hT : TabOk P T) (h : Sb β X G D H O a w) {t : TypeId} {len : Nat} {parts : List (Nat × Operand)} {d : Nat} {ps : String} {af : Array Edge} {ty : TypeId} {gd : Option (Nat × Bool)}
    (hg : guardV ops G ⟨some d, .buildSlice t len ⟨parts⟩, ty, ps, af, gd⟩ = some true) (hlt : okD X d = true)
    {τ : Type} {r : RT τ} {xs : List τ} {vs : List Value} {pvs : List (Nat × Value)} (hpv : evParts G parts = some pvs)
    {e : TypeId} {te ee : TE} (ht : lookT T t = some te) (htd : te.d = .slice e) (he : lookT T e = some ee) (hs : ee.size = r.size) (hxl : xs.length = len)
    (hsm : Nat.ble (len * ee.size) 16777216 = true) (hps : Nat.ble 1 (len * ee.size) = true) (hz : Nat.beq (cellsL ee.z).length ee.size = true)
    (hfill : fillL (placeS ee.size) (zerosS (cellsL ee.z) (len * ee.size)) pvs = some (vs.flatMap cellsL))
    (hv : allV r (okOf X.ok X.w.heap.size β H O w) w xs vs)
    (hk : ∀ A c a' w', isV (rSl r) (okOf X.ok X.w.heap.size β H O w') w' xs (.slice A xs.length c) → Sb β X (setN G d (.v (.slice A xs.length c))) D H O a' w' → wpList P ops Q rest a' w') :
    wpList P ops Q (⟨some d, .buildSlice t len ⟨parts⟩, ty, ps, af, gd⟩ :: rest) a w := by
  have hrun : (execOp a.eval ⟨some d, .buildSlice t len ⟨parts⟩, ty, ps, af, gd⟩).run P w = .ok (.value (.slice (some ⟨w.heap.size, 0, none⟩) xs.length len)) (w.alloc (.cells (vs.flatMap cellsL).toArray e)) := by
    have hev := evParts_ok h hpv
    have hm : (Array.mk parts).map (fun (x : Nat × Operand) => (x.1, a.eval x.2)) = ⟨pvs⟩ := by rw [← hev]; simp
    have hun : (underlying t).run P w = .ok (.slice e) w := by rw [run_under hT w ht, htd]
    have h16 : ¬ len * ee.size > 16777216 := by have := Nat.le_of_ble_eq_true hsm; omega
    have hzl := Nat.eq_of_beq_eq_true hz
    have hf : Instr.fill (fun i => some (i * ee.size, ee.size)) (zerosS (cellsL ee.z) (len * ee.size)).toArray pvs = some (vs.flatMap cellsL).toArray := fillL_ok _ hfill
    have hzz : (Array.range (len * ee.size)).map (fun x => ee.z.cells[x % ee.z.cells.size]!) = (zerosS (cellsL ee.z) (len * ee.size)).toArray := by
      rw [cellsL_eq]
      unfold zerosS
      apply Array.ext
      · simp
      · intro i h1 h2
        have hi : i < len * ee.size := by simpa using h1
        have hne : 0 < ee.size := by
          rcases Nat.eq_zero_or_pos ee.size with h0 | h0
          · rw [h0] at hi; omega
          · exact h0
        have hzs : ee.z.cells.size = ee.size := by rw [← hzl, cellsL_eq]; simp
        have hmod : i % ee.z.cells.size < ee.z.cells.size := Nat.mod_lt _ (by omega)
        simp [getElem!_pos, hmod]
    unfold execOp
    simp only [Instr.buildSlice, Sem.run_bind, hun, run_sizeOf' hT w he, Result.andThen_ok, hm]
    have h0 : ¬ len * ee.size = 0 := by have := Nat.le_of_ble_eq_true hps; omega
    have h00 : len ≠ 0 := fun e => h0 (by rw [e, Nat.zero_mul])
    have h01 : ee.size ≠ 0 := fun e => h0 (by rw [e, Nat.mul_zero])
    simp [h16, h00, h01, run_zeroValue hT w he, hzz, hf, newRow, hxl]
    exact fun e => absurd e h0
  refine wpList_go (guardV_ok h hg) (wp_value hrun ?_)
  have hb : Below w.heap.size w (w.alloc (.cells (vs.flatMap cellsL).toArray e)) := (Below.refl _ _).alloc (Nat.le_refl _) _
  refine hk _ len _ _ ?_ ((h.below hb).put hlt (.v _))
  exact h.fresh (tail := []) e len (allV_at hv) (by omega) _ hb (by rw [List.append_nil]; exact heap_alloc_new w _)
def app {α : Type} (bytes : Nat) (xs ys : List α) : Option (List α) := if (xs.length + ys.length) * bytes ≤ 140737488355328 then some (xs ++ ys) else none
theorem app_ok {α : Type} {bytes : Nat} {xs ys zs : List α} (h : app bytes xs ys = some zs) : (xs.length + ys.length) * bytes ≤ 140737488355328 ∧ zs = xs ++ ys := by
  unfold app at h
  split at h
  · exact ⟨by assumption, (Option.some.inj h).symm⟩
  · cases h
theorem maxLen_val : maxLen = 9223372036854775807 := rfl
theorem run_append_roomS (t ty e : TypeId) (i : TypeInfo) (ht : P.underlying t = some (.slice e)) (hi : P.info? e = some i)
    (g sLen sCap : Nat) (cur : Array Value) (fz : Nat × Nat) (hg : w.heap[g]? = some (.cells cur e fz)) (hfz : fzOk fz cur.size)
    (a : Addr) (m c : Nat) (news : List Value) (hl : news.length = m * i.size) (hnews : ∀ j u, news[j]? = some u → w.cell? (a.add j) = some u) (h1 : ∀ u ∈ news, u.oneCell' = true)
    (hroom : sLen + m ≤ sCap) (hfit : sLen * i.size + news.length ≤ cur.size) :
    (Builtin.append_ #[t, t] ty #[.slice (some ⟨g, 0, none⟩) sLen sCap, .slice (some a) m c]).run P w =
      .ok (.slice (some ⟨g, 0, none⟩) (sLen + m) sCap) (w.setRow g (cur.toList.take (sLen * i.size) ++ news ++ cur.toList.drop (sLen * i.size + news.length)).toArray) := by
  have hf := run_firstCells_some (P := P) w i.size m a m c news hl hnews
  have hst := run_storeCells_atS P g (sLen * i.size) e fz news 0 cur w hg hfz (by simpa using hfit) h1
  simp only [Nat.add_zero] at hst
  simp [Builtin.append_, run_underlying ht, Go.sizeOf, typeInfo, hi, Builtin.lenOf, hroom, hf, Addr.add_lit, hst]
theorem run_append_room_strS (t u ty e : TypeId) (i : TypeInfo) (ht : P.underlying t = some (.slice e)) (hu : P.underlying u = some .string) (hi : P.info? e = some i) (hs1 : i.size = 1)
    (g sLen sCap : Nat) (cur : Array Value) (fz : Nat × Nat) (hg : w.heap[g]? = some (.cells cur e fz)) (hfz : fzOk fz cur.size) (s : ByteArray)
    (hroom : sLen + s.size ≤ sCap) (hfit : sLen + s.size ≤ cur.size) :
    (Builtin.append_ #[t, u] ty #[.slice (some ⟨g, 0, none⟩) sLen sCap, .string s]).run P w =
      .ok (.slice (some ⟨g, 0, none⟩) (sLen + s.size) sCap) (w.setRow g (cur.toList.take sLen ++ strCells s ++ cur.toList.drop (sLen + s.size)).toArray) := by
  have hf := run_firstCells_string (P := P) w 1 s
  have hst := run_storeCells_atS P g sLen e fz (strCells s) 0 cur w hg hfz (by simpa [strCells_length] using hfit) (strCells_oneCell s)
  simp only [Nat.add_zero, strCells_length] at hst
  simp [Builtin.append_, run_underlying ht, run_underlying hu, Go.sizeOf, typeInfo, hi, hs1, Builtin.lenOf, hroom, hf, Addr.add_lit, hst]
theorem own_append_str {base : Nat} {t u ty e : TypeId} {i : TypeInfo} (ht : P.underlying t = some (.slice e)) (hu : P.underlying u = some .string) (hi : P.info? e = some i) (hz : i.zero = some (.int .u8 0))
    (hsize : i.size = 1) (hby : i.bytes = 1) {v : Value} {n : Nat} {xs : List Value} (hown : w.ownsRowS base e 1 v n xs) (s : ByteArray) (hbytes : n + s.size ≤ 140737488355328) (hbase : base ≤ w.heap.size) :
    ∃ v' w', (Builtin.append_ #[t, u] ty #[v, .string s]).run P w = .ok v' w' ∧ w'.ownsRowS base e 1 v' (n + s.size) (xs ++ strCells s) ∧ w.grownBy w' v.ownBlock ∧
      ((v'.ownBlock = v.ownBlock) ∨ (v'.ownBlock = some w.heap.size ∧ Below w.heap.size w w')) := by
  have h63 : n + s.size ≤ maxLen := by rw [maxLen_val]; omega
  have hxl : xs.length = n := by simpa using hown.1
  have hlen : (xs ++ strCells s).length = (n + s.size) * 1 := by rw [List.length_append, hxl, strCells_length, Nat.mul_one]
  have grown : ∀ (old : Nat), old < n + s.size →
      (w.drew.alloc (.cells (xs.toArray ++ (strCells s).toArray ++ Builtin.zeroCells (Value.int .u8 0).cells (grownCap w (n + s.size) old e - (n + s.size))) e)).ownsRowS base e 1
        (.slice (some ⟨w.heap.size, 0, none⟩) (n + s.size) (grownCap w (n + s.size) old e)) (n + s.size) (xs ++ strCells s) ∧
      Below w.heap.size w (w.drew.alloc (.cells (xs.toArray ++ (strCells s).toArray ++ Builtin.zeroCells (Value.int .u8 0).cells (grownCap w (n + s.size) old e - (n + s.size))) e)) := by
    intro old ho
    have hge := grownCap_ge w (n + s.size) old e
    have hcm : grownCap w (n + s.size) old e ≤ maxLen := grownCap_le_maxLen w (n + s.size) old e h63
    refine ⟨⟨hlen, .inr ⟨w.heap.size, _, _, (0, 0), rfl, hbase, heap_alloc_new w.drew _, .inl rfl, hge, hcm, ?_, ?_⟩⟩, ((Below.refl _ _).drew.alloc (Nat.le_refl _) _)⟩
    · simp only [Array.size_append, List.size_toArray, size_zeroCells, hxl, strCells_length]
      simp [Value.cells]
      omega
    · simp only [Array.toList_append, List.append_assoc]
      rw [← List.append_assoc, ← hlen]
      exact List.take_left
  rcases hown.2 with ⟨rfl, rfl⟩ | ⟨g, cap, cur, fz, rfl, hbg, hg, hfz, hnc, hcm, hcs, htake⟩
  · have hx0 : xs = [] := List.eq_nil_of_length_eq_zero hxl
    subst hx0
    by_cases hs0 : s.size = 0
    · refine ⟨.slice none 0 0, w, ?_, ⟨hlen, .inl ⟨rfl, by omega⟩⟩, ⟨rfl, rfl, rfl, Nat.le_refl _, fun _ _ _ => rfl⟩, .inl rfl⟩
      simp [Builtin.append_, run_underlying ht, run_underlying hu, Go.sizeOf, typeInfo, hi, Builtin.lenOf, hs0, Builtin.firstCells]
    · have hr := run_append_nil_string (P := P) w t u ty e i (.int .u8 0) ht hu hi hz s (by omega) (by omega) (by rw [hby]; omega)
      have e0 : s.data.map (fun b => Value.int .u8 (b.toNat : Int)) = (strCells s).toArray := by apply Array.ext'; simp [strCells]
      rw [e0] at hr
      obtain ⟨g1, g2⟩ := grown 0 (by omega)
      simp only [Nat.zero_add, List.nil_append, Array.empty_append] at g1 g2 ⊢
      exact ⟨_, _, hr, g1, ⟨g2.os, g2.tape, g2.output, g2.size, fun b hb _ => g2.block b hb⟩, .inr ⟨rfl, g2⟩⟩
  · by_cases hroom : n + s.size ≤ cap
    · have hcs' : cur.size = cap := by simpa using hcs
      have hr := run_append_room_strS (P := P) (w := w) t u ty e i ht hu hi hsize g n cap cur fz hg hfz s hroom (by omega)
      have hsz : (cur.toList.take n ++ strCells s ++ cur.toList.drop (n + s.size)).toArray.size = cur.size := by
        simp only [List.size_toArray, List.length_append, List.length_take, List.length_drop, Array.length_toList, strCells_length]; omega
      refine ⟨_, _, hr, ⟨hlen, .inr ⟨g, cap, _, fz, rfl, hbg, setRow_heap w g cur _ e _ hg, by rw [hsz]; exact hfz, hroom, hcm, by rw [hsz, hcs], ?_⟩⟩, ⟨rfl, rfl, rfl, by simp, fun b _ hb => setRow_other w g b _ (fun e => hb (by simp [Value.ownBlock, e]))⟩, .inl rfl⟩
      have ht' : cur.toList.take n = xs := by simpa using htake
      rw [ht', ← hlen]
      exact List.take_left
    · have holds : ∀ j u, xs[j]? = some u → w.cell? ((⟨g, 0, none⟩ : Addr).add j) = some u := hown.cells (g := g) rfl
      have hr := run_append_grow_string (P := P) w t u ty e i (.int .u8 0) ht hu hi hz ⟨g, 0, none⟩ n cap xs (by rw [hsize]; simpa using hxl) holds s (by omega) (by omega) (by rw [hby]; exact growslice_fits (by omega) (by omega))
      obtain ⟨g1, g2⟩ := grown cap (by omega)
      exact ⟨_, _, hr, g1, ⟨g2.os, g2.tape, g2.output, g2.size, fun b hb _ => g2.block b hb⟩, .inr ⟨rfl, g2⟩⟩
theorem own_append (hT : TabOk P T) {base : Nat} {t ty e : TypeId} {te ee : TE} (ht : lookT T t = some te) (htd : te.d = .slice e) (he : lookT T e = some ee)
    (hz : (cellsL ee.z).length = ee.size) (hsz : 0 < ee.size) (hby : 0 < ee.bytes) {v : Value} {m : Nat} {xs : List Value} (hown : w.ownsRowS base e ee.size v m xs) (hbase : base ≤ w.heap.size)
    {A : Option Addr} {k c : Nat} {news : List Value} (hl : news.length = k * ee.size) (hA : A = none → k = 0) (hnews : ∀ ad, A = some ad → ∀ j u, news[j]? = some u → w.cell? (ad.add j) = some u)
    (h1 : ∀ u ∈ news, u.oneCell' = true) (hbytes : (m + k) * ee.bytes ≤ 140737488355328) :
    ∃ v' w', (Builtin.append_ ⟨[t, t]⟩ ty ⟨[v, .slice A k c]⟩).run P w = .ok v' w' ∧ w'.ownsRowS base e ee.size v' (m + k) (xs ++ news) ∧ w.grownBy w' v.ownBlock ∧
      ((v'.ownBlock = v.ownBlock) ∨ (v'.ownBlock = some w.heap.size ∧ Below w.heap.size w w')) := by
  have hu : P.underlying t = some (.slice e) := by rw [(lookT_ok hT ht).2, htd]
  obtain ⟨i, hi, hz', hs', hb'⟩ := lookT_info hT he
  have hzs : ee.z.cells.size = ee.size := by rw [← hz, cellsL_eq]; simp
  have hmk : m + k ≤ 140737488355328 := Nat.le_trans (Nat.le_mul_of_pos_right _ hby) hbytes
  rw [← hs'] at hl hown hsz hzs ⊢
  rw [← hb'] at hbytes
  have hlen : (xs ++ news).length = (m + k) * i.size := by rw [List.length_append, hown.1, hl, Nat.add_mul]
  cases A with
  | none =>
    have hk := hA rfl
    subst hk
    have hn : news = [] := List.eq_nil_of_length_eq_zero (by simpa using hl)
    subst hn
    refine ⟨v, w, ?_, by simpa using hown, ⟨rfl, rfl, rfl, Nat.le_refl _, fun _ _ _ => rfl⟩, .inl rfl⟩
    rcases hown.2 with ⟨rfl, rfl⟩ | ⟨g, cap, cur, fz, rfl, _, _, _, hnc, _⟩
    · simp [Builtin.append_, run_underlying hu, Go.sizeOf, typeInfo, hi, Builtin.lenOf, Builtin.firstCells]
    · simp [Builtin.append_, run_underlying hu, Go.sizeOf, typeInfo, hi, Builtin.lenOf, Builtin.firstCells, hnc, storeCells]
  | some ad =>
    have hn := hnews ad rfl
    have grown : ∀ old : Nat, old < m + k →
        (w.drew.alloc (.cells (xs.toArray ++ news.toArray ++ Builtin.zeroCells ee.z.cells (grownCap w (m + k) old e - (m + k))) e)).ownsRowS base e i.size
          (.slice (some ⟨w.heap.size, 0, none⟩) (m + k) (grownCap w (m + k) old e)) (m + k) (xs ++ news) ∧
        Below w.heap.size w (w.drew.alloc (.cells (xs.toArray ++ news.toArray ++ Builtin.zeroCells ee.z.cells (grownCap w (m + k) old e - (m + k))) e)) := by
      intro old ho
      have hge := grownCap_ge w (m + k) old e
      have hcm : grownCap w (m + k) old e ≤ maxLen := grownCap_le_maxLen w (m + k) old e (by rw [maxLen_val]; omega)
      refine ⟨⟨hlen, .inr ⟨w.heap.size, _, _, (0, 0), rfl, hbase, heap_alloc_new w.drew _, .inl rfl, hge, hcm, ?_, ?_⟩⟩, ((Below.refl _ _).drew.alloc (Nat.le_refl _) _)⟩
      · simp only [Array.size_append, List.size_toArray, size_zeroCells, hzs, hown.1, hl, ← Nat.add_mul]
        congr 1; omega
      · simp only [Array.toList_append, List.append_assoc]
        rw [← List.append_assoc, ← hlen]
        exact List.take_left
    rcases hown.2 with ⟨rfl, rfl⟩ | ⟨g, cap, cur, fz, rfl, hbg, hg, hfz, hnc, hcm, hcs, htake⟩
    · have hx : xs = [] := List.eq_nil_of_length_eq_zero (by simpa using hown.1)
      subst hx
      by_cases hk0 : k = 0
      · subst hk0
        have hn0 : news = [] := List.eq_nil_of_length_eq_zero (by simpa using hl)
        subst hn0
        refine ⟨.slice none 0 0, w, ?_, World.ownsRowS_nil w base e i.size, ⟨rfl, rfl, rfl, Nat.le_refl _, fun _ _ _ => rfl⟩, .inl rfl⟩
        simp [Builtin.append_, run_underlying hu, Go.sizeOf, typeInfo, hi, Builtin.lenOf, Builtin.firstCells, loadCells, loadCellsFrom]
      · have hr := run_append_nil (P := P) w t ty e i ee.z hu hi hz' ad k c news hl hn (by omega) (by omega) (by have hb := hbytes; simp only [Nat.zero_add] at hb; omega)
        obtain ⟨g1, g2⟩ := grown 0 (by omega)
        simp only [Nat.zero_add, List.nil_append, Array.empty_append] at g1 g2 ⊢
        exact ⟨_, _, hr, g1, ⟨g2.os, g2.tape, g2.output, g2.size, fun b hb _ => g2.block b hb⟩, .inr ⟨rfl, g2⟩⟩
    · by_cases hroom : m + k ≤ cap
      · have hfit : m * i.size + news.length ≤ cur.size := by rw [hl, hcs, ← Nat.add_mul]; exact Nat.mul_le_mul_right _ hroom
        have hr := run_append_roomS (P := P) (w := w) t ty e i hu hi g m cap cur fz hg hfz ad k c news hl hn h1 hroom hfit
        have hszr : (cur.toList.take (m * i.size) ++ news ++ cur.toList.drop (m * i.size + news.length)).toArray.size = cur.size := by
          simp only [List.size_toArray, List.length_append, List.length_take, List.length_drop, Array.length_toList]; omega
        refine ⟨_, _, hr, ⟨hlen, .inr ⟨g, cap, _, fz, rfl, hbg, setRow_heap w g cur _ e _ hg, by rw [hszr]; exact hfz, hroom, hcm, by rw [hszr, hcs], ?_⟩⟩, ⟨rfl, rfl, rfl, by simp, fun b _ hb => setRow_other w g b _ (fun e => hb (by simp [Value.ownBlock, e]))⟩, .inl rfl⟩
        rw [htake, ← hlen]
        exact List.take_left
      · have holds : ∀ j u, xs[j]? = some u → w.cell? ((⟨g, 0, none⟩ : Addr).add j) = some u := hown.cells (g := g) rfl
        have hr := run_append_grow (P := P) w t ty e i ee.z hu hi hz' ⟨g, 0, none⟩ m cap xs hown.1 holds ad k c news hl hn (by omega) (by omega) (growslice_fits (by omega) hbytes)
        obtain ⟨g1, g2⟩ := grown cap (by omega)
        exact ⟨_, _, hr, g1, ⟨g2.os, g2.tape, g2.output, g2.size, fun b hb _ => g2.block b hb⟩, .inr ⟨rfl, g2⟩⟩
end
end Gd
